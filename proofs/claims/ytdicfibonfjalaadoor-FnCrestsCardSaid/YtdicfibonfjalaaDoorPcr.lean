import Derived.Test.YtdicfibonfjalaaDoorAmT
import Derived.Test.YtdicfibonfjalaaDoorPrs
import Derived.Test.YtdicfibonfjalaaDoorCrx
import Derived.Test.YtdicfibonfjalaaDoorFnd
import Derived.Test.YtdicfibonfjalaaDoorLet
import Derived.Test.YtdicfibonfjalaaDoorPre
set_option linter.unusedVariables false
set_option linter.unusedSimpArgs false
set_option maxRecDepth 100000
set_option maxHeartbeats 4000000
set_option cbv.maxSteps 3000000
namespace Go.Proofs.YtdicfibonfjalaaDoor.AM
/- Crests parsed; conditions: none. -/
theorem crsS_apart : ∀ r, r < 5 → ∀ q, q < 5 → r ≠ q → apart (crsS ((r + 1 : Nat))) (crsS ((q + 1 : Nat))) = true := by decide +kernel
theorem crsS_inj {r q : Int} {x y : ByteArray} (hr : 1 ≤ r ∧ r ≤ 5) (hq : 1 ≤ q ∧ q ≤ 5) (h : crsS r ++ x = crsS q ++ y) : r = q ∧ x = y := by
  by_cases e : r = q
  · subst e; exact ⟨rfl, app_inj h⟩
  · have := crsS_apart (r.toNat - 1) (by omega) (q.toNat - 1) (by omega) (by omega)
    rw [show (((r.toNat - 1 + 1 : Nat)) : Int) = r by omega, show (((q.toNat - 1 + 1 : Nat)) : Int) = q by omega] at this
    exact absurd h (apart_ne this)
/-- The text of one charge behind its article. -/
def chgT (k a t : Int) : ByteArray := kndT k 1 ++ (attT ⟨1, k, a, t⟩ ++ (spB ++ wordOf tinL t))
theorem grpT_1 (k a t : Int) : grpT ⟨1, k, a, t⟩ = cntT 1 k ++ (spB ++ chgT k a t) := rfl
theorem afterS_1 (z : Crs) : afterS (grpT (grpC z)) = chgT z.k z.a z.t := by
  obtain ⟨h1, h2⟩ := grpT_32 (grpC z)
  have hn : ∀ j, j < (cntT 1 z.k).size → sByte (grpT (grpC z)) j ≠ 32 := fun j hj e => by
    have e1 : (grpT (grpC z)).data.toList = (cntT 1 z.k).data.toList ++ (spB ++ chgT z.k z.a z.t).data.toList := by
      rw [← ByteArray.toList_data_append]; rfl
    have e2 := (sByte_32 (s := grpT (grpC z)) (i := j) (by exact Nat.lt_trans hj h1)).1 e
    have hj' : j < (cntT 1 z.k).data.toList.length := hj
    rw [e1, List.getElem?_append_left hj'] at e2
    have := List.all_eq_true.1 (nsp_cnt 1 z.k) 32 (List.mem_of_getElem? e2)
    simp at this
  rw [afterS_at h1 h2 hn]
  have e3 : grpT (grpC z) = (cntT 1 z.k ++ spB) ++ chgT z.k z.a z.t := by rw [ByteArray.append_assoc]; rfl
  have e4 : (cntT 1 z.k ++ spB).size = (cntT 1 z.k).size + 1 := by rw [ByteArray.size_append]; rfl
  show (grpT (grpC z)).extract ((cntT 1 z.k).size + 1) _ = _
  rw [e3, ← e4, ← ofL_end, ByteArray.toList_data_append]
  have e5 : (cntT 1 z.k ++ spB).size = (cntT 1 z.k ++ spB).data.toList.length := rfl
  rw [e5, List.drop_left]
  rfl
theorem crsT_eq (z : Crs) : crsT z = crsS z.r ++ chgT z.k z.a z.t := by unfold crsT; rw [afterS_1]
theorem knd1_dif : ∀ i, i < 8 → ∀ j, j < 8 → kndT ((i + 1 : Nat)) 1 = kndT ((j + 1 : Nat)) 1 → i = j := by decide +kernel
theorem knd1_inj {k q : Int} (hk : 1 ≤ k ∧ k ≤ 8) (hq : 1 ≤ q ∧ q ≤ 8) (h : kndT k 1 = kndT q 1) : k = q := by
  have := knd1_dif (k.toNat - 1) (by omega) (q.toNat - 1) (by omega) (by rw [show (((k.toNat - 1 + 1 : Nat)) : Int) = k by omega, show (((q.toNat - 1 + 1 : Nat)) : Int) = q by omega]; exact h)
  omega
theorem okC_G {z : Crs} (h : okC z = true) : okG (grpC z) = true ∧ 1 ≤ z.r ∧ z.r ≤ 5 := by
  have h2 := okC_T h
  unfold okC at h
  simp only [Bool.and_eq_true] at h
  exact ⟨h.1, h2.2⟩
theorem wordsB_knd (k a t : Int) : (wordsB (chgT k a t)).head? = some (kndT k 1) := by
  have := grpT_words ⟨1, k, a, t⟩
  rw [grpT_1, wordsB_app, wordsB_one (nsp_cnt _ _)] at this
  have h2 : wordsB (chgT k a t) = kndT k 1 :: _ := List.cons.inj this |>.2
  rw [h2]; rfl
theorem crsT_inj : ∀ z z' : Crs, okC z = true → okC z' = true → crsT z = crsT z' → z = z' := by
  intro z z' h h' e
  obtain ⟨g1, r1⟩ := okC_G h
  obtain ⟨g2, r2⟩ := okC_G h'
  rw [crsT_eq, crsT_eq] at e
  obtain ⟨er, ec⟩ := crsS_inj r1 r2 e
  have k1 := (okG_c g1).2.1
  have k2 := (okG_c g2).2.1
  have ek : z.k = z'.k := knd1_inj k1 k2 (by
    have := wordsB_knd z.k z.a z.t
    rw [ec, wordsB_knd] at this
    injection this with this; exact this.symm)
  have : grpC z = grpC z' := grpT_inj g1 g2 (by
    show grpT ⟨1, z.k, z.a, z.t⟩ = grpT ⟨1, z'.k, z'.a, z'.t⟩
    rw [grpT_1, grpT_1, ec, ek])
  obtain ⟨k, a, t, r⟩ := z
  obtain ⟨k', a', t', r'⟩ := z'
  unfold grpC at this
  simp only [Grp.mk.injEq] at this er
  obtain ⟨_, rfl, rfl, rfl⟩ := this
  subst er; rfl
/-- The crest with a text. -/
noncomputable def pC (s : ByteArray) : Option Crs := findO okC crsT s
theorem pC_iff {s : ByteArray} {z : Crs} : pC s = some z ↔ okC z = true ∧ crsT z = s := findO_iff crsT_inj
def zC : Crs := ⟨0, 0, 0, 0⟩
def artL : List ByteArray := [(⟨⟨[97, 32]⟩⟩ : ByteArray), (⟨⟨[97, 110, 32]⟩⟩ : ByteArray)]
theorem condC {o : Bool} {C : Crs} {s : ByteArray} : (bif (bif o then okC C else false) then (if okC C = true then crsT C else ByteArray.empty).toList == s.toList else false) = decide (o = true ∧ okC C = true ∧ crsT C = s) := by
  rw [beqT]
  cases o <;> cases h : okC C <;> simp
theorem crs_0 {z : Crs} (h : okC z = true) : ((0 : Nat) : Int) < z.r := by have := (okC_G h).2.1; omega
theorem c_parseC (s : ByteArray) (h0 : s.size ≤ 1100000) : ConN Tryd.prog 22 [.lit (.string s)] [] 0 (.tup [aT rowC stdH fun _ => (pC s).getD zC, .lit (.bool (stdH Bool fun _ => (pC s).isSome))]) [] [] := by
  have hB : Base Tryd.prog (tabΓ [e_crsStart, e_cutPre, e_parseG, e_crestText]) tab := base_of tabOk (ents_cons eok_crsStart <| ents_cons eok_cutPre <| ents_cons eok_parseG <| ents_cons eok_crestText <| ents_nil)
  refine con_m (N := 66) hB (draw_ok hB mixed) Tryd.func22 rfl rfl (fun H => [.lit (.string s)]) (fun _ => []) 0 (fun H => .tup [aT rowC H fun _ => (pC s).getD zC, .lit (.bool (H Bool fun _ => (pC s).isSome))]) (fun H => []) (fun _ => []) 400 (by simp) (fun x hx => ?_) (by simp [lk]) (by omega) (by simp) ?_
  · simp only [List.mem_cons, List.not_mem_nil, or_false] at hx
    rcases hx with rfl
    · exact .lit
  intro X hX hX0 H hH
  conv in Fin.chk _ _ => cbv
  try simp only [Plain_rowsA, Plain_rowsB, Plain_rowsC, Plain_rowsF, Plain_rowsG, Plain_rowsI, Plain_rowsS, Plain_rowsU, Fin.satC_ret, Fin.satC_br, Fin.satC_need, Fin.satC_again, AllP, and_true, true_and, upd, List.length_nil, List.length_cons, Nat.zero_add, if_true, ncast, Int.ofNat_eq_natCast]
  refine loop_a hB (draw_ok hB mixed) hX hX0 hH false (ι := { r : Nat // r ≤ 5 ∧ ∀ z, okC z = true → crsT z = s → (r : Int) < z.r }) 400 (fun r => [.b (H Bool fun _ => false), .i (H Int fun _ => ((r.1 : Nat) : Int) + 1), .i (H Int fun _ => 0), .i (H Int fun _ => 0), .i (H Int fun _ => 0), .i (H Int fun _ => 0)]) (fun r => 5 - r.1) (⟨0, by omega, fun z hz _ => crs_0 hz⟩) ?_ ?_
  · (conv in matchSt _ _ _ _ => cbv); simp only [AllG, AllP, and_true, hH, stdH, ncast, Int.ofNat_eq_natCast, vrow_I, Arm.eta2, Fld.eta, Grp.eta]
    (repeat' (first | rfl | trivial | omega | refine And.intro ?_ ?_))
  · intro I hI r
    conv in Fin.chk _ _ => cbv
    try simp only [Plain_rowsA, Plain_rowsB, Plain_rowsC, Plain_rowsF, Plain_rowsG, Plain_rowsI, Plain_rowsS, Plain_rowsU, Fin.satC_ret, Fin.satC_br, Fin.satC_need, Fin.satC_again, AllP, and_true, true_and, upd, List.length_nil, List.length_cons, Nat.zero_add, if_true, ncast, Int.ofNat_eq_natCast]
    obtain ⟨r, hr, hq⟩ := r
    refine ⟨fun h1 => ⟨?_, fun h2 => ?_, fun h2 => ?_⟩, fun h1 => ?_⟩
    · simp only [hH, stdH, decide_eq_true_eq, decide_eq_false_iff_not, Bool.not_eq_true', Bool.not_eq_false', peta, ncast, Int.ofNat_eq_natCast, beq_iff_eq, bne_iff_ne, beq_eq_false_iff_ne, bne_eq_false_iff_eq, ne_eq, Classical.not_not, Int.toNat_natCast, vrow_I, Arm.eta2, Fld.eta, Grp.eta] at h1
      try simp only [hH, stdH, decide_eq_true_eq, decide_eq_false_iff_not, Bool.not_eq_true', Bool.not_eq_false', peta, ncast, Int.ofNat_eq_natCast, beq_iff_eq, bne_iff_ne, beq_eq_false_iff_ne, bne_eq_false_iff_eq, ne_eq, Classical.not_not, Int.toNat_natCast, vrow_I, Arm.eta2, Fld.eta, Grp.eta]
      omega
    · simp only [hH, stdH, decide_eq_true_eq, decide_eq_false_iff_not, Bool.not_eq_true', Bool.not_eq_false', peta, ncast, Int.ofNat_eq_natCast, beq_iff_eq, bne_iff_ne, beq_eq_false_iff_ne, bne_eq_false_iff_eq, ne_eq, Classical.not_not, Int.toNat_natCast, vrow_I, Arm.eta2, Fld.eta, Grp.eta] at h1
      simp only [hH, stdH, Bool.not_eq_true'] at h2
      refine ⟨⟨r + 1, by omega, fun z hz e => ?_⟩, by simp only; omega, ?_⟩
      · have h3 := hq z hz e
        rcases Int.lt_or_eq_of_le (show ((r : Int) + 1) ≤ z.r by omega) with h | h
        · show ((r + 1 : Nat) : Int) < z.r; omega
        · rw [crsT_eq, ← h] at e
          rw [← e, isPre_app] at h2; cases h2
      · rw [hI]
        (conv in matchSt _ _ _ _ => cbv); simp only [AllG, AllP, and_true, hH, stdH, ncast, Int.ofNat_eq_natCast, vrow_I, Arm.eta2, Fld.eta, Grp.eta]
        rw [show IntKind.i64.wrap ((r : Int) + 1 + 1) = ((r + 1 : Nat) : Int) + 1 by rw [wi] <;> omega]
        (repeat' (first | rfl | trivial | omega | refine And.intro ?_ ?_))
    · simp only [hH, stdH, decide_eq_true_eq, decide_eq_false_iff_not, Bool.not_eq_true', Bool.not_eq_false', peta, ncast, Int.ofNat_eq_natCast, beq_iff_eq, bne_iff_ne, beq_eq_false_iff_ne, bne_eq_false_iff_eq, ne_eq, Classical.not_not, Int.toNat_natCast, vrow_I, Arm.eta2, Fld.eta, Grp.eta] at h1
      simp only [hH, stdH, Bool.not_eq_false'] at h2
      have hz2 := afterP_sz s (crsS ((r : Int) + 1))
      refine loop_a hB (draw_ok hB mixed) hX hX0 hH true (ι := { i : Nat // i ≤ 2 ∧ ∀ z, okC z = true → crsT z = s → z.r = (r : Int) + 1 → ∀ j, j < i → cntT 1 z.k ++ spB ≠ [(⟨⟨[97, 32]⟩⟩ : ByteArray), (⟨⟨[97, 110, 32]⟩⟩ : ByteArray)].getD j ByteArray.empty }) 400 (fun i => [.b (H Bool fun _ => false), .i (H Int fun _ => ((i.1 : Nat) : Int)), .i (H Int fun _ => 0), .i (H Int fun _ => 0), .i (H Int fun _ => 0), .i (H Int fun _ => 0)]) (fun i => 2 - i.1) (⟨0, by omega, fun _ _ _ _ _ h => absurd h (Nat.not_lt_zero _)⟩) ?_ ?_
      · (conv in matchSt _ _ _ _ => cbv); simp only [AllG, AllP, and_true, hH, stdH, ncast, Int.ofNat_eq_natCast, vrow_I, Arm.eta2, Fld.eta, Grp.eta]
        (repeat' (first | rfl | trivial | exact RowsEq.self okS (L := artL) | omega | refine And.intro ?_ ?_))
      · intro J hJ i
        conv in Fin.chk _ _ => cbv
        try simp only [Plain_rowsA, Plain_rowsB, Plain_rowsC, Plain_rowsF, Plain_rowsG, Plain_rowsI, Plain_rowsS, Plain_rowsU, Fin.satC_ret, Fin.satC_br, Fin.satC_need, Fin.satC_again, AllP, and_true, true_and, upd, List.length_nil, List.length_cons, Nat.zero_add, if_true, ncast, Int.ofNat_eq_natCast]
        obtain ⟨i, hi, hj⟩ := i
        have hA : ([(⟨⟨[97, 32]⟩⟩ : ByteArray), (⟨⟨[97, 110, 32]⟩⟩ : ByteArray)].getD i ByteArray.empty).size ≤ 3 := getD_sz (l := artL) (by decide) i
        refine ⟨fun h3 => ⟨?_, ?_, ?_, fun h4 => ?_, fun h4 => ?_⟩, fun h3 => ?_⟩
        · simp only [hH, stdH, decide_eq_true_eq, decide_eq_false_iff_not, Bool.not_eq_true', Bool.not_eq_false', peta, ncast, Int.ofNat_eq_natCast, beq_iff_eq, bne_iff_ne, beq_eq_false_iff_ne, bne_eq_false_iff_eq, ne_eq, Classical.not_not, Int.toNat_natCast, vrow_I, Arm.eta2, Fld.eta, Grp.eta] at h3
          try simp only [hH, stdH, decide_eq_true_eq, decide_eq_false_iff_not, Bool.not_eq_true', Bool.not_eq_false', peta, ncast, Int.ofNat_eq_natCast, beq_iff_eq, bne_iff_ne, beq_eq_false_iff_ne, bne_eq_false_iff_eq, ne_eq, Classical.not_not, Int.toNat_natCast, vrow_I, Arm.eta2, Fld.eta, Grp.eta]
          omega
        · try simp only [hH, stdH, decide_eq_true_eq, decide_eq_false_iff_not, Bool.not_eq_true', Bool.not_eq_false', peta, ncast, Int.ofNat_eq_natCast, beq_iff_eq, bne_iff_ne, beq_eq_false_iff_ne, bne_eq_false_iff_eq, ne_eq, Classical.not_not, Int.toNat_natCast, vrow_I, Arm.eta2, Fld.eta, Grp.eta]
          omega
        · simp only [hH, stdH, Int.toNat_natCast, ByteArray.size_append]
          omega
        · simp only [hH, stdH, Int.toNat_natCast] at h4 ⊢
          generalize pG ([(⟨⟨[97, 32]⟩⟩ : ByteArray), (⟨⟨[97, 110, 32]⟩⟩ : ByteArray)].getD i ByteArray.empty ++ afterP s (crsS ((r : Int) + 1))) = o at h4 ⊢
          rw [condC, decide_eq_true_eq] at h4
          rw [pC_iff.2 h4.2]
          exact ⟨rfl, rfl, rfl, rfl, rfl⟩
        · simp only [hH, stdH, Int.toNat_natCast] at h4
          simp only [hH, stdH, decide_eq_true_eq, decide_eq_false_iff_not, Bool.not_eq_true', Bool.not_eq_false', peta, ncast, Int.ofNat_eq_natCast, beq_iff_eq, bne_iff_ne, beq_eq_false_iff_ne, bne_eq_false_iff_eq, ne_eq, Classical.not_not, Int.toNat_natCast, vrow_I, Arm.eta2, Fld.eta, Grp.eta] at h3
          have hx : ∀ z, okC z = true → crsT z = s → z.r = (r : Int) + 1 → cntT 1 z.k ++ spB ≠ [(⟨⟨[97, 32]⟩⟩ : ByteArray), (⟨⟨[97, 110, 32]⟩⟩ : ByteArray)].getD i ByteArray.empty := fun z hz e er q => by
            have e2 : afterP s (crsS ((r : Int) + 1)) = chgT z.k z.a z.t := by rw [← e, crsT_eq, er, afterP_app]
            have e3 : pG ([(⟨⟨[97, 32]⟩⟩ : ByteArray), (⟨⟨[97, 110, 32]⟩⟩ : ByteArray)].getD i ByteArray.empty ++ afterP s (crsS ((r : Int) + 1))) = some (grpC z) := by
              rw [← q, e2, ByteArray.append_assoc]
              exact pG_iff.2 ⟨(okC_G hz).1, rfl⟩
            rw [e3, condC, decide_eq_false_iff_not] at h4
            refine h4 ?_
            have e4 : (⟨((some (grpC z)).getD zG).k, ((some (grpC z)).getD zG).a, ((some (grpC z)).getD zG).t, (r : Int) + 1⟩ : Crs) = z := by rw [← er]; rfl
            rw [e4]
            exact ⟨rfl, hz, e⟩
          refine ⟨⟨i + 1, by omega, fun z hz e er j hj' => ?_⟩, by simp only; omega, ?_⟩
          · rcases Nat.lt_succ_iff_lt_or_eq.1 hj' with h | rfl
            · exact hj z hz e er j h
            · exact hx z hz e er
          · rw [hJ]
            (conv in matchSt _ _ _ _ => cbv); simp only [AllG, AllP, and_true, hH, stdH, ncast, Int.ofNat_eq_natCast, vrow_I, Arm.eta2, Fld.eta, Grp.eta]
            rw [w1 (by omega)]
            (repeat' (first | rfl | trivial | exact RowsEq.self okS (L := artL) | omega | refine And.intro ?_ ?_))
        · simp only [hH, stdH, decide_eq_true_eq, decide_eq_false_iff_not, Bool.not_eq_true', Bool.not_eq_false', peta, ncast, Int.ofNat_eq_natCast, beq_iff_eq, bne_iff_ne, beq_eq_false_iff_ne, bne_eq_false_iff_eq, ne_eq, Classical.not_not, Int.toNat_natCast, vrow_I, Arm.eta2, Fld.eta, Grp.eta] at h3
          obtain rfl : i = 2 := by omega
          rw [if_neg (by decide)]
          refine ⟨⟨r + 1, by omega, fun z hz e => ?_⟩, by simp only; omega, ?_⟩
          · have h5 := hq z hz e
            rcases Int.lt_or_eq_of_le (show ((r : Int) + 1) ≤ z.r by omega) with h | h
            · show ((r + 1 : Nat) : Int) < z.r; omega
            · exfalso
              by_cases hk : z.k = 2
              · exact hj z hz e h.symm 1 (by omega) (by unfold cntT; rw [if_pos ⟨rfl, hk⟩]; decide)
              · exact hj z hz e h.symm 0 (by omega) (by unfold cntT; rw [if_neg (fun q => hk q.2)]; decide)
          · rw [hI]
            (conv in matchSt _ _ _ _ => cbv); simp only [AllG, AllP, and_true, hH, stdH, ncast, Int.ofNat_eq_natCast, vrow_I, Arm.eta2, Fld.eta, Grp.eta]
            rw [show IntKind.i64.wrap ((r : Int) + 1 + 1) = ((r + 1 : Nat) : Int) + 1 by rw [wi] <;> omega]
            (repeat' (first | rfl | trivial | omega | refine And.intro ?_ ?_))
    · simp only [hH, stdH, decide_eq_true_eq, decide_eq_false_iff_not, Bool.not_eq_true', Bool.not_eq_false', peta, ncast, Int.ofNat_eq_natCast, beq_iff_eq, bne_iff_ne, beq_eq_false_iff_ne, bne_eq_false_iff_eq, ne_eq, Classical.not_not, Int.toNat_natCast, vrow_I, Arm.eta2, Fld.eta, Grp.eta] at h1
      obtain rfl : r = 5 := by omega
      have : pC s = none := findO_none.2 fun z hz e => by have h3 := hq z hz e; have h4 := (okC_G hz).2; omega
      try simp only [hH, stdH, decide_eq_true_eq, decide_eq_false_iff_not, Bool.not_eq_true', Bool.not_eq_false', peta, ncast, Int.ofNat_eq_natCast, beq_iff_eq, bne_iff_ne, beq_eq_false_iff_ne, bne_eq_false_iff_eq, ne_eq, Classical.not_not, Int.toNat_natCast, vrow_I, Arm.eta2, Fld.eta, Grp.eta]
      rw [this]
      exact ⟨rfl, rfl, rfl, rfl, rfl⟩
noncomputable def e_parseC : Entry := pureE 22 fun H a => match a with
  | [.lit (.string s)] => some (.tup [aT rowC H fun _ => (pC s).getD zC, .lit (.bool (H Bool fun _ => (pC s).isSome))], [H Prop fun _ => s.size ≤ 1100000])
  | _ => none
theorem eok_parseC : EntryOk Tryd.prog e_parseC := pureM_ok (by unfold isBody; kernel_rfl) (by
  intro a r ob e hob
  split at e
  · rename_i s
    simp only [Option.some.injEq, Prod.mk.injEq] at e
    obtain ⟨rfl, rfl⟩ := e
    exact ConN.args (.cons .rfl .nil) (c_parseC s hob.1)
  · simp at e)
/-- Where a crest stands among all. -/
def codC (z : Crs) : Int := (z.r - 1) * 216 + (z.k - 1) * 27 + z.a * 9 + (z.t - 1)
theorem okC_b {z : Crs} (h : okC z = true) : (1 ≤ z.k ∧ z.k ≤ 8) ∧ (0 ≤ z.a ∧ z.a ≤ 2) ∧ (1 ≤ z.t ∧ z.t ≤ 9) ∧ (1 ≤ z.r ∧ z.r ≤ 5) := by
  obtain ⟨g, hr⟩ := okC_G h
  obtain ⟨_, hk, ha, hb, ht⟩ := okG_c g
  have := attL_len z.k
  have hb' : z.a ≤ ((attL z.k).length : Nat) := hb
  exact ⟨hk, ⟨ha, by omega⟩, ht, hr⟩
theorem codC_eq {z c : Crs} (h : okC z = true) (hc : (1 ≤ c.k ∧ c.k ≤ 8) ∧ (0 ≤ c.a ∧ c.a ≤ 2) ∧ (1 ≤ c.t ∧ c.t ≤ 9) ∧ (1 ≤ c.r ∧ c.r ≤ 5)) (e : codC z = codC c) : z = c := by
  have hz := okC_b h
  unfold codC at e
  obtain ⟨k, a, t, r⟩ := z
  obtain ⟨k', a', t', r'⟩ := c
  simp only at *
  obtain rfl : r = r' := by omega
  obtain rfl : k = k' := by omega
  obtain rfl : a = a' := by omega
  obtain rfl : t = t' := by omega
  rfl
/-- No crest ahead of place n has this text. -/
def frm (s : ByteArray) (n : Int) : Prop := ∀ z, okC z = true → crsT z = s → n ≤ codC z
theorem frm_0 (s : ByteArray) : frm s ((0 : Nat) * 216) := fun z hz _ => by have := okC_b hz; unfold codC; omega
theorem frm_s {s : ByteArray} {n : Int} (h : frm s n) {c : Crs} (hc : (1 ≤ c.k ∧ c.k ≤ 8) ∧ (0 ≤ c.a ∧ c.a ≤ 2) ∧ (1 ≤ c.t ∧ c.t ≤ 9) ∧ (1 ≤ c.r ∧ c.r ≤ 5)) (en : codC c = n) (hn : ¬ (okC c = true ∧ crsT c = s)) : frm s (n + 1) := fun z hz e => by
  have h1 := h z hz e
  rcases Int.lt_or_eq_of_le h1 with h2 | h2
  · omega
  · exact absurd (codC_eq hz hc (by omega) ▸ ⟨hz, e⟩) hn
theorem frm_k {s : ByteArray} {n m : Int} (h : frm s n) : frm s (n + ((0 : Nat) : Int) * m) := by rw [show n + ((0 : Nat) : Int) * m = n by simp]; exact h
theorem frm_t {s : ByteArray} {n : Int} (h : frm s n) : frm s (n + ((0 : Nat) : Int)) := by rw [show n + ((0 : Nat) : Int) = n by simp]; exact h
theorem condD {C : Crs} {s : ByteArray} : (bif okC C then (crsT C).toList == s.toList else false) = decide (okC C = true ∧ crsT C = s) := by
  rw [beqT]
  cases h : okC C <;> simp
theorem c_parseCS (s : ByteArray)  : ConN Tryd.prog 24 [.lit (.string s)] [] 0 (.tup [aT rowC stdH fun _ => (pC s).getD zC, .lit (.bool (stdH Bool fun _ => (pC s).isSome))]) [] [] := by
  have hB : Base Tryd.prog (tabΓ [e_l22Good, e_l22Text]) tab := base_of tabOk (ents_cons eok_l22Good <| ents_cons eok_l22Text <| ents_nil)
  refine con_m (N := 40) hB (draw_ok hB mixed) Tryd.func24 rfl rfl (fun H => [.lit (.string s)]) (fun _ => []) 0 (fun H => .tup [aT rowC H fun _ => (pC s).getD zC, .lit (.bool (H Bool fun _ => (pC s).isSome))]) (fun H => []) (fun _ => []) 400 (by simp) (fun x hx => ?_) (by simp [lk]) (by omega) (by simp) ?_
  · simp only [List.mem_cons, List.not_mem_nil, or_false] at hx
    rcases hx with rfl
    · exact .lit
  intro X hX hX0 H hH
  conv in Fin.chk _ _ => cbv
  try simp only [Plain_rowsA, Plain_rowsB, Plain_rowsC, Plain_rowsF, Plain_rowsG, Plain_rowsI, Plain_rowsS, Plain_rowsU, Fin.satC_ret, Fin.satC_br, Fin.satC_need, Fin.satC_again, AllP, and_true, true_and, upd, List.length_nil, List.length_cons, Nat.zero_add, if_true, ncast, Int.ofNat_eq_natCast]
  refine loop_a hB (draw_ok hB mixed) hX hX0 hH false (ι := { r : Nat // r ≤ 5 ∧ frm s ((r : Nat) * 216) }) 400 (fun r => [.b (H Bool fun _ => false), .i (H Int fun _ => ((r.1 : Nat) : Int) + 1), .i (H Int fun _ => 0), .i (H Int fun _ => 0), .i (H Int fun _ => 0), .i (H Int fun _ => 0)]) (fun r => 5 - r.1) (⟨0, by omega, frm_0 s⟩) ?_ ?_
  · (conv in matchSt _ _ _ _ => cbv); simp only [AllG, AllP, and_true, hH, stdH, ncast, Int.ofNat_eq_natCast, vrow_I, Arm.eta2, Fld.eta, Grp.eta]
    (repeat' (first | rfl | trivial | omega | refine And.intro ?_ ?_))
  · intro I hI r
    conv in Fin.chk _ _ => cbv
    try simp only [Plain_rowsA, Plain_rowsB, Plain_rowsC, Plain_rowsF, Plain_rowsG, Plain_rowsI, Plain_rowsS, Plain_rowsU, Fin.satC_ret, Fin.satC_br, Fin.satC_need, Fin.satC_again, AllP, and_true, true_and, upd, List.length_nil, List.length_cons, Nat.zero_add, if_true, ncast, Int.ofNat_eq_natCast]
    obtain ⟨r, hr, hqr⟩ := r
    refine ⟨fun h1 => ?_, fun h1 => ?_⟩
    · simp only [hH, stdH, decide_eq_true_eq, decide_eq_false_iff_not, Bool.not_eq_true', Bool.not_eq_false', peta, ncast, Int.ofNat_eq_natCast, beq_iff_eq, bne_iff_ne, beq_eq_false_iff_ne, bne_eq_false_iff_eq, ne_eq, Classical.not_not, Int.toNat_natCast, vrow_I, Arm.eta2, Fld.eta, Grp.eta] at h1
      refine loop_a hB (draw_ok hB mixed) hX hX0 hH true (ι := { k : Nat // k ≤ 8 ∧ frm s ((r : Nat) * 216 + (k : Nat) * 27) }) 400 (fun k => [.b (H Bool fun _ => false), .i (H Int fun _ => ((k.1 : Nat) : Int) + 1), .i (H Int fun _ => 0), .i (H Int fun _ => 0), .i (H Int fun _ => 0), .i (H Int fun _ => 0)]) (fun k => 8 - k.1) (⟨0, Nat.zero_le _, frm_k hqr⟩) ?_ ?_
      · (conv in matchSt _ _ _ _ => cbv); simp only [AllG, AllP, and_true, hH, stdH, ncast, Int.ofNat_eq_natCast, vrow_I, Arm.eta2, Fld.eta, Grp.eta]
        (repeat' (first | rfl | trivial | omega | refine And.intro ?_ ?_))
      · intro J hJ k
        conv in Fin.chk _ _ => cbv
        try simp only [Plain_rowsA, Plain_rowsB, Plain_rowsC, Plain_rowsF, Plain_rowsG, Plain_rowsI, Plain_rowsS, Plain_rowsU, Fin.satC_ret, Fin.satC_br, Fin.satC_need, Fin.satC_again, AllP, and_true, true_and, upd, List.length_nil, List.length_cons, Nat.zero_add, if_true, ncast, Int.ofNat_eq_natCast]
        obtain ⟨k, hk, hqk⟩ := k
        refine ⟨fun h2 => ?_, fun h2 => ?_⟩
        · simp only [hH, stdH, decide_eq_true_eq, decide_eq_false_iff_not, Bool.not_eq_true', Bool.not_eq_false', peta, ncast, Int.ofNat_eq_natCast, beq_iff_eq, bne_iff_ne, beq_eq_false_iff_ne, bne_eq_false_iff_eq, ne_eq, Classical.not_not, Int.toNat_natCast, vrow_I, Arm.eta2, Fld.eta, Grp.eta] at h2
          refine loop_a hB (draw_ok hB mixed) hX hX0 hH true (ι := { a : Nat // a ≤ 3 ∧ frm s ((r : Nat) * 216 + (k : Nat) * 27 + (a : Nat) * 9) }) 400 (fun a => [.b (H Bool fun _ => false), .i (H Int fun _ => ((a.1 : Nat) : Int)), .i (H Int fun _ => 0), .i (H Int fun _ => 0), .i (H Int fun _ => 0), .i (H Int fun _ => 0)]) (fun a => 3 - a.1) (⟨0, Nat.zero_le _, frm_k hqk⟩) ?_ ?_
          · (conv in matchSt _ _ _ _ => cbv); simp only [AllG, AllP, and_true, hH, stdH, ncast, Int.ofNat_eq_natCast, vrow_I, Arm.eta2, Fld.eta, Grp.eta]
            (repeat' (first | rfl | trivial | omega | refine And.intro ?_ ?_))
          · intro K hK a
            conv in Fin.chk _ _ => cbv
            try simp only [Plain_rowsA, Plain_rowsB, Plain_rowsC, Plain_rowsF, Plain_rowsG, Plain_rowsI, Plain_rowsS, Plain_rowsU, Fin.satC_ret, Fin.satC_br, Fin.satC_need, Fin.satC_again, AllP, and_true, true_and, upd, List.length_nil, List.length_cons, Nat.zero_add, if_true, ncast, Int.ofNat_eq_natCast]
            obtain ⟨a, ha, hqa⟩ := a
            refine ⟨fun h3 => ?_, fun h3 => ?_⟩
            · simp only [hH, stdH, decide_eq_true_eq, decide_eq_false_iff_not, Bool.not_eq_true', Bool.not_eq_false', peta, ncast, Int.ofNat_eq_natCast, beq_iff_eq, bne_iff_ne, beq_eq_false_iff_ne, bne_eq_false_iff_eq, ne_eq, Classical.not_not, Int.toNat_natCast, vrow_I, Arm.eta2, Fld.eta, Grp.eta] at h3
              refine loop_a hB (draw_ok hB mixed) hX hX0 hH true (ι := { t : Nat // t ≤ 9 ∧ frm s ((r : Nat) * 216 + (k : Nat) * 27 + (a : Nat) * 9 + (t : Nat)) }) 400 (fun t => [.b (H Bool fun _ => false), .i (H Int fun _ => ((t.1 : Nat) : Int) + 1), .i (H Int fun _ => 0), .i (H Int fun _ => 0), .i (H Int fun _ => 0), .i (H Int fun _ => 0)]) (fun t => 9 - t.1) (⟨0, Nat.zero_le _, frm_t hqa⟩) ?_ ?_
              · (conv in matchSt _ _ _ _ => cbv); simp only [AllG, AllP, and_true, hH, stdH, ncast, Int.ofNat_eq_natCast, vrow_I, Arm.eta2, Fld.eta, Grp.eta]
                (repeat' (first | rfl | trivial | omega | refine And.intro ?_ ?_))
              · intro L hL t
                conv in Fin.chk _ _ => cbv
                try simp only [Plain_rowsA, Plain_rowsB, Plain_rowsC, Plain_rowsF, Plain_rowsG, Plain_rowsI, Plain_rowsS, Plain_rowsU, Fin.satC_ret, Fin.satC_br, Fin.satC_need, Fin.satC_again, AllP, and_true, true_and, upd, List.length_nil, List.length_cons, Nat.zero_add, if_true, ncast, Int.ofNat_eq_natCast]
                obtain ⟨t, ht, hqt⟩ := t
                refine ⟨fun h4 => ⟨?_, fun h5 => ?_, fun h5 => ?_⟩, fun h4 => ?_⟩
                · try simp only [hH, stdH, decide_eq_true_eq, decide_eq_false_iff_not, Bool.not_eq_true', Bool.not_eq_false', peta, ncast, Int.ofNat_eq_natCast, beq_iff_eq, bne_iff_ne, beq_eq_false_iff_ne, bne_eq_false_iff_eq, ne_eq, Classical.not_not, Int.toNat_natCast, vrow_I, Arm.eta2, Fld.eta, Grp.eta]
                  exact fun h => h
                · simp only [hH, stdH, condD, decide_eq_true_eq] at h5 ⊢
                  rw [pC_iff.2 h5]
                  exact ⟨rfl, rfl, rfl, rfl, rfl⟩
                · simp only [hH, stdH, decide_eq_true_eq, decide_eq_false_iff_not, Bool.not_eq_true', Bool.not_eq_false', peta, ncast, Int.ofNat_eq_natCast, beq_iff_eq, bne_iff_ne, beq_eq_false_iff_ne, bne_eq_false_iff_eq, ne_eq, Classical.not_not, Int.toNat_natCast, vrow_I, Arm.eta2, Fld.eta, Grp.eta] at h4
                  simp only [hH, stdH, condD, decide_eq_false_iff_not] at h5
                  refine ⟨⟨t + 1, by omega, ?_⟩, by simp only; omega, ?_⟩
                  · have := frm_s hqt (c := ⟨(k : Int) + 1, (a : Nat), (t : Int) + 1, (r : Int) + 1⟩) ⟨⟨by simp only; omega, by simp only; omega⟩, ⟨by simp only; omega, by simp only; omega⟩, ⟨by simp only; omega, by simp only; omega⟩, by simp only; omega, by simp only; omega⟩ (by unfold codC; simp only; omega) h5
                    rw [show (r : Int) * 216 + (k : Int) * 27 + (a : Int) * 9 + ((t + 1 : Nat) : Int) = (r : Int) * 216 + (k : Int) * 27 + (a : Int) * 9 + (t : Int) + 1 by omega]
                    exact this
                  · rw [hL]
                    (conv in matchSt _ _ _ _ => cbv); simp only [AllG, AllP, and_true, hH, stdH, ncast, Int.ofNat_eq_natCast, vrow_I, Arm.eta2, Fld.eta, Grp.eta]
                    rw [show IntKind.i64.wrap ((t : Int) + 1 + 1) = ((t + 1 : Nat) : Int) + 1 by rw [wi] <;> omega]
                    (repeat' (first | rfl | trivial | omega | refine And.intro ?_ ?_))
                · simp only [hH, stdH, decide_eq_true_eq, decide_eq_false_iff_not, Bool.not_eq_true', Bool.not_eq_false', peta, ncast, Int.ofNat_eq_natCast, beq_iff_eq, bne_iff_ne, beq_eq_false_iff_ne, bne_eq_false_iff_eq, ne_eq, Classical.not_not, Int.toNat_natCast, vrow_I, Arm.eta2, Fld.eta, Grp.eta] at h4
                  obtain rfl : t = 9 := by omega
                  rw [if_neg (by decide)]
                  refine ⟨⟨a + 1, by omega, ?_⟩, by simp only; omega, ?_⟩
                  · rw [show (r : Int) * 216 + (k : Int) * 27 + ((a + 1 : Nat) : Int) * 9 = (r : Int) * 216 + (k : Int) * 27 + (a : Int) * 9 + ((9 : Nat) : Int) by omega]
                    exact hqt
                  · rw [hK]
                    (conv in matchSt _ _ _ _ => cbv); simp only [AllG, AllP, and_true, hH, stdH, ncast, Int.ofNat_eq_natCast, vrow_I, Arm.eta2, Fld.eta, Grp.eta]
                    rw [w1 (by omega)]
                    (repeat' (first | rfl | trivial | omega | refine And.intro ?_ ?_))
            · simp only [hH, stdH, decide_eq_true_eq, decide_eq_false_iff_not, Bool.not_eq_true', Bool.not_eq_false', peta, ncast, Int.ofNat_eq_natCast, beq_iff_eq, bne_iff_ne, beq_eq_false_iff_ne, bne_eq_false_iff_eq, ne_eq, Classical.not_not, Int.toNat_natCast, vrow_I, Arm.eta2, Fld.eta, Grp.eta] at h3
              obtain rfl : a = 3 := by omega
              rw [if_neg (by decide)]
              refine ⟨⟨k + 1, by omega, ?_⟩, by simp only; omega, ?_⟩
              · rw [show (r : Int) * 216 + ((k + 1 : Nat) : Int) * 27 = (r : Int) * 216 + (k : Int) * 27 + ((3 : Nat) : Int) * 9 by omega]
                exact hqa
              · rw [hJ]
                (conv in matchSt _ _ _ _ => cbv); simp only [AllG, AllP, and_true, hH, stdH, ncast, Int.ofNat_eq_natCast, vrow_I, Arm.eta2, Fld.eta, Grp.eta]
                rw [show IntKind.i64.wrap ((k : Int) + 1 + 1) = ((k + 1 : Nat) : Int) + 1 by rw [wi] <;> omega]
                (repeat' (first | rfl | trivial | omega | refine And.intro ?_ ?_))
        · simp only [hH, stdH, decide_eq_true_eq, decide_eq_false_iff_not, Bool.not_eq_true', Bool.not_eq_false', peta, ncast, Int.ofNat_eq_natCast, beq_iff_eq, bne_iff_ne, beq_eq_false_iff_ne, bne_eq_false_iff_eq, ne_eq, Classical.not_not, Int.toNat_natCast, vrow_I, Arm.eta2, Fld.eta, Grp.eta] at h2
          obtain rfl : k = 8 := by omega
          rw [if_neg (by decide)]
          refine ⟨⟨r + 1, by omega, ?_⟩, by simp only; omega, ?_⟩
          · rw [show ((r + 1 : Nat) : Int) * 216 = (r : Int) * 216 + ((8 : Nat) : Int) * 27 by omega]
            exact hqk
          · rw [hI]
            (conv in matchSt _ _ _ _ => cbv); simp only [AllG, AllP, and_true, hH, stdH, ncast, Int.ofNat_eq_natCast, vrow_I, Arm.eta2, Fld.eta, Grp.eta]
            rw [show IntKind.i64.wrap ((r : Int) + 1 + 1) = ((r + 1 : Nat) : Int) + 1 by rw [wi] <;> omega]
            (repeat' (first | rfl | trivial | omega | refine And.intro ?_ ?_))
    · simp only [hH, stdH, decide_eq_true_eq, decide_eq_false_iff_not, Bool.not_eq_true', Bool.not_eq_false', peta, ncast, Int.ofNat_eq_natCast, beq_iff_eq, bne_iff_ne, beq_eq_false_iff_ne, bne_eq_false_iff_eq, ne_eq, Classical.not_not, Int.toNat_natCast, vrow_I, Arm.eta2, Fld.eta, Grp.eta] at h1
      obtain rfl : r = 5 := by omega
      have : pC s = none := findO_none.2 fun z hz e => by have h3 := hqr z hz e; have h4 := okC_b hz; unfold codC at h3; omega
      try simp only [hH, stdH, decide_eq_true_eq, decide_eq_false_iff_not, Bool.not_eq_true', Bool.not_eq_false', peta, ncast, Int.ofNat_eq_natCast, beq_iff_eq, bne_iff_ne, beq_eq_false_iff_ne, bne_eq_false_iff_eq, ne_eq, Classical.not_not, Int.toNat_natCast, vrow_I, Arm.eta2, Fld.eta, Grp.eta]
      rw [this]
      exact ⟨rfl, rfl, rfl, rfl, rfl⟩
noncomputable def e_parseCS : Entry := pureE 24 fun H a => match a with
  | [.lit (.string s)] => some (.tup [aT rowC H fun _ => (pC s).getD zC, .lit (.bool (H Bool fun _ => (pC s).isSome))], [])
  | _ => none
theorem eok_parseCS : EntryOk Tryd.prog e_parseCS := pureM_ok (by unfold isBody; kernel_rfl) (by
  intro a r ob e hob
  split at e
  · rename_i s
    simp only [Option.some.injEq, Prod.mk.injEq] at e
    obtain ⟨rfl, rfl⟩ := e
    exact ConN.args (.cons .rfl .nil) (c_parseCS s )
  · simp at e)
end Go.Proofs.YtdicfibonfjalaaDoor.AM
