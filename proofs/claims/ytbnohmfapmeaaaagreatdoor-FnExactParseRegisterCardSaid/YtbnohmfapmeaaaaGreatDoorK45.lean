/- Lemmas and contracts (Rgn); conditions: none. -/
import Derived.Test.YtbnohmfapmeaaaaGreatDoorK03
import Derived.Test.YtbnohmfapmeaaaaGreatDoorK20
import Derived.Test.YtbnohmfapmeaaaaGreatDoorK35
import Derived.Test.YtbnohmfapmeaaaaGreatDoorK38
import Derived.Test.YtbnohmfapmeaaaaGreatDoorK42
set_option linter.unusedVariables false
set_option linter.unusedSimpArgs false
set_option maxRecDepth 100000
set_option maxHeartbeats 4000000
set_option cbv.maxSteps 3000000
namespace Go.Proofs.YtbnohmfapmeaaaaGreatDoor.AM
/- Registers read back by the reference; conditions: none. -/
theorem ext_nl {s : ByteArray} {f i : Nat} (hf : f ≤ i) (hi : i < s.size) (h : sByte s i = 10) : s.extract f s.size = s.extract f i ++ (nlB ++ s.extract (i + 1) s.size) := by
  apply ByteArray.ext; apply Array.ext'
  have hl : i < s.data.toList.length := hi
  obtain ⟨c, h1, h2⟩ := sByte_at hi
  rw [List.getElem?_eq_getElem hl] at h1
  injection h1 with h1
  have h3 : c = 10 := UInt8.toNat_inj.1 (by have : (10 : UInt8).toNat = 10 := rfl; omega)
  rw [ByteArray.toList_data_append, ByteArray.toList_data_append, ← ofL_end, ← ofL_ext, ← ofL_end]
  simp only [ofL_toL]
  rw [show nlB.data.toList = [10] from rfl]
  conv => lhs; rw [← List.take_append_drop (i - f) (s.data.toList.drop f)]
  rw [List.drop_drop, show f + (i - f) = i by omega, List.drop_eq_getElem_cons hl, h1, h3]
  rfl
theorem lacks_ext {s : ByteArray} {f i : Nat} (hi : i ≤ s.size) (hj : ∀ j, f ≤ j → j < i → sByte s j ≠ 10) : lacks (s.extract f i) 10 = true := by
  unfold lacks
  rw [List.all_eq_true]
  intro c hc
  rw [← ofL_ext, ofL_toL] at hc
  obtain ⟨k, hk, e⟩ := List.getElem_of_mem hc
  rw [List.length_take, List.length_drop] at hk
  rw [List.getElem_take, List.getElem_drop] at e
  have hl : f + k < s.size := by omega
  obtain ⟨d, h1, h2⟩ := sByte_at hl
  rw [List.getElem?_eq_getElem hl, e] at h1
  injection h1 with h1
  subst h1
  rw [bne_iff_ne]
  intro q
  subst q
  exact hj (f + k) (by omega) (by omega) h2
theorem pcs_nl {s : ByteArray} {f i : Nat} (hf : f ≤ i) (hi : i < s.size) (h : sByte s i = 10) (hj : ∀ j, f ≤ j → j < i → sByte s j ≠ 10) : pcs nlB (s.extract f s.size) = s.extract f i :: pcs nlB (s.extract (i + 1) s.size) := by
  rw [pcs_step (by decide), ext_nl hf hi h, cutB_lacks (b := 10) (r := []) rfl (lacks_ext (by omega) hj), if_pos rfl]
theorem pcs_end {s : ByteArray} {f : Nat} (hj : ∀ j, f ≤ j → j < s.size → sByte s j ≠ 10) : pcs nlB (s.extract f s.size) = [s.extract f s.size] := by
  rw [pcs_step (by decide), cutB_lacks' (b := 10) (r := []) rfl (lacks_ext (Nat.le_refl _) hj), if_neg (fun q => by cases q)]
theorem c_l1SplitL (s : ByteArray) (b : Int) (h0 : s.size ≤ 2000000) (h1 : b = 10) : ConN Tryz.prog 90 [.lit (.string s), .lit (.int .u8 b)] [] 0 (.vec 1 (stdH Nat fun _ => (pcs nlB s).length) (rowsS stdH fun _ => pcs nlB s)) [] [] := by
  have hB : Base Tryz.prog (tabΓ []) tabO := base_of tabOkO (ents_nil)
  refine con_m (N := 35) hB (draw_ok hB mixed) Tryz.func90 rfl rfl (fun H => [.lit (.string s), .lit (.int .u8 b)]) (fun _ => []) 0 (fun H => .vec 1 (H Nat fun _ => (pcs nlB s).length) (rowsS H fun _ => pcs nlB s)) (fun H => []) (fun _ => []) 200 (by simp) (fun x hx => ?_) (by simp [lk]) (by omega) (by simp) ?_
  · simp only [List.mem_cons, List.not_mem_nil, or_false] at hx
    rcases hx with rfl | rfl
    · exact .lit
    · exact .lit
  intro X hX hX0 H hH
  conv in Fin.chk _ _ => cbv
  try simp only [Plain_rowsA, Plain_rowsB, Plain_rowsC, Plain_rowsD, Plain_rowsF, Plain_rowsG, Plain_rowsI, Plain_rowsS, Plain_rowsU, Fin.satC_ret, Fin.satC_br, Fin.satC_need, Fin.satC_again, AllP, and_true, true_and, upd, List.length_nil, List.length_cons, Nat.zero_add, if_true, ncast, Int.ofNat_eq_natCast]
  subst h1
  have hl := (pcs_len nlB s).1
  have hq : s.extract 0 s.size = s := by apply ByteArray.ext; simp
  have g0 : pcs nlB s = [] ++ pcs nlB (s.extract 0 s.size) := by rw [hq]; rfl
  refine loop_a hB (draw_ok hB mixed) hX hX0 hH false (ι := { x : Nat × Nat × List ByteArray // x.1 ≤ x.2.1 ∧ x.2.1 ≤ s.size ∧ (∀ j, x.1 ≤ j → j < x.2.1 → sByte s j ≠ 10) ∧ pcs nlB s = x.2.2 ++ pcs nlB (s.extract x.1 s.size) }) 200 (fun x => [.r (H Nat fun _ => (x.1.2.2).length) (rowsS H fun _ => x.1.2.2), .i (H Int fun _ => (x.1.1 : Nat)), .i (H Int fun _ => (x.1.2.1 : Nat))]) (fun x => s.size - x.1.2.1) (⟨(0, 0, []), Nat.le_refl _, Nat.zero_le _, fun j _ h => absurd h (Nat.not_lt_zero j), g0⟩) ?_ ?_
  · (conv in matchSt _ _ _ _ => cbv); simp only [AllG, AllP, and_true, hH, stdH, Nat.le_refl, ncast, Int.ofNat_eq_natCast, vrow_I, Arm.eta2, Fld.eta, Grp.eta]
    (repeat' (first | with_reducible exact True.intro | rfl | exact Nat.le_refl _ | exact RowsEq.self okS | exact RowsEq.ofT okS rfl (Shp_zero _) rfl | exact RowsEq.snoc okS rfl | exact RowsEq.more okS (Shp_S _ _) (Tl_S _) | exact RowsEq.self okI | exact RowsEq.self okRA | exact List.length_append | refine And.intro ?_ ?_ | trivial))
  · intro I hI i
    conv in Fin.chk _ _ => cbv
    try simp only [Plain_rowsA, Plain_rowsB, Plain_rowsC, Plain_rowsD, Plain_rowsF, Plain_rowsG, Plain_rowsI, Plain_rowsS, Plain_rowsU, Fin.satC_ret, Fin.satC_br, Fin.satC_need, Fin.satC_again, AllP, and_true, true_and, upd, List.length_nil, List.length_cons, Nat.zero_add, if_true, ncast, Int.ofNat_eq_natCast]
    obtain ⟨⟨f, i, out⟩, hf, hi, hj, hw⟩ := i
    dsimp only at hf hi hj hw
    have ho : out.length ≤ s.size + 1 := by rw [hw, List.length_append] at hl; omega
    refine ⟨fun h1 => ⟨?_, fun h2 => ⟨?_, ⟨?_, ?_⟩, ?_⟩, fun h2 => ?_⟩, fun h1 => ⟨?_, ⟨?_, ?_⟩, ?_⟩⟩
    · simp only [hH, stdH, Nat.le_refl, decide_eq_true_eq, decide_eq_false_iff_not, Bool.not_eq_true', Bool.not_eq_false', peta, ncast, Int.ofNat_eq_natCast, beq_iff_eq, bne_iff_ne, beq_eq_false_iff_ne, bne_eq_false_iff_eq, ne_eq, Classical.not_not, Int.toNat_natCast, vrow_I, Arm.eta2, Fld.eta, Grp.eta] at h1 ⊢
      omega
    · simp only [hH, stdH, Nat.le_refl, decide_eq_true_eq, decide_eq_false_iff_not, Bool.not_eq_true', Bool.not_eq_false', peta, ncast, Int.ofNat_eq_natCast, beq_iff_eq, bne_iff_ne, beq_eq_false_iff_ne, bne_eq_false_iff_eq, ne_eq, Classical.not_not, Int.toNat_natCast, vrow_I, Arm.eta2, Fld.eta, Grp.eta] at h1
      try simp only [hH, stdH, Nat.le_refl, decide_eq_true_eq, decide_eq_false_iff_not, Bool.not_eq_true', Bool.not_eq_false', peta, ncast, Int.ofNat_eq_natCast, beq_iff_eq, bne_iff_ne, beq_eq_false_iff_ne, bne_eq_false_iff_eq, ne_eq, Classical.not_not, Int.toNat_natCast, vrow_I, Arm.eta2, Fld.eta, Grp.eta]
      exact ⟨by show (0 : Int) ≤ (f : Nat); omega, by show (0 : Int) ≤ (i : Nat); omega, by show ((f : Nat) : Int).toNat ≤ ((i : Nat) : Int).toNat; omega, by show ((i : Nat) : Int).toNat ≤ s.size; omega⟩
    · try simp only [hH, stdH, Nat.le_refl, decide_eq_true_eq, decide_eq_false_iff_not, Bool.not_eq_true', Bool.not_eq_false', peta, ncast, Int.ofNat_eq_natCast, beq_iff_eq, bne_iff_ne, beq_eq_false_iff_ne, bne_eq_false_iff_eq, ne_eq, Classical.not_not, Int.toNat_natCast, vrow_I, Arm.eta2, Fld.eta, Grp.eta]
      (repeat' (first | exact trivial | rfl | omega | refine And.intro ?_ ?_))
    · try simp only [hH, stdH, Nat.le_refl, decide_eq_true_eq, decide_eq_false_iff_not, Bool.not_eq_true', Bool.not_eq_false', peta, ncast, Int.ofNat_eq_natCast, beq_iff_eq, bne_iff_ne, beq_eq_false_iff_ne, bne_eq_false_iff_eq, ne_eq, Classical.not_not, Int.toNat_natCast, vrow_I, Arm.eta2, Fld.eta, Grp.eta]
      (repeat' (first | exact trivial | rfl | omega | refine And.intro ?_ ?_))
    · simp only [hH, stdH, Nat.le_refl, decide_eq_true_eq, decide_eq_false_iff_not, Bool.not_eq_true', Bool.not_eq_false', peta, ncast, Int.ofNat_eq_natCast, beq_iff_eq, bne_iff_ne, beq_eq_false_iff_ne, bne_eq_false_iff_eq, ne_eq, Classical.not_not, Int.toNat_natCast, vrow_I, Arm.eta2, Fld.eta, Grp.eta] at h1
      simp only [hH, stdH, Nat.le_refl, decide_eq_true_eq, decide_eq_false_iff_not, Bool.not_eq_true', Bool.not_eq_false', peta, ncast, Int.ofNat_eq_natCast, beq_iff_eq, bne_iff_ne, beq_eq_false_iff_ne, bne_eq_false_iff_eq, ne_eq, Classical.not_not, Int.toNat_natCast, vrow_I, Arm.eta2, Fld.eta, Grp.eta] at h2
      refine ⟨⟨(i + 1, i + 1, out ++ [s.extract f i]), Nat.le_refl _, by show i + 1 ≤ s.size; omega, fun j h3 h4 => by simp only at h3 h4; omega, ?_⟩, by simp only; omega, ?_⟩
      · simp only
        rw [hw, pcs_nl hf (by omega) h2 hj, List.append_assoc]; rfl
      · rw [hI]
        (conv in matchSt _ _ _ _ => cbv); simp only [AllG, AllP, and_true, hH, stdH, Nat.le_refl, ncast, Int.ofNat_eq_natCast, vrow_I, Arm.eta2, Fld.eta, Grp.eta]
        rw [w1 (by omega)]
        (repeat' (first | with_reducible exact True.intro | rfl | exact RowsEq.self okS | exact RowsEq.snocS rfl | exact List.length_append | refine And.intro ?_ ?_ | trivial))
    · simp only [hH, stdH, Nat.le_refl, decide_eq_true_eq, decide_eq_false_iff_not, Bool.not_eq_true', Bool.not_eq_false', peta, ncast, Int.ofNat_eq_natCast, beq_iff_eq, bne_iff_ne, beq_eq_false_iff_ne, bne_eq_false_iff_eq, ne_eq, Classical.not_not, Int.toNat_natCast, vrow_I, Arm.eta2, Fld.eta, Grp.eta] at h1
      simp only [hH, stdH, Nat.le_refl, decide_eq_true_eq, decide_eq_false_iff_not, Bool.not_eq_true', Bool.not_eq_false', peta, ncast, Int.ofNat_eq_natCast, beq_iff_eq, bne_iff_ne, beq_eq_false_iff_ne, bne_eq_false_iff_eq, ne_eq, Classical.not_not, Int.toNat_natCast, vrow_I, Arm.eta2, Fld.eta, Grp.eta] at h2
      refine ⟨⟨(f, i + 1, out), by show f ≤ i + 1; omega, by show i + 1 ≤ s.size; omega, fun j h3 h4 => ?_, hw⟩, by simp only; omega, ?_⟩
      · simp only at h3 h4
        rcases Nat.lt_succ_iff_lt_or_eq.1 h4 with h | rfl
        · exact hj j h3 h
        · exact h2
      · rw [hI]
        (conv in matchSt _ _ _ _ => cbv); simp only [AllG, AllP, and_true, hH, stdH, Nat.le_refl, ncast, Int.ofNat_eq_natCast, vrow_I, Arm.eta2, Fld.eta, Grp.eta]
        rw [w1 (by omega)]
        (repeat' (first | with_reducible exact True.intro | rfl | exact Nat.le_refl _ | exact RowsEq.self okS | exact RowsEq.ofT okS rfl (Shp_zero _) rfl | exact RowsEq.snoc okS rfl | exact RowsEq.more okS (Shp_S _ _) (Tl_S _) | exact RowsEq.self okI | exact RowsEq.self okRA | exact List.length_append | refine And.intro ?_ ?_ | trivial))
    · simp only [hH, stdH, Nat.le_refl, decide_eq_true_eq, decide_eq_false_iff_not, Bool.not_eq_true', Bool.not_eq_false', peta, ncast, Int.ofNat_eq_natCast, beq_iff_eq, bne_iff_ne, beq_eq_false_iff_ne, bne_eq_false_iff_eq, ne_eq, Classical.not_not, Int.toNat_natCast, vrow_I, Arm.eta2, Fld.eta, Grp.eta] at h1
      try simp only [hH, stdH, Nat.le_refl, decide_eq_true_eq, decide_eq_false_iff_not, Bool.not_eq_true', Bool.not_eq_false', peta, ncast, Int.ofNat_eq_natCast, beq_iff_eq, bne_iff_ne, beq_eq_false_iff_ne, bne_eq_false_iff_eq, ne_eq, Classical.not_not, Int.toNat_natCast, vrow_I, Arm.eta2, Fld.eta, Grp.eta]
      exact ⟨by show (0 : Int) ≤ (f : Nat); omega, trivial, by show ((f : Nat) : Int).toNat ≤ s.size; omega, Nat.le_refl _⟩
    · try simp only [hH, stdH, Nat.le_refl, decide_eq_true_eq, decide_eq_false_iff_not, Bool.not_eq_true', Bool.not_eq_false', peta, ncast, Int.ofNat_eq_natCast, beq_iff_eq, bne_iff_ne, beq_eq_false_iff_ne, bne_eq_false_iff_eq, ne_eq, Classical.not_not, Int.toNat_natCast, vrow_I, Arm.eta2, Fld.eta, Grp.eta]
      (repeat' (first | exact trivial | rfl | omega | refine And.intro ?_ ?_))
    · try simp only [hH, stdH, Nat.le_refl, decide_eq_true_eq, decide_eq_false_iff_not, Bool.not_eq_true', Bool.not_eq_false', peta, ncast, Int.ofNat_eq_natCast, beq_iff_eq, bne_iff_ne, beq_eq_false_iff_ne, bne_eq_false_iff_eq, ne_eq, Classical.not_not, Int.toNat_natCast, vrow_I, Arm.eta2, Fld.eta, Grp.eta]
      (repeat' (first | exact trivial | rfl | omega | refine And.intro ?_ ?_))
    · simp only [hH, stdH, Nat.le_refl, decide_eq_true_eq, decide_eq_false_iff_not, Bool.not_eq_true', Bool.not_eq_false', peta, ncast, Int.ofNat_eq_natCast, beq_iff_eq, bne_iff_ne, beq_eq_false_iff_ne, bne_eq_false_iff_eq, ne_eq, Classical.not_not, Int.toNat_natCast, vrow_I, Arm.eta2, Fld.eta, Grp.eta] at h1
      obtain rfl : i = s.size := by omega
      have e : pcs nlB s = out ++ [s.extract f s.size] := by rw [hw, pcs_end hj]
      try simp only [hH, stdH, Nat.le_refl, decide_eq_true_eq, decide_eq_false_iff_not, Bool.not_eq_true', Bool.not_eq_false', peta, ncast, Int.ofNat_eq_natCast, beq_iff_eq, bne_iff_ne, beq_eq_false_iff_ne, bne_eq_false_iff_eq, ne_eq, Classical.not_not, Int.toNat_natCast, vrow_I, Arm.eta2, Fld.eta, Grp.eta]
      rw [e]
      (repeat' (first | with_reducible exact True.intro | rfl | exact RowsEq.self okS | exact RowsEq.snocS rfl | exact List.length_append | refine And.intro ?_ ?_ | trivial))
noncomputable def e_l1SplitL : Entry := pureE 90 fun H a => match a with
  | [.lit (.string s), .lit (.int .u8 b)] => some (.vec 1 (H Nat fun _ => (pcs nlB s).length) (rowsS H fun _ => pcs nlB s), [H Prop fun _ => s.size ≤ 2000000, H Prop fun _ => b = 10])
  | _ => none
theorem eok_l1SplitL : EntryOk Tryz.prog e_l1SplitL := pureM_ok (by unfold isBody; kernel_rfl) (by
  intro a r ob e hob
  split at e
  · rename_i s b
    simp only [Option.some.injEq, Prod.mk.injEq] at e
    obtain ⟨rfl, rfl⟩ := e
    exact ConN.args (.cons .rfl (.cons .rfl .nil)) (c_l1SplitL s b hob.1 hob.2.1)
  · simp at e)
theorem c_l16Parse (s : ByteArray) (h0 : s.size ≤ 1000000) : ConN Tryz.prog 91 [.lit (.string s)] [] 0 (.tup [aT rowW stdH fun _ => rdS s, .lit (.bool (stdH Bool fun _ => okLn s))]) [] [] := by
  have hB : Base Tryz.prog (tabΓ [e_l6Cut, e_l1Read, e_l6Parse]) tab := base_of tabOk (ents_cons eok_l6Cut <| ents_cons eok_l1Read <| ents_cons eok_l6Parse <| ents_nil)
  refine con_m (N := 73) hB (draw_ok hB mixed) Tryz.func91 rfl rfl (fun H => [.lit (.string s)]) (fun _ => []) 0 (fun H => .tup [aT rowW H fun _ => rdS s, .lit (.bool (H Bool fun _ => okLn s))]) (fun H => []) (fun _ => []) 300 (by simp) (fun x hx => ?_) (by simp [lk]) (by omega) (by simp) ?_
  · simp only [List.mem_cons, List.not_mem_nil, or_false] at hx
    rcases hx with rfl
    · exact .lit
  intro X hX hX0 H hH
  conv in Fin.chk _ _ => cbv
  try simp only [Plain_rowsA, Plain_rowsB, Plain_rowsC, Plain_rowsD, Plain_rowsF, Plain_rowsG, Plain_rowsI, Plain_rowsS, Plain_rowsU, Fin.satC_ret, Fin.satC_br, Fin.satC_need, Fin.satC_again, AllP, and_true, true_and, upd, List.length_nil, List.length_cons, Nat.zero_add, if_true, ncast, Int.ofNat_eq_natCast]
  simp only [hH, stdH]
  have e1 : cutB s (⟨⟨[32]⟩⟩ : ByteArray) = ln1 s := rfl
  have e2 : cutB (ln1 s).2.1 (⟨⟨[32]⟩⟩ : ByteArray) = ln2 s := rfl
  have e3 : cutB (ln2 s).2.1 (⟨⟨[32]⟩⟩ : ByteArray) = ln3 s := rfl
  have z1 : (ln1 s).1.size ≤ s.size ∧ (ln1 s).2.1.size ≤ s.size := cutB_sz s spB
  have z2 : (ln2 s).1.size ≤ (ln1 s).2.1.size ∧ (ln2 s).2.1.size ≤ (ln1 s).2.1.size := cutB_sz (ln1 s).2.1 spB
  have z3 : (ln3 s).1.size ≤ (ln2 s).2.1.size ∧ (ln3 s).2.1.size ≤ (ln2 s).2.1.size := cutB_sz (ln2 s).2.1 spB
  simp only [e1, e2, e3]
  have ok : okLn s = bif bif bif bif bif (ln1 s).2.2 then (ln2 s).2.2 else false then (ln3 s).2.2 else false then rdO (ln1 s).1 else false then rdO (ln3 s).1 else false then (pA (ln3 s).2.1).isSome else false := by
    unfold okLn
    cases (ln1 s).2.2 <;> cases (ln2 s).2.2 <;> cases (ln3 s).2.2 <;> cases rdO (ln1 s).1 <;> cases rdO (ln3 s).1 <;> cases (pA (ln3 s).2.1).isSome <;> rfl
  refine ⟨⟨by omega, by decide, by decide⟩, ⟨by omega, by decide, by decide⟩, ⟨by omega, by decide, by decide⟩, by omega, by omega, by omega, ok, ?_⟩
  (repeat' (with_reducible refine And.intro ?_ ?_)) <;> exact Eq.refl _
noncomputable def e_l16Parse : Entry := pureE 91 fun H a => match a with
  | [.lit (.string s)] => some (.tup [aT rowW H fun _ => rdS s, .lit (.bool (H Bool fun _ => okLn s))], [H Prop fun _ => s.size ≤ 1000000])
  | _ => none
theorem eok_l16Parse : EntryOk Tryz.prog e_l16Parse := pureM_ok (by unfold isBody; kernel_rfl) (by
  intro a r ob e hob
  split at e
  · rename_i s
    simp only [Option.some.injEq, Prod.mk.injEq] at e
    obtain ⟨rfl, rfl⟩ := e
    exact ConN.args (.cons .rfl .nil) (c_l16Parse s hob.1)
  · simp at e)
theorem getD_szN {L : List ByteArray} {m : Nat} (h : ∀ x ∈ L, x.size ≤ m) (i : Nat) : (L.getD i ByteArray.empty).size ≤ m := getD_le2 h i
theorem take_rdS {L : List ByteArray} {i : Nat} (h : i < L.length) (f : ByteArray → Grt) : (L.take (i + 1)).map f = (L.take i).map f ++ [f (L.getD i ByteArray.empty)] := by
  rw [List.take_succ_eq_append_getElem h, List.map_append, List.map_cons, List.map_nil, List.getD_eq_getElem?_getD, List.getElem?_eq_getElem h, Option.getD_some]
theorem nf_t {b : Bool} (h : (!b) = false) : b = true := by cases b with
  | true => rfl
  | false => cases h
theorem cond_rg {L : List Grt} {t : ByteArray} : (bif !okRg L then true else !((rgT L L.length).toList == t.toList)) = !decide (okRg L = true ∧ rgT L L.length = t) := by
  rw [beqT]
  cases h : okRg L
  · simp
  · simp
theorem c_parseRS (t : ByteArray) (h0 : t.size ≤ 2000000) : ConN Tryz.prog 25 [.lit (.string t)] [] 0 (.tup [aT rowJ stdH fun _ => (pR t).getD ⟨[]⟩, .lit (.bool (stdH Bool fun _ => (pR t).isSome))]) [] [] := by
  have hB : Base Tryz.prog (tabΓ [e_l1SplitL, e_l16Parse, e_l16Good, e_l16Text]) tabO := base_of tabOkO (ents_cons eok_l1SplitL <| ents_cons eok_l16Parse <| ents_cons eok_l16Good <| ents_cons eok_l16Text <| ents_nil)
  refine con_m (N := 61) hB (draw_ok hB mixed) Tryz.func25 rfl rfl (fun H => [.lit (.string t)]) (fun _ => []) 0 (fun H => .tup [aT rowJ H fun _ => (pR t).getD ⟨[]⟩, .lit (.bool (H Bool fun _ => (pR t).isSome))]) (fun H => []) (fun _ => []) 600 (by simp) (fun x hx => ?_) (by simp [lk]) (by omega) (by simp) ?_
  · simp only [List.mem_cons, List.not_mem_nil, or_false] at hx
    rcases hx with rfl
    · exact .lit
  intro X hX hX0 H hH
  conv in Fin.chk _ _ => cbv
  try simp only [Plain_rowsA, Plain_rowsB, Plain_rowsC, Plain_rowsD, Plain_rowsF, Plain_rowsG, Plain_rowsI, Plain_rowsS, Plain_rowsU, Fin.satC_ret, Fin.satC_br, Fin.satC_need, Fin.satC_again, AllP, and_true, true_and, upd, List.length_nil, List.length_cons, Nat.zero_add, if_true, ncast, Int.ofNat_eq_natCast]
  have hp := pcs_len nlB t
  have eW : IntKind.i64.wrap (((pcs nlB t).length : Int) - 1) = (((pcs nlB t).length - 1 : Nat) : Int) := by rw [wi (by omega) (by omega)]; omega
  refine ⟨⟨?_, ?_⟩, ?_, fun h1 => ⟨?_, ?_⟩, fun h1 => ?_⟩
  · try simp only [hH, stdH, Nat.le_refl, decide_eq_true_eq, decide_eq_false_iff_not, Bool.not_eq_true', Bool.not_eq_false', peta, ncast, Int.ofNat_eq_natCast, beq_iff_eq, bne_iff_ne, beq_eq_false_iff_ne, bne_eq_false_iff_eq, ne_eq, Classical.not_not, Int.toNat_natCast, vrow_I, Arm.eta2, Fld.eta, Grp.eta]
    exact h0
  · try simp only [hH, stdH, Nat.le_refl, decide_eq_true_eq, decide_eq_false_iff_not, Bool.not_eq_true', Bool.not_eq_false', peta, ncast, Int.ofNat_eq_natCast, beq_iff_eq, bne_iff_ne, beq_eq_false_iff_ne, bne_eq_false_iff_eq, ne_eq, Classical.not_not, Int.toNat_natCast, vrow_I, Arm.eta2, Fld.eta, Grp.eta]
  · try simp only [hH, stdH, Nat.le_refl, decide_eq_true_eq, decide_eq_false_iff_not, Bool.not_eq_true', Bool.not_eq_false', peta, ncast, Int.ofNat_eq_natCast, beq_iff_eq, bne_iff_ne, beq_eq_false_iff_ne, bne_eq_false_iff_eq, ne_eq, Classical.not_not, Int.toNat_natCast, vrow_I, Arm.eta2, Fld.eta, Grp.eta]
    intro _
    rw [eW]
    omega
  · have e : pR t = none := by
      simp only [hH, stdH, eW, Int.toNat_natCast] at h1
      by_cases q : (4000 : Int) < t.size
      · exact pR_sz (by omega)
      · rw [decide_eq_false q, cond_false, beqT, Bool.not_eq_true', decide_eq_false_iff_not] at h1
        exact pR_last h1
    try simp only [hH, stdH, Nat.le_refl, decide_eq_true_eq, decide_eq_false_iff_not, Bool.not_eq_true', Bool.not_eq_false', peta, ncast, Int.ofNat_eq_natCast, beq_iff_eq, bne_iff_ne, beq_eq_false_iff_ne, bne_eq_false_iff_eq, ne_eq, Classical.not_not, Int.toNat_natCast, vrow_I, Arm.eta2, Fld.eta, Grp.eta]
    rw [e]; rfl
  · have e : pR t = none := by
      simp only [hH, stdH, eW, Int.toNat_natCast] at h1
      by_cases q : (4000 : Int) < t.size
      · exact pR_sz (by omega)
      · rw [decide_eq_false q, cond_false, beqT, Bool.not_eq_true', decide_eq_false_iff_not] at h1
        exact pR_last h1
    try simp only [hH, stdH, Nat.le_refl, decide_eq_true_eq, decide_eq_false_iff_not, Bool.not_eq_true', Bool.not_eq_false', peta, ncast, Int.ofNat_eq_natCast, beq_iff_eq, bne_iff_ne, beq_eq_false_iff_ne, bne_eq_false_iff_eq, ne_eq, Classical.not_not, Int.toNat_natCast, vrow_I, Arm.eta2, Fld.eta, Grp.eta]
    rw [e]; rfl
  · have hs : t.size ≤ 4000 := by
      simp only [hH, stdH] at h1
      by_cases q : (4000 : Int) < t.size
      · rw [decide_eq_true q] at h1; cases h1
      · omega
    clear h1
    obtain ⟨P, hP⟩ : ∃ P, pcs nlB t = P := ⟨_, rfl⟩
    have hz : ∀ x ∈ P, x.size ≤ t.size := fun x hx => by rw [← hP] at hx; exact pcs_sz hx
    refine loop_c hB (draw_ok hB mixed) hX hX0 hH [0, 2, 4, 5, 6] (ι := { i : Nat // i ≤ (pcs nlB t).length - 1 }) 600 (fun i => [.i (H Int fun _ => (i.1 : Nat)), .r (H Nat fun _ => (((pcs nlB t).take i.1).map rdS).length) (rowsW H fun _ => ((pcs nlB t).take i.1).map rdS)]) (fun i => (pcs nlB t).length - i.1) (⟨0, Nat.zero_le _⟩) ?_ ?_
    · (conv in matchSt _ _ _ _ => cbv); simp only [AllG, AllP, and_true, hH, stdH, Nat.le_refl, ncast, Int.ofNat_eq_natCast, vrow_I, Arm.eta2, Fld.eta, Grp.eta]
      exact ⟨RowsEq.ofT okRW rfl (Shp_zero _) rfl, rfl, by omega, RowsEq.self okS⟩
    · intro I hI i
      conv in Fin.chk _ _ => cbv
      try simp only [Plain_rowsA, Plain_rowsB, Plain_rowsC, Plain_rowsD, Plain_rowsF, Plain_rowsG, Plain_rowsI, Plain_rowsS, Plain_rowsU, Fin.satC_ret, Fin.satC_br, Fin.satC_need, Fin.satC_again, AllP, and_true, true_and, upd, List.length_nil, List.length_cons, Nat.zero_add, if_true, ncast, Int.ofNat_eq_natCast]
      obtain ⟨i, hi⟩ := i
      have hli : (((pcs nlB t).take i).map rdS).length = i := by rw [List.length_map, List.length_take]; omega
      have hx := getD_szN (L := pcs nlB t) (m := t.size) (fun x hx => pcs_sz hx) i
      refine ⟨fun h2 => ⟨?_, ?_, fun h3 => ⟨?_, ?_⟩, fun h3 => ⟨?_, ?_⟩⟩, fun h2 => ?_⟩
      · simp only [hH, stdH, eW, decide_eq_true_eq] at h2 ⊢
        omega
      · simp only [hH, stdH, Int.toNat_natCast]
        omega
      · simp only [hH, stdH, eW, decide_eq_true_eq] at h2
        simp only [hH, stdH, Int.toNat_natCast, Bool.not_eq_true'] at h3
        have e := pR_line_n (by omega) h3
        try simp only [hH, stdH, Nat.le_refl, decide_eq_true_eq, decide_eq_false_iff_not, Bool.not_eq_true', Bool.not_eq_false', peta, ncast, Int.ofNat_eq_natCast, beq_iff_eq, bne_iff_ne, beq_eq_false_iff_ne, bne_eq_false_iff_eq, ne_eq, Classical.not_not, Int.toNat_natCast, vrow_I, Arm.eta2, Fld.eta, Grp.eta]
        rw [e]; rfl
      · simp only [hH, stdH, eW, decide_eq_true_eq] at h2
        simp only [hH, stdH, Int.toNat_natCast, Bool.not_eq_true'] at h3
        have e := pR_line_n (by omega) h3
        try simp only [hH, stdH, Nat.le_refl, decide_eq_true_eq, decide_eq_false_iff_not, Bool.not_eq_true', Bool.not_eq_false', peta, ncast, Int.ofNat_eq_natCast, beq_iff_eq, bne_iff_ne, beq_eq_false_iff_ne, bne_eq_false_iff_eq, ne_eq, Classical.not_not, Int.toNat_natCast, vrow_I, Arm.eta2, Fld.eta, Grp.eta]
        rw [e]; rfl
      · simp only [hH, stdH, hli]
        exact ⟨trivial, by omega, by omega⟩
      · simp only [hH, stdH, eW, decide_eq_true_eq] at h2
        refine ⟨⟨i + 1, by omega⟩, by simp only; omega, ?_⟩
        rw [hI]
        (conv in matchSt _ _ _ _ => cbv); simp only [AllG, AllP, and_true, hH, stdH, Nat.le_refl, ncast, Int.ofNat_eq_natCast, vrow_I, Arm.eta2, Fld.eta, Grp.eta]
        simp only [Int.toNat_natCast]
        rw [w1 (by omega), take_rdS (by omega) rdS]
        (repeat' (with_reducible refine And.intro ?_ ?_)) <;> (first | exact True.intro | exact rows_snocW | exact Eq.refl _ | exact List.length_append | exact RowsEq.self okS)
      · have h2 : ¬ (i : Int) < (((pcs nlB t).length - 1 : Nat) : Int) := by simpa only [hH, stdH, eW, decide_eq_false_iff_not] using h2
        obtain rfl : i = (pcs nlB t).length - 1 := by omega
        have hn : Nsz (((pcs nlB t).take ((pcs nlB t).length - 1)).map rdS) := ⟨fun g hg => by
          obtain ⟨x, hx, rfl⟩ := List.mem_map.1 hg
          have h5 := pcs_sz (List.mem_of_mem_take hx)
          have z1 : (ln1 x).2.1.size ≤ x.size := (cutB_sz x spB).2
          have z2 : (ln2 x).1.size ≤ (ln1 x).2.1.size := (cutB_sz (ln1 x).2.1 spB).1
          show (ln2 x).1.size ≤ 2000000
          omega⟩
        have hN := pR_ref_n (t := t)
        have hY := pR_ref_y (t := t)
        rw [← take_dl] at hN hY
        obtain ⟨L, hL⟩ : ∃ L, ((pcs nlB t).take ((pcs nlB t).length - 1)).map rdS = L := ⟨_, rfl⟩
        rw [hL] at hN hY hn hli
        subst hH
        simp only [stdH, hL, Tl_W, cond_rg]
        have hl : L.length ≤ 2000000 := by omega
        by_cases q : okRg L = true ∧ rgT L L.length = t
        · rw [hY q, decide_eq_true q]
          simp only [q.1, Bool.not_true, Bool.not_false, Option.getD_some, Option.isSome_some]
          (repeat' (first | exact fun _ _ => rfl | exact Shp_W _ _ | exact hl | exact hn | exact True.intro | exact Eq.refl _ | exact Nat.le_refl _ | exact RowsEq.self okRW | (with_reducible refine And.intro ?_ ?_) | (intro h9; first | (exact absurd h9 (by decide)) | skip)))
        · rw [hN q, decide_eq_false q]
          simp only [Bool.not_true, Bool.not_false, Option.getD_none, Option.isSome_none]
          (repeat' (first | exact fun _ _ => rfl | exact Shp_W _ _ | exact hl | exact hn | exact True.intro | exact Eq.refl _ | exact Nat.le_refl _ | (with_reducible refine And.intro ?_ ?_) | (intro h9; first | (exact absurd h9 (by decide)) | (exact nf_t h9) | skip)))
noncomputable def e_parseRS : Entry := pureE 25 fun H a => match a with
  | [.lit (.string t)] => some (.tup [aT rowJ H fun _ => (pR t).getD ⟨[]⟩, .lit (.bool (H Bool fun _ => (pR t).isSome))], [H Prop fun _ => t.size ≤ 2000000])
  | _ => none
theorem eok_parseRS : EntryOk Tryz.prog e_parseRS := pureM_ok (by unfold isBody; kernel_rfl) (by
  intro a r ob e hob
  split at e
  · rename_i t
    simp only [Option.some.injEq, Prod.mk.injEq] at e
    obtain ⟨rfl, rfl⟩ := e
    exact ConN.args (.cons .rfl .nil) (c_parseRS t hob.1)
  · simp at e)

end Go.Proofs.YtbnohmfapmeaaaaGreatDoor.AM

