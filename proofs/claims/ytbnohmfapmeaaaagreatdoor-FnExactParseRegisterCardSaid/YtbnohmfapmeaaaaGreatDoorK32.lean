/- Lemmas and contracts (Spb); conditions: none. -/
import Derived.Test.YtbnohmfapmeaaaaGreatDoorK03
import Derived.Test.YtbnohmfapmeaaaaGreatDoorK28
import Derived.Test.YtbnohmfapmeaaaaGreatDoorK31
set_option linter.unusedVariables false
set_option linter.unusedSimpArgs false
set_option maxRecDepth 100000
set_option maxHeartbeats 4000000
set_option cbv.maxSteps 3000000
namespace Go.Proofs.YtbnohmfapmeaaaaGreatDoor.AM
/- The reference's parsers of groups, ordinaries, fields, arms; conditions: none. -/
def codB (g : Grp) : Int := (g.c - 1) * 24 + (g.k - 1) * 3 + g.a
theorem okBar_b {g : Grp} (h : okBar g = true) : (1 ≤ g.c ∧ g.c ≤ 6) ∧ (1 ≤ g.k ∧ g.k ≤ 8) ∧ (0 ≤ g.a ∧ g.a ≤ 2) ∧ g.t = 1 := by
  unfold okBar at h
  simp only [Bool.and_eq_true, decide_eq_true_eq] at h
  obtain ⟨hc, hk, ha, hb, _⟩ := okG_c h.1
  have := attL_len g.k
  exact ⟨hc, hk, ⟨ha, by omega⟩, h.2⟩
theorem codB_eq {z c : Grp} (h : okBar z = true) (hc : (1 ≤ c.c ∧ c.c ≤ 6) ∧ (1 ≤ c.k ∧ c.k ≤ 8) ∧ (0 ≤ c.a ∧ c.a ≤ 2) ∧ c.t = 1) (e : codB z = codB c) : z = c := by
  have hz := okBar_b h
  unfold codB at e
  obtain ⟨x, k, a, t⟩ := z
  obtain ⟨x', k', a', t'⟩ := c
  simp only at *
  obtain rfl : x = x' := by omega
  obtain rfl : k = k' := by omega
  obtain rfl : a = a' := by omega
  obtain rfl : t = t' := by omega
  rfl
/-- No group ahead of place n has this text. -/
def frmB (s : ByteArray) (n : Int) : Prop := ∀ z, okBar z = true → barT z = s → n ≤ codB z
theorem frmB_0 (s : ByteArray) : frmB s ((0 : Nat) * 24) := fun z hz _ => by have := okBar_b hz; unfold codB; omega
theorem frmB_k {s : ByteArray} {n m : Int} (h : frmB s n) : frmB s (n + ((0 : Nat) : Int) * m) := by rw [show n + ((0 : Nat) : Int) * m = n by simp]; exact h
theorem frmB_t {s : ByteArray} {n : Int} (h : frmB s n) : frmB s (n + ((0 : Nat) : Int)) := by rw [show n + ((0 : Nat) : Int) = n by simp]; exact h
theorem frmB_s {s : ByteArray} {n : Int} (h : frmB s n) {c : Grp} (hc : (1 ≤ c.c ∧ c.c ≤ 6) ∧ (1 ≤ c.k ∧ c.k ≤ 8) ∧ (0 ≤ c.a ∧ c.a ≤ 2) ∧ c.t = 1) (en : codB c = n) (hn : ¬ (okBar c = true ∧ barT c = s)) : frmB s (n + 1) := fun z hz e => by
  have h1 := h z hz e
  rcases Int.lt_or_eq_of_le h1 with h2 | h2
  · omega
  · exact absurd (codB_eq hz hc (by omega) ▸ ⟨hz, e⟩) hn
theorem condB {c : Grp} {s : ByteArray} (h : c.t = 1) : (bif okG c then (barT c).toList == s.toList else false) = decide (okBar c = true ∧ barT c = s) := by
  unfold okBar
  rw [beqT, h]
  cases h : okG c <;> simp
theorem c_l4Unbare (s : ByteArray)  : ConN Tryz.prog 189 [.lit (.string s)] [] 0 (.tup [aT rowG stdH fun _ => (uB s).getD zG, .lit (.bool (stdH Bool fun _ => (uB s).isSome))]) [] [] := by
  have hB : Base Tryz.prog (tabΓ [e_l4Group, e_l4Bare]) tab := base_of tabOk (ents_cons eok_l4Group <| ents_cons eok_l4Bare <| ents_nil)
  refine con_m (N := 34) hB (draw_ok hB mixed) Tryz.func189 rfl rfl (fun H => [.lit (.string s)]) (fun _ => []) 0 (fun H => .tup [aT rowG H fun _ => (uB s).getD zG, .lit (.bool (H Bool fun _ => (uB s).isSome))]) (fun H => []) (fun _ => []) 400 (by simp) (fun x hx => ?_) (by simp [lk]) (by omega) (by simp) ?_
  · simp only [List.mem_cons, List.not_mem_nil, or_false] at hx
    rcases hx with rfl
    · exact .lit
  intro X hX hX0 H hH
  conv in Fin.chk _ _ => cbv
  try simp only [Plain_rowsA, Plain_rowsB, Plain_rowsC, Plain_rowsF, Plain_rowsG, Plain_rowsI, Plain_rowsS, Plain_rowsU, Fin.satC_ret, Fin.satC_br, Fin.satC_need, Fin.satC_again, AllP, and_true, true_and, upd, List.length_nil, List.length_cons, Nat.zero_add, if_true, ncast, Int.ofNat_eq_natCast]
  refine loop_a hB (draw_ok hB mixed) hX hX0 hH false (ι := { r : Nat // r ≤ 6 ∧ frmB s ((r : Nat) * 24) }) 400 (fun r => [.b (H Bool fun _ => false), .i (H Int fun _ => ((r.1 : Nat) : Int) + 1), .i (H Int fun _ => 0), .i (H Int fun _ => 0), .i (H Int fun _ => 0), .i (H Int fun _ => 0)]) (fun r => 6 - r.1) (⟨0, by omega, frmB_0 s⟩) ?_ ?_
  · (conv in matchSt _ _ _ _ => cbv); simp only [AllG, AllP, and_true, hH, stdH, Nat.le_refl, ncast, Int.ofNat_eq_natCast, vrow_I, Arm.eta2, Fld.eta, Grp.eta]
    (repeat' (first | with_reducible exact True.intro | rfl | omega | refine And.intro ?_ ?_ | trivial))
  · intro I hI r
    conv in Fin.chk _ _ => cbv
    try simp only [Plain_rowsA, Plain_rowsB, Plain_rowsC, Plain_rowsF, Plain_rowsG, Plain_rowsI, Plain_rowsS, Plain_rowsU, Fin.satC_ret, Fin.satC_br, Fin.satC_need, Fin.satC_again, AllP, and_true, true_and, upd, List.length_nil, List.length_cons, Nat.zero_add, if_true, ncast, Int.ofNat_eq_natCast]
    obtain ⟨r, hr, hqr⟩ := r
    refine ⟨fun h1 => ?_, fun h1 => ?_⟩
    · simp only [hH, stdH, Nat.le_refl, decide_eq_true_eq, decide_eq_false_iff_not, Bool.not_eq_true', Bool.not_eq_false', peta, ncast, Int.ofNat_eq_natCast, beq_iff_eq, bne_iff_ne, beq_eq_false_iff_ne, bne_eq_false_iff_eq, ne_eq, Classical.not_not, Int.toNat_natCast, vrow_I, Arm.eta2, Fld.eta, Grp.eta] at h1
      refine loop_a hB (draw_ok hB mixed) hX hX0 hH true (ι := { k : Nat // k ≤ 8 ∧ frmB s ((r : Nat) * 24 + (k : Nat) * 3) }) 400 (fun k => [.b (H Bool fun _ => false), .i (H Int fun _ => ((k.1 : Nat) : Int) + 1), .i (H Int fun _ => 0), .i (H Int fun _ => 0), .i (H Int fun _ => 0), .i (H Int fun _ => 0)]) (fun k => 8 - k.1) (⟨0, Nat.zero_le _, frmB_k hqr⟩) ?_ ?_
      · (conv in matchSt _ _ _ _ => cbv); simp only [AllG, AllP, and_true, hH, stdH, Nat.le_refl, ncast, Int.ofNat_eq_natCast, vrow_I, Arm.eta2, Fld.eta, Grp.eta]
        (repeat' (first | with_reducible exact True.intro | rfl | omega | refine And.intro ?_ ?_ | trivial))
      · intro J hJ k
        conv in Fin.chk _ _ => cbv
        try simp only [Plain_rowsA, Plain_rowsB, Plain_rowsC, Plain_rowsF, Plain_rowsG, Plain_rowsI, Plain_rowsS, Plain_rowsU, Fin.satC_ret, Fin.satC_br, Fin.satC_need, Fin.satC_again, AllP, and_true, true_and, upd, List.length_nil, List.length_cons, Nat.zero_add, if_true, ncast, Int.ofNat_eq_natCast]
        obtain ⟨k, hk, hqk⟩ := k
        refine ⟨fun h2 => ?_, fun h2 => ?_⟩
        · simp only [hH, stdH, Nat.le_refl, decide_eq_true_eq, decide_eq_false_iff_not, Bool.not_eq_true', Bool.not_eq_false', peta, ncast, Int.ofNat_eq_natCast, beq_iff_eq, bne_iff_ne, beq_eq_false_iff_ne, bne_eq_false_iff_eq, ne_eq, Classical.not_not, Int.toNat_natCast, vrow_I, Arm.eta2, Fld.eta, Grp.eta] at h2
          refine loop_a hB (draw_ok hB mixed) hX hX0 hH true (ι := { a : Nat // a ≤ 3 ∧ frmB s ((r : Nat) * 24 + (k : Nat) * 3 + (a : Nat)) }) 400 (fun a => [.b (H Bool fun _ => false), .i (H Int fun _ => ((a.1 : Nat) : Int)), .i (H Int fun _ => 0), .i (H Int fun _ => 0), .i (H Int fun _ => 0), .i (H Int fun _ => 0)]) (fun a => 3 - a.1) (⟨0, Nat.zero_le _, frmB_t hqk⟩) ?_ ?_
          · (conv in matchSt _ _ _ _ => cbv); simp only [AllG, AllP, and_true, hH, stdH, Nat.le_refl, ncast, Int.ofNat_eq_natCast, vrow_I, Arm.eta2, Fld.eta, Grp.eta]
            (repeat' (first | with_reducible exact True.intro | rfl | omega | refine And.intro ?_ ?_ | trivial))
          · intro K hK a
            conv in Fin.chk _ _ => cbv
            try simp only [Plain_rowsA, Plain_rowsB, Plain_rowsC, Plain_rowsF, Plain_rowsG, Plain_rowsI, Plain_rowsS, Plain_rowsU, Fin.satC_ret, Fin.satC_br, Fin.satC_need, Fin.satC_again, AllP, and_true, true_and, upd, List.length_nil, List.length_cons, Nat.zero_add, if_true, ncast, Int.ofNat_eq_natCast]
            obtain ⟨a, ha, hqa⟩ := a
            have eg : (inB ((r : Int) + 1) 1 6 && attF ((k : Int) + 1) (a : Nat) && inB 1 1 9) = okG ⟨(r : Int) + 1, (k : Int) + 1, (a : Nat), 1⟩ := rfl
            have eb : cntT ((r : Int) + 1) ((k : Int) + 1) ++ ((⟨⟨[32]⟩⟩ : ByteArray) ++ (kndT ((k : Int) + 1) ((r : Int) + 1) ++ attT ⟨(r : Int) + 1, (k : Int) + 1, (a : Nat), 1⟩)) = barT ⟨(r : Int) + 1, (k : Int) + 1, (a : Nat), 1⟩ := rfl
            refine ⟨fun h4 => ⟨?_, fun h5 => ?_, fun h5 => ?_⟩, fun h4 => ?_⟩
            · simp only [hH, stdH, eg]
              exact fun h => okG_T h
            · simp only [hH, stdH, eg, eb, condB, decide_eq_true_eq] at h5 ⊢
              rw [uB_iff.2 h5]
              exact ⟨rfl, rfl, rfl, rfl, rfl⟩
            · simp only [hH, stdH, Nat.le_refl, decide_eq_true_eq, decide_eq_false_iff_not, Bool.not_eq_true', Bool.not_eq_false', peta, ncast, Int.ofNat_eq_natCast, beq_iff_eq, bne_iff_ne, beq_eq_false_iff_ne, bne_eq_false_iff_eq, ne_eq, Classical.not_not, Int.toNat_natCast, vrow_I, Arm.eta2, Fld.eta, Grp.eta] at h4
              simp only [hH, stdH, eg, eb, condB, decide_eq_false_iff_not] at h5
              refine ⟨⟨a + 1, by omega, ?_⟩, by simp only; omega, ?_⟩
              · have := frmB_s hqa (c := ⟨(r : Int) + 1, (k : Int) + 1, (a : Nat), 1⟩) ⟨⟨by simp only; omega, by simp only; omega⟩, ⟨by simp only; omega, by simp only; omega⟩, ⟨by simp only; omega, by simp only; omega⟩, rfl⟩ (by unfold codB; simp only; omega) h5
                rw [show (r : Int) * 24 + (k : Int) * 3 + ((a + 1 : Nat) : Int) = (r : Int) * 24 + (k : Int) * 3 + (a : Int) + 1 by omega]
                exact this
              · rw [hK]
                (conv in matchSt _ _ _ _ => cbv); simp only [AllG, AllP, and_true, hH, stdH, Nat.le_refl, ncast, Int.ofNat_eq_natCast, vrow_I, Arm.eta2, Fld.eta, Grp.eta]
                rw [w1 (by omega)]
                (repeat' (first | with_reducible exact True.intro | rfl | omega | refine And.intro ?_ ?_ | trivial))
            · simp only [hH, stdH, Nat.le_refl, decide_eq_true_eq, decide_eq_false_iff_not, Bool.not_eq_true', Bool.not_eq_false', peta, ncast, Int.ofNat_eq_natCast, beq_iff_eq, bne_iff_ne, beq_eq_false_iff_ne, bne_eq_false_iff_eq, ne_eq, Classical.not_not, Int.toNat_natCast, vrow_I, Arm.eta2, Fld.eta, Grp.eta] at h4
              obtain rfl : a = 3 := by omega
              rw [if_neg (by decide)]
              refine ⟨⟨k + 1, by omega, ?_⟩, by simp only; omega, ?_⟩
              · rw [show (r : Int) * 24 + ((k + 1 : Nat) : Int) * 3 = (r : Int) * 24 + (k : Int) * 3 + ((3 : Nat) : Int) by omega]
                exact hqa
              · rw [hJ]
                (conv in matchSt _ _ _ _ => cbv); simp only [AllG, AllP, and_true, hH, stdH, Nat.le_refl, ncast, Int.ofNat_eq_natCast, vrow_I, Arm.eta2, Fld.eta, Grp.eta]
                rw [show IntKind.i64.wrap ((k : Int) + 1 + 1) = ((k + 1 : Nat) : Int) + 1 by rw [wi] <;> omega]
                (repeat' (first | with_reducible exact True.intro | rfl | omega | refine And.intro ?_ ?_ | trivial))
        · simp only [hH, stdH, Nat.le_refl, decide_eq_true_eq, decide_eq_false_iff_not, Bool.not_eq_true', Bool.not_eq_false', peta, ncast, Int.ofNat_eq_natCast, beq_iff_eq, bne_iff_ne, beq_eq_false_iff_ne, bne_eq_false_iff_eq, ne_eq, Classical.not_not, Int.toNat_natCast, vrow_I, Arm.eta2, Fld.eta, Grp.eta] at h2
          obtain rfl : k = 8 := by omega
          rw [if_neg (by decide)]
          refine ⟨⟨r + 1, by omega, ?_⟩, by simp only; omega, ?_⟩
          · rw [show ((r + 1 : Nat) : Int) * 24 = (r : Int) * 24 + ((8 : Nat) : Int) * 3 by omega]
            exact hqk
          · rw [hI]
            (conv in matchSt _ _ _ _ => cbv); simp only [AllG, AllP, and_true, hH, stdH, Nat.le_refl, ncast, Int.ofNat_eq_natCast, vrow_I, Arm.eta2, Fld.eta, Grp.eta]
            rw [show IntKind.i64.wrap ((r : Int) + 1 + 1) = ((r + 1 : Nat) : Int) + 1 by rw [wi] <;> omega]
            (repeat' (first | with_reducible exact True.intro | rfl | omega | refine And.intro ?_ ?_ | trivial))
    · simp only [hH, stdH, Nat.le_refl, decide_eq_true_eq, decide_eq_false_iff_not, Bool.not_eq_true', Bool.not_eq_false', peta, ncast, Int.ofNat_eq_natCast, beq_iff_eq, bne_iff_ne, beq_eq_false_iff_ne, bne_eq_false_iff_eq, ne_eq, Classical.not_not, Int.toNat_natCast, vrow_I, Arm.eta2, Fld.eta, Grp.eta] at h1
      obtain rfl : r = 6 := by omega
      have : uB s = none := findO_none.2 fun z hz e => by have h3 := hqr z hz e; have h4 := okBar_b hz; unfold codB at h3; omega
      try simp only [hH, stdH, Nat.le_refl, decide_eq_true_eq, decide_eq_false_iff_not, Bool.not_eq_true', Bool.not_eq_false', peta, ncast, Int.ofNat_eq_natCast, beq_iff_eq, bne_iff_ne, beq_eq_false_iff_ne, bne_eq_false_iff_eq, ne_eq, Classical.not_not, Int.toNat_natCast, vrow_I, Arm.eta2, Fld.eta, Grp.eta]
      rw [this]
      exact ⟨rfl, rfl, rfl, rfl, rfl⟩
noncomputable def e_l4Unbare : Entry := pureE 189 fun H a => match a with
  | [.lit (.string s)] => some (.tup [aT rowG H fun _ => (uB s).getD zG, .lit (.bool (H Bool fun _ => (uB s).isSome))], [])
  | _ => none
theorem eok_l4Unbare : EntryOk Tryz.prog e_l4Unbare := pureM_ok (by unfold isBody; kernel_rfl) (by
  intro a r ob e hob
  split at e
  · rename_i s
    simp only [Option.some.injEq, Prod.mk.injEq] at e
    obtain ⟨rfl, rfl⟩ := e
    exact ConN.args (.cons .rfl .nil) (c_l4Unbare s )
  · simp at e)
theorem c_l4Parse (s : ByteArray) (h0 : s.size ≤ 4000000) : ConN Tryz.prog 129 [.lit (.string s)] [] 0 (.tup [aT rowG stdH fun _ => (pG s).getD zG, .lit (.bool (stdH Bool fun _ => (pG s).isSome))]) [] [] := by
  have hB : Base Tryz.prog (tabΓ [e_l4Last, e_l4Unbare, e_l2Parse]) tab := base_of tabOk (ents_cons eok_l4Last <| ents_cons eok_l4Unbare <| ents_cons eok_l2Parse <| ents_nil)
  refine con_m (N := 30) hB (draw_ok hB mixed) Tryz.func129 rfl rfl (fun H => [.lit (.string s)]) (fun _ => []) 0 (fun H => .tup [aT rowG H fun _ => (pG s).getD zG, .lit (.bool (H Bool fun _ => (pG s).isSome))]) (fun H => []) (fun _ => []) 400 (by simp) (fun x hx => ?_) (by simp [lk]) (by omega) (by simp) ?_
  · simp only [List.mem_cons, List.not_mem_nil, or_false] at hx
    rcases hx with rfl
    · exact .lit
  intro X hX hX0 H hH
  conv in Fin.chk _ _ => cbv
  try simp only [Plain_rowsA, Plain_rowsB, Plain_rowsC, Plain_rowsF, Plain_rowsG, Plain_rowsI, Plain_rowsS, Plain_rowsU, Fin.satC_ret, Fin.satC_br, Fin.satC_need, Fin.satC_again, AllP, and_true, true_and, upd, List.length_nil, List.length_cons, Nat.zero_add, if_true, ncast, Int.ofNat_eq_natCast]
  subst hH
  simp only [stdH, Grp.eta]
  rw [pG_bar]
  have hp := pT_in (lst s).2
  cases hu : uB (lst s).1 with
  | none => exact ⟨h0, fun _ => ⟨rfl, rfl, rfl, rfl, rfl⟩, fun h => by simp at h⟩
  | some g =>
    by_cases hz : 0 < pT (lst s).2
    · have e : (pT (lst s).2 == 0) = false := by rw [beq_eq_false_iff_ne]; omega
      rw [e]
      simp only [if_pos hz]
      exact ⟨h0, fun h => by simp at h, fun _ => ⟨rfl, rfl, rfl, rfl, rfl⟩⟩
    · have e : (pT (lst s).2 == 0) = true := by rw [beq_iff_eq]; omega
      rw [e]
      simp only [if_neg hz]
      exact ⟨h0, fun _ => ⟨rfl, rfl, rfl, rfl, rfl⟩, fun h => by simp at h⟩
noncomputable def e_l4Parse : Entry := pureE 129 fun H a => match a with
  | [.lit (.string s)] => some (.tup [aT rowG H fun _ => (pG s).getD zG, .lit (.bool (H Bool fun _ => (pG s).isSome))], [H Prop fun _ => s.size ≤ 4000000])
  | _ => none
theorem eok_l4Parse : EntryOk Tryz.prog e_l4Parse := pureM_ok (by unfold isBody; kernel_rfl) (by
  intro a r ob e hob
  split at e
  · rename_i s
    simp only [Option.some.injEq, Prod.mk.injEq] at e
    obtain ⟨rfl, rfl⟩ := e
    exact ConN.args (.cons .rfl .nil) (c_l4Parse s hob.1)
  · simp at e)
def okUn (x : Od) : Bool := okO x && decide (x.t = 1)
theorem ordS_inj : ∀ x y : Od, okUn x = true → okUn y = true → ordS x.o x.l = ordS y.o y.l → x = y := fun x y hx hy e => by
  unfold okUn at hx hy
  simp only [Bool.and_eq_true, decide_eq_true_eq] at hx hy
  exact oT_inj x y hx.1 hy.1 (by unfold oT; rw [e, hx.2, hy.2])
noncomputable def uO (s : ByteArray) : Option Od := findO okUn (fun x => ordS x.o x.l) s
theorem uO_iff {s : ByteArray} {x : Od} : uO s = some x ↔ okUn x = true ∧ ordS x.o x.l = s := findO_iff ordS_inj
theorem okO_t {x : Od} {t : Int} (h : okO x = true) (ht : 1 ≤ t ∧ t ≤ 9) : okO ⟨x.o, x.l, t⟩ = true := by
  unfold okO inB at *
  simp only [Bool.and_eq_true, decide_eq_true_eq] at *
  exact ⟨h.1, h.2.1, ht⟩
theorem pO_bar (s : ByteArray) : pO s = match uO (lst s).1 with
    | some x => if 0 < pT (lst s).2 then some ⟨x.o, x.l, pT (lst s).2⟩ else none
    | none => none := by
  have eo : ∀ x : Od, oT x = ordS x.o x.l ++ (spB ++ wordOf tinL x.t) := fun _ => rfl
  cases e : pO s with
  | some g =>
    have hg := pO_iff.1 e
    obtain ⟨ho, hl, ht⟩ := okO_b hg.1
    have hs : lst s = (ordS g.o g.l, wordOf tinL g.t) := by rw [← hg.2, eo]; exact lst_at _ (nsp_tin _)
    have hu : uO (lst s).1 = some ⟨g.o, g.l, 1⟩ := by
      rw [hs]
      refine uO_iff.2 ⟨?_, rfl⟩
      unfold okUn
      rw [okO_t hg.1 (by omega)]; rfl
    rw [hu, hs]
    simp only [pT_w ht]
    rw [if_pos (by omega)]
  | none =>
    cases hu : uO (lst s).1 with
    | none => rfl
    | some g =>
      have hg := uO_iff.1 hu
      have ho : okO g = true := by have := hg.1; unfold okUn at this; simp only [Bool.and_eq_true] at this; exact this.1
      simp only
      by_cases hp : 0 < pT (lst s).2
      · exfalso
        have hin := pT_in (lst s).2
        rcases lst_spec s with ⟨h1, _⟩ | ⟨h1, _⟩
        · have hq : pO s = some ⟨g.o, g.l, pT (lst s).2⟩ := by
            refine pO_iff.2 ⟨okO_t ho (by omega), ?_⟩
            rw [eo]
            show ordS g.o g.l ++ (spB ++ wordOf tinL (pT (lst s).2)) = s
            rw [pT_at hp, hg.2, ← h1]
          rw [e] at hq; cases hq
        · have := ordS_pos g.o g.l
          rw [hg.2, h1] at this
          have e0 : ByteArray.empty.size = 0 := rfl
          simp only [e0] at this
          omega
      · rw [if_neg hp]
def codO (x : Od) : Int := (x.o - 1) * 5 + x.l
def frmO (s : ByteArray) (n : Int) : Prop := ∀ z, okUn z = true → ordS z.o z.l = s → n ≤ codO z
theorem okU_b {x : Od} (h : okUn x = true) : (1 ≤ x.o ∧ x.o ≤ 7) ∧ (0 ≤ x.l ∧ x.l ≤ 4) ∧ x.t = 1 := by
  unfold okUn at h
  simp only [Bool.and_eq_true, decide_eq_true_eq] at h
  have := okO_b h.1
  exact ⟨this.1, this.2.1, h.2⟩
theorem okU_of {o l : Int} (ho : 1 ≤ o ∧ o ≤ 7) (hl : 0 ≤ l ∧ l ≤ 4) : okUn ⟨o, l, 1⟩ = true := by
  unfold okUn okO inB; simp; omega
theorem frmO_0 (s : ByteArray) : frmO s ((0 : Nat) * 5) := fun z hz _ => by have := okU_b hz; unfold codO; omega
theorem frmO_t {s : ByteArray} {n : Int} (h : frmO s n) : frmO s (n + ((0 : Nat) : Int)) := by rw [show n + ((0 : Nat) : Int) = n by simp]; exact h
theorem frmO_s {s : ByteArray} {o l : Int} (ho : 1 ≤ o ∧ o ≤ 7) (hl : 0 ≤ l ∧ l ≤ 4) (h : frmO s ((o - 1) * 5 + l)) (hn : ¬ ordS o l = s) : frmO s ((o - 1) * 5 + l + 1) := fun z hz e => by
  have h1 := h z hz e
  have hb := okU_b hz
  rcases Int.lt_or_eq_of_le h1 with h2 | h2
  · omega
  · unfold codO at h2
    have e1 : z.o = o := by omega
    have e2 : z.l = l := by omega
    rw [e1, e2] at e
    exact absurd e hn
theorem c_l6Unord (s : ByteArray)  : ConN Tryz.prog 194 [.lit (.string s)] [] 0 (.tup [.lit (.int .i64 (stdH Int fun _ => ((uO s).getD zO).o)), .lit (.int .i64 (stdH Int fun _ => ((uO s).getD zO).l)), .lit (.bool (stdH Bool fun _ => (uO s).isSome))]) [] [] := by
  have hB : Base Tryz.prog (tabΓ [e_l6Ordinary]) tab := base_of tabOk (ents_cons eok_l6Ordinary <| ents_nil)
  refine con_m (N := 22) hB (draw_ok hB mixed) Tryz.func194 rfl rfl (fun H => [.lit (.string s)]) (fun _ => []) 0 (fun H => .tup [.lit (.int .i64 (H Int fun _ => ((uO s).getD zO).o)), .lit (.int .i64 (H Int fun _ => ((uO s).getD zO).l)), .lit (.bool (H Bool fun _ => (uO s).isSome))]) (fun H => []) (fun _ => []) 400 (by simp) (fun x hx => ?_) (by simp [lk]) (by omega) (by simp) ?_
  · simp only [List.mem_cons, List.not_mem_nil, or_false] at hx
    rcases hx with rfl
    · exact .lit
  intro X hX hX0 H hH
  conv in Fin.chk _ _ => cbv
  try simp only [Plain_rowsA, Plain_rowsB, Plain_rowsC, Plain_rowsF, Plain_rowsG, Plain_rowsI, Plain_rowsS, Plain_rowsU, Fin.satC_ret, Fin.satC_br, Fin.satC_need, Fin.satC_again, AllP, and_true, true_and, upd, List.length_nil, List.length_cons, Nat.zero_add, if_true, ncast, Int.ofNat_eq_natCast]
  refine loop_a hB (draw_ok hB mixed) hX hX0 hH false (ι := { r : Nat // r ≤ 7 ∧ frmO s ((r : Nat) * 5) }) 400 (fun r => [.i (H Int fun _ => 0), .i (H Int fun _ => 0), .b (H Bool fun _ => false), .i (H Int fun _ => ((r.1 : Nat) : Int) + 1)]) (fun r => 7 - r.1) (⟨0, by omega, frmO_0 s⟩) ?_ ?_
  · (conv in matchSt _ _ _ _ => cbv); simp only [AllG, AllP, and_true, hH, stdH, Nat.le_refl, ncast, Int.ofNat_eq_natCast, vrow_I, Arm.eta2, Fld.eta, Grp.eta]
    (repeat' (first | with_reducible exact True.intro | rfl | omega | refine And.intro ?_ ?_ | trivial))
  · intro I hI r
    conv in Fin.chk _ _ => cbv
    try simp only [Plain_rowsA, Plain_rowsB, Plain_rowsC, Plain_rowsF, Plain_rowsG, Plain_rowsI, Plain_rowsS, Plain_rowsU, Fin.satC_ret, Fin.satC_br, Fin.satC_need, Fin.satC_again, AllP, and_true, true_and, upd, List.length_nil, List.length_cons, Nat.zero_add, if_true, ncast, Int.ofNat_eq_natCast]
    obtain ⟨r, hr, hqr⟩ := r
    refine ⟨fun h1 => ?_, fun h1 => ?_⟩
    · simp only [hH, stdH, Nat.le_refl, decide_eq_true_eq, decide_eq_false_iff_not, Bool.not_eq_true', Bool.not_eq_false', peta, ncast, Int.ofNat_eq_natCast, beq_iff_eq, bne_iff_ne, beq_eq_false_iff_ne, bne_eq_false_iff_eq, ne_eq, Classical.not_not, Int.toNat_natCast, vrow_I, Arm.eta2, Fld.eta, Grp.eta] at h1
      refine loop_a hB (draw_ok hB mixed) hX hX0 hH true (ι := { l : Nat // l ≤ 5 ∧ frmO s ((r : Nat) * 5 + (l : Nat)) }) 400 (fun l => [.i (H Int fun _ => 0), .i (H Int fun _ => 0), .b (H Bool fun _ => false), .i (H Int fun _ => ((l.1 : Nat) : Int))]) (fun l => 5 - l.1) (⟨0, Nat.zero_le _, frmO_t hqr⟩) ?_ ?_
      · (conv in matchSt _ _ _ _ => cbv); simp only [AllG, AllP, and_true, hH, stdH, Nat.le_refl, ncast, Int.ofNat_eq_natCast, vrow_I, Arm.eta2, Fld.eta, Grp.eta]
        (repeat' (first | with_reducible exact True.intro | rfl | omega | refine And.intro ?_ ?_ | trivial))
      · intro J hJ l
        conv in Fin.chk _ _ => cbv
        try simp only [Plain_rowsA, Plain_rowsB, Plain_rowsC, Plain_rowsF, Plain_rowsG, Plain_rowsI, Plain_rowsS, Plain_rowsU, Fin.satC_ret, Fin.satC_br, Fin.satC_need, Fin.satC_again, AllP, and_true, true_and, upd, List.length_nil, List.length_cons, Nat.zero_add, if_true, ncast, Int.ofNat_eq_natCast]
        obtain ⟨l, hl, hql⟩ := l
        refine ⟨fun h4 => ⟨?_, fun h5 => ?_, fun h5 => ?_⟩, fun h4 => ?_⟩
        · simp only [hH, stdH, Nat.le_refl, decide_eq_true_eq, decide_eq_false_iff_not, Bool.not_eq_true', Bool.not_eq_false', peta, ncast, Int.ofNat_eq_natCast, beq_iff_eq, bne_iff_ne, beq_eq_false_iff_ne, bne_eq_false_iff_eq, ne_eq, Classical.not_not, Int.toNat_natCast, vrow_I, Arm.eta2, Fld.eta, Grp.eta] at h4
          try simp only [hH, stdH, Nat.le_refl, decide_eq_true_eq, decide_eq_false_iff_not, Bool.not_eq_true', Bool.not_eq_false', peta, ncast, Int.ofNat_eq_natCast, beq_iff_eq, bne_iff_ne, beq_eq_false_iff_ne, bne_eq_false_iff_eq, ne_eq, Classical.not_not, Int.toNat_natCast, vrow_I, Arm.eta2, Fld.eta, Grp.eta]
          omega
        · simp only [hH, stdH, Nat.le_refl, decide_eq_true_eq, decide_eq_false_iff_not, Bool.not_eq_true', Bool.not_eq_false', peta, ncast, Int.ofNat_eq_natCast, beq_iff_eq, bne_iff_ne, beq_eq_false_iff_ne, bne_eq_false_iff_eq, ne_eq, Classical.not_not, Int.toNat_natCast, vrow_I, Arm.eta2, Fld.eta, Grp.eta] at h4
          simp only [hH, stdH, beqT, decide_eq_true_eq] at h5 ⊢
          have hu : okUn ⟨(r : Int) + 1, (l : Int), 1⟩ = true := okU_of (by omega) (by omega)
          rw [(uO_iff (x := ⟨(r : Int) + 1, (l : Int), 1⟩)).2 ⟨hu, h5⟩]
          exact ⟨rfl, rfl, rfl⟩
        · simp only [hH, stdH, Nat.le_refl, decide_eq_true_eq, decide_eq_false_iff_not, Bool.not_eq_true', Bool.not_eq_false', peta, ncast, Int.ofNat_eq_natCast, beq_iff_eq, bne_iff_ne, beq_eq_false_iff_ne, bne_eq_false_iff_eq, ne_eq, Classical.not_not, Int.toNat_natCast, vrow_I, Arm.eta2, Fld.eta, Grp.eta] at h4
          simp only [hH, stdH, beqT, decide_eq_false_iff_not] at h5
          refine ⟨⟨l + 1, by omega, ?_⟩, by simp only; omega, ?_⟩
          · have := frmO_s (s := s) (o := (r : Int) + 1) (l := (l : Nat)) (by omega) (by omega) (by rw [show ((r : Int) + 1 - 1) * 5 + (l : Int) = (r : Int) * 5 + (l : Int) by omega]; exact hql) h5
            rw [show (r : Int) * 5 + ((l + 1 : Nat) : Int) = ((r : Int) + 1 - 1) * 5 + (l : Int) + 1 by omega]
            exact this
          · rw [hJ]
            (conv in matchSt _ _ _ _ => cbv); simp only [AllG, AllP, and_true, hH, stdH, Nat.le_refl, ncast, Int.ofNat_eq_natCast, vrow_I, Arm.eta2, Fld.eta, Grp.eta]
            rw [w1 (by omega)]
            (repeat' (first | with_reducible exact True.intro | rfl | omega | refine And.intro ?_ ?_ | trivial))
        · simp only [hH, stdH, Nat.le_refl, decide_eq_true_eq, decide_eq_false_iff_not, Bool.not_eq_true', Bool.not_eq_false', peta, ncast, Int.ofNat_eq_natCast, beq_iff_eq, bne_iff_ne, beq_eq_false_iff_ne, bne_eq_false_iff_eq, ne_eq, Classical.not_not, Int.toNat_natCast, vrow_I, Arm.eta2, Fld.eta, Grp.eta] at h4
          obtain rfl : l = 5 := by omega
          rw [if_neg (by decide)]
          refine ⟨⟨r + 1, by omega, ?_⟩, by simp only; omega, ?_⟩
          · rw [show ((r + 1 : Nat) : Int) * 5 = (r : Int) * 5 + ((5 : Nat) : Int) by omega]
            exact hql
          · rw [hI]
            (conv in matchSt _ _ _ _ => cbv); simp only [AllG, AllP, and_true, hH, stdH, Nat.le_refl, ncast, Int.ofNat_eq_natCast, vrow_I, Arm.eta2, Fld.eta, Grp.eta]
            rw [show IntKind.i64.wrap ((r : Int) + 1 + 1) = ((r + 1 : Nat) : Int) + 1 by rw [wi] <;> omega]
            (repeat' (first | with_reducible exact True.intro | rfl | omega | refine And.intro ?_ ?_ | trivial))
    · simp only [hH, stdH, Nat.le_refl, decide_eq_true_eq, decide_eq_false_iff_not, Bool.not_eq_true', Bool.not_eq_false', peta, ncast, Int.ofNat_eq_natCast, beq_iff_eq, bne_iff_ne, beq_eq_false_iff_ne, bne_eq_false_iff_eq, ne_eq, Classical.not_not, Int.toNat_natCast, vrow_I, Arm.eta2, Fld.eta, Grp.eta] at h1
      obtain rfl : r = 7 := by omega
      have : uO s = none := findO_none.2 fun z hz e => by have h3 := hqr z hz e; have h4 := okU_b hz; unfold codO at h3; omega
      try simp only [hH, stdH, Nat.le_refl, decide_eq_true_eq, decide_eq_false_iff_not, Bool.not_eq_true', Bool.not_eq_false', peta, ncast, Int.ofNat_eq_natCast, beq_iff_eq, bne_iff_ne, beq_eq_false_iff_ne, bne_eq_false_iff_eq, ne_eq, Classical.not_not, Int.toNat_natCast, vrow_I, Arm.eta2, Fld.eta, Grp.eta]
      rw [this]
      exact ⟨rfl, rfl, rfl⟩
noncomputable def e_l6Unord : Entry := pureE 194 fun H a => match a with
  | [.lit (.string s)] => some (.tup [.lit (.int .i64 (H Int fun _ => ((uO s).getD zO).o)), .lit (.int .i64 (H Int fun _ => ((uO s).getD zO).l)), .lit (.bool (H Bool fun _ => (uO s).isSome))], [])
  | _ => none
theorem eok_l6Unord : EntryOk Tryz.prog e_l6Unord := pureM_ok (by unfold isBody; kernel_rfl) (by
  intro a r ob e hob
  split at e
  · rename_i s
    simp only [Option.some.injEq, Prod.mk.injEq] at e
    obtain ⟨rfl, rfl⟩ := e
    exact ConN.args (.cons .rfl .nil) (c_l6Unord s )
  · simp at e)
theorem c_parseOS (s : ByteArray) (h0 : s.size ≤ 4000000) : ConN Tryz.prog 131 [.lit (.string s)] [] 0 (.tup [.lit (.int .i64 (stdH Int fun _ => ((pO s).getD zO).o)), .lit (.int .i64 (stdH Int fun _ => ((pO s).getD zO).l)), .lit (.int .i64 (stdH Int fun _ => ((pO s).getD zO).t)), .lit (.bool (stdH Bool fun _ => (pO s).isSome))]) [] [] := by
  have hB : Base Tryz.prog (tabΓ [e_l4Last, e_l6Unord, e_l2Parse]) tab := base_of tabOk (ents_cons eok_l4Last <| ents_cons eok_l6Unord <| ents_cons eok_l2Parse <| ents_nil)
  refine con_m (N := 33) hB (draw_ok hB mixed) Tryz.func131 rfl rfl (fun H => [.lit (.string s)]) (fun _ => []) 0 (fun H => .tup [.lit (.int .i64 (H Int fun _ => ((pO s).getD zO).o)), .lit (.int .i64 (H Int fun _ => ((pO s).getD zO).l)), .lit (.int .i64 (H Int fun _ => ((pO s).getD zO).t)), .lit (.bool (H Bool fun _ => (pO s).isSome))]) (fun H => []) (fun _ => []) 200 (by simp) (fun x hx => ?_) (by simp [lk]) (by omega) (by simp) ?_
  · simp only [List.mem_cons, List.not_mem_nil, or_false] at hx
    rcases hx with rfl
    · exact .lit
  intro X hX hX0 H hH
  conv in Fin.chk _ _ => cbv
  try simp only [Plain_rowsA, Plain_rowsB, Plain_rowsC, Plain_rowsF, Plain_rowsG, Plain_rowsI, Plain_rowsS, Plain_rowsU, Fin.satC_ret, Fin.satC_br, Fin.satC_need, Fin.satC_again, AllP, and_true, true_and, upd, List.length_nil, List.length_cons, Nat.zero_add, if_true, ncast, Int.ofNat_eq_natCast]
  subst hH
  simp only [stdH]
  rw [pO_bar]
  have hp := pT_in (lst s).2
  cases hu : uO (lst s).1 with
  | none => exact ⟨h0, fun _ => ⟨rfl, rfl, rfl, rfl⟩, fun h => by simp at h⟩
  | some g =>
    by_cases hz : 0 < pT (lst s).2
    · have e : (pT (lst s).2 == 0) = false := by rw [beq_eq_false_iff_ne]; omega
      rw [e]
      simp only [if_pos hz]
      exact ⟨h0, fun h => by simp at h, fun _ => ⟨rfl, rfl, rfl, rfl⟩⟩
    · have e : (pT (lst s).2 == 0) = true := by rw [beq_iff_eq]; omega
      rw [e]
      simp only [if_neg hz]
      exact ⟨h0, fun _ => ⟨rfl, rfl, rfl, rfl⟩, fun h => by simp at h⟩
noncomputable def e_parseOS : Entry := pureE 131 fun H a => match a with
  | [.lit (.string s)] => some (.tup [.lit (.int .i64 (H Int fun _ => ((pO s).getD zO).o)), .lit (.int .i64 (H Int fun _ => ((pO s).getD zO).l)), .lit (.int .i64 (H Int fun _ => ((pO s).getD zO).t)), .lit (.bool (H Bool fun _ => (pO s).isSome))], [H Prop fun _ => s.size ≤ 4000000])
  | _ => none
theorem eok_parseOS : EntryOk Tryz.prog e_parseOS := pureM_ok (by unfold isBody; kernel_rfl) (by
  intro a r ob e hob
  split at e
  · rename_i s
    simp only [Option.some.injEq, Prod.mk.injEq] at e
    obtain ⟨rfl, rfl⟩ := e
    exact ConN.args (.cons .rfl .nil) (c_parseOS s hob.1)
  · simp at e)

end Go.Proofs.YtbnohmfapmeaaaaGreatDoor.AM

