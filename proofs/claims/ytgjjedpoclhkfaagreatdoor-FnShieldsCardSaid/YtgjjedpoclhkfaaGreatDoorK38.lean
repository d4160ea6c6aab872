/- Lemmas and contracts (Ssh); conditions: none. -/
import Derived.Test.YtgjjedpoclhkfaaGreatDoorK03
import Derived.Test.YtgjjedpoclhkfaaGreatDoorK37
set_option linter.unusedVariables false
set_option linter.unusedSimpArgs false
set_option maxRecDepth 100000
set_option maxHeartbeats 4000000
set_option cbv.maxSteps 3000000
namespace Go.Proofs.YtgjjedpoclhkfaaGreatDoor.AM
/- Simpler shields; conditions: none. -/
def smpH (s : Shd) : Shd := if (fs1 s.parts s.parts.length).length = 1 then ⟨1, s.parts.take 1⟩ else if s.mode = 3 ∧ s.parts.getD 0 default = s.parts.getD 2 default ∧ s.parts.getD 1 default = s.parts.getD 3 default then ⟨2, s.parts.take 2⟩ else s
def smpR (s : Shd) : Shd := if okH s = true then smpH s else shZ
theorem smpR_n {s : Shd} (h : okH s = false) : smpR s = shZ := if_neg (by rw [h]; simp)
theorem smpR_y {s : Shd} (h : okH s = true) : smpR s = smpH s := if_pos h
theorem pre_rows {L : List Arm} {k : Nat} (h : k ≤ L.length) : RowsEq 15 (L.take k).length (rowsA stdH fun _ => L.take k) k (rowsA stdH fun _ => L) := by
  have e : ∀ j, j < k → (L.take k).getD j default = L.getD j default := fun j hj => by
    rw [List.getD_eq_getElem?_getD, List.getElem?_take, if_pos hj, List.getD_eq_getElem?_getD]
  refine ⟨by rw [List.length_take]; omega, fun j hj => ⟨?_, rfl, rows_blx okRA _ j⟩⟩
  rw [List.length_take] at hj
  show rowsA stdH (fun _ => L.take k) j = rowsA stdH (fun _ => L) j
  unfold rowsA
  simp only [stdH, e j (by omega)]
theorem take_1 {L : List Arm} (h : 1 ≤ L.length) : L.take 1 = [L.getD 0 default] := by
  match L, h with
  | a :: r, _ => rfl
theorem take_2 {L : List Arm} (h : 2 ≤ L.length) : L.take 2 = [L.getD 0 default, L.getD 1 default] := by
  match L, h with
  | a :: b :: r, _ => rfl
theorem okB_1 {n : Nat} (h : 1 ≤ n) : okB n none (some 1) := ⟨trivial, by decide, Nat.zero_le _, h⟩
theorem okB_2 {n : Nat} (h : 2 ≤ n) : okB n none (some 2) := ⟨trivial, by decide, Nat.zero_le _, h⟩
theorem lit_rows {L M : List Arm} {cs : List AV} {n : Nat} (e : L = M) (hn : M.length = n) (h : cs = M.flatMap fun x => rowA.cells stdH fun _ => x) : RowsEq 15 L.length (rowsA stdH fun _ => L) n (rowsOf 15 cs) := by
  subst e
  exact RowsEq.lit okRA hn h
theorem c_simplH (s : Shd) (h0 : s.parts.length ≤ 1000000) : ConN Tryz.prog 19 [aT rowH stdH fun _ => s] [] 0 (.tup [aT rowH stdH fun _ => smpR s, .lit (.bool (stdH Bool fun _ => okH s))]) [] [] := by
  have hB : Base Tryz.prog (tabΓ [e_validH, e_differentH]) tabA := base_of tabOkA (ents_cons eok_validH <| ents_cons eok_differentH <| ents_nil)
  refine con_m (N := 50) hB (draw_ok hB mixed) Tryz.func19 rfl rfl (fun H => [aT rowH H fun _ => s]) (fun _ => []) 0 (fun H => .tup [aT rowH H fun _ => smpR s, .lit (.bool (H Bool fun _ => okH s))]) (fun H => []) (fun _ => []) 300 (by simp) (fun x hx => ?_) (by simp [lk]) (by omega) (by simp) ?_
  · simp only [List.mem_cons, List.not_mem_nil, or_false] at hx
    rcases hx with rfl
    · exact aT_bl okRH _ _
  intro X hX hX0 H hH
  conv in Fin.chk _ _ => cbv
  try simp only [Plain_rowsA, Plain_rowsB, Plain_rowsC, Plain_rowsF, Plain_rowsG, Plain_rowsI, Plain_rowsS, Plain_rowsU, Fin.satC_ret, Fin.satC_br, Fin.satC_need, Fin.satC_again, AllP, and_true, true_and, upd, List.length_nil, List.length_cons, Nat.zero_add, if_true, ncast, Int.ofNat_eq_natCast]
  subst hH
  simp only [stdH, Tl_A, eqAE, bif_and, beq_iff_eq, beq_eq_false_iff_ne, ne_eq, Bool.and_eq_true, Bool.and_eq_false_iff, decide_eq_true_eq, decide_eq_false_iff_not, Bool.not_eq_true', Bool.not_eq_false', and_assoc, or_assoc]
  have z0 : Int.toNat 0 = 0 := rfl
  have z1 : Int.toNat 1 = 1 := rfl
  have z2 : Int.toNat 2 = 2 := rfl
  have z3 : Int.toNat 3 = 3 := rfl
  have e0 : app 0 (rowsOf 15 []) (rowsA stdH fun _ => s.parts) = rowsA stdH fun _ => s.parts := rfl
  simp only [z0, z1, z2, z3, e0, Shd.eta]
  cases hk : okH s with
  | false =>
    simp only [smpR_n hk]
    repeat' (first | exact trivial | rfl | omega | exact Shp_A _ _ | refine And.intro ?_ ?_ | (intro h; first | (cases h; done) | skip))
  | true =>
    obtain ⟨g1, g2, g3⟩ := okH_inQ hk
    have hl : 1 ≤ s.parts.length ∧ s.parts.length ≤ 4 ∧ (s.mode = 3 → s.parts.length = 4) := by
      unfold cntH at g2
      refine ⟨?_, ?_, fun q => ?_⟩
      · repeat' split at g2
        all_goals omega
      · repeat' split at g2
        all_goals omega
      · rw [q] at g2
        simp at g2
        omega
    rw [smpR_y hk]
    by_cases h1 : (fs1 s.parts s.parts.length).length = 1
    · have h1' : ((fs1 s.parts s.parts.length).length : Int) = 1 := by omega
      have hs : smpH s = ⟨1, s.parts.take 1⟩ := if_pos h1
      simp only [hs, h1', not_true_eq_false, false_implies, true_implies, and_true]
      repeat' (first | exact trivial | rfl | omega | exact Shp_A _ _ | exact okB_1 hl.1 | exact (show 1 ≤ s.parts.length from hl.1) | exact pre_rows hl.1 | exact lit_rows (take_1 hl.1) rfl rfl | refine And.intro ?_ ?_ | (intro h; first | (cases h; done) | skip))
    · have h1' : ¬ ((fs1 s.parts s.parts.length).length : Int) = 1 := by omega
      by_cases h2 : s.mode = 3 ∧ s.parts.getD 0 default = s.parts.getD 2 default ∧ s.parts.getD 1 default = s.parts.getD 3 default
      · have hs : smpH s = ⟨2, s.parts.take 2⟩ := (if_neg h1).trans (if_pos h2)
        have h4 := hl.2.2 h2.1
        simp only [hs, h1', not_false_eq_true, false_implies, true_implies, true_and]
        repeat' (first | exact trivial | rfl | omega | exact Shp_A _ _ | exact okB_2 (by omega) | exact (show 2 ≤ s.parts.length by omega) | exact pre_rows (k := 2) (by omega) | exact lit_rows (take_2 (by omega)) rfl rfl | refine And.intro ?_ ?_ | (intro h; first | (cases h; done) | (exfalso; rcases h with h | h | h; exact h h2.1; exact h h2.2.1; exact h h2.2.2) | skip))
      · have hs : smpH s = s := (if_neg h1).trans (if_neg h2)
        simp only [hs, h1', not_false_eq_true, false_implies, true_implies, true_and]
        repeat' (first | exact trivial | rfl | omega | exact Shp_A _ _ | exact RowsEq.self okRA | refine And.intro ?_ ?_ | (intro h; first | (cases h; done) | (exact absurd h h2) | skip))
noncomputable def e_simplH : Entry := pureE 19 fun H a => match a with
  | [.agg [.lit (.int .i64 s0), .vec 15 s1n s1f]] => some (.tup [aT rowH H fun _ => smpR (⟨s0, (Tl rowA s1n s1f)⟩ : Shd), .lit (.bool (H Bool fun _ => okH (⟨s0, (Tl rowA s1n s1f)⟩ : Shd)))], [H Prop fun _ => Shp rowA s1n s1f, H Prop fun _ => (⟨s0, (Tl rowA s1n s1f)⟩ : Shd).parts.length ≤ 1000000])
  | _ => none
theorem eok_simplH : EntryOk Tryz.prog e_simplH := pureM_ok (by unfold isBody; kernel_rfl) (by
  intro a r ob e hob
  split at e
  · rename_i s0 s1n s1f
    simp only [Option.some.injEq, Prod.mk.injEq] at e
    obtain ⟨rfl, rfl⟩ := e
    exact ConN.args (.cons (.agg (.cons .rfl (.cons (.toT okRA rfl hob.1) .nil))) .nil) (c_simplH (⟨s0, (Tl rowA s1n s1f)⟩ : Shd) hob.2.1)
  · simp at e)
theorem c_simplS (s : Shd) (h0 : s.parts.length ≤ 1000000) : ConN Tryz.prog 20 [aT rowH stdH fun _ => s] [] 0 (.tup [aT rowH stdH fun _ => smpR s, .lit (.bool (stdH Bool fun _ => okH s))]) [] [] := by
  have hB : Base Tryz.prog (tabΓ [e_l20Good, e_differentS]) tabA := base_of tabOkA (ents_cons eok_l20Good <| ents_cons eok_differentS <| ents_nil)
  refine con_m (N := 61) hB (draw_ok hB mixed) Tryz.func20 rfl rfl (fun H => [aT rowH H fun _ => s]) (fun _ => []) 0 (fun H => .tup [aT rowH H fun _ => smpR s, .lit (.bool (H Bool fun _ => okH s))]) (fun H => []) (fun _ => []) 300 (by simp) (fun x hx => ?_) (by simp [lk]) (by omega) (by simp) ?_
  · simp only [List.mem_cons, List.not_mem_nil, or_false] at hx
    rcases hx with rfl
    · exact aT_bl okRH _ _
  intro X hX hX0 H hH
  conv in Fin.chk _ _ => cbv
  try simp only [Plain_rowsA, Plain_rowsB, Plain_rowsC, Plain_rowsF, Plain_rowsG, Plain_rowsI, Plain_rowsS, Plain_rowsU, Fin.satC_ret, Fin.satC_br, Fin.satC_need, Fin.satC_again, AllP, and_true, true_and, upd, List.length_nil, List.length_cons, Nat.zero_add, if_true, ncast, Int.ofNat_eq_natCast]
  subst hH
  simp only [stdH, Tl_A, eqAE, bif_and, beq_iff_eq, beq_eq_false_iff_ne, ne_eq, Bool.and_eq_true, Bool.and_eq_false_iff, decide_eq_true_eq, decide_eq_false_iff_not, Bool.not_eq_true', Bool.not_eq_false', and_assoc, or_assoc]
  have z0 : Int.toNat 0 = 0 := rfl
  have z1 : Int.toNat 1 = 1 := rfl
  have z2 : Int.toNat 2 = 2 := rfl
  have z3 : Int.toNat 3 = 3 := rfl
  have e0 : app 0 (rowsOf 15 []) (rowsA stdH fun _ => s.parts) = rowsA stdH fun _ => s.parts := rfl
  simp only [z0, z1, z2, z3, e0, Shd.eta]
  cases hk : okH s with
  | false =>
    simp only [smpR_n hk]
    repeat' (first | exact trivial | rfl | omega | exact Shp_A _ _ | refine And.intro ?_ ?_ | (intro h; first | (cases h; done) | skip))
  | true =>
    obtain ⟨g1, g2, g3⟩ := okH_inQ hk
    have hl : 1 ≤ s.parts.length ∧ s.parts.length ≤ 4 ∧ (s.mode = 3 → s.parts.length = 4) := by
      unfold cntH at g2
      refine ⟨?_, ?_, fun q => ?_⟩
      · repeat' split at g2
        all_goals omega
      · repeat' split at g2
        all_goals omega
      · rw [q] at g2
        simp at g2
        omega
    rw [smpR_y hk]
    by_cases h1 : (fs1 s.parts s.parts.length).length = 1
    · have h1' : ((fs1 s.parts s.parts.length).length : Int) = 1 := by omega
      have hs : smpH s = ⟨1, s.parts.take 1⟩ := if_pos h1
      simp only [hs, h1', not_true_eq_false, false_implies, true_implies, and_true]
      repeat' (first | exact trivial | rfl | omega | exact Shp_A _ _ | exact okB_1 hl.1 | exact (show 1 ≤ s.parts.length from hl.1) | exact pre_rows hl.1 | exact lit_rows (take_1 hl.1) rfl rfl | refine And.intro ?_ ?_ | (intro h; first | (cases h; done) | skip))
    · have h1' : ¬ ((fs1 s.parts s.parts.length).length : Int) = 1 := by omega
      by_cases h2 : s.mode = 3 ∧ s.parts.getD 0 default = s.parts.getD 2 default ∧ s.parts.getD 1 default = s.parts.getD 3 default
      · have hs : smpH s = ⟨2, s.parts.take 2⟩ := (if_neg h1).trans (if_pos h2)
        have h4 := hl.2.2 h2.1
        simp only [hs, h1', not_false_eq_true, false_implies, true_implies, true_and]
        repeat' (first | exact trivial | rfl | omega | exact Shp_A _ _ | exact okB_2 (by omega) | exact (show 2 ≤ s.parts.length by omega) | exact pre_rows (k := 2) (by omega) | exact lit_rows (take_2 (by omega)) rfl rfl | refine And.intro ?_ ?_ | (intro h; first | (cases h; done) | (exfalso; rcases h with h | h | h; exact h h2.1; exact h h2.2.1; exact h h2.2.2) | skip))
      · have hs : smpH s = s := (if_neg h1).trans (if_neg h2)
        simp only [hs, h1', not_false_eq_true, false_implies, true_implies, true_and]
        repeat' (first | exact trivial | rfl | omega | exact Shp_A _ _ | exact RowsEq.self okRA | refine And.intro ?_ ?_ | (intro h; first | (cases h; done) | (exact absurd h h2) | skip))
noncomputable def e_simplS : Entry := pureE 20 fun H a => match a with
  | [.agg [.lit (.int .i64 s0), .vec 15 s1n s1f]] => some (.tup [aT rowH H fun _ => smpR (⟨s0, (Tl rowA s1n s1f)⟩ : Shd), .lit (.bool (H Bool fun _ => okH (⟨s0, (Tl rowA s1n s1f)⟩ : Shd)))], [H Prop fun _ => Shp rowA s1n s1f, H Prop fun _ => (⟨s0, (Tl rowA s1n s1f)⟩ : Shd).parts.length ≤ 1000000])
  | _ => none
theorem eok_simplS : EntryOk Tryz.prog e_simplS := pureM_ok (by unfold isBody; kernel_rfl) (by
  intro a r ob e hob
  split at e
  · rename_i s0 s1n s1f
    simp only [Option.some.injEq, Prod.mk.injEq] at e
    obtain ⟨rfl, rfl⟩ := e
    exact ConN.args (.cons (.agg (.cons .rfl (.cons (.toT okRA rfl hob.1) .nil))) .nil) (c_simplS (⟨s0, (Tl rowA s1n s1f)⟩ : Shd) hob.2.1)
  · simp at e)
theorem c_validHS (s : Shd) (h0 : s.parts.length ≤ 2000000) : ConN Tryz.prog 15 [aT rowH stdH fun _ => s] [] 0 (.lit (.bool (stdH Bool fun _ => okH s))) [] [] := by
  have hB : Base Tryz.prog (tabΓ [e_l20Good]) tab := base_of tabOk (ents_cons eok_l20Good <| ents_nil)
  refine con_m (N := 5) hB (draw_ok hB mixed) Tryz.func15 rfl rfl (fun H => [aT rowH H fun _ => s]) (fun _ => []) 0 (fun H => .lit (.bool (H Bool fun _ => okH s))) (fun H => []) (fun _ => []) 60 (by simp) (fun x hx => ?_) (by simp [lk]) (by omega) (by simp) ?_
  · simp only [List.mem_cons, List.not_mem_nil, or_false] at hx
    rcases hx with rfl
    · exact aT_bl okRH _ _
  intro X hX hX0 H hH
  conv in Fin.chk _ _ => cbv
  try simp only [Plain_rowsA, Plain_rowsB, Plain_rowsC, Plain_rowsF, Plain_rowsG, Plain_rowsI, Plain_rowsS, Plain_rowsU, Fin.satC_ret, Fin.satC_br, Fin.satC_need, Fin.satC_again, AllP, and_true, true_and, upd, List.length_nil, List.length_cons, Nat.zero_add, if_true, ncast, Int.ofNat_eq_natCast]
  subst hH
  simp only [stdH, Tl_A]
  exact ⟨⟨Shp_A _ _, h0⟩, trivial⟩
noncomputable def e_validHS : Entry := pureE 15 fun H a => match a with
  | [.agg [.lit (.int .i64 s0), .vec 15 s1n s1f]] => some (.lit (.bool (H Bool fun _ => okH (⟨s0, (Tl rowA s1n s1f)⟩ : Shd))), [H Prop fun _ => Shp rowA s1n s1f, H Prop fun _ => (⟨s0, (Tl rowA s1n s1f)⟩ : Shd).parts.length ≤ 2000000])
  | _ => none
theorem eok_validHS : EntryOk Tryz.prog e_validHS := pureM_ok (by unfold isBody; kernel_rfl) (by
  intro a r ob e hob
  split at e
  · rename_i s0 s1n s1f
    simp only [Option.some.injEq, Prod.mk.injEq] at e
    obtain ⟨rfl, rfl⟩ := e
    exact ConN.args (.cons (.agg (.cons .rfl (.cons (.toT okRA rfl hob.1) .nil))) .nil) (c_validHS (⟨s0, (Tl rowA s1n s1f)⟩ : Shd) hob.2.1)
  · simp at e)

end Go.Proofs.YtgjjedpoclhkfaaGreatDoor.AM

