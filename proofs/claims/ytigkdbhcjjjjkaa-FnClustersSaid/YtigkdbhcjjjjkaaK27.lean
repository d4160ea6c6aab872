/- Lemmas and contracts (Clr); conditions: none. -/
import Derived.Test.YtigkdbhcjjjjkaaK04
import Derived.Test.YtigkdbhcjjjjkaaK15
import Derived.Test.YtigkdbhcjjjjkaaK18
set_option linter.unusedVariables false
set_option linter.unusedSimpArgs false
set_option linter.unusedVariables false
set_option linter.unusedSimpArgs false
set_option maxRecDepth 100000
set_option maxHeartbeats 4000000
set_option cbv.maxSteps 3000000
namespace Go.Proofs.Ytigkdbhcjjjjkaa.AM
/- Lists of arms to be parted are drawn; conditions: none. -/
structure ClD where
  l : List Arm
  t : Int
deriving Inhabited
def r_DrawClusters (n : Nat) (H : Hold) (y : Unit → ClD) : AV := .tup [.vec 15 (H Nat fun _ => ((y ()).l).length) (rowsA H fun _ => (y ()).l), .lit (.int .i64 (H Int fun _ => (y ()).t))]
def nb_DrawClusters (H : Hold) (y : Unit → ClD) : List Blk := []
theorem x_DrawClusters (c : Cd) : ∃ y, DrfM Try.prog 6 r_DrawClusters nb_DrawClusters (fun y => y.l.length ≤ 24) c y := by
  have hB : Base Try.prog (tabΓ [e_armsList c, e_among c]) tab := base_of tabOk (ents_cons (eok_armsList c) <| ents_cons (eok_among c) <| ents_nil)
  refine drfM_ok (N := 13) hB (draw_ok hB mixed) Try.func6 rfl rfl r_DrawClusters nb_DrawClusters (fun y => y.l.length ≤ 24) c 200 (by simp) ?_
  intro H hH
  conv in finish _ _ _ _ _ _ _ _ => cbv
  simp only [Fin.sat0, AllP, and_true, true_and, ncast, Int.ofNat_eq_natCast, heta hH]
  have h : Bd 380 (0, 0) := ⟨by decide, by decide⟩
  obtain ⟨a1, l1⟩ := p_armsList c (0, 0) h.mono
  have b1 := a1.bd h (by omega : 378 + 2 ≤ 380)
  refine ⟨(by rw [hH]; exact h.mono), ⟨(by rw [hH]; exact b1.mono), ?_⟩, ⟨(F_armsList c (0, 0)).1, (F_among c 7 (ints (rowsOf 1 [.lit (.int .i64 0), .lit (.int .i64 1), .lit (.int .i64 2), .lit (.int .i64 3), .lit (.int .i64 10), .lit (.int .i64 11), .lit (.int .i64 (-1))])) (F_armsList c (0, 0)).2).1⟩, l1, ?_⟩
  · try simp only [hH, stdH, Nat.le_refl, decide_eq_true_eq, decide_eq_false_iff_not, Bool.not_eq_true', Bool.not_eq_false', peta, ncast, Int.ofNat_eq_natCast, beq_iff_eq, bne_iff_ne, beq_eq_false_iff_ne, bne_eq_false_iff_eq, ne_eq, Classical.not_not, Int.toNat_natCast, vrow_I, Arm.eta2, Fld.eta, Grp.eta]
    refine ⟨fun j hj => ?_, by omega, by omega⟩
    rcases (by omega : j = 0 ∨ j = 1 ∨ j = 2 ∨ j = 3 ∨ j = 4 ∨ j = 5 ∨ j = 6) with rfl | rfl | rfl | rfl | rfl | rfl | rfl <;> rfl
  · (conv in matchEx _ _ _ _ _ _ _ => cbv); simp only [AllG, AllP, and_true, hH, stdH, Nat.le_refl, ncast, Int.ofNat_eq_natCast, vrow_I, Arm.eta2, Fld.eta, Grp.eta]
    (repeat' (first | with_reducible exact True.intro | exact RowsEq.self okRA | rfl | refine And.intro ?_ ?_ | trivial))
noncomputable def F_DrawClusters (c : Cd) : ClD := drfM Try.prog 6 r_DrawClusters nb_DrawClusters (fun y => y.l.length ≤ 24) c
noncomputable def e_DrawClusters (c : Cd) : Entry := codeEN 6 c (fun nx H => r_DrawClusters nx H fun _ => F_DrawClusters c) (fun H => nb_DrawClusters H fun _ => F_DrawClusters c)
theorem eok_DrawClusters (c : Cd) : EntryOk Try.prog (e_DrawClusters c) := codeEN_ok (by unfold isBody; kernel_rfl) (drfM_spec (x_DrawClusters c)).1 (fun nx => by (repeat' (first | exact .nil | exact .slc ⟨by omega, by simp [nb_DrawClusters]⟩ (by omega) | exact .pl .lit | exact .pl (vT_bl okRA (fun _ => (F_DrawClusters c).l) _) | apply ReL.cons | apply Re.aggL | apply Re.tupL))) (fun b hq => by
      simp [nb_DrawClusters] at hq)
theorem p_DrawClusters (c : Cd) : (fun y => y.l.length ≤ 24) (F_DrawClusters c) := (drfM_spec (x_DrawClusters c)).2
def r_DrawTableZ (n : Nat) (H : Hold) (y : Unit → List Arm) : AV := .vec 15 (H Nat fun _ => ((y ())).length) (rowsA H fun _ => (y ()))
def nb_DrawTableZ (H : Hold) (y : Unit → List Arm) : List Blk := []
theorem x_DrawTableZ (c : Cd) : ∃ y, DrfM Try.prog 35 r_DrawTableZ nb_DrawTableZ (fun y => y.length ≤ 24) c y := by
  have hB : Base Try.prog (tabΓ [e_armsList c]) tab := base_of tabOk (ents_cons (eok_armsList c) <| ents_nil)
  refine drfM_ok (N := 9) hB (draw_ok hB mixed) Try.func35 rfl rfl r_DrawTableZ nb_DrawTableZ (fun y => y.length ≤ 24) c 200 (by simp) ?_
  intro H hH
  conv in finish _ _ _ _ _ _ _ _ => cbv
  simp only [Fin.sat0, AllP, and_true, true_and, ncast, Int.ofNat_eq_natCast, heta hH]
  have h : Bd 380 (0, 0) := ⟨by decide, by decide⟩
  obtain ⟨a1, l1⟩ := p_armsList c (0, 0) h.mono
  refine ⟨(by rw [hH]; exact h.mono), (F_armsList c (0, 0)).1, l1, ?_⟩
  (conv in matchEx _ _ _ _ _ _ _ => cbv); simp only [AllG, AllP, and_true, hH, stdH, Nat.le_refl, ncast, Int.ofNat_eq_natCast, vrow_I, Arm.eta2, Fld.eta, Grp.eta]
  exact ⟨trivial, RowsEq.self okRA⟩
noncomputable def F_DrawTableZ (c : Cd) : List Arm := drfM Try.prog 35 r_DrawTableZ nb_DrawTableZ (fun y => y.length ≤ 24) c
noncomputable def e_DrawTableZ (c : Cd) : Entry := codeEN 35 c (fun nx H => r_DrawTableZ nx H fun _ => F_DrawTableZ c) (fun H => nb_DrawTableZ H fun _ => F_DrawTableZ c)
theorem eok_DrawTableZ (c : Cd) : EntryOk Try.prog (e_DrawTableZ c) := codeEN_ok (by unfold isBody; kernel_rfl) (drfM_spec (x_DrawTableZ c)).1 (fun nx => by (repeat' (first | exact .nil | exact .slc ⟨by omega, by simp [nb_DrawTableZ]⟩ (by omega) | exact .pl .lit | exact .pl (vT_bl okRA (fun _ => (F_DrawTableZ c)) _) | apply ReL.cons | apply Re.aggL | apply Re.tupL))) (fun b hq => by
      simp [nb_DrawTableZ] at hq)
theorem p_DrawTableZ (c : Cd) : (fun y => y.length ≤ 24) (F_DrawTableZ c) := (drfM_spec (x_DrawTableZ c)).2
def r_DrawMostDistinct (n : Nat) (H : Hold) (y : Unit → List Arm) : AV := .vec 15 (H Nat fun _ => ((y ())).length) (rowsA H fun _ => (y ()))
def nb_DrawMostDistinct (H : Hold) (y : Unit → List Arm) : List Blk := []
theorem x_DrawMostDistinct (c : Cd) : ∃ y, DrfM Try.prog 10 r_DrawMostDistinct nb_DrawMostDistinct (fun y => y.length ≤ 24) c y := by
  have hB : Base Try.prog (tabΓ [e_DrawTableZ c]) tab := base_of tabOk (ents_cons (eok_DrawTableZ c) <| ents_nil)
  refine drfM_ok (N := 5) hB (draw_ok hB mixed) Try.func10 rfl rfl r_DrawMostDistinct nb_DrawMostDistinct (fun y => y.length ≤ 24) c 200 (by simp) ?_
  intro H hH
  conv in finish _ _ _ _ _ _ _ _ => cbv
  simp only [Fin.sat0, AllP, and_true, true_and, ncast, Int.ofNat_eq_natCast, heta hH]
  refine ⟨(by rw [hH]; trivial), F_DrawTableZ c, p_DrawTableZ c, ?_⟩
  (conv in matchEx _ _ _ _ _ _ _ => cbv); simp only [AllG, AllP, and_true, hH, stdH, Nat.le_refl, ncast, Int.ofNat_eq_natCast, vrow_I, Arm.eta2, Fld.eta, Grp.eta]
  exact RowsEq.self okRA
noncomputable def F_DrawMostDistinct (c : Cd) : List Arm := drfM Try.prog 10 r_DrawMostDistinct nb_DrawMostDistinct (fun y => y.length ≤ 24) c
noncomputable def e_DrawMostDistinct (c : Cd) : Entry := codeEN 10 c (fun nx H => r_DrawMostDistinct nx H fun _ => F_DrawMostDistinct c) (fun H => nb_DrawMostDistinct H fun _ => F_DrawMostDistinct c)
theorem eok_DrawMostDistinct (c : Cd) : EntryOk Try.prog (e_DrawMostDistinct c) := codeEN_ok (by unfold isBody; kernel_rfl) (drfM_spec (x_DrawMostDistinct c)).1 (fun nx => by (repeat' (first | exact .nil | exact .slc ⟨by omega, by simp [nb_DrawMostDistinct]⟩ (by omega) | exact .pl .lit | exact .pl (vT_bl okRA (fun _ => (F_DrawMostDistinct c)) _) | apply ReL.cons | apply Re.aggL | apply Re.tupL))) (fun b hq => by
      simp [nb_DrawMostDistinct] at hq)
theorem p_DrawMostDistinct (c : Cd) : (fun y => y.length ≤ 24) (F_DrawMostDistinct c) := (drfM_spec (x_DrawMostDistinct c)).2

end Go.Proofs.Ytigkdbhcjjjjkaa.AM

