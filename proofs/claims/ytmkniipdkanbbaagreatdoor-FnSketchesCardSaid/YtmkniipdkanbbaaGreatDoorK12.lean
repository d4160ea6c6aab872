/- Lemmas and contracts (VB Cre); conditions: none. -/
import Derived.Test.YtmkniipdkanbbaaGreatDoorK08
import Derived.Test.YtmkniipdkanbbaaGreatDoorK09
import Derived.Test.YtmkniipdkanbbaaGreatDoorK11
set_option linter.unusedVariables false
set_option linter.unusedSimpArgs false
set_option maxRecDepth 100000
set_option maxHeartbeats 4000000
set_option cbv.maxSteps 3000000
namespace Go.Proofs.YtmkniipdkanbbaaGreatDoor.AM
/- Long codes; conditions: none. -/
def enc_vBig (H : Hold) (y : Unit → Bool) : AV := .lit (.bool (H Bool fun _ => ((y ()))))
theorem x_vBig (c : Cd) : ∃ y : Bool, Con Tryz.prog 11 [codeAV c] [] (enc_vBig stdH fun _ => y) [] ∧ Bl 0 (enc_vBig stdH fun _ => y) ∧ (fun _ => True) y := by
  have hB : Base Tryz.prog (tabΓ []) tab := base_of tabOk (ents_nil)
  refine df_ok (N := 6) hB (draw_ok hB mixed) Tryz.func11 rfl rfl _ _ _ 50 (by simp) ?_
  intro H hH
  conv in finish _ _ _ _ _ _ _ _ => cbv
  subst hH
  simp only [Fin.sat0, Fin.sat1, stdH, Option.some.injEq, AV.lit.injEq, AV.agg.injEq, AV.tup.injEq, List.cons.injEq, Value.bool.injEq, Value.int.injEq, AllP, and_true, true_and, eq_self, zqa, zqb, zqc, zqd, peta, ncast]
  exact ⟨_, .refl, .lit⟩
noncomputable def F_vBig (c : Cd) : Bool := dfw Tryz.prog 11 enc_vBig (fun _ => True) c
noncomputable def e_vBig (c : Cd) : Entry := codeE 11 c fun H => enc_vBig H fun _ => F_vBig c
theorem eok_vBig (c : Cd) : EntryOk Tryz.prog (e_vBig c) := codeE_ok (by unfold isBody; kernel_rfl) (dfw_spec (x_vBig c)).1
end Go.Proofs.YtmkniipdkanbbaaGreatDoor.AM

set_option maxRecDepth 100000
set_option maxHeartbeats 4000000
set_option cbv.maxSteps 3000000
namespace Go.Proofs.YtmkniipdkanbbaaGreatDoor.AM
/- Crests, classes of tinctures, wreaths; conditions: none. -/
structure Crs where
  k : Int
  a : Int
  t : Int
  r : Int
deriving Inhabited
end Go.Proofs.YtmkniipdkanbbaaGreatDoor.AM

