/- Lemmas and contracts (Tin); conditions: none. -/
import Derived.Test.YtcjjffmbhionmaaGreatDoorK08
set_option linter.unusedVariables false
set_option linter.unusedSimpArgs false
set_option maxRecDepth 100000
set_option maxHeartbeats 4000000
set_option cbv.maxSteps 3000000
namespace Go.Proofs.YtcjjffmbhionmaaGreatDoor.AM
/- The tinctures of arms; conditions: none. -/
def tinF (f : Fld) : List Int := if f.d = 0 then [f.p] else [f.p, f.q]
def nz (x : Int) : List Int := if x = 0 then [] else [x]
def tinA (a : Arm) : List Int := tinF a.f ++ nz a.t ++ nz a.n.t ++ nz a.r.t
theorem c_tinF (f : Fld) : Con Tryz.prog 116 [.agg [.lit (.int .i64 f.d), .lit (.int .i64 f.l), .lit (.int .i64 f.p), .lit (.int .i64 f.q)]] [] (LF (tinF f)) [] := by
  obtain ⟨f0, f1, f2, f3⟩ := f
  have hB : Base Tryz.prog (tabΓ []) tab := base_of tabOk (ents_nil)
  refine con_eqF (N := 14) hB (draw_ok hB mixed) Tryz.func116 rfl rfl _ _ 60 (by simp) (by intro x hx; simp only [zqu] at hx; subst hx; exact blq_ok 4 rfl) (vrow_blf _ _ _ _) ?_
  intro H hH
  conv in finish _ _ _ _ _ _ _ _ => cbv
  subst hH
  simp only [Fin.satF, stdH, beq_iff_eq, beq_eq_false_iff_ne, ne_eq, tinF]
  exact ⟨fun h => ⟨_, rfl, by rw [if_pos h]; exact frz_lit1 _⟩, fun h => ⟨_, rfl, by rw [if_neg h]; exact frz_lit2 _ _⟩⟩
def e_tinF : Entry := pureE 116 fun H a => match a with
  | [.agg [.lit (.int .i64 f0), .lit (.int .i64 f1), .lit (.int .i64 f2), .lit (.int .i64 f3)]] => some (.ful 1 (H Nat fun _ => (tinF ⟨f0, f1, f2, f3⟩).length) (H (Nat → List AV) fun _ => vrow (lget (tinF ⟨f0, f1, f2, f3⟩))), [])
  | _ => none
theorem eok_tinF : EntryOk Tryz.prog e_tinF := pureE_ok (by unfold isBody; kernel_rfl) (by
  intro a r ob e hob
  split at e
  · rename_i f0 f1 f2 f3
    simp only [zqt] at e
    obtain ⟨rfl, rfl⟩ := e
    exact c_tinF ⟨f0, f1, f2, f3⟩
  · simp at e)
theorem c_tinA (a : Arm) : Con Tryz.prog 90 [.agg [.lit (.int .i64 (a).f.d), .lit (.int .i64 (a).f.l), .lit (.int .i64 (a).f.p), .lit (.int .i64 (a).f.q), .lit (.int .i64 (a).o), .lit (.int .i64 (a).l), .lit (.int .i64 (a).t), .lit (.int .i64 (a).n.c), .lit (.int .i64 (a).n.k), .lit (.int .i64 (a).n.a), .lit (.int .i64 (a).n.t), .lit (.int .i64 (a).r.c), .lit (.int .i64 (a).r.k), .lit (.int .i64 (a).r.a), .lit (.int .i64 (a).r.t)]] [] (LV (tinA a)) [] := by
  obtain ⟨⟨a0, a1, a2, a3⟩, a4, a5, a6, ⟨a7, a8, a9, a10⟩, ⟨a11, a12, a13, a14⟩⟩ := a
  have hB : Base Tryz.prog (tabΓ [e_tinF]) tabU := base_of tabOkU (ents_cons eok_tinF <| ents_nil)
  refine con_eqF (N := 31) hB (draw_ok hB mixed) Tryz.func90 rfl rfl _ _ 150 (by simp) (by intro x hx; simp only [zqu] at hx; subst hx; exact blq_ok 4 rfl) (vrow_bl _ _ _ _) ?_
  intro H hH
  conv in finish _ _ _ _ _ _ _ _ => cbv
  subst hH
  simp only [Fin.satF, stdH]
  have hl : (tinF ⟨a0, a1, a2, a3⟩).length ≤ 2 := by unfold tinF; split <;> simp
  have P1 : ∀ x, (x != 0) = true → nz x = [x] := fun x h => if_neg (by simpa using h)
  have P2 : ∀ x, (x != 0) = false → nz x = [] := fun x h => if_pos (by simpa using h)
  repeat' (first | refine ⟨(⟨by omega, trivial⟩ : AllP [_]), ?_⟩ | refine ⟨(⟨by first | omega | trivial, by omega, trivial⟩ : AllP [_, _]), ?_⟩ | (apply And.intro <;> intro h))
  all_goals
    refine ⟨_, rfl, ?_⟩
    simp only [tinA, List.append_nil, *]
    first | exact frz_gro (gro_snoc (gro_snoc (gro_snoc (gro0 _) _) _) _) rfl (Nat.zero_le _) | exact frz_gro (gro_snoc (gro_snoc (gro0 _) _) _) rfl (Nat.zero_le _) | exact frz_gro (gro_snoc (gro0 _) _) rfl (Nat.zero_le _) | exact frz_ful _ rfl (fun _ _ => rfl)
noncomputable def e_tinA : Entry := pureE 90 fun H a => match a with
  | [.agg [.lit (.int .i64 a0), .lit (.int .i64 a1), .lit (.int .i64 a2), .lit (.int .i64 a3), .lit (.int .i64 a4), .lit (.int .i64 a5), .lit (.int .i64 a6), .lit (.int .i64 a7), .lit (.int .i64 a8), .lit (.int .i64 a9), .lit (.int .i64 a10), .lit (.int .i64 a11), .lit (.int .i64 a12), .lit (.int .i64 a13), .lit (.int .i64 a14)]] => some (.vec 1 (H Nat fun _ => (tinA ⟨⟨a0, a1, a2, a3⟩, a4, a5, a6, ⟨a7, a8, a9, a10⟩, ⟨a11, a12, a13, a14⟩⟩).length) (vrow (H (Nat → Int) fun _ => lget (tinA ⟨⟨a0, a1, a2, a3⟩, a4, a5, a6, ⟨a7, a8, a9, a10⟩, ⟨a11, a12, a13, a14⟩⟩))), [])
  | _ => none
theorem eok_tinA : EntryOk Tryz.prog e_tinA := pureE_ok (by unfold isBody; kernel_rfl) (by
  intro a r ob e hob
  split at e
  · rename_i a0 a1 a2 a3 a4 a5 a6 a7 a8 a9 a10 a11 a12 a13 a14
    simp only [zqt] at e
    obtain ⟨rfl, rfl⟩ := e
    exact c_tinA ⟨⟨a0, a1, a2, a3⟩, a4, a5, a6, ⟨a7, a8, a9, a10⟩, ⟨a11, a12, a13, a14⟩⟩
  · simp at e)
end Go.Proofs.YtcjjffmbhionmaaGreatDoor.AM

