import Derived.Test.YtdicfibonfjalaaDoorAmT
import Derived.Test.YtdicfibonfjalaaDoorCrd
set_option linter.unusedVariables false
set_option linter.unusedSimpArgs false
set_option maxRecDepth 100000
set_option maxHeartbeats 4000000
set_option cbv.maxSteps 3000000
namespace Go.Proofs.YtdicfibonfjalaaDoor.AM
/- The law FnCrests holds; conditions: none. -/
def enc_rBig3 (H : Hold) (y : Unit → Bool) : AV := .lit (.bool (H Bool fun _ => ((y ()))))
theorem x_rBig3 (c : Cd) : ∃ y : Bool, Con Tryd.prog 17 [codeAV c] [] (enc_rBig3 stdH fun _ => y) [] ∧ Bl 0 (enc_rBig3 stdH fun _ => y) ∧ (fun _ => True) y := by
  have hB : Base Tryd.prog (tabΓ []) tab := base_of tabOk (ents_nil)
  refine df_ok (N := 6) hB (draw_ok hB mixed) Tryd.func17 rfl rfl _ _ _ 50 (by simp) ?_
  intro H hH
  conv in finish _ _ _ _ _ _ _ _ => cbv
  subst hH
  simp only [Fin.sat0, Fin.sat1, stdH, Option.some.injEq, AV.lit.injEq, AV.agg.injEq, AV.tup.injEq, List.cons.injEq, Value.bool.injEq, Value.int.injEq, AllP, and_true, true_and, eq_self, decide_eq_true_eq, decide_eq_false_iff_not, Bool.not_eq_true', Bool.not_eq_false', peta, ncast]
  exact ⟨_, .refl, .lit⟩
noncomputable def F_rBig3 (c : Cd) : Bool := dfw Tryd.prog 17 enc_rBig3 (fun _ => True) c
noncomputable def e_rBig3 (c : Cd) : Entry := codeE 17 c fun H => enc_rBig3 H fun _ => F_rBig3 c
theorem eok_rBig3 (c : Cd) : EntryOk Tryd.prog (e_rBig3 c) := codeE_ok (by unfold isBody; kernel_rfl) (dfw_spec (x_rBig3 c)).1
theorem p_rBig3 (c : Cd) : (fun _ => True) (F_rBig3 c) := (dfw_spec (x_rBig3 c)).2.2
theorem raOk_back {z : Crs} {m : Int} (hm : -11 ≤ m ∧ m ≤ 10) (h : raOk z m = true) : raOk (raC z m) (IntKind.i64.wrap (0 - m)) = true ∧ raC (raC z m) (IntKind.i64.wrap (0 - m)) = z := by
  unfold raOk at h
  simp only [Bool.and_eq_true] at h
  obtain ⟨h1, h2, h3⟩ := h
  have hb := (okC_G h1).2
  have e1 : IntKind.i64.wrap (z.r + m) = z.r + m := wi (by omega) (by omega)
  have e2 : IntKind.i64.wrap (0 - m) = 0 - m := wi (by omega) (by omega)
  have e3 : IntKind.i64.wrap (z.r + m + (0 - m)) = z.r := by rw [wi (by omega) (by omega)]; omega
  rw [e1] at h3
  have hr : raC z m = ⟨z.k, z.a, z.t, z.r + m⟩ := by unfold raC; rw [e1]
  rw [hr, e2]
  refine ⟨?_, ?_⟩
  · unfold raOk
    simp only [e3]
    unfold okC at h1 ⊢
    unfold inB at *
    simp only [Bool.and_eq_true, decide_eq_true_eq] at *
    exact ⟨⟨h1.1, h3⟩, by omega, h1.2⟩
  · unfold raC
    simp only [e3]
theorem law_Crests (c : Cd) : Con Tryd.prog 4 [codeAV c] [] (.lit (.bool true)) [] := by
  have hB : Base Tryd.prog (tabΓ [e_rBig3 c, e_DrawCrestText c, e_crestText, e_crestTextS, e_IsValidCrest, e_parseC, e_DrawParseCrest c, e_parseCS, e_DrawRaiseRank c, e_RaiseRank, e_RaiseRankS, e_DrawRankWord c, e_RankWordI, e_HelmI, e_RankWordS, e_HelmS]) tab := base_of tabOk (ents_cons (eok_rBig3 c) <| ents_cons (eok_DrawCrestText c) <| ents_cons eok_crestText <| ents_cons eok_crestTextS <| ents_cons eok_IsValidCrest <| ents_cons eok_parseC <| ents_cons (eok_DrawParseCrest c) <| ents_cons eok_parseCS <| ents_cons (eok_DrawRaiseRank c) <| ents_cons eok_RaiseRank <| ents_cons eok_RaiseRankS <| ents_cons (eok_DrawRankWord c) <| ents_cons eok_RankWordI <| ents_cons eok_HelmI <| ents_cons eok_RankWordS <| ents_cons eok_HelmS <| ents_nil)
  refine ConN.con (n := 0) (con_m (N := 182) hB (draw_ok hB mixed) Tryd.func4 rfl rfl (fun _ => [codeAV c]) (fun _ => []) 0 (fun H => .lit (.bool (H Bool fun _ => true))) (fun _ => []) (fun _ => []) 600 (by simp) (codeAV_bl c) (by simp [lk]) (by omega) (by simp) ?_)
  intro X hX hX0 H hH
  conv in Fin.chk _ _ => cbv
  try simp only [Plain_rowsA, Plain_rowsB, Plain_rowsC, Plain_rowsF, Plain_rowsG, Plain_rowsI, Plain_rowsS, Plain_rowsU, Fin.satC_ret, Fin.satC_br, Fin.satC_need, Fin.satC_again, AllP, and_true, true_and, upd, List.length_nil, List.length_cons, Nat.zero_add, if_true, ncast, Int.ofNat_eq_natCast]
  have hr := p_DrawRaiseRank c
  have ht := p_DrawParseCrest c
  generalize F_DrawCrestText c = y at *
  generalize F_DrawParseCrest c = t at *
  generalize F_DrawRaiseRank c = z at *
  generalize F_DrawRankWord c = n at *
  obtain ⟨z, m⟩ := z
  simp only at hr
  subst hH
  simp only [stdH, Crs.eta]
  have e1 : ∀ j : Crs, allT [fun _ => j.k == j.k, fun _ => j.a == j.a, fun _ => j.t == j.t, fun _ => j.r == j.r] = true := fun j => by simp [allT]
  have sy := crsT_sz y
  simp only [e1, beq_self_eq_true, cond_true, cond_false, Bool.not_true]
  cases hy : okC y
  · cases hz : raOk z m
    · simp only [if_true, Bool.false_eq_true, if_false]
      (repeat' (first | trivial | rfl | omega | refine And.intro ?_ ?_ | (intro hh; first | (cases hh; done) | skip)))
    · obtain ⟨b1, b2⟩ := raOk_back hr hz
      simp only [if_true, Bool.false_eq_true, if_false, b1, b2, e1, Bool.not_true, cond_false]
      (repeat' (first | trivial | rfl | omega | refine And.intro ?_ ?_ | (intro hh; first | (cases hh; done) | skip)))
  · have hC : pC (crsT y) = some y := pC_iff.2 ⟨hy, rfl⟩
    cases hz : raOk z m
    · simp only [if_true, Bool.false_eq_true, if_false, hC, Option.isSome_some, Option.getD_some, e1, Bool.not_true, cond_false]
      (repeat' (first | trivial | rfl | omega | refine And.intro ?_ ?_ | (intro hh; first | (cases hh; done) | skip)))
    · obtain ⟨b1, b2⟩ := raOk_back hr hz
      simp only [if_true, Bool.false_eq_true, if_false, hC, Option.isSome_some, Option.getD_some, b1, b2, e1, Bool.not_true, cond_false]
      (repeat' (first | trivial | rfl | omega | refine And.intro ?_ ?_ | (intro hh; first | (cases hh; done) | skip)))

end Go.Proofs.YtdicfibonfjalaaDoor.AM
