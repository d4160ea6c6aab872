/- Lemmas and contracts (Skd); conditions: none. -/
import Derived.Test.YtmkniipdkanbbaaGreatDoorK04
import Derived.Test.YtmkniipdkanbbaaGreatDoorK06
import Derived.Test.YtmkniipdkanbbaaGreatDoorK27
import Derived.Test.YtmkniipdkanbbaaGreatDoorK34
set_option linter.unusedVariables false
set_option linter.unusedSimpArgs false
set_option maxRecDepth 100000
set_option maxHeartbeats 4000000
set_option cbv.maxSteps 3000000
namespace Go.Proofs.YtmkniipdkanbbaaGreatDoor.AM
/- Sketches are drawn; conditions: none. -/
theorem ta1 (v : Int) : Tl rowI 1 (rowsN .i64 stdH fun _ => [v]) = [v] := Tl_I [v]
theorem sh1 (v : Int) : Shp rowI 1 (rowsN .i64 stdH fun _ => [v]) := Shp_I _ [v]
theorem c_tinAS (a : Arm) (h0 : okA a = true) : ConN Tryz.prog 139 [aT rowA stdH fun _ => a] [] 0 (.slc 0 0 1 (stdH Nat fun _ => (tinQ a.f ++ tncL a).length)) [.rows 1 (stdH Nat fun _ => (tinQ a.f ++ tncL a).length) (rowsI stdH fun _ => tinQ a.f ++ tncL a) 3] [] := by
  have hB : Base Tryz.prog (tabΓ [e_tincQS, e_l4None]) tabO := base_of tabOkO (ents_cons eok_tincQS <| ents_cons eok_l4None <| ents_nil)
  refine con_m (N := 36) hB (draw_ok hB mixed) Tryz.func139 rfl rfl (fun H => [aT rowA H fun _ => a]) (fun _ => []) 0 (fun H => .slc 0 0 1 (H Nat fun _ => (tinQ a.f ++ tncL a).length)) (fun H => [.rows 1 (H Nat fun _ => (tinQ a.f ++ tncL a).length) (rowsI H fun _ => tinQ a.f ++ tncL a) 3]) (fun _ => []) 300 (by simp) (fun x hx => ?_) (by simp [lk]) (by omega) (by simp) ?_
  · simp only [zqu] at hx
    rcases hx with rfl
    · exact aT_bl okRA _ _
  intro X hX hX0 H hH
  conv in Fin.chk _ _ => cbv
  try simp only [zqs, Plain_rowsC, Plain_rowsY, zqx, AllP, zqw, upd, if_true]
  subst hH
  simp only [stdH, Arm.eta2, Fld.eta, Grp.eta, oPos h0]
  have hq : (tinQ a.f).length ≤ 2 := by unfold tinQ; split <;> simp
  unfold tncL
  generalize tinQ a.f = L at *
  by_cases ho : a.o = 0 <;> cases hn : noG a.n <;> cases hr : noG a.r
  all_goals simp only [ho, if_true, if_false, Bool.false_eq_true, decide_true, decide_false, Bool.not_true, Bool.not_false, List.nil_append, List.append_nil, List.cons_append]
  all_goals (repeat' (first | exact trivial | omega | exact RowsEq.self okI | refine And.intro ?_ ?_ | (intro h; first | (cases h; done) | skip)))
  all_goals first
    | (simp; done)
    | (refine RowsEq.ofT okI rfl (Shp_app (Shp_app (Shp_app (Shp_I _ _) (sh1 _)) (sh1 _)) (sh1 _)) ?_; rw [Tl_app, Tl_app, Tl_app, Tl_I, ta1, ta1, ta1]; simp; done)
    | (refine RowsEq.ofT okI rfl (Shp_app (Shp_app (Shp_I _ _) (sh1 _)) (sh1 _)) ?_; rw [Tl_app, Tl_app, Tl_I, ta1, ta1]; simp; done)
    | (refine RowsEq.ofT okI rfl (Shp_app (Shp_I _ _) (sh1 _)) ?_; rw [Tl_app, Tl_I, ta1]; done)
    | skip
noncomputable def e_tinAS : Entry := pureN 139 fun H a => match a with
  | [.agg [.lit (.int .i64 a0), .lit (.int .i64 a1), .lit (.int .i64 a2), .lit (.int .i64 a3), .lit (.int .i64 a4), .lit (.int .i64 a5), .lit (.int .i64 a6), .lit (.int .i64 a7), .lit (.int .i64 a8), .lit (.int .i64 a9), .lit (.int .i64 a10), .lit (.int .i64 a11), .lit (.int .i64 a12), .lit (.int .i64 a13), .lit (.int .i64 a14)]] => some (fun nx => .slc nx 0 1 (H Nat fun _ => (tinQ (⟨⟨a0, a1, a2, a3⟩, a4, a5, a6, ⟨a7, a8, a9, a10⟩, ⟨a11, a12, a13, a14⟩⟩ : Arm).f ++ tncL (⟨⟨a0, a1, a2, a3⟩, a4, a5, a6, ⟨a7, a8, a9, a10⟩, ⟨a11, a12, a13, a14⟩⟩ : Arm)).length), [.rows 1 (H Nat fun _ => (tinQ (⟨⟨a0, a1, a2, a3⟩, a4, a5, a6, ⟨a7, a8, a9, a10⟩, ⟨a11, a12, a13, a14⟩⟩ : Arm).f ++ tncL (⟨⟨a0, a1, a2, a3⟩, a4, a5, a6, ⟨a7, a8, a9, a10⟩, ⟨a11, a12, a13, a14⟩⟩ : Arm)).length) (rowsI H fun _ => tinQ (⟨⟨a0, a1, a2, a3⟩, a4, a5, a6, ⟨a7, a8, a9, a10⟩, ⟨a11, a12, a13, a14⟩⟩ : Arm).f ++ tncL (⟨⟨a0, a1, a2, a3⟩, a4, a5, a6, ⟨a7, a8, a9, a10⟩, ⟨a11, a12, a13, a14⟩⟩ : Arm)) 3], [H Prop fun _ => okA (⟨⟨a0, a1, a2, a3⟩, a4, a5, a6, ⟨a7, a8, a9, a10⟩, ⟨a11, a12, a13, a14⟩⟩ : Arm) = true])
  | _ => none
theorem eok_tinAS : EntryOk Tryz.prog e_tinAS := pureN_ok (by unfold isBody; kernel_rfl) (by
  intro a r nb ob e hob
  split at e
  · rename_i a0 a1 a2 a3 a4 a5 a6 a7 a8 a9 a10 a11 a12 a13 a14
    simp only [zqt] at e
    obtain ⟨rfl, rfl, rfl⟩ := e
    refine ⟨ConN.args (.cons .rfl .nil) (c_tinAS (⟨⟨a0, a1, a2, a3⟩, a4, a5, a6, ⟨a7, a8, a9, a10⟩, ⟨a11, a12, a13, a14⟩⟩ : Arm) hob.1), fun x hx => ?_, fun nx => ?_, fun b hb => ?_⟩
    · simp only [zqu] at hx
      rcases hx with rfl
      · exact blq_ok 4 rfl
    · (first | exact .slc ⟨by omega, by simp⟩ (by omega) | (refine .tup rfl (fun c x y hx hy => ?_); rcases c with _ | _ | _ | c <;> simp at hx hy <;> (subst hx; subst hy; first | exact .slc ⟨by omega, by simp⟩ (by omega) | exact .pl .lit | exact .pl (blq_ok 4 rfl) | (refine .agg rfl (fun c x y hx hy => ?_); rcases c with _ | _ | _ | c <;> simp at hx hy <;> (subst hx; subst hy; first | exact .slc ⟨by omega, by simp⟩ (by omega) | exact .pl .lit | exact .pl (blq_ok 4 rfl))))) | (refine .agg rfl (fun c x y hx hy => ?_); rcases c with _ | _ | _ | c <;> simp at hx hy <;> (subst hx; subst hy; first | exact .slc ⟨by omega, by simp⟩ (by omega) | exact .pl .lit | exact .pl (blq_ok 4 rfl))))
    · simp only [zqu] at hb; subst hb; exact bT_bl okI _ (fun _ => tinQ (⟨⟨a0, a1, a2, a3⟩, a4, a5, a6, ⟨a7, a8, a9, a10⟩, ⟨a11, a12, a13, a14⟩⟩ : Arm).f ++ tncL (⟨⟨a0, a1, a2, a3⟩, a4, a5, a6, ⟨a7, a8, a9, a10⟩, ⟨a11, a12, a13, a14⟩⟩ : Arm)) _
  · simp at e)
theorem hetaFd {H : Hold} (hH : H = stdH) (f : Fld) : (⟨H Int fun _ => f.d, H Int fun _ => f.l, H Int fun _ => f.p, H Int fun _ => f.q⟩ : Fld) = f := by subst hH; rfl
theorem c_plainS (a : Arm) (h0 : okA a = true) : ConN Tryz.prog 92 [aT rowA stdH fun _ => a] [] 0 (.agg [.lit (.int .i64 (stdH Int fun _ => (plnK a).arms.f.d)), .lit (.int .i64 (stdH Int fun _ => (plnK a).arms.f.l)), .lit (.int .i64 (stdH Int fun _ => (plnK a).arms.f.p)), .lit (.int .i64 (stdH Int fun _ => (plnK a).arms.f.q)), .lit (.int .i64 (stdH Int fun _ => (plnK a).arms.o)), .lit (.int .i64 (stdH Int fun _ => (plnK a).arms.l)), .lit (.int .i64 (stdH Int fun _ => (plnK a).arms.t)), .lit (.int .i64 (stdH Int fun _ => (plnK a).arms.n.c)), .lit (.int .i64 (stdH Int fun _ => (plnK a).arms.n.k)), .lit (.int .i64 (stdH Int fun _ => (plnK a).arms.n.a)), .lit (.int .i64 (stdH Int fun _ => (plnK a).arms.n.t)), .lit (.int .i64 (stdH Int fun _ => (plnK a).arms.r.c)), .lit (.int .i64 (stdH Int fun _ => (plnK a).arms.r.k)), .lit (.int .i64 (stdH Int fun _ => (plnK a).arms.r.a)), .lit (.int .i64 (stdH Int fun _ => (plnK a).arms.r.t)), .slc 0 0 2 (stdH Nat fun _ => (plnS a).length)]) [.rows 2 (stdH Nat fun _ => (plnS a).length) (rowsY stdH fun _ => plnS a) 56] [] := by
  have hB : Base Tryz.prog (tabΓ [e_bareS7, e_tinAS, e_tincQS]) tabO := base_of tabOkO (ents_cons eok_bareS7 <| ents_cons eok_tinAS <| ents_cons eok_tincQS <| ents_nil)
  refine con_m (N := 33) hB (draw_ok hB mixed) Tryz.func92 rfl rfl (fun H => [aT rowA H fun _ => a]) (fun _ => []) 0 (fun H => .agg [.lit (.int .i64 (H Int fun _ => (plnK a).arms.f.d)), .lit (.int .i64 (H Int fun _ => (plnK a).arms.f.l)), .lit (.int .i64 (H Int fun _ => (plnK a).arms.f.p)), .lit (.int .i64 (H Int fun _ => (plnK a).arms.f.q)), .lit (.int .i64 (H Int fun _ => (plnK a).arms.o)), .lit (.int .i64 (H Int fun _ => (plnK a).arms.l)), .lit (.int .i64 (H Int fun _ => (plnK a).arms.t)), .lit (.int .i64 (H Int fun _ => (plnK a).arms.n.c)), .lit (.int .i64 (H Int fun _ => (plnK a).arms.n.k)), .lit (.int .i64 (H Int fun _ => (plnK a).arms.n.a)), .lit (.int .i64 (H Int fun _ => (plnK a).arms.n.t)), .lit (.int .i64 (H Int fun _ => (plnK a).arms.r.c)), .lit (.int .i64 (H Int fun _ => (plnK a).arms.r.k)), .lit (.int .i64 (H Int fun _ => (plnK a).arms.r.a)), .lit (.int .i64 (H Int fun _ => (plnK a).arms.r.t)), .slc 0 0 2 (H Nat fun _ => (plnS a).length)]) (fun H => [.rows 2 (H Nat fun _ => (plnS a).length) (rowsY H fun _ => plnS a) 56]) (fun _ => []) 400 (by simp) (fun x hx => ?_) (by simp [lk]) (by omega) (by simp) ?_
  · simp only [zqu] at hx
    rcases hx with rfl
    · exact aT_bl okRA _ _
  intro X hX hX0 H hH
  conv in Fin.chk _ _ => cbv
  try simp only [zqs, Plain_rowsC, Plain_rowsY, zqx, AllP, zqw, upd, if_true]
  simp only [hetaA hH]
  simp only [hetaFd hH]
  refine ⟨?_, ?_, ?_⟩
  · try simp only [hH, stdH, zqz, ne_eq, zqy]
    exact h0
  · try simp only [hH, stdH, zqz, ne_eq, zqy]
    exact h0
  refine loop_c hB (draw_ok hB mixed) hX hX0 hH [2, 3, 4, 5] (ι := { p : Nat // p ≤ cntP a }) 400 (fun p => [.i (H Int fun _ => ((tinQ a.f).length + p.1 : Nat)), .i (H Int fun _ => (filA a [1, 1, 1]).f.d), .i (H Int fun _ => (filA a [1, 1, 1]).f.l), .i (H Int fun _ => (filA a [1, 1, 1]).f.p), .i (H Int fun _ => (filA a [1, 1, 1]).f.q), .i (H Int fun _ => (filA a [1, 1, 1]).o), .i (H Int fun _ => (filA a [1, 1, 1]).l), .i (H Int fun _ => (filA a [1, 1, 1]).t), .i (H Int fun _ => (filA a [1, 1, 1]).n.c), .i (H Int fun _ => (filA a [1, 1, 1]).n.k), .i (H Int fun _ => (filA a [1, 1, 1]).n.a), .i (H Int fun _ => (filA a [1, 1, 1]).n.t), .i (H Int fun _ => (filA a [1, 1, 1]).r.c), .i (H Int fun _ => (filA a [1, 1, 1]).r.k), .i (H Int fun _ => (filA a [1, 1, 1]).r.a), .i (H Int fun _ => (filA a [1, 1, 1]).r.t), .r (H Nat fun _ => ((plnS a).take p.1).length) (rowsY H fun _ => (plnS a).take p.1)]) (fun p => cntP a - p.1) (⟨0, by omega⟩) ?_ ?_
  · (conv in matchSt _ _ _ _ => cbv); simp only [AllG, AllP, and_true, hH, stdH, zql, ncast, zqe, zqy]
    (repeat' (with_reducible refine And.intro ?_ ?_)) <;> (first | exact True.intro | exact RowsEq.self okI | exact RowsEq.ofT okRY rfl (Shp_zero _) rfl | rfl)
  · intro I hI p
    conv in Fin.chk _ _ => cbv
    try simp only [zqs, Plain_rowsC, Plain_rowsY, zqx, AllP, zqw, upd, if_true]
    obtain ⟨p, hp⟩ := p
    have hc := cntP_3 a
    have hq : (tinQ a.f).length ≤ 2 := by unfold tinQ; split <;> simp
    have hl : (tinQ a.f ++ tncL a).length = (tinQ a.f).length + cntP a := by rw [List.length_append, tncL_len]
    have hs : ((plnS a).take p).length = p := by rw [List.length_take, plnS_len]; omega
    (repeat' (with_reducible first | refine And.intro ?_ ?_ | intro hh))
    all_goals try (clear hI hX hX0 hB I X; subst hH; simp only [stdH, Tl_I, Int.toNat_natCast, decide_eq_true_eq, decide_eq_false_iff_not] at *; (repeat' refine And.intro ?_ ?_) <;> first | exact trivial | omega | exact rfl)
    all_goals try (rw [hH]; exact trivial)
    · simp only [hH, stdH, decide_eq_true_eq] at hh
      have hv : (tinQ a.f ++ tncL a).getD ((((tinQ a.f).length + p : Nat)) : Int).toNat 0 = (tncL a).getD p 0 := by
        rw [Int.toNat_natCast, List.getD_eq_getElem?_getD, List.getElem?_append_right (by omega), Nat.add_sub_cancel_left, ← List.getD_eq_getElem?_getD]
      have e1 : (plnS a).take (p + 1) = (plnS a).take p ++ [⟨1, (tncL a).getD p 0⟩] := by
        rw [← plnS_get (by omega), List.take_succ_eq_append_getElem (by rw [plnS_len]; omega), List.getD_eq_getElem?_getD, List.getElem?_eq_getElem (by rw [plnS_len]; omega)]; rfl
      refine ⟨⟨p + 1, by omega⟩, by simp only; omega, ?_⟩
      rw [hI]
      (conv in matchSt _ _ _ _ => cbv); simp only [AllG, AllP, and_true, hH, stdH, zql, ncast, zqe, zqy]
      rw [hv, e1]
      (repeat' (with_reducible refine And.intro ?_ ?_)) <;> (first | exact True.intro | exact RowsEq.self okI | exact RowsEq.snoc okRY rfl | exact List.length_append | (rw [wi (by omega) (by omega)]; omega))
    · simp only [hH, stdH, decide_eq_false_iff_not] at hh ⊢
      rw [List.take_of_length_le (by rw [plnS_len]; omega)]
      exact RowsEq.self okRY
    · simp only [hH, stdH, decide_eq_false_iff_not] at hh ⊢
      rw [List.take_of_length_le (by rw [plnS_len]; omega)]
noncomputable def e_plainS : Entry := pureN 92 fun H a => match a with
  | [.agg [.lit (.int .i64 a0), .lit (.int .i64 a1), .lit (.int .i64 a2), .lit (.int .i64 a3), .lit (.int .i64 a4), .lit (.int .i64 a5), .lit (.int .i64 a6), .lit (.int .i64 a7), .lit (.int .i64 a8), .lit (.int .i64 a9), .lit (.int .i64 a10), .lit (.int .i64 a11), .lit (.int .i64 a12), .lit (.int .i64 a13), .lit (.int .i64 a14)]] => some (fun nx => .agg [.lit (.int .i64 (H Int fun _ => (plnK (⟨⟨a0, a1, a2, a3⟩, a4, a5, a6, ⟨a7, a8, a9, a10⟩, ⟨a11, a12, a13, a14⟩⟩ : Arm)).arms.f.d)), .lit (.int .i64 (H Int fun _ => (plnK (⟨⟨a0, a1, a2, a3⟩, a4, a5, a6, ⟨a7, a8, a9, a10⟩, ⟨a11, a12, a13, a14⟩⟩ : Arm)).arms.f.l)), .lit (.int .i64 (H Int fun _ => (plnK (⟨⟨a0, a1, a2, a3⟩, a4, a5, a6, ⟨a7, a8, a9, a10⟩, ⟨a11, a12, a13, a14⟩⟩ : Arm)).arms.f.p)), .lit (.int .i64 (H Int fun _ => (plnK (⟨⟨a0, a1, a2, a3⟩, a4, a5, a6, ⟨a7, a8, a9, a10⟩, ⟨a11, a12, a13, a14⟩⟩ : Arm)).arms.f.q)), .lit (.int .i64 (H Int fun _ => (plnK (⟨⟨a0, a1, a2, a3⟩, a4, a5, a6, ⟨a7, a8, a9, a10⟩, ⟨a11, a12, a13, a14⟩⟩ : Arm)).arms.o)), .lit (.int .i64 (H Int fun _ => (plnK (⟨⟨a0, a1, a2, a3⟩, a4, a5, a6, ⟨a7, a8, a9, a10⟩, ⟨a11, a12, a13, a14⟩⟩ : Arm)).arms.l)), .lit (.int .i64 (H Int fun _ => (plnK (⟨⟨a0, a1, a2, a3⟩, a4, a5, a6, ⟨a7, a8, a9, a10⟩, ⟨a11, a12, a13, a14⟩⟩ : Arm)).arms.t)), .lit (.int .i64 (H Int fun _ => (plnK (⟨⟨a0, a1, a2, a3⟩, a4, a5, a6, ⟨a7, a8, a9, a10⟩, ⟨a11, a12, a13, a14⟩⟩ : Arm)).arms.n.c)), .lit (.int .i64 (H Int fun _ => (plnK (⟨⟨a0, a1, a2, a3⟩, a4, a5, a6, ⟨a7, a8, a9, a10⟩, ⟨a11, a12, a13, a14⟩⟩ : Arm)).arms.n.k)), .lit (.int .i64 (H Int fun _ => (plnK (⟨⟨a0, a1, a2, a3⟩, a4, a5, a6, ⟨a7, a8, a9, a10⟩, ⟨a11, a12, a13, a14⟩⟩ : Arm)).arms.n.a)), .lit (.int .i64 (H Int fun _ => (plnK (⟨⟨a0, a1, a2, a3⟩, a4, a5, a6, ⟨a7, a8, a9, a10⟩, ⟨a11, a12, a13, a14⟩⟩ : Arm)).arms.n.t)), .lit (.int .i64 (H Int fun _ => (plnK (⟨⟨a0, a1, a2, a3⟩, a4, a5, a6, ⟨a7, a8, a9, a10⟩, ⟨a11, a12, a13, a14⟩⟩ : Arm)).arms.r.c)), .lit (.int .i64 (H Int fun _ => (plnK (⟨⟨a0, a1, a2, a3⟩, a4, a5, a6, ⟨a7, a8, a9, a10⟩, ⟨a11, a12, a13, a14⟩⟩ : Arm)).arms.r.k)), .lit (.int .i64 (H Int fun _ => (plnK (⟨⟨a0, a1, a2, a3⟩, a4, a5, a6, ⟨a7, a8, a9, a10⟩, ⟨a11, a12, a13, a14⟩⟩ : Arm)).arms.r.a)), .lit (.int .i64 (H Int fun _ => (plnK (⟨⟨a0, a1, a2, a3⟩, a4, a5, a6, ⟨a7, a8, a9, a10⟩, ⟨a11, a12, a13, a14⟩⟩ : Arm)).arms.r.t)), .slc nx 0 2 (H Nat fun _ => (plnS (⟨⟨a0, a1, a2, a3⟩, a4, a5, a6, ⟨a7, a8, a9, a10⟩, ⟨a11, a12, a13, a14⟩⟩ : Arm)).length)], [.rows 2 (H Nat fun _ => (plnS (⟨⟨a0, a1, a2, a3⟩, a4, a5, a6, ⟨a7, a8, a9, a10⟩, ⟨a11, a12, a13, a14⟩⟩ : Arm)).length) (rowsY H fun _ => plnS (⟨⟨a0, a1, a2, a3⟩, a4, a5, a6, ⟨a7, a8, a9, a10⟩, ⟨a11, a12, a13, a14⟩⟩ : Arm)) 56], [H Prop fun _ => okA (⟨⟨a0, a1, a2, a3⟩, a4, a5, a6, ⟨a7, a8, a9, a10⟩, ⟨a11, a12, a13, a14⟩⟩ : Arm) = true])
  | _ => none
theorem eok_plainS : EntryOk Tryz.prog e_plainS := pureN_ok (by unfold isBody; kernel_rfl) (by
  intro a r nb ob e hob
  split at e
  · rename_i a0 a1 a2 a3 a4 a5 a6 a7 a8 a9 a10 a11 a12 a13 a14
    simp only [zqt] at e
    obtain ⟨rfl, rfl, rfl⟩ := e
    refine ⟨ConN.args (.cons .rfl .nil) (c_plainS (⟨⟨a0, a1, a2, a3⟩, a4, a5, a6, ⟨a7, a8, a9, a10⟩, ⟨a11, a12, a13, a14⟩⟩ : Arm) hob.1), fun x hx => ?_, fun nx => ?_, fun b hb => ?_⟩
    · simp only [zqu] at hx
      rcases hx with rfl
      · exact blq_ok 4 rfl
    · (repeat' (first | exact .nil | exact .slc ⟨by omega, by simp⟩ (by omega) | exact .pl .lit | apply ReL.cons | apply Re.aggL | apply Re.tupL))
    · simp only [zqu] at hb; subst hb; exact bT_bl okRY _ (fun _ => plnS (⟨⟨a0, a1, a2, a3⟩, a4, a5, a6, ⟨a7, a8, a9, a10⟩, ⟨a11, a12, a13, a14⟩⟩ : Arm)) _
  · simp at e)
def r_slotD (n : Nat) (H : Hold) (y : Unit → Slo) : AV := aT rowY H fun _ => (y ())
def nb_slotD (H : Hold) (y : Unit → Slo) : List Blk := []
theorem x_slotD (c : Cd)  (st : DS) (h : Bd 4 st)  : ∃ y, DrwM Tryz.prog 74 94 4 r_slotD nb_slotD (fun y => okY y = true) c [] st y := by
  have hB : Base Tryz.prog (tabΓ [e_pick c, e_tincture c]) tab := base_of tabOk (ents_cons (eok_pick c) <| ents_cons (eok_tincture c) <| ents_nil)
  refine drwM_ok (N := 24) hB (draw_ok hB mixed) Tryz.func94 rfl rfl 74 4 r_slotD nb_slotD (fun y => okY y = true) c (fun H => []) st 200 (by simp) (fun x hx => ?_) ?_
  · cases hx
  intro H hH
  conv in finish _ _ _ _ _ _ _ _ => cbv
  simp only [Fin.sat0, AllP, and_true, true_and, ncast, Int.ofNat_eq_natCast, heta hH]
  obtain ⟨a1, m1, n1⟩ := p_pick c (8) st (Bd.mono (by assumption)); generalize F_pick c (8) st = y1 at *; have b1 : Bd 2 y1.2 := Adv.bd a1 (by assumption)
  obtain ⟨a2, m2, n2⟩ := p_pick c (3) y1.2 (Bd.mono (by assumption)); generalize F_pick c (3) y1.2 = y2 at *; have b2 : Bd 0 y2.2 := Adv.bd a2 (by assumption)
  obtain ⟨a3, m3, n3⟩ := p_tincture c y1.2 b1.mono
  generalize F_tincture c y1.2 = y3 at *
  have e2 : IntKind.i64.wrap (1 + y2.1) = 1 + y2.1 := wi (by omega) (by omega)
  have k2 : okY ⟨2, 0⟩ = true := by decide
  have k4 : okY ⟨4, 0⟩ = true := by decide
  have k5 : okY ⟨5, 0⟩ = true := by decide
  have k3 : okY ⟨3, 1 + y2.1⟩ = true := by
    unfold okY
    rw [if_neg (by show ¬ (3 : Int) = 1; decide), if_pos rfl]
    exact decide_eq_true (by show 1 ≤ 1 + y2.1 ∧ 1 + y2.1 ≤ 3; omega)
  have k1 : okY ⟨1, y3.1⟩ = true := by
    unfold okY
    rw [if_pos rfl]
    exact decide_eq_true ⟨m3, n3⟩
  (repeat' (with_reducible first | refine And.intro ?_ ?_ | intro hh))
  · try simp only [hH, stdH, zqz, ne_eq, zqy]
    exact h.mono
  · refine ⟨((⟨2, 0⟩ : Slo), y1.2), a1.le (by omega), k2, ?_⟩
    (conv in matchEx _ _ _ _ _ _ _ => cbv); simp only [AllG, AllP, and_true, hH, stdH, zql, ncast, zqe, zqy]
    first | done | exact trivial | (repeat' (first | rfl | exact c.rqN | assumption | exact e2.symm | exact trivial | refine And.intro ?_ ?_))
  · try simp only [hH, stdH, zqz, ne_eq, zqy]
    exact b1.mono
  · refine ⟨((⟨3, 1 + y2.1⟩ : Slo), y2.2), (a1.t a2).le (by omega), k3, ?_⟩
    (conv in matchEx _ _ _ _ _ _ _ => cbv); simp only [AllG, AllP, and_true, hH, stdH, zql, ncast, zqe, zqy]
    first | done | exact trivial | (repeat' (first | rfl | exact c.rqN | assumption | exact e2.symm | exact trivial | refine And.intro ?_ ?_))
  · refine ⟨((⟨4, 0⟩ : Slo), y1.2), a1.le (by omega), k4, ?_⟩
    (conv in matchEx _ _ _ _ _ _ _ => cbv); simp only [AllG, AllP, and_true, hH, stdH, zql, ncast, zqe, zqy]
    first | done | exact trivial | (repeat' (first | rfl | exact c.rqN | assumption | exact e2.symm | exact trivial | refine And.intro ?_ ?_))
  · refine ⟨((⟨5, 0⟩ : Slo), y1.2), a1.le (by omega), k5, ?_⟩
    (conv in matchEx _ _ _ _ _ _ _ => cbv); simp only [AllG, AllP, and_true, hH, stdH, zql, ncast, zqe, zqy]
    first | done | exact trivial | (repeat' (first | rfl | exact c.rqN | assumption | exact e2.symm | exact trivial | refine And.intro ?_ ?_))
  · try simp only [hH, stdH, zqz, ne_eq, zqy]
    exact b1.mono
  · refine ⟨((⟨1, y3.1⟩ : Slo), y3.2), (a1.t a3).le (by omega), k1, ?_⟩
    (conv in matchEx _ _ _ _ _ _ _ => cbv); simp only [AllG, AllP, and_true, hH, stdH, zql, ncast, zqe, zqy]
    first | done | exact trivial | (repeat' (first | rfl | exact c.rqN | assumption | exact e2.symm | exact trivial | refine And.intro ?_ ?_))
  · refine ⟨((⟨5, 0⟩ : Slo), y1.2), a1.le (by omega), k5, ?_⟩
    (conv in matchEx _ _ _ _ _ _ _ => cbv); simp only [AllG, AllP, and_true, hH, stdH, zql, ncast, zqe, zqy]
    first | done | exact trivial | (repeat' (first | rfl | exact c.rqN | assumption | exact e2.symm | exact trivial | refine And.intro ?_ ?_))
  · try simp only [hH, stdH, zqz, ne_eq, zqy]
    exact b1.mono
  · refine ⟨((⟨1, y3.1⟩ : Slo), y3.2), (a1.t a3).le (by omega), k1, ?_⟩
    (conv in matchEx _ _ _ _ _ _ _ => cbv); simp only [AllG, AllP, and_true, hH, stdH, zql, ncast, zqe, zqy]
    first | done | exact trivial | (repeat' (first | rfl | exact c.rqN | assumption | exact e2.symm | exact trivial | refine And.intro ?_ ?_))
noncomputable def F_slotD (c : Cd)  (st : DS) : Slo × DS := drwM Tryz.prog 74 94 4 r_slotD nb_slotD (fun y => okY y = true) c [] st
noncomputable def e_slotD (c : Cd) : Entry := curEN 74 94 4 c fun H st a nx => match a with
  | [] => some (r_slotD nx H (fun _ => (F_slotD c  st).1), nb_slotD H (fun _ => (F_slotD c  st).1), (fun _ => (F_slotD c  st).2), [])
  | _ => none
theorem eok_slotD (c : Cd) : EntryOk Tryz.prog (e_slotD c) := curEN_ok (by unfold isBody; kernel_rfl) (by
  intro st a nx r nb y ob e hb hob
  split at e
  · simp only [zqt] at e
    obtain ⟨rfl, rfl, rfl, rfl⟩ := e
    have hd := drwM_spec (x_slotD c  st hb )
    refine ⟨_, _, ConN.args (.cons .rfl .nil) hd.1, fun x hx => ?_, rfl, ?_, fun q b hq => ⟨b, hq, .same ?_⟩⟩
    · cases hx
    · (repeat' (first | exact .nil | exact .slc ⟨by omega, by simp [nb_slotD]⟩ (by omega) | exact .pl .lit | exact .pl (aT_bl okRY (fun _ => (F_slotD c  st).1) _) | apply ReL.cons | apply Re.aggL | apply Re.tupL))
    · replace hq := List.mem_of_getElem? hq
      simp [nb_slotD] at hq
  · simp at e)
theorem p_slotD (c : Cd)  (st : DS) (h : Bd 4 st)  : Adv 4 st (F_slotD c  st).2 ∧ (fun y => okY y = true) (F_slotD c  st).1 := (drwM_spec (x_slotD c  st h )).2
noncomputable def skG (c : Cd) (n : Nat) : Nat → List Slo → DS → List Slo × DS
  | 0, S, st => (S, st)
  | m + 1, S, st => skG c n m (if (F_slotD c st).1.m = 5 ∧ m = 0 then S else S.set (n - (m + 1)) (F_slotD c st).1) (F_slotD c st).2
theorem skG_ok (c : Cd) (n : Nat) : ∀ (m : Nat) (S : List Slo) (st : DS) (k : Nat), Bd (4 * m + k) st → m ≤ n → S.length = n → (∀ y ∈ S, okY y = true) → (S.getD (n - 1) default).m ≠ 5 → Adv (4 * m) st (skG c n m S st).2 ∧ (skG c n m S st).1.length = n ∧ (∀ y ∈ (skG c n m S st).1, okY y = true) ∧ ((skG c n m S st).1.getD (n - 1) default).m ≠ 5
  | 0, S, st, k, _, _, hl, hy, hx => ⟨Adv.refl _ _, hl, hy, hx⟩
  | m + 1, S, st, k, h, hm, hl, hy, hx => by
    obtain ⟨a1, k1⟩ := p_slotD c st (h.mono (by omega))
    show Adv _ st (skG c n m (if _ then S else _) _).2 ∧ _
    have b1 : Bd (4 * m + k) (F_slotD c st).2 := a1.bd h (by omega)
    have key : (if (F_slotD c st).1.m = 5 ∧ m = 0 then S else S.set (n - (m + 1)) (F_slotD c st).1).length = n ∧ (∀ y ∈ (if (F_slotD c st).1.m = 5 ∧ m = 0 then S else S.set (n - (m + 1)) (F_slotD c st).1), okY y = true) ∧ ((if (F_slotD c st).1.m = 5 ∧ m = 0 then S else S.set (n - (m + 1)) (F_slotD c st).1).getD (n - 1) default).m ≠ 5 := by
      split
      · exact ⟨hl, hy, hx⟩
      · rename_i hne
        refine ⟨by rw [List.length_set]; exact hl, fun y hq => ?_, ?_⟩
        · rcases List.mem_or_eq_of_mem_set hq with h | rfl
          · exact hy y h
          · exact k1
        · rw [List.getD_eq_getElem?_getD, List.getElem?_set]
          by_cases e : n - (m + 1) = n - 1
          · rw [if_pos e, if_pos (by omega)]
            show (F_slotD c st).1.m ≠ 5
            exact fun q => hne ⟨q, by omega⟩
          · rw [if_neg e, ← List.getD_eq_getElem?_getD]; exact hx
    obtain ⟨g1, g2, g3, g4⟩ := skG_ok c n m _ (F_slotD c st).2 k b1 (by omega) key.1 key.2.1 key.2.2
    exact ⟨a1.trans g1 (by omega), g2, g3, g4⟩
noncomputable def skY (c : Cd) (st : DS) : Skt × DS := (⟨(plnK (F_armsV c st).1).arms, (skG c (plnS (F_armsV c st).1).length (plnS (F_armsV c st).1).length (plnS (F_armsV c st).1) (F_armsV c st).2).1⟩, (skG c (plnS (F_armsV c st).1).length (plnS (F_armsV c st).1).length (plnS (F_armsV c st).1) (F_armsV c st).2).2)
theorem skY_ok (c : Cd) (st : DS) (h : Bd 50 st) : Adv 50 st (skY c st).2 ∧ okK (skY c st).1 = true := by
  obtain ⟨a1, k1⟩ := p_armsV c st (h.mono (by omega))
  have b1 := a1.bd h (by omega : 38 + 12 ≤ 50)
  have hk := okK_pln k1
  have hc := cntP_3 (F_armsV c st).1
  have e : cntP (plnK (F_armsV c st).1).arms = cntP (F_armsV c st).1 := cntP_fil k1 _
  have hl := plnS_len (F_armsV c st).1
  obtain ⟨a2, l2, y2, x2⟩ := skG_ok c (plnS (F_armsV c st).1).length (plnS (F_armsV c st).1).length (plnS (F_armsV c st).1) (F_armsV c st).2 0 (b1.mono (by omega)) (Nat.le_refl _) rfl (fun y hy => by
    obtain ⟨i, hi, rfl⟩ := List.getElem_of_mem hy
    have := hk.y i (by rw [e]; omega)
    rwa [List.getD_eq_getElem?_getD, List.getElem?_eq_getElem (show i < (plnK (F_armsV c st).1).slots.length from hi)] at this) hk.nx
  refine ⟨a1.trans a2 (by omega), okK_iff.2 ⟨hk.a, hk.g, ?_, fun i hi => ?_, ?_⟩⟩
  · show (skG _ _ _ _ _).1.length = _
    rw [l2]; exact hk.len
  · exact y2 _ (getD_mem (by show i < (skG _ _ _ _ _).1.length; rw [l2, hl, ← e]; exact hi))
  · show ((skG _ _ _ _ _).1.getD ((skG _ _ _ _ _).1.length - 1) default).m ≠ 5
    rw [l2]; exact x2
def r_sketchD (n : Nat) (H : Hold) (y : Unit → Skt) : AV := .agg [.lit (.int .i64 (H Int fun _ => (y ()).arms.f.d)), .lit (.int .i64 (H Int fun _ => (y ()).arms.f.l)), .lit (.int .i64 (H Int fun _ => (y ()).arms.f.p)), .lit (.int .i64 (H Int fun _ => (y ()).arms.f.q)), .lit (.int .i64 (H Int fun _ => (y ()).arms.o)), .lit (.int .i64 (H Int fun _ => (y ()).arms.l)), .lit (.int .i64 (H Int fun _ => (y ()).arms.t)), .lit (.int .i64 (H Int fun _ => (y ()).arms.n.c)), .lit (.int .i64 (H Int fun _ => (y ()).arms.n.k)), .lit (.int .i64 (H Int fun _ => (y ()).arms.n.a)), .lit (.int .i64 (H Int fun _ => (y ()).arms.n.t)), .lit (.int .i64 (H Int fun _ => (y ()).arms.r.c)), .lit (.int .i64 (H Int fun _ => (y ()).arms.r.k)), .lit (.int .i64 (H Int fun _ => (y ()).arms.r.a)), .lit (.int .i64 (H Int fun _ => (y ()).arms.r.t)), .slc n 0 2 (H Nat fun _ => ((y ()).slots).length)]
def nb_sketchD (H : Hold) (y : Unit → Skt) : List Blk := [.rows 2 (H Nat fun _ => ((y ()).slots).length) (rowsY H fun _ => (y ()).slots) 56]
theorem x_sketchD (c : Cd)  (st : DS) (h : Bd 50 st)  : ∃ y, DrwM Tryz.prog 74 45 50 r_sketchD nb_sketchD (fun y => okK y = true) c [] st y := by
  have hB : Base Tryz.prog (tabΓ [e_armsV c, e_slotD c, e_plainS]) tabO := base_of tabOkO (ents_cons (eok_armsV c) <| ents_cons (eok_slotD c) <| ents_cons eok_plainS <| ents_nil)
  refine drwM_okL (N := 35) hB (draw_ok hB mixed) Tryz.func45 rfl rfl 74 50 r_sketchD nb_sketchD (fun y => okK y = true) c (fun H => []) st 400 (by simp) (fun x hx => ?_) (skY c st) (skY_ok c st h) ?_
  · cases hx
  intro X hX hX0 H hH
  conv in Fin.chk _ _ => cbv
  try simp only [zqs, Plain_rowsC, Plain_rowsY, zqx, AllP, zqw, upd, if_true]
  simp only [hetaA hH, heta hH]
  refine ⟨?_, ?_, ?_⟩
  · try simp only [hH, stdH, zqz, ne_eq, zqy]
    exact h.mono
  · try simp only [hH, stdH, zqz, ne_eq, zqy]
    exact (p_armsV c st (h.mono (by omega))).2
  obtain ⟨a1, k1⟩ := p_armsV c st (h.mono (by omega))
  have b1 := a1.bd h (by omega : 38 + 12 ≤ 50)
  have hc := cntP_3 (F_armsV c st).1
  have hl := plnS_len (F_armsV c st).1
  have hY : skY c st = (⟨(plnK (F_armsV c st).1).arms, (skG c (plnS (F_armsV c st).1).length (plnS (F_armsV c st).1).length (plnS (F_armsV c st).1) (F_armsV c st).2).1⟩, (skG c (plnS (F_armsV c st).1).length (plnS (F_armsV c st).1).length (plnS (F_armsV c st).1) (F_armsV c st).2).2) := rfl
  generalize F_armsV c st = A at *
  obtain ⟨a, st1⟩ := A
  simp only at *
  have g0 : (plnS a).length ≤ (plnS a).length ∧ (plnS a).length = (plnS a).length ∧ Bd (4 * (plnS a).length) st1 ∧ ((⟨(plnK a).arms, (skG c (plnS a).length (plnS a).length (plnS a) st1).1⟩, (skG c (plnS a).length (plnS a).length (plnS a) st1).2) : Skt × DS) = skY c st := ⟨Nat.le_refl _, rfl, b1.mono (by omega), hY.symm⟩
  refine loop_c hB (draw_ok hB mixed) hX hX0 hH [0, 2, 3, 4] (ι := { p : Nat × List Slo × DS // p.1 ≤ (plnS a).length ∧ p.2.1.length = (plnS a).length ∧ Bd (4 * p.1) p.2.2 ∧ ((⟨(plnK a).arms, (skG c (plnS a).length p.1 p.2.1 p.2.2).1⟩, (skG c (plnS a).length p.1 p.2.1 p.2.2).2) : Skt × DS) = skY c st }) 400 (fun p => [.i (H Int fun _ => ((plnS a).length : Int) - (p.1.1 : Nat)), .i (H Int fun _ => p.1.2.2.1), .i (H Int fun _ => p.1.2.2.2), .i (H Int fun _ => (plnK a).arms.f.d), .i (H Int fun _ => (plnK a).arms.f.l), .i (H Int fun _ => (plnK a).arms.f.p), .i (H Int fun _ => (plnK a).arms.f.q), .i (H Int fun _ => (plnK a).arms.o), .i (H Int fun _ => (plnK a).arms.l), .i (H Int fun _ => (plnK a).arms.t), .i (H Int fun _ => (plnK a).arms.n.c), .i (H Int fun _ => (plnK a).arms.n.k), .i (H Int fun _ => (plnK a).arms.n.a), .i (H Int fun _ => (plnK a).arms.n.t), .i (H Int fun _ => (plnK a).arms.r.c), .i (H Int fun _ => (plnK a).arms.r.k), .i (H Int fun _ => (plnK a).arms.r.a), .i (H Int fun _ => (plnK a).arms.r.t), .r (H Nat fun _ => (p.1.2.1).length) (rowsY H fun _ => p.1.2.1)]) (fun p => p.1.1) (⟨((plnS a).length, plnS a, st1), g0⟩) ?_ ?_
  · (conv in matchSt _ _ _ _ => cbv); simp only [AllG, AllP, and_true, hH, stdH, zql, ncast, zqe, zqy]
    (repeat' (with_reducible refine And.intro ?_ ?_)) <;> (first | exact True.intro | exact RowsEq.self okRY | exact c.rqN | omega)
  · intro I hI p
    conv in Fin.chk _ _ => cbv
    try simp only [zqs, Plain_rowsC, Plain_rowsY, zqx, AllP, zqw, upd, if_true]
    obtain ⟨⟨m, S, s1⟩, g1, g2, g3, g4⟩ := p
    simp only at g1 g2 g3 g4 ⊢
    simp only [heta hH]
    refine ⟨fun h1 => ?_, fun h1 => ?_⟩
    · simp only [hH, stdH, decide_eq_true_eq] at h1
      obtain ⟨m, rfl⟩ : ∃ q, m = q + 1 := ⟨m - 1, by omega⟩
      obtain ⟨a2, k2⟩ := p_slotD c s1 (g3.mono (by omega))
      have b2 : Bd (4 * m) (F_slotD c s1).2 := a2.bd g3 (by omega)
      have g5 : skG c (plnS a).length (m + 1) S s1 = skG c (plnS a).length m (if (F_slotD c s1).1.m = 5 ∧ m = 0 then S else S.set ((plnS a).length - (m + 1)) (F_slotD c s1).1) (F_slotD c s1).2 := rfl
      rw [g5] at g4
      have ej : (((plnS a).length : Int) - ((m + 1 : Nat) : Int)).toNat = (plnS a).length - (m + 1) := by omega
      have ei : IntKind.i64.wrap (((plnS a).length : Int) - ((m + 1 : Nat) : Int) + 1) = ((plnS a).length : Int) - ((m : Nat) : Int) := by rw [wi (by omega) (by omega)]; omega
      have ew : IntKind.i64.wrap ((S.length : Int) - 1) = (S.length : Int) - 1 := wi (by omega) (by omega)
      refine ⟨?_, fun hh => ⟨?_, ?_, ?_⟩, fun hh => ?_⟩
      · try simp only [hH, stdH, zqz, ne_eq, zqy]
        exact g3.mono (by omega)
      · try simp only [hH, stdH, zqz, ne_eq, zqy]
        omega
      · try simp only [hH, stdH, zqz, ne_eq, zqy]
        exact ⟨by omega, rfl⟩
      · simp only [hH, stdH, ew] at hh
        have hne : ¬ ((F_slotD c s1).1.m = 5 ∧ m = 0) := by
          rintro ⟨q1, rfl⟩
          rw [q1] at hh
          simp at hh
          omega
        rw [if_neg hne] at g4
        refine ⟨⟨(m, S.set ((plnS a).length - (m + 1)) (F_slotD c s1).1, (F_slotD c s1).2), by omega, by simp only [List.length_set]; exact g2, b2, g4⟩, by simp only; omega, ?_⟩
        rw [hI]
        (conv in matchSt _ _ _ _ => cbv); simp only [AllG, AllP, and_true, hH, stdH, zql, ncast, zqe, zqy]
        rw [ei, ej]
        (repeat' (with_reducible refine And.intro ?_ ?_)) <;> (first | exact True.intro | exact RowsEq.self okRY | exact RowsEq.putT okRY rfl | exact c.rqN | exact List.length_set | rfl)
      · simp only [hH, stdH, ew] at hh
        have hy5 : (F_slotD c s1).1.m = 5 ∧ m = 0 := by
          by_cases q1 : (F_slotD c s1).1.m = 5
          · refine ⟨q1, ?_⟩
            rw [q1] at hh
            simp at hh
            omega
          · rw [show ((F_slotD c s1).1.m != 5) = true by simp [q1]] at hh
            cases hh
        rw [if_pos hy5] at g4
        refine ⟨⟨(m, S, (F_slotD c s1).2), by omega, g2, b2, g4⟩, by simp only; omega, ?_⟩
        rw [hI]
        (conv in matchSt _ _ _ _ => cbv); simp only [AllG, AllP, and_true, hH, stdH, zql, ncast, zqe, zqy]
        rw [ei]
        (repeat' (with_reducible refine And.intro ?_ ?_)) <;> (first | exact True.intro | exact RowsEq.self okRY | exact c.rqN | rfl)
    · simp only [hH, stdH, decide_eq_false_iff_not] at h1
      obtain rfl : m = 0 := by omega
      have e : skY c st = ((⟨(plnK a).arms, S⟩ : Skt), s1) := by rw [← g4]; rfl
      rw [e]
      simp only [hH, stdH]
      (repeat' (first | exact trivial | rfl | exact RowsEq.self okRY | exact c.rqN | refine And.intro ?_ ?_))
noncomputable def F_sketchD (c : Cd)  (st : DS) : Skt × DS := drwM Tryz.prog 74 45 50 r_sketchD nb_sketchD (fun y => okK y = true) c [] st
noncomputable def e_sketchD (c : Cd) : Entry := curEN 74 45 50 c fun H st a nx => match a with
  | [] => some (r_sketchD nx H (fun _ => (F_sketchD c  st).1), nb_sketchD H (fun _ => (F_sketchD c  st).1), (fun _ => (F_sketchD c  st).2), [])
  | _ => none
theorem eok_sketchD (c : Cd) : EntryOk Tryz.prog (e_sketchD c) := curEN_ok (by unfold isBody; kernel_rfl) (by
  intro st a nx r nb y ob e hb hob
  split at e
  · simp only [zqt] at e
    obtain ⟨rfl, rfl, rfl, rfl⟩ := e
    have hd := drwM_spec (x_sketchD c  st hb )
    refine ⟨_, _, ConN.args (.cons .rfl .nil) hd.1, fun x hx => ?_, rfl, ?_, fun q b hq => ⟨b, hq, .same ?_⟩⟩
    · cases hx
    · (repeat' (first | exact .nil | exact .slc ⟨by omega, by simp [nb_sketchD]⟩ (by omega) | exact .pl .lit | apply ReL.cons | apply Re.aggL | apply Re.tupL))
    · replace hq := List.mem_of_getElem? hq
      simp only [nb_sketchD, zqu] at hq; subst hq; exact bT_bl okRY _ (fun _ => (F_sketchD c  st).1.slots) _
  · simp at e)
theorem p_sketchD (c : Cd)  (st : DS) (h : Bd 50 st)  : Adv 50 st (F_sketchD c  st).2 ∧ (fun y => okK y = true) (F_sketchD c  st).1 := (drwM_spec (x_sketchD c  st h )).2

end Go.Proofs.YtmkniipdkanbbaaGreatDoor.AM

