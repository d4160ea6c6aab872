/- Lemmas and contracts (Plq Fil); conditions: none. -/
import Derived.Test.YtmkniipdkanbbaaGreatDoorK04
import Derived.Test.YtmkniipdkanbbaaGreatDoorK30
import Derived.Test.YtmkniipdkanbbaaGreatDoorK31
import Derived.Test.YtmkniipdkanbbaaGreatDoorK36
set_option linter.unusedVariables false
set_option linter.unusedSimpArgs false
set_option maxRecDepth 100000
set_option maxHeartbeats 4000000
set_option cbv.maxSteps 3000000
namespace Go.Proofs.YtmkniipdkanbbaaGreatDoor.AM
/- Plain sketches, filled ones: plain laws; conditions: none. -/
theorem noG_t {g : Grp} (h : okG g = true) (t : Int) : noG ⟨g.c, g.k, g.a, t⟩ = false := by
  unfold okG inB at h
  simp only [Bool.and_eq_true, decide_eq_true_eq] at h
  unfold noG
  rw [decide_eq_false (show ¬ g.c = 0 by omega)]; rfl
theorem okA_Nb {a : Arm} (h : okA a = true) (hn : noG a.n = false) : okG a.n = true := by
  have ho := (okA_N h hn).2
  unfold okA at h
  rw [if_neg ho, hn] at h
  simp only [Bool.and_eq_true, Bool.false_or] at h
  exact h.2.2
theorem okA_Rb {a : Arm} (h : okA a = true) (hr : noG a.r = false) : okG a.r = true := by
  unfold okA at h
  rw [hr] at h
  simp only [Bool.and_eq_true, Bool.false_or] at h
  exact h.1.2
theorem noG_filn {a : Arm} (h : okA a = true) (l : List Int) : noG (filA a l).n = noG a.n := by
  show noG ⟨a.n.c, a.n.k, a.n.a, if noG a.n then a.n.t else l.getD (i1 a) 0⟩ = _
  cases hn : noG a.n
  · exact noG_t (okA_Nb h hn) _
  · exact hn
theorem noG_filr {a : Arm} (h : okA a = true) (l : List Int) : noG (filA a l).r = noG a.r := by
  show noG ⟨a.r.c, a.r.k, a.r.a, if noG a.r then a.r.t else l.getD (i2 a) 0⟩ = _
  cases hr : noG a.r
  · exact noG_t (okA_Rb h hr) _
  · exact hr
theorem okG_fil {g : Grp} (h : okG g = true) {t : Int} (ht : tnc t) : okG ⟨g.c, g.k, g.a, t⟩ = true := by
  have e : okG ⟨g.c, g.k, g.a, t⟩ = (inB g.c 1 6 && attF g.k g.a && inB t 1 9) := rfl
  rw [e]
  have e2 : okG g = (inB g.c 1 6 && attF g.k g.a && inB g.t 1 9) := rfl
  rw [e2] at h
  simp only [Bool.and_eq_true] at h ⊢
  exact ⟨h.1, decide_eq_true ht⟩
theorem okA_fil {a : Arm} (h : okA a = true) {l : List Int} (hl : ∀ j, j < cntP a → tnc (l.getD j 0)) : okA (filA a l) = true := by
  have e : okA (filA a l) = (okF a.f && (noG (filA a l).r || okG (filA a l).r) && (if a.o = 0 then decide (a.l = 0) && decide (a.t = 0) && noG (filA a l).n else inB a.o 1 7 && inB a.l 0 4 && inB (l.getD 0 0) 1 9 && (noG (filA a l).n || okG (filA a l).n))) := by
    by_cases ho : a.o = 0
    · have e1 : (filA a l).t = a.t := if_pos ho
      unfold okA
      rw [e1, if_pos (show (filA a l).o = 0 from ho), if_pos ho]; rfl
    · have e1 : (filA a l).t = l.getD 0 0 := if_neg ho
      unfold okA
      rw [e1, if_neg (show ¬ (filA a l).o = 0 from ho), if_neg ho]; rfl
  rw [e, noG_filn h, noG_filr h]
  have h9 := h
  unfold okA at h
  simp only [Bool.and_eq_true] at h ⊢
  refine ⟨⟨h.1.1, ?_⟩, ?_⟩
  · cases hr : noG a.r
    · rw [Bool.false_or]
      show okG ⟨a.r.c, a.r.k, a.r.a, if noG a.r then a.r.t else l.getD (i2 a) 0⟩ = true
      rw [hr, if_neg (by simp)]
      exact okG_fil (okA_Rb h9 hr) (hl _ (by unfold cntP; rw [hr]; simp))
    · rfl
  · by_cases ho : a.o = 0
    · rw [if_pos ho] at h ⊢; exact h.2
    · rw [if_neg ho] at h ⊢
      simp only [Bool.and_eq_true] at h ⊢
      have hc : i1 a = 1 := if_neg ho
      refine ⟨⟨h.2.1.1, decide_eq_true (hl 0 (by unfold cntP i2; omega))⟩, ?_⟩
      cases hn : noG a.n
      · rw [Bool.false_or]
        show okG ⟨a.n.c, a.n.k, a.n.a, if noG a.n then a.n.t else l.getD (i1 a) 0⟩ = true
        rw [hn, if_neg (by simp)]
        exact okG_fil (okA_Nb h9 hn) (hl _ (by unfold cntP i2; rw [hn]; simp only [Bool.false_eq_true, if_false]; split <;> omega))
      · rfl
theorem cntP_3 (a : Arm) : cntP a ≤ 3 := by unfold cntP i2 i1; split <;> split <;> split <;> omega
end Go.Proofs.YtmkniipdkanbbaaGreatDoor.AM

set_option maxRecDepth 100000
set_option maxHeartbeats 4000000
set_option cbv.maxSteps 3000000
namespace Go.Proofs.YtmkniipdkanbbaaGreatDoor.AM
/- A sketch filled with tinctures, by the program; conditions: none. -/
theorem c_fil000 (k : Skt) (l : List Int) (hz : l.length ≤ 2000000) (hl : cntP k.arms ≤ l.length) (ho : decide (k.arms.o = 0) = true) (hn : noG k.arms.n = true) (hr : noG k.arms.r = true) : ConN Tryz.prog 50 [aT rowK stdH fun _ => k, .vec 1 (stdH Nat fun _ => l.length) (rowsI stdH fun _ => l)] [] 0 (aT rowA stdH fun _ => filA k.arms l) [] [] := by
  have hB : Base Tryz.prog (tabΓ [e_ptrA000]) tabZ := base_of tabOkZ (ents_cons eok_ptrA000 <| ents_nil)
  refine con_m (N := 25) hB (draw_ok hB mixed) Tryz.func50 rfl rfl (fun H => [aT rowK H fun _ => k, .vec 1 (H Nat fun _ => l.length) (rowsI H fun _ => l)]) (fun _ => []) 0 (fun H => aT rowA H fun _ => filA k.arms l) (fun H => []) (fun _ => []) 300 (by simp) (fun x hx => ?_) (by simp [lk]) (by omega) (by simp) ?_
  · simp only [zqu] at hx
    rcases hx with rfl | rfl
    · exact aT_bl okRK _ _
    · exact .vec fun j _ x hx => rows_blx okI _ j x hx
  intro X hX hX0 H hH
  conv in Fin.chk _ _ => cbv
  try simp only [zqs, Plain_rowsC, Plain_rowsY, zqx, AllP, zqw, upd, if_true]
  subst hH
  simp only [stdH, Arm.eta2, Fld.eta, Grp.eta, ho, hn, hr, Tl_I, x01, x11, t0, t1, t2]
  rw [decide_eq_true_eq] at ho
  unfold cntP i2 i1 at hl
  unfold filA i2 i1
  simp only [ho, hn, hr, if_true, if_false, Bool.false_eq_true] at hl ⊢
  (repeat' (first | exact trivial | rfl | assumption | omega | exact Shp_I _ _ | refine And.intro ?_ ?_ | (intro h; first | (cases h; done) | (simp at h; done) | skip)))
theorem c_fil001 (k : Skt) (l : List Int) (hz : l.length ≤ 2000000) (hl : cntP k.arms ≤ l.length) (ho : decide (k.arms.o = 0) = true) (hn : noG k.arms.n = true) (hr : noG k.arms.r = false) : ConN Tryz.prog 50 [aT rowK stdH fun _ => k, .vec 1 (stdH Nat fun _ => l.length) (rowsI stdH fun _ => l)] [] 0 (aT rowA stdH fun _ => filA k.arms l) [] [] := by
  have hB : Base Tryz.prog (tabΓ [e_ptrA001]) tabZ := base_of tabOkZ (ents_cons eok_ptrA001 <| ents_nil)
  refine con_m (N := 25) hB (draw_ok hB mixed) Tryz.func50 rfl rfl (fun H => [aT rowK H fun _ => k, .vec 1 (H Nat fun _ => l.length) (rowsI H fun _ => l)]) (fun _ => []) 0 (fun H => aT rowA H fun _ => filA k.arms l) (fun H => []) (fun _ => []) 300 (by simp) (fun x hx => ?_) (by simp [lk]) (by omega) (by simp) ?_
  · simp only [zqu] at hx
    rcases hx with rfl | rfl
    · exact aT_bl okRK _ _
    · exact .vec fun j _ x hx => rows_blx okI _ j x hx
  intro X hX hX0 H hH
  conv in Fin.chk _ _ => cbv
  try simp only [zqs, Plain_rowsC, Plain_rowsY, zqx, AllP, zqw, upd, if_true]
  subst hH
  simp only [stdH, Arm.eta2, Fld.eta, Grp.eta, ho, hn, hr, Tl_I, x01, x11, t0, t1, t2]
  rw [decide_eq_true_eq] at ho
  unfold cntP i2 i1 at hl
  unfold filA i2 i1
  simp only [ho, hn, hr, if_true, if_false, Bool.false_eq_true] at hl ⊢
  (repeat' (first | exact trivial | rfl | assumption | omega | exact Shp_I _ _ | refine And.intro ?_ ?_ | (intro h; first | (cases h; done) | (simp at h; done) | skip)))
theorem c_fil100 (k : Skt) (l : List Int) (hz : l.length ≤ 2000000) (hl : cntP k.arms ≤ l.length) (ho : decide (k.arms.o = 0) = false) (hn : noG k.arms.n = true) (hr : noG k.arms.r = true) : ConN Tryz.prog 50 [aT rowK stdH fun _ => k, .vec 1 (stdH Nat fun _ => l.length) (rowsI stdH fun _ => l)] [] 0 (aT rowA stdH fun _ => filA k.arms l) [] [] := by
  have hB : Base Tryz.prog (tabΓ [e_ptrA100]) tabZ := base_of tabOkZ (ents_cons eok_ptrA100 <| ents_nil)
  refine con_m (N := 25) hB (draw_ok hB mixed) Tryz.func50 rfl rfl (fun H => [aT rowK H fun _ => k, .vec 1 (H Nat fun _ => l.length) (rowsI H fun _ => l)]) (fun _ => []) 0 (fun H => aT rowA H fun _ => filA k.arms l) (fun H => []) (fun _ => []) 300 (by simp) (fun x hx => ?_) (by simp [lk]) (by omega) (by simp) ?_
  · simp only [zqu] at hx
    rcases hx with rfl | rfl
    · exact aT_bl okRK _ _
    · exact .vec fun j _ x hx => rows_blx okI _ j x hx
  intro X hX hX0 H hH
  conv in Fin.chk _ _ => cbv
  try simp only [zqs, Plain_rowsC, Plain_rowsY, zqx, AllP, zqw, upd, if_true]
  subst hH
  simp only [stdH, Arm.eta2, Fld.eta, Grp.eta, ho, hn, hr, Tl_I, x01, x11, t0, t1, t2]
  rw [decide_eq_false_iff_not] at ho
  unfold cntP i2 i1 at hl
  unfold filA i2 i1
  simp only [ho, hn, hr, if_true, if_false, Bool.false_eq_true] at hl ⊢
  (repeat' (first | exact trivial | rfl | assumption | omega | exact Shp_I _ _ | refine And.intro ?_ ?_ | (intro h; first | (cases h; done) | (simp at h; done) | skip)))
theorem c_fil101 (k : Skt) (l : List Int) (hz : l.length ≤ 2000000) (hl : cntP k.arms ≤ l.length) (ho : decide (k.arms.o = 0) = false) (hn : noG k.arms.n = true) (hr : noG k.arms.r = false) : ConN Tryz.prog 50 [aT rowK stdH fun _ => k, .vec 1 (stdH Nat fun _ => l.length) (rowsI stdH fun _ => l)] [] 0 (aT rowA stdH fun _ => filA k.arms l) [] [] := by
  have hB : Base Tryz.prog (tabΓ [e_ptrA101]) tabZ := base_of tabOkZ (ents_cons eok_ptrA101 <| ents_nil)
  refine con_m (N := 25) hB (draw_ok hB mixed) Tryz.func50 rfl rfl (fun H => [aT rowK H fun _ => k, .vec 1 (H Nat fun _ => l.length) (rowsI H fun _ => l)]) (fun _ => []) 0 (fun H => aT rowA H fun _ => filA k.arms l) (fun H => []) (fun _ => []) 300 (by simp) (fun x hx => ?_) (by simp [lk]) (by omega) (by simp) ?_
  · simp only [zqu] at hx
    rcases hx with rfl | rfl
    · exact aT_bl okRK _ _
    · exact .vec fun j _ x hx => rows_blx okI _ j x hx
  intro X hX hX0 H hH
  conv in Fin.chk _ _ => cbv
  try simp only [zqs, Plain_rowsC, Plain_rowsY, zqx, AllP, zqw, upd, if_true]
  subst hH
  simp only [stdH, Arm.eta2, Fld.eta, Grp.eta, ho, hn, hr, Tl_I, x01, x11, t0, t1, t2]
  rw [decide_eq_false_iff_not] at ho
  unfold cntP i2 i1 at hl
  unfold filA i2 i1
  simp only [ho, hn, hr, if_true, if_false, Bool.false_eq_true] at hl ⊢
  (repeat' (first | exact trivial | rfl | assumption | omega | exact Shp_I _ _ | refine And.intro ?_ ?_ | (intro h; first | (cases h; done) | (simp at h; done) | skip)))
theorem c_fil110 (k : Skt) (l : List Int) (hz : l.length ≤ 2000000) (hl : cntP k.arms ≤ l.length) (ho : decide (k.arms.o = 0) = false) (hn : noG k.arms.n = false) (hr : noG k.arms.r = true) : ConN Tryz.prog 50 [aT rowK stdH fun _ => k, .vec 1 (stdH Nat fun _ => l.length) (rowsI stdH fun _ => l)] [] 0 (aT rowA stdH fun _ => filA k.arms l) [] [] := by
  have hB : Base Tryz.prog (tabΓ [e_ptrA110]) tabZ := base_of tabOkZ (ents_cons eok_ptrA110 <| ents_nil)
  refine con_m (N := 25) hB (draw_ok hB mixed) Tryz.func50 rfl rfl (fun H => [aT rowK H fun _ => k, .vec 1 (H Nat fun _ => l.length) (rowsI H fun _ => l)]) (fun _ => []) 0 (fun H => aT rowA H fun _ => filA k.arms l) (fun H => []) (fun _ => []) 300 (by simp) (fun x hx => ?_) (by simp [lk]) (by omega) (by simp) ?_
  · simp only [zqu] at hx
    rcases hx with rfl | rfl
    · exact aT_bl okRK _ _
    · exact .vec fun j _ x hx => rows_blx okI _ j x hx
  intro X hX hX0 H hH
  conv in Fin.chk _ _ => cbv
  try simp only [zqs, Plain_rowsC, Plain_rowsY, zqx, AllP, zqw, upd, if_true]
  subst hH
  simp only [stdH, Arm.eta2, Fld.eta, Grp.eta, ho, hn, hr, Tl_I, x01, x11, t0, t1, t2]
  rw [decide_eq_false_iff_not] at ho
  unfold cntP i2 i1 at hl
  unfold filA i2 i1
  simp only [ho, hn, hr, if_true, if_false, Bool.false_eq_true] at hl ⊢
  (repeat' (first | exact trivial | rfl | assumption | omega | exact Shp_I _ _ | refine And.intro ?_ ?_ | (intro h; first | (cases h; done) | (simp at h; done) | skip)))
theorem c_fil111 (k : Skt) (l : List Int) (hz : l.length ≤ 2000000) (hl : cntP k.arms ≤ l.length) (ho : decide (k.arms.o = 0) = false) (hn : noG k.arms.n = false) (hr : noG k.arms.r = false) : ConN Tryz.prog 50 [aT rowK stdH fun _ => k, .vec 1 (stdH Nat fun _ => l.length) (rowsI stdH fun _ => l)] [] 0 (aT rowA stdH fun _ => filA k.arms l) [] [] := by
  have hB : Base Tryz.prog (tabΓ [e_ptrA111]) tabZ := base_of tabOkZ (ents_cons eok_ptrA111 <| ents_nil)
  refine con_m (N := 25) hB (draw_ok hB mixed) Tryz.func50 rfl rfl (fun H => [aT rowK H fun _ => k, .vec 1 (H Nat fun _ => l.length) (rowsI H fun _ => l)]) (fun _ => []) 0 (fun H => aT rowA H fun _ => filA k.arms l) (fun H => []) (fun _ => []) 300 (by simp) (fun x hx => ?_) (by simp [lk]) (by omega) (by simp) ?_
  · simp only [zqu] at hx
    rcases hx with rfl | rfl
    · exact aT_bl okRK _ _
    · exact .vec fun j _ x hx => rows_blx okI _ j x hx
  intro X hX hX0 H hH
  conv in Fin.chk _ _ => cbv
  try simp only [zqs, Plain_rowsC, Plain_rowsY, zqx, AllP, zqw, upd, if_true]
  subst hH
  simp only [stdH, Arm.eta2, Fld.eta, Grp.eta, ho, hn, hr, Tl_I, x01, x11, t0, t1, t2]
  rw [decide_eq_false_iff_not] at ho
  unfold cntP i2 i1 at hl
  unfold filA i2 i1
  simp only [ho, hn, hr, if_true, if_false, Bool.false_eq_true] at hl ⊢
  (repeat' (first | exact trivial | rfl | assumption | omega | exact Shp_I _ _ | refine And.intro ?_ ?_ | (intro h; first | (cases h; done) | (simp at h; done) | skip)))
theorem c_filK (k : Skt) (l : List Int) (h0 : okA k.arms = true) (h1 : cntP k.arms ≤ l.length) (h2 : l.length ≤ 2000000) : ConN Tryz.prog 50 [aT rowK stdH fun _ => k, .vec 1 (stdH Nat fun _ => (l).length) (rowsI stdH fun _ => l)] [] 0 (aT rowA stdH fun _ => filA k.arms l) [] [] := by
  by_cases ho : k.arms.o = 0
  · have hn := okA_o0 h0 ho
    cases hr : noG k.arms.r
    · exact c_fil001 k l h2 h1 (decide_eq_true ho) hn hr
    · exact c_fil000 k l h2 h1 (decide_eq_true ho) hn hr
  · cases hn : noG k.arms.n <;> cases hr : noG k.arms.r
    · exact c_fil111 k l h2 h1 (decide_eq_false ho) hn hr
    · exact c_fil110 k l h2 h1 (decide_eq_false ho) hn hr
    · exact c_fil101 k l h2 h1 (decide_eq_false ho) hn hr
    · exact c_fil100 k l h2 h1 (decide_eq_false ho) hn hr
noncomputable def e_filK : Entry := pureE 50 fun H a => match a with
  | [.agg [.lit (.int .i64 k0), .lit (.int .i64 k1), .lit (.int .i64 k2), .lit (.int .i64 k3), .lit (.int .i64 k4), .lit (.int .i64 k5), .lit (.int .i64 k6), .lit (.int .i64 k7), .lit (.int .i64 k8), .lit (.int .i64 k9), .lit (.int .i64 k10), .lit (.int .i64 k11), .lit (.int .i64 k12), .lit (.int .i64 k13), .lit (.int .i64 k14), .vec 2 k15n k15f], .vec 1 ln lf] => some (aT rowA H fun _ => filA (⟨⟨⟨k0, k1, k2, k3⟩, k4, k5, k6, ⟨k7, k8, k9, k10⟩, ⟨k11, k12, k13, k14⟩⟩, (Tl rowY k15n k15f)⟩ : Skt).arms (Tl rowI ln lf), [H Prop fun _ => Shp rowY k15n k15f, H Prop fun _ => Shp rowI ln lf, H Prop fun _ => okA (⟨⟨⟨k0, k1, k2, k3⟩, k4, k5, k6, ⟨k7, k8, k9, k10⟩, ⟨k11, k12, k13, k14⟩⟩, (Tl rowY k15n k15f)⟩ : Skt).arms = true, H Prop fun _ => cntP (⟨⟨⟨k0, k1, k2, k3⟩, k4, k5, k6, ⟨k7, k8, k9, k10⟩, ⟨k11, k12, k13, k14⟩⟩, (Tl rowY k15n k15f)⟩ : Skt).arms ≤ (Tl rowI ln lf).length, H Prop fun _ => (Tl rowI ln lf).length ≤ 2000000])
  | _ => none
theorem eok_filK : EntryOk Tryz.prog e_filK := pureM_ok (by unfold isBody; kernel_rfl) (by
  intro a r ob e hob
  split at e
  · rename_i k0 k1 k2 k3 k4 k5 k6 k7 k8 k9 k10 k11 k12 k13 k14 k15n k15f ln lf
    simp only [zqt] at e
    obtain ⟨rfl, rfl⟩ := e
    exact ConN.args (.cons (.agg (.cons .rfl (.cons .rfl (.cons .rfl (.cons .rfl (.cons .rfl (.cons .rfl (.cons .rfl (.cons .rfl (.cons .rfl (.cons .rfl (.cons .rfl (.cons .rfl (.cons .rfl (.cons .rfl (.cons .rfl (.cons (.toT okRY rfl hob.1) .nil))))))))))))))))) (.cons (.toT okI rfl hob.2.1) .nil)) (c_filK (⟨⟨⟨k0, k1, k2, k3⟩, k4, k5, k6, ⟨k7, k8, k9, k10⟩, ⟨k11, k12, k13, k14⟩⟩, (Tl rowY k15n k15f)⟩ : Skt) (Tl rowI ln lf) hob.2.2.1 hob.2.2.2.1 hob.2.2.2.2.1)
  · simp at e)

end Go.Proofs.YtmkniipdkanbbaaGreatDoor.AM

