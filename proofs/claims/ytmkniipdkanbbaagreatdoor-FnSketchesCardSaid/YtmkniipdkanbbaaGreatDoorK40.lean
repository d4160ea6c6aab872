/- Lemmas and contracts (Fil Rsv Skl ALSketches Open Up M1 Data Brg LSketches); conditions: none. -/
import Derived.Test.YtmkniipdkanbbaaGreatDoorK04
import Derived.Test.YtmkniipdkanbbaaGreatDoorK05
import Derived.Test.YtmkniipdkanbbaaGreatDoorK10
import Derived.Test.YtmkniipdkanbbaaGreatDoorK27
import Derived.Test.YtmkniipdkanbbaaGreatDoorK32
import Derived.Test.YtmkniipdkanbbaaGreatDoorK33
import Derived.Test.YtmkniipdkanbbaaGreatDoorK34
import Derived.Test.YtmkniipdkanbbaaGreatDoorK36
import Derived.Test.YtmkniipdkanbbaaGreatDoorK37
import Derived.Test.YtmkniipdkanbbaaGreatDoorK38
import Derived.Test.YtmkniipdkanbbaaGreatDoorK39
import Derived.OpenShut
import Derived.WalkKit
import Derived.ProofKit
import Derived.WalkLawsBesides
import Derived.Lib.Hide
import Derived.Deep.QuietTactic
import Derived.BigQuiet
import Derived.Deep.Light
import Derived.Handy
import Derived.ChangeOld
import Derived.ShutString
import Derived.Deep.Slices
import Derived.Deep.MidRow
import Derived.Below
import Derived.Laws.CopyOwn
set_option linter.unusedVariables false
set_option linter.unusedSimpArgs false
set_option maxRecDepth 100000
set_option maxHeartbeats 4000000
set_option cbv.maxSteps 3000000
namespace Go.Proofs.YtmkniipdkanbbaaGreatDoor.AM
/- A sketch filled with tinctures, by the program; conditions: none. -/
theorem c_fil000 (k : Skt) (l : List Int) (hz : l.length ≤ 2000000) (hl : cntP k.arms ≤ l.length) (ho : decide (k.arms.o = 0) = true) (hn : noG k.arms.n = true) (hr : noG k.arms.r = true) : ConN Tryz.prog 50 [aT rowK stdH fun _ => k, .vec 1 (stdH Nat fun _ => l.length) (rowsI stdH fun _ => l)] [] 0 (aT rowA stdH fun _ => filA k.arms l) [] [] := by
  have hB : Base Tryz.prog (tabΓ [e_ptrA000]) tabZ := base_of tabOkZ (ents_cons eok_ptrA000 <| ents_nil)
  refine con_m (N := 25) hB (draw_ok hB mixed) Tryz.func50 rfl rfl (fun H => [aT rowK H fun _ => k, .vec 1 (H Nat fun _ => l.length) (rowsI H fun _ => l)]) (fun _ => []) 0 (fun H => aT rowA H fun _ => filA k.arms l) (fun H => []) (fun _ => []) 300 (by simp) (fun x hx => ?_) (by simp [lk]) (by omega) (by simp) ?_
  · simp only [zqu] at hx
    rcases hx with rfl | rfl
    · exact aT_bl okRK _ _
    · exact .vec fun j _ x hx => rows_blx okI _ j x hx
  intro X hX hX0 H hH
  conv in Fin.chk _ _ => cbv
  try simp only [zqs, Plain_rowsC, Plain_rowsY, zqx, AllP, zqw, upd, if_true]
  subst hH
  simp only [stdH, Arm.eta2, Fld.eta, Grp.eta, ho, hn, hr, Tl_I, x01, x11, t0, t1, t2]
  rw [decide_eq_true_eq] at ho
  unfold cntP i2 i1 at hl
  unfold filA i2 i1
  simp only [ho, hn, hr, if_true, if_false, Bool.false_eq_true] at hl ⊢
  (repeat' (first | exact trivial | rfl | assumption | omega | exact Shp_I _ _ | refine And.intro ?_ ?_ | (intro h; first | (cases h; done) | (simp at h; done) | skip)))
theorem c_fil001 (k : Skt) (l : List Int) (hz : l.length ≤ 2000000) (hl : cntP k.arms ≤ l.length) (ho : decide (k.arms.o = 0) = true) (hn : noG k.arms.n = true) (hr : noG k.arms.r = false) : ConN Tryz.prog 50 [aT rowK stdH fun _ => k, .vec 1 (stdH Nat fun _ => l.length) (rowsI stdH fun _ => l)] [] 0 (aT rowA stdH fun _ => filA k.arms l) [] [] := by
  have hB : Base Tryz.prog (tabΓ [e_ptrA001]) tabZ := base_of tabOkZ (ents_cons eok_ptrA001 <| ents_nil)
  refine con_m (N := 25) hB (draw_ok hB mixed) Tryz.func50 rfl rfl (fun H => [aT rowK H fun _ => k, .vec 1 (H Nat fun _ => l.length) (rowsI H fun _ => l)]) (fun _ => []) 0 (fun H => aT rowA H fun _ => filA k.arms l) (fun H => []) (fun _ => []) 300 (by simp) (fun x hx => ?_) (by simp [lk]) (by omega) (by simp) ?_
  · simp only [zqu] at hx
    rcases hx with rfl | rfl
    · exact aT_bl okRK _ _
    · exact .vec fun j _ x hx => rows_blx okI _ j x hx
  intro X hX hX0 H hH
  conv in Fin.chk _ _ => cbv
  try simp only [zqs, Plain_rowsC, Plain_rowsY, zqx, AllP, zqw, upd, if_true]
  subst hH
  simp only [stdH, Arm.eta2, Fld.eta, Grp.eta, ho, hn, hr, Tl_I, x01, x11, t0, t1, t2]
  rw [decide_eq_true_eq] at ho
  unfold cntP i2 i1 at hl
  unfold filA i2 i1
  simp only [ho, hn, hr, if_true, if_false, Bool.false_eq_true] at hl ⊢
  (repeat' (first | exact trivial | rfl | assumption | omega | exact Shp_I _ _ | refine And.intro ?_ ?_ | (intro h; first | (cases h; done) | (simp at h; done) | skip)))
theorem c_fil100 (k : Skt) (l : List Int) (hz : l.length ≤ 2000000) (hl : cntP k.arms ≤ l.length) (ho : decide (k.arms.o = 0) = false) (hn : noG k.arms.n = true) (hr : noG k.arms.r = true) : ConN Tryz.prog 50 [aT rowK stdH fun _ => k, .vec 1 (stdH Nat fun _ => l.length) (rowsI stdH fun _ => l)] [] 0 (aT rowA stdH fun _ => filA k.arms l) [] [] := by
  have hB : Base Tryz.prog (tabΓ [e_ptrA100]) tabZ := base_of tabOkZ (ents_cons eok_ptrA100 <| ents_nil)
  refine con_m (N := 25) hB (draw_ok hB mixed) Tryz.func50 rfl rfl (fun H => [aT rowK H fun _ => k, .vec 1 (H Nat fun _ => l.length) (rowsI H fun _ => l)]) (fun _ => []) 0 (fun H => aT rowA H fun _ => filA k.arms l) (fun H => []) (fun _ => []) 300 (by simp) (fun x hx => ?_) (by simp [lk]) (by omega) (by simp) ?_
  · simp only [zqu] at hx
    rcases hx with rfl | rfl
    · exact aT_bl okRK _ _
    · exact .vec fun j _ x hx => rows_blx okI _ j x hx
  intro X hX hX0 H hH
  conv in Fin.chk _ _ => cbv
  try simp only [zqs, Plain_rowsC, Plain_rowsY, zqx, AllP, zqw, upd, if_true]
  subst hH
  simp only [stdH, Arm.eta2, Fld.eta, Grp.eta, ho, hn, hr, Tl_I, x01, x11, t0, t1, t2]
  rw [decide_eq_false_iff_not] at ho
  unfold cntP i2 i1 at hl
  unfold filA i2 i1
  simp only [ho, hn, hr, if_true, if_false, Bool.false_eq_true] at hl ⊢
  (repeat' (first | exact trivial | rfl | assumption | omega | exact Shp_I _ _ | refine And.intro ?_ ?_ | (intro h; first | (cases h; done) | (simp at h; done) | skip)))
theorem c_fil101 (k : Skt) (l : List Int) (hz : l.length ≤ 2000000) (hl : cntP k.arms ≤ l.length) (ho : decide (k.arms.o = 0) = false) (hn : noG k.arms.n = true) (hr : noG k.arms.r = false) : ConN Tryz.prog 50 [aT rowK stdH fun _ => k, .vec 1 (stdH Nat fun _ => l.length) (rowsI stdH fun _ => l)] [] 0 (aT rowA stdH fun _ => filA k.arms l) [] [] := by
  have hB : Base Tryz.prog (tabΓ [e_ptrA101]) tabZ := base_of tabOkZ (ents_cons eok_ptrA101 <| ents_nil)
  refine con_m (N := 25) hB (draw_ok hB mixed) Tryz.func50 rfl rfl (fun H => [aT rowK H fun _ => k, .vec 1 (H Nat fun _ => l.length) (rowsI H fun _ => l)]) (fun _ => []) 0 (fun H => aT rowA H fun _ => filA k.arms l) (fun H => []) (fun _ => []) 300 (by simp) (fun x hx => ?_) (by simp [lk]) (by omega) (by simp) ?_
  · simp only [zqu] at hx
    rcases hx with rfl | rfl
    · exact aT_bl okRK _ _
    · exact .vec fun j _ x hx => rows_blx okI _ j x hx
  intro X hX hX0 H hH
  conv in Fin.chk _ _ => cbv
  try simp only [zqs, Plain_rowsC, Plain_rowsY, zqx, AllP, zqw, upd, if_true]
  subst hH
  simp only [stdH, Arm.eta2, Fld.eta, Grp.eta, ho, hn, hr, Tl_I, x01, x11, t0, t1, t2]
  rw [decide_eq_false_iff_not] at ho
  unfold cntP i2 i1 at hl
  unfold filA i2 i1
  simp only [ho, hn, hr, if_true, if_false, Bool.false_eq_true] at hl ⊢
  (repeat' (first | exact trivial | rfl | assumption | omega | exact Shp_I _ _ | refine And.intro ?_ ?_ | (intro h; first | (cases h; done) | (simp at h; done) | skip)))
theorem c_fil110 (k : Skt) (l : List Int) (hz : l.length ≤ 2000000) (hl : cntP k.arms ≤ l.length) (ho : decide (k.arms.o = 0) = false) (hn : noG k.arms.n = false) (hr : noG k.arms.r = true) : ConN Tryz.prog 50 [aT rowK stdH fun _ => k, .vec 1 (stdH Nat fun _ => l.length) (rowsI stdH fun _ => l)] [] 0 (aT rowA stdH fun _ => filA k.arms l) [] [] := by
  have hB : Base Tryz.prog (tabΓ [e_ptrA110]) tabZ := base_of tabOkZ (ents_cons eok_ptrA110 <| ents_nil)
  refine con_m (N := 25) hB (draw_ok hB mixed) Tryz.func50 rfl rfl (fun H => [aT rowK H fun _ => k, .vec 1 (H Nat fun _ => l.length) (rowsI H fun _ => l)]) (fun _ => []) 0 (fun H => aT rowA H fun _ => filA k.arms l) (fun H => []) (fun _ => []) 300 (by simp) (fun x hx => ?_) (by simp [lk]) (by omega) (by simp) ?_
  · simp only [zqu] at hx
    rcases hx with rfl | rfl
    · exact aT_bl okRK _ _
    · exact .vec fun j _ x hx => rows_blx okI _ j x hx
  intro X hX hX0 H hH
  conv in Fin.chk _ _ => cbv
  try simp only [zqs, Plain_rowsC, Plain_rowsY, zqx, AllP, zqw, upd, if_true]
  subst hH
  simp only [stdH, Arm.eta2, Fld.eta, Grp.eta, ho, hn, hr, Tl_I, x01, x11, t0, t1, t2]
  rw [decide_eq_false_iff_not] at ho
  unfold cntP i2 i1 at hl
  unfold filA i2 i1
  simp only [ho, hn, hr, if_true, if_false, Bool.false_eq_true] at hl ⊢
  (repeat' (first | exact trivial | rfl | assumption | omega | exact Shp_I _ _ | refine And.intro ?_ ?_ | (intro h; first | (cases h; done) | (simp at h; done) | skip)))
theorem c_fil111 (k : Skt) (l : List Int) (hz : l.length ≤ 2000000) (hl : cntP k.arms ≤ l.length) (ho : decide (k.arms.o = 0) = false) (hn : noG k.arms.n = false) (hr : noG k.arms.r = false) : ConN Tryz.prog 50 [aT rowK stdH fun _ => k, .vec 1 (stdH Nat fun _ => l.length) (rowsI stdH fun _ => l)] [] 0 (aT rowA stdH fun _ => filA k.arms l) [] [] := by
  have hB : Base Tryz.prog (tabΓ [e_ptrA111]) tabZ := base_of tabOkZ (ents_cons eok_ptrA111 <| ents_nil)
  refine con_m (N := 25) hB (draw_ok hB mixed) Tryz.func50 rfl rfl (fun H => [aT rowK H fun _ => k, .vec 1 (H Nat fun _ => l.length) (rowsI H fun _ => l)]) (fun _ => []) 0 (fun H => aT rowA H fun _ => filA k.arms l) (fun H => []) (fun _ => []) 300 (by simp) (fun x hx => ?_) (by simp [lk]) (by omega) (by simp) ?_
  · simp only [zqu] at hx
    rcases hx with rfl | rfl
    · exact aT_bl okRK _ _
    · exact .vec fun j _ x hx => rows_blx okI _ j x hx
  intro X hX hX0 H hH
  conv in Fin.chk _ _ => cbv
  try simp only [zqs, Plain_rowsC, Plain_rowsY, zqx, AllP, zqw, upd, if_true]
  subst hH
  simp only [stdH, Arm.eta2, Fld.eta, Grp.eta, ho, hn, hr, Tl_I, x01, x11, t0, t1, t2]
  rw [decide_eq_false_iff_not] at ho
  unfold cntP i2 i1 at hl
  unfold filA i2 i1
  simp only [ho, hn, hr, if_true, if_false, Bool.false_eq_true] at hl ⊢
  (repeat' (first | exact trivial | rfl | assumption | omega | exact Shp_I _ _ | refine And.intro ?_ ?_ | (intro h; first | (cases h; done) | (simp at h; done) | skip)))
theorem c_filK (k : Skt) (l : List Int) (h0 : okA k.arms = true) (h1 : cntP k.arms ≤ l.length) (h2 : l.length ≤ 2000000) : ConN Tryz.prog 50 [aT rowK stdH fun _ => k, .vec 1 (stdH Nat fun _ => (l).length) (rowsI stdH fun _ => l)] [] 0 (aT rowA stdH fun _ => filA k.arms l) [] [] := by
  by_cases ho : k.arms.o = 0
  · have hn := okA_o0 h0 ho
    cases hr : noG k.arms.r
    · exact c_fil001 k l h2 h1 (decide_eq_true ho) hn hr
    · exact c_fil000 k l h2 h1 (decide_eq_true ho) hn hr
  · cases hn : noG k.arms.n <;> cases hr : noG k.arms.r
    · exact c_fil111 k l h2 h1 (decide_eq_false ho) hn hr
    · exact c_fil110 k l h2 h1 (decide_eq_false ho) hn hr
    · exact c_fil101 k l h2 h1 (decide_eq_false ho) hn hr
    · exact c_fil100 k l h2 h1 (decide_eq_false ho) hn hr
noncomputable def e_filK : Entry := pureE 50 fun H a => match a with
  | [.agg [.lit (.int .i64 k0), .lit (.int .i64 k1), .lit (.int .i64 k2), .lit (.int .i64 k3), .lit (.int .i64 k4), .lit (.int .i64 k5), .lit (.int .i64 k6), .lit (.int .i64 k7), .lit (.int .i64 k8), .lit (.int .i64 k9), .lit (.int .i64 k10), .lit (.int .i64 k11), .lit (.int .i64 k12), .lit (.int .i64 k13), .lit (.int .i64 k14), .vec 2 k15n k15f], .vec 1 ln lf] => some (aT rowA H fun _ => filA (⟨⟨⟨k0, k1, k2, k3⟩, k4, k5, k6, ⟨k7, k8, k9, k10⟩, ⟨k11, k12, k13, k14⟩⟩, (Tl rowY k15n k15f)⟩ : Skt).arms (Tl rowI ln lf), [H Prop fun _ => Shp rowY k15n k15f, H Prop fun _ => Shp rowI ln lf, H Prop fun _ => okA (⟨⟨⟨k0, k1, k2, k3⟩, k4, k5, k6, ⟨k7, k8, k9, k10⟩, ⟨k11, k12, k13, k14⟩⟩, (Tl rowY k15n k15f)⟩ : Skt).arms = true, H Prop fun _ => cntP (⟨⟨⟨k0, k1, k2, k3⟩, k4, k5, k6, ⟨k7, k8, k9, k10⟩, ⟨k11, k12, k13, k14⟩⟩, (Tl rowY k15n k15f)⟩ : Skt).arms ≤ (Tl rowI ln lf).length, H Prop fun _ => (Tl rowI ln lf).length ≤ 2000000])
  | _ => none
theorem eok_filK : EntryOk Tryz.prog e_filK := pureM_ok (by unfold isBody; kernel_rfl) (by
  intro a r ob e hob
  split at e
  · rename_i k0 k1 k2 k3 k4 k5 k6 k7 k8 k9 k10 k11 k12 k13 k14 k15n k15f ln lf
    simp only [zqt] at e
    obtain ⟨rfl, rfl⟩ := e
    exact ConN.args (.cons (.agg (.cons .rfl (.cons .rfl (.cons .rfl (.cons .rfl (.cons .rfl (.cons .rfl (.cons .rfl (.cons .rfl (.cons .rfl (.cons .rfl (.cons .rfl (.cons .rfl (.cons .rfl (.cons .rfl (.cons .rfl (.cons (.toT okRY rfl hob.1) .nil))))))))))))))))) (.cons (.toT okI rfl hob.2.1) .nil)) (c_filK (⟨⟨⟨k0, k1, k2, k3⟩, k4, k5, k6, ⟨k7, k8, k9, k10⟩, ⟨k11, k12, k13, k14⟩⟩, (Tl rowY k15n k15f)⟩ : Skt) (Tl rowI ln lf) hob.2.2.1 hob.2.2.2.1 hob.2.2.2.2.1)
  · simp at e)

end Go.Proofs.YtmkniipdkanbbaaGreatDoor.AM

set_option maxRecDepth 100000
set_option maxHeartbeats 4000000
set_option cbv.maxSteps 3000000
namespace Go.Proofs.YtmkniipdkanbbaaGreatDoor.AM
/- Sketches resolved, by the program and by the reference; conditions: none. -/
def rsA (k : Skt) : Arm := filA k.arms (rdO k.arms.f k.slots)
def rsB (k : Skt) : Bool := okK k && okR k.arms.f k.slots
theorem c_resK (k : Skt) (h0 : k.slots.length ≤ 2000000) : ConN Tryz.prog 20 [aT rowK stdH fun _ => k] [] 0 (.tup [aT rowA stdH fun _ => if rsB k = true then rsA k else zA, .lit (.bool (stdH Bool fun _ => rsB k))]) [] [] := by
  have hB : Base Tryz.prog (tabΓ [e_IsValidSketch, e_readK, e_filK]) tab := base_of tabOk (ents_cons eok_IsValidSketch <| ents_cons eok_readK <| ents_cons eok_filK <| ents_nil)
  refine con_m (N := 23) hB (draw_ok hB mixed) Tryz.func20 rfl rfl (fun H => [aT rowK H fun _ => k]) (fun _ => []) 0 (fun H => .tup [aT rowA H fun _ => if rsB k = true then rsA k else zA, .lit (.bool (H Bool fun _ => rsB k))]) (fun H => []) (fun _ => []) 300 (by simp) (fun x hx => ?_) (by simp [lk]) (by omega) (by simp) ?_
  · simp only [zqu] at hx
    rcases hx with rfl
    · exact aT_bl okRK _ _
  intro X hX hX0 H hH
  conv in Fin.chk _ _ => cbv
  try simp only [zqs, Plain_rowsC, Plain_rowsY, zqx, AllP, zqw, upd, if_true]
  subst hH
  simp only [stdH, Arm.eta2, Fld.eta, Grp.eta, Tl_Y, Tl_I]
  have e : (⟨k.arms, k.slots⟩ : Skt) = k := rfl
  simp only [e]
  cases hk : okK k
  · have hb : rsB k = false := by unfold rsB; rw [hk]; rfl
    simp only [hb, if_true, if_false, Bool.false_eq_true, Bool.not_true, Bool.not_false]
    (repeat' (first | exact trivial | rfl | assumption | omega | exact h0 | exact Shp_Y _ _ | exact Shp_I _ _ | exact fun j _ => rfl | refine And.intro ?_ ?_ | (intro h; first | (cases h; done) | (simp at h; done) | skip)))
  · have hK := okK_iff.1 hk
    cases hr : okR k.arms.f k.slots
    · have hb : rsB k = false := by unfold rsB; rw [hk, hr]; rfl
      simp only [hb, if_true, if_false, Bool.false_eq_true, Bool.not_true, Bool.not_false]
      (repeat' (first | exact trivial | rfl | assumption | omega | exact h0 | exact Shp_Y _ _ | exact Shp_I _ _ | exact fun j _ => rfl | refine And.intro ?_ ?_ | (intro h; first | (cases h; done) | (simp at h; done) | skip)))
    · have hb : rsB k = true := by unfold rsB; rw [hk, hr]; rfl
      have l1 := rdO_len k.arms.f k.slots
      have l2 := hK.len
      have l3 := cntP_3 k.arms
      have l4 := hK.a
      simp only [hb, if_true, if_false, Bool.false_eq_true, Bool.not_true, Bool.not_false]
      (repeat' (first | exact trivial | rfl | assumption | omega | exact h0 | exact Shp_Y _ _ | exact Shp_I _ _ | exact fun j _ => rfl | refine And.intro ?_ ?_ | (intro h; first | (cases h; done) | (simp at h; done) | skip)))
noncomputable def e_resK : Entry := pureE 20 fun H a => match a with
  | [.agg [.lit (.int .i64 k0), .lit (.int .i64 k1), .lit (.int .i64 k2), .lit (.int .i64 k3), .lit (.int .i64 k4), .lit (.int .i64 k5), .lit (.int .i64 k6), .lit (.int .i64 k7), .lit (.int .i64 k8), .lit (.int .i64 k9), .lit (.int .i64 k10), .lit (.int .i64 k11), .lit (.int .i64 k12), .lit (.int .i64 k13), .lit (.int .i64 k14), .vec 2 k15n k15f]] => some (.tup [aT rowA H fun _ => if rsB (⟨⟨⟨k0, k1, k2, k3⟩, k4, k5, k6, ⟨k7, k8, k9, k10⟩, ⟨k11, k12, k13, k14⟩⟩, (Tl rowY k15n k15f)⟩ : Skt) = true then rsA (⟨⟨⟨k0, k1, k2, k3⟩, k4, k5, k6, ⟨k7, k8, k9, k10⟩, ⟨k11, k12, k13, k14⟩⟩, (Tl rowY k15n k15f)⟩ : Skt) else zA, .lit (.bool (H Bool fun _ => rsB (⟨⟨⟨k0, k1, k2, k3⟩, k4, k5, k6, ⟨k7, k8, k9, k10⟩, ⟨k11, k12, k13, k14⟩⟩, (Tl rowY k15n k15f)⟩ : Skt)))], [H Prop fun _ => Shp rowY k15n k15f, H Prop fun _ => (⟨⟨⟨k0, k1, k2, k3⟩, k4, k5, k6, ⟨k7, k8, k9, k10⟩, ⟨k11, k12, k13, k14⟩⟩, (Tl rowY k15n k15f)⟩ : Skt).slots.length ≤ 2000000])
  | _ => none
theorem eok_resK : EntryOk Tryz.prog e_resK := pureM_ok (by unfold isBody; kernel_rfl) (by
  intro a r ob e hob
  split at e
  · rename_i k0 k1 k2 k3 k4 k5 k6 k7 k8 k9 k10 k11 k12 k13 k14 k15n k15f
    simp only [zqt] at e
    obtain ⟨rfl, rfl⟩ := e
    exact ConN.args (.cons (.agg (.cons .rfl (.cons .rfl (.cons .rfl (.cons .rfl (.cons .rfl (.cons .rfl (.cons .rfl (.cons .rfl (.cons .rfl (.cons .rfl (.cons .rfl (.cons .rfl (.cons .rfl (.cons .rfl (.cons .rfl (.cons (.toT okRY rfl hob.1) .nil))))))))))))))))) .nil) (c_resK (⟨⟨⟨k0, k1, k2, k3⟩, k4, k5, k6, ⟨k7, k8, k9, k10⟩, ⟨k11, k12, k13, k14⟩⟩, (Tl rowY k15n k15f)⟩ : Skt) hob.2.1)
  · simp at e)
theorem pK_le3 {u : ByteArray} {m : Skt} (h : pK u = some m) : m.slots.length ≤ 3 := by
  have hk := okK_iff.1 (pK_iff.1 h).1
  rw [hk.len]
  exact cntP_3 _
end Go.Proofs.YtmkniipdkanbbaaGreatDoor.AM

set_option maxRecDepth 100000
set_option maxHeartbeats 4000000
set_option cbv.maxSteps 3000000
namespace Go.Proofs.YtmkniipdkanbbaaGreatDoor.AM
/- The draws of FnSketches; conditions: none. -/
theorem TlY_HK {H : Hold} (hH : H = stdH) (L : List Slo) : Tl rowY (H Nat fun _ => L.length) (rowsY H fun _ => L) = L := by subst hH; exact Tl_Y L
def r_DrawIsValidSketch (n : Nat) (H : Hold) (y : Unit → Skt) : AV := aT rowK H fun _ => (y ())
def nb_DrawIsValidSketch (H : Hold) (y : Unit → Skt) : List Blk := []
theorem x_DrawIsValidSketch (c : Cd) : ∃ y, DrfM Tryz.prog 34 r_DrawIsValidSketch nb_DrawIsValidSketch (fun y => y.slots.length ≤ 4) c y := by
  have hB : Base Tryz.prog (tabΓ [e_anySketchD c]) tab := base_of tabOk (ents_cons (eok_anySketchD c) <| ents_nil)
  refine drfM_ok (N := 9) hB (draw_ok hB mixed) Tryz.func34 rfl rfl r_DrawIsValidSketch nb_DrawIsValidSketch (fun y => y.slots.length ≤ 4) c 200 (by simp) ?_
  intro H hH
  conv in finish _ _ _ _ _ _ _ _ => cbv
  simp only [Fin.sat0, AllP, and_true, true_and, ncast, Int.ofNat_eq_natCast, heta hH]
  have h : Bd 106 (0, 0) := ⟨by decide, by decide⟩
  obtain ⟨a1, m1⟩ := p_anySketchD c (0, 0) (Bd.mono (by assumption))
  generalize F_anySketchD c (0, 0) = y1 at *
  refine ⟨?_, y1.1, m1, ?_⟩
  · try simp only [hH, stdH, zqz, ne_eq, zqy]
    exact h.mono
  · (conv in matchEx _ _ _ _ _ _ _ => cbv); simp only [AllG, AllP, and_true, hH, stdH, zql, ncast, zqe, zqy]
    (repeat' (first | with_reducible exact True.intro | rfl | exact RowsEq.self okRY | refine And.intro ?_ ?_ | trivial))
noncomputable def F_DrawIsValidSketch (c : Cd) : Skt := drfM Tryz.prog 34 r_DrawIsValidSketch nb_DrawIsValidSketch (fun y => y.slots.length ≤ 4) c
noncomputable def e_DrawIsValidSketch (c : Cd) : Entry := codeEN 34 c (fun nx H => r_DrawIsValidSketch nx H fun _ => F_DrawIsValidSketch c) (fun H => nb_DrawIsValidSketch H fun _ => F_DrawIsValidSketch c)
theorem eok_DrawIsValidSketch (c : Cd) : EntryOk Tryz.prog (e_DrawIsValidSketch c) := codeEN_ok (by unfold isBody; kernel_rfl) (drfM_spec (x_DrawIsValidSketch c)).1 (fun nx => by (repeat' (first | exact .nil | exact .slc ⟨by omega, by simp [nb_DrawIsValidSketch]⟩ (by omega) | exact .pl .lit | exact .pl (aT_bl okRK (fun _ => (F_DrawIsValidSketch c)) _) | apply ReL.cons | apply Re.aggL | apply Re.tupL))) (fun b hq => by
      simp [nb_DrawIsValidSketch] at hq)
theorem p_DrawIsValidSketch (c : Cd) : (fun y => y.slots.length ≤ 4) (F_DrawIsValidSketch c) := (drfM_spec (x_DrawIsValidSketch c)).2
def r_DrawSketchText (n : Nat) (H : Hold) (y : Unit → Skt) : AV := aT rowK H fun _ => (y ())
def nb_DrawSketchText (H : Hold) (y : Unit → Skt) : List Blk := []
theorem x_DrawSketchText (c : Cd) : ∃ y, DrfM Tryz.prog 12 r_DrawSketchText nb_DrawSketchText (fun y => y.slots.length ≤ 4) c y := by
  have hB : Base Tryz.prog (tabΓ [e_DrawIsValidSketch c]) tab := base_of tabOk (ents_cons (eok_DrawIsValidSketch c) <| ents_nil)
  refine drfM_ok (N := 5) hB (draw_ok hB mixed) Tryz.func12 rfl rfl r_DrawSketchText nb_DrawSketchText (fun y => y.slots.length ≤ 4) c 200 (by simp) ?_
  intro H hH
  conv in finish _ _ _ _ _ _ _ _ => cbv
  simp only [Fin.sat0, AllP, and_true, true_and, ncast, Int.ofNat_eq_natCast, heta hH]
  have m1 := p_DrawIsValidSketch c
  generalize F_DrawIsValidSketch c = y1 at *
  refine ⟨(by rw [hH]; trivial), y1, m1, ?_⟩
  (conv in matchEx _ _ _ _ _ _ _ => cbv); simp only [AllG, AllP, and_true, hH, stdH, zql, ncast, zqe, zqy]
  (repeat' (first | with_reducible exact True.intro | rfl | exact RowsEq.self okRY | refine And.intro ?_ ?_ | trivial))
noncomputable def F_DrawSketchText (c : Cd) : Skt := drfM Tryz.prog 12 r_DrawSketchText nb_DrawSketchText (fun y => y.slots.length ≤ 4) c
noncomputable def e_DrawSketchText (c : Cd) : Entry := codeEN 12 c (fun nx H => r_DrawSketchText nx H fun _ => F_DrawSketchText c) (fun H => nb_DrawSketchText H fun _ => F_DrawSketchText c)
theorem eok_DrawSketchText (c : Cd) : EntryOk Tryz.prog (e_DrawSketchText c) := codeEN_ok (by unfold isBody; kernel_rfl) (drfM_spec (x_DrawSketchText c)).1 (fun nx => by (repeat' (first | exact .nil | exact .slc ⟨by omega, by simp [nb_DrawSketchText]⟩ (by omega) | exact .pl .lit | exact .pl (aT_bl okRK (fun _ => (F_DrawSketchText c)) _) | apply ReL.cons | apply Re.aggL | apply Re.tupL))) (fun b hq => by
      simp [nb_DrawSketchText] at hq)
theorem p_DrawSketchText (c : Cd) : (fun y => y.slots.length ≤ 4) (F_DrawSketchText c) := (drfM_spec (x_DrawSketchText c)).2
def r_DrawIsValidArms (n : Nat) (H : Hold) (y : Unit → Arm) : AV := aT rowA H fun _ => (y ())
def nb_DrawIsValidArms (H : Hold) (y : Unit → Arm) : List Blk := []
theorem x_DrawIsValidArms (c : Cd) : ∃ y, DrfM Tryz.prog 48 r_DrawIsValidArms nb_DrawIsValidArms (fun _ => True) c y := by
  have hB : Base Tryz.prog (tabΓ [e_anyArms c]) tab := base_of tabOk (ents_cons (eok_anyArms c) <| ents_nil)
  refine drfM_ok (N := 9) hB (draw_ok hB mixed) Tryz.func48 rfl rfl r_DrawIsValidArms nb_DrawIsValidArms (fun _ => True) c 100 (by simp) ?_
  intro H hH
  conv in finish _ _ _ _ _ _ _ _ => cbv
  simp only [Fin.sat0, AllP, and_true, true_and, ncast, Int.ofNat_eq_natCast, heta hH]
  have h : Bd 54 (0, 0) := ⟨by decide, by decide⟩
  have a1 := (p_anyArms c (0, 0) (Bd.mono (by assumption))).1; generalize F_anyArms c (0, 0) = y1 at *; have b1 : Bd 0 y1.2 := a1.bd (by assumption)
  refine ⟨?_, y1.1, trivial, ?_⟩
  · try simp only [hH, stdH, zqz, ne_eq, zqy]
    exact h.mono
  · (conv in matchEx _ _ _ _ _ _ _ => cbv); simp only [AllG, AllP, and_true, hH, stdH, zql, ncast, zqe, zqy]
    (repeat' (first | with_reducible exact True.intro | rfl | refine And.intro ?_ ?_ | trivial))
noncomputable def F_DrawIsValidArms (c : Cd) : Arm := drfM Tryz.prog 48 r_DrawIsValidArms nb_DrawIsValidArms (fun _ => True) c
noncomputable def e_DrawIsValidArms (c : Cd) : Entry := codeEN 48 c (fun nx H => r_DrawIsValidArms nx H fun _ => F_DrawIsValidArms c) (fun H => nb_DrawIsValidArms H fun _ => F_DrawIsValidArms c)
theorem eok_DrawIsValidArms (c : Cd) : EntryOk Tryz.prog (e_DrawIsValidArms c) := codeEN_ok (by unfold isBody; kernel_rfl) (drfM_spec (x_DrawIsValidArms c)).1 (fun nx => by (repeat' (first | exact .nil | exact .slc ⟨by omega, by simp [nb_DrawIsValidArms]⟩ (by omega) | exact .pl .lit | exact .pl (aT_bl okRA (fun _ => (F_DrawIsValidArms c)) _) | apply ReL.cons | apply Re.aggL | apply Re.tupL))) (fun b hq => by
      simp [nb_DrawIsValidArms] at hq)
def r_DrawPlainSketch (n : Nat) (H : Hold) (y : Unit → Arm) : AV := aT rowA H fun _ => (y ())
def nb_DrawPlainSketch (H : Hold) (y : Unit → Arm) : List Blk := []
theorem x_DrawPlainSketch (c : Cd) : ∃ y, DrfM Tryz.prog 18 r_DrawPlainSketch nb_DrawPlainSketch (fun _ => True) c y := by
  have hB : Base Tryz.prog (tabΓ [e_DrawIsValidArms c]) tab := base_of tabOk (ents_cons (eok_DrawIsValidArms c) <| ents_nil)
  refine drfM_ok (N := 5) hB (draw_ok hB mixed) Tryz.func18 rfl rfl r_DrawPlainSketch nb_DrawPlainSketch (fun _ => True) c 100 (by simp) ?_
  intro H hH
  conv in finish _ _ _ _ _ _ _ _ => cbv
  simp only [Fin.sat0, AllP, and_true, true_and, ncast, Int.ofNat_eq_natCast, heta hH]
  generalize F_DrawIsValidArms c = y1 at *
  refine ⟨(by rw [hH]; trivial), y1, trivial, ?_⟩
  (conv in matchEx _ _ _ _ _ _ _ => cbv); simp only [AllG, AllP, and_true, hH, stdH, zql, ncast, zqe, zqy]
  (repeat' (first | with_reducible exact True.intro | rfl | refine And.intro ?_ ?_ | trivial))
noncomputable def F_DrawPlainSketch (c : Cd) : Arm := drfM Tryz.prog 18 r_DrawPlainSketch nb_DrawPlainSketch (fun _ => True) c
noncomputable def e_DrawPlainSketch (c : Cd) : Entry := codeEN 18 c (fun nx H => r_DrawPlainSketch nx H fun _ => F_DrawPlainSketch c) (fun H => nb_DrawPlainSketch H fun _ => F_DrawPlainSketch c)
theorem eok_DrawPlainSketch (c : Cd) : EntryOk Tryz.prog (e_DrawPlainSketch c) := codeEN_ok (by unfold isBody; kernel_rfl) (drfM_spec (x_DrawPlainSketch c)).1 (fun nx => by (repeat' (first | exact .nil | exact .slc ⟨by omega, by simp [nb_DrawPlainSketch]⟩ (by omega) | exact .pl .lit | exact .pl (aT_bl okRA (fun _ => (F_DrawPlainSketch c)) _) | apply ReL.cons | apply Re.aggL | apply Re.tupL))) (fun b hq => by
      simp [nb_DrawPlainSketch] at hq)
def r_DrawParseSketch (n : Nat) (H : Hold) (y : Unit → ByteArray) : AV := .lit (.string (H ByteArray fun _ => (y ())))
def nb_DrawParseSketch (H : Hold) (y : Unit → ByteArray) : List Blk := []
theorem x_DrawParseSketch (c : Cd) : ∃ y, DrfM Tryz.prog 17 r_DrawParseSketch nb_DrawParseSketch (fun y => y.size ≤ 60000) c y := by
  have hB : Base Tryz.prog (tabΓ [e_sketchD c, e_textS7, e_one c, e_spoilt c]) tab := base_of tabOk (ents_cons (eok_sketchD c) <| ents_cons eok_textS7 <| ents_cons (eok_one c) <| ents_cons (eok_spoilt c) <| ents_nil)
  refine drfM_ok (N := 17) hB (draw_ok hB mixed) Tryz.func17 rfl rfl r_DrawParseSketch nb_DrawParseSketch (fun y => y.size ≤ 60000) c 200 (by simp) ?_
  intro H hH
  conv in finish _ _ _ _ _ _ _ _ => cbv
  simp only [Fin.sat0, AllP, and_true, true_and, ncast, Int.ofNat_eq_natCast, heta hH]
  have h : Bd 58 (0, 0) := ⟨by decide, by decide⟩
  obtain ⟨a1, m1⟩ := p_sketchD c (0, 0) (Bd.mono (by assumption))
  generalize F_sketchD c (0, 0) = y1 at *
  have b1 : Bd 8 y1.2 := a1.bd h
  simp only [TlY_HK hH]
  obtain ⟨k, st1⟩ := y1
  dsimp only at *
  have hz := kT_sz (okK_iff.1 m1)
  have a2 := (p_one c 4 st1 (Bd.mono (by assumption))).1; generalize F_one c 4 st1 = y2 at *; have b2 : Bd 6 y2.2 := a2.bd (by assumption)
  obtain ⟨a3, q3⟩ := p_spoilt c (kT k) (⟨⟨[111, 102, 32, 97]⟩⟩ : ByteArray) y2.2 b2.mono (by omega) (by decide) (by decide)
  (repeat' (with_reducible first | refine And.intro ?_ ?_ | intro hh))
  · try simp only [hH, stdH, zqz, ne_eq, zqy]
    exact h.mono
  · try simp only [hH, stdH, zqz, ne_eq, zqy]
    exact fun _ _ => rfl
  · try simp only [hH, stdH, zqz, ne_eq, zqy]
    exact Shp_Y _ _
  · try simp only [hH, stdH, zqz, ne_eq, zqy]
    exact m1
  · try simp only [hH, stdH, zqz, ne_eq, zqy]
    exact b1.mono
  · try simp only [hH, stdH, zqz, ne_eq, zqy]
    exact b2.mono
  · try simp only [hH, stdH, zqz, ne_eq, zqy]
    show (kT k).size ≤ _
    omega
  · try simp only [hH, stdH, zqz, ne_eq, zqy]
    decide
  · try simp only [hH, stdH, zqz, ne_eq, zqy]
    decide
  · refine ⟨(F_spoilt c (kT k) (⟨⟨[111, 102, 32, 97]⟩⟩ : ByteArray) y2.2).1, by show _ ≤ 60000; omega, ?_⟩
    (conv in matchEx _ _ _ _ _ _ _ => cbv); simp only [AllG, AllP, and_true, hH, stdH, zql, ncast, zqe, zqy]
    skip
  · refine ⟨kT k, by show _ ≤ 60000; omega, ?_⟩
    (conv in matchEx _ _ _ _ _ _ _ => cbv); simp only [AllG, AllP, and_true, hH, stdH, zql, ncast, zqe, zqy]
    skip
noncomputable def F_DrawParseSketch (c : Cd) : ByteArray := drfM Tryz.prog 17 r_DrawParseSketch nb_DrawParseSketch (fun y => y.size ≤ 60000) c
noncomputable def e_DrawParseSketch (c : Cd) : Entry := codeEN 17 c (fun nx H => r_DrawParseSketch nx H fun _ => F_DrawParseSketch c) (fun H => nb_DrawParseSketch H fun _ => F_DrawParseSketch c)
theorem eok_DrawParseSketch (c : Cd) : EntryOk Tryz.prog (e_DrawParseSketch c) := codeEN_ok (by unfold isBody; kernel_rfl) (drfM_spec (x_DrawParseSketch c)).1 (fun nx => by (repeat' (first | exact .nil | exact .slc ⟨by omega, by simp [nb_DrawParseSketch]⟩ (by omega) | exact .pl .lit | apply ReL.cons | apply Re.aggL | apply Re.tupL))) (fun b hq => by
      simp [nb_DrawParseSketch] at hq)
theorem p_DrawParseSketch (c : Cd) : (fun y => y.size ≤ 60000) (F_DrawParseSketch c) := (drfM_spec (x_DrawParseSketch c)).2
theorem c_okArmsS (a : Arm)  : ConN Tryz.prog 22 [aT rowA stdH fun _ => a] [] 0 (.lit (.bool (stdH Bool fun _ => okA a))) [] [] := by
  have hB : Base Tryz.prog (tabΓ [e_l5Good]) tab := base_of tabOk (ents_cons eok_l5Good <| ents_nil)
  refine con_m (N := 5) hB (draw_ok hB mixed) Tryz.func22 rfl rfl (fun H => [aT rowA H fun _ => a]) (fun _ => []) 0 (fun H => .lit (.bool (H Bool fun _ => okA a))) (fun H => []) (fun _ => []) 60 (by simp) (fun x hx => ?_) (by simp [lk]) (by omega) (by simp) ?_
  · simp only [zqu] at hx
    rcases hx with rfl
    · exact aT_bl okRA _ _
  intro X hX hX0 H hH
  conv in Fin.chk _ _ => cbv
  try simp only [zqs, Plain_rowsC, Plain_rowsY, zqx, AllP, zqw, upd, if_true]
  subst hH
  simp only [stdH, Arm.eta2, Fld.eta, Grp.eta]
noncomputable def e_okArmsS : Entry := pureE 22 fun H a => match a with
  | [.agg [.lit (.int .i64 a0), .lit (.int .i64 a1), .lit (.int .i64 a2), .lit (.int .i64 a3), .lit (.int .i64 a4), .lit (.int .i64 a5), .lit (.int .i64 a6), .lit (.int .i64 a7), .lit (.int .i64 a8), .lit (.int .i64 a9), .lit (.int .i64 a10), .lit (.int .i64 a11), .lit (.int .i64 a12), .lit (.int .i64 a13), .lit (.int .i64 a14)]] => some (.lit (.bool (H Bool fun _ => okA (⟨⟨a0, a1, a2, a3⟩, a4, a5, a6, ⟨a7, a8, a9, a10⟩, ⟨a11, a12, a13, a14⟩⟩ : Arm))), [])
  | _ => none
theorem eok_okArmsS : EntryOk Tryz.prog e_okArmsS := pureM_ok (by unfold isBody; kernel_rfl) (by
  intro a r ob e hob
  split at e
  · rename_i a0 a1 a2 a3 a4 a5 a6 a7 a8 a9 a10 a11 a12 a13 a14
    simp only [zqt] at e
    obtain ⟨rfl, rfl⟩ := e
    exact ConN.args (.cons .rfl .nil) (c_okArmsS (⟨⟨a0, a1, a2, a3⟩, a4, a5, a6, ⟨a7, a8, a9, a10⟩, ⟨a11, a12, a13, a14⟩⟩ : Arm) )
  · simp at e)

end Go.Proofs.YtmkniipdkanbbaaGreatDoor.AM

set_option maxRecDepth 100000
set_option maxHeartbeats 4000000
set_option cbv.maxSteps 3000000
namespace Go.Proofs.YtmkniipdkanbbaaGreatDoor.AM
/- The law FnSketches; conditions: none. -/
theorem law_Sketches (c : Cd) : Con Tryz.prog 4 [codeAV c] [] (.lit (.bool true)) [] := by
  have hB : Base Tryz.prog (tabΓ [e_vBig c, e_DrawSketchText c, e_SketchText, e_parseK, e_IsValidSkS, e_IsValidSketch, e_vSketch, e_DrawParseSketch c, e_DrawPlainSketch c, e_PlainSk, e_resK, e_armsTx, e_okArmsS]) tab := base_of tabOk (ents_cons (eok_vBig c) <| ents_cons (eok_DrawSketchText c) <| ents_cons eok_SketchText <| ents_cons eok_parseK <| ents_cons eok_IsValidSkS <| ents_cons eok_IsValidSketch <| ents_cons eok_vSketch <| ents_cons (eok_DrawParseSketch c) <| ents_cons (eok_DrawPlainSketch c) <| ents_cons eok_PlainSk <| ents_cons eok_resK <| ents_cons eok_armsTx <| ents_cons eok_okArmsS <| ents_nil)
  refine ConN.con (n := 0) (con_m (N := 130) hB (draw_ok hB mixed) Tryz.func4 rfl rfl (fun _ => [codeAV c]) (fun _ => []) 0 (fun H => .lit (.bool (H Bool fun _ => true))) (fun _ => []) (fun _ => []) 600 (by simp) (codeAV_bl c) (by simp [lk]) (by omega) (by simp) ?_)
  intro X hX hX0 H hH
  conv in Fin.chk _ _ => cbv
  try simp only [zqs, Plain_rowsC, Plain_rowsY, zqx, AllP, zqw, upd, if_true]
  have hs := p_DrawSketchText c
  have hu := p_DrawParseSketch c
  simp only at hs hu
  generalize F_DrawSketchText c = k at *
  generalize F_DrawParseSketch c = u at *
  generalize F_DrawPlainSketch c = a at *
  have ek : ∀ k : Skt, (⟨k.arms, k.slots⟩ : Skt) = k := fun _ => rfl
  subst hH
  simp only [stdH, Arm.eta2, Fld.eta, Grp.eta, Tl_Y, ek]
  have s1 : (if okK k = true then kT k else ByteArray.empty).size ≤ 240 := by
    cases h : okK k
    · exact Nat.zero_le _
    · exact kT_sz (okK_iff.1 h)
  have l1 : ∀ t, ((pK t).getD zK).slots.length ≤ 3 := fun t => by
    cases h : pK t with
    | none => exact Nat.zero_le _
    | some m => exact pK_le3 h
  have l2 := l1 (if okK k = true then kT k else ByteArray.empty)
  have l3 := l1 u
  have l4 : (if okA a = true then plnK a else zK).slots.length ≤ 3 := by
    cases h : okA a
    · exact Nat.zero_le _
    · show (plnS a).length ≤ 3
      rw [plnS_len]
      exact cntP_3 a
  have q1 : ∀ hh : (bif bif !okK k == okK k then true else !okK k == okK k then true else bif okK k then bif !(pK (if okK k = true then kT k else ByteArray.empty)).isSome then true else !decide (((pK (if okK k = true then kT k else ByteArray.empty)).getD zK).arms = k.arms ∧ ((pK (if okK k = true then kT k else ByteArray.empty)).getD zK).slots = k.slots) else false) = true, False := fun hh => by
    cases h : okK k
    · rw [h] at hh; simp at hh
    · have e := pK_iff.2 ⟨h, (rfl : kT k = kT k)⟩
      rw [h, if_pos rfl, e] at hh
      simp at hh
  have q2 : ∀ hh : (bif (pK u).isSome then bif !okK ((pK u).getD zK) then true else !(if okK ((pK u).getD zK) = true then kT ((pK u).getD zK) else ByteArray.empty).toList == u.toList else false) = true, False := fun hh => by
    cases h : pK u with
    | none => rw [h] at hh; simp at hh
    | some m =>
      obtain ⟨e1, e2⟩ := pK_iff.1 h
      rw [h] at hh
      simp only [Option.getD_some, e1, if_true, e2] at hh
      simp at hh
  (repeat' (with_reducible first | refine And.intro ?_ ?_ | intro hh))
  all_goals first | exact trivial | exact Shp_Y _ _ | omega | exact (q1 hh).elim | exact (q2 hh).elim | skip
  cases h : okA a
  · rfl
  · have hK := okK_pln h
    have hk := okK_iff.2 hK
    have hb : rsB (plnK a) = true := by
      unfold rsB
      rw [hk]
      exact okR_pln _ a
    have hA : rsA (plnK a) = a := pln_back h
    simp only [if_true, hb, hA, hk, kT_pln h, eqAE]
    simp

end Go.Proofs.YtmkniipdkanbbaaGreatDoor.AM

namespace Go.Proofs.YtmkniipdkanbbaaGreatDoor
set_option maxRecDepth 100000
open Go.ChangeShapes Go.WideShapes Go.ChangeAt Go.RowKit
set_option linter.unusedVariables false
set_option linter.unusedSimpArgs false
open Go.Deep Go.ChangeShapes Go.WideShapes Go.ChangeAt Go.RowKit

def LeafAll (R : TypeId → Value → Prop) : List TypeId → List Value → Prop
  | [], [] => True
  | t :: ts, v :: vs => R t v ∧ LeafAll R ts vs
  | _, _ => False
theorem LeafAll.append {R : TypeId → Value → Prop} : ∀ {a : List TypeId} {c : List Value} {b : List TypeId} {d : List Value}, LeafAll R a c → LeafAll R b d → LeafAll R (a ++ b) (c ++ d)
  | [], [], _, _, _, h => h
  | _ :: _, _ :: _, _, _, h, k => ⟨h.1, LeafAll.append h.2 k⟩
section
variable {H : Type} {enc : TypeId × Value → H} {P : Program} {w : World} {base : Nat} {spare : Nat → Bool} {held : Bool}
end

structure Rd {α : Type} (w : World) (k : Nat) (enc : α → List Value) (A : Option Addr) (cap : Nat) (l : List α) : Prop where
  le : l.length ≤ cap
  max : cap ≤ maxLen
  cells : l ≠ [] → ∃ b o, A = some ⟨b, o, none⟩ ∧ ∀ i a, l[i]? = some a → w.rangeAt b (o + i * k) (enc a)
theorem Rd.nil_ {α : Type} (w : World) (k : Nat) (enc : α → List Value) : Rd w k enc none 0 [] := ⟨by simp, by simp [maxLen], fun h => absurd rfl h⟩

section
variable {H : Type} {enc : TypeId × Value → H} {P : Program} {w : World} {base : Nat} {spare : Nat → Bool} {held : Bool}
theorem open_rd {α : Type} [Inhabited α] {t e : TypeId} {fuel : Nat} {v : Value} {x : DataW H × List MemPlace} {k : Nat} {en : α → List Value} {good : α → Prop} (ht : P.underlying t = some (.slice e)) (hk : P.cellsOf e = k) (hpos : 0 < k) (hlen : ∀ a, (en a).length = k)
    (hel : ∀ m cs y, DataW.trod enc P w base spare held m e cs = some y → ∃ a, cs = en a ∧ good a) (h : DataW.trod enc P w base spare held fuel t v.cells.toList = some x) (hv : ∃ a len cap, v = .slice a len cap) :
    ∃ (A : Option Addr) (cap : Nat) (l : List α), v = .slice A l.length cap ∧ Rd w k en A cap l ∧ ∀ a ∈ l, good a := by
  obtain ⟨A, len, cap, rfl⟩ := hv
  rcases open_slice ht h with ⟨hc, _⟩ | ⟨a, len', cap', m, n, D, Pl, hc, hb, hl, hm, hmm, _, hi⟩
  · simp [Value.cells] at hc
    obtain ⟨rfl, rfl, rfl⟩ := hc
    exact ⟨none, 0, [], rfl, Rd.nil_ _ _ _, by simp⟩
  · simp [Value.cells] at hc
    obtain ⟨rfl, rfl, rfl⟩ := hc
    have hle : len ≤ m := by rw [hmm]; split <;> omega
    rw [hk] at hi
    have h1 : ∀ i, i < len → ∃ x : α, (w.cells? base (a.add (i * k)) k = some (en x)) ∧ good x := by
      intro i hil
      obtain ⟨cs', h1, h2⟩ := hi i (by omega)
      obtain ⟨x, rfl, hg⟩ := hel _ _ _ h2
      exact ⟨x, h1, hg⟩
    obtain ⟨f, hf⟩ := choose_lt h1
    refine ⟨some a, cap, (List.range len).map f, by simp, ⟨by simpa using hl, hm, fun hne => ?_⟩, ?_⟩
    · have hpos' : 0 < len := by
        rcases Nat.eq_zero_or_pos len with h0 | h0
        · subst h0; simp at hne
        · exact h0
      obtain ⟨b, o, sp⟩ := a
      have hsp : sp = none := by
        obtain ⟨h0, _⟩ := hf 0 hpos'
        obtain ⟨_, hcl, hat⟩ := World.cells?_some h0
        have h00 := hat 0 (by omega)
        rw [List.getElem?_eq_getElem (by rw [hlen]; omega)] at h00
        simpa [Addr.add] using World.cell?_spot h00
      subst hsp
      refine ⟨b, o, rfl, fun i x hx => ?_⟩
      have hil : i < len := by
        have := (List.getElem?_eq_some_iff.1 hx).1
        simpa using this
      have hxe : x = f i := by simp [hil] at hx; exact hx.symm
      subst hxe
      obtain ⟨h0, _⟩ := hf i hil
      obtain ⟨_, hcl, hat⟩ := World.cells?_some h0
      intro j u hu
      have hj : j < k := by rw [← hlen (f i)]; exact (List.getElem?_eq_some_iff.1 hu).1
      have := hat j hj
      rw [Addr.add_mid, Addr.add_mid] at this
      rw [this]; exact hu
    · intro x hx
      obtain ⟨i, hi', rfl⟩ := List.mem_map.1 hx
      exact (hf i (by simpa using hi')).2
end

end Go.Proofs.YtmkniipdkanbbaaGreatDoor

namespace Go.Proofs.YtmkniipdkanbbaaGreatDoor
set_option maxRecDepth 100000
open Go.ChangeShapes Go.WideShapes Go.ChangeAt Go.RowKit
set_option linter.unusedVariables false
set_option linter.unusedSimpArgs false
open Go.RowKit

def Up (w w' : World) : Prop := Below w.heap.size w w'
theorem Up.refl (w : World) : Up w w := Below.refl _ _
theorem Up.size {w w' : World} (h : Up w w') : w.heap.size ≤ w'.heap.size := Below.size h
theorem Up.trans {a b c : World} (h : Up a b) (k : Up b c) : Up a c := Below.trans h (Below.mono k h.size)
theorem Up.alloc {a w : World} (h : Up a w) (o : Obj) : Up a (w.alloc o) := Below.alloc h h.size o
theorem Up.drew {a w : World} (h : Up a w) : Up a w.drew := Below.drew h
theorem Up.drewN {a w : World} (h : Up a w) : ∀ n, Up a (w.drewN n)
  | 0 => h
  | n + 1 => ⟨h.os, h.tape, h.output, h.size, h.block⟩
theorem Up.setCell {a w : World} (h : Up a w) {p : Addr} (hp : a.heap.size ≤ p.block) (u : Value) : Up a (w.setCell p u) := Below.setCell h hp u
theorem Up.store {a w : World} (h : Up a w) {b o : Nat} (hp : a.heap.size ≤ b) (u : Value) : Up a (w.setCell ⟨b, o, none⟩ u) := Up.setCell h hp u
theorem Up.row {a w : World} (h : Up a w) {L : Nat} (hp : a.heap.size ≤ L) (cs : Array Value) : Up a (w.setRow L cs) := below_setRow h hp cs
theorem Up.grown {a w w' : World} {row : Option Nat} (h : Up a w) (hg : w.grownBy w' row) (hr : ∀ k, row = some k → a.heap.size ≤ k) : Up a w' := Below.grown h hg h.size hr
theorem Up.below {w w' : World} (h : Up w w') : Below w.heap.size w w' := h
theorem Up.block {w w' : World} (h : Up w w') {k : Nat} {o : Obj} (hk : w.heap[k]? = some o) : w'.heap[k]? = some o := by
  have hlt : k < w.heap.size := (Array.getElem?_eq_some_iff.1 hk).1
  exact (Below.block h k hlt).trans hk
theorem Up.cell {w w' : World} (h : Up w w') {p : Addr} {v : Value} (hv : w.cell? p = some v) : w'.cell? p = some v :=
  (Below.cell h (World.block_lt_of_cell? w p hv)).trans hv
theorem Up.box {w w' : World} {c : Array Value} {t : TypeId} (h : Up (w.alloc (.cells c t)) w') : ∀ o, w'.cell? ⟨w.heap.size, o, none⟩ = c[o]? := fun o => by
  have h1 : (w.alloc (.cells c t)).heap[w.heap.size]? = some (.cells c t) := heap_alloc_new w _
  have h2 := h.block h1
  exact cell_of_row w' w.heap.size o c t (0, 0) h2
end Go.Proofs.YtmkniipdkanbbaaGreatDoor

namespace Go.Proofs.YtmkniipdkanbbaaGreatDoor

def inB (x a b : Int) : Bool := decide (a ≤ x ∧ x ≤ b)
end Go.Proofs.YtmkniipdkanbbaaGreatDoor

namespace Go.Proofs.YtmkniipdkanbbaaGreatDoor
set_option maxRecDepth 100000
open Go.ChangeShapes Go.WideShapes Go.ChangeAt Go.RowKit
set_option linter.unusedVariables false
set_option linter.unusedSimpArgs false
open Go.Deep

structure Arms where
  (fd fl ff fs o l t c1 k1 a1 t1 c2 k2 a2 t2 : Int)
def Arms.list (A : Arms) : List Int := [A.fd, A.fl, A.ff, A.fs, A.o, A.l, A.t, A.c1, A.k1, A.a1, A.t1, A.c2, A.k2, A.a2, A.t2]
theorem Arms.list_inj {A B : Arms} (h : A.list = B.list) : A = B := by
  cases A; cases B; simp [Arms.list] at h; simp [h]
instance : DecidableEq Arms := fun A B => decidable_of_iff (A.list = B.list) ⟨Arms.list_inj, fun h => by rw [h]⟩
def Arms.arr (A : Arms) : Array Value := (A.list.map (Value.int .i64)).toArray
@[simp, go_sem] theorem Arms.arr_size (A : Arms) : A.arr.size = 15 := id rfl
@[simp, go_sem] theorem Arms.arr_0 (A : Arms) : A.arr[0]? = some (.int .i64 A.fd) := id rfl
@[simp, go_sem] theorem Arms.arr_1 (A : Arms) : A.arr[1]? = some (.int .i64 A.fl) := id rfl
@[simp, go_sem] theorem Arms.arr_2 (A : Arms) : A.arr[2]? = some (.int .i64 A.ff) := id rfl
@[simp, go_sem] theorem Arms.arr_3 (A : Arms) : A.arr[3]? = some (.int .i64 A.fs) := id rfl
@[simp, go_sem] theorem Arms.arr_4 (A : Arms) : A.arr[4]? = some (.int .i64 A.o) := id rfl
@[simp, go_sem] theorem Arms.arr_5 (A : Arms) : A.arr[5]? = some (.int .i64 A.l) := id rfl
@[simp, go_sem] theorem Arms.arr_6 (A : Arms) : A.arr[6]? = some (.int .i64 A.t) := id rfl
@[simp, go_sem] theorem Arms.arr_7 (A : Arms) : A.arr[7]? = some (.int .i64 A.c1) := id rfl
@[simp, go_sem] theorem Arms.arr_8 (A : Arms) : A.arr[8]? = some (.int .i64 A.k1) := id rfl
@[simp, go_sem] theorem Arms.arr_9 (A : Arms) : A.arr[9]? = some (.int .i64 A.a1) := id rfl
@[simp, go_sem] theorem Arms.arr_10 (A : Arms) : A.arr[10]? = some (.int .i64 A.t1) := id rfl
@[simp, go_sem] theorem Arms.arr_11 (A : Arms) : A.arr[11]? = some (.int .i64 A.c2) := id rfl
@[simp, go_sem] theorem Arms.arr_12 (A : Arms) : A.arr[12]? = some (.int .i64 A.k2) := id rfl
@[simp, go_sem] theorem Arms.arr_13 (A : Arms) : A.arr[13]? = some (.int .i64 A.a2) := id rfl
@[simp, go_sem] theorem Arms.arr_14 (A : Arms) : A.arr[14]? = some (.int .i64 A.t2) := id rfl
@[simp, go_sem] theorem Arms.arr_g0 (A : Arms) (h : 0 < A.arr.size) : A.arr[0] = .int .i64 A.fd := id rfl
@[simp, go_sem] theorem Arms.arr_g1 (A : Arms) (h : 1 < A.arr.size) : A.arr[1] = .int .i64 A.fl := id rfl
@[simp, go_sem] theorem Arms.arr_g2 (A : Arms) (h : 2 < A.arr.size) : A.arr[2] = .int .i64 A.ff := id rfl
@[simp, go_sem] theorem Arms.arr_g3 (A : Arms) (h : 3 < A.arr.size) : A.arr[3] = .int .i64 A.fs := id rfl
@[simp, go_sem] theorem Arms.arr_g4 (A : Arms) (h : 4 < A.arr.size) : A.arr[4] = .int .i64 A.o := id rfl
@[simp, go_sem] theorem Arms.arr_g5 (A : Arms) (h : 5 < A.arr.size) : A.arr[5] = .int .i64 A.l := id rfl
@[simp, go_sem] theorem Arms.arr_g6 (A : Arms) (h : 6 < A.arr.size) : A.arr[6] = .int .i64 A.t := id rfl
@[simp, go_sem] theorem Arms.arr_g7 (A : Arms) (h : 7 < A.arr.size) : A.arr[7] = .int .i64 A.c1 := id rfl
@[simp, go_sem] theorem Arms.arr_g8 (A : Arms) (h : 8 < A.arr.size) : A.arr[8] = .int .i64 A.k1 := id rfl
@[simp, go_sem] theorem Arms.arr_g9 (A : Arms) (h : 9 < A.arr.size) : A.arr[9] = .int .i64 A.a1 := id rfl
@[simp, go_sem] theorem Arms.arr_g10 (A : Arms) (h : 10 < A.arr.size) : A.arr[10] = .int .i64 A.t1 := id rfl
@[simp, go_sem] theorem Arms.arr_g11 (A : Arms) (h : 11 < A.arr.size) : A.arr[11] = .int .i64 A.c2 := id rfl
@[simp, go_sem] theorem Arms.arr_g12 (A : Arms) (h : 12 < A.arr.size) : A.arr[12] = .int .i64 A.k2 := id rfl
@[simp, go_sem] theorem Arms.arr_g13 (A : Arms) (h : 13 < A.arr.size) : A.arr[13] = .int .i64 A.a2 := id rfl
@[simp, go_sem] theorem Arms.arr_g14 (A : Arms) (h : 14 < A.arr.size) : A.arr[14] = .int .i64 A.t2 := id rfl
def Arms.cells (A : Arms) : List Value := A.arr.toList
instance : Inhabited Arms := ⟨⟨0, 0, 0, 0, 0, 0, 0, 0, 0, 0, 0, 0, 0, 0, 0⟩⟩
theorem Arms.one (A : Arms) : A.arr.all (·.oneCell') = true := by simp [Arms.arr, Arms.list, Value.oneCell']

def encU8 (x : Int) : List Value := [.int .u8 x]
def isU8 (x : Int) : Prop := 0 ≤ x ∧ x ≤ 255
section
variable {H : Type} {enc : TypeId × Value → H} {P : Program} {w : World} {base : Nat} {spare : Nat → Bool} {held : Bool}
theorem rd_u8 {e : TypeId} (he : P.underlying e = some (.int .u8)) : ∀ m cs y, DataW.trod enc P w base spare held m e cs = some y → ∃ a : Int, cs = encU8 a ∧ isU8 a := by
  intro m cs y h
  obtain ⟨n, hc, _, hw⟩ := DataW.trod_int he h
  exact ⟨n, hc, bounds_u8 hw⟩
end

def goodG (c k a t : Int) : Bool := inB c 1 6 && inB k 1 8 && inB t 1 9 && (if k ≤ 3 then inB a 1 2 else decide (a = 0))
def noneG (c k a t : Int) : Bool := decide (c = 0 ∧ k = 0 ∧ a = 0 ∧ t = 0)
def okG (c k a t : Int) : Bool := noneG c k a t || goodG c k a t
end Go.Proofs.YtmkniipdkanbbaaGreatDoor

set_option maxRecDepth 100000
set_option maxHeartbeats 4000000
set_option cbv.maxSteps 3000000
namespace Go.Proofs.YtmkniipdkanbbaaGreatDoor.AM
/- From a law's contract to the walk that lift.py asks for; conditions: none. -/
theorem lowOk : Tryz.prog.globals.size < Tryz.prog.low := by decide +kernel
theorem law_of {f : FuncId} (h : ∀ c : Cd, Con Tryz.prog f [codeAV c] [] (.lit (.bool true)) []) (w : World) (A : Option Addr) (cap : Nat) (l : List Int) (hr : Rd w 1 encU8 A cap l) (hg : ∀ x ∈ l, isU8 x) (hsh : w.ShapedOpen Tryz.prog) (hld : Laid w := by exact ⟨fun x hx => (by cases hx), fun n hn => (by cases hn)⟩) : Calls Tryz.prog f #[.slice A l.length cap] w (fun e w' => e = .returned (.bool true) ∧ Up w w') := by
  let c : Cd := ⟨l.length, fun j => (l[j]?).getD 0, fun j => by
    cases hj : l[j]? with
    | none => simp
    | some x => have := hg x (List.mem_of_getElem? hj); unfold isU8 at this; simpa using this⟩
  let C : Cx := ⟨id, fun _ => False, fun _ => False, w⟩
  have hrel : Rel C (codeAV c) (.slice A l.length cap) := by
    refine .vec (fun j _ => .int .u8 ((l[j]?).getD 0)) hr.le hr.max (fun _ _ => rfl) (fun h0 => ?_) (fun _ _ _ _ => rfl) (fun j q x hj hx => ?_)
    · obtain ⟨b, o, hA, hc⟩ := hr.cells (by intro e; subst e; exact absurd h0 (Nat.lt_irrefl 0))
      have cell : ∀ j q, j < l.length → q < 1 → w.cell? ⟨b, o + j * 1 + q, none⟩ = some (.int .u8 ((l[j]?).getD 0)) := fun j q hj hq => by
        have hq0 : q = 0 := by omega
        subst hq0
        have h1 := hc j l[j] (List.getElem?_eq_getElem hj) 0 (.int .u8 l[j]) rfl
        rw [List.getElem?_eq_getElem hj]; exact h1
      refine ⟨b, o, hA, fun h => h, ?_, cell⟩
      exact World.block_lt_of_cell? w _ (cell 0 0 h0 (by omega))
    · cases q with
      | zero => simp [c, Cd.rows] at hx; subst hx; exact .lit rfl
      | succ q => simp [c, Cd.rows] at hx
  refine (h c C [.slice A l.length cap] (.cons hrel (.nil C)) (by simp [lk]) (by simp [lk]) (glo0 lowOk hsh hld)).mono fun e w' ⟨cv, he, C', ha⟩ => ?_
  have hv := ha.val _ rfl
  cases hv
  refine ⟨he, Up.grown (Up.refl w) (row := none) ⟨?_, ?_, ?_, ?_, fun k hk _ => ?_⟩ (by simp)⟩
  · have := ha.ext.wx.os; rw [ha.w] at this; exact this
  · have := ha.ext.wx.tape; rw [ha.w] at this; exact this
  · have := ha.ext.wx.output; rw [ha.w] at this; exact this
  · have := ha.ext.wx.size; rw [ha.w] at this; exact this
  · have := ha.ext.wx.same k hk (by simp); rw [ha.w] at this; exact this

end Go.Proofs.YtmkniipdkanbbaaGreatDoor.AM

namespace Go.Proofs.YtmkniipdkanbbaaGreatDoor
open Go AM
theorem w_Sketches (w : World) (A : Option Addr) (cap : Nat) (l : List Int) (hr : Rd w 1 encU8 A cap l) (hg : ∀ x ∈ l, isU8 x) (hsh : w.ShapedOpen Tryz.prog) : Calls Tryz.prog 4 #[.slice A l.length cap] w (fun e w' => e = .returned (.bool true) ∧ Up w w') := law_of law_Sketches w A cap l hr hg hsh
end Go.Proofs.YtmkniipdkanbbaaGreatDoor

