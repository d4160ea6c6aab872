/- Lemmas and contracts (Rsv); conditions: none. -/
import Derived.Test.YtmkniipdkanbbaaGreatDoorK04
import Derived.Test.YtmkniipdkanbbaaGreatDoorK33
import Derived.Test.YtmkniipdkanbbaaGreatDoorK37
import Derived.Test.YtmkniipdkanbbaaGreatDoorK38
import Derived.Test.YtmkniipdkanbbaaGreatDoorK39
set_option linter.unusedVariables false
set_option linter.unusedSimpArgs false
set_option maxRecDepth 100000
set_option maxHeartbeats 4000000
set_option cbv.maxSteps 3000000
namespace Go.Proofs.YtmkniipdkanbbaaGreatDoor.AM
/- Sketches resolved, by the program and by the reference; conditions: none. -/
theorem nxD_congr {p q : Nat → Bool} {n : Nat} {l : List Int} (h : ∀ i, i < n → p i = q i) : ∀ s, s + 1 ≤ n → nxD p n l s = nxD q n l s
  | 0, _ => rfl
  | s + 1, hs => by
    show (if p (n - 2 - s) then _ else _ : List Int) = (if q (n - 2 - s) then _ else _ : List Int)
    rw [h _ (by omega), nxD_congr h s (by omega)]
def rsA (k : Skt) : Arm := filA k.arms (rdO k.arms.f k.slots)
def rsB (k : Skt) : Bool := okK k && okR k.arms.f k.slots
theorem stO_all {f : Fld} {S : List Slo} (h : okR f S = true) : stO f S = preZ (tI f S) S.length S.length := by
  rw [stO_at (Nat.le_refl _) (okR_all.1 h) (.inl rfl)]
  unfold preZ
  rw [Nat.sub_self, List.replicate_zero, List.append_nil]
theorem nx_rdO {k : Skt} (hk : OkK k) (h : okR k.arms.f k.slots = true) : nxD (fun i => decide ((stO k.arms.f k.slots).getD i 0 = 0)) (stO k.arms.f k.slots).length (stO k.arms.f k.slots) ((stO k.arms.f k.slots).length - 1) = rdO k.arms.f k.slots := by
  have hf := (okA_b hk.a).1
  have hy : ∀ i, i < k.slots.length → okY (k.slots.getD i default) = true := fun i hi => hk.y i (by rw [← hk.len]; exact hi)
  rw [stO_all h]
  unfold rdO
  rw [preZ_len (Nat.le_refl _)]
  by_cases h0 : k.slots.length = 0
  · rw [h0]; rfl
  · refine nxD_congr (fun i hi => ?_) _ (by omega)
    unfold isN
    rw [preZ_get, if_pos hi, decide_eq_decide]
    exact tI_0 hf hy hi fun j hj => okR_all.1 h j (by omega)
theorem okA_rs {k : Skt} (h : rsB k = true) : okA (rsA k) = true := by
  unfold rsB at h
  rw [Bool.and_eq_true] at h
  have hk := okK_iff.1 h.1
  exact okA_fil hk.a fun j hj => rdO_tnc hk h.2 j (by rw [hk.len]; exact hj)
theorem c_resK (k : Skt) (h0 : k.slots.length ≤ 2000000) : ConN Tryz.prog 20 [aT rowK stdH fun _ => k] [] 0 (.tup [aT rowA stdH fun _ => if rsB k = true then rsA k else zA, .lit (.bool (stdH Bool fun _ => rsB k))]) [] [] := by
  have hB : Base Tryz.prog (tabΓ [e_IsValidSketch, e_readK, e_filK]) tab := base_of tabOk (ents_cons eok_IsValidSketch <| ents_cons eok_readK <| ents_cons eok_filK <| ents_nil)
  refine con_m (N := 23) hB (draw_ok hB mixed) Tryz.func20 rfl rfl (fun H => [aT rowK H fun _ => k]) (fun _ => []) 0 (fun H => .tup [aT rowA H fun _ => if rsB k = true then rsA k else zA, .lit (.bool (H Bool fun _ => rsB k))]) (fun H => []) (fun _ => []) 300 (by simp) (fun x hx => ?_) (by simp [lk]) (by omega) (by simp) ?_
  · simp only [zqu] at hx
    rcases hx with rfl
    · exact aT_bl okRK _ _
  intro X hX hX0 H hH
  conv in Fin.chk _ _ => cbv
  try simp only [zqs, Plain_rowsC, Plain_rowsY, zqx, AllP, zqw, upd, if_true]
  subst hH
  simp only [stdH, Arm.eta2, Fld.eta, Grp.eta, Tl_Y, Tl_I]
  have e : (⟨k.arms, k.slots⟩ : Skt) = k := rfl
  simp only [e]
  cases hk : okK k
  · have hb : rsB k = false := by unfold rsB; rw [hk]; rfl
    simp only [hb, if_true, if_false, Bool.false_eq_true, Bool.not_true, Bool.not_false]
    (repeat' (first | exact trivial | rfl | assumption | omega | exact h0 | exact Shp_Y _ _ | exact Shp_I _ _ | exact fun j _ => rfl | refine And.intro ?_ ?_ | (intro h; first | (cases h; done) | (simp at h; done) | skip)))
  · have hK := okK_iff.1 hk
    cases hr : okR k.arms.f k.slots
    · have hb : rsB k = false := by unfold rsB; rw [hk, hr]; rfl
      simp only [hb, if_true, if_false, Bool.false_eq_true, Bool.not_true, Bool.not_false]
      (repeat' (first | exact trivial | rfl | assumption | omega | exact h0 | exact Shp_Y _ _ | exact Shp_I _ _ | exact fun j _ => rfl | refine And.intro ?_ ?_ | (intro h; first | (cases h; done) | (simp at h; done) | skip)))
    · have hb : rsB k = true := by unfold rsB; rw [hk, hr]; rfl
      have l1 := rdO_len k.arms.f k.slots
      have l2 := hK.len
      have l3 := cntP_3 k.arms
      have l4 := hK.a
      simp only [hb, if_true, if_false, Bool.false_eq_true, Bool.not_true, Bool.not_false]
      (repeat' (first | exact trivial | rfl | assumption | omega | exact h0 | exact Shp_Y _ _ | exact Shp_I _ _ | exact fun j _ => rfl | refine And.intro ?_ ?_ | (intro h; first | (cases h; done) | (simp at h; done) | skip)))
noncomputable def e_resK : Entry := pureE 20 fun H a => match a with
  | [.agg [.lit (.int .i64 k0), .lit (.int .i64 k1), .lit (.int .i64 k2), .lit (.int .i64 k3), .lit (.int .i64 k4), .lit (.int .i64 k5), .lit (.int .i64 k6), .lit (.int .i64 k7), .lit (.int .i64 k8), .lit (.int .i64 k9), .lit (.int .i64 k10), .lit (.int .i64 k11), .lit (.int .i64 k12), .lit (.int .i64 k13), .lit (.int .i64 k14), .vec 2 k15n k15f]] => some (.tup [aT rowA H fun _ => if rsB (⟨⟨⟨k0, k1, k2, k3⟩, k4, k5, k6, ⟨k7, k8, k9, k10⟩, ⟨k11, k12, k13, k14⟩⟩, (Tl rowY k15n k15f)⟩ : Skt) = true then rsA (⟨⟨⟨k0, k1, k2, k3⟩, k4, k5, k6, ⟨k7, k8, k9, k10⟩, ⟨k11, k12, k13, k14⟩⟩, (Tl rowY k15n k15f)⟩ : Skt) else zA, .lit (.bool (H Bool fun _ => rsB (⟨⟨⟨k0, k1, k2, k3⟩, k4, k5, k6, ⟨k7, k8, k9, k10⟩, ⟨k11, k12, k13, k14⟩⟩, (Tl rowY k15n k15f)⟩ : Skt)))], [H Prop fun _ => Shp rowY k15n k15f, H Prop fun _ => (⟨⟨⟨k0, k1, k2, k3⟩, k4, k5, k6, ⟨k7, k8, k9, k10⟩, ⟨k11, k12, k13, k14⟩⟩, (Tl rowY k15n k15f)⟩ : Skt).slots.length ≤ 2000000])
  | _ => none
theorem eok_resK : EntryOk Tryz.prog e_resK := pureM_ok (by unfold isBody; kernel_rfl) (by
  intro a r ob e hob
  split at e
  · rename_i k0 k1 k2 k3 k4 k5 k6 k7 k8 k9 k10 k11 k12 k13 k14 k15n k15f
    simp only [zqt] at e
    obtain ⟨rfl, rfl⟩ := e
    exact ConN.args (.cons (.agg (.cons .rfl (.cons .rfl (.cons .rfl (.cons .rfl (.cons .rfl (.cons .rfl (.cons .rfl (.cons .rfl (.cons .rfl (.cons .rfl (.cons .rfl (.cons .rfl (.cons .rfl (.cons .rfl (.cons .rfl (.cons (.toT okRY rfl hob.1) .nil))))))))))))))))) .nil) (c_resK (⟨⟨⟨k0, k1, k2, k3⟩, k4, k5, k6, ⟨k7, k8, k9, k10⟩, ⟨k11, k12, k13, k14⟩⟩, (Tl rowY k15n k15f)⟩ : Skt) hob.2.1)
  · simp at e)
theorem c_resS7 (k : Skt) (h0 : okK k = true) : ConN Tryz.prog 53 [aT rowK stdH fun _ => k] [] 0 (.tup [aT rowA stdH fun _ => if okR k.arms.f k.slots = true then rsA k else zA, .lit (.bool (stdH Bool fun _ => okR k.arms.f k.slots))]) [] [] := by
  have hB : Base Tryz.prog (tabΓ [e_statS, e_nextS, e_fillS7]) tabO := base_of tabOkO (ents_cons eok_statS <| ents_cons eok_nextS <| ents_cons eok_fillS7 <| ents_nil)
  refine con_m (N := 19) hB (draw_ok hB mixed) Tryz.func53 rfl rfl (fun H => [aT rowK H fun _ => k]) (fun _ => []) 0 (fun H => .tup [aT rowA H fun _ => if okR k.arms.f k.slots = true then rsA k else zA, .lit (.bool (H Bool fun _ => okR k.arms.f k.slots))]) (fun H => []) (fun _ => []) 300 (by simp) (fun x hx => ?_) (by simp [lk]) (by omega) (by simp) ?_
  · simp only [zqu] at hx
    rcases hx with rfl
    · exact aT_bl okRK _ _
  intro X hX hX0 H hH
  conv in Fin.chk _ _ => cbv
  try simp only [zqs, Plain_rowsC, Plain_rowsY, zqx, AllP, zqw, upd, if_true]
  subst hH
  simp only [stdH, Arm.eta2, Fld.eta, Grp.eta, Tl_Y, Tl_I]
  have e : (⟨k.arms, k.slots⟩ : Skt) = k := rfl
  simp only [e]
  have hK := okK_iff.1 h0
  cases hr : okR k.arms.f k.slots
  · simp only [if_true, if_false, Bool.false_eq_true, Bool.not_true, Bool.not_false]
    (repeat' (first | exact trivial | rfl | assumption | omega | exact h0 | exact Shp_Y _ _ | exact Shp_I _ _ | exact fun j _ => rfl | refine And.intro ?_ ?_ | (intro h; first | (cases h; done) | (simp at h; done) | skip)))
  · have l1 := rdO_len k.arms.f k.slots
    have l2 := hK.len
    have l3 := cntP_3 k.arms
    have l4 := hK.a
    have l5 : (stO k.arms.f k.slots).length ≤ 3 := by rw [stO_all hr, preZ_len (Nat.le_refl _)]; omega
    simp only [nx_rdO hK hr, if_true, if_false, Bool.false_eq_true, Bool.not_true, Bool.not_false]
    (repeat' (first | exact trivial | rfl | assumption | omega | exact h0 | exact Shp_Y _ _ | exact Shp_I _ _ | exact fun j _ => rfl | refine And.intro ?_ ?_ | (intro h; first | (cases h; done) | (simp at h; done) | skip)))
noncomputable def e_resS7 : Entry := pureE 53 fun H a => match a with
  | [.agg [.lit (.int .i64 k0), .lit (.int .i64 k1), .lit (.int .i64 k2), .lit (.int .i64 k3), .lit (.int .i64 k4), .lit (.int .i64 k5), .lit (.int .i64 k6), .lit (.int .i64 k7), .lit (.int .i64 k8), .lit (.int .i64 k9), .lit (.int .i64 k10), .lit (.int .i64 k11), .lit (.int .i64 k12), .lit (.int .i64 k13), .lit (.int .i64 k14), .vec 2 k15n k15f]] => some (.tup [aT rowA H fun _ => if okR (⟨⟨⟨k0, k1, k2, k3⟩, k4, k5, k6, ⟨k7, k8, k9, k10⟩, ⟨k11, k12, k13, k14⟩⟩, (Tl rowY k15n k15f)⟩ : Skt).arms.f (⟨⟨⟨k0, k1, k2, k3⟩, k4, k5, k6, ⟨k7, k8, k9, k10⟩, ⟨k11, k12, k13, k14⟩⟩, (Tl rowY k15n k15f)⟩ : Skt).slots = true then rsA (⟨⟨⟨k0, k1, k2, k3⟩, k4, k5, k6, ⟨k7, k8, k9, k10⟩, ⟨k11, k12, k13, k14⟩⟩, (Tl rowY k15n k15f)⟩ : Skt) else zA, .lit (.bool (H Bool fun _ => okR (⟨⟨⟨k0, k1, k2, k3⟩, k4, k5, k6, ⟨k7, k8, k9, k10⟩, ⟨k11, k12, k13, k14⟩⟩, (Tl rowY k15n k15f)⟩ : Skt).arms.f (⟨⟨⟨k0, k1, k2, k3⟩, k4, k5, k6, ⟨k7, k8, k9, k10⟩, ⟨k11, k12, k13, k14⟩⟩, (Tl rowY k15n k15f)⟩ : Skt).slots))], [H Prop fun _ => Shp rowY k15n k15f, H Prop fun _ => okK (⟨⟨⟨k0, k1, k2, k3⟩, k4, k5, k6, ⟨k7, k8, k9, k10⟩, ⟨k11, k12, k13, k14⟩⟩, (Tl rowY k15n k15f)⟩ : Skt) = true])
  | _ => none
theorem eok_resS7 : EntryOk Tryz.prog e_resS7 := pureM_ok (by unfold isBody; kernel_rfl) (by
  intro a r ob e hob
  split at e
  · rename_i k0 k1 k2 k3 k4 k5 k6 k7 k8 k9 k10 k11 k12 k13 k14 k15n k15f
    simp only [zqt] at e
    obtain ⟨rfl, rfl⟩ := e
    exact ConN.args (.cons (.agg (.cons .rfl (.cons .rfl (.cons .rfl (.cons .rfl (.cons .rfl (.cons .rfl (.cons .rfl (.cons .rfl (.cons .rfl (.cons .rfl (.cons .rfl (.cons .rfl (.cons .rfl (.cons .rfl (.cons .rfl (.cons (.toT okRY rfl hob.1) .nil))))))))))))))))) .nil) (c_resS7 (⟨⟨⟨k0, k1, k2, k3⟩, k4, k5, k6, ⟨k7, k8, k9, k10⟩, ⟨k11, k12, k13, k14⟩⟩, (Tl rowY k15n k15f)⟩ : Skt) hob.2.1)
  · simp at e)
noncomputable def rtB (s : ByteArray) : Bool := match pK s with | none => false | some k => okR k.arms.f k.slots
noncomputable def rtT (s : ByteArray) : ByteArray := if rtB s = true then armT (rsA ((pK s).getD zK)) else ByteArray.empty
theorem rtB_no {s : ByteArray} (h : pK s = none) : rtB s = false ∧ rtT s = ByteArray.empty := by
  have hb : rtB s = false := by unfold rtB; rw [h]
  exact ⟨hb, by unfold rtT; rw [hb]; rfl⟩
theorem rtB_n {s : ByteArray} {k : Skt} (h : pK s = some k) (hr : okR k.arms.f k.slots = false) : rtB s = false ∧ rtT s = ByteArray.empty := by
  have hb : rtB s = false := by unfold rtB; rw [h]; exact hr
  exact ⟨hb, by unfold rtT; rw [hb]; rfl⟩
theorem rtB_y {s : ByteArray} {k : Skt} (h : pK s = some k) (hr : okR k.arms.f k.slots = true) : rtB s = true ∧ rtT s = armT (rsA k) ∧ okA (rsA k) = true ∧ rsB k = true := by
  have hb : rtB s = true := by unfold rtB; rw [h]; exact hr
  have hB : rsB k = true := by unfold rsB; rw [(pK_iff.1 h).1, hr]; rfl
  exact ⟨hb, by unfold rtT; rw [hb, if_pos rfl, h]; rfl, okA_rs hB, hB⟩
theorem pK_le3 {u : ByteArray} {m : Skt} (h : pK u = some m) : m.slots.length ≤ 3 := by
  have hk := okK_iff.1 (pK_iff.1 h).1
  rw [hk.len]
  exact cntP_3 _
theorem c_resTS (s : ByteArray) (h0 : s.size ≤ 1100000) : ConN Tryz.prog 23 [.lit (.string s)] [] 0 (.tup [.lit (.string (stdH ByteArray fun _ => rtT s)), .lit (.bool (stdH Bool fun _ => rtB s))]) [] [] := by
  have hB : Base Tryz.prog (tabΓ [e_parse7, e_resS7, e_l6Text]) tab := base_of tabOk (ents_cons eok_parse7 <| ents_cons eok_resS7 <| ents_cons eok_l6Text <| ents_nil)
  refine con_m (N := 24) hB (draw_ok hB mixed) Tryz.func23 rfl rfl (fun H => [.lit (.string s)]) (fun _ => []) 0 (fun H => .tup [.lit (.string (H ByteArray fun _ => rtT s)), .lit (.bool (H Bool fun _ => rtB s))]) (fun H => []) (fun _ => []) 300 (by simp) (fun x hx => ?_) (by simp [lk]) (by omega) (by simp) ?_
  · simp only [zqu] at hx
    rcases hx with rfl
    · exact .lit
  intro X hX hX0 H hH
  conv in Fin.chk _ _ => cbv
  try simp only [zqs, Plain_rowsC, Plain_rowsY, zqx, AllP, zqw, upd, if_true]
  subst hH
  simp only [stdH, Arm.eta2, Fld.eta, Grp.eta, Tl_Y]
  have ek : ∀ k : Skt, (⟨k.arms, k.slots⟩ : Skt) = k := fun _ => rfl
  simp only [ek]
  cases h : pK s with
  | none =>
    obtain ⟨q1, q2⟩ := rtB_no h
    (repeat' (first | exact trivial | rfl | assumption | omega | exact h0 | exact Shp_Y _ _ | exact Shp_I _ _ | exact fun j _ => rfl | refine And.intro ?_ ?_ | (intro h; first | (cases h; done) | (simp at h; done) | skip)))
  | some k =>
    have hk := (pK_iff.1 h).1
    rw [r7_some h]
    cases hr : okR k.arms.f k.slots
    · obtain ⟨q1, q2⟩ := rtB_n h hr
      (repeat' (first | exact trivial | rfl | assumption | omega | exact h0 | exact Shp_Y _ _ | exact Shp_I _ _ | exact fun j _ => rfl | refine And.intro ?_ ?_ | (intro h; first | (cases h; done) | (simp at h; done) | skip)))
    · obtain ⟨q1, q2, q3, q4⟩ := rtB_y h hr
      simp only [if_true]
      (repeat' (first | exact trivial | rfl | assumption | omega | exact h0 | exact Shp_Y _ _ | exact Shp_I _ _ | exact fun j _ => rfl | refine And.intro ?_ ?_ | (intro h; first | (cases h; done) | (simp at h; done) | skip)))
noncomputable def e_resTS : Entry := pureE 23 fun H a => match a with
  | [.lit (.string s)] => some (.tup [.lit (.string (H ByteArray fun _ => rtT s)), .lit (.bool (H Bool fun _ => rtB s))], [H Prop fun _ => s.size ≤ 1100000])
  | _ => none
theorem eok_resTS : EntryOk Tryz.prog e_resTS := pureM_ok (by unfold isBody; kernel_rfl) (by
  intro a r ob e hob
  split at e
  · rename_i s
    simp only [zqt] at e
    obtain ⟨rfl, rfl⟩ := e
    exact ConN.args (.cons .rfl .nil) (c_resTS s hob.1)
  · simp at e)
theorem c_resT (s : ByteArray) (h0 : s.size ≤ 1100000) : ConN Tryz.prog 24 [.lit (.string s)] [] 0 (.tup [.lit (.string (stdH ByteArray fun _ => rtT s)), .lit (.bool (stdH Bool fun _ => rtB s))]) [] [] := by
  have hB : Base Tryz.prog (tabΓ [e_parseK, e_resK, e_armText]) tab := base_of tabOk (ents_cons eok_parseK <| ents_cons eok_resK <| ents_cons eok_armText <| ents_nil)
  refine con_m (N := 23) hB (draw_ok hB mixed) Tryz.func24 rfl rfl (fun H => [.lit (.string s)]) (fun _ => []) 0 (fun H => .tup [.lit (.string (H ByteArray fun _ => rtT s)), .lit (.bool (H Bool fun _ => rtB s))]) (fun H => []) (fun _ => []) 300 (by simp) (fun x hx => ?_) (by simp [lk]) (by omega) (by simp) ?_
  · simp only [zqu] at hx
    rcases hx with rfl
    · exact .lit
  intro X hX hX0 H hH
  conv in Fin.chk _ _ => cbv
  try simp only [zqs, Plain_rowsC, Plain_rowsY, zqx, AllP, zqw, upd, if_true]
  subst hH
  simp only [stdH, Arm.eta2, Fld.eta, Grp.eta, Tl_Y]
  have ek : ∀ k : Skt, (⟨k.arms, k.slots⟩ : Skt) = k := fun _ => rfl
  simp only [ek]
  cases h : pK s with
  | none =>
    obtain ⟨q1, q2⟩ := rtB_no h
    (repeat' (first | exact trivial | rfl | assumption | omega | exact h0 | exact Shp_Y _ _ | exact Shp_I _ _ | exact fun j _ => rfl | refine And.intro ?_ ?_ | (intro h; first | (cases h; done) | (simp at h; done) | skip)))
  | some k =>
    have hk := (pK_iff.1 h).1
    have hl := pK_le3 h
    simp only [Option.getD_some]
    cases hr : okR k.arms.f k.slots
    · obtain ⟨q1, q2⟩ := rtB_n h hr
      have hB : rsB k = false := by unfold rsB; rw [hk, hr]; rfl
      simp only [hB]
      (repeat' (first | exact trivial | rfl | assumption | omega | exact h0 | exact Shp_Y _ _ | exact Shp_I _ _ | exact fun j _ => rfl | refine And.intro ?_ ?_ | (intro h; first | (cases h; done) | (simp at h; done) | skip)))
    · obtain ⟨q1, q2, q3, q4⟩ := rtB_y h hr
      simp only [q4, if_true]
      (repeat' (first | exact trivial | rfl | assumption | omega | exact h0 | exact Shp_Y _ _ | exact Shp_I _ _ | exact fun j _ => rfl | refine And.intro ?_ ?_ | (intro h; first | (cases h; done) | (simp at h; done) | skip)))
noncomputable def e_resT : Entry := pureE 24 fun H a => match a with
  | [.lit (.string s)] => some (.tup [.lit (.string (H ByteArray fun _ => rtT s)), .lit (.bool (H Bool fun _ => rtB s))], [H Prop fun _ => s.size ≤ 1100000])
  | _ => none
theorem eok_resT : EntryOk Tryz.prog e_resT := pureM_ok (by unfold isBody; kernel_rfl) (by
  intro a r ob e hob
  split at e
  · rename_i s
    simp only [zqt] at e
    obtain ⟨rfl, rfl⟩ := e
    exact ConN.args (.cons .rfl .nil) (c_resT s hob.1)
  · simp at e)

end Go.Proofs.YtmkniipdkanbbaaGreatDoor.AM

