/- Lemmas and contracts (Rko); conditions: none. -/
import Derived.Test.YtcjjffmbhionmaaGreatDoorK03
import Derived.Test.YtcjjffmbhionmaaGreatDoorK23
import Derived.Test.YtcjjffmbhionmaaGreatDoorK32
import Derived.Test.YtcjjffmbhionmaaGreatDoorK33
set_option linter.unusedVariables false
set_option linter.unusedSimpArgs false
set_option maxRecDepth 100000
set_option maxHeartbeats 4000000
set_option cbv.maxSteps 3000000
namespace Go.Proofs.YtcjjffmbhionmaaGreatDoor.AM
/- The rarest feature: both; conditions: none. -/
theorem c_rrC (g : Grt) (s : ByteArray) (h0 : okA g.arms = true) : ConN Tryz.prog 56 [aT rowW stdH fun _ => g, .rptr [.lit (.string s)]] [] 0 (.lit (.bool (stdH Bool fun _ => biE s g))) [] [] := by
  have hB : Base Tryz.prog (tabΓ [e_sharedF]) tab := base_of tabOk (ents_cons eok_sharedF <| ents_nil)
  refine con_m (N := 10) hB (draw_ok hB mixed) Tryz.func56 rfl rfl (fun H => [aT rowW H fun _ => g, .rptr [.lit (.string s)]]) (fun _ => []) 0 (fun H => .lit (.bool (H Bool fun _ => biE s g))) (fun H => []) (fun _ => []) 100 (by simp) (fun x hx => ?_) (by simp [lk]) (by omega) (by simp) ?_
  · simp only [zqu] at hx
    rcases hx with rfl | rfl
    · exact aT_bl okRW _ _
    · exact (by
        refine .rptr ?_
        intro c hc
        simp only [zqu] at hc
        rcases hc with rfl
        · exact .lit)
  intro X hX hX0 H hH
  conv in Fin.chk _ _ => cbv
  try simp only [zqs, Plain_rowsC, Plain_rowsD, Plain_rowsW, zqx, AllP, zqw, upd, if_true]
  have e : Tl rowS 1 (rowsS stdH fun _ => [s]) = [s] := Tl_rowsT okS [s]
  simp only [hetaA hH]
  subst hH
  simp only [stdH, e]
  exact ⟨⟨Shp_rowsT okS _ (fun _ => _), h0, by simp⟩, rfl⟩
noncomputable def e_rrC : Entry := pureE 56 fun H a => match a with
  | [.agg [.lit (.int .i64 g0), .lit (.string g1), .lit (.int .i64 g2), .lit (.int .i64 g3), .lit (.int .i64 g4), .lit (.int .i64 g5), .lit (.int .i64 g6), .lit (.int .i64 g7), .lit (.int .i64 g8), .lit (.int .i64 g9), .lit (.int .i64 g10), .lit (.int .i64 g11), .lit (.int .i64 g12), .lit (.int .i64 g13), .lit (.int .i64 g14), .lit (.int .i64 g15), .lit (.int .i64 g16), .lit (.int .i64 g17)], .rptr [.lit (.string s)]] => some (.lit (.bool (H Bool fun _ => biE s (⟨g0, g1, g2, ⟨⟨g3, g4, g5, g6⟩, g7, g8, g9, ⟨g10, g11, g12, g13⟩, ⟨g14, g15, g16, g17⟩⟩⟩ : Grt))), [H Prop fun _ => okA (⟨g0, g1, g2, ⟨⟨g3, g4, g5, g6⟩, g7, g8, g9, ⟨g10, g11, g12, g13⟩, ⟨g14, g15, g16, g17⟩⟩⟩ : Grt).arms = true])
  | _ => none
theorem eok_rrC : EntryOk Tryz.prog e_rrC := pureM_ok (by unfold isBody; kernel_rfl) (by
  intro a r ob e hob
  split at e
  · rename_i g0 g1 g2 g3 g4 g5 g6 g7 g8 g9 g10 g11 g12 g13 g14 g15 g16 g17 s
    simp only [zqt] at e
    obtain ⟨rfl, rfl⟩ := e
    exact ConN.args (.cons .rfl (.cons (.rptr (.cons .rfl .nil)) .nil)) (c_rrC (⟨g0, g1, g2, ⟨⟨g3, g4, g5, g6⟩, g7, g8, g9, ⟨g10, g11, g12, g13⟩, ⟨g14, g15, g16, g17⟩⟩⟩ : Grt) s hob.1)
  · simp at e)
theorem c_numR (r : Rgr) (k0 : ByteArray) (h0 : r.gs.length ≤ 2000000) (h1 : (∀ g ∈ r.gs, okA g.arms = true)) : ConN Tryz.prog 33 [aT rowJ stdH fun _ => r, .fn (.func 56) [] [.rptr [.lit (.string k0)]]] [] 0 (.slc 0 0 1 (stdH Nat fun _ => (nmb (biE k0) r.gs r.gs.length).length)) [.rows 1 (stdH Nat fun _ => (nmb (biE k0) r.gs r.gs.length).length) (rowsI stdH fun _ => nmb (biE k0) r.gs r.gs.length) 3] [] := by
  have hB : Base Tryz.prog (tabΓ [e_rrC]) tabO := base_of tabOkO (ents_cons eok_rrC <| ents_nil)
  refine con_m (N := 26) hB (draw_ok hB mixed) Tryz.func33 rfl rfl (fun H => [aT rowJ H fun _ => r, .fn (.func 56) [] [.rptr [.lit (.string k0)]]]) (fun _ => []) 0 (fun H => .slc 0 0 1 (H Nat fun _ => (nmb (biE k0) r.gs r.gs.length).length)) (fun H => [.rows 1 (H Nat fun _ => (nmb (biE k0) r.gs r.gs.length).length) (rowsI H fun _ => nmb (biE k0) r.gs r.gs.length) 3]) (fun _ => []) 300 (by simp) (fun x hx => ?_) (by simp [lk]) (by omega) (by simp) ?_
  · simp only [zqu] at hx
    rcases hx with rfl | rfl
    · exact aT_bl okRJ _ _
    · exact (by
        refine .fn (fun c hc => by cases hc) ?_
        intro c hc
        simp only [zqu] at hc
        rcases hc with rfl
        · exact (by
        refine .rptr ?_
        intro c hc
        simp only [zqu] at hc
        rcases hc with rfl
        · exact .lit))
  intro X hX hX0 H hH
  conv in Fin.chk _ _ => cbv
  try simp only [zqs, Plain_rowsC, Plain_rowsD, Plain_rowsW, zqx, AllP, zqw, upd, if_true]
  have h1' := h1
  refine loop_a hB (draw_ok hB mixed) hX hX0 hH false (ι := { i : Nat // i ≤ r.gs.length }) 300 (fun i => [.r (H Nat fun _ => (nmb (biE k0) r.gs i.1).length) (rowsI H fun _ => nmb (biE k0) r.gs i.1), .i (H Int fun _ => (i.1 : Nat))]) (fun i => r.gs.length - i.1) (⟨0, by omega⟩) ?_ ?_
  · (conv in matchSt _ _ _ _ => cbv); simp only [AllG, AllP, and_true, hH, stdH, zql, ncast, zqe, zqy]
    rw [nmb_0]
    all_goals (repeat' (with_reducible refine And.intro ?_ ?_)) <;> (first | exact Eq.refl _ | exact True.intro | exact Nat.le_refl _ | exact RowsEq.self okRW | exact RowsEq.ofT okRW rfl (Shp_zero _) rfl | exact RowsEq.snoc okRW rfl | exact RowsEq.self okI | exact RowsEq.ofT okI rfl (Shp_zero _) rfl | exact RowsEq.snoc okI rfl | exact RowsEq.more okI (Shp_I _ _) (Tl_I _) | exact RowsEq.self okS | exact RowsEq.ofT okS rfl (Shp_zero _) rfl | exact RowsEq.snoc okS rfl | exact RowsEq.more okS (Shp_S _ _) (Tl_S _) | exact List.length_append | exact c.rqN)
  · intro I hI i
    conv in Fin.chk _ _ => cbv
    try simp only [zqs, Plain_rowsC, Plain_rowsD, Plain_rowsW, zqx, AllP, zqw, upd, if_true]
    obtain ⟨i, hi⟩ := i
    have hl := nmb_le (biE k0) r.gs i
    try simp only [hetaA hH, hs2 hH]
    refine ⟨fun h1 => ⟨?_, ?_, fun h2 => ⟨?_, ?_⟩, fun h2 => ?_⟩, fun h1 => ?_⟩
    · simp only [hH, stdH, zqz, ne_eq, zqy] at h1 ⊢
      omega
    · simp only [hH, stdH, zqz, ne_eq, zqy] at h1
      simp only [hH, stdH, Int.toNat_natCast]
      exact okA_at h1' (by omega)
    · try simp only [hH, stdH, zqz, ne_eq, zqy]
      ((repeat' (with_reducible refine And.intro ?_ ?_)) <;> (first | exact True.intro | omega | exact Eq.refl _))
    · simp only [hH, stdH, zqz, ne_eq, zqy] at h1
      simp only [hH, stdH, Int.toNat_natCast] at h2
      try simp only [TlS'] at h2
      have h3 : (biE k0) (r.gs.getD i default) = true := h2
      refine ⟨⟨i + 1, by omega⟩, by simp only; omega, ?_⟩
      rw [hI]
      (conv in matchSt _ _ _ _ => cbv); simp only [AllG, AllP, and_true, hH, stdH, zql, ncast, zqe, zqy]
      rw [w1 (by omega), nmb_s (by omega), if_pos h3]
      all_goals (repeat' (with_reducible refine And.intro ?_ ?_)) <;> (first | exact Eq.refl _ | exact True.intro | exact Nat.le_refl _ | exact RowsEq.self okRW | exact RowsEq.ofT okRW rfl (Shp_zero _) rfl | exact RowsEq.snoc okRW rfl | exact RowsEq.self okI | exact RowsEq.ofT okI rfl (Shp_zero _) rfl | exact RowsEq.snoc okI rfl | exact RowsEq.more okI (Shp_I _ _) (Tl_I _) | exact RowsEq.self okS | exact RowsEq.ofT okS rfl (Shp_zero _) rfl | exact RowsEq.snoc okS rfl | exact RowsEq.more okS (Shp_S _ _) (Tl_S _) | exact List.length_append | exact c.rqN)
    · simp only [hH, stdH, zqz, ne_eq, zqy] at h1
      simp only [hH, stdH, Int.toNat_natCast] at h2
      try simp only [TlS'] at h2
      have h3 : (biE k0) (r.gs.getD i default) = false := h2
      refine ⟨⟨i + 1, by omega⟩, by simp only; omega, ?_⟩
      rw [hI]
      (conv in matchSt _ _ _ _ => cbv); simp only [AllG, AllP, and_true, hH, stdH, zql, ncast, zqe, zqy]
      rw [w1 (by omega), nmb_s (by omega), if_neg (ne_true_of_eq_false h3)]
      all_goals (repeat' (with_reducible refine And.intro ?_ ?_)) <;> (first | exact Eq.refl _ | exact True.intro | exact Nat.le_refl _ | exact RowsEq.self okRW | exact RowsEq.ofT okRW rfl (Shp_zero _) rfl | exact RowsEq.snoc okRW rfl | exact RowsEq.self okI | exact RowsEq.ofT okI rfl (Shp_zero _) rfl | exact RowsEq.snoc okI rfl | exact RowsEq.more okI (Shp_I _ _) (Tl_I _) | exact RowsEq.self okS | exact RowsEq.ofT okS rfl (Shp_zero _) rfl | exact RowsEq.snoc okS rfl | exact RowsEq.more okS (Shp_S _ _) (Tl_S _) | exact List.length_append | exact c.rqN)
    · simp only [hH, stdH, zqz, ne_eq, zqy] at h1
      obtain rfl : i = r.gs.length := by omega
      try simp only [hH, stdH, zqz, ne_eq, zqy]
      exact ⟨RowsEq.self okI, trivial⟩
noncomputable def e_numR : Entry := pureN 33 fun H a => match a with
  | [.agg [.vec 18 r0n r0f], .fn (.func 56) [] [.rptr [.lit (.string k0)]]] => some (fun nx => .slc nx 0 1 (H Nat fun _ => (nmb (biE k0) (⟨(Tl rowW r0n r0f)⟩ : Rgr).gs (⟨(Tl rowW r0n r0f)⟩ : Rgr).gs.length).length), [.rows 1 (H Nat fun _ => (nmb (biE k0) (⟨(Tl rowW r0n r0f)⟩ : Rgr).gs (⟨(Tl rowW r0n r0f)⟩ : Rgr).gs.length).length) (rowsI H fun _ => nmb (biE k0) (⟨(Tl rowW r0n r0f)⟩ : Rgr).gs (⟨(Tl rowW r0n r0f)⟩ : Rgr).gs.length) 3], [H Prop fun _ => Shp rowW r0n r0f, H Prop fun _ => (⟨(Tl rowW r0n r0f)⟩ : Rgr).gs.length ≤ 2000000, H Prop fun _ => (∀ g ∈ (⟨(Tl rowW r0n r0f)⟩ : Rgr).gs, okA g.arms = true)])
  | _ => none
theorem eok_numR : EntryOk Tryz.prog e_numR := pureN_ok (by unfold isBody; kernel_rfl) (by
  intro a r nb ob e hob
  split at e
  · rename_i r0n r0f k0
    simp only [zqt] at e
    obtain ⟨rfl, rfl, rfl⟩ := e
    refine ⟨ConN.args (.cons (.agg (.cons (.toT okRW rfl hob.1) .nil)) (.cons (.fn .nil (.cons (.rptr (.cons .rfl .nil)) .nil)) .nil)) (c_numR (⟨(Tl rowW r0n r0f)⟩ : Rgr) k0 hob.2.1 hob.2.2.1), fun x hx => ?_, fun nx => ?_, fun b hb => ?_⟩
    · simp only [zqu] at hx
      rcases hx with rfl | rfl
      · exact (.agg fun c hc => (by
        simp only [zqu] at hc
        rcases hc with rfl
        · exact (hob.1).bl okRW _))
      · exact (by
        refine .fn (fun c hc => by cases hc) ?_
        intro c hc
        simp only [zqu] at hc
        rcases hc with rfl
        · exact (by
        refine .rptr ?_
        intro c hc
        simp only [zqu] at hc
        rcases hc with rfl
        · exact .lit))
    · (first | exact .slc ⟨by omega, by simp⟩ (by omega) | (refine .tup rfl (fun c x y hx hy => ?_); rcases c with _ | _ | _ | c <;> simp at hx hy <;> (subst hx; subst hy; first | exact .slc ⟨by omega, by simp⟩ (by omega) | exact .pl .lit | exact .pl (blq_ok 4 rfl) | (refine .agg rfl (fun c x y hx hy => ?_); rcases c with _ | _ | _ | c <;> simp at hx hy <;> (subst hx; subst hy; first | exact .slc ⟨by omega, by simp⟩ (by omega) | exact .pl .lit | exact .pl (blq_ok 4 rfl))))) | (refine .agg rfl (fun c x y hx hy => ?_); rcases c with _ | _ | _ | c <;> simp at hx hy <;> (subst hx; subst hy; first | exact .slc ⟨by omega, by simp⟩ (by omega) | exact .pl .lit | exact .pl (blq_ok 4 rfl))))
    · simp only [zqu] at hb; subst hb; exact bT_bl okI _ (fun _ => nmb (biE k0) (⟨(Tl rowW r0n r0f)⟩ : Rgr).gs (⟨(Tl rowW r0n r0f)⟩ : Rgr).gs.length) _
  · simp at e)
def cnF (l : List Grt) (s : ByteArray) : Int := ((nmb (biE s) l l.length).length : Nat)
def rrB (l : List Grt) (f : List ByteArray) (m : Int) : Nat → ByteArray × Int
  | 0 => (ByteArray.empty, m)
  | i + 1 => if cnF l (f.getD i ByteArray.empty) < (rrB l f m i).2 then (f.getD i ByteArray.empty, cnF l (f.getD i ByteArray.empty)) else rrB l f m i
theorem cnF_le (l : List Grt) (s : ByteArray) : 0 ≤ cnF l s ∧ cnF l s ≤ (l.length : Nat) := by
  have := nmb_le (biE s) l l.length
  unfold cnF
  omega
theorem rrB_eq (l : List Grt) (f : List ByteArray) {m : Int} (h : (l.length : Nat) < m) : ∀ i, rrB l f m (i + 1) = rrB l f ((l.length : Nat) + 1) (i + 1)
  | 0 => by
    have := cnF_le l (f.getD 0 ByteArray.empty)
    have h1 : cnF l (f.getD 0 ByteArray.empty) < m := by omega
    have h2 : cnF l (f.getD 0 ByteArray.empty) < (l.length : Nat) + 1 := by omega
    simp only [rrB, h1, h2, if_true]
  | i + 1 => by
    rw [rrB, rrB_eq l f h i]
    rfl
theorem rrB_bd (l : List Grt) (f : List ByteArray) {m : Int} (h : 0 ≤ m) : ∀ i, 0 ≤ (rrB l f m i).2 ∧ (rrB l f m i).2 ≤ m
  | 0 => ⟨h, Int.le_refl _⟩
  | i + 1 => by
    have h1 := cnF_le l (f.getD i ByteArray.empty)
    have h2 := rrB_bd l f h i
    unfold rrB
    split
    · simp only
      omega
    · exact h2
theorem cnt_step {s : ByteArray} {g : Grt} {L : List Int} {j : Nat} (h : L.length ≤ j) (hj : j ≤ 8000) : IntKind.i64.wrap (((L.length : Nat) : Int) + ((shN g.arms [s] [s].length : Nat) : Int)) = (((if biE s g = true then L ++ [g.num] else L).length : Nat) : Int) := by
  have e : ((shN g.arms [s] [s].length : Nat) : Int) = if biE s g = true then 1 else 0 := by
    rw [biE_iff]
    unfold shN
    cases h : hasF g.arms s <;> simp [h]
  rw [e]
  split
  · rw [wi (by omega) (by omega), List.length_append, List.length_singleton]; rfl
  · rw [Int.add_zero, wi (by omega) (by omega)]
def okRr (l : List Grt) (f : List ByteArray) : Bool := okRg l && okFl f && decide (0 < f.length)
theorem okRr_n {l : List Grt} {f : List ByteArray} (h : (bif (bif !okRg l then true else !okFl f) then true else ((f.length : Nat) : Int) == 0) = true) : okRr l f = false := by
  unfold okRr
  generalize okRg l = x at *
  generalize okFl f = z at *
  cases x <;> cases z <;> simp_all
theorem okRr_y {l : List Grt} {f : List ByteArray} (h : (bif (bif !okRg l then true else !okFl f) then true else ((f.length : Nat) : Int) == 0) = false) : okRr l f = true ∧ okRg l = true ∧ okFl f = true ∧ 0 < f.length := by
  unfold okRr
  generalize okRg l = x at *
  generalize okFl f = z at *
  cases x <;> cases z <;> simp_all [List.length_pos_iff]
theorem c_rarI (r : Rgr) (f : List ByteArray) (h0 : r.gs.length ≤ 2000000) (h1 : Nsz r.gs) (h2 : f.length ≤ 100000) : ConN Tryz.prog 22 [aT rowJ stdH fun _ => r, .vec 1 (stdH Nat fun _ => (f).length) (rowsS stdH fun _ => f)] [] 0 (.tup [.lit (.string (stdH ByteArray fun _ => if okRr r.gs f then (rrB r.gs f 13 f.length).1 else ByteArray.empty)), .lit (.int .i64 (stdH Int fun _ => if okRr r.gs f then (rrB r.gs f 13 f.length).2 else 0)), .lit (.bool (stdH Bool fun _ => okRr r.gs f))]) [] [] := by
  have hB : Base Tryz.prog (tabΓ [e_validR, e_areF, e_numR]) tab := base_of tabOk (ents_cons eok_validR <| ents_cons eok_areF <| ents_cons eok_numR <| ents_nil)
  refine con_m (N := 43) hB (draw_ok hB mixed) Tryz.func22 rfl rfl (fun H => [aT rowJ H fun _ => r, .vec 1 (H Nat fun _ => (f).length) (rowsS H fun _ => f)]) (fun _ => []) 0 (fun H => .tup [.lit (.string (H ByteArray fun _ => if okRr r.gs f then (rrB r.gs f 13 f.length).1 else ByteArray.empty)), .lit (.int .i64 (H Int fun _ => if okRr r.gs f then (rrB r.gs f 13 f.length).2 else 0)), .lit (.bool (H Bool fun _ => okRr r.gs f))]) (fun H => []) (fun _ => []) 300 (by simp) (fun x hx => ?_) (by simp [lk]) (by omega) (by simp) ?_
  · simp only [zqu] at hx
    rcases hx with rfl | rfl
    · exact aT_bl okRJ _ _
    · exact vl_bl okS f _
  intro X hX hX0 H hH
  conv in Fin.chk _ _ => cbv
  try simp only [zqs, Plain_rowsC, Plain_rowsD, Plain_rowsW, zqx, AllP, zqw, upd, if_true]
  simp only [TlW_H hH]
  refine ⟨?_, ⟨?_, ?_⟩, fun h3 => ?_, fun h3 => ?_⟩
  · try simp only [hH, stdH, zqz, ne_eq, zqy]
    exact ⟨Shp_W _ _, h0, h1⟩
  · try simp only [hH, stdH, zqz, ne_eq, zqy]
    exact fun _ => Shp_rowsT okS _ (fun _ => _)
  · simp only [hH, stdH, TlS']
    exact fun _ => h2
  · simp only [hH, stdH, TlS'] at h3
    have e := okRr_n h3
    simp only [hH, stdH, e, Bool.false_eq_true, if_false]
    (repeat' (with_reducible refine And.intro ?_ ?_)) <;> (first | exact True.intro | exact Eq.refl _)
  · simp only [hH, stdH, TlS'] at h3
    obtain ⟨e, e1, e2, e3⟩ := okRr_y h3
    have hA := okRg_okA e1
    have hl := (okRg_in e1).1
    clear h3
    refine loop_a hB (draw_ok hB mixed) hX hX0 hH false (ι := { i : Nat // i ≤ f.length }) 300 (fun i => [.s (H ByteArray fun _ => (rrB r.gs f 13 i.1).1), .i (H Int fun _ => (rrB r.gs f 13 i.1).2), .i (H Int fun _ => (i.1 : Nat))]) (fun i => f.length - i.1) (⟨0, Nat.zero_le _⟩) ?_ ?_
    · (conv in matchSt _ _ _ _ => cbv); simp only [AllG, AllP, and_true, hH, stdH, zql, ncast, zqe, zqy]
      (repeat' (with_reducible refine And.intro ?_ ?_)) <;> (first | exact True.intro | exact Eq.refl _ | exact RowsEq.self okRW | exact RowsEq.self okS)
    · intro I hI i
      conv in Fin.chk _ _ => cbv
      try simp only [zqs, Plain_rowsC, Plain_rowsD, Plain_rowsW, zqx, AllP, zqw, upd, if_true]
      obtain ⟨i, hi⟩ := i
      simp only [TlW_H hH]
      refine ⟨fun k1 => ⟨?_, ⟨?_, ?_, ?_, ?_⟩, fun k2 => ?_, fun k2 => ?_⟩, fun k1 => ?_⟩
      · simp only [hH, stdH, zqz, ne_eq, zqy] at k1 ⊢
        omega
      · try simp only [hH, stdH, zqz, ne_eq, zqy]
        exact Shp_W _ _
      · try simp only [hH, stdH, zqz, ne_eq, zqy]
        omega
      · try simp only [hH, stdH, zqz, ne_eq, zqy]
        exact hA
      · try simp only [hH, stdH, zqz, ne_eq, zqy]
      · simp only [hH, stdH, zqz, ne_eq, zqy] at k1
        simp only [hH, stdH, Int.toNat_natCast, decide_eq_true_eq] at k2
        have k3 : cnF r.gs (f.getD i ByteArray.empty) < (rrB r.gs f 13 i).2 := k2
        have k4 : rrB r.gs f 13 (i + 1) = (f.getD i ByteArray.empty, cnF r.gs (f.getD i ByteArray.empty)) := if_pos k3
        refine ⟨⟨i + 1, by omega⟩, by simp only; omega, ?_⟩
        rw [hI]
        (conv in matchSt _ _ _ _ => cbv); simp only [AllG, AllP, and_true, hH, stdH, zql, ncast, zqe, zqy]
        simp only [Int.toNat_natCast]
        rw [w1 (by omega), k4]
        (repeat' (with_reducible refine And.intro ?_ ?_)) <;> (first | exact True.intro | exact Eq.refl _ | exact RowsEq.self okRW | exact RowsEq.self okS)
      · simp only [hH, stdH, zqz, ne_eq, zqy] at k1
        simp only [hH, stdH, Int.toNat_natCast, decide_eq_false_iff_not] at k2
        have k3 : ¬ cnF r.gs (f.getD i ByteArray.empty) < (rrB r.gs f 13 i).2 := k2
        have k4 : rrB r.gs f 13 (i + 1) = rrB r.gs f 13 i := if_neg k3
        refine ⟨⟨i + 1, by omega⟩, by simp only; omega, ?_⟩
        rw [hI]
        (conv in matchSt _ _ _ _ => cbv); simp only [AllG, AllP, and_true, hH, stdH, zql, ncast, zqe, zqy]
        rw [w1 (by omega), k4]
        (repeat' (with_reducible refine And.intro ?_ ?_)) <;> (first | exact True.intro | exact Eq.refl _ | exact RowsEq.self okRW | exact RowsEq.self okS)
      · simp only [hH, stdH, zqz, ne_eq, zqy] at k1
        obtain rfl : i = f.length := by omega
        simp only [hH, stdH, e, if_true]
        (repeat' (with_reducible refine And.intro ?_ ?_)) <;> (first | exact True.intro | exact Eq.refl _)
noncomputable def e_rarI : Entry := pureE 22 fun H a => match a with
  | [.agg [.vec 18 r0n r0f], .vec 1 fn ff] => some (.tup [.lit (.string (H ByteArray fun _ => if okRr (⟨(Tl rowW r0n r0f)⟩ : Rgr).gs (Tl rowS fn ff) then (rrB (⟨(Tl rowW r0n r0f)⟩ : Rgr).gs (Tl rowS fn ff) 13 (Tl rowS fn ff).length).1 else ByteArray.empty)), .lit (.int .i64 (H Int fun _ => if okRr (⟨(Tl rowW r0n r0f)⟩ : Rgr).gs (Tl rowS fn ff) then (rrB (⟨(Tl rowW r0n r0f)⟩ : Rgr).gs (Tl rowS fn ff) 13 (Tl rowS fn ff).length).2 else 0)), .lit (.bool (H Bool fun _ => okRr (⟨(Tl rowW r0n r0f)⟩ : Rgr).gs (Tl rowS fn ff)))], [H Prop fun _ => Shp rowW r0n r0f, H Prop fun _ => Shp rowS fn ff, H Prop fun _ => (⟨(Tl rowW r0n r0f)⟩ : Rgr).gs.length ≤ 2000000, H Prop fun _ => Nsz (⟨(Tl rowW r0n r0f)⟩ : Rgr).gs, H Prop fun _ => (Tl rowS fn ff).length ≤ 100000])
  | _ => none
theorem eok_rarI : EntryOk Tryz.prog e_rarI := pureM_ok (by unfold isBody; kernel_rfl) (by
  intro a r ob e hob
  split at e
  · rename_i r0n r0f fn ff
    simp only [zqt] at e
    obtain ⟨rfl, rfl⟩ := e
    exact ConN.args (.cons (.agg (.cons (.toT okRW rfl hob.1) .nil)) (.cons (.toT okS rfl hob.2.1) .nil)) (c_rarI (⟨(Tl rowW r0n r0f)⟩ : Rgr) (Tl rowS fn ff) hob.2.2.1 hob.2.2.2.1 hob.2.2.2.2.1)
  · simp at e)
theorem c_rarS (r : Rgr) (f : List ByteArray) (h0 : r.gs.length ≤ 8000) (h1 : Nsz r.gs) (h2 : f.length ≤ 100000) (h3 : Sz 2000000 f) : ConN Tryz.prog 23 [aT rowJ stdH fun _ => r, .vec 1 (stdH Nat fun _ => (f).length) (rowsS stdH fun _ => f)] [] 0 (.tup [.lit (.string (stdH ByteArray fun _ => if okRr r.gs f then (rrB r.gs f ((r.gs.length : Nat) + 1) f.length).1 else ByteArray.empty)), .lit (.int .i64 (stdH Int fun _ => if okRr r.gs f then (rrB r.gs f ((r.gs.length : Nat) + 1) f.length).2 else 0)), .lit (.bool (stdH Bool fun _ => okRr r.gs f))]) [] [] := by
  have hB : Base Tryz.prog (tabΓ [e_l16Good, e_l17List, e_l17Count]) tab := base_of tabOk (ents_cons eok_l16Good <| ents_cons eok_l17List <| ents_cons eok_l17Count <| ents_nil)
  refine con_m (N := 66) hB (draw_ok hB mixed) Tryz.func23 rfl rfl (fun H => [aT rowJ H fun _ => r, .vec 1 (H Nat fun _ => (f).length) (rowsS H fun _ => f)]) (fun _ => []) 0 (fun H => .tup [.lit (.string (H ByteArray fun _ => if okRr r.gs f then (rrB r.gs f ((r.gs.length : Nat) + 1) f.length).1 else ByteArray.empty)), .lit (.int .i64 (H Int fun _ => if okRr r.gs f then (rrB r.gs f ((r.gs.length : Nat) + 1) f.length).2 else 0)), .lit (.bool (H Bool fun _ => okRr r.gs f))]) (fun H => []) (fun _ => []) 300 (by simp) (fun x hx => ?_) (by simp [lk]) (by omega) (by simp) ?_
  · simp only [zqu] at hx
    rcases hx with rfl | rfl
    · exact aT_bl okRJ _ _
    · exact vl_bl okS f _
  intro X hX hX0 H hH
  conv in Fin.chk _ _ => cbv
  try simp only [zqs, Plain_rowsC, Plain_rowsD, Plain_rowsW, zqx, AllP, zqw, upd, if_true]
  simp only [TlW_H hH]
  refine ⟨?_, ⟨?_, ?_, ?_⟩, fun h4 => ?_, fun h4 => ?_⟩
  · try simp only [hH, stdH, zqz, ne_eq, zqy]
    exact ⟨Shp_W _ _, by omega, h1⟩
  · try simp only [hH, stdH, zqz, ne_eq, zqy]
    exact fun _ => Shp_rowsT okS _ (fun _ => _)
  · simp only [hH, stdH, TlS']
    exact fun _ => h2
  · simp only [hH, stdH, TlS']
    exact fun _ => h3
  · simp only [hH, stdH, TlS'] at h4
    have e := okRr_n h4
    simp only [hH, stdH, e, Bool.false_eq_true, if_false]
    (repeat' (with_reducible refine And.intro ?_ ?_)) <;> (first | exact True.intro | exact Eq.refl _)
  · simp only [hH, stdH, TlS'] at h4
    obtain ⟨e, e1, e2, e3⟩ := okRr_y h4
    have hA := okRg_okA e1
    have hl := (okRg_in e1).1
    clear h4
    refine loop_a hB (draw_ok hB mixed) hX hX0 hH false (ι := { i : Nat // i ≤ f.length }) 300 (fun i => [.s (H ByteArray fun _ => (rrB r.gs f ((r.gs.length : Nat) + 1) i.1).1), .i (H Int fun _ => (rrB r.gs f ((r.gs.length : Nat) + 1) i.1).2), .i (H Int fun _ => (i.1 : Nat))]) (fun i => f.length - i.1) (⟨0, Nat.zero_le _⟩) ?_ ?_
    · (conv in matchSt _ _ _ _ => cbv); simp only [AllG, AllP, and_true, hH, stdH, zql, ncast, zqe, zqy]
      rw [wi (by omega) (by omega)]
      (repeat' (with_reducible refine And.intro ?_ ?_)) <;> (first | exact True.intro | exact Eq.refl _ | exact RowsEq.self okRW | exact RowsEq.self okS)
    · intro I hI i
      conv in Fin.chk _ _ => cbv
      try simp only [zqs, Plain_rowsC, Plain_rowsD, Plain_rowsW, zqx, AllP, zqw, upd, if_true]
      obtain ⟨i, hi⟩ := i
      have hb := rrB_bd r.gs f (m := (r.gs.length : Nat) + 1) (by omega) i
      refine ⟨fun k1 => ?_, fun k1 => ?_⟩
      · simp only [hH, stdH, zqz, ne_eq, zqy] at k1
        have hi' : i < f.length := by omega
        refine loop_a hB (draw_ok hB mixed) hX hX0 hH true (ι := { j : Nat // j ≤ r.gs.length }) 300 (fun j => [.i (H Int fun _ => ((nmb (biE (f.getD i ByteArray.empty)) r.gs j.1).length : Nat)), .i (H Int fun _ => (j.1 : Nat))]) (fun j => r.gs.length - j.1) (⟨0, Nat.zero_le _⟩) ?_ ?_
        · (conv in matchSt _ _ _ _ => cbv); simp only [AllG, AllP, and_true, hH, stdH, zql, ncast, zqe, zqy]
          (repeat' (with_reducible refine And.intro ?_ ?_)) <;> (first | exact True.intro | exact Eq.refl _ | exact RowsEq.self okRW | exact RowsEq.self okS | (rw [nmb_0]; rfl))
        · intro J hJ j
          conv in Fin.chk _ _ => cbv
          try simp only [zqs, Plain_rowsC, Plain_rowsD, Plain_rowsW, zqx, AllP, zqw, upd, if_true]
          obtain ⟨j, hj⟩ := j
          have hn := nmb_le (biE (f.getD i ByteArray.empty)) r.gs j
          have wi1 : IntKind.i64.wrap ((i : Int) + 1) = ((i + 1 : Nat) : Int) := w1 (by omega)
          have ih : hiOf f.length (some ((i + 1 : Nat) : Int)) - i = 1 := by show (((i + 1 : Nat) : Int).toNat) - i = 1; omega
          have il : loOf (some (i : Int)) = i := Int.toNat_natCast i
          have t1 : Tl rowS 1 (fun j => rowsS stdH (fun _ => f) (i + j)) = [f.getD i ByteArray.empty] := by
            rw [Tl_offS (by omega), List.drop_eq_getElem_cons hi', getE hi']
            rfl
          simp only [hetaA hH]
          refine ⟨fun k2 => ?_, fun k2 => ⟨fun k3 => ⟨?_, ?_⟩, fun k3 => ?_⟩⟩
          · simp only [hH, stdH, zqz, ne_eq, zqy] at k2
            have hj' : j < r.gs.length := by omega
            (repeat' (with_reducible refine And.intro ?_ ?_))
            all_goals first
              | (refine ⟨⟨j + 1, by omega⟩, by simp only; omega, ?_⟩
                 rw [hJ]
                 (conv in matchSt _ _ _ _ => cbv); simp only [AllG, AllP, and_true, hH, stdH, zql, ncast, zqe, zqy]
                 simp only [Int.toNat_natCast, wi1, il, ih, t1]
                 rw [w1 (by omega), nmb_s hj', cnt_step hn (by omega)]
                 (repeat' (with_reducible refine And.intro ?_ ?_)) <;> (first | exact True.intro | exact Eq.refl _ | exact RowsEq.self okRW | exact RowsEq.self okS))
              | (simp only [hH, stdH, Int.toNat_natCast, wi1, il, ih, t1]; done)
              | (simp only [hH, stdH, Int.toNat_natCast, wi1, il, ih, t1]
                 first | exact Shp_offS f i 1 | exact okA_at hA hj' | exact ⟨by omega, by omega⟩ | omega | exact ⟨by show (0 : Int) ≤ (i : Nat); omega, by show (0 : Int) ≤ ((i + 1 : Nat) : Int); omega, by show (i : Int).toNat ≤ ((i + 1 : Nat) : Int).toNat; omega, by show ((i + 1 : Nat) : Int).toNat ≤ f.length; omega⟩ | (simp only [List.length_cons, List.length_nil]; omega))
          · try simp only [hH, stdH, zqz, ne_eq, zqy]
            omega
          · simp only [hH, stdH, zqz, ne_eq, zqy] at k2
            obtain rfl : j = r.gs.length := by omega
            simp only [hH, stdH, Int.toNat_natCast, decide_eq_true_eq] at k3
            have k4 : cnF r.gs (f.getD i ByteArray.empty) < (rrB r.gs f ((r.gs.length : Nat) + 1) i).2 := k3
            have k5 : rrB r.gs f ((r.gs.length : Nat) + 1) (i + 1) = (f.getD i ByteArray.empty, cnF r.gs (f.getD i ByteArray.empty)) := if_pos k4
            rw [if_neg (by decide)]
            refine ⟨⟨i + 1, by omega⟩, by simp only; omega, ?_⟩
            rw [hI]
            (conv in matchSt _ _ _ _ => cbv); simp only [AllG, AllP, and_true, hH, stdH, zql, ncast, zqe, zqy]
            simp only [Int.toNat_natCast]
            rw [w1 (by omega), k5]
            (repeat' (with_reducible refine And.intro ?_ ?_)) <;> (first | exact True.intro | exact Eq.refl _ | exact RowsEq.self okRW | exact RowsEq.self okS)
          · simp only [hH, stdH, zqz, ne_eq, zqy] at k2
            obtain rfl : j = r.gs.length := by omega
            simp only [hH, stdH, Int.toNat_natCast, decide_eq_false_iff_not] at k3
            have k4 : ¬ cnF r.gs (f.getD i ByteArray.empty) < (rrB r.gs f ((r.gs.length : Nat) + 1) i).2 := k3
            have k5 : rrB r.gs f ((r.gs.length : Nat) + 1) (i + 1) = rrB r.gs f ((r.gs.length : Nat) + 1) i := if_neg k4
            rw [if_neg (by decide)]
            refine ⟨⟨i + 1, by omega⟩, by simp only; omega, ?_⟩
            rw [hI]
            (conv in matchSt _ _ _ _ => cbv); simp only [AllG, AllP, and_true, hH, stdH, zql, ncast, zqe, zqy]
            rw [w1 (by omega), k5]
            (repeat' (with_reducible refine And.intro ?_ ?_)) <;> (first | exact True.intro | exact Eq.refl _ | exact RowsEq.self okRW | exact RowsEq.self okS)
      · simp only [hH, stdH, zqz, ne_eq, zqy] at k1
        obtain rfl : i = f.length := by omega
        simp only [hH, stdH, e, if_true]
        (repeat' (with_reducible refine And.intro ?_ ?_)) <;> (first | exact True.intro | exact Eq.refl _)
noncomputable def e_rarS : Entry := pureE 23 fun H a => match a with
  | [.agg [.vec 18 r0n r0f], .vec 1 fn ff] => some (.tup [.lit (.string (H ByteArray fun _ => if okRr (⟨(Tl rowW r0n r0f)⟩ : Rgr).gs (Tl rowS fn ff) then (rrB (⟨(Tl rowW r0n r0f)⟩ : Rgr).gs (Tl rowS fn ff) (((⟨(Tl rowW r0n r0f)⟩ : Rgr).gs.length : Nat) + 1) (Tl rowS fn ff).length).1 else ByteArray.empty)), .lit (.int .i64 (H Int fun _ => if okRr (⟨(Tl rowW r0n r0f)⟩ : Rgr).gs (Tl rowS fn ff) then (rrB (⟨(Tl rowW r0n r0f)⟩ : Rgr).gs (Tl rowS fn ff) (((⟨(Tl rowW r0n r0f)⟩ : Rgr).gs.length : Nat) + 1) (Tl rowS fn ff).length).2 else 0)), .lit (.bool (H Bool fun _ => okRr (⟨(Tl rowW r0n r0f)⟩ : Rgr).gs (Tl rowS fn ff)))], [H Prop fun _ => Shp rowW r0n r0f, H Prop fun _ => Shp rowS fn ff, H Prop fun _ => (⟨(Tl rowW r0n r0f)⟩ : Rgr).gs.length ≤ 8000, H Prop fun _ => Nsz (⟨(Tl rowW r0n r0f)⟩ : Rgr).gs, H Prop fun _ => (Tl rowS fn ff).length ≤ 100000, H Prop fun _ => Sz 2000000 (Tl rowS fn ff)])
  | _ => none
theorem eok_rarS : EntryOk Tryz.prog e_rarS := pureM_ok (by unfold isBody; kernel_rfl) (by
  intro a r ob e hob
  split at e
  · rename_i r0n r0f fn ff
    simp only [zqt] at e
    obtain ⟨rfl, rfl⟩ := e
    exact ConN.args (.cons (.agg (.cons (.toT okRW rfl hob.1) .nil)) (.cons (.toT okS rfl hob.2.1) .nil)) (c_rarS (⟨(Tl rowW r0n r0f)⟩ : Rgr) (Tl rowS fn ff) hob.2.2.1 hob.2.2.2.1 hob.2.2.2.2.1 hob.2.2.2.2.2.1)
  · simp at e)

end Go.Proofs.YtcjjffmbhionmaaGreatDoor.AM

