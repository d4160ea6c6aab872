import Derived.Test.YtoommgpcmgnpaaaAmT
import Derived.Test.YtoommgpcmgnpaaaRgl
set_option linter.unusedVariables false
set_option linter.unusedSimpArgs false
set_option maxRecDepth 100000
set_option maxHeartbeats 4000000
set_option cbv.maxSteps 3000000
namespace Go.Proofs.Ytoommgpcmgnpaaa.AM
/- Grants of arms: granted; conditions: none. -/
theorem rvO_n {l : List Grt} {x : Int} (h : (bif !okRg l then true else decide (idxF (nuE x) l < 0)) = true) : rvO l x = false := by
  unfold rvO rvI
  cases e : okRg l with
  | false => rfl
  | true =>
    rw [e] at h
    simp only [Bool.not_true, cond_false, decide_eq_true_eq] at h
    rw [decide_eq_false (by omega)]; rfl
theorem rvO_y {l : List Grt} {x : Int} (h : (bif !okRg l then true else decide (idxF (nuE x) l < 0)) = false) : rvO l x = true ∧ 0 ≤ idxF (nuE x) l ∧ idxF (nuE x) l < (l.length : Nat) := by
  unfold rvO rvI
  cases e : okRg l with
  | false => rw [e] at h; cases h
  | true =>
    rw [e] at h
    simp only [Bool.not_true, cond_false, decide_eq_false_iff_not] at h
    have h0 : 0 ≤ idxF (nuE x) l := by omega
    exact ⟨by rw [decide_eq_true h0]; rfl, h0, idxF_up _ _ h0⟩
theorem c_cloneR (r : Rgr) (h0 : r.gs.length ≤ 1000000) : ConN Try.prog 52 [aT rowJ stdH fun _ => r] [] 0 (.agg [.slc 0 0 18 (stdH Nat fun _ => (r.gs).length)]) [.rows 18 (stdH Nat fun _ => (r.gs).length) (rowsW stdH fun _ => r.gs) 88] [] := by
  have hB : Base Try.prog (tabΓ []) tabA := base_of tabOkA (ents_nil)
  refine con_m (N := 8) hB (draw_ok hB mixed) Try.func52 rfl rfl (fun H => [aT rowJ H fun _ => r]) (fun _ => []) 0 (fun H => .agg [.slc 0 0 18 (H Nat fun _ => (r.gs).length)]) (fun H => [.rows 18 (H Nat fun _ => (r.gs).length) (rowsW H fun _ => r.gs) 88]) (fun _ => []) 100 (by simp) (fun x hx => ?_) (by simp [lk]) (by omega) (by simp) ?_
  · simp only [List.mem_cons, List.not_mem_nil, or_false] at hx
    rcases hx with rfl
    · exact aT_bl okRJ _ _
  intro X hX hX0 H hH
  conv in Fin.chk _ _ => cbv
  try simp only [Plain_rowsA, Plain_rowsB, Plain_rowsF, Plain_rowsG, Plain_rowsI, Plain_rowsS, Plain_rowsU, Fin.satC_ret, Fin.satC_br, Fin.satC_need, Fin.satC_again, AllP, and_true, true_and, upd, List.length_nil, List.length_cons, Nat.zero_add, if_true, ncast, Int.ofNat_eq_natCast]
  try simp only [TlW_H hH, hetaA hH]
  refine ⟨⟨?_, ?_⟩, ?_, ?_⟩
  · try simp only [hH, stdH, decide_eq_true_eq, decide_eq_false_iff_not, Bool.not_eq_true', Bool.not_eq_false', peta, ncast, Int.ofNat_eq_natCast, beq_iff_eq, bne_iff_ne, beq_eq_false_iff_ne, bne_eq_false_iff_eq, ne_eq, Classical.not_not, Int.toNat_natCast, vrow_I, Arm.eta2, Fld.eta, Grp.eta]
  · try simp only [hH, stdH, decide_eq_true_eq, decide_eq_false_iff_not, Bool.not_eq_true', Bool.not_eq_false', peta, ncast, Int.ofNat_eq_natCast, beq_iff_eq, bne_iff_ne, beq_eq_false_iff_ne, bne_eq_false_iff_eq, ne_eq, Classical.not_not, Int.toNat_natCast, vrow_I, Arm.eta2, Fld.eta, Grp.eta]
    ((repeat' (with_reducible refine And.intro ?_ ?_)) <;> (first | exact True.intro | omega | exact Eq.refl _))
  · try simp only [hH, stdH, decide_eq_true_eq, decide_eq_false_iff_not, Bool.not_eq_true', Bool.not_eq_false', peta, ncast, Int.ofNat_eq_natCast, beq_iff_eq, bne_iff_ne, beq_eq_false_iff_ne, bne_eq_false_iff_eq, ne_eq, Classical.not_not, Int.toNat_natCast, vrow_I, Arm.eta2, Fld.eta, Grp.eta]
    rw [appN0]; exact RowsEq.self okRW
  · try simp only [hH, stdH, decide_eq_true_eq, decide_eq_false_iff_not, Bool.not_eq_true', Bool.not_eq_false', peta, ncast, Int.ofNat_eq_natCast, beq_iff_eq, bne_iff_ne, beq_eq_false_iff_ne, bne_eq_false_iff_eq, ne_eq, Classical.not_not, Int.toNat_natCast, vrow_I, Arm.eta2, Fld.eta, Grp.eta]
noncomputable def e_cloneR : Entry := pureN 52 fun H a => match a with
  | [.agg [.vec 18 r0n r0f]] => some (fun nx => .agg [.slc nx 0 18 (H Nat fun _ => ((⟨(Tl rowW r0n r0f)⟩ : Rgr).gs).length)], [.rows 18 (H Nat fun _ => ((⟨(Tl rowW r0n r0f)⟩ : Rgr).gs).length) (rowsW H fun _ => (⟨(Tl rowW r0n r0f)⟩ : Rgr).gs) 88], [H Prop fun _ => Shp rowW r0n r0f, H Prop fun _ => (⟨(Tl rowW r0n r0f)⟩ : Rgr).gs.length ≤ 1000000])
  | _ => none
theorem eok_cloneR : EntryOk Try.prog e_cloneR := pureN_ok (by unfold isBody; kernel_rfl) (by
  intro a r nb ob e hob
  split at e
  · rename_i r0n r0f
    simp only [Option.some.injEq, Prod.mk.injEq] at e
    obtain ⟨rfl, rfl, rfl⟩ := e
    refine ⟨ConN.args (.cons (.agg (.cons (.toT okRW rfl hob.1) .nil)) .nil) (c_cloneR (⟨(Tl rowW r0n r0f)⟩ : Rgr) hob.2.1), fun x hx => ?_, fun nx => ?_, fun b hb => ?_⟩
    · simp only [List.mem_cons, List.not_mem_nil, or_false] at hx
      rcases hx with rfl
      · exact (.agg fun c hc => (by
        simp only [List.mem_cons, List.not_mem_nil, or_false] at hc
        rcases hc with rfl
        · exact (hob.1).bl okRW _))
    · (first | exact .slc ⟨by omega, by simp⟩ (by omega) | (refine .tup rfl (fun c x y hx hy => ?_); rcases c with _ | _ | _ | c <;> simp at hx hy <;> (subst hx; subst hy; first | exact .slc ⟨by omega, by simp⟩ (by omega) | exact .pl .lit | exact .pl (blq_ok 4 rfl))) | (refine .agg rfl (fun c x y hx hy => ?_); rcases c with _ | _ | _ | c <;> simp at hx hy <;> (subst hx; subst hy; first | exact .slc ⟨by omega, by simp⟩ (by omega) | exact .pl .lit | exact .pl (blq_ok 4 rfl))))
    · simp only [List.mem_cons, List.not_mem_nil, or_false] at hb; subst hb; exact bT_bl okRW _ (fun _ => (⟨(Tl rowW r0n r0f)⟩ : Rgr).gs) _
  · simp at e)
theorem c_grantH (r : Rgr) (s : ByteArray) (y : Int) (a : Arm) (h0 : r.gs.length ≤ 100000) (h1 : Nsz r.gs) (h2 : s.size ≤ 1000000) : ConN Try.prog 21 [aT rowJ stdH fun _ => r, .lit (.string s), .lit (.int .i64 y), aT rowA stdH fun _ => a] [] 0 (.tup [aT rowJ stdH fun _ => ⟨if grO r.gs s y a then r.gs ++ [grG r.gs s y a] else []⟩, .lit (.int .i64 (stdH Int fun _ => if grO r.gs s y a then grN r.gs else 0)), .lit (.bool (stdH Bool fun _ => grO r.gs s y a))]) [] [] := by
  have hB : Base Try.prog (tabΓ [e_validR, e_cloneR]) tabA := base_of tabOkA (ents_cons eok_validR <| ents_cons eok_cloneR <| ents_nil)
  refine con_m (N := 49) hB (draw_ok hB mixed) Try.func21 rfl rfl (fun H => [aT rowJ H fun _ => r, .lit (.string s), .lit (.int .i64 y), aT rowA H fun _ => a]) (fun _ => []) 0 (fun H => .tup [aT rowJ H fun _ => ⟨if grO r.gs s y a then r.gs ++ [grG r.gs s y a] else []⟩, .lit (.int .i64 (H Int fun _ => if grO r.gs s y a then grN r.gs else 0)), .lit (.bool (H Bool fun _ => grO r.gs s y a))]) (fun H => []) (fun _ => []) 300 (by simp) (fun x hx => ?_) (by simp [lk]) (by omega) (by simp) ?_
  · simp only [List.mem_cons, List.not_mem_nil, or_false] at hx
    rcases hx with rfl | rfl | rfl | rfl
    · exact aT_bl okRJ _ _
    · exact .lit
    · exact .lit
    · exact aT_bl okRA _ _
  intro X hX hX0 H hH
  conv in Fin.chk _ _ => cbv
  try simp only [Plain_rowsA, Plain_rowsB, Plain_rowsF, Plain_rowsG, Plain_rowsI, Plain_rowsS, Plain_rowsU, Fin.satC_ret, Fin.satC_br, Fin.satC_need, Fin.satC_again, AllP, and_true, true_and, upd, List.length_nil, List.length_cons, Nat.zero_add, if_true, ncast, Int.ofNat_eq_natCast]
  try simp only [TlW_H hH, hetaA hH]
  refine ⟨⟨?_, ?_, ?_⟩, fun h3 => ⟨?_, ?_, ?_⟩, fun h3 => ⟨fun h4 => ⟨?_, ?_⟩, fun h4 => ?_⟩⟩
  · try simp only [hH, stdH, decide_eq_true_eq, decide_eq_false_iff_not, Bool.not_eq_true', Bool.not_eq_false', peta, ncast, Int.ofNat_eq_natCast, beq_iff_eq, bne_iff_ne, beq_eq_false_iff_ne, bne_eq_false_iff_eq, ne_eq, Classical.not_not, Int.toNat_natCast, vrow_I, Arm.eta2, Fld.eta, Grp.eta]
    exact Shp_W _ _
  · try simp only [hH, stdH, decide_eq_true_eq, decide_eq_false_iff_not, Bool.not_eq_true', Bool.not_eq_false', peta, ncast, Int.ofNat_eq_natCast, beq_iff_eq, bne_iff_ne, beq_eq_false_iff_ne, bne_eq_false_iff_eq, ne_eq, Classical.not_not, Int.toNat_natCast, vrow_I, Arm.eta2, Fld.eta, Grp.eta]
    omega
  · try simp only [hH, stdH, decide_eq_true_eq, decide_eq_false_iff_not, Bool.not_eq_true', Bool.not_eq_false', peta, ncast, Int.ofNat_eq_natCast, beq_iff_eq, bne_iff_ne, beq_eq_false_iff_ne, bne_eq_false_iff_eq, ne_eq, Classical.not_not, Int.toNat_natCast, vrow_I, Arm.eta2, Fld.eta, Grp.eta]
    exact h1
  · simp only [hH, stdH, Int.toNat_natCast] at h3
    have e : grO r.gs s y a = false := by unfold grO; rw [Bool.not_eq_true'] at h3; rw [h3]; rfl
    try simp only [hH, stdH, decide_eq_true_eq, decide_eq_false_iff_not, Bool.not_eq_true', Bool.not_eq_false', peta, ncast, Int.ofNat_eq_natCast, beq_iff_eq, bne_iff_ne, beq_eq_false_iff_ne, bne_eq_false_iff_eq, ne_eq, Classical.not_not, Int.toNat_natCast, vrow_I, Arm.eta2, Fld.eta, Grp.eta]
    exact e
  · simp only [hH, stdH, Int.toNat_natCast] at h3
    have e : grO r.gs s y a = false := by unfold grO; rw [Bool.not_eq_true'] at h3; rw [h3]; rfl
    try simp only [hH, stdH, decide_eq_true_eq, decide_eq_false_iff_not, Bool.not_eq_true', Bool.not_eq_false', peta, ncast, Int.ofNat_eq_natCast, beq_iff_eq, bne_iff_ne, beq_eq_false_iff_ne, bne_eq_false_iff_eq, ne_eq, Classical.not_not, Int.toNat_natCast, vrow_I, Arm.eta2, Fld.eta, Grp.eta]
    rw [e]; rfl
  · simp only [hH, stdH, Int.toNat_natCast] at h3
    have e : grO r.gs s y a = false := by unfold grO; rw [Bool.not_eq_true'] at h3; rw [h3]; rfl
    try simp only [hH, stdH, decide_eq_true_eq, decide_eq_false_iff_not, Bool.not_eq_true', Bool.not_eq_false', peta, ncast, Int.ofNat_eq_natCast, beq_iff_eq, bne_iff_ne, beq_eq_false_iff_ne, bne_eq_false_iff_eq, ne_eq, Classical.not_not, Int.toNat_natCast, vrow_I, Arm.eta2, Fld.eta, Grp.eta]
    rw [e]; rfl
  · simp only [hH, stdH, decide_eq_true_eq, decide_eq_false_iff_not, Bool.not_eq_true', Bool.not_eq_false', peta, ncast, Int.ofNat_eq_natCast, beq_iff_eq, bne_iff_ne, beq_eq_false_iff_ne, bne_eq_false_iff_eq, ne_eq, Classical.not_not, Int.toNat_natCast, vrow_I, Arm.eta2, Fld.eta, Grp.eta] at h4 ⊢
    rw [wi (by omega) (by omega)]
    omega
  · simp only [hH, stdH, Int.toNat_natCast] at h3
    rw [Bool.not_eq_false'] at h3
    simp only [hH, stdH, decide_eq_true_eq, decide_eq_false_iff_not, Bool.not_eq_true', Bool.not_eq_false', peta, ncast, Int.ofNat_eq_natCast, beq_iff_eq, bne_iff_ne, beq_eq_false_iff_ne, bne_eq_false_iff_eq, ne_eq, Classical.not_not, Int.toNat_natCast, vrow_I, Arm.eta2, Fld.eta, Grp.eta] at h4
    have hn := grN_w h3 (by omega)
    have eO : grO r.gs s y a = okRg (r.gs ++ [⟨IntKind.i64.wrap ((r.gs.getD (IntKind.i64.wrap (((r.gs.length : Nat) : Int) - 1)).toNat default).num + 1), s, y, a⟩]) := by unfold grO grG; rw [h3, ← hn]; rfl
    have hz : Nsz (r.gs ++ [⟨IntKind.i64.wrap ((r.gs.getD (IntKind.i64.wrap (((r.gs.length : Nat) : Int) - 1)).toNat default).num + 1), s, y, a⟩]) := ⟨fun x hx => by
      rcases List.mem_append.1 hx with hx | hx
      · exact h1.le x hx
      · rw [List.mem_singleton] at hx; subst hx; exact h2⟩
    refine ⟨⟨?_, ?_⟩, ⟨?_, ?_, ?_, ?_⟩, ⟨?_, ?_, ?_, ?_⟩, fun h5 => ⟨?_, ?_, ?_⟩, fun h5 => ⟨?_, ?_, ?_⟩⟩
    · try simp only [hH, stdH, decide_eq_true_eq, decide_eq_false_iff_not, Bool.not_eq_true', Bool.not_eq_false', peta, ncast, Int.ofNat_eq_natCast, beq_iff_eq, bne_iff_ne, beq_eq_false_iff_ne, bne_eq_false_iff_eq, ne_eq, Classical.not_not, Int.toNat_natCast, vrow_I, Arm.eta2, Fld.eta, Grp.eta]
      exact Shp_W _ _
    · try simp only [hH, stdH, decide_eq_true_eq, decide_eq_false_iff_not, Bool.not_eq_true', Bool.not_eq_false', peta, ncast, Int.ofNat_eq_natCast, beq_iff_eq, bne_iff_ne, beq_eq_false_iff_ne, bne_eq_false_iff_eq, ne_eq, Classical.not_not, Int.toNat_natCast, vrow_I, Arm.eta2, Fld.eta, Grp.eta]
      omega
    · try simp only [hH, stdH, decide_eq_true_eq, decide_eq_false_iff_not, Bool.not_eq_true', Bool.not_eq_false', peta, ncast, Int.ofNat_eq_natCast, beq_iff_eq, bne_iff_ne, beq_eq_false_iff_ne, bne_eq_false_iff_eq, ne_eq, Classical.not_not, Int.toNat_natCast, vrow_I, Arm.eta2, Fld.eta, Grp.eta]
      exact ⟨by omega, fun j hj => (by obtain rfl : j = 0 := by omega
                                       rfl)⟩
    · try simp only [hH, stdH, decide_eq_true_eq, decide_eq_false_iff_not, Bool.not_eq_true', Bool.not_eq_false', peta, ncast, Int.ofNat_eq_natCast, beq_iff_eq, bne_iff_ne, beq_eq_false_iff_ne, bne_eq_false_iff_eq, ne_eq, Classical.not_not, Int.toNat_natCast, vrow_I, Arm.eta2, Fld.eta, Grp.eta]
    · try simp only [hH, stdH, decide_eq_true_eq, decide_eq_false_iff_not, Bool.not_eq_true', Bool.not_eq_false', peta, ncast, Int.ofNat_eq_natCast, beq_iff_eq, bne_iff_ne, beq_eq_false_iff_ne, bne_eq_false_iff_eq, ne_eq, Classical.not_not, Int.toNat_natCast, vrow_I, Arm.eta2, Fld.eta, Grp.eta]
      ((repeat' (with_reducible refine And.intro ?_ ?_)) <;> (first | exact True.intro | omega | exact Eq.refl _))
    · try simp only [hH, stdH, decide_eq_true_eq, decide_eq_false_iff_not, Bool.not_eq_true', Bool.not_eq_false', peta, ncast, Int.ofNat_eq_natCast, beq_iff_eq, bne_iff_ne, beq_eq_false_iff_ne, bne_eq_false_iff_eq, ne_eq, Classical.not_not, Int.toNat_natCast, vrow_I, Arm.eta2, Fld.eta, Grp.eta]
      exact GW_pl (l := r.gs) (g := ⟨IntKind.i64.wrap ((r.gs.getD (IntKind.i64.wrap (((r.gs.length : Nat) : Int) - 1)).toNat default).num + 1), s, y, a⟩)
    · try simp only [hH, stdH, decide_eq_true_eq, decide_eq_false_iff_not, Bool.not_eq_true', Bool.not_eq_false', peta, ncast, Int.ofNat_eq_natCast, beq_iff_eq, bne_iff_ne, beq_eq_false_iff_ne, bne_eq_false_iff_eq, ne_eq, Classical.not_not, Int.toNat_natCast, vrow_I, Arm.eta2, Fld.eta, Grp.eta]
      exact GW_len (l := r.gs) (g := ⟨IntKind.i64.wrap ((r.gs.getD (IntKind.i64.wrap (((r.gs.length : Nat) : Int) - 1)).toNat default).num + 1), s, y, a⟩)
    · try simp only [hH, stdH, decide_eq_true_eq, decide_eq_false_iff_not, Bool.not_eq_true', Bool.not_eq_false', peta, ncast, Int.ofNat_eq_natCast, beq_iff_eq, bne_iff_ne, beq_eq_false_iff_ne, bne_eq_false_iff_eq, ne_eq, Classical.not_not, Int.toNat_natCast, vrow_I, Arm.eta2, Fld.eta, Grp.eta]
      exact GW_shp (l := r.gs) (g := ⟨IntKind.i64.wrap ((r.gs.getD (IntKind.i64.wrap (((r.gs.length : Nat) : Int) - 1)).toNat default).num + 1), s, y, a⟩)
    · try simp only [hH, stdH, decide_eq_true_eq, decide_eq_false_iff_not, Bool.not_eq_true', Bool.not_eq_false', peta, ncast, Int.ofNat_eq_natCast, beq_iff_eq, bne_iff_ne, beq_eq_false_iff_ne, bne_eq_false_iff_eq, ne_eq, Classical.not_not, Int.toNat_natCast, vrow_I, Arm.eta2, Fld.eta, Grp.eta]
      rw [Tl_len]; omega
    · try simp only [hH, stdH, decide_eq_true_eq, decide_eq_false_iff_not, Bool.not_eq_true', Bool.not_eq_false', peta, ncast, Int.ofNat_eq_natCast, beq_iff_eq, bne_iff_ne, beq_eq_false_iff_ne, bne_eq_false_iff_eq, ne_eq, Classical.not_not, Int.toNat_natCast, vrow_I, Arm.eta2, Fld.eta, Grp.eta]
      exact (GW_tl (l := r.gs) (g := ⟨IntKind.i64.wrap ((r.gs.getD (IntKind.i64.wrap (((r.gs.length : Nat) : Int) - 1)).toNat default).num + 1), s, y, a⟩)).symm ▸ hz
    · simp only [hH, stdH, Int.toNat_natCast] at h5
      change (!okRg (Tl rowW (r.gs.length + 1) (GW r.gs ⟨IntKind.i64.wrap ((r.gs.getD (IntKind.i64.wrap (((r.gs.length : Nat) : Int) - 1)).toNat default).num + 1), s, y, a⟩))) = true at h5
      rw [GW_tl, ← eO, Bool.not_eq_true'] at h5
      try simp only [hH, stdH, decide_eq_true_eq, decide_eq_false_iff_not, Bool.not_eq_true', Bool.not_eq_false', peta, ncast, Int.ofNat_eq_natCast, beq_iff_eq, bne_iff_ne, beq_eq_false_iff_ne, bne_eq_false_iff_eq, ne_eq, Classical.not_not, Int.toNat_natCast, vrow_I, Arm.eta2, Fld.eta, Grp.eta]
      exact h5
    · simp only [hH, stdH, Int.toNat_natCast] at h5
      change (!okRg (Tl rowW (r.gs.length + 1) (GW r.gs ⟨IntKind.i64.wrap ((r.gs.getD (IntKind.i64.wrap (((r.gs.length : Nat) : Int) - 1)).toNat default).num + 1), s, y, a⟩))) = true at h5
      rw [GW_tl, ← eO, Bool.not_eq_true'] at h5
      try simp only [hH, stdH, decide_eq_true_eq, decide_eq_false_iff_not, Bool.not_eq_true', Bool.not_eq_false', peta, ncast, Int.ofNat_eq_natCast, beq_iff_eq, bne_iff_ne, beq_eq_false_iff_ne, bne_eq_false_iff_eq, ne_eq, Classical.not_not, Int.toNat_natCast, vrow_I, Arm.eta2, Fld.eta, Grp.eta]
      rw [h5]; rfl
    · simp only [hH, stdH, Int.toNat_natCast] at h5
      change (!okRg (Tl rowW (r.gs.length + 1) (GW r.gs ⟨IntKind.i64.wrap ((r.gs.getD (IntKind.i64.wrap (((r.gs.length : Nat) : Int) - 1)).toNat default).num + 1), s, y, a⟩))) = true at h5
      rw [GW_tl, ← eO, Bool.not_eq_true'] at h5
      try simp only [hH, stdH, decide_eq_true_eq, decide_eq_false_iff_not, Bool.not_eq_true', Bool.not_eq_false', peta, ncast, Int.ofNat_eq_natCast, beq_iff_eq, bne_iff_ne, beq_eq_false_iff_ne, bne_eq_false_iff_eq, ne_eq, Classical.not_not, Int.toNat_natCast, vrow_I, Arm.eta2, Fld.eta, Grp.eta]
      rw [h5]; rfl
    · simp only [hH, stdH, Int.toNat_natCast] at h5
      change (!okRg (Tl rowW (r.gs.length + 1) (GW r.gs ⟨IntKind.i64.wrap ((r.gs.getD (IntKind.i64.wrap (((r.gs.length : Nat) : Int) - 1)).toNat default).num + 1), s, y, a⟩))) = false at h5
      rw [GW_tl, ← eO, Bool.not_eq_false'] at h5
      try simp only [hH, stdH, decide_eq_true_eq, decide_eq_false_iff_not, Bool.not_eq_true', Bool.not_eq_false', peta, ncast, Int.ofNat_eq_natCast, beq_iff_eq, bne_iff_ne, beq_eq_false_iff_ne, bne_eq_false_iff_eq, ne_eq, Classical.not_not, Int.toNat_natCast, vrow_I, Arm.eta2, Fld.eta, Grp.eta]
      exact h5
    · simp only [hH, stdH, Int.toNat_natCast] at h5
      change (!okRg (Tl rowW (r.gs.length + 1) (GW r.gs ⟨IntKind.i64.wrap ((r.gs.getD (IntKind.i64.wrap (((r.gs.length : Nat) : Int) - 1)).toNat default).num + 1), s, y, a⟩))) = false at h5
      rw [GW_tl, ← eO, Bool.not_eq_false'] at h5
      try simp only [hH, stdH, decide_eq_true_eq, decide_eq_false_iff_not, Bool.not_eq_true', Bool.not_eq_false', peta, ncast, Int.ofNat_eq_natCast, beq_iff_eq, bne_iff_ne, beq_eq_false_iff_ne, bne_eq_false_iff_eq, ne_eq, Classical.not_not, Int.toNat_natCast, vrow_I, Arm.eta2, Fld.eta, Grp.eta]
      rw [h5, if_pos rfl]; exact hn.symm
    · simp only [hH, stdH, Int.toNat_natCast] at h5
      change (!okRg (Tl rowW (r.gs.length + 1) (GW r.gs ⟨IntKind.i64.wrap ((r.gs.getD (IntKind.i64.wrap (((r.gs.length : Nat) : Int) - 1)).toNat default).num + 1), s, y, a⟩))) = false at h5
      rw [GW_tl, ← eO, Bool.not_eq_false'] at h5
      try simp only [hH, stdH, decide_eq_true_eq, decide_eq_false_iff_not, Bool.not_eq_true', Bool.not_eq_false', peta, ncast, Int.ofNat_eq_natCast, beq_iff_eq, bne_iff_ne, beq_eq_false_iff_ne, bne_eq_false_iff_eq, ne_eq, Classical.not_not, Int.toNat_natCast, vrow_I, Arm.eta2, Fld.eta, Grp.eta]
      rw [h5, if_pos rfl]
      unfold grG
      rw [← hn]
      exact GW_eq (l := r.gs) (g := ⟨IntKind.i64.wrap ((r.gs.getD (IntKind.i64.wrap (((r.gs.length : Nat) : Int) - 1)).toNat default).num + 1), s, y, a⟩)
  · simp only [hH, stdH, Int.toNat_natCast] at h3
    rw [Bool.not_eq_false'] at h3
    simp only [hH, stdH, decide_eq_true_eq, decide_eq_false_iff_not, Bool.not_eq_true', Bool.not_eq_false', peta, ncast, Int.ofNat_eq_natCast, beq_iff_eq, bne_iff_ne, beq_eq_false_iff_ne, bne_eq_false_iff_eq, ne_eq, Classical.not_not, Int.toNat_natCast, vrow_I, Arm.eta2, Fld.eta, Grp.eta] at h4
    have hn : 1 = grN r.gs := by unfold grN; rw [if_pos (by omega)]
    have eO : grO r.gs s y a = okRg (r.gs ++ [⟨1, s, y, a⟩]) := by unfold grO grG; rw [h3, ← hn]; rfl
    have hz : Nsz (r.gs ++ [⟨1, s, y, a⟩]) := ⟨fun x hx => by
      rcases List.mem_append.1 hx with hx | hx
      · exact h1.le x hx
      · rw [List.mem_singleton] at hx; subst hx; exact h2⟩
    refine ⟨⟨?_, ?_⟩, ⟨?_, ?_, ?_, ?_⟩, ⟨?_, ?_, ?_, ?_⟩, fun h5 => ⟨?_, ?_, ?_⟩, fun h5 => ⟨?_, ?_, ?_⟩⟩
    · try simp only [hH, stdH, decide_eq_true_eq, decide_eq_false_iff_not, Bool.not_eq_true', Bool.not_eq_false', peta, ncast, Int.ofNat_eq_natCast, beq_iff_eq, bne_iff_ne, beq_eq_false_iff_ne, bne_eq_false_iff_eq, ne_eq, Classical.not_not, Int.toNat_natCast, vrow_I, Arm.eta2, Fld.eta, Grp.eta]
      exact Shp_W _ _
    · try simp only [hH, stdH, decide_eq_true_eq, decide_eq_false_iff_not, Bool.not_eq_true', Bool.not_eq_false', peta, ncast, Int.ofNat_eq_natCast, beq_iff_eq, bne_iff_ne, beq_eq_false_iff_ne, bne_eq_false_iff_eq, ne_eq, Classical.not_not, Int.toNat_natCast, vrow_I, Arm.eta2, Fld.eta, Grp.eta]
      omega
    · try simp only [hH, stdH, decide_eq_true_eq, decide_eq_false_iff_not, Bool.not_eq_true', Bool.not_eq_false', peta, ncast, Int.ofNat_eq_natCast, beq_iff_eq, bne_iff_ne, beq_eq_false_iff_ne, bne_eq_false_iff_eq, ne_eq, Classical.not_not, Int.toNat_natCast, vrow_I, Arm.eta2, Fld.eta, Grp.eta]
      exact ⟨by omega, fun j hj => (by obtain rfl : j = 0 := by omega
                                       rfl)⟩
    · try simp only [hH, stdH, decide_eq_true_eq, decide_eq_false_iff_not, Bool.not_eq_true', Bool.not_eq_false', peta, ncast, Int.ofNat_eq_natCast, beq_iff_eq, bne_iff_ne, beq_eq_false_iff_ne, bne_eq_false_iff_eq, ne_eq, Classical.not_not, Int.toNat_natCast, vrow_I, Arm.eta2, Fld.eta, Grp.eta]
    · try simp only [hH, stdH, decide_eq_true_eq, decide_eq_false_iff_not, Bool.not_eq_true', Bool.not_eq_false', peta, ncast, Int.ofNat_eq_natCast, beq_iff_eq, bne_iff_ne, beq_eq_false_iff_ne, bne_eq_false_iff_eq, ne_eq, Classical.not_not, Int.toNat_natCast, vrow_I, Arm.eta2, Fld.eta, Grp.eta]
      ((repeat' (with_reducible refine And.intro ?_ ?_)) <;> (first | exact True.intro | omega | exact Eq.refl _))
    · try simp only [hH, stdH, decide_eq_true_eq, decide_eq_false_iff_not, Bool.not_eq_true', Bool.not_eq_false', peta, ncast, Int.ofNat_eq_natCast, beq_iff_eq, bne_iff_ne, beq_eq_false_iff_ne, bne_eq_false_iff_eq, ne_eq, Classical.not_not, Int.toNat_natCast, vrow_I, Arm.eta2, Fld.eta, Grp.eta]
      exact GW_pl (l := r.gs) (g := ⟨1, s, y, a⟩)
    · try simp only [hH, stdH, decide_eq_true_eq, decide_eq_false_iff_not, Bool.not_eq_true', Bool.not_eq_false', peta, ncast, Int.ofNat_eq_natCast, beq_iff_eq, bne_iff_ne, beq_eq_false_iff_ne, bne_eq_false_iff_eq, ne_eq, Classical.not_not, Int.toNat_natCast, vrow_I, Arm.eta2, Fld.eta, Grp.eta]
      exact GW_len (l := r.gs) (g := ⟨1, s, y, a⟩)
    · try simp only [hH, stdH, decide_eq_true_eq, decide_eq_false_iff_not, Bool.not_eq_true', Bool.not_eq_false', peta, ncast, Int.ofNat_eq_natCast, beq_iff_eq, bne_iff_ne, beq_eq_false_iff_ne, bne_eq_false_iff_eq, ne_eq, Classical.not_not, Int.toNat_natCast, vrow_I, Arm.eta2, Fld.eta, Grp.eta]
      exact GW_shp (l := r.gs) (g := ⟨1, s, y, a⟩)
    · try simp only [hH, stdH, decide_eq_true_eq, decide_eq_false_iff_not, Bool.not_eq_true', Bool.not_eq_false', peta, ncast, Int.ofNat_eq_natCast, beq_iff_eq, bne_iff_ne, beq_eq_false_iff_ne, bne_eq_false_iff_eq, ne_eq, Classical.not_not, Int.toNat_natCast, vrow_I, Arm.eta2, Fld.eta, Grp.eta]
      rw [Tl_len]; omega
    · try simp only [hH, stdH, decide_eq_true_eq, decide_eq_false_iff_not, Bool.not_eq_true', Bool.not_eq_false', peta, ncast, Int.ofNat_eq_natCast, beq_iff_eq, bne_iff_ne, beq_eq_false_iff_ne, bne_eq_false_iff_eq, ne_eq, Classical.not_not, Int.toNat_natCast, vrow_I, Arm.eta2, Fld.eta, Grp.eta]
      exact (GW_tl (l := r.gs) (g := ⟨1, s, y, a⟩)).symm ▸ hz
    · simp only [hH, stdH, Int.toNat_natCast] at h5
      change (!okRg (Tl rowW (r.gs.length + 1) (GW r.gs ⟨1, s, y, a⟩))) = true at h5
      rw [GW_tl, ← eO, Bool.not_eq_true'] at h5
      try simp only [hH, stdH, decide_eq_true_eq, decide_eq_false_iff_not, Bool.not_eq_true', Bool.not_eq_false', peta, ncast, Int.ofNat_eq_natCast, beq_iff_eq, bne_iff_ne, beq_eq_false_iff_ne, bne_eq_false_iff_eq, ne_eq, Classical.not_not, Int.toNat_natCast, vrow_I, Arm.eta2, Fld.eta, Grp.eta]
      exact h5
    · simp only [hH, stdH, Int.toNat_natCast] at h5
      change (!okRg (Tl rowW (r.gs.length + 1) (GW r.gs ⟨1, s, y, a⟩))) = true at h5
      rw [GW_tl, ← eO, Bool.not_eq_true'] at h5
      try simp only [hH, stdH, decide_eq_true_eq, decide_eq_false_iff_not, Bool.not_eq_true', Bool.not_eq_false', peta, ncast, Int.ofNat_eq_natCast, beq_iff_eq, bne_iff_ne, beq_eq_false_iff_ne, bne_eq_false_iff_eq, ne_eq, Classical.not_not, Int.toNat_natCast, vrow_I, Arm.eta2, Fld.eta, Grp.eta]
      rw [h5]; rfl
    · simp only [hH, stdH, Int.toNat_natCast] at h5
      change (!okRg (Tl rowW (r.gs.length + 1) (GW r.gs ⟨1, s, y, a⟩))) = true at h5
      rw [GW_tl, ← eO, Bool.not_eq_true'] at h5
      try simp only [hH, stdH, decide_eq_true_eq, decide_eq_false_iff_not, Bool.not_eq_true', Bool.not_eq_false', peta, ncast, Int.ofNat_eq_natCast, beq_iff_eq, bne_iff_ne, beq_eq_false_iff_ne, bne_eq_false_iff_eq, ne_eq, Classical.not_not, Int.toNat_natCast, vrow_I, Arm.eta2, Fld.eta, Grp.eta]
      rw [h5]; rfl
    · simp only [hH, stdH, Int.toNat_natCast] at h5
      change (!okRg (Tl rowW (r.gs.length + 1) (GW r.gs ⟨1, s, y, a⟩))) = false at h5
      rw [GW_tl, ← eO, Bool.not_eq_false'] at h5
      try simp only [hH, stdH, decide_eq_true_eq, decide_eq_false_iff_not, Bool.not_eq_true', Bool.not_eq_false', peta, ncast, Int.ofNat_eq_natCast, beq_iff_eq, bne_iff_ne, beq_eq_false_iff_ne, bne_eq_false_iff_eq, ne_eq, Classical.not_not, Int.toNat_natCast, vrow_I, Arm.eta2, Fld.eta, Grp.eta]
      exact h5
    · simp only [hH, stdH, Int.toNat_natCast] at h5
      change (!okRg (Tl rowW (r.gs.length + 1) (GW r.gs ⟨1, s, y, a⟩))) = false at h5
      rw [GW_tl, ← eO, Bool.not_eq_false'] at h5
      try simp only [hH, stdH, decide_eq_true_eq, decide_eq_false_iff_not, Bool.not_eq_true', Bool.not_eq_false', peta, ncast, Int.ofNat_eq_natCast, beq_iff_eq, bne_iff_ne, beq_eq_false_iff_ne, bne_eq_false_iff_eq, ne_eq, Classical.not_not, Int.toNat_natCast, vrow_I, Arm.eta2, Fld.eta, Grp.eta]
      rw [h5, if_pos rfl]; exact hn.symm
    · simp only [hH, stdH, Int.toNat_natCast] at h5
      change (!okRg (Tl rowW (r.gs.length + 1) (GW r.gs ⟨1, s, y, a⟩))) = false at h5
      rw [GW_tl, ← eO, Bool.not_eq_false'] at h5
      try simp only [hH, stdH, decide_eq_true_eq, decide_eq_false_iff_not, Bool.not_eq_true', Bool.not_eq_false', peta, ncast, Int.ofNat_eq_natCast, beq_iff_eq, bne_iff_ne, beq_eq_false_iff_ne, bne_eq_false_iff_eq, ne_eq, Classical.not_not, Int.toNat_natCast, vrow_I, Arm.eta2, Fld.eta, Grp.eta]
      rw [h5, if_pos rfl]
      unfold grG
      rw [← hn]
      exact GW_eq (l := r.gs) (g := ⟨1, s, y, a⟩)
noncomputable def e_grantH : Entry := pureE 21 fun H a => match a with
  | [.agg [.vec 18 r0n r0f], .lit (.string s), .lit (.int .i64 y), .agg [.lit (.int .i64 a0), .lit (.int .i64 a1), .lit (.int .i64 a2), .lit (.int .i64 a3), .lit (.int .i64 a4), .lit (.int .i64 a5), .lit (.int .i64 a6), .lit (.int .i64 a7), .lit (.int .i64 a8), .lit (.int .i64 a9), .lit (.int .i64 a10), .lit (.int .i64 a11), .lit (.int .i64 a12), .lit (.int .i64 a13), .lit (.int .i64 a14)]] => some (.tup [aT rowJ H fun _ => ⟨if grO (⟨(Tl rowW r0n r0f)⟩ : Rgr).gs s y (⟨⟨a0, a1, a2, a3⟩, a4, a5, a6, ⟨a7, a8, a9, a10⟩, ⟨a11, a12, a13, a14⟩⟩ : Arm) then (⟨(Tl rowW r0n r0f)⟩ : Rgr).gs ++ [grG (⟨(Tl rowW r0n r0f)⟩ : Rgr).gs s y (⟨⟨a0, a1, a2, a3⟩, a4, a5, a6, ⟨a7, a8, a9, a10⟩, ⟨a11, a12, a13, a14⟩⟩ : Arm)] else []⟩, .lit (.int .i64 (H Int fun _ => if grO (⟨(Tl rowW r0n r0f)⟩ : Rgr).gs s y (⟨⟨a0, a1, a2, a3⟩, a4, a5, a6, ⟨a7, a8, a9, a10⟩, ⟨a11, a12, a13, a14⟩⟩ : Arm) then grN (⟨(Tl rowW r0n r0f)⟩ : Rgr).gs else 0)), .lit (.bool (H Bool fun _ => grO (⟨(Tl rowW r0n r0f)⟩ : Rgr).gs s y (⟨⟨a0, a1, a2, a3⟩, a4, a5, a6, ⟨a7, a8, a9, a10⟩, ⟨a11, a12, a13, a14⟩⟩ : Arm)))], [H Prop fun _ => Shp rowW r0n r0f, H Prop fun _ => (⟨(Tl rowW r0n r0f)⟩ : Rgr).gs.length ≤ 100000, H Prop fun _ => Nsz (⟨(Tl rowW r0n r0f)⟩ : Rgr).gs, H Prop fun _ => s.size ≤ 1000000])
  | _ => none
theorem eok_grantH : EntryOk Try.prog e_grantH := pureM_ok (by unfold isBody; kernel_rfl) (by
  intro a r ob e hob
  split at e
  · rename_i r0n r0f s y a0 a1 a2 a3 a4 a5 a6 a7 a8 a9 a10 a11 a12 a13 a14
    simp only [Option.some.injEq, Prod.mk.injEq] at e
    obtain ⟨rfl, rfl⟩ := e
    exact ConN.args (.cons (.agg (.cons (.toT okRW rfl hob.1) .nil)) (.cons .rfl (.cons .rfl (.cons .rfl .nil)))) (c_grantH (⟨(Tl rowW r0n r0f)⟩ : Rgr) s y (⟨⟨a0, a1, a2, a3⟩, a4, a5, a6, ⟨a7, a8, a9, a10⟩, ⟨a11, a12, a13, a14⟩⟩ : Arm) hob.2.1 hob.2.2.1 hob.2.2.2.1)
  · simp at e)
theorem c_revH (r : Rgr) (x : Int) (h0 : r.gs.length ≤ 1000000) (h1 : Nsz r.gs) : ConN Try.prog 28 [aT rowJ stdH fun _ => r, .lit (.int .i64 x)] [] 0 (.tup [aT rowJ stdH fun _ => ⟨if rvO r.gs x then rvL r.gs x else []⟩, .lit (.bool (stdH Bool fun _ => rvO r.gs x))]) [] [] := by
  have hB : Base Try.prog (tabΓ [e_validR, e_grantIn, e_cloneR, e_DeleteN]) tabA := base_of tabOkA (ents_cons eok_validR <| ents_cons eok_grantIn <| ents_cons eok_cloneR <| ents_cons eok_DeleteN <| ents_nil)
  refine con_m (N := 29) hB (draw_ok hB mixed) Try.func28 rfl rfl (fun H => [aT rowJ H fun _ => r, .lit (.int .i64 x)]) (fun _ => []) 0 (fun H => .tup [aT rowJ H fun _ => ⟨if rvO r.gs x then rvL r.gs x else []⟩, .lit (.bool (H Bool fun _ => rvO r.gs x))]) (fun H => []) (fun _ => []) 300 (by simp) (fun x hx => ?_) (by simp [lk]) (by omega) (by simp) ?_
  · simp only [List.mem_cons, List.not_mem_nil, or_false] at hx
    rcases hx with rfl | rfl
    · exact aT_bl okRJ _ _
    · exact .lit
  intro X hX hX0 H hH
  conv in Fin.chk _ _ => cbv
  try simp only [Plain_rowsA, Plain_rowsB, Plain_rowsF, Plain_rowsG, Plain_rowsI, Plain_rowsS, Plain_rowsU, Fin.satC_ret, Fin.satC_br, Fin.satC_need, Fin.satC_again, AllP, and_true, true_and, upd, List.length_nil, List.length_cons, Nat.zero_add, if_true, ncast, Int.ofNat_eq_natCast]
  try simp only [TlW_H hH, hetaA hH]
  refine ⟨⟨?_, ?_⟩, ⟨?_, ?_, ?_⟩, fun h3 => ⟨?_, ?_⟩, fun h3 => ⟨⟨?_, ?_⟩, ?_, ?_, ?_⟩⟩
  · try simp only [hH, stdH, decide_eq_true_eq, decide_eq_false_iff_not, Bool.not_eq_true', Bool.not_eq_false', peta, ncast, Int.ofNat_eq_natCast, beq_iff_eq, bne_iff_ne, beq_eq_false_iff_ne, bne_eq_false_iff_eq, ne_eq, Classical.not_not, Int.toNat_natCast, vrow_I, Arm.eta2, Fld.eta, Grp.eta]
    exact Shp_W _ _
  · try simp only [hH, stdH, decide_eq_true_eq, decide_eq_false_iff_not, Bool.not_eq_true', Bool.not_eq_false', peta, ncast, Int.ofNat_eq_natCast, beq_iff_eq, bne_iff_ne, beq_eq_false_iff_ne, bne_eq_false_iff_eq, ne_eq, Classical.not_not, Int.toNat_natCast, vrow_I, Arm.eta2, Fld.eta, Grp.eta]
    omega
  · try simp only [hH, stdH, decide_eq_true_eq, decide_eq_false_iff_not, Bool.not_eq_true', Bool.not_eq_false', peta, ncast, Int.ofNat_eq_natCast, beq_iff_eq, bne_iff_ne, beq_eq_false_iff_ne, bne_eq_false_iff_eq, ne_eq, Classical.not_not, Int.toNat_natCast, vrow_I, Arm.eta2, Fld.eta, Grp.eta]
    exact Shp_W _ _
  · try simp only [hH, stdH, decide_eq_true_eq, decide_eq_false_iff_not, Bool.not_eq_true', Bool.not_eq_false', peta, ncast, Int.ofNat_eq_natCast, beq_iff_eq, bne_iff_ne, beq_eq_false_iff_ne, bne_eq_false_iff_eq, ne_eq, Classical.not_not, Int.toNat_natCast, vrow_I, Arm.eta2, Fld.eta, Grp.eta]
    omega
  · try simp only [hH, stdH, decide_eq_true_eq, decide_eq_false_iff_not, Bool.not_eq_true', Bool.not_eq_false', peta, ncast, Int.ofNat_eq_natCast, beq_iff_eq, bne_iff_ne, beq_eq_false_iff_ne, bne_eq_false_iff_eq, ne_eq, Classical.not_not, Int.toNat_natCast, vrow_I, Arm.eta2, Fld.eta, Grp.eta]
    exact h1
  · simp only [hH, stdH, Int.toNat_natCast] at h3
    have e := rvO_n h3
    try simp only [hH, stdH, decide_eq_true_eq, decide_eq_false_iff_not, Bool.not_eq_true', Bool.not_eq_false', peta, ncast, Int.ofNat_eq_natCast, beq_iff_eq, bne_iff_ne, beq_eq_false_iff_ne, bne_eq_false_iff_eq, ne_eq, Classical.not_not, Int.toNat_natCast, vrow_I, Arm.eta2, Fld.eta, Grp.eta]
    exact e
  · simp only [hH, stdH, Int.toNat_natCast] at h3
    have e := rvO_n h3
    try simp only [hH, stdH, decide_eq_true_eq, decide_eq_false_iff_not, Bool.not_eq_true', Bool.not_eq_false', peta, ncast, Int.ofNat_eq_natCast, beq_iff_eq, bne_iff_ne, beq_eq_false_iff_ne, bne_eq_false_iff_eq, ne_eq, Classical.not_not, Int.toNat_natCast, vrow_I, Arm.eta2, Fld.eta, Grp.eta]
    rw [e]; rfl
  · try simp only [hH, stdH, decide_eq_true_eq, decide_eq_false_iff_not, Bool.not_eq_true', Bool.not_eq_false', peta, ncast, Int.ofNat_eq_natCast, beq_iff_eq, bne_iff_ne, beq_eq_false_iff_ne, bne_eq_false_iff_eq, ne_eq, Classical.not_not, Int.toNat_natCast, vrow_I, Arm.eta2, Fld.eta, Grp.eta]
    exact Shp_W _ _
  · try simp only [hH, stdH, decide_eq_true_eq, decide_eq_false_iff_not, Bool.not_eq_true', Bool.not_eq_false', peta, ncast, Int.ofNat_eq_natCast, beq_iff_eq, bne_iff_ne, beq_eq_false_iff_ne, bne_eq_false_iff_eq, ne_eq, Classical.not_not, Int.toNat_natCast, vrow_I, Arm.eta2, Fld.eta, Grp.eta]
    omega
  · simp only [hH, stdH, Int.toNat_natCast] at h3
    obtain ⟨e, e0, e1⟩ := rvO_y h3
    try simp only [hH, stdH, decide_eq_true_eq, decide_eq_false_iff_not, Bool.not_eq_true', Bool.not_eq_false', peta, ncast, Int.ofNat_eq_natCast, beq_iff_eq, bne_iff_ne, beq_eq_false_iff_ne, bne_eq_false_iff_eq, ne_eq, Classical.not_not, Int.toNat_natCast, vrow_I, Arm.eta2, Fld.eta, Grp.eta]
    exact ⟨e0, by omega, by rw [wi (by omega) (by omega)], fun _ _ => rfl⟩
  · simp only [hH, stdH, Int.toNat_natCast] at h3
    obtain ⟨e, e0, e1⟩ := rvO_y h3
    try simp only [hH, stdH, decide_eq_true_eq, decide_eq_false_iff_not, Bool.not_eq_true', Bool.not_eq_false', peta, ncast, Int.ofNat_eq_natCast, beq_iff_eq, bne_iff_ne, beq_eq_false_iff_ne, bne_eq_false_iff_eq, ne_eq, Classical.not_not, Int.toNat_natCast, vrow_I, Arm.eta2, Fld.eta, Grp.eta]
    exact e
  · simp only [hH, stdH, Int.toNat_natCast] at h3
    obtain ⟨e, e0, e1⟩ := rvO_y h3
    try simp only [hH, stdH, decide_eq_true_eq, decide_eq_false_iff_not, Bool.not_eq_true', Bool.not_eq_false', peta, ncast, Int.ofNat_eq_natCast, beq_iff_eq, bne_iff_ne, beq_eq_false_iff_ne, bne_eq_false_iff_eq, ne_eq, Classical.not_not, Int.toNat_natCast, vrow_I, Arm.eta2, Fld.eta, Grp.eta]
    rw [e, if_pos rfl]
    exact .ofT okRW rfl (Shp_delW _ _) (Tl_delW (by have : rvI r.gs x = idxF (nuE x) r.gs := rfl; omega)).symm
noncomputable def e_revH : Entry := pureE 28 fun H a => match a with
  | [.agg [.vec 18 r0n r0f], .lit (.int .i64 x)] => some (.tup [aT rowJ H fun _ => ⟨if rvO (⟨(Tl rowW r0n r0f)⟩ : Rgr).gs x then rvL (⟨(Tl rowW r0n r0f)⟩ : Rgr).gs x else []⟩, .lit (.bool (H Bool fun _ => rvO (⟨(Tl rowW r0n r0f)⟩ : Rgr).gs x))], [H Prop fun _ => Shp rowW r0n r0f, H Prop fun _ => (⟨(Tl rowW r0n r0f)⟩ : Rgr).gs.length ≤ 1000000, H Prop fun _ => Nsz (⟨(Tl rowW r0n r0f)⟩ : Rgr).gs])
  | _ => none
theorem eok_revH : EntryOk Try.prog e_revH := pureM_ok (by unfold isBody; kernel_rfl) (by
  intro a r ob e hob
  split at e
  · rename_i r0n r0f x
    simp only [Option.some.injEq, Prod.mk.injEq] at e
    obtain ⟨rfl, rfl⟩ := e
    exact ConN.args (.cons (.agg (.cons (.toT okRW rfl hob.1) .nil)) (.cons .rfl .nil)) (c_revH (⟨(Tl rowW r0n r0f)⟩ : Rgr) x hob.2.1 hob.2.2.1)
  · simp at e)

end Go.Proofs.Ytoommgpcmgnpaaa.AM
