import Derived.Test.YtfamdalilcbloaaAmT
import Derived.Test.YtfamdalilcbloaaDqu
import Derived.Test.YtfamdalilcbloaaShv
set_option linter.unusedVariables false
set_option linter.unusedSimpArgs false
set_option maxRecDepth 100000
set_option maxHeartbeats 4000000
set_option cbv.maxSteps 3000000
namespace Go.Proofs.Ytfamdalilcbloaa.AM
/- Quarterings inherited: the program's and the reference's; conditions: none. -/
def inh (f : List Arm) (ds : List Dsc) : List Arm := ds.foldl (fun o d => if d.hs = true then mrg o d.own else o) f
def okI2 (f : List Arm) (ds : List Dsc) : Bool := okQ f && (decide (ds.length ≤ 8) && ds.all fun d => okQ d.own)
theorem inh_succ {f : List Arm} {ds : List Dsc} {i : Nat} (h : i < ds.length) : inh f (ds.take (i + 1)) = if (ds.getD i default).hs = true then mrg (inh f (ds.take i)) (ds.getD i default).own else inh f (ds.take i) := by
  unfold inh
  rw [foldl_snoc (d := default) h]
theorem mrg_le {a b : List Arm} (h : a.length ≤ 12) : (mrg a b).length ≤ 12 := by
  unfold mrg
  induction b generalizing a with
  | nil => exact h
  | cons x b ih =>
    rw [List.foldl_cons]
    refine ih ?_
    unfold mrgS
    split
    · rename_i hc
      rw [List.length_append, List.length_singleton]; omega
    · exact h
theorem inh_le {f : List Arm} {ds : List Dsc} (h : f.length ≤ 12) : (inh f ds).length ≤ 12 := by
  unfold inh
  induction ds generalizing f with
  | nil => exact h
  | cons d ds ih =>
    rw [List.foldl_cons]
    refine ih ?_
    split
    · exact mrg_le h
    · exact h
structure Own (ds : List Dsc) : Prop where
  le : ∀ d ∈ ds, d.own.length ≤ 1000
theorem Own.at {ds : List Dsc} (h : Own ds) (i : Nat) : (ds.getD i default).own.length ≤ 1000 := by
  rw [List.getD_eq_getElem?_getD]
  cases e : ds[i]? with
  | none => exact Nat.zero_le _
  | some d => exact h.le d (List.mem_of_getElem? e)
theorem okI2_at {f : List Arm} {ds : List Dsc} {i : Nat} (h : i < ds.length) (e : okQ (ds.getD i default).own = false) : okI2 f ds = false := by
  have : (ds.all fun d => okQ d.own) = false := by
    rw [List.all_eq_false]
    exact ⟨_, getDm (d := default) h, by rw [e]; decide⟩
  unfold okI2
  rw [this]; simp
theorem okI2_all {f : List Arm} {ds : List Dsc} (hf : okQ f = true) (hl : ds.length ≤ 8) (h : ∀ j, j < ds.length → okQ (ds.getD j default).own = true) : okI2 f ds = true := by
  unfold okI2
  rw [hf, decide_eq_true hl]
  simp only [Bool.true_and, List.all_eq_true]
  intro d hd
  obtain ⟨j, hj, rfl⟩ := List.getElem_of_mem hd
  have := h j hj
  rwa [List.getD_eq_getElem?_getD, List.getElem?_eq_getElem hj, Option.getD_some] at this
theorem okI2_cond {f : List Arm} {ds : List Dsc} (h : (bif !okQ f then true else decide ((8 : Int) < (ds.length : Nat))) = false) : okQ f = true ∧ ds.length ≤ 8 := by
  cases hq : okQ f with
  | false => rw [hq] at h; cases h
  | true =>
    rw [hq] at h
    have h : decide ((8 : Int) < (ds.length : Nat)) = false := h
    rw [decide_eq_false_iff_not] at h
    exact ⟨rfl, by omega⟩
theorem okI2_no {f : List Arm} {ds : List Dsc} (h : (bif !okQ f then true else decide ((8 : Int) < (ds.length : Nat))) = true) : okI2 f ds = false := by
  unfold okI2
  cases hq : okQ f with
  | false => rfl
  | true =>
    rw [hq] at h
    have h : decide ((8 : Int) < (ds.length : Nat)) = true := h
    rw [decide_eq_true_eq] at h
    rw [decide_eq_false (by omega)]; rfl
theorem c_inhH (f : List Arm) (ds : List Dsc) (h0 : f.length ≤ 1000) (h1 : ds.length ≤ 1000) (h2 : Own ds) : ConN Try.prog 24 [.vec 15 (stdH Nat fun _ => (f).length) (rowsA stdH fun _ => f), .vec 2 (stdH Nat fun _ => (ds).length) (rowsE stdH fun _ => ds)] [] 0 (.tup [.vec 15 (stdH Nat fun _ => (if okI2 f ds then inh f ds else []).length) (rowsA stdH fun _ => if okI2 f ds then inh f ds else []), .lit (.bool (stdH Bool fun _ => okI2 f ds))]) [] [] := by
  have hB : Base Try.prog (tabΓ [e_validQ, e_merged]) tabO := base_of tabOkO (ents_cons eok_validQ <| ents_cons eok_merged <| ents_nil)
  refine con_m (N := 38) hB (draw_ok hB mixed) Try.func24 rfl rfl (fun H => [.vec 15 (H Nat fun _ => (f).length) (rowsA H fun _ => f), .vec 2 (H Nat fun _ => (ds).length) (rowsE H fun _ => ds)]) (fun _ => []) 0 (fun H => .tup [.vec 15 (H Nat fun _ => (if okI2 f ds then inh f ds else []).length) (rowsA H fun _ => if okI2 f ds then inh f ds else []), .lit (.bool (H Bool fun _ => okI2 f ds))]) (fun H => []) (fun _ => []) 300 (by simp) (fun x hx => ?_) (by simp [lk]) (by omega) (by simp) ?_
  · simp only [List.mem_cons, List.not_mem_nil, or_false] at hx
    rcases hx with rfl | rfl
    · exact vl_bl okRA f _
    · exact vl_bl okRE ds _
  intro X hX hX0 H hH
  conv in Fin.chk _ _ => cbv
  try simp only [Plain_rowsA, Plain_rowsB, Plain_rowsF, Plain_rowsG, Plain_rowsI, Plain_rowsS, Plain_rowsU, Fin.satC_ret, Fin.satC_br, Fin.satC_need, Fin.satC_again, AllP, and_true, true_and, upd, List.length_nil, List.length_cons, Nat.zero_add, if_true, ncast, Int.ofNat_eq_natCast]
  refine ⟨?_, fun h => ?_, fun h => ⟨?_, ?_⟩⟩
  · try simp only [hH, stdH, decide_eq_true_eq, decide_eq_false_iff_not, Bool.not_eq_true', Bool.not_eq_false', peta, ncast, Int.ofNat_eq_natCast, beq_iff_eq, bne_iff_ne, beq_eq_false_iff_ne, bne_eq_false_iff_eq, ne_eq, Classical.not_not, Int.toNat_natCast, vrow_I, Arm.eta2, Fld.eta, Grp.eta]
    exact ⟨Shp_A _ _, by simp only [Tl_A]; omega⟩
  · simp only [hH, stdH, Int.toNat_natCast] at h
    simp only [Tl_A] at h
    rw [okI2_no h]
    try simp only [hH, stdH, decide_eq_true_eq, decide_eq_false_iff_not, Bool.not_eq_true', Bool.not_eq_false', peta, ncast, Int.ofNat_eq_natCast, beq_iff_eq, bne_iff_ne, beq_eq_false_iff_ne, bne_eq_false_iff_eq, ne_eq, Classical.not_not, Int.toNat_natCast, vrow_I, Arm.eta2, Fld.eta, Grp.eta]
    exact ⟨trivial, rfl⟩
  · try simp only [hH, stdH, decide_eq_true_eq, decide_eq_false_iff_not, Bool.not_eq_true', Bool.not_eq_false', peta, ncast, Int.ofNat_eq_natCast, beq_iff_eq, bne_iff_ne, beq_eq_false_iff_ne, bne_eq_false_iff_eq, ne_eq, Classical.not_not, Int.toNat_natCast, vrow_I, Arm.eta2, Fld.eta, Grp.eta]
    exact ⟨trivial, by omega, by omega⟩
  · simp only [hH, stdH, Int.toNat_natCast] at h
    simp only [Tl_A] at h
    obtain ⟨hf, hl⟩ := okI2_cond h
    have hf12 := (okQ_len hf).2
    refine loop_a hB (draw_ok hB mixed) hX hX0 hH false (ι := { i : Nat // i ≤ ds.length ∧ ∀ j, j < i → okQ (ds.getD j default).own = true }) 300 (fun i => [.r (H Nat fun _ => (inh f (ds.take i.1)).length) (rowsA H fun _ => inh f (ds.take i.1)), .i (H Int fun _ => (i.1 : Nat))]) (fun i => ds.length - i.1) (⟨0, by omega, by omega⟩) ?_ ?_
    · (conv in matchSt _ _ _ _ => cbv); simp only [AllG, AllP, and_true, hH, stdH, ncast, Int.ofNat_eq_natCast, vrow_I, Arm.eta2, Fld.eta, Grp.eta]
      exact ⟨app0 f, rfl, trivial, RowsEq.self okRE, rfl⟩
    · intro I hI i
      conv in Fin.chk _ _ => cbv
      try simp only [Plain_rowsA, Plain_rowsB, Plain_rowsF, Plain_rowsG, Plain_rowsI, Plain_rowsS, Plain_rowsU, Fin.satC_ret, Fin.satC_br, Fin.satC_need, Fin.satC_again, AllP, and_true, true_and, upd, List.length_nil, List.length_cons, Nat.zero_add, if_true, ncast, Int.ofNat_eq_natCast]
      obtain ⟨i, hi, hj⟩ := i
      have hle : (inh f (ds.take i)).length ≤ 12 := inh_le hf12
      have ho := h2.at i
      refine ⟨fun h3 => ⟨?_, ⟨?_, ?_⟩, fun h4 => ?_, fun h4 => ⟨fun h5 => ⟨⟨?_, ?_, ?_, ?_, ?_, ?_⟩, ?_⟩, fun h5 => ?_⟩⟩, fun h3 => ?_⟩
      · simp only [hH, stdH, decide_eq_true_eq, decide_eq_false_iff_not, Bool.not_eq_true', Bool.not_eq_false', peta, ncast, Int.ofNat_eq_natCast, beq_iff_eq, bne_iff_ne, beq_eq_false_iff_ne, bne_eq_false_iff_eq, ne_eq, Classical.not_not, Int.toNat_natCast, vrow_I, Arm.eta2, Fld.eta, Grp.eta] at h3 ⊢
        omega
      · try simp only [hH, stdH, decide_eq_true_eq, decide_eq_false_iff_not, Bool.not_eq_true', Bool.not_eq_false', peta, ncast, Int.ofNat_eq_natCast, beq_iff_eq, bne_iff_ne, beq_eq_false_iff_ne, bne_eq_false_iff_eq, ne_eq, Classical.not_not, Int.toNat_natCast, vrow_I, Arm.eta2, Fld.eta, Grp.eta]
        exact Shp_A _ _
      · try simp only [hH, stdH, decide_eq_true_eq, decide_eq_false_iff_not, Bool.not_eq_true', Bool.not_eq_false', peta, ncast, Int.ofNat_eq_natCast, beq_iff_eq, bne_iff_ne, beq_eq_false_iff_ne, bne_eq_false_iff_eq, ne_eq, Classical.not_not, Int.toNat_natCast, vrow_I, Arm.eta2, Fld.eta, Grp.eta]
        simp only [Tl_A]; omega
      · simp only [hH, stdH, decide_eq_true_eq, decide_eq_false_iff_not, Bool.not_eq_true', Bool.not_eq_false', peta, ncast, Int.ofNat_eq_natCast, beq_iff_eq, bne_iff_ne, beq_eq_false_iff_ne, bne_eq_false_iff_eq, ne_eq, Classical.not_not, Int.toNat_natCast, vrow_I, Arm.eta2, Fld.eta, Grp.eta] at h3
        simp only [hH, stdH, Int.toNat_natCast] at h4
        simp only [Tl_A, Bool.not_eq_true'] at h4
        rw [okI2_at (by omega) h4]
        try simp only [hH, stdH, decide_eq_true_eq, decide_eq_false_iff_not, Bool.not_eq_true', Bool.not_eq_false', peta, ncast, Int.ofNat_eq_natCast, beq_iff_eq, bne_iff_ne, beq_eq_false_iff_ne, bne_eq_false_iff_eq, ne_eq, Classical.not_not, Int.toNat_natCast, vrow_I, Arm.eta2, Fld.eta, Grp.eta]
        exact ⟨trivial, rfl⟩
      · try simp only [hH, stdH, decide_eq_true_eq, decide_eq_false_iff_not, Bool.not_eq_true', Bool.not_eq_false', peta, ncast, Int.ofNat_eq_natCast, beq_iff_eq, bne_iff_ne, beq_eq_false_iff_ne, bne_eq_false_iff_eq, ne_eq, Classical.not_not, Int.toNat_natCast, vrow_I, Arm.eta2, Fld.eta, Grp.eta]
        exact fun j _ => rfl
      · try simp only [hH, stdH, decide_eq_true_eq, decide_eq_false_iff_not, Bool.not_eq_true', Bool.not_eq_false', peta, ncast, Int.ofNat_eq_natCast, beq_iff_eq, bne_iff_ne, beq_eq_false_iff_ne, bne_eq_false_iff_eq, ne_eq, Classical.not_not, Int.toNat_natCast, vrow_I, Arm.eta2, Fld.eta, Grp.eta]
        exact Shp_A _ _
      · try simp only [hH, stdH, decide_eq_true_eq, decide_eq_false_iff_not, Bool.not_eq_true', Bool.not_eq_false', peta, ncast, Int.ofNat_eq_natCast, beq_iff_eq, bne_iff_ne, beq_eq_false_iff_ne, bne_eq_false_iff_eq, ne_eq, Classical.not_not, Int.toNat_natCast, vrow_I, Arm.eta2, Fld.eta, Grp.eta]
        exact Shp_A _ _
      · try simp only [hH, stdH, decide_eq_true_eq, decide_eq_false_iff_not, Bool.not_eq_true', Bool.not_eq_false', peta, ncast, Int.ofNat_eq_natCast, beq_iff_eq, bne_iff_ne, beq_eq_false_iff_ne, bne_eq_false_iff_eq, ne_eq, Classical.not_not, Int.toNat_natCast, vrow_I, Arm.eta2, Fld.eta, Grp.eta]
        simp only [Tl_A]; omega
      · try simp only [hH, stdH, decide_eq_true_eq, decide_eq_false_iff_not, Bool.not_eq_true', Bool.not_eq_false', peta, ncast, Int.ofNat_eq_natCast, beq_iff_eq, bne_iff_ne, beq_eq_false_iff_ne, bne_eq_false_iff_eq, ne_eq, Classical.not_not, Int.toNat_natCast, vrow_I, Arm.eta2, Fld.eta, Grp.eta]
        simp only [Tl_A]; omega
      · try simp only [hH, stdH, decide_eq_true_eq, decide_eq_false_iff_not, Bool.not_eq_true', Bool.not_eq_false', peta, ncast, Int.ofNat_eq_natCast, beq_iff_eq, bne_iff_ne, beq_eq_false_iff_ne, bne_eq_false_iff_eq, ne_eq, Classical.not_not, Int.toNat_natCast, vrow_I, Arm.eta2, Fld.eta, Grp.eta]
        try trivial
      · simp only [hH, stdH, decide_eq_true_eq, decide_eq_false_iff_not, Bool.not_eq_true', Bool.not_eq_false', peta, ncast, Int.ofNat_eq_natCast, beq_iff_eq, bne_iff_ne, beq_eq_false_iff_ne, bne_eq_false_iff_eq, ne_eq, Classical.not_not, Int.toNat_natCast, vrow_I, Arm.eta2, Fld.eta, Grp.eta] at h3
        simp only [hH, stdH, Int.toNat_natCast] at h4
        simp only [Tl_A, Bool.not_eq_false'] at h4
        simp only [hH, stdH, decide_eq_true_eq, decide_eq_false_iff_not, Bool.not_eq_true', Bool.not_eq_false', peta, ncast, Int.ofNat_eq_natCast, beq_iff_eq, bne_iff_ne, beq_eq_false_iff_ne, bne_eq_false_iff_eq, ne_eq, Classical.not_not, Int.toNat_natCast, vrow_I, Arm.eta2, Fld.eta, Grp.eta] at h5
        have e := inh_succ (f := f) (ds := ds) (i := i) (by omega)
        rw [if_pos h5] at e
        refine ⟨⟨i + 1, by omega, fun j hj' => ?_⟩, by simp only; omega, ?_⟩
        · rcases Nat.lt_succ_iff_lt_or_eq.1 hj' with h | rfl
          · exact hj j h
          · exact h4
        · rw [hI]
          (conv in matchSt _ _ _ _ => cbv); simp only [AllG, AllP, and_true, hH, stdH, ncast, Int.ofNat_eq_natCast, vrow_I, Arm.eta2, Fld.eta, Grp.eta]
          simp only [Tl_A]
          rw [w1 (by omega), e]
          (repeat' (first | trivial | exact RowsEq.self okRA | exact RowsEq.self okRE | rfl | refine And.intro ?_ ?_))
      · simp only [hH, stdH, decide_eq_true_eq, decide_eq_false_iff_not, Bool.not_eq_true', Bool.not_eq_false', peta, ncast, Int.ofNat_eq_natCast, beq_iff_eq, bne_iff_ne, beq_eq_false_iff_ne, bne_eq_false_iff_eq, ne_eq, Classical.not_not, Int.toNat_natCast, vrow_I, Arm.eta2, Fld.eta, Grp.eta] at h3
        simp only [hH, stdH, Int.toNat_natCast] at h4
        simp only [Tl_A, Bool.not_eq_false'] at h4
        simp only [hH, stdH, decide_eq_true_eq, decide_eq_false_iff_not, Bool.not_eq_true', Bool.not_eq_false', peta, ncast, Int.ofNat_eq_natCast, beq_iff_eq, bne_iff_ne, beq_eq_false_iff_ne, bne_eq_false_iff_eq, ne_eq, Classical.not_not, Int.toNat_natCast, vrow_I, Arm.eta2, Fld.eta, Grp.eta] at h5
        have e := inh_succ (f := f) (ds := ds) (i := i) (by omega)
        rw [if_neg (by rw [h5]; decide)] at e
        refine ⟨⟨i + 1, by omega, fun j hj' => ?_⟩, by simp only; omega, ?_⟩
        · rcases Nat.lt_succ_iff_lt_or_eq.1 hj' with h | rfl
          · exact hj j h
          · exact h4
        · rw [hI]
          (conv in matchSt _ _ _ _ => cbv); simp only [AllG, AllP, and_true, hH, stdH, ncast, Int.ofNat_eq_natCast, vrow_I, Arm.eta2, Fld.eta, Grp.eta]
          rw [w1 (by omega), e]
          (repeat' (first | trivial | exact RowsEq.self okRA | exact RowsEq.self okRE | rfl | refine And.intro ?_ ?_))
      · simp only [hH, stdH, decide_eq_true_eq, decide_eq_false_iff_not, Bool.not_eq_true', Bool.not_eq_false', peta, ncast, Int.ofNat_eq_natCast, beq_iff_eq, bne_iff_ne, beq_eq_false_iff_ne, bne_eq_false_iff_eq, ne_eq, Classical.not_not, Int.toNat_natCast, vrow_I, Arm.eta2, Fld.eta, Grp.eta] at h3
        obtain rfl : i = ds.length := by omega
        rw [okI2_all hf hl hj, List.take_length]
        try simp only [hH, stdH, decide_eq_true_eq, decide_eq_false_iff_not, Bool.not_eq_true', Bool.not_eq_false', peta, ncast, Int.ofNat_eq_natCast, beq_iff_eq, bne_iff_ne, beq_eq_false_iff_ne, bne_eq_false_iff_eq, ne_eq, Classical.not_not, Int.toNat_natCast, vrow_I, Arm.eta2, Fld.eta, Grp.eta]
        exact ⟨trivial, RowsEq.self okRA⟩
noncomputable def e_inhH : Entry := pureE 24 fun H a => match a with
  | [.vec 15 fn ff, .vec 2 dsn dsf] => some (.tup [.vec 15 (H Nat fun _ => (if okI2 (Tl rowA fn ff) (Tl rowE dsn dsf) then inh (Tl rowA fn ff) (Tl rowE dsn dsf) else []).length) (rowsA H fun _ => if okI2 (Tl rowA fn ff) (Tl rowE dsn dsf) then inh (Tl rowA fn ff) (Tl rowE dsn dsf) else []), .lit (.bool (H Bool fun _ => okI2 (Tl rowA fn ff) (Tl rowE dsn dsf)))], [H Prop fun _ => Shp rowA fn ff, H Prop fun _ => Shp rowE dsn dsf, H Prop fun _ => (Tl rowA fn ff).length ≤ 1000, H Prop fun _ => (Tl rowE dsn dsf).length ≤ 1000, H Prop fun _ => Own (Tl rowE dsn dsf)])
  | _ => none
theorem eok_inhH : EntryOk Try.prog e_inhH := pureM_ok (by unfold isBody; kernel_rfl) (by
  intro a r ob e hob
  split at e
  · rename_i fn ff dsn dsf
    simp only [Option.some.injEq, Prod.mk.injEq] at e
    obtain ⟨rfl, rfl⟩ := e
    exact ConN.args (.cons (.toT okRA rfl hob.1) (.cons (.toT okRE rfl hob.2.1) .nil)) (c_inhH (Tl rowA fn ff) (Tl rowE dsn dsf) hob.2.2.1 hob.2.2.2.1 hob.2.2.2.2.1)
  · simp at e)
theorem c_l21Asked (f : List Arm) (ds : List Dsc) (h0 : f.length ≤ 1000) (h1 : ds.length ≤ 1000) (h2 : Own ds) : ConN Try.prog 57 [.vec 15 (stdH Nat fun _ => (f).length) (rowsA stdH fun _ => f), .vec 2 (stdH Nat fun _ => (ds).length) (rowsE stdH fun _ => ds)] [] 0 (.lit (.bool (stdH Bool fun _ => okI2 f ds))) [] [] := by
  have hB : Base Try.prog (tabΓ [e_l21Good]) tabO := base_of tabOkO (ents_cons eok_l21Good <| ents_nil)
  refine con_m (N := 30) hB (draw_ok hB mixed) Try.func57 rfl rfl (fun H => [.vec 15 (H Nat fun _ => (f).length) (rowsA H fun _ => f), .vec 2 (H Nat fun _ => (ds).length) (rowsE H fun _ => ds)]) (fun _ => []) 0 (fun H => .lit (.bool (H Bool fun _ => okI2 f ds))) (fun H => []) (fun _ => []) 300 (by simp) (fun x hx => ?_) (by simp [lk]) (by omega) (by simp) ?_
  · simp only [List.mem_cons, List.not_mem_nil, or_false] at hx
    rcases hx with rfl | rfl
    · exact vl_bl okRA f _
    · exact vl_bl okRE ds _
  intro X hX hX0 H hH
  conv in Fin.chk _ _ => cbv
  try simp only [Plain_rowsA, Plain_rowsB, Plain_rowsF, Plain_rowsG, Plain_rowsI, Plain_rowsS, Plain_rowsU, Fin.satC_ret, Fin.satC_br, Fin.satC_need, Fin.satC_again, AllP, and_true, true_and, upd, List.length_nil, List.length_cons, Nat.zero_add, if_true, ncast, Int.ofNat_eq_natCast]
  refine loop_a hB (draw_ok hB mixed) hX hX0 hH false (ι := { i : Nat // i ≤ ds.length ∧ i ≤ 9 ∧ ∀ j, j < i → okQ (ds.getD j default).own = true }) 300 (fun i => [.i (H Int fun _ => (i.1 : Nat))]) (fun i => ds.length - i.1) (⟨0, by omega, by omega, by omega⟩) ?_ ?_
  · (conv in matchSt _ _ _ _ => cbv); simp only [AllG, AllP, and_true, hH, stdH, ncast, Int.ofNat_eq_natCast, vrow_I, Arm.eta2, Fld.eta, Grp.eta]
    exact ⟨rfl, RowsEq.self okRE, RowsEq.self okRA⟩
  · intro I hI i
    conv in Fin.chk _ _ => cbv
    try simp only [Plain_rowsA, Plain_rowsB, Plain_rowsF, Plain_rowsG, Plain_rowsI, Plain_rowsS, Plain_rowsU, Fin.satC_ret, Fin.satC_br, Fin.satC_need, Fin.satC_again, AllP, and_true, true_and, upd, List.length_nil, List.length_cons, Nat.zero_add, if_true, ncast, Int.ofNat_eq_natCast]
    obtain ⟨i, hi, hi9, hj⟩ := i
    have ho := h2.at i
    refine ⟨fun h3 => ⟨?_, ⟨?_, ?_⟩, fun h4 => ?_, fun h4 => ?_⟩, fun h3 => ⟨⟨?_, ?_⟩, ?_⟩⟩
    · simp only [hH, stdH, Int.toNat_natCast] at h3
      have h3 := and_c h3
      try simp only [hH, stdH, decide_eq_true_eq, decide_eq_false_iff_not, Bool.not_eq_true', Bool.not_eq_false', peta, ncast, Int.ofNat_eq_natCast, beq_iff_eq, bne_iff_ne, beq_eq_false_iff_ne, bne_eq_false_iff_eq, ne_eq, Classical.not_not, Int.toNat_natCast, vrow_I, Arm.eta2, Fld.eta, Grp.eta]
      omega
    · try simp only [hH, stdH, decide_eq_true_eq, decide_eq_false_iff_not, Bool.not_eq_true', Bool.not_eq_false', peta, ncast, Int.ofNat_eq_natCast, beq_iff_eq, bne_iff_ne, beq_eq_false_iff_ne, bne_eq_false_iff_eq, ne_eq, Classical.not_not, Int.toNat_natCast, vrow_I, Arm.eta2, Fld.eta, Grp.eta]
      exact Shp_A _ _
    · try simp only [hH, stdH, decide_eq_true_eq, decide_eq_false_iff_not, Bool.not_eq_true', Bool.not_eq_false', peta, ncast, Int.ofNat_eq_natCast, beq_iff_eq, bne_iff_ne, beq_eq_false_iff_ne, bne_eq_false_iff_eq, ne_eq, Classical.not_not, Int.toNat_natCast, vrow_I, Arm.eta2, Fld.eta, Grp.eta]
      simp only [Tl_A]; omega
    · simp only [hH, stdH, Int.toNat_natCast] at h3
      have h3 := and_c h3
      simp only [hH, stdH, Int.toNat_natCast] at h4
      simp only [Tl_A, Bool.not_eq_true'] at h4
      try simp only [hH, stdH, decide_eq_true_eq, decide_eq_false_iff_not, Bool.not_eq_true', Bool.not_eq_false', peta, ncast, Int.ofNat_eq_natCast, beq_iff_eq, bne_iff_ne, beq_eq_false_iff_ne, bne_eq_false_iff_eq, ne_eq, Classical.not_not, Int.toNat_natCast, vrow_I, Arm.eta2, Fld.eta, Grp.eta]
      exact okI2_at (by omega) h4
    · simp only [hH, stdH, Int.toNat_natCast] at h3
      have h3 := and_c h3
      simp only [hH, stdH, Int.toNat_natCast] at h4
      simp only [Tl_A, Bool.not_eq_false'] at h4
      refine ⟨⟨i + 1, by omega, by omega, fun j hj' => ?_⟩, by simp only; omega, ?_⟩
      · rcases Nat.lt_succ_iff_lt_or_eq.1 hj' with h | rfl
        · exact hj j h
        · exact h4
      · rw [hI]
        (conv in matchSt _ _ _ _ => cbv); simp only [AllG, AllP, and_true, hH, stdH, ncast, Int.ofNat_eq_natCast, vrow_I, Arm.eta2, Fld.eta, Grp.eta]
        rw [w1 (by omega)]
        (repeat' (first | trivial | exact RowsEq.self okRA | exact RowsEq.self okRE | rfl | refine And.intro ?_ ?_))
    · try simp only [hH, stdH, decide_eq_true_eq, decide_eq_false_iff_not, Bool.not_eq_true', Bool.not_eq_false', peta, ncast, Int.ofNat_eq_natCast, beq_iff_eq, bne_iff_ne, beq_eq_false_iff_ne, bne_eq_false_iff_eq, ne_eq, Classical.not_not, Int.toNat_natCast, vrow_I, Arm.eta2, Fld.eta, Grp.eta]
      exact Shp_A _ _
    · try simp only [hH, stdH, decide_eq_true_eq, decide_eq_false_iff_not, Bool.not_eq_true', Bool.not_eq_false', peta, ncast, Int.ofNat_eq_natCast, beq_iff_eq, bne_iff_ne, beq_eq_false_iff_ne, bne_eq_false_iff_eq, ne_eq, Classical.not_not, Int.toNat_natCast, vrow_I, Arm.eta2, Fld.eta, Grp.eta]
      simp only [Tl_A]; omega
    · simp only [hH, stdH, Int.toNat_natCast] at h3
      have h3 := and_n h3
      try simp only [hH, stdH, decide_eq_true_eq, decide_eq_false_iff_not, Bool.not_eq_true', Bool.not_eq_false', peta, ncast, Int.ofNat_eq_natCast, beq_iff_eq, bne_iff_ne, beq_eq_false_iff_ne, bne_eq_false_iff_eq, ne_eq, Classical.not_not, Int.toNat_natCast, vrow_I, Arm.eta2, Fld.eta, Grp.eta]
      simp only [Tl_A]
      cases hq : okQ f with
      | false => unfold okI2; rw [hq]; rfl
      | true =>
        rw [cond_true]
        by_cases hl : ds.length ≤ 8
        · obtain rfl : i = ds.length := by omega
          rw [okI2_all hq hl hj, decide_eq_true (by omega)]
        · unfold okI2
          rw [decide_eq_false hl, decide_eq_false (by omega)]; simp
noncomputable def e_l21Asked : Entry := pureE 57 fun H a => match a with
  | [.vec 15 fn ff, .vec 2 dsn dsf] => some (.lit (.bool (H Bool fun _ => okI2 (Tl rowA fn ff) (Tl rowE dsn dsf))), [H Prop fun _ => Shp rowA fn ff, H Prop fun _ => Shp rowE dsn dsf, H Prop fun _ => (Tl rowA fn ff).length ≤ 1000, H Prop fun _ => (Tl rowE dsn dsf).length ≤ 1000, H Prop fun _ => Own (Tl rowE dsn dsf)])
  | _ => none
theorem eok_l21Asked : EntryOk Try.prog e_l21Asked := pureM_ok (by unfold isBody; kernel_rfl) (by
  intro a r ob e hob
  split at e
  · rename_i fn ff dsn dsf
    simp only [Option.some.injEq, Prod.mk.injEq] at e
    obtain ⟨rfl, rfl⟩ := e
    exact ConN.args (.cons (.toT okRA rfl hob.1) (.cons (.toT okRE rfl hob.2.1) .nil)) (c_l21Asked (Tl rowA fn ff) (Tl rowE dsn dsf) hob.2.2.1 hob.2.2.2.1 hob.2.2.2.2.1)
  · simp at e)
theorem c_inhHS (f : List Arm) (ds : List Dsc) (h0 : f.length ≤ 1000) (h1 : ds.length ≤ 1000) (h2 : Own ds) : ConN Try.prog 22 [.vec 15 (stdH Nat fun _ => (f).length) (rowsA stdH fun _ => f), .vec 2 (stdH Nat fun _ => (ds).length) (rowsE stdH fun _ => ds)] [] 0 (.tup [.vec 15 (stdH Nat fun _ => (if okI2 f ds then inh f ds else []).length) (rowsA stdH fun _ => if okI2 f ds then inh f ds else []), .lit (.bool (stdH Bool fun _ => okI2 f ds))]) [] [] := by
  have hB : Base Try.prog (tabΓ [e_l21Asked, e_l21Merge]) tabO := base_of tabOkO (ents_cons eok_l21Asked <| ents_cons eok_l21Merge <| ents_nil)
  refine con_m (N := 35) hB (draw_ok hB mixed) Try.func22 rfl rfl (fun H => [.vec 15 (H Nat fun _ => (f).length) (rowsA H fun _ => f), .vec 2 (H Nat fun _ => (ds).length) (rowsE H fun _ => ds)]) (fun _ => []) 0 (fun H => .tup [.vec 15 (H Nat fun _ => (if okI2 f ds then inh f ds else []).length) (rowsA H fun _ => if okI2 f ds then inh f ds else []), .lit (.bool (H Bool fun _ => okI2 f ds))]) (fun H => []) (fun _ => []) 300 (by simp) (fun x hx => ?_) (by simp [lk]) (by omega) (by simp) ?_
  · simp only [List.mem_cons, List.not_mem_nil, or_false] at hx
    rcases hx with rfl | rfl
    · exact vl_bl okRA f _
    · exact vl_bl okRE ds _
  intro X hX hX0 H hH
  conv in Fin.chk _ _ => cbv
  try simp only [Plain_rowsA, Plain_rowsB, Plain_rowsF, Plain_rowsG, Plain_rowsI, Plain_rowsS, Plain_rowsU, Fin.satC_ret, Fin.satC_br, Fin.satC_need, Fin.satC_again, AllP, and_true, true_and, upd, List.length_nil, List.length_cons, Nat.zero_add, if_true, ncast, Int.ofNat_eq_natCast]
  refine ⟨?_, fun h => ?_, fun h => ⟨?_, ?_⟩⟩
  · try simp only [hH, stdH, decide_eq_true_eq, decide_eq_false_iff_not, Bool.not_eq_true', Bool.not_eq_false', peta, ncast, Int.ofNat_eq_natCast, beq_iff_eq, bne_iff_ne, beq_eq_false_iff_ne, bne_eq_false_iff_eq, ne_eq, Classical.not_not, Int.toNat_natCast, vrow_I, Arm.eta2, Fld.eta, Grp.eta]
    simp only [Tl_A, Tl_E]
    exact ⟨Shp_A _ _, Shp_E _ _, h0, h1, h2⟩
  · simp only [hH, stdH, Int.toNat_natCast] at h
    simp only [Tl_A, Tl_E, Bool.not_eq_true'] at h
    rw [h]
    try simp only [hH, stdH, decide_eq_true_eq, decide_eq_false_iff_not, Bool.not_eq_true', Bool.not_eq_false', peta, ncast, Int.ofNat_eq_natCast, beq_iff_eq, bne_iff_ne, beq_eq_false_iff_ne, bne_eq_false_iff_eq, ne_eq, Classical.not_not, Int.toNat_natCast, vrow_I, Arm.eta2, Fld.eta, Grp.eta]
    exact ⟨trivial, RowsEq.ofT okRA rfl (Shp_zero _) rfl⟩
  · try simp only [hH, stdH, decide_eq_true_eq, decide_eq_false_iff_not, Bool.not_eq_true', Bool.not_eq_false', peta, ncast, Int.ofNat_eq_natCast, beq_iff_eq, bne_iff_ne, beq_eq_false_iff_ne, bne_eq_false_iff_eq, ne_eq, Classical.not_not, Int.toNat_natCast, vrow_I, Arm.eta2, Fld.eta, Grp.eta]
    exact ⟨trivial, by omega, by omega⟩
  · simp only [hH, stdH, Int.toNat_natCast] at h
    simp only [Tl_A, Tl_E, Bool.not_eq_false'] at h
    have hf12 : f.length ≤ 12 := by
      unfold okI2 at h
      rw [Bool.and_eq_true] at h
      exact (okQ_len h.1).2
    refine loop_a hB (draw_ok hB mixed) hX hX0 hH false (ι := { i : Nat // i ≤ ds.length }) 300 (fun i => [.r (H Nat fun _ => (inh f (ds.take i.1)).length) (rowsA H fun _ => inh f (ds.take i.1)), .i (H Int fun _ => (i.1 : Nat))]) (fun i => ds.length - i.1) (⟨0, by omega⟩) ?_ ?_
    · (conv in matchSt _ _ _ _ => cbv); simp only [AllG, AllP, and_true, hH, stdH, ncast, Int.ofNat_eq_natCast, vrow_I, Arm.eta2, Fld.eta, Grp.eta]
      exact ⟨app0 f, rfl, rfl, trivial, RowsEq.self okRE⟩
    · intro I hI i
      conv in Fin.chk _ _ => cbv
      try simp only [Plain_rowsA, Plain_rowsB, Plain_rowsF, Plain_rowsG, Plain_rowsI, Plain_rowsS, Plain_rowsU, Fin.satC_ret, Fin.satC_br, Fin.satC_need, Fin.satC_again, AllP, and_true, true_and, upd, List.length_nil, List.length_cons, Nat.zero_add, if_true, ncast, Int.ofNat_eq_natCast]
      obtain ⟨i, hi⟩ := i
      have hle : (inh f (ds.take i)).length ≤ 12 := inh_le hf12
      have ho := h2.at i
      refine ⟨fun h3 => ⟨?_, fun h5 => ⟨?_, ⟨?_, ?_, ?_, ?_, ?_, ?_⟩, ?_⟩, fun h5 => ?_⟩, fun h3 => ?_⟩
      · simp only [hH, stdH, decide_eq_true_eq, decide_eq_false_iff_not, Bool.not_eq_true', Bool.not_eq_false', peta, ncast, Int.ofNat_eq_natCast, beq_iff_eq, bne_iff_ne, beq_eq_false_iff_ne, bne_eq_false_iff_eq, ne_eq, Classical.not_not, Int.toNat_natCast, vrow_I, Arm.eta2, Fld.eta, Grp.eta] at h3 ⊢
        omega
      · simp only [hH, stdH, decide_eq_true_eq, decide_eq_false_iff_not, Bool.not_eq_true', Bool.not_eq_false', peta, ncast, Int.ofNat_eq_natCast, beq_iff_eq, bne_iff_ne, beq_eq_false_iff_ne, bne_eq_false_iff_eq, ne_eq, Classical.not_not, Int.toNat_natCast, vrow_I, Arm.eta2, Fld.eta, Grp.eta] at h3 ⊢
        omega
      · try simp only [hH, stdH, decide_eq_true_eq, decide_eq_false_iff_not, Bool.not_eq_true', Bool.not_eq_false', peta, ncast, Int.ofNat_eq_natCast, beq_iff_eq, bne_iff_ne, beq_eq_false_iff_ne, bne_eq_false_iff_eq, ne_eq, Classical.not_not, Int.toNat_natCast, vrow_I, Arm.eta2, Fld.eta, Grp.eta]
        exact fun j _ => rfl
      · try simp only [hH, stdH, decide_eq_true_eq, decide_eq_false_iff_not, Bool.not_eq_true', Bool.not_eq_false', peta, ncast, Int.ofNat_eq_natCast, beq_iff_eq, bne_iff_ne, beq_eq_false_iff_ne, bne_eq_false_iff_eq, ne_eq, Classical.not_not, Int.toNat_natCast, vrow_I, Arm.eta2, Fld.eta, Grp.eta]
        exact Shp_A _ _
      · try simp only [hH, stdH, decide_eq_true_eq, decide_eq_false_iff_not, Bool.not_eq_true', Bool.not_eq_false', peta, ncast, Int.ofNat_eq_natCast, beq_iff_eq, bne_iff_ne, beq_eq_false_iff_ne, bne_eq_false_iff_eq, ne_eq, Classical.not_not, Int.toNat_natCast, vrow_I, Arm.eta2, Fld.eta, Grp.eta]
        exact Shp_A _ _
      · try simp only [hH, stdH, decide_eq_true_eq, decide_eq_false_iff_not, Bool.not_eq_true', Bool.not_eq_false', peta, ncast, Int.ofNat_eq_natCast, beq_iff_eq, bne_iff_ne, beq_eq_false_iff_ne, bne_eq_false_iff_eq, ne_eq, Classical.not_not, Int.toNat_natCast, vrow_I, Arm.eta2, Fld.eta, Grp.eta]
        simp only [Tl_A]; omega
      · try simp only [hH, stdH, decide_eq_true_eq, decide_eq_false_iff_not, Bool.not_eq_true', Bool.not_eq_false', peta, ncast, Int.ofNat_eq_natCast, beq_iff_eq, bne_iff_ne, beq_eq_false_iff_ne, bne_eq_false_iff_eq, ne_eq, Classical.not_not, Int.toNat_natCast, vrow_I, Arm.eta2, Fld.eta, Grp.eta]
        simp only [Tl_A]; omega
      · try simp only [hH, stdH, decide_eq_true_eq, decide_eq_false_iff_not, Bool.not_eq_true', Bool.not_eq_false', peta, ncast, Int.ofNat_eq_natCast, beq_iff_eq, bne_iff_ne, beq_eq_false_iff_ne, bne_eq_false_iff_eq, ne_eq, Classical.not_not, Int.toNat_natCast, vrow_I, Arm.eta2, Fld.eta, Grp.eta]
        try trivial
      · simp only [hH, stdH, decide_eq_true_eq, decide_eq_false_iff_not, Bool.not_eq_true', Bool.not_eq_false', peta, ncast, Int.ofNat_eq_natCast, beq_iff_eq, bne_iff_ne, beq_eq_false_iff_ne, bne_eq_false_iff_eq, ne_eq, Classical.not_not, Int.toNat_natCast, vrow_I, Arm.eta2, Fld.eta, Grp.eta] at h3 h5
        have e := inh_succ (f := f) (ds := ds) (i := i) (by omega)
        rw [if_pos h5] at e
        refine ⟨⟨i + 1, by omega⟩, by simp only; omega, ?_⟩
        rw [hI]
        (conv in matchSt _ _ _ _ => cbv); simp only [AllG, AllP, and_true, hH, stdH, ncast, Int.ofNat_eq_natCast, vrow_I, Arm.eta2, Fld.eta, Grp.eta]
        simp only [Tl_A]
        rw [w1 (by omega), e]
        (repeat' (first | trivial | exact RowsEq.self okRA | exact RowsEq.self okRE | rfl | refine And.intro ?_ ?_))
      · simp only [hH, stdH, decide_eq_true_eq, decide_eq_false_iff_not, Bool.not_eq_true', Bool.not_eq_false', peta, ncast, Int.ofNat_eq_natCast, beq_iff_eq, bne_iff_ne, beq_eq_false_iff_ne, bne_eq_false_iff_eq, ne_eq, Classical.not_not, Int.toNat_natCast, vrow_I, Arm.eta2, Fld.eta, Grp.eta] at h3 h5
        have e := inh_succ (f := f) (ds := ds) (i := i) (by omega)
        rw [if_neg (by rw [h5]; decide)] at e
        refine ⟨⟨i + 1, by omega⟩, by simp only; omega, ?_⟩
        rw [hI]
        (conv in matchSt _ _ _ _ => cbv); simp only [AllG, AllP, and_true, hH, stdH, ncast, Int.ofNat_eq_natCast, vrow_I, Arm.eta2, Fld.eta, Grp.eta]
        rw [w1 (by omega), e]
        (repeat' (first | trivial | exact RowsEq.self okRA | exact RowsEq.self okRE | rfl | refine And.intro ?_ ?_))
      · simp only [hH, stdH, decide_eq_true_eq, decide_eq_false_iff_not, Bool.not_eq_true', Bool.not_eq_false', peta, ncast, Int.ofNat_eq_natCast, beq_iff_eq, bne_iff_ne, beq_eq_false_iff_ne, bne_eq_false_iff_eq, ne_eq, Classical.not_not, Int.toNat_natCast, vrow_I, Arm.eta2, Fld.eta, Grp.eta] at h3
        obtain rfl : i = ds.length := by omega
        rw [h, List.take_length]
        try simp only [hH, stdH, decide_eq_true_eq, decide_eq_false_iff_not, Bool.not_eq_true', Bool.not_eq_false', peta, ncast, Int.ofNat_eq_natCast, beq_iff_eq, bne_iff_ne, beq_eq_false_iff_ne, bne_eq_false_iff_eq, ne_eq, Classical.not_not, Int.toNat_natCast, vrow_I, Arm.eta2, Fld.eta, Grp.eta]
        exact ⟨trivial, RowsEq.self okRA⟩
noncomputable def e_inhHS : Entry := pureE 22 fun H a => match a with
  | [.vec 15 fn ff, .vec 2 dsn dsf] => some (.tup [.vec 15 (H Nat fun _ => (if okI2 (Tl rowA fn ff) (Tl rowE dsn dsf) then inh (Tl rowA fn ff) (Tl rowE dsn dsf) else []).length) (rowsA H fun _ => if okI2 (Tl rowA fn ff) (Tl rowE dsn dsf) then inh (Tl rowA fn ff) (Tl rowE dsn dsf) else []), .lit (.bool (H Bool fun _ => okI2 (Tl rowA fn ff) (Tl rowE dsn dsf)))], [H Prop fun _ => Shp rowA fn ff, H Prop fun _ => Shp rowE dsn dsf, H Prop fun _ => (Tl rowA fn ff).length ≤ 1000, H Prop fun _ => (Tl rowE dsn dsf).length ≤ 1000, H Prop fun _ => Own (Tl rowE dsn dsf)])
  | _ => none
theorem eok_inhHS : EntryOk Try.prog e_inhHS := pureM_ok (by unfold isBody; kernel_rfl) (by
  intro a r ob e hob
  split at e
  · rename_i fn ff dsn dsf
    simp only [Option.some.injEq, Prod.mk.injEq] at e
    obtain ⟨rfl, rfl⟩ := e
    exact ConN.args (.cons (.toT okRA rfl hob.1) (.cons (.toT okRE rfl hob.2.1) .nil)) (c_inhHS (Tl rowA fn ff) (Tl rowE dsn dsf) hob.2.2.1 hob.2.2.2.1 hob.2.2.2.2.1)
  · simp at e)

end Go.Proofs.Ytfamdalilcbloaa.AM
