import Derived.Test.YtmpbmbioeeckeaaAmT
import Derived.Test.YtmpbmbioeeckeaaSrt
set_option linter.unusedVariables false
set_option linter.unusedSimpArgs false
set_option maxRecDepth 100000
set_option maxHeartbeats 4000000
set_option cbv.maxSteps 3000000
namespace Go.Proofs.Ytmpbmbioeeckeaa.AM
/- At most twelve numbers sorted by the library; conditions: none. -/
theorem wn {n : Nat} (h : n ≤ 4000000) : IntKind.i64.wrap ((n : Int) - 0) = n := by rw [wi] <;> omega
theorem c_pdq (l : List Int) (a : Int) (b : Int) (lim : Int) (h0 : l.length ≤ 12) (h1 : a = 0 ∧ b = l.length) : ConN Try.prog 83 [.slc 0 0 1 (stdH Nat fun _ => l.length), .lit (.int .i64 a), .lit (.int .i64 b), .lit (.int .i64 lim)] [(0, .rows 1 (stdH Nat fun _ => l.length) (rowsI stdH fun _ => l) 3)] 1 (.tup []) [] [(0, .rows 1 (stdH Nat fun _ => l.length) (rowsI stdH fun _ => isr ltI 0 l (l.length - 1)) 3)] := by
  have hB : Base Try.prog (tabΓ [e_isort]) tabU := base_of tabOkU (ents_cons eok_isort <| ents_nil)
  refine con_m (N := 134) hB (draw_ok hB mixed) Try.func83 rfl rfl (fun H => [.slc 0 0 1 (H Nat fun _ => l.length), .lit (.int .i64 a), .lit (.int .i64 b), .lit (.int .i64 lim)]) (fun H => [(0, .rows 1 (H Nat fun _ => l.length) (rowsI H fun _ => l) 3)]) 1 (fun H => .tup []) (fun H => []) (fun H => [(0, .rows 1 (H Nat fun _ => l.length) (rowsI H fun _ => isr ltI 0 l (l.length - 1)) 3)]) 600 (by simp) (fun x hx => ?_) (fun i b hi => ?_) (fun i hi => ?_) (fun i b hi => ?_) ?_
  · simp only [List.mem_cons, List.not_mem_nil, or_false] at hx
    rcases hx with rfl | rfl | rfl | rfl
    · exact .slc (by omega)
    · exact .lit
    · exact .lit
    · exact .lit
  · have := lk_in hi
    simp only [List.mem_cons, List.not_mem_nil, or_false, Prod.mk.injEq] at this
    obtain ⟨rfl, rfl⟩ := this
    exact ⟨by omega, bT_bl okI _ (fun _ => l) _, _, List.mem_cons_self⟩
  · obtain rfl : i = 0 := by omega
    exact ⟨_, rfl⟩
  · simp only [List.mem_cons, List.not_mem_nil, or_false, Prod.mk.injEq] at hi
    obtain ⟨rfl, rfl⟩ := hi
    exact ⟨_, rfl⟩
  intro X hX hX0 H hH
  conv in Fin.chk _ _ => cbv
  try simp only [Plain_rowsA, Plain_rowsB, Plain_rowsF, Plain_rowsG, Plain_rowsI, Plain_rowsS, Plain_rowsU, Fin.satC_ret, Fin.satC_br, Fin.satC_need, Fin.satC_again, AllP, and_true, true_and, upd, List.length_nil, List.length_cons, Nat.zero_add, if_true, ncast, Int.ofNat_eq_natCast]
  obtain ⟨rfl, rfl⟩ := h1
  subst hH
  simp only [stdH]
  have w : IntKind.i64.wrap ((l.length : Int) - 0) = (l.length : Int) := wn (by omega)
  refine ⟨fun _ => ⟨⟨trivial, Shp_I _ _, by simp only [Tl_I]; omega, trivial, by simp only [Tl_I]⟩, ?_⟩, fun h => ?_⟩
  · simp only [Tl_I]
    have := RowsEq.self okI (L := isr ltI 0 l (l.length - 1))
    rw [isr_len] at this
    exact this
  · exfalso
    rw [w] at h
    simp at h
    omega
noncomputable def e_pdq : Entry := modE 83 1 3 fun H n g a => match a with
  | [.lit (.int .i64 a), .lit (.int .i64 b), .lit (.int .i64 lim)] => some (.tup [], rowsI H fun _ => isr ltI 0 (Tl rowI n g) ((Tl rowI n g).length - 1), [H Prop fun _ => Shp rowI n g, H Prop fun _ => (Tl rowI n g).length ≤ 12, H Prop fun _ => a = 0 ∧ b = (Tl rowI n g).length])
  | _ => none
theorem eok_pdq : EntryOk Try.prog e_pdq := modE_ok (by unfold isBody; kernel_rfl) (by
  intro n g a r g' ob e hob
  split at e
  · rename_i a b lim
    simp only [Option.some.injEq, Prod.mk.injEq] at e
    obtain ⟨rfl, rfl, rfl⟩ := e
    have hs := hob.1
    have hl : (Tl rowI n g).length = n := Tl_len n g
    refine ⟨rowsI stdH fun _ => Tl rowI n g, fun j hj => ⟨?_, ?_⟩, ?_, fun x hx => ?_, ?_, fun j hj => ?_⟩
    · rw [hs.row j hj]; exact ((okI).row (fun _ => Tl rowI n g) j).trans (by rw [Tl_getD hj])
    · exact rows_blx okI _ j
    · have := c_pdq (Tl rowI n g) a b lim hob.2.1 hob.2.2.1
      simp only [stdH, hl] at this ⊢
      exact ConN.args (.cons .rfl (.cons .rfl (.cons .rfl (.cons .rfl .nil)))) this
    · simp only [List.mem_cons, List.not_mem_nil, or_false] at hx
      rcases hx with rfl | rfl | rfl
      · exact .lit
      · exact .lit
      · exact .lit
    · first | exact .lit | exact .tup fun x h => (by cases h)
    · exact rows_blx okI _ j
  · simp at e)
def len8 (x : Int) : Int := ([0, 1, 2, 2, 3, 3, 3, 3, 4, 4, 4, 4, 4, 4, 4, 4, 5, 5, 5, 5, 5, 5, 5, 5] : List Int).getD x.toNat 0
theorem c_len64 (x : Int) (h0 : 0 ≤ x ∧ x < 24) : ConN Try.prog 109 [.lit (.int .u64 x)] [] 0 (.lit (.int .i64 (stdH Int fun _ => len8 x))) [] [] := by
  have hB : Base Try.prog (tabΓ []) tab := base_of tabOk (ents_nil)
  refine con_m (N := 25) hB (draw_ok hB mixed) Try.func109 rfl rfl (fun H => [.lit (.int .u64 x)]) (fun _ => []) 0 (fun H => .lit (.int .i64 (H Int fun _ => len8 x))) (fun H => []) (fun _ => []) 300 (by simp) (fun x hx => ?_) (by simp [lk]) (by omega) (by simp) ?_
  · simp only [List.mem_cons, List.not_mem_nil, or_false] at hx
    rcases hx with rfl
    · exact .lit
  intro X hX hX0 H hH
  conv in Fin.chk _ _ => cbv
  try simp only [Plain_rowsA, Plain_rowsB, Plain_rowsF, Plain_rowsG, Plain_rowsI, Plain_rowsS, Plain_rowsU, Fin.satC_ret, Fin.satC_br, Fin.satC_need, Fin.satC_again, AllP, and_true, true_and, upd, List.length_nil, List.length_cons, Nat.zero_add, if_true, ncast, Int.ofNat_eq_natCast]
  obtain ⟨h0, h1⟩ := h0
  obtain ⟨n, rfl⟩ : ∃ n : Nat, x = n := ⟨x.toNat, by omega⟩
  refine ⟨fun h => ?_, fun h => ⟨fun h2 => ?_, fun h2 => ⟨fun h3 => ?_, fun h3 => ?_⟩⟩⟩
  · exfalso
    simp only [hH, stdH, decide_eq_true_eq, decide_eq_false_iff_not, Bool.not_eq_true', Bool.not_eq_false', peta, ncast, Int.ofNat_eq_natCast, beq_iff_eq, bne_iff_ne, beq_eq_false_iff_ne, bne_eq_false_iff_eq, ne_eq, Classical.not_not, Int.toNat_natCast, vrow_I, Arm.eta2, Fld.eta, Grp.eta] at h
    omega
  · exfalso
    simp only [hH, stdH, decide_eq_true_eq, decide_eq_false_iff_not, Bool.not_eq_true', Bool.not_eq_false', peta, ncast, Int.ofNat_eq_natCast, beq_iff_eq, bne_iff_ne, beq_eq_false_iff_ne, bne_eq_false_iff_eq, ne_eq, Classical.not_not, Int.toNat_natCast, vrow_I, Arm.eta2, Fld.eta, Grp.eta] at h2
    omega
  · exfalso
    simp only [hH, stdH, decide_eq_true_eq, decide_eq_false_iff_not, Bool.not_eq_true', Bool.not_eq_false', peta, ncast, Int.ofNat_eq_natCast, beq_iff_eq, bne_iff_ne, beq_eq_false_iff_ne, bne_eq_false_iff_eq, ne_eq, Classical.not_not, Int.toNat_natCast, vrow_I, Arm.eta2, Fld.eta, Grp.eta] at h3
    omega
  · clear h h2 h3 h0
    subst hH
    simp only [stdH]
    have hn : n < 24 := by omega
    clear h1
    revert n
    decide
noncomputable def e_len64 : Entry := pureE 109 fun H a => match a with
  | [.lit (.int .u64 x)] => some (.lit (.int .i64 (H Int fun _ => len8 x)), [H Prop fun _ => 0 ≤ x ∧ x < 24])
  | _ => none
theorem eok_len64 : EntryOk Try.prog e_len64 := pureM_ok (by unfold isBody; kernel_rfl) (by
  intro a r ob e hob
  split at e
  · rename_i x
    simp only [Option.some.injEq, Prod.mk.injEq] at e
    obtain ⟨rfl, rfl⟩ := e
    exact ConN.args (.cons .rfl .nil) (c_len64 x hob.1)
  · simp at e)
theorem c_len (x : Int) (h0 : 0 ≤ x ∧ x < 24) : ConN Try.prog 84 [.lit (.int .u64 x)] [] 0 (.lit (.int .i64 (stdH Int fun _ => len8 x))) [] [] := by
  have hB : Base Try.prog (tabΓ [e_len64]) tab := base_of tabOk (ents_cons eok_len64 <| ents_nil)
  refine con_m (N := 8) hB (draw_ok hB mixed) Try.func84 rfl rfl (fun H => [.lit (.int .u64 x)]) (fun _ => []) 0 (fun H => .lit (.int .i64 (H Int fun _ => len8 x))) (fun H => []) (fun _ => []) 300 (by simp) (fun x hx => ?_) (by simp [lk]) (by omega) (by simp) ?_
  · simp only [List.mem_cons, List.not_mem_nil, or_false] at hx
    rcases hx with rfl
    · exact .lit
  intro X hX hX0 H hH
  conv in Fin.chk _ _ => cbv
  try simp only [Plain_rowsA, Plain_rowsB, Plain_rowsF, Plain_rowsG, Plain_rowsI, Plain_rowsS, Plain_rowsU, Fin.satC_ret, Fin.satC_br, Fin.satC_need, Fin.satC_again, AllP, and_true, true_and, upd, List.length_nil, List.length_cons, Nat.zero_add, if_true, ncast, Int.ofNat_eq_natCast]
  refine ⟨fun h => (by cases h), fun _ => ⟨?_, ?_⟩⟩
  · subst hH; exact h0
  · subst hH; trivial
noncomputable def e_len : Entry := pureE 84 fun H a => match a with
  | [.lit (.int .u64 x)] => some (.lit (.int .i64 (H Int fun _ => len8 x)), [H Prop fun _ => 0 ≤ x ∧ x < 24])
  | _ => none
theorem eok_len : EntryOk Try.prog e_len := pureM_ok (by unfold isBody; kernel_rfl) (by
  intro a r ob e hob
  split at e
  · rename_i x
    simp only [Option.some.injEq, Prod.mk.injEq] at e
    obtain ⟨rfl, rfl⟩ := e
    exact ConN.args (.cons .rfl .nil) (c_len x hob.1)
  · simp at e)
theorem c_sortI (l : List Int)  (h0 : l.length ≤ 12) : ConN Try.prog 49 [.slc 0 0 1 (stdH Nat fun _ => l.length)] [(0, .rows 1 (stdH Nat fun _ => l.length) (rowsI stdH fun _ => l) 3)] 1 (.tup []) [] [(0, .rows 1 (stdH Nat fun _ => l.length) (rowsI stdH fun _ => isr ltI 0 l (l.length - 1)) 3)] := by
  have hB : Base Try.prog (tabΓ [e_pdq, e_len]) tab := base_of tabOk (ents_cons eok_pdq <| ents_cons eok_len <| ents_nil)
  refine con_m (N := 11) hB (draw_ok hB mixed) Try.func49 rfl rfl (fun H => [.slc 0 0 1 (H Nat fun _ => l.length)]) (fun H => [(0, .rows 1 (H Nat fun _ => l.length) (rowsI H fun _ => l) 3)]) 1 (fun H => .tup []) (fun H => []) (fun H => [(0, .rows 1 (H Nat fun _ => l.length) (rowsI H fun _ => isr ltI 0 l (l.length - 1)) 3)]) 300 (by simp) (fun x hx => ?_) (fun i b hi => ?_) (fun i hi => ?_) (fun i b hi => ?_) ?_
  · simp only [List.mem_cons, List.not_mem_nil, or_false] at hx
    rcases hx with rfl
    · exact .slc (by omega)

  · have := lk_in hi
    simp only [List.mem_cons, List.not_mem_nil, or_false, Prod.mk.injEq] at this
    obtain ⟨rfl, rfl⟩ := this
    exact ⟨by omega, bT_bl okI _ (fun _ => l) _, _, List.mem_cons_self⟩
  · obtain rfl : i = 0 := by omega
    exact ⟨_, rfl⟩
  · simp only [List.mem_cons, List.not_mem_nil, or_false, Prod.mk.injEq] at hi
    obtain ⟨rfl, rfl⟩ := hi
    exact ⟨_, rfl⟩
  intro X hX hX0 H hH
  conv in Fin.chk _ _ => cbv
  try simp only [Plain_rowsA, Plain_rowsB, Plain_rowsF, Plain_rowsG, Plain_rowsI, Plain_rowsS, Plain_rowsU, Fin.satC_ret, Fin.satC_br, Fin.satC_need, Fin.satC_again, AllP, and_true, true_and, upd, List.length_nil, List.length_cons, Nat.zero_add, if_true, ncast, Int.ofNat_eq_natCast]
  subst hH
  simp only [stdH, Tl_I]
  have w : IntKind.u64.wrap (l.length : Int) = (l.length : Int) := Int.emod_eq_of_lt (by omega) (by show (l.length : Int) < 2 ^ 64; omega)
  rw [w]
  refine ⟨⟨by omega, by omega⟩, ⟨trivial, Shp_I _ _, h0, trivial⟩, ?_⟩
  have := RowsEq.self okI (L := isr ltI 0 l (l.length - 1))
  rw [isr_len] at this
  exact this
noncomputable def e_sortI : Entry := modE 49 1 3 fun H n g a => match a with
  | [] => some (.tup [], rowsI H fun _ => isr ltI 0 (Tl rowI n g) ((Tl rowI n g).length - 1), [H Prop fun _ => Shp rowI n g, H Prop fun _ => (Tl rowI n g).length ≤ 12])
  | _ => none
theorem eok_sortI : EntryOk Try.prog e_sortI := modE_ok (by unfold isBody; kernel_rfl) (by
  intro n g a r g' ob e hob
  split at e
  · simp only [Option.some.injEq, Prod.mk.injEq] at e
    obtain ⟨rfl, rfl, rfl⟩ := e
    have hs := hob.1
    have hl : (Tl rowI n g).length = n := Tl_len n g
    refine ⟨rowsI stdH fun _ => Tl rowI n g, fun j hj => ⟨?_, ?_⟩, ?_, fun x hx => ?_, ?_, fun j hj => ?_⟩
    · rw [hs.row j hj]; exact ((okI).row (fun _ => Tl rowI n g) j).trans (by rw [Tl_getD hj])
    · exact rows_blx okI _ j
    · have := c_sortI (Tl rowI n g)  hob.2.1
      simp only [stdH, hl] at this ⊢
      exact ConN.args (.cons .rfl .nil) this
    · cases hx
    · first | exact .lit | exact .tup fun x h => (by cases h)
    · exact rows_blx okI _ j
  · simp at e)

end Go.Proofs.Ytmpbmbioeeckeaa.AM
