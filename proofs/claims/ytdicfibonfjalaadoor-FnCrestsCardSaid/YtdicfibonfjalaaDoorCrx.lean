import Derived.Test.YtdicfibonfjalaaDoorAmT
import Derived.Test.YtdicfibonfjalaaDoorTxt
import Derived.Test.YtdicfibonfjalaaDoorShf
import Derived.Test.YtdicfibonfjalaaDoorSpl
import Derived.Test.YtdicfibonfjalaaDoorCre
set_option linter.unusedVariables false
set_option linter.unusedSimpArgs false
set_option maxRecDepth 100000
set_option maxHeartbeats 4000000
set_option cbv.maxSteps 3000000
namespace Go.Proofs.YtdicfibonfjalaaDoor.AM
/- Crests as texts; conditions: none. -/
/-- The text ahead of a crest's charge. -/
def crsS (r : Int) : ByteArray := (⟨⟨[111, 110, 32, 97, 32]⟩⟩ : ByteArray) ++ (wordOf hlmL r ++ ((⟨⟨[32, 104, 101, 108, 109, 101, 116, 32, 111, 102, 32]⟩⟩ : ByteArray) ++ ((if r = 1 then (⟨⟨[97, 110, 32]⟩⟩ : ByteArray) else (⟨⟨[97, 32]⟩⟩ : ByteArray)) ++ (wordOf rnkL r ++ (⟨⟨[58, 32]⟩⟩ : ByteArray)))))
def afterS (s : ByteArray) : ByteArray := ⟨(Lib.cut s.data.toList [32]).2.1.toArray⟩
def grpC (z : Crs) : Grp := ⟨1, z.k, z.a, z.t⟩
def crsT (z : Crs) : ByteArray := crsS z.r ++ afterS (grpT (grpC z))
theorem artT_sz (r : Int) : (if r = 1 then (⟨⟨[97, 110, 32]⟩⟩ : ByteArray) else (⟨⟨[97, 32]⟩⟩ : ByteArray)).size ≤ 3 := by split <;> decide
theorem crsS_sz (r : Int) : (crsS r).size ≤ 100 := by
  have h1 := hlmL_sz r; have h2 := rnkL_sz r; have h3 := artT_sz r
  unfold crsS
  simp only [ByteArray.size_append, bsz, List.length_cons, List.length_nil]
  omega
theorem okC_T {z : Crs} (h : okC z = true) : okT (grpC z) ∧ 1 ≤ z.r ∧ z.r ≤ 5 := by
  unfold okC okG attF inB at h
  simp only [Bool.and_eq_true, decide_eq_true_eq] at h
  obtain ⟨⟨⟨h1, h2, h3⟩, h4⟩, h5⟩ := h
  refine ⟨⟨h1, h2, ?_, h4⟩, h5⟩
  show z.a ≤ ((attL z.k).length : Nat)
  by_cases hk : z.k ≤ 3
  · rw [if_pos hk] at h3
    have h3 := of_decide_eq_true h3
    have : (attL z.k).length = 2 := by
      try simp only at h2
      unfold attL
      rcases (by omega : z.k = 1 ∨ z.k = 2 ∨ z.k = 3) with e | e | e <;> rw [e] <;> rfl
    omega
  · rw [if_neg hk] at h3
    have h3 := of_decide_eq_true h3
    omega
theorem afterS_at {s : ByteArray} {i : Nat} (hi : i < s.size) (h : sByte s i = 32) (hj : ∀ j, j < i → sByte s j ≠ 32) : afterS s = s.extract (i + 1) s.size := by
  have e := index_at s.data.toList i ((sByte_32 hi).1 h) (fun j q => fun e => hj j q ((sByte_32 (by omega)).2 e))
  unfold afterS Lib.cut
  rw [e, if_pos (by omega)]
  apply ByteArray.ext
  apply Array.ext'
  have : s.data.toList.length = s.size := rfl
  simp
  rw [List.take_of_length_le (by simp)]
theorem afterS_sz (s : ByteArray) : (afterS s).size ≤ s.size := by
  have : s.data.toList.length = s.size := rfl
  unfold afterS Lib.cut
  split
  · show (List.drop _ _).length ≤ _
    rw [List.length_drop]; omega
  · exact Nat.zero_le _
theorem grpT_32 (g : Grp) : (cntT g.c g.k).size < (grpT g).size ∧ sByte (grpT g) (cntT g.c g.k).size = 32 := by
  have h1 : (cntT g.c g.k).size < (grpT g).size := by
    unfold grpT
    simp only [ByteArray.size_append, bsz, List.length_cons, List.length_nil]
    omega
  refine ⟨h1, (sByte_32 h1).2 ?_⟩
  have : (cntT g.c g.k).size = (cntT g.c g.k).data.toList.length := rfl
  unfold grpT
  rw [ByteArray.toList_data_append, this, List.getElem?_append_right (Nat.le_refl _), Nat.sub_self, ByteArray.toList_data_append]
  rfl
theorem c_crsStart (z : Crs) (h0 : 1 ≤ z.r ∧ z.r ≤ 5) : ConN Tryd.prog 58 [aT rowC stdH fun _ => z] [] 0 (.lit (.string (stdH ByteArray fun _ => crsS z.r))) [] [] := by
  have hB : Base Tryd.prog (tabΓ [e_helm, e_rankWd]) tab := base_of tabOk (ents_cons eok_helm <| ents_cons eok_rankWd <| ents_nil)
  refine con_m (N := 19) hB (draw_ok hB mixed) Tryd.func58 rfl rfl (fun H => [aT rowC H fun _ => z]) (fun _ => []) 0 (fun H => .lit (.string (H ByteArray fun _ => crsS z.r))) (fun H => []) (fun _ => []) 120 (by simp) (fun x hx => ?_) (by simp [lk]) (by omega) (by simp) ?_
  · simp only [List.mem_cons, List.not_mem_nil, or_false] at hx
    rcases hx with rfl
    · exact aT_bl okRC _ _
  intro X hX hX0 H hH
  conv in Fin.chk _ _ => cbv
  try simp only [Plain_rowsA, Plain_rowsB, Plain_rowsC, Plain_rowsF, Plain_rowsG, Plain_rowsI, Plain_rowsS, Plain_rowsU, Fin.satC_ret, Fin.satC_br, Fin.satC_need, Fin.satC_again, AllP, and_true, true_and, upd, List.length_nil, List.length_cons, Nat.zero_add, if_true, ncast, Int.ofNat_eq_natCast]
  subst hH
  simp only [stdH, beq_iff_eq, beq_eq_false_iff_ne, ne_eq]
  have s1 := hlmL_sz z.r
  have s2 := rnkL_sz z.r
  refine ⟨fun h => ?_, fun h => ?_⟩
  · repeat' (first | refine And.intro ?_ ?_ | intro _)
    all_goals first | assumption | omega | (simp only [ByteArray.size_append, bsz, List.length_cons, List.length_nil]; omega) | ((try unfold crsT); unfold crsS; rw [if_pos h]; simp only [ByteArray.append_assoc])
  · repeat' (first | refine And.intro ?_ ?_ | intro _)
    all_goals first | assumption | omega | (simp only [ByteArray.size_append, bsz, List.length_cons, List.length_nil]; omega) | ((try unfold crsT); unfold crsS; rw [if_neg h]; simp only [ByteArray.append_assoc])
noncomputable def e_crsStart : Entry := pureE 58 fun H a => match a with
  | [.agg [.lit (.int .i64 z0), .lit (.int .i64 z1), .lit (.int .i64 z2), .lit (.int .i64 z3)]] => some (.lit (.string (H ByteArray fun _ => crsS (⟨z0, z1, z2, z3⟩ : Crs).r)), [H Prop fun _ => 1 ≤ (⟨z0, z1, z2, z3⟩ : Crs).r ∧ (⟨z0, z1, z2, z3⟩ : Crs).r ≤ 5])
  | _ => none
theorem eok_crsStart : EntryOk Tryd.prog e_crsStart := pureM_ok (by unfold isBody; kernel_rfl) (by
  intro a r ob e hob
  split at e
  · rename_i z0 z1 z2 z3
    simp only [Option.some.injEq, Prod.mk.injEq] at e
    obtain ⟨rfl, rfl⟩ := e
    exact ConN.args (.cons .rfl .nil) (c_crsStart (⟨z0, z1, z2, z3⟩ : Crs) hob.1)
  · simp at e)
theorem c_crestText (z : Crs)  : ConN Tryd.prog 19 [aT rowC stdH fun _ => z] [] 0 (.tup [.lit (.string (stdH ByteArray fun _ => if okC z then crsT z else ByteArray.empty)), .lit (.bool (stdH Bool fun _ => okC z))]) [] [] := by
  have hB : Base Tryd.prog (tabΓ [e_IsValidCrest, e_cgroup, e_grpText, e_cut, e_crsStart]) tab := base_of tabOk (ents_cons eok_IsValidCrest <| ents_cons eok_cgroup <| ents_cons eok_grpText <| ents_cons eok_cut <| ents_cons eok_crsStart <| ents_nil)
  refine con_m (N := 22) hB (draw_ok hB mixed) Tryd.func19 rfl rfl (fun H => [aT rowC H fun _ => z]) (fun _ => []) 0 (fun H => .tup [.lit (.string (H ByteArray fun _ => if okC z then crsT z else ByteArray.empty)), .lit (.bool (H Bool fun _ => okC z))]) (fun H => []) (fun _ => []) 120 (by simp) (fun x hx => ?_) (by simp [lk]) (by omega) (by simp) ?_
  · simp only [List.mem_cons, List.not_mem_nil, or_false] at hx
    rcases hx with rfl
    · exact aT_bl okRC _ _
  intro X hX hX0 H hH
  conv in Fin.chk _ _ => cbv
  try simp only [Plain_rowsA, Plain_rowsB, Plain_rowsC, Plain_rowsF, Plain_rowsG, Plain_rowsI, Plain_rowsS, Plain_rowsU, Fin.satC_ret, Fin.satC_br, Fin.satC_need, Fin.satC_again, AllP, and_true, true_and, upd, List.length_nil, List.length_cons, Nat.zero_add, if_true, ncast, Int.ofNat_eq_natCast]
  subst hH
  simp only [stdH, Crs.eta]
  refine ⟨fun h => ?_, fun h => ?_⟩
  · have h : okC z = false := by simpa using h
    rw [h]; exact ⟨rfl, rfl⟩
  · have h : okC z = true := by simpa using h
    have ⟨h1, h2⟩ := okC_T h
    have s1 := crsS_sz z.r
    have s2 := afterS_sz (grpT (grpC z))
    have s3 := grpT_sz (grpC z)
    refine ⟨h1, by show (grpT (grpC z)).size < _; omega, h2, by show (crsS z.r).size + (afterS (grpT (grpC z))).size ≤ _; omega, h, ?_⟩
    rw [if_pos h]; rfl
noncomputable def e_crestText : Entry := pureE 19 fun H a => match a with
  | [.agg [.lit (.int .i64 z0), .lit (.int .i64 z1), .lit (.int .i64 z2), .lit (.int .i64 z3)]] => some (.tup [.lit (.string (H ByteArray fun _ => if okC (⟨z0, z1, z2, z3⟩ : Crs) then crsT (⟨z0, z1, z2, z3⟩ : Crs) else ByteArray.empty)), .lit (.bool (H Bool fun _ => okC (⟨z0, z1, z2, z3⟩ : Crs)))], [])
  | _ => none
theorem eok_crestText : EntryOk Tryd.prog e_crestText := pureM_ok (by unfold isBody; kernel_rfl) (by
  intro a r ob e hob
  split at e
  · rename_i z0 z1 z2 z3
    simp only [Option.some.injEq, Prod.mk.injEq] at e
    obtain ⟨rfl, rfl⟩ := e
    exact ConN.args (.cons .rfl .nil) (c_crestText (⟨z0, z1, z2, z3⟩ : Crs) )
  · simp at e)
theorem c_l22Words   : ConN Tryd.prog 69 [] [] 0 (.vec 1 (stdH Nat fun _ => (ByteArray.empty :: rnkL).length) (rowsS stdH fun _ => ByteArray.empty :: rnkL)) [] [] := by
  have hB : Base Tryd.prog (tabΓ []) tab := base_of tabOk (ents_nil)
  refine con_m (N := 2) hB (draw_ok hB mixed) Tryd.func69 rfl rfl (fun H => []) (fun _ => []) 0 (fun H => .vec 1 (H Nat fun _ => (ByteArray.empty :: rnkL).length) (rowsS H fun _ => ByteArray.empty :: rnkL)) (fun H => []) (fun _ => []) 60 (by simp) (fun x hx => ?_) (by simp [lk]) (by omega) (by simp) ?_
  · cases hx
  intro X hX hX0 H hH
  conv in Fin.chk _ _ => cbv
  try simp only [Plain_rowsA, Plain_rowsB, Plain_rowsC, Plain_rowsF, Plain_rowsG, Plain_rowsI, Plain_rowsS, Plain_rowsU, Fin.satC_ret, Fin.satC_br, Fin.satC_need, Fin.satC_again, AllP, and_true, true_and, upd, List.length_nil, List.length_cons, Nat.zero_add, if_true, ncast, Int.ofNat_eq_natCast]
  subst hH
  exact RowsEq.self okS (L := ByteArray.empty :: rnkL)
noncomputable def e_l22Words : Entry := pureE 69 fun H a => match a with
  | [] => some (.vec 1 (H Nat fun _ => (ByteArray.empty :: rnkL).length) (rowsS H fun _ => ByteArray.empty :: rnkL), [])
  | _ => none
theorem eok_l22Words : EntryOk Tryd.prog e_l22Words := pureM_ok (by unfold isBody; kernel_rfl) (by
  intro a r ob e hob
  split at e
  · simp only [Option.some.injEq, Prod.mk.injEq] at e
    obtain ⟨rfl, rfl⟩ := e
    exact ConN.args .nil (c_l22Words  )
  · simp at e)
theorem c_l22Helm   : ConN Tryd.prog 70 [] [] 0 (.vec 1 (stdH Nat fun _ => (ByteArray.empty :: hlmL).length) (rowsS stdH fun _ => ByteArray.empty :: hlmL)) [] [] := by
  have hB : Base Tryd.prog (tabΓ []) tab := base_of tabOk (ents_nil)
  refine con_m (N := 2) hB (draw_ok hB mixed) Tryd.func70 rfl rfl (fun H => []) (fun _ => []) 0 (fun H => .vec 1 (H Nat fun _ => (ByteArray.empty :: hlmL).length) (rowsS H fun _ => ByteArray.empty :: hlmL)) (fun H => []) (fun _ => []) 60 (by simp) (fun x hx => ?_) (by simp [lk]) (by omega) (by simp) ?_
  · cases hx
  intro X hX hX0 H hH
  conv in Fin.chk _ _ => cbv
  try simp only [Plain_rowsA, Plain_rowsB, Plain_rowsC, Plain_rowsF, Plain_rowsG, Plain_rowsI, Plain_rowsS, Plain_rowsU, Fin.satC_ret, Fin.satC_br, Fin.satC_need, Fin.satC_again, AllP, and_true, true_and, upd, List.length_nil, List.length_cons, Nat.zero_add, if_true, ncast, Int.ofNat_eq_natCast]
  subst hH
  exact RowsEq.self okS (L := ByteArray.empty :: hlmL)
noncomputable def e_l22Helm : Entry := pureE 70 fun H a => match a with
  | [] => some (.vec 1 (H Nat fun _ => (ByteArray.empty :: hlmL).length) (rowsS H fun _ => ByteArray.empty :: hlmL), [])
  | _ => none
theorem eok_l22Helm : EntryOk Tryd.prog e_l22Helm := pureM_ok (by unfold isBody; kernel_rfl) (by
  intro a r ob e hob
  split at e
  · simp only [Option.some.injEq, Prod.mk.injEq] at e
    obtain ⟨rfl, rfl⟩ := e
    exact ConN.args .nil (c_l22Helm  )
  · simp at e)
theorem c_l22Text (z : Crs) (h0 : okC z = true) : ConN Tryd.prog 60 [aT rowC stdH fun _ => z] [] 0 (.lit (.string (stdH ByteArray fun _ => crsT z))) [] [] := by
  have hB : Base Tryd.prog (tabΓ [e_l22Group, e_l4Text, e_l22Helm, e_l22Words]) tab := base_of tabOk (ents_cons eok_l22Group <| ents_cons eok_l4Text <| ents_cons eok_l22Helm <| ents_cons eok_l22Words <| ents_nil)
  refine con_m (N := 44) hB (draw_ok hB mixed) Tryd.func60 rfl rfl (fun H => [aT rowC H fun _ => z]) (fun _ => []) 0 (fun H => .lit (.string (H ByteArray fun _ => crsT z))) (fun H => []) (fun _ => []) 200 (by simp) (fun x hx => ?_) (by simp [lk]) (by omega) (by simp) ?_
  · simp only [List.mem_cons, List.not_mem_nil, or_false] at hx
    rcases hx with rfl
    · exact aT_bl okRC _ _
  intro X hX hX0 H hH
  conv in Fin.chk _ _ => cbv
  try simp only [Plain_rowsA, Plain_rowsB, Plain_rowsC, Plain_rowsF, Plain_rowsG, Plain_rowsI, Plain_rowsS, Plain_rowsU, Fin.satC_ret, Fin.satC_br, Fin.satC_need, Fin.satC_again, AllP, and_true, true_and, upd, List.length_nil, List.length_cons, Nat.zero_add, if_true, ncast, Int.ofNat_eq_natCast]
  have ⟨h1, h2⟩ := okC_T h0
  have hz := grpT_sz (grpC z)
  have s1 := hlmL_sz z.r
  have s2 := rnkL_sz z.r
  have s3 := afterS_sz (grpT (grpC z))
  refine ⟨?_, ?_⟩
  · try simp only [hH, stdH, decide_eq_true_eq, decide_eq_false_iff_not, Bool.not_eq_true', Bool.not_eq_false', peta, ncast, Int.ofNat_eq_natCast, beq_iff_eq, bne_iff_ne, beq_eq_false_iff_ne, bne_eq_false_iff_eq, ne_eq, Classical.not_not, Int.toNat_natCast, vrow_I, Arm.eta2, Fld.eta, Grp.eta]
    exact h1
  refine loop_a hB (draw_ok hB mixed) hX hX0 hH false (ι := { i : Nat // i ≤ (grpT (grpC z)).size ∧ ∀ j, j < i → sByte (grpT (grpC z)) j ≠ 32 }) 200 (fun i => [.s (H ByteArray fun _ => grpT (grpC z)), .i (H Int fun _ => (i.1 : Nat))]) (fun i => (grpT (grpC z)).size - i.1) (⟨0, by omega, by omega⟩) ?_ ?_
  · (conv in matchSt _ _ _ _ => cbv); simp only [AllG, AllP, and_true, hH, stdH, ncast, Int.ofNat_eq_natCast, vrow_I, Arm.eta2, Fld.eta, Grp.eta]
    (repeat' (first | exact trivial | rfl | omega | refine And.intro ?_ ?_))
  · intro I hI i
    conv in Fin.chk _ _ => cbv
    try simp only [Plain_rowsA, Plain_rowsB, Plain_rowsC, Plain_rowsF, Plain_rowsG, Plain_rowsI, Plain_rowsS, Plain_rowsU, Fin.satC_ret, Fin.satC_br, Fin.satC_need, Fin.satC_again, AllP, and_true, true_and, upd, List.length_nil, List.length_cons, Nat.zero_add, if_true, ncast, Int.ofNat_eq_natCast]
    obtain ⟨i, hi, hj⟩ := i
    refine ⟨fun h3 => ⟨?_, fun h4 => ⟨?_, ?_⟩, fun h4 => ?_⟩, fun h3 => ?_⟩
    · simp only [hH, stdH, decide_eq_true_eq, decide_eq_false_iff_not, Bool.not_eq_true', Bool.not_eq_false', peta, ncast, Int.ofNat_eq_natCast, beq_iff_eq, bne_iff_ne, beq_eq_false_iff_ne, bne_eq_false_iff_eq, ne_eq, Classical.not_not, Int.toNat_natCast, vrow_I, Arm.eta2, Fld.eta, Grp.eta] at h3 ⊢
      omega
    · simp only [hH, stdH, decide_eq_true_eq, decide_eq_false_iff_not, Bool.not_eq_true', Bool.not_eq_false', peta, ncast, Int.ofNat_eq_natCast, beq_iff_eq, bne_iff_ne, beq_eq_false_iff_ne, bne_eq_false_iff_eq, ne_eq, Classical.not_not, Int.toNat_natCast, vrow_I, Arm.eta2, Fld.eta, Grp.eta] at h3
      try simp only [hH, stdH, decide_eq_true_eq, decide_eq_false_iff_not, Bool.not_eq_true', Bool.not_eq_false', peta, ncast, Int.ofNat_eq_natCast, beq_iff_eq, bne_iff_ne, beq_eq_false_iff_ne, bne_eq_false_iff_eq, ne_eq, Classical.not_not, Int.toNat_natCast, vrow_I, Arm.eta2, Fld.eta, Grp.eta]
      rw [w1 (by omega)]
      exact ⟨by show (0 : Int) ≤ ((i + 1 : Nat) : Int); omega, trivial, by show (((i + 1 : Nat) : Int)).toNat ≤ (grpT (grpC z)).size; omega, Nat.le_refl _⟩
    · simp only [hH, stdH, decide_eq_true_eq, decide_eq_false_iff_not, Bool.not_eq_true', Bool.not_eq_false', peta, ncast, Int.ofNat_eq_natCast, beq_iff_eq, bne_iff_ne, beq_eq_false_iff_ne, bne_eq_false_iff_eq, ne_eq, Classical.not_not, Int.toNat_natCast, vrow_I, Arm.eta2, Fld.eta, Grp.eta] at h3
      simp only [hH, stdH, decide_eq_true_eq, decide_eq_false_iff_not, Bool.not_eq_true', Bool.not_eq_false', peta, ncast, Int.ofNat_eq_natCast, beq_iff_eq, bne_iff_ne, beq_eq_false_iff_ne, bne_eq_false_iff_eq, ne_eq, Classical.not_not, Int.toNat_natCast, vrow_I, Arm.eta2, Fld.eta, Grp.eta] at h4
      have he := afterS_at (by omega) h4 hj
      have ex : (grpT (grpC z)).extract (loOf (some (IntKind.i64.wrap ((i : Int) + 1)))) (hiOf (grpT (grpC z)).size none) = afterS (grpT (grpC z)) := by
        rw [w1 (by omega)]; exact he.symm
      have l1 : hlmL.length = 5 := rfl
      have l2 : rnkL.length = 5 := rfl
      simp only [hH, stdH, ex, wordE h2.1, l1, l2, beq_iff_eq, beq_eq_false_iff_ne, ne_eq]
      refine ⟨fun h => ?_, fun h => ?_⟩
      · repeat' (first | refine And.intro ?_ ?_ | intro _)
        all_goals first | assumption | omega | (simp only [ByteArray.size_append, bsz, List.length_cons, List.length_nil]; omega) | ((try unfold crsT); unfold crsS; rw [if_pos h]; simp only [ByteArray.append_assoc])
      · repeat' (first | refine And.intro ?_ ?_ | intro _)
        all_goals first | assumption | omega | (simp only [ByteArray.size_append, bsz, List.length_cons, List.length_nil]; omega) | ((try unfold crsT); unfold crsS; rw [if_neg h]; simp only [ByteArray.append_assoc])
    · simp only [hH, stdH, decide_eq_true_eq, decide_eq_false_iff_not, Bool.not_eq_true', Bool.not_eq_false', peta, ncast, Int.ofNat_eq_natCast, beq_iff_eq, bne_iff_ne, beq_eq_false_iff_ne, bne_eq_false_iff_eq, ne_eq, Classical.not_not, Int.toNat_natCast, vrow_I, Arm.eta2, Fld.eta, Grp.eta] at h3
      simp only [hH, stdH, decide_eq_true_eq, decide_eq_false_iff_not, Bool.not_eq_true', Bool.not_eq_false', peta, ncast, Int.ofNat_eq_natCast, beq_iff_eq, bne_iff_ne, beq_eq_false_iff_ne, bne_eq_false_iff_eq, ne_eq, Classical.not_not, Int.toNat_natCast, vrow_I, Arm.eta2, Fld.eta, Grp.eta] at h4
      refine ⟨⟨i + 1, by omega, fun j hj' => ?_⟩, by simp only; omega, ?_⟩
      · rcases Nat.lt_succ_iff_lt_or_eq.1 hj' with h | rfl
        · exact hj j h
        · exact h4
      · rw [hI]
        (conv in matchSt _ _ _ _ => cbv); simp only [AllG, AllP, and_true, hH, stdH, ncast, Int.ofNat_eq_natCast, vrow_I, Arm.eta2, Fld.eta, Grp.eta]
        rw [w1 (by omega)]
        (repeat' (first | exact trivial | rfl | omega | refine And.intro ?_ ?_))
    · simp only [hH, stdH, decide_eq_true_eq, decide_eq_false_iff_not, Bool.not_eq_true', Bool.not_eq_false', peta, ncast, Int.ofNat_eq_natCast, beq_iff_eq, bne_iff_ne, beq_eq_false_iff_ne, bne_eq_false_iff_eq, ne_eq, Classical.not_not, Int.toNat_natCast, vrow_I, Arm.eta2, Fld.eta, Grp.eta] at h3
      obtain ⟨q1, q2⟩ := grpT_32 (grpC z)
      exact absurd q2 (hj _ (by omega))
noncomputable def e_l22Text : Entry := pureE 60 fun H a => match a with
  | [.agg [.lit (.int .i64 z0), .lit (.int .i64 z1), .lit (.int .i64 z2), .lit (.int .i64 z3)]] => some (.lit (.string (H ByteArray fun _ => crsT (⟨z0, z1, z2, z3⟩ : Crs))), [H Prop fun _ => okC (⟨z0, z1, z2, z3⟩ : Crs) = true])
  | _ => none
theorem eok_l22Text : EntryOk Tryd.prog e_l22Text := pureM_ok (by unfold isBody; kernel_rfl) (by
  intro a r ob e hob
  split at e
  · rename_i z0 z1 z2 z3
    simp only [Option.some.injEq, Prod.mk.injEq] at e
    obtain ⟨rfl, rfl⟩ := e
    exact ConN.args (.cons .rfl .nil) (c_l22Text (⟨z0, z1, z2, z3⟩ : Crs) hob.1)
  · simp at e)
theorem c_crestTextS (z : Crs)  : ConN Tryd.prog 20 [aT rowC stdH fun _ => z] [] 0 (.tup [.lit (.string (stdH ByteArray fun _ => if okC z then crsT z else ByteArray.empty)), .lit (.bool (stdH Bool fun _ => okC z))]) [] [] := by
  have hB : Base Tryd.prog (tabΓ [e_l22Good, e_l22Text]) tab := base_of tabOk (ents_cons eok_l22Good <| ents_cons eok_l22Text <| ents_nil)
  refine con_m (N := 9) hB (draw_ok hB mixed) Tryd.func20 rfl rfl (fun H => [aT rowC H fun _ => z]) (fun _ => []) 0 (fun H => .tup [.lit (.string (H ByteArray fun _ => if okC z then crsT z else ByteArray.empty)), .lit (.bool (H Bool fun _ => okC z))]) (fun H => []) (fun _ => []) 120 (by simp) (fun x hx => ?_) (by simp [lk]) (by omega) (by simp) ?_
  · simp only [List.mem_cons, List.not_mem_nil, or_false] at hx
    rcases hx with rfl
    · exact aT_bl okRC _ _
  intro X hX hX0 H hH
  conv in Fin.chk _ _ => cbv
  try simp only [Plain_rowsA, Plain_rowsB, Plain_rowsC, Plain_rowsF, Plain_rowsG, Plain_rowsI, Plain_rowsS, Plain_rowsU, Fin.satC_ret, Fin.satC_br, Fin.satC_need, Fin.satC_again, AllP, and_true, true_and, upd, List.length_nil, List.length_cons, Nat.zero_add, if_true, ncast, Int.ofNat_eq_natCast]
  subst hH
  simp only [stdH, Crs.eta]
  refine ⟨fun h => ?_, fun h => ?_⟩
  · have h : okC z = false := by simpa using h
    rw [h]; exact ⟨rfl, rfl⟩
  · have h : okC z = true := by simpa using h
    rw [h]; exact ⟨rfl, rfl, rfl⟩
noncomputable def e_crestTextS : Entry := pureE 20 fun H a => match a with
  | [.agg [.lit (.int .i64 z0), .lit (.int .i64 z1), .lit (.int .i64 z2), .lit (.int .i64 z3)]] => some (.tup [.lit (.string (H ByteArray fun _ => if okC (⟨z0, z1, z2, z3⟩ : Crs) then crsT (⟨z0, z1, z2, z3⟩ : Crs) else ByteArray.empty)), .lit (.bool (H Bool fun _ => okC (⟨z0, z1, z2, z3⟩ : Crs)))], [])
  | _ => none
theorem eok_crestTextS : EntryOk Tryd.prog e_crestTextS := pureM_ok (by unfold isBody; kernel_rfl) (by
  intro a r ob e hob
  split at e
  · rename_i z0 z1 z2 z3
    simp only [Option.some.injEq, Prod.mk.injEq] at e
    obtain ⟨rfl, rfl⟩ := e
    exact ConN.args (.cons .rfl .nil) (c_crestTextS (⟨z0, z1, z2, z3⟩ : Crs) )
  · simp at e)

end Go.Proofs.YtdicfibonfjalaaDoor.AM
