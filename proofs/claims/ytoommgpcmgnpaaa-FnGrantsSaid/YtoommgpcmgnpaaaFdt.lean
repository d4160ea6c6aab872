import Derived.Test.YtoommgpcmgnpaaaAmT
import Derived.Test.YtoommgpcmgnpaaaAlw
import Derived.Test.YtoommgpcmgnpaaaTxt
import Derived.Test.YtoommgpcmgnpaaaApa
set_option linter.unusedVariables false
set_option linter.unusedSimpArgs false
set_option maxRecDepth 100000
set_option maxHeartbeats 4000000
set_option cbv.maxSteps 3000000
namespace Go.Proofs.Ytoommgpcmgnpaaa.AM
/- Sentences of findings; conditions: none. -/
def okFd (x : Fdg) : Bool := inB x.p 1 3 && (inB x.u 1 9 && (inB x.l 1 9 && clsh x.u x.l))
def fdL : List ByteArray := [(⟨⟨[84, 104, 101, 32, 111, 114, 100, 105, 110, 97, 114, 121, 32, 105, 115, 32]⟩⟩ : ByteArray), (⟨⟨[84, 104, 101, 32, 99, 104, 97, 114, 103, 101, 115, 32, 111, 110, 32, 116, 104, 101, 32, 111, 114, 100, 105, 110, 97, 114, 121, 32, 97, 114, 101, 32]⟩⟩ : ByteArray), (⟨⟨[84, 104, 101, 32, 99, 104, 97, 114, 103, 101, 115, 32, 97, 114, 111, 117, 110, 100, 32, 105, 116, 32, 97, 114, 101, 32]⟩⟩ : ByteArray)]
def fd0L : List ByteArray := [(⟨⟨[]⟩⟩ : ByteArray), (⟨⟨[84, 104, 101, 32, 111, 114, 100, 105, 110, 97, 114, 121, 32, 105, 115, 32]⟩⟩ : ByteArray), (⟨⟨[84, 104, 101, 32, 99, 104, 97, 114, 103, 101, 115, 32, 111, 110, 32, 116, 104, 101, 32, 111, 114, 100, 105, 110, 97, 114, 121, 32, 97, 114, 101, 32]⟩⟩ : ByteArray), (⟨⟨[84, 104, 101, 32, 99, 104, 97, 114, 103, 101, 115, 32, 97, 114, 111, 117, 110, 100, 32, 105, 116, 32, 97, 114, 101, 32]⟩⟩ : ByteArray)]
theorem fdL_at {p : Int} (h : 1 ≤ p ∧ p ≤ 3) : fd0L.getD p.toNat ByteArray.empty = wordOf fdL p := by
  rcases (by omega : p = 1 ∨ p = 2 ∨ p = 3) with rfl | rfl | rfl <;> rfl
def fdT (x : Fdg) : ByteArray := wordOf fdL x.p ++ (wordOf tinL x.u ++ ((⟨⟨[32, 111, 110, 32]⟩⟩ : ByteArray) ++ (wordOf tinL x.l ++ (⟨⟨[46]⟩⟩ : ByteArray))))
theorem tin_apart : ∀ i : Nat, i < 9 → ∀ j : Nat, j < 9 → i ≠ j → apart (tinL.getD i ByteArray.empty) (tinL.getD j ByteArray.empty) = true := by decide
theorem fd_apart : ∀ i : Nat, i < 3 → ∀ j : Nat, j < 3 → i ≠ j → apart (fdL.getD i ByteArray.empty) (fdL.getD j ByteArray.empty) = true := by decide
theorem word_inj {L : List ByteArray} {n : Nat} (hap : ∀ i : Nat, i < n → ∀ j : Nat, j < n → i ≠ j → apart (L.getD i ByteArray.empty) (L.getD j ByteArray.empty) = true) {a b : Int} (ha : 1 ≤ a ∧ a ≤ n) (hb : 1 ≤ b ∧ b ≤ n) {x y : ByteArray} (h : wordOf L a ++ x = wordOf L b ++ y) : a = b ∧ x = y := by
  have e : a = b := by
    by_cases e : (a - 1).toNat = (b - 1).toNat
    · omega
    · exact absurd h (apart_ne (hap _ (by omega) _ (by omega) e))
  subst e
  exact ⟨rfl, app_inj h⟩
theorem okFd_in {x : Fdg} (h : okFd x = true) : (1 ≤ x.p ∧ x.p ≤ 3) ∧ (1 ≤ x.u ∧ x.u ≤ 9) ∧ (1 ≤ x.l ∧ x.l ≤ 9) ∧ clsh x.u x.l = true := by
  unfold okFd inB at h
  simp only [Bool.and_eq_true, decide_eq_true_eq] at h
  exact h
theorem fdT_inj {x y : Fdg} (hx : okFd x = true) (hy : okFd y = true) (h : fdT x = fdT y) : x = y := by
  obtain ⟨x1, x2, x3, _⟩ := okFd_in hx
  obtain ⟨y1, y2, y3, _⟩ := okFd_in hy
  unfold fdT at h
  obtain ⟨e1, h⟩ := word_inj fd_apart x1 y1 h
  obtain ⟨e2, h⟩ := word_inj tin_apart x2 y2 h
  obtain ⟨e3, _⟩ := word_inj tin_apart x3 y3 (app_inj h)
  cases x; cases y
  simp only at e1 e2 e3
  subst e1; subst e2; subst e3
  rfl
open Classical in
/-- The finding with this sentence. -/
noncomputable def pfd (s : ByteArray) : Option Fdg := if h : ∃ x, okFd x = true ∧ fdT x = s then some h.choose else none
theorem pfd_hit {s : ByteArray} {x : Fdg} (h : okFd x = true) (e : fdT x = s) : pfd s = some x := by
  have hx : ∃ x, okFd x = true ∧ fdT x = s := ⟨x, h, e⟩
  unfold pfd
  rw [dif_pos hx]
  congr 1
  exact fdT_inj hx.choose_spec.1 h (hx.choose_spec.2.trans e.symm)
theorem pfd_none {s : ByteArray} (h : ∀ x, okFd x = true → fdT x ≠ s) : pfd s = none := by
  unfold pfd
  rw [dif_neg]
  rintro ⟨x, h1, h2⟩
  exact h x h1 h2
theorem pfd_some {s : ByteArray} {x : Fdg} (h : pfd s = some x) : okFd x = true ∧ fdT x = s := by
  unfold pfd at h
  split at h
  · rename_i hx
    cases h
    exact hx.choose_spec
  · cases h
theorem fdL_sz (x : Int) : (wordOf fdL x).size ≤ 40 := getD_sz (by decide) _
theorem fdT_sz (x : Fdg) : (fdT x).size ≤ 100 := by
  have h1 := fdL_sz x.p; have h2 := tinL_sz x.u; have h3 := tinL_sz x.l
  unfold fdT
  simp only [ByteArray.size_append, bsz, List.length_cons, List.length_nil]
  omega
theorem c_isFd (x : Fdg)  : ConN Try.prog 35 [aT rowD stdH fun _ => x] [] 0 (.lit (.bool (stdH Bool fun _ => okFd x))) [] [] := by
  have hB : Base Try.prog (tabΓ [e_inside, e_IsTincture, e_clash]) tab := base_of tabOk (ents_cons eok_inside <| ents_cons eok_IsTincture <| ents_cons eok_clash <| ents_nil)
  refine con_m (N := 23) hB (draw_ok hB mixed) Try.func35 rfl rfl (fun H => [aT rowD H fun _ => x]) (fun _ => []) 0 (fun H => .lit (.bool (H Bool fun _ => okFd x))) (fun H => []) (fun _ => []) 60 (by simp) (fun x hx => ?_) (by simp [lk]) (by omega) (by simp) ?_
  · simp only [List.mem_cons, List.not_mem_nil, or_false] at hx
    rcases hx with rfl
    · exact aT_bl okRD _ _
  intro X hX hX0 H hH
  conv in Fin.chk _ _ => cbv
  try simp only [Plain_rowsA, Plain_rowsB, Plain_rowsC, Plain_rowsD, Plain_rowsF, Plain_rowsG, Plain_rowsI, Plain_rowsS, Plain_rowsU, Fin.satC_ret, Fin.satC_br, Fin.satC_need, Fin.satC_again, AllP, and_true, true_and, upd, List.length_nil, List.length_cons, Nat.zero_add, if_true, ncast, Int.ofNat_eq_natCast]
  subst hH
  simp only [stdH, okFd, bif_and, Bool.and_assoc]
noncomputable def e_isFd : Entry := pureE 35 fun H a => match a with
  | [.agg [.lit (.int .i64 x0), .lit (.int .i64 x1), .lit (.int .i64 x2)]] => some (.lit (.bool (H Bool fun _ => okFd (⟨x0, x1, x2⟩ : Fdg))), [])
  | _ => none
theorem eok_isFd : EntryOk Try.prog e_isFd := pureM_ok (by unfold isBody; kernel_rfl) (by
  intro a r ob e hob
  split at e
  · rename_i x0 x1 x2
    simp only [Option.some.injEq, Prod.mk.injEq] at e
    obtain ⟨rfl, rfl⟩ := e
    exact ConN.args (.cons .rfl .nil) (c_isFd (⟨x0, x1, x2⟩ : Fdg) )
  · simp at e)
theorem c_l8Good (x : Fdg)  : ConN Try.prog 83 [aT rowD stdH fun _ => x] [] 0 (.lit (.bool (stdH Bool fun _ => okFd x))) [] [] := by
  have hB : Base Try.prog (tabΓ [e_l1In, e_l2Good, e_l2Clash]) tab := base_of tabOk (ents_cons eok_l1In <| ents_cons eok_l2Good <| ents_cons eok_l2Clash <| ents_nil)
  refine con_m (N := 23) hB (draw_ok hB mixed) Try.func83 rfl rfl (fun H => [aT rowD H fun _ => x]) (fun _ => []) 0 (fun H => .lit (.bool (H Bool fun _ => okFd x))) (fun H => []) (fun _ => []) 60 (by simp) (fun x hx => ?_) (by simp [lk]) (by omega) (by simp) ?_
  · simp only [List.mem_cons, List.not_mem_nil, or_false] at hx
    rcases hx with rfl
    · exact aT_bl okRD _ _
  intro X hX hX0 H hH
  conv in Fin.chk _ _ => cbv
  try simp only [Plain_rowsA, Plain_rowsB, Plain_rowsC, Plain_rowsD, Plain_rowsF, Plain_rowsG, Plain_rowsI, Plain_rowsS, Plain_rowsU, Fin.satC_ret, Fin.satC_br, Fin.satC_need, Fin.satC_again, AllP, and_true, true_and, upd, List.length_nil, List.length_cons, Nat.zero_add, if_true, ncast, Int.ofNat_eq_natCast]
  subst hH
  simp only [stdH, okFd, bif_and, Bool.and_assoc]
noncomputable def e_l8Good : Entry := pureE 83 fun H a => match a with
  | [.agg [.lit (.int .i64 x0), .lit (.int .i64 x1), .lit (.int .i64 x2)]] => some (.lit (.bool (H Bool fun _ => okFd (⟨x0, x1, x2⟩ : Fdg))), [])
  | _ => none
theorem eok_l8Good : EntryOk Try.prog e_l8Good := pureM_ok (by unfold isBody; kernel_rfl) (by
  intro a r ob e hob
  split at e
  · rename_i x0 x1 x2
    simp only [Option.some.injEq, Prod.mk.injEq] at e
    obtain ⟨rfl, rfl⟩ := e
    exact ConN.args (.cons .rfl .nil) (c_l8Good (⟨x0, x1, x2⟩ : Fdg) )
  · simp at e)
theorem fdL_im {p : Int} (h : 1 ≤ p ∧ p ≤ 3) : ([(⟨⟨[84, 104, 101, 32, 111, 114, 100, 105, 110, 97, 114, 121, 32, 105, 115, 32]⟩⟩ : ByteArray), (⟨⟨[84, 104, 101, 32, 99, 104, 97, 114, 103, 101, 115, 32, 111, 110, 32, 116, 104, 101, 32, 111, 114, 100, 105, 110, 97, 114, 121, 32, 97, 114, 101, 32]⟩⟩ : ByteArray), (⟨⟨[84, 104, 101, 32, 99, 104, 97, 114, 103, 101, 115, 32, 97, 114, 111, 117, 110, 100, 32, 105, 116, 32, 97, 114, 101, 32]⟩⟩ : ByteArray)] : List ByteArray).getD (IntKind.i64.wrap (p - 1)).toNat ByteArray.empty = wordOf fdL p := by
  rw [wi (by omega) (by omega)]; rfl
theorem c_fdText (x : Fdg)  : ConN Try.prog 11 [aT rowD stdH fun _ => x] [] 0 (.tup [.lit (.string (stdH ByteArray fun _ => if okFd x then fdT x else ByteArray.empty)), .lit (.bool (stdH Bool fun _ => okFd x))]) [] [] := by
  have hB : Base Try.prog (tabΓ [e_isFd, e_tincW]) tab := base_of tabOk (ents_cons eok_isFd <| ents_cons eok_tincW <| ents_nil)
  refine con_m (N := 25) hB (draw_ok hB mixed) Try.func11 rfl rfl (fun H => [aT rowD H fun _ => x]) (fun _ => []) 0 (fun H => .tup [.lit (.string (H ByteArray fun _ => if okFd x then fdT x else ByteArray.empty)), .lit (.bool (H Bool fun _ => okFd x))]) (fun H => []) (fun _ => []) 200 (by simp) (fun x hx => ?_) (by simp [lk]) (by omega) (by simp) ?_
  · simp only [List.mem_cons, List.not_mem_nil, or_false] at hx
    rcases hx with rfl
    · exact aT_bl okRD _ _
  intro X hX hX0 H hH
  conv in Fin.chk _ _ => cbv
  try simp only [Plain_rowsA, Plain_rowsB, Plain_rowsC, Plain_rowsD, Plain_rowsF, Plain_rowsG, Plain_rowsI, Plain_rowsS, Plain_rowsU, Fin.satC_ret, Fin.satC_br, Fin.satC_need, Fin.satC_again, AllP, and_true, true_and, upd, List.length_nil, List.length_cons, Nat.zero_add, if_true, ncast, Int.ofNat_eq_natCast]
  refine ⟨fun h => ?_, fun h => ?_⟩
  · simp only [hH, stdH, Int.toNat_natCast] at h
    rw [Bool.not_eq_true'] at h
    rw [h]
    try simp only [hH, stdH, decide_eq_true_eq, decide_eq_false_iff_not, Bool.not_eq_true', Bool.not_eq_false', peta, ncast, Int.ofNat_eq_natCast, beq_iff_eq, bne_iff_ne, beq_eq_false_iff_ne, bne_eq_false_iff_eq, ne_eq, Classical.not_not, Int.toNat_natCast, vrow_I, Arm.eta2, Fld.eta, Grp.eta]
    exact ⟨trivial, rfl⟩
  · simp only [hH, stdH, Int.toNat_natCast] at h
    rw [Bool.not_eq_false'] at h
    rw [h]
    obtain ⟨q1, q2, q3, _⟩ := okFd_in h
    dsimp only at q1 q2 q3
    have s1 := fdL_sz x.p; have s2 := tinL_sz x.u; have s3 := tinL_sz x.l
    have s4 : (fd0L.length : Int) = 4 := rfl
    subst hH
    simp only [stdH, if_true]
    rw [fdL_im q1]
    repeat' (first | refine And.intro ?_ ?_ | intro _)
    all_goals first | trivial | omega | exact q2.1 | (simp only [ByteArray.size_append, bsz, List.length_cons, List.length_nil]; omega) | (rw [wi (by omega) (by omega)]; omega) | (rw [wi (by omega) (by omega)]; show x.p - 1 < (3 : Int); omega) | (show x.p < (4 : Int); omega) | (unfold fdT; simp only [ByteArray.append_assoc]) | skip
noncomputable def e_fdText : Entry := pureE 11 fun H a => match a with
  | [.agg [.lit (.int .i64 x0), .lit (.int .i64 x1), .lit (.int .i64 x2)]] => some (.tup [.lit (.string (H ByteArray fun _ => if okFd (⟨x0, x1, x2⟩ : Fdg) then fdT (⟨x0, x1, x2⟩ : Fdg) else ByteArray.empty)), .lit (.bool (H Bool fun _ => okFd (⟨x0, x1, x2⟩ : Fdg)))], [])
  | _ => none
theorem eok_fdText : EntryOk Try.prog e_fdText := pureM_ok (by unfold isBody; kernel_rfl) (by
  intro a r ob e hob
  split at e
  · rename_i x0 x1 x2
    simp only [Option.some.injEq, Prod.mk.injEq] at e
    obtain ⟨rfl, rfl⟩ := e
    exact ConN.args (.cons .rfl .nil) (c_fdText (⟨x0, x1, x2⟩ : Fdg) )
  · simp at e)
theorem c_l8Starts   : ConN Try.prog 84 [] [] 0 (.vec 1 (stdH Nat fun _ => (fd0L).length) (rowsS stdH fun _ => fd0L)) [] [] := by
  have hB : Base Try.prog (tabΓ []) tab := base_of tabOk (ents_nil)
  refine con_m (N := 2) hB (draw_ok hB mixed) Try.func84 rfl rfl (fun H => []) (fun _ => []) 0 (fun H => .vec 1 (H Nat fun _ => (fd0L).length) (rowsS H fun _ => fd0L)) (fun H => []) (fun _ => []) 60 (by simp) (fun x hx => ?_) (by simp [lk]) (by omega) (by simp) ?_
  · cases hx
  intro X hX hX0 H hH
  conv in Fin.chk _ _ => cbv
  try simp only [Plain_rowsA, Plain_rowsB, Plain_rowsC, Plain_rowsD, Plain_rowsF, Plain_rowsG, Plain_rowsI, Plain_rowsS, Plain_rowsU, Fin.satC_ret, Fin.satC_br, Fin.satC_need, Fin.satC_again, AllP, and_true, true_and, upd, List.length_nil, List.length_cons, Nat.zero_add, if_true, ncast, Int.ofNat_eq_natCast]
  subst hH
  exact .self okS
noncomputable def e_l8Starts : Entry := pureE 84 fun H a => match a with
  | [] => some (.vec 1 (H Nat fun _ => (fd0L).length) (rowsS H fun _ => fd0L), [])
  | _ => none
theorem eok_l8Starts : EntryOk Try.prog e_l8Starts := pureM_ok (by unfold isBody; kernel_rfl) (by
  intro a r ob e hob
  split at e
  · simp only [Option.some.injEq, Prod.mk.injEq] at e
    obtain ⟨rfl, rfl⟩ := e
    exact ConN.args .nil (c_l8Starts  )
  · simp at e)
theorem c_fdTextS (x : Fdg)  : ConN Try.prog 44 [aT rowD stdH fun _ => x] [] 0 (.tup [.lit (.string (stdH ByteArray fun _ => if okFd x then fdT x else ByteArray.empty)), .lit (.bool (stdH Bool fun _ => okFd x))]) [] [] := by
  have hB : Base Try.prog (tabΓ [e_l8Good, e_l8Starts, e_l2Word]) tab := base_of tabOk (ents_cons eok_l8Good <| ents_cons eok_l8Starts <| ents_cons eok_l2Word <| ents_nil)
  refine con_m (N := 22) hB (draw_ok hB mixed) Try.func44 rfl rfl (fun H => [aT rowD H fun _ => x]) (fun _ => []) 0 (fun H => .tup [.lit (.string (H ByteArray fun _ => if okFd x then fdT x else ByteArray.empty)), .lit (.bool (H Bool fun _ => okFd x))]) (fun H => []) (fun _ => []) 200 (by simp) (fun x hx => ?_) (by simp [lk]) (by omega) (by simp) ?_
  · simp only [List.mem_cons, List.not_mem_nil, or_false] at hx
    rcases hx with rfl
    · exact aT_bl okRD _ _
  intro X hX hX0 H hH
  conv in Fin.chk _ _ => cbv
  try simp only [Plain_rowsA, Plain_rowsB, Plain_rowsC, Plain_rowsD, Plain_rowsF, Plain_rowsG, Plain_rowsI, Plain_rowsS, Plain_rowsU, Fin.satC_ret, Fin.satC_br, Fin.satC_need, Fin.satC_again, AllP, and_true, true_and, upd, List.length_nil, List.length_cons, Nat.zero_add, if_true, ncast, Int.ofNat_eq_natCast]
  refine ⟨fun h => ?_, fun h => ?_⟩
  · simp only [hH, stdH, Int.toNat_natCast] at h
    rw [Bool.not_eq_true'] at h
    rw [h]
    try simp only [hH, stdH, decide_eq_true_eq, decide_eq_false_iff_not, Bool.not_eq_true', Bool.not_eq_false', peta, ncast, Int.ofNat_eq_natCast, beq_iff_eq, bne_iff_ne, beq_eq_false_iff_ne, bne_eq_false_iff_eq, ne_eq, Classical.not_not, Int.toNat_natCast, vrow_I, Arm.eta2, Fld.eta, Grp.eta]
    exact ⟨trivial, rfl⟩
  · simp only [hH, stdH, Int.toNat_natCast] at h
    rw [Bool.not_eq_false'] at h
    rw [h]
    obtain ⟨q1, q2, q3, _⟩ := okFd_in h
    dsimp only at q1 q2 q3
    have s1 := fdL_sz x.p; have s2 := tinL_sz x.u; have s3 := tinL_sz x.l
    have s4 : (fd0L.length : Int) = 4 := rfl
    subst hH
    simp only [stdH, if_true]
    rw [fdL_at q1]
    repeat' (first | refine And.intro ?_ ?_ | intro _)
    all_goals first | trivial | omega | exact q2.1 | (simp only [ByteArray.size_append, bsz, List.length_cons, List.length_nil]; omega) | (rw [wi (by omega) (by omega)]; omega) | (rw [wi (by omega) (by omega)]; show x.p - 1 < (3 : Int); omega) | (show x.p < (4 : Int); omega) | (unfold fdT; simp only [ByteArray.append_assoc]) | skip
noncomputable def e_fdTextS : Entry := pureE 44 fun H a => match a with
  | [.agg [.lit (.int .i64 x0), .lit (.int .i64 x1), .lit (.int .i64 x2)]] => some (.tup [.lit (.string (H ByteArray fun _ => if okFd (⟨x0, x1, x2⟩ : Fdg) then fdT (⟨x0, x1, x2⟩ : Fdg) else ByteArray.empty)), .lit (.bool (H Bool fun _ => okFd (⟨x0, x1, x2⟩ : Fdg)))], [])
  | _ => none
theorem eok_fdTextS : EntryOk Try.prog e_fdTextS := pureM_ok (by unfold isBody; kernel_rfl) (by
  intro a r ob e hob
  split at e
  · rename_i x0 x1 x2
    simp only [Option.some.injEq, Prod.mk.injEq] at e
    obtain ⟨rfl, rfl⟩ := e
    exact ConN.args (.cons .rfl .nil) (c_fdTextS (⟨x0, x1, x2⟩ : Fdg) )
  · simp at e)
theorem pf0 {s : ByteArray} (x : Fdg) (hx : okFd x = true) (h : x.p ≤ (0 : Nat)) : fdT x ≠ s := by
  have := (okFd_in hx).1
  omega
theorem pfu {s : ByteArray} {p : Nat} (np : ∀ x : Fdg, okFd x = true → x.p ≤ p → fdT x ≠ s) (x : Fdg) (hx : okFd x = true) (h : x.p ≤ p ∨ x.p = p + 1 ∧ x.u ≤ (0 : Nat)) : fdT x ≠ s := by
  have := (okFd_in hx).2.1
  exact np x hx (by omega)
theorem pfl {s : ByteArray} {p u : Nat} (nu : ∀ x : Fdg, okFd x = true → x.p ≤ p ∨ x.p = p + 1 ∧ x.u ≤ u → fdT x ≠ s) (x : Fdg) (hx : okFd x = true) (h : x.p ≤ p ∨ x.p = p + 1 ∧ (x.u ≤ u ∨ x.u = u + 1 ∧ x.l ≤ (0 : Nat))) : fdT x ≠ s := by
  have := (okFd_in hx).2.2.1
  exact nu x hx (by omega)
theorem pf_c (x : Fdg) (s : ByteArray) : (bif okFd x then (if okFd x = true then fdT x else ByteArray.empty).toList == s.toList else false) = decide (okFd x = true ∧ fdT x = s) := by
  cases h : okFd x with
  | false => simp
  | true =>
    simp only [if_true, cond_true, true_and]
    rw [Bool.eq_iff_iff, beq_iff_eq, decide_eq_true_eq]
    constructor
    · intro e
      rw [ByteArray.toList_eq, ByteArray.toList_eq] at e
      exact ByteArray.ext (Array.ext' e)
    · intro e; rw [e]
theorem pfn {s : ByteArray} {p u l : Nat} (nl : ∀ x : Fdg, okFd x = true → x.p ≤ p ∨ x.p = p + 1 ∧ (x.u ≤ u ∨ x.u = u + 1 ∧ x.l ≤ l) → fdT x ≠ s) (h : ¬ (okFd ⟨((p + 1 : Nat) : Int), ((u + 1 : Nat) : Int), ((l + 1 : Nat) : Int)⟩ = true ∧ fdT ⟨((p + 1 : Nat) : Int), ((u + 1 : Nat) : Int), ((l + 1 : Nat) : Int)⟩ = s)) (x : Fdg) (hx : okFd x = true) (hl : x.p ≤ p ∨ x.p = p + 1 ∧ (x.u ≤ u ∨ x.u = u + 1 ∧ x.l ≤ (l + 1 : Nat))) : fdT x ≠ s := by
  by_cases e : x.p = p + 1 ∧ x.u = u + 1 ∧ x.l = l + 1
  · obtain ⟨xp, xu, xl⟩ := x
    obtain ⟨e1, e2, e3⟩ := e
    simp only at e1 e2 e3
    subst e1; subst e2; subst e3
    exact fun e => h ⟨hx, e⟩
  · exact nl x hx (by omega)
theorem pfl9 {s : ByteArray} {p u : Nat} (nl : ∀ x : Fdg, okFd x = true → x.p ≤ p ∨ x.p = p + 1 ∧ (x.u ≤ u ∨ x.u = u + 1 ∧ x.l ≤ (9 : Nat)) → fdT x ≠ s) (x : Fdg) (hx : okFd x = true) (hl : x.p ≤ p ∨ x.p = p + 1 ∧ x.u ≤ (u + 1 : Nat)) : fdT x ≠ s := by
  have := (okFd_in hx).2.2.1
  exact nl x hx (by omega)
theorem pfu9 {s : ByteArray} {p : Nat} (nu : ∀ x : Fdg, okFd x = true → x.p ≤ p ∨ x.p = p + 1 ∧ x.u ≤ (9 : Nat) → fdT x ≠ s) (x : Fdg) (hx : okFd x = true) (hl : x.p ≤ (p + 1 : Nat)) : fdT x ≠ s := by
  have := (okFd_in hx).2.1
  exact nu x hx (by omega)
theorem pf3 {s : ByteArray} (np : ∀ x : Fdg, okFd x = true → x.p ≤ (3 : Nat) → fdT x ≠ s) : pfd s = none := pfd_none fun x hx => by
  have := (okFd_in hx).1
  exact np x hx (by omega)
theorem c_parseFd (s : ByteArray)  : ConN Try.prog 12 [.lit (.string s)] [] 0 (.tup [aT rowD stdH fun _ => (pfd s).getD ⟨0, 0, 0⟩, .lit (.bool (stdH Bool fun _ => (pfd s).isSome))]) [] [] := by
  have hB : Base Try.prog (tabΓ [e_fdText]) tab := base_of tabOk (ents_cons eok_fdText <| ents_nil)
  refine con_m (N := 39) hB (draw_ok hB mixed) Try.func12 rfl rfl (fun H => [.lit (.string s)]) (fun _ => []) 0 (fun H => .tup [aT rowD H fun _ => (pfd s).getD ⟨0, 0, 0⟩, .lit (.bool (H Bool fun _ => (pfd s).isSome))]) (fun H => []) (fun _ => []) 200 (by simp) (fun x hx => ?_) (by simp [lk]) (by omega) (by simp) ?_
  · simp only [List.mem_cons, List.not_mem_nil, or_false] at hx
    rcases hx with rfl
    · exact .lit
  intro X hX hX0 H hH
  conv in Fin.chk _ _ => cbv
  try simp only [Plain_rowsA, Plain_rowsB, Plain_rowsC, Plain_rowsD, Plain_rowsF, Plain_rowsG, Plain_rowsI, Plain_rowsS, Plain_rowsU, Fin.satC_ret, Fin.satC_br, Fin.satC_need, Fin.satC_again, AllP, and_true, true_and, upd, List.length_nil, List.length_cons, Nat.zero_add, if_true, ncast, Int.ofNat_eq_natCast]
  refine loop_a hB (draw_ok hB mixed) hX hX0 hH false (ι := { p : Nat // p ≤ 3 ∧ ∀ x : Fdg, okFd x = true → x.p ≤ p → fdT x ≠ s }) 200 (fun p => [.i (H Int fun _ => (p.1 + 1 : Nat)), .i (H Int fun _ => 0), .i (H Int fun _ => 0), .i (H Int fun _ => 0)]) (fun p => 3 - p.1) (⟨0, by omega, pf0⟩) ?_ ?_
  · (conv in matchSt _ _ _ _ => cbv); simp only [AllG, AllP, and_true, hH, stdH, ncast, Int.ofNat_eq_natCast, vrow_I, Arm.eta2, Fld.eta, Grp.eta]
    (repeat' (first | trivial | rfl | refine And.intro ?_ ?_))
  · intro I hI p
    conv in Fin.chk _ _ => cbv
    try simp only [Plain_rowsA, Plain_rowsB, Plain_rowsC, Plain_rowsD, Plain_rowsF, Plain_rowsG, Plain_rowsI, Plain_rowsS, Plain_rowsU, Fin.satC_ret, Fin.satC_br, Fin.satC_need, Fin.satC_again, AllP, and_true, true_and, upd, List.length_nil, List.length_cons, Nat.zero_add, if_true, ncast, Int.ofNat_eq_natCast]
    obtain ⟨p, hp, np⟩ := p
    refine ⟨fun h1 => ?_, fun h1 => ?_⟩
    · simp only [hH, stdH, decide_eq_true_eq, decide_eq_false_iff_not, Bool.not_eq_true', Bool.not_eq_false', peta, ncast, Int.ofNat_eq_natCast, beq_iff_eq, bne_iff_ne, beq_eq_false_iff_ne, bne_eq_false_iff_eq, ne_eq, Classical.not_not, Int.toNat_natCast, vrow_I, Arm.eta2, Fld.eta, Grp.eta] at h1
      refine loop_a hB (draw_ok hB mixed) hX hX0 hH true (ι := { u : Nat // u ≤ 9 ∧ ∀ x : Fdg, okFd x = true → x.p ≤ p ∨ x.p = p + 1 ∧ x.u ≤ u → fdT x ≠ s }) 200 (fun u => [.i (H Int fun _ => (u.1 + 1 : Nat)), .i (H Int fun _ => 0), .i (H Int fun _ => 0), .i (H Int fun _ => 0)]) (fun u => 9 - u.1) (⟨0, by omega, pfu np⟩) ?_ ?_
      · (conv in matchSt _ _ _ _ => cbv); simp only [AllG, AllP, and_true, hH, stdH, ncast, Int.ofNat_eq_natCast, vrow_I, Arm.eta2, Fld.eta, Grp.eta]
        (repeat' (first | trivial | rfl | refine And.intro ?_ ?_))
      · intro I2 hI2 u
        conv in Fin.chk _ _ => cbv
        try simp only [Plain_rowsA, Plain_rowsB, Plain_rowsC, Plain_rowsD, Plain_rowsF, Plain_rowsG, Plain_rowsI, Plain_rowsS, Plain_rowsU, Fin.satC_ret, Fin.satC_br, Fin.satC_need, Fin.satC_again, AllP, and_true, true_and, upd, List.length_nil, List.length_cons, Nat.zero_add, if_true, ncast, Int.ofNat_eq_natCast]
        obtain ⟨u, hu, nu⟩ := u
        refine ⟨fun h2 => ?_, fun h2 => ?_⟩
        · simp only [hH, stdH, decide_eq_true_eq, decide_eq_false_iff_not, Bool.not_eq_true', Bool.not_eq_false', peta, ncast, Int.ofNat_eq_natCast, beq_iff_eq, bne_iff_ne, beq_eq_false_iff_ne, bne_eq_false_iff_eq, ne_eq, Classical.not_not, Int.toNat_natCast, vrow_I, Arm.eta2, Fld.eta, Grp.eta] at h2
          refine loop_a hB (draw_ok hB mixed) hX hX0 hH true (ι := { l : Nat // l ≤ 9 ∧ ∀ x : Fdg, okFd x = true → x.p ≤ p ∨ x.p = p + 1 ∧ (x.u ≤ u ∨ x.u = u + 1 ∧ x.l ≤ l) → fdT x ≠ s }) 200 (fun l => [.i (H Int fun _ => (l.1 + 1 : Nat)), .i (H Int fun _ => 0), .i (H Int fun _ => 0), .i (H Int fun _ => 0)]) (fun l => 9 - l.1) (⟨0, by omega, pfl nu⟩) ?_ ?_
          · (conv in matchSt _ _ _ _ => cbv); simp only [AllG, AllP, and_true, hH, stdH, ncast, Int.ofNat_eq_natCast, vrow_I, Arm.eta2, Fld.eta, Grp.eta]
            (repeat' (first | trivial | rfl | refine And.intro ?_ ?_))
          · intro I3 hI3 l
            conv in Fin.chk _ _ => cbv
            try simp only [Plain_rowsA, Plain_rowsB, Plain_rowsC, Plain_rowsD, Plain_rowsF, Plain_rowsG, Plain_rowsI, Plain_rowsS, Plain_rowsU, Fin.satC_ret, Fin.satC_br, Fin.satC_need, Fin.satC_again, AllP, and_true, true_and, upd, List.length_nil, List.length_cons, Nat.zero_add, if_true, ncast, Int.ofNat_eq_natCast]
            obtain ⟨l, hl, nl⟩ := l
            refine ⟨fun h3 => ⟨fun h4 => ?_, fun h4 => ?_⟩, fun h3 => ?_⟩
            · simp only [hH, stdH, Int.toNat_natCast] at h4
              rw [pf_c, decide_eq_true_eq] at h4
              have e := pfd_hit h4.1 h4.2
              simp only [e, Option.isSome_some, Option.getD_some]
              try simp only [hH, stdH, decide_eq_true_eq, decide_eq_false_iff_not, Bool.not_eq_true', Bool.not_eq_false', peta, ncast, Int.ofNat_eq_natCast, beq_iff_eq, bne_iff_ne, beq_eq_false_iff_ne, bne_eq_false_iff_eq, ne_eq, Classical.not_not, Int.toNat_natCast, vrow_I, Arm.eta2, Fld.eta, Grp.eta]
              (repeat' (first | trivial | rfl | refine And.intro ?_ ?_))
            · simp only [hH, stdH, decide_eq_true_eq, decide_eq_false_iff_not, Bool.not_eq_true', Bool.not_eq_false', peta, ncast, Int.ofNat_eq_natCast, beq_iff_eq, bne_iff_ne, beq_eq_false_iff_ne, bne_eq_false_iff_eq, ne_eq, Classical.not_not, Int.toNat_natCast, vrow_I, Arm.eta2, Fld.eta, Grp.eta] at h3
              simp only [hH, stdH, Int.toNat_natCast] at h4
              rw [pf_c, decide_eq_false_iff_not] at h4
              refine ⟨⟨l + 1, by omega, pfn nl h4⟩, by simp only; omega, ?_⟩
              rw [hI3]
              (conv in matchSt _ _ _ _ => cbv); simp only [AllG, AllP, and_true, hH, stdH, ncast, Int.ofNat_eq_natCast, vrow_I, Arm.eta2, Fld.eta, Grp.eta]
              rw [w1 (by omega)]
              (repeat' (first | trivial | rfl | refine And.intro ?_ ?_))
            · simp only [hH, stdH, decide_eq_true_eq, decide_eq_false_iff_not, Bool.not_eq_true', Bool.not_eq_false', peta, ncast, Int.ofNat_eq_natCast, beq_iff_eq, bne_iff_ne, beq_eq_false_iff_ne, bne_eq_false_iff_eq, ne_eq, Classical.not_not, Int.toNat_natCast, vrow_I, Arm.eta2, Fld.eta, Grp.eta] at h3
              obtain rfl : l = 9 := by omega
              rw [if_neg (by decide)]
              refine ⟨⟨u + 1, by omega, pfl9 nl⟩, by simp only; omega, ?_⟩
              rw [hI2]
              (conv in matchSt _ _ _ _ => cbv); simp only [AllG, AllP, and_true, hH, stdH, ncast, Int.ofNat_eq_natCast, vrow_I, Arm.eta2, Fld.eta, Grp.eta]
              rw [w1 (by omega)]
              (repeat' (first | trivial | rfl | refine And.intro ?_ ?_))
        · simp only [hH, stdH, decide_eq_true_eq, decide_eq_false_iff_not, Bool.not_eq_true', Bool.not_eq_false', peta, ncast, Int.ofNat_eq_natCast, beq_iff_eq, bne_iff_ne, beq_eq_false_iff_ne, bne_eq_false_iff_eq, ne_eq, Classical.not_not, Int.toNat_natCast, vrow_I, Arm.eta2, Fld.eta, Grp.eta] at h2
          obtain rfl : u = 9 := by omega
          rw [if_neg (by decide)]
          refine ⟨⟨p + 1, by omega, pfu9 nu⟩, by simp only; omega, ?_⟩
          rw [hI]
          (conv in matchSt _ _ _ _ => cbv); simp only [AllG, AllP, and_true, hH, stdH, ncast, Int.ofNat_eq_natCast, vrow_I, Arm.eta2, Fld.eta, Grp.eta]
          rw [w1 (by omega)]
          (repeat' (first | trivial | rfl | refine And.intro ?_ ?_))
    · simp only [hH, stdH, decide_eq_true_eq, decide_eq_false_iff_not, Bool.not_eq_true', Bool.not_eq_false', peta, ncast, Int.ofNat_eq_natCast, beq_iff_eq, bne_iff_ne, beq_eq_false_iff_ne, bne_eq_false_iff_eq, ne_eq, Classical.not_not, Int.toNat_natCast, vrow_I, Arm.eta2, Fld.eta, Grp.eta] at h1
      obtain rfl : p = 3 := by omega
      simp only [pf3 np, Option.isSome_none, Option.getD_none]
      try simp only [hH, stdH, decide_eq_true_eq, decide_eq_false_iff_not, Bool.not_eq_true', Bool.not_eq_false', peta, ncast, Int.ofNat_eq_natCast, beq_iff_eq, bne_iff_ne, beq_eq_false_iff_ne, bne_eq_false_iff_eq, ne_eq, Classical.not_not, Int.toNat_natCast, vrow_I, Arm.eta2, Fld.eta, Grp.eta]
      (repeat' (first | trivial | rfl | refine And.intro ?_ ?_))
noncomputable def e_parseFd : Entry := pureE 12 fun H a => match a with
  | [.lit (.string s)] => some (.tup [aT rowD H fun _ => (pfd s).getD ⟨0, 0, 0⟩, .lit (.bool (H Bool fun _ => (pfd s).isSome))], [])
  | _ => none
theorem eok_parseFd : EntryOk Try.prog e_parseFd := pureM_ok (by unfold isBody; kernel_rfl) (by
  intro a r ob e hob
  split at e
  · rename_i s
    simp only [Option.some.injEq, Prod.mk.injEq] at e
    obtain ⟨rfl, rfl⟩ := e
    exact ConN.args (.cons .rfl .nil) (c_parseFd s )
  · simp at e)
theorem c_parseFdS (s : ByteArray)  : ConN Try.prog 18 [.lit (.string s)] [] 0 (.tup [aT rowD stdH fun _ => (pfd s).getD ⟨0, 0, 0⟩, .lit (.bool (stdH Bool fun _ => (pfd s).isSome))]) [] [] := by
  have hB : Base Try.prog (tabΓ [e_fdTextS]) tab := base_of tabOk (ents_cons eok_fdTextS <| ents_nil)
  refine con_m (N := 39) hB (draw_ok hB mixed) Try.func18 rfl rfl (fun H => [.lit (.string s)]) (fun _ => []) 0 (fun H => .tup [aT rowD H fun _ => (pfd s).getD ⟨0, 0, 0⟩, .lit (.bool (H Bool fun _ => (pfd s).isSome))]) (fun H => []) (fun _ => []) 200 (by simp) (fun x hx => ?_) (by simp [lk]) (by omega) (by simp) ?_
  · simp only [List.mem_cons, List.not_mem_nil, or_false] at hx
    rcases hx with rfl
    · exact .lit
  intro X hX hX0 H hH
  conv in Fin.chk _ _ => cbv
  try simp only [Plain_rowsA, Plain_rowsB, Plain_rowsC, Plain_rowsD, Plain_rowsF, Plain_rowsG, Plain_rowsI, Plain_rowsS, Plain_rowsU, Fin.satC_ret, Fin.satC_br, Fin.satC_need, Fin.satC_again, AllP, and_true, true_and, upd, List.length_nil, List.length_cons, Nat.zero_add, if_true, ncast, Int.ofNat_eq_natCast]
  refine loop_a hB (draw_ok hB mixed) hX hX0 hH false (ι := { p : Nat // p ≤ 3 ∧ ∀ x : Fdg, okFd x = true → x.p ≤ p → fdT x ≠ s }) 200 (fun p => [.i (H Int fun _ => (p.1 + 1 : Nat)), .i (H Int fun _ => 0), .i (H Int fun _ => 0), .i (H Int fun _ => 0)]) (fun p => 3 - p.1) (⟨0, by omega, pf0⟩) ?_ ?_
  · (conv in matchSt _ _ _ _ => cbv); simp only [AllG, AllP, and_true, hH, stdH, ncast, Int.ofNat_eq_natCast, vrow_I, Arm.eta2, Fld.eta, Grp.eta]
    (repeat' (first | trivial | rfl | refine And.intro ?_ ?_))
  · intro I hI p
    conv in Fin.chk _ _ => cbv
    try simp only [Plain_rowsA, Plain_rowsB, Plain_rowsC, Plain_rowsD, Plain_rowsF, Plain_rowsG, Plain_rowsI, Plain_rowsS, Plain_rowsU, Fin.satC_ret, Fin.satC_br, Fin.satC_need, Fin.satC_again, AllP, and_true, true_and, upd, List.length_nil, List.length_cons, Nat.zero_add, if_true, ncast, Int.ofNat_eq_natCast]
    obtain ⟨p, hp, np⟩ := p
    refine ⟨fun h1 => ?_, fun h1 => ?_⟩
    · simp only [hH, stdH, decide_eq_true_eq, decide_eq_false_iff_not, Bool.not_eq_true', Bool.not_eq_false', peta, ncast, Int.ofNat_eq_natCast, beq_iff_eq, bne_iff_ne, beq_eq_false_iff_ne, bne_eq_false_iff_eq, ne_eq, Classical.not_not, Int.toNat_natCast, vrow_I, Arm.eta2, Fld.eta, Grp.eta] at h1
      refine loop_a hB (draw_ok hB mixed) hX hX0 hH true (ι := { u : Nat // u ≤ 9 ∧ ∀ x : Fdg, okFd x = true → x.p ≤ p ∨ x.p = p + 1 ∧ x.u ≤ u → fdT x ≠ s }) 200 (fun u => [.i (H Int fun _ => (u.1 + 1 : Nat)), .i (H Int fun _ => 0), .i (H Int fun _ => 0), .i (H Int fun _ => 0)]) (fun u => 9 - u.1) (⟨0, by omega, pfu np⟩) ?_ ?_
      · (conv in matchSt _ _ _ _ => cbv); simp only [AllG, AllP, and_true, hH, stdH, ncast, Int.ofNat_eq_natCast, vrow_I, Arm.eta2, Fld.eta, Grp.eta]
        (repeat' (first | trivial | rfl | refine And.intro ?_ ?_))
      · intro I2 hI2 u
        conv in Fin.chk _ _ => cbv
        try simp only [Plain_rowsA, Plain_rowsB, Plain_rowsC, Plain_rowsD, Plain_rowsF, Plain_rowsG, Plain_rowsI, Plain_rowsS, Plain_rowsU, Fin.satC_ret, Fin.satC_br, Fin.satC_need, Fin.satC_again, AllP, and_true, true_and, upd, List.length_nil, List.length_cons, Nat.zero_add, if_true, ncast, Int.ofNat_eq_natCast]
        obtain ⟨u, hu, nu⟩ := u
        refine ⟨fun h2 => ?_, fun h2 => ?_⟩
        · simp only [hH, stdH, decide_eq_true_eq, decide_eq_false_iff_not, Bool.not_eq_true', Bool.not_eq_false', peta, ncast, Int.ofNat_eq_natCast, beq_iff_eq, bne_iff_ne, beq_eq_false_iff_ne, bne_eq_false_iff_eq, ne_eq, Classical.not_not, Int.toNat_natCast, vrow_I, Arm.eta2, Fld.eta, Grp.eta] at h2
          refine loop_a hB (draw_ok hB mixed) hX hX0 hH true (ι := { l : Nat // l ≤ 9 ∧ ∀ x : Fdg, okFd x = true → x.p ≤ p ∨ x.p = p + 1 ∧ (x.u ≤ u ∨ x.u = u + 1 ∧ x.l ≤ l) → fdT x ≠ s }) 200 (fun l => [.i (H Int fun _ => (l.1 + 1 : Nat)), .i (H Int fun _ => 0), .i (H Int fun _ => 0), .i (H Int fun _ => 0)]) (fun l => 9 - l.1) (⟨0, by omega, pfl nu⟩) ?_ ?_
          · (conv in matchSt _ _ _ _ => cbv); simp only [AllG, AllP, and_true, hH, stdH, ncast, Int.ofNat_eq_natCast, vrow_I, Arm.eta2, Fld.eta, Grp.eta]
            (repeat' (first | trivial | rfl | refine And.intro ?_ ?_))
          · intro I3 hI3 l
            conv in Fin.chk _ _ => cbv
            try simp only [Plain_rowsA, Plain_rowsB, Plain_rowsC, Plain_rowsD, Plain_rowsF, Plain_rowsG, Plain_rowsI, Plain_rowsS, Plain_rowsU, Fin.satC_ret, Fin.satC_br, Fin.satC_need, Fin.satC_again, AllP, and_true, true_and, upd, List.length_nil, List.length_cons, Nat.zero_add, if_true, ncast, Int.ofNat_eq_natCast]
            obtain ⟨l, hl, nl⟩ := l
            refine ⟨fun h3 => ⟨fun h4 => ?_, fun h4 => ?_⟩, fun h3 => ?_⟩
            · simp only [hH, stdH, Int.toNat_natCast] at h4
              rw [pf_c, decide_eq_true_eq] at h4
              have e := pfd_hit h4.1 h4.2
              simp only [e, Option.isSome_some, Option.getD_some]
              try simp only [hH, stdH, decide_eq_true_eq, decide_eq_false_iff_not, Bool.not_eq_true', Bool.not_eq_false', peta, ncast, Int.ofNat_eq_natCast, beq_iff_eq, bne_iff_ne, beq_eq_false_iff_ne, bne_eq_false_iff_eq, ne_eq, Classical.not_not, Int.toNat_natCast, vrow_I, Arm.eta2, Fld.eta, Grp.eta]
              (repeat' (first | trivial | rfl | refine And.intro ?_ ?_))
            · simp only [hH, stdH, decide_eq_true_eq, decide_eq_false_iff_not, Bool.not_eq_true', Bool.not_eq_false', peta, ncast, Int.ofNat_eq_natCast, beq_iff_eq, bne_iff_ne, beq_eq_false_iff_ne, bne_eq_false_iff_eq, ne_eq, Classical.not_not, Int.toNat_natCast, vrow_I, Arm.eta2, Fld.eta, Grp.eta] at h3
              simp only [hH, stdH, Int.toNat_natCast] at h4
              rw [pf_c, decide_eq_false_iff_not] at h4
              refine ⟨⟨l + 1, by omega, pfn nl h4⟩, by simp only; omega, ?_⟩
              rw [hI3]
              (conv in matchSt _ _ _ _ => cbv); simp only [AllG, AllP, and_true, hH, stdH, ncast, Int.ofNat_eq_natCast, vrow_I, Arm.eta2, Fld.eta, Grp.eta]
              rw [w1 (by omega)]
              (repeat' (first | trivial | rfl | refine And.intro ?_ ?_))
            · simp only [hH, stdH, decide_eq_true_eq, decide_eq_false_iff_not, Bool.not_eq_true', Bool.not_eq_false', peta, ncast, Int.ofNat_eq_natCast, beq_iff_eq, bne_iff_ne, beq_eq_false_iff_ne, bne_eq_false_iff_eq, ne_eq, Classical.not_not, Int.toNat_natCast, vrow_I, Arm.eta2, Fld.eta, Grp.eta] at h3
              obtain rfl : l = 9 := by omega
              rw [if_neg (by decide)]
              refine ⟨⟨u + 1, by omega, pfl9 nl⟩, by simp only; omega, ?_⟩
              rw [hI2]
              (conv in matchSt _ _ _ _ => cbv); simp only [AllG, AllP, and_true, hH, stdH, ncast, Int.ofNat_eq_natCast, vrow_I, Arm.eta2, Fld.eta, Grp.eta]
              rw [w1 (by omega)]
              (repeat' (first | trivial | rfl | refine And.intro ?_ ?_))
        · simp only [hH, stdH, decide_eq_true_eq, decide_eq_false_iff_not, Bool.not_eq_true', Bool.not_eq_false', peta, ncast, Int.ofNat_eq_natCast, beq_iff_eq, bne_iff_ne, beq_eq_false_iff_ne, bne_eq_false_iff_eq, ne_eq, Classical.not_not, Int.toNat_natCast, vrow_I, Arm.eta2, Fld.eta, Grp.eta] at h2
          obtain rfl : u = 9 := by omega
          rw [if_neg (by decide)]
          refine ⟨⟨p + 1, by omega, pfu9 nu⟩, by simp only; omega, ?_⟩
          rw [hI]
          (conv in matchSt _ _ _ _ => cbv); simp only [AllG, AllP, and_true, hH, stdH, ncast, Int.ofNat_eq_natCast, vrow_I, Arm.eta2, Fld.eta, Grp.eta]
          rw [w1 (by omega)]
          (repeat' (first | trivial | rfl | refine And.intro ?_ ?_))
    · simp only [hH, stdH, decide_eq_true_eq, decide_eq_false_iff_not, Bool.not_eq_true', Bool.not_eq_false', peta, ncast, Int.ofNat_eq_natCast, beq_iff_eq, bne_iff_ne, beq_eq_false_iff_ne, bne_eq_false_iff_eq, ne_eq, Classical.not_not, Int.toNat_natCast, vrow_I, Arm.eta2, Fld.eta, Grp.eta] at h1
      obtain rfl : p = 3 := by omega
      simp only [pf3 np, Option.isSome_none, Option.getD_none]
      try simp only [hH, stdH, decide_eq_true_eq, decide_eq_false_iff_not, Bool.not_eq_true', Bool.not_eq_false', peta, ncast, Int.ofNat_eq_natCast, beq_iff_eq, bne_iff_ne, beq_eq_false_iff_ne, bne_eq_false_iff_eq, ne_eq, Classical.not_not, Int.toNat_natCast, vrow_I, Arm.eta2, Fld.eta, Grp.eta]
      (repeat' (first | trivial | rfl | refine And.intro ?_ ?_))
noncomputable def e_parseFdS : Entry := pureE 18 fun H a => match a with
  | [.lit (.string s)] => some (.tup [aT rowD H fun _ => (pfd s).getD ⟨0, 0, 0⟩, .lit (.bool (H Bool fun _ => (pfd s).isSome))], [])
  | _ => none
theorem eok_parseFdS : EntryOk Try.prog e_parseFdS := pureM_ok (by unfold isBody; kernel_rfl) (by
  intro a r ob e hob
  split at e
  · rename_i s
    simp only [Option.some.injEq, Prod.mk.injEq] at e
    obtain ⟨rfl, rfl⟩ := e
    exact ConN.args (.cons .rfl .nil) (c_parseFdS s )
  · simp at e)

end Go.Proofs.Ytoommgpcmgnpaaa.AM
