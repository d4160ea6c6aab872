/- Lemmas and contracts (Sko); conditions: none. -/
import Derived.Test.YtmkniipdkanbbaaGreatDoorK04
import Derived.Test.YtmkniipdkanbbaaGreatDoorK10
import Derived.Test.YtmkniipdkanbbaaGreatDoorK17
import Derived.Test.YtmkniipdkanbbaaGreatDoorK21
import Derived.Test.YtmkniipdkanbbaaGreatDoorK23
set_option linter.unusedVariables false
set_option linter.unusedSimpArgs false
set_option maxRecDepth 100000
set_option maxHeartbeats 4000000
set_option cbv.maxSteps 3000000
namespace Go.Proofs.YtmkniipdkanbbaaGreatDoor.AM
/- Sketches by the program: slots; conditions: none. -/
theorem c_cutSuf (s p : ByteArray) (h0 : s.size ≤ 4000000) : Con Tryz.prog 65 [.lit (.string s), .lit (.string p)] [] (.tup [.lit (.string ⟨(Lib.trimSuffix s.data.toList p.data.toList).toArray⟩), .lit (.bool (Lib.hasSuffix s.data.toList p.data.toList))]) [] :=
  con_below (l := [.string s, .string p]) (fun _ => .tup (vs := [_, _]) rfl fun i x v hx hv => by
    rcases i with _ | _ | i <;> simp at hx hv <;> subst hx <;> subst hv
    · exact .lit rfl
    · exact .lit rfl) fun w _ => (Tryz.strings_CutSuffix s p w (by omega)).mono fun e w' ⟨h1, h2⟩ => ⟨h1, by subst h2; exact .refl _ _⟩
noncomputable def e_cutSuf : Entry := pureE 65 fun H a => match a with
  | [.lit (.string s), .lit (.string p)] => some (.tup [.lit (.string (H ByteArray fun _ => (befS s p))), .lit (.bool (H Bool fun _ => (isSuf s p)))], [H Prop fun _ => s.size ≤ 4000000])
  | _ => none
theorem eok_cutSuf : EntryOk Tryz.prog e_cutSuf := pureE_ok (by unfold isBody; kernel_rfl) (by
  intro a r ob e hob
  split at e
  · simp only [zqt] at e
    obtain ⟨rfl, rfl⟩ := e
    obtain ⟨h0, _⟩ := hob
    exact c_cutSuf _ _ h0
  · simp at e)
theorem c_trimSuf (s p : ByteArray) (h0 : s.size ≤ 4000000) : Con Tryz.prog 75 [.lit (.string s), .lit (.string p)] [] (.lit (.string ⟨(Lib.trimSuffix s.data.toList p.data.toList).toArray⟩)) [] :=
  con_below (l := [.string s, .string p]) (fun _ => .lit rfl) fun w _ => (Tryz.strings_TrimSuffix s p w (by omega)).mono fun e w' ⟨h1, h2⟩ => ⟨h1, by subst h2; exact .refl _ _⟩
noncomputable def e_trimSuf : Entry := pureE 75 fun H a => match a with
  | [.lit (.string s), .lit (.string p)] => some (.lit (.string (H ByteArray fun _ => (befS s p))), [H Prop fun _ => s.size ≤ 4000000])
  | _ => none
theorem eok_trimSuf : EntryOk Tryz.prog e_trimSuf := pureE_ok (by unfold isBody; kernel_rfl) (by
  intro a r ob e hob
  split at e
  · simp only [zqt] at e
    obtain ⟨rfl, rfl⟩ := e
    obtain ⟨h0, _⟩ := hob
    exact c_trimSuf _ _ h0
  · simp at e)
theorem allY_ok {i : Nat} (h : i < 14) : okY (allY.getD i default) = true := by
  have : ∀ i, i < 14 → okY (allY.getD i default) = true := by decide
  exact this i h
theorem c_slotTx (y : Slo) (h0 : okY y = true) : ConN Tryz.prog 66 [aT rowY stdH fun _ => y] [] 0 (.lit (.string (stdH ByteArray fun _ => slW y))) [] [] := by
  have hB : Base Tryz.prog (tabΓ [e_tincW]) tab := base_of tabOk (ents_cons eok_tincW <| ents_nil)
  refine con_m (N := 24) hB (draw_ok hB mixed) Tryz.func66 rfl rfl (fun H => [aT rowY H fun _ => y]) (fun _ => []) 0 (fun H => .lit (.string (H ByteArray fun _ => slW y))) (fun H => []) (fun _ => []) 100 (by simp) (fun x hx => ?_) (by simp [lk]) (by omega) (by simp) ?_
  · simp only [zqu] at hx
    rcases hx with rfl
    · exact aT_bl okRY _ _
  intro X hX hX0 H hH
  conv in Fin.chk _ _ => cbv
  try simp only [zqs, Plain_rowsC, Plain_rowsY, zqx, AllP, zqw, upd, if_true]
  obtain ⟨m, n⟩ := y
  unfold okY inB at h0
  subst hH
  simp only [stdH, beq_iff_eq, beq_eq_false_iff_ne, ne_eq] at h0 ⊢
  have z1 := tinL_sz n
  refine ⟨fun h1 => ?_, fun h1 => ⟨fun h2 => ?_, fun h2 => ⟨fun h3 => ?_, fun h3 => ⟨fun h4 => ?_, fun h4 => ?_⟩⟩⟩⟩
  · subst h1
    rw [if_pos rfl, decide_eq_true_eq] at h0
    refine ⟨h0, by simp only [bsz, List.length_cons, List.length_nil]; omega, rfl⟩
  · subst h2; rfl
  · subst h3
    rw [if_neg (by decide), if_pos rfl, decide_eq_true_eq] at h0
    have e : IntKind.i64.wrap (n - 1) = n - 1 := wi (by omega) (by omega)
    simp only [e]
    have z3 : (nthL.getD (n - 1).toNat ByteArray.empty).size ≤ 6 := getD_sz (l := nthL) (m := 6) (by decide) _
    exact ⟨by omega, by simp only [bsz, List.length_cons, List.length_nil]; show 8 + (nthL.getD (n - 1).toNat ByteArray.empty).size ≤ _; omega, rfl⟩
  · subst h4; rfl
  · unfold slW
    simp only [h1, h2, h3, h4, if_false]
    rfl
noncomputable def e_slotTx : Entry := pureE 66 fun H a => match a with
  | [.agg [.lit (.int .i64 y0), .lit (.int .i64 y1)]] => some (.lit (.string (H ByteArray fun _ => slW (⟨y0, y1⟩ : Slo))), [H Prop fun _ => okY (⟨y0, y1⟩ : Slo) = true])
  | _ => none
theorem eok_slotTx : EntryOk Tryz.prog e_slotTx := pureM_ok (by unfold isBody; kernel_rfl) (by
  intro a r ob e hob
  split at e
  · rename_i y0 y1
    simp only [zqt] at e
    obtain ⟨rfl, rfl⟩ := e
    exact ConN.args (.cons .rfl .nil) (c_slotTx (⟨y0, y1⟩ : Slo) hob.1)
  · simp at e)
theorem dr2 (f : Nat → List AV) : dropR 0 2 f = f := by
  funext j
  show f (0 / 2 + j) = f j
  rw [Nat.zero_div, Nat.zero_add]
theorem PlY1 (L : List Slo) (x y : Int) : Plain (L.length + 1) (app L.length (rowsY stdH fun _ => L) (dropR 0 2 (rowsOf 2 [.lit (.int .i64 x), .lit (.int .i64 y)]))) := by
  rw [dr2]
  have hp : Plain L.length (rowsY stdH fun _ => L) := of_eq_true (Plain_rowsY _ stdH fun _ => L)
  have hq : Plain 1 (rowsOf 2 [AV.lit (.int .i64 x), AV.lit (.int .i64 y)]) := by
    constructor
    intro j hj z hz
    obtain rfl : j = 0 := by omega
    have hz : z ∈ [AV.lit (.int .i64 x), AV.lit (.int .i64 y)] := hz
    simp only [zqu] at hz
    rcases hz with rfl | rfl <;> rfl
  exact Plain.app hp hq
theorem RowsEq.snocY {L : List Slo} {x y : Int} : RowsEq 2 (L ++ [(⟨x, y⟩ : Slo)]).length (rowsY stdH fun _ => L ++ [(⟨x, y⟩ : Slo)]) (L.length + 1) (app L.length (rowsY stdH fun _ => L) (dropR 0 2 (rowsOf 2 [.lit (.int .i64 x), .lit (.int .i64 y)]))) := by
  rw [dr2]
  exact RowsEq.snoc okRY (x := ⟨x, y⟩) (k' := 2) (cs := [.lit (.int .i64 x), .lit (.int .i64 y)]) rfl
theorem allY_s : ∀ i, i < 9 → allY.take (5 + (i + 1)) = allY.take (5 + i) ++ [⟨1, ((i + 1 : Nat) : Int)⟩] := by decide
theorem allY_n {i : Nat} (h : i ≤ 9) : (allY.take (5 + i)).length = 5 + i := by rw [List.length_take]; show min (5 + i) 14 = _; omega
theorem c_allSl   : ConN Tryz.prog 64 [] [] 0 (.slc 0 0 2 (stdH Nat fun _ => (allY).length)) [.rows 2 (stdH Nat fun _ => (allY).length) (rowsY stdH fun _ => allY) 56] [] := by
  have hB : Base Tryz.prog (tabΓ []) tabA := base_of tabOkA (ents_nil)
  refine con_m (N := 19) hB (draw_ok hB mixed) Tryz.func64 rfl rfl (fun H => []) (fun _ => []) 0 (fun H => .slc 0 0 2 (H Nat fun _ => (allY).length)) (fun H => [.rows 2 (H Nat fun _ => (allY).length) (rowsY H fun _ => allY) 56]) (fun _ => []) 200 (by simp) (fun x hx => ?_) (by simp [lk]) (by omega) (by simp) ?_
  · cases hx
  intro X hX hX0 H hH
  conv in Fin.chk _ _ => cbv
  try simp only [zqs, Plain_rowsC, Plain_rowsY, zqx, AllP, zqw, upd, if_true]
  refine loop_a hB (draw_ok hB mixed) hX hX0 hH false (ι := { i : Nat // i ≤ 9 }) 200 (fun i => [.r (H Nat fun _ => (allY.take (5 + i.1)).length) (rowsY H fun _ => allY.take (5 + i.1)), .i (H Int fun _ => (i.1 + 1 : Nat))]) (fun i => 9 - i.1) (⟨0, by omega⟩) ?_ ?_
  · (conv in matchSt _ _ _ _ => cbv); simp only [AllG, AllP, and_true, hH, stdH, zql, ncast, zqe, zqy]
    refine ⟨RowsEq.ofT okRY rfl ⟨fun j hj => ?_⟩ rfl, rfl, rfl⟩
    rcases (by omega : j = 0 ∨ j = 1 ∨ j = 2 ∨ j = 3 ∨ j = 4) with rfl | rfl | rfl | rfl | rfl <;> rfl
  · intro I hI i
    conv in Fin.chk _ _ => cbv
    try simp only [zqs, Plain_rowsC, Plain_rowsY, zqx, AllP, zqw, upd, if_true]
    obtain ⟨i, hi⟩ := i
    have al := allY_n hi
    refine ⟨fun h1 => ⟨?_, ⟨i + 1, ?_⟩, ?_, ?_⟩, fun h1 => ?_⟩
    · try simp only [hH, stdH, zqz, ne_eq, zqy]
      (repeat' (with_reducible refine And.intro ?_ ?_)) <;> (first | exact True.intro | exact PlY1 _ _ _ | omega | (intro j hj; obtain rfl : j = 0 := (by omega); rfl))
    · simp only [hH, stdH, zqz, ne_eq, zqy] at h1
      omega
    · simp only [hH, stdH, zqz, ne_eq, zqy] at h1
      simp only; omega
    · simp only [hH, stdH, zqz, ne_eq, zqy] at h1
      rw [hI]
      (conv in matchSt _ _ _ _ => cbv); simp only [AllG, AllP, and_true, hH, stdH, zql, ncast, zqe, zqy]
      rw [w1 (by omega), allY_s i (by omega)]
      (repeat' (with_reducible refine And.intro ?_ ?_)) <;> (first | exact True.intro | rfl | exact RowsEq.snocY | exact List.length_append)
    · simp only [hH, stdH, zqz, ne_eq, zqy] at h1
      obtain rfl : i = 9 := by omega
      try simp only [hH, stdH, zqz, ne_eq, zqy]
      exact ⟨RowsEq.self okRY, rfl⟩
noncomputable def e_allSl : Entry := pureN 64 fun H a => match a with
  | [] => some (fun nx => .slc nx 0 2 (H Nat fun _ => (allY).length), [.rows 2 (H Nat fun _ => (allY).length) (rowsY H fun _ => allY) 56], [])
  | _ => none
theorem eok_allSl : EntryOk Tryz.prog e_allSl := pureN_ok (by unfold isBody; kernel_rfl) (by
  intro a r nb ob e hob
  split at e
  · simp only [zqt] at e
    obtain ⟨rfl, rfl, rfl⟩ := e
    refine ⟨ConN.args .nil (c_allSl  ), fun x hx => ?_, fun nx => ?_, fun b hb => ?_⟩
    · cases hx
    · (first | exact .slc ⟨by omega, by simp⟩ (by omega) | (refine .tup rfl (fun c x y hx hy => ?_); rcases c with _ | _ | _ | c <;> simp at hx hy <;> (subst hx; subst hy; first | exact .slc ⟨by omega, by simp⟩ (by omega) | exact .pl .lit | exact .pl (blq_ok 4 rfl) | (refine .agg rfl (fun c x y hx hy => ?_); rcases c with _ | _ | _ | c <;> simp at hx hy <;> (subst hx; subst hy; first | exact .slc ⟨by omega, by simp⟩ (by omega) | exact .pl .lit | exact .pl (blq_ok 4 rfl))))) | (refine .agg rfl (fun c x y hx hy => ?_); rcases c with _ | _ | _ | c <;> simp at hx hy <;> (subst hx; subst hy; first | exact .slc ⟨by omega, by simp⟩ (by omega) | exact .pl .lit | exact .pl (blq_ok 4 rfl))))
    · simp only [zqu] at hb; subst hb; exact bT_bl okRY _ (fun _ => allY) _
  · simp at e)
theorem befS_sz (s p : ByteArray) : (befS s p).size ≤ s.size := by
  unfold befS Lib.trimSuffix
  show (List.length _) ≤ s.data.toList.length
  split
  · rw [List.length_take]; omega
  · exact Nat.le_refl _
theorem allY_get {i : Nat} (h : i < 14) : allY.getD i default ∈ allY := getD_mem (d := default) h
theorem cutK_hit {s : ByteArray} {i : Nat} (hi : i < 14) (h : isSuf s (slW (allY.getD i default)) = true) : cutK s = (befS s (slW (allY.getD i default)), allY.getD i default) := by
  obtain ⟨t, rfl⟩ := isSuf_iff.1 h
  rw [cutK_y (allY_get hi), befS_app]
theorem cutK_miss {s : ByteArray} (h : ∀ j, j < 14 → isSuf s (slW (allY.getD j default)) = false) : cutK s = (s, nxY) := by
  refine cutL_no fun y hy => ?_
  obtain ⟨j, hj, rfl⟩ := List.getElem_of_mem hy
  have := h j hj
  rwa [List.getD_eq_getElem?_getD, List.getElem?_eq_getElem hj] at this
theorem c_cutSl (s : ByteArray) (h0 : s.size ≤ 1100000) : ConN Tryz.prog 27 [.lit (.string s)] [] 0 (.tup [.lit (.string (stdH ByteArray fun _ => (cutK s).1 ++ golB)), aT rowY stdH fun _ => (cutK s).2]) [] [] := by
  have hB : Base Tryz.prog (tabΓ [e_allSl, e_slotTx, e_cutSuf]) tabO := base_of tabOkO (ents_cons eok_allSl <| ents_cons eok_slotTx <| ents_cons eok_cutSuf <| ents_nil)
  refine con_m (N := 29) hB (draw_ok hB mixed) Tryz.func27 rfl rfl (fun H => [.lit (.string s)]) (fun _ => []) 0 (fun H => .tup [.lit (.string (H ByteArray fun _ => (cutK s).1 ++ golB)), aT rowY H fun _ => (cutK s).2]) (fun H => []) (fun _ => []) 300 (by simp) (fun x hx => ?_) (by simp [lk]) (by omega) (by simp) ?_
  · simp only [zqu] at hx
    rcases hx with rfl
    · exact .lit
  intro X hX hX0 H hH
  conv in Fin.chk _ _ => cbv
  try simp only [zqs, Plain_rowsC, Plain_rowsY, zqx, AllP, zqw, upd, if_true]
  refine loop_a hB (draw_ok hB mixed) hX hX0 hH false (ι := { i : Nat // i ≤ 14 ∧ ∀ j, j < i → isSuf s (slW (allY.getD j default)) = false }) 300 (fun i => [.s (H ByteArray fun _ => ByteArray.empty), .i (H Int fun _ => (i.1 : Nat)), .i (H Int fun _ => 0), .i (H Int fun _ => 0)]) (fun i => 14 - i.1) (⟨0, by omega, fun j hj => absurd hj (Nat.not_lt_zero j)⟩) ?_ ?_
  · (conv in matchSt _ _ _ _ => cbv); simp only [AllG, AllP, and_true, hH, stdH, zql, ncast, zqe, zqy]
    (repeat' (with_reducible refine And.intro ?_ ?_)) <;> (first | exact True.intro | rfl | exact RowsEq.self okRY)
  · intro I hI i
    conv in Fin.chk _ _ => cbv
    try simp only [zqs, Plain_rowsC, Plain_rowsY, zqx, AllP, zqw, upd, if_true]
    obtain ⟨i, hi, hj⟩ := i
    have gs : golB.size = 5 := rfl
    simp only [Slo.eta]
    have bs : ∀ p, (befS s p).size ≤ s.size := fun p => befS_sz s p
    refine ⟨fun h1 => ⟨?_, ?_, ?_, ?_, fun h2 => ⟨?_, ?_⟩, fun h2 => ?_⟩, fun h1 => ⟨?_, ?_⟩⟩
    · simp only [hH, stdH, zqz, ne_eq, zqy] at h1 ⊢
      omega
    · simp only [hH, stdH, zqz, ne_eq, zqy] at h1 ⊢
      exact ⟨by omega, rfl⟩
    · simp only [hH, stdH, zqz, ne_eq, zqy] at h1 ⊢
      exact allY_ok (by have : allY.length = 14 := rfl; omega)
    · try simp only [hH, stdH, zqz, ne_eq, zqy]
      omega
    · try simp only [hH, stdH, zqz, ne_eq, zqy]
      have := bs (slW ⟨(allY.getD i default).m, (allY.getD i default).n⟩)
      simp only [bsz, List.length_cons, List.length_nil]; omega
    · simp only [hH, stdH, zqz, ne_eq, zqy] at h1
      simp only [hH, stdH, zqz, ne_eq, zqy] at h2
      have l14 : allY.length = 14 := rfl
      rw [cutK_hit (i := i) (by omega) h2]
      try simp only [hH, stdH, zqz, ne_eq, zqy]
      exact ⟨trivial, trivial, rfl⟩
    · simp only [hH, stdH, zqz, ne_eq, zqy] at h1
      simp only [hH, stdH, zqz, ne_eq, zqy] at h2
      have l14 : allY.length = 14 := rfl
      refine ⟨⟨i + 1, by omega, fun j hj' => ?_⟩, by simp only; omega, ?_⟩
      · rcases Nat.lt_succ_iff_lt_or_eq.1 hj' with h | rfl
        · exact hj j h
        · exact h2
      · rw [hI]
        (conv in matchSt _ _ _ _ => cbv); simp only [AllG, AllP, and_true, hH, stdH, zql, ncast, zqe, zqy]
        rw [w1 (by omega)]
        (repeat' (with_reducible refine And.intro ?_ ?_)) <;> (first | exact True.intro | rfl | exact RowsEq.self okRY)
    · try simp only [hH, stdH, zqz, ne_eq, zqy]
      simp only [bsz, List.length_cons, List.length_nil]; omega
    · simp only [hH, stdH, zqz, ne_eq, zqy] at h1
      have l14 : allY.length = 14 := rfl
      rw [cutK_miss fun j hj' => hj j (by omega)]
      try simp only [hH, stdH, zqz, ne_eq, zqy]
      exact ⟨rfl, rfl, rfl⟩
noncomputable def e_cutSl : Entry := pureE 27 fun H a => match a with
  | [.lit (.string s)] => some (.tup [.lit (.string (H ByteArray fun _ => (cutK s).1 ++ golB)), aT rowY H fun _ => (cutK s).2], [H Prop fun _ => s.size ≤ 1100000])
  | _ => none
theorem eok_cutSl : EntryOk Tryz.prog e_cutSl := pureM_ok (by unfold isBody; kernel_rfl) (by
  intro a r ob e hob
  split at e
  · rename_i s
    simp only [zqt] at e
    obtain ⟨rfl, rfl⟩ := e
    exact ConN.args (.cons .rfl .nil) (c_cutSl s hob.1)
  · simp at e)
theorem c_slotTxS (y : Slo) (h0 : okY y = true) : ConN Tryz.prog 88 [aT rowY stdH fun _ => y] [] 0 (.lit (.string (stdH ByteArray fun _ => slW y))) [] [] := by
  have hB : Base Tryz.prog (tabΓ [e_l2Word]) tab := base_of tabOk (ents_cons eok_l2Word <| ents_nil)
  refine con_m (N := 23) hB (draw_ok hB mixed) Tryz.func88 rfl rfl (fun H => [aT rowY H fun _ => y]) (fun _ => []) 0 (fun H => .lit (.string (H ByteArray fun _ => slW y))) (fun H => []) (fun _ => []) 100 (by simp) (fun x hx => ?_) (by simp [lk]) (by omega) (by simp) ?_
  · simp only [zqu] at hx
    rcases hx with rfl
    · exact aT_bl okRY _ _
  intro X hX hX0 H hH
  conv in Fin.chk _ _ => cbv
  try simp only [zqs, Plain_rowsC, Plain_rowsY, zqx, AllP, zqw, upd, if_true]
  obtain ⟨m, n⟩ := y
  unfold okY inB at h0
  subst hH
  simp only [stdH, beq_iff_eq, beq_eq_false_iff_ne, ne_eq] at h0 ⊢
  have z1 := tinL_sz n
  refine ⟨fun h1 => ?_, fun h1 => ⟨fun h2 => ?_, fun h2 => ⟨fun h3 => ?_, fun h3 => ⟨fun h4 => ?_, fun h4 => ?_⟩⟩⟩⟩
  · subst h1
    rw [if_pos rfl, decide_eq_true_eq] at h0
    refine ⟨h0, by simp only [bsz, List.length_cons, List.length_nil]; omega, rfl⟩
  · subst h2; rfl
  · subst h3
    rw [if_neg (by decide), if_pos rfl, decide_eq_true_eq] at h0
    have e : IntKind.i64.wrap (n - 1) = n - 1 := wi (by omega) (by omega)
    simp only [e]
    refine ⟨by omega, ?_⟩
    rcases (by omega : n = 1 ∨ n = 2 ∨ n = 3) with rfl | rfl | rfl <;> decide
  · subst h4; rfl
  · unfold slW
    simp only [h1, h2, h3, h4, if_false]
    rfl
noncomputable def e_slotTxS : Entry := pureE 88 fun H a => match a with
  | [.agg [.lit (.int .i64 y0), .lit (.int .i64 y1)]] => some (.lit (.string (H ByteArray fun _ => slW (⟨y0, y1⟩ : Slo))), [H Prop fun _ => okY (⟨y0, y1⟩ : Slo) = true])
  | _ => none
theorem eok_slotTxS : EntryOk Tryz.prog e_slotTxS := pureM_ok (by unfold isBody; kernel_rfl) (by
  intro a r ob e hob
  split at e
  · rename_i y0 y1
    simp only [zqt] at e
    obtain ⟨rfl, rfl⟩ := e
    exact ConN.args (.cons .rfl .nil) (c_slotTxS (⟨y0, y1⟩ : Slo) hob.1)
  · simp at e)

end Go.Proofs.YtmkniipdkanbbaaGreatDoor.AM

