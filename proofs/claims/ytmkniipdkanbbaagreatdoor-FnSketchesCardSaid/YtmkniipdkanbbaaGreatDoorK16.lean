/- Lemmas and contracts (Prs); conditions: none. -/
import Derived.Test.YtmkniipdkanbbaaGreatDoorK04
import Derived.Test.YtmkniipdkanbbaaGreatDoorK10
import Derived.Test.YtmkniipdkanbbaaGreatDoorK13
import Derived.Test.YtmkniipdkanbbaaGreatDoorK14
import Derived.Test.YtmkniipdkanbbaaGreatDoorK15
set_option linter.unusedVariables false
set_option linter.unusedSimpArgs false
set_option maxRecDepth 100000
set_option maxHeartbeats 4000000
set_option cbv.maxSteps 3000000
namespace Go.Proofs.YtmkniipdkanbbaaGreatDoor.AM
/- Texts taken apart: words of tinctures, groups; conditions: none. -/
/-! ### Words -/
theorem spl_app (a b : List UInt8) : spl (a ++ 32 :: b) = spl a ++ spl b := by
  induction a with
  | nil => rfl
  | cons x a ih =>
    rw [List.cons_append, spl_cons, spl_cons, ih]
    by_cases hx : x = 32
    · rw [if_pos hx, if_pos hx]; rfl
    · rw [if_neg hx, if_neg hx]
      cases e : spl a with
      | nil => exact absurd e (spl_ne a)
      | cons w ws => rfl
def nsp (w : ByteArray) : Bool := w.data.toList.all fun b => b != 32
theorem wordsB_app (a b : ByteArray) : wordsB (a ++ (spB ++ b)) = wordsB a ++ wordsB b := by
  have e : (a ++ (spB ++ b)).data.toList = a.data.toList ++ 32 :: b.data.toList := by
    simp only [ByteArray.toList_data_append]; rfl
  unfold wordsB
  rw [e, spl_app, List.map_append]
theorem wordsB_one {w : ByteArray} (h : nsp w = true) : wordsB w = [w] := by
  unfold wordsB
  rw [spl_no fun b hb => by have := List.all_eq_true.1 h b hb; simpa using this]
  rfl
theorem nsp_getD {l : List ByteArray} (h : l.all nsp = true) (i : Nat) : nsp (l.getD i ByteArray.empty) = true := by
  rw [List.getD_eq_getElem?_getD]
  cases e : l[i]? with
  | none => rfl
  | some s => exact List.all_eq_true.1 h s (List.mem_of_getElem? e)
theorem nsp_w {l : List ByteArray} (h : l.all nsp = true) (x : Int) : nsp (wordOf l x) = true := nsp_getD h _
theorem nsp_tin (x : Int) : nsp (wordOf tinL x) = true := nsp_w (by decide) x
theorem nsp_knd (k c : Int) : nsp (kndT k c) = true := by
  have h := nsp_w (l := kndL) (by decide) k
  unfold kndT
  split
  · unfold nsp at *
    rw [ByteArray.toList_data_append, List.all_append, h]; rfl
  · exact h
theorem nsp_cnt (c k : Int) : nsp (cntT c k) = true := by
  unfold cntT; split
  · rfl
  · exact nsp_w (by decide) c
theorem nsp_att (k x : Int) : nsp (wordOf (attL k) x) = true := by
  refine nsp_w ?_ x
  unfold attL; split <;> (try split) <;> (try split) <;> decide
/-! ### Where a word stands -/
def ixS (l : List ByteArray) (w : ByteArray) : Int := idxF (fun y => decide (y = w)) l
theorem ixS_ge (l : List ByteArray) (w : ByteArray) : -1 ≤ ixS l w ∧ ixS l w < (l.length : Nat) := by
  unfold ixS idxF
  split
  · rename_i h
    have := List.findIdx_lt_length_of_exists (List.any_eq_true.1 h)
    omega
  · omega
def dif (l : List ByteArray) : Bool := (List.range l.length).all fun i => (List.range l.length).all fun j => decide (l.getD i ByteArray.empty = l.getD j ByteArray.empty → i = j)
theorem ixS_word {l : List ByteArray} (hd : dif l = true) {x : Int} (h1 : 1 ≤ x) (h2 : x ≤ (l.length : Nat)) : ixS l (wordOf l x) = x - 1 := by
  have hd' : ∀ i j, i < l.length → j < l.length → l.getD i ByteArray.empty = l.getD j ByteArray.empty → i = j := fun i j hi hj e => by
    unfold dif at hd
    rw [List.all_eq_true] at hd
    have := hd i (List.mem_range.2 hi)
    rw [List.all_eq_true] at this
    exact (of_decide_eq_true (this j (List.mem_range.2 hj))) e
  unfold ixS wordOf
  rw [idxF_at ByteArray.empty (i := (x - 1).toNat) (by omega) (decide_eq_true rfl) (fun j hj => decide_eq_false fun e => by have := hd' j _ (by omega) (by omega) e; omega)]
  omega
def pT (s : ByteArray) : Int := ixS tinL s + 1
theorem pT_w {x : Int} (h : 1 ≤ x ∧ x ≤ 9) : pT (wordOf tinL x) = x := by
  unfold pT; rw [ixS_word (l := tinL) (by decide) h.1 (show x ≤ ((9 : Nat) : Int) by omega)]; omega
theorem pT_in (s : ByteArray) : 0 ≤ pT s ∧ pT s ≤ 9 := by
  have := ixS_ge tinL s
  have l9 : (tinL.length : Int) = 9 := rfl
  unfold pT; omega
theorem beqC (s t : ByteArray) : (s.toList == t.toList) = decide (t = s) := by
  rw [beqT, Bool.eq_iff_iff, decide_eq_true_eq, decide_eq_true_eq]; exact eq_comm
theorem c_idxS (s : List ByteArray) (v : ByteArray) (h0 : s.length ≤ 2000000) : ConN Tryz.prog 115 [.vec 1 (stdH Nat fun _ => (s).length) (rowsS stdH fun _ => s), .lit (.string v)] [] 0 (.lit (.int .i64 (stdH Int fun _ => ixS s v))) [] [] := by
  have hB : Base Tryz.prog (tabΓ []) tab := base_of tabOk (ents_nil)
  refine con_m (N := 19) hB (draw_ok hB mixed) Tryz.func115 rfl rfl (fun H => [.vec 1 (H Nat fun _ => (s).length) (rowsS H fun _ => s), .lit (.string v)]) (fun _ => []) 0 (fun H => .lit (.int .i64 (H Int fun _ => ixS s v))) (fun H => []) (fun _ => []) 100 (by simp) (fun x hx => ?_) (by simp [lk]) (by omega) (by simp) ?_
  · simp only [zqu] at hx
    rcases hx with rfl | rfl
    · exact vl_bl okS s _
    · exact .lit
  intro X hX hX0 H hH
  conv in Fin.chk _ _ => cbv
  try simp only [zqs, Plain_rowsC, zqx, AllP, zqw, upd, if_true]
  refine loop_a hB (draw_ok hB mixed) hX hX0 hH false (ι := { i : Nat // i ≤ (s).length ∧ ∀ j, j < i → (fun y => decide (y = v)) ((s).getD j ByteArray.empty) = false }) 100 (fun i => [.i (H Int fun _ => 0), .i (H Int fun _ => (i.1 : Nat))]) (fun i => (s).length - i.1) (⟨0, by omega, by omega⟩) ?_ ?_
  · (conv in matchSt _ _ _ _ => cbv); simp only [AllG, AllP, and_true, hH, stdH, zql, ncast, zqe, zqy]
    (repeat' (first | with_reducible exact True.intro | rfl | exact Nat.le_refl _ | exact RowsEq.self okS | exact RowsEq.ofT okS rfl (Shp_zero _) rfl | exact RowsEq.snoc okS rfl | exact RowsEq.more okS (Shp_S _ _) (Tl_S _) | exact RowsEq.self okI | exact RowsEq.self okRA | exact List.length_append | refine And.intro ?_ ?_ | trivial))
  · intro I hI i
    conv in Fin.chk _ _ => cbv
    try simp only [zqs, Plain_rowsC, zqx, AllP, zqw, upd, if_true]
    obtain ⟨i, hi, hj⟩ := i
    refine ⟨fun h1 => ⟨?_, fun h2 => ?_, fun h2 => ?_⟩, fun h1 => ?_⟩
    · simp only [hH, stdH, zqz, ne_eq, zqy] at h1 ⊢
      omega
    · simp only [hH, stdH, zqz, ne_eq, zqy] at h1
      simp only [hH, stdH, Int.toNat_natCast] at h2
      have h3 : (fun y => decide (y = v)) ((s).getD i ByteArray.empty) = true := by first | exact (beqT _ _).symm.trans h2 | exact (beqC _ _).symm.trans h2
      try simp only [hH, stdH, zqz, ne_eq, zqy]
      exact idxF_at ByteArray.empty (by omega) h3 hj
    · simp only [hH, stdH, zqz, ne_eq, zqy] at h1
      simp only [hH, stdH, Int.toNat_natCast] at h2
      have h3 : (fun y => decide (y = v)) ((s).getD i ByteArray.empty) = false := by first | exact (beqT _ _).symm.trans h2 | exact (beqC _ _).symm.trans h2
      refine ⟨⟨i + 1, by omega, fun j hj' => ?_⟩, by simp only; omega, ?_⟩
      · rcases Nat.lt_succ_iff_lt_or_eq.1 hj' with h | rfl
        · exact hj j h
        · exact h3
      · rw [hI]
        (conv in matchSt _ _ _ _ => cbv); simp only [AllG, AllP, and_true, hH, stdH, zql, ncast, zqe, zqy]
        rw [w1 (by omega)]
        (repeat' (first | with_reducible exact True.intro | rfl | exact Nat.le_refl _ | exact RowsEq.self okS | exact RowsEq.ofT okS rfl (Shp_zero _) rfl | exact RowsEq.snoc okS rfl | exact RowsEq.more okS (Shp_S _ _) (Tl_S _) | exact RowsEq.self okI | exact RowsEq.self okRA | exact List.length_append | refine And.intro ?_ ?_ | trivial))
    · simp only [hH, stdH, zqz, ne_eq, zqy] at h1 ⊢
      exact idxF_no ByteArray.empty fun j hj' => hj j (by omega)
noncomputable def e_idxS : Entry := pureE 115 fun H a => match a with
  | [.vec 1 sn sf, .lit (.string v)] => some (.lit (.int .i64 (H Int fun _ => ixS (Tl rowS sn sf) v)), [H Prop fun _ => Shp rowS sn sf, H Prop fun _ => (Tl rowS sn sf).length ≤ 2000000])
  | _ => none
theorem eok_idxS : EntryOk Tryz.prog e_idxS := pureM_ok (by unfold isBody; kernel_rfl) (by
  intro a r ob e hob
  split at e
  · rename_i sn sf v
    simp only [zqt] at e
    obtain ⟨rfl, rfl⟩ := e
    exact ConN.args (.cons (.toT okS rfl hob.1) (.cons .rfl .nil)) (c_idxS (Tl rowS sn sf) v hob.2.1)
  · simp at e)
theorem c_hasS (s : List ByteArray) (v : ByteArray) (h0 : s.length ≤ 2000000) : ConN Tryz.prog 62 [.vec 1 (stdH Nat fun _ => (s).length) (rowsS stdH fun _ => s), .lit (.string v)] [] 0 (.lit (.bool (stdH Bool fun _ => s.any (fun y => decide (y = v))))) [] [] := by
  have hB : Base Tryz.prog (tabΓ [e_idxS]) tab := base_of tabOk (ents_cons eok_idxS <| ents_nil)
  refine con_m (N := 9) hB (draw_ok hB mixed) Tryz.func62 rfl rfl (fun H => [.vec 1 (H Nat fun _ => (s).length) (rowsS H fun _ => s), .lit (.string v)]) (fun _ => []) 0 (fun H => .lit (.bool (H Bool fun _ => s.any (fun y => decide (y = v))))) (fun H => []) (fun _ => []) 100 (by simp) (fun x hx => ?_) (by simp [lk]) (by omega) (by simp) ?_
  · simp only [zqu] at hx
    rcases hx with rfl | rfl
    · exact vl_bl okS s _
    · exact .lit
  intro X hX hX0 H hH
  conv in Fin.chk _ _ => cbv
  try simp only [zqs, Plain_rowsC, zqx, AllP, zqw, upd, if_true]
  refine ⟨⟨?_, ?_⟩, ?_⟩
  · try simp only [hH, stdH, zqz, ne_eq, zqy]
    exact ShpS' _ _
  · try simp only [hH, stdH, zqz, ne_eq, zqy]
    simp only [TlS']; exact h0
  · try simp only [hH, stdH, zqz, ne_eq, zqy]
    simp only [TlS']; exact (idxF_ge _ _).symm
noncomputable def e_hasS : Entry := pureE 62 fun H a => match a with
  | [.vec 1 sn sf, .lit (.string v)] => some (.lit (.bool (H Bool fun _ => (Tl rowS sn sf).any (fun y => decide (y = v)))), [H Prop fun _ => Shp rowS sn sf, H Prop fun _ => (Tl rowS sn sf).length ≤ 2000000])
  | _ => none
theorem eok_hasS : EntryOk Tryz.prog e_hasS := pureM_ok (by unfold isBody; kernel_rfl) (by
  intro a r ob e hob
  split at e
  · rename_i sn sf v
    simp only [zqt] at e
    obtain ⟨rfl, rfl⟩ := e
    exact ConN.args (.cons (.toT okS rfl hob.1) (.cons .rfl .nil)) (c_hasS (Tl rowS sn sf) v hob.2.1)
  · simp at e)
theorem c_parseTin (s : ByteArray)  : ConN Tryz.prog 121 [.lit (.string s)] [] 0 (.tup [.lit (.int .i64 (stdH Int fun _ => pT s)), .lit (.bool (stdH Bool fun _ => decide (0 < pT s)))]) [] [] := by
  have hB : Base Tryz.prog (tabΓ [e_tinWords, e_idxS]) tab := base_of tabOk (ents_cons eok_tinWords <| ents_cons eok_idxS <| ents_nil)
  refine con_m (N := 12) hB (draw_ok hB mixed) Tryz.func121 rfl rfl (fun H => [.lit (.string s)]) (fun _ => []) 0 (fun H => .tup [.lit (.int .i64 (H Int fun _ => pT s)), .lit (.bool (H Bool fun _ => decide (0 < pT s)))]) (fun H => []) (fun _ => []) 100 (by simp) (fun x hx => ?_) (by simp [lk]) (by omega) (by simp) ?_
  · simp only [zqu] at hx
    rcases hx with rfl
    · exact .lit
  intro X hX hX0 H hH
  conv in Fin.chk _ _ => cbv
  try simp only [zqs, Plain_rowsC, zqx, AllP, zqw, upd, if_true]
  subst hH
  have h := pT_in s
  have e : IntKind.i64.wrap (ixS tinL s + 1) = ixS tinL s + 1 := wi (by unfold pT at h; omega) (by unfold pT at h; omega)
  simp only [stdH, TlS', ShpS', e]
  refine ⟨⟨trivial, by decide⟩, ?_, rfl⟩
  unfold pT
  rw [Bool.eq_iff_iff, decide_eq_true_eq, decide_eq_true_eq]; omega
noncomputable def e_parseTin : Entry := pureE 121 fun H a => match a with
  | [.lit (.string s)] => some (.tup [.lit (.int .i64 (H Int fun _ => pT s)), .lit (.bool (H Bool fun _ => decide (0 < pT s)))], [])
  | _ => none
theorem eok_parseTin : EntryOk Tryz.prog e_parseTin := pureM_ok (by unfold isBody; kernel_rfl) (by
  intro a r ob e hob
  split at e
  · rename_i s
    simp only [zqt] at e
    obtain ⟨rfl, rfl⟩ := e
    exact ConN.args (.cons .rfl .nil) (c_parseTin s )
  · simp at e)
/-! ### Groups -/
def zG : Grp := ⟨0, 0, 0, 0⟩
theorem c_groupText (g : Grp)  : ConN Tryz.prog 128 [aT rowG stdH fun _ => g] [] 0 (.tup [.lit (.string (stdH ByteArray fun _ => if okG g then grpT g else ByteArray.empty)), .lit (.bool (stdH Bool fun _ => okG g))]) [] [] := by
  have hB : Base Tryz.prog (tabΓ [e_IsValidGroup, e_grpText]) tab := base_of tabOk (ents_cons eok_IsValidGroup <| ents_cons eok_grpText <| ents_nil)
  refine con_m (N := 9) hB (draw_ok hB mixed) Tryz.func128 rfl rfl (fun H => [aT rowG H fun _ => g]) (fun _ => []) 0 (fun H => .tup [.lit (.string (H ByteArray fun _ => if okG g then grpT g else ByteArray.empty)), .lit (.bool (H Bool fun _ => okG g))]) (fun H => []) (fun _ => []) 100 (by simp) (fun x hx => ?_) (by simp [lk]) (by omega) (by simp) ?_
  · simp only [zqu] at hx
    rcases hx with rfl
    · exact aT_bl okRG _ _
  intro X hX hX0 H hH
  conv in Fin.chk _ _ => cbv
  try simp only [zqs, Plain_rowsC, zqx, AllP, zqw, upd, if_true]
  subst hH
  simp only [stdH, Grp.eta]
  cases hg : okG g
  · simp only [Bool.not_false, Bool.false_eq_true, if_false]
    (repeat' (first | with_reducible exact True.intro | rfl | refine And.intro ?_ ?_ | (intro h; first | (cases h; done) | skip) | trivial))
  · simp only [Bool.not_true, if_true]
    (repeat' (first | with_reducible exact True.intro | rfl | exact okG_T hg | refine And.intro ?_ ?_ | (intro h; first | (cases h; done) | skip) | trivial))
noncomputable def e_groupText : Entry := pureE 128 fun H a => match a with
  | [.agg [.lit (.int .i64 g0), .lit (.int .i64 g1), .lit (.int .i64 g2), .lit (.int .i64 g3)]] => some (.tup [.lit (.string (H ByteArray fun _ => if okG (⟨g0, g1, g2, g3⟩ : Grp) then grpT (⟨g0, g1, g2, g3⟩ : Grp) else ByteArray.empty)), .lit (.bool (H Bool fun _ => okG (⟨g0, g1, g2, g3⟩ : Grp)))], [])
  | _ => none
theorem eok_groupText : EntryOk Tryz.prog e_groupText := pureM_ok (by unfold isBody; kernel_rfl) (by
  intro a r ob e hob
  split at e
  · rename_i g0 g1 g2 g3
    simp only [zqt] at e
    obtain ⟨rfl, rfl⟩ := e
    exact ConN.args (.cons .rfl .nil) (c_groupText (⟨g0, g1, g2, g3⟩ : Grp) )
  · simp at e)
def cgK (w0 w1 : ByteArray) : Nat → Int × Int
  | 0 => (0, 0)
  | n + 1 => if cntT ((n / 8 + 1 : Nat)) ((n % 8 + 1 : Nat)) = w0 ∧ kndT ((n % 8 + 1 : Nat)) ((n / 8 + 1 : Nat)) = w1 then (((n / 8 + 1 : Nat) : Int), ((n % 8 + 1 : Nat) : Int)) else cgK w0 w1 n
theorem cgK_in (w0 w1 : ByteArray) : ∀ n, n ≤ 48 → 0 ≤ (cgK w0 w1 n).1 ∧ (cgK w0 w1 n).1 ≤ 6 ∧ 0 ≤ (cgK w0 w1 n).2 ∧ (cgK w0 w1 n).2 ≤ 8
  | 0, _ => ⟨Int.le_refl 0, by show (0 : Int) ≤ 6; decide, Int.le_refl 0, by show (0 : Int) ≤ 8; decide⟩
  | n + 1, h => by
    unfold cgK
    split
    · simp only; omega
    · exact cgK_in w0 w1 n (by omega)
theorem pairs_dif : ∀ i, i < 48 → ∀ j, j < 48 → cntT ((i / 8 + 1 : Nat)) ((i % 8 + 1 : Nat)) = cntT ((j / 8 + 1 : Nat)) ((j % 8 + 1 : Nat)) → kndT ((i % 8 + 1 : Nat)) ((i / 8 + 1 : Nat)) = kndT ((j % 8 + 1 : Nat)) ((j / 8 + 1 : Nat)) → i = j := by decide +kernel
theorem cgK_at {j : Nat} (hj : j < 48) : ∀ n, n ≤ 48 → j < n → cgK (cntT ((j / 8 + 1 : Nat)) ((j % 8 + 1 : Nat))) (kndT ((j % 8 + 1 : Nat)) ((j / 8 + 1 : Nat))) n = (((j / 8 + 1 : Nat) : Int), ((j % 8 + 1 : Nat) : Int))
  | 0, _, h => by omega
  | n + 1, hn, h => by
    unfold cgK
    split
    · rename_i e
      have := pairs_dif n (by omega) j hj e.1 e.2
      subst this; rfl
    · rename_i e
      refine cgK_at hj n (by omega) ?_
      rcases Nat.lt_succ_iff_lt_or_eq.1 h with h | rfl
      · exact h
      · exact absurd ⟨rfl, rfl⟩ e
theorem cgK_w {c k : Int} (hc : 1 ≤ c ∧ c ≤ 6) (hk : 1 ≤ k ∧ k ≤ 8) : cgK (cntT c k) (kndT k c) 48 = (c, k) := by
  have h := cgK_at (j := (c.toNat - 1) * 8 + (k.toNat - 1)) (by omega) 48 (by omega) (by omega)
  have e1 : ((((c.toNat - 1) * 8 + (k.toNat - 1)) / 8 + 1 : Nat) : Int) = c := by omega
  have e2 : ((((c.toNat - 1) * 8 + (k.toNat - 1)) % 8 + 1 : Nat) : Int) = k := by omega
  rw [e1, e2] at h
  exact h
def candG (ws : List ByteArray) : Grp :=
  ⟨(cgK (ws.getD 0 ByteArray.empty) (ws.getD 1 ByteArray.empty) 48).1, (cgK (ws.getD 0 ByteArray.empty) (ws.getD 1 ByteArray.empty) 48).2, if ws.length = 4 then ixS (attL (cgK (ws.getD 0 ByteArray.empty) (ws.getD 1 ByteArray.empty) 48).2) (ws.getD 2 ByteArray.empty) + 1 else 0, pT (ws.getD (ws.length - 1) ByteArray.empty)⟩
def pG (s : ByteArray) : Option Grp := if 3 ≤ (wordsB s).length ∧ (wordsB s).length ≤ 4 then (if okG (candG (wordsB s)) = true ∧ grpT (candG (wordsB s)) = s then some (candG (wordsB s)) else none) else none
theorem bif_or (a b : Bool) : (bif a then true else b) = (a || b) := by cases a <;> rfl
theorem grpT_words (g : Grp) : wordsB (grpT g) = cntT g.c g.k :: kndT g.k g.c :: ((if 0 < g.a then [wordOf (attL g.k) g.a] else []) ++ [wordOf tinL g.t]) := by
  have e : grpT g = cntT g.c g.k ++ (spB ++ (kndT g.k g.c ++ (attT g ++ (spB ++ wordOf tinL g.t)))) := rfl
  rw [e, wordsB_app, wordsB_one (nsp_cnt _ _)]
  by_cases h : 0 < g.a
  · rw [attT_y h, if_pos h]
    have e2 : kndT g.k g.c ++ ((⟨⟨[32]⟩⟩ : ByteArray) ++ wordOf (attL g.k) g.a ++ (spB ++ wordOf tinL g.t)) = kndT g.k g.c ++ (spB ++ (wordOf (attL g.k) g.a ++ (spB ++ wordOf tinL g.t))) := by
      rw [ByteArray.append_assoc]; rfl
    rw [e2, wordsB_app, wordsB_one (nsp_knd _ _), wordsB_app, wordsB_one (nsp_att _ _), wordsB_one (nsp_tin _)]
    rfl
  · rw [attT_n h, if_neg h, empty_app, wordsB_app, wordsB_one (nsp_knd _ _), wordsB_one (nsp_tin _)]
    rfl
theorem okG_c {g : Grp} (h : okG g = true) : (1 ≤ g.c ∧ g.c ≤ 6) ∧ (1 ≤ g.k ∧ g.k ≤ 8) ∧ 0 ≤ g.a ∧ g.a ≤ ((attL g.k).length : Nat) ∧ 1 ≤ g.t ∧ g.t ≤ 9 := by
  have h1 := okG_T h
  unfold okG attF inB at h
  simp only [Bool.and_eq_true, decide_eq_true_eq] at h
  refine ⟨h1.1, h1.2.1, ?_, h1.2.2.1, h1.2.2.2⟩
  have h2 := h.1.2.2
  split at h2
  · have := of_decide_eq_true h2; omega
  · have := of_decide_eq_true h2; omega
theorem candG_at {g : Grp} (h : okG g = true) : candG (wordsB (grpT g)) = g := by
  obtain ⟨hc, hk, ha0, ha, ht⟩ := okG_c h
  rw [grpT_words]
  have hd : ∀ k, dif (attL k) = true := fun k => by unfold attL; split <;> (try split) <;> (try split) <;> decide
  unfold candG
  have e0 : ∀ l : List ByteArray, (cntT g.c g.k :: kndT g.k g.c :: l).getD 0 ByteArray.empty = cntT g.c g.k := fun _ => rfl
  have e1 : ∀ l : List ByteArray, (cntT g.c g.k :: kndT g.k g.c :: l).getD 1 ByteArray.empty = kndT g.k g.c := fun _ => rfl
  rw [e0, e1, cgK_w hc hk]
  by_cases h0 : 0 < g.a
  · rw [if_pos h0]
    show (⟨g.c, g.k, ixS (attL g.k) (wordOf (attL g.k) g.a) + 1, pT (wordOf tinL g.t)⟩ : Grp) = g
    rw [ixS_word (hd _) (by omega) ha, pT_w ht, show g.a - 1 + 1 = g.a by omega]
  · rw [if_neg h0]
    show (⟨g.c, g.k, 0, pT (wordOf tinL g.t)⟩ : Grp) = g
    rw [pT_w ht, show (0 : Int) = g.a by omega]
theorem pG_iff {s : ByteArray} {g : Grp} : pG s = some g ↔ okG g = true ∧ grpT g = s := by
  unfold pG
  constructor
  · intro h
    split at h
    · split at h
      · rename_i h2
        injection h with h; subst h; exact h2
      · cases h
    · cases h
  · rintro ⟨h1, rfl⟩
    have hl : 3 ≤ (wordsB (grpT g)).length ∧ (wordsB (grpT g)).length ≤ 4 := by rw [grpT_words]; split <;> simp
    rw [if_pos hl, candG_at h1, if_pos ⟨h1, rfl⟩]
theorem cgK_y {w0 w1 : ByteArray} {i j : Nat} (hj : j < 8) (h0 : w0 = cntT ((i : Int) + 1) ((j : Int) + 1)) (h1 : w1 = kndT ((j : Int) + 1) ((i : Int) + 1)) : cgK w0 w1 (8 * i + j + 1) = ((i : Int) + 1, (j : Int) + 1) := by
  have e1 : (((8 * i + j) / 8 + 1 : Nat) : Int) = (i : Int) + 1 := by omega
  have e2 : (((8 * i + j) % 8 + 1 : Nat) : Int) = (j : Int) + 1 := by omega
  unfold cgK
  rw [e1, e2, if_pos ⟨h0.symm, h1.symm⟩]
theorem cgK_n {w0 w1 : ByteArray} {i j : Nat} (hj : j < 8) (h : ¬ w0 = cntT ((i : Int) + 1) ((j : Int) + 1) ∨ ¬ w1 = kndT ((j : Int) + 1) ((i : Int) + 1)) : cgK w0 w1 (8 * i + j + 1) = cgK w0 w1 (8 * i + j) := by
  have e1 : (((8 * i + j) / 8 + 1 : Nat) : Int) = (i : Int) + 1 := by omega
  have e2 : (((8 * i + j) % 8 + 1 : Nat) : Int) = (j : Int) + 1 := by omega
  conv => lhs; unfold cgK
  rw [e1, e2, if_neg (fun q => by rcases h with h | h; exact h q.1.symm; exact h q.2.symm)]
theorem pG_len {s : ByteArray} (h : ¬ (3 ≤ (wordsB s).length ∧ (wordsB s).length ≤ 4)) : pG s = none := if_neg h
theorem pG_cand {s : ByteArray} (h : 3 ≤ (wordsB s).length ∧ (wordsB s).length ≤ 4) : pG s = if okG (candG (wordsB s)) = true ∧ grpT (candG (wordsB s)) = s then some (candG (wordsB s)) else none := if_pos h
theorem cand_c {s : ByteArray} {G : Grp} (hG : G = candG (wordsB s)) : (bif !okG G then true else !((if okG G = true then grpT G else ByteArray.empty).toList == s.toList)) = !decide (okG (candG (wordsB s)) = true ∧ grpT (candG (wordsB s)) = s) := by
  subst hG
  rw [beqT]
  cases h : okG (candG (wordsB s))
  · simp
  · simp
theorem c_parseG (s : ByteArray) (h0 : s.size ≤ 4000000) : ConN Tryz.prog 69 [.lit (.string s)] [] 0 (.tup [aT rowG stdH fun _ => (pG s).getD zG, .lit (.bool (stdH Bool fun _ => (pG s).isSome))]) [] [] := by
  have hB : Base Tryz.prog (tabΓ [e_split, e_cntW, e_kndW, e_attW, e_idxS, e_parseTin, e_groupText]) tab := base_of tabOk (ents_cons eok_split <| ents_cons eok_cntW <| ents_cons eok_kndW <| ents_cons eok_attW <| ents_cons eok_idxS <| ents_cons eok_parseTin <| ents_cons eok_groupText <| ents_nil)
  refine con_m (N := 87) hB (draw_ok hB mixed) Tryz.func69 rfl rfl (fun H => [.lit (.string s)]) (fun _ => []) 0 (fun H => .tup [aT rowG H fun _ => (pG s).getD zG, .lit (.bool (H Bool fun _ => (pG s).isSome))]) (fun H => []) (fun _ => []) 400 (by simp) (fun x hx => ?_) (by simp [lk]) (by omega) (by simp) ?_
  · simp only [zqu] at hx
    rcases hx with rfl
    · exact .lit
  intro X hX hX0 H hH
  conv in Fin.chk _ _ => cbv
  try simp only [zqs, Plain_rowsC, zqx, AllP, zqw, upd, if_true]
  have hl := words_len s
  refine ⟨?_, fun h => ?_, fun h => ?_⟩
  · try simp only [hH, stdH, zqz, ne_eq, zqy]
    first | exact ⟨by omega, rfl⟩ | exact ⟨by omega, trivial⟩
  · simp only [hH, stdH, bif_or, Bool.or_eq_true, decide_eq_true_eq] at h ⊢
    rw [pG_len (by omega)]
    exact ⟨rfl, rfl, rfl, rfl, rfl⟩
  simp only [hH, stdH, bif_or, Bool.or_eq_false_iff, decide_eq_false_iff_not] at h
  have hw : 3 ≤ (wordsB s).length ∧ (wordsB s).length ≤ 4 := by omega
  refine loop_a hB (draw_ok hB mixed) hX hX0 hH false (ι := { i : Nat // i ≤ 6 }) 400 (fun i => [.i (H Int fun _ => ((i.1 : Nat) : Int) + 1), .i (H Int fun _ => (cgK ((wordsB s).getD 0 ByteArray.empty) ((wordsB s).getD 1 ByteArray.empty) (8 * i.1)).1), .i (H Int fun _ => (cgK ((wordsB s).getD 0 ByteArray.empty) ((wordsB s).getD 1 ByteArray.empty) (8 * i.1)).2), .i (H Int fun _ => 0), .i (H Int fun _ => 0)]) (fun i => 6 - i.1) (⟨0, by omega⟩) ?_ ?_
  · (conv in matchSt _ _ _ _ => cbv); simp only [AllG, AllP, and_true, hH, stdH, zql, ncast, zqe, zqy]
    (repeat' (first | with_reducible exact True.intro | rfl | exact RowsEq.self okS | refine And.intro ?_ ?_ | trivial))
  · intro I hI i
    conv in Fin.chk _ _ => cbv
    try simp only [zqs, Plain_rowsC, zqx, AllP, zqw, upd, if_true]
    obtain ⟨i, hi⟩ := i
    refine ⟨fun h1 => ?_, fun h1 => ⟨fun h2 => ?_, fun h2 => ?_⟩⟩
    · simp only [hH, stdH, zqz, ne_eq, zqy] at h1
      refine loop_a hB (draw_ok hB mixed) hX hX0 hH true (ι := { j : Nat // j ≤ 8 }) 400 (fun j => [.i (H Int fun _ => ((j.1 : Nat) : Int) + 1), .i (H Int fun _ => (cgK ((wordsB s).getD 0 ByteArray.empty) ((wordsB s).getD 1 ByteArray.empty) (8 * i + j.1)).1), .i (H Int fun _ => (cgK ((wordsB s).getD 0 ByteArray.empty) ((wordsB s).getD 1 ByteArray.empty) (8 * i + j.1)).2), .i (H Int fun _ => 0), .i (H Int fun _ => 0)]) (fun j => 8 - j.1) (⟨0, by omega⟩) ?_ ?_
      · (conv in matchSt _ _ _ _ => cbv); simp only [AllG, AllP, and_true, hH, stdH, zql, ncast, zqe, zqy]
        (repeat' (first | with_reducible exact True.intro | rfl | exact RowsEq.self okS | refine And.intro ?_ ?_ | trivial))
      · intro J hJ j
        conv in Fin.chk _ _ => cbv
        try simp only [zqs, Plain_rowsC, zqx, AllP, zqw, upd, if_true]
        obtain ⟨j, hj⟩ := j
        have z0 : Int.toNat 0 = 0 := rfl
        have z1 : Int.toNat 1 = 1 := rfl
        refine ⟨fun h3 => ⟨?_, ?_, ?_, ?_, fun h4 => ?_, fun h4 => ?_⟩, fun h3 => ?_⟩
        · try simp only [hH, stdH, zqz, ne_eq, zqy]
          omega
        · try simp only [hH, stdH, zqz, ne_eq, zqy]
          omega
        · try simp only [hH, stdH, zqz, ne_eq, zqy]
          intro _; omega
        · simp only [hH, stdH, zqz, ne_eq, zqy] at h3
          try simp only [hH, stdH, zqz, ne_eq, zqy]
          intro _; omega
        · simp only [hH, stdH, zqz, ne_eq, zqy] at h3
          simp only [hH, stdH, z0, z1, beqT, bif_and, Bool.and_eq_true, decide_eq_true_eq] at h4
          refine ⟨⟨j + 1, by omega⟩, by simp only; omega, ?_⟩
          rw [hJ]
          (conv in matchSt _ _ _ _ => cbv); simp only [AllG, AllP, and_true, hH, stdH, zql, ncast, zqe, zqy]
          rw [show IntKind.i64.wrap ((j : Int) + 1 + 1) = ((j + 1 : Nat) : Int) + 1 by rw [wi] <;> omega, ← Nat.add_assoc, cgK_y (by omega) h4.1 h4.2]
          (repeat' (first | with_reducible exact True.intro | rfl | exact RowsEq.self okS | refine And.intro ?_ ?_ | trivial))
        · simp only [hH, stdH, zqz, ne_eq, zqy] at h3
          simp only [hH, stdH, z0, z1, beqT, bif_and, Bool.and_eq_false_iff, zqb] at h4
          refine ⟨⟨j + 1, by omega⟩, by simp only; omega, ?_⟩
          rw [hJ]
          (conv in matchSt _ _ _ _ => cbv); simp only [AllG, AllP, and_true, hH, stdH, zql, ncast, zqe, zqy]
          rw [show IntKind.i64.wrap ((j : Int) + 1 + 1) = ((j + 1 : Nat) : Int) + 1 by rw [wi] <;> omega, ← Nat.add_assoc, cgK_n (by omega) h4]
          (repeat' (first | with_reducible exact True.intro | rfl | exact RowsEq.self okS | refine And.intro ?_ ?_ | trivial))
        · simp only [hH, stdH, zqz, ne_eq, zqy] at h3
          obtain rfl : j = 8 := by omega
          rw [if_neg (by decide)]
          refine ⟨⟨i + 1, by omega⟩, by simp only; omega, ?_⟩
          rw [hI]
          (conv in matchSt _ _ _ _ => cbv); simp only [AllG, AllP, and_true, hH, stdH, zql, ncast, zqe, zqy]
          rw [show IntKind.i64.wrap ((i : Int) + 1 + 1) = ((i + 1 : Nat) : Int) + 1 by rw [wi] <;> omega, show 8 * (i + 1) = 8 * i + 8 by omega]
          (repeat' (first | with_reducible exact True.intro | rfl | exact RowsEq.self okS | refine And.intro ?_ ?_ | trivial))
    · simp only [hH, stdH, zqz, ne_eq, zqy] at h1
      simp only [hH, stdH, zqz, ne_eq, zqy] at h2
      obtain rfl : i = 6 := by omega
      have h2 : (wordsB s).length = 4 := by omega
      have e48 : 8 * 6 = 48 := rfl
      have e2' : Int.toNat 2 = 2 := rfl
      have eL : IntKind.i64.wrap (((wordsB s).length : Int) - 1) = (((wordsB s).length - 1 : Nat) : Int) := by rw [wi (by omega) (by omega)]; omega
      have hk := cgK_in ((wordsB s).getD 0 ByteArray.empty) ((wordsB s).getD 1 ByteArray.empty) 48 (by omega)
      have hx := ixS_ge (attL (cgK ((wordsB s).getD 0 ByteArray.empty) ((wordsB s).getD 1 ByteArray.empty) 48).2) ((wordsB s).getD 2 ByteArray.empty)
      have ha := attL_len (cgK ((wordsB s).getD 0 ByteArray.empty) ((wordsB s).getD 1 ByteArray.empty) 48).2
      have eA : IntKind.i64.wrap (ixS (attL (cgK ((wordsB s).getD 0 ByteArray.empty) ((wordsB s).getD 1 ByteArray.empty) 48).2) ((wordsB s).getD 2 ByteArray.empty) + 1) = ixS (attL (cgK ((wordsB s).getD 0 ByteArray.empty) ((wordsB s).getD 1 ByteArray.empty) 48).2) ((wordsB s).getD 2 ByteArray.empty) + 1 := wi (by omega) (by omega)
      have eG : (⟨(cgK ((wordsB s).getD 0 ByteArray.empty) ((wordsB s).getD 1 ByteArray.empty) 48).1, (cgK ((wordsB s).getD 0 ByteArray.empty) ((wordsB s).getD 1 ByteArray.empty) 48).2, ixS (attL (cgK ((wordsB s).getD 0 ByteArray.empty) ((wordsB s).getD 1 ByteArray.empty) 48).2) ((wordsB s).getD 2 ByteArray.empty) + 1, pT ((wordsB s).getD ((wordsB s).length - 1) ByteArray.empty)⟩ : Grp) = candG (wordsB s) := by
        unfold candG
        congr 1
        simp only [h2, if_true, if_false]
      refine ⟨?_, ⟨?_, ?_⟩, ?_⟩
      · try simp only [hH, stdH, zqz, ne_eq, zqy]
        omega
      · try simp only [hH, stdH, zqz, ne_eq, zqy]
        exact ShpS' _ _
      · simp only [hH, stdH, TlS', e48]
        omega
      refine ⟨?_, fun h3 => ?_, fun h3 => ?_⟩
      · simp only [hH, stdH, eL]
        omega
      · simp only [hH, stdH, TlS', e48, e2', eL, eA, Int.toNat_natCast] at h3
        rw [cand_c eG, Bool.not_eq_true', decide_eq_false_iff_not] at h3
        try simp only [hH, stdH, zqz, ne_eq, zqy]
        rw [pG_cand hw, if_neg h3]
        exact ⟨rfl, rfl, rfl, rfl, rfl⟩
      · simp only [hH, stdH, TlS', e48, e2', eL, eA, Int.toNat_natCast] at h3 ⊢
        rw [cand_c eG, Bool.not_eq_false', decide_eq_true_eq] at h3
        rw [pG_cand hw, if_pos h3, ← eG]
        (repeat' (first | with_reducible exact True.intro | rfl | refine And.intro ?_ ?_ | trivial))
    · simp only [hH, stdH, zqz, ne_eq, zqy] at h1
      simp only [hH, stdH, zqz, ne_eq, zqy] at h2
      obtain rfl : i = 6 := by omega
      have h2 : ¬ (wordsB s).length = 4 := by omega
      have e48 : 8 * 6 = 48 := rfl
      have e2' : Int.toNat 2 = 2 := rfl
      have eL : IntKind.i64.wrap (((wordsB s).length : Int) - 1) = (((wordsB s).length - 1 : Nat) : Int) := by rw [wi (by omega) (by omega)]; omega
      have hk := cgK_in ((wordsB s).getD 0 ByteArray.empty) ((wordsB s).getD 1 ByteArray.empty) 48 (by omega)
      have hx := ixS_ge (attL (cgK ((wordsB s).getD 0 ByteArray.empty) ((wordsB s).getD 1 ByteArray.empty) 48).2) ((wordsB s).getD 2 ByteArray.empty)
      have ha := attL_len (cgK ((wordsB s).getD 0 ByteArray.empty) ((wordsB s).getD 1 ByteArray.empty) 48).2
      have eA : IntKind.i64.wrap (ixS (attL (cgK ((wordsB s).getD 0 ByteArray.empty) ((wordsB s).getD 1 ByteArray.empty) 48).2) ((wordsB s).getD 2 ByteArray.empty) + 1) = ixS (attL (cgK ((wordsB s).getD 0 ByteArray.empty) ((wordsB s).getD 1 ByteArray.empty) 48).2) ((wordsB s).getD 2 ByteArray.empty) + 1 := wi (by omega) (by omega)
      have eG : (⟨(cgK ((wordsB s).getD 0 ByteArray.empty) ((wordsB s).getD 1 ByteArray.empty) 48).1, (cgK ((wordsB s).getD 0 ByteArray.empty) ((wordsB s).getD 1 ByteArray.empty) 48).2, 0, pT ((wordsB s).getD ((wordsB s).length - 1) ByteArray.empty)⟩ : Grp) = candG (wordsB s) := by
        unfold candG
        congr 1
        simp only [h2, if_true, if_false]
      refine ⟨?_, fun h3 => ?_, fun h3 => ?_⟩
      · simp only [hH, stdH, eL]
        omega
      · simp only [hH, stdH, TlS', e48, e2', eL, eA, Int.toNat_natCast] at h3
        rw [cand_c eG, Bool.not_eq_true', decide_eq_false_iff_not] at h3
        try simp only [hH, stdH, zqz, ne_eq, zqy]
        rw [pG_cand hw, if_neg h3]
        exact ⟨rfl, rfl, rfl, rfl, rfl⟩
      · simp only [hH, stdH, TlS', e48, e2', eL, eA, Int.toNat_natCast] at h3 ⊢
        rw [cand_c eG, Bool.not_eq_false', decide_eq_true_eq] at h3
        rw [pG_cand hw, if_pos h3, ← eG]
        (repeat' (first | with_reducible exact True.intro | rfl | refine And.intro ?_ ?_ | trivial))
noncomputable def e_parseG : Entry := pureE 69 fun H a => match a with
  | [.lit (.string s)] => some (.tup [aT rowG H fun _ => (pG s).getD zG, .lit (.bool (H Bool fun _ => (pG s).isSome))], [H Prop fun _ => s.size ≤ 4000000])
  | _ => none
theorem eok_parseG : EntryOk Tryz.prog e_parseG := pureM_ok (by unfold isBody; kernel_rfl) (by
  intro a r ob e hob
  split at e
  · rename_i s
    simp only [zqt] at e
    obtain ⟨rfl, rfl⟩ := e
    exact ConN.args (.cons .rfl .nil) (c_parseG s hob.1)
  · simp at e)

end Go.Proofs.YtmkniipdkanbbaaGreatDoor.AM

