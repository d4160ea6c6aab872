/- Lemmas and contracts (Spc); conditions: none. -/
import Derived.Test.YtmkniipdkanbbaaGreatDoorK04
import Derived.Test.YtmkniipdkanbbaaGreatDoorK13
import Derived.Test.YtmkniipdkanbbaaGreatDoorK21
set_option linter.unusedVariables false
set_option linter.unusedSimpArgs false
set_option maxRecDepth 100000
set_option maxHeartbeats 4000000
set_option cbv.maxSteps 3000000
namespace Go.Proofs.YtmkniipdkanbbaaGreatDoor.AM
/- The reference's parsers of fields and arms; conditions: none. -/
theorem occ_ext {s p : ByteArray} {i : Nat} (hi : i + p.size ≤ s.size) : occ s p i = decide (s.extract i (i + p.size) = p) := by
  have hp : p.size = p.data.toList.length := rfl
  have hs : s.size = s.data.toList.length := rfl
  rw [Bool.eq_iff_iff, decide_eq_true_eq]
  unfold occ
  rw [← ofL_ext, Nat.add_sub_cancel_left, List.isPrefixOf_iff_prefix]
  constructor
  · rintro ⟨r, h⟩
    rw [← h, hp, List.take_left]; rfl
  · intro h
    have h2 : (s.data.toList.drop i).take p.size = p.data.toList := congrArg (fun b : ByteArray => b.data.toList) h
    rw [← h2]
    exact List.take_prefix _ _
theorem cutB_hit {s p : ByteArray} {i : Nat} (h : occ s p i = true) (hi : i ≤ s.size) (hj : ∀ j, j < i → occ s p j = false) : cutB s p = (s.extract 0 i, s.extract (i + p.size) s.size, true) := by
  have hidx : Lib.index s.data.toList p.data.toList = (i : Nat) := index_first _ _ _ h hi hj
  unfold cutB Lib.cut
  rw [hidx, if_pos (by omega)]
  simp only [Int.toNat_natCast]
  refine Prod.ext ?_ (Prod.ext ?_ rfl)
  · show ofL (s.data.toList.take i) = _
    rw [← ofL_ext, List.drop_zero, Nat.sub_zero]
  · exact ofL_end s (i + p.size)
theorem occ_long {s p : ByteArray} {i : Nat} (h0 : 1 ≤ p.size) (hi : s.size < i + p.size) : occ s p i = false := by
  rw [← Bool.not_eq_true]
  intro h
  unfold occ at h
  rw [List.isPrefixOf_iff_prefix] at h
  have := h.length_le
  rw [List.length_drop] at this
  have hp : p.size = p.data.toList.length := rfl
  have hs : s.size = s.data.toList.length := rfl
  omega
theorem c_l6Cut (s : ByteArray) (p : ByteArray) (h0 : s.size ≤ 4000000) (h1 : 1 ≤ p.size ∧ p.size ≤ 1000) : ConN Tryz.prog 55 [.lit (.string s), .lit (.string p)] [] 0 (.tup [.lit (.string (stdH ByteArray fun _ => (cutB s p).1)), .lit (.string (stdH ByteArray fun _ => (cutB s p).2.1)), .lit (.bool (stdH Bool fun _ => (cutB s p).2.2))]) [] [] := by
  have hB : Base Tryz.prog (tabΓ []) tab := base_of tabOk (ents_nil)
  refine con_m (N := 36) hB (draw_ok hB mixed) Tryz.func55 rfl rfl (fun H => [.lit (.string s), .lit (.string p)]) (fun _ => []) 0 (fun H => .tup [.lit (.string (H ByteArray fun _ => (cutB s p).1)), .lit (.string (H ByteArray fun _ => (cutB s p).2.1)), .lit (.bool (H Bool fun _ => (cutB s p).2.2))]) (fun H => []) (fun _ => []) 200 (by simp) (fun x hx => ?_) (by simp [lk]) (by omega) (by simp) ?_
  · simp only [zqu] at hx
    rcases hx with rfl | rfl
    · exact .lit
    · exact .lit
  intro X hX hX0 H hH
  conv in Fin.chk _ _ => cbv
  try simp only [zqs, Plain_rowsC, zqx, AllP, zqw, upd, if_true]
  refine loop_a hB (draw_ok hB mixed) hX hX0 hH false (ι := { i : Nat // i ≤ s.size + 1 ∧ ∀ j, j < i → occ s p j = false }) 200 (fun i => [.s (H ByteArray fun _ => ⟨⟨[]⟩⟩), .s (H ByteArray fun _ => ⟨⟨[]⟩⟩), .b (H Bool fun _ => false), .i (H Int fun _ => (i.1 : Nat))]) (fun i => s.size + 1 - i.1) (⟨0, by omega, fun j h => absurd h (Nat.not_lt_zero j)⟩) ?_ ?_
  · (conv in matchSt _ _ _ _ => cbv); simp only [AllG, AllP, and_true, hH, stdH, zql, ncast, zqe, zqy]
    (repeat' (first | with_reducible exact True.intro | rfl | refine And.intro ?_ ?_ | trivial))
  · intro I hI i
    conv in Fin.chk _ _ => cbv
    try simp only [zqs, Plain_rowsC, zqx, AllP, zqw, upd, if_true]
    obtain ⟨i, hi, hj⟩ := i
    have eW : IntKind.i64.wrap ((i : Int) + (p.size : Nat)) = ((i + p.size : Nat) : Int) := by rw [wi (by omega) (by omega)]; omega
    refine ⟨fun h2 => ⟨?_, fun h3 => ⟨?_, ?_, ?_⟩, fun h3 => ?_⟩, fun h2 => ?_⟩
    · simp only [hH, stdH, eW, decide_eq_true_eq] at h2 ⊢
      exact ⟨by omega, by omega, by show ((i : Nat) : Int).toNat ≤ ((i + p.size : Nat) : Int).toNat; omega, by show ((i + p.size : Nat) : Int).toNat ≤ s.size; omega⟩
    · simp only [hH, stdH, eW, decide_eq_true_eq] at h2 ⊢
      exact ⟨trivial, by show (0 : Int) ≤ (i : Nat); omega, Nat.zero_le _, by show ((i : Nat) : Int).toNat ≤ s.size; omega⟩
    · simp only [hH, stdH, eW, decide_eq_true_eq] at h2 ⊢
      exact ⟨by show (0 : Int) ≤ ((i + p.size : Nat) : Int); omega, trivial, by show ((i + p.size : Nat) : Int).toNat ≤ s.size; omega, Nat.le_refl _⟩
    · simp only [hH, stdH, eW, decide_eq_true_eq, beqT] at h2 h3 ⊢
      have h4 : occ s p i = true := by rw [occ_ext (by omega)]; exact decide_eq_true h3
      rw [cutB_hit h4 (by omega) hj]
      exact ⟨rfl, rfl, rfl⟩
    · simp only [hH, stdH, eW, decide_eq_true_eq, beqT, decide_eq_false_iff_not] at h2 h3
      have h4 : occ s p i = false := by rw [occ_ext (by omega)]; exact decide_eq_false h3
      refine ⟨⟨i + 1, by omega, fun j hj' => ?_⟩, by simp only; omega, ?_⟩
      · rcases Nat.lt_succ_iff_lt_or_eq.1 hj' with h | rfl
        · exact hj j h
        · exact h4
      · rw [hI]
        (conv in matchSt _ _ _ _ => cbv); simp only [AllG, AllP, and_true, hH, stdH, zql, ncast, zqe, zqy]
        rw [w1 (by omega)]
        (repeat' (first | with_reducible exact True.intro | rfl | refine And.intro ?_ ?_ | trivial))
    · simp only [hH, stdH, eW, decide_eq_false_iff_not] at h2 ⊢
      have hp : p.data.toList ≠ [] := fun q => by have h5 : p.size = p.data.toList.length := rfl; rw [q] at h5; have h6 : p.size = 0 := h5; omega
      rw [cutB_no hp fun j hj' => by
        rcases Nat.lt_or_ge j i with h | h
        · exact hj j h
        · exact occ_long h1.1 (by omega)]
      exact ⟨rfl, rfl, rfl⟩
noncomputable def e_l6Cut : Entry := pureE 55 fun H a => match a with
  | [.lit (.string s), .lit (.string p)] => some (.tup [.lit (.string (H ByteArray fun _ => (cutB s p).1)), .lit (.string (H ByteArray fun _ => (cutB s p).2.1)), .lit (.bool (H Bool fun _ => (cutB s p).2.2))], [H Prop fun _ => s.size ≤ 4000000, H Prop fun _ => 1 ≤ p.size ∧ p.size ≤ 1000])
  | _ => none
theorem eok_l6Cut : EntryOk Tryz.prog e_l6Cut := pureM_ok (by unfold isBody; kernel_rfl) (by
  intro a r ob e hob
  split at e
  · rename_i s p
    simp only [zqt] at e
    obtain ⟨rfl, rfl⟩ := e
    exact ConN.args (.cons .rfl (.cons .rfl .nil)) (c_l6Cut s p hob.1 hob.2.1)
  · simp at e)
theorem fld_words {f : Fld} (h : f.d ≠ 0) : ∃ ws, wordsB (fldT f) = ws ++ [wordOf tinL f.p, (⟨⟨[97, 110, 100]⟩⟩ : ByteArray), wordOf tinL f.q] ∧ 1 ≤ ws.length := by
  have e : fldT f = wlT (wordOf divL f.d) f.l ++ (spB ++ (wordOf tinL f.p ++ (spB ++ ((⟨⟨[97, 110, 100]⟩⟩ : ByteArray) ++ (spB ++ wordOf tinL f.q))))) := by
    rw [fldT_n h]
    have e1 : (⟨⟨[32]⟩⟩ : ByteArray) = spB := rfl
    have e2 : (⟨⟨[32, 97, 110, 100, 32]⟩⟩ : ByteArray) = spB ++ ((⟨⟨[97, 110, 100]⟩⟩ : ByteArray) ++ spB) := by decide
    rw [e1, e2]
    simp only [ByteArray.append_assoc]
  refine ⟨wordsB (wlT (wordOf divL f.d) f.l), ?_, by unfold wordsB; rw [List.length_map]; exact List.length_pos_iff.2 (spl_ne _)⟩
  rw [e, wordsB_app, wordsB_app, wordsB_one (nsp_tin _), wordsB_app, wordsB_one (w := (⟨⟨[97, 110, 100]⟩⟩ : ByteArray)) (by decide), wordsB_one (nsp_tin _)]
  rfl
theorem fld_sz {f : Fld} (h : okF f = true) : (fldT f).size ≤ 60 := by
  have ht : ∀ x, (wordOf tinL x).size ≤ 6 := fun x => getD_sz (l := tinL) (m := 6) (by decide) _
  have hd : ∀ x, (wordOf divL x).size ≤ 11 := fun x => getD_sz (l := divL) (m := 11) (by decide) _
  have hl : ∀ x, (wordOf linL x).size ≤ 9 := fun x => getD_sz (l := linL) (m := 9) (by decide) _
  have h1 := ht f.p; have h2 := ht f.q; have h3 := hd f.d; have h4 := hl f.l
  by_cases hz : f.d = 0
  · rw [fldT_y hz]; omega
  · rw [fldT_n hz]
    unfold wlT
    split
    · simp only [ByteArray.size_append, bsz, List.length_cons, List.length_nil]; omega
    · simp only [ByteArray.size_append, bsz, List.length_cons, List.length_nil]; omega
def codF (f : Fld) : Int := (f.d - 1) * 5 + f.l
def frmF (s : ByteArray) (n : Int) : Prop := ∀ f, okF f = true → fldT f = s → n ≤ codF f
theorem pF_tin {s : ByteArray} (h : 0 < pT s) : pF s = some ⟨0, 0, pT s, 0⟩ := by
  have hi := pT_in s
  refine pF_iff.2 ⟨?_, ?_⟩
  · unfold okF inB
    simp; omega
  · rw [fldT_y rfl]; exact pT_at h
theorem pF_d {s : ByteArray} {f : Fld} (h : pT s = 0) (ho : okF f = true) (e : fldT f = s) : f.d ≠ 0 ∧ f.p = pT ((wordsB s).getD ((wordsB s).length - 3) ByteArray.empty) ∧ f.q = pT ((wordsB s).getD ((wordsB s).length - 1) ByteArray.empty) ∧ s.size ≤ 60 ∧ 4 ≤ (wordsB s).length := by
  obtain ⟨_, _, hp, _, hq⟩ := okF_b ho
  have hd : f.d ≠ 0 := fun q => by
    rw [fldT_y q] at e
    rw [← e, pT_w hp] at h
    omega
  obtain ⟨ws, hw, hl⟩ := fld_words hd
  rw [e] at hw
  refine ⟨hd, ?_, ?_, by rw [← e]; exact fld_sz ho, by rw [hw]; simp; omega⟩
  · rw [hw, List.length_append]
    show f.p = pT ((ws ++ _).getD (ws.length + 3 - 3) _)
    rw [Nat.add_sub_cancel, List.getD_eq_getElem?_getD, List.getElem?_append_right (Nat.le_refl _), Nat.sub_self]
    exact (pT_w hp).symm
  · rw [hw, List.length_append]
    show f.q = pT ((ws ++ _).getD (ws.length + 3 - 1) _)
    rw [show ws.length + 3 - 1 = ws.length + 2 by omega, List.getD_eq_getElem?_getD, List.getElem?_append_right (by omega), Nat.add_sub_cancel_left]
    exact (pT_w (hq hd)).symm
theorem frmF_0 {s : ByteArray} (h : pT s = 0) : frmF s ((0 : Nat) * 5) := fun f ho e => by
  have hd := (pF_d h ho e).1
  have hb := okF_b ho
  unfold codF; omega
theorem frmF_t {s : ByteArray} {n : Int} (h : frmF s n) : frmF s (n + ((0 : Nat) : Int)) := by rw [show n + ((0 : Nat) : Int) = n by simp]; exact h
theorem frmF_s {s : ByteArray} {d l p q : Int} (h0 : pT s = 0) (hd : 1 ≤ d ∧ d ≤ 7) (hl : 0 ≤ l ∧ l ≤ 4) (hp : p = pT ((wordsB s).getD ((wordsB s).length - 3) ByteArray.empty)) (hq : q = pT ((wordsB s).getD ((wordsB s).length - 1) ByteArray.empty)) (h : frmF s ((d - 1) * 5 + l)) (hn : ¬ (okF ⟨d, l, p, q⟩ = true ∧ fldT ⟨d, l, p, q⟩ = s)) : frmF s ((d - 1) * 5 + l + 1) := fun z hz e => by
  have h1 := h z hz e
  have hb := okF_b hz
  obtain ⟨e0, e1, e2, _, _⟩ := pF_d h0 hz e
  rcases Int.lt_or_eq_of_le h1 with h2 | h2
  · omega
  · unfold codF at h2
    have e3 : z.d = d := by omega
    have e4 : z.l = l := by omega
    have : z = ⟨d, l, p, q⟩ := by
      obtain ⟨zd, zl, zp, zq⟩ := z
      simp only at e1 e2 e3 e4
      rw [e3, e4, e1, e2, hp, hq]
    rw [this] at hz e
    exact absurd ⟨hz, e⟩ hn
theorem condF2 {C : Fld} {s : ByteArray} : (bif okF C then (fldT C).toList == s.toList else false) = decide (okF C = true ∧ fldT C = s) := by
  rw [beqT]
  cases h : okF C <;> simp
theorem c_l3Parse (s : ByteArray) (h0 : s.size ≤ 1000000) : ConN Tryz.prog 56 [.lit (.string s)] [] 0 (.tup [aT rowF stdH fun _ => (pF s).getD zF, .lit (.bool (stdH Bool fun _ => (pF s).isSome))]) [] [] := by
  have hB : Base Tryz.prog (tabΓ [e_l1Split, e_l2Parse, e_l3Good, e_l3Text]) tab := base_of tabOk (ents_cons eok_l1Split <| ents_cons eok_l2Parse <| ents_cons eok_l3Good <| ents_cons eok_l3Text <| ents_nil)
  refine con_m (N := 63) hB (draw_ok hB mixed) Tryz.func56 rfl rfl (fun H => [.lit (.string s)]) (fun _ => []) 0 (fun H => .tup [aT rowF H fun _ => (pF s).getD zF, .lit (.bool (H Bool fun _ => (pF s).isSome))]) (fun H => []) (fun _ => []) 400 (by simp) (fun x hx => ?_) (by simp [lk]) (by omega) (by simp) ?_
  · simp only [zqu] at hx
    rcases hx with rfl
    · exact .lit
  intro X hX hX0 H hH
  conv in Fin.chk _ _ => cbv
  try simp only [zqs, Plain_rowsC, zqx, AllP, zqw, upd, if_true]
  have hl := words_len s
  have hpt := pT_in s
  refine ⟨⟨?_, ?_⟩, fun h => ?_, fun h => ⟨fun h2 => ?_, fun h2 => ?_⟩⟩
  · try simp only [hH, stdH, zqz, ne_eq, zqy]
    exact h0
  · try simp only [hH, stdH, zqz, ne_eq, zqy]
  · simp only [hH, stdH, decide_eq_true_eq] at h ⊢
    rw [pF_tin h]
    exact ⟨rfl, rfl, rfl, rfl, rfl⟩
  · simp only [hH, stdH, decide_eq_false_iff_not] at h
    simp only [hH, stdH, bif_or, Bool.or_eq_true, decide_eq_true_eq] at h2 ⊢
    have : pF s = none := by
      cases e : pF s with
      | none => rfl
      | some f =>
        have hf := pF_iff.1 e
        obtain ⟨_, _, _, e3, e4⟩ := pF_d (by omega) hf.1 hf.2
        omega
    rw [this]
    exact ⟨rfl, rfl, rfl, rfl, rfl⟩
  simp only [hH, stdH, decide_eq_false_iff_not] at h
  simp only [hH, stdH, bif_or, Bool.or_eq_false_iff, decide_eq_false_iff_not] at h2
  have hp0 : pT s = 0 := by omega
  refine loop_a hB (draw_ok hB mixed) hX hX0 hH false (ι := { r : Nat // r ≤ 7 ∧ frmF s ((r : Nat) * 5) }) 400 (fun r => [.b (H Bool fun _ => false), .i (H Int fun _ => ((r.1 : Nat) : Int) + 1), .i (H Int fun _ => 0), .i (H Int fun _ => 0), .i (H Int fun _ => 0), .i (H Int fun _ => 0)]) (fun r => 7 - r.1) (⟨0, by omega, frmF_0 hp0⟩) ?_ ?_
  · (conv in matchSt _ _ _ _ => cbv); simp only [AllG, AllP, and_true, hH, stdH, zql, ncast, zqe, zqy]
    (repeat' (first | with_reducible exact True.intro | rfl | exact RowsEq.self okS | omega | refine And.intro ?_ ?_ | trivial))
  · intro I hI r
    conv in Fin.chk _ _ => cbv
    try simp only [zqs, Plain_rowsC, zqx, AllP, zqw, upd, if_true]
    obtain ⟨r, hr, hqr⟩ := r
    refine ⟨fun h3 => ?_, fun h3 => ?_⟩
    · simp only [hH, stdH, zqz, ne_eq, zqy] at h3
      refine loop_a hB (draw_ok hB mixed) hX hX0 hH true (ι := { l : Nat // l ≤ 5 ∧ frmF s ((r : Nat) * 5 + (l : Nat)) }) 400 (fun l => [.b (H Bool fun _ => false), .i (H Int fun _ => ((l.1 : Nat) : Int)), .i (H Int fun _ => 0), .i (H Int fun _ => 0), .i (H Int fun _ => 0), .i (H Int fun _ => 0)]) (fun l => 5 - l.1) (⟨0, Nat.zero_le _, frmF_t hqr⟩) ?_ ?_
      · (conv in matchSt _ _ _ _ => cbv); simp only [AllG, AllP, and_true, hH, stdH, zql, ncast, zqe, zqy]
        (repeat' (first | with_reducible exact True.intro | rfl | exact RowsEq.self okS | omega | refine And.intro ?_ ?_ | trivial))
      · intro J hJ l
        conv in Fin.chk _ _ => cbv
        try simp only [zqs, Plain_rowsC, zqx, AllP, zqw, upd, if_true]
        obtain ⟨l, hl5, hql⟩ := l
        have e3 : IntKind.i64.wrap (((wordsB s).length : Int) - 3) = (((wordsB s).length - 3 : Nat) : Int) := by rw [wi (by omega) (by omega)]; omega
        have e1 : IntKind.i64.wrap (((wordsB s).length : Int) - 1) = (((wordsB s).length - 1 : Nat) : Int) := by rw [wi (by omega) (by omega)]; omega
        refine ⟨fun h4 => ⟨?_, ?_, ?_, fun h5 => ?_, fun h5 => ?_⟩, fun h4 => ?_⟩
        · simp only [hH, stdH, e3]
          omega
        · simp only [hH, stdH, e1]
          omega
        · try simp only [hH, stdH, zqz, ne_eq, zqy]
          exact fun h => okF_T h
        · simp only [hH, stdH, condF2, decide_eq_true_eq] at h5 ⊢
          rw [pF_iff.2 h5]
          exact ⟨rfl, rfl, rfl, rfl, rfl⟩
        · simp only [hH, stdH, zqz, ne_eq, zqy] at h4
          simp only [hH, stdH, condF2, decide_eq_false_iff_not, e3, e1, Int.toNat_natCast] at h5
          refine ⟨⟨l + 1, by omega, ?_⟩, by simp only; omega, ?_⟩
          · have := frmF_s (s := s) (d := (r : Int) + 1) (l := (l : Nat)) hp0 (by omega) (by omega) rfl rfl (by rw [show ((r : Int) + 1 - 1) * 5 + (l : Int) = (r : Int) * 5 + (l : Int) by omega]; exact hql) h5
            rw [show (r : Int) * 5 + ((l + 1 : Nat) : Int) = ((r : Int) + 1 - 1) * 5 + (l : Int) + 1 by omega]
            exact this
          · rw [hJ]
            (conv in matchSt _ _ _ _ => cbv); simp only [AllG, AllP, and_true, hH, stdH, zql, ncast, zqe, zqy]
            rw [w1 (by omega)]
            (repeat' (first | with_reducible exact True.intro | rfl | exact RowsEq.self okS | omega | refine And.intro ?_ ?_ | trivial))
        · simp only [hH, stdH, zqz, ne_eq, zqy] at h4
          obtain rfl : l = 5 := by omega
          rw [if_neg (by decide)]
          refine ⟨⟨r + 1, by omega, ?_⟩, by simp only; omega, ?_⟩
          · rw [show ((r + 1 : Nat) : Int) * 5 = (r : Int) * 5 + ((5 : Nat) : Int) by omega]
            exact hql
          · rw [hI]
            (conv in matchSt _ _ _ _ => cbv); simp only [AllG, AllP, and_true, hH, stdH, zql, ncast, zqe, zqy]
            rw [show IntKind.i64.wrap ((r : Int) + 1 + 1) = ((r + 1 : Nat) : Int) + 1 by rw [wi] <;> omega]
            (repeat' (first | with_reducible exact True.intro | rfl | exact RowsEq.self okS | omega | refine And.intro ?_ ?_ | trivial))
    · simp only [hH, stdH, zqz, ne_eq, zqy] at h3
      obtain rfl : r = 7 := by omega
      have : pF s = none := findO_none.2 fun z hz e => by have h3 := hqr z hz e; have h4 := okF_b hz; unfold codF at h3; omega
      try simp only [hH, stdH, zqz, ne_eq, zqy]
      rw [this]
      exact ⟨rfl, rfl, rfl, rfl, rfl⟩
noncomputable def e_l3Parse : Entry := pureE 56 fun H a => match a with
  | [.lit (.string s)] => some (.tup [aT rowF H fun _ => (pF s).getD zF, .lit (.bool (H Bool fun _ => (pF s).isSome))], [H Prop fun _ => s.size ≤ 1000000])
  | _ => none
theorem eok_l3Parse : EntryOk Tryz.prog e_l3Parse := pureM_ok (by unfold isBody; kernel_rfl) (by
  intro a r ob e hob
  split at e
  · rename_i s
    simp only [zqt] at e
    obtain ⟨rfl, rfl⟩ := e
    exact ConN.args (.cons .rfl .nil) (c_l3Parse s hob.1)
  · simp at e)

end Go.Proofs.YtmkniipdkanbbaaGreatDoor.AM

