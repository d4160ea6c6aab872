/- Lemmas and contracts (Skn); conditions: none. -/
import Derived.Test.YtmkniipdkanbbaaGreatDoorK04
import Derived.Test.YtmkniipdkanbbaaGreatDoorK08
import Derived.Test.YtmkniipdkanbbaaGreatDoorK33
set_option linter.unusedVariables false
set_option linter.unusedSimpArgs false
set_option maxRecDepth 100000
set_option maxHeartbeats 4000000
set_option cbv.maxSteps 3000000
namespace Go.Proofs.YtmkniipdkanbbaaGreatDoor.AM
/- Marks on a sketch's slots; conditions: none. -/
def mkY (k : Int) : Slo := ⟨k, k + 1⟩
def mkYL (n : Nat) (k : Int) : List Slo := (List.range n).map fun i => mkY (k + 2 * (i : Nat))
theorem mkYL_len (n : Nat) (k : Int) : (mkYL n k).length = n := by simp [mkYL]
theorem mkYL_getD {n i : Nat} {k : Int} (h : i < n) : (mkYL n k).getD i default = mkY (k + 2 * (i : Nat)) := by simp [mkYL, List.getD_eq_getElem?_getD, h]
theorem mkYL_succ (n : Nat) (k : Int) : mkYL (n + 1) k = mkYL n k ++ [mkY (k + 2 * (n : Nat))] := by simp [mkYL, List.range_succ]
theorem mkYL_set {l : List Slo} {i : Nat} {k : Int} (h : i < l.length) : (mkYL i k ++ l.drop i).set i (mkY (k + 2 * (i : Nat))) = mkYL (i + 1) k ++ l.drop (i + 1) := by
  rw [List.set_append_right _ _ (by rw [mkYL_len]; omega), mkYL_len, Nat.sub_self, List.drop_eq_getElem_cons h, List.set_cons_zero, mkYL_succ, List.append_assoc]
  rfl
theorem Tl_mkYL (n : Nat) (k : Int) : Tl rowY n (rowsY stdH fun _ => mkYL n k) = mkYL n k := by
  have := Tl_Y (mkYL n k); rwa [mkYL_len] at this
theorem put2_Y {i : Nat} {f : Nat → List AV} (h : (f i).length = 2) (c0 c1 : AV) : put2 i 1 [c1] (put2 i 0 [c0] f) = put1 i [c0, c1] f := by
  funext q
  by_cases hq : q = i
  · subst hq
    simp only [put2_same, put1_same]
    match hf : f q, h with
    | [d0, d1], _ => simp only [splice, List.length_cons, List.length_nil, Nat.ble_eq, hf]; rfl
  · simp only [put2_ne hq, put1_ne hq]
theorem RowsEq.putY {α : Type} {D : RowD α} (ok : RowOk D) {L : List α} {j : Nat} {x : α} {M : List α} (e : L.set j x = M) : RowsEq D.k M.length (rowsT D stdH fun _ => M) L.length (put1 j (D.cells stdH fun _ => x) (rowsT D stdH fun _ => L)) :=
  .ofT ok rfl (Shp_put1 (Shp_rowsT ok _ _) (by rw [ok.of_cells])) (by rw [Tl_put1, Tl_rowsT ok, ok.of_cells, e])
theorem rowsY_len (L : List Slo) (j : Nat) : (rowsY stdH (fun _ => L) j).length = 2 := rfl
theorem c_eqSlot (a : Slo) (b : Slo)  : ConN Tryz.prog 72 [aT rowY stdH fun _ => a, aT rowY stdH fun _ => b] [] 0 (.lit (.bool (stdH Bool fun _ => decide (a = b)))) [] [] := by
  have hB : Base Tryz.prog (tabΓ []) tab := base_of tabOk (ents_nil)
  refine con_m (N := 15) hB (draw_ok hB mixed) Tryz.func72 rfl rfl (fun H => [aT rowY H fun _ => a, aT rowY H fun _ => b]) (fun _ => []) 0 (fun H => .lit (.bool (H Bool fun _ => decide (a = b)))) (fun H => []) (fun _ => []) 100 (by simp) (fun x hx => ?_) (by simp [lk]) (by omega) (by simp) ?_
  · simp only [zqu] at hx
    rcases hx with rfl | rfl
    · exact aT_bl okRY _ _
    · exact aT_bl okRY _ _
  intro X hX hX0 H hH
  conv in Fin.chk _ _ => cbv
  try simp only [zqs, Plain_rowsC, Plain_rowsY, zqx, AllP, zqw, upd, if_true]
  subst hH
  obtain ⟨a1, a2⟩ := a
  obtain ⟨b1, b2⟩ := b
  by_cases h0 : a1 = b1 <;> by_cases h1 : a2 = b2 <;> simp [h0, h1]
noncomputable def e_eqSlot : Entry := pureE 72 fun H a => match a with
  | [.agg [.lit (.int .i64 a0), .lit (.int .i64 a1)], .agg [.lit (.int .i64 b0), .lit (.int .i64 b1)]] => some (.lit (.bool (H Bool fun _ => decide ((⟨a0, a1⟩ : Slo) = (⟨b0, b1⟩ : Slo)))), [])
  | _ => none
theorem eok_eqSlot : EntryOk Tryz.prog e_eqSlot := pureM_ok (by unfold isBody; kernel_rfl) (by
  intro a r ob e hob
  split at e
  · rename_i a0 a1 b0 b1
    simp only [zqt] at e
    obtain ⟨rfl, rfl⟩ := e
    exact ConN.args (.cons .rfl (.cons .rfl .nil)) (c_eqSlot (⟨a0, a1⟩ : Slo) (⟨b0, b1⟩ : Slo) )
  · simp at e)
theorem c_eqSlotS (a : List Slo) (b : List Slo) (h0 : a.length ≤ 100000000) : ConN Tryz.prog 31 [.vec 2 (stdH Nat fun _ => (a).length) (rowsY stdH fun _ => a), .vec 2 (stdH Nat fun _ => (b).length) (rowsY stdH fun _ => b)] [] 0 (.lit (.bool (stdH Bool fun _ => decide (a = b)))) [] [] := by
  have hB : Base Tryz.prog (tabΓ [e_eqSlot]) tab := base_of tabOk (ents_cons eok_eqSlot <| ents_nil)
  refine con_m (N := 27) hB (draw_ok hB mixed) Tryz.func31 rfl rfl (fun H => [.vec 2 (H Nat fun _ => (a).length) (rowsY H fun _ => a), .vec 2 (H Nat fun _ => (b).length) (rowsY H fun _ => b)]) (fun _ => []) 0 (fun H => .lit (.bool (H Bool fun _ => decide (a = b)))) (fun H => []) (fun _ => []) 100 (by simp) (fun x hx => ?_) (by simp [lk]) (by omega) (by simp) ?_
  · simp only [zqu] at hx
    rcases hx with rfl | rfl
    · exact vl_bl okRY a _
    · exact vl_bl okRY b _
  intro X hX hX0 H hH
  conv in Fin.chk _ _ => cbv
  try simp only [zqs, Plain_rowsC, Plain_rowsY, zqx, AllP, zqw, upd, if_true]
  refine ⟨fun h => ?_, fun h => ?_⟩
  · simp only [hH, stdH, zqz, ne_eq, zqy] at h ⊢
    rintro rfl; exact h rfl
  simp only [hH, stdH, zqz, ne_eq, zqy] at h
  refine loop_a hB (draw_ok hB mixed) hX hX0 hH false (ι := { i : Nat // i ≤ a.length ∧ ∀ j, j < i → a.getD j default = b.getD j default }) 100 (fun i => [.i (H Int fun _ => (i.1 : Nat))]) (fun i => a.length - i.1) (⟨0, by omega, by omega⟩) ?_ ?_
  · (conv in matchSt _ _ _ _ => cbv); simp only [AllG, AllP, and_true, hH, stdH, zql, ncast, zqe, zqy]
    (repeat' (first | with_reducible exact True.intro | rfl | exact Nat.le_refl _ | exact RowsEq.self okRY | exact RowsEq.ofT okRY rfl (Shp_zero _) rfl | exact RowsEq.snoc okRY rfl | exact RowsEq.self okI | exact RowsEq.self okRA | exact List.length_append | refine And.intro ?_ ?_ | trivial))
  · intro I hI i
    conv in Fin.chk _ _ => cbv
    try simp only [zqs, Plain_rowsC, Plain_rowsY, zqx, AllP, zqw, upd, if_true]
    obtain ⟨i, hi, hj⟩ := i
    refine ⟨fun h1 => ⟨?_, ?_, fun h2 => ?_, fun h2 => ?_⟩, fun h1 => ?_⟩
    · simp only [hH, stdH, zqz, ne_eq, zqy] at h1 ⊢
      omega
    · simp only [hH, stdH, zqz, ne_eq, zqy] at h1 ⊢
      omega
    · simp only [hH, stdH, zqz, ne_eq, zqy] at h2 ⊢
      rintro rfl; exact h2 rfl
    · simp only [hH, stdH, zqz, ne_eq, zqy] at h1
      simp only [hH, stdH, zqz, ne_eq, zqy] at h2
      refine ⟨⟨i + 1, by omega, fun j hj' => ?_⟩, by simp only; omega, ?_⟩
      · rcases Nat.lt_succ_iff_lt_or_eq.1 hj' with h3 | rfl
        · exact hj j h3
        · exact h2
      · rw [hI]
        (conv in matchSt _ _ _ _ => cbv); simp only [AllG, AllP, and_true, hH, stdH, zql, ncast, zqe, zqy]
        rw [w1 (by omega)]
        (repeat' (first | with_reducible exact True.intro | rfl | exact Nat.le_refl _ | exact RowsEq.self okRY | exact RowsEq.ofT okRY rfl (Shp_zero _) rfl | exact RowsEq.snoc okRY rfl | exact RowsEq.self okI | exact RowsEq.self okRA | exact List.length_append | refine And.intro ?_ ?_ | trivial))
    · simp only [hH, stdH, zqz, ne_eq, zqy] at h1 ⊢
      exact list_ext_getD default (by omega) fun j hj' => hj j (by omega)
noncomputable def e_eqSlotS : Entry := pureE 31 fun H a => match a with
  | [.vec 2 an af, .vec 2 bn bf] => some (.lit (.bool (H Bool fun _ => decide ((Tl rowY an af) = (Tl rowY bn bf)))), [H Prop fun _ => Shp rowY an af, H Prop fun _ => Shp rowY bn bf, H Prop fun _ => (Tl rowY an af).length ≤ 100000000])
  | _ => none
theorem eok_eqSlotS : EntryOk Tryz.prog e_eqSlotS := pureM_ok (by unfold isBody; kernel_rfl) (by
  intro a r ob e hob
  split at e
  · rename_i an af bn bf
    simp only [zqt] at e
    obtain ⟨rfl, rfl⟩ := e
    exact ConN.args (.cons (.toT okRY rfl hob.1) (.cons (.toT okRY rfl hob.2.1) .nil)) (c_eqSlotS (Tl rowY an af) (Tl rowY bn bf) hob.2.2.1)
  · simp at e)
theorem c_eqSketch (a : Skt) (b : Skt) (h0 : a.slots.length ≤ 100000000) : ConN Tryz.prog 8 [aT rowK stdH fun _ => a, aT rowK stdH fun _ => b] [] 0 (.lit (.bool (stdH Bool fun _ => decide (a.arms = b.arms ∧ a.slots = b.slots)))) [] [] := by
  have hB : Base Tryz.prog (tabΓ [e_eqArms, e_eqSlotS]) tab := base_of tabOk (ents_cons eok_eqArms <| ents_cons eok_eqSlotS <| ents_nil)
  refine con_m (N := 17) hB (draw_ok hB mixed) Tryz.func8 rfl rfl (fun H => [aT rowK H fun _ => a, aT rowK H fun _ => b]) (fun _ => []) 0 (fun H => .lit (.bool (H Bool fun _ => decide (a.arms = b.arms ∧ a.slots = b.slots)))) (fun H => []) (fun _ => []) 100 (by simp) (fun x hx => ?_) (by simp [lk]) (by omega) (by simp) ?_
  · simp only [zqu] at hx
    rcases hx with rfl | rfl
    · exact aT_bl okRK _ _
    · exact aT_bl okRK _ _
  intro X hX hX0 H hH
  conv in Fin.chk _ _ => cbv
  try simp only [zqs, Plain_rowsC, Plain_rowsY, zqx, AllP, zqw, upd, if_true]
  subst hH
  simp only [stdH, Arm.eta2, Fld.eta, Grp.eta, Tl_Y]
  refine ⟨fun h => ?_, fun h => ⟨⟨Shp_Y _ _, Shp_Y _ _, h0⟩, fun h2 => ?_, fun h2 => ?_⟩⟩
  · have h : ¬ a.arms = b.arms := by simpa using h
    exact decide_eq_false fun q => h q.1
  · have h2 : ¬ a.slots = b.slots := by simpa using h2
    exact decide_eq_false fun q => h2 q.2
  · have h : a.arms = b.arms := by simpa using h
    have h2 : a.slots = b.slots := by simpa using h2
    exact decide_eq_true ⟨h, h2⟩
noncomputable def e_eqSketch : Entry := pureE 8 fun H a => match a with
  | [.agg [.lit (.int .i64 a0), .lit (.int .i64 a1), .lit (.int .i64 a2), .lit (.int .i64 a3), .lit (.int .i64 a4), .lit (.int .i64 a5), .lit (.int .i64 a6), .lit (.int .i64 a7), .lit (.int .i64 a8), .lit (.int .i64 a9), .lit (.int .i64 a10), .lit (.int .i64 a11), .lit (.int .i64 a12), .lit (.int .i64 a13), .lit (.int .i64 a14), .vec 2 a15n a15f], .agg [.lit (.int .i64 b0), .lit (.int .i64 b1), .lit (.int .i64 b2), .lit (.int .i64 b3), .lit (.int .i64 b4), .lit (.int .i64 b5), .lit (.int .i64 b6), .lit (.int .i64 b7), .lit (.int .i64 b8), .lit (.int .i64 b9), .lit (.int .i64 b10), .lit (.int .i64 b11), .lit (.int .i64 b12), .lit (.int .i64 b13), .lit (.int .i64 b14), .vec 2 b15n b15f]] => some (.lit (.bool (H Bool fun _ => decide ((⟨⟨⟨a0, a1, a2, a3⟩, a4, a5, a6, ⟨a7, a8, a9, a10⟩, ⟨a11, a12, a13, a14⟩⟩, (Tl rowY a15n a15f)⟩ : Skt).arms = (⟨⟨⟨b0, b1, b2, b3⟩, b4, b5, b6, ⟨b7, b8, b9, b10⟩, ⟨b11, b12, b13, b14⟩⟩, (Tl rowY b15n b15f)⟩ : Skt).arms ∧ (⟨⟨⟨a0, a1, a2, a3⟩, a4, a5, a6, ⟨a7, a8, a9, a10⟩, ⟨a11, a12, a13, a14⟩⟩, (Tl rowY a15n a15f)⟩ : Skt).slots = (⟨⟨⟨b0, b1, b2, b3⟩, b4, b5, b6, ⟨b7, b8, b9, b10⟩, ⟨b11, b12, b13, b14⟩⟩, (Tl rowY b15n b15f)⟩ : Skt).slots))), [H Prop fun _ => Shp rowY a15n a15f, H Prop fun _ => Shp rowY b15n b15f, H Prop fun _ => (⟨⟨⟨a0, a1, a2, a3⟩, a4, a5, a6, ⟨a7, a8, a9, a10⟩, ⟨a11, a12, a13, a14⟩⟩, (Tl rowY a15n a15f)⟩ : Skt).slots.length ≤ 100000000])
  | _ => none
theorem eok_eqSketch : EntryOk Tryz.prog e_eqSketch := pureM_ok (by unfold isBody; kernel_rfl) (by
  intro a r ob e hob
  split at e
  · rename_i a0 a1 a2 a3 a4 a5 a6 a7 a8 a9 a10 a11 a12 a13 a14 a15n a15f b0 b1 b2 b3 b4 b5 b6 b7 b8 b9 b10 b11 b12 b13 b14 b15n b15f
    simp only [zqt] at e
    obtain ⟨rfl, rfl⟩ := e
    exact ConN.args (.cons (.agg (.cons .rfl (.cons .rfl (.cons .rfl (.cons .rfl (.cons .rfl (.cons .rfl (.cons .rfl (.cons .rfl (.cons .rfl (.cons .rfl (.cons .rfl (.cons .rfl (.cons .rfl (.cons .rfl (.cons .rfl (.cons (.toT okRY rfl hob.1) .nil))))))))))))))))) (.cons (.agg (.cons .rfl (.cons .rfl (.cons .rfl (.cons .rfl (.cons .rfl (.cons .rfl (.cons .rfl (.cons .rfl (.cons .rfl (.cons .rfl (.cons .rfl (.cons .rfl (.cons .rfl (.cons .rfl (.cons .rfl (.cons (.toT okRY rfl hob.2.1) .nil))))))))))))))))) .nil)) (c_eqSketch (⟨⟨⟨a0, a1, a2, a3⟩, a4, a5, a6, ⟨a7, a8, a9, a10⟩, ⟨a11, a12, a13, a14⟩⟩, (Tl rowY a15n a15f)⟩ : Skt) (⟨⟨⟨b0, b1, b2, b3⟩, b4, b5, b6, ⟨b7, b8, b9, b10⟩, ⟨b11, b12, b13, b14⟩⟩, (Tl rowY b15n b15f)⟩ : Skt) hob.2.2.1)
  · simp at e)
theorem c_markSlotS (l : List Slo) (k : Int) (h0 : l.length ≤ 1048576) (h1 : 0 ≤ k ∧ k ≤ 1000000000) : ConN Tryz.prog 32 [.slc 0 0 2 (stdH Nat fun _ => l.length), .lit (.int .i64 k)] [(0, .rows 2 (stdH Nat fun _ => l.length) (rowsY stdH fun _ => l) 56)] 1 (.lit (.int .i64 (stdH Int fun _ => k + 2 * (l.length : Nat)))) [] [(0, .rows 2 (stdH Nat fun _ => l.length) (rowsY stdH fun _ => mkYL l.length k) 56)] := by
  have hB : Base Tryz.prog (tabΓ []) tab := base_of tabOk (ents_nil)
  refine con_m (N := 27) hB (draw_ok hB mixed) Tryz.func32 rfl rfl (fun H => [.slc 0 0 2 (H Nat fun _ => l.length), .lit (.int .i64 k)]) (fun H => [(0, .rows 2 (H Nat fun _ => l.length) (rowsY H fun _ => l) 56)]) 1 (fun H => .lit (.int .i64 (H Int fun _ => k + 2 * (l.length : Nat)))) (fun H => []) (fun H => [(0, .rows 2 (H Nat fun _ => l.length) (rowsY H fun _ => mkYL l.length k) 56)]) 3000 (by simp) (fun x hx => ?_) (fun i b hi => ?_) (fun i hi => ?_) (fun i b hi => ?_) ?_
  · simp only [zqu] at hx
    rcases hx with rfl | rfl
    · exact .slc (by omega)
    · exact .lit
  · have := lk_in hi
    simp only [zqu, Prod.mk.injEq] at this
    obtain ⟨rfl, rfl⟩ := this
    exact ⟨by omega, bT_bl okRY _ (fun _ => l) _, _, List.mem_cons_self⟩
  · obtain rfl : i = 0 := by omega
    exact ⟨_, rfl⟩
  · simp only [zqu, Prod.mk.injEq] at hi
    obtain ⟨rfl, rfl⟩ := hi
    exact ⟨_, rfl⟩
  intro X hX hX0 H hH
  conv in Fin.chk _ _ => cbv
  try simp only [zqs, Plain_rowsC, Plain_rowsY, zqx, AllP, zqw, upd, if_true]
  refine loop_a hB (draw_ok hB mixed) hX hX0 hH false (ι := { i : Nat // i ≤ l.length }) 3000 (fun i => [.r (H Nat fun _ => (mkYL i.1 k ++ l.drop i.1).length) (rowsY H fun _ => mkYL i.1 k ++ l.drop i.1), .i (H Int fun _ => k + 2 * ((i.1 : Nat) : Int)), .i (H Int fun _ => (i.1 : Nat))]) (fun i => l.length - i.1) (⟨0, by omega⟩) ?_ ?_
  · (conv in matchSt _ _ _ _ => cbv); simp only [AllG, AllP, and_true, hH, stdH, zql, ncast, zqe, zqy]
    exact ⟨.self okRY, rfl, trivial, by omega⟩
  · intro I hI i
    conv in Fin.chk _ _ => cbv
    try simp only [zqs, Plain_rowsC, Plain_rowsY, zqx, AllP, zqw, upd, if_true]
    obtain ⟨i, hi⟩ := i
    refine ⟨fun h1 => ?_, fun h1 => ?_⟩
    · simp only [hH, stdH, zqz, ne_eq, zqy] at h1
      have hK : 0 ≤ k + 2 * (i : Int) ∧ k + 2 * (i : Int) ≤ 2000000000 := by omega
      repeat' (first | refine And.intro ?_ ?_ | intro _)
      all_goals try (simp only [hH, stdH, zqk, List.length_append, mkYL_len, List.length_drop, put2_len, rowsY_len, and_true]; omega)
      refine ⟨⟨i + 1, by omega⟩, by simp only; omega, ?_⟩
      rw [hI]
      (conv in matchSt _ _ _ _ => cbv); simp only [AllG, AllP, and_true, hH, stdH, zql, ncast, zqe, zqy]
      simp only [wk0 hK, wk1 hK, Int.toNat_natCast]
      rw [put2_Y (rowsY_len _ _), w1 (by omega)]
      refine ⟨RowsEq.putY okRY (x := mkY (k + 2 * ((i : Nat) : Int))) (mkYL_set (by omega)), rfl, trivial, by omega⟩
    · simp only [hH, stdH, zqz, ne_eq, zqy] at h1 ⊢
      obtain rfl : i = l.length := by omega
      simp only [List.drop_length, List.append_nil]
      refine ⟨?_, trivial⟩
      have := RowsEq.self okRY (k := 2) (L := mkYL l.length k)
      rw [mkYL_len] at this ⊢
      exact this
noncomputable def e_markSlotS : Entry := modE 32 2 56 fun H n g a => match a with
  | [.lit (.int .i64 k)] => some (.lit (.int .i64 (H Int fun _ => k + 2 * ((Tl rowY n g).length : Nat))), rowsY H fun _ => mkYL (Tl rowY n g).length k, [H Prop fun _ => Shp rowY n g, H Prop fun _ => (Tl rowY n g).length ≤ 1048576, H Prop fun _ => 0 ≤ k ∧ k ≤ 1000000000])
  | _ => none
theorem eok_markSlotS : EntryOk Tryz.prog e_markSlotS := modE_ok (by unfold isBody; kernel_rfl) (by
  intro n g a r g' ob e hob
  split at e
  · rename_i k
    simp only [zqt] at e
    obtain ⟨rfl, rfl, rfl⟩ := e
    have hs := hob.1
    have hl : (Tl rowY n g).length = n := Tl_len n g
    refine ⟨rowsY stdH fun _ => Tl rowY n g, fun j hj => ⟨?_, ?_⟩, ?_, fun x hx => ?_, ?_, fun j hj => ?_⟩
    · rw [hs.row j hj]; exact ((okRY).row (fun _ => Tl rowY n g) j).trans (by rw [Tl_getD hj])
    · exact rows_blx okRY _ j
    · have := c_markSlotS (Tl rowY n g) k hob.2.1 hob.2.2.1
      simp only [stdH, hl] at this ⊢
      exact ConN.args (.cons .rfl (.cons .rfl .nil)) this
    · simp only [zqu] at hx
      rcases hx with rfl
      · exact .lit
    · first | exact .lit | exact .tup fun x h => (by cases h)
    · exact rows_blx okRY _ j
  · simp at e)
theorem c_heldSlotS (a : List Slo) (k : Int) (h0 : a.length ≤ 1048576) (h1 : 0 ≤ k ∧ k ≤ 1000000000) (h2 : a = mkYL a.length k) : ConN Tryz.prog 33 [.vec 2 (stdH Nat fun _ => (a).length) (rowsY stdH fun _ => a), .lit (.int .i64 k)] [] 0 (.lit (.int .i64 (stdH Int fun _ => k + 2 * (a.length : Nat)))) [] [] := by
  have hB : Base Tryz.prog (tabΓ []) tab := base_of tabOk (ents_nil)
  refine con_m (N := 31) hB (draw_ok hB mixed) Tryz.func33 rfl rfl (fun H => [.vec 2 (H Nat fun _ => (a).length) (rowsY H fun _ => a), .lit (.int .i64 k)]) (fun _ => []) 0 (fun H => .lit (.int .i64 (H Int fun _ => k + 2 * (a.length : Nat)))) (fun H => []) (fun _ => []) 3000 (by simp) (fun x hx => ?_) (by simp [lk]) (by omega) (by simp) ?_
  · simp only [zqu] at hx
    rcases hx with rfl | rfl
    · exact vl_bl okRY a _
    · exact .lit
  intro X hX hX0 H hH
  conv in Fin.chk _ _ => cbv
  try simp only [zqs, Plain_rowsC, Plain_rowsY, zqx, AllP, zqw, upd, if_true]
  refine loop_a hB (draw_ok hB mixed) hX hX0 hH false (ι := { i : Nat // i ≤ a.length }) 3000 (fun i => [.i (H Int fun _ => k + 2 * ((i.1 : Nat) : Int)), .i (H Int fun _ => 0), .i (H Int fun _ => (i.1 : Nat))]) (fun i => a.length - i.1) (⟨0, by omega⟩) ?_ ?_
  · (conv in matchSt _ _ _ _ => cbv); simp only [AllG, AllP, and_true, hH, stdH, zql, ncast, zqe, zqy]
    exact ⟨rfl, trivial, by omega, .self okRY⟩
  · intro I hI i
    conv in Fin.chk _ _ => cbv
    try simp only [zqs, Plain_rowsC, Plain_rowsY, zqx, AllP, zqw, upd, if_true]
    obtain ⟨i, hi⟩ := i
    refine ⟨fun h1 => ?_, fun h1 => ?_⟩
    · simp only [hH, stdH, zqz, ne_eq, zqy] at h1
      have hK : 0 ≤ k + 2 * (i : Int) ∧ k + 2 * (i : Int) ≤ 2000000000 := by omega
      have hg : a.getD i default = mkY (k + 2 * (i : Int)) := (congrArg (fun l => List.getD l i default) h2).trans (mkYL_getD (by omega))
      unfold mkY at hg
      repeat' (first | refine And.intro ?_ ?_ | (intro h; first | (refine False.elim ?_; simp only [hH, stdH, zqk, hg, wk0 hK, wk1 hK, bne_self_eq_false, Bool.false_eq_true] at h; done) | clear h))
      all_goals try (simp only [hH, stdH]; omega)
      refine ⟨⟨i + 1, by omega⟩, by simp only; omega, ?_⟩
      rw [hI]
      (conv in matchSt _ _ _ _ => cbv); simp only [AllG, AllP, and_true, hH, stdH, zql, ncast, zqe, zqy]
      simp only [wk0 hK, wk1 hK]
      rw [w1 (by omega)]
      refine ⟨rfl, trivial, by omega, .self okRY⟩
    · simp only [hH, stdH, zqz, ne_eq, zqy] at h1 ⊢
      omega
noncomputable def e_heldSlotS : Entry := pureE 33 fun H a => match a with
  | [.vec 2 an af, .lit (.int .i64 k)] => some (.lit (.int .i64 (H Int fun _ => k + 2 * ((Tl rowY an af).length : Nat))), [H Prop fun _ => Shp rowY an af, H Prop fun _ => (Tl rowY an af).length ≤ 1048576, H Prop fun _ => 0 ≤ k ∧ k ≤ 1000000000, H Prop fun _ => (Tl rowY an af) = mkYL (Tl rowY an af).length k])
  | _ => none
theorem eok_heldSlotS : EntryOk Tryz.prog e_heldSlotS := pureM_ok (by unfold isBody; kernel_rfl) (by
  intro a r ob e hob
  split at e
  · rename_i an af k
    simp only [zqt] at e
    obtain ⟨rfl, rfl⟩ := e
    exact ConN.args (.cons (.toT okRY rfl hob.1) (.cons .rfl .nil)) (c_heldSlotS (Tl rowY an af) k hob.2.1 hob.2.2.1 hob.2.2.2.1)
  · simp at e)
theorem ConN.renRY {P : Program} {f : FuncId} {args args' : List AV} {hp hp' u u' : Heap} {r r' : AV} {nb nb' : List Blk} {m n : Nat} (π : Nat → Nat) (h : ConN P f args hp m r nb u) (hm : ∀ i, i < m → ∃ b, lk i hp = some b) (hA : ∀ (C : Cx) (vs : List Value), LRel C args' vs → LRel ⟨fun i => C.β (π i), fun j => j < m, C.ow, C.w⟩ args vs)
    (hh : ∀ i b, lk i hp = some b → i < m ∧ ∃ b', lk (π i) hp' = some b' ∧ RnB π m b b') (hi : ∀ i j, i < m → j < m → π i = π j → i = j) (hlen : nb'.length = nb.length) (hr : Re n m nb.length r' r)
    (hnb : ∀ (q : Nat) (b' : Blk), nb'[q]? = some b' → ∃ b, nb[q]? = some b ∧ ReB n m nb.length b' b) (hu : ∀ i' b', (i', b') ∈ u' → ∃ i b, i < m ∧ π i = i' ∧ (i, b) ∈ u ∧ ReB n m nb.length b' b)
    (hu2 : ∀ i b, (i, b) ∈ u → i < m ∧ (∃ b', (π i, b') ∈ u') ∧ (b.dead = true → ∀ b', (π i, b') ∈ u' → b'.dead = true)) : ConN P f args' hp' n r' nb' u' := by
  intro C vs hv hb hinj hlt hfresh
  let D : Cx := ⟨fun i => C.β (π i), fun j => j < m, C.ow, C.w⟩
  have hl' : LRel D args vs := hA C vs hv
  have hkey : ∀ i, i < m → C.ok (π i) ∧ C.ow (C.β (π i)) := fun i hi => by
    obtain ⟨b, hb1⟩ := hm i hi
    obtain ⟨_, b', hb2, _⟩ := hh i b hb1
    exact (hb _ _ hb2).2
  refine (h D vs hl' (fun j b hj => ?_) (fun j k a1 a2 h1 h2 d1 d2 he => ?_) hlt (fun i h1 _ (h2 : i < m) => by omega)).mono fun e w' ⟨cv, he, C', h⟩ => ⟨cv, he, ?_⟩
  · obtain ⟨h1, b', h2, h3⟩ := hh j b hj
    exact ⟨(h3.z (Z := False) (n0 := 0) (hp := [])).brel (C := C) (i' := π j) rfl (fun _ _ => rfl) (fun _ h => h) (fun _ h => h) rfl (fun h => h.elim) (hb _ _ h2).1, h1, (hkey j h1).2⟩
  · obtain ⟨p1, b1, p2, ⟨_, p3⟩, _⟩ := hh j a1 h1
    obtain ⟨q1, b2, q2, ⟨_, q3⟩, _⟩ := hh k a2 h2
    exact hi j k p1 q1 (hinj _ _ _ _ p2 q2 (p3 d1) (q3 d2) he)
  have hβm : ∀ i, i < m → C'.β i = C.β (π i) := fun i hi => h.ext.β i hi
  have hww : C'.w = w' := h.w
  let F : Cx := ⟨fun i => if n ≤ i ∧ i < n + nb.length then C'.β (m + (i - n)) else C.β i, fun i => C.ok i ∨ (n ≤ i ∧ i < n + nb.length), fun k => C.ow k ∨ ∃ i, n ≤ i ∧ i < n + nb.length ∧ C'.β (m + (i - n)) = k, w'⟩
  have hFn : ∀ i, n ≤ i → i < n + nb.length → F.β i = C'.β (m + (i - n)) := fun i h1 h2 => if_pos ⟨h1, h2⟩
  have hFo : ∀ i, C.ok i → F.β i = C.β i := fun i hi => if_neg fun ⟨h1, h2⟩ => hfresh i h1 (by omega) hi
  have hβ : ∀ i, n ≤ i → i < n + nb.length → F.β i = C'.β (m + (i - n)) ∧ F.ok i := fun i h1 h2 => ⟨hFn i h1 h2, .inr ⟨h1, h2⟩⟩
  have how : ∀ k, F.ow k → C'.ow k := by
    rintro k (h0 | ⟨i, h1, h2, e⟩)
    · exact (h.ow k).2 (.inl h0)
    · exact (h.ow k).2 (.inr ⟨m + (i - n), by omega, by omega, e⟩)
  refine ⟨F, rfl, ⟨?_, ?_, hFo, fun _ h => .inl h, ?_⟩, fun i => by rw [hlen], fun k => ?_, fun i h1 h2 => ?_, fun i j h1 h2 h3 h4 e => ?_, fun y hy => ?_, fun i b hib => ?_, fun i b hib => ?_⟩
  · have hw := h.ext.wx
    rw [h.w] at hw
    refine hw.trans (.refl _ (fun _ => False)) (fun k hk => ?_) (fun k _ h => h.elim)
    obtain ⟨j, b2, hj, hk⟩ := hk
    obtain ⟨_, ⟨b', hb'⟩, _⟩ := hu2 j b2 hj
    exact ⟨π j, b', hb', hk⟩
  · rintro k ⟨i', b', hib, rfl⟩
    obtain ⟨i, b, h1, rfl, _⟩ := hu i' b' hib
    exact (hkey i h1).2
  · rintro k (h0 | ⟨i, h1, h2, rfl⟩)
    · exact .inl h0
    · have := h.ext.ow (C'.β (m + (i - n))) ((h.ow _).2 (.inr ⟨m + (i - n), by omega, by omega, rfl⟩))
      exact this
  · rw [hlen]
    show C.ow k ∨ _ ↔ C.ow k ∨ _
    refine or_congr Iff.rfl ⟨?_, ?_⟩
    · rintro ⟨i, h1, h2, e⟩; exact ⟨i, h1, h2, by rw [hFn i h1 h2]; exact e⟩
    · rintro ⟨i, h1, h2, e⟩; exact ⟨i, h1, h2, by rw [← hFn i h1 h2]; exact e⟩
  · rw [hlen] at h2
    rw [hFn i h1 h2]
    rcases h.new (m + (i - n)) (by omega) (by omega) with hge | ⟨j, hj, e, ⟨b, hjb⟩, hd⟩
    · exact .inl hge
    · obtain ⟨_, hex, hdd⟩ := hu2 j b hjb
      exact .inr ⟨π j, (hkey j hj).1, e, hex, hdd (hd b hjb)⟩
  · rw [hlen] at h2 h4
    rw [hFn i h1 h2, hFn j h3 h4] at e
    have := h.inj (m + (i - n)) (m + (j - n)) (by omega) (by omega) (by omega) (by omega) e
    omega
  · injection hy with hy
    subst hy
    exact hr.rel hβ how hww.symm (h.val _ rfl)
  · obtain ⟨h1, h2⟩ := mem_named.1 hib
    have hlt2 : i - n < nb.length := by rw [← hlen]; exact (List.getElem?_eq_some_iff.1 h2).1
    obtain ⟨b0, h3, h4⟩ := hnb _ _ h2
    exact h4.brel (i' := m + (i - n)) (hFn i h1 (by omega)) hβ how hww.symm (h.nb _ _ (mem_named.2 ⟨by omega, by rw [Nat.add_sub_cancel_left]; exact h3⟩))
  · obtain ⟨j, b0, h1, rfl, h2, h3⟩ := hu i b hib
    exact h3.brel (i' := j) (by rw [hFo _ (hkey j h1).1, hβm j h1]) hβ how hww.symm (h.u _ _ h2)
def modSk (f : FuncId) (E : TypeId) (F : Hold → Nat → (Nat → List AV) → List AV → Option (AV × (Nat → List AV) × List Prop)) : Entry := ⟨f, fun H a h _ => match a with
  | .agg [.lit (.int .i64 x0), .lit (.int .i64 x1), .lit (.int .i64 x2), .lit (.int .i64 x3), .lit (.int .i64 x4), .lit (.int .i64 x5), .lit (.int .i64 x6), .lit (.int .i64 x7), .lit (.int .i64 x8), .lit (.int .i64 x9), .lit (.int .i64 x10), .lit (.int .i64 x11), .lit (.int .i64 x12), .lit (.int .i64 x13), .lit (.int .i64 x14), .slc i 0 2 n] :: a => (match lk i h with
    | some (.rows k'' n' g E') => bif Nat.beq 2 k'' && Nat.beq E E' then (match F H n g a with
      | some (r, g', ob) => some (r, [], [i], [(i, .rows 2 n g' E)], (H Prop fun _ => n' = n) :: ob)
      | none => none) else none
    | _ => none)
  | _ => none⟩
theorem modSk_ok {P : Program} {f : FuncId} {E : TypeId} {F : Hold → Nat → (Nat → List AV) → List AV → Option (AV × (Nat → List AV) × List Prop)} (hb : isBody P f)
    (h : ∀ x0 x1 x2 x3 x4 x5 x6 x7 x8 x9 x10 x11 x12 x13 x14 n g a r g' ob, F stdH n g a = some (r, g', ob) → AllP ob → ∃ g0, (∀ j, j < n → g0 j = g j ∧ ∀ x ∈ g0 j, Bl 0 x) ∧ ConN P f (.agg [.lit (.int .i64 x0), .lit (.int .i64 x1), .lit (.int .i64 x2), .lit (.int .i64 x3), .lit (.int .i64 x4), .lit (.int .i64 x5), .lit (.int .i64 x6), .lit (.int .i64 x7), .lit (.int .i64 x8), .lit (.int .i64 x9), .lit (.int .i64 x10), .lit (.int .i64 x11), .lit (.int .i64 x12), .lit (.int .i64 x13), .lit (.int .i64 x14), .slc 0 0 2 n] :: a) [(0, .rows 2 n g0 E)] 1 r [] [(0, .rows 2 n g' E)] ∧ (∀ x ∈ a, Bl 0 x) ∧ Bl 0 r ∧ ∀ j, j < n → ∀ x ∈ g' j, Bl 0 x) : EntryOk P (modSk f E F) := by
  refine ⟨hb, fun a hp nx r nb rd u ob e hob => ?_⟩
  simp only [modSk] at e
  split at e
  · rename_i x0 x1 x2 x3 x4 x5 x6 x7 x8 x9 x10 x11 x12 x13 x14 i n a'
    split at e
    · rename_i k'' n' g E' hlk
      cases hc : (Nat.beq 2 k'' && Nat.beq E E') with
      | false => rw [hc] at e; simp at e
      | true =>
        rw [hc] at e
        simp only [cond_true] at e
        simp only [Bool.and_eq_true] at hc
        obtain rfl := Nat.eq_of_beq_eq_true hc.1
        obtain rfl := Nat.eq_of_beq_eq_true hc.2
        cases hF : F stdH n g a' with
        | none => simp [hF] at e
        | some y =>
          obtain ⟨r', g', ob'⟩ := y
          simp only [hF, stdH, zqt] at e
          obtain ⟨rfl, rfl, rfl, rfl, rfl⟩ := e
          obtain ⟨rfl, hob⟩ := hob
          obtain ⟨g0, h0, h1, h2, h3, h4⟩ := h x0 x1 x2 x3 x4 x5 x6 x7 x8 x9 x10 x11 x12 x13 x14 _ _ _ _ _ _ hF hob
          refine ⟨fun q b hq => ?_, [(i, .rows 2 n' g E)], fun q b hq => ?_, ?_⟩
          · simp at hq; obtain ⟨rfl, rfl⟩ := hq; exact ⟨by simp, _, hlk, rfl⟩
          · rw [lk_cons] at hq
            by_cases hi : i = q
            · rw [if_pos hi] at hq; injection hq with hq; subst hq; subst hi; exact ⟨by simp, hlk⟩
            · rw [if_neg hi] at hq; simp [lk] at hq
          · refine h1.renRY (fun _ => i) (fun q hq => ⟨_, by obtain rfl : q = 0 := (by omega); rfl⟩) (fun C vs hv => ⟨hv.1, fun c x v hx hw => ?_⟩) (fun q b hq => ?_) (by omega) rfl (.pl h3) (fun q b hq => by simp at hq) (fun q b hq => ?_) (fun q b hq => ?_)
            · cases c with
              | zero =>
                have hz := hv.2 0 _ v rfl hw
                simp only [List.getElem?_cons_zero, Option.some.injEq] at hx
                subst hx
                cases hz with
                | agg hl1 h5 hr =>
                  refine .agg hl1 h5 fun c x v hx hw => ?_
                  by_cases hc15 : c = 15
                  · subst hc15
                    simp only [List.getElem?_cons_succ, List.getElem?_cons_zero, Option.some.injEq] at hx
                    subst hx
                    exact (Rn.slc (π := fun _ => i) (m := 1) (i := 0) (by omega)).rel (C := C) (D := ⟨fun _ => C.β i, fun j => j < 1, C.ow, C.w⟩) (fun _ _ => rfl) (fun _ h => h) (fun _ h => h) rfl (hr 15 _ v rfl hw)
                  · have hlt : c < 16 := (List.getElem?_eq_some_iff.1 hx).1
                    have hx' : ∃ z, x = .lit (.int .i64 z) ∧ ([.lit (.int .i64 x0), .lit (.int .i64 x1), .lit (.int .i64 x2), .lit (.int .i64 x3), .lit (.int .i64 x4), .lit (.int .i64 x5), .lit (.int .i64 x6), .lit (.int .i64 x7), .lit (.int .i64 x8), .lit (.int .i64 x9), .lit (.int .i64 x10), .lit (.int .i64 x11), .lit (.int .i64 x12), .lit (.int .i64 x13), .lit (.int .i64 x14), .slc i 0 2 n'] : List AV)[c]? = some x := by
                      rcases (by omega : c = 0 ∨ c = 1 ∨ c = 2 ∨ c = 3 ∨ c = 4 ∨ c = 5 ∨ c = 6 ∨ c = 7 ∨ c = 8 ∨ c = 9 ∨ c = 10 ∨ c = 11 ∨ c = 12 ∨ c = 13 ∨ c = 14) with rfl | rfl | rfl | rfl | rfl | rfl | rfl | rfl | rfl | rfl | rfl | rfl | rfl | rfl | rfl <;> (simp only [List.getElem?_cons_succ, List.getElem?_cons_zero, Option.some.injEq] at hx; subst hx; exact ⟨_, rfl, rfl⟩)
                    obtain ⟨z, rfl, hx2⟩ := hx'
                    exact (Rn.same (π := fun _ => i) (m := 1) (q := 0) (by omega) (by omega) .lit).rel (C := C) (D := ⟨fun _ => C.β i, fun j => j < 1, C.ow, C.w⟩) (fun _ _ => rfl) (fun _ h => h) (fun _ h => h) rfl (hr c _ v hx2 hw)
              | succ c =>
                simp only [List.getElem?_cons_succ] at hx
                exact (Rn.same (π := fun _ => i) (m := 1) (q := 0) (by omega) (by omega) (h2 _ (List.mem_of_getElem? hx))).rel (C := C) (D := ⟨fun _ => C.β i, fun j => j < 1, C.ow, C.w⟩) (fun _ _ => rfl) (fun _ h => h) (fun _ h => h) rfl (hv.2 (c + 1) _ v (by simpa using hx) hw)
            · have := lk_in hq
              simp at this
              obtain ⟨rfl, rfl⟩ := this
              exact ⟨by omega, _, by rw [lk_cons, if_pos rfl], rnb_rows rfl (fun j hj => (h0 j hj).1) (fun j hj => (h0 j hj).2)⟩
            · simp at hq
              obtain ⟨rfl, rfl⟩ := hq
              exact ⟨0, _, by omega, rfl, List.mem_cons_self, .same (rowsB_bl h4)⟩
            · simp at hq
              obtain ⟨rfl, rfl⟩ := hq
              exact ⟨by omega, ⟨_, List.mem_cons_self⟩, fun h => by simp [Blk.dead] at h⟩
    · simp at e
  · simp at e
theorem c_markSketch (a : Arm) (S : List Slo) (k : Int) (h0 : S.length ≤ 1048576) (h1 : 0 ≤ k ∧ k ≤ 1000000000) : ConN Tryz.prog 9 [.agg [.lit (.int .i64 (stdH Int fun _ => a.f.d)), .lit (.int .i64 (stdH Int fun _ => a.f.l)), .lit (.int .i64 (stdH Int fun _ => a.f.p)), .lit (.int .i64 (stdH Int fun _ => a.f.q)), .lit (.int .i64 (stdH Int fun _ => a.o)), .lit (.int .i64 (stdH Int fun _ => a.l)), .lit (.int .i64 (stdH Int fun _ => a.t)), .lit (.int .i64 (stdH Int fun _ => a.n.c)), .lit (.int .i64 (stdH Int fun _ => a.n.k)), .lit (.int .i64 (stdH Int fun _ => a.n.a)), .lit (.int .i64 (stdH Int fun _ => a.n.t)), .lit (.int .i64 (stdH Int fun _ => a.r.c)), .lit (.int .i64 (stdH Int fun _ => a.r.k)), .lit (.int .i64 (stdH Int fun _ => a.r.a)), .lit (.int .i64 (stdH Int fun _ => a.r.t)), .slc 0 0 2 S.length], .lit (.int .i64 k)] [(0, .rows 2 S.length (rowsY stdH fun _ => S) 56)] 1 (.lit (.int .i64 (k + 2 * (S.length : Nat)))) [] [(0, .rows 2 S.length (rowsY stdH fun _ => mkYL S.length k) 56)] := by
  have hB : Base Tryz.prog (tabΓ [e_markSlotS]) tab := base_of tabOk (ents_cons eok_markSlotS <| ents_nil)
  refine con_m (N := 10) hB (draw_ok hB mixed) Tryz.func9 rfl rfl (fun H => [.agg [.lit (.int .i64 (H Int fun _ => a.f.d)), .lit (.int .i64 (H Int fun _ => a.f.l)), .lit (.int .i64 (H Int fun _ => a.f.p)), .lit (.int .i64 (H Int fun _ => a.f.q)), .lit (.int .i64 (H Int fun _ => a.o)), .lit (.int .i64 (H Int fun _ => a.l)), .lit (.int .i64 (H Int fun _ => a.t)), .lit (.int .i64 (H Int fun _ => a.n.c)), .lit (.int .i64 (H Int fun _ => a.n.k)), .lit (.int .i64 (H Int fun _ => a.n.a)), .lit (.int .i64 (H Int fun _ => a.n.t)), .lit (.int .i64 (H Int fun _ => a.r.c)), .lit (.int .i64 (H Int fun _ => a.r.k)), .lit (.int .i64 (H Int fun _ => a.r.a)), .lit (.int .i64 (H Int fun _ => a.r.t)), .slc 0 0 2 (H Nat fun _ => S.length)], .lit (.int .i64 (H Int fun _ => k))]) (fun H => [(0, .rows 2 (H Nat fun _ => S.length) (rowsY H fun _ => S) 56)]) 1 (fun H => .lit (.int .i64 (H Int fun _ => k + 2 * (S.length : Nat)))) (fun H => []) (fun H => [(0, .rows 2 (H Nat fun _ => S.length) (rowsY H fun _ => mkYL S.length k) 56)]) 300 (by simp) (fun x hx => ?_) (fun i b hi => ?_) (fun i hi => ?_) (fun i b hi => ?_) ?_
  · simp only [zqu] at hx
    rcases hx with rfl | rfl
    · exact .agg fun x hx => by
        simp only [zqu] at hx
        rcases hx with rfl | rfl | rfl | rfl | rfl | rfl | rfl | rfl | rfl | rfl | rfl | rfl | rfl | rfl | rfl | rfl <;> first | exact .lit | exact .slc (by omega)
    · exact .lit
  · have := lk_in hi
    simp only [zqu, Prod.mk.injEq] at this
    obtain ⟨rfl, rfl⟩ := this
    exact ⟨by omega, bT_bl okRY _ (fun _ => S) _, _, List.mem_cons_self⟩
  · obtain rfl : i = 0 := by omega
    exact ⟨_, rfl⟩
  · simp only [zqu, Prod.mk.injEq] at hi
    obtain ⟨rfl, rfl⟩ := hi
    exact ⟨_, rfl⟩
  intro X hX hX0 H hH
  conv in Fin.chk _ _ => cbv
  try simp only [zqs, Plain_rowsC, Plain_rowsY, zqx, AllP, zqw, upd, if_true]
  subst hH
  simp only [stdH, Tl_Y]
  refine ⟨⟨trivial, Shp_Y _ _, h0, h1⟩, ?_, trivial⟩
  have := RowsEq.self okRY (k := 2) (L := mkYL S.length k)
  rw [mkYL_len] at this
  exact this
noncomputable def e_markSketch : Entry := modSk 9 56 fun H n g a => match a with
  | [.lit (.int .i64 k)] => some (.lit (.int .i64 (H Int fun _ => k + 2 * ((Tl rowY n g).length : Nat))), rowsY H fun _ => mkYL (Tl rowY n g).length k, [H Prop fun _ => Shp rowY n g, H Prop fun _ => (Tl rowY n g).length ≤ 1048576, H Prop fun _ => 0 ≤ k ∧ k ≤ 1000000000])
  | _ => none
theorem eok_markSketch : EntryOk Tryz.prog e_markSketch := modSk_ok (by unfold isBody; kernel_rfl) (by
  intro x0 x1 x2 x3 x4 x5 x6 x7 x8 x9 x10 x11 x12 x13 x14 n g a r g' ob e hob
  split at e
  · rename_i k
    simp only [zqt] at e
    obtain ⟨rfl, rfl, rfl⟩ := e
    have hs := hob.1
    have hl : (Tl rowY n g).length = n := Tl_len n g
    refine ⟨rowsY stdH fun _ => Tl rowY n g, fun j hj => ⟨?_, ?_⟩, ?_, fun x hx => ?_, .lit, fun j hj => ?_⟩
    · rw [hs.row j hj]; exact ((okRY).row (fun _ => Tl rowY n g) j).trans (by rw [Tl_getD hj])
    · exact rows_blx okRY _ j
    · have := c_markSketch ⟨⟨x0, x1, x2, x3⟩, x4, x5, x6, ⟨x7, x8, x9, x10⟩, ⟨x11, x12, x13, x14⟩⟩ (Tl rowY n g) k hob.2.1 hob.2.2.1
      simp only [stdH, hl] at this ⊢
      exact this
    · simp only [zqu] at hx
      subst hx
      exact .lit
    · exact rows_blx okRY _ j
  · simp at e)
theorem c_heldSketch (a : Skt) (k : Int) (h0 : a.slots.length ≤ 1048576) (h1 : 0 ≤ k ∧ k ≤ 1000000000) (h2 : a.slots = mkYL a.slots.length k) : ConN Tryz.prog 10 [aT rowK stdH fun _ => a, .lit (.int .i64 k)] [] 0 (.lit (.int .i64 (stdH Int fun _ => k + 2 * (a.slots.length : Nat)))) [] [] := by
  have hB : Base Tryz.prog (tabΓ [e_heldSlotS]) tab := base_of tabOk (ents_cons eok_heldSlotS <| ents_nil)
  refine con_m (N := 12) hB (draw_ok hB mixed) Tryz.func10 rfl rfl (fun H => [aT rowK H fun _ => a, .lit (.int .i64 k)]) (fun _ => []) 0 (fun H => .lit (.int .i64 (H Int fun _ => k + 2 * (a.slots.length : Nat)))) (fun H => []) (fun _ => []) 300 (by simp) (fun x hx => ?_) (by simp [lk]) (by omega) (by simp) ?_
  · simp only [zqu] at hx
    rcases hx with rfl | rfl
    · exact aT_bl okRK _ _
    · exact .lit
  intro X hX hX0 H hH
  conv in Fin.chk _ _ => cbv
  try simp only [zqs, Plain_rowsC, Plain_rowsY, zqx, AllP, zqw, upd, if_true]
  subst hH
  simp only [stdH, Tl_Y]
  refine ⟨⟨Shp_Y _ _, h0, h1, h2⟩, fun h => ?_, fun _ => ?_⟩
  · simp only [decide_eq_true_eq] at h
    omega
  · first | exact True.intro | rfl
noncomputable def e_heldSketch : Entry := pureE 10 fun H a => match a with
  | [.agg [.lit (.int .i64 a0), .lit (.int .i64 a1), .lit (.int .i64 a2), .lit (.int .i64 a3), .lit (.int .i64 a4), .lit (.int .i64 a5), .lit (.int .i64 a6), .lit (.int .i64 a7), .lit (.int .i64 a8), .lit (.int .i64 a9), .lit (.int .i64 a10), .lit (.int .i64 a11), .lit (.int .i64 a12), .lit (.int .i64 a13), .lit (.int .i64 a14), .vec 2 a15n a15f], .lit (.int .i64 k)] => some (.lit (.int .i64 (H Int fun _ => k + 2 * ((⟨⟨⟨a0, a1, a2, a3⟩, a4, a5, a6, ⟨a7, a8, a9, a10⟩, ⟨a11, a12, a13, a14⟩⟩, (Tl rowY a15n a15f)⟩ : Skt).slots.length : Nat))), [H Prop fun _ => Shp rowY a15n a15f, H Prop fun _ => (⟨⟨⟨a0, a1, a2, a3⟩, a4, a5, a6, ⟨a7, a8, a9, a10⟩, ⟨a11, a12, a13, a14⟩⟩, (Tl rowY a15n a15f)⟩ : Skt).slots.length ≤ 1048576, H Prop fun _ => 0 ≤ k ∧ k ≤ 1000000000, H Prop fun _ => (⟨⟨⟨a0, a1, a2, a3⟩, a4, a5, a6, ⟨a7, a8, a9, a10⟩, ⟨a11, a12, a13, a14⟩⟩, (Tl rowY a15n a15f)⟩ : Skt).slots = mkYL (⟨⟨⟨a0, a1, a2, a3⟩, a4, a5, a6, ⟨a7, a8, a9, a10⟩, ⟨a11, a12, a13, a14⟩⟩, (Tl rowY a15n a15f)⟩ : Skt).slots.length k])
  | _ => none
theorem eok_heldSketch : EntryOk Tryz.prog e_heldSketch := pureM_ok (by unfold isBody; kernel_rfl) (by
  intro a r ob e hob
  split at e
  · rename_i a0 a1 a2 a3 a4 a5 a6 a7 a8 a9 a10 a11 a12 a13 a14 a15n a15f k
    simp only [zqt] at e
    obtain ⟨rfl, rfl⟩ := e
    exact ConN.args (.cons (.agg (.cons .rfl (.cons .rfl (.cons .rfl (.cons .rfl (.cons .rfl (.cons .rfl (.cons .rfl (.cons .rfl (.cons .rfl (.cons .rfl (.cons .rfl (.cons .rfl (.cons .rfl (.cons .rfl (.cons .rfl (.cons (.toT okRY rfl hob.1) .nil))))))))))))))))) (.cons .rfl .nil)) (c_heldSketch (⟨⟨⟨a0, a1, a2, a3⟩, a4, a5, a6, ⟨a7, a8, a9, a10⟩, ⟨a11, a12, a13, a14⟩⟩, (Tl rowY a15n a15f)⟩ : Skt) k hob.2.1 hob.2.2.1 hob.2.2.2.1)
  · simp at e)
theorem c_markSlotZ (l : List Slo) (k : Int) (h0 : l = []) : ConN Tryz.prog 32 [.vec 2 (stdH Nat fun _ => (l).length) (rowsY stdH fun _ => l), .lit (.int .i64 k)] [] 0 (.lit (.int .i64 (stdH Int fun _ => k))) [] [] := by
  have hB : Base Tryz.prog (tabΓ []) tab := base_of tabOk (ents_nil)
  refine con_m (N := 27) hB (draw_ok hB mixed) Tryz.func32 rfl rfl (fun H => [.vec 2 (H Nat fun _ => (l).length) (rowsY H fun _ => l), .lit (.int .i64 k)]) (fun _ => []) 0 (fun H => .lit (.int .i64 (H Int fun _ => k))) (fun H => []) (fun _ => []) 3000 (by simp) (fun x hx => ?_) (by simp [lk]) (by omega) (by simp) ?_
  · simp only [zqu] at hx
    rcases hx with rfl | rfl
    · exact vl_bl okRY l _
    · exact .lit
  intro X hX hX0 H hH
  conv in Fin.chk _ _ => cbv
  try simp only [zqs, Plain_rowsC, Plain_rowsY, zqx, AllP, zqw, upd, if_true]
  subst h0
  refine loop_a hB (draw_ok hB mixed) hX hX0 hH false (ι := Unit) 3000 (fun i => [.i (H Int fun _ => k), .i (H Int fun _ => 0)]) (fun i => 0) (()) ?_ ?_
  · (conv in matchSt _ _ _ _ => cbv); simp only [AllG, AllP, and_true, hH, stdH, zql, ncast, zqe, zqy]
    exact ⟨trivial, trivial, trivial, RowsEq.self okRY⟩
  · intro I hI i
    conv in Fin.chk _ _ => cbv
    try simp only [zqs, Plain_rowsC, Plain_rowsY, zqx, AllP, zqw, upd, if_true]
    refine ⟨fun h => ?_, fun _ => by rw [hH]; trivial⟩
    exfalso
    simp only [hH, stdH] at h
    exact absurd h (by decide)
noncomputable def e_markSlotZ : Entry := pureE 32 fun H a => match a with
  | [.vec 2 ln lf, .lit (.int .i64 k)] => some (.lit (.int .i64 (H Int fun _ => k)), [H Prop fun _ => Shp rowY ln lf, H Prop fun _ => (Tl rowY ln lf) = []])
  | _ => none
theorem eok_markSlotZ : EntryOk Tryz.prog e_markSlotZ := pureM_ok (by unfold isBody; kernel_rfl) (by
  intro a r ob e hob
  split at e
  · rename_i ln lf k
    simp only [zqt] at e
    obtain ⟨rfl, rfl⟩ := e
    exact ConN.args (.cons (.toT okRY rfl hob.1) (.cons .rfl .nil)) (c_markSlotZ (Tl rowY ln lf) k hob.2.1)
  · simp at e)
theorem c_markSketchZ (a : Skt) (k : Int) (h0 : a.slots = []) : ConN Tryz.prog 9 [aT rowK stdH fun _ => a, .lit (.int .i64 k)] [] 0 (.lit (.int .i64 (stdH Int fun _ => k))) [] [] := by
  have hB : Base Tryz.prog (tabΓ [e_markSlotZ]) tab := base_of tabOk (ents_cons eok_markSlotZ <| ents_nil)
  refine con_m (N := 10) hB (draw_ok hB mixed) Tryz.func9 rfl rfl (fun H => [aT rowK H fun _ => a, .lit (.int .i64 k)]) (fun _ => []) 0 (fun H => .lit (.int .i64 (H Int fun _ => k))) (fun H => []) (fun _ => []) 300 (by simp) (fun x hx => ?_) (by simp [lk]) (by omega) (by simp) ?_
  · simp only [zqu] at hx
    rcases hx with rfl | rfl
    · exact aT_bl okRK _ _
    · exact .lit
  intro X hX hX0 H hH
  conv in Fin.chk _ _ => cbv
  try simp only [zqs, Plain_rowsC, Plain_rowsY, zqx, AllP, zqw, upd, if_true]
  subst hH
  simp only [stdH, Tl_Y]
  exact ⟨⟨Shp_Y _ _, h0⟩, trivial⟩
noncomputable def e_markSketchZ : Entry := pureE 9 fun H a => match a with
  | [.agg [.lit (.int .i64 a0), .lit (.int .i64 a1), .lit (.int .i64 a2), .lit (.int .i64 a3), .lit (.int .i64 a4), .lit (.int .i64 a5), .lit (.int .i64 a6), .lit (.int .i64 a7), .lit (.int .i64 a8), .lit (.int .i64 a9), .lit (.int .i64 a10), .lit (.int .i64 a11), .lit (.int .i64 a12), .lit (.int .i64 a13), .lit (.int .i64 a14), .vec 2 a15n a15f], .lit (.int .i64 k)] => some (.lit (.int .i64 (H Int fun _ => k)), [H Prop fun _ => Shp rowY a15n a15f, H Prop fun _ => (⟨⟨⟨a0, a1, a2, a3⟩, a4, a5, a6, ⟨a7, a8, a9, a10⟩, ⟨a11, a12, a13, a14⟩⟩, (Tl rowY a15n a15f)⟩ : Skt).slots = []])
  | _ => none
theorem eok_markSketchZ : EntryOk Tryz.prog e_markSketchZ := pureM_ok (by unfold isBody; kernel_rfl) (by
  intro a r ob e hob
  split at e
  · rename_i a0 a1 a2 a3 a4 a5 a6 a7 a8 a9 a10 a11 a12 a13 a14 a15n a15f k
    simp only [zqt] at e
    obtain ⟨rfl, rfl⟩ := e
    exact ConN.args (.cons (.agg (.cons .rfl (.cons .rfl (.cons .rfl (.cons .rfl (.cons .rfl (.cons .rfl (.cons .rfl (.cons .rfl (.cons .rfl (.cons .rfl (.cons .rfl (.cons .rfl (.cons .rfl (.cons .rfl (.cons .rfl (.cons (.toT okRY rfl hob.1) .nil))))))))))))))))) (.cons .rfl .nil)) (c_markSketchZ (⟨⟨⟨a0, a1, a2, a3⟩, a4, a5, a6, ⟨a7, a8, a9, a10⟩, ⟨a11, a12, a13, a14⟩⟩, (Tl rowY a15n a15f)⟩ : Skt) k hob.2.1)
  · simp at e)

end Go.Proofs.YtmkniipdkanbbaaGreatDoor.AM

