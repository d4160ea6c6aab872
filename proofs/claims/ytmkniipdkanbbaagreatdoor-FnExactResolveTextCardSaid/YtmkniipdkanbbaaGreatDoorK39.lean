/- Lemmas and contracts (Skg Skh Skz Sku); conditions: none. -/
import Derived.Test.YtmkniipdkanbbaaGreatDoorK04
import Derived.Test.YtmkniipdkanbbaaGreatDoorK08
import Derived.Test.YtmkniipdkanbbaaGreatDoorK29
import Derived.Test.YtmkniipdkanbbaaGreatDoorK32
import Derived.Test.YtmkniipdkanbbaaGreatDoorK36
set_option linter.unusedVariables false
set_option linter.unusedSimpArgs false
set_option maxRecDepth 100000
set_option maxHeartbeats 4000000
set_option cbv.maxSteps 3000000
namespace Go.Proofs.YtmkniipdkanbbaaGreatDoor.AM
/- Sketches by the reference: which are valid, read back; conditions: none. -/
theorem filA_gld {a : Arm} : a = filA a [1, 1, 1] ↔ gldA a = true := by
  obtain ⟨f, o, l, t, ⟨nc, nk, na, nt⟩, ⟨rc, rk, ra, rt⟩⟩ := a
  unfold filA gldA i2 i1
  simp only [Bool.and_eq_true, Bool.or_eq_true, decide_eq_true_eq]
  by_cases ho : o = 0 <;> cases hn : noG ⟨nc, nk, na, nt⟩ <;> cases hr : noG ⟨rc, rk, ra, rt⟩
  all_goals simp [ho]
theorem goodC (a : Arm) (n : Nat) : (bif bif !okA a then true else !decide (a = filA a [1, 1, 1]) then true else ((n : Int) != ((cntP a : Nat) : Int))) = !(okA a && (gldA a && decide (n = cntP a))) := by
  have e : decide (a = filA a [1, 1, 1]) = gldA a := by rw [Bool.eq_iff_iff, decide_eq_true_eq]; exact filA_gld
  have e2 : ((n : Int) != ((cntP a : Nat) : Int)) = !decide (n = cntP a) := by
    rw [Bool.eq_iff_iff]; simp; omega
  rw [e, e2]
  cases okA a <;> cases gldA a <;> rfl
theorem goodY (b : Bool) (x n : Nat) (m : Int) (h : x < n) : (bif !b then true else bif (x : Int) == IntKind.i64.wrap ((n : Int) - 1) then m == 5 else false) = !(b && !decide (x + 1 = n ∧ m = 5)) ∨ 100000 < n := by
  by_cases hn : 100000 < n
  · exact .inr hn
  · left
    rw [wi (by omega) (by omega), Bool.eq_iff_iff]
    cases b
    · simp
    · simp only [Bool.not_true, cond_false, Bool.true_and, Bool.not_not, decide_eq_true_eq]
      by_cases q : x + 1 = n
      · rw [show ((x : Int) == (n : Int) - 1) = true by rw [beq_iff_eq]; omega, cond_true, beq_iff_eq]
        exact ⟨fun h => ⟨q, h⟩, fun h => h.2⟩
      · rw [show ((x : Int) == (n : Int) - 1) = false by rw [beq_eq_false_iff_ne]; omega, cond_false]
        simp [q]
theorem goodN {k : Skt} (h : OkK k) {i : Nat} (hi : i < k.slots.length) : (okY (k.slots.getD i default) && !decide (i + 1 = k.slots.length ∧ (k.slots.getD i default).m = 5)) = true := by
  rw [h.y i (by rw [← h.len]; exact hi), Bool.true_and, Bool.not_eq_true', decide_eq_false_iff_not]
  rintro ⟨e, h5⟩
  refine h.nx ?_
  rw [show k.slots.length - 1 = i by omega]; exact h5
theorem c_goodS7 (k : Skt) (h0 : k.slots.length ≤ 1000) : ConN Tryz.prog 36 [aT rowK stdH fun _ => k] [] 0 (.lit (.bool (stdH Bool fun _ => okK k))) [] [] := by
  have hB : Base Tryz.prog (tabΓ [e_l5Good, e_bareS7, e_countS7, e_slotOkS]) tab := base_of tabOk (ents_cons eok_l5Good <| ents_cons eok_bareS7 <| ents_cons eok_countS7 <| ents_cons eok_slotOkS <| ents_nil)
  refine con_m (N := 56) hB (draw_ok hB mixed) Tryz.func36 rfl rfl (fun H => [aT rowK H fun _ => k]) (fun _ => []) 0 (fun H => .lit (.bool (H Bool fun _ => okK k))) (fun H => []) (fun _ => []) 300 (by simp) (fun x hx => ?_) (by simp [lk]) (by omega) (by simp) ?_
  · simp only [zqu] at hx
    rcases hx with rfl
    · exact aT_bl okRK _ _
  intro X hX hX0 H hH
  conv in Fin.chk _ _ => cbv
  try simp only [zqs, Plain_rowsC, Plain_rowsY, zqx, AllP, zqw, upd, if_true]
  refine ⟨?_, ?_, fun h => ?_, fun h => ?_⟩
  · try simp only [hH, stdH, zqz, ne_eq, zqy]
    intro h
    simpa only [Arm.eta2, Fld.eta, Grp.eta, Bool.not_eq_false'] using h
  · try simp only [hH, stdH, zqz, ne_eq, zqy]
    intro h
    try simp only [Arm.eta2, Fld.eta, Grp.eta] at h ⊢
    cases q : okA k.arms
    · rw [q] at h; cases h
    · rfl
  · simp only [hH, stdH, Int.toNat_natCast] at h
    simp only [Arm.eta2, Fld.eta, Grp.eta, eqAE] at h
    rw [goodC, Bool.not_eq_true'] at h
    try simp only [hH, stdH, zqz, ne_eq, zqy]
    unfold okK
    rw [← Bool.and_assoc, ← Bool.and_assoc, Bool.and_assoc (okA k.arms), h]; rfl
  · simp only [hH, stdH, Int.toNat_natCast] at h
    simp only [Arm.eta2, Fld.eta, Grp.eta, eqAE] at h
    rw [goodC, Bool.not_eq_false'] at h
    simp only [Bool.and_eq_true, decide_eq_true_eq] at h
    obtain ⟨ha, hg, hl⟩ := h
    refine loop_a hB (draw_ok hB mixed) hX hX0 hH false (ι := { i : Nat // i ≤ k.slots.length ∧ ∀ j, j < i → okY (k.slots.getD j default) = true ∧ ¬ (j + 1 = k.slots.length ∧ (k.slots.getD j default).m = 5) }) 300 (fun i => [.b (H Bool fun _ => false), .i (H Int fun _ => (i.1 : Nat))]) (fun i => k.slots.length - i.1) (⟨0, by omega, fun j hj => absurd hj (Nat.not_lt_zero j)⟩) ?_ ?_
    · (conv in matchSt _ _ _ _ => cbv); simp only [AllG, AllP, and_true, hH, stdH, zql, ncast, zqe, zqy]
      (repeat' (with_reducible refine And.intro ?_ ?_)) <;> (first | exact True.intro | rfl | exact RowsEq.self okRY)
    · intro I hI i
      conv in Fin.chk _ _ => cbv
      try simp only [zqs, Plain_rowsC, Plain_rowsY, zqx, AllP, zqw, upd, if_true]
      obtain ⟨i, hi, hj⟩ := i
      refine ⟨fun h1 => ?_, fun h1 => ?_⟩
      · simp only [hH, stdH, zqz, ne_eq, zqy] at h1
        have h1 : i < k.slots.length := by omega
        have gy := (goodY (okY (k.slots.getD i default)) i k.slots.length (k.slots.getD i default).m h1).resolve_right (by omega)
        refine ⟨?_, ?_, fun h2 => ?_, fun h2 => ?_⟩
        · try simp only [hH, stdH, zqz, ne_eq, zqy]
          omega
        · try simp only [hH, stdH, zqz, ne_eq, zqy]
          intro _
          omega
        · simp only [hH, stdH, Int.toNat_natCast] at h2
          simp only [Slo.eta, Int.toNat_natCast] at h2
          rw [gy, Bool.not_eq_true'] at h2
          try simp only [hH, stdH, zqz, ne_eq, zqy]
          cases q : okK k with
          | false => rfl
          | true => rw [goodN (okK_iff.1 q) h1] at h2; cases h2
        · simp only [hH, stdH, Int.toNat_natCast] at h2
          simp only [Slo.eta, Int.toNat_natCast] at h2
          rw [gy, Bool.not_eq_false', Bool.and_eq_true, Bool.not_eq_true', decide_eq_false_iff_not] at h2
          refine ⟨⟨i + 1, by omega, fun j hj' => ?_⟩, by simp only; omega, ?_⟩
          · rcases Nat.lt_succ_iff_lt_or_eq.1 hj' with h | rfl
            · exact hj j h
            · exact h2
          · rw [hI]
            (conv in matchSt _ _ _ _ => cbv); simp only [AllG, AllP, and_true, hH, stdH, zql, ncast, zqe, zqy]
            rw [w1 (by omega)]
            (repeat' (with_reducible refine And.intro ?_ ?_)) <;> (first | exact True.intro | rfl | exact RowsEq.self okRY)
      · simp only [hH, stdH, zqz, ne_eq, zqy] at h1
        obtain rfl : i = k.slots.length := by omega
        have q : okK k = true := okK_iff.2 ⟨ha, hg, hl, fun j hj' => (hj j (by omega)).1, fun h5 => by
          by_cases h0 : k.slots.length = 0
          · rw [List.eq_nil_of_length_eq_zero h0] at h5
            exact absurd h5 (by decide)
          · exact (hj (k.slots.length - 1) (by omega)).2 ⟨by omega, h5⟩⟩
        try simp only [hH, stdH, zqz, ne_eq, zqy]
        exact q
noncomputable def e_goodS7 : Entry := pureE 36 fun H a => match a with
  | [.agg [.lit (.int .i64 k0), .lit (.int .i64 k1), .lit (.int .i64 k2), .lit (.int .i64 k3), .lit (.int .i64 k4), .lit (.int .i64 k5), .lit (.int .i64 k6), .lit (.int .i64 k7), .lit (.int .i64 k8), .lit (.int .i64 k9), .lit (.int .i64 k10), .lit (.int .i64 k11), .lit (.int .i64 k12), .lit (.int .i64 k13), .lit (.int .i64 k14), .vec 2 k15n k15f]] => some (.lit (.bool (H Bool fun _ => okK (⟨⟨⟨k0, k1, k2, k3⟩, k4, k5, k6, ⟨k7, k8, k9, k10⟩, ⟨k11, k12, k13, k14⟩⟩, (Tl rowY k15n k15f)⟩ : Skt))), [H Prop fun _ => Shp rowY k15n k15f, H Prop fun _ => (⟨⟨⟨k0, k1, k2, k3⟩, k4, k5, k6, ⟨k7, k8, k9, k10⟩, ⟨k11, k12, k13, k14⟩⟩, (Tl rowY k15n k15f)⟩ : Skt).slots.length ≤ 1000])
  | _ => none
theorem eok_goodS7 : EntryOk Tryz.prog e_goodS7 := pureM_ok (by unfold isBody; kernel_rfl) (by
  intro a r ob e hob
  split at e
  · rename_i k0 k1 k2 k3 k4 k5 k6 k7 k8 k9 k10 k11 k12 k13 k14 k15n k15f
    simp only [zqt] at e
    obtain ⟨rfl, rfl⟩ := e
    exact ConN.args (.cons (.agg (.cons .rfl (.cons .rfl (.cons .rfl (.cons .rfl (.cons .rfl (.cons .rfl (.cons .rfl (.cons .rfl (.cons .rfl (.cons .rfl (.cons .rfl (.cons .rfl (.cons .rfl (.cons .rfl (.cons .rfl (.cons (.toT okRY rfl hob.1) .nil))))))))))))))))) .nil) (c_goodS7 (⟨⟨⟨k0, k1, k2, k3⟩, k4, k5, k6, ⟨k7, k8, k9, k10⟩, ⟨k11, k12, k13, k14⟩⟩, (Tl rowY k15n k15f)⟩ : Skt) hob.2.1)
  · simp at e)

end Go.Proofs.YtmkniipdkanbbaaGreatDoor.AM

set_option maxRecDepth 100000
set_option maxHeartbeats 4000000
set_option cbv.maxSteps 3000000
namespace Go.Proofs.YtmkniipdkanbbaaGreatDoor.AM
/- Sketches parsed by the reference; conditions: none. -/
def zK : Skt := ⟨zA, []⟩
def earlyK (s : ByteArray) : Prop := s.size ≤ 240 ∧ (pF (cutB s comB).1).isSome = true ∧ (cutB s comB).2.2 = true ∧ (uB (cutK (cutB s comB).2.1).1).isSome = true
open Classical in
noncomputable def r7 (s : ByteArray) : Skt := if earlyK s then ⟨⟨(pF (cutB s comB).1).getD zF, 0, 0, 0, zG, (uB (cutK (cutB s comB).2.1).1).getD zG⟩, [(cutK (cutB s comB).2.1).2]⟩ else (pK s).getD zK
theorem r7_late {s : ByteArray} (h : ¬ earlyK s) : r7 s = (pK s).getD zK := by unfold r7; rw [if_neg h]
theorem r7_early {s : ByteArray} {f : Fld} {g : Grp} (hs : s.size ≤ 240) (hf : pF (cutB s comB).1 = some f) (hm : (cutB s comB).2.2 = true) (hg : uB (cutK (cutB s comB).2.1).1 = some g) : r7 s = ⟨⟨f, 0, 0, 0, zG, g⟩, [(cutK (cutB s comB).2.1).2]⟩ := by
  have : earlyK s := ⟨hs, by rw [hf]; rfl, hm, by rw [hg]; rfl⟩
  unfold r7
  rw [if_pos this, hf, hg]; rfl
theorem TY1 (x : Slo) : Tl rowY 1 (app 0 (rowsOf 2 []) (rowsOf 2 [AV.lit (.int .i64 x.m), AV.lit (.int .i64 x.n)])) = [x] := rfl
theorem SY1 (x : Slo) : Shp rowY 1 (app 0 (rowsOf 2 []) (rowsOf 2 [AV.lit (.int .i64 x.m), AV.lit (.int .i64 x.n)])) := ⟨fun j hj => by
  obtain rfl : j = 0 := by omega
  rfl⟩
theorem LY1 (x : Slo) : (∀ j, j < 1 → ((app 0 (rowsOf 2 []) (rowsOf 2 [AV.lit (.int .i64 x.m), AV.lit (.int .i64 x.n)])) j).length = 2) = True := eq_true fun j hj => by
  obtain rfl : j = 0 := by omega
  rfl
theorem QY1 (x : Slo) : RowsEq 2 [x].length (rowsY stdH fun _ => [x]) 1 (app 0 (rowsOf 2 []) (rowsOf 2 [AV.lit (.int .i64 x.m), AV.lit (.int .i64 x.n)])) := RowsEq.ofT okRY rfl (SY1 x) rfl
theorem TY2 (x y : Slo) : Tl rowY (1 + 1) (app 1 (app 0 (rowsOf 2 []) (rowsOf 2 [AV.lit (.int .i64 x.m), AV.lit (.int .i64 x.n)])) (rowsOf 2 [AV.lit (.int .i64 y.m), AV.lit (.int .i64 y.n)])) = [x, y] := rfl
theorem SY2 (x y : Slo) : Shp rowY (1 + 1) (app 1 (app 0 (rowsOf 2 []) (rowsOf 2 [AV.lit (.int .i64 x.m), AV.lit (.int .i64 x.n)])) (rowsOf 2 [AV.lit (.int .i64 y.m), AV.lit (.int .i64 y.n)])) := ⟨fun j hj => by
  rcases (by omega : j = 0 ∨ j = 1) with rfl | rfl <;> rfl⟩
theorem LY2 (x y : Slo) : (∀ j, j < (1 + 1) → ((app 1 (app 0 (rowsOf 2 []) (rowsOf 2 [AV.lit (.int .i64 x.m), AV.lit (.int .i64 x.n)])) (rowsOf 2 [AV.lit (.int .i64 y.m), AV.lit (.int .i64 y.n)])) j).length = 2) = True := eq_true fun j hj => by
  rcases (by omega : j = 0 ∨ j = 1) with rfl | rfl <;> rfl
theorem QY2 (x y : Slo) : RowsEq 2 [x, y].length (rowsY stdH fun _ => [x, y]) (1 + 1) (app 1 (app 0 (rowsOf 2 []) (rowsOf 2 [AV.lit (.int .i64 x.m), AV.lit (.int .i64 x.n)])) (rowsOf 2 [AV.lit (.int .i64 y.m), AV.lit (.int .i64 y.n)])) := RowsEq.ofT okRY rfl (SY2 x y) rfl
theorem TY3 (x y z : Slo) : Tl rowY (1 + 1 + 1) (app (1 + 1) (app 1 (app 0 (rowsOf 2 []) (rowsOf 2 [AV.lit (.int .i64 x.m), AV.lit (.int .i64 x.n)])) (rowsOf 2 [AV.lit (.int .i64 y.m), AV.lit (.int .i64 y.n)])) (rowsOf 2 [AV.lit (.int .i64 z.m), AV.lit (.int .i64 z.n)])) = [x, y, z] := rfl
theorem SY3 (x y z : Slo) : Shp rowY (1 + 1 + 1) (app (1 + 1) (app 1 (app 0 (rowsOf 2 []) (rowsOf 2 [AV.lit (.int .i64 x.m), AV.lit (.int .i64 x.n)])) (rowsOf 2 [AV.lit (.int .i64 y.m), AV.lit (.int .i64 y.n)])) (rowsOf 2 [AV.lit (.int .i64 z.m), AV.lit (.int .i64 z.n)])) := ⟨fun j hj => by
  rcases (by omega : j = 0 ∨ j = 1 ∨ j = 2) with rfl | rfl | rfl <;> rfl⟩
theorem LY3 (x y z : Slo) : (∀ j, j < (1 + 1 + 1) → ((app (1 + 1) (app 1 (app 0 (rowsOf 2 []) (rowsOf 2 [AV.lit (.int .i64 x.m), AV.lit (.int .i64 x.n)])) (rowsOf 2 [AV.lit (.int .i64 y.m), AV.lit (.int .i64 y.n)])) (rowsOf 2 [AV.lit (.int .i64 z.m), AV.lit (.int .i64 z.n)])) j).length = 2) = True := eq_true fun j hj => by
  rcases (by omega : j = 0 ∨ j = 1 ∨ j = 2) with rfl | rfl | rfl <;> rfl
theorem QY3 (x y z : Slo) : RowsEq 2 [x, y, z].length (rowsY stdH fun _ => [x, y, z]) (1 + 1 + 1) (app (1 + 1) (app 1 (app 0 (rowsOf 2 []) (rowsOf 2 [AV.lit (.int .i64 x.m), AV.lit (.int .i64 x.n)])) (rowsOf 2 [AV.lit (.int .i64 y.m), AV.lit (.int .i64 y.n)])) (rowsOf 2 [AV.lit (.int .i64 z.m), AV.lit (.int .i64 z.n)])) := RowsEq.ofT okRY rfl (SY3 x y z) rfl
theorem condK {c : Skt} {s : ByteArray} : (bif !okK c then true else !((kT c).toList == s.toList)) = !decide (okK c = true ∧ kT c = s) := by
  rw [beqT]
  cases h : okK c <;> simp
theorem QY0 : RowsEq 2 ([] : List Slo).length (rowsY stdH fun _ => ([] : List Slo)) 0 (rowsOf 2 []) := RowsEq.ofT okRY rfl (Shp_zero _) rfl
theorem c_parse7 (s : ByteArray) (h0 : s.size ≤ 1100000) : ConN Tryz.prog 25 [.lit (.string s)] [] 0 (.tup [aT rowK stdH fun _ => r7 s, .lit (.bool (stdH Bool fun _ => (pK s).isSome))]) [] [] := by
  have hB : Base Tryz.prog (tabΓ [e_l6Cut, e_l3Parse, e_groupS, e_splitS, e_l6Unord, e_goodS7, e_textS7]) tabO := base_of tabOkO (ents_cons eok_l6Cut <| ents_cons eok_l3Parse <| ents_cons eok_groupS <| ents_cons eok_splitS <| ents_cons eok_l6Unord <| ents_cons eok_goodS7 <| ents_cons eok_textS7 <| ents_nil)
  refine con_m (N := 176) hB (draw_ok hB mixed) Tryz.func25 rfl rfl (fun H => [.lit (.string s)]) (fun _ => []) 0 (fun H => .tup [aT rowK H fun _ => r7 s, .lit (.bool (H Bool fun _ => (pK s).isSome))]) (fun H => []) (fun _ => []) 400 (by simp) (fun x hx => ?_) (by simp [lk]) (by omega) (by simp) ?_
  · simp only [zqu] at hx
    rcases hx with rfl
    · exact .lit
  intro X hX hX0 H hH
  conv in Fin.chk _ _ => cbv
  try simp only [zqs, Plain_rowsC, Plain_rowsY, zqx, AllP, zqw, upd, if_true]
  subst hH
  have ec : (⟨⟨[44, 32]⟩⟩ : ByteArray) = comB := rfl
  have ea : (⟨⟨[32, 97, 98, 111, 118, 101, 32]⟩⟩ : ByteArray) = abvB := rfl
  have eb : (⟨⟨[32, 98, 101, 116, 119, 101, 101, 110, 32]⟩⟩ : ByteArray) = btwB := rfl
  have eg : (⟨⟨[32, 99, 104, 97, 114, 103, 101, 100, 32, 119, 105, 116, 104, 32]⟩⟩ : ByteArray) = chgB := rfl
  have ez : (⟨0, 0, 0, 0⟩ : Grp) = zG := rfl
  simp only [stdH, Arm.eta2, Fld.eta, Grp.eta, Slo.eta, ec, ea, eb, eg, ez, TY1, TY2, TY3, LY1, LY2, LY3]
  have s1 := cutB_sz s comB
  refine ⟨fun h => ?_, fun h => ⟨⟨by omega, by decide⟩, by have := of_decide_eq_false h; omega, fun h2 => ?_, fun h2 => ?_⟩⟩
  · have h := of_decide_eq_true h
    have hn := pK_long (s := s) (by omega)
    have hl : ¬ earlyK s := fun q => by have := q.1; omega
    rw [r7_late hl, hn]
    (repeat' (first | rfl | refine And.intro ?_ ?_))
  · have hn := pK_badF (s := s) (by simpa using h2)
    have hl : ¬ earlyK s := fun q => by have := q.2.1; rw [this] at h2; cases h2
    rw [r7_late hl, hn]
    (repeat' (first | rfl | refine And.intro ?_ ?_))
  have h := of_decide_eq_false h
  cases hf : pF (cutB s comB).1 with
  | none => rw [hf] at h2; cases h2
  | some f =>
    simp only [Option.getD_some]
    refine ⟨fun h3 => ?_, fun h3 => ⟨by omega, fun h4 => ?_, fun h4 => ?_⟩⟩
    · have h3 : (cutB s comB).2.2 = false := by simpa using h3
      have hn := pK_alone hf h3
      rw [r7_late (fun q => by have := q.2.2.1; rw [h3] at this; cases this), hn]
      (repeat' (first | rfl | exact QY0 | exact Nat.le_refl _ | refine And.intro ?_ ?_))
    · have h3 : (cutB s comB).2.2 = true := by simpa using h3
      cases hg : uB (cutK (cutB s comB).2.1).1 with
      | none => rw [hg] at h4; cases h4
      | some g =>
        rw [r7_early (by omega) hf h3 hg, pK_early hf h3 hg]
        simp only [Option.getD_some]
        (repeat' (first | with_reducible exact True.intro | rfl | omega | exact SY1 _ | exact QY1 _ | exact Nat.le_refl _ | (show 1 ≤ 1000; omega) | (show (if okK _ = true then some _ else none).isSome = okK _; split; rename_i q; exact q.symm; rename_i q; exact (Bool.not_eq_true _ ▸ q).symm) | refine And.intro ?_ ?_ | trivial))
    · have h3 : (cutB s comB).2.2 = true := by simpa using h3
      have hl : ¬ earlyK s := fun q => by have := q.2.2.2; rw [h4] at this; cases this
      refine ⟨⟨by omega, by decide⟩, fun h5 => ?_, fun h5 => ?_⟩
      · have h5 : (cutB (cutB s comB).2.1 btwB).2.2 = false := by simpa using h5
        have hX : btA (cutB s comB).2.1 = cutB (cutB s comB).2.1 abvB := by unfold btA; rw [h5]; rfl
        clear h5
        have h5 : True := trivial
        have q1 := cutB_sz (cutB s comB).2.1 abvB
        have q2 := cutB_sz (cutB (cutB s comB).2.1 abvB).1 chgB
        have hpA := pK_rest hf h3 h4 hX rfl
        rw [r7_late hl, hpA]
        generalize cutB (cutB (cutB s comB).2.1 abvB).1 chgB = Y at *
        generalize cutB (cutB s comB).2.1 abvB = X at *
        obtain ⟨X1, X2, X3⟩ := X
        obtain ⟨Y1, Y2, Y3⟩ := Y
        simp only at h5 q1 q2 ⊢
        clear hpA hX
        generalize cutK Y1 = C0
        generalize cutK Y2 = C1
        generalize cutK X2 = C2
        obtain ⟨c0, y0⟩ := C0
        obtain ⟨c1, y1⟩ := C1
        obtain ⟨c2, y2⟩ := C2
        simp only
        cases uO c0 with
        | none =>
          (repeat' (first | rfl | omega | decide | (intro hh; cases hh; done) | refine And.intro ?_ ?_ | intro _))
        | some o =>
          cases uB c1 <;> cases uB c2 <;> cases Y3 <;> cases X3
          all_goals simp only [put7, skK, condK, Option.isSome_some, Option.isSome_none, Option.getD_some, Option.getD_none, if_true, Bool.false_eq_true, if_false, cond_true, cond_false, Bool.not_true, Bool.not_false, List.nil_append, List.append_nil, List.cons_append] at h5 ⊢
          all_goals (repeat' (first | with_reducible exact True.intro | rfl | omega | decide | exact SY1 _ | exact SY2 _ _ | exact SY3 _ _ _ | refine And.intro ?_ ?_ | (intro hh; first | (cases hh; done) | skip) | trivial))
          all_goals first
            | (simp; done)
            | (simpa using hh)
            | (rw [Bool.not_eq_true', decide_eq_false_iff_not] at hh; rw [if_neg hh]; rfl)
            | (rw [Bool.not_eq_false', decide_eq_true_eq] at hh; rw [if_pos hh]; first | rfl | exact QY1 _ | exact QY2 _ _ | exact QY3 _ _ _)
            | skip
      · have h5 : (cutB (cutB s comB).2.1 btwB).2.2 = true := by simpa using h5
        have hX : btA (cutB s comB).2.1 = cutB (cutB s comB).2.1 btwB := by unfold btA; rw [h5]; rfl
        have q1 := cutB_sz (cutB s comB).2.1 btwB
        have q2 := cutB_sz (cutB (cutB s comB).2.1 btwB).1 chgB
        have hpA := pK_rest hf h3 h4 hX rfl
        rw [r7_late hl, hpA]
        generalize cutB (cutB (cutB s comB).2.1 btwB).1 chgB = Y at *
        generalize cutB (cutB s comB).2.1 btwB = X at *
        obtain ⟨X1, X2, X3⟩ := X
        obtain ⟨Y1, Y2, Y3⟩ := Y
        simp only at h5 q1 q2 ⊢
        clear hpA hX
        generalize cutK Y1 = C0
        generalize cutK Y2 = C1
        generalize cutK X2 = C2
        obtain ⟨c0, y0⟩ := C0
        obtain ⟨c1, y1⟩ := C1
        obtain ⟨c2, y2⟩ := C2
        simp only
        cases uO c0 with
        | none =>
          (repeat' (first | rfl | omega | decide | (intro hh; cases hh; done) | refine And.intro ?_ ?_ | intro _))
        | some o =>
          cases uB c1 <;> cases uB c2 <;> cases Y3 <;> cases X3
          all_goals simp only [put7, skK, condK, Option.isSome_some, Option.isSome_none, Option.getD_some, Option.getD_none, if_true, Bool.false_eq_true, if_false, cond_true, cond_false, Bool.not_true, Bool.not_false, List.nil_append, List.append_nil, List.cons_append] at h5 ⊢
          all_goals (repeat' (first | with_reducible exact True.intro | rfl | omega | decide | exact SY1 _ | exact SY2 _ _ | exact SY3 _ _ _ | refine And.intro ?_ ?_ | (intro hh; first | (cases hh; done) | skip) | trivial))
          all_goals first
            | (simp; done)
            | (simpa using hh)
            | (rw [Bool.not_eq_true', decide_eq_false_iff_not] at hh; rw [if_neg hh]; rfl)
            | (rw [Bool.not_eq_false', decide_eq_true_eq] at hh; rw [if_pos hh]; first | rfl | exact QY1 _ | exact QY2 _ _ | exact QY3 _ _ _)
            | skip
noncomputable def e_parse7 : Entry := pureE 25 fun H a => match a with
  | [.lit (.string s)] => some (.tup [aT rowK H fun _ => r7 s, .lit (.bool (H Bool fun _ => (pK s).isSome))], [H Prop fun _ => s.size ≤ 1100000])
  | _ => none
theorem eok_parse7 : EntryOk Tryz.prog e_parse7 := pureM_ok (by unfold isBody; kernel_rfl) (by
  intro a r ob e hob
  split at e
  · rename_i s
    simp only [zqt] at e
    obtain ⟨rfl, rfl⟩ := e
    exact ConN.args (.cons .rfl .nil) (c_parse7 s hob.1)
  · simp at e)

end Go.Proofs.YtmkniipdkanbbaaGreatDoor.AM

set_option maxRecDepth 100000
set_option maxHeartbeats 4000000
set_option cbv.maxSteps 3000000
namespace Go.Proofs.YtmkniipdkanbbaaGreatDoor.AM
/- Sketches read by the program; conditions: none. -/
def nilK (ks : List Nat) : List AV → List AV
  | .agg l :: r => .agg (nilA ks l) :: r
  | l => l
theorem nilK_eq (ks : List Nat) (l : List AV) : AEqL l (nilK ks l) := by
  unfold nilK
  split
  · exact .cons (AEq.agg (nilA_eq ks _)) (AEqL.rfl _)
  · exact AEqL.rfl _
def nilKE (ks : List Nat) (e : Entry) : Entry := ⟨e.f, fun H a h n => e.fn H (nilK ks a) h n⟩
theorem nilKE_ok {P : Program} {ks : List Nat} {e : Entry} (h : EntryOk P e) : EntryOk P (nilKE ks e) := ⟨h.body, fun a hp n r nb rd u ob he hob => by
  obtain ⟨h1, h0, h2, h3⟩ := h.con _ _ _ _ _ _ _ _ he hob
  exact ⟨h1, h0, h2, h3.args (nilK_eq ks a)⟩⟩
noncomputable def e_SketchTextN : Entry := nilKE [0, 0, 0, 0, 0, 0, 0, 0, 0, 0, 0, 0, 0, 0, 0, 2] e_SketchText
theorem eok_SketchTextN : EntryOk Tryz.prog e_SketchTextN := nilKE_ok eok_SketchText
theorem cutB_add (s p : ByteArray) : (cutB s p).1.size + (cutB s p).2.1.size ≤ s.size := by
  unfold cutB Lib.cut
  split
  · show (List.take _ _).length + (List.drop _ _).length ≤ s.data.toList.length
    rw [List.length_take, List.length_drop]; omega
  · exact Nat.le_refl _
theorem tkn_add (s : ByteArray) : (tkn s).f.size + (tkn s).o.size + (tkn s).n.size + (tkn s).r.size ≤ s.size := by
  have s1 := cutB_add s comB
  have s2 := cutB_add (cutB s comB).2.1 abvB
  have s3 := cutB_add (cutB s comB).2.1 btwB
  have s4 := cutB_add (cutB (cutB s comB).2.1 abvB).1 chgB
  have s5 := cutB_add (cutB (cutB s comB).2.1 btwB).1 chgB
  have e0 : ByteArray.empty.size = 0 := rfl
  cases h : (bif decide (((wordsB (cutB s comB).2.1).length : Int) < 2) then true else !isIn ((wordsB (cutB s comB).2.1).getD 1 ByteArray.empty) ordL)
  · cases h2 : (cutB (cutB s comB).2.1 abvB).2.2
    · rw [tkn_n1 h h2]
      show (cutB s comB).1.size + (cutB (cutB (cutB s comB).2.1 btwB).1 chgB).1.size + (cutB (cutB (cutB s comB).2.1 btwB).1 chgB).2.1.size + (cutB (cutB s comB).2.1 btwB).2.1.size ≤ _
      omega
    · rw [tkn_n2 h h2]
      show (cutB s comB).1.size + (cutB (cutB (cutB s comB).2.1 abvB).1 chgB).1.size + (cutB (cutB (cutB s comB).2.1 abvB).1 chgB).2.1.size + (cutB (cutB s comB).2.1 abvB).2.1.size ≤ _
      omega
  · rw [tkn_y h]
    show (cutB s comB).1.size + ByteArray.empty.size + ByteArray.empty.size + (cutB s comB).2.1.size ≤ _
    omega
theorem cutL_sz (l : List Slo) (p : ByteArray) : (cutL l p).1.size ≤ p.size := by
  unfold cutL
  split
  · exact befS_sz _ _
  · exact Nat.le_refl _
theorem cutK_sz (p : ByteArray) : (cutK p).1.size ≤ p.size := cutL_sz allY p
theorem c_joinedL (p : Pcs) (h0 : p.f.size + p.o.size + p.n.size + p.r.size ≤ 2000000) : ConN Tryz.prog 29 [.agg [.lit (.string (stdH ByteArray fun _ => p.f)), .lit (.string (stdH ByteArray fun _ => p.o)), .lit (.string (stdH ByteArray fun _ => p.n)), .lit (.string (stdH ByteArray fun _ => p.r)), .lit (.bool (stdH Bool fun _ => p.c))]] [] 0 (.lit (.string (stdH ByteArray fun _ => jnT p))) [] [] := by
  have hB : Base Tryz.prog (tabΓ []) tab := base_of tabOk (ents_nil)
  refine con_m (N := 56) hB (draw_ok hB mixed) Tryz.func29 rfl rfl (fun H => [.agg [.lit (.string (H ByteArray fun _ => p.f)), .lit (.string (H ByteArray fun _ => p.o)), .lit (.string (H ByteArray fun _ => p.n)), .lit (.string (H ByteArray fun _ => p.r)), .lit (.bool (H Bool fun _ => p.c))]]) (fun _ => []) 0 (fun H => .lit (.string (H ByteArray fun _ => jnT p))) (fun H => []) (fun _ => []) 160 (by simp) (fun x hx => ?_) (by simp [lk]) (by omega) (by simp) ?_
  · simp only [zqu] at hx
    rcases hx with rfl
    · exact blq_ok 4 rfl
  intro X hX hX0 H hH
  conv in Fin.chk _ _ => cbv
  try simp only [zqs, Plain_rowsC, Plain_rowsY, zqx, AllP, zqw, upd, if_true]
  subst hH
  simp only [stdH]
  have z1 := h0
  obtain ⟨pf, po, pn, pr, pc⟩ := p
  simp only at z1 ⊢
  unfold jnT
  simp only
  have eo : (po.toList == (⟨⟨[]⟩⟩ : ByteArray).toList) = emp po := rfl
  have en : (pn.toList == (⟨⟨[]⟩⟩ : ByteArray).toList) = emp pn := rfl
  have er : (pr.toList == (⟨⟨[]⟩⟩ : ByteArray).toList) = emp pr := rfl
  simp only [eo, en, er]
  generalize emp po = b1
  generalize emp pn = b2
  generalize emp pr = b3
  cases b1 <;> cases b2 <;> cases b3 <;> cases pc
  all_goals simp only [cond_true, cond_false, Bool.not_true, Bool.not_false, if_true, Bool.false_eq_true, if_false, ByteArray.append_assoc, app_empty, empty_app]
  all_goals repeat' (first | exact trivial | rfl | (intro h; first | (cases h; done) | skip) | refine And.intro ?_ ?_ | (simp only [ByteArray.size_append, bsz, List.length_cons, List.length_nil]; omega))
noncomputable def e_joinedL : Entry := pureE 29 fun H a => match a with
  | [.agg [.lit (.string p0), .lit (.string p1), .lit (.string p2), .lit (.string p3), .lit (.bool p4)]] => some (.lit (.string (H ByteArray fun _ => jnT (⟨p0, p1, p2, p3, p4⟩ : Pcs))), [H Prop fun _ => (⟨p0, p1, p2, p3, p4⟩ : Pcs).f.size + (⟨p0, p1, p2, p3, p4⟩ : Pcs).o.size + (⟨p0, p1, p2, p3, p4⟩ : Pcs).n.size + (⟨p0, p1, p2, p3, p4⟩ : Pcs).r.size ≤ 2000000])
  | _ => none
theorem eok_joinedL : EntryOk Tryz.prog e_joinedL := pureM_ok (by unfold isBody; kernel_rfl) (by
  intro a r ob e hob
  split at e
  · rename_i p0 p1 p2 p3 p4
    simp only [zqt] at e
    obtain ⟨rfl, rfl⟩ := e
    exact ConN.args (.cons .rfl .nil) (c_joinedL (⟨p0, p1, p2, p3, p4⟩ : Pcs) hob.1)
  · simp at e)
theorem emp_eq {t : ByteArray} (h : emp t = true) : t = ByteArray.empty := by
  have h0 := (emp_iff t).1 h
  apply ByteArray.ext; apply Array.ext'
  exact List.eq_nil_of_length_eq_zero (by rw [Array.length_toList]; exact h0)
theorem TZ0 (f : Nat → List AV) : Tl rowY 0 f = [] := rfl
theorem TZ1 (x : Slo) : Tl rowY 1 (rowsOf 2 [AV.lit (.int .i64 x.m), AV.lit (.int .i64 x.n)]) = [x] := rfl
theorem SZ1 (x : Slo) : Shp rowY 1 (rowsOf 2 [AV.lit (.int .i64 x.m), AV.lit (.int .i64 x.n)]) := ⟨fun j hj => by
  obtain rfl : j = 0 := by omega
  rfl⟩
theorem LZ1 (x : Slo) : (∀ j, j < 1 → (rowsOf 2 [AV.lit (.int .i64 x.m), AV.lit (.int .i64 x.n)] j).length = 2) = True := eq_true fun j hj => by
  obtain rfl : j = 0 := by omega
  rfl
theorem QZ1 (x : Slo) : RowsEq 2 [x].length (rowsY stdH fun _ => [x]) 1 (rowsOf 2 [AV.lit (.int .i64 x.m), AV.lit (.int .i64 x.n)]) := RowsEq.ofT okRY rfl (SZ1 x) rfl
theorem TZ2 (x y : Slo) : Tl rowY (1 + 1) (app 1 (rowsOf 2 [AV.lit (.int .i64 x.m), AV.lit (.int .i64 x.n)]) (rowsOf 2 [AV.lit (.int .i64 y.m), AV.lit (.int .i64 y.n)])) = [x, y] := rfl
theorem SZ2 (x y : Slo) : Shp rowY (1 + 1) (app 1 (rowsOf 2 [AV.lit (.int .i64 x.m), AV.lit (.int .i64 x.n)]) (rowsOf 2 [AV.lit (.int .i64 y.m), AV.lit (.int .i64 y.n)])) := ⟨fun j hj => by
  rcases (by omega : j = 0 ∨ j = 1) with rfl | rfl <;> rfl⟩
theorem LZ2 (x y : Slo) : (∀ j, j < (1 + 1) → ((app 1 (rowsOf 2 [AV.lit (.int .i64 x.m), AV.lit (.int .i64 x.n)]) (rowsOf 2 [AV.lit (.int .i64 y.m), AV.lit (.int .i64 y.n)])) j).length = 2) = True := eq_true fun j hj => by
  rcases (by omega : j = 0 ∨ j = 1) with rfl | rfl <;> rfl
theorem QZ2 (x y : Slo) : RowsEq 2 [x, y].length (rowsY stdH fun _ => [x, y]) (1 + 1) (app 1 (rowsOf 2 [AV.lit (.int .i64 x.m), AV.lit (.int .i64 x.n)]) (rowsOf 2 [AV.lit (.int .i64 y.m), AV.lit (.int .i64 y.n)])) := RowsEq.ofT okRY rfl (SZ2 x y) rfl
theorem TZ3 (x y z : Slo) : Tl rowY (1 + 1 + 1) (app (1 + 1) (app 1 (rowsOf 2 [AV.lit (.int .i64 x.m), AV.lit (.int .i64 x.n)]) (rowsOf 2 [AV.lit (.int .i64 y.m), AV.lit (.int .i64 y.n)])) (rowsOf 2 [AV.lit (.int .i64 z.m), AV.lit (.int .i64 z.n)])) = [x, y, z] := rfl
theorem SZ3 (x y z : Slo) : Shp rowY (1 + 1 + 1) (app (1 + 1) (app 1 (rowsOf 2 [AV.lit (.int .i64 x.m), AV.lit (.int .i64 x.n)]) (rowsOf 2 [AV.lit (.int .i64 y.m), AV.lit (.int .i64 y.n)])) (rowsOf 2 [AV.lit (.int .i64 z.m), AV.lit (.int .i64 z.n)])) := ⟨fun j hj => by
  rcases (by omega : j = 0 ∨ j = 1 ∨ j = 2) with rfl | rfl | rfl <;> rfl⟩
theorem LZ3 (x y z : Slo) : (∀ j, j < (1 + 1 + 1) → ((app (1 + 1) (app 1 (rowsOf 2 [AV.lit (.int .i64 x.m), AV.lit (.int .i64 x.n)]) (rowsOf 2 [AV.lit (.int .i64 y.m), AV.lit (.int .i64 y.n)])) (rowsOf 2 [AV.lit (.int .i64 z.m), AV.lit (.int .i64 z.n)])) j).length = 2) = True := eq_true fun j hj => by
  rcases (by omega : j = 0 ∨ j = 1 ∨ j = 2) with rfl | rfl | rfl <;> rfl
theorem QZ3 (x y z : Slo) : RowsEq 2 [x, y, z].length (rowsY stdH fun _ => [x, y, z]) (1 + 1 + 1) (app (1 + 1) (app 1 (rowsOf 2 [AV.lit (.int .i64 x.m), AV.lit (.int .i64 x.n)]) (rowsOf 2 [AV.lit (.int .i64 y.m), AV.lit (.int .i64 y.n)])) (rowsOf 2 [AV.lit (.int .i64 z.m), AV.lit (.int .i64 z.n)])) := RowsEq.ofT okRY rfl (SZ3 x y z) rfl
theorem jnT_sz2 (p : Pcs) (h : p.f.size + p.o.size + p.n.size + p.r.size ≤ 2000000) : (jnT p).size ≤ 4000000 := by
  obtain ⟨pf, po, pn, pr, pc⟩ := p
  simp only at h
  unfold jnT
  simp only
  cases emp po <;> cases emp pn <;> cases emp pr <;> cases pc
  all_goals simp only [if_true, Bool.false_eq_true, if_false, ByteArray.size_append, bsz, List.length_cons, List.length_nil]
  all_goals (have e0 : ByteArray.empty.size = 0 := rfl)
  all_goals omega
def okKs (C : Skt) (s : ByteArray) : Bool := okK C && decide (kT C = s)
theorem condK2 {C : Skt} {s : ByteArray} : (bif !okK C then true else !((if okK C = true then kT C else ByteArray.empty).toList == s.toList)) = !okKs C s := by
  rw [beqT]
  unfold okKs
  cases h : okK C <;> simp
theorem pK_cand2 (s : ByteArray) : pK s = bif okKs (candK s) s then some (candK s) else none := by
  rw [pK_cand]
  unfold okKs
  by_cases h : okK (candK s) = true ∧ kT (candK s) = s
  · rw [if_pos h, h.1, decide_eq_true h.2]; rfl
  · rw [if_neg h]
    cases h1 : okK (candK s)
    · rfl
    · rw [decide_eq_false (fun q => h ⟨h1, q⟩)]; rfl
theorem c_parseK (s : ByteArray) (h0 : s.size ≤ 1100000) : ConN Tryz.prog 7 [.lit (.string s)] [] 0 (.tup [aT rowK stdH fun _ => (pK s).getD zK, .lit (.bool (stdH Bool fun _ => (pK s).isSome))]) [] [] := by
  have hB : Base Tryz.prog (tabΓ [e_taken, e_cutSl, e_joinedL, e_parseA, e_SketchTextN]) tabU := base_of tabOkU (ents_cons eok_taken <| ents_cons eok_cutSl <| ents_cons eok_joinedL <| ents_cons eok_parseA <| ents_cons eok_SketchTextN <| ents_nil)
  refine con_m (N := 66) hB (draw_ok hB mixed) Tryz.func7 rfl rfl (fun H => [.lit (.string s)]) (fun _ => []) 0 (fun H => .tup [aT rowK H fun _ => (pK s).getD zK, .lit (.bool (H Bool fun _ => (pK s).isSome))]) (fun H => []) (fun _ => []) 900 (by simp) (fun x hx => ?_) (by simp [lk]) (by omega) (by simp) ?_
  · simp only [zqu] at hx
    rcases hx with rfl
    · exact .lit
  intro X hX hX0 H hH
  conv in Fin.chk _ _ => cbv
  try simp only [zqs, Plain_rowsC, Plain_rowsY, zqx, AllP, zqw, upd, if_true]
  subst hH
  have em : ∀ t : ByteArray, (t.toList == (⟨⟨[]⟩⟩ : ByteArray).toList) = emp t := fun _ => rfl
  simp only [stdH, Arm.eta2, Fld.eta, Grp.eta, Slo.eta, em, condK2]
  have hP := pK_cand2 s
  have hC : candK s = ⟨(pA (jnT ⟨(tkn s).f, k1 (tkn s).o, k1 (tkn s).n, k1 (tkn s).r, (tkn s).c⟩)).getD zA, k2 (tkn s).o ++ (k2 (tkn s).n ++ k2 (tkn s).r)⟩ := rfl
  rw [hC] at hP
  have z := tkn_add s
  have zo := cutK_sz (tkn s).o
  have zn := cutK_sz (tkn s).n
  have zr := cutK_sz (tkn s).r
  have gsz : golB.size = 5 := rfl
  have jz : ∀ p : Pcs, p.f.size + p.o.size + p.n.size + p.r.size ≤ 2000000 → (jnT p).size ≤ 4000000 := jnT_sz2
  clear hC
  generalize pK s = K at *
  generalize tkn s = Q at *
  obtain ⟨qf, qo, qn, qr, qc⟩ := Q
  have e0 : ByteArray.empty.size = 0 := rfl
  simp only at hP z zo zn zr ⊢
  cases ho : emp qo <;> cases hn : emp qn <;> cases hr : emp qr
  all_goals (try obtain rfl := emp_eq ho)
  all_goals (try obtain rfl := emp_eq hn)
  all_goals (try obtain rfl := emp_eq hr)
  all_goals simp only [k1, k2, emp_y, ho, hn, hr, if_true, if_false, Bool.false_eq_true, List.nil_append, List.append_nil, List.cons_append] at hP
  all_goals simp only [Bool.not_true, Bool.not_false, TZ0, TZ1, TZ2, TZ3, LZ1, LZ2, LZ3]
  all_goals (subst hP)
  all_goals
    repeat' (first | exact trivial | rfl | exact SZ1 _ | exact SZ2 _ _ | exact SZ3 _ _ _ | exact Shp_zero _ | omega | (simp only [ByteArray.size_append, gsz]; omega) | (refine jz _ ?_; simp only [ByteArray.size_append, gsz]; omega) | (refine jz _ ?_; simp only; omega) | (simp only [List.length_cons, List.length_nil]; omega) | (intro hh; first | (cases hh; done) | skip) | refine And.intro ?_ ?_)
  all_goals first
    | (rw [Bool.not_eq_true'] at hh; rw [hh]; first | rfl | exact QY0)
    | (rw [Bool.not_eq_false'] at hh; rw [hh]; first | rfl | exact QZ1 _ | exact QZ2 _ _ | exact QZ3 _ _ _)
    | skip
noncomputable def e_parseK : Entry := pureE 7 fun H a => match a with
  | [.lit (.string s)] => some (.tup [aT rowK H fun _ => (pK s).getD zK, .lit (.bool (H Bool fun _ => (pK s).isSome))], [H Prop fun _ => s.size ≤ 1100000])
  | _ => none
theorem eok_parseK : EntryOk Tryz.prog e_parseK := pureM_ok (by unfold isBody; kernel_rfl) (by
  intro a r ob e hob
  split at e
  · rename_i s
    simp only [zqt] at e
    obtain ⟨rfl, rfl⟩ := e
    exact ConN.args (.cons .rfl .nil) (c_parseK s hob.1)
  · simp at e)

end Go.Proofs.YtmkniipdkanbbaaGreatDoor.AM

set_option maxRecDepth 100000
set_option maxHeartbeats 4000000
set_option cbv.maxSteps 3000000
namespace Go.Proofs.YtmkniipdkanbbaaGreatDoor.AM
/- Sketches read by the program, with slots of the caller's own, and by the reference; conditions: none. -/
theorem r7_some {s : ByteArray} {k : Skt} (h : pK s = some k) : r7 s = k := by
  by_cases he : earlyK s
  · obtain ⟨h1, h2, h3, h4⟩ := he
    obtain ⟨f, hf⟩ := Option.isSome_iff_exists.1 h2
    obtain ⟨g, hg⟩ := Option.isSome_iff_exists.1 h4
    rw [r7_early h1 hf h3 hg]
    rw [pK_early hf h3 hg] at h
    split at h
    · injection h
    · cases h
  · rw [r7_late he, h]; rfl
end Go.Proofs.YtmkniipdkanbbaaGreatDoor.AM

