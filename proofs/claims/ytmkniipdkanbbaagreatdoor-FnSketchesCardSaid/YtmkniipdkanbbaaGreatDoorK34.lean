/- Lemmas and contracts (Stt Skg Skh); conditions: none. -/
import Derived.Test.YtmkniipdkanbbaaGreatDoorK04
import Derived.Test.YtmkniipdkanbbaaGreatDoorK10
import Derived.Test.YtmkniipdkanbbaaGreatDoorK26
import Derived.Test.YtmkniipdkanbbaaGreatDoorK27
import Derived.Test.YtmkniipdkanbbaaGreatDoorK33
set_option linter.unusedVariables false
set_option linter.unusedSimpArgs false
set_option maxRecDepth 100000
set_option maxHeartbeats 4000000
set_option cbv.maxSteps 3000000
namespace Go.Proofs.YtmkniipdkanbbaaGreatDoor.AM
/- What slots stand for, by the reference; conditions: none. -/
theorem RowsEq.putT {α : Type} {D : RowD α} (ok : RowOk D) {L : List α} {j : Nat} {x : α} {M : List α} (e : L.set j x = M) : RowsEq D.k M.length (rowsT D stdH fun _ => M) L.length (put1 j (D.cells stdH fun _ => x) (rowsT D stdH fun _ => L)) :=
  .ofT ok rfl (Shp_put1 (Shp_rowsT ok _ _) (by rw [ok.of_cells])) (by rw [Tl_put1, Tl_rowsT ok, ok.of_cells, e])
end Go.Proofs.YtmkniipdkanbbaaGreatDoor.AM

set_option maxRecDepth 100000
set_option maxHeartbeats 4000000
set_option cbv.maxSteps 3000000
namespace Go.Proofs.YtmkniipdkanbbaaGreatDoor.AM
/- Sketches by the reference: which are valid, read back; conditions: none. -/
theorem filA_gld {a : Arm} : a = filA a [1, 1, 1] ↔ gldA a = true := by
  obtain ⟨f, o, l, t, ⟨nc, nk, na, nt⟩, ⟨rc, rk, ra, rt⟩⟩ := a
  unfold filA gldA i2 i1
  simp only [Bool.and_eq_true, Bool.or_eq_true, decide_eq_true_eq]
  by_cases ho : o = 0 <;> cases hn : noG ⟨nc, nk, na, nt⟩ <;> cases hr : noG ⟨rc, rk, ra, rt⟩
  all_goals simp [ho]
theorem goodC (a : Arm) (n : Nat) : (bif bif !okA a then true else !decide (a = filA a [1, 1, 1]) then true else ((n : Int) != ((cntP a : Nat) : Int))) = !(okA a && (gldA a && decide (n = cntP a))) := by
  have e : decide (a = filA a [1, 1, 1]) = gldA a := by rw [Bool.eq_iff_iff, decide_eq_true_eq]; exact filA_gld
  have e2 : ((n : Int) != ((cntP a : Nat) : Int)) = !decide (n = cntP a) := by
    rw [Bool.eq_iff_iff]; simp; omega
  rw [e, e2]
  cases okA a <;> cases gldA a <;> rfl
theorem goodY (b : Bool) (x n : Nat) (m : Int) (h : x < n) : (bif !b then true else bif (x : Int) == IntKind.i64.wrap ((n : Int) - 1) then m == 5 else false) = !(b && !decide (x + 1 = n ∧ m = 5)) ∨ 100000 < n := by
  by_cases hn : 100000 < n
  · exact .inr hn
  · left
    rw [wi (by omega) (by omega), Bool.eq_iff_iff]
    cases b
    · simp
    · simp only [Bool.not_true, cond_false, Bool.true_and, Bool.not_not, decide_eq_true_eq]
      by_cases q : x + 1 = n
      · rw [show ((x : Int) == (n : Int) - 1) = true by rw [beq_iff_eq]; omega, cond_true, beq_iff_eq]
        exact ⟨fun h => ⟨q, h⟩, fun h => h.2⟩
      · rw [show ((x : Int) == (n : Int) - 1) = false by rw [beq_eq_false_iff_ne]; omega, cond_false]
        simp [q]
theorem goodN {k : Skt} (h : OkK k) {i : Nat} (hi : i < k.slots.length) : (okY (k.slots.getD i default) && !decide (i + 1 = k.slots.length ∧ (k.slots.getD i default).m = 5)) = true := by
  rw [h.y i (by rw [← h.len]; exact hi), Bool.true_and, Bool.not_eq_true', decide_eq_false_iff_not]
  rintro ⟨e, h5⟩
  refine h.nx ?_
  rw [show k.slots.length - 1 = i by omega]; exact h5
theorem c_goodS7 (k : Skt) (h0 : k.slots.length ≤ 1000) : ConN Tryz.prog 36 [aT rowK stdH fun _ => k] [] 0 (.lit (.bool (stdH Bool fun _ => okK k))) [] [] := by
  have hB : Base Tryz.prog (tabΓ [e_l5Good, e_bareS7, e_countS7, e_slotOkS]) tab := base_of tabOk (ents_cons eok_l5Good <| ents_cons eok_bareS7 <| ents_cons eok_countS7 <| ents_cons eok_slotOkS <| ents_nil)
  refine con_m (N := 56) hB (draw_ok hB mixed) Tryz.func36 rfl rfl (fun H => [aT rowK H fun _ => k]) (fun _ => []) 0 (fun H => .lit (.bool (H Bool fun _ => okK k))) (fun H => []) (fun _ => []) 300 (by simp) (fun x hx => ?_) (by simp [lk]) (by omega) (by simp) ?_
  · simp only [zqu] at hx
    rcases hx with rfl
    · exact aT_bl okRK _ _
  intro X hX hX0 H hH
  conv in Fin.chk _ _ => cbv
  try simp only [zqs, Plain_rowsC, Plain_rowsY, zqx, AllP, zqw, upd, if_true]
  refine ⟨?_, ?_, fun h => ?_, fun h => ?_⟩
  · try simp only [hH, stdH, zqz, ne_eq, zqy]
    intro h
    simpa only [Arm.eta2, Fld.eta, Grp.eta, Bool.not_eq_false'] using h
  · try simp only [hH, stdH, zqz, ne_eq, zqy]
    intro h
    try simp only [Arm.eta2, Fld.eta, Grp.eta] at h ⊢
    cases q : okA k.arms
    · rw [q] at h; cases h
    · rfl
  · simp only [hH, stdH, Int.toNat_natCast] at h
    simp only [Arm.eta2, Fld.eta, Grp.eta, eqAE] at h
    rw [goodC, Bool.not_eq_true'] at h
    try simp only [hH, stdH, zqz, ne_eq, zqy]
    unfold okK
    rw [← Bool.and_assoc, ← Bool.and_assoc, Bool.and_assoc (okA k.arms), h]; rfl
  · simp only [hH, stdH, Int.toNat_natCast] at h
    simp only [Arm.eta2, Fld.eta, Grp.eta, eqAE] at h
    rw [goodC, Bool.not_eq_false'] at h
    simp only [Bool.and_eq_true, decide_eq_true_eq] at h
    obtain ⟨ha, hg, hl⟩ := h
    refine loop_a hB (draw_ok hB mixed) hX hX0 hH false (ι := { i : Nat // i ≤ k.slots.length ∧ ∀ j, j < i → okY (k.slots.getD j default) = true ∧ ¬ (j + 1 = k.slots.length ∧ (k.slots.getD j default).m = 5) }) 300 (fun i => [.b (H Bool fun _ => false), .i (H Int fun _ => (i.1 : Nat))]) (fun i => k.slots.length - i.1) (⟨0, by omega, fun j hj => absurd hj (Nat.not_lt_zero j)⟩) ?_ ?_
    · (conv in matchSt _ _ _ _ => cbv); simp only [AllG, AllP, and_true, hH, stdH, zql, ncast, zqe, zqy]
      (repeat' (with_reducible refine And.intro ?_ ?_)) <;> (first | exact True.intro | rfl | exact RowsEq.self okRY)
    · intro I hI i
      conv in Fin.chk _ _ => cbv
      try simp only [zqs, Plain_rowsC, Plain_rowsY, zqx, AllP, zqw, upd, if_true]
      obtain ⟨i, hi, hj⟩ := i
      refine ⟨fun h1 => ?_, fun h1 => ?_⟩
      · simp only [hH, stdH, zqz, ne_eq, zqy] at h1
        have h1 : i < k.slots.length := by omega
        have gy := (goodY (okY (k.slots.getD i default)) i k.slots.length (k.slots.getD i default).m h1).resolve_right (by omega)
        refine ⟨?_, ?_, fun h2 => ?_, fun h2 => ?_⟩
        · try simp only [hH, stdH, zqz, ne_eq, zqy]
          omega
        · try simp only [hH, stdH, zqz, ne_eq, zqy]
          intro _
          omega
        · simp only [hH, stdH, Int.toNat_natCast] at h2
          simp only [Slo.eta, Int.toNat_natCast] at h2
          rw [gy, Bool.not_eq_true'] at h2
          try simp only [hH, stdH, zqz, ne_eq, zqy]
          cases q : okK k with
          | false => rfl
          | true => rw [goodN (okK_iff.1 q) h1] at h2; cases h2
        · simp only [hH, stdH, Int.toNat_natCast] at h2
          simp only [Slo.eta, Int.toNat_natCast] at h2
          rw [gy, Bool.not_eq_false', Bool.and_eq_true, Bool.not_eq_true', decide_eq_false_iff_not] at h2
          refine ⟨⟨i + 1, by omega, fun j hj' => ?_⟩, by simp only; omega, ?_⟩
          · rcases Nat.lt_succ_iff_lt_or_eq.1 hj' with h | rfl
            · exact hj j h
            · exact h2
          · rw [hI]
            (conv in matchSt _ _ _ _ => cbv); simp only [AllG, AllP, and_true, hH, stdH, zql, ncast, zqe, zqy]
            rw [w1 (by omega)]
            (repeat' (with_reducible refine And.intro ?_ ?_)) <;> (first | exact True.intro | rfl | exact RowsEq.self okRY)
      · simp only [hH, stdH, zqz, ne_eq, zqy] at h1
        obtain rfl : i = k.slots.length := by omega
        have q : okK k = true := okK_iff.2 ⟨ha, hg, hl, fun j hj' => (hj j (by omega)).1, fun h5 => by
          by_cases h0 : k.slots.length = 0
          · rw [List.eq_nil_of_length_eq_zero h0] at h5
            exact absurd h5 (by decide)
          · exact (hj (k.slots.length - 1) (by omega)).2 ⟨by omega, h5⟩⟩
        try simp only [hH, stdH, zqz, ne_eq, zqy]
        exact q
noncomputable def e_goodS7 : Entry := pureE 36 fun H a => match a with
  | [.agg [.lit (.int .i64 k0), .lit (.int .i64 k1), .lit (.int .i64 k2), .lit (.int .i64 k3), .lit (.int .i64 k4), .lit (.int .i64 k5), .lit (.int .i64 k6), .lit (.int .i64 k7), .lit (.int .i64 k8), .lit (.int .i64 k9), .lit (.int .i64 k10), .lit (.int .i64 k11), .lit (.int .i64 k12), .lit (.int .i64 k13), .lit (.int .i64 k14), .vec 2 k15n k15f]] => some (.lit (.bool (H Bool fun _ => okK (⟨⟨⟨k0, k1, k2, k3⟩, k4, k5, k6, ⟨k7, k8, k9, k10⟩, ⟨k11, k12, k13, k14⟩⟩, (Tl rowY k15n k15f)⟩ : Skt))), [H Prop fun _ => Shp rowY k15n k15f, H Prop fun _ => (⟨⟨⟨k0, k1, k2, k3⟩, k4, k5, k6, ⟨k7, k8, k9, k10⟩, ⟨k11, k12, k13, k14⟩⟩, (Tl rowY k15n k15f)⟩ : Skt).slots.length ≤ 1000])
  | _ => none
theorem eok_goodS7 : EntryOk Tryz.prog e_goodS7 := pureM_ok (by unfold isBody; kernel_rfl) (by
  intro a r ob e hob
  split at e
  · rename_i k0 k1 k2 k3 k4 k5 k6 k7 k8 k9 k10 k11 k12 k13 k14 k15n k15f
    simp only [zqt] at e
    obtain ⟨rfl, rfl⟩ := e
    exact ConN.args (.cons (.agg (.cons .rfl (.cons .rfl (.cons .rfl (.cons .rfl (.cons .rfl (.cons .rfl (.cons .rfl (.cons .rfl (.cons .rfl (.cons .rfl (.cons .rfl (.cons .rfl (.cons .rfl (.cons .rfl (.cons .rfl (.cons (.toT okRY rfl hob.1) .nil))))))))))))))))) .nil) (c_goodS7 (⟨⟨⟨k0, k1, k2, k3⟩, k4, k5, k6, ⟨k7, k8, k9, k10⟩, ⟨k11, k12, k13, k14⟩⟩, (Tl rowY k15n k15f)⟩ : Skt) hob.2.1)
  · simp at e)

end Go.Proofs.YtmkniipdkanbbaaGreatDoor.AM

set_option maxRecDepth 100000
set_option maxHeartbeats 4000000
set_option cbv.maxSteps 3000000
namespace Go.Proofs.YtmkniipdkanbbaaGreatDoor.AM
/- Sketches parsed by the reference; conditions: none. -/
def zK : Skt := ⟨zA, []⟩
theorem QY0 : RowsEq 2 ([] : List Slo).length (rowsY stdH fun _ => ([] : List Slo)) 0 (rowsOf 2 []) := RowsEq.ofT okRY rfl (Shp_zero _) rfl
end Go.Proofs.YtmkniipdkanbbaaGreatDoor.AM

