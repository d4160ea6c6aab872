/- Lemmas and contracts (Rph); conditions: none. -/
import Derived.Test.YtbnohmfapmeaaaaGreatDoorK03
import Derived.Test.YtbnohmfapmeaaaaGreatDoorK45
set_option linter.unusedVariables false
set_option linter.unusedSimpArgs false
set_option maxRecDepth 100000
set_option maxHeartbeats 4000000
set_option cbv.maxSteps 3000000
namespace Go.Proofs.YtbnohmfapmeaaaaGreatDoor.AM
/- Texts of shields read by the reference: ParseShield; conditions: none. -/
theorem ref_no {t : ByteArray} {c : Shd} {b : Bool} (hD : cR t = (c, b)) (h : (bif (bif !b then true else !okH c) then true else !((shT c).toList == t.toList)) = true) : pS t = none := pS_ref_no (by
  rw [hD]
  rintro ⟨q1, q2, q3, q4⟩
  dsimp only at q2 q3 q4
  rw [q2, q3, q4] at h
  simp at h)
theorem ref_yes {t : ByteArray} {c : Shd} {b : Bool} (hs : t.size ≤ 1200) (hD : cR t = (c, b)) (h : (bif (bif !b then true else !okH c) then true else !((shT c).toList == t.toList)) = false) : pS t = some c := by
  rw [beqT] at h
  cases hb : b with
  | false => rw [hb] at h; cases h
  | true =>
    rw [hb] at h
    cases hk : okH c with
    | false => rw [hk] at h; cases h
    | true =>
      rw [hk] at h
      have h5 : shT c = t := by simpa using h
      have := pS_ref (t := t) (by rw [hD]; exact ⟨hs, hb, hk, h5⟩)
      rw [hD] at this
      exact this
theorem imp_no {t : ByteArray} (h : isPre t (⟨⟨[105, 109, 112, 97, 108, 101, 100, 58, 32]⟩⟩ : ByteArray) = false) : ¬ isPre t impB = true := fun q => by
  have h : isPre t impB = false := h
  rw [q] at h
  cases h
theorem qut_no {t : ByteArray} (h : isPre t (⟨⟨[113, 117, 97, 114, 116, 101, 114, 108, 121, 58, 32]⟩⟩ : ByteArray) = false) : ¬ isPre t qutB = true := fun q => by
  have h : isPre t qutB = false := h
  rw [q] at h
  cases h
theorem c_parseHS (t : ByteArray) (h0 : t.size ≤ 2000000) : ConN Tryz.prog 8 [.lit (.string t)] [] 0 (.tup [aT rowH stdH fun _ => (pS t).getD shZ, .lit (.bool (stdH Bool fun _ => (pS t).isSome))]) [] [] := by
  have hB : Base Tryz.prog (tabΓ [e_l20After, e_l20Parts, e_l6Parse, e_l20Good, e_l20Text]) tabO := base_of tabOkO (ents_cons eok_l20After <| ents_cons eok_l20Parts <| ents_cons eok_l6Parse <| ents_cons eok_l20Good <| ents_cons eok_l20Text <| ents_nil)
  refine con_m (N := 75) hB (draw_ok hB mixed) Tryz.func8 rfl rfl (fun H => [.lit (.string t)]) (fun _ => []) 0 (fun H => .tup [aT rowH H fun _ => (pS t).getD shZ, .lit (.bool (H Bool fun _ => (pS t).isSome))]) (fun H => []) (fun _ => []) 600 (by simp) (fun x hx => ?_) (by simp [lk]) (by omega) (by simp) ?_
  · simp only [List.mem_cons, List.not_mem_nil, or_false] at hx
    rcases hx with rfl
    · exact .lit
  intro X hX hX0 H hH
  conv in Fin.chk _ _ => cbv
  try simp only [Plain_rowsA, Plain_rowsB, Plain_rowsC, Plain_rowsF, Plain_rowsG, Plain_rowsI, Plain_rowsS, Plain_rowsU, Fin.satC_ret, Fin.satC_br, Fin.satC_need, Fin.satC_again, AllP, and_true, true_and, upd, List.length_nil, List.length_cons, Nat.zero_add, if_true, ncast, Int.ofNat_eq_natCast]
  subst hH
  simp only [stdH, Tl_A, decide_eq_true_eq, decide_eq_false_iff_not]
  refine ⟨fun h1 => ?_, fun h1 => ⟨⟨h0, by decide⟩, fun h2 => ?_, fun h2 => ⟨⟨h0, by decide⟩, fun h3 => ?_, fun h3 => ⟨by omega, ?_⟩⟩⟩⟩
  · rw [pS_ref_no (fun q => by have := q.1; omega)]
    exact ⟨rfl, rfl, rfl⟩
  · simp only [h2]
    have hz := afterP_sz t (⟨⟨[105, 109, 112, 97, 108, 101, 100, 58, 32]⟩⟩ : ByteArray)
    obtain ⟨D, hDD⟩ : ∃ D, rdP 2 (pcs semB (afterP t (⟨⟨[105, 109, 112, 97, 108, 101, 100, 58, 32]⟩⟩ : ByteArray))) (List.replicate (Int.toNat 2) zA) = D := ⟨_, rfl⟩
    have hD : cR t = (⟨2, D.1⟩, D.2) := by
      rw [← hDD]
      exact if_pos h2
    have hl : D.1.length = Int.toNat 2 := by rw [← hDD, rdP_len]; exact List.length_replicate
    simp only [if_true, hDD]
    refine ⟨?_, ?_, ?_, fun h4 => ?_, fun h4 => ?_⟩
    · exact ⟨Nat.le_trans hz (by omega), by decide, by decide⟩
    · exact ⟨fun _ j hj => rowsA_len _ _, fun _ => Shp_A _ _, fun _ => by rw [hl]; decide⟩
    · exact ⟨fun _ j hj => rowsA_len _ _, fun _ => Shp_A _ _, fun h => (bif_no h).2⟩
    · rw [ref_no hD h4]
      exact ⟨rfl, rfl, rfl⟩
    · rw [ref_yes (by omega) hD h4]
      exact ⟨rfl, ⟨Nat.le_refl _, RowsEq.self okRA⟩, rfl⟩
  · simp only [h3]
    have hz := afterP_sz t (⟨⟨[113, 117, 97, 114, 116, 101, 114, 108, 121, 58, 32]⟩⟩ : ByteArray)
    obtain ⟨D, hDD⟩ : ∃ D, rdP 4 (pcs semB (afterP t (⟨⟨[113, 117, 97, 114, 116, 101, 114, 108, 121, 58, 32]⟩⟩ : ByteArray))) (List.replicate (Int.toNat 4) zA) = D := ⟨_, rfl⟩
    have hD : cR t = (⟨3, D.1⟩, D.2) := by
      rw [← hDD]
      exact (if_neg (imp_no h2)).trans (if_pos h3)
    have hl : D.1.length = Int.toNat 4 := by rw [← hDD, rdP_len]; exact List.length_replicate
    simp only [if_true, hDD]
    refine ⟨?_, ?_, ?_, fun h4 => ?_, fun h4 => ?_⟩
    · exact ⟨Nat.le_trans hz (by omega), by decide, by decide⟩
    · exact ⟨fun _ j hj => rowsA_len _ _, fun _ => Shp_A _ _, fun _ => by rw [hl]; decide⟩
    · exact ⟨fun _ j hj => rowsA_len _ _, fun _ => Shp_A _ _, fun h => (bif_no h).2⟩
    · rw [ref_no hD h4]
      exact ⟨rfl, rfl, rfl⟩
    · rw [ref_yes (by omega) hD h4]
      exact ⟨rfl, ⟨Nat.le_refl _, RowsEq.self okRA⟩, rfl⟩
  · have hD : cR t = (⟨1, [r6 t]⟩, (pA t).isSome) := (if_neg (imp_no h2)).trans (if_neg (qut_no h3))
    refine ⟨⟨?_, ?_⟩, ⟨?_, ?_⟩, fun h4 => ?_, fun h4 => ?_⟩
    · exact fun _ => Shp_oneA (r6 t)
    · intro _
      show (Tl rowA 1 (rowsOf 15 (rowA.cells stdH fun _ => r6 t))).length ≤ 2000000
      rw [Tl_oneA]
      show (1 : Nat) ≤ 2000000
      decide
    · exact fun _ => Shp_oneA (r6 t)
    · intro h
      have h : (bif !(pA t).isSome then true else !okH ⟨1, [r6 t]⟩) = false := h
      exact (bif_no h).2
    · rw [ref_no hD h4]
      exact ⟨rfl, rfl, rfl⟩
    · rw [ref_yes (by omega) hD h4]
      exact ⟨rfl, RowsEq.lit okRA rfl rfl, rfl⟩
noncomputable def e_parseHS : Entry := pureE 8 fun H a => match a with
  | [.lit (.string t)] => some (.tup [aT rowH H fun _ => (pS t).getD shZ, .lit (.bool (H Bool fun _ => (pS t).isSome))], [H Prop fun _ => t.size ≤ 2000000])
  | _ => none
theorem eok_parseHS : EntryOk Tryz.prog e_parseHS := pureM_ok (by unfold isBody; kernel_rfl) (by
  intro a r ob e hob
  split at e
  · rename_i t
    simp only [Option.some.injEq, Prod.mk.injEq] at e
    obtain ⟨rfl, rfl⟩ := e
    exact ConN.args (.cons .rfl .nil) (c_parseHS t hob.1)
  · simp at e)

end Go.Proofs.YtbnohmfapmeaaaaGreatDoor.AM

