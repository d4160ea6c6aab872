/- Lemmas and contracts (Rdn Spe Rpl); conditions: none. -/
import Derived.Test.YtbnohmfapmeaaaaGreatDoorK03
import Derived.Test.YtbnohmfapmeaaaaGreatDoorK05
import Derived.Test.YtbnohmfapmeaaaaGreatDoorK09
import Derived.Test.YtbnohmfapmeaaaaGreatDoorK13
import Derived.Test.YtbnohmfapmeaaaaGreatDoorK26
import Derived.Test.YtbnohmfapmeaaaaGreatDoorK28
import Derived.Test.YtbnohmfapmeaaaaGreatDoorK30
import Derived.Test.YtbnohmfapmeaaaaGreatDoorK33
import Derived.Test.YtbnohmfapmeaaaaGreatDoorK39
set_option linter.unusedVariables false
set_option linter.unusedSimpArgs false
set_option maxRecDepth 100000
set_option maxHeartbeats 4000000
set_option cbv.maxSteps 3000000
namespace Go.Proofs.YtbnohmfapmeaaaaGreatDoor.AM
/- Numbers read by the reference; conditions: none. -/
theorem numD_sz5 {i : Nat} (h : i < 100000) : (numD i).size ≤ 5 := by
  by_cases h1 : i < 10000
  · exact Nat.le_trans (numD_sz4 h1) (by omega)
  · rw [numD_step (by omega), ByteArray.size_append]
    exact Nat.add_le_add_right (numD_sz4 (i := i / 10) (by omega)) 1
theorem numD_sz6 {i : Nat} (h : i < 1000000) : (numD i).size ≤ 6 := by
  by_cases h1 : i < 100000
  · exact Nat.le_trans (numD_sz5 h1) (by omega)
  · rw [numD_step (by omega), ByteArray.size_append]
    exact Nat.add_le_add_right (numD_sz5 (i := i / 10) (by omega)) 1
def numI (x : Int) : ByteArray := if x < 0 then (⟨⟨[45]⟩⟩ : ByteArray) ++ numD (-x).toNat else numD x.toNat
theorem numI_p {x : Int} (h : ¬ x < 0) : numI x = numD x.toNat := if_neg h
def rdT (s : ByteArray) : ByteArray := if 1 < s.size ∧ sByte s 0 = 45 then s.extract 1 s.size else s
def rdD (s : ByteArray) : Nat := (Lib.decFrom 0 (rdT s).data.toList).getD 0
def rdM (s : ByteArray) : Int := if (rdT s).size < s.size then -((rdD s : Nat) : Int) else (rdD s : Nat)
def rdO (s : ByteArray) : Bool := decide (1 ≤ (rdT s).size ∧ (rdT s).size ≤ 6) && ((Lib.decFrom 0 (rdT s).data.toList).isSome && decide (numI (rdM s) = s))
def rdV (s : ByteArray) : Int := if rdO s = true then rdM s else 0
theorem rd_end {s : ByteArray} {n : Nat} {v : Int} (hs : 1 ≤ (rdT s).size ∧ (rdT s).size ≤ 6) (h : Lib.decFrom 0 (rdT s).data.toList = some n) (hv : v = if (rdT s).size < s.size then -(n : Int) else n) : rdO s = decide (numI v = s) ∧ (numI v = s → rdV s = v) := by
  have e1 : rdM s = v := by unfold rdM rdD; rw [h, hv]; rfl
  have e2 : rdO s = decide (numI v = s) := by unfold rdO; rw [h, e1, decide_eq_true hs]; rfl
  refine ⟨e2, fun q => ?_⟩
  unfold rdV
  rw [e2, decide_eq_true q, if_pos rfl, e1]
end Go.Proofs.YtbnohmfapmeaaaaGreatDoor.AM

set_option linter.unusedVariables false
set_option linter.unusedSimpArgs false
set_option maxRecDepth 100000
set_option maxHeartbeats 4000000
set_option cbv.maxSteps 3000000
namespace Go.Proofs.YtbnohmfapmeaaaaGreatDoor.AM
/- Arms parsed by both; conditions: none. -/
theorem r6_some {s : ByteArray} {a : Arm} (h : pA s = some a) : r6 s = a := by
  by_cases q : early s
  · obtain ⟨q1, q2, q3, q4⟩ := q
    cases hf : pF (cutB s comB).1 with
    | none => rw [hf] at q2; cases q2
    | some f =>
      cases hg : pG (cutB s comB).2.1 with
      | none => rw [hg] at q4; cases q4
      | some g =>
        rw [r6_early q1 hf q3 hg]
        rw [pA_early hf q3 hg] at h
        split at h
        · injection h
        · cases h
  · rw [r6_late q, h]; rfl
end Go.Proofs.YtbnohmfapmeaaaaGreatDoor.AM

set_option linter.unusedVariables false
set_option linter.unusedSimpArgs false
set_option maxRecDepth 100000
set_option maxHeartbeats 4000000
set_option cbv.maxSteps 3000000
namespace Go.Proofs.YtbnohmfapmeaaaaGreatDoor.AM
/- Texts of shields read by the reference: plain; conditions: none. -/
theorem num_sB {i : Nat} : sByte (numD i) 0 ≠ 45 := by
  obtain ⟨d, r, h1, h2⟩ := numD_head i
  unfold sByte
  rw [h2]
  intro q
  have : ∀ d : Nat, d < 10 → (UInt8.ofNat (48 + d)).toNat ≠ 45 := by decide
  have h3 : (((UInt8.ofNat (48 + d)).toNat : Nat) : Int) = 45 := q
  exact this d h1 (by omega)
theorem numD_posR (i : Nat) : 1 ≤ (numD i).size := by
  obtain ⟨d, r, h1, h2⟩ := numD_head i
  have : (numD i).size = (numD i).data.toList.length := rfl
  rw [this, h2, List.length_cons]; omega
theorem rd_num {i : Nat} (h : i < 1000000) : rdO (numD i) = true ∧ rdV (numD i) = i := by
  have hr : rdT (numD i) = numD i := if_neg fun q => num_sB q.2
  obtain ⟨r1, r2⟩ := rd_end (s := numD i) (n := i) (v := (i : Int)) (by rw [hr]; exact ⟨numD_posR i, numD_sz6 h⟩) (by rw [hr]; exact numD_dec i) (by rw [hr, if_neg (by omega)])
  have e : numI (i : Int) = numD i := by rw [numI_p (by omega), Int.toNat_natCast]
  exact ⟨by rw [r1, e]; simp, r2 e⟩
end Go.Proofs.YtbnohmfapmeaaaaGreatDoor.AM

