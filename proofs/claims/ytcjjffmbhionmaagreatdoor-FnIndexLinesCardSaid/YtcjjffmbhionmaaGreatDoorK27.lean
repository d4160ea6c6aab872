/- Lemmas and contracts (Rdm); conditions: none. -/
import Derived.Test.YtcjjffmbhionmaaGreatDoorK03
import Derived.Test.YtcjjffmbhionmaaGreatDoorK25
import Derived.Test.YtcjjffmbhionmaaGreatDoorK26
set_option linter.unusedVariables false
set_option linter.unusedSimpArgs false
set_option maxRecDepth 100000
set_option maxHeartbeats 4000000
set_option cbv.maxSteps 3000000
namespace Go.Proofs.YtcjjffmbhionmaaGreatDoor.AM
/- Numerals read; conditions: none. -/
theorem num_sB {i : Nat} : sByte (numD i) 0 ≠ 45 := by
  obtain ⟨d, r, h1, h2⟩ := numD_head i
  unfold sByte
  rw [h2]
  intro q
  have : ∀ d : Nat, d < 10 → (UInt8.ofNat (48 + d)).toNat ≠ 45 := by decide
  have h3 : (((UInt8.ofNat (48 + d)).toNat : Nat) : Int) = 45 := q
  exact this d h1 (by omega)
theorem numD_posR (i : Nat) : 1 ≤ (numD i).size := by
  obtain ⟨d, r, h1, h2⟩ := numD_head i
  have : (numD i).size = (numD i).data.toList.length := rfl
  rw [this, h2, List.length_cons]; omega
theorem rd_num {i : Nat} (h : i < 1000000) : rdO (numD i) = true ∧ rdV (numD i) = i := by
  have hr : rdT (numD i) = numD i := if_neg fun q => num_sB q.2
  obtain ⟨r1, r2⟩ := rd_end (s := numD i) (n := i) (v := (i : Int)) (by rw [hr]; exact ⟨numD_posR i, numD_sz6 h⟩) (by rw [hr]; exact numD_dec i) (by rw [hr, if_neg (by omega)])
  have e : numI (i : Int) = numD i := by rw [numI_p (by omega), Int.toNat_natCast]
  exact ⟨by rw [r1, e]; simp, r2 e⟩
theorem rd_so {w : ByteArray} (h : rdO w = true) : numI (rdV w) = w := by
  have e : rdV w = rdM w := if_pos h
  unfold rdO at h
  simp only [Bool.and_eq_true, decide_eq_true_eq] at h
  rw [e]; exact h.2.2

end Go.Proofs.YtcjjffmbhionmaaGreatDoor.AM

