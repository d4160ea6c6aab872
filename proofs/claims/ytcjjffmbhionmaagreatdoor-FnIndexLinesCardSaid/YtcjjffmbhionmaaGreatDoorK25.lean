/- Lemmas and contracts (Ato); conditions: none. -/
import Derived.Test.YtcjjffmbhionmaaGreatDoorK03
import Derived.Test.YtcjjffmbhionmaaGreatDoorK11
import Derived.Test.YtcjjffmbhionmaaGreatDoorK15
import Derived.Test.YtcjjffmbhionmaaGreatDoorK19
import Derived.Lib.Atoi
import Derived.Lib.AtoiAll
import Derived.Lib.AtoiTie
set_option linter.unusedVariables false
set_option linter.unusedSimpArgs false
set_option maxRecDepth 100000
set_option maxHeartbeats 4000000
set_option cbv.maxSteps 3000000
namespace Go.Proofs.YtcjjffmbhionmaaGreatDoor.AM
/- Numbers out of texts, by the library; conditions: none. -/
/-! ### Numerals -/
theorem decFrom_snoc (b : UInt8) : ∀ (l : List UInt8) (acc : Nat), Lib.decFrom acc (l ++ [b]) = (Lib.decFrom acc l).bind fun n => (Lib.digitVal b).map fun d => n * 10 + d
  | [], acc => by
    simp only [List.nil_append, Lib.decFrom, Option.bind_some]
    cases Lib.digitVal b <;> rfl
  | c :: l, acc => by
    simp only [List.cons_append, Lib.decFrom]
    cases Lib.digitVal c with
    | none => rfl
    | some d => exact decFrom_snoc b l _
theorem digitVal_of {d : Nat} (h : d < 10) : Lib.digitVal (UInt8.ofNat (48 + d)) = some d := by
  have : ∀ d : Nat, d < 10 → Lib.digitVal (UInt8.ofNat (48 + d)) = some d := by decide
  exact this d h
theorem numD_l1 {i : Nat} (h : i < 10) : (numD i).data.toList = [UInt8.ofNat (48 + i)] := by rw [numD_one h]
theorem numD_ls {i : Nat} (h : ¬ i < 10) : (numD i).data.toList = (numD (i / 10)).data.toList ++ [UInt8.ofNat (48 + i % 10)] := by
  rw [numD_step h, ByteArray.toList_data_append]
theorem numD_dec (i : Nat) : Lib.decFrom 0 (numD i).data.toList = some i := by
  induction i using Nat.strongRecOn with
  | _ i ih =>
    by_cases h : i < 10
    · rw [numD_l1 h]
      simp only [Lib.decFrom, digitVal_of h]
      simp
    · rw [numD_ls h, decFrom_snoc, ih (i / 10) (by omega), digitVal_of (by omega)]
      simp only [Option.bind_some, Option.map_some, Option.some.injEq]
      omega
theorem numD_head (i : Nat) : ∃ (d : Nat) (r : List UInt8), d < 10 ∧ (numD i).data.toList = UInt8.ofNat (48 + d) :: r := by
  induction i using Nat.strongRecOn with
  | _ i ih =>
    by_cases h : i < 10
    · exact ⟨i, [], h, numD_l1 h⟩
    · obtain ⟨d, r, h1, h2⟩ := ih (i / 10) (by omega)
      exact ⟨d, r ++ [UInt8.ofNat (48 + i % 10)], h1, by rw [numD_ls h, h2]; rfl⟩
end Go.Proofs.YtcjjffmbhionmaaGreatDoor.AM

