import Derived.Test.YtgjjedpoclhkfaaDoorAmT
import Derived.Test.YtgjjedpoclhkfaaDoorSht
import Derived.Test.YtgjjedpoclhkfaaDoorJon
import Derived.Test.YtgjjedpoclhkfaaDoorQln
import Derived.Test.YtgjjedpoclhkfaaDoorShv
set_option linter.unusedVariables false
set_option linter.unusedSimpArgs false
set_option maxRecDepth 100000
set_option maxHeartbeats 4000000
set_option cbv.maxSteps 3000000
namespace Go.Proofs.YtgjjedpoclhkfaaDoor.AM
/- Texts of shields: plain; conditions: none. -/
theorem join_snoc (s : List UInt8) (L : List (List UInt8)) (x : List UInt8) (h : L ≠ []) : Lib.join (L ++ [x]) s = Lib.join L s ++ (s ++ x) := by
  cases L with
  | nil => exact absurd rfl h
  | cons y r =>
    rw [List.cons_append, Lib.join_cons, Lib.join_cons]
    simp [Lib.joinTail]
theorem jnB_nil (s : ByteArray) : jnB [] s = ByteArray.empty := rfl
theorem jnB_one (x s : ByteArray) : jnB [x] s = x := by
  apply ByteArray.ext; apply Array.ext'
  simp [jnB, Lib.join_one]
theorem jnB_snoc {L : List ByteArray} (x s : ByteArray) (h : L ≠ []) : jnB (L ++ [x]) s = jnB L s ++ (s ++ x) := by
  apply ByteArray.ext; apply Array.ext'
  unfold jnB
  rw [List.map_append, List.map_singleton, join_snoc _ _ _ (by simpa using h)]
  simp
/-- The numbers of the parts with these arms. -/
def nmS (l : List Arm) (x : Arm) : Nat → List ByteArray
  | 0 => []
  | n + 1 => if l.getD n default = x then nmS l x n ++ [numD (n + 1)] else nmS l x n
/-- The text of a quarterly shield, up to so many pieces. -/
def shP (l : List Arm) (i : Int) : ByteArray := jnB (nmS l (l.getD i.toNat default) l.length) (⟨⟨[32, 97, 110, 100, 32]⟩⟩ : ByteArray) ++ ((⟨⟨[58, 32]⟩⟩ : ByteArray) ++ armT (l.getD i.toNat default))
def shT (s : Shd) : ByteArray := if s.mode = 1 then armT (s.parts.getD 0 default) else if s.mode = 2 then (⟨⟨[105, 109, 112, 97, 108, 101, 100, 58, 32, 49, 58, 32]⟩⟩ : ByteArray) ++ (armT (s.parts.getD 0 default) ++ ((⟨⟨[59, 32, 50, 58, 32]⟩⟩ : ByteArray) ++ armT (s.parts.getD 1 default))) else (⟨⟨[113, 117, 97, 114, 116, 101, 114, 108, 121, 58, 32]⟩⟩ : ByteArray) ++ jnB ((fs1 s.parts s.parts.length).map (shP s.parts)) (⟨⟨[59, 32]⟩⟩ : ByteArray)

end Go.Proofs.YtgjjedpoclhkfaaDoor.AM
