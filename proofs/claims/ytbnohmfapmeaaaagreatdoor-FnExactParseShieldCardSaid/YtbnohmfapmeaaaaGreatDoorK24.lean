/- Lemmas and contracts (Shu); conditions: none. -/
import Derived.Test.YtbnohmfapmeaaaaGreatDoorK03
import Derived.Test.YtbnohmfapmeaaaaGreatDoorK13
import Derived.Test.YtbnohmfapmeaaaaGreatDoorK15
import Derived.Test.YtbnohmfapmeaaaaGreatDoorK22
import Derived.Test.YtbnohmfapmeaaaaGreatDoorK23
set_option linter.unusedVariables false
set_option linter.unusedSimpArgs false
set_option maxRecDepth 100000
set_option maxHeartbeats 4000000
set_option cbv.maxSteps 3000000
namespace Go.Proofs.YtbnohmfapmeaaaaGreatDoor.AM
/- Texts of shields: plain; conditions: none. -/
/-- The numbers of the parts with these arms. -/
def nmS (l : List Arm) (x : Arm) : Nat → List ByteArray
  | 0 => []
  | n + 1 => if l.getD n default = x then nmS l x n ++ [numD (n + 1)] else nmS l x n
/-- The text of a quarterly shield, up to so many pieces. -/
def shP (l : List Arm) (i : Int) : ByteArray := jnB (nmS l (l.getD i.toNat default) l.length) (⟨⟨[32, 97, 110, 100, 32]⟩⟩ : ByteArray) ++ ((⟨⟨[58, 32]⟩⟩ : ByteArray) ++ armT (l.getD i.toNat default))
def shT (s : Shd) : ByteArray := if s.mode = 1 then armT (s.parts.getD 0 default) else if s.mode = 2 then (⟨⟨[105, 109, 112, 97, 108, 101, 100, 58, 32, 49, 58, 32]⟩⟩ : ByteArray) ++ (armT (s.parts.getD 0 default) ++ ((⟨⟨[59, 32, 50, 58, 32]⟩⟩ : ByteArray) ++ armT (s.parts.getD 1 default))) else (⟨⟨[113, 117, 97, 114, 116, 101, 114, 108, 121, 58, 32]⟩⟩ : ByteArray) ++ jnB ((fs1 s.parts s.parts.length).map (shP s.parts)) (⟨⟨[59, 32]⟩⟩ : ByteArray)

end Go.Proofs.YtbnohmfapmeaaaaGreatDoor.AM

