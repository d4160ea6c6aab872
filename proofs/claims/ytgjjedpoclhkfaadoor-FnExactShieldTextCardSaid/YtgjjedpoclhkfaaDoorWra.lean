import Derived.Test.YtgjjedpoclhkfaaDoorAmT
import Derived.Test.YtgjjedpoclhkfaaDoorWrp
import Derived.Test.YtgjjedpoclhkfaaDoorAtx
import Derived.Test.YtgjjedpoclhkfaaDoorExa
import Derived.Test.YtgjjedpoclhkfaaDoorNum
set_option linter.unusedVariables false
set_option linter.unusedSimpArgs false
set_option maxRecDepth 100000
set_option maxHeartbeats 4000000
set_option cbv.maxSteps 3000000
namespace Go.Proofs.YtgjjedpoclhkfaaDoor.AM
/- Arms wrapped; conditions: none. -/
theorem Tl_S (L : List ByteArray) : Tl rowS L.length (rowsS stdH fun _ => L) = L := Tl_rowsT okS L
theorem Shp_S (n : Nat) (L : List ByteArray) : Shp rowS n (rowsS stdH fun _ => L) := Shp_rowsT okS n (fun _ => L)
theorem wrap2_len (width : Int) : ∀ (ws d : List ByteArray) (n : ByteArray), (wrap2 width d n ws).length ≤ d.length + 1 + ws.length
  | [], d, n => by unfold wrap2; simp
  | w :: ws, d, n => by
    unfold wrap2
    split
    · have := wrap2_len width ws d (n ++ (spB ++ w)); simp at this ⊢; omega
    · have := wrap2_len width ws (d ++ [n]) w; simp at this ⊢; omega
theorem wrapT_len (s : ByteArray) (width : Int) : (wrapT s width).length ≤ s.size + 1 := by
  have h := words_len s
  unfold wrapT
  cases e : wordsB s with
  | nil => exact Nat.zero_le _
  | cons w ws =>
    rw [e] at h
    have := wrap2_len width ws [] w
    simp at this h
    show (wrap2 width [] w ws).length ≤ _
    omega
end Go.Proofs.YtgjjedpoclhkfaaDoor.AM
