/- Contracts and lemmas (Ints) for the laws of this seat: what the Go functions named here return, for all arguments that each theorem states; no further conditions. -/
import Derived.Test.YtnniiphfbjbjdaaMem
import Derived.Test.YtnniiphfbjbjdaaOpen
import Derived.Test.YtnniiphfbjbjdaaUp
import Derived.Test.YtnniiphfbjbjdaaRows
import Derived.WalkKit
import Derived.ProofKit
import Derived.OpenShut
import Derived.WalkLawsBesides
import Derived.Lib.Hide
import Derived.Deep.QuietTactic
import Derived.BigQuiet
import Derived.Deep.Light
import Derived.Handy
namespace Go.Proofs.Ytnniiphfbjbjdaa
set_option maxRecDepth 100000
open Go.ChangeShapes Go.WideShapes Go.ChangeAt Go.RowKit
set_option linter.unusedVariables false
set_option linter.unusedSimpArgs false

def encI (x : Int) : List Value := [.int .i64 x]
theorem encI_len (x : Int) : (encI x).length = 1 := rfl
theorem encI_one (x : Int) : ∀ u ∈ encI x, u.oneCell' = true := by simp [encI, Value.oneCell']
theorem rowI : (Try.prog.info? 3).map (fun i => (i.zero, i.size, i.bytes)) = some (some (.int .i64 0), 1, 8) := by kernel_rfl
theorem infoI : (Try.prog.info? 3).map (·.size) = some 1 := by kernel_rfl
def RetI (w : World) (l : List Int) : Ending → World → Prop := fun e w' => ∃ A cap, e = .returned (.slice A l.length cap) ∧ Own w' w.heap.size 3 1 encI A cap l ∧ Up w w'
/-- append(a, x) onto a slice of ints of the call's own. -/
theorem wpList_appI {ops : Array Oper} {rest : List Oper} {o : Oper} {a : Act} {w1 : World} {Q : Exit → Act → World → Prop} {y : Int} (hgd : o.guard = none) (s x : Operand)
    (ho : o.op = .call { callee := .builtin .append, args := #[s, x], argTypes := #[44, 44] }) (B : Nat) (A : Option Addr) (cap : Nat) (l : List Int) (n : Nat) (hn : n = l.length) (hs : a.eval s = .slice A n cap)
    (hown : Own w1 B 3 1 encI A cap l) (hx : a.eval x = .slice (some ⟨w1.heap.size, 0, none⟩) 1 1) (W : World) (hu : Up W w1) (hB : W.heap.size ≤ B) (hB1 : B ≤ w1.heap.size) (hlen : l.length ≤ 1099511627776)
    (h : ∀ A' cap' w', Own w' B 3 1 encI A' cap' (l ++ [y]) → Up W w' → (w1.alloc (.cells #[.int .i64 y] 3)).grownBy w' (Value.slice A n cap).ownBlock → (A' = A ∨ A' = some ⟨w1.heap.size + 1, 0, none⟩) → wpList Try.prog ops Q rest (a.put o.dst (.slice A' (n + 1) cap')) w') :
    wpList Try.prog ops Q (o :: rest) a (w1.alloc (.cells #[.int .i64 y] 3)) := by
  have hup1 : Up w1 (w1.alloc (.cells #[.int .i64 y] 3)) := (Up.refl _).alloc _
  subst hn
  refine wpList_app1 _ hgd s x 44 ho B 3 (.int .i64 0) 1 8 Try.underlying44 rowI rfl (by decide) encI encI_len encI_one A cap l l.length rfl hs (hown.up hup1) y w1.heap.size 1 hx (by decide) (by decide) (box_range (c := #[.int .i64 y]) (Up.refl _)) (by omega) (by omega) (by simp; omega) (fun A' cap' w' h2 h3 h4 => h A' cap' w' h2 ?_ h3 (by simpa using h4))
  exact up_of_below (hu.trans hup1) (grown_below (hown.up hup1) rfl (by simp; omega) h3) hB
theorem Rd.ofI {w : World} {B : Nat} {A : Option Addr} {cap : Nat} {l : List Int} (h : Own w B 3 1 encI A cap l) : Rd w 1 encI A cap l := h.rd encI_len
theorem RetI.lit {w w1 : World} (hu : Up w w1) (l : List Int) (cs : Array Value) (hcs : cs.toList = l.flatMap encI) (hm : l.length ≤ 1000) (g n : Nat) (hg : g = w1.heap.size) (hn : n = l.length) : RetI w l (.returned (.slice (some ⟨g, 0, none⟩) n n)) (w1.alloc (.cells cs 3)) := by
  subst hg; subst hn
  exact ⟨_, _, rfl, Own.lit w1 w.heap.size 3 1 encI l cs hcs encI_len hu.size (by unfold maxLen; omega), hu.alloc _⟩
theorem Rd.getI {w : World} {A : Option Addr} {cap : Nat} {l : List Int} (h : Rd w 1 encI A cap l) {i : Nat} (hi : i < l.length) : ∃ y b o, l[i]? = some y ∧ A = some ⟨b, o, none⟩ ∧ w.cell? ⟨b, o + i, none⟩ = some (.int .i64 y) := by
  obtain ⟨y, b, o, h1, h2, h3⟩ := h.get hi
  exact ⟨y, b, o, h1, h2, by simpa [encI] using h3 0 _ rfl⟩
theorem far_cells {w w' : World} {row : Option Nat} {g : Nat} (hg : w.grownBy w' row) (hlt : g < w.heap.size) (hne : some g ≠ row) : ∀ o, w'.cell? ⟨g, o, none⟩ = w.cell? ⟨g, o, none⟩ := fun o => hg.cell_far ⟨g, o, none⟩ hlt hne

end Go.Proofs.Ytnniiphfbjbjdaa
