import Derived.Test.YtgjjedpoclhkfaaDoorTin
import Derived.Test.YtgjjedpoclhkfaaDoorDrA
import Derived.Test.YtgjjedpoclhkfaaDoorVB
set_option linter.unusedVariables false
set_option linter.unusedSimpArgs false
set_option maxRecDepth 100000
set_option maxHeartbeats 4000000
set_option cbv.maxSteps 3000000
namespace Go.Proofs.YtgjjedpoclhkfaaDoor.AM
/- Crests, classes of tinctures, wreaths; conditions: none. -/
structure Crs where
  k : Int
  a : Int
  t : Int
  r : Int
deriving Inhabited
def okC (c : Crs) : Bool := okG ⟨1, c.k, c.a, c.t⟩ && inB c.r 1 5
def clsF (x : Int) : Int := if x ≤ 2 then 1 else if x ≤ 7 then 2 else 3
def tinS (a : Arm) : List Int := tinF a.f ++ (if a.o > 0 then [a.t] else []) ++ (if noG a.n then [] else [a.n.t]) ++ (if noG a.r then [] else [a.r.t])
theorem tinS_eq {a : Arm} (h : okA a = true) : tinS a = tinA a := by
  obtain ⟨⟨a0, a1, a2, a3⟩, a4, a5, a6, ⟨a7, a8, a9, a10⟩, ⟨a11, a12, a13, a14⟩⟩ := a
  simp only [okA, Bool.and_eq_true] at h
  obtain ⟨⟨_, hr⟩, ho⟩ := h
  have hg : ∀ g : Grp, (noG g || okG g) = true → (if noG g = true then [] else [g.t]) = nz g.t := by
    intro g hg
    cases hn : noG g
    · rw [hn] at hg
      simp only [Bool.false_or, okG, Bool.and_eq_true, inB, decide_eq_true_eq] at hg
      have e : nz g.t = [g.t] := if_neg (by omega)
      rw [e]; simp
    · simp only [noG, Bool.and_eq_true, decide_eq_true_eq] at hn
      have e : nz g.t = [] := if_pos hn.2
      rw [e]; simp
  simp only [tinS, tinA]
  rw [hg ⟨a11, a12, a13, a14⟩ hr]
  by_cases h0 : a4 = 0
  · rw [if_pos h0] at ho
    simp only [Bool.and_eq_true, decide_eq_true_eq] at ho
    rw [if_neg (by omega), hg ⟨a7, a8, a9, a10⟩ (by rw [ho.2]; rfl), ho.1.2]; rfl
  · rw [if_neg h0] at ho
    simp only [Bool.and_eq_true, inB, decide_eq_true_eq] at ho
    rw [if_pos (by omega), hg ⟨a7, a8, a9, a10⟩ ho.2]
    have : nz a6 = [a6] := if_neg (by omega)
    rw [this]
end Go.Proofs.YtgjjedpoclhkfaaDoor.AM
