/- Lemmas and contracts (AmDl); conditions: none. -/
import Derived.Test.YtmkniipdkanbbaaGreatDoorK05
set_option linter.unusedVariables false
set_option linter.unusedSimpArgs false
set_option linter.unusedVariables false
set_option linter.unusedSimpArgs false
namespace Go.Proofs.YtmkniipdkanbbaaGreatDoor.AM
section
variable {C : Cx} {n0 : Nat}
end
def flt (l : List Nat) : Env → Env
  | [] => []
  | (t, x) :: e => bif l.any (Nat.beq t) then (t, x) :: flt l e else flt l e
theorem loop_c {P : Program} {Γ : Cons} {τ : Tab} {X : Ctx} {rs : List ResultVar} {As : Nat → St → Prop} (hB : Base P Γ τ) (hD : DrawOk P Γ τ) {c : Code} {k : List KI} {ctx : List (List KI)} {s : St} {N n0 : Nat} (hN : X.N = N) (h0 : X.n0 = n0) {H : Hold} (hH : H = stdH) (keep : List Nat) {ι : Type} (n : Nat) (at' : ι → List Atom) (μ : ι → Nat) (i0 : ι) (hi : AllG (matchSt H n0 (mkI n0 true c (k :: ctx) rs ⟨flt keep s.env, s.heap, s.next⟩ (at' i0)) s))
    {n1 : Nat} {r : AV} {nw : List Blk} {u : Heap} (round : ∀ (I : ι → St), (∀ i, I i = mkI n0 true c (k :: ctx) rs ⟨flt keep s.env, s.heap, s.next⟩ (at' i)) → ∀ i, ((finish H Γ τ N n rs (k :: ctx) (arun H Γ τ N n [.code c] (mkI n0 true c (k :: ctx) rs ⟨flt keep s.env, s.heap, s.next⟩ (at' i)))).chk (matchEx H n1 r nw u)).satC P X τ rs (fun x hp => ∃ π, Exp π n1 r nw u x hp) (upd As (ctx.length + 1) (fun s' => ∃ j, μ j < μ i ∧ AllG (matchSt H n0 (I j) s')))) : (Fin.loop c (k :: ctx) s).satC P X τ rs (fun x hp => ∃ π, Exp π n1 r nw u x hp) As :=
  loop_m hB hD hN h0 hH n (fun i => mkI n0 true c (k :: ctx) rs ⟨flt keep s.env, s.heap, s.next⟩ (at' i)) μ i0 hi (round _ fun _ => rfl)
end Go.Proofs.YtmkniipdkanbbaaGreatDoor.AM

