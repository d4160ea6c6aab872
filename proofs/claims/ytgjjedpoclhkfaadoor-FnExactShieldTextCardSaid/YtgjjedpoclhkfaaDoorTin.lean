import Derived.Test.YtgjjedpoclhkfaaDoorArm
set_option linter.unusedVariables false
set_option linter.unusedSimpArgs false
set_option maxRecDepth 100000
set_option maxHeartbeats 4000000
set_option cbv.maxSteps 3000000
namespace Go.Proofs.YtgjjedpoclhkfaaDoor.AM
/- The tinctures of arms; conditions: none. -/
def tinF (f : Fld) : List Int := if f.d = 0 then [f.p] else [f.p, f.q]
def nz (x : Int) : List Int := if x = 0 then [] else [x]
def tinA (a : Arm) : List Int := tinF a.f ++ nz a.t ++ nz a.n.t ++ nz a.r.t
def atin (a : Arm) : List Int := if okA a then tinA a else []
end Go.Proofs.YtgjjedpoclhkfaaDoor.AM
