/- Lemmas and contracts (Lst); conditions: none. -/
import Derived.Test.YtigkdbhcjjjjkaaK04
import Derived.Test.YtigkdbhcjjjjkaaK05
import Derived.Test.YtigkdbhcjjjjkaaK07
set_option linter.unusedVariables false
set_option linter.unusedSimpArgs false
set_option linter.unusedVariables false
set_option linter.unusedSimpArgs false
set_option maxRecDepth 100000
set_option maxHeartbeats 4000000
set_option cbv.maxSteps 3000000
namespace Go.Proofs.Ytigkdbhcjjjjkaa.AM
/- Lists of numbers and of arms; conditions: none. -/
def rowsA (H : Hold) (L : Unit → List Arm) (j : Nat) : List AV := [.lit (.int .i64 (H Int fun _ => ((L ()).getD j default).f.d)), .lit (.int .i64 (H Int fun _ => ((L ()).getD j default).f.l)), .lit (.int .i64 (H Int fun _ => ((L ()).getD j default).f.p)), .lit (.int .i64 (H Int fun _ => ((L ()).getD j default).f.q)), .lit (.int .i64 (H Int fun _ => ((L ()).getD j default).o)), .lit (.int .i64 (H Int fun _ => ((L ()).getD j default).l)), .lit (.int .i64 (H Int fun _ => ((L ()).getD j default).t)), .lit (.int .i64 (H Int fun _ => ((L ()).getD j default).n.c)), .lit (.int .i64 (H Int fun _ => ((L ()).getD j default).n.k)), .lit (.int .i64 (H Int fun _ => ((L ()).getD j default).n.a)), .lit (.int .i64 (H Int fun _ => ((L ()).getD j default).n.t)), .lit (.int .i64 (H Int fun _ => ((L ()).getD j default).r.c)), .lit (.int .i64 (H Int fun _ => ((L ()).getD j default).r.k)), .lit (.int .i64 (H Int fun _ => ((L ()).getD j default).r.a)), .lit (.int .i64 (H Int fun _ => ((L ()).getD j default).r.t))]
def rowA : RowD Arm := ⟨15, default, fun H x => [.lit (.int .i64 (H Int fun _ => (x ()).f.d)), .lit (.int .i64 (H Int fun _ => (x ()).f.l)), .lit (.int .i64 (H Int fun _ => (x ()).f.p)), .lit (.int .i64 (H Int fun _ => (x ()).f.q)), .lit (.int .i64 (H Int fun _ => (x ()).o)), .lit (.int .i64 (H Int fun _ => (x ()).l)), .lit (.int .i64 (H Int fun _ => (x ()).t)), .lit (.int .i64 (H Int fun _ => (x ()).n.c)), .lit (.int .i64 (H Int fun _ => (x ()).n.k)), .lit (.int .i64 (H Int fun _ => (x ()).n.a)), .lit (.int .i64 (H Int fun _ => (x ()).n.t)), .lit (.int .i64 (H Int fun _ => (x ()).r.c)), .lit (.int .i64 (H Int fun _ => (x ()).r.k)), .lit (.int .i64 (H Int fun _ => (x ()).r.a)), .lit (.int .i64 (H Int fun _ => (x ()).r.t))], fun l => match l with
  | [.lit (.int _ x0), .lit (.int _ x1), .lit (.int _ x2), .lit (.int _ x3), .lit (.int _ x4), .lit (.int _ x5), .lit (.int _ x6), .lit (.int _ x7), .lit (.int _ x8), .lit (.int _ x9), .lit (.int _ x10), .lit (.int _ x11), .lit (.int _ x12), .lit (.int _ x13), .lit (.int _ x14)] => ⟨⟨x0, x1, x2, x3⟩, x4, x5, x6, ⟨x7, x8, x9, x10⟩, ⟨x11, x12, x13, x14⟩⟩
  | _ => default, rowsA⟩
theorem okRA : RowOk rowA := ⟨fun _ => rfl, fun x c hc => by simp [rowA] at hc; rcases hc with rfl | rfl | rfl | rfl | rfl | rfl | rfl | rfl | rfl | rfl | rfl | rfl | rfl | rfl | rfl <;> exact .lit, fun _ => rfl, fun _ _ => rfl⟩
theorem Arm.eta (a : Arm) : (⟨⟨a.f.d, a.f.l, a.f.p, a.f.q⟩, a.o, a.l, a.t, ⟨a.n.c, a.n.k, a.n.a, a.n.t⟩, ⟨a.r.c, a.r.k, a.r.a, a.r.t⟩⟩ : Arm) = a := rfl
theorem Tl_A (L : List Arm) : Tl rowA L.length (rowsA stdH fun _ => L) = L := Tl_rowsT okRA L
theorem Shp_A (n : Nat) (L : List Arm) : Shp rowA n (rowsA stdH fun _ => L) := Shp_rowsT okRA n (fun _ => L)
theorem Plain_rowsA (n : Nat) (H : Hold) (L : Unit → List Arm) : Plain n (rowsA H L) = True := eq_true ⟨fun j _ x hx => by simp [rowsA] at hx; rcases hx with rfl | rfl | rfl | rfl | rfl | rfl | rfl | rfl | rfl | rfl | rfl | rfl | rfl | rfl | rfl <;> rfl⟩

def rowsG (H : Hold) (L : Unit → List Grp) (j : Nat) : List AV := [.lit (.int .i64 (H Int fun _ => ((L ()).getD j default).c)), .lit (.int .i64 (H Int fun _ => ((L ()).getD j default).k)), .lit (.int .i64 (H Int fun _ => ((L ()).getD j default).a)), .lit (.int .i64 (H Int fun _ => ((L ()).getD j default).t))]
def rowG : RowD Grp := ⟨4, default, fun H x => [.lit (.int .i64 (H Int fun _ => (x ()).c)), .lit (.int .i64 (H Int fun _ => (x ()).k)), .lit (.int .i64 (H Int fun _ => (x ()).a)), .lit (.int .i64 (H Int fun _ => (x ()).t))], fun l => match l with
  | [.lit (.int _ x0), .lit (.int _ x1), .lit (.int _ x2), .lit (.int _ x3)] => ⟨x0, x1, x2, x3⟩
  | _ => default, rowsG⟩
theorem okRG : RowOk rowG := ⟨fun _ => rfl, fun x c hc => by simp [rowG] at hc; rcases hc with rfl | rfl | rfl | rfl <;> exact .lit, fun _ => rfl, fun _ _ => rfl⟩
theorem Grp.eta (a : Grp) : (⟨a.c, a.k, a.a, a.t⟩ : Grp) = a := rfl
theorem Plain_rowsG (n : Nat) (H : Hold) (L : Unit → List Grp) : Plain n (rowsG H L) = True := eq_true ⟨fun j _ x hx => by simp [rowsG] at hx; rcases hx with rfl | rfl | rfl | rfl <;> rfl⟩
def eqrG (a b : Grp) : Bool := allT [fun _ => a.c == b.c, fun _ => a.k == b.k, fun _ => a.a == b.a, fun _ => a.t == b.t]
theorem eqrG_iff {a b : Grp} : eqrG a b = true ↔ a = b := by
  obtain ⟨a0, a1, a2, a3⟩ := a; obtain ⟨b0, b1, b2, b3⟩ := b
  simp [eqrG, allT, and_assoc]
instance : DecidableEq Grp := fun a b => decidable_of_iff (eqrG a b = true) eqrG_iff
def rowsF (H : Hold) (L : Unit → List Fld) (j : Nat) : List AV := [.lit (.int .i64 (H Int fun _ => ((L ()).getD j default).d)), .lit (.int .i64 (H Int fun _ => ((L ()).getD j default).l)), .lit (.int .i64 (H Int fun _ => ((L ()).getD j default).p)), .lit (.int .i64 (H Int fun _ => ((L ()).getD j default).q))]
def rowF : RowD Fld := ⟨4, default, fun H x => [.lit (.int .i64 (H Int fun _ => (x ()).d)), .lit (.int .i64 (H Int fun _ => (x ()).l)), .lit (.int .i64 (H Int fun _ => (x ()).p)), .lit (.int .i64 (H Int fun _ => (x ()).q))], fun l => match l with
  | [.lit (.int _ x0), .lit (.int _ x1), .lit (.int _ x2), .lit (.int _ x3)] => ⟨x0, x1, x2, x3⟩
  | _ => default, rowsF⟩
theorem okRF : RowOk rowF := ⟨fun _ => rfl, fun x c hc => by simp [rowF] at hc; rcases hc with rfl | rfl | rfl | rfl <;> exact .lit, fun _ => rfl, fun _ _ => rfl⟩
theorem Fld.eta (a : Fld) : (⟨a.d, a.l, a.p, a.q⟩ : Fld) = a := rfl
theorem Plain_rowsF (n : Nat) (H : Hold) (L : Unit → List Fld) : Plain n (rowsF H L) = True := eq_true ⟨fun j _ x hx => by simp [rowsF] at hx; rcases hx with rfl | rfl | rfl | rfl <;> rfl⟩
def eqrF (a b : Fld) : Bool := allT [fun _ => a.d == b.d, fun _ => a.l == b.l, fun _ => a.p == b.p, fun _ => a.q == b.q]
theorem eqrF_iff {a b : Fld} : eqrF a b = true ↔ a = b := by
  obtain ⟨a0, a1, a2, a3⟩ := a; obtain ⟨b0, b1, b2, b3⟩ := b
  simp [eqrF, allT, and_assoc]
instance : DecidableEq Fld := fun a b => decidable_of_iff (eqrF a b = true) eqrF_iff
theorem Arm.eta2 (a : Arm) : (⟨a.f, a.o, a.l, a.t, a.n, a.r⟩ : Arm) = a := rfl
theorem vrow_I (l : List Int) : vrow (lget l) = rowsI stdH fun _ => l := rfl
def eqA (a b : Arm) : Bool := allT [fun _ => a.f.d == b.f.d, fun _ => a.f.l == b.f.l, fun _ => a.f.p == b.f.p, fun _ => a.f.q == b.f.q, fun _ => a.o == b.o, fun _ => a.l == b.l, fun _ => a.t == b.t, fun _ => a.n.c == b.n.c, fun _ => a.n.k == b.n.k, fun _ => a.n.a == b.n.a, fun _ => a.n.t == b.n.t, fun _ => a.r.c == b.r.c, fun _ => a.r.k == b.r.k, fun _ => a.r.a == b.r.a, fun _ => a.r.t == b.r.t]
theorem eqA_iff {a b : Arm} : eqA a b = true ↔ a = b := by
  obtain ⟨⟨a0, a1, a2, a3⟩, a4, a5, a6, ⟨a7, a8, a9, a10⟩, ⟨a11, a12, a13, a14⟩⟩ := a
  obtain ⟨⟨b0, b1, b2, b3⟩, b4, b5, b6, ⟨b7, b8, b9, b10⟩, ⟨b11, b12, b13, b14⟩⟩ := b
  simp [eqA, allT, and_assoc]
instance : DecidableEq Arm := fun a b => decidable_of_iff (eqA a b = true) eqA_iff
theorem eqAE (a b : Arm) : allT [fun _ => a.f.d == b.f.d, fun _ => a.f.l == b.f.l, fun _ => a.f.p == b.f.p, fun _ => a.f.q == b.f.q, fun _ => a.o == b.o, fun _ => a.l == b.l, fun _ => a.t == b.t, fun _ => a.n.c == b.n.c, fun _ => a.n.k == b.n.k, fun _ => a.n.a == b.n.a, fun _ => a.n.t == b.n.t, fun _ => a.r.c == b.r.c, fun _ => a.r.k == b.r.k, fun _ => a.r.a == b.r.a, fun _ => a.r.t == b.r.t] = decide (a = b) := by
  rw [Bool.eq_iff_iff, decide_eq_true_eq]; exact eqA_iff
theorem w1 {n : Nat} (h : n < 1000000000) : IntKind.i64.wrap ((n : Int) + 1) = ((n + 1 : Nat) : Int) := by rw [wi] <;> omega
theorem getD_mem {α : Type} {l : List α} {i : Nat} {d : α} (h : i < l.length) : l.getD i d ∈ l := by rw [List.getD_eq_getElem?_getD, List.getElem?_eq_getElem h]; exact List.getElem_mem h
theorem Tl_I (L : List Int) : Tl rowI L.length (rowsI stdH fun _ => L) = L := Tl_rowsT okI L
theorem Shp_I (n : Nat) (L : List Int) : Shp rowI n (rowsI stdH fun _ => L) := Shp_rowsT okI n (fun _ => L)

end Go.Proofs.Ytigkdbhcjjjjkaa.AM

