/- Lemmas and contracts (Lst Idx Shelf Shf Spl); conditions: none. -/
import Derived.Test.YtmkniipdkanbbaaGreatDoorK04
import Derived.Test.YtmkniipdkanbbaaGreatDoorK05
import Derived.Test.YtmkniipdkanbbaaGreatDoorK09
import Derived.Shelf.Strings.SlTrimAscii
import Derived.Below
import Derived.Shelf.Small.Wraps
import Derived.Shelf.Utf8.RuneCount
import Derived.Shelf.Strings.Search1
import Derived.Shelf.Strings.Search2
import Derived.Shelf.Strings.Search3
import Derived.Shelf.Strings.Cut
import Derived.Shelf.Strings.Count
import Derived.Shelf.LaysM
import Derived.Shelf.Strings.Shaped
import Derived.Shelf.Strings.Prefix
import Derived.Shelf.Strings.Split
import Derived.Shelf.Strings.SplitShaped
import Derived.Shelf.Unicode.Decode
import Derived.Shelf.Strings.RuneCount
import Derived.Shelf.Strings.Explode
import Derived.Shelf.Unicode.DecodeSlow
import Derived.Shelf.Unicode.DecodeAny
import Derived.Shelf.Slices.Turned
import Derived.Test.YtmkniipdkanbbaaGreatDoorProg
set_option linter.unusedVariables false
set_option linter.unusedSimpArgs false
set_option maxRecDepth 100000
set_option maxHeartbeats 4000000
set_option cbv.maxSteps 3000000
namespace Go.Proofs.YtmkniipdkanbbaaGreatDoor.AM
/- Lists of numbers and of arms; conditions: none. -/
def rowsA (H : Hold) (L : Unit → List Arm) (j : Nat) : List AV := [.lit (.int .i64 (H Int fun _ => ((L ()).getD j default).f.d)), .lit (.int .i64 (H Int fun _ => ((L ()).getD j default).f.l)), .lit (.int .i64 (H Int fun _ => ((L ()).getD j default).f.p)), .lit (.int .i64 (H Int fun _ => ((L ()).getD j default).f.q)), .lit (.int .i64 (H Int fun _ => ((L ()).getD j default).o)), .lit (.int .i64 (H Int fun _ => ((L ()).getD j default).l)), .lit (.int .i64 (H Int fun _ => ((L ()).getD j default).t)), .lit (.int .i64 (H Int fun _ => ((L ()).getD j default).n.c)), .lit (.int .i64 (H Int fun _ => ((L ()).getD j default).n.k)), .lit (.int .i64 (H Int fun _ => ((L ()).getD j default).n.a)), .lit (.int .i64 (H Int fun _ => ((L ()).getD j default).n.t)), .lit (.int .i64 (H Int fun _ => ((L ()).getD j default).r.c)), .lit (.int .i64 (H Int fun _ => ((L ()).getD j default).r.k)), .lit (.int .i64 (H Int fun _ => ((L ()).getD j default).r.a)), .lit (.int .i64 (H Int fun _ => ((L ()).getD j default).r.t))]
def rowA : RowD Arm := ⟨15, default, fun H x => [.lit (.int .i64 (H Int fun _ => (x ()).f.d)), .lit (.int .i64 (H Int fun _ => (x ()).f.l)), .lit (.int .i64 (H Int fun _ => (x ()).f.p)), .lit (.int .i64 (H Int fun _ => (x ()).f.q)), .lit (.int .i64 (H Int fun _ => (x ()).o)), .lit (.int .i64 (H Int fun _ => (x ()).l)), .lit (.int .i64 (H Int fun _ => (x ()).t)), .lit (.int .i64 (H Int fun _ => (x ()).n.c)), .lit (.int .i64 (H Int fun _ => (x ()).n.k)), .lit (.int .i64 (H Int fun _ => (x ()).n.a)), .lit (.int .i64 (H Int fun _ => (x ()).n.t)), .lit (.int .i64 (H Int fun _ => (x ()).r.c)), .lit (.int .i64 (H Int fun _ => (x ()).r.k)), .lit (.int .i64 (H Int fun _ => (x ()).r.a)), .lit (.int .i64 (H Int fun _ => (x ()).r.t))], fun l => match l with
  | [.lit (.int _ x0), .lit (.int _ x1), .lit (.int _ x2), .lit (.int _ x3), .lit (.int _ x4), .lit (.int _ x5), .lit (.int _ x6), .lit (.int _ x7), .lit (.int _ x8), .lit (.int _ x9), .lit (.int _ x10), .lit (.int _ x11), .lit (.int _ x12), .lit (.int _ x13), .lit (.int _ x14)] => ⟨⟨x0, x1, x2, x3⟩, x4, x5, x6, ⟨x7, x8, x9, x10⟩, ⟨x11, x12, x13, x14⟩⟩
  | _ => default, rowsA⟩
theorem okRA : RowOk rowA := ⟨fun _ => rfl, fun x c hc => by simp [rowA] at hc; rcases hc with rfl | rfl | rfl | rfl | rfl | rfl | rfl | rfl | rfl | rfl | rfl | rfl | rfl | rfl | rfl <;> exact .lit, fun _ => rfl, fun _ _ => rfl⟩
theorem Arm.eta (a : Arm) : (⟨⟨a.f.d, a.f.l, a.f.p, a.f.q⟩, a.o, a.l, a.t, ⟨a.n.c, a.n.k, a.n.a, a.n.t⟩, ⟨a.r.c, a.r.k, a.r.a, a.r.t⟩⟩ : Arm) = a := rfl
theorem Plain_rowsA (n : Nat) (H : Hold) (L : Unit → List Arm) : Plain n (rowsA H L) = True := eq_true ⟨fun j _ x hx => by simp [rowsA] at hx; rcases hx with rfl | rfl | rfl | rfl | rfl | rfl | rfl | rfl | rfl | rfl | rfl | rfl | rfl | rfl | rfl <;> rfl⟩

def rowsG (H : Hold) (L : Unit → List Grp) (j : Nat) : List AV := [.lit (.int .i64 (H Int fun _ => ((L ()).getD j default).c)), .lit (.int .i64 (H Int fun _ => ((L ()).getD j default).k)), .lit (.int .i64 (H Int fun _ => ((L ()).getD j default).a)), .lit (.int .i64 (H Int fun _ => ((L ()).getD j default).t))]
def rowG : RowD Grp := ⟨4, default, fun H x => [.lit (.int .i64 (H Int fun _ => (x ()).c)), .lit (.int .i64 (H Int fun _ => (x ()).k)), .lit (.int .i64 (H Int fun _ => (x ()).a)), .lit (.int .i64 (H Int fun _ => (x ()).t))], fun l => match l with
  | [.lit (.int _ x0), .lit (.int _ x1), .lit (.int _ x2), .lit (.int _ x3)] => ⟨x0, x1, x2, x3⟩
  | _ => default, rowsG⟩
theorem okRG : RowOk rowG := ⟨fun _ => rfl, fun x c hc => by simp [rowG] at hc; rcases hc with rfl | rfl | rfl | rfl <;> exact .lit, fun _ => rfl, fun _ _ => rfl⟩
theorem Grp.eta (a : Grp) : (⟨a.c, a.k, a.a, a.t⟩ : Grp) = a := rfl
theorem Plain_rowsG (n : Nat) (H : Hold) (L : Unit → List Grp) : Plain n (rowsG H L) = True := eq_true ⟨fun j _ x hx => by simp [rowsG] at hx; rcases hx with rfl | rfl | rfl | rfl <;> rfl⟩
def eqrG (a b : Grp) : Bool := allT [fun _ => a.c == b.c, fun _ => a.k == b.k, fun _ => a.a == b.a, fun _ => a.t == b.t]
theorem eqrG_iff {a b : Grp} : eqrG a b = true ↔ a = b := by
  obtain ⟨a0, a1, a2, a3⟩ := a; obtain ⟨b0, b1, b2, b3⟩ := b
  simp [eqrG, allT, and_assoc]
instance : DecidableEq Grp := fun a b => decidable_of_iff (eqrG a b = true) eqrG_iff
def rowsF (H : Hold) (L : Unit → List Fld) (j : Nat) : List AV := [.lit (.int .i64 (H Int fun _ => ((L ()).getD j default).d)), .lit (.int .i64 (H Int fun _ => ((L ()).getD j default).l)), .lit (.int .i64 (H Int fun _ => ((L ()).getD j default).p)), .lit (.int .i64 (H Int fun _ => ((L ()).getD j default).q))]
def rowF : RowD Fld := ⟨4, default, fun H x => [.lit (.int .i64 (H Int fun _ => (x ()).d)), .lit (.int .i64 (H Int fun _ => (x ()).l)), .lit (.int .i64 (H Int fun _ => (x ()).p)), .lit (.int .i64 (H Int fun _ => (x ()).q))], fun l => match l with
  | [.lit (.int _ x0), .lit (.int _ x1), .lit (.int _ x2), .lit (.int _ x3)] => ⟨x0, x1, x2, x3⟩
  | _ => default, rowsF⟩
theorem okRF : RowOk rowF := ⟨fun _ => rfl, fun x c hc => by simp [rowF] at hc; rcases hc with rfl | rfl | rfl | rfl <;> exact .lit, fun _ => rfl, fun _ _ => rfl⟩
theorem Fld.eta (a : Fld) : (⟨a.d, a.l, a.p, a.q⟩ : Fld) = a := rfl
theorem Plain_rowsF (n : Nat) (H : Hold) (L : Unit → List Fld) : Plain n (rowsF H L) = True := eq_true ⟨fun j _ x hx => by simp [rowsF] at hx; rcases hx with rfl | rfl | rfl | rfl <;> rfl⟩
def eqrF (a b : Fld) : Bool := allT [fun _ => a.d == b.d, fun _ => a.l == b.l, fun _ => a.p == b.p, fun _ => a.q == b.q]
theorem eqrF_iff {a b : Fld} : eqrF a b = true ↔ a = b := by
  obtain ⟨a0, a1, a2, a3⟩ := a; obtain ⟨b0, b1, b2, b3⟩ := b
  simp [eqrF, allT, and_assoc]
instance : DecidableEq Fld := fun a b => decidable_of_iff (eqrF a b = true) eqrF_iff
theorem Arm.eta2 (a : Arm) : (⟨a.f, a.o, a.l, a.t, a.n, a.r⟩ : Arm) = a := rfl
theorem vrow_I (l : List Int) : vrow (lget l) = rowsI stdH fun _ => l := rfl
def eqA (a b : Arm) : Bool := allT [fun _ => a.f.d == b.f.d, fun _ => a.f.l == b.f.l, fun _ => a.f.p == b.f.p, fun _ => a.f.q == b.f.q, fun _ => a.o == b.o, fun _ => a.l == b.l, fun _ => a.t == b.t, fun _ => a.n.c == b.n.c, fun _ => a.n.k == b.n.k, fun _ => a.n.a == b.n.a, fun _ => a.n.t == b.n.t, fun _ => a.r.c == b.r.c, fun _ => a.r.k == b.r.k, fun _ => a.r.a == b.r.a, fun _ => a.r.t == b.r.t]
theorem eqA_iff {a b : Arm} : eqA a b = true ↔ a = b := by
  obtain ⟨⟨a0, a1, a2, a3⟩, a4, a5, a6, ⟨a7, a8, a9, a10⟩, ⟨a11, a12, a13, a14⟩⟩ := a
  obtain ⟨⟨b0, b1, b2, b3⟩, b4, b5, b6, ⟨b7, b8, b9, b10⟩, ⟨b11, b12, b13, b14⟩⟩ := b
  simp [eqA, allT, and_assoc]
instance : DecidableEq Arm := fun a b => decidable_of_iff (eqA a b = true) eqA_iff
theorem eqAE (a b : Arm) : allT [fun _ => a.f.d == b.f.d, fun _ => a.f.l == b.f.l, fun _ => a.f.p == b.f.p, fun _ => a.f.q == b.f.q, fun _ => a.o == b.o, fun _ => a.l == b.l, fun _ => a.t == b.t, fun _ => a.n.c == b.n.c, fun _ => a.n.k == b.n.k, fun _ => a.n.a == b.n.a, fun _ => a.n.t == b.n.t, fun _ => a.r.c == b.r.c, fun _ => a.r.k == b.r.k, fun _ => a.r.a == b.r.a, fun _ => a.r.t == b.r.t] = decide (a = b) := by
  rw [Bool.eq_iff_iff, decide_eq_true_eq]; exact eqA_iff
theorem w1 {n : Nat} (h : n < 1000000000) : IntKind.i64.wrap ((n : Int) + 1) = ((n + 1 : Nat) : Int) := by rw [wi] <;> omega
theorem getD_mem {α : Type} {l : List α} {i : Nat} {d : α} (h : i < l.length) : l.getD i d ∈ l := by rw [List.getD_eq_getElem?_getD, List.getElem?_eq_getElem h]; exact List.getElem_mem h
theorem Tl_I (L : List Int) : Tl rowI L.length (rowsI stdH fun _ => L) = L := Tl_rowsT okI L
theorem Shp_I (n : Nat) (L : List Int) : Shp rowI n (rowsI stdH fun _ => L) := Shp_rowsT okI n (fun _ => L)

theorem zqy : type_of% (And.intro @vrow_I (And.intro @Arm.eta2 (And.intro @Fld.eta @Grp.eta))) := And.intro @vrow_I (And.intro @Arm.eta2 (And.intro @Fld.eta @Grp.eta))
theorem zqs : type_of% (And.intro @Plain_rowsA (And.intro @Plain_rowsB (And.intro @Plain_rowsF (And.intro @Plain_rowsG (And.intro @Plain_rowsI (And.intro @Plain_rowsS @Plain_rowsU)))))) := And.intro @Plain_rowsA (And.intro @Plain_rowsB (And.intro @Plain_rowsF (And.intro @Plain_rowsG (And.intro @Plain_rowsI (And.intro @Plain_rowsS @Plain_rowsU)))))
end Go.Proofs.YtmkniipdkanbbaaGreatDoor.AM

set_option maxRecDepth 100000
set_option maxHeartbeats 4000000
set_option cbv.maxSteps 3000000
namespace Go.Proofs.YtmkniipdkanbbaaGreatDoor.AM
/- Where something stands in a list; conditions: none. -/
def idxF {α : Type} (p : α → Bool) (l : List α) : Int := if l.any p then ((l.findIdx p : Nat) : Int) else -1
theorem idxF_at {α : Type} {p : α → Bool} {l : List α} {i : Nat} (d : α) (hi : i < l.length) (h : p (l.getD i d) = true) (hj : ∀ j, j < i → p (l.getD j d) = false) : idxF p l = (i : Nat) := by
  have e : ∀ j, (q : j < l.length) → l.getD j d = l[j] := fun j q => by rw [List.getD_eq_getElem?_getD, List.getElem?_eq_getElem q]; rfl
  have h1 : l.findIdx p = i := by
    rw [List.findIdx_eq hi]
    exact ⟨by rw [← e i hi]; exact h, fun j hji => by rw [← e j (by omega)]; exact hj j hji⟩
  unfold idxF
  rw [if_pos (List.any_eq_true.2 ⟨_, List.getElem_mem hi, by rw [← e i hi]; exact h⟩), h1]
theorem none_any {α : Type} {p : α → Bool} {l : List α} (d : α) (hj : ∀ j, j < l.length → p (l.getD j d) = false) : l.any p = false := by
  rw [List.any_eq_false]
  intro x hx
  obtain ⟨i, hi, e⟩ := List.getElem_of_mem hx
  have := hj i hi
  rw [List.getD_eq_getElem?_getD, List.getElem?_eq_getElem hi] at this
  rw [← e]; simpa using this
theorem idxF_no {α : Type} {p : α → Bool} {l : List α} (d : α) (hj : ∀ j, j < l.length → p (l.getD j d) = false) : idxF p l = -1 := by
  unfold idxF; rw [none_any d hj]; rfl
theorem idxF_ge {α : Type} (p : α → Bool) (l : List α) : decide (idxF p l ≥ 0) = l.any p := by
  unfold idxF
  cases l.any p
  · rfl
  · simp
end Go.Proofs.YtmkniipdkanbbaaGreatDoor.AM

namespace Go.Proofs
open Go.Shelf
def Tryz.lays103_ren : Go.Shelf.Ren := ⟨fun | 103 => 119 | 210 => 159 | 206 => 172 | n => n, fun | 9 => 9 | 4 => 4 | 24 => 39 | 3 => 3 | n => n, fun | n => n⟩
theorem Tryz.lays103 : Go.Proofs.Lays.n103 Tryz.prog Tryz.lays103_ren := {
  mixed := by kernel_rfl
  f103 := Tryz.func119.trans (congrArg some (by kernel_rfl))
  f206 := Tryz.func172.trans (congrArg some (by kernel_rfl))
  f210 := Tryz.func159.trans (congrArg some (by kernel_rfl))
  t3 := Tryz.underlying3
  a3 := Tryz.isAgg3
  z3 := Tryz.sizeOf3
  v3 := Tryz.zeroValue3
  t4 := Tryz.underlying4
  a4 := Tryz.isAgg4
  z4 := Tryz.sizeOf4
  v4 := Tryz.zeroValue4
  t9 := Tryz.underlying9
  a9 := Tryz.isAgg9
  z9 := Tryz.sizeOf9
  v9 := Tryz.zeroValue9
  t24 := Tryz.underlying39
  a24 := Tryz.isAgg39
  z24 := Tryz.sizeOf39
  v24 := Tryz.zeroValue39 }
open Go.RowKit in
theorem Tryz.strings_CutPrefix (s p : ByteArray) (w : World) :
    Calls Tryz.prog 119 #[.string s, .string p] w fun e w' => e = .returned (.tuple #[.string ⟨(Lib.trimPrefix s.data.toList p.data.toList).toArray⟩, .bool (Lib.hasPrefix s.data.toList p.data.toList)]) ∧ w' = w := Any.strings_CutPrefix Tryz.lays103 s p w
def Tryz.lays104_ren : Go.Shelf.Ren := ⟨fun | 104 => 65 | 211 => 116 | 207 => 157 | n => n, fun | 9 => 9 | 4 => 4 | 24 => 39 | 3 => 3 | n => n, fun | n => n⟩
theorem Tryz.lays104 : Go.Proofs.Lays.n104 Tryz.prog Tryz.lays104_ren := {
  mixed := by kernel_rfl
  f104 := Tryz.func65.trans (congrArg some (by kernel_rfl))
  f207 := Tryz.func157.trans (congrArg some (by kernel_rfl))
  f211 := Tryz.func116.trans (congrArg some (by kernel_rfl))
  t3 := Tryz.underlying3
  a3 := Tryz.isAgg3
  z3 := Tryz.sizeOf3
  v3 := Tryz.zeroValue3
  t4 := Tryz.underlying4
  a4 := Tryz.isAgg4
  z4 := Tryz.sizeOf4
  v4 := Tryz.zeroValue4
  t9 := Tryz.underlying9
  a9 := Tryz.isAgg9
  z9 := Tryz.sizeOf9
  v9 := Tryz.zeroValue9
  t24 := Tryz.underlying39
  a24 := Tryz.isAgg39
  z24 := Tryz.sizeOf39
  v24 := Tryz.zeroValue39 }
open Go.RowKit in
theorem Tryz.strings_CutSuffix (s p : ByteArray) (w : World) (hs : s.size ≤ 9223372036854775807) :
    Calls Tryz.prog 65 #[.string s, .string p] w fun e w' => e = .returned (.tuple #[.string ⟨(Lib.trimSuffix s.data.toList p.data.toList).toArray⟩, .bool (Lib.hasSuffix s.data.toList p.data.toList)]) ∧ w' = w := Any.strings_CutSuffix Tryz.lays104 s p w hs
def Tryz.laysM145_ren : Go.Shelf.Ren := ⟨fun | 145 => 60 | 220 => 113 | 219 => 153 | 217 => 165 | 225 => 166 | 224 => 167 | 267 => 168 | 266 => 173 | 314 => 174 | n => n, fun | 9 => 9 | 4 => 4 | 59 => 84 | 3 => 3 | 5 => 5 | 46 => 151 | 146 => 157 | 51 => 156 | n => n, fun | 1 => 0 | n => n⟩
theorem Tryz.laysM145 : Go.Proofs.LaysM.n145 Tryz.prog Tryz.laysM145_ren := {
  mixed := by kernel_rfl
  f145 := Tryz.func60.trans (congrArg some (by kernel_rfl))
  f217 := Tryz.func165.trans (congrArg some (by kernel_rfl))
  f219 := Tryz.func153.trans (congrArg some (by kernel_rfl))
  f220 := Tryz.func113.trans (congrArg some (by kernel_rfl))
  f224 := Tryz.func167.trans (congrArg some (by kernel_rfl))
  f225 := Tryz.func166.trans (congrArg some (by kernel_rfl))
  f266 := Tryz.func173.trans (congrArg some (by kernel_rfl))
  f267 := Tryz.func168.trans (congrArg some (by kernel_rfl))
  f314 := Tryz.func174.trans (congrArg some (by kernel_rfl))
  t3 := Tryz.underlying3
  a3 := Tryz.isAgg3
  z3 := Tryz.sizeOf3
  v3 := Tryz.zeroValue3
  t4 := Tryz.underlying4
  a4 := Tryz.isAgg4
  z4 := Tryz.sizeOf4
  v4 := Tryz.zeroValue4
  t5 := Tryz.underlying5
  a5 := Tryz.isAgg5
  z5 := Tryz.sizeOf5
  v5 := Tryz.zeroValue5
  t9 := Tryz.underlying9
  a9 := Tryz.isAgg9
  z9 := Tryz.sizeOf9
  v9 := Tryz.zeroValue9
  t46 := Tryz.underlying151
  a46 := Tryz.isAgg151
  z46 := Tryz.sizeOf151
  v46 := Tryz.zeroValue151
  t51 := Tryz.underlying156
  a51 := Tryz.isAgg156
  z51 := Tryz.sizeOf156
  v51 := Tryz.zeroValue156
  t59 := Tryz.underlying84
  a59 := Tryz.isAgg84
  z59 := Tryz.sizeOf84
  v59 := Tryz.zeroValue84
  t146 := Tryz.underlying157
  a146 := Tryz.isAgg157
  z146 := Tryz.sizeOf157
  v146 := Tryz.zeroValue157
  g1 := by kernel_rfl
  i3 := by kernel_rfl
  i4 := by kernel_rfl
  i5 := by kernel_rfl
  i9 := by kernel_rfl
  i46 := by kernel_rfl
  i51 := by kernel_rfl
  i59 := by kernel_rfl
  i146 := by kernel_rfl
  m1 := by kernel_rfl
  s1_3 := fun w h => Go.Proofs.cell_of_shapedOpen_int (zero := #[.int .i64 0]) (t := 3) h (of_decide_eq_true (by kernel_rfl)) (by kernel_rfl) rfl (by kernel_rfl) (by kernel_rfl) Tryz.underlying3 }
open Go.RowKit Go.Lib in
theorem Tryz.strings_Cut_shaped (s sep : ByteArray) (w : World) (h : w.ShapedOpen Tryz.prog) (hs : s.size < 4294967281) :
    Calls Tryz.prog 60 #[.string s, .string sep] w fun e w' => e = .returned (.tuple #[.string ⟨(Lib.cut s.data.toList sep.data.toList).1.toArray⟩, .string ⟨(Lib.cut s.data.toList sep.data.toList).2.1.toArray⟩, .bool (Lib.cut s.data.toList sep.data.toList).2.2]) ∧ ∃ n, w' = w.drewN n := Any.strings_Cut_shaped Tryz.laysM145 s sep w h hs
def Tryz.lays102_ren : Go.Shelf.Ren := ⟨fun | 102 => 75 | 209 => 132 | 207 => 157 | n => n, fun | 9 => 9 | 4 => 4 | 3 => 3 | n => n, fun | n => n⟩
theorem Tryz.lays102 : Go.Proofs.Lays.n102 Tryz.prog Tryz.lays102_ren := {
  mixed := by kernel_rfl
  f102 := Tryz.func75.trans (congrArg some (by kernel_rfl))
  f207 := Tryz.func157.trans (congrArg some (by kernel_rfl))
  f209 := Tryz.func132.trans (congrArg some (by kernel_rfl))
  t3 := Tryz.underlying3
  a3 := Tryz.isAgg3
  z3 := Tryz.sizeOf3
  v3 := Tryz.zeroValue3
  t4 := Tryz.underlying4
  a4 := Tryz.isAgg4
  z4 := Tryz.sizeOf4
  v4 := Tryz.zeroValue4
  t9 := Tryz.underlying9
  a9 := Tryz.isAgg9
  z9 := Tryz.sizeOf9
  v9 := Tryz.zeroValue9 }
open Go.RowKit Go.Lib in
theorem Tryz.strings_TrimSuffix (s p : ByteArray) (w : World) (hs : s.size ≤ 9223372036854775807) :
    Calls Tryz.prog 75 #[.string s, .string p] w fun e w' => e = .returned (.string ⟨(Lib.trimSuffix s.data.toList p.data.toList).toArray⟩) ∧ w' = w := Any.strings_TrimSuffix Tryz.lays102 s p w hs
def Tryz.laysM146_ren : Go.Shelf.Ren := ⟨fun | 146 => 61 | 221 => 114 | 268 => 154 | 138 => 155 | 143 => 156 | 195 => 169 | 197 => 170 | 218 => 171 | 219 => 153 | 260 => 175 | 217 => 165 | 225 => 166 | 224 => 167 | 267 => 168 | 266 => 173 | 314 => 174 | n => n, fun | 9 => 9 | 31 => 92 | 3 => 3 | 4 => 4 | 0 => 0 | 105 => 154 | 21 => 21 | 5 => 5 | 46 => 151 | 119 => 159 | 139 => 162 | 138 => 161 | 146 => 157 | 51 => 156 | n => n, fun | 1 => 0 | 3 => 1 | 4 => 2 | n => n⟩
theorem Tryz.laysM146 : Go.Proofs.LaysM.n146 Tryz.prog Tryz.laysM146_ren := {
  mixed := by kernel_rfl
  f138 := Tryz.func155.trans (congrArg some (by kernel_rfl))
  f143 := Tryz.func156.trans (congrArg some (by kernel_rfl))
  f146 := Tryz.func61.trans (congrArg some (by kernel_rfl))
  f195 := Tryz.func169.trans (congrArg some (by kernel_rfl))
  f197 := Tryz.func170.trans (congrArg some (by kernel_rfl))
  f217 := Tryz.func165.trans (congrArg some (by kernel_rfl))
  f218 := Tryz.func171.trans (congrArg some (by kernel_rfl))
  f219 := Tryz.func153.trans (congrArg some (by kernel_rfl))
  f221 := Tryz.func114.trans (congrArg some (by kernel_rfl))
  f224 := Tryz.func167.trans (congrArg some (by kernel_rfl))
  f225 := Tryz.func166.trans (congrArg some (by kernel_rfl))
  f260 := Tryz.func175.trans (congrArg some (by kernel_rfl))
  f266 := Tryz.func173.trans (congrArg some (by kernel_rfl))
  f267 := Tryz.func168.trans (congrArg some (by kernel_rfl))
  f268 := Tryz.func154.trans (congrArg some (by kernel_rfl))
  f314 := Tryz.func174.trans (congrArg some (by kernel_rfl))
  t0 := Tryz.underlying0
  a0 := Tryz.isAgg0
  z0 := Tryz.sizeOf0
  v0 := Tryz.zeroValue0
  t3 := Tryz.underlying3
  a3 := Tryz.isAgg3
  z3 := Tryz.sizeOf3
  v3 := Tryz.zeroValue3
  t4 := Tryz.underlying4
  a4 := Tryz.isAgg4
  z4 := Tryz.sizeOf4
  v4 := Tryz.zeroValue4
  t5 := Tryz.underlying5
  a5 := Tryz.isAgg5
  z5 := Tryz.sizeOf5
  v5 := Tryz.zeroValue5
  t9 := Tryz.underlying9
  a9 := Tryz.isAgg9
  z9 := Tryz.sizeOf9
  v9 := Tryz.zeroValue9
  t21 := Tryz.underlying21
  a21 := Tryz.isAgg21
  z21 := Tryz.sizeOf21
  v21 := Tryz.zeroValue21
  t31 := Tryz.underlying92
  a31 := Tryz.isAgg92
  z31 := Tryz.sizeOf92
  v31 := Tryz.zeroValue92
  t46 := Tryz.underlying151
  a46 := Tryz.isAgg151
  z46 := Tryz.sizeOf151
  v46 := Tryz.zeroValue151
  t51 := Tryz.underlying156
  a51 := Tryz.isAgg156
  z51 := Tryz.sizeOf156
  v51 := Tryz.zeroValue156
  t105 := Tryz.underlying154
  a105 := Tryz.isAgg154
  z105 := Tryz.sizeOf154
  v105 := Tryz.zeroValue154
  t119 := Tryz.underlying159
  a119 := Tryz.isAgg159
  z119 := Tryz.sizeOf159
  t138 := Tryz.underlying161
  a138 := Tryz.isAgg161
  z138 := Tryz.sizeOf161
  v138 := Tryz.zeroValue161
  t139 := Tryz.underlying162
  a139 := Tryz.isAgg162
  z139 := Tryz.sizeOf162
  v139 := Tryz.zeroValue162
  t146 := Tryz.underlying157
  a146 := Tryz.isAgg157
  z146 := Tryz.sizeOf157
  v146 := Tryz.zeroValue157
  g1 := by kernel_rfl
  g3 := by kernel_rfl
  g4 := by kernel_rfl
  i0 := by kernel_rfl
  i3 := by kernel_rfl
  i4 := by kernel_rfl
  i5 := by kernel_rfl
  i9 := by kernel_rfl
  i21 := by kernel_rfl
  i31 := by kernel_rfl
  i46 := by kernel_rfl
  i51 := by kernel_rfl
  i105 := by kernel_rfl
  i138 := by kernel_rfl
  i139 := by kernel_rfl
  i146 := by kernel_rfl
  m1 := by kernel_rfl
  s1_3 := fun w h => Go.Proofs.cell_of_shapedOpen_int (zero := #[.int .i64 0]) (t := 3) h (of_decide_eq_true (by kernel_rfl)) (by kernel_rfl) rfl (by kernel_rfl) (by kernel_rfl) Tryz.underlying3
  m3 := by kernel_rfl
  m4 := by kernel_rfl }
open Go.RowKit Go.Lib in
theorem Tryz.strings_Split_shaped (s sep : ByteArray) (w : World) (h : w.ShapedOpen Tryz.prog) (hs : s.size < 4294967281) (h1 : 1 ≤ sep.size) :
    Calls Tryz.prog 61 #[.string s, .string sep] w fun e w' =>
      e = .returned (.slice (some ⟨w.heap.size, 0, none⟩) (Lib.countB s sep + 1) (Lib.countB s sep + 1)) ∧ w' = w.alloc (.cells ((Lib.splitB sep 0 (Lib.countB s sep) s).map Value.string).toArray 9) := Any.strings_Split_shaped Tryz.laysM146 s sep w h hs h1
end Go.Proofs

set_option maxRecDepth 100000
set_option maxHeartbeats 4000000
set_option cbv.maxSteps 3000000
namespace Go.Proofs.YtmkniipdkanbbaaGreatDoor.AM
/- The library's contracts, as the machine takes them; conditions: none. -/
theorem LRel.lits {C : Cx} : ∀ {l : List Value} {vs : List Value}, LRel C (l.map .lit) vs → vs = l
  | [], [], _ => rfl
  | [], _ :: _, h => by have := h.1; simp at this
  | _ :: _, [], h => by have := h.1; simp at this
  | x :: l, v :: vs, h => by
    have h1 := h.2 0 (.lit x) v rfl rfl
    cases h1
    have := LRel.lits (C := C) (l := l) (vs := vs) ⟨by simpa using h.1, fun c y u hy hu => h.2 (c + 1) y u (by simpa using hy) (by simpa using hu)⟩
    rw [this]
theorem con_shelf {f : FuncId} {l : List Value} {r : AV} {v : Value} (hr : ∀ C, Rel C r v) (h : ∀ w : World, w.ShapedOpen Tryz.prog → Calls Tryz.prog f l.toArray w fun e w' => e = .returned v ∧ ∃ n, w' = w.drewN n) : Con Tryz.prog f (l.map .lit) [] r [] := by
  intro C vs hl _ _ hg
  rw [hl.lits]
  refine (h C.w hg.shaped).mono fun e w' ⟨he, n, hw⟩ => ⟨v, he, ⟨C.β, C.ok, C.ow, w'⟩, rfl, ⟨?_, by simp, fun _ _ => rfl, fun _ h => h, fun _ h => .inl h⟩, by simp <;> omega, by simp <;> omega, by simp <;> omega, by simp <;> omega, fun y hy => ?_, by simp [named], by simp⟩
  · subst hw
    exact ⟨rfl, rfl, rfl, Nat.le_refl _, fun _ _ _ => rfl, fun _ c _ h => ⟨c, h, rfl⟩⟩
  · injection hy with hy
    subst hy
    exact hr _
theorem con_belowG {f : FuncId} {l : List Value} {r : AV} {v : Value} (hr : ∀ C, Rel C r v) (h : ∀ (w : World) (ow : Nat → Prop), Glo w ow → Calls Tryz.prog f l.toArray w fun e w' => e = .returned v ∧ RowKit.Below w.heap.size w w') : Con Tryz.prog f (l.map .lit) [] r [] := by
  intro C vs hl _ _ hg
  rw [hl.lits]
  refine (h C.w _ hg).mono fun e w' ⟨he, hw⟩ => ⟨v, he, ⟨C.β, C.ok, C.ow, w'⟩, rfl, ⟨⟨hw.os, hw.tape, hw.output, hw.size, fun k hk _ => hw.block k hk, fun k c T hc => ⟨c, ?_, rfl⟩⟩, by simp, fun _ _ => rfl, fun _ h => h, fun _ h => .inl h⟩, by simp <;> omega, by simp <;> omega, by simp <;> omega, by simp <;> omega, fun y hy => ?_, by simp [named], by simp⟩
  · show w'.heap[k]? = _
    rw [hw.block k (Array.getElem?_eq_some_iff.1 hc).1]; exact hc
  · injection hy with hy
    subst hy
    exact hr _
theorem con_below {f : FuncId} {l : List Value} {r : AV} {v : Value} (hr : ∀ C, Rel C r v) (h : ∀ w : World, w.ShapedOpen Tryz.prog → Calls Tryz.prog f l.toArray w fun e w' => e = .returned v ∧ RowKit.Below w.heap.size w w') : Con Tryz.prog f (l.map .lit) [] r [] := con_belowG hr fun w _ hg => h w hg.shaped
theorem con_texts {f : FuncId} {l : List Value} {L : List ByteArray} {T : TypeId} (hL : L.length ≤ maxLen) (h : ∀ w : World, w.ShapedOpen Tryz.prog → Calls Tryz.prog f l.toArray w fun e w' => e = .returned (.slice (some ⟨w.heap.size, 0, none⟩) L.length L.length) ∧ w' = w.alloc (.cells (L.map Value.string).toArray T)) : Con Tryz.prog f (l.map .lit) [] (.vec 1 L.length (rowsS stdH fun _ => L)) [] := by
  intro C vs hl _ _ hg
  rw [hl.lits]
  refine (h C.w hg.shaped).mono fun e w' ⟨he, hw⟩ => ⟨_, he, ⟨C.β, C.ok, C.ow, w'⟩, rfl, ⟨?_, by simp, fun _ _ => rfl, fun _ h => h, fun _ h => .inl h⟩, by simp <;> omega, by simp <;> omega, by simp <;> omega, by simp <;> omega, fun y hy => ?_, by simp [named], by simp⟩
  · subst hw; exact .alloc _ _ _
  · injection hy with hy
    subst hy
    subst hw
    refine .vec (fun j _ => .string (L.getD j ByteArray.empty)) (Nat.le_refl _) hL (fun _ _ => rfl) (fun _ => ⟨C.w.heap.size, 0, rfl, fun h => Nat.lt_irrefl _ (hg.lt _ h), by simp, fun j c hj hc => ?_⟩) (fun _ _ _ _ => rfl) (fun j c x hj hx => ?_)
    · obtain rfl : c = 0 := by omega
      show World.cell? _ ⟨C.w.heap.size, 0 + j * 1 + 0, none⟩ = _
      rw [World.cell?_alloc_new, Nat.zero_add, Nat.mul_one, Nat.add_zero]
      simp only [List.getElem?_toArray, List.getElem?_map, List.getElem?_eq_getElem hj, Option.map_some, List.getD_eq_getElem?_getD, Option.getD_some]
    · rcases c with _ | c
      · simp [rowsS] at hx; subst hx; exact .lit rfl
      · simp [rowsS] at hx
theorem rel_tup3 {C : Cx} {a b c : Value} (ha : a.oneCell' = true) (hb : b.oneCell' = true) (hc : c.oneCell' = true) : Rel C (.tup [.lit a, .lit b, .lit c]) (.tuple #[a, b, c]) :=
  .tup (vs := [a, b, c]) rfl fun i x v hx hv => by
    rcases i with _ | _ | _ | i <;> simp at hx hv <;> subst hx <;> subst hv
    · exact .lit ha
    · exact .lit hb
    · exact .lit hc
theorem c_cut (s sep : ByteArray) (h0 : s.size < 4294967281) : Con Tryz.prog 60 [.lit (.string s), .lit (.string sep)] [] (.tup [.lit (.string ⟨(Lib.cut s.data.toList sep.data.toList).1.toArray⟩), .lit (.string ⟨(Lib.cut s.data.toList sep.data.toList).2.1.toArray⟩), .lit (.bool (Lib.cut s.data.toList sep.data.toList).2.2)]) [] :=
  con_shelf (l := [.string s, .string sep]) (fun _ => rel_tup3 rfl rfl rfl) fun w hw => Tryz.strings_Cut_shaped s sep w hw h0
end Go.Proofs.YtmkniipdkanbbaaGreatDoor.AM

set_option maxRecDepth 100000
set_option maxHeartbeats 4000000
set_option cbv.maxSteps 3000000
namespace Go.Proofs.YtmkniipdkanbbaaGreatDoor.AM
/- Texts parted at spaces; conditions: none. -/
def spl : List UInt8 → List (List UInt8)
  | [] => [[]]
  | b :: l => if b = 32 then [] :: spl l else match spl l with
    | [] => [[b]]
    | w :: ws => (b :: w) :: ws
theorem spl_cons (b : UInt8) (l : List UInt8) : spl (b :: l) = if b = 32 then [] :: spl l else match spl l with
    | [] => [[b]]
    | w :: ws => (b :: w) :: ws := rfl
theorem spl_ne : ∀ l, spl l ≠ []
  | [] => by simp [spl]
  | b :: l => by unfold spl; split; · simp
                 · split <;> simp
theorem spl_no : ∀ {l : List UInt8}, (∀ b ∈ l, b ≠ 32) → spl l = [l]
  | [], _ => rfl
  | b :: l, h => by
    unfold spl
    rw [if_neg (h b (by simp)), spl_no fun c hc => h c (by simp [hc])]
theorem spl_at : ∀ {l : List UInt8} {i : Nat}, l[i]? = some 32 → (∀ j, j < i → l[j]? ≠ some 32) → spl l = l.take i :: spl (l.drop (i + 1))
  | [], i, h, _ => by simp at h
  | b :: l, 0, h, _ => by
    simp at h; subst h
    rw [spl_cons, if_pos rfl]; rfl
  | b :: l, i + 1, h, hj => by
    have hb : b ≠ 32 := by have := hj 0 (by omega); simpa using this
    have ih := spl_at (l := l) (i := i) (by simpa using h) (fun j q => by have := hj (j + 1) (by omega); simpa using this)
    rw [spl_cons, if_neg hb, ih]
    rfl
theorem index_at : ∀ (l : List UInt8) (i : Nat), l[i]? = some 32 → (∀ j, j < i → l[j]? ≠ some 32) → Lib.index l [32] = (i : Nat)
  | [], i, h, _ => by simp at h
  | b :: l, 0, h, _ => by
    simp at h; subst h
    unfold Lib.index; rfl
  | b :: l, i + 1, h, hj => by
    have hb : b ≠ 32 := by have := hj 0 (by omega); simpa using this
    have ih := index_at l i (by simpa using h) (fun j q => by have := hj (j + 1) (by omega); simpa using this)
    unfold Lib.index
    have e1 : List.isPrefixOf [32] (b :: l) = false := by simp [List.isPrefixOf]; exact fun e => hb e.symm
    rw [e1, ih]
    have e2 : ((i : Int) == -1) = false := by rw [beq_eq_false_iff_ne]; omega
    rw [e2]; rfl
theorem first_32 : ∀ l : List UInt8, (∀ b ∈ l, b ≠ 32) ∨ ∃ i : Nat, l[i]? = some 32 ∧ ∀ j, j < i → l[j]? ≠ some 32
  | [] => .inl (by simp)
  | b :: l => by
    by_cases hb : b = 32
    · exact .inr ⟨0, by simp [hb], by omega⟩
    · rcases first_32 l with h | ⟨i, h1, h2⟩
      · exact .inl (by simp [hb]; exact fun a ha => h a ha)
      · refine .inr ⟨i + 1, by simpa using h1, fun j hj => ?_⟩
        cases j with
        | zero => simpa using hb
        | succ j => simpa using h2 j (by omega)
theorem index_no : ∀ {l : List UInt8}, (∀ b ∈ l, b ≠ 32) → Lib.index l [32] = -1
  | [], _ => rfl
  | b :: l, h => by
    unfold Lib.index
    have hb := h b (by simp)
    have e1 : List.isPrefixOf [32] (b :: l) = false := by simp [List.isPrefixOf]; exact fun e => hb e.symm
    rw [e1, index_no fun c hc => h c (by simp [hc])]
    rfl
def spB : ByteArray := (⟨⟨[32]⟩⟩ : ByteArray)
def ofL (l : List UInt8) : ByteArray := ⟨⟨l⟩⟩
def wordsB (s : ByteArray) : List ByteArray := (spl s.data.toList).map ofL
theorem split_eq : ∀ (n : Nat) (s : ByteArray), s.size ≤ n → Lib.splitB spB 0 (Lib.countB s spB) s = wordsB s := by
  intro n
  induction n with
  | zero =>
    intro s hs
    have e : s.data.toList = [] := List.eq_nil_of_length_eq_zero (by have : s.data.toList.length = s.size := rfl; omega)
    have hm : Lib.indexB s spB = -1 := by show Lib.index s.data.toList [32] = -1; rw [e]; rfl
    rw [Lib.splitB_miss _ _ _ _ hm]
    unfold wordsB
    rw [e]
    show [s] = [ofL []]
    congr 1
    exact ByteArray.ext (Array.ext' e)
  | succ n ih =>
    intro s hs
    rcases first_32 s.data.toList with h | ⟨i, h1, h2⟩
    · have hm : Lib.indexB s spB = -1 := index_no h
      rw [Lib.splitB_miss _ _ _ _ hm]
      unfold wordsB
      rw [spl_no h]
      rfl
    · have hi : Lib.indexB s spB = (i : Nat) := index_at _ _ h1 h2
      have hlt : i < s.size := (List.getElem?_eq_some_iff.1 h1).1
      rw [Lib.countB_hit s spB i (by decide) hi, Nat.add_comm, Lib.splitB_hit _ _ _ _ _ hi, ih _ (by rw [ByteArray.size_extract]; show min s.size s.size - (i + 1) ≤ n; omega)]
      unfold wordsB
      rw [spl_at h1 h2, List.map_cons]
      congr 1
      · apply ByteArray.ext; apply Array.ext'; simp [ofL]
      · congr 2
        show (s.extract (i + 1) s.size).data.toList = _
        have : s.data.toList.length = s.size := rfl
        simp
        rw [List.take_of_length_le (by simp)]
theorem words_len (s : ByteArray) : (wordsB s).length ≤ s.size + 1 := by
  have : ∀ l : List UInt8, (spl l).length ≤ l.length + 1 := fun l => by
    induction l with
    | nil => simp [spl]
    | cons b l ih =>
      unfold spl
      split
      · simp; omega
      · split
        · simp
        · rename_i w ws e; rw [e] at ih; simp at ih ⊢; omega
  unfold wordsB; rw [List.length_map]
  exact this s.data.toList
theorem c_split (s : ByteArray) (h0 : s.size < 4294967281) : Con Tryz.prog 61 [.lit (.string s), .lit (.string spB)] [] (.vec 1 (wordsB s).length (rowsS stdH fun _ => wordsB s)) [] :=
  con_texts (l := [.string s, .string spB]) (by have := words_len s; unfold maxLen; omega) fun w hw => (Tryz.strings_Split_shaped s spB w hw h0 (by decide)).mono fun e w' ⟨h1, h2⟩ => by
    have e1 := Lib.splitB_all spB (by decide) 0 _ s rfl
    rw [split_eq s.size s (Nat.le_refl _)] at h2 e1
    rw [e1]
    exact ⟨h1, h2⟩
noncomputable def e_split : Entry := pureE 61 fun H a => match a with
  | [.lit (.string s), .lit (.string p)] => some (.vec 1 (H Nat fun _ => (wordsB s).length) (rowsS H fun _ => wordsB s), [H Prop fun _ => s.size < 4294967281, H Prop fun _ => p = spB])
  | _ => none
theorem eok_split : EntryOk Tryz.prog e_split := pureE_ok (by unfold isBody; kernel_rfl) (by
  intro a r ob e hob
  split at e
  · simp only [zqt] at e
    obtain ⟨rfl, rfl⟩ := e
    obtain ⟨h0, h1, _⟩ := hob
    subst h1
    exact c_split _ h0
  · simp at e)
end Go.Proofs.YtmkniipdkanbbaaGreatDoor.AM

