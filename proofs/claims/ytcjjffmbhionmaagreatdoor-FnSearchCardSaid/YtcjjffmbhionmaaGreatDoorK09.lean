/- Lemmas and contracts (Lst Shf Spl Let Bex); conditions: none. -/
import Derived.Test.YtcjjffmbhionmaaGreatDoorK03
import Derived.Test.YtcjjffmbhionmaaGreatDoorK04
import Derived.Test.YtcjjffmbhionmaaGreatDoorK05
import Derived.Test.YtcjjffmbhionmaaGreatDoorK08
import Derived.Shelf.Strings.SlTrimAscii
import Derived.Below
set_option linter.unusedVariables false
set_option linter.unusedSimpArgs false
set_option maxRecDepth 100000
set_option maxHeartbeats 4000000
set_option cbv.maxSteps 3000000
namespace Go.Proofs.YtcjjffmbhionmaaGreatDoor.AM
/- Lists of numbers and of arms; conditions: none. -/
def rowsA (H : Hold) (L : Unit → List Arm) (j : Nat) : List AV := [.lit (.int .i64 (H Int fun _ => ((L ()).getD j default).f.d)), .lit (.int .i64 (H Int fun _ => ((L ()).getD j default).f.l)), .lit (.int .i64 (H Int fun _ => ((L ()).getD j default).f.p)), .lit (.int .i64 (H Int fun _ => ((L ()).getD j default).f.q)), .lit (.int .i64 (H Int fun _ => ((L ()).getD j default).o)), .lit (.int .i64 (H Int fun _ => ((L ()).getD j default).l)), .lit (.int .i64 (H Int fun _ => ((L ()).getD j default).t)), .lit (.int .i64 (H Int fun _ => ((L ()).getD j default).n.c)), .lit (.int .i64 (H Int fun _ => ((L ()).getD j default).n.k)), .lit (.int .i64 (H Int fun _ => ((L ()).getD j default).n.a)), .lit (.int .i64 (H Int fun _ => ((L ()).getD j default).n.t)), .lit (.int .i64 (H Int fun _ => ((L ()).getD j default).r.c)), .lit (.int .i64 (H Int fun _ => ((L ()).getD j default).r.k)), .lit (.int .i64 (H Int fun _ => ((L ()).getD j default).r.a)), .lit (.int .i64 (H Int fun _ => ((L ()).getD j default).r.t))]
def rowA : RowD Arm := ⟨15, default, fun H x => [.lit (.int .i64 (H Int fun _ => (x ()).f.d)), .lit (.int .i64 (H Int fun _ => (x ()).f.l)), .lit (.int .i64 (H Int fun _ => (x ()).f.p)), .lit (.int .i64 (H Int fun _ => (x ()).f.q)), .lit (.int .i64 (H Int fun _ => (x ()).o)), .lit (.int .i64 (H Int fun _ => (x ()).l)), .lit (.int .i64 (H Int fun _ => (x ()).t)), .lit (.int .i64 (H Int fun _ => (x ()).n.c)), .lit (.int .i64 (H Int fun _ => (x ()).n.k)), .lit (.int .i64 (H Int fun _ => (x ()).n.a)), .lit (.int .i64 (H Int fun _ => (x ()).n.t)), .lit (.int .i64 (H Int fun _ => (x ()).r.c)), .lit (.int .i64 (H Int fun _ => (x ()).r.k)), .lit (.int .i64 (H Int fun _ => (x ()).r.a)), .lit (.int .i64 (H Int fun _ => (x ()).r.t))], fun l => match l with
  | [.lit (.int _ x0), .lit (.int _ x1), .lit (.int _ x2), .lit (.int _ x3), .lit (.int _ x4), .lit (.int _ x5), .lit (.int _ x6), .lit (.int _ x7), .lit (.int _ x8), .lit (.int _ x9), .lit (.int _ x10), .lit (.int _ x11), .lit (.int _ x12), .lit (.int _ x13), .lit (.int _ x14)] => ⟨⟨x0, x1, x2, x3⟩, x4, x5, x6, ⟨x7, x8, x9, x10⟩, ⟨x11, x12, x13, x14⟩⟩
  | _ => default, rowsA⟩
theorem okRA : RowOk rowA := ⟨fun _ => rfl, fun x c hc => by simp [rowA] at hc; rcases hc with rfl | rfl | rfl | rfl | rfl | rfl | rfl | rfl | rfl | rfl | rfl | rfl | rfl | rfl | rfl <;> exact .lit, fun _ => rfl, fun _ _ => rfl⟩
theorem Arm.eta (a : Arm) : (⟨⟨a.f.d, a.f.l, a.f.p, a.f.q⟩, a.o, a.l, a.t, ⟨a.n.c, a.n.k, a.n.a, a.n.t⟩, ⟨a.r.c, a.r.k, a.r.a, a.r.t⟩⟩ : Arm) = a := rfl
theorem Plain_rowsA (n : Nat) (H : Hold) (L : Unit → List Arm) : Plain n (rowsA H L) = True := eq_true ⟨fun j _ x hx => by simp [rowsA] at hx; rcases hx with rfl | rfl | rfl | rfl | rfl | rfl | rfl | rfl | rfl | rfl | rfl | rfl | rfl | rfl | rfl <;> rfl⟩

def rowsG (H : Hold) (L : Unit → List Grp) (j : Nat) : List AV := [.lit (.int .i64 (H Int fun _ => ((L ()).getD j default).c)), .lit (.int .i64 (H Int fun _ => ((L ()).getD j default).k)), .lit (.int .i64 (H Int fun _ => ((L ()).getD j default).a)), .lit (.int .i64 (H Int fun _ => ((L ()).getD j default).t))]
theorem Grp.eta (a : Grp) : (⟨a.c, a.k, a.a, a.t⟩ : Grp) = a := rfl
theorem Plain_rowsG (n : Nat) (H : Hold) (L : Unit → List Grp) : Plain n (rowsG H L) = True := eq_true ⟨fun j _ x hx => by simp [rowsG] at hx; rcases hx with rfl | rfl | rfl | rfl <;> rfl⟩
def eqrG (a b : Grp) : Bool := allT [fun _ => a.c == b.c, fun _ => a.k == b.k, fun _ => a.a == b.a, fun _ => a.t == b.t]
theorem eqrG_iff {a b : Grp} : eqrG a b = true ↔ a = b := by
  obtain ⟨a0, a1, a2, a3⟩ := a; obtain ⟨b0, b1, b2, b3⟩ := b
  simp [eqrG, allT, and_assoc]
instance : DecidableEq Grp := fun a b => decidable_of_iff (eqrG a b = true) eqrG_iff
def rowsF (H : Hold) (L : Unit → List Fld) (j : Nat) : List AV := [.lit (.int .i64 (H Int fun _ => ((L ()).getD j default).d)), .lit (.int .i64 (H Int fun _ => ((L ()).getD j default).l)), .lit (.int .i64 (H Int fun _ => ((L ()).getD j default).p)), .lit (.int .i64 (H Int fun _ => ((L ()).getD j default).q))]
theorem Fld.eta (a : Fld) : (⟨a.d, a.l, a.p, a.q⟩ : Fld) = a := rfl
theorem Plain_rowsF (n : Nat) (H : Hold) (L : Unit → List Fld) : Plain n (rowsF H L) = True := eq_true ⟨fun j _ x hx => by simp [rowsF] at hx; rcases hx with rfl | rfl | rfl | rfl <;> rfl⟩
def eqrF (a b : Fld) : Bool := allT [fun _ => a.d == b.d, fun _ => a.l == b.l, fun _ => a.p == b.p, fun _ => a.q == b.q]
theorem eqrF_iff {a b : Fld} : eqrF a b = true ↔ a = b := by
  obtain ⟨a0, a1, a2, a3⟩ := a; obtain ⟨b0, b1, b2, b3⟩ := b
  simp [eqrF, allT, and_assoc]
instance : DecidableEq Fld := fun a b => decidable_of_iff (eqrF a b = true) eqrF_iff
theorem Arm.eta2 (a : Arm) : (⟨a.f, a.o, a.l, a.t, a.n, a.r⟩ : Arm) = a := rfl
theorem vrow_I (l : List Int) : vrow (lget l) = rowsI stdH fun _ => l := rfl
def eqA (a b : Arm) : Bool := allT [fun _ => a.f.d == b.f.d, fun _ => a.f.l == b.f.l, fun _ => a.f.p == b.f.p, fun _ => a.f.q == b.f.q, fun _ => a.o == b.o, fun _ => a.l == b.l, fun _ => a.t == b.t, fun _ => a.n.c == b.n.c, fun _ => a.n.k == b.n.k, fun _ => a.n.a == b.n.a, fun _ => a.n.t == b.n.t, fun _ => a.r.c == b.r.c, fun _ => a.r.k == b.r.k, fun _ => a.r.a == b.r.a, fun _ => a.r.t == b.r.t]
theorem eqA_iff {a b : Arm} : eqA a b = true ↔ a = b := by
  obtain ⟨⟨a0, a1, a2, a3⟩, a4, a5, a6, ⟨a7, a8, a9, a10⟩, ⟨a11, a12, a13, a14⟩⟩ := a
  obtain ⟨⟨b0, b1, b2, b3⟩, b4, b5, b6, ⟨b7, b8, b9, b10⟩, ⟨b11, b12, b13, b14⟩⟩ := b
  simp [eqA, allT, and_assoc]
instance : DecidableEq Arm := fun a b => decidable_of_iff (eqA a b = true) eqA_iff
theorem w1 {n : Nat} (h : n < 1000000000) : IntKind.i64.wrap ((n : Int) + 1) = ((n + 1 : Nat) : Int) := by rw [wi] <;> omega
theorem getD_mem {α : Type} {l : List α} {i : Nat} {d : α} (h : i < l.length) : l.getD i d ∈ l := by rw [List.getD_eq_getElem?_getD, List.getElem?_eq_getElem h]; exact List.getElem_mem h
theorem not_mem_getD {l : List Int} {x : Int} (h : ∀ j, j < l.length → l.getD j 0 ≠ x) : ¬ x ∈ l := fun hm => by
  obtain ⟨i, hi, e⟩ := List.getElem_of_mem hm
  refine h i hi ?_
  rw [List.getD_eq_getElem?_getD, List.getElem?_eq_getElem hi]; exact e
theorem Tl_I (L : List Int) : Tl rowI L.length (rowsI stdH fun _ => L) = L := Tl_rowsT okI L
theorem Shp_I (n : Nat) (L : List Int) : Shp rowI n (rowsI stdH fun _ => L) := Shp_rowsT okI n (fun _ => L)
theorem c_rHas (list : List Int) (x : Int) (h0 : list.length ≤ 1000000) : ConN Tryz.prog 21 [.vec 1 (stdH Nat fun _ => (list).length) (rowsI stdH fun _ => list), .lit (.int .i64 x)] [] 0 (.lit (.bool (stdH Bool fun _ => list.contains x))) [] [] := by
  have hB : Base Tryz.prog (tabΓ []) tab := base_of tabOk (ents_nil)
  refine con_m (N := 18) hB (draw_ok hB mixed) Tryz.func21 rfl rfl (fun H => [.vec 1 (H Nat fun _ => (list).length) (rowsI H fun _ => list), .lit (.int .i64 x)]) (fun _ => []) 0 (fun H => .lit (.bool (H Bool fun _ => list.contains x))) (fun H => []) (fun _ => []) 100 (by simp) (fun x hx => ?_) (by simp [lk]) (by omega) (by simp) ?_
  · simp only [zqu] at hx
    rcases hx with rfl | rfl
    · exact vl_bl okI list _
    · exact .lit
  intro X hX hX0 H hH
  conv in Fin.chk _ _ => cbv
  try simp only [Plain_rowsB, Plain_rowsI, Plain_rowsS, Plain_rowsU, zqx, AllP, zqw, upd, if_true]
  refine loop_a hB (draw_ok hB mixed) hX hX0 hH false (ι := { i : Nat // i ≤ list.length ∧ ∀ j, j < i → list.getD j 0 ≠ x }) 100 (fun i => [.i (H Int fun _ => (i.1 : Nat))]) (fun i => list.length - i.1) (⟨0, by omega, by omega⟩) ?_ ?_
  · (conv in matchSt _ _ _ _ => cbv); simp only [AllG, AllP, and_true, hH, stdH, zql, ncast, zqe, vrow_I, Arm.eta2, Fld.eta, Grp.eta]
    exact ⟨rfl, trivial, .self okI⟩
  · intro I hI i
    conv in Fin.chk _ _ => cbv
    try simp only [Plain_rowsB, Plain_rowsI, Plain_rowsS, Plain_rowsU, zqx, AllP, zqw, upd, if_true]
    obtain ⟨i, hi, hj⟩ := i
    refine ⟨fun h1 => ?_, fun h1 => ?_⟩
    · simp only [hH, stdH, zqz, ne_eq, vrow_I, Arm.eta2, Fld.eta, Grp.eta] at h1
      refine ⟨?_, fun h2 => ?_, fun h2 => ?_⟩
      · try simp only [hH, stdH, zqz, ne_eq, vrow_I, Arm.eta2, Fld.eta, Grp.eta]
        omega
      · simp only [hH, stdH, zqz, ne_eq, vrow_I, Arm.eta2, Fld.eta, Grp.eta] at h2 ⊢
        rw [List.elem_eq_true_of_mem]
        rw [← h2]; exact getD_mem (by omega)
      · simp only [hH, stdH, zqz, ne_eq, vrow_I, Arm.eta2, Fld.eta, Grp.eta] at h2
        refine ⟨⟨i + 1, by omega, fun j hj' => ?_⟩, by simp only; omega, ?_⟩
        · rcases Nat.lt_succ_iff_lt_or_eq.1 hj' with h | rfl
          · exact hj j h
          · exact h2
        · rw [hI]
          (conv in matchSt _ _ _ _ => cbv); simp only [AllG, AllP, and_true, hH, stdH, zql, ncast, zqe, vrow_I, Arm.eta2, Fld.eta, Grp.eta]
          rw [w1 (by omega)]
          exact ⟨rfl, trivial, .self okI⟩
    · simp only [hH, stdH, zqz, ne_eq, vrow_I, Arm.eta2, Fld.eta, Grp.eta] at h1
      obtain rfl : i = list.length := by omega
      try simp only [hH, stdH, zqz, ne_eq, vrow_I, Arm.eta2, Fld.eta, Grp.eta]
      simpa using not_mem_getD hj
noncomputable def e_rHas : Entry := pureE 21 fun H a => match a with
  | [.vec 1 listn listf, .lit (.int .i64 x)] => some (.lit (.bool (H Bool fun _ => (Tl rowI listn listf).contains x)), [H Prop fun _ => Shp rowI listn listf, H Prop fun _ => (Tl rowI listn listf).length ≤ 1000000])
  | _ => none
theorem eok_rHas : EntryOk Tryz.prog e_rHas := pureM_ok (by unfold isBody; kernel_rfl) (by
  intro a r ob e hob
  split at e
  · rename_i listn listf x
    simp only [zqt] at e
    obtain ⟨rfl, rfl⟩ := e
    exact ConN.args (.cons (.toT okI rfl hob.1) (.cons .rfl .nil)) (c_rHas (Tl rowI listn listf) x hob.2.1)
  · simp at e)

theorem zqy : type_of% (And.intro @vrow_I (And.intro @Arm.eta2 (And.intro @Fld.eta @Grp.eta))) := And.intro @vrow_I (And.intro @Arm.eta2 (And.intro @Fld.eta @Grp.eta))
theorem zqs : type_of% (And.intro @Plain_rowsA (And.intro @Plain_rowsB (And.intro @Plain_rowsF (And.intro @Plain_rowsG (And.intro @Plain_rowsI (And.intro @Plain_rowsS @Plain_rowsU)))))) := And.intro @Plain_rowsA (And.intro @Plain_rowsB (And.intro @Plain_rowsF (And.intro @Plain_rowsG (And.intro @Plain_rowsI (And.intro @Plain_rowsS @Plain_rowsU)))))
end Go.Proofs.YtcjjffmbhionmaaGreatDoor.AM

set_option maxRecDepth 100000
set_option maxHeartbeats 4000000
set_option cbv.maxSteps 3000000
namespace Go.Proofs.YtcjjffmbhionmaaGreatDoor.AM
/- The library's contracts, as the machine takes them; conditions: none. -/
theorem LRel.lits {C : Cx} : ∀ {l : List Value} {vs : List Value}, LRel C (l.map .lit) vs → vs = l
  | [], [], _ => rfl
  | [], _ :: _, h => by have := h.1; simp at this
  | _ :: _, [], h => by have := h.1; simp at this
  | x :: l, v :: vs, h => by
    have h1 := h.2 0 (.lit x) v rfl rfl
    cases h1
    have := LRel.lits (C := C) (l := l) (vs := vs) ⟨by simpa using h.1, fun c y u hy hu => h.2 (c + 1) y u (by simpa using hy) (by simpa using hu)⟩
    rw [this]
theorem con_belowG {f : FuncId} {l : List Value} {r : AV} {v : Value} (hr : ∀ C, Rel C r v) (h : ∀ (w : World) (ow : Nat → Prop), Glo w ow → Calls Tryz.prog f l.toArray w fun e w' => e = .returned v ∧ RowKit.Below w.heap.size w w') : Con Tryz.prog f (l.map .lit) [] r [] := by
  intro C vs hl _ _ hg
  rw [hl.lits]
  refine (h C.w _ hg).mono fun e w' ⟨he, hw⟩ => ⟨v, he, ⟨C.β, C.ok, C.ow, w'⟩, rfl, ⟨⟨hw.os, hw.tape, hw.output, hw.size, fun k hk _ => hw.block k hk, fun k c T hc => ⟨c, ?_, rfl⟩⟩, by simp, fun _ _ => rfl, fun _ h => h, fun _ h => .inl h⟩, by simp <;> omega, by simp <;> omega, by simp <;> omega, by simp <;> omega, fun y hy => ?_, by simp [named], by simp⟩
  · show w'.heap[k]? = _
    rw [hw.block k (Array.getElem?_eq_some_iff.1 hc).1]; exact hc
  · injection hy with hy
    subst hy
    exact hr _
end Go.Proofs.YtcjjffmbhionmaaGreatDoor.AM

set_option maxRecDepth 100000
set_option maxHeartbeats 4000000
set_option cbv.maxSteps 3000000
namespace Go.Proofs.YtcjjffmbhionmaaGreatDoor.AM
/- Texts parted at spaces; conditions: none. -/
def ofL (l : List UInt8) : ByteArray := ⟨⟨l⟩⟩
theorem sByte_at {s : ByteArray} {i : Nat} (hi : i < s.size) : ∃ b : UInt8, s.data.toList[i]? = some b ∧ sByte s i = (b.toNat : Nat) := by
  have hl : i < s.data.toList.length := hi
  exact ⟨s.data.toList[i], List.getElem?_eq_getElem hl, by unfold sByte; rw [List.getD_eq_getElem?_getD, List.getElem?_eq_getElem hl]; rfl⟩
theorem RowsEq.snocS {L : List ByteArray} {x y : ByteArray} (e : y = x) : RowsEq 1 (L ++ [x]).length (rowsS stdH fun _ => L ++ [x]) (L.length + 1) (app L.length (rowsS stdH fun _ => L) (rowsS stdH fun _ => [y])) := by
  subst e
  exact RowsEq.more okS (Shp_rowsT okS 1 fun _ => [y]) (Tl_rowsT okS [y])

end Go.Proofs.YtcjjffmbhionmaaGreatDoor.AM

set_option maxRecDepth 100000
set_option maxHeartbeats 4000000
set_option cbv.maxSteps 3000000
namespace Go.Proofs.YtcjjffmbhionmaaGreatDoor.AM
/- Texts parted by the reference; initial letters; conditions: none. -/
theorem ofL_ext {s : ByteArray} {i j : Nat} : ofL ((s.data.toList.drop i).take (j - i)) = s.extract i j := by
  apply ByteArray.ext; apply Array.ext'; simp [ofL]
theorem ofL_end (s : ByteArray) (i : Nat) : ofL (s.data.toList.drop i) = s.extract i s.size := by
  have : s.data.toList.length = s.size := rfl
  rw [← ofL_ext, List.take_of_length_le (by simp)]
end Go.Proofs.YtcjjffmbhionmaaGreatDoor.AM

set_option maxRecDepth 100000
set_option maxHeartbeats 4000000
set_option cbv.maxSteps 3000000
namespace Go.Proofs.YtcjjffmbhionmaaGreatDoor.AM
/- Texts cut at a place; conditions: none. -/
theorem ofL_toL (l : List UInt8) : (ofL l).data.toList = l := rfl
theorem ext_right (p t : ByteArray) : (p ++ t).extract p.size (p ++ t).size = t := by
  apply ByteArray.ext; apply Array.ext'
  rw [← ofL_end, ofL_toL, ByteArray.toList_data_append]
  exact List.drop_left' rfl
theorem ext_both {s : ByteArray} (n : Nat) : s.extract 0 n ++ s.extract n s.size = s := by
  apply ByteArray.ext; apply Array.ext'
  rw [← ofL_ext, ← ofL_end, ByteArray.toList_data_append, ofL_toL, ofL_toL, List.drop_zero, Nat.sub_zero]
  exact List.take_append_drop _ _

end Go.Proofs.YtcjjffmbhionmaaGreatDoor.AM

