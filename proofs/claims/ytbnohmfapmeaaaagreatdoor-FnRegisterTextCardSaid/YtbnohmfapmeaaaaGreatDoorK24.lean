/- Lemmas and contracts (Shf Spt Drl); conditions: none. -/
import Derived.Test.YtbnohmfapmeaaaaGreatDoorK03
import Derived.Test.YtbnohmfapmeaaaaGreatDoorK10
import Derived.Test.YtbnohmfapmeaaaaGreatDoorK12
import Derived.Test.YtbnohmfapmeaaaaGreatDoorK13
import Derived.Test.YtbnohmfapmeaaaaGreatDoorK20
import Derived.Test.YtbnohmfapmeaaaaGreatDoorK21
import Derived.Test.YtbnohmfapmeaaaaGreatDoorK22
import Derived.Test.YtbnohmfapmeaaaaGreatDoorK23
import Derived.Below
set_option linter.unusedVariables false
set_option linter.unusedSimpArgs false
set_option maxRecDepth 100000
set_option maxHeartbeats 4000000
set_option cbv.maxSteps 3000000
namespace Go.Proofs.YtbnohmfapmeaaaaGreatDoor.AM
/- The library's contracts, as the machine takes them; conditions: none. -/
theorem LRel.lits {C : Cx} : ∀ {l : List Value} {vs : List Value}, LRel C (l.map .lit) vs → vs = l
  | [], [], _ => rfl
  | [], _ :: _, h => by have := h.1; simp at this
  | _ :: _, [], h => by have := h.1; simp at this
  | x :: l, v :: vs, h => by
    have h1 := h.2 0 (.lit x) v rfl rfl
    cases h1
    have := LRel.lits (C := C) (l := l) (vs := vs) ⟨by simpa using h.1, fun c y u hy hu => h.2 (c + 1) y u (by simpa using hy) (by simpa using hu)⟩
    rw [this]
theorem con_shelf {f : FuncId} {l : List Value} {r : AV} {v : Value} (hr : ∀ C, Rel C r v) (h : ∀ w : World, w.ShapedOpen Tryz.prog → Calls Tryz.prog f l.toArray w fun e w' => e = .returned v ∧ ∃ n, w' = w.drewN n) : Con Tryz.prog f (l.map .lit) [] r [] := by
  intro C vs hl _ _ hg
  rw [hl.lits]
  refine (h C.w hg.shaped).mono fun e w' ⟨he, n, hw⟩ => ⟨v, he, ⟨C.β, C.ok, C.ow, w'⟩, rfl, ⟨?_, by simp, fun _ _ => rfl, fun _ h => h, fun _ h => .inl h⟩, by simp <;> omega, by simp <;> omega, by simp <;> omega, by simp <;> omega, fun y hy => ?_, by simp [named], by simp⟩
  · subst hw
    exact ⟨rfl, rfl, rfl, Nat.le_refl _, fun _ _ _ => rfl, fun _ c _ h => ⟨c, h, rfl⟩⟩
  · injection hy with hy
    subst hy
    exact hr _
theorem con_belowG {f : FuncId} {l : List Value} {r : AV} {v : Value} (hr : ∀ C, Rel C r v) (h : ∀ (w : World) (ow : Nat → Prop), Glo w ow → Calls Tryz.prog f l.toArray w fun e w' => e = .returned v ∧ RowKit.Below w.heap.size w w') : Con Tryz.prog f (l.map .lit) [] r [] := by
  intro C vs hl _ _ hg
  rw [hl.lits]
  refine (h C.w _ hg).mono fun e w' ⟨he, hw⟩ => ⟨v, he, ⟨C.β, C.ok, C.ow, w'⟩, rfl, ⟨⟨hw.os, hw.tape, hw.output, hw.size, fun k hk _ => hw.block k hk, fun k c T hc => ⟨c, ?_, rfl⟩⟩, by simp, fun _ _ => rfl, fun _ h => h, fun _ h => .inl h⟩, by simp <;> omega, by simp <;> omega, by simp <;> omega, by simp <;> omega, fun y hy => ?_, by simp [named], by simp⟩
  · show w'.heap[k]? = _
    rw [hw.block k (Array.getElem?_eq_some_iff.1 hc).1]; exact hc
  · injection hy with hy
    subst hy
    exact hr _
theorem con_below {f : FuncId} {l : List Value} {r : AV} {v : Value} (hr : ∀ C, Rel C r v) (h : ∀ w : World, w.ShapedOpen Tryz.prog → Calls Tryz.prog f l.toArray w fun e w' => e = .returned v ∧ RowKit.Below w.heap.size w w') : Con Tryz.prog f (l.map .lit) [] r [] := con_belowG hr fun w _ hg => h w hg.shaped
theorem con_texts {f : FuncId} {l : List Value} {L : List ByteArray} {T : TypeId} (hL : L.length ≤ maxLen) (h : ∀ w : World, w.ShapedOpen Tryz.prog → Calls Tryz.prog f l.toArray w fun e w' => e = .returned (.slice (some ⟨w.heap.size, 0, none⟩) L.length L.length) ∧ w' = w.alloc (.cells (L.map Value.string).toArray T)) : Con Tryz.prog f (l.map .lit) [] (.vec 1 L.length (rowsS stdH fun _ => L)) [] := by
  intro C vs hl _ _ hg
  rw [hl.lits]
  refine (h C.w hg.shaped).mono fun e w' ⟨he, hw⟩ => ⟨_, he, ⟨C.β, C.ok, C.ow, w'⟩, rfl, ⟨?_, by simp, fun _ _ => rfl, fun _ h => h, fun _ h => .inl h⟩, by simp <;> omega, by simp <;> omega, by simp <;> omega, by simp <;> omega, fun y hy => ?_, by simp [named], by simp⟩
  · subst hw; exact .alloc _ _ _
  · injection hy with hy
    subst hy
    subst hw
    refine .vec (fun j _ => .string (L.getD j ByteArray.empty)) (Nat.le_refl _) hL (fun _ _ => rfl) (fun _ => ⟨C.w.heap.size, 0, rfl, fun h => Nat.lt_irrefl _ (hg.lt _ h), by simp, fun j c hj hc => ?_⟩) (fun _ _ _ _ => rfl) (fun j c x hj hx => ?_)
    · obtain rfl : c = 0 := by omega
      show World.cell? _ ⟨C.w.heap.size, 0 + j * 1 + 0, none⟩ = _
      rw [World.cell?_alloc_new, Nat.zero_add, Nat.mul_one, Nat.add_zero]
      simp only [List.getElem?_toArray, List.getElem?_map, List.getElem?_eq_getElem hj, Option.map_some, List.getD_eq_getElem?_getD, Option.getD_some]
    · rcases c with _ | c
      · simp [rowsS] at hx; subst hx; exact .lit rfl
      · simp [rowsS] at hx
theorem rel_tup3 {C : Cx} {a b c : Value} (ha : a.oneCell' = true) (hb : b.oneCell' = true) (hc : c.oneCell' = true) : Rel C (.tup [.lit a, .lit b, .lit c]) (.tuple #[a, b, c]) :=
  .tup (vs := [a, b, c]) rfl fun i x v hx hv => by
    rcases i with _ | _ | _ | i <;> simp at hx hv <;> subst hx <;> subst hv
    · exact .lit ha
    · exact .lit hb
    · exact .lit hc
theorem c_cut (s sep : ByteArray) (h0 : s.size < 4294967281) : Con Tryz.prog 62 [.lit (.string s), .lit (.string sep)] [] (.tup [.lit (.string ⟨(Lib.cut s.data.toList sep.data.toList).1.toArray⟩), .lit (.string ⟨(Lib.cut s.data.toList sep.data.toList).2.1.toArray⟩), .lit (.bool (Lib.cut s.data.toList sep.data.toList).2.2)]) [] :=
  con_shelf (l := [.string s, .string sep]) (fun _ => rel_tup3 rfl rfl rfl) fun w hw => Tryz.strings_Cut_shaped s sep w hw h0
end Go.Proofs.YtbnohmfapmeaaaaGreatDoor.AM

set_option linter.unusedVariables false
set_option linter.unusedSimpArgs false
set_option maxRecDepth 100000
set_option maxHeartbeats 4000000
set_option cbv.maxSteps 3000000
namespace Go.Proofs.YtbnohmfapmeaaaaGreatDoor.AM
/- Texts are spoilt, drawn; conditions: none. -/
def enc_spoilt (H : Hold) (y : Unit → ByteArray) : AV := .lit (.string (H ByteArray fun _ => ((y ()))))
theorem x_spoilt (c : Cd) (t : ByteArray) (u : ByteArray) (st : DS) (h : Bd 6 st) (k0 : t.size ≤ 1000000) (k1 : 1 ≤ u.size) (k2 : u.size ≤ 1000) : ∃ y, Drw Tryz.prog 107 78 6 enc_spoilt (fun y => y.size ≤ t.size + 1) c [.lit (.string t), .lit (.string u)] st y := by
  have hB : Base Tryz.prog (tabΓ [e_pick c]) tab := base_of tabOk (ents_cons (eok_pick c) <| ents_nil)
  refine drw_ok (N := 57) hB (draw_ok hB mixed) Tryz.func78 rfl rfl _ _ _ _ _ _ _ 100 (by simp) (by intro x hx; simp at hx; (first | done | (subst hx; first | (first | exact .lit | exact blq_ok 4 rfl) | exact .vec (fun j hj x hx => by simp [vrow] at hx; subst hx; exact .lit)) | (rcases hx with rfl | rfl <;> (first | exact .lit | exact blq_ok 4 rfl)) | (rcases hx with rfl | rfl | rfl <;> (first | exact .lit | exact blq_ok 4 rfl)))) ?_
  intro H hH
  conv in finish _ _ _ _ _ _ _ _ => cbv
  subst hH
  simp only [Fin.sat0, Fin.sat1, stdH, Option.some.injEq, AV.lit.injEq, AV.agg.injEq, AV.tup.injEq, List.cons.injEq, Value.bool.injEq, Value.int.injEq, AllP, and_true, true_and, eq_self, zqa, zqb, zqc, zqd, peta, ncast]
  obtain ⟨a1, m1, n1⟩ := p_pick c (t.size : Nat) st h.mono
  generalize F_pick c (t.size : Nat) st = y1 at *
  have b1 : Bd 4 y1.2 := a1.bd h
  obtain ⟨a2, m2, n2⟩ := p_pick c (u.size : Nat) y1.2 b1.mono
  generalize F_pick c (u.size : Nat) y1.2 = y2 at *
  have b2 : Bd 2 y2.2 := a2.bd b1
  have a3 := (p_pick c 3 y2.2 b2.mono).1
  generalize F_pick c 3 y2.2 = y3 at *
  have ws : ∀ x : ByteArray, (x.extract (loOf none) (hiOf x.size (some 1))).size ≤ 1 := fun x => by
    rw [ByteArray.size_extract]
    show min (1 : Int).toNat x.size - 0 ≤ 1
    omega
  have sx : ∀ (x : ByteArray) (i j : Nat), (x.extract i j).size = min j x.size - i := fun x i j => ByteArray.size_extract
  refine ⟨fun _ => ⟨⟨trivial, by show (0 : Int) ≤ 1; omega, by show 0 ≤ (1 : Int).toNat; omega, by show (1 : Int).toNat ≤ u.size; omega⟩, (_, st), .refl, by unfold enc_spoilt; exact .lit, rfl, .refl _ _, Nat.le_trans (ws u) (by omega)⟩, fun h0 => ?_⟩
  have ht : 1 ≤ t.size := by
    rcases Nat.eq_zero_or_pos t.size with e | e
    · have e1 : t.data.toList = [] := List.eq_nil_of_length_eq_zero e
      have e2 : t.toList = [] := by rw [ByteArray.toList_eq, e1]
      have e3 : (⟨⟨[]⟩⟩ : ByteArray).toList = [] := ByteArray.toList_eq _
      rw [e2, e3] at h0; simp at h0
    · exact e
  have hi : 0 ≤ y1.1 ∧ y1.1 < (t.size : Nat) := by omega
  have hj : 0 ≤ y2.1 ∧ y2.1 < (u.size : Nat) := by omega
  have ew : IntKind.i64.wrap (y1.1 + 1) = y1.1 + 1 := wi (by omega) (by omega)
  rw [ew]
  have h1 := ws (u.extract (loOf (some y2.1)) (hiOf u.size none))
  have l1 : loOf (some y1.1) = y1.1.toNat := rfl
  have l2 : ∀ n, hiOf n (some y1.1) = y1.1.toNat := fun _ => rfl
  have l3 : ∀ n, hiOf n none = n := fun _ => rfl
  have l4 : loOf none = 0 := rfl
  have l5 : loOf (some (y1.1 + 1)) = (y1.1 + 1).toNat := rfl
  have lw : okB (u.extract (loOf (some y2.1)) (hiOf u.size none)).size none (some 1) := ⟨trivial, by show (0 : Int) ≤ 1; omega, by show 0 ≤ (1 : Int).toNat; omega, by
    rw [sx, l3]
    show (1 : Int).toNat ≤ min u.size u.size - y2.1.toNat
    omega⟩
  generalize (u.extract (loOf (some y2.1)) (hiOf u.size none)).extract (loOf none) (hiOf (u.extract (loOf (some y2.1)) (hiOf u.size none)).size (some 1)) = w at *
  have o1 : okB t.size none (some y1.1) := ⟨trivial, hi.1, Nat.zero_le _, by show y1.1.toNat ≤ t.size; omega⟩
  have o2 : okB t.size (some y1.1) none := ⟨hi.1, trivial, by show y1.1.toNat ≤ t.size; omega, Nat.le_refl _⟩
  have o3 : okB t.size (some (y1.1 + 1)) none := ⟨by show 0 ≤ y1.1 + 1; omega, trivial, by show (y1.1 + 1).toNat ≤ t.size; omega, Nat.le_refl _⟩
  have o4 : okB u.size (some y2.1) none := ⟨hj.1, trivial, by show y2.1.toNat ≤ u.size; omega, Nat.le_refl _⟩
  have s1 : (t.extract (loOf none) (hiOf t.size (some y1.1))).size = y1.1.toNat := by rw [sx, l2, l4]; omega
  have s2 : (t.extract (loOf (some y1.1)) (hiOf t.size none)).size = t.size - y1.1.toNat := by rw [sx, l3, l1]; omega
  have s3 : (t.extract (loOf (some (y1.1 + 1))) (hiOf t.size none)).size = t.size - (y1.1.toNat + 1) := by rw [sx, l3, l5]; omega
  have av : Adv 6 st y3.2 := ((a1.t a2).t a3).le (by decide)
  refine ⟨h.mono, b1.mono, o4, lw, b2, fun _ => ⟨o1, by rw [s1]; omega, o2, by rw [ByteArray.size_append, s1, s2]; omega, (_, y3.2), .refl, by unfold enc_spoilt; exact .lit, rfl, av, by simp only [ByteArray.size_append]; rw [s1, s2]; omega⟩, fun _ => ⟨fun _ => ⟨o1, by rw [s1]; omega, o3, by rw [ByteArray.size_append, s1, s3]; omega, (_, y3.2), .refl, by unfold enc_spoilt; exact .lit, rfl, av, by simp only [ByteArray.size_append]; rw [s1, s3]; omega⟩, fun _ => ⟨o1, o3, by rw [s1, s3]; omega, (_, y3.2), .refl, by unfold enc_spoilt; exact .lit, rfl, av, by simp only [ByteArray.size_append]; rw [s1, s3]; omega⟩⟩⟩
noncomputable def F_spoilt (c : Cd) (t : ByteArray) (u : ByteArray) (st : DS) : ByteArray × DS := drw Tryz.prog 107 78 6 enc_spoilt (fun y => y.size ≤ t.size + 1) c [.lit (.string t), .lit (.string u)] st
noncomputable def e_spoilt (c : Cd) : Entry := curE 107 78 6 c fun H st a => match a with
  | [.lit (.string t), .lit (.string u)] => some (enc_spoilt H (fun _ => (F_spoilt c t u st).1), (fun _ => (F_spoilt c t u st).2), [H Prop fun _ => t.size ≤ 1000000, H Prop fun _ => 1 ≤ u.size, H Prop fun _ => u.size ≤ 1000])
  | _ => none
theorem eok_spoilt (c : Cd) : EntryOk Tryz.prog (e_spoilt c) := curE_ok (by unfold isBody; kernel_rfl) (by
  intro st a r y ob e hb hob
  split at e
  · simp only [Option.some.injEq, Prod.mk.injEq] at e
    obtain ⟨rfl, rfl, rfl⟩ := e
    exact ⟨(drw_spec (x_spoilt c _ _ st hb hob.1 hob.2.1 hob.2.2.1)).1, (by intro x hx; simp only [List.mem_cons, List.not_mem_nil, or_false] at hx; rcases hx with rfl | rfl <;> (first | (first | exact .lit | exact blq_ok 4 rfl) | exact .vec (fun j hj x hx => by rw [hob.1 j hj] at hx; simp [vrow] at hx; subst hx; exact .lit))), (by unfold enc_spoilt; (first | exact .lit | exact blq_ok 4 rfl))⟩
  · simp at e)
theorem p_spoilt (c : Cd) (t : ByteArray) (u : ByteArray) (st : DS) (h : Bd 6 st) (k0 : t.size ≤ 1000000) (k1 : 1 ≤ u.size) (k2 : u.size ≤ 1000) : Adv 6 st (F_spoilt c t u st).2 ∧ (fun y => y.size ≤ t.size + 1) (F_spoilt c t u st).1 := (drw_spec (x_spoilt c t u st h k0 k1 k2)).2

end Go.Proofs.YtbnohmfapmeaaaaGreatDoor.AM

set_option linter.unusedVariables false
set_option linter.unusedSimpArgs false
set_option maxRecDepth 100000
set_option maxHeartbeats 4000000
set_option cbv.maxSteps 3000000
namespace Go.Proofs.YtbnohmfapmeaaaaGreatDoor.AM
/- Findings drawn; conditions: none. -/
structure Sz (n : Nat) (l : List ByteArray) : Prop where
  le : ∀ s ∈ l, s.size ≤ n
theorem Sz.at {n : Nat} {l : List ByteArray} (h : Sz n l) (j : Nat) : (l.getD j ByteArray.empty).size ≤ n := by
  rcases Nat.lt_or_ge j l.length with g | g
  · rw [List.getD_eq_getElem?_getD, List.getElem?_eq_getElem g, Option.getD_some]
    exact h.le _ (List.getElem_mem g)
  · rw [List.getD_eq_getElem?_getD, List.getElem?_eq_none g, Option.getD_none]
    exact Nat.zero_le _
def r_ofS (n : Nat) (H : Hold) (y : Unit → ByteArray) : AV := .lit (.string (H ByteArray fun _ => (y ())))
def nb_ofS (H : Hold) (y : Unit → ByteArray) : List Blk := []
theorem x_ofS (c : Cd) (l : List ByteArray) (st : DS) (h : Bd 2 st) (h0 : 1 ≤ l.length) (h1 : l.length ≤ 100) (h2 : Sz 200 l) : ∃ y, DrwM Tryz.prog 107 81 2 r_ofS nb_ofS (fun y => y.size ≤ 200) c [.vec 1 (stdH Nat fun _ => (l).length) (rowsS stdH fun _ => l)] st y := by
  have hB : Base Tryz.prog (tabΓ [e_pick c]) tab := base_of tabOk (ents_cons (eok_pick c) <| ents_nil)
  refine drwM_ok (N := 12) hB (draw_ok hB mixed) Tryz.func81 rfl rfl 107 2 r_ofS nb_ofS (fun y => y.size ≤ 200) c (fun H => [.vec 1 (H Nat fun _ => (l).length) (rowsS H fun _ => l)]) st 100 (by simp) (fun x hx => ?_) ?_
  · simp only [List.mem_cons, List.not_mem_nil, or_false] at hx; rcases hx with rfl
    · exact vl_bl okS l _
  intro H hH
  conv in finish _ _ _ _ _ _ _ _ => cbv
  simp only [Fin.sat0, AllP, and_true, true_and, ncast, Int.ofNat_eq_natCast, heta hH]
  simp only [hlen hH]
  obtain ⟨a1, m1, n1⟩ := p_pick c (l.length) st (Bd.mono (by assumption)); generalize F_pick c (l.length) st = y1 at *; have b1 : Bd 0 y1.2 := Adv.bd a1 (by assumption)
  refine ⟨?_, ?_, ?_⟩
  · try simp only [hH, stdH, zql, zqa, zqb, zqc, zqd, peta, ncast, zqe, zqf, zqg, zqh, zqi, ne_eq, zqj, zqk, vrow_I, Arm.eta2, Fld.eta, Grp.eta]
    exact h.mono
  · try simp only [hH, stdH, zql, zqa, zqb, zqc, zqd, peta, ncast, zqe, zqf, zqg, zqh, zqi, ne_eq, zqj, zqk, vrow_I, Arm.eta2, Fld.eta, Grp.eta]
    omega
  · refine ⟨(l.getD y1.1.toNat ByteArray.empty, y1.2), a1, h2.at _, ?_⟩
    (conv in matchEx _ _ _ _ _ _ _ => cbv); simp only [AllG, AllP, and_true, hH, stdH, zql, ncast, zqe, vrow_I, Arm.eta2, Fld.eta, Grp.eta]
    (repeat' (first | with_reducible exact True.intro | exact c.rqN | rfl | refine And.intro ?_ ?_ | trivial))
noncomputable def F_ofS (c : Cd) (l : List ByteArray) (st : DS) : ByteArray × DS := drwM Tryz.prog 107 81 2 r_ofS nb_ofS (fun y => y.size ≤ 200) c [.vec 1 (stdH Nat fun _ => (l).length) (rowsS stdH fun _ => l)] st
noncomputable def e_ofS (c : Cd) : Entry := curEN 107 81 2 c fun H st a nx => match a with
  | [.vec 1 ln lf] => some (r_ofS nx H (fun _ => (F_ofS c (Tl rowS ln lf) st).1), nb_ofS H (fun _ => (F_ofS c (Tl rowS ln lf) st).1), (fun _ => (F_ofS c (Tl rowS ln lf) st).2), [H Prop fun _ => Shp rowS ln lf, H Prop fun _ => 1 ≤ (Tl rowS ln lf).length, H Prop fun _ => (Tl rowS ln lf).length ≤ 100, H Prop fun _ => Sz 200 (Tl rowS ln lf)])
  | _ => none
theorem eok_ofS (c : Cd) : EntryOk Tryz.prog (e_ofS c) := curEN_ok (by unfold isBody; kernel_rfl) (by
  intro st a nx r nb y ob e hb hob
  split at e
  · rename_i ln lf
    simp only [Option.some.injEq, Prod.mk.injEq] at e
    obtain ⟨rfl, rfl, rfl, rfl⟩ := e
    have hd := drwM_spec (x_ofS c (Tl rowS ln lf) st hb hob.2.1 hob.2.2.1 hob.2.2.2.1)
    refine ⟨_, _, ConN.args (.cons .rfl (.cons (.toT okS rfl hob.1) .nil)) hd.1, fun x hx => ?_, rfl, ?_, fun q b hq => ⟨b, hq, .same ?_⟩⟩
    · simp only [List.mem_cons, List.not_mem_nil, or_false] at hx
      rcases hx with rfl
      · exact (hob.1).bl okS _
    · (repeat' (first | exact .nil | exact .slc ⟨by omega, by simp [nb_ofS]⟩ (by omega) | exact .pl .lit | apply ReL.cons | apply Re.aggL | apply Re.tupL))
    · replace hq := List.mem_of_getElem? hq
      simp [nb_ofS] at hq
  · simp at e)
theorem p_ofS (c : Cd) (l : List ByteArray) (st : DS) (h : Bd 2 st) (h0 : 1 ≤ l.length) (h1 : l.length ≤ 100) (h2 : Sz 200 l) : Adv 2 st (F_ofS c l st).2 ∧ (fun y => y.size ≤ 200) (F_ofS c l st).1 := (drwM_spec (x_ofS c l st h h0 h1 h2)).2
theorem hs {H : Hold} (hH : H = stdH) (x : ByteArray) : (H ByteArray fun _ => x) = x := by subst hH; rfl
theorem hb {H : Hold} (hH : H = stdH) (x : Bool) : (H Bool fun _ => x) = x := by subst hH; rfl
end Go.Proofs.YtbnohmfapmeaaaaGreatDoor.AM

