/- Lemmas and contracts (Alw Drl); conditions: none. -/
import Derived.Test.YtcjjffmbhionmaaGreatDoorK03
import Derived.Test.YtcjjffmbhionmaaGreatDoorK04
import Derived.Test.YtcjjffmbhionmaaGreatDoorK11
import Derived.Test.YtcjjffmbhionmaaGreatDoorK13
import Derived.Test.YtcjjffmbhionmaaGreatDoorK14
import Derived.Test.YtcjjffmbhionmaaGreatDoorK15
set_option linter.unusedVariables false
set_option linter.unusedSimpArgs false
set_option maxRecDepth 100000
set_option maxHeartbeats 4000000
set_option cbv.maxSteps 3000000
namespace Go.Proofs.YtcjjffmbhionmaaGreatDoor.AM
/- Findings; conditions: none. -/
structure Fdg where
  p : Int
  u : Int
  l : Int
deriving Inhabited
def rowsD (H : Hold) (L : Unit → List Fdg) (j : Nat) : List AV := [.lit (.int .i64 (H Int fun _ => ((L ()).getD j default).p)), .lit (.int .i64 (H Int fun _ => ((L ()).getD j default).u)), .lit (.int .i64 (H Int fun _ => ((L ()).getD j default).l))]
theorem Fdg.eta (a : Fdg) : (⟨a.p, a.u, a.l⟩ : Fdg) = a := rfl
theorem Plain_rowsD (n : Nat) (H : Hold) (L : Unit → List Fdg) : Plain n (rowsD H L) = True := eq_true ⟨fun j _ x hx => by simp [rowsD] at hx; rcases hx with rfl | rfl | rfl <;> rfl⟩
def eqrD (a b : Fdg) : Bool := allT [fun _ => a.p == b.p, fun _ => a.u == b.u, fun _ => a.l == b.l]
theorem eqrD_iff {a b : Fdg} : eqrD a b = true ↔ a = b := by
  obtain ⟨a0, a1, a2⟩ := a; obtain ⟨b0, b1, b2⟩ := b
  simp [eqrD, allT, and_assoc]
instance : DecidableEq Fdg := fun a b => decidable_of_iff (eqrD a b = true) eqrD_iff
end Go.Proofs.YtcjjffmbhionmaaGreatDoor.AM

set_option linter.unusedVariables false
set_option linter.unusedSimpArgs false
set_option maxRecDepth 100000
set_option maxHeartbeats 4000000
set_option cbv.maxSteps 3000000
namespace Go.Proofs.YtcjjffmbhionmaaGreatDoor.AM
/- Findings drawn; conditions: none. -/
structure Sz (n : Nat) (l : List ByteArray) : Prop where
  le : ∀ s ∈ l, s.size ≤ n
theorem Sz.at {n : Nat} {l : List ByteArray} (h : Sz n l) (j : Nat) : (l.getD j ByteArray.empty).size ≤ n := by
  rcases Nat.lt_or_ge j l.length with g | g
  · rw [List.getD_eq_getElem?_getD, List.getElem?_eq_getElem g, Option.getD_some]
    exact h.le _ (List.getElem_mem g)
  · rw [List.getD_eq_getElem?_getD, List.getElem?_eq_none g, Option.getD_none]
    exact Nat.zero_le _
def r_ofS (n : Nat) (H : Hold) (y : Unit → ByteArray) : AV := .lit (.string (H ByteArray fun _ => (y ())))
def nb_ofS (H : Hold) (y : Unit → ByteArray) : List Blk := []
theorem x_ofS (c : Cd) (l : List ByteArray) (st : DS) (h : Bd 2 st) (h0 : 1 ≤ l.length) (h1 : l.length ≤ 100) (h2 : Sz 200 l) : ∃ y, DrwM Tryz.prog 66 47 2 r_ofS nb_ofS (fun y => y.size ≤ 200) c [.vec 1 (stdH Nat fun _ => (l).length) (rowsS stdH fun _ => l)] st y := by
  have hB : Base Tryz.prog (tabΓ [e_pick c]) tab := base_of tabOk (ents_cons (eok_pick c) <| ents_nil)
  refine drwM_ok (N := 12) hB (draw_ok hB mixed) Tryz.func47 rfl rfl 66 2 r_ofS nb_ofS (fun y => y.size ≤ 200) c (fun H => [.vec 1 (H Nat fun _ => (l).length) (rowsS H fun _ => l)]) st 100 (by simp) (fun x hx => ?_) ?_
  · simp only [List.mem_cons, List.not_mem_nil, or_false] at hx; rcases hx with rfl
    · exact vl_bl okS l _
  intro H hH
  conv in finish _ _ _ _ _ _ _ _ => cbv
  simp only [Fin.sat0, AllP, and_true, true_and, ncast, Int.ofNat_eq_natCast, heta hH]
  simp only [hlen hH]
  obtain ⟨a1, m1, n1⟩ := p_pick c (l.length) st (Bd.mono (by assumption)); generalize F_pick c (l.length) st = y1 at *; have b1 : Bd 0 y1.2 := Adv.bd a1 (by assumption)
  refine ⟨?_, ?_, ?_⟩
  · try simp only [hH, stdH, Nat.le_refl, decide_eq_true_eq, decide_eq_false_iff_not, Bool.not_eq_true', Bool.not_eq_false', peta, ncast, Int.ofNat_eq_natCast, beq_iff_eq, bne_iff_ne, beq_eq_false_iff_ne, bne_eq_false_iff_eq, ne_eq, Classical.not_not, Int.toNat_natCast, vrow_I, Arm.eta2, Fld.eta, Grp.eta]
    exact h.mono
  · try simp only [hH, stdH, Nat.le_refl, decide_eq_true_eq, decide_eq_false_iff_not, Bool.not_eq_true', Bool.not_eq_false', peta, ncast, Int.ofNat_eq_natCast, beq_iff_eq, bne_iff_ne, beq_eq_false_iff_ne, bne_eq_false_iff_eq, ne_eq, Classical.not_not, Int.toNat_natCast, vrow_I, Arm.eta2, Fld.eta, Grp.eta]
    omega
  · refine ⟨(l.getD y1.1.toNat ByteArray.empty, y1.2), a1, h2.at _, ?_⟩
    (conv in matchEx _ _ _ _ _ _ _ => cbv); simp only [AllG, AllP, and_true, hH, stdH, Nat.le_refl, ncast, Int.ofNat_eq_natCast, vrow_I, Arm.eta2, Fld.eta, Grp.eta]
    (repeat' (first | with_reducible exact True.intro | exact c.rqN | rfl | refine And.intro ?_ ?_ | trivial))
noncomputable def F_ofS (c : Cd) (l : List ByteArray) (st : DS) : ByteArray × DS := drwM Tryz.prog 66 47 2 r_ofS nb_ofS (fun y => y.size ≤ 200) c [.vec 1 (stdH Nat fun _ => (l).length) (rowsS stdH fun _ => l)] st
noncomputable def e_ofS (c : Cd) : Entry := curEN 66 47 2 c fun H st a nx => match a with
  | [.vec 1 ln lf] => some (r_ofS nx H (fun _ => (F_ofS c (Tl rowS ln lf) st).1), nb_ofS H (fun _ => (F_ofS c (Tl rowS ln lf) st).1), (fun _ => (F_ofS c (Tl rowS ln lf) st).2), [H Prop fun _ => Shp rowS ln lf, H Prop fun _ => 1 ≤ (Tl rowS ln lf).length, H Prop fun _ => (Tl rowS ln lf).length ≤ 100, H Prop fun _ => Sz 200 (Tl rowS ln lf)])
  | _ => none
theorem eok_ofS (c : Cd) : EntryOk Tryz.prog (e_ofS c) := curEN_ok (by unfold isBody; kernel_rfl) (by
  intro st a nx r nb y ob e hb hob
  split at e
  · rename_i ln lf
    simp only [Option.some.injEq, Prod.mk.injEq] at e
    obtain ⟨rfl, rfl, rfl, rfl⟩ := e
    have hd := drwM_spec (x_ofS c (Tl rowS ln lf) st hb hob.2.1 hob.2.2.1 hob.2.2.2.1)
    refine ⟨_, _, ConN.args (.cons .rfl (.cons (.toT okS rfl hob.1) .nil)) hd.1, fun x hx => ?_, rfl, ?_, fun q b hq => ⟨b, hq, .same ?_⟩⟩
    · simp only [List.mem_cons, List.not_mem_nil, or_false] at hx
      rcases hx with rfl
      · exact (hob.1).bl okS _
    · (repeat' (first | exact .nil | exact .slc ⟨by omega, by simp [nb_ofS]⟩ (by omega) | exact .pl .lit | apply ReL.cons | apply Re.aggL | apply Re.tupL))
    · replace hq := List.mem_of_getElem? hq
      simp [nb_ofS] at hq
  · simp at e)
theorem p_ofS (c : Cd) (l : List ByteArray) (st : DS) (h : Bd 2 st) (h0 : 1 ≤ l.length) (h1 : l.length ≤ 100) (h2 : Sz 200 l) : Adv 2 st (F_ofS c l st).2 ∧ (fun y => y.size ≤ 200) (F_ofS c l st).1 := (drwM_spec (x_ofS c l st h h0 h1 h2)).2
theorem hs {H : Hold} (hH : H = stdH) (x : ByteArray) : (H ByteArray fun _ => x) = x := by subst hH; rfl
theorem hb {H : Hold} (hH : H = stdH) (x : Bool) : (H Bool fun _ => x) = x := by subst hH; rfl
end Go.Proofs.YtcjjffmbhionmaaGreatDoor.AM

