/- Lemmas and contracts (Spt Spo); conditions: none. -/
import Derived.Test.YtgjjedpoclhkfaaGreatDoorK03
import Derived.Test.YtgjjedpoclhkfaaGreatDoorK11
import Derived.Test.YtgjjedpoclhkfaaGreatDoorK16
import Derived.Test.YtgjjedpoclhkfaaGreatDoorK17
import Derived.Test.YtgjjedpoclhkfaaGreatDoorK19
import Derived.Test.YtgjjedpoclhkfaaGreatDoorK26
set_option linter.unusedVariables false
set_option linter.unusedSimpArgs false
set_option maxRecDepth 100000
set_option maxHeartbeats 4000000
set_option cbv.maxSteps 3000000
namespace Go.Proofs.YtgjjedpoclhkfaaGreatDoor.AM
/- Texts are spoilt, drawn; conditions: none. -/
def enc_spoilt (H : Hold) (y : Unit → ByteArray) : AV := .lit (.string (H ByteArray fun _ => ((y ()))))
theorem x_spoilt (c : Cd) (t : ByteArray) (u : ByteArray) (st : DS) (h : Bd 6 st) (k0 : t.size ≤ 1000000) (k1 : 1 ≤ u.size) (k2 : u.size ≤ 1000) : ∃ y, Drw Tryz.prog 83 48 6 enc_spoilt (fun y => y.size ≤ t.size + 1) c [.lit (.string t), .lit (.string u)] st y := by
  have hB : Base Tryz.prog (tabΓ [e_pick c]) tab := base_of tabOk (ents_cons (eok_pick c) <| ents_nil)
  refine drw_ok (N := 57) hB (draw_ok hB mixed) Tryz.func48 rfl rfl _ _ _ _ _ _ _ 100 (by simp) (by intro x hx; simp at hx; (first | done | (subst hx; first | (first | exact .lit | exact blq_ok 4 rfl) | exact .vec (fun j hj x hx => by simp [vrow] at hx; subst hx; exact .lit)) | (rcases hx with rfl | rfl <;> (first | exact .lit | exact blq_ok 4 rfl)) | (rcases hx with rfl | rfl | rfl <;> (first | exact .lit | exact blq_ok 4 rfl)))) ?_
  intro H hH
  conv in finish _ _ _ _ _ _ _ _ => cbv
  subst hH
  simp only [Fin.sat0, Fin.sat1, stdH, Option.some.injEq, AV.lit.injEq, AV.agg.injEq, AV.tup.injEq, List.cons.injEq, Value.bool.injEq, Value.int.injEq, AllP, and_true, true_and, eq_self, decide_eq_true_eq, decide_eq_false_iff_not, Bool.not_eq_true', Bool.not_eq_false', peta, ncast]
  obtain ⟨a1, m1, n1⟩ := p_pick c (t.size : Nat) st h.mono
  generalize F_pick c (t.size : Nat) st = y1 at *
  have b1 : Bd 4 y1.2 := a1.bd h
  obtain ⟨a2, m2, n2⟩ := p_pick c (u.size : Nat) y1.2 b1.mono
  generalize F_pick c (u.size : Nat) y1.2 = y2 at *
  have b2 : Bd 2 y2.2 := a2.bd b1
  have a3 := (p_pick c 3 y2.2 b2.mono).1
  generalize F_pick c 3 y2.2 = y3 at *
  have ws : ∀ x : ByteArray, (x.extract (loOf none) (hiOf x.size (some 1))).size ≤ 1 := fun x => by
    rw [ByteArray.size_extract]
    show min (1 : Int).toNat x.size - 0 ≤ 1
    omega
  have sx : ∀ (x : ByteArray) (i j : Nat), (x.extract i j).size = min j x.size - i := fun x i j => ByteArray.size_extract
  refine ⟨fun _ => ⟨⟨trivial, by show (0 : Int) ≤ 1; omega, by show 0 ≤ (1 : Int).toNat; omega, by show (1 : Int).toNat ≤ u.size; omega⟩, (_, st), .refl, by unfold enc_spoilt; exact .lit, rfl, .refl _ _, Nat.le_trans (ws u) (by omega)⟩, fun h0 => ?_⟩
  have ht : 1 ≤ t.size := by
    rcases Nat.eq_zero_or_pos t.size with e | e
    · have e1 : t.data.toList = [] := List.eq_nil_of_length_eq_zero e
      have e2 : t.toList = [] := by rw [ByteArray.toList_eq, e1]
      have e3 : (⟨⟨[]⟩⟩ : ByteArray).toList = [] := ByteArray.toList_eq _
      rw [e2, e3] at h0; simp at h0
    · exact e
  have hi : 0 ≤ y1.1 ∧ y1.1 < (t.size : Nat) := by omega
  have hj : 0 ≤ y2.1 ∧ y2.1 < (u.size : Nat) := by omega
  have ew : IntKind.i64.wrap (y1.1 + 1) = y1.1 + 1 := wi (by omega) (by omega)
  rw [ew]
  have h1 := ws (u.extract (loOf (some y2.1)) (hiOf u.size none))
  have l1 : loOf (some y1.1) = y1.1.toNat := rfl
  have l2 : ∀ n, hiOf n (some y1.1) = y1.1.toNat := fun _ => rfl
  have l3 : ∀ n, hiOf n none = n := fun _ => rfl
  have l4 : loOf none = 0 := rfl
  have l5 : loOf (some (y1.1 + 1)) = (y1.1 + 1).toNat := rfl
  have lw : okB (u.extract (loOf (some y2.1)) (hiOf u.size none)).size none (some 1) := ⟨trivial, by show (0 : Int) ≤ 1; omega, by show 0 ≤ (1 : Int).toNat; omega, by
    rw [sx, l3]
    show (1 : Int).toNat ≤ min u.size u.size - y2.1.toNat
    omega⟩
  generalize (u.extract (loOf (some y2.1)) (hiOf u.size none)).extract (loOf none) (hiOf (u.extract (loOf (some y2.1)) (hiOf u.size none)).size (some 1)) = w at *
  have o1 : okB t.size none (some y1.1) := ⟨trivial, hi.1, Nat.zero_le _, by show y1.1.toNat ≤ t.size; omega⟩
  have o2 : okB t.size (some y1.1) none := ⟨hi.1, trivial, by show y1.1.toNat ≤ t.size; omega, Nat.le_refl _⟩
  have o3 : okB t.size (some (y1.1 + 1)) none := ⟨by show 0 ≤ y1.1 + 1; omega, trivial, by show (y1.1 + 1).toNat ≤ t.size; omega, Nat.le_refl _⟩
  have o4 : okB u.size (some y2.1) none := ⟨hj.1, trivial, by show y2.1.toNat ≤ u.size; omega, Nat.le_refl _⟩
  have s1 : (t.extract (loOf none) (hiOf t.size (some y1.1))).size = y1.1.toNat := by rw [sx, l2, l4]; omega
  have s2 : (t.extract (loOf (some y1.1)) (hiOf t.size none)).size = t.size - y1.1.toNat := by rw [sx, l3, l1]; omega
  have s3 : (t.extract (loOf (some (y1.1 + 1))) (hiOf t.size none)).size = t.size - (y1.1.toNat + 1) := by rw [sx, l3, l5]; omega
  have av : Adv 6 st y3.2 := ((a1.t a2).t a3).le (by decide)
  refine ⟨h.mono, b1.mono, o4, lw, b2, fun _ => ⟨o1, by rw [s1]; omega, o2, by rw [ByteArray.size_append, s1, s2]; omega, (_, y3.2), .refl, by unfold enc_spoilt; exact .lit, rfl, av, by simp only [ByteArray.size_append]; rw [s1, s2]; omega⟩, fun _ => ⟨fun _ => ⟨o1, by rw [s1]; omega, o3, by rw [ByteArray.size_append, s1, s3]; omega, (_, y3.2), .refl, by unfold enc_spoilt; exact .lit, rfl, av, by simp only [ByteArray.size_append]; rw [s1, s3]; omega⟩, fun _ => ⟨o1, o3, by rw [s1, s3]; omega, (_, y3.2), .refl, by unfold enc_spoilt; exact .lit, rfl, av, by simp only [ByteArray.size_append]; rw [s1, s3]; omega⟩⟩⟩
noncomputable def F_spoilt (c : Cd) (t : ByteArray) (u : ByteArray) (st : DS) : ByteArray × DS := drw Tryz.prog 83 48 6 enc_spoilt (fun y => y.size ≤ t.size + 1) c [.lit (.string t), .lit (.string u)] st
noncomputable def e_spoilt (c : Cd) : Entry := curE 83 48 6 c fun H st a => match a with
  | [.lit (.string t), .lit (.string u)] => some (enc_spoilt H (fun _ => (F_spoilt c t u st).1), (fun _ => (F_spoilt c t u st).2), [H Prop fun _ => t.size ≤ 1000000, H Prop fun _ => 1 ≤ u.size, H Prop fun _ => u.size ≤ 1000])
  | _ => none
theorem eok_spoilt (c : Cd) : EntryOk Tryz.prog (e_spoilt c) := curE_ok (by unfold isBody; kernel_rfl) (by
  intro st a r y ob e hb hob
  split at e
  · simp only [Option.some.injEq, Prod.mk.injEq] at e
    obtain ⟨rfl, rfl, rfl⟩ := e
    exact ⟨(drw_spec (x_spoilt c _ _ st hb hob.1 hob.2.1 hob.2.2.1)).1, (by intro x hx; simp only [List.mem_cons, List.not_mem_nil, or_false] at hx; rcases hx with rfl | rfl <;> (first | (first | exact .lit | exact blq_ok 4 rfl) | exact .vec (fun j hj x hx => by rw [hob.1 j hj] at hx; simp [vrow] at hx; subst hx; exact .lit))), (by unfold enc_spoilt; (first | exact .lit | exact blq_ok 4 rfl))⟩
  · simp at e)
theorem p_spoilt (c : Cd) (t : ByteArray) (u : ByteArray) (st : DS) (h : Bd 6 st) (k0 : t.size ≤ 1000000) (k1 : 1 ≤ u.size) (k2 : u.size ≤ 1000) : Adv 6 st (F_spoilt c t u st).2 ∧ (fun y => y.size ≤ t.size + 1) (F_spoilt c t u st).1 := (drw_spec (x_spoilt c t u st h k0 k1 k2)).2

end Go.Proofs.YtgjjedpoclhkfaaGreatDoor.AM

set_option linter.unusedVariables false
set_option linter.unusedSimpArgs false
set_option maxRecDepth 100000
set_option maxHeartbeats 4000000
set_option cbv.maxSteps 3000000
namespace Go.Proofs.YtgjjedpoclhkfaaGreatDoor.AM
/- Texts are spoilt, drawn; conditions: none. -/
theorem grp_ok {g : Grp} (h : (1 ≤ g.c ∧ g.c ≤ 6) ∧ (1 ≤ g.k ∧ g.k ≤ 8) ∧ (if g.k ≤ 3 then 1 ≤ g.a ∧ g.a ≤ 2 else g.a = 0) ∧ (1 ≤ g.t ∧ g.t ≤ 9)) : okG g = true := by
  obtain ⟨h1, h2, h3, h4⟩ := h
  unfold okG attF inB
  simp only [Bool.and_eq_true, decide_eq_true_eq]
  refine ⟨⟨h1, h2, ?_⟩, h4⟩
  split
  · rename_i hk; rw [if_pos hk] at h3; exact decide_eq_true h3
  · rename_i hk; rw [if_neg hk] at h3; exact decide_eq_true h3
end Go.Proofs.YtgjjedpoclhkfaaGreatDoor.AM

