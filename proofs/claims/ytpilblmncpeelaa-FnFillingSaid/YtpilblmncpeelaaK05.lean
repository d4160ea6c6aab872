/- Lemmas and contracts (ADrP); conditions: none. -/
import Derived.Test.YtpilblmncpeelaaK04
import Derived.Laws.BitsLemmas
import Derived.Laws.Bits64
set_option linter.unusedVariables false
set_option linter.unusedSimpArgs false
set_option linter.unusedVariables false
set_option linter.unusedSimpArgs false
set_option maxRecDepth 100000
set_option maxHeartbeats 4000000
set_option cbv.maxSteps 3000000
namespace Go.Proofs.Ytpilblmncpeelaa.AM
/- The cursor's simple draws; conditions: none. -/
theorem wi {x : Int} (h : -9223372036854775808 ≤ x) (h' : x ≤ 9223372036854775807) : IntKind.i64.wrap x = x := by rw [IntKind.wrap_i64]; omega
theorem and255 (x : Int) : 0 ≤ IntKind.u64.wrap ((BitVec.ofInt IntKind.u64.bits x &&& BitVec.ofInt IntKind.u64.bits 255).toNat : Int) ∧ IntKind.u64.wrap ((BitVec.ofInt IntKind.u64.bits x &&& BitVec.ofInt IntKind.u64.bits 255).toNat : Int) ≤ 255 := by
  have h1 : (BitVec.ofInt 64 x).toNat &&& 255 ≤ 255 := Nat.and_le_right
  have h2 : (BitVec.ofInt 64 255).toNat = 255 := rfl
  show 0 ≤ IntKind.u64.wrap ((BitVec.ofInt 64 x &&& BitVec.ofInt 64 255).toNat : Int) ∧ IntKind.u64.wrap ((BitVec.ofInt 64 x &&& BitVec.ofInt 64 255).toNat : Int) ≤ 255
  rw [BitVec.toNat_and, h2, IntKind.wrap_u64]
  omega
theorem wand255 (x : Int) : 0 ≤ IntKind.i64.wrap (IntKind.u64.wrap ((BitVec.ofInt IntKind.u64.bits x &&& BitVec.ofInt IntKind.u64.bits 255).toNat : Int)) ∧ IntKind.i64.wrap (IntKind.u64.wrap ((BitVec.ofInt IntKind.u64.bits x &&& BitVec.ofInt IntKind.u64.bits 255).toNat : Int)) ≤ 255 := by
  have h := and255 x
  rw [wi (by omega) (by omega)]; exact h
def enc_next (H : Hold) (y : Unit → Int) : AV := .lit (.int .i64 (H Int fun _ => ((y ()))))
theorem x_next (c : Cd)  (st : DS) (h : Bd 1 st)  : ∃ y, Drw Try.prog 56 55 1 enc_next (fun x => 0 ≤ x ∧ x ≤ 255) c [] st y := by
  have hB : Base Try.prog (tabΓ []) tab := base_of tabOk (ents_nil)
  refine drw_ok (N := 62) hB (draw_ok hB mixed) Try.func55 rfl rfl _ _ _ _ _ _ _ 50 (by simp) (by intro x hx; simp at hx; (first | done | (subst hx; first | (first | exact .lit | exact blq_ok 4 rfl) | exact .vec (fun j hj x hx => by simp [vrow] at hx; subst hx; exact .lit)) | (rcases hx with rfl | rfl <;> (first | exact .lit | exact blq_ok 4 rfl)) | (rcases hx with rfl | rfl | rfl <;> (first | exact .lit | exact blq_ok 4 rfl)))) ?_
  intro H hH
  conv in finish _ _ _ _ _ _ _ _ => cbv
  subst hH
  obtain ⟨h1, h2⟩ := h
  have hok := c.ok st.1.toNat
  have e : IntKind.i64.wrap (st.1 + 1) = st.1 + 1 := wi (by omega) (by omega)
  have e2 : IntKind.i64.wrap (c.g st.1.toNat) = c.g st.1.toNat := wi (by omega) (by omega)
  simp only [Fin.sat0, stdH, AllP, and_true, decide_eq_true_eq, decide_eq_false_iff_not, e, e2]
  refine ⟨fun a => ⟨⟨h1, a⟩, fun b => ?_, fun b => ⟨by decide, ?_⟩⟩, fun a => ⟨fun b => ?_, fun b => ⟨by decide, ?_⟩⟩⟩
  · exact ⟨(_, (_, _)), .refl, .lit, rfl, ⟨by dsimp only; omega, by dsimp only; omega⟩, hok⟩
  · exact ⟨(_, (_, _)), .refl, .lit, rfl, ⟨by dsimp only; omega, by dsimp only; omega⟩, wand255 _⟩
  · exact ⟨(_, (_, _)), .refl, .lit, rfl, ⟨by dsimp only; omega, by dsimp only; omega⟩, by omega, by omega⟩
  · exact ⟨(_, (_, _)), .refl, .lit, rfl, ⟨by dsimp only; omega, by dsimp only; omega⟩, wand255 _⟩
noncomputable def F_next (c : Cd)  (st : DS) : Int × DS := drw Try.prog 56 55 1 enc_next (fun x => 0 ≤ x ∧ x ≤ 255) c [] st
noncomputable def e_next (c : Cd) : Entry := curE 56 55 1 c fun H st a => match a with
  | [] => some (enc_next H (fun _ => (F_next c  st).1), (fun _ => (F_next c  st).2), [])
  | _ => none
theorem eok_next (c : Cd) : EntryOk Try.prog (e_next c) := curE_ok (by unfold isBody; kernel_rfl) (by
  intro st a r y ob e hb hob
  split at e
  · simp only [Option.some.injEq, Prod.mk.injEq] at e
    obtain ⟨rfl, rfl, rfl⟩ := e
    exact ⟨(drw_spec (x_next c  st hb)).1, (by intro x hx; cases hx), (by unfold enc_next; (first | exact .lit | exact blq_ok 4 rfl))⟩
  · simp at e)
theorem p_next (c : Cd)  (st : DS) (h : Bd 1 st)  : Adv 1 st (F_next c  st).2 ∧ (fun x => 0 ≤ x ∧ x ≤ 255) (F_next c  st).1 := (drw_spec (x_next c  st h )).2
def enc_pick (H : Hold) (y : Unit → Int) : AV := .lit (.int .i64 (H Int fun _ => ((y ()))))
theorem x_pick (c : Cd) (n : Int) (st : DS) (h : Bd 2 st)  : ∃ y, Drw Try.prog 56 32 2 enc_pick (fun x => 0 ≤ x ∧ (x < n ∨ n ≤ 1 ∧ x = 0)) c [.lit (.int .i64 n)] st y := by
  have hB : Base Try.prog (tabΓ [e_next c]) tab := base_of tabOk (ents_cons (eok_next c) <| ents_nil)
  refine drw_ok (N := 20) hB (draw_ok hB mixed) Try.func32 rfl rfl _ _ _ _ _ _ _ 50 (by simp) (by intro x hx; simp at hx; (first | done | (subst hx; first | (first | exact .lit | exact blq_ok 4 rfl) | exact .vec (fun j hj x hx => by simp [vrow] at hx; subst hx; exact .lit)) | (rcases hx with rfl | rfl <;> (first | exact .lit | exact blq_ok 4 rfl)) | (rcases hx with rfl | rfl | rfl <;> (first | exact .lit | exact blq_ok 4 rfl)))) ?_
  intro H hH
  conv in finish _ _ _ _ _ _ _ _ => cbv
  subst hH
  simp only [Fin.sat0, Fin.sat1, stdH, Option.some.injEq, AV.lit.injEq, AV.agg.injEq, AV.tup.injEq, List.cons.injEq, Value.bool.injEq, Value.int.injEq, AllP, and_true, true_and, eq_self, decide_eq_true_eq, decide_eq_false_iff_not, Bool.not_eq_true', Bool.not_eq_false', peta, ncast]
  obtain ⟨a1, m1, m2⟩ := p_next c st h.mono
  have b1 : Bd 1 (F_next c st).2 := a1.bd h
  obtain ⟨a2, m3, m4⟩ := p_next c _ b1
  generalize F_next c (F_next c st).2 = z at *
  generalize F_next c st = y at *
  have w1 : IntKind.i64.wrap (y.1 * 256) = y.1 * 256 := wi (by omega) (by omega)
  have w2 : IntKind.i64.wrap (y.1 * 256 + z.1) = y.1 * 256 + z.1 := wi (by omega) (by omega)
  simp only [w1, w2]
  refine ⟨fun q => ⟨(_, (_, _)), .refl, .lit, rfl, .refl _ _, Int.le_refl _, .inr ⟨q, rfl⟩⟩, fun q => ⟨h.mono, fun r => ⟨b1, by omega, ?_⟩, fun r => ⟨by omega, ?_⟩⟩⟩
  · refine ⟨(_, (_, _)), .refl, .lit, rfl, a1.trans a2, ?_⟩
    have h1 := Int.tmod_nonneg n (a := y.1 * 256 + z.1) (by omega)
    have h2 := Int.tmod_lt_of_pos (y.1 * 256 + z.1) (show 0 < n by omega)
    exact ⟨h1, .inl h2⟩
  · refine ⟨(_, (_, _)), .refl, .lit, rfl, a1.trans (.refl 1 _), ?_⟩
    have h1 := Int.tmod_nonneg n (a := y.1) (by omega)
    have h2 := Int.tmod_lt_of_pos y.1 (show 0 < n by omega)
    exact ⟨h1, .inl h2⟩
noncomputable def F_pick (c : Cd) (n : Int) (st : DS) : Int × DS := drw Try.prog 56 32 2 enc_pick (fun x => 0 ≤ x ∧ (x < n ∨ n ≤ 1 ∧ x = 0)) c [.lit (.int .i64 n)] st
noncomputable def e_pick (c : Cd) : Entry := curE 56 32 2 c fun H st a => match a with
  | [.lit (.int .i64 n)] => some (enc_pick H (fun _ => (F_pick c n st).1), (fun _ => (F_pick c n st).2), [])
  | _ => none
theorem eok_pick (c : Cd) : EntryOk Try.prog (e_pick c) := curE_ok (by unfold isBody; kernel_rfl) (by
  intro st a r y ob e hb hob
  split at e
  · simp only [Option.some.injEq, Prod.mk.injEq] at e
    obtain ⟨rfl, rfl, rfl⟩ := e
    exact ⟨(drw_spec (x_pick c _ st hb)).1, (by intro x hx; simp only [List.mem_cons, List.not_mem_nil, or_false] at hx; rcases hx with rfl <;> (first | (first | exact .lit | exact blq_ok 4 rfl) | exact .vec (fun j hj x hx => by rw [hob.1 j hj] at hx; simp [vrow] at hx; subst hx; exact .lit))), (by unfold enc_pick; (first | exact .lit | exact blq_ok 4 rfl))⟩
  · simp at e)
theorem p_pick (c : Cd) (n : Int) (st : DS) (h : Bd 2 st)  : Adv 2 st (F_pick c n st).2 ∧ (fun x => 0 ≤ x ∧ (x < n ∨ n ≤ 1 ∧ x = 0)) (F_pick c n st).1 := (drw_spec (x_pick c n st h )).2
def enc_one (H : Hold) (y : Unit → Bool) : AV := .lit (.bool (H Bool fun _ => ((y ()))))
theorem x_one (c : Cd) (n : Int) (st : DS) (h : Bd 2 st)  : ∃ y, Drw Try.prog 56 44 2 enc_one (fun _ => True) c [.lit (.int .i64 n)] st y := by
  have hB : Base Try.prog (tabΓ [e_pick c]) tab := base_of tabOk (ents_cons (eok_pick c) <| ents_nil)
  refine drw_ok (N := 9) hB (draw_ok hB mixed) Try.func44 rfl rfl _ _ _ _ _ _ _ 50 (by simp) (by intro x hx; simp at hx; (first | done | (subst hx; first | (first | exact .lit | exact blq_ok 4 rfl) | exact .vec (fun j hj x hx => by simp [vrow] at hx; subst hx; exact .lit)) | (rcases hx with rfl | rfl <;> (first | exact .lit | exact blq_ok 4 rfl)) | (rcases hx with rfl | rfl | rfl <;> (first | exact .lit | exact blq_ok 4 rfl)))) ?_
  intro H hH
  conv in finish _ _ _ _ _ _ _ _ => cbv
  subst hH
  simp only [Fin.sat0, Fin.sat1, stdH, Option.some.injEq, AV.lit.injEq, AV.agg.injEq, AV.tup.injEq, List.cons.injEq, Value.bool.injEq, Value.int.injEq, AllP, and_true, true_and, eq_self, decide_eq_true_eq, decide_eq_false_iff_not, Bool.not_eq_true', Bool.not_eq_false', peta, ncast]
  exact ⟨h, (_, (_, _)), .refl, .lit, rfl, (p_pick c n st h).1⟩
noncomputable def F_one (c : Cd) (n : Int) (st : DS) : Bool × DS := drw Try.prog 56 44 2 enc_one (fun _ => True) c [.lit (.int .i64 n)] st
noncomputable def e_one (c : Cd) : Entry := curE 56 44 2 c fun H st a => match a with
  | [.lit (.int .i64 n)] => some (enc_one H (fun _ => (F_one c n st).1), (fun _ => (F_one c n st).2), [])
  | _ => none
theorem eok_one (c : Cd) : EntryOk Try.prog (e_one c) := curE_ok (by unfold isBody; kernel_rfl) (by
  intro st a r y ob e hb hob
  split at e
  · simp only [Option.some.injEq, Prod.mk.injEq] at e
    obtain ⟨rfl, rfl, rfl⟩ := e
    exact ⟨(drw_spec (x_one c _ st hb)).1, (by intro x hx; simp only [List.mem_cons, List.not_mem_nil, or_false] at hx; rcases hx with rfl <;> (first | (first | exact .lit | exact blq_ok 4 rfl) | exact .vec (fun j hj x hx => by rw [hob.1 j hj] at hx; simp [vrow] at hx; subst hx; exact .lit))), (by unfold enc_one; (first | exact .lit | exact blq_ok 4 rfl))⟩
  · simp at e)
theorem p_one (c : Cd) (n : Int) (st : DS) (h : Bd 2 st)  : Adv 2 st (F_one c n st).2 ∧ (fun _ => True) (F_one c n st).1 := (drw_spec (x_one c n st h )).2
def enc_tincture (H : Hold) (y : Unit → Int) : AV := .lit (.int .i64 (H Int fun _ => ((y ()))))
theorem x_tincture (c : Cd)  (st : DS) (h : Bd 2 st)  : ∃ y, Drw Try.prog 56 72 2 enc_tincture (fun x => 1 ≤ x ∧ x ≤ 9) c [] st y := by
  have hB : Base Try.prog (tabΓ [e_pick c]) tab := base_of tabOk (ents_cons (eok_pick c) <| ents_nil)
  refine drw_ok (N := 6) hB (draw_ok hB mixed) Try.func72 rfl rfl _ _ _ _ _ _ _ 50 (by simp) (by intro x hx; simp at hx; (first | done | (subst hx; first | (first | exact .lit | exact blq_ok 4 rfl) | exact .vec (fun j hj x hx => by simp [vrow] at hx; subst hx; exact .lit)) | (rcases hx with rfl | rfl <;> (first | exact .lit | exact blq_ok 4 rfl)) | (rcases hx with rfl | rfl | rfl <;> (first | exact .lit | exact blq_ok 4 rfl)))) ?_
  intro H hH
  conv in finish _ _ _ _ _ _ _ _ => cbv
  subst hH
  simp only [Fin.sat0, Fin.sat1, stdH, Option.some.injEq, AV.lit.injEq, AV.agg.injEq, AV.tup.injEq, List.cons.injEq, Value.bool.injEq, Value.int.injEq, AllP, and_true, true_and, eq_self, decide_eq_true_eq, decide_eq_false_iff_not, Bool.not_eq_true', Bool.not_eq_false', peta, ncast]
  obtain ⟨a1, m1, m2⟩ := p_pick c 9 st h
  generalize F_pick c 9 st = y at *
  have w1 : IntKind.i64.wrap (1 + y.1) = 1 + y.1 := wi (by omega) (by omega)
  simp only [w1]
  exact ⟨h, (_, (_, _)), .refl, .lit, rfl, a1, by simp only; omega⟩
noncomputable def F_tincture (c : Cd)  (st : DS) : Int × DS := drw Try.prog 56 72 2 enc_tincture (fun x => 1 ≤ x ∧ x ≤ 9) c [] st
noncomputable def e_tincture (c : Cd) : Entry := curE 56 72 2 c fun H st a => match a with
  | [] => some (enc_tincture H (fun _ => (F_tincture c  st).1), (fun _ => (F_tincture c  st).2), [])
  | _ => none
theorem eok_tincture (c : Cd) : EntryOk Try.prog (e_tincture c) := curE_ok (by unfold isBody; kernel_rfl) (by
  intro st a r y ob e hb hob
  split at e
  · simp only [Option.some.injEq, Prod.mk.injEq] at e
    obtain ⟨rfl, rfl, rfl⟩ := e
    exact ⟨(drw_spec (x_tincture c  st hb)).1, (by intro x hx; cases hx), (by unfold enc_tincture; (first | exact .lit | exact blq_ok 4 rfl))⟩
  · simp at e)
theorem p_tincture (c : Cd)  (st : DS) (h : Bd 2 st)  : Adv 2 st (F_tincture c  st).2 ∧ (fun x => 1 ≤ x ∧ x ≤ 9) (F_tincture c  st).1 := (drw_spec (x_tincture c  st h )).2
def enc_among (H : Hold) (y : Unit → Int) : AV := .lit (.int .i64 (H Int fun _ => ((y ()))))
theorem x_among (c : Cd) (ln : Nat) (lg : Nat → Int) (st : DS) (h : Bd 2 st) (k0 : 0 < ln) (k1 : ln ≤ 100000) : ∃ y, Drw Try.prog 56 22 2 enc_among (fun x => ∃ j, j < ln ∧ x = lg j) c [.vec 1 ln (vrow lg)] st y := by
  have hB : Base Try.prog (tabΓ [e_pick c]) tab := base_of tabOk (ents_cons (eok_pick c) <| ents_nil)
  refine drw_ok (N := 12) hB (draw_ok hB mixed) Try.func22 rfl rfl _ _ _ _ _ _ _ 50 (by simp) (by intro x hx; simp at hx; (first | done | (subst hx; first | (first | exact .lit | exact blq_ok 4 rfl) | exact .vec (fun j hj x hx => by simp [vrow] at hx; subst hx; exact .lit)) | (rcases hx with rfl | rfl <;> (first | exact .lit | exact blq_ok 4 rfl)) | (rcases hx with rfl | rfl | rfl <;> (first | exact .lit | exact blq_ok 4 rfl)))) ?_
  intro H hH
  conv in finish _ _ _ _ _ _ _ _ => cbv
  subst hH
  simp only [Fin.sat0, Fin.sat1, stdH, Option.some.injEq, AV.lit.injEq, AV.agg.injEq, AV.tup.injEq, List.cons.injEq, Value.bool.injEq, Value.int.injEq, AllP, and_true, true_and, eq_self, decide_eq_true_eq, decide_eq_false_iff_not, Bool.not_eq_true', Bool.not_eq_false', peta, ncast]
  obtain ⟨a1, m1, m2⟩ := p_pick c ln st h
  exact ⟨h, ⟨m1, by omega⟩, (_, (_, _)), .refl, .lit, rfl, a1, _, by omega, rfl⟩
noncomputable def F_among (c : Cd) (ln : Nat) (lg : Nat → Int) (st : DS) : Int × DS := drw Try.prog 56 22 2 enc_among (fun x => ∃ j, j < ln ∧ x = lg j) c [.vec 1 ln (vrow lg)] st
noncomputable def e_among (c : Cd) : Entry := curE 56 22 2 c fun H st a => match a with
  | [.vec 1 ln lf] => some (enc_among H (fun _ => (F_among c ln (ints lf) st).1), (fun _ => (F_among c ln (ints lf) st).2), [H Prop fun _ => ∀ j, j < ln → lf j = vrow (ints lf) j, H Prop fun _ => 0 < ln, H Prop fun _ => ln ≤ 100000])
  | _ => none
theorem eok_among (c : Cd) : EntryOk Try.prog (e_among c) := curE_ok (by unfold isBody; kernel_rfl) (by
  intro st a r y ob e hb hob
  split at e
  · simp only [Option.some.injEq, Prod.mk.injEq] at e
    obtain ⟨rfl, rfl, rfl⟩ := e
    exact ⟨Con.args (fun C vs hl => hl.vec1 hob.1) ((drw_spec (x_among c _ _ st hb hob.2.1 hob.2.2.1)).1), (by intro x hx; simp only [List.mem_cons, List.not_mem_nil, or_false] at hx; rcases hx with rfl <;> (first | (first | exact .lit | exact blq_ok 4 rfl) | exact .vec (fun j hj x hx => by rw [hob.1 j hj] at hx; simp [vrow] at hx; subst hx; exact .lit))), (by unfold enc_among; (first | exact .lit | exact blq_ok 4 rfl))⟩
  · simp at e)
theorem p_among (c : Cd) (ln : Nat) (lg : Nat → Int) (st : DS) (h : Bd 2 st) (k0 : 0 < ln) (k1 : ln ≤ 100000) : Adv 2 st (F_among c ln lg st).2 ∧ (fun x => ∃ j, j < ln ∧ x = lg j) (F_among c ln lg st).1 := (drw_spec (x_among c ln lg st h k0 k1)).2
theorem p_amongL (c : Cd) (cs : List AV) (n : Nat) (st : DS) (h : Bd 2 st) (hn : n = cs.length) (h0 : 0 < n) (h1 : n ≤ 100000) : Adv 2 st (F_among c n (ints (rowsOf 1 cs)) st).2 ∧ (F_among c n (ints (rowsOf 1 cs)) st).1 ∈ cs.map intOf := by
  obtain ⟨a, j, hj, e⟩ := p_among c n (ints (rowsOf 1 cs)) st h h0 h1
  exact ⟨a, by rw [e]; exact ints_mem cs (by omega) hj⟩

end Go.Proofs.Ytpilblmncpeelaa.AM

