import Derived.Test.YtdicfibonfjalaaDoorAmT
import Derived.Test.YtdicfibonfjalaaDoorPrs
import Derived.Test.YtdicfibonfjalaaDoorDrA
import Derived.Test.YtdicfibonfjalaaDoorCrx
set_option linter.unusedVariables false
set_option linter.unusedSimpArgs false
set_option maxRecDepth 100000
set_option maxHeartbeats 4000000
set_option cbv.maxSteps 3000000
namespace Go.Proofs.YtdicfibonfjalaaDoor.AM
/- Texts are spoilt, drawn; conditions: none. -/
def enc_spoilt (H : Hold) (y : Unit → ByteArray) : AV := .lit (.string (H ByteArray fun _ => ((y ()))))
theorem x_spoilt (c : Cd) (t : ByteArray) (u : ByteArray) (st : DS) (h : Bd 6 st) (k0 : t.size ≤ 1000000) (k1 : 1 ≤ u.size) (k2 : u.size ≤ 1000) : ∃ y, Drw Tryd.prog 74 51 6 enc_spoilt (fun y => y.size ≤ t.size + 1) c [.lit (.string t), .lit (.string u)] st y := by
  have hB : Base Tryd.prog (tabΓ [e_pick c]) tab := base_of tabOk (ents_cons (eok_pick c) <| ents_nil)
  refine drw_ok (N := 57) hB (draw_ok hB mixed) Tryd.func51 rfl rfl _ _ _ _ _ _ _ 100 (by simp) (by intro x hx; simp at hx; (first | done | (subst hx; first | (first | exact .lit | exact blq_ok 4 rfl) | exact .vec (fun j hj x hx => by simp [vrow] at hx; subst hx; exact .lit)) | (rcases hx with rfl | rfl <;> (first | exact .lit | exact blq_ok 4 rfl)) | (rcases hx with rfl | rfl | rfl <;> (first | exact .lit | exact blq_ok 4 rfl)))) ?_
  intro H hH
  conv in finish _ _ _ _ _ _ _ _ => cbv
  subst hH
  simp only [Fin.sat0, Fin.sat1, stdH, Option.some.injEq, AV.lit.injEq, AV.agg.injEq, AV.tup.injEq, List.cons.injEq, Value.bool.injEq, Value.int.injEq, AllP, and_true, true_and, eq_self, decide_eq_true_eq, decide_eq_false_iff_not, Bool.not_eq_true', Bool.not_eq_false', peta, ncast]
  obtain ⟨a1, m1, n1⟩ := p_pick c (t.size : Nat) st h.mono
  generalize F_pick c (t.size : Nat) st = y1 at *
  have b1 : Bd 4 y1.2 := a1.bd h
  obtain ⟨a2, m2, n2⟩ := p_pick c (u.size : Nat) y1.2 b1.mono
  generalize F_pick c (u.size : Nat) y1.2 = y2 at *
  have b2 : Bd 2 y2.2 := a2.bd b1
  have a3 := (p_pick c 3 y2.2 b2.mono).1
  generalize F_pick c 3 y2.2 = y3 at *
  have ws : ∀ x : ByteArray, (x.extract (loOf none) (hiOf x.size (some 1))).size ≤ 1 := fun x => by
    rw [ByteArray.size_extract]
    show min (1 : Int).toNat x.size - 0 ≤ 1
    omega
  have sx : ∀ (x : ByteArray) (i j : Nat), (x.extract i j).size = min j x.size - i := fun x i j => ByteArray.size_extract
  refine ⟨fun _ => ⟨⟨trivial, by show (0 : Int) ≤ 1; omega, by show 0 ≤ (1 : Int).toNat; omega, by show (1 : Int).toNat ≤ u.size; omega⟩, (_, st), .refl, by unfold enc_spoilt; exact .lit, rfl, .refl _ _, Nat.le_trans (ws u) (by omega)⟩, fun h0 => ?_⟩
  have ht : 1 ≤ t.size := by
    rcases Nat.eq_zero_or_pos t.size with e | e
    · have e1 : t.data.toList = [] := List.eq_nil_of_length_eq_zero e
      have e2 : t.toList = [] := by rw [ByteArray.toList_eq, e1]
      have e3 : (⟨⟨[]⟩⟩ : ByteArray).toList = [] := ByteArray.toList_eq _
      rw [e2, e3] at h0; simp at h0
    · exact e
  have hi : 0 ≤ y1.1 ∧ y1.1 < (t.size : Nat) := by omega
  have hj : 0 ≤ y2.1 ∧ y2.1 < (u.size : Nat) := by omega
  have ew : IntKind.i64.wrap (y1.1 + 1) = y1.1 + 1 := wi (by omega) (by omega)
  rw [ew]
  have h1 := ws (u.extract (loOf (some y2.1)) (hiOf u.size none))
  have l1 : loOf (some y1.1) = y1.1.toNat := rfl
  have l2 : ∀ n, hiOf n (some y1.1) = y1.1.toNat := fun _ => rfl
  have l3 : ∀ n, hiOf n none = n := fun _ => rfl
  have l4 : loOf none = 0 := rfl
  have l5 : loOf (some (y1.1 + 1)) = (y1.1 + 1).toNat := rfl
  have lw : okB (u.extract (loOf (some y2.1)) (hiOf u.size none)).size none (some 1) := ⟨trivial, by show (0 : Int) ≤ 1; omega, by show 0 ≤ (1 : Int).toNat; omega, by
    rw [sx, l3]
    show (1 : Int).toNat ≤ min u.size u.size - y2.1.toNat
    omega⟩
  generalize (u.extract (loOf (some y2.1)) (hiOf u.size none)).extract (loOf none) (hiOf (u.extract (loOf (some y2.1)) (hiOf u.size none)).size (some 1)) = w at *
  have o1 : okB t.size none (some y1.1) := ⟨trivial, hi.1, Nat.zero_le _, by show y1.1.toNat ≤ t.size; omega⟩
  have o2 : okB t.size (some y1.1) none := ⟨hi.1, trivial, by show y1.1.toNat ≤ t.size; omega, Nat.le_refl _⟩
  have o3 : okB t.size (some (y1.1 + 1)) none := ⟨by show 0 ≤ y1.1 + 1; omega, trivial, by show (y1.1 + 1).toNat ≤ t.size; omega, Nat.le_refl _⟩
  have o4 : okB u.size (some y2.1) none := ⟨hj.1, trivial, by show y2.1.toNat ≤ u.size; omega, Nat.le_refl _⟩
  have s1 : (t.extract (loOf none) (hiOf t.size (some y1.1))).size = y1.1.toNat := by rw [sx, l2, l4]; omega
  have s2 : (t.extract (loOf (some y1.1)) (hiOf t.size none)).size = t.size - y1.1.toNat := by rw [sx, l3, l1]; omega
  have s3 : (t.extract (loOf (some (y1.1 + 1))) (hiOf t.size none)).size = t.size - (y1.1.toNat + 1) := by rw [sx, l3, l5]; omega
  have av : Adv 6 st y3.2 := ((a1.t a2).t a3).le (by decide)
  refine ⟨h.mono, b1.mono, o4, lw, b2, fun _ => ⟨o1, by rw [s1]; omega, o2, by rw [ByteArray.size_append, s1, s2]; omega, (_, y3.2), .refl, by unfold enc_spoilt; exact .lit, rfl, av, by simp only [ByteArray.size_append]; rw [s1, s2]; omega⟩, fun _ => ⟨fun _ => ⟨o1, by rw [s1]; omega, o3, by rw [ByteArray.size_append, s1, s3]; omega, (_, y3.2), .refl, by unfold enc_spoilt; exact .lit, rfl, av, by simp only [ByteArray.size_append]; rw [s1, s3]; omega⟩, fun _ => ⟨o1, o3, by rw [s1, s3]; omega, (_, y3.2), .refl, by unfold enc_spoilt; exact .lit, rfl, av, by simp only [ByteArray.size_append]; rw [s1, s3]; omega⟩⟩⟩
noncomputable def F_spoilt (c : Cd) (t : ByteArray) (u : ByteArray) (st : DS) : ByteArray × DS := drw Tryd.prog 74 51 6 enc_spoilt (fun y => y.size ≤ t.size + 1) c [.lit (.string t), .lit (.string u)] st
noncomputable def e_spoilt (c : Cd) : Entry := curE 74 51 6 c fun H st a => match a with
  | [.lit (.string t), .lit (.string u)] => some (enc_spoilt H (fun _ => (F_spoilt c t u st).1), (fun _ => (F_spoilt c t u st).2), [H Prop fun _ => t.size ≤ 1000000, H Prop fun _ => 1 ≤ u.size, H Prop fun _ => u.size ≤ 1000])
  | _ => none
theorem eok_spoilt (c : Cd) : EntryOk Tryd.prog (e_spoilt c) := curE_ok (by unfold isBody; kernel_rfl) (by
  intro st a r y ob e hb hob
  split at e
  · simp only [Option.some.injEq, Prod.mk.injEq] at e
    obtain ⟨rfl, rfl, rfl⟩ := e
    exact ⟨(drw_spec (x_spoilt c _ _ st hb hob.1 hob.2.1 hob.2.2.1)).1, (by intro x hx; simp only [List.mem_cons, List.not_mem_nil, or_false] at hx; rcases hx with rfl | rfl <;> (first | (first | exact .lit | exact blq_ok 4 rfl) | exact .vec (fun j hj x hx => by rw [hob.1 j hj] at hx; simp [vrow] at hx; subst hx; exact .lit))), (by unfold enc_spoilt; (first | exact .lit | exact blq_ok 4 rfl))⟩
  · simp at e)
theorem p_spoilt (c : Cd) (t : ByteArray) (u : ByteArray) (st : DS) (h : Bd 6 st) (k0 : t.size ≤ 1000000) (k1 : 1 ≤ u.size) (k2 : u.size ≤ 1000) : Adv 6 st (F_spoilt c t u st).2 ∧ (fun y => y.size ≤ t.size + 1) (F_spoilt c t u st).1 := (drw_spec (x_spoilt c t u st h k0 k1 k2)).2
def enc_DrawIsValidGroup (H : Hold) (y : Unit → Grp) : AV := .agg [.lit (.int .i64 (H Int fun _ => (((y ())).c))), .lit (.int .i64 (H Int fun _ => (((y ())).k))), .lit (.int .i64 (H Int fun _ => (((y ())).a))), .lit (.int .i64 (H Int fun _ => (((y ())).t)))]
theorem x_DrawIsValidGroup (c : Cd) : ∃ y : Grp, Con Tryd.prog 36 [codeAV c] [] (enc_DrawIsValidGroup stdH fun _ => y) [] ∧ Bl 0 (enc_DrawIsValidGroup stdH fun _ => y) ∧ (fun _ => True) y := by
  have hB : Base Tryd.prog (tabΓ [e_anyGroup c]) tab := base_of tabOk (ents_cons (eok_anyGroup c) <| ents_nil)
  refine df_ok (N := 9) hB (draw_ok hB mixed) Tryd.func36 rfl rfl _ _ _ 60 (by simp) ?_
  intro H hH
  conv in finish _ _ _ _ _ _ _ _ => cbv
  subst hH
  simp only [Fin.sat0, Fin.sat1, stdH, Option.some.injEq, AV.lit.injEq, AV.agg.injEq, AV.tup.injEq, List.cons.injEq, Value.bool.injEq, Value.int.injEq, AllP, and_true, true_and, eq_self, decide_eq_true_eq, decide_eq_false_iff_not, Bool.not_eq_true', Bool.not_eq_false', peta, ncast]
  have h : Bd 64 (0, 0) := ⟨by decide, by decide⟩
  exact ⟨h.mono, (F_anyGroup c (0, 0)).1, .refl, by unfold enc_DrawIsValidGroup; (first | exact .lit | exact blq_ok 4 rfl)⟩
noncomputable def F_DrawIsValidGroup (c : Cd) : Grp := dfw Tryd.prog 36 enc_DrawIsValidGroup (fun _ => True) c
noncomputable def e_DrawIsValidGroup (c : Cd) : Entry := codeE 36 c fun H => enc_DrawIsValidGroup H fun _ => F_DrawIsValidGroup c
theorem eok_DrawIsValidGroup (c : Cd) : EntryOk Tryd.prog (e_DrawIsValidGroup c) := codeE_ok (by unfold isBody; kernel_rfl) (dfw_spec (x_DrawIsValidGroup c)).1
theorem p_DrawIsValidGroup (c : Cd) : (fun _ => True) (F_DrawIsValidGroup c) := (dfw_spec (x_DrawIsValidGroup c)).2.2
def enc_DrawGroupText (H : Hold) (y : Unit → Grp) : AV := .agg [.lit (.int .i64 (H Int fun _ => (((y ())).c))), .lit (.int .i64 (H Int fun _ => (((y ())).k))), .lit (.int .i64 (H Int fun _ => (((y ())).a))), .lit (.int .i64 (H Int fun _ => (((y ())).t)))]
theorem x_DrawGroupText (c : Cd) : ∃ y : Grp, Con Tryd.prog 7 [codeAV c] [] (enc_DrawGroupText stdH fun _ => y) [] ∧ Bl 0 (enc_DrawGroupText stdH fun _ => y) ∧ (fun _ => True) y := by
  have hB : Base Tryd.prog (tabΓ [e_DrawIsValidGroup c]) tab := base_of tabOk (ents_cons (eok_DrawIsValidGroup c) <| ents_nil)
  refine df_ok (N := 5) hB (draw_ok hB mixed) Tryd.func7 rfl rfl _ _ _ 60 (by simp) ?_
  intro H hH
  conv in finish _ _ _ _ _ _ _ _ => cbv
  subst hH
  simp only [Fin.sat0, Fin.sat1, stdH, Option.some.injEq, AV.lit.injEq, AV.agg.injEq, AV.tup.injEq, List.cons.injEq, Value.bool.injEq, Value.int.injEq, AllP, and_true, true_and, eq_self, decide_eq_true_eq, decide_eq_false_iff_not, Bool.not_eq_true', Bool.not_eq_false', peta, ncast]
  exact ⟨F_DrawIsValidGroup c, .refl, by unfold enc_DrawGroupText; (first | exact .lit | exact blq_ok 4 rfl)⟩
noncomputable def F_DrawGroupText (c : Cd) : Grp := dfw Tryd.prog 7 enc_DrawGroupText (fun _ => True) c
noncomputable def e_DrawGroupText (c : Cd) : Entry := codeE 7 c fun H => enc_DrawGroupText H fun _ => F_DrawGroupText c
theorem eok_DrawGroupText (c : Cd) : EntryOk Tryd.prog (e_DrawGroupText c) := codeE_ok (by unfold isBody; kernel_rfl) (dfw_spec (x_DrawGroupText c)).1
theorem p_DrawGroupText (c : Cd) : (fun _ => True) (F_DrawGroupText c) := (dfw_spec (x_DrawGroupText c)).2.2
theorem grp_ok {g : Grp} (h : (1 ≤ g.c ∧ g.c ≤ 6) ∧ (1 ≤ g.k ∧ g.k ≤ 8) ∧ (if g.k ≤ 3 then 1 ≤ g.a ∧ g.a ≤ 2 else g.a = 0) ∧ (1 ≤ g.t ∧ g.t ≤ 9)) : okG g = true := by
  obtain ⟨h1, h2, h3, h4⟩ := h
  unfold okG attF inB
  simp only [Bool.and_eq_true, decide_eq_true_eq]
  refine ⟨⟨h1, h2, ?_⟩, h4⟩
  split
  · rename_i hk; rw [if_pos hk] at h3; exact decide_eq_true h3
  · rename_i hk; rw [if_neg hk] at h3; exact decide_eq_true h3
def enc_DrawParseGroup (H : Hold) (y : Unit → ByteArray) : AV := .lit (.string (H ByteArray fun _ => ((y ()))))
theorem x_DrawParseGroup (c : Cd) : ∃ y : ByteArray, Con Tryd.prog 12 [codeAV c] [] (enc_DrawParseGroup stdH fun _ => y) [] ∧ Bl 0 (enc_DrawParseGroup stdH fun _ => y) ∧ (fun y => y.size ≤ 200) y := by
  have hB : Base Tryd.prog (tabΓ [e_group c, e_l4Text, e_one c, e_spoilt c]) tab := base_of tabOk (ents_cons (eok_group c) <| ents_cons eok_l4Text <| ents_cons (eok_one c) <| ents_cons (eok_spoilt c) <| ents_nil)
  refine df_ok (N := 17) hB (draw_ok hB mixed) Tryd.func12 rfl rfl _ _ _ 60 (by simp) ?_
  intro H hH
  conv in finish _ _ _ _ _ _ _ _ => cbv
  subst hH
  simp only [Fin.sat0, Fin.sat1, stdH, Option.some.injEq, AV.lit.injEq, AV.agg.injEq, AV.tup.injEq, List.cons.injEq, Value.bool.injEq, Value.int.injEq, AllP, and_true, true_and, eq_self, decide_eq_true_eq, decide_eq_false_iff_not, Bool.not_eq_true', Bool.not_eq_false', peta, ncast]
  have h : Bd 64 (0, 0) := ⟨by decide, by decide⟩
  obtain ⟨a1, q1⟩ := p_group c (0, 0) h.mono
  generalize F_group c (0, 0) = y1 at *
  have b1 : Bd 56 y1.2 := a1.bd h
  have a2 := (p_one c 4 y1.2 (Bd.mono (by assumption))).1; generalize F_one c 4 y1.2 = y2 at *; have b2 : Bd 54 y2.2 := a2.bd (by assumption)
  have s1 := grpT_sz y1.1
  obtain ⟨a3, q3⟩ := p_spoilt c (grpT y1.1) (⟨⟨[97, 110, 32, 115]⟩⟩ : ByteArray) y2.2 b2.mono (by omega) (by decide) (by decide)
  exact ⟨h.mono, okG_T (grp_ok q1), b1.mono, fun _ => ⟨⟨b2.mono, by show (grpT y1.1).size ≤ _; omega, by decide, by decide⟩, _, .refl, by unfold enc_DrawParseGroup; exact .lit, Nat.le_trans q3 (by omega)⟩, fun _ => ⟨_, .refl, by unfold enc_DrawParseGroup; exact .lit, by show (grpT y1.1).size ≤ _; omega⟩⟩
noncomputable def F_DrawParseGroup (c : Cd) : ByteArray := dfw Tryd.prog 12 enc_DrawParseGroup (fun y => y.size ≤ 200) c
noncomputable def e_DrawParseGroup (c : Cd) : Entry := codeE 12 c fun H => enc_DrawParseGroup H fun _ => F_DrawParseGroup c
theorem eok_DrawParseGroup (c : Cd) : EntryOk Tryd.prog (e_DrawParseGroup c) := codeE_ok (by unfold isBody; kernel_rfl) (dfw_spec (x_DrawParseGroup c)).1
theorem p_DrawParseGroup (c : Cd) : (fun y => y.size ≤ 200) (F_DrawParseGroup c) := (dfw_spec (x_DrawParseGroup c)).2.2
structure GG where
  a : Grp
  b : Grp
deriving Inhabited
def enc_DrawGroupDifferences (H : Hold) (y : Unit → GG) : AV := .tup [.agg [.lit (.int .i64 (H Int fun _ => (((y ()).a).c))), .lit (.int .i64 (H Int fun _ => (((y ()).a).k))), .lit (.int .i64 (H Int fun _ => (((y ()).a).a))), .lit (.int .i64 (H Int fun _ => (((y ()).a).t)))], .agg [.lit (.int .i64 (H Int fun _ => (((y ()).b).c))), .lit (.int .i64 (H Int fun _ => (((y ()).b).k))), .lit (.int .i64 (H Int fun _ => (((y ()).b).a))), .lit (.int .i64 (H Int fun _ => (((y ()).b).t)))]]
theorem x_DrawGroupDifferences (c : Cd) : ∃ y : GG, Con Tryd.prog 53 [codeAV c] [] (enc_DrawGroupDifferences stdH fun _ => y) [] ∧ Bl 0 (enc_DrawGroupDifferences stdH fun _ => y) ∧ (fun _ => True) y := by
  have hB : Base Tryd.prog (tabΓ [e_anyGroup c, e_pick c, e_tincture c]) tab := base_of tabOk (ents_cons (eok_anyGroup c) <| ents_cons (eok_pick c) <| ents_cons (eok_tincture c) <| ents_nil)
  refine df_ok (N := 37) hB (draw_ok hB mixed) Tryd.func53 rfl rfl _ _ _ 100 (by simp) ?_
  intro H hH
  conv in finish _ _ _ _ _ _ _ _ => cbv
  subst hH
  simp only [Fin.sat0, Fin.sat1, stdH, Option.some.injEq, AV.lit.injEq, AV.agg.injEq, AV.tup.injEq, List.cons.injEq, Value.bool.injEq, Value.int.injEq, AllP, and_true, true_and, eq_self, decide_eq_true_eq, decide_eq_false_iff_not, Bool.not_eq_true', Bool.not_eq_false', peta, ncast]
  have h : Bd 64 (0, 0) := ⟨by decide, by decide⟩
  have a1 := (p_anyGroup c (0, 0) (Bd.mono (by assumption))).1; generalize F_anyGroup c (0, 0) = y1 at *; have b1 : Bd 52 y1.2 := a1.bd (by assumption)
  have a2 := (p_pick c 5 y1.2 (Bd.mono (by assumption))).1; generalize F_pick c 5 y1.2 = y2 at *; have b2 : Bd 50 y2.2 := a2.bd (by assumption)
  have a3 := (p_anyGroup c y2.2 (Bd.mono (by assumption))).1; generalize F_anyGroup c y2.2 = y3 at *; have b3 : Bd 38 y3.2 := a3.bd (by assumption)
  have a4 := (p_pick c 6 y2.2 (Bd.mono (by assumption))).1; generalize F_pick c 6 y2.2 = y4 at *; have b4 : Bd 48 y4.2 := a4.bd (by assumption)
  have a5 := (p_tincture c y2.2 (Bd.mono (by assumption))).1; generalize F_tincture c y2.2 = y5 at *; have b5 : Bd 48 y5.2 := a5.bd (by assumption)
  have a6 := (p_pick c 3 y2.2 (Bd.mono (by assumption))).1; generalize F_pick c 3 y2.2 = y6 at *; have b6 : Bd 48 y6.2 := a6.bd (by assumption)
  refine ⟨h.mono, b1.mono, fun _ => ⟨b2.mono, ⟨y1.1, y3.1⟩, .refl, by unfold enc_DrawGroupDifferences; (first | exact .lit | exact blq_ok 4 rfl)⟩, fun _ => ⟨fun _ => ⟨b2.mono, ⟨y1.1, ⟨IntKind.i64.wrap (1 + y4.1), y1.1.k, y1.1.a, y1.1.t⟩⟩, .refl, by unfold enc_DrawGroupDifferences; (first | exact .lit | exact blq_ok 4 rfl)⟩, fun _ => ⟨fun _ => ⟨b2.mono, ⟨y1.1, ⟨y1.1.c, y1.1.k, y1.1.a, y5.1⟩⟩, .refl, by unfold enc_DrawGroupDifferences; (first | exact .lit | exact blq_ok 4 rfl)⟩, fun _ => ⟨fun _ => ⟨b2.mono, ⟨y1.1, ⟨y1.1.c, y1.1.k, y6.1, y1.1.t⟩⟩, .refl, by unfold enc_DrawGroupDifferences; (first | exact .lit | exact blq_ok 4 rfl)⟩, fun _ => ⟨⟨y1.1, y1.1⟩, .refl, by unfold enc_DrawGroupDifferences; (first | exact .lit | exact blq_ok 4 rfl)⟩⟩⟩⟩⟩
noncomputable def F_DrawGroupDifferences (c : Cd) : GG := dfw Tryd.prog 53 enc_DrawGroupDifferences (fun _ => True) c
noncomputable def e_DrawGroupDifferences (c : Cd) : Entry := codeE 53 c fun H => enc_DrawGroupDifferences H fun _ => F_DrawGroupDifferences c
theorem eok_DrawGroupDifferences (c : Cd) : EntryOk Tryd.prog (e_DrawGroupDifferences c) := codeE_ok (by unfold isBody; kernel_rfl) (dfw_spec (x_DrawGroupDifferences c)).1
theorem p_DrawGroupDifferences (c : Cd) : (fun _ => True) (F_DrawGroupDifferences c) := (dfw_spec (x_DrawGroupDifferences c)).2.2
def enc_DrawJoinGroups (H : Hold) (y : Unit → GG) : AV := .tup [.agg [.lit (.int .i64 (H Int fun _ => (((y ()).a).c))), .lit (.int .i64 (H Int fun _ => (((y ()).a).k))), .lit (.int .i64 (H Int fun _ => (((y ()).a).a))), .lit (.int .i64 (H Int fun _ => (((y ()).a).t)))], .agg [.lit (.int .i64 (H Int fun _ => (((y ()).b).c))), .lit (.int .i64 (H Int fun _ => (((y ()).b).k))), .lit (.int .i64 (H Int fun _ => (((y ()).b).a))), .lit (.int .i64 (H Int fun _ => (((y ()).b).t)))]]
theorem x_DrawJoinGroups (c : Cd) : ∃ y : GG, Con Tryd.prog 14 [codeAV c] [] (enc_DrawJoinGroups stdH fun _ => y) [] ∧ Bl 0 (enc_DrawJoinGroups stdH fun _ => y) ∧ (fun _ => True) y := by
  have hB : Base Tryd.prog (tabΓ [e_DrawGroupDifferences c, e_one c, e_pick c]) tab := base_of tabOk (ents_cons (eok_DrawGroupDifferences c) <| ents_cons (eok_one c) <| ents_cons (eok_pick c) <| ents_nil)
  refine df_ok (N := 24) hB (draw_ok hB mixed) Tryd.func14 rfl rfl _ _ _ 100 (by simp) ?_
  intro H hH
  conv in finish _ _ _ _ _ _ _ _ => cbv
  subst hH
  simp only [Fin.sat0, Fin.sat1, stdH, Option.some.injEq, AV.lit.injEq, AV.agg.injEq, AV.tup.injEq, List.cons.injEq, Value.bool.injEq, Value.int.injEq, AllP, and_true, true_and, eq_self, decide_eq_true_eq, decide_eq_false_iff_not, Bool.not_eq_true', Bool.not_eq_false', peta, ncast]
  have h : Bd 64 (0, 0) := ⟨by decide, by decide⟩
  have a1 := (p_one c 2 (0, 0) (Bd.mono (by assumption))).1; generalize F_one c 2 (0, 0) = y1 at *; have b1 : Bd 60 y1.2 := a1.bd (by assumption)
  have a2 := (p_pick c 3 y1.2 (Bd.mono (by assumption))).1; generalize F_pick c 3 y1.2 = y2 at *; have b2 : Bd 58 y2.2 := a2.bd (by assumption)
  generalize F_DrawGroupDifferences c = z at *
  refine ⟨h.mono, fun _ => ⟨b1.mono, ⟨z.a, ⟨IntKind.i64.wrap (1 + y2.1), z.a.k, z.a.a, z.a.t⟩⟩, .refl, by unfold enc_DrawJoinGroups; (first | exact .lit | exact blq_ok 4 rfl)⟩, fun _ => ⟨⟨z.a, z.b⟩, .refl, by unfold enc_DrawJoinGroups; (first | exact .lit | exact blq_ok 4 rfl)⟩⟩
noncomputable def F_DrawJoinGroups (c : Cd) : GG := dfw Tryd.prog 14 enc_DrawJoinGroups (fun _ => True) c
noncomputable def e_DrawJoinGroups (c : Cd) : Entry := codeE 14 c fun H => enc_DrawJoinGroups H fun _ => F_DrawJoinGroups c
theorem eok_DrawJoinGroups (c : Cd) : EntryOk Tryd.prog (e_DrawJoinGroups c) := codeE_ok (by unfold isBody; kernel_rfl) (dfw_spec (x_DrawJoinGroups c)).1
theorem p_DrawJoinGroups (c : Cd) : (fun _ => True) (F_DrawJoinGroups c) := (dfw_spec (x_DrawJoinGroups c)).2.2
def rowGs : List (List Int) := [[1], [1, 1], [2, 1], [2, 2], [2, 1, 2], [3, 2, 1]]
def rowT (n : Int) : List Int := rowGs.getD (n - 1).toNat []
theorem c_rowsOfG (n : Int) (h0 : 1 ≤ n ∧ n ≤ 6) : ConN Tryd.prog 52 [.lit (.int .i64 n)] [] 0 (.vec 1 (stdH Nat fun _ => (rowT n).length) (rowsI stdH fun _ => rowT n)) [] [] := by
  have hB : Base Tryd.prog (tabΓ []) tabO := base_of tabOkO (ents_nil)
  refine con_m (N := 14) hB (draw_ok hB mixed) Tryd.func52 rfl rfl (fun H => [.lit (.int .i64 n)]) (fun _ => []) 0 (fun H => .vec 1 (H Nat fun _ => (rowT n).length) (rowsI H fun _ => rowT n)) (fun H => []) (fun _ => []) 100 (by simp) (fun x hx => ?_) (by simp [lk]) (by omega) (by simp) ?_
  · simp only [List.mem_cons, List.not_mem_nil, or_false] at hx
    rcases hx with rfl
    · exact .lit
  intro X hX hX0 H hH
  conv in Fin.chk _ _ => cbv
  try simp only [Plain_rowsA, Plain_rowsB, Plain_rowsC, Plain_rowsF, Plain_rowsG, Plain_rowsI, Plain_rowsS, Plain_rowsU, Fin.satC_ret, Fin.satC_br, Fin.satC_need, Fin.satC_again, AllP, and_true, true_and, upd, List.length_nil, List.length_cons, Nat.zero_add, if_true, ncast, Int.ofNat_eq_natCast]
  subst hH
  simp only [stdH]
  have e : IntKind.i64.wrap (n - 1) = n - 1 := wi (by omega) (by omega)
  rw [e]
  refine ⟨by omega, ?_⟩
  rcases (by omega : n = 1 ∨ n = 2 ∨ n = 3 ∨ n = 4 ∨ n = 5 ∨ n = 6) with rfl | rfl | rfl | rfl | rfl | rfl
  · exact RowsEq.self okI (L := [1])
  · exact RowsEq.self okI (L := [1, 1])
  · exact RowsEq.self okI (L := [2, 1])
  · exact RowsEq.self okI (L := [2, 2])
  · exact RowsEq.self okI (L := [2, 1, 2])
  · exact RowsEq.self okI (L := [3, 2, 1])
noncomputable def e_rowsOfG : Entry := pureE 52 fun H a => match a with
  | [.lit (.int .i64 n)] => some (.vec 1 (H Nat fun _ => (rowT n).length) (rowsI H fun _ => rowT n), [H Prop fun _ => 1 ≤ n ∧ n ≤ 6])
  | _ => none
theorem eok_rowsOfG : EntryOk Tryd.prog e_rowsOfG := pureM_ok (by unfold isBody; kernel_rfl) (by
  intro a r ob e hob
  split at e
  · rename_i n
    simp only [Option.some.injEq, Prod.mk.injEq] at e
    obtain ⟨rfl, rfl⟩ := e
    exact ConN.args (.cons .rfl .nil) (c_rowsOfG n hob.1)
  · simp at e)
def roT (n : Int) : List Int := if inB n 1 6 then rowT n else []
theorem c_RowsOf (n : Int)  : ConN Tryd.prog 13 [.lit (.int .i64 n)] [] 0 (.tup [.vec 1 (stdH Nat fun _ => (roT n).length) (rowsI stdH fun _ => roT n), .lit (.bool (stdH Bool fun _ => inB n 1 6))]) [] [] := by
  have hB : Base Tryd.prog (tabΓ [e_inside, e_rowsOfG]) tabO := base_of tabOkO (ents_cons eok_inside <| ents_cons eok_rowsOfG <| ents_nil)
  refine con_m (N := 9) hB (draw_ok hB mixed) Tryd.func13 rfl rfl (fun H => [.lit (.int .i64 n)]) (fun _ => []) 0 (fun H => .tup [.vec 1 (H Nat fun _ => (roT n).length) (rowsI H fun _ => roT n), .lit (.bool (H Bool fun _ => inB n 1 6))]) (fun H => []) (fun _ => []) 100 (by simp) (fun x hx => ?_) (by simp [lk]) (by omega) (by simp) ?_
  · simp only [List.mem_cons, List.not_mem_nil, or_false] at hx
    rcases hx with rfl
    · exact .lit
  intro X hX hX0 H hH
  conv in Fin.chk _ _ => cbv
  try simp only [Plain_rowsA, Plain_rowsB, Plain_rowsC, Plain_rowsF, Plain_rowsG, Plain_rowsI, Plain_rowsS, Plain_rowsU, Fin.satC_ret, Fin.satC_br, Fin.satC_need, Fin.satC_again, AllP, and_true, true_and, upd, List.length_nil, List.length_cons, Nat.zero_add, if_true, ncast, Int.ofNat_eq_natCast]
  subst hH
  simp only [stdH]
  unfold roT
  cases h : inB n 1 6
  · exact ⟨fun _ => ⟨rfl, rfl⟩, fun h => (by cases h)⟩
  · exact ⟨fun h => (by cases h), fun _ => ⟨by unfold inB at h; simpa using h, rfl, RowsEq.self okI⟩⟩
noncomputable def e_RowsOf : Entry := pureE 13 fun H a => match a with
  | [.lit (.int .i64 n)] => some (.tup [.vec 1 (H Nat fun _ => (roT n).length) (rowsI H fun _ => roT n), .lit (.bool (H Bool fun _ => inB n 1 6))], [])
  | _ => none
theorem eok_RowsOf : EntryOk Tryd.prog e_RowsOf := pureM_ok (by unfold isBody; kernel_rfl) (by
  intro a r ob e hob
  split at e
  · rename_i n
    simp only [Option.some.injEq, Prod.mk.injEq] at e
    obtain ⟨rfl, rfl⟩ := e
    exact ConN.args (.cons .rfl .nil) (c_RowsOf n )
  · simp at e)
def joG (a b : Grp) : Grp := ⟨IntKind.i64.wrap (a.c + b.c), a.k, a.a, a.t⟩
def joOk (a b : Grp) : Bool := okG a && (okG b && (decide (a.k = b.k) && (decide (a.a = b.a) && (decide (a.t = b.t) && okG (joG a b)))))
theorem c_JoinGroups (x : Grp) (z : Grp)  : ConN Tryd.prog 15 [aT rowG stdH fun _ => x, aT rowG stdH fun _ => z] [] 0 (.tup [aT rowG stdH fun _ => if joOk x z then joG x z else zG, .lit (.bool (stdH Bool fun _ => joOk x z))]) [] [] := by
  have hB : Base Tryd.prog (tabΓ [e_IsValidGroup]) tab := base_of tabOk (ents_cons eok_IsValidGroup <| ents_nil)
  refine con_m (N := 35) hB (draw_ok hB mixed) Tryd.func15 rfl rfl (fun H => [aT rowG H fun _ => x, aT rowG H fun _ => z]) (fun _ => []) 0 (fun H => .tup [aT rowG H fun _ => if joOk x z then joG x z else zG, .lit (.bool (H Bool fun _ => joOk x z))]) (fun H => []) (fun _ => []) 150 (by simp) (fun x hx => ?_) (by simp [lk]) (by omega) (by simp) ?_
  · simp only [List.mem_cons, List.not_mem_nil, or_false] at hx
    rcases hx with rfl | rfl
    · exact aT_bl okRG _ _
    · exact aT_bl okRG _ _
  intro X hX hX0 H hH
  conv in Fin.chk _ _ => cbv
  try simp only [Plain_rowsA, Plain_rowsB, Plain_rowsC, Plain_rowsF, Plain_rowsG, Plain_rowsI, Plain_rowsS, Plain_rowsU, Fin.satC_ret, Fin.satC_br, Fin.satC_need, Fin.satC_again, AllP, and_true, true_and, upd, List.length_nil, List.length_cons, Nat.zero_add, if_true, ncast, Int.ofNat_eq_natCast]
  subst hH
  simp only [stdH, Grp.eta]
  have e1 : (bif !okG x then true else !okG z) = !(okG x && okG z) := by cases okG x <;> cases okG z <;> rfl
  have e2 : (bif !allT [fun _ => (0 : Int) == 0, fun _ => x.k == z.k, fun _ => x.a == z.a, fun _ => x.t == z.t] then true else !okG (⟨IntKind.i64.wrap (x.c + z.c), x.k, x.a, x.t⟩ : Grp)) = !(decide (x.k = z.k) && (decide (x.a = z.a) && (decide (x.t = z.t) && okG (joG x z)))) := by
    have : okG (⟨IntKind.i64.wrap (x.c + z.c), x.k, x.a, x.t⟩ : Grp) = okG (joG x z) := rfl
    rw [this]
    by_cases h1 : x.k = z.k <;> by_cases h2 : x.a = z.a <;> by_cases h3 : x.t = z.t <;> cases okG (joG x z) <;> simp [allT, h1, h2, h3]
  rw [e1, e2]
  unfold joOk
  cases okG x <;> cases okG z <;> cases (decide (x.k = z.k) && (decide (x.a = z.a) && (decide (x.t = z.t) && okG (joG x z))))
  all_goals simp only [Bool.and_true, Bool.and_false, Bool.and_self, Bool.not_true, Bool.not_false, if_true, Bool.false_eq_true, if_false]
  all_goals (repeat' (first | rfl | trivial | refine And.intro ?_ ?_ | (intro h; first | (cases h; done) | skip)))
noncomputable def e_JoinGroups : Entry := pureE 15 fun H a => match a with
  | [.agg [.lit (.int .i64 x0), .lit (.int .i64 x1), .lit (.int .i64 x2), .lit (.int .i64 x3)], .agg [.lit (.int .i64 z0), .lit (.int .i64 z1), .lit (.int .i64 z2), .lit (.int .i64 z3)]] => some (.tup [aT rowG H fun _ => if joOk (⟨x0, x1, x2, x3⟩ : Grp) (⟨z0, z1, z2, z3⟩ : Grp) then joG (⟨x0, x1, x2, x3⟩ : Grp) (⟨z0, z1, z2, z3⟩ : Grp) else zG, .lit (.bool (H Bool fun _ => joOk (⟨x0, x1, x2, x3⟩ : Grp) (⟨z0, z1, z2, z3⟩ : Grp)))], [])
  | _ => none
theorem eok_JoinGroups : EntryOk Tryd.prog e_JoinGroups := pureM_ok (by unfold isBody; kernel_rfl) (by
  intro a r ob e hob
  split at e
  · rename_i x0 x1 x2 x3 z0 z1 z2 z3
    simp only [Option.some.injEq, Prod.mk.injEq] at e
    obtain ⟨rfl, rfl⟩ := e
    exact ConN.args (.cons .rfl (.cons .rfl .nil)) (c_JoinGroups (⟨x0, x1, x2, x3⟩ : Grp) (⟨z0, z1, z2, z3⟩ : Grp) )
  · simp at e)
theorem c_JoinGroupsS (x : Grp) (z : Grp)  : ConN Tryd.prog 16 [aT rowG stdH fun _ => x, aT rowG stdH fun _ => z] [] 0 (.tup [aT rowG stdH fun _ => if joOk x z then joG x z else zG, .lit (.bool (stdH Bool fun _ => joOk x z))]) [] [] := by
  have hB : Base Tryd.prog (tabΓ [e_l4Group]) tab := base_of tabOk (ents_cons eok_l4Group <| ents_nil)
  refine con_m (N := 55) hB (draw_ok hB mixed) Tryd.func16 rfl rfl (fun H => [aT rowG H fun _ => x, aT rowG H fun _ => z]) (fun _ => []) 0 (fun H => .tup [aT rowG H fun _ => if joOk x z then joG x z else zG, .lit (.bool (H Bool fun _ => joOk x z))]) (fun H => []) (fun _ => []) 150 (by simp) (fun x hx => ?_) (by simp [lk]) (by omega) (by simp) ?_
  · simp only [List.mem_cons, List.not_mem_nil, or_false] at hx
    rcases hx with rfl | rfl
    · exact aT_bl okRG _ _
    · exact aT_bl okRG _ _
  intro X hX hX0 H hH
  conv in Fin.chk _ _ => cbv
  try simp only [Plain_rowsA, Plain_rowsB, Plain_rowsC, Plain_rowsF, Plain_rowsG, Plain_rowsI, Plain_rowsS, Plain_rowsU, Fin.satC_ret, Fin.satC_br, Fin.satC_need, Fin.satC_again, AllP, and_true, true_and, upd, List.length_nil, List.length_cons, Nat.zero_add, if_true, ncast, Int.ofNat_eq_natCast]
  subst hH
  simp only [stdH, Grp.eta]
  have e : (bif bif bif bif bif !okG x then true else !okG z then true else x.k != z.k then true else x.a != z.a then true else x.t != z.t then true else !okG (joG x z)) = !joOk x z := by
    unfold joOk
    by_cases h1 : x.k = z.k <;> by_cases h2 : x.a = z.a <;> by_cases h3 : x.t = z.t <;> cases okG (joG x z) <;> cases okG x <;> cases okG z <;> simp [h1, h2, h3]
  have ex : (inB x.c 1 6 && attF x.k x.a && inB x.t 1 9) = okG x := rfl
  have ez : (inB z.c 1 6 && attF z.k z.a && inB z.t 1 9) = okG z := rfl
  have eo : (inB (IntKind.i64.wrap (x.c + z.c)) 1 6 && attF x.k x.a && inB x.t 1 9) = okG (joG x z) := rfl
  rw [ex, ez, eo]
  rw [e]
  cases joOk x z
  · exact ⟨fun _ => ⟨rfl, rfl, rfl, rfl, rfl⟩, fun h => by cases h⟩
  · exact ⟨fun h => (by cases h), fun _ => ⟨rfl, rfl, rfl, rfl, rfl⟩⟩
noncomputable def e_JoinGroupsS : Entry := pureE 16 fun H a => match a with
  | [.agg [.lit (.int .i64 x0), .lit (.int .i64 x1), .lit (.int .i64 x2), .lit (.int .i64 x3)], .agg [.lit (.int .i64 z0), .lit (.int .i64 z1), .lit (.int .i64 z2), .lit (.int .i64 z3)]] => some (.tup [aT rowG H fun _ => if joOk (⟨x0, x1, x2, x3⟩ : Grp) (⟨z0, z1, z2, z3⟩ : Grp) then joG (⟨x0, x1, x2, x3⟩ : Grp) (⟨z0, z1, z2, z3⟩ : Grp) else zG, .lit (.bool (H Bool fun _ => joOk (⟨x0, x1, x2, x3⟩ : Grp) (⟨z0, z1, z2, z3⟩ : Grp)))], [])
  | _ => none
theorem eok_JoinGroupsS : EntryOk Tryd.prog e_JoinGroupsS := pureM_ok (by unfold isBody; kernel_rfl) (by
  intro a r ob e hob
  split at e
  · rename_i x0 x1 x2 x3 z0 z1 z2 z3
    simp only [Option.some.injEq, Prod.mk.injEq] at e
    obtain ⟨rfl, rfl⟩ := e
    exact ConN.args (.cons .rfl (.cons .rfl .nil)) (c_JoinGroupsS (⟨x0, x1, x2, x3⟩ : Grp) (⟨z0, z1, z2, z3⟩ : Grp) )
  · simp at e)
def enc_vBig3 (H : Hold) (y : Unit → Bool) : AV := .lit (.bool (H Bool fun _ => ((y ()))))
theorem x_vBig3 (c : Cd) : ∃ y : Bool, Con Tryd.prog 6 [codeAV c] [] (enc_vBig3 stdH fun _ => y) [] ∧ Bl 0 (enc_vBig3 stdH fun _ => y) ∧ (fun _ => True) y := by
  have hB : Base Tryd.prog (tabΓ []) tab := base_of tabOk (ents_nil)
  refine df_ok (N := 6) hB (draw_ok hB mixed) Tryd.func6 rfl rfl _ _ _ 50 (by simp) ?_
  intro H hH
  conv in finish _ _ _ _ _ _ _ _ => cbv
  subst hH
  simp only [Fin.sat0, Fin.sat1, stdH, Option.some.injEq, AV.lit.injEq, AV.agg.injEq, AV.tup.injEq, List.cons.injEq, Value.bool.injEq, Value.int.injEq, AllP, and_true, true_and, eq_self, decide_eq_true_eq, decide_eq_false_iff_not, Bool.not_eq_true', Bool.not_eq_false', peta, ncast]
  exact ⟨_, .refl, .lit⟩
noncomputable def F_vBig3 (c : Cd) : Bool := dfw Tryd.prog 6 enc_vBig3 (fun _ => True) c
noncomputable def e_vBig3 (c : Cd) : Entry := codeE 6 c fun H => enc_vBig3 H fun _ => F_vBig3 c
theorem eok_vBig3 (c : Cd) : EntryOk Tryd.prog (e_vBig3 c) := codeE_ok (by unfold isBody; kernel_rfl) (dfw_spec (x_vBig3 c)).1
theorem p_vBig3 (c : Cd) : (fun _ => True) (F_vBig3 c) := (dfw_spec (x_vBig3 c)).2.2
theorem c_ValidGroupS (g : Grp)  : ConN Tryd.prog 10 [aT rowG stdH fun _ => g] [] 0 (.lit (.bool (stdH Bool fun _ => okG g))) [] [] := by
  have hB : Base Tryd.prog (tabΓ [e_l4Group]) tab := base_of tabOk (ents_cons eok_l4Group <| ents_nil)
  refine con_m (N := 5) hB (draw_ok hB mixed) Tryd.func10 rfl rfl (fun H => [aT rowG H fun _ => g]) (fun _ => []) 0 (fun H => .lit (.bool (H Bool fun _ => okG g))) (fun H => []) (fun _ => []) 60 (by simp) (fun x hx => ?_) (by simp [lk]) (by omega) (by simp) ?_
  · simp only [List.mem_cons, List.not_mem_nil, or_false] at hx
    rcases hx with rfl
    · exact aT_bl okRG _ _
  intro X hX hX0 H hH
  conv in Fin.chk _ _ => cbv
  try simp only [Plain_rowsA, Plain_rowsB, Plain_rowsC, Plain_rowsF, Plain_rowsG, Plain_rowsI, Plain_rowsS, Plain_rowsU, Fin.satC_ret, Fin.satC_br, Fin.satC_need, Fin.satC_again, AllP, and_true, true_and, upd, List.length_nil, List.length_cons, Nat.zero_add, if_true, ncast, Int.ofNat_eq_natCast]
  subst hH
  exact rfl
noncomputable def e_ValidGroupS : Entry := pureE 10 fun H a => match a with
  | [.agg [.lit (.int .i64 g0), .lit (.int .i64 g1), .lit (.int .i64 g2), .lit (.int .i64 g3)]] => some (.lit (.bool (H Bool fun _ => okG (⟨g0, g1, g2, g3⟩ : Grp))), [])
  | _ => none
theorem eok_ValidGroupS : EntryOk Tryd.prog e_ValidGroupS := pureM_ok (by unfold isBody; kernel_rfl) (by
  intro a r ob e hob
  split at e
  · rename_i g0 g1 g2 g3
    simp only [Option.some.injEq, Prod.mk.injEq] at e
    obtain ⟨rfl, rfl⟩ := e
    exact ConN.args (.cons .rfl .nil) (c_ValidGroupS (⟨g0, g1, g2, g3⟩ : Grp) )
  · simp at e)
theorem parseG_of {g : Grp} (h : okG g = true) : pG (grpT g) = some g := pG_iff.2 ⟨h, rfl⟩

end Go.Proofs.YtdicfibonfjalaaDoor.AM
