/- Lemmas and contracts (Fdy); conditions: none. -/
import Derived.Test.YtcjjffmbhionmaaGreatDoorK03
import Derived.Test.YtcjjffmbhionmaaGreatDoorK37
import Derived.Test.YtcjjffmbhionmaaGreatDoorK38
set_option linter.unusedVariables false
set_option linter.unusedSimpArgs false
set_option maxRecDepth 100000
set_option maxHeartbeats 4000000
set_option cbv.maxSteps 3000000
namespace Go.Proofs.YtcjjffmbhionmaaGreatDoor.AM
/- What is searched for is drawn; conditions: none. -/
structure LuD where
  r : List Grt
  f : List ByteArray
deriving Inhabited
structure MsD where
  a : Arm
  f : List ByteArray
deriving Inhabited
structure SgD where
  r : List Grt
  a : Arm
  n : Int
deriving Inhabited
def r_DrawLookUp (n : Nat) (H : Hold) (y : Unit → LuD) : AV := .tup [.agg [.vec 18 (H Nat fun _ => ((y ()).r).length) (rowsW H fun _ => (y ()).r)], .vec 1 (H Nat fun _ => ((y ()).f).length) (rowsS H fun _ => (y ()).f)]
def nb_DrawLookUp (H : Hold) (y : Unit → LuD) : List Blk := []
theorem x_DrawLookUp (c : Cd) : ∃ y, DrfM Tryz.prog 51 r_DrawLookUp nb_DrawLookUp (fun y => (y.r.length ≤ 20 ∧ ∀ g ∈ y.r, g.name.size ≤ 200) ∧ (y.f.length ≤ 12 ∧ Sz 200 y.f)) c y := by
  have hB : Base Tryz.prog (tabΓ [e_anyRegister c, e_featuresOf c]) tab := base_of tabOk (ents_cons (eok_anyRegister c) <| ents_cons (eok_featuresOf c) <| ents_nil)
  refine drfM_ok (N := 15) hB (draw_ok hB mixed) Tryz.func51 rfl rfl r_DrawLookUp nb_DrawLookUp (fun y => (y.r.length ≤ 20 ∧ ∀ g ∈ y.r, g.name.size ≤ 200) ∧ (y.f.length ≤ 12 ∧ Sz 200 y.f)) c 200 (by simp) ?_
  intro H hH
  conv in finish _ _ _ _ _ _ _ _ => cbv
  simp only [Fin.sat0, AllP, and_true, true_and, ncast, Int.ofNat_eq_natCast, heta hH]
  have h : Bd 640 (0, 0) := ⟨by decide, by decide⟩
  obtain ⟨a1, l1, z1⟩ := p_anyRegister c (0, 0) (h.mono (by omega))
  have b1 := a1.bd h (by omega : 530 + 110 ≤ 640)
  simp only [TlW_H hH, hlen hH]
  generalize F_anyRegister c (0, 0) = q at *
  obtain ⟨L, s1⟩ := q
  simp only at *
  have hn : Nsz L := ⟨fun g hg => Nat.le_trans (z1 g hg) (by decide)⟩
  obtain ⟨a2, l2⟩ := p_featuresOf c ⟨L⟩ s1 (b1.mono (by omega)) l1 hn
  refine ⟨?_, ⟨?_, ?_, ?_, ?_⟩, ⟨⟨L, (F_featuresOf c ⟨L⟩ s1).1⟩, ⟨⟨l1, z1⟩, l2⟩, ?_⟩⟩
  · try simp only [hH, stdH, zqz, ne_eq, zqy]
    exact h.mono (by omega)
  · try simp only [hH, stdH, zqz, ne_eq, zqy]
    exact b1.mono (by omega)
  · try simp only [hH, stdH, zqz, ne_eq, zqy]
    exact Shp_W _ _
  · try simp only [hH, stdH, zqz, ne_eq, zqy]
    exact l1
  · try simp only [hH, stdH, zqz, ne_eq, zqy]
    exact hn
  · (conv in matchEx _ _ _ _ _ _ _ => cbv); simp only [AllG, AllP, and_true, hH, stdH, zql, ncast, zqe, zqy]
    all_goals (repeat' (with_reducible refine And.intro ?_ ?_)) <;> (first | exact Eq.refl _ | exact True.intro | exact RowsEq.self okRW | exact RowsEq.self okS | exact c.rqN)
noncomputable def F_DrawLookUp (c : Cd) : LuD := drfM Tryz.prog 51 r_DrawLookUp nb_DrawLookUp (fun y => (y.r.length ≤ 20 ∧ ∀ g ∈ y.r, g.name.size ≤ 200) ∧ (y.f.length ≤ 12 ∧ Sz 200 y.f)) c
noncomputable def e_DrawLookUp (c : Cd) : Entry := codeEN 51 c (fun nx H => r_DrawLookUp nx H fun _ => F_DrawLookUp c) (fun H => nb_DrawLookUp H fun _ => F_DrawLookUp c)
theorem eok_DrawLookUp (c : Cd) : EntryOk Tryz.prog (e_DrawLookUp c) := codeEN_ok (by unfold isBody; kernel_rfl) (drfM_spec (x_DrawLookUp c)).1 (fun nx => by (repeat' (first | exact .nil | exact .slc ⟨by omega, by simp [nb_DrawLookUp]⟩ (by omega) | exact .pl .lit | exact .pl (vT_bl okRW (fun _ => (F_DrawLookUp c).r) _) | exact .pl (vT_bl okS (fun _ => (F_DrawLookUp c).f) _) | apply ReL.cons | apply Re.aggL | apply Re.tupL))) (fun b hq => by
      simp [nb_DrawLookUp] at hq)
theorem p_DrawLookUp (c : Cd) : (fun y => (y.r.length ≤ 20 ∧ ∀ g ∈ y.r, g.name.size ≤ 200) ∧ (y.f.length ≤ 12 ∧ Sz 200 y.f)) (F_DrawLookUp c) := (drfM_spec (x_DrawLookUp c)).2
def r_DrawSearchAny (n : Nat) (H : Hold) (y : Unit → LuD) : AV := .tup [.agg [.vec 18 (H Nat fun _ => ((y ()).r).length) (rowsW H fun _ => (y ()).r)], .vec 1 (H Nat fun _ => ((y ()).f).length) (rowsS H fun _ => (y ()).f)]
def nb_DrawSearchAny (H : Hold) (y : Unit → LuD) : List Blk := []
theorem x_DrawSearchAny (c : Cd) : ∃ y, DrfM Tryz.prog 18 r_DrawSearchAny nb_DrawSearchAny (fun y => (y.r.length ≤ 20 ∧ ∀ g ∈ y.r, g.name.size ≤ 200) ∧ (y.f.length ≤ 12 ∧ Sz 200 y.f)) c y := by
  have hB : Base Tryz.prog (tabΓ [e_DrawLookUp c]) tab := base_of tabOk (ents_cons (eok_DrawLookUp c) <| ents_nil)
  refine drfM_ok (N := 8) hB (draw_ok hB mixed) Tryz.func18 rfl rfl r_DrawSearchAny nb_DrawSearchAny (fun y => (y.r.length ≤ 20 ∧ ∀ g ∈ y.r, g.name.size ≤ 200) ∧ (y.f.length ≤ 12 ∧ Sz 200 y.f)) c 200 (by simp) ?_
  intro H hH
  conv in finish _ _ _ _ _ _ _ _ => cbv
  simp only [Fin.sat0, AllP, and_true, true_and, ncast, Int.ofNat_eq_natCast, heta hH]
  refine ⟨?_, ⟨F_DrawLookUp c, p_DrawLookUp c, ?_⟩⟩
  · try simp only [hH, stdH, zqz, ne_eq, zqy]
  (conv in matchEx _ _ _ _ _ _ _ => cbv); simp only [AllG, AllP, and_true, hH, stdH, zql, ncast, zqe, zqy]
  all_goals (repeat' (with_reducible refine And.intro ?_ ?_)) <;> (first | exact Eq.refl _ | exact True.intro | exact RowsEq.self okRW | exact RowsEq.self okS | exact c.rqN)
noncomputable def F_DrawSearchAny (c : Cd) : LuD := drfM Tryz.prog 18 r_DrawSearchAny nb_DrawSearchAny (fun y => (y.r.length ≤ 20 ∧ ∀ g ∈ y.r, g.name.size ≤ 200) ∧ (y.f.length ≤ 12 ∧ Sz 200 y.f)) c
noncomputable def e_DrawSearchAny (c : Cd) : Entry := codeEN 18 c (fun nx H => r_DrawSearchAny nx H fun _ => F_DrawSearchAny c) (fun H => nb_DrawSearchAny H fun _ => F_DrawSearchAny c)
theorem eok_DrawSearchAny (c : Cd) : EntryOk Tryz.prog (e_DrawSearchAny c) := codeEN_ok (by unfold isBody; kernel_rfl) (drfM_spec (x_DrawSearchAny c)).1 (fun nx => by (repeat' (first | exact .nil | exact .slc ⟨by omega, by simp [nb_DrawSearchAny]⟩ (by omega) | exact .pl .lit | exact .pl (vT_bl okRW (fun _ => (F_DrawSearchAny c).r) _) | exact .pl (vT_bl okS (fun _ => (F_DrawSearchAny c).f) _) | apply ReL.cons | apply Re.aggL | apply Re.tupL))) (fun b hq => by
      simp [nb_DrawSearchAny] at hq)
theorem p_DrawSearchAny (c : Cd) : (fun y => (y.r.length ≤ 20 ∧ ∀ g ∈ y.r, g.name.size ≤ 200) ∧ (y.f.length ≤ 12 ∧ Sz 200 y.f)) (F_DrawSearchAny c) := (drfM_spec (x_DrawSearchAny c)).2
def r_DrawMissingFeatures (n : Nat) (H : Hold) (y : Unit → MsD) : AV := .tup [aT rowA H fun _ => (y ()).a, .vec 1 (H Nat fun _ => ((y ()).f).length) (rowsS H fun _ => (y ()).f)]
def nb_DrawMissingFeatures (H : Hold) (y : Unit → MsD) : List Blk := []
theorem x_DrawMissingFeatures (c : Cd) : ∃ y, DrfM Tryz.prog 24 r_DrawMissingFeatures nb_DrawMissingFeatures (fun y => y.f.length ≤ 12 ∧ Sz 200 y.f) c y := by
  have hB : Base Tryz.prog (tabΓ [e_anyArms c, e_features c]) tab := base_of tabOk (ents_cons (eok_anyArms c) <| ents_cons (eok_features c) <| ents_nil)
  refine drfM_ok (N := 14) hB (draw_ok hB mixed) Tryz.func24 rfl rfl r_DrawMissingFeatures nb_DrawMissingFeatures (fun y => y.f.length ≤ 12 ∧ Sz 200 y.f) c 200 (by simp) ?_
  intro H hH
  conv in finish _ _ _ _ _ _ _ _ => cbv
  simp only [Fin.sat0, AllP, and_true, true_and, ncast, Int.ofNat_eq_natCast, heta hH]
  have h : Bd 80 (0, 0) := ⟨by decide, by decide⟩
  have a1 := (p_anyArms c (0, 0) (h.mono (by omega))).1
  have b1 := a1.bd h (by omega : 54 + 26 ≤ 80)
  obtain ⟨a2, l2⟩ := p_features c (F_anyArms c (0, 0)).2 (b1.mono (by omega))
  refine ⟨?_, ?_, ⟨⟨(F_anyArms c (0, 0)).1, (F_features c (F_anyArms c (0, 0)).2).1⟩, l2, ?_⟩⟩
  · try simp only [hH, stdH, zqz, ne_eq, zqy]
    exact h.mono (by omega)
  · try simp only [hH, stdH, zqz, ne_eq, zqy]
    exact b1.mono (by omega)
  · (conv in matchEx _ _ _ _ _ _ _ => cbv); simp only [AllG, AllP, and_true, hH, stdH, zql, ncast, zqe, zqy]
    all_goals (repeat' (with_reducible refine And.intro ?_ ?_)) <;> (first | exact Eq.refl _ | exact True.intro | exact RowsEq.self okRW | exact RowsEq.self okS | exact c.rqN)
noncomputable def F_DrawMissingFeatures (c : Cd) : MsD := drfM Tryz.prog 24 r_DrawMissingFeatures nb_DrawMissingFeatures (fun y => y.f.length ≤ 12 ∧ Sz 200 y.f) c
noncomputable def e_DrawMissingFeatures (c : Cd) : Entry := codeEN 24 c (fun nx H => r_DrawMissingFeatures nx H fun _ => F_DrawMissingFeatures c) (fun H => nb_DrawMissingFeatures H fun _ => F_DrawMissingFeatures c)
theorem eok_DrawMissingFeatures (c : Cd) : EntryOk Tryz.prog (e_DrawMissingFeatures c) := codeEN_ok (by unfold isBody; kernel_rfl) (drfM_spec (x_DrawMissingFeatures c)).1 (fun nx => by (repeat' (first | exact .nil | exact .slc ⟨by omega, by simp [nb_DrawMissingFeatures]⟩ (by omega) | exact .pl .lit | exact .pl (vT_bl okS (fun _ => (F_DrawMissingFeatures c).f) _) | exact .pl (aT_bl okRA (fun _ => (F_DrawMissingFeatures c).a) _) | apply ReL.cons | apply Re.aggL | apply Re.tupL))) (fun b hq => by
      simp [nb_DrawMissingFeatures] at hq)
theorem p_DrawMissingFeatures (c : Cd) : (fun y => y.f.length ≤ 12 ∧ Sz 200 y.f) (F_DrawMissingFeatures c) := (drfM_spec (x_DrawMissingFeatures c)).2
theorem sgD_cut {x : Int} (hx : 0 ≤ x ∧ x < 24) : IntKind.i64.wrap (4 + IntKind.i64.wrap (x.tdiv 11)) = ((4 + (x / 11).toNat : Nat) : Int) ∧ 4 + (x / 11).toNat ≤ 6 := by
  have e : x.tdiv 11 = x / 11 := Int.tdiv_eq_ediv_of_nonneg hx.1
  rw [e, wi (x := x / 11) (by omega) (by omega), wi (by omega) (by omega)]
  omega
theorem sgD_row {j : Nat} (hj : j < 6) : rowsOf 1 [.lit (.int .i64 1), .lit (.int .i64 2), .lit (.int .i64 3), .lit (.int .i64 12), .lit (.int .i64 0), .lit (.int .i64 13)] j = vrow (ints fun j => rowsOf 1 [.lit (.int .i64 1), .lit (.int .i64 2), .lit (.int .i64 3), .lit (.int .i64 12), .lit (.int .i64 0), .lit (.int .i64 13)] (loOf none + j)) j := by
  rcases (show j = 0 ∨ j = 1 ∨ j = 2 ∨ j = 3 ∨ j = 4 ∨ j = 5 by omega) with rfl | rfl | rfl | rfl | rfl | rfl <;> rfl
def r_DrawSimilarGrants (n : Nat) (H : Hold) (y : Unit → SgD) : AV := .tup [.agg [.vec 18 (H Nat fun _ => ((y ()).r).length) (rowsW H fun _ => (y ()).r)], aT rowA H fun _ => (y ()).a, .lit (.int .i64 (H Int fun _ => (y ()).n))]
def nb_DrawSimilarGrants (H : Hold) (y : Unit → SgD) : List Blk := []
theorem x_DrawSimilarGrants (c : Cd) : ∃ y, DrfM Tryz.prog 27 r_DrawSimilarGrants nb_DrawSimilarGrants (fun y => y.r.length ≤ 20 ∧ ∀ g ∈ y.r, g.name.size ≤ 200) c y := by
  have hB : Base Tryz.prog (tabΓ [e_anyRegister c, e_anyArms c, e_one c, e_pick c, e_among c]) tab := base_of tabOk (ents_cons (eok_anyRegister c) <| ents_cons (eok_anyArms c) <| ents_cons (eok_one c) <| ents_cons (eok_pick c) <| ents_cons (eok_among c) <| ents_nil)
  refine drfM_ok (N := 43) hB (draw_ok hB mixed) Tryz.func27 rfl rfl r_DrawSimilarGrants nb_DrawSimilarGrants (fun y => y.r.length ≤ 20 ∧ ∀ g ∈ y.r, g.name.size ≤ 200) c 200 (by simp) ?_
  intro H hH
  conv in finish _ _ _ _ _ _ _ _ => cbv
  simp only [Fin.sat0, AllP, and_true, true_and, ncast, Int.ofNat_eq_natCast, heta hH]
  have h : Bd 640 (0, 0) := ⟨by decide, by decide⟩
  obtain ⟨a1, l1, z1⟩ := p_anyRegister c (0, 0) (h.mono (by omega))
  have b1 := a1.bd h (by omega : 530 + 110 ≤ 640)
  simp only [TlW_H hH, hlen hH]
  generalize F_anyRegister c (0, 0) = q at *
  obtain ⟨L, s1⟩ := q
  simp only at *
  have a2 := (p_anyArms c s1 (b1.mono (by omega))).1
  have b2 := a2.bd b1 (by omega : 54 + 56 ≤ 110)
  refine ⟨?_, ?_, fun k1 => ⟨?_, fun k2 => ?_, fun k2 => ?_⟩, fun k1 => ⟨?_, fun k2 => ?_, fun k2 => ?_⟩⟩
  · try simp only [hH, stdH, zqz, ne_eq, zqy]
    exact h.mono (by omega)
  · try simp only [hH, stdH, zqz, ne_eq, zqy]
    exact b1.mono (by omega)
  · try simp only [hH, stdH, zqz, ne_eq, zqy]
    exact b2.mono (by omega)
  · simp only [hH, stdH, zqz, ne_eq, zqy] at k1
    have a3 := (p_one c 2 (F_anyArms c s1).2 (b2.mono (by omega))).1
    have b3 := a3.bd b2 (by omega : 2 + 54 ≤ 56)
    obtain ⟨a4, m4, n4⟩ := p_pick c (L.length : Nat) (F_one c 2 (F_anyArms c s1).2).2 (b3.mono (by omega))
    have b4 := a4.bd b3 (by omega : 2 + 52 ≤ 54)
    refine ⟨?_, ?_, ?_⟩
    · try simp only [hH, stdH, zqz, ne_eq, zqy]
      exact b3.mono (by omega)
    · try simp only [hH, stdH, zqz, ne_eq, zqy]
      exact ⟨m4, by omega⟩
    · obtain ⟨a9, m9, n9⟩ := p_pick c 24 (F_pick c (L.length : Nat) (F_one c 2 (F_anyArms c s1).2).2).2 (Bd.mono b4 (by omega))
      have b9 := a9.bd b4 (by omega : 2 + 30 ≤ _)
      obtain ⟨w, w6⟩ := sgD_cut (x := (F_pick c 24 (F_pick c (L.length : Nat) (F_one c 2 (F_anyArms c s1).2).2).2).1) ⟨m9, by omega⟩
      refine ⟨?_, ?_, ?_, ⟨?_, ?_, ?_, ?_⟩, ⟨⟨L, (L.getD (F_pick c (L.length : Nat) (F_one c 2 (F_anyArms c s1).2).2).1.toNat default).arms, (F_among c (hiOf 6 (some (IntKind.i64.wrap (4 + IntKind.i64.wrap ((F_pick c 24 (F_pick c (L.length : Nat) (F_one c 2 (F_anyArms c s1).2).2).2).1.tdiv 11)))) - loOf none) (ints fun j => rowsOf 1 [.lit (.int .i64 1), .lit (.int .i64 2), .lit (.int .i64 3), .lit (.int .i64 12), .lit (.int .i64 0), .lit (.int .i64 13)] (loOf none + j)) (F_pick c 24 (F_pick c (L.length : Nat) (F_one c 2 (F_anyArms c s1).2).2).2).2).1⟩, ⟨l1, z1⟩, ?_⟩⟩
      · try simp only [hH, stdH, zqz, ne_eq, zqy]
        exact Bd.mono b4 (by omega)
      · try simp only [hH, stdH, zqz, ne_eq, zqy]
        decide
      · simp only [hH, stdH, w]
        exact okB_pre w6
      · try simp only [hH, stdH, zqz, ne_eq, zqy]
        exact b9.mono (by omega)
      · simp only [hH, stdH, w, hiN]
        intro j hj
        have := sgD_row (j := j) (by omega)
        rw [← this]
        show rowsOf 1 [.lit (.int .i64 1), .lit (.int .i64 2), .lit (.int .i64 3), .lit (.int .i64 12), .lit (.int .i64 0), .lit (.int .i64 13)] (0 + j) = _
        rw [Nat.zero_add]
      · simp only [hH, stdH, w, hiN]
        omega
      · simp only [hH, stdH, w, hiN]
        omega
      · (conv in matchEx _ _ _ _ _ _ _ => cbv); simp only [AllG, AllP, and_true, hH, stdH, zql, ncast, zqe, zqy]
        all_goals (repeat' (with_reducible refine And.intro ?_ ?_)) <;> (first | exact Eq.refl _ | exact True.intro | exact RowsEq.self okRW | exact RowsEq.self okS | exact c.rqN)
  · have a3 := (p_one c 2 (F_anyArms c s1).2 (b2.mono (by omega))).1
    have b3 := a3.bd b2 (by omega : 2 + 54 ≤ 56)
    obtain ⟨a9, m9, n9⟩ := p_pick c 24 (F_one c 2 (F_anyArms c s1).2).2 (Bd.mono b3 (by omega))
    have b9 := a9.bd b3 (by omega : 2 + 30 ≤ _)
    obtain ⟨w, w6⟩ := sgD_cut (x := (F_pick c 24 (F_one c 2 (F_anyArms c s1).2).2).1) ⟨m9, by omega⟩
    refine ⟨?_, ?_, ?_, ⟨?_, ?_, ?_, ?_⟩, ⟨⟨L, (F_anyArms c s1).1, (F_among c (hiOf 6 (some (IntKind.i64.wrap (4 + IntKind.i64.wrap ((F_pick c 24 (F_one c 2 (F_anyArms c s1).2).2).1.tdiv 11)))) - loOf none) (ints fun j => rowsOf 1 [.lit (.int .i64 1), .lit (.int .i64 2), .lit (.int .i64 3), .lit (.int .i64 12), .lit (.int .i64 0), .lit (.int .i64 13)] (loOf none + j)) (F_pick c 24 (F_one c 2 (F_anyArms c s1).2).2).2).1⟩, ⟨l1, z1⟩, ?_⟩⟩
    · try simp only [hH, stdH, zqz, ne_eq, zqy]
      exact Bd.mono b3 (by omega)
    · try simp only [hH, stdH, zqz, ne_eq, zqy]
      decide
    · simp only [hH, stdH, w]
      exact okB_pre w6
    · try simp only [hH, stdH, zqz, ne_eq, zqy]
      exact b9.mono (by omega)
    · simp only [hH, stdH, w, hiN]
      intro j hj
      have := sgD_row (j := j) (by omega)
      rw [← this]
      show rowsOf 1 [.lit (.int .i64 1), .lit (.int .i64 2), .lit (.int .i64 3), .lit (.int .i64 12), .lit (.int .i64 0), .lit (.int .i64 13)] (0 + j) = _
      rw [Nat.zero_add]
    · simp only [hH, stdH, w, hiN]
      omega
    · simp only [hH, stdH, w, hiN]
      omega
    · (conv in matchEx _ _ _ _ _ _ _ => cbv); simp only [AllG, AllP, and_true, hH, stdH, zql, ncast, zqe, zqy]
      all_goals (repeat' (with_reducible refine And.intro ?_ ?_)) <;> (first | exact Eq.refl _ | exact True.intro | exact RowsEq.self okRW | exact RowsEq.self okS | exact c.rqN)
  · try simp only [hH, stdH, zqz, ne_eq, zqy]
  · cases k2
  · obtain ⟨a9, m9, n9⟩ := p_pick c 24 (F_anyArms c s1).2 (Bd.mono b2 (by omega))
    have b9 := a9.bd b2 (by omega : 2 + 30 ≤ _)
    obtain ⟨w, w6⟩ := sgD_cut (x := (F_pick c 24 (F_anyArms c s1).2).1) ⟨m9, by omega⟩
    refine ⟨?_, ?_, ?_, ⟨?_, ?_, ?_, ?_⟩, ⟨⟨L, (F_anyArms c s1).1, (F_among c (hiOf 6 (some (IntKind.i64.wrap (4 + IntKind.i64.wrap ((F_pick c 24 (F_anyArms c s1).2).1.tdiv 11)))) - loOf none) (ints fun j => rowsOf 1 [.lit (.int .i64 1), .lit (.int .i64 2), .lit (.int .i64 3), .lit (.int .i64 12), .lit (.int .i64 0), .lit (.int .i64 13)] (loOf none + j)) (F_pick c 24 (F_anyArms c s1).2).2).1⟩, ⟨l1, z1⟩, ?_⟩⟩
    · try simp only [hH, stdH, zqz, ne_eq, zqy]
      exact Bd.mono b2 (by omega)
    · try simp only [hH, stdH, zqz, ne_eq, zqy]
      decide
    · simp only [hH, stdH, w]
      exact okB_pre w6
    · try simp only [hH, stdH, zqz, ne_eq, zqy]
      exact b9.mono (by omega)
    · simp only [hH, stdH, w, hiN]
      intro j hj
      have := sgD_row (j := j) (by omega)
      rw [← this]
      show rowsOf 1 [.lit (.int .i64 1), .lit (.int .i64 2), .lit (.int .i64 3), .lit (.int .i64 12), .lit (.int .i64 0), .lit (.int .i64 13)] (0 + j) = _
      rw [Nat.zero_add]
    · simp only [hH, stdH, w, hiN]
      omega
    · simp only [hH, stdH, w, hiN]
      omega
    · (conv in matchEx _ _ _ _ _ _ _ => cbv); simp only [AllG, AllP, and_true, hH, stdH, zql, ncast, zqe, zqy]
      all_goals (repeat' (with_reducible refine And.intro ?_ ?_)) <;> (first | exact Eq.refl _ | exact True.intro | exact RowsEq.self okRW | exact RowsEq.self okS | exact c.rqN)
noncomputable def F_DrawSimilarGrants (c : Cd) : SgD := drfM Tryz.prog 27 r_DrawSimilarGrants nb_DrawSimilarGrants (fun y => y.r.length ≤ 20 ∧ ∀ g ∈ y.r, g.name.size ≤ 200) c
noncomputable def e_DrawSimilarGrants (c : Cd) : Entry := codeEN 27 c (fun nx H => r_DrawSimilarGrants nx H fun _ => F_DrawSimilarGrants c) (fun H => nb_DrawSimilarGrants H fun _ => F_DrawSimilarGrants c)
theorem eok_DrawSimilarGrants (c : Cd) : EntryOk Tryz.prog (e_DrawSimilarGrants c) := codeEN_ok (by unfold isBody; kernel_rfl) (drfM_spec (x_DrawSimilarGrants c)).1 (fun nx => by (repeat' (first | exact .nil | exact .slc ⟨by omega, by simp [nb_DrawSimilarGrants]⟩ (by omega) | exact .pl .lit | exact .pl (vT_bl okRW (fun _ => (F_DrawSimilarGrants c).r) _) | exact .pl (aT_bl okRA (fun _ => (F_DrawSimilarGrants c).a) _) | apply ReL.cons | apply Re.aggL | apply Re.tupL))) (fun b hq => by
      simp [nb_DrawSimilarGrants] at hq)
theorem p_DrawSimilarGrants (c : Cd) : (fun y => y.r.length ≤ 20 ∧ ∀ g ∈ y.r, g.name.size ≤ 200) (F_DrawSimilarGrants c) := (drfM_spec (x_DrawSimilarGrants c)).2

end Go.Proofs.YtcjjffmbhionmaaGreatDoor.AM

