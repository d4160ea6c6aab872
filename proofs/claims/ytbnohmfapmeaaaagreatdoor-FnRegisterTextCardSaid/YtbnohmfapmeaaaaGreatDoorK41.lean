/- Lemmas and contracts (Rgk); conditions: none. -/
import Derived.Test.YtbnohmfapmeaaaaGreatDoorK03
import Derived.Test.YtbnohmfapmeaaaaGreatDoorK40
set_option linter.unusedVariables false
set_option linter.unusedSimpArgs false
set_option maxRecDepth 100000
set_option maxHeartbeats 4000000
set_option cbv.maxSteps 3000000
namespace Go.Proofs.YtbnohmfapmeaaaaGreatDoor.AM
/- Registers to be written and transferred are drawn; conditions: none. -/
def r_DrawIsValidRegister (n : Nat) (H : Hold) (y : Unit → List Grt) : AV := .agg [.vec 18 (H Nat fun _ => ((y ())).length) (rowsW H fun _ => (y ()))]
def nb_DrawIsValidRegister (H : Hold) (y : Unit → List Grt) : List Blk := []
theorem x_DrawIsValidRegister (c : Cd) : ∃ y, DrfM Tryz.prog 69 r_DrawIsValidRegister nb_DrawIsValidRegister (fun y => y.length ≤ 20 ∧ ∀ g ∈ y, g.name.size ≤ 200) c y := by
  have hB : Base Tryz.prog (tabΓ [e_anyRegister c]) tab := base_of tabOk (ents_cons (eok_anyRegister c) <| ents_nil)
  refine drfM_ok (N := 9) hB (draw_ok hB mixed) Tryz.func69 rfl rfl r_DrawIsValidRegister nb_DrawIsValidRegister (fun y => y.length ≤ 20 ∧ ∀ g ∈ y, g.name.size ≤ 200) c 100 (by simp) ?_
  intro H hH
  conv in finish _ _ _ _ _ _ _ _ => cbv
  simp only [Fin.sat0, AllP, and_true, true_and, ncast, Int.ofNat_eq_natCast, heta hH]
  have h : Bd 640 (0, 0) := ⟨by decide, by decide⟩
  obtain ⟨a1, m1⟩ := p_anyRegister c (0, 0) (h.mono (by omega))
  generalize F_anyRegister c (0, 0) = y1 at *
  obtain ⟨L, st1⟩ := y1
  dsimp only at *
  refine ⟨?_, ⟨L, m1, ?_⟩⟩
  · try simp only [hH, stdH, zql, zqa, zqb, zqc, zqd, peta, ncast, zqe, zqf, zqg, zqh, zqi, ne_eq, zqj, zqk, vrow_I, Arm.eta2, Fld.eta, Grp.eta]
    exact h.mono
  · (conv in matchEx _ _ _ _ _ _ _ => cbv); simp only [AllG, AllP, and_true, hH, stdH, zql, ncast, zqe, vrow_I, Arm.eta2, Fld.eta, Grp.eta]
    all_goals (repeat' (with_reducible refine And.intro ?_ ?_)) <;> (first | exact Eq.refl _ | exact True.intro | exact RowsEq.self okRW)
noncomputable def F_DrawIsValidRegister (c : Cd) : List Grt := drfM Tryz.prog 69 r_DrawIsValidRegister nb_DrawIsValidRegister (fun y => y.length ≤ 20 ∧ ∀ g ∈ y, g.name.size ≤ 200) c
noncomputable def e_DrawIsValidRegister (c : Cd) : Entry := codeEN 69 c (fun nx H => r_DrawIsValidRegister nx H fun _ => F_DrawIsValidRegister c) (fun H => nb_DrawIsValidRegister H fun _ => F_DrawIsValidRegister c)
theorem eok_DrawIsValidRegister (c : Cd) : EntryOk Tryz.prog (e_DrawIsValidRegister c) := codeEN_ok (by unfold isBody; kernel_rfl) (drfM_spec (x_DrawIsValidRegister c)).1 (fun nx => by (repeat' (first | exact .nil | exact .slc ⟨by omega, by simp [nb_DrawIsValidRegister]⟩ (by omega) | exact .pl .lit | exact .pl (vT_bl okRW (fun _ => (F_DrawIsValidRegister c)) _) | apply ReL.cons | apply Re.aggL | apply Re.tupL))) (fun b hq => by
      simp [nb_DrawIsValidRegister] at hq)
theorem p_DrawIsValidRegister (c : Cd) : (fun y => y.length ≤ 20 ∧ ∀ g ∈ y, g.name.size ≤ 200) (F_DrawIsValidRegister c) := (drfM_spec (x_DrawIsValidRegister c)).2
def r_DrawFormatRegister (n : Nat) (H : Hold) (y : Unit → List Grt) : AV := .agg [.vec 18 (H Nat fun _ => ((y ())).length) (rowsW H fun _ => (y ()))]
def nb_DrawFormatRegister (H : Hold) (y : Unit → List Grt) : List Blk := []
theorem x_DrawFormatRegister (c : Cd) : ∃ y, DrfM Tryz.prog 14 r_DrawFormatRegister nb_DrawFormatRegister (fun y => y.length ≤ 20 ∧ ∀ g ∈ y, g.name.size ≤ 200) c y := by
  have hB : Base Tryz.prog (tabΓ [e_DrawIsValidRegister c]) tab := base_of tabOk (ents_cons (eok_DrawIsValidRegister c) <| ents_nil)
  refine drfM_ok (N := 5) hB (draw_ok hB mixed) Tryz.func14 rfl rfl r_DrawFormatRegister nb_DrawFormatRegister (fun y => y.length ≤ 20 ∧ ∀ g ∈ y, g.name.size ≤ 200) c 100 (by simp) ?_
  intro H hH
  conv in finish _ _ _ _ _ _ _ _ => cbv
  simp only [Fin.sat0, AllP, and_true, true_and, ncast, Int.ofNat_eq_natCast, heta hH]
  have m1 := p_DrawIsValidRegister c
  generalize F_DrawIsValidRegister c = L at *
  refine ⟨?_, ⟨L, m1, ?_⟩⟩
  · try simp only [hH, stdH, zql, zqa, zqb, zqc, zqd, peta, ncast, zqe, zqf, zqg, zqh, zqi, ne_eq, zqj, zqk, vrow_I, Arm.eta2, Fld.eta, Grp.eta]
  · (conv in matchEx _ _ _ _ _ _ _ => cbv); simp only [AllG, AllP, and_true, hH, stdH, zql, ncast, zqe, vrow_I, Arm.eta2, Fld.eta, Grp.eta]
    all_goals (repeat' (with_reducible refine And.intro ?_ ?_)) <;> (first | exact Eq.refl _ | exact True.intro | exact RowsEq.self okRW)
noncomputable def F_DrawFormatRegister (c : Cd) : List Grt := drfM Tryz.prog 14 r_DrawFormatRegister nb_DrawFormatRegister (fun y => y.length ≤ 20 ∧ ∀ g ∈ y, g.name.size ≤ 200) c
noncomputable def e_DrawFormatRegister (c : Cd) : Entry := codeEN 14 c (fun nx H => r_DrawFormatRegister nx H fun _ => F_DrawFormatRegister c) (fun H => nb_DrawFormatRegister H fun _ => F_DrawFormatRegister c)
theorem eok_DrawFormatRegister (c : Cd) : EntryOk Tryz.prog (e_DrawFormatRegister c) := codeEN_ok (by unfold isBody; kernel_rfl) (drfM_spec (x_DrawFormatRegister c)).1 (fun nx => by (repeat' (first | exact .nil | exact .slc ⟨by omega, by simp [nb_DrawFormatRegister]⟩ (by omega) | exact .pl .lit | exact .pl (vT_bl okRW (fun _ => (F_DrawFormatRegister c)) _) | apply ReL.cons | apply Re.aggL | apply Re.tupL))) (fun b hq => by
      simp [nb_DrawFormatRegister] at hq)
theorem p_DrawFormatRegister (c : Cd) : (fun y => y.length ≤ 20 ∧ ∀ g ∈ y, g.name.size ≤ 200) (F_DrawFormatRegister c) := (drfM_spec (x_DrawFormatRegister c)).2
def r_grantNumber (n : Nat) (H : Hold) (y : Unit → Int) : AV := .lit (.int .i64 (H Int fun _ => (y ())))
def nb_grantNumber (H : Hold) (y : Unit → Int) : List Blk := []
theorem x_grantNumber (c : Cd) (r : Rgr) (st : DS) (h : Bd 8 st) (h0 : r.gs.length ≤ 20) : ∃ y, DrwM Tryz.prog 107 80 8 r_grantNumber nb_grantNumber (fun _ => True) c [aT rowJ stdH fun _ => r] st y := by
  have hB : Base Tryz.prog (tabΓ [e_pick c, e_one c]) tab := base_of tabOk (ents_cons (eok_pick c) <| ents_cons (eok_one c) <| ents_nil)
  refine drwM_ok (N := 25) hB (draw_ok hB mixed) Tryz.func80 rfl rfl 107 8 r_grantNumber nb_grantNumber (fun _ => True) c (fun H => [aT rowJ H fun _ => r]) st 200 (by simp) (fun x hx => ?_) ?_
  · simp only [List.mem_cons, List.not_mem_nil, or_false] at hx; rcases hx with rfl
    · exact aT_bl okRJ _ _
  intro H hH
  conv in finish _ _ _ _ _ _ _ _ => cbv
  simp only [Fin.sat0, AllP, and_true, true_and, ncast, Int.ofNat_eq_natCast, heta hH]
  obtain ⟨a1, m1, n1⟩ := p_pick c 12 st (h.mono (by omega))
  have a2 := (p_one c 8 st (h.mono (by omega))).1
  have b2 := a2.bd h (by omega : 2 + 6 ≤ 8)
  obtain ⟨a3, m3, n3⟩ := p_pick c 12 (F_one c 8 st).2 (b2.mono (by omega))
  refine ⟨fun h1 => ⟨?_, fun _ => ⟨?_, ?_⟩, fun h2 => ?_⟩, fun h1 => ⟨?_, fun _ => ⟨?_, ?_⟩, fun _ => ⟨?_, ?_, ?_⟩⟩⟩
  · try simp only [hH, stdH, zql, zqa, zqb, zqc, zqd, peta, ncast, zqe, zqf, zqg, zqh, zqi, ne_eq, zqj, zqk, vrow_I, Arm.eta2, Fld.eta, Grp.eta]
  · try simp only [hH, stdH, zql, zqa, zqb, zqc, zqd, peta, ncast, zqe, zqf, zqg, zqh, zqi, ne_eq, zqj, zqk, vrow_I, Arm.eta2, Fld.eta, Grp.eta]
    exact h.mono (by omega)
  · refine ⟨((F_pick c 12 st).1, (F_pick c 12 st).2), a1.le (by omega), trivial, ?_⟩
    (conv in matchEx _ _ _ _ _ _ _ => cbv); simp only [AllG, AllP, and_true, hH, stdH, zql, ncast, zqe, vrow_I, Arm.eta2, Fld.eta, Grp.eta]
    first | done | exact trivial | ((repeat' (with_reducible refine And.intro ?_ ?_)) <;> (first | exact Eq.refl _ | exact True.intro | exact RowsEq.self okRW | exact c.rqN))
  · cases h2
  · try simp only [hH, stdH, zql, zqa, zqb, zqc, zqd, peta, ncast, zqe, zqf, zqg, zqh, zqi, ne_eq, zqj, zqk, vrow_I, Arm.eta2, Fld.eta, Grp.eta]
    exact h.mono (by omega)
  · try simp only [hH, stdH, zql, zqa, zqb, zqc, zqd, peta, ncast, zqe, zqf, zqg, zqh, zqi, ne_eq, zqj, zqk, vrow_I, Arm.eta2, Fld.eta, Grp.eta]
    exact b2.mono (by omega)
  · refine ⟨((F_pick c 12 (F_one c 8 st).2).1, (F_pick c 12 (F_one c 8 st).2).2), (a2.trans a3 (Nat.le_refl _)).le (by omega), trivial, ?_⟩
    (conv in matchEx _ _ _ _ _ _ _ => cbv); simp only [AllG, AllP, and_true, hH, stdH, zql, ncast, zqe, vrow_I, Arm.eta2, Fld.eta, Grp.eta]
    first | done | exact trivial | ((repeat' (with_reducible refine And.intro ?_ ?_)) <;> (first | exact Eq.refl _ | exact True.intro | exact RowsEq.self okRW | exact c.rqN))
  · try simp only [hH, stdH, zql, zqa, zqb, zqc, zqd, peta, ncast, zqe, zqf, zqg, zqh, zqi, ne_eq, zqj, zqk, vrow_I, Arm.eta2, Fld.eta, Grp.eta]
    exact b2.mono (by omega)
  · have hn : 1 ≤ (r.gs.length : Int) := by
      simp only [hH, stdH, zql, zqa, zqb, zqc, zqd, peta, ncast, zqe, zqf, zqg, zqh, zqi, ne_eq, zqj, zqk, vrow_I, Arm.eta2, Fld.eta, Grp.eta] at h1
      omega
    obtain ⟨a4, m4, n4⟩ := p_pick c (r.gs.length : Nat) (F_one c 8 st).2 (b2.mono (by omega))
    try simp only [hH, stdH, zql, zqa, zqb, zqc, zqd, peta, ncast, zqe, zqf, zqg, zqh, zqi, ne_eq, zqj, zqk, vrow_I, Arm.eta2, Fld.eta, Grp.eta]
    omega
  · have hn : 1 ≤ (r.gs.length : Int) := by
      simp only [hH, stdH, zql, zqa, zqb, zqc, zqd, peta, ncast, zqe, zqf, zqg, zqh, zqi, ne_eq, zqj, zqk, vrow_I, Arm.eta2, Fld.eta, Grp.eta] at h1
      omega
    obtain ⟨a4, m4, n4⟩ := p_pick c (r.gs.length : Nat) (F_one c 8 st).2 (b2.mono (by omega))
    refine ⟨((r.gs.getD (F_pick c (r.gs.length : Nat) (F_one c 8 st).2).1.toNat default).num, (F_pick c (r.gs.length : Nat) (F_one c 8 st).2).2), (a2.trans a4 (Nat.le_refl _)).le (by omega), trivial, ?_⟩
    (conv in matchEx _ _ _ _ _ _ _ => cbv); simp only [AllG, AllP, and_true, hH, stdH, zql, ncast, zqe, vrow_I, Arm.eta2, Fld.eta, Grp.eta]
    first | done | exact trivial | ((repeat' (with_reducible refine And.intro ?_ ?_)) <;> (first | exact Eq.refl _ | exact True.intro | exact RowsEq.self okRW | exact c.rqN))
noncomputable def F_grantNumber (c : Cd) (r : Rgr) (st : DS) : Int × DS := drwM Tryz.prog 107 80 8 r_grantNumber nb_grantNumber (fun _ => True) c [aT rowJ stdH fun _ => r] st
noncomputable def e_grantNumber (c : Cd) : Entry := curEN 107 80 8 c fun H st a nx => match a with
  | [.agg [.vec 18 r0n r0f]] => some (r_grantNumber nx H (fun _ => (F_grantNumber c (⟨(Tl rowW r0n r0f)⟩ : Rgr) st).1), nb_grantNumber H (fun _ => (F_grantNumber c (⟨(Tl rowW r0n r0f)⟩ : Rgr) st).1), (fun _ => (F_grantNumber c (⟨(Tl rowW r0n r0f)⟩ : Rgr) st).2), [H Prop fun _ => Shp rowW r0n r0f, H Prop fun _ => (⟨(Tl rowW r0n r0f)⟩ : Rgr).gs.length ≤ 20])
  | _ => none
theorem eok_grantNumber (c : Cd) : EntryOk Tryz.prog (e_grantNumber c) := curEN_ok (by unfold isBody; kernel_rfl) (by
  intro st a nx r nb y ob e hb hob
  split at e
  · rename_i r0n r0f
    simp only [Option.some.injEq, Prod.mk.injEq] at e
    obtain ⟨rfl, rfl, rfl, rfl⟩ := e
    have hd := drwM_spec (x_grantNumber c (⟨(Tl rowW r0n r0f)⟩ : Rgr) st hb hob.2.1)
    refine ⟨_, _, ConN.args (.cons .rfl (.cons (.agg (.cons (.toT okRW rfl hob.1) .nil)) .nil)) hd.1, fun x hx => ?_, rfl, ?_, fun q b hq => ⟨b, hq, .same ?_⟩⟩
    · simp only [List.mem_cons, List.not_mem_nil, or_false] at hx
      rcases hx with rfl
      · exact (.agg fun c hc => (by
        simp only [List.mem_cons, List.not_mem_nil, or_false] at hc
        rcases hc with rfl
        · exact (hob.1).bl okRW _))
    · (repeat' (first | exact .nil | exact .slc ⟨by omega, by simp [nb_grantNumber]⟩ (by omega) | exact .pl .lit | apply ReL.cons | apply Re.aggL | apply Re.tupL))
    · replace hq := List.mem_of_getElem? hq
      simp [nb_grantNumber] at hq
  · simp at e)
theorem p_grantNumber (c : Cd) (r : Rgr) (st : DS) (h : Bd 8 st) (h0 : r.gs.length ≤ 20) : Adv 8 st (F_grantNumber c r st).2 ∧ (fun _ => True) (F_grantNumber c r st).1 := (drwM_spec (x_grantNumber c r st h h0)).2
structure TrDr where
  r : List Grt
  n : Int
  s : ByteArray
deriving Inhabited
def nmLT : List ByteArray := [(⟨⟨[69, 103, 97, 110]⟩⟩ : ByteArray), (⟨⟨[65, 115, 104, 101]⟩⟩ : ByteArray), (⟨⟨[]⟩⟩ : ByteArray), (⟨⟨[97, 66]⟩⟩ : ByteArray)]
theorem nmLT_sz : Sz 200 nmLT := ⟨by decide⟩
def r_DrawTransferGrant (n : Nat) (H : Hold) (y : Unit → TrDr) : AV := .tup [.agg [.vec 18 (H Nat fun _ => ((y ()).r).length) (rowsW H fun _ => (y ()).r)], .lit (.int .i64 (H Int fun _ => (y ()).n)), .lit (.string (H ByteArray fun _ => (y ()).s))]
def nb_DrawTransferGrant (H : Hold) (y : Unit → TrDr) : List Blk := []
theorem x_DrawTransferGrant (c : Cd) : ∃ y, DrfM Tryz.prog 20 r_DrawTransferGrant nb_DrawTransferGrant (fun y => (y.r.length ≤ 20 ∧ ∀ g ∈ y.r, g.name.size ≤ 200) ∧ y.s.size ≤ 200) c y := by
  have hB : Base Tryz.prog (tabΓ [e_anyRegister c, e_grantNumber c, e_ofS c]) tab := base_of tabOk (ents_cons (eok_anyRegister c) <| ents_cons (eok_grantNumber c) <| ents_cons (eok_ofS c) <| ents_nil)
  refine drfM_ok (N := 19) hB (draw_ok hB mixed) Tryz.func20 rfl rfl r_DrawTransferGrant nb_DrawTransferGrant (fun y => (y.r.length ≤ 20 ∧ ∀ g ∈ y.r, g.name.size ≤ 200) ∧ y.s.size ≤ 200) c 200 (by simp) ?_
  intro H hH
  conv in finish _ _ _ _ _ _ _ _ => cbv
  simp only [Fin.sat0, AllP, and_true, true_and, ncast, Int.ofNat_eq_natCast, heta hH]
  have h : Bd 640 (0, 0) := ⟨by decide, by decide⟩
  obtain ⟨a1, l1, z1⟩ := p_anyRegister c (0, 0) (h.mono (by omega))
  have b1 := a1.bd h (by omega : 530 + 110 ≤ 640)
  simp only [TlW_H hH, hlen hH, TlS4_H hH]
  generalize F_anyRegister c (0, 0) = q at *
  obtain ⟨L, s1⟩ := q
  simp only at *
  have a2 := (p_grantNumber c ⟨L⟩ s1 (b1.mono (by omega)) (by exact l1)).1
  have b2 := a2.bd b1 (by omega : 8 + 102 ≤ 110)
  obtain ⟨a7, l7⟩ := p_ofS c nmLT (F_grantNumber c ⟨L⟩ s1).2 (b2.mono (by omega)) (by decide) (by decide) nmLT_sz
  refine ⟨?_, ⟨?_, ?_, ?_⟩, ⟨?_, ?_, ?_, ?_, ?_⟩, ⟨⟨L, (F_grantNumber c ⟨L⟩ s1).1, (F_ofS c nmLT (F_grantNumber c ⟨L⟩ s1).2).1⟩, ⟨⟨l1, z1⟩, l7⟩, ?_⟩⟩
  · try simp only [hH, stdH, zql, zqa, zqb, zqc, zqd, peta, ncast, zqe, zqf, zqg, zqh, zqi, ne_eq, zqj, zqk, vrow_I, Arm.eta2, Fld.eta, Grp.eta]
    exact h.mono (by omega)
  · try simp only [hH, stdH, zql, zqa, zqb, zqc, zqd, peta, ncast, zqe, zqf, zqg, zqh, zqi, ne_eq, zqj, zqk, vrow_I, Arm.eta2, Fld.eta, Grp.eta]
    exact b1.mono (by omega)
  · try simp only [hH, stdH, zql, zqa, zqb, zqc, zqd, peta, ncast, zqe, zqf, zqg, zqh, zqi, ne_eq, zqj, zqk, vrow_I, Arm.eta2, Fld.eta, Grp.eta]
    exact Shp_W _ _
  · try simp only [hH, stdH, zql, zqa, zqb, zqc, zqd, peta, ncast, zqe, zqf, zqg, zqh, zqi, ne_eq, zqj, zqk, vrow_I, Arm.eta2, Fld.eta, Grp.eta]
    exact l1
  · try simp only [hH, stdH, zql, zqa, zqb, zqc, zqd, peta, ncast, zqe, zqf, zqg, zqh, zqi, ne_eq, zqj, zqk, vrow_I, Arm.eta2, Fld.eta, Grp.eta]
    exact b2.mono (by omega)
  · try simp only [hH, stdH, zql, zqa, zqb, zqc, zqd, peta, ncast, zqe, zqf, zqg, zqh, zqi, ne_eq, zqj, zqk, vrow_I, Arm.eta2, Fld.eta, Grp.eta]
    exact Shp_rowsT okS 4 (fun _ => nmLT)
  · try simp only [hH, stdH, zql, zqa, zqb, zqc, zqd, peta, ncast, zqe, zqf, zqg, zqh, zqi, ne_eq, zqj, zqk, vrow_I, Arm.eta2, Fld.eta, Grp.eta]
    exact (by decide : 1 ≤ nmLT.length)
  · try simp only [hH, stdH, zql, zqa, zqb, zqc, zqd, peta, ncast, zqe, zqf, zqg, zqh, zqi, ne_eq, zqj, zqk, vrow_I, Arm.eta2, Fld.eta, Grp.eta]
    exact (by decide : nmLT.length ≤ 100)
  · try simp only [hH, stdH, zql, zqa, zqb, zqc, zqd, peta, ncast, zqe, zqf, zqg, zqh, zqi, ne_eq, zqj, zqk, vrow_I, Arm.eta2, Fld.eta, Grp.eta]
    exact nmLT_sz
  · (conv in matchEx _ _ _ _ _ _ _ => cbv); simp only [AllG, AllP, and_true, hH, stdH, zql, ncast, zqe, vrow_I, Arm.eta2, Fld.eta, Grp.eta]
    all_goals (repeat' (with_reducible refine And.intro ?_ ?_)) <;> (first | exact Eq.refl _ | exact True.intro | exact RowsEq.self okRW | exact c.rqN)
noncomputable def F_DrawTransferGrant (c : Cd) : TrDr := drfM Tryz.prog 20 r_DrawTransferGrant nb_DrawTransferGrant (fun y => (y.r.length ≤ 20 ∧ ∀ g ∈ y.r, g.name.size ≤ 200) ∧ y.s.size ≤ 200) c
noncomputable def e_DrawTransferGrant (c : Cd) : Entry := codeEN 20 c (fun nx H => r_DrawTransferGrant nx H fun _ => F_DrawTransferGrant c) (fun H => nb_DrawTransferGrant H fun _ => F_DrawTransferGrant c)
theorem eok_DrawTransferGrant (c : Cd) : EntryOk Tryz.prog (e_DrawTransferGrant c) := codeEN_ok (by unfold isBody; kernel_rfl) (drfM_spec (x_DrawTransferGrant c)).1 (fun nx => by (repeat' (first | exact .nil | exact .slc ⟨by omega, by simp [nb_DrawTransferGrant]⟩ (by omega) | exact .pl .lit | exact .pl (vT_bl okRW (fun _ => (F_DrawTransferGrant c).r) _) | apply ReL.cons | apply Re.aggL | apply Re.tupL))) (fun b hq => by
      simp [nb_DrawTransferGrant] at hq)
theorem p_DrawTransferGrant (c : Cd) : (fun y => (y.r.length ≤ 20 ∧ ∀ g ∈ y.r, g.name.size ≤ 200) ∧ y.s.size ≤ 200) (F_DrawTransferGrant c) := (drfM_spec (x_DrawTransferGrant c)).2

end Go.Proofs.YtbnohmfapmeaaaaGreatDoor.AM

