import Derived.Test.YthacffbofjfcjaaTin
import Derived.Test.YthacffbofjfcjaaDrA
import Derived.Test.YthacffbofjfcjaaVB
set_option linter.unusedVariables false
set_option linter.unusedSimpArgs false
set_option maxRecDepth 100000
set_option maxHeartbeats 4000000
set_option cbv.maxSteps 3000000
namespace Go.Proofs.Ythacffbofjfcjaa.AM
/- The law FnArms holds; conditions: none. -/
theorem c_IsValidArmsS (a : Arm)  : Con Try.prog 18 [.agg [.lit (.int .i64 (a).f.d), .lit (.int .i64 (a).f.l), .lit (.int .i64 (a).f.p), .lit (.int .i64 (a).f.q), .lit (.int .i64 (a).o), .lit (.int .i64 (a).l), .lit (.int .i64 (a).t), .lit (.int .i64 (a).n.c), .lit (.int .i64 (a).n.k), .lit (.int .i64 (a).n.a), .lit (.int .i64 (a).n.t), .lit (.int .i64 (a).r.c), .lit (.int .i64 (a).r.k), .lit (.int .i64 (a).r.a), .lit (.int .i64 (a).r.t)]] [] (.lit (.bool (okA a))) [] := by
  obtain ⟨⟨a0, a1, a2, a3⟩, a4, a5, a6, ⟨a7, a8, a9, a10⟩, ⟨a11, a12, a13, a14⟩⟩ := a
  have hB : Base Try.prog (tabΓ [e_l5Good]) tab := base_of tabOk (ents_cons eok_l5Good <| ents_nil)
  refine con_eq (N := 5) hB (draw_ok hB mixed) Try.func18 rfl rfl _ _ 60 (by simp) (by intro x hx; simp only [List.mem_cons, List.not_mem_nil, or_false] at hx; rcases hx with rfl <;> (first | (first | exact .lit | exact blq_ok 4 rfl) | exact .vec (fun j hj x hx => by simp [vrow] at hx; subst hx; exact .lit))) (by (first | exact .lit | exact blq_ok 4 rfl)) ?_
  intro H hH
  conv in finish _ _ _ _ _ _ _ _ => cbv
  subst hH
  simp only [Fin.sat0, Fin.sat1, stdH, Option.some.injEq, AV.lit.injEq, AV.agg.injEq, AV.tup.injEq, List.cons.injEq, Value.bool.injEq, Value.int.injEq, AllP, and_true, true_and, eq_self, decide_eq_true_eq, decide_eq_false_iff_not, Bool.not_eq_true', Bool.not_eq_false', peta, ncast]
noncomputable def e_IsValidArmsS : Entry := pureE 18 fun H a => match a with
  | [.agg [.lit (.int .i64 a0), .lit (.int .i64 a1), .lit (.int .i64 a2), .lit (.int .i64 a3), .lit (.int .i64 a4), .lit (.int .i64 a5), .lit (.int .i64 a6), .lit (.int .i64 a7), .lit (.int .i64 a8), .lit (.int .i64 a9), .lit (.int .i64 a10), .lit (.int .i64 a11), .lit (.int .i64 a12), .lit (.int .i64 a13), .lit (.int .i64 a14)]] => some (.lit (.bool (H Bool fun _ => (okA (⟨⟨a0, a1, a2, a3⟩, a4, a5, a6, ⟨a7, a8, a9, a10⟩, ⟨a11, a12, a13, a14⟩⟩ : Arm)))), [])
  | _ => none
theorem eok_IsValidArmsS : EntryOk Try.prog e_IsValidArmsS := pureE_ok (by unfold isBody; kernel_rfl) (by
  intro a r ob e hob
  split at e
  · rename_i a0 a1 a2 a3 a4 a5 a6 a7 a8 a9 a10 a11 a12 a13 a14
    simp only [Option.some.injEq, Prod.mk.injEq] at e
    obtain ⟨rfl, rfl⟩ := e
    exact c_IsValidArmsS (⟨⟨a0, a1, a2, a3⟩, a4, a5, a6, ⟨a7, a8, a9, a10⟩, ⟨a11, a12, a13, a14⟩⟩ : Arm)
  · simp at e)
theorem lay_le {a : Arm} (h : okA a = true) : layA a ≤ ((tinA a).length : Nat) := by
  obtain ⟨⟨a0, a1, a2, a3⟩, a4, a5, a6, ⟨a7, a8, a9, a10⟩, ⟨a11, a12, a13, a14⟩⟩ := a
  simp only [okA, okF, Bool.and_eq_true] at h
  obtain ⟨⟨hf, hr⟩, ho⟩ := h
  have hF : 1 ≤ (tinF ⟨a0, a1, a2, a3⟩).length := by unfold tinF; split <;> simp
  have hR : (if noG ⟨a11, a12, a13, a14⟩ = true then (0 : Int) else 1) ≤ ((nz a14).length : Nat) := by
    cases hn : noG ⟨a11, a12, a13, a14⟩
    · rw [hn] at hr
      simp only [Bool.false_or, okG, Bool.and_eq_true, inB, decide_eq_true_eq] at hr
      have : nz a14 = [a14] := if_neg (by omega)
      rw [this]; simp
    · simp
  have hO : (if a4 = 0 then (0 : Int) else 1) ≤ ((nz a6).length : Nat) ∧ (if noG ⟨a7, a8, a9, a10⟩ = true then (0 : Int) else 1) ≤ ((nz a10).length : Nat) := by
    by_cases h0 : a4 = 0
    · rw [if_pos h0] at ho
      simp only [Bool.and_eq_true] at ho
      rw [if_pos h0, if_pos ho.2]
      omega
    · rw [if_neg h0] at ho
      simp only [Bool.and_eq_true, inB, decide_eq_true_eq] at ho
      obtain ⟨⟨_, ht⟩, hn⟩ := ho
      have e6 : nz a6 = [a6] := if_neg (by omega)
      rw [if_neg h0, e6]
      refine ⟨by simp, ?_⟩
      cases hn' : noG ⟨a7, a8, a9, a10⟩
      · rw [hn'] at hn
        simp only [Bool.false_or, okG, Bool.and_eq_true, inB, decide_eq_true_eq] at hn
        have : nz a10 = [a10] := if_neg (by omega)
        rw [this]; simp
      · simp
  simp only [layA, tinA, List.length_append]
  push_cast
  obtain ⟨h1, h2⟩ := hO
  omega
theorem nz_map {g : Int → Int} (hg : ∀ y, y ≠ 0 → g y ≠ 0) (y : Int) : nz (if y = 0 then 0 else g y) = (nz y).map g := by
  by_cases h : y = 0
  · rw [if_pos h, h]; rfl
  · rw [if_neg h]; unfold nz; rw [if_neg (hg y h), if_neg h]; rfl
theorem tin_map {g : Int → Int} (hg : ∀ y, y ≠ 0 → g y ≠ 0) {a : Arm} (h : okA a = true) : tinA (mapF g a) = (tinA a).map g := by
  have hf : okF a.f = true := by simp only [okA, Bool.and_eq_true] at h; exact h.1.1
  simp only [okF, Bool.and_eq_true, inB, decide_eq_true_eq] at hf
  simp only [tinA, List.map_append, mapF, nz_map hg]
  have : tinF ⟨a.f.d, a.f.l, if a.f.p = 0 then 0 else g a.f.p, if a.f.q = 0 then 0 else g a.f.q⟩ = (tinF a.f).map g := by
    unfold tinF
    simp only
    by_cases h0 : a.f.d = 0
    · rw [if_pos h0, if_pos h0, if_neg (by omega)]; rfl
    · have h3 := hf.2
      rw [if_neg h0] at h3
      simp at h3
      rw [if_neg h0, if_neg h0, if_neg (by omega), if_neg (by omega)]; rfl
  rw [this]
theorem map_one {g : Int → Int} (hg : ∀ y, y ≠ 0 → g y ≠ 0) (a : Arm) : mapF (fun _ => 1) (mapF g a) = mapF (fun _ => 1) a := by
  have e : ∀ y z, z = (if y = 0 then 0 else g y) → (if z = 0 then (0 : Int) else 1) = if y = 0 then 0 else 1 := fun y z hz => by
    subst hz
    by_cases h : y = 0
    · simp [h]
    · simp [h, hg y h]
  have h1 := e a.f.p (mapF g a).f.p rfl
  have h2 := e a.f.q (mapF g a).f.q rfl
  have h3 := e a.t (mapF g a).t rfl
  have h4 := e a.n.t (mapF g a).n.t rfl
  have h5 := e a.r.t (mapF g a).r.t rfl
  show Arm.mk (Fld.mk _ _ (if (mapF g a).f.p = 0 then 0 else 1) (if (mapF g a).f.q = 0 then 0 else 1)) _ _ (if (mapF g a).t = 0 then 0 else 1) (Grp.mk _ _ _ (if (mapF g a).n.t = 0 then 0 else 1)) (Grp.mk _ _ _ (if (mapF g a).r.t = 0 then 0 else 1)) = _
  rw [h1, h2, h3, h4, h5]; rfl
theorem allAz (a : Arm) : allT [fun _ => a.f.d == 0, fun _ => a.f.l == 0, fun _ => a.f.p == 0, fun _ => a.f.q == 0, fun _ => a.o == 0, fun _ => a.l == 0, fun _ => a.t == 0, fun _ => a.n.c == 0, fun _ => a.n.k == 0, fun _ => a.n.a == 0, fun _ => a.n.t == 0, fun _ => a.r.c == 0, fun _ => a.r.k == 0, fun _ => a.r.a == 0, fun _ => a.r.t == 0] = sameA a zA := allA a zA
theorem chg_ne {o x : Int} (hx : x ≠ 0) (y : Int) (h : y ≠ 0) : chg o x y ≠ 0 := by unfold chg; split <;> assumption
theorem lget_map (g : Int → Int) (l : List Int) {j : Nat} (h : j < l.length) : lget (l.map g) j = g (lget l j) := by
  simp [lget, h]
theorem law_Arms (c : Cd) : Con Try.prog 4 [codeAV c] [] (.lit (.bool true)) [] := by
  have hB : Base Try.prog (tabΓ [e_vBig c, e_DrawReplaceTincture c, e_ReplaceTincture, e_ReplaceTinctureS, e_IsValidArms, e_IsValidArmsS, e_ArmsTinctures, e_LayerCount, e_SameShape]) tab := base_of tabOk (ents_cons (eok_vBig c) <| ents_cons (eok_DrawReplaceTincture c) <| ents_cons eok_ReplaceTincture <| ents_cons eok_ReplaceTinctureS <| ents_cons eok_IsValidArms <| ents_cons eok_IsValidArmsS <| ents_cons eok_ArmsTinctures <| ents_cons eok_LayerCount <| ents_cons eok_SameShape <| ents_nil)
  refine con_ok (N := 156) hB (draw_ok hB mixed) Try.func4 rfl rfl _ _ 0 _ _ 200 (by simp) (codeAV_bl c) (by simp [lk]) .lit (by simp) ?_
  intro X hX H hH
  conv in finish _ _ _ _ _ _ _ _ => cbv
  subst hH
  simp only [Fin.sat_ret, Fin.sat_br, Fin.sat_need, AllP, stdH, and_true, true_and, leafB, arm_eta, ncast, Int.ofNat_eq_natCast]
  generalize F_DrawReplaceTincture c = y at *
  obtain ⟨a, o, x⟩ := y
  dsimp only at *
  simp only [allA, allAz]
  have r1 : sameA (repO a o x) (repO a o x) = true := sameA_iff.2 rfl
  refine ⟨fun _ => trivial, fun _ => ⟨fun h => ?_, fun _ => ⟨fun h => ?_, fun _ => ⟨fun h => ?_, fun h => ?_⟩⟩⟩⟩
  · rw [r1] at h; cases h1 : repI a o x <;> cases h2 : okA a <;> simp_all
  · cases h2 : okA a
    · simp [h2] at h
    · have h3 := lay_le h2
      simp [h2, atin] at h
      exact absurd h3 (by omega)
  · have : repI a o x = false := by simpa using h
    unfold repO; rw [this]; rfl
  have hI : repI a o x = true := by simpa using h
  have hI' := hI
  simp only [repI, Bool.and_eq_true] at hI'
  obtain ⟨⟨⟨ha, ho⟩, hx⟩, hb⟩ := hI'
  have hR : repO a o x = mapF (chg o x) a := by unfold repO; rw [if_pos hI]
  have hx0 : x ≠ 0 := by unfold inB at hx; simp at hx; omega
  have hm : atin (repO a o x) = (tinA a).map (chg o x) := by unfold atin; rw [hR, if_pos hb, tin_map (fun y => chg_ne hx0 y) ha]
  have hl : atin a = tinA a := if_pos ha
  have hs : sameA (mapF (fun _ => 1) a) (mapF (fun _ => 1) (repO a o x)) = true := by rw [hR, map_one (fun y => chg_ne hx0 y)]; exact sameA_iff.2 rfl
  have hb' : okA (repO a o x) = true := by rw [hR]; exact hb
  have hlen : (tinA a).length ≤ 100 := by
    have e : ∀ y, (nz y).length ≤ 1 := fun y => by unfold nz; split <;> simp
    have e2 : (tinF a.f).length ≤ 2 := by unfold tinF; split <;> simp
    have := e a.t; have := e a.n.t; have := e a.r.t
    simp only [tinA, List.length_append]; omega
  rw [hs, hb', ha, hl, hm]
  generalize tinA a = l at *
  refine ⟨fun h => ?_, fun _ => ?_⟩
  · simp at h
  clear hm hl hs hb' hR hb r1 hI h
  refine loop_sat hB (draw_ok hB mixed) hX (ι := { i : Nat // i ≤ l.length }) 200 (fun H i => ⟨[(4, .lit (.int .i64 o)), (5, .lit (.int .i64 x)), (10, .vec 1 (H Nat fun _ => l.length) (vrow (H (Nat → Int) fun _ => lget l))), (16, .vec 1 (H Nat fun _ => (l.map (chg o x)).length) (vrow (H (Nat → Int) fun _ => lget (l.map (chg o x))))), (18, .lit (.int .i64 (H Int fun _ => i.1)))], [], X.n0⟩) (fun i => l.length - i.1) ⟨0, Nat.zero_le _⟩ ?_ ?_
  · refine .of fun p hp => ?_
    simp only [List.mem_cons, List.not_mem_nil, or_false] at hp
    rcases hp with rfl | rfl | rfl | rfl | rfl
    · exact ⟨rfl, .lit⟩
    · exact ⟨rfl, .lit⟩
    · exact ⟨rfl, vrow_bl _ _ _ _⟩
    · exact ⟨rfl, vrow_bl _ _ _ _⟩
    · exact ⟨rfl, .lit⟩
  · rintro ⟨i, hi⟩ H hH
    conv in finish _ _ _ _ _ _ _ _ => cbv
    subst hH
    simp only [Fin.sat_ret, Fin.sat_br, Fin.sat_need, Fin.sat_again, AllP, stdH, and_true, true_and, decide_eq_true_eq, decide_eq_false_iff_not, Int.ofNat_eq_natCast, ncast, leafB]
    refine ⟨fun hlt => ?_, fun _ => trivial⟩
    have hi' : i < l.length := by omega
    have e1 : ((i : Int)).toNat = i := rfl
    have em := lget_map (chg o x) l hi'
    simp only [e1, em, List.length_map]
    have hv : (bif bif lget l i == o then chg o x (lget l i) != x else false then true else bif lget l i != o then chg o x (lget l i) != lget l i else false) = false := by
      by_cases h : lget l i = o <;> simp [chg, h]
    refine ⟨by omega, fun _ => by omega, fun _ => by omega, fun _ => by omega, fun _ => by omega, fun h => (by rw [hv] at h; cases h), fun _ => ?_⟩
    simp only [upd, List.length_nil, Nat.zero_add, if_true]
    refine ⟨⟨i + 1, by omega⟩, by simp only; omega, .of fun p hp => ?_⟩
    have e2 : IntKind.i64.wrap ((i : Int) + 1) = ((i + 1 : Nat) : Int) := by rw [wi] <;> omega
    simp only [List.mem_cons, List.not_mem_nil, or_false] at hp
    rcases hp with rfl | rfl | rfl | rfl | rfl
    · exact ⟨rfl, .lit⟩
    · exact ⟨rfl, .lit⟩
    · exact ⟨rfl, vrow_bl _ _ _ _⟩
    · exact ⟨rfl, vrow_bl _ _ _ _⟩
    · exact ⟨by rw [e2]; rfl, .lit⟩

end Go.Proofs.Ythacffbofjfcjaa.AM
