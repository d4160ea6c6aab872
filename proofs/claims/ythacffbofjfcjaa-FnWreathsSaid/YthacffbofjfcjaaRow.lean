import Derived.Test.YthacffbofjfcjaaWre
set_option linter.unusedVariables false
set_option linter.unusedSimpArgs false
set_option maxRecDepth 100000
set_option maxHeartbeats 4000000
set_option cbv.maxSteps 3000000
namespace Go.Proofs.Ythacffbofjfcjaa.AM
/- Rows of wreaths; lists compared; conditions: none. -/
def rowW (m c : Int) (n : Nat) : List Int := (List.range n).map fun i => if i % 2 = 0 then m else c
theorem rowW_succ (m c : Int) (n : Nat) : rowW m c (n + 1) = rowW m c n ++ [if n % 2 = 0 then m else c] := by simp [rowW, List.range_succ]
theorem rowW_len (m c : Int) (n : Nat) : (rowW m c n).length = n := by simp [rowW]
theorem tmod2 (k : Nat) : ((((k : Nat) : Int).tmod 2 == 0) = true ↔ k % 2 = 0) ∧ ((((k : Nat) : Int).tmod 2 == 0) = false ↔ ¬ k % 2 = 0) := by
  have : ((k : Nat) : Int).tmod 2 = ((k % 2 : Nat) : Int) := by rw [Int.tmod_eq_emod_of_nonneg (by omega)]; omega
  rw [this]
  constructor
  · simp; omega
  · simp; omega
def okW (a : Arm) (n : Int) : Bool := okA a && inB n 1 20
def rowA (a : Arm) (n : Int) : List Int := if okW a n then rowW (wreM (tinA a)) (wreC (tinA a)) n.toNat else []
def ren1 (i : Nat) : Nat := if i = 0 then 1 else i
theorem rowA_bl (l : List Int) (b : Bool) : Bl 0 (.tup [LV l, .lit (.bool b)]) := .tup (by intro x hx; simp at hx; rcases hx with rfl | rfl; exact vrow_bl _ _ _ _; exact .lit)
theorem c_WreathRow (a : Arm) (n : Int) : Con Try.prog 43 [.agg [.lit (.int .i64 (a).f.d), .lit (.int .i64 (a).f.l), .lit (.int .i64 (a).f.p), .lit (.int .i64 (a).f.q), .lit (.int .i64 (a).o), .lit (.int .i64 (a).l), .lit (.int .i64 (a).t), .lit (.int .i64 (a).n.c), .lit (.int .i64 (a).n.k), .lit (.int .i64 (a).n.a), .lit (.int .i64 (a).n.t), .lit (.int .i64 (a).r.c), .lit (.int .i64 (a).r.k), .lit (.int .i64 (a).r.a), .lit (.int .i64 (a).r.t)], .lit (.int .i64 n)] [] (.tup [LV (rowA a n), .lit (.bool (okW a n))]) [] := by
  obtain ⟨⟨a0, a1, a2, a3⟩, a4, a5, a6, ⟨a7, a8, a9, a10⟩, ⟨a11, a12, a13, a14⟩⟩ := a
  have hB : Base Try.prog (tabΓ [e_WreathOf, e_inside]) tab := base_of tabOk (ents_cons eok_WreathOf <| ents_cons eok_inside <| ents_nil)
  refine con_okN (N := 42) hB (draw_ok hB mixed) Try.func43 rfl rfl _ _ 0 _ _ 100 (by simp) (by intro x hx; simp only [List.mem_cons, List.not_mem_nil, or_false] at hx; rcases hx with rfl | rfl; exact blq_ok 4 rfl; exact .lit) (by simp [lk]) (rowA_bl _ _) (by simp) ?_
  intro X hX hX0 H hH
  conv in finish _ _ _ _ _ _ _ _ => cbv
  subst hH
  simp only [Fin.sat_ret, Fin.sat_br, Fin.sat_need, AllP, stdH, and_true, true_and, ncast, Int.ofNat_eq_natCast]
  unfold rowA okW
  refine ⟨fun h => ?_, fun h => ?_⟩
  · have e : (okA ⟨⟨a0, a1, a2, a3⟩, a4, a5, a6, ⟨a7, a8, a9, a10⟩, ⟨a11, a12, a13, a14⟩⟩ && inB n 1 20) = false := by
      generalize okA _ = b1 at *
      cases b1 <;> cases h2 : inB n 1 20 <;> simp_all
    rw [e]
    exact ⟨_, rfl, frz_tup2 frz_nil .refl, by simp⟩
  have e1 : okA ⟨⟨a0, a1, a2, a3⟩, a4, a5, a6, ⟨a7, a8, a9, a10⟩, ⟨a11, a12, a13, a14⟩⟩ = true := by
    generalize okA _ = b1 at *
    cases b1 <;> simp_all
  have e2 : inB n 1 20 = true := by cases h2 : inB n 1 20 <;> simp_all
  have eT := tinS_eq e1
  clear h
  rw [e1, e2]
  simp only [eT, Bool.and_true, if_true]
  have hn : 1 ≤ n ∧ n ≤ 20 := by unfold inB at e2; simpa using e2
  generalize tinA _ = l at *
  generalize wreM l = m at *
  generalize wreC l = c at *
  refine loop_sat hB (draw_ok hB mixed) hX (ι := { i : Nat // i ≤ n.toNat }) 100 (fun H i => match i.1 with
    | 0 => ⟨[(6, .lit (.int .i64 m)), (7, .lit (.int .i64 c)), (9, .ful 1 0 (rowsOf 1 [])), (25, .lit (.int .i64 n)), (26, .lit (.int .i64 (H Int fun _ => 0)))], [], 0⟩
    | k + 1 => ⟨[(6, .lit (.int .i64 m)), (7, .lit (.int .i64 c)), (9, .slc 0 0 1 (H Nat fun _ => (rowW m c (k + 1)).length)), (25, .lit (.int .i64 n)), (26, .lit (.int .i64 (H Int fun _ => (k + 1 : Nat))))], [(0, .rows 1 (H Nat fun _ => (rowW m c (k + 1)).length) (vrow (H (Nat → Int) fun _ => lget (rowW m c (k + 1)))) 3)], 1⟩) (fun i => n.toNat - i.1) ⟨0, Nat.zero_le _⟩ ?_ ?_
  · rw [hX0]
    refine .of fun p hp => ?_
    simp only [List.mem_cons, List.not_mem_nil, or_false] at hp
    rcases hp with rfl | rfl | rfl | rfl | rfl
    · exact ⟨rfl, .lit⟩
    · exact ⟨rfl, .lit⟩
    · exact ⟨rfl, .ful (by omega)⟩
    · exact ⟨rfl, .lit⟩
    · exact ⟨rfl, .lit⟩
  · have step : ∀ (id k : Nat) (s : Env) (hp : Heap) (nx : Nat) (f : Nat → List AV) (n' : Nat), Gro n' f (rowW m c (k + 1)) → lk 6 s = some (.lit (.int .i64 m)) → lk 7 s = some (.lit (.int .i64 c)) → lk 9 s = some (.slc id 0 1 n') → lk 25 s = some (.lit (.int .i64 n)) → lk 26 s = some (.lit (.int .i64 (IntKind.i64.wrap ((k : Int) + 1)))) → lk id hp = some (.rows 1 n' f 3) → k < 100 →
        StLe 0 ⟨[(6, .lit (.int .i64 m)), (7, .lit (.int .i64 c)), (9, .slc 0 0 1 (rowW m c (k + 1)).length), (25, .lit (.int .i64 n)), (26, .lit (.int .i64 ((k + 1 : Nat) : Int)))], [(0, .rows 1 (rowW m c (k + 1)).length (vrow (lget (rowW m c (k + 1)))) 3)], 1⟩ ⟨s, hp, nx⟩ := by
      intro id k s hp nx f n' hG k1 k2 k3 k4 k5 k6 hk
      have e5 : IntKind.i64.wrap ((k : Int) + 1) = ((k + 1 : Nat) : Int) := by rw [wi] <;> omega
      rw [e5] at k5
      obtain rfl := hG.1
      refine .ofP (fun i => if i = 0 then id else i) (fun p hp => ?_) (fun p hp => ?_) (fun i hi => by omega) (fun i j hi hj _ => by omega) (Nat.zero_le _)
      · simp only [List.mem_cons, List.not_mem_nil, or_false] at hp
        rcases hp with rfl | rfl | rfl | rfl | rfl
        · exact ⟨_, k1, .same (q := 0) (by omega) (by omega) .lit⟩
        · exact ⟨_, k2, .same (q := 0) (by omega) (by omega) .lit⟩
        · exact ⟨_, k3, Rn.slc (π := fun i => if i = 0 then id else i) (i := 0) (by omega)⟩
        · exact ⟨_, k4, .same (q := 0) (by omega) (by omega) .lit⟩
        · exact ⟨_, k5, .same (q := 0) (by omega) (by omega) .lit⟩
      · simp only [List.mem_cons, List.not_mem_nil, or_false] at hp
        subst hp
        exact ⟨by omega, _, k6, rnb_ints hG⟩
    have g0 : Gro (0 + 1) (app 0 (rowsOf 1 []) (rowsOf 1 [.lit (.int .i64 m)])) (rowW m c 1) := gro_snoc gro_nil m
    have gs : ∀ k, Gro ((rowW m c (k + 1)).length + 1) (app (rowW m c (k + 1)).length (vrow (lget (rowW m c (k + 1)))) (rowsOf 1 [.lit (.int .i64 (if (k + 1) % 2 = 0 then m else c))])) (rowW m c (k + 1 + 1)) := fun k => by
      rw [rowW_succ m c (k + 1)]; exact gro_snoc (gro0 _) _
    rintro ⟨_ | k, hk⟩ H hH
    · conv in finish _ _ _ _ _ _ _ _ => cbv
      subst hH
      simp only [Fin.sat_ret, Fin.sat_br, Fin.sat_need, Fin.sat_again, AllP, stdH, and_true, true_and, decide_eq_true_eq, decide_eq_false_iff_not, Int.ofNat_eq_natCast, ncast, hX0]
      refine ⟨fun hlt => ⟨by omega, fun h2 => ⟨by omega, ?_⟩, fun h2 => absurd h2 (by decide)⟩, fun h => absurd hn.1 (by omega)⟩
      simp only [upd, List.length_nil, Nat.zero_add, if_true]
      exact ⟨⟨1, by omega⟩, by simp only; omega, step 0 0 _ _ _ _ _ g0 rfl rfl rfl rfl rfl rfl (by omega)⟩
    · have hL := rowW_len m c (k + 1)
      conv in finish _ _ _ _ _ _ _ _ => cbv
      subst hH
      simp only [Fin.sat_ret, Fin.sat_br, Fin.sat_need, Fin.sat_again, AllP, stdH, and_true, true_and, decide_eq_true_eq, decide_eq_false_iff_not, Int.ofNat_eq_natCast, ncast, hX0]
      have hg := gs k
      refine ⟨fun hlt => ⟨by omega, fun h2 => ⟨by omega, ?_⟩, fun h2 => ⟨by omega, ?_⟩⟩, fun h => ?_⟩
      · rw [if_pos ((tmod2 (k + 1)).1.1 h2)] at hg
        simp only [upd, List.length_nil, Nat.zero_add, if_true]
        exact ⟨⟨k + 1 + 1, by omega⟩, by simp only; omega, step 1 (k + 1) _ _ _ _ _ hg rfl rfl rfl rfl rfl rfl (by omega)⟩
      · rw [if_neg ((tmod2 (k + 1)).2.1 h2)] at hg
        simp only [upd, List.length_nil, Nat.zero_add, if_true]
        exact ⟨⟨k + 1 + 1, by omega⟩, by simp only; omega, step 1 (k + 1) _ _ _ _ _ hg rfl rfl rfl rfl rfl rfl (by omega)⟩
      · have hkn : n.toNat = k + 1 := by omega
        rw [hkn]
        exact ⟨_, rfl, frz_tup2 (frz_gro (gro0 _) rfl (Nat.zero_le _)) .refl, by simp⟩
noncomputable def e_WreathRow : Entry := pureE 43 fun H a => match a with
  | [.agg [.lit (.int .i64 a0), .lit (.int .i64 a1), .lit (.int .i64 a2), .lit (.int .i64 a3), .lit (.int .i64 a4), .lit (.int .i64 a5), .lit (.int .i64 a6), .lit (.int .i64 a7), .lit (.int .i64 a8), .lit (.int .i64 a9), .lit (.int .i64 a10), .lit (.int .i64 a11), .lit (.int .i64 a12), .lit (.int .i64 a13), .lit (.int .i64 a14)], .lit (.int .i64 n)] => some (.tup [.vec 1 (H Nat fun _ => (rowA (⟨⟨a0, a1, a2, a3⟩, a4, a5, a6, ⟨a7, a8, a9, a10⟩, ⟨a11, a12, a13, a14⟩⟩ : Arm) n).length) (vrow (H (Nat → Int) fun _ => lget (rowA (⟨⟨a0, a1, a2, a3⟩, a4, a5, a6, ⟨a7, a8, a9, a10⟩, ⟨a11, a12, a13, a14⟩⟩ : Arm) n))), .lit (.bool (H Bool fun _ => (okW (⟨⟨a0, a1, a2, a3⟩, a4, a5, a6, ⟨a7, a8, a9, a10⟩, ⟨a11, a12, a13, a14⟩⟩ : Arm) n)))], [])
  | _ => none
theorem eok_WreathRow : EntryOk Try.prog e_WreathRow := pureE_ok (by unfold isBody; kernel_rfl) (by
  intro a r ob e hob
  split at e
  · rename_i a0 a1 a2 a3 a4 a5 a6 a7 a8 a9 a10 a11 a12 a13 a14 n
    simp only [Option.some.injEq, Prod.mk.injEq] at e
    obtain ⟨rfl, rfl⟩ := e
    exact c_WreathRow (⟨⟨a0, a1, a2, a3⟩, a4, a5, a6, ⟨a7, a8, a9, a10⟩, ⟨a11, a12, a13, a14⟩⟩ : Arm) n
  · simp at e)
theorem c_WreathRowS (a : Arm) (n : Int) : Con Try.prog 47 [.agg [.lit (.int .i64 (a).f.d), .lit (.int .i64 (a).f.l), .lit (.int .i64 (a).f.p), .lit (.int .i64 (a).f.q), .lit (.int .i64 (a).o), .lit (.int .i64 (a).l), .lit (.int .i64 (a).t), .lit (.int .i64 (a).n.c), .lit (.int .i64 (a).n.k), .lit (.int .i64 (a).n.a), .lit (.int .i64 (a).n.t), .lit (.int .i64 (a).r.c), .lit (.int .i64 (a).r.k), .lit (.int .i64 (a).r.a), .lit (.int .i64 (a).r.t)], .lit (.int .i64 n)] [] (.tup [LV (rowA a n), .lit (.bool (okW a n))]) [] := by
  obtain ⟨⟨a0, a1, a2, a3⟩, a4, a5, a6, ⟨a7, a8, a9, a10⟩, ⟨a11, a12, a13, a14⟩⟩ := a
  have hB : Base Try.prog (tabΓ [e_l5Good, e_l1In, e_l22Wreath]) tab := base_of tabOk (ents_cons eok_l5Good <| ents_cons eok_l1In <| ents_cons eok_l22Wreath <| ents_nil)
  refine con_okN (N := 42) hB (draw_ok hB mixed) Try.func47 rfl rfl _ _ 0 _ _ 100 (by simp) (by intro x hx; simp only [List.mem_cons, List.not_mem_nil, or_false] at hx; rcases hx with rfl | rfl; exact blq_ok 4 rfl; exact .lit) (by simp [lk]) (rowA_bl _ _) (by simp) ?_
  intro X hX hX0 H hH
  conv in finish _ _ _ _ _ _ _ _ => cbv
  subst hH
  simp only [Fin.sat_ret, Fin.sat_br, Fin.sat_need, AllP, stdH, and_true, true_and, ncast, Int.ofNat_eq_natCast]
  unfold rowA okW
  refine ⟨fun h => ?_, fun h => ?_⟩
  · have e : (okA ⟨⟨a0, a1, a2, a3⟩, a4, a5, a6, ⟨a7, a8, a9, a10⟩, ⟨a11, a12, a13, a14⟩⟩ && inB n 1 20) = false := by
      generalize okA _ = b1 at *
      cases b1 <;> cases h2 : inB n 1 20 <;> simp_all
    rw [e]
    exact ⟨_, rfl, frz_tup2 frz_ful0 .refl, by simp⟩
  have e1 : okA ⟨⟨a0, a1, a2, a3⟩, a4, a5, a6, ⟨a7, a8, a9, a10⟩, ⟨a11, a12, a13, a14⟩⟩ = true := by
    generalize okA _ = b1 at *
    cases b1 <;> simp_all
  have e2 : inB n 1 20 = true := by cases h2 : inB n 1 20 <;> simp_all
  have eT := tinS_eq e1
  clear h
  rw [e1, e2]
  simp only [eT, Bool.and_true, if_true]
  have hn : 1 ≤ n ∧ n ≤ 20 := by unfold inB at e2; simpa using e2
  generalize tinA _ = l at *
  generalize wreM l = m at *
  generalize wreC l = c at *
  refine loop_sat hB (draw_ok hB mixed) hX (ι := { i : Nat // i ≤ n.toNat }) 100 (fun H i => match i.1 with
    | 0 => ⟨[(7, .lit (.int .i64 m)), (8, .lit (.int .i64 c)), (6, .ful 1 0 (rowsOf 1 [])), (1, .lit (.int .i64 n)), (9, .lit (.int .i64 (H Int fun _ => 0)))], [], 0⟩
    | k + 1 => ⟨[(7, .lit (.int .i64 m)), (8, .lit (.int .i64 c)), (6, .slc 0 0 1 (H Nat fun _ => (rowW m c (k + 1)).length)), (1, .lit (.int .i64 n)), (9, .lit (.int .i64 (H Int fun _ => (k + 1 : Nat))))], [(0, .rows 1 (H Nat fun _ => (rowW m c (k + 1)).length) (vrow (H (Nat → Int) fun _ => lget (rowW m c (k + 1)))) 3)], 1⟩) (fun i => n.toNat - i.1) ⟨0, Nat.zero_le _⟩ ?_ ?_
  · rw [hX0]
    refine .of fun p hp => ?_
    simp only [List.mem_cons, List.not_mem_nil, or_false] at hp
    rcases hp with rfl | rfl | rfl | rfl | rfl
    · exact ⟨rfl, .lit⟩
    · exact ⟨rfl, .lit⟩
    · exact ⟨rfl, .ful (by omega)⟩
    · exact ⟨rfl, .lit⟩
    · exact ⟨rfl, .lit⟩
  · have step : ∀ (id k : Nat) (s : Env) (hp : Heap) (nx : Nat) (f : Nat → List AV) (n' : Nat), Gro n' f (rowW m c (k + 1)) → lk 7 s = some (.lit (.int .i64 m)) → lk 8 s = some (.lit (.int .i64 c)) → lk 6 s = some (.slc id 0 1 n') → lk 1 s = some (.lit (.int .i64 n)) → lk 9 s = some (.lit (.int .i64 (IntKind.i64.wrap ((k : Int) + 1)))) → lk id hp = some (.rows 1 n' f 3) → k < 100 →
        StLe 0 ⟨[(7, .lit (.int .i64 m)), (8, .lit (.int .i64 c)), (6, .slc 0 0 1 (rowW m c (k + 1)).length), (1, .lit (.int .i64 n)), (9, .lit (.int .i64 ((k + 1 : Nat) : Int)))], [(0, .rows 1 (rowW m c (k + 1)).length (vrow (lget (rowW m c (k + 1)))) 3)], 1⟩ ⟨s, hp, nx⟩ := by
      intro id k s hp nx f n' hG k1 k2 k3 k4 k5 k6 hk
      have e5 : IntKind.i64.wrap ((k : Int) + 1) = ((k + 1 : Nat) : Int) := by rw [wi] <;> omega
      rw [e5] at k5
      obtain rfl := hG.1
      refine .ofP (fun i => if i = 0 then id else i) (fun p hp => ?_) (fun p hp => ?_) (fun i hi => by omega) (fun i j hi hj _ => by omega) (Nat.zero_le _)
      · simp only [List.mem_cons, List.not_mem_nil, or_false] at hp
        rcases hp with rfl | rfl | rfl | rfl | rfl
        · exact ⟨_, k1, .same (q := 0) (by omega) (by omega) .lit⟩
        · exact ⟨_, k2, .same (q := 0) (by omega) (by omega) .lit⟩
        · exact ⟨_, k3, Rn.slc (π := fun i => if i = 0 then id else i) (i := 0) (by omega)⟩
        · exact ⟨_, k4, .same (q := 0) (by omega) (by omega) .lit⟩
        · exact ⟨_, k5, .same (q := 0) (by omega) (by omega) .lit⟩
      · simp only [List.mem_cons, List.not_mem_nil, or_false] at hp
        subst hp
        exact ⟨by omega, _, k6, rnb_ints hG⟩
    have g0 : Gro (0 + 1) (app 0 (rowsOf 1 []) (rowsOf 1 [.lit (.int .i64 m)])) (rowW m c 1) := gro_snoc gro_nil m
    have gs : ∀ k, Gro ((rowW m c (k + 1)).length + 1) (app (rowW m c (k + 1)).length (vrow (lget (rowW m c (k + 1)))) (rowsOf 1 [.lit (.int .i64 (if (k + 1) % 2 = 0 then m else c))])) (rowW m c (k + 1 + 1)) := fun k => by
      rw [rowW_succ m c (k + 1)]; exact gro_snoc (gro0 _) _
    rintro ⟨_ | k, hk⟩ H hH
    · conv in finish _ _ _ _ _ _ _ _ => cbv
      subst hH
      simp only [Fin.sat_ret, Fin.sat_br, Fin.sat_need, Fin.sat_again, AllP, stdH, and_true, true_and, decide_eq_true_eq, decide_eq_false_iff_not, Int.ofNat_eq_natCast, ncast, hX0]
      refine ⟨fun hlt => ⟨by omega, fun h2 => ⟨by omega, ?_⟩, fun h2 => absurd h2 (by decide)⟩, fun h => absurd hn.1 (by omega)⟩
      simp only [upd, List.length_nil, Nat.zero_add, if_true]
      exact ⟨⟨1, by omega⟩, by simp only; omega, step 0 0 _ _ _ _ _ g0 rfl rfl rfl rfl rfl rfl (by omega)⟩
    · have hL := rowW_len m c (k + 1)
      conv in finish _ _ _ _ _ _ _ _ => cbv
      subst hH
      simp only [Fin.sat_ret, Fin.sat_br, Fin.sat_need, Fin.sat_again, AllP, stdH, and_true, true_and, decide_eq_true_eq, decide_eq_false_iff_not, Int.ofNat_eq_natCast, ncast, hX0]
      have hg := gs k
      refine ⟨fun hlt => ⟨by omega, fun h2 => ⟨by omega, ?_⟩, fun h2 => ⟨by omega, ?_⟩⟩, fun h => ?_⟩
      · rw [if_pos ((tmod2 (k + 1)).1.1 h2)] at hg
        simp only [upd, List.length_nil, Nat.zero_add, if_true]
        exact ⟨⟨k + 1 + 1, by omega⟩, by simp only; omega, step 1 (k + 1) _ _ _ _ _ hg rfl rfl rfl rfl rfl rfl (by omega)⟩
      · rw [if_neg ((tmod2 (k + 1)).2.1 h2)] at hg
        simp only [upd, List.length_nil, Nat.zero_add, if_true]
        exact ⟨⟨k + 1 + 1, by omega⟩, by simp only; omega, step 1 (k + 1) _ _ _ _ _ hg rfl rfl rfl rfl rfl rfl (by omega)⟩
      · have hkn : n.toNat = k + 1 := by omega
        rw [hkn]
        exact ⟨_, rfl, frz_tup2 (frz_gro (gro0 _) rfl (Nat.zero_le _)) .refl, by simp⟩
noncomputable def e_WreathRowS : Entry := pureE 47 fun H a => match a with
  | [.agg [.lit (.int .i64 a0), .lit (.int .i64 a1), .lit (.int .i64 a2), .lit (.int .i64 a3), .lit (.int .i64 a4), .lit (.int .i64 a5), .lit (.int .i64 a6), .lit (.int .i64 a7), .lit (.int .i64 a8), .lit (.int .i64 a9), .lit (.int .i64 a10), .lit (.int .i64 a11), .lit (.int .i64 a12), .lit (.int .i64 a13), .lit (.int .i64 a14)], .lit (.int .i64 n)] => some (.tup [.vec 1 (H Nat fun _ => (rowA (⟨⟨a0, a1, a2, a3⟩, a4, a5, a6, ⟨a7, a8, a9, a10⟩, ⟨a11, a12, a13, a14⟩⟩ : Arm) n).length) (vrow (H (Nat → Int) fun _ => lget (rowA (⟨⟨a0, a1, a2, a3⟩, a4, a5, a6, ⟨a7, a8, a9, a10⟩, ⟨a11, a12, a13, a14⟩⟩ : Arm) n))), .lit (.bool (H Bool fun _ => (okW (⟨⟨a0, a1, a2, a3⟩, a4, a5, a6, ⟨a7, a8, a9, a10⟩, ⟨a11, a12, a13, a14⟩⟩ : Arm) n)))], [])
  | _ => none
theorem eok_WreathRowS : EntryOk Try.prog e_WreathRowS := pureE_ok (by unfold isBody; kernel_rfl) (by
  intro a r ob e hob
  split at e
  · rename_i a0 a1 a2 a3 a4 a5 a6 a7 a8 a9 a10 a11 a12 a13 a14 n
    simp only [Option.some.injEq, Prod.mk.injEq] at e
    obtain ⟨rfl, rfl⟩ := e
    exact c_WreathRowS (⟨⟨a0, a1, a2, a3⟩, a4, a5, a6, ⟨a7, a8, a9, a10⟩, ⟨a11, a12, a13, a14⟩⟩ : Arm) n
  · simp at e)

end Go.Proofs.Ythacffbofjfcjaa.AM
