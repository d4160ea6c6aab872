import Derived.Test.YthacffbofjfcjaaCre
set_option linter.unusedVariables false
set_option linter.unusedSimpArgs false
set_option maxRecDepth 100000
set_option maxHeartbeats 4000000
set_option cbv.maxSteps 3000000
namespace Go.Proofs.Ythacffbofjfcjaa.AM
/- Wreaths; conditions: none. -/
def wst (w : Int × Int) (x : Int) : Int × Int := if clsF x = 1 ∧ w.1 = 0 then (x, w.2) else if clsF x = 2 ∧ w.2 = 0 then (w.1, x) else w
def wfl (l : List Int) (i : Nat) : Int × Int := (l.take i).foldl wst (0, 0)
def wreM (l : List Int) : Int := if (l.foldl wst (0, 0)).1 = 0 then 2 else (l.foldl wst (0, 0)).1
def wreC (l : List Int) : Int := if (l.foldl wst (0, 0)).2 = 0 then 5 else (l.foldl wst (0, 0)).2
theorem wfl_succ (l : List Int) {i : Nat} (h : i < l.length) : wfl l (i + 1) = wst (wfl l i) (lget l i) := by
  unfold wfl
  rw [List.take_add_one, List.getElem?_eq_getElem h, Option.toList_some, List.foldl_append]
  simp [lget, h]
theorem wfl_all (l : List Int) : wfl l l.length = l.foldl wst (0, 0) := by unfold wfl; rw [List.take_length]
theorem wst1 {w : Int × Int} {x : Int} (h : (bif clsF x == 1 then w.1 == 0 else false) = true) : wst w x = (x, w.2) := by
  have h1 : clsF x = 1 ∧ w.1 = 0 := by cases e : clsF x == 1 <;> simp_all
  unfold wst; rw [if_pos h1]
theorem wst2 {w : Int × Int} {x : Int} (h : (bif clsF x == 1 then w.1 == 0 else false) = false) (h' : (bif clsF x == 2 then w.2 == 0 else false) = true) : wst w x = (w.1, x) := by
  have h1 : ¬ (clsF x = 1 ∧ w.1 = 0) := by rintro ⟨a, b⟩; simp [a, b] at h
  have h2 : clsF x = 2 ∧ w.2 = 0 := by cases e : clsF x == 2 <;> simp_all
  unfold wst; rw [if_neg h1, if_pos h2]
theorem wst3 {w : Int × Int} {x : Int} (h : (bif clsF x == 1 then w.1 == 0 else false) = false) (h' : (bif clsF x == 2 then w.2 == 0 else false) = false) : wst w x = w := by
  have h1 : ¬ (clsF x = 1 ∧ w.1 = 0) := by rintro ⟨a, b⟩; simp [a, b] at h
  have h2 : ¬ (clsF x = 2 ∧ w.2 = 0) := by rintro ⟨a, b⟩; simp [a, b] at h'
  unfold wst; rw [if_neg h1, if_neg h2]
theorem tinA_len (a : Arm) : (tinA a).length ≤ 100 := by
  have e : ∀ y, (nz y).length ≤ 1 := fun y => by unfold nz; split <;> simp
  have e2 : (tinF a.f).length ≤ 2 := by unfold tinF; split <;> simp
  have := e a.t; have := e a.n.t; have := e a.r.t
  simp only [tinA, List.length_append]; omega
theorem tinS_len (a : Arm) : (tinS a).length ≤ 100 := by
  have e2 : (tinF a.f).length ≤ 2 := by unfold tinF; split <;> simp
  have h1 : (if a.o > 0 then [a.t] else []).length ≤ 1 := by split <;> simp
  have h2 : (if noG a.n = true then [] else [a.n.t]).length ≤ 1 := by split <;> simp
  have h3 : (if noG a.r = true then [] else [a.r.t]).length ≤ 1 := by split <;> simp
  simp only [tinS, List.length_append]; omega
/-- A leaf that hands out plain values. -/
theorem leafE {n0 : Nat} {hp : Heap} {x r : AV} (h : x = r) : ∃ y, some x = some y ∧ Frz n0 hp y r ∧ ∀ i b, (i, b) ∈ ([] : Heap) → lk i hp = some b := ⟨x, rfl, by rw [h]; exact .refl, by simp⟩
theorem c_wreath (a : Arm) : Con Try.prog 86 [.agg [.lit (.int .i64 (a).f.d), .lit (.int .i64 (a).f.l), .lit (.int .i64 (a).f.p), .lit (.int .i64 (a).f.q), .lit (.int .i64 (a).o), .lit (.int .i64 (a).l), .lit (.int .i64 (a).t), .lit (.int .i64 (a).n.c), .lit (.int .i64 (a).n.k), .lit (.int .i64 (a).n.a), .lit (.int .i64 (a).n.t), .lit (.int .i64 (a).r.c), .lit (.int .i64 (a).r.k), .lit (.int .i64 (a).r.a), .lit (.int .i64 (a).r.t)]] [] (.tup [.lit (.int .i64 (wreM (tinA a))), .lit (.int .i64 (wreC (tinA a)))]) [] := by
  have hlen := tinA_len a
  obtain ⟨⟨a0, a1, a2, a3⟩, a4, a5, a6, ⟨a7, a8, a9, a10⟩, ⟨a11, a12, a13, a14⟩⟩ := a
  have hB : Base Try.prog (tabΓ [e_tinA, e_class]) tab := base_of tabOk (ents_cons eok_tinA <| ents_cons eok_class <| ents_nil)
  refine con_ok (N := 40) hB (draw_ok hB mixed) Try.func86 rfl rfl _ _ 0 _ _ 100 (by simp) (by intro x hx; simp only [List.mem_cons, List.not_mem_nil, or_false] at hx; subst hx; exact blq_ok 4 rfl) (by simp [lk]) (blq_ok 4 rfl) (by simp) ?_
  intro X hX H hH
  conv in finish _ _ _ _ _ _ _ _ => cbv
  subst hH
  simp only [Fin.sat_ret, Fin.sat_br, Fin.sat_need, AllP, stdH, and_true, true_and, ncast, Int.ofNat_eq_natCast]
  generalize tinA _ = l at *
  refine loop_sat hB (draw_ok hB mixed) hX (ι := { i : Nat // i ≤ l.length }) 100 (fun H i => ⟨[(4, .lit (.int .i64 (H Int fun _ => (wfl l i.1).1))), (5, .lit (.int .i64 (H Int fun _ => (wfl l i.1).2))), (9, .vec 1 (H Nat fun _ => l.length) (vrow (H (Nat → Int) fun _ => lget l))), (10, .lit (.int .i64 (H Int fun _ => l.length))), (11, .lit (.int .i64 (H Int fun _ => i.1)))], [], X.n0⟩) (fun i => l.length - i.1) ⟨0, Nat.zero_le _⟩ ?_ ?_
  · refine .of fun p hp => ?_
    simp only [List.mem_cons, List.not_mem_nil, or_false] at hp
    rcases hp with rfl | rfl | rfl | rfl | rfl
    · exact ⟨rfl, .lit⟩
    · exact ⟨rfl, .lit⟩
    · exact ⟨rfl, vrow_bl _ _ _ _⟩
    · exact ⟨rfl, .lit⟩
    · exact ⟨rfl, .lit⟩
  · rintro ⟨i, hi⟩ H hH
    conv in finish _ _ _ _ _ _ _ _ => cbv
    subst hH
    simp only [Fin.sat_ret, Fin.sat_br, Fin.sat_need, Fin.sat_again, AllP, stdH, and_true, true_and, decide_eq_true_eq, decide_eq_false_iff_not, Int.ofNat_eq_natCast, ncast]
    have e1 : ((i : Int)).toNat = i := rfl
    have fin5 : ∀ (m c : Int) (s : Env) (hp : Heap) (nx : Nat), wfl l (i + 1) = (m, c) → i < l.length → lk 4 s = some (.lit (.int .i64 m)) → lk 5 s = some (.lit (.int .i64 c)) → lk 9 s = some (.vec 1 l.length (vrow (lget l))) → lk 10 s = some (.lit (.int .i64 (l.length : Int))) → lk 11 s = some (.lit (.int .i64 (IntKind.i64.wrap ((i : Int) + 1)))) →
        ∃ j : { i : Nat // i ≤ l.length }, l.length - j.val < l.length - i ∧ StLe X.n0 ⟨[(4, .lit (.int .i64 (wfl l j.val).1)), (5, .lit (.int .i64 (wfl l j.val).2)), (9, .vec 1 l.length (vrow (lget l))), (10, .lit (.int .i64 (l.length : Int))), (11, .lit (.int .i64 (j.val : Int)))], [], X.n0⟩ ⟨s, hp, nx⟩ := by
      intro m c s hp nx hw hlt k1 k2 k3 k4 k5
      have e2 : IntKind.i64.wrap ((i : Int) + 1) = ((i + 1 : Nat) : Int) := by rw [wi] <;> omega
      refine ⟨⟨i + 1, by omega⟩, by simp only; omega, .of fun p hp => ?_⟩
      simp only [List.mem_cons, List.not_mem_nil, or_false, hw] at hp
      rcases hp with rfl | rfl | rfl | rfl | rfl
      · exact ⟨k1, .lit⟩
      · exact ⟨k2, .lit⟩
      · exact ⟨k3, vrow_bl _ _ _ _⟩
      · exact ⟨k4, .lit⟩
      · exact ⟨by rw [← e2]; exact k5, .lit⟩
    simp only [e1]
    refine ⟨fun hlt => ?_, fun hge => ?_⟩
    · have hi' : i < l.length := by omega
      have hs := wfl_succ l hi'
      simp only [upd, List.length_nil, Nat.zero_add, if_true]
      refine ⟨by omega, fun h => ?_, fun h => ⟨fun h' => ?_, fun h' => ?_⟩⟩
      · exact fin5 _ _ _ _ _ (by rw [hs, wst1 h]) hi' rfl rfl rfl rfl rfl
      · exact fin5 _ _ _ _ _ (by rw [hs, wst2 h h']) hi' rfl rfl rfl rfl rfl
      · exact fin5 _ _ _ _ _ (by rw [hs, wst3 h h']) hi' rfl rfl rfl rfl rfl
    · have hii : i = l.length := by omega
      subst hii
      have hw := wfl_all l
      unfold wreM wreC
      rw [← hw]
      refine ⟨fun h => ⟨fun h' => ?_, fun h' => ?_⟩, fun h => ⟨fun h' => ?_, fun h' => ?_⟩⟩ <;> simp only [beq_iff_eq, beq_eq_false_iff_ne, ne_eq] at h h' <;> simp only [h, h', if_true, if_false] <;> exact leafE rfl
noncomputable def e_wreath : Entry := pureE 86 fun H a => match a with
  | [.agg [.lit (.int .i64 a0), .lit (.int .i64 a1), .lit (.int .i64 a2), .lit (.int .i64 a3), .lit (.int .i64 a4), .lit (.int .i64 a5), .lit (.int .i64 a6), .lit (.int .i64 a7), .lit (.int .i64 a8), .lit (.int .i64 a9), .lit (.int .i64 a10), .lit (.int .i64 a11), .lit (.int .i64 a12), .lit (.int .i64 a13), .lit (.int .i64 a14)]] => some (.tup [.lit (.int .i64 (H Int fun _ => (wreM (tinA (⟨⟨a0, a1, a2, a3⟩, a4, a5, a6, ⟨a7, a8, a9, a10⟩, ⟨a11, a12, a13, a14⟩⟩ : Arm))))), .lit (.int .i64 (H Int fun _ => (wreC (tinA (⟨⟨a0, a1, a2, a3⟩, a4, a5, a6, ⟨a7, a8, a9, a10⟩, ⟨a11, a12, a13, a14⟩⟩ : Arm)))))], [])
  | _ => none
theorem eok_wreath : EntryOk Try.prog e_wreath := pureE_ok (by unfold isBody; kernel_rfl) (by
  intro a r ob e hob
  split at e
  · rename_i a0 a1 a2 a3 a4 a5 a6 a7 a8 a9 a10 a11 a12 a13 a14
    simp only [Option.some.injEq, Prod.mk.injEq] at e
    obtain ⟨rfl, rfl⟩ := e
    exact c_wreath (⟨⟨a0, a1, a2, a3⟩, a4, a5, a6, ⟨a7, a8, a9, a10⟩, ⟨a11, a12, a13, a14⟩⟩ : Arm)
  · simp at e)
theorem wst1' {w : Int × Int} {x : Int} (h : (clsF x == 1) = true) (h' : (w.1 == 0) = true) : wst w x = (x, w.2) := wst1 (by rw [h]; exact h')
theorem wst1n {w : Int × Int} {x : Int} (h : (clsF x == 1) = true) (h' : (w.1 == 0) = false) : wst w x = w := by
  have e : clsF x = 1 := by simpa using h
  exact wst3 (by rw [h]; exact h') (by rw [e]; rfl)
theorem wst2' {w : Int × Int} {x : Int} (h : (clsF x == 1) = false) (h1 : (clsF x == 2) = true) (h' : (w.2 == 0) = true) : wst w x = (w.1, x) := wst2 (by rw [h]; rfl) (by rw [h1]; exact h')
theorem wst2n {w : Int × Int} {x : Int} (h : (clsF x == 1) = false) (h1 : (clsF x == 2) = true) (h' : (w.2 == 0) = false) : wst w x = w := wst3 (by rw [h]; rfl) (by rw [h1]; exact h')
theorem wst3' {w : Int × Int} {x : Int} (h : (clsF x == 1) = false) (h1 : (clsF x == 2) = false) : wst w x = w := wst3 (by rw [h]; rfl) (by rw [h1]; rfl)
theorem c_l22Wreath (a : Arm) : Con Try.prog 87 [.agg [.lit (.int .i64 (a).f.d), .lit (.int .i64 (a).f.l), .lit (.int .i64 (a).f.p), .lit (.int .i64 (a).f.q), .lit (.int .i64 (a).o), .lit (.int .i64 (a).l), .lit (.int .i64 (a).t), .lit (.int .i64 (a).n.c), .lit (.int .i64 (a).n.k), .lit (.int .i64 (a).n.a), .lit (.int .i64 (a).n.t), .lit (.int .i64 (a).r.c), .lit (.int .i64 (a).r.k), .lit (.int .i64 (a).r.a), .lit (.int .i64 (a).r.t)]] [] (.tup [.lit (.int .i64 (wreM (tinS a))), .lit (.int .i64 (wreC (tinS a)))]) [] := by
  have hlen := tinS_len a
  obtain ⟨⟨a0, a1, a2, a3⟩, a4, a5, a6, ⟨a7, a8, a9, a10⟩, ⟨a11, a12, a13, a14⟩⟩ := a
  have hB : Base Try.prog (tabΓ [e_tinS, e_l2Class]) tab := base_of tabOk (ents_cons eok_tinS <| ents_cons eok_l2Class <| ents_nil)
  refine con_ok (N := 43) hB (draw_ok hB mixed) Try.func87 rfl rfl _ _ 0 _ _ 100 (by simp) (by intro x hx; simp only [List.mem_cons, List.not_mem_nil, or_false] at hx; subst hx; exact blq_ok 4 rfl) (by simp [lk]) (blq_ok 4 rfl) (by simp) ?_
  intro X hX H hH
  conv in finish _ _ _ _ _ _ _ _ => cbv
  subst hH
  simp only [Fin.sat_ret, Fin.sat_br, Fin.sat_need, AllP, stdH, and_true, true_and, ncast, Int.ofNat_eq_natCast]
  generalize tinS _ = l at *
  refine loop_sat hB (draw_ok hB mixed) hX (ι := { i : Nat // i ≤ l.length }) 100 (fun H i => ⟨[(4, .lit (.int .i64 (H Int fun _ => (wfl l i.1).1))), (5, .lit (.int .i64 (H Int fun _ => (wfl l i.1).2))), (6, .vec 1 (H Nat fun _ => l.length) (vrow (H (Nat → Int) fun _ => lget l))), (7, .lit (.int .i64 (H Int fun _ => i.1)))], [], X.n0⟩) (fun i => l.length - i.1) ⟨0, Nat.zero_le _⟩ ?_ ?_
  · refine .of fun p hp => ?_
    simp only [List.mem_cons, List.not_mem_nil, or_false] at hp
    rcases hp with rfl | rfl | rfl | rfl
    · exact ⟨rfl, .lit⟩
    · exact ⟨rfl, .lit⟩
    · exact ⟨rfl, vrow_bl _ _ _ _⟩
    · exact ⟨rfl, .lit⟩
  · rintro ⟨i, hi⟩ H hH
    conv in finish _ _ _ _ _ _ _ _ => cbv
    subst hH
    simp only [Fin.sat_ret, Fin.sat_br, Fin.sat_need, Fin.sat_again, AllP, stdH, and_true, true_and, decide_eq_true_eq, decide_eq_false_iff_not, Int.ofNat_eq_natCast, ncast]
    have e1 : ((i : Int)).toNat = i := rfl
    have fin5 : ∀ (m c : Int) (s : Env) (hp : Heap) (nx : Nat), wfl l (i + 1) = (m, c) → i < l.length → lk 4 s = some (.lit (.int .i64 m)) → lk 5 s = some (.lit (.int .i64 c)) → lk 6 s = some (.vec 1 l.length (vrow (lget l))) → lk 7 s = some (.lit (.int .i64 (IntKind.i64.wrap ((i : Int) + 1)))) →
        ∃ j : { i : Nat // i ≤ l.length }, l.length - j.val < l.length - i ∧ StLe X.n0 ⟨[(4, .lit (.int .i64 (wfl l j.val).1)), (5, .lit (.int .i64 (wfl l j.val).2)), (6, .vec 1 l.length (vrow (lget l))), (7, .lit (.int .i64 (j.val : Int)))], [], X.n0⟩ ⟨s, hp, nx⟩ := by
      intro m c s hp nx hw hlt k1 k2 k3 k5
      have e2 : IntKind.i64.wrap ((i : Int) + 1) = ((i + 1 : Nat) : Int) := by rw [wi] <;> omega
      refine ⟨⟨i + 1, by omega⟩, by simp only; omega, .of fun p hp => ?_⟩
      simp only [List.mem_cons, List.not_mem_nil, or_false, hw] at hp
      rcases hp with rfl | rfl | rfl | rfl
      · exact ⟨k1, .lit⟩
      · exact ⟨k2, .lit⟩
      · exact ⟨k3, vrow_bl _ _ _ _⟩
      · exact ⟨by rw [← e2]; exact k5, .lit⟩
    simp only [e1]
    refine ⟨fun hlt => ?_, fun hge => ?_⟩
    · have hi' : i < l.length := by omega
      have hs := wfl_succ l hi'
      simp only [upd, List.length_nil, Nat.zero_add, if_true]
      have hb : (0 : Int) ≤ i ∧ (i : Int) < (l.length : Nat) := by omega
      refine ⟨hb, fun h => ⟨fun h' => ⟨hb, ?_⟩, fun h' => ?_⟩, fun h => ⟨fun h1 => ⟨fun h' => ⟨hb, ?_⟩, fun h' => ?_⟩, fun h1 => ?_⟩⟩
      · exact fin5 _ _ _ _ _ (by rw [hs, wst1' h h']) hi' rfl rfl rfl rfl
      · exact fin5 _ _ _ _ _ (by rw [hs, wst1n h h']) hi' rfl rfl rfl rfl
      · exact fin5 _ _ _ _ _ (by rw [hs, wst2' h h1 h']) hi' rfl rfl rfl rfl
      · exact fin5 _ _ _ _ _ (by rw [hs, wst2n h h1 h']) hi' rfl rfl rfl rfl
      · exact fin5 _ _ _ _ _ (by rw [hs, wst3' h h1]) hi' rfl rfl rfl rfl
    · have hii : i = l.length := by omega
      subst hii
      have hw := wfl_all l
      unfold wreM wreC
      rw [← hw]
      refine ⟨fun h => ⟨fun h' => ?_, fun h' => ?_⟩, fun h => ⟨fun h' => ?_, fun h' => ?_⟩⟩ <;> simp only [beq_iff_eq, beq_eq_false_iff_ne, ne_eq] at h h' <;> simp only [h, h', if_true, if_false] <;> exact leafE rfl
noncomputable def e_l22Wreath : Entry := pureE 87 fun H a => match a with
  | [.agg [.lit (.int .i64 a0), .lit (.int .i64 a1), .lit (.int .i64 a2), .lit (.int .i64 a3), .lit (.int .i64 a4), .lit (.int .i64 a5), .lit (.int .i64 a6), .lit (.int .i64 a7), .lit (.int .i64 a8), .lit (.int .i64 a9), .lit (.int .i64 a10), .lit (.int .i64 a11), .lit (.int .i64 a12), .lit (.int .i64 a13), .lit (.int .i64 a14)]] => some (.tup [.lit (.int .i64 (H Int fun _ => (wreM (tinS (⟨⟨a0, a1, a2, a3⟩, a4, a5, a6, ⟨a7, a8, a9, a10⟩, ⟨a11, a12, a13, a14⟩⟩ : Arm))))), .lit (.int .i64 (H Int fun _ => (wreC (tinS (⟨⟨a0, a1, a2, a3⟩, a4, a5, a6, ⟨a7, a8, a9, a10⟩, ⟨a11, a12, a13, a14⟩⟩ : Arm)))))], [])
  | _ => none
theorem eok_l22Wreath : EntryOk Try.prog e_l22Wreath := pureE_ok (by unfold isBody; kernel_rfl) (by
  intro a r ob e hob
  split at e
  · rename_i a0 a1 a2 a3 a4 a5 a6 a7 a8 a9 a10 a11 a12 a13 a14
    simp only [Option.some.injEq, Prod.mk.injEq] at e
    obtain ⟨rfl, rfl⟩ := e
    exact c_l22Wreath (⟨⟨a0, a1, a2, a3⟩, a4, a5, a6, ⟨a7, a8, a9, a10⟩, ⟨a11, a12, a13, a14⟩⟩ : Arm)
  · simp at e)
theorem c_WreathOf (a : Arm)  : Con Try.prog 41 [.agg [.lit (.int .i64 (a).f.d), .lit (.int .i64 (a).f.l), .lit (.int .i64 (a).f.p), .lit (.int .i64 (a).f.q), .lit (.int .i64 (a).o), .lit (.int .i64 (a).l), .lit (.int .i64 (a).t), .lit (.int .i64 (a).n.c), .lit (.int .i64 (a).n.k), .lit (.int .i64 (a).n.a), .lit (.int .i64 (a).n.t), .lit (.int .i64 (a).r.c), .lit (.int .i64 (a).r.k), .lit (.int .i64 (a).r.a), .lit (.int .i64 (a).r.t)]] [] (.tup [.lit (.int .i64 (if okA a then wreM (tinA a) else 0)), .lit (.int .i64 (if okA a then wreC (tinA a) else 0)), .lit (.bool (okA a))]) [] := by
  obtain ⟨⟨a0, a1, a2, a3⟩, a4, a5, a6, ⟨a7, a8, a9, a10⟩, ⟨a11, a12, a13, a14⟩⟩ := a
  have hB : Base Try.prog (tabΓ [e_IsValidArms, e_wreath]) tab := base_of tabOk (ents_cons eok_IsValidArms <| ents_cons eok_wreath <| ents_nil)
  refine con_eq (N := 17) hB (draw_ok hB mixed) Try.func41 rfl rfl _ _ 60 (by simp) (by intro x hx; simp only [List.mem_cons, List.not_mem_nil, or_false] at hx; rcases hx with rfl <;> (first | (first | exact .lit | exact blq_ok 4 rfl) | exact .vec (fun j hj x hx => by simp [vrow] at hx; subst hx; exact .lit))) (by (first | exact .lit | exact blq_ok 4 rfl)) ?_
  intro H hH
  conv in finish _ _ _ _ _ _ _ _ => cbv
  subst hH
  simp only [Fin.sat0, Fin.sat1, stdH, Option.some.injEq, AV.lit.injEq, AV.agg.injEq, AV.tup.injEq, List.cons.injEq, Value.bool.injEq, Value.int.injEq, AllP, and_true, true_and, eq_self, decide_eq_true_eq, decide_eq_false_iff_not, Bool.not_eq_true', Bool.not_eq_false', peta, ncast]
  generalize okA _ = b
  cases b <;> simp
noncomputable def e_WreathOf : Entry := pureE 41 fun H a => match a with
  | [.agg [.lit (.int .i64 a0), .lit (.int .i64 a1), .lit (.int .i64 a2), .lit (.int .i64 a3), .lit (.int .i64 a4), .lit (.int .i64 a5), .lit (.int .i64 a6), .lit (.int .i64 a7), .lit (.int .i64 a8), .lit (.int .i64 a9), .lit (.int .i64 a10), .lit (.int .i64 a11), .lit (.int .i64 a12), .lit (.int .i64 a13), .lit (.int .i64 a14)]] => some (.tup [.lit (.int .i64 (H Int fun _ => (if okA (⟨⟨a0, a1, a2, a3⟩, a4, a5, a6, ⟨a7, a8, a9, a10⟩, ⟨a11, a12, a13, a14⟩⟩ : Arm) then wreM (tinA (⟨⟨a0, a1, a2, a3⟩, a4, a5, a6, ⟨a7, a8, a9, a10⟩, ⟨a11, a12, a13, a14⟩⟩ : Arm)) else 0))), .lit (.int .i64 (H Int fun _ => (if okA (⟨⟨a0, a1, a2, a3⟩, a4, a5, a6, ⟨a7, a8, a9, a10⟩, ⟨a11, a12, a13, a14⟩⟩ : Arm) then wreC (tinA (⟨⟨a0, a1, a2, a3⟩, a4, a5, a6, ⟨a7, a8, a9, a10⟩, ⟨a11, a12, a13, a14⟩⟩ : Arm)) else 0))), .lit (.bool (H Bool fun _ => (okA (⟨⟨a0, a1, a2, a3⟩, a4, a5, a6, ⟨a7, a8, a9, a10⟩, ⟨a11, a12, a13, a14⟩⟩ : Arm))))], [])
  | _ => none
theorem eok_WreathOf : EntryOk Try.prog e_WreathOf := pureE_ok (by unfold isBody; kernel_rfl) (by
  intro a r ob e hob
  split at e
  · rename_i a0 a1 a2 a3 a4 a5 a6 a7 a8 a9 a10 a11 a12 a13 a14
    simp only [Option.some.injEq, Prod.mk.injEq] at e
    obtain ⟨rfl, rfl⟩ := e
    exact c_WreathOf (⟨⟨a0, a1, a2, a3⟩, a4, a5, a6, ⟨a7, a8, a9, a10⟩, ⟨a11, a12, a13, a14⟩⟩ : Arm)
  · simp at e)
theorem c_WreathOfS (a : Arm)  : Con Try.prog 42 [.agg [.lit (.int .i64 (a).f.d), .lit (.int .i64 (a).f.l), .lit (.int .i64 (a).f.p), .lit (.int .i64 (a).f.q), .lit (.int .i64 (a).o), .lit (.int .i64 (a).l), .lit (.int .i64 (a).t), .lit (.int .i64 (a).n.c), .lit (.int .i64 (a).n.k), .lit (.int .i64 (a).n.a), .lit (.int .i64 (a).n.t), .lit (.int .i64 (a).r.c), .lit (.int .i64 (a).r.k), .lit (.int .i64 (a).r.a), .lit (.int .i64 (a).r.t)]] [] (.tup [.lit (.int .i64 (if okA a then wreM (tinA a) else 0)), .lit (.int .i64 (if okA a then wreC (tinA a) else 0)), .lit (.bool (okA a))]) [] := by
  obtain ⟨⟨a0, a1, a2, a3⟩, a4, a5, a6, ⟨a7, a8, a9, a10⟩, ⟨a11, a12, a13, a14⟩⟩ := a
  have hB : Base Try.prog (tabΓ [e_l5Good, e_l22Wreath]) tab := base_of tabOk (ents_cons eok_l5Good <| ents_cons eok_l22Wreath <| ents_nil)
  refine con_eq (N := 17) hB (draw_ok hB mixed) Try.func42 rfl rfl _ _ 60 (by simp) (by intro x hx; simp only [List.mem_cons, List.not_mem_nil, or_false] at hx; rcases hx with rfl <;> (first | (first | exact .lit | exact blq_ok 4 rfl) | exact .vec (fun j hj x hx => by simp [vrow] at hx; subst hx; exact .lit))) (by (first | exact .lit | exact blq_ok 4 rfl)) ?_
  intro H hH
  conv in finish _ _ _ _ _ _ _ _ => cbv
  subst hH
  simp only [Fin.sat0, Fin.sat1, stdH, Option.some.injEq, AV.lit.injEq, AV.agg.injEq, AV.tup.injEq, List.cons.injEq, Value.bool.injEq, Value.int.injEq, AllP, and_true, true_and, eq_self, decide_eq_true_eq, decide_eq_false_iff_not, Bool.not_eq_true', Bool.not_eq_false', peta, ncast]
  cases h : okA ⟨⟨a0, a1, a2, a3⟩, a4, a5, a6, ⟨a7, a8, a9, a10⟩, ⟨a11, a12, a13, a14⟩⟩
  · simp
  · rw [tinS_eq h]; simp
noncomputable def e_WreathOfS : Entry := pureE 42 fun H a => match a with
  | [.agg [.lit (.int .i64 a0), .lit (.int .i64 a1), .lit (.int .i64 a2), .lit (.int .i64 a3), .lit (.int .i64 a4), .lit (.int .i64 a5), .lit (.int .i64 a6), .lit (.int .i64 a7), .lit (.int .i64 a8), .lit (.int .i64 a9), .lit (.int .i64 a10), .lit (.int .i64 a11), .lit (.int .i64 a12), .lit (.int .i64 a13), .lit (.int .i64 a14)]] => some (.tup [.lit (.int .i64 (H Int fun _ => (if okA (⟨⟨a0, a1, a2, a3⟩, a4, a5, a6, ⟨a7, a8, a9, a10⟩, ⟨a11, a12, a13, a14⟩⟩ : Arm) then wreM (tinA (⟨⟨a0, a1, a2, a3⟩, a4, a5, a6, ⟨a7, a8, a9, a10⟩, ⟨a11, a12, a13, a14⟩⟩ : Arm)) else 0))), .lit (.int .i64 (H Int fun _ => (if okA (⟨⟨a0, a1, a2, a3⟩, a4, a5, a6, ⟨a7, a8, a9, a10⟩, ⟨a11, a12, a13, a14⟩⟩ : Arm) then wreC (tinA (⟨⟨a0, a1, a2, a3⟩, a4, a5, a6, ⟨a7, a8, a9, a10⟩, ⟨a11, a12, a13, a14⟩⟩ : Arm)) else 0))), .lit (.bool (H Bool fun _ => (okA (⟨⟨a0, a1, a2, a3⟩, a4, a5, a6, ⟨a7, a8, a9, a10⟩, ⟨a11, a12, a13, a14⟩⟩ : Arm))))], [])
  | _ => none
theorem eok_WreathOfS : EntryOk Try.prog e_WreathOfS := pureE_ok (by unfold isBody; kernel_rfl) (by
  intro a r ob e hob
  split at e
  · rename_i a0 a1 a2 a3 a4 a5 a6 a7 a8 a9 a10 a11 a12 a13 a14
    simp only [Option.some.injEq, Prod.mk.injEq] at e
    obtain ⟨rfl, rfl⟩ := e
    exact c_WreathOfS (⟨⟨a0, a1, a2, a3⟩, a4, a5, a6, ⟨a7, a8, a9, a10⟩, ⟨a11, a12, a13, a14⟩⟩ : Arm)
  · simp at e)

end Go.Proofs.Ythacffbofjfcjaa.AM
