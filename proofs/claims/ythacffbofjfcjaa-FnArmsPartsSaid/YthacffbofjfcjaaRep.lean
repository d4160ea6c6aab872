import Derived.Test.YthacffbofjfcjaaArm
set_option linter.unusedVariables false
set_option linter.unusedSimpArgs false
set_option maxRecDepth 100000
set_option maxHeartbeats 4000000
set_option cbv.maxSteps 3000000
namespace Go.Proofs.Ythacffbofjfcjaa.AM
/- Tinctures replaced; conditions: none. -/
def layA (a : Arm) : Int := 1 + (if a.o = 0 then 0 else 1) + (if noG a.n then 0 else 1) + (if noG a.r then 0 else 1)
theorem c_layers (a : Arm)  : Con Try.prog 75 [.agg [.lit (.int .i64 (a).f.d), .lit (.int .i64 (a).f.l), .lit (.int .i64 (a).f.p), .lit (.int .i64 (a).f.q), .lit (.int .i64 (a).o), .lit (.int .i64 (a).l), .lit (.int .i64 (a).t), .lit (.int .i64 (a).n.c), .lit (.int .i64 (a).n.k), .lit (.int .i64 (a).n.a), .lit (.int .i64 (a).n.t), .lit (.int .i64 (a).r.c), .lit (.int .i64 (a).r.k), .lit (.int .i64 (a).r.a), .lit (.int .i64 (a).r.t)]] [] (.lit (.int .i64 (layA a))) [] := by
  obtain ⟨⟨a0, a1, a2, a3⟩, a4, a5, a6, ⟨a7, a8, a9, a10⟩, ⟨a11, a12, a13, a14⟩⟩ := a
  have hB : Base Try.prog (tabΓ [e_number]) tab := base_of tabOk (ents_cons eok_number <| ents_nil)
  refine con_eq (N := 20) hB (draw_ok hB mixed) Try.func75 rfl rfl _ _ 90 (by simp) (by intro x hx; simp only [List.mem_cons, List.not_mem_nil, or_false] at hx; rcases hx with rfl <;> (first | (first | exact .lit | exact blq_ok 4 rfl) | exact .vec (fun j hj x hx => by simp [vrow] at hx; subst hx; exact .lit))) (by (first | exact .lit | exact blq_ok 4 rfl)) ?_
  intro H hH
  conv in finish _ _ _ _ _ _ _ _ => cbv
  subst hH
  simp only [Fin.sat0, Fin.sat1, stdH, Option.some.injEq, AV.lit.injEq, AV.agg.injEq, AV.tup.injEq, List.cons.injEq, Value.bool.injEq, Value.int.injEq, AllP, and_true, true_and, eq_self, decide_eq_true_eq, decide_eq_false_iff_not, Bool.not_eq_true', Bool.not_eq_false', peta, ncast]
  simp only [allG, layA, bned]
  generalize noG ⟨a7, a8, a9, a10⟩ = b1
  generalize noG ⟨a11, a12, a13, a14⟩ = b2
  by_cases h : a4 = 0 <;> cases b1 <;> cases b2 <;> simp [h] <;> decide
noncomputable def e_layers : Entry := pureE 75 fun H a => match a with
  | [.agg [.lit (.int .i64 a0), .lit (.int .i64 a1), .lit (.int .i64 a2), .lit (.int .i64 a3), .lit (.int .i64 a4), .lit (.int .i64 a5), .lit (.int .i64 a6), .lit (.int .i64 a7), .lit (.int .i64 a8), .lit (.int .i64 a9), .lit (.int .i64 a10), .lit (.int .i64 a11), .lit (.int .i64 a12), .lit (.int .i64 a13), .lit (.int .i64 a14)]] => some (.lit (.int .i64 (H Int fun _ => (layA (⟨⟨a0, a1, a2, a3⟩, a4, a5, a6, ⟨a7, a8, a9, a10⟩, ⟨a11, a12, a13, a14⟩⟩ : Arm)))), [])
  | _ => none
theorem eok_layers : EntryOk Try.prog e_layers := pureE_ok (by unfold isBody; kernel_rfl) (by
  intro a r ob e hob
  split at e
  · rename_i a0 a1 a2 a3 a4 a5 a6 a7 a8 a9 a10 a11 a12 a13 a14
    simp only [Option.some.injEq, Prod.mk.injEq] at e
    obtain ⟨rfl, rfl⟩ := e
    exact c_layers (⟨⟨a0, a1, a2, a3⟩, a4, a5, a6, ⟨a7, a8, a9, a10⟩, ⟨a11, a12, a13, a14⟩⟩ : Arm)
  · simp at e)
theorem c_LayerCount (a : Arm)  : Con Try.prog 20 [.agg [.lit (.int .i64 (a).f.d), .lit (.int .i64 (a).f.l), .lit (.int .i64 (a).f.p), .lit (.int .i64 (a).f.q), .lit (.int .i64 (a).o), .lit (.int .i64 (a).l), .lit (.int .i64 (a).t), .lit (.int .i64 (a).n.c), .lit (.int .i64 (a).n.k), .lit (.int .i64 (a).n.a), .lit (.int .i64 (a).n.t), .lit (.int .i64 (a).r.c), .lit (.int .i64 (a).r.k), .lit (.int .i64 (a).r.a), .lit (.int .i64 (a).r.t)]] [] (.tup [.lit (.int .i64 (if okA a then layA a else 0)), .lit (.bool (okA a))]) [] := by
  obtain ⟨⟨a0, a1, a2, a3⟩, a4, a5, a6, ⟨a7, a8, a9, a10⟩, ⟨a11, a12, a13, a14⟩⟩ := a
  have hB : Base Try.prog (tabΓ [e_IsValidArms, e_layers]) tab := base_of tabOk (ents_cons eok_IsValidArms <| ents_cons eok_layers <| ents_nil)
  refine con_eq (N := 9) hB (draw_ok hB mixed) Try.func20 rfl rfl _ _ 90 (by simp) (by intro x hx; simp only [List.mem_cons, List.not_mem_nil, or_false] at hx; rcases hx with rfl <;> (first | (first | exact .lit | exact blq_ok 4 rfl) | exact .vec (fun j hj x hx => by simp [vrow] at hx; subst hx; exact .lit))) (by (first | exact .lit | exact blq_ok 4 rfl)) ?_
  intro H hH
  conv in finish _ _ _ _ _ _ _ _ => cbv
  subst hH
  simp only [Fin.sat0, Fin.sat1, stdH, Option.some.injEq, AV.lit.injEq, AV.agg.injEq, AV.tup.injEq, List.cons.injEq, Value.bool.injEq, Value.int.injEq, AllP, and_true, true_and, eq_self, decide_eq_true_eq, decide_eq_false_iff_not, Bool.not_eq_true', Bool.not_eq_false', peta, ncast]
  generalize okA _ = b
  cases b <;> simp
noncomputable def e_LayerCount : Entry := pureE 20 fun H a => match a with
  | [.agg [.lit (.int .i64 a0), .lit (.int .i64 a1), .lit (.int .i64 a2), .lit (.int .i64 a3), .lit (.int .i64 a4), .lit (.int .i64 a5), .lit (.int .i64 a6), .lit (.int .i64 a7), .lit (.int .i64 a8), .lit (.int .i64 a9), .lit (.int .i64 a10), .lit (.int .i64 a11), .lit (.int .i64 a12), .lit (.int .i64 a13), .lit (.int .i64 a14)]] => some (.tup [.lit (.int .i64 (H Int fun _ => (if okA (⟨⟨a0, a1, a2, a3⟩, a4, a5, a6, ⟨a7, a8, a9, a10⟩, ⟨a11, a12, a13, a14⟩⟩ : Arm) then layA (⟨⟨a0, a1, a2, a3⟩, a4, a5, a6, ⟨a7, a8, a9, a10⟩, ⟨a11, a12, a13, a14⟩⟩ : Arm) else 0))), .lit (.bool (H Bool fun _ => (okA (⟨⟨a0, a1, a2, a3⟩, a4, a5, a6, ⟨a7, a8, a9, a10⟩, ⟨a11, a12, a13, a14⟩⟩ : Arm))))], [])
  | _ => none
theorem eok_LayerCount : EntryOk Try.prog e_LayerCount := pureE_ok (by unfold isBody; kernel_rfl) (by
  intro a r ob e hob
  split at e
  · rename_i a0 a1 a2 a3 a4 a5 a6 a7 a8 a9 a10 a11 a12 a13 a14
    simp only [Option.some.injEq, Prod.mk.injEq] at e
    obtain ⟨rfl, rfl⟩ := e
    exact c_LayerCount (⟨⟨a0, a1, a2, a3⟩, a4, a5, a6, ⟨a7, a8, a9, a10⟩, ⟨a11, a12, a13, a14⟩⟩ : Arm)
  · simp at e)
def chg (o x y : Int) : Int := if y = o then x else y
def mapF (g : Int → Int) (a : Arm) : Arm :=
  let tr := fun y => if y = 0 then 0 else g y
  ⟨⟨a.f.d, a.f.l, tr a.f.p, tr a.f.q⟩, a.o, a.l, tr a.t, ⟨a.n.c, a.n.k, a.n.a, tr a.n.t⟩, ⟨a.r.c, a.r.k, a.r.a, tr a.r.t⟩⟩
theorem c_l5Turn (y : Int) (o : Int) (x : Int)  : Con Try.prog 102 [.lit (.int .i64 y), .lit (.int .i64 o), .lit (.int .i64 x)] [] (.lit (.int .i64 (chg o x y))) [] := by
  have hB : Base Try.prog (tabΓ []) tab := base_of tabOk (ents_nil)
  refine con_eq (N := 12) hB (draw_ok hB mixed) Try.func102 rfl rfl _ _ 60 (by simp) (by intro x hx; simp only [List.mem_cons, List.not_mem_nil, or_false] at hx; rcases hx with rfl | rfl | rfl <;> (first | (first | exact .lit | exact blq_ok 4 rfl) | exact .vec (fun j hj x hx => by simp [vrow] at hx; subst hx; exact .lit))) (by (first | exact .lit | exact blq_ok 4 rfl)) ?_
  intro H hH
  conv in finish _ _ _ _ _ _ _ _ => cbv
  subst hH
  simp only [Fin.sat0, Fin.sat1, stdH, Option.some.injEq, AV.lit.injEq, AV.agg.injEq, AV.tup.injEq, List.cons.injEq, Value.bool.injEq, Value.int.injEq, AllP, and_true, true_and, eq_self, decide_eq_true_eq, decide_eq_false_iff_not, Bool.not_eq_true', Bool.not_eq_false', peta, ncast]
  unfold chg
  by_cases h : y = o <;> simp [h]
noncomputable def e_l5Turn : Entry := pureE 102 fun H a => match a with
  | [.lit (.int .i64 y), .lit (.int .i64 o), .lit (.int .i64 x)] => some (.lit (.int .i64 (H Int fun _ => (chg o x y))), [])
  | _ => none
theorem eok_l5Turn : EntryOk Try.prog e_l5Turn := pureE_ok (by unfold isBody; kernel_rfl) (by
  intro a r ob e hob
  split at e
  · simp only [Option.some.injEq, Prod.mk.injEq] at e
    obtain ⟨rfl, rfl⟩ := e
    exact c_l5Turn _ _ _
  · simp at e)
def cellI (x : Int) : Blk := .cells [.lit (.int .i64 x)] 3
theorem cellI_bl (x : Int) : BlB 0 (cellI x) := by
  intro p y hy
  match p, hy with
  | 0, hy => simp [cellI, Blk.at] at hy; subst hy; exact .lit
  | p + 1, hy => simp [cellI, Blk.at] at hy
theorem c_repl (y o x : Int) : Con Try.prog 66 [.lit (.int .i64 y), .ptr 0 0, .ptr 1 0] [(0, cellI o), (1, cellI x)] (.lit (.int .i64 (chg o x y))) [(0, cellI o), (1, cellI x)] := by
  have hB : Base Try.prog (tabΓ []) tab := base_of tabOk (ents_nil)
  refine con_ok (N := 10) hB (draw_ok hB mixed) Try.func66 rfl rfl _ _ 2 _ _ 60 (by simp) (by intro x hx; simp only [List.mem_cons, List.not_mem_nil, or_false] at hx; rcases hx with rfl | rfl | rfl; exact .lit; exact .ptr (by omega); exact .ptr (by omega)) ?_ .lit ?_ ?_
  · intro i b hb
    have := lk_in hb
    simp at this
    rcases this with ⟨rfl, rfl⟩ | ⟨rfl, rfl⟩
    · exact ⟨by omega, fun p x hx => (cellI_bl _ p x hx).mono (by omega), cellI o, by simp⟩
    · exact ⟨by omega, fun p x hx => (cellI_bl _ p x hx).mono (by omega), cellI x, by simp⟩
  · intro i b hb
    simp at hb
    rcases hb with ⟨rfl, rfl⟩ | ⟨rfl, rfl⟩
    · exact ⟨⟨cellI_bl _, rfl⟩, cellI o, rfl⟩
    · exact ⟨⟨cellI_bl _, rfl⟩, cellI x, rfl⟩
  · intro X hX H hH
    conv in finish _ _ _ _ _ _ _ _ => cbv
    subst hH
    simp only [Fin.sat_br, Fin.sat_ret, stdH, beqd]
    have u2 : ∀ i b, (i, b) ∈ [(0, cellI o), (1, cellI x)] → lk i [(0, cellI o), (1, cellI x)] = some b := by
      intro i b hb
      simp at hb
      rcases hb with ⟨rfl, rfl⟩ | ⟨rfl, rfl⟩ <;> rfl
    refine ⟨fun h => ⟨_, rfl, ?_, u2⟩, fun h => ⟨_, rfl, ?_, u2⟩⟩
    · unfold chg; rw [if_pos (by simpa using h)]; exact .refl
    · unfold chg; rw [if_neg (by simpa using h)]; exact .refl
/-- What lies in a cell of a number. -/
def unI : Option Blk → Option (Int × Nat)
  | some (.cells [.lit (.int .i64 x)] T) => some (x, T)
  | _ => none
theorem unI_eq {b : Option Blk} {x : Int} {T : Nat} (h : unI b = some (x, T)) : b = some (.cells [.lit (.int .i64 x)] T) := by
  unfold unI at h
  split at h
  · simp at h; obtain ⟨rfl, rfl⟩ := h; rfl
  · cases h
/-- The two numbers that a function has captured. -/
def capt (h : Heap) (i j : Nat) (r : Int → Int → AV × List Prop) : Option (AV × List Nat × Heap × List Prop) := match unI (lk i h), unI (lk j h) with
  | some (o, T), some (x, T') => bif Nat.beq i j then none else bif Nat.beq T 3 && Nat.beq T' 3 then some ((r o x).1, [i, j], [(i, .cells [.lit (.int .i64 o)] 3), (j, .cells [.lit (.int .i64 x)] 3)], (r o x).2) else none
  | _, _ => none
theorem capt_ok {h : Heap} {i j : Nat} {rr : Int → Int → AV × List Prop} {r : AV} {rd : List Nat} {u : Heap} {ob : List Prop} (e : capt h i j rr = some (r, rd, u, ob)) {f : FuncId} {args args0 : List AV} (hob : AllP ob) (hl : args0.length = args.length)
    (ha : ∀ (c : Nat) (x y : AV), args0[c]? = some x → args[c]? = some y → Rn (pi2 i j) 2 x y) (hr : ∀ o x, Bl 0 (rr o x).1) (hc : ∀ o x, AllP (rr o x).2 → Con Try.prog f args0 [(0, cellI o), (1, cellI x)] (rr o x).1 [(0, cellI o), (1, cellI x)]) :
    (∀ k c, (k, c) ∈ u → k ∈ rd ∧ ∃ c', lk k h = some c' ∧ c'.dead = false) ∧ ∃ h0 : Heap, (∀ k c, lk k h0 = some c → k ∈ rd ∧ lk k h = some c) ∧ Con Try.prog f args h0 r u := by
  unfold capt at e
  cases h1 : unI (lk i h) with
  | none => rw [h1] at e; simp at e
  | some p =>
    cases h2 : unI (lk j h) with
    | none => rw [h1, h2] at e; simp at e
    | some q =>
      obtain ⟨o, T⟩ := p
      obtain ⟨x, T'⟩ := q
      rw [h1, h2] at e
      simp only at e
      cases h3 : Nat.beq i j with
      | true => rw [h3] at e; simp at e
      | false =>
        rw [h3] at e
        simp only [cond_false] at e
        cases h4 : (Nat.beq T 3 && Nat.beq T' 3) with
        | false => rw [h4] at e; simp at e
        | true =>
          rw [h4] at e
          simp only [cond_true, Option.some.injEq, Prod.mk.injEq] at e
          obtain ⟨rfl, rfl, rfl, rfl⟩ := e
          simp only [Bool.and_eq_true] at h4
          have t1 := Nat.eq_of_beq_eq_true h4.1
          have t2 := Nat.eq_of_beq_eq_true h4.2
          subst t1; subst t2
          exact two_ok (unI_eq h1) (unI_eq h2) (fun e => by subst e; rw [beq_iff.2 rfl] at h3; cases h3) (cellI_bl o) (cellI_bl x) rfl rfl (hr o x) hl ha (hc o x hob)
theorem pi2_zero (i j : Nat) : pi2 i j 0 = i := rfl
theorem pi2_one (i j : Nat) : pi2 i j 1 = j := rfl
def e_repl : Entry := ⟨66, fun H a h => match a with
  | [.lit (.int .i64 y), .ptr i 0, .ptr j 0] => capt h i j fun o x => (.lit (.int .i64 (H Int fun _ => chg o x y)), [])
  | _ => none⟩
theorem eok_repl : EntryOk Try.prog e_repl := ⟨by unfold isBody; kernel_rfl, fun a h r rd u ob e hob => by
  simp only [e_repl] at e
  split at e
  · rename_i y i j
    refine capt_ok (args0 := [.lit (.int .i64 y), .ptr 0 0, .ptr 1 0]) e hob rfl (fun c p q hp hq => ?_) (fun _ _ => .lit) (fun o x _ => c_repl y o x)
    match c, hp, hq with
    | 0, hp, hq => simp at hp hq; subst hp; subst hq; exact .same (q := 0) (by omega) (by omega) .lit
    | 1, hp, hq => simp at hp hq; subst hp; subst hq; exact .ptr (π := pi2 i j) (i := 0) (by omega)
    | 2, hp, hq => simp at hp hq; subst hp; subst hq; exact .ptr (π := pi2 i j) (i := 1) (by omega)
    | c + 3, hp, hq => simp at hp
  · cases e⟩
theorem capt_blk {o x : Int} : ∀ i b, lk i [(0, cellI o), (1, cellI x)] = some b → i < 2 ∧ BlB 2 b ∧ ∃ b', (i, b') ∈ [(0, cellI o), (1, cellI x)] := by
  intro i b hb
  have := lk_in hb
  simp at this
  rcases this with ⟨rfl, rfl⟩ | ⟨rfl, rfl⟩
  · exact ⟨by omega, fun p x hx => (cellI_bl _ p x hx).mono (by omega), cellI o, by simp⟩
  · exact ⟨by omega, fun p x hx => (cellI_bl _ p x hx).mono (by omega), cellI x, by simp⟩
theorem capt_u {o x : Int} : ∀ i b, (i, b) ∈ [(0, cellI o), (1, cellI x)] → (BlB 0 b ∧ b.dead = false) ∧ ∃ b', lk i [(0, cellI o), (1, cellI x)] = some b' := by
  intro i b hb
  simp at hb
  rcases hb with ⟨rfl, rfl⟩ | ⟨rfl, rfl⟩
  · exact ⟨⟨cellI_bl _, rfl⟩, cellI o, rfl⟩
  · exact ⟨⟨cellI_bl _, rfl⟩, cellI x, rfl⟩
theorem c_mapR (a : Arm) (o x : Int) : Con Try.prog 65 [.agg [.lit (.int .i64 (a).f.d), .lit (.int .i64 (a).f.l), .lit (.int .i64 (a).f.p), .lit (.int .i64 (a).f.q), .lit (.int .i64 (a).o), .lit (.int .i64 (a).l), .lit (.int .i64 (a).t), .lit (.int .i64 (a).n.c), .lit (.int .i64 (a).n.k), .lit (.int .i64 (a).n.a), .lit (.int .i64 (a).n.t), .lit (.int .i64 (a).r.c), .lit (.int .i64 (a).r.k), .lit (.int .i64 (a).r.a), .lit (.int .i64 (a).r.t)], .fn (.func 66) [] [.ptr 0 0, .ptr 1 0]] [(0, cellI o), (1, cellI x)] (.agg [.lit (.int .i64 (mapF (chg o x) a).f.d), .lit (.int .i64 (mapF (chg o x) a).f.l), .lit (.int .i64 (mapF (chg o x) a).f.p), .lit (.int .i64 (mapF (chg o x) a).f.q), .lit (.int .i64 (mapF (chg o x) a).o), .lit (.int .i64 (mapF (chg o x) a).l), .lit (.int .i64 (mapF (chg o x) a).t), .lit (.int .i64 (mapF (chg o x) a).n.c), .lit (.int .i64 (mapF (chg o x) a).n.k), .lit (.int .i64 (mapF (chg o x) a).n.a), .lit (.int .i64 (mapF (chg o x) a).n.t), .lit (.int .i64 (mapF (chg o x) a).r.c), .lit (.int .i64 (mapF (chg o x) a).r.k), .lit (.int .i64 (mapF (chg o x) a).r.a), .lit (.int .i64 (mapF (chg o x) a).r.t)]) [(0, cellI o), (1, cellI x)] := by
  obtain ⟨⟨a0, a1, a2, a3⟩, a4, a5, a6, ⟨a7, a8, a9, a10⟩, ⟨a11, a12, a13, a14⟩⟩ := a
  obtain ⟨tr, htr⟩ : ∃ tr : Int → Int, tr = fun y => if y = 0 then 0 else chg o x y := ⟨_, rfl⟩
  have P1 : ∀ y, (y != 0) = true → tr y = chg o x y := fun y h => by rw [htr]; exact if_neg (by simpa using h)
  have P2 : ∀ y, (y != 0) = false → tr y = y := fun y h => by rw [htr]; have : y = 0 := by simpa using h
                                                              simp [this]
  have main : Con Try.prog 65 [.agg [.lit (.int .i64 (⟨⟨a0, a1, a2, a3⟩, a4, a5, a6, ⟨a7, a8, a9, a10⟩, ⟨a11, a12, a13, a14⟩⟩ : Arm).f.d), .lit (.int .i64 (⟨⟨a0, a1, a2, a3⟩, a4, a5, a6, ⟨a7, a8, a9, a10⟩, ⟨a11, a12, a13, a14⟩⟩ : Arm).f.l), .lit (.int .i64 (⟨⟨a0, a1, a2, a3⟩, a4, a5, a6, ⟨a7, a8, a9, a10⟩, ⟨a11, a12, a13, a14⟩⟩ : Arm).f.p), .lit (.int .i64 (⟨⟨a0, a1, a2, a3⟩, a4, a5, a6, ⟨a7, a8, a9, a10⟩, ⟨a11, a12, a13, a14⟩⟩ : Arm).f.q), .lit (.int .i64 (⟨⟨a0, a1, a2, a3⟩, a4, a5, a6, ⟨a7, a8, a9, a10⟩, ⟨a11, a12, a13, a14⟩⟩ : Arm).o), .lit (.int .i64 (⟨⟨a0, a1, a2, a3⟩, a4, a5, a6, ⟨a7, a8, a9, a10⟩, ⟨a11, a12, a13, a14⟩⟩ : Arm).l), .lit (.int .i64 (⟨⟨a0, a1, a2, a3⟩, a4, a5, a6, ⟨a7, a8, a9, a10⟩, ⟨a11, a12, a13, a14⟩⟩ : Arm).t), .lit (.int .i64 (⟨⟨a0, a1, a2, a3⟩, a4, a5, a6, ⟨a7, a8, a9, a10⟩, ⟨a11, a12, a13, a14⟩⟩ : Arm).n.c), .lit (.int .i64 (⟨⟨a0, a1, a2, a3⟩, a4, a5, a6, ⟨a7, a8, a9, a10⟩, ⟨a11, a12, a13, a14⟩⟩ : Arm).n.k), .lit (.int .i64 (⟨⟨a0, a1, a2, a3⟩, a4, a5, a6, ⟨a7, a8, a9, a10⟩, ⟨a11, a12, a13, a14⟩⟩ : Arm).n.a), .lit (.int .i64 (⟨⟨a0, a1, a2, a3⟩, a4, a5, a6, ⟨a7, a8, a9, a10⟩, ⟨a11, a12, a13, a14⟩⟩ : Arm).n.t), .lit (.int .i64 (⟨⟨a0, a1, a2, a3⟩, a4, a5, a6, ⟨a7, a8, a9, a10⟩, ⟨a11, a12, a13, a14⟩⟩ : Arm).r.c), .lit (.int .i64 (⟨⟨a0, a1, a2, a3⟩, a4, a5, a6, ⟨a7, a8, a9, a10⟩, ⟨a11, a12, a13, a14⟩⟩ : Arm).r.k), .lit (.int .i64 (⟨⟨a0, a1, a2, a3⟩, a4, a5, a6, ⟨a7, a8, a9, a10⟩, ⟨a11, a12, a13, a14⟩⟩ : Arm).r.a), .lit (.int .i64 (⟨⟨a0, a1, a2, a3⟩, a4, a5, a6, ⟨a7, a8, a9, a10⟩, ⟨a11, a12, a13, a14⟩⟩ : Arm).r.t)], .fn (.func 66) [] [.ptr 0 0, .ptr 1 0]] [(0, cellI o), (1, cellI x)]
      (.agg [.lit (.int .i64 a0), .lit (.int .i64 a1), .lit (.int .i64 (tr a2)), .lit (.int .i64 (tr a3)), .lit (.int .i64 a4), .lit (.int .i64 a5), .lit (.int .i64 (tr a6)), .lit (.int .i64 a7), .lit (.int .i64 a8), .lit (.int .i64 a9), .lit (.int .i64 (tr a10)), .lit (.int .i64 a11), .lit (.int .i64 a12), .lit (.int .i64 a13), .lit (.int .i64 (tr a14))]) [(0, cellI o), (1, cellI x)] := by
    clear htr
    have hB : Base Try.prog (tabΓ [e_repl]) tabU := base_of tabOkU (ents_cons eok_repl <| ents_nil)
    refine con_eqH (N := 35) hB (draw_ok hB mixed) Try.func65 rfl rfl _ _ 2 _ _ 200 (by simp) (by intro x hx; simp only [List.mem_cons, List.not_mem_nil, or_false] at hx; rcases hx with rfl | rfl; exact blq_ok 4 rfl; exact .fn (by simp) (by intro x hx; simp at hx; rcases hx with rfl | rfl <;> exact .ptr (by omega))) capt_blk (blq_ok 4 rfl) capt_u ?_
    intro H hH
    conv in finish _ _ _ _ _ _ _ _ => cbv
    subst hH
    have u2 : ∀ (p q : Blk), ∀ i b, (i, b) ∈ [(0, cellI o), (1, cellI x)] → lk i [(3, p), (2, q), (0, cellI o), (1, cellI x)] = some b := by
      intro p q i b hb
      simp at hb
      rcases hb with ⟨rfl, rfl⟩ | ⟨rfl, rfl⟩ <;> rfl
    simp only [Fin.satH, stdH]
    repeat' (first | refine ⟨(⟨by omega, trivial⟩ : AllP [_]), ?_⟩ | (apply And.intro <;> intro h))
    all_goals exact ⟨by simp only [*], u2 _ _⟩
  subst htr
  exact main

end Go.Proofs.Ythacffbofjfcjaa.AM
