import Derived.Test.YtoommgpcmgnpaaaAmT
import Derived.Test.YtoommgpcmgnpaaaAlx
set_option linter.unusedVariables false
set_option linter.unusedSimpArgs false
set_option maxRecDepth 100000
set_option maxHeartbeats 4000000
set_option cbv.maxSteps 3000000
namespace Go.Proofs.Ytoommgpcmgnpaaa.AM
/- Arms repaired: plain; conditions: none. -/
def rTA (a : Arm) (x y z : Int) : Arm := ⟨a.f, a.o, a.l, x, ⟨a.n.c, a.n.k, a.n.a, y⟩, ⟨a.r.c, a.r.k, a.r.a, z⟩⟩
def chg (a : Arm) (x y z : Int) : Int := (if x = a.t then 0 else 1) + (if y = a.n.t then 0 else 1) + (if z = a.r.t then 0 else 1)
abbrev RpS := Option (Arm × Int)
def rpT (a : Arm) (st : RpS) (x y z : Int) : Bool := decide (chg a x y z < (match st with | none => 4 | some p => p.2)) && (fnds (rTA a x y z)).isEmpty
def rpStep (a : Arm) (x y : Int) (st : RpS) (z : Int) : RpS := if rpT a st x y z = true then some (rTA a x y z, chg a x y z) else st
def chI (x : Int) : List Int := if x = 0 then [0] else tcs 9
def rpZ (a : Arm) (x y : Int) (st : RpS) (m : Nat) : RpS := ((chI a.r.t).take m).foldl (rpStep a x y) st
def rpY (a : Arm) (x : Int) (st : RpS) (k : Nat) : RpS := ((chI a.n.t).take k).foldl (fun st y => (chI a.r.t).foldl (rpStep a x y) st) st
def rpX (a : Arm) (i : Nat) : RpS := ((chI a.t).take i).foldl (fun st x => (chI a.n.t).foldl (fun st y => (chI a.r.t).foldl (rpStep a x y) st) st) none
def rp (a : Arm) : RpS := rpX a (chI a.t).length
theorem chg_in (a : Arm) (x y z : Int) : 0 ≤ chg a x y z ∧ chg a x y z ≤ 3 := by
  unfold chg
  repeat' split
  all_goals omega
/-- What is picked is one of the choices, the best. -/
def RpOk (a : Arm) (st : RpS) : Prop := ∀ p, st = some p → ∃ x y z, x ∈ chI a.t ∧ y ∈ chI a.n.t ∧ z ∈ chI a.r.t ∧ p = (rTA a x y z, chg a x y z) ∧ fnds (rTA a x y z) = []
def RpLe (st st' : RpS) : Prop := ∀ p, st = some p → ∃ q, st' = some q ∧ q.2 ≤ p.2
def RpHit (a : Arm) (x y z : Int) (st : RpS) : Prop := fnds (rTA a x y z) = [] → ∃ q, st = some q ∧ q.2 ≤ chg a x y z
theorem RpLe.refl (st : RpS) : RpLe st st := fun p h => ⟨p, h, Int.le_refl _⟩
theorem RpLe.trans {a b c : RpS} (h : RpLe a b) (g : RpLe b c) : RpLe a c := fun p e => by
  obtain ⟨q, e1, h1⟩ := h p e
  obtain ⟨r, e2, h2⟩ := g q e1
  exact ⟨r, e2, Int.le_trans h2 h1⟩
theorem RpHit.le {a : Arm} {x y z : Int} {st st' : RpS} (h : RpHit a x y z st) (g : RpLe st st') : RpHit a x y z st' := fun e => by
  obtain ⟨q, e1, h1⟩ := h e
  obtain ⟨r, e2, h2⟩ := g q e1
  exact ⟨r, e2, Int.le_trans h2 h1⟩
theorem rpStep_ok {a : Arm} {x y z : Int} {st : RpS} (h : RpOk a st) (hx : x ∈ chI a.t) (hy : y ∈ chI a.n.t) (hz : z ∈ chI a.r.t) : RpOk a (rpStep a x y st z) ∧ RpLe st (rpStep a x y st z) ∧ RpHit a x y z (rpStep a x y st z) := by
  unfold rpStep
  split
  · rename_i ht
    unfold rpT at ht
    rw [Bool.and_eq_true, decide_eq_true_eq, List.isEmpty_iff] at ht
    refine ⟨fun p e => ?_, fun p e => ⟨_, rfl, ?_⟩, fun _ => ⟨_, rfl, Int.le_refl _⟩⟩
    · cases e
      exact ⟨x, y, z, hx, hy, hz, rfl, ht.2⟩
    · subst e
      exact Int.le_of_lt ht.1
  · rename_i ht
    refine ⟨h, RpLe.refl _, fun e => ?_⟩
    unfold rpT at ht
    rw [e] at ht
    simp only [List.isEmpty_nil, Bool.and_true, decide_eq_true_eq] at ht
    have hc := chg_in a x y z
    cases st with
    | none => simp only at ht; omega
    | some p => exact ⟨p, rfl, by simp only at ht; omega⟩
theorem fold_ok {a : Arm} {P : Int → RpS → Prop} {f : RpS → Int → RpS} (hle : ∀ x st st', P x st → RpLe st st' → P x st') : ∀ (l : List Int), (∀ x ∈ l, ∀ st, RpOk a st → RpOk a (f st x) ∧ RpLe st (f st x) ∧ P x (f st x)) → ∀ st, RpOk a st → RpOk a (l.foldl f st) ∧ RpLe st (l.foldl f st) ∧ ∀ x ∈ l, P x (l.foldl f st)
  | [], _, st, h => ⟨h, RpLe.refl _, fun x hx => by cases hx⟩
  | x :: l, hf, st, h => by
    obtain ⟨h1, h2, h3⟩ := hf x List.mem_cons_self st h
    obtain ⟨g1, g2, g3⟩ := fold_ok hle l (fun y hy => hf y (List.mem_cons_of_mem _ hy)) (f st x) h1
    rw [List.foldl_cons]
    refine ⟨g1, h2.trans g2, fun y hy => ?_⟩
    rcases List.mem_cons.1 hy with rfl | hy
    · exact hle _ _ _ h3 g2
    · exact g3 y hy
theorem rp_ok (a : Arm) : RpOk a (rp a) ∧ ∀ x ∈ chI a.t, ∀ y ∈ chI a.n.t, ∀ z ∈ chI a.r.t, RpHit a x y z (rp a) := by
  have hz : ∀ x ∈ chI a.t, ∀ y ∈ chI a.n.t, ∀ st, RpOk a st → RpOk a ((chI a.r.t).foldl (rpStep a x y) st) ∧ RpLe st ((chI a.r.t).foldl (rpStep a x y) st) ∧ ∀ z ∈ chI a.r.t, RpHit a x y z ((chI a.r.t).foldl (rpStep a x y) st) := fun x hx y hy st h => fold_ok (P := fun z st => RpHit a x y z st) (f := rpStep a x y) (fun _ _ _ h g => h.le g) _ (fun z hz st h => rpStep_ok h hx hy hz) st h
  have hy : ∀ x ∈ chI a.t, ∀ st, RpOk a st → RpOk a ((chI a.n.t).foldl (fun st y => (chI a.r.t).foldl (rpStep a x y) st) st) ∧ RpLe st ((chI a.n.t).foldl (fun st y => (chI a.r.t).foldl (rpStep a x y) st) st) ∧ ∀ y ∈ chI a.n.t, ∀ z ∈ chI a.r.t, RpHit a x y z ((chI a.n.t).foldl (fun st y => (chI a.r.t).foldl (rpStep a x y) st) st) := fun x hx st h => fold_ok (P := fun y st => ∀ z ∈ chI a.r.t, RpHit a x y z st) (fun _ _ _ h g z hz => (h z hz).le g) _ (fun y hy st h => hz x hx y hy st h) st h
  have hx := fold_ok (a := a) (P := fun x st => ∀ y ∈ chI a.n.t, ∀ z ∈ chI a.r.t, RpHit a x y z st) (f := fun st x => (chI a.n.t).foldl (fun st y => (chI a.r.t).foldl (rpStep a x y) st) st) (fun _ _ _ h g y hy z hz => (h y hy z hz).le g) (chI a.t) (fun x hx st h => hy x hx st h) none (fun p e => by cases e)
  unfold rp rpX
  rw [List.take_length]
  exact ⟨hx.1, hx.2.2⟩
def rb (st : RpS) : Arm := match st with
  | none => zA
  | some p => p.1
def rn (z : Int) (st : RpS) : Int := match st with
  | none => z
  | some p => p.2
def rpO (a : Arm) : Bool := okA a && (rp a).isSome
def rpA (a : Arm) : Arm := if okA a then rb (rp a) else zA
def rpN (a : Arm) : Int := if okA a then rn 0 (rp a) else 0
theorem chI_mem {x z : Int} (h : z ∈ chI x) : (x = 0 ∧ z = 0) ∨ (x ≠ 0 ∧ 1 ≤ z ∧ z ≤ 9) := by
  unfold chI at h
  split at h
  · rename_i e
    rw [List.mem_singleton] at h
    exact .inl ⟨e, h⟩
  · rename_i e
    unfold tcs at h
    rw [List.mem_map] at h
    obtain ⟨i, hi, rfl⟩ := h
    rw [List.mem_range] at hi
    exact .inr ⟨e, by omega, by omega⟩
theorem chI_self {x : Int} (h : x = 0 ∨ (1 ≤ x ∧ x ≤ 9)) : x ∈ chI x := by
  unfold chI
  split
  · rename_i e
    rw [e]; exact List.mem_singleton.2 rfl
  · rename_i e
    unfold tcs
    rw [List.mem_map]
    exact ⟨(x - 1).toNat, by rw [List.mem_range]; omega, by omega⟩
theorem chI_len (x : Int) : 1 ≤ (chI x).length ∧ (chI x).length ≤ 9 := by
  unfold chI
  split <;> simp [tcs]
theorem noG_t {g : Grp} (h : noG g = true ∨ okG g = true) : (noG g = true ∧ g.t = 0) ∨ (noG g = false ∧ okG g = true ∧ 1 ≤ g.t ∧ g.t ≤ 9) := by
  cases hn : noG g with
  | true =>
    unfold noG at hn
    simp only [Bool.and_eq_true, decide_eq_true_eq] at hn
    exact .inl ⟨rfl, hn.2⟩
  | false =>
    rcases h with h | h
    · rw [hn] at h; cases h
    · have h0 := h
      unfold okG inB at h
      simp only [Bool.and_eq_true, decide_eq_true_eq] at h
      exact .inr ⟨rfl, h0, h.2⟩
theorem okA_p {a : Arm} (h : okA a = true) : okF a.f = true ∧ (noG a.r = true ∨ okG a.r = true) ∧ ((a.o = 0 ∧ a.l = 0 ∧ a.t = 0 ∧ noG a.n = true) ∨ (a.o ≠ 0 ∧ inB a.o 1 7 = true ∧ inB a.l 0 4 = true ∧ inB a.t 1 9 = true ∧ (noG a.n = true ∨ okG a.n = true))) := by
  unfold okA at h
  rw [Bool.and_eq_true, Bool.and_eq_true, Bool.or_eq_true] at h
  refine ⟨h.1.1, h.1.2, ?_⟩
  have h2 := h.2
  split at h2
  · rename_i e
    simp only [Bool.and_eq_true, decide_eq_true_eq] at h2
    exact .inl ⟨e, h2.1.1, h2.1.2, h2.2⟩
  · rename_i e
    simp only [Bool.and_eq_true, Bool.or_eq_true] at h2
    exact .inr ⟨e, h2.1.1.1, h2.1.1.2, h2.1.2, h2.2⟩
theorem okG_with {g : Grp} {z : Int} (h : okG g = true) (hz : 1 ≤ z ∧ z ≤ 9) : okG ⟨g.c, g.k, g.a, z⟩ = true := by
  unfold okG at h ⊢
  simp only [Bool.and_eq_true] at h ⊢
  exact ⟨h.1, by unfold inB; exact decide_eq_true hz⟩
theorem grp_with {g : Grp} {z : Int} (h : noG g = true ∨ okG g = true) (hz : z ∈ chI g.t) : noG (⟨g.c, g.k, g.a, z⟩ : Grp) = true ∨ okG ⟨g.c, g.k, g.a, z⟩ = true := by
  rcases noG_t h with ⟨h1, h2⟩ | ⟨_, h1, h2⟩
  · rcases chI_mem hz with ⟨_, rfl⟩ | ⟨e, _⟩
    · left
      rw [← h2]; exact h1
    · exact absurd h2 e
  · rcases chI_mem hz with ⟨e, _⟩ | ⟨_, e⟩
    · omega
    · exact .inr (okG_with h1 e)
theorem okA_rTA {a : Arm} {x y z : Int} (h : okA a = true) (hx : x ∈ chI a.t) (hy : y ∈ chI a.n.t) (hz : z ∈ chI a.r.t) : okA (rTA a x y z) = true := by
  obtain ⟨h1, h2, h3⟩ := okA_p h
  have g2 := grp_with h2 hz
  unfold okA rTA
  rw [Bool.and_eq_true, Bool.and_eq_true, Bool.or_eq_true]
  refine ⟨⟨h1, g2⟩, ?_⟩
  rcases h3 with ⟨e1, e2, e3, e4⟩ | ⟨e1, e2, e3, e4, e5⟩
  · rw [if_pos e1]
    have ex : x = 0 := by
      rcases chI_mem hx with ⟨_, h⟩ | ⟨h, _⟩
      · exact h
      · exact absurd e3 h
    have ey : y = a.n.t := by
      rcases noG_t (.inl e4) with ⟨_, g⟩ | ⟨g, _⟩
      · rcases chI_mem hy with ⟨g1, g2⟩ | ⟨g1, _⟩
        · omega
        · exact absurd g g1
      · rw [e4] at g; cases g
    subst ey
    simp only [Bool.and_eq_true, decide_eq_true_eq]
    exact ⟨⟨e2, ex⟩, e4⟩
  · rw [if_neg e1]
    have g5 := grp_with e5 hy
    have ex : inB x 1 9 = true := by
      unfold inB at e4 ⊢
      rw [decide_eq_true_eq] at e4 ⊢
      rcases chI_mem hx with ⟨g, _⟩ | ⟨_, g⟩
      · omega
      · exact g
    simp only [Bool.and_eq_true, Bool.or_eq_true]
    exact ⟨⟨⟨e2, e3⟩, ex⟩, g5⟩
/-- What a repair answers. -/
theorem rp_law {a : Arm} (h : rpO a = true) : okA a = true ∧ okA (rpA a) = true ∧ fnds (rpA a) = [] ∧ ((fnds a).isEmpty = decide (rpN a = 0)) := by
  unfold rpO at h
  rw [Bool.and_eq_true] at h
  obtain ⟨ho, hs⟩ := h
  obtain ⟨r1, r2⟩ := rp_ok a
  cases e : rp a with
  | none => rw [e] at hs; cases hs
  | some p =>
    obtain ⟨x, y, z, hx, hy, hz, rfl, hf⟩ := r1 p e
    have eA : rpA a = rTA a x y z := by unfold rpA; rw [if_pos ho, e]; rfl
    have eN : rpN a = chg a x y z := by unfold rpN; rw [if_pos ho, e]; rfl
    refine ⟨ho, by rw [eA]; exact okA_rTA ho hx hy hz, by rw [eA]; exact hf, ?_⟩
    rw [eN, Bool.eq_iff_iff, List.isEmpty_iff, decide_eq_true_eq]
    have hc := chg_in a x y z
    constructor
    · intro hz0
      obtain ⟨q1, q2, q3⟩ := okA_p ho
      have m1 : a.t ∈ chI a.t := chI_self (by
        rcases q3 with ⟨_, _, g, _⟩ | ⟨_, _, _, g, _⟩
        · exact .inl g
        · unfold inB at g; rw [decide_eq_true_eq] at g; exact .inr g)
      have m2 : a.n.t ∈ chI a.n.t := chI_self (by
        have g : noG a.n = true ∨ okG a.n = true := by
          rcases q3 with ⟨_, _, _, g⟩ | ⟨_, _, _, _, g⟩
          · exact .inl g
          · exact g
        rcases noG_t g with ⟨_, g⟩ | ⟨_, _, g⟩
        · exact .inl g
        · exact .inr g)
      have m3 : a.r.t ∈ chI a.r.t := chI_self (by
        rcases noG_t q2 with ⟨_, g⟩ | ⟨_, _, g⟩
        · exact .inl g
        · exact .inr g)
      have ea : rTA a a.t a.n.t a.r.t = a := rfl
      obtain ⟨q, hq, hle⟩ := r2 _ m1 _ m2 _ m3 (by rw [ea]; exact hz0)
      rw [e] at hq
      cases hq
      have : chg a a.t a.n.t a.r.t = 0 := by unfold chg; simp
      simp only at hle
      omega
    · intro hc0
      have : x = a.t ∧ y = a.n.t ∧ z = a.r.t := by
        unfold chg at hc0
        repeat' split at hc0
        all_goals first | omega | exact ⟨by assumption, by assumption, by assumption⟩
      obtain ⟨rfl, rfl, rfl⟩ := this
      exact hf

end Go.Proofs.Ytoommgpcmgnpaaa.AM
