/- Lemmas and contracts (AmN); conditions: none. -/
import Derived.Test.YtpilblmncpeelaaK03
set_option linter.unusedVariables false
set_option linter.unusedSimpArgs false
set_option linter.unusedVariables false
set_option linter.unusedSimpArgs false
namespace Go.Proofs.Ytpilblmncpeelaa.AM
structure MS where
  ren : List (Nat × Nat)
  frz : List Nat
  obs : List Prop
def MS.add (i j : Nat) (M : MS) : Option MS := match lk i M.ren with
  | some j' => bif Nat.beq j' j then some M else none
  | none => some ⟨(i, j) :: M.ren, M.frz, M.obs⟩
def MS.ob (p : Prop) (M : MS) : MS := ⟨M.ren, M.frz, p :: M.obs⟩
/-- The rows of a pattern against those that are there. -/
structure RowsEq (k n : Nat) (f : Nat → List AV) (n' : Nat) (f' : Nat → List AV) : Prop where
  len : n = n'
  row : ∀ j, j < n → f j = f' j ∧ (f j).length = k ∧ ∀ x ∈ f j, Bl 0 x
def mL (m : AV → AV → MS → Option MS) : List AV → List AV → MS → Option MS
  | [], [], M => some M
  | x :: l, y :: l', M => (match m x y M with
    | some M' => mL m l l' M'
    | none => none)
  | _, _, _ => none
/-- The first cells of a block. -/
def mP (m : AV → AV → MS → Option MS) : List AV → List AV → MS → Option MS
  | [], _, M => some M
  | x :: l, y :: l', M => (match m x y M with
    | some M' => mP m l l' M'
    | none => none)
  | _, _, _ => none
/-- What is asked of rows that are let go; of a part of them. -/
def frzP (H : Hold) (o k n : Nat) (f : Nat → List AV) (n' n'' : Nat) (f'' : Nat → List AV) : Prop := match o with
  | 0 => H Prop fun _ => n' ≤ n'' ∧ RowsEq k n f n' f''
  | o + 1 => H Prop fun _ => (o + 1) % k = 0 ∧ (o + 1) / k + n' ≤ n'' ∧ 0 < k ∧ (∀ j, j < n'' → (f'' j).length = k) ∧ RowsEq k n f n' (dropR (o + 1) k f'')
/-- A cell of a row that is let go: as it is; or a slice, let go too (of the blocks cb). -/
inductive CellFz (cb : Heap) : AV → AV → Prop
  | same {x : AV} (h : Bl 0 x) : CellFz cb x x
  | slc {i k m E : Nat} {g g0 : Nat → List AV} (hb : lk i cb = some (.rows k m g E)) (h : ∀ q, q < m → g0 q = g q ∧ (g q).length = k ∧ ∀ x ∈ g q, Bl 0 x) : CellFz cb (.vec k m g0) (.slc i 0 k m)
  | nil {A : Option Addr} {k : Nat} {f : Nat → List AV} : CellFz cb (.vec k 0 f) (.lit (.slice A 0 0))
  | ful {k n : Nat} {f f' : Nat → List AV} (h : RowsEq k n f n f') : CellFz cb (.vec k n f) (.ful k n f')
  | vec {k n : Nat} {f f' : Nat → List AV} (h : RowsEq k n f n f') : CellFz cb (.vec k n f) (.vec k n f')
structure RowsFz (cb : Heap) (k n : Nat) (f : Nat → List AV) (n' : Nat) (f' : Nat → List AV) : Prop where
  len : n = n'
  row : ∀ j, j < n → (f j).length = k ∧ (f' j).length = k ∧ ∀ (c : Nat) (x y : AV), (f j)[c]? = some x → (f' j)[c]? = some y → CellFz cb x y
/-- The blocks that no name of the pattern leads to. -/
def keys : Heap → List Nat
  | [] => []
  | (i, _) :: r => i :: keys r
/-- Which rows hold slices that are let go with them: those of the element type, by the blocks. -/
structure Ncb where
  E : Option Nat
  cb : Heap
def Ncb.is (N : Ncb) (E : Nat) : Bool := match N.E with
  | some e => Nat.beq e E
  | none => false
def noN : Ncb := ⟨none, []⟩
def mFrz (H : Hold) (N : Ncb) (n0 k n : Nat) (f : Nat → List AV) (j o k' n' : Nat) (M : MS) : Option Blk → Option MS
  | some (.rows k'' n'' f'' E) => bif Nat.beq k k' && (Nat.beq k k'' && Nat.ble n0 j) then (bif N.is E && Nat.beq o 0 then some ⟨M.ren, j :: (keys N.cb ++ M.frz), (H Prop fun _ => n'' = n' ∧ RowsFz N.cb k n f n' f'') :: M.obs⟩ else some ⟨M.ren, j :: M.frz, frzP H o k n f n' n'' f'' :: M.obs⟩) else none
  | _ => none
def mV (H : Hold) (M : MS) : Value → Value → Option MS
  | .int k a, .int k' b => bif sameK k k' then some (M.ob (H Prop fun _ => a = b)) else none
  | .bool a, .bool b => some (M.ob (H Prop fun _ => a = b))
  | .string a, .string b => some (M.ob (H Prop fun _ => a = b))
  | .slice none 0 0, .slice none 0 0 => some M
  | .func (.func g) f c, .func (.func g') f' c' => bif Nat.beq g g' && (isNil f.toList && (isNil c.toList && (isNil f'.toList && isNil c'.toList))) then some M else none
  | _, _ => none
/-- A pattern's value against one that is there, nothing let go. -/
def mR (H : Hold) (x y : AV) (M : MS) : Option MS := match x with
  | .lit v => (match y with
    | .lit v' => mV H M v v'
    | _ => none)
  | .ptr i o => (match y with
    | .ptr j p => bif Nat.beq o p then M.add i j else none
    | _ => none)
  | .slc i o k n => (match y with
    | .slc j p k' n' => bif Nat.beq k k' && Nat.beq o p then (match M.add i j with | some M => some (M.ob (H Prop fun _ => n = n')) | none => none) else none
    | _ => none)
  | .vec k n f => (match y with
    | .vec k' n' f' => bif Nat.beq k k' then some (M.ob (H Prop fun _ => RowsEq k n f n' f')) else none
    | .ful k' n' f' => bif Nat.beq k k' then some (M.ob (H Prop fun _ => RowsEq k n f n' f')) else none
    | _ => none)
  | _ => none
/-- The same, within functions and what pointers lead to. -/
def mRd (H : Hold) : Nat → AV → AV → MS → Option MS
  | 0, x, y, M => mR H x y M
  | d + 1, x, y, M => match x with
    | .rptr l => (match y with
      | .rptr l' => mL (mRd H d) l l' M
      | _ => none)
    | .agg l => (match y with
      | .agg l' => mL (mRd H d) l l' M
      | _ => none)
    | .fn (.func g) a l => (match y with
      | .fn (.func g') a' l' => bif Nat.beq g g' then (match mL (mRd H d) a a' M with
        | some M => mL (mRd H d) l l' M
        | none => none) else none
      | _ => none)
    | x => mR H x y M
/-- A pattern's value against one that is there. -/
def mA (H : Hold) (N : Ncb) (hp : Heap) (n0 : Nat) : Nat → AV → AV → MS → Option MS
  | 0, _, _, _ => none
  | d + 1, x, y, M => match x with
    | .lit v => (match y with
      | .num n => (match v with
        | .int .i64 a => some (M.ob (H Prop fun _ => a = (n : Nat)))
        | _ => none)
      | .kb b => (match v with
        | .bool a => some (M.ob (H Prop fun _ => a = b))
        | _ => none)
      | y => mR H (.lit v) y M)
    | .vec k n f => (match y with
      | .lit (.slice _ 0 0) => some (M.ob (H Prop fun _ => n = 0))
      | .slc j o k' n' => mFrz H N n0 k n f j o k' n' M (lk j hp)
      | y => mR H (.vec k n f) y M)
    | .ful k n f => (match y with
      | .ful k' n' f' => bif Nat.beq k k' then some (M.ob (H Prop fun _ => RowsEq k n f n' f')) else none
      | _ => none)
    | .agg l => (match y with
      | .agg l' => mL (mA H N hp n0 d) l l' M
      | _ => none)
    | .tup l => (match y with
      | .tup l' => mL (mA H N hp n0 d) l l' M
      | _ => none)
    | .fn (.func g) a l => (match y with
      | .fn (.func g') a' l' => bif Nat.beq g g' then (match mL (mRd H 4) a a' M with
        | some M => mL (mRd H 4) l l' M
        | none => none) else none
      | _ => none)
    | .rptr l => mRd H 4 (.rptr l) y M
    | x => mR H x y M
def mB (H : Hold) (N : Ncb) (hp : Heap) (n0 d : Nat) (M : MS) : Blk → Blk → Option MS
  | .cells l T, .cells l' T' => bif Nat.beq T T' then mP (mA H N hp n0 d) l l' M else none
  | .cells [] T, .rows _ _ _ E => bif Nat.beq T E then some M else none
  | .rows k n f E, .rows k' n' f' E' => bif Nat.beq k k' && Nat.beq E E' then (bif N.is E then some ⟨M.ren, keys N.cb ++ M.frz, (H Prop fun _ => RowsFz N.cb k n f n' f') :: M.obs⟩ else some (M.ob (H Prop fun _ => RowsEq k n f n' f'))) else none
  | _, _ => none
def mE (m : AV → AV → MS → Option MS) (e' : Env) : Env → MS → Option MS
  | [], M => some M
  | (t, x) :: e, M => (match lk t e' with
    | some y => (match m x y M with
      | some M' => mE m e' e M'
      | none => none)
    | none => none)
def mH (H : Hold) (N : Ncb) (hp : Heap) (n0 d : Nat) : Heap → MS → Option MS
  | [], M => some M
  | (i, b) :: h, M => (match lk i M.ren with
    | some j => (match lk j hp with
      | some b' => (match mB H N hp n0 d M b b' with
        | some M' => mH H N hp n0 d h M'
        | none => none)
      | none => none)
    | none => none)
def idn : Nat → List (Nat × Nat)
  | 0 => []
  | n + 1 => (n, n) :: idn n
def fresh (x : Nat) : List (Nat × Nat) → Bool
  | [] => true
  | (_, j) :: r => !Nat.beq j x && fresh x r
/-- The second parts differ. -/
def dst : List (Nat × Nat) → Bool
  | [] => true
  | (_, j) :: r => fresh j r && dst r
def covers (r : List (Nat × Nat)) : Nat → Bool
  | 0 => true
  | n + 1 => (match lk n r with | some _ => covers r n | none => false)
def keysLt (m : Nat) : List (Nat × Nat) → Bool
  | [] => true
  | (i, _) :: r => Nat.blt i m && keysLt m r
def heapLt (m : Nat) : Heap → Bool
  | [] => true
  | (i, _) :: r => Nat.blt i m && heapLt m r
def frzOk (r : List (Nat × Nat)) : List Nat → Bool
  | [] => true
  | j :: l => fresh j r && frzOk r l
def zOk (h : Heap) : Nat → Bool
  | 0 => h.all fun p => !p.2.dead
  | n + 1 => (match lk n h with | some _ => zOk h n | none => false)
def endSt (n0 : Nat) (t : St) (M : MS) : Bool := dst M.ren && (covers M.ren t.next && (keysLt t.next M.ren && (heapLt t.next t.heap && (Nat.ble n0 t.next && (isNil M.frz || (frzOk M.ren M.frz && zOk t.heap n0))))))
/-- A pattern's state against one that is there: what is left to be shown. -/
def matchSt (H : Hold) (n0 : Nat) (t s : St) : Option (List Prop) := match mE (mA H noN s.heap n0 8) s.env t.env ⟨idn n0, [], []⟩ with
  | some M => (match mH H noN s.heap n0 8 t.heap M with
    | some M => bif endSt n0 t M then some M.obs else none
    | none => none)
  | none => none
def AllG : Option (List Prop) → Prop
  | some l => AllP l
  | none => False

/-! ### That it is so -/
structure MS.le (M R : MS) : Prop where
  ren : ∀ i j, lk i M.ren = some j → lk i R.ren = some j
  frz : ∀ x ∈ M.frz, x ∈ R.frz
  obs : AllP R.obs → AllP M.obs
theorem MS.le.refl (M : MS) : M.le M := ⟨fun _ _ h => h, fun _ h => h, fun h => h⟩
theorem MS.le.trans {A B C : MS} (h : A.le B) (k : B.le C) : A.le C := ⟨fun i j e => k.ren i j (h.ren i j e), fun x e => k.frz x (h.frz x e), fun e => h.obs (k.obs e)⟩
theorem MS.le.le_ob (p : Prop) (M : MS) : M.le (M.ob p) := ⟨fun _ _ h => h, fun _ h => h, fun h => h.2⟩
theorem MS.add_le {i j : Nat} {M M' : MS} (h : M.add i j = some M') : M.le M' ∧ lk i M'.ren = some j := by
  unfold MS.add at h
  cases e : lk i M.ren with
  | some j' =>
    rw [e] at h
    cases hb : Nat.beq j' j with
    | true => simp only [hb, cond_true, Option.some.injEq] at h; subst h; have := Nat.eq_of_beq_eq_true hb; subst this; exact ⟨.refl _, e⟩
    | false => simp [hb] at h
  | none =>
    rw [e] at h
    simp only [Option.some.injEq] at h
    subst h
    refine ⟨⟨fun a b hab => ?_, fun _ h => h, fun h => h⟩, by rw [lk_cons, if_pos rfl]⟩
    rw [lk_cons, if_neg (by rintro rfl; rw [e] at hab; cases hab)]; exact hab
/-- What the last word of a match says. -/
structure MS.good (R : MS) (π : Nat → Nat) (m n0 : Nat) (Z : Prop) : Prop where
  ren : ∀ i j, lk i R.ren = some j → π i = j ∧ i < m
  frz : ∀ j ∈ R.frz, Z ∧ n0 ≤ j ∧ ∀ i, i < m → π i ≠ j
  obs : AllP R.obs
theorem MS.good.of {M R : MS} {π : Nat → Nat} {m n0 : Nat} {Z : Prop} (h : R.good π m n0 Z) (k : M.le R) : M.good π m n0 Z := ⟨fun i j e => h.ren i j (k.ren i j e), fun j e => h.frz j (k.frz j e), k.obs h.obs⟩
theorem RowsEq.bl {k n n' : Nat} {f f' : Nat → List AV} (h : RowsEq k n f n' f') : Bl 0 (.vec k n f) := .vec fun j hj => (h.2 j hj).2.2
theorem RowsEq.rn {k n n' : Nat} {f f' : Nat → List AV} (h : RowsEq k n f n' f') (π : Nat → Nat) (m : Nat) : Rn π m (.vec k n f) (.vec k n' f') := by
  obtain rfl := h.1
  exact .vec (q := 0) (by omega) (Nat.zero_le _) h.bl (fun j hj => (h.2 j hj).1)
theorem RowsEq.rnB {k n n' E : Nat} {f f' : Nat → List AV} (h : RowsEq k n f n' f') (π : Nat → Nat) (m : Nat) : RnB π m (.rows k n f E) (.rows k n' f' E) := by
  obtain rfl := h.1
  refine ⟨⟨rfl, fun _ => rfl⟩, fun p x hx => ?_⟩
  simp only [Blk.at] at hx ⊢
  split at hx
  · rename_i hlt
    rw [if_pos hlt, ← (h.2 _ hlt).1]
    exact ⟨x, hx, .same (q := 0) (by omega) (Nat.zero_le _) ((h.2 _ hlt).2.2 x (List.mem_of_getElem? hx))⟩
  · cases hx
variable {n0 : Nat} {hp : Heap} {π : Nat → Nat} {m : Nat} {Z : Prop}
/-- Lists, one by one. -/
theorem mL_ok {S : AV → AV → Prop} {f : AV → AV → MS → Option MS} (hf : ∀ x y M M', f x y M = some M' → M.le M' ∧ ∀ R : MS, M'.le R → R.good π m n0 Z → S x y) :
    ∀ (l l' : List AV) (M M' : MS), mL f l l' M = some M' → M.le M' ∧ ∀ R : MS, M'.le R → R.good π m n0 Z → l.length = l'.length ∧ ∀ (c : Nat) (x y : AV), l[c]? = some x → l'[c]? = some y → S x y
  | [], [], M, M', h => by simp only [mL, Option.some.injEq] at h; subst h; exact ⟨.refl _, fun _ _ _ => ⟨rfl, by simp⟩⟩
  | [], _ :: _, _, _, h => by simp [mL] at h
  | _ :: _, [], _, _, h => by simp [mL] at h
  | x :: l, y :: l', M, M', h => by
    simp only [mL] at h
    cases e : f x y M with
    | none => simp [e] at h
    | some M1 =>
      simp only [e] at h
      obtain ⟨h1, h2⟩ := hf x y M M1 e
      obtain ⟨h3, h4⟩ := mL_ok hf l l' M1 M' h
      refine ⟨h1.trans h3, fun R hR hg => ?_⟩
      obtain ⟨h5, h6⟩ := h4 R hR hg
      refine ⟨by simp [h5], fun c a b ha hb => ?_⟩
      cases c with
      | zero => simp at ha hb; subst ha; subst hb; exact h2 R (h3.trans hR) hg
      | succ c => simp at ha hb; exact h6 c a b ha hb
theorem mP_ok {S : AV → AV → Prop} {f : AV → AV → MS → Option MS} (hf : ∀ x y M M', f x y M = some M' → M.le M' ∧ ∀ R : MS, M'.le R → R.good π m n0 Z → S x y) :
    ∀ (l l' : List AV) (M M' : MS), mP f l l' M = some M' → M.le M' ∧ l.length ≤ l'.length ∧ ∀ R : MS, M'.le R → R.good π m n0 Z → ∀ (c : Nat) (x : AV), l[c]? = some x → ∃ y, l'[c]? = some y ∧ S x y
  | [], _, M, M', h => by simp only [mP, Option.some.injEq] at h; subst h; exact ⟨.refl _, by simp, fun _ _ _ => by simp⟩
  | _ :: _, [], _, _, h => by simp [mP] at h
  | x :: l, y :: l', M, M', h => by
    simp only [mP] at h
    cases e : f x y M with
    | none => simp [e] at h
    | some M1 =>
      simp only [e] at h
      obtain ⟨h1, h2⟩ := hf x y M M1 e
      obtain ⟨h3, h5, h4⟩ := mP_ok hf l l' M1 M' h
      refine ⟨h1.trans h3, by simpa using h5, fun R hR hg c a ha => ?_⟩
      cases c with
      | zero => simp at ha; subst ha; exact ⟨y, by simp, h2 R (h3.trans hR) hg⟩
      | succ c => simp at ha ⊢; exact h4 R hR hg c a ha
theorem rows_at0 {k n E j c : Nat} {f : Nat → List AV} (hj : j < n) (hc : c < k) (hl : (f j).length = k) : (Blk.rows k n f E).at (0 + j * k + c) = some ((f j)[c]'(by omega)) := by
  have h1 : (0 + j * k + c) / k = j := by
    rw [Nat.zero_add, Nat.mul_comm, Nat.mul_add_div (by omega), Nat.div_eq_of_lt hc]; omega
  have h2 : (0 + j * k + c) % k = c := by rw [Nat.zero_add, Nat.mul_comm, Nat.mul_add_mod, Nat.mod_eq_of_lt hc]
  simp only [Blk.at, h1, h2, if_pos hj]
  exact List.getElem?_eq_getElem (by omega)
theorem isNil_eq {α : Type} {l : List α} (h : isNil l = true) : l = [] := by cases l with | nil => rfl | cons _ _ => simp [isNil] at h
theorem mV_ok {M M' : MS} {v v' : Value} (h : mV stdH M v v' = some M') : M.le M' ∧ ∀ R : MS, M'.le R → R.good π m n0 Z → v = v' := by
  unfold mV at h
  split at h
  · rename_i k a k' b
    cases hk : sameK k k' with
    | false => simp [hk] at h
    | true =>
      simp only [hk, cond_true, stdH, Option.some.injEq] at h
      subst h
      obtain rfl := sameK_eq hk
      refine ⟨.le_ob _ _, fun R hR hg => ?_⟩
      obtain rfl := (hR.obs hg.obs).1
      rfl
  · simp only [stdH, Option.some.injEq] at h; subst h
    refine ⟨.le_ob _ _, fun R hR hg => ?_⟩
    obtain rfl := (hR.obs hg.obs).1
    rfl
  · simp only [stdH, Option.some.injEq] at h; subst h
    refine ⟨.le_ob _ _, fun R hR hg => ?_⟩
    obtain rfl := (hR.obs hg.obs).1
    rfl
  · simp only [Option.some.injEq] at h; subst h
    exact ⟨.refl _, fun R hR hg => rfl⟩
  · rename_i g f c g' f' c'
    cases hk : Nat.beq g g' && (isNil f.toList && (isNil c.toList && (isNil f'.toList && isNil c'.toList))) with
    | false => simp [hk] at h
    | true =>
      simp only [hk, cond_true, Option.some.injEq] at h
      subst h
      simp only [Bool.and_eq_true] at hk
      obtain ⟨h1, h2, h3, h4, h5⟩ := hk
      obtain rfl := Nat.eq_of_beq_eq_true h1
      have e1 := Array.toList_eq_nil_iff.1 (isNil_eq h2)
      have e2 := Array.toList_eq_nil_iff.1 (isNil_eq h3)
      have e3 := Array.toList_eq_nil_iff.1 (isNil_eq h4)
      have e4 := Array.toList_eq_nil_iff.1 (isNil_eq h5)
      subst e1; subst e2; subst e3; subst e4
      exact ⟨.refl _, fun R hR hg => rfl⟩
  · cases h
theorem mR_ok (x y : AV) (M M' : MS) (h : mR stdH x y M = some M') : M.le M' ∧ ∀ R : MS, M'.le R → R.good π m n0 Z → Rn π m x y := by
  unfold mR at h
  split at h
  · split at h
    · obtain ⟨h1, h2⟩ := mV_ok (π := π) (m := m) (n0 := n0) (Z := Z) h
      refine ⟨h1, fun R hR hg => ?_⟩
      obtain rfl := h2 R hR hg
      exact .same (q := 0) (by omega) (Nat.zero_le _) .lit
    · cases h
  · split at h
    · rename_i i o _ j p
      cases hb : Nat.beq o p with
      | false => simp [hb] at h
      | true =>
        simp only [hb, cond_true] at h
        obtain rfl := Nat.eq_of_beq_eq_true hb
        obtain ⟨h1, h2⟩ := MS.add_le h
        refine ⟨h1, fun R hR hg => ?_⟩
        obtain ⟨e, hi⟩ := hg.ren i j (hR.ren _ _ h2)
        subst e
        exact .ptr hi
    · cases h
  · split at h
    · rename_i i o k n _ j p k' n'
      cases hb : Nat.beq k k' && Nat.beq o p with
      | false => simp [hb] at h
      | true =>
        simp only [hb, cond_true] at h
        simp only [Bool.and_eq_true] at hb
        obtain rfl := Nat.eq_of_beq_eq_true hb.1
        obtain rfl := Nat.eq_of_beq_eq_true hb.2
        cases ha : M.add i j with
        | none => simp [ha] at h
        | some M1 =>
          simp only [ha, stdH, Option.some.injEq] at h
          subst h
          obtain ⟨h1, h2⟩ := MS.add_le ha
          refine ⟨h1.trans (.le_ob _ _), fun R hR hg => ?_⟩
          obtain rfl := (hR.obs hg.obs).1
          obtain ⟨e, hi⟩ := hg.ren i j (hR.ren _ _ h2)
          subst e
          exact .slc hi
    · cases h
  · split at h
    · rename_i k n f _ k' n' f'
      cases hb : Nat.beq k k' with
      | false => simp [hb] at h
      | true =>
        simp only [hb, cond_true, stdH, Option.some.injEq] at h
        obtain rfl := Nat.eq_of_beq_eq_true hb
        subst h
        exact ⟨.le_ob _ _, fun R hR hg => (hR.obs hg.obs).1.rn _ _⟩
    · rename_i k n f _ k' n' f'
      cases hb : Nat.beq k k' with
      | false => simp [hb] at h
      | true =>
        simp only [hb, cond_true, stdH, Option.some.injEq] at h
        obtain rfl := Nat.eq_of_beq_eq_true hb
        subst h
        refine ⟨.le_ob _ _, fun R hR hg => ?_⟩
        have hq : RowsEq k n f n' f' := (hR.obs hg.obs).1
        obtain rfl := hq.1
        exact .ful (q := 0) (by omega) (Nat.zero_le _) hq.bl (fun j hj => (hq.2 j hj).1)
    · cases h
  · cases h
theorem mRd_ok : ∀ (d : Nat) (x y : AV) (M M' : MS), mRd stdH d x y M = some M' → M.le M' ∧ ∀ R : MS, M'.le R → R.good π m n0 Z → Rn π m x y
  | 0, x, y, M, M', h => mR_ok x y M M' h
  | d + 1, x, y, M, M', h => by
    unfold mRd at h
    split at h
    · split at h
      · obtain ⟨h1, h2⟩ := mL_ok (π := π) (m := m) (n0 := n0) (Z := Z) (fun x y M M' => mRd_ok d x y M M') _ _ _ _ h
        refine ⟨h1, fun R hR hg => ?_⟩
        obtain ⟨h3, h4⟩ := h2 R hR hg
        exact .rptr h3 h4
      · cases h
    · split at h
      · obtain ⟨h1, h2⟩ := mL_ok (π := π) (m := m) (n0 := n0) (Z := Z) (fun x y M M' => mRd_ok d x y M M') _ _ _ _ h
        refine ⟨h1, fun R hR hg => ?_⟩
        obtain ⟨h3, h4⟩ := h2 R hR hg
        exact .agg h3 h4
      · cases h
    · rename_i g a l
      split at h
      · rename_i g' a' l'
        cases hb : Nat.beq g g' with
        | false => simp [hb] at h
        | true =>
          simp only [hb, cond_true] at h
          obtain rfl := Nat.eq_of_beq_eq_true hb
          cases hM : mL (mRd stdH d) a a' M with
          | none => rw [hM] at h; cases h
          | some M1 =>
            rw [hM] at h
            obtain ⟨p1, p2⟩ := mL_ok (π := π) (m := m) (n0 := n0) (Z := Z) (fun x y M M' => mRd_ok d x y M M') _ _ _ _ hM
            obtain ⟨h1, h2⟩ := mL_ok (π := π) (m := m) (n0 := n0) (Z := Z) (fun x y M M' => mRd_ok d x y M M') _ _ _ _ h
            refine ⟨p1.trans h1, fun R hR hg => ?_⟩
            obtain ⟨p3, p4⟩ := p2 R (h1.trans hR) hg
            obtain ⟨h3, h4⟩ := h2 R hR hg
            exact .fn p3 p4 h3 h4
      · cases h
    · exact mR_ok x y M M' h
theorem frzP_of {o k n n' n'' : Nat} {f f'' : Nat → List AV} (h1 : o % k = 0) (h2 : o / k + n' ≤ n'') (hk : 0 < k) (hl : ∀ j, j < n'' → (f'' j).length = k) (h : RowsEq k n f n' (dropR o k f'')) (h0 : 0 < o) : frzP stdH o k n f n' n'' f'' := by
  cases o with
  | zero => omega
  | succ o => exact ⟨h1, h2, hk, hl, h⟩
def Ncb.Ok (N : Ncb) (hp : Heap) : Prop := ∀ i b, lk i N.cb = some b → lk i hp = some b ∧ b.dead = false ∧ i ∈ keys N.cb
theorem noN_ok {hp : Heap} : noN.Ok hp := fun i b h => by simp [noN, lk] at h
theorem CellFz.rz {N : Ncb} (hcb : N.Ok hp) {R : MS} (hk : ∀ i ∈ keys N.cb, i ∈ R.frz) (hg : R.good π m n0 Z) {x y : AV} (h : CellFz N.cb x y) : Rz Z n0 hp π m x y := by
  cases h with
  | same h => exact .rn (.same (q := 0) (by omega) (Nat.zero_le _) h)
  | @slc i k m E g g0 hb h =>
    obtain ⟨c1, c2, c3⟩ := hcb _ _ hb
    obtain ⟨z, z1, z2⟩ := hg.frz i (hk _ c3)
    refine .slc (b := .rows k m g E) (fun a c => (g a).getD c (.tup [])) z c1 rfl z1 z2 (fun a ha => by rw [(h a ha).1]; exact (h a ha).2.1) (fun a c ha hc => ?_) (fun a c y ha hy => ?_)
    · have hl := (h a ha).2.1
      rw [rows_at0 ha hc hl, List.getD_eq_getElem?_getD, List.getElem?_eq_getElem (by omega)]; rfl
    · rw [(h a ha).1] at hy
      rw [List.getD_eq_getElem?_getD, hy]
      exact .rn (.same (q := 0) (by omega) (Nat.zero_le _) ((h a ha).2.2 y (List.mem_of_getElem? hy)))
  | nil => exact .nil
  | @ful k n f f' h => exact .rn (.ful (q := 0) (by omega) (Nat.zero_le _) h.bl (fun j hj => (h.2 j hj).1))
  | vec h => exact .rn (h.rn _ _)
theorem mA_ok {N : Ncb} (hcb : N.Ok hp) : ∀ (d : Nat) (x y : AV) (M M' : MS), mA stdH N hp n0 d x y M = some M' → M.le M' ∧ ∀ R : MS, M'.le R → R.good π m n0 Z → Rz Z n0 hp π m x y
  | 0, x, y, M, M', h => by simp [mA] at h
  | d + 1, x, y, M, M', h => by
    have plain : ∀ x y, mR stdH x y M = some M' → M.le M' ∧ ∀ R : MS, M'.le R → R.good π m n0 Z → Rz Z n0 hp π m x y := fun x y h => by
      obtain ⟨h1, h2⟩ := mR_ok (π := π) (m := m) (n0 := n0) (Z := Z) x y M M' h
      exact ⟨h1, fun R hR hg => .rn (h2 R hR hg)⟩
    unfold mA at h
    split at h
    · split at h
      · split at h
        · simp only [stdH, Option.some.injEq] at h; subst h
          exact ⟨.le_ob _ _, fun R hR hg => .knum (hR.obs hg.obs).1⟩
        · cases h
      · split at h
        · simp only [stdH, Option.some.injEq] at h; subst h
          refine ⟨.le_ob _ _, fun R hR hg => ?_⟩
          obtain rfl := (hR.obs hg.obs).1
          exact .kkb
        · cases h
      · exact plain _ _ h
    · rename_i k n f
      split at h
      · simp only [stdH, Option.some.injEq] at h; subst h
        refine ⟨.le_ob _ _, fun R hR hg => ?_⟩
        obtain rfl := (hR.obs hg.obs).1
        exact .nil
      · rename_i j o k' n'
        unfold mFrz at h
        split at h
        · rename_i k'' n'' f'' E hlk
          cases hb : Nat.beq k k' && (Nat.beq k k'' && Nat.ble n0 j) with
          | false => simp [hb] at h
          | true =>
            simp only [hb, cond_true] at h
            simp only [Bool.and_eq_true] at hb
            obtain rfl := Nat.eq_of_beq_eq_true hb.1
            obtain rfl := Nat.eq_of_beq_eq_true hb.2.1
            cases hN : N.is E && Nat.beq o 0 with
            | true =>
              simp only [hN, cond_true, Option.some.injEq] at h
              subst h
              simp only [Bool.and_eq_true] at hN
              obtain rfl := Nat.eq_of_beq_eq_true hN.2
              refine ⟨⟨fun _ _ h => h, fun x hx => by simp [hx], fun h => h.2⟩, fun R hR hg => ?_⟩
              obtain ⟨z, h1, h2⟩ := hg.frz j (hR.frz j (by simp))
              obtain ⟨e, hF⟩ : n'' = n' ∧ RowsFz N.cb k n f n' f'' := (hR.obs hg.obs).1
              subst e
              have e := hF.len
              subst e
              refine .slc (b := .rows k n f'' E) (fun a c => (f'' a).getD c (.tup [])) z hlk rfl h1 h2 (fun a ha => (hF.row a ha).1) (fun a c ha hc => ?_) (fun a c y ha hy => ?_)
              · have hl := (hF.row a ha).2.1
                rw [rows_at0 ha hc hl, List.getD_eq_getElem?_getD, List.getElem?_eq_getElem (by omega)]; rfl
              · have hl := hF.row a ha
                have hc : c < (f'' a).length := by rw [hl.2.1, ← hl.1]; exact (List.getElem?_eq_some_iff.1 hy).1
                rw [List.getD_eq_getElem?_getD, List.getElem?_eq_getElem hc]
                exact (hl.2.2 c y _ hy (List.getElem?_eq_getElem hc)).rz hcb (fun i hi => hR.frz i (by simp [hi])) hg
            | false =>
            simp only [hN, cond_false, Option.some.injEq] at h
            subst h
            refine ⟨⟨fun _ _ h => h, fun x hx => by simp [hx], fun h => h.2⟩, fun R hR hg => ?_⟩
            obtain ⟨z, h1, h2⟩ := hg.frz j (hR.frz j (by simp))
            have hP := (hR.obs hg.obs).1
            have key : ∀ o, (o % k = 0 ∧ o / k + n' ≤ n'' ∧ (∀ a, a < n' → (f'' (o / k + a)).length = k) ∧ RowsEq k n f n' (dropR o k f'')) → (o = 0 ∨ 0 < k) → Rz Z n0 hp π m (.vec k n f) (.slc j o k n') := fun o ⟨q1, q2, q3, hq⟩ hk => by
              obtain rfl := hq.1
              refine .slc (b := .rows k n'' f'' E) (fun a c => (f'' (o / k + a)).getD c (.tup [])) z hlk rfl h1 h2 (fun a ha => (hq.2 a ha).2.1) (fun a c ha hc => ?_) (fun a c y ha hy => ?_)
              · have eo : o = o / k * k := by have := Nat.div_add_mod o k; rw [q1, Nat.add_zero, Nat.mul_comm] at this; exact this.symm
                have hl := q3 a ha
                have e0 : o + a * k + c = 0 + (o / k + a) * k + c := by rw [Nat.add_mul, ← eo, Nat.zero_add]
                rw [e0, rows_at0 (by omega) hc hl, List.getD_eq_getElem?_getD, List.getElem?_eq_getElem (by omega)]; rfl
              · rw [List.getD_eq_getElem?_getD, show f'' (o / k + a) = f a from ((hq.2 a ha).1).symm, hy]
                exact .rn (.same (q := 0) (by omega) (Nat.zero_le _) ((hq.2 a ha).2.2 y (List.mem_of_getElem? hy)))
            cases o with
            | zero =>
              obtain ⟨hle, hq⟩ : n' ≤ n'' ∧ RowsEq k n f n' f'' := hP
              have hd : ∀ a, dropR 0 k f'' a = f'' a := fun a => by unfold dropR; rw [Nat.zero_div, Nat.zero_add]
              have e := hq.1
              exact key 0 ⟨Nat.zero_mod _, by rw [Nat.zero_div]; omega, fun a ha => by rw [Nat.zero_div, Nat.zero_add, ← (hq.2 a (by omega)).1]; exact (hq.2 a (by omega)).2.1, ⟨hq.1, fun a ha => ⟨by rw [hd]; exact (hq.2 a ha).1, (hq.2 a ha).2⟩⟩⟩ (.inl rfl)
            | succ o =>
              obtain ⟨q1, q2, q3, q4, hq⟩ : (o + 1) % k = 0 ∧ (o + 1) / k + n' ≤ n'' ∧ 0 < k ∧ (∀ j, j < n'' → (f'' j).length = k) ∧ RowsEq k n f n' (dropR (o + 1) k f'') := hP
              exact key (o + 1) ⟨q1, q2, fun a ha => q4 _ (by omega), hq⟩ (.inr q3)
        · cases h
      · exact plain _ _ h
    · rename_i k n f
      split at h
      · rename_i k' n' f'
        cases hb : Nat.beq k k' with
        | false => simp [hb] at h
        | true =>
          simp only [hb, cond_true, stdH, Option.some.injEq] at h
          obtain rfl := Nat.eq_of_beq_eq_true hb
          subst h
          refine ⟨.le_ob _ _, fun R hR hg => ?_⟩
          have hq : RowsEq k n f n' f' := (hR.obs hg.obs).1
          obtain rfl := hq.1
          refine .fulf (fun j hj => by rw [(hq.2 j hj).1]) (fun j c x y hj hx hy => ?_)
          rw [← (hq.2 j hj).1, hx] at hy
          injection hy with hy; subst hy
          exact .rn (.same (q := 0) (by omega) (Nat.zero_le _) ((hq.2 j hj).2.2 x (List.mem_of_getElem? hx)))
      · cases h
    · split at h
      · obtain ⟨h1, h2⟩ := mL_ok (π := π) (m := m) (n0 := n0) (Z := Z) (fun x y M M' => mA_ok hcb d x y M M') _ _ _ _ h
        refine ⟨h1, fun R hR hg => ?_⟩
        obtain ⟨h3, h4⟩ := h2 R hR hg
        exact .agg h3 h4
      · cases h
    · split at h
      · obtain ⟨h1, h2⟩ := mL_ok (π := π) (m := m) (n0 := n0) (Z := Z) (fun x y M M' => mA_ok hcb d x y M M') _ _ _ _ h
        refine ⟨h1, fun R hR hg => ?_⟩
        obtain ⟨h3, h4⟩ := h2 R hR hg
        exact .tup h3 h4
      · cases h
    · rename_i g a l
      split at h
      · rename_i g' a' l'
        cases hb : Nat.beq g g' with
        | false => simp [hb] at h
        | true =>
          simp only [hb, cond_true] at h
          obtain rfl := Nat.eq_of_beq_eq_true hb
          cases hM : mL (mRd stdH 4) a a' M with
          | none => rw [hM] at h; cases h
          | some M1 =>
            rw [hM] at h
            obtain ⟨p1, p2⟩ := mL_ok (π := π) (m := m) (n0 := n0) (Z := Z) (fun x y M M' => mRd_ok 4 x y M M') _ _ _ _ hM
            obtain ⟨h1, h2⟩ := mL_ok (π := π) (m := m) (n0 := n0) (Z := Z) (fun x y M M' => mRd_ok 4 x y M M') _ _ _ _ h
            refine ⟨p1.trans h1, fun R hR hg => ?_⟩
            obtain ⟨p3, p4⟩ := p2 R (h1.trans hR) hg
            obtain ⟨h3, h4⟩ := h2 R hR hg
            exact .rn (.fn p3 p4 h3 h4)
      · cases h
    · obtain ⟨h1, h2⟩ := mRd_ok (π := π) (m := m) (n0 := n0) (Z := Z) 4 _ _ M M' h
      exact ⟨h1, fun R hR hg => .rn (h2 R hR hg)⟩
    · exact plain _ _ h
theorem mB_ok {N : Ncb} (hcb : N.Ok hp) {d : Nat} {b b' : Blk} {M M' : MS} (h : mB stdH N hp n0 d M b b' = some M') : M.le M' ∧ ∀ R : MS, M'.le R → R.good π m n0 Z → RzB Z n0 hp π m b b' := by
  unfold mB at h
  split at h
  · rename_i l T l' T'
    cases hb : Nat.beq T T' with
    | false => simp [hb] at h
    | true =>
      simp only [hb, cond_true] at h
      obtain rfl := Nat.eq_of_beq_eq_true hb
      obtain ⟨h1, h3, h2⟩ := mP_ok (π := π) (m := m) (n0 := n0) (Z := Z) (fun x y M M' => mA_ok hcb d x y M M') _ _ _ _ h
      refine ⟨h1, fun R hR hg => ⟨⟨rfl, fun hd => ?_⟩, fun p x hx => h2 R hR hg p x hx⟩⟩
      cases l' with
      | nil => cases l with
        | nil => simp [Blk.dead] at hd
        | cons _ _ => simp at h3
      | cons _ _ => rfl
  · rename_i T k n f E
    cases hb : Nat.beq T E with
    | false => simp [hb] at h
    | true =>
      simp only [hb, cond_true, Option.some.injEq] at h
      obtain rfl := Nat.eq_of_beq_eq_true hb
      subst h
      exact ⟨.refl _, fun R hR hg => ⟨⟨rfl, fun hd => by simp [Blk.dead] at hd⟩, fun p x hx => by simp [Blk.at] at hx⟩⟩
  · rename_i k n f E k' n' f' E'
    cases hb : Nat.beq k k' && Nat.beq E E' with
    | false => simp [hb] at h
    | true =>
      simp only [hb, cond_true, stdH] at h
      simp only [Bool.and_eq_true] at hb
      obtain rfl := Nat.eq_of_beq_eq_true hb.1
      obtain rfl := Nat.eq_of_beq_eq_true hb.2
      cases hN : N.is E with
      | false =>
        simp only [hN, cond_false, Option.some.injEq] at h
        subst h
        exact ⟨.le_ob _ _, fun R hR hg => ((hR.obs hg.obs).1.rnB _ _).z⟩
      | true =>
        simp only [hN, cond_true, Option.some.injEq] at h
        subst h
        refine ⟨⟨fun _ _ h => h, fun x hx => List.mem_append_right _ hx, fun h => h.2⟩, fun R hR hg => ?_⟩
        obtain ⟨hF, _⟩ := hR.obs hg.obs
        obtain rfl := hF.len
        refine ⟨⟨rfl, fun _ => rfl⟩, fun p x hx => ?_⟩
        simp only [Blk.at] at hx ⊢
        split at hx
        · rename_i hlt
          rw [if_pos hlt]
          have hl := hF.row _ hlt
          have hc : p % k < (f' (p / k)).length := by have := (List.getElem?_eq_some_iff.1 hx).1; have := hl.1; have := hl.2.1; omega
          exact ⟨_, List.getElem?_eq_getElem hc, (hl.2.2 _ x _ hx (List.getElem?_eq_getElem hc)).rz hcb (fun i hi => hR.frz i (List.mem_append_left _ hi)) hg⟩
        · cases hx
  · cases h
theorem mE_ok {N : Ncb} (hcb : N.Ok hp) {d : Nat} {e' : Env} : ∀ {e : Env} {M M' : MS}, mE (mA stdH N hp n0 d) e' e M = some M' → M.le M' ∧ ∀ R : MS, M'.le R → R.good π m n0 Z → ∀ p ∈ e, ∃ y, lk p.1 e' = some y ∧ Rz Z n0 hp π m p.2 y
  | [], M, M', h => by simp only [mE, Option.some.injEq] at h; subst h; exact ⟨.refl _, by simp⟩
  | (t, x) :: e, M, M', h => by
    simp only [mE] at h
    cases hl : lk t e' with
    | none => simp [hl] at h
    | some y =>
      cases hm : mA stdH N hp n0 d x y M with
      | none => simp [hl, hm] at h
      | some M1 =>
        simp only [hl, hm] at h
        obtain ⟨h1, h2⟩ := mA_ok hcb (π := π) (m := m) (Z := Z) d x y M M1 hm
        obtain ⟨h3, h4⟩ := mE_ok hcb h
        refine ⟨h1.trans h3, fun R hR hg p hp => ?_⟩
        rcases List.mem_cons.1 hp with rfl | hp
        · exact ⟨y, hl, h2 R (h3.trans hR) hg⟩
        · exact h4 R hR hg p hp
theorem mH_ok {N : Ncb} (hcb : N.Ok hp) {d : Nat} : ∀ {h : Heap} {M M' : MS}, mH stdH N hp n0 d h M = some M' → M.le M' ∧ ∀ R : MS, M'.le R → R.good π m n0 Z → ∀ p ∈ h, p.1 < m ∧ ∃ b', lk (π p.1) hp = some b' ∧ RzB Z n0 hp π m p.2 b'
  | [], M, M', h => by simp only [mH, Option.some.injEq] at h; subst h; exact ⟨.refl _, by simp⟩
  | (i, b) :: l, M, M', h => by
    simp only [mH] at h
    cases hj : lk i M.ren with
    | none => simp [hj] at h
    | some j =>
      cases hl : lk j hp with
      | none => simp [hj, hl] at h
      | some b' =>
        cases hm : mB stdH N hp n0 d M b b' with
        | none => simp [hj, hl, hm] at h
        | some M1 =>
          simp only [hj, hl, hm] at h
          obtain ⟨h1, h2⟩ := mB_ok hcb (π := π) (m := m) (Z := Z) hm
          obtain ⟨h3, h4⟩ := mH_ok hcb h
          refine ⟨h1.trans h3, fun R hR hg p hp => ?_⟩
          rcases List.mem_cons.1 hp with rfl | hp
          · obtain ⟨e, hi⟩ := hg.ren i j (hR.ren _ _ (h3.ren _ _ (h1.ren _ _ hj)))
            exact ⟨hi, b', by rw [e]; exact hl, h2 R (h3.trans hR) hg⟩
          · exact h4 R hR hg p hp
theorem idn_lk : ∀ {n i : Nat}, i < n → lk i (idn n) = some i
  | n + 1, i, h => by
    simp only [idn, lk_cons]
    by_cases e : n = i
    · rw [if_pos e, e]
    · rw [if_neg e]; exact idn_lk (by omega)
theorem fresh_ok {x : Nat} : ∀ {r : List (Nat × Nat)}, fresh x r = true → ∀ i j, lk i r = some j → j ≠ x
  | [], _, i, j, h => by simp [lk] at h
  | (a, b) :: r, h, i, j, hl => by
    simp only [fresh, Bool.and_eq_true, Bool.not_eq_true'] at h
    rw [lk_cons] at hl
    by_cases e : a = i
    · rw [if_pos e] at hl; injection hl with hl; subst hl; intro he; subst he; have := h.1; simp at this
    · rw [if_neg e] at hl; exact fresh_ok h.2 i j hl
theorem dst_ok : ∀ {r : List (Nat × Nat)}, dst r = true → ∀ i i' j, lk i r = some j → lk i' r = some j → i = i'
  | [], _, i, i', j, h, _ => by simp [lk] at h
  | (a, b) :: r, h, i, i', j, h1, h2 => by
    simp only [dst, Bool.and_eq_true] at h
    rw [lk_cons] at h1 h2
    by_cases e : a = i
    · rw [if_pos e] at h1
      injection h1 with h1; subst h1
      by_cases e' : a = i'
      · omega
      · rw [if_neg e'] at h2; exact absurd rfl (fresh_ok h.1 _ _ h2)
    · rw [if_neg e] at h1
      by_cases e' : a = i'
      · rw [if_pos e'] at h2; injection h2 with h2; subst h2; exact absurd rfl (fresh_ok h.1 _ _ h1)
      · rw [if_neg e'] at h2; exact dst_ok h.2 i i' j h1 h2
theorem covers_ok {r : List (Nat × Nat)} : ∀ {n : Nat}, covers r n = true → ∀ i, i < n → ∃ j, lk i r = some j
  | n + 1, h, i, hi => by
    simp only [covers] at h
    cases e : lk n r with
    | none => simp [e] at h
    | some j =>
      simp only [e] at h
      by_cases e' : i = n
      · subst e'; exact ⟨j, e⟩
      · exact covers_ok h i (by omega)
theorem keysLt_ok {m : Nat} : ∀ {r : List (Nat × Nat)}, keysLt m r = true → ∀ i j, lk i r = some j → i < m
  | [], _, i, j, h => by simp [lk] at h
  | (a, b) :: r, h, i, j, hl => by
    simp only [keysLt, Bool.and_eq_true] at h
    rw [lk_cons] at hl
    by_cases e : a = i
    · subst e; simpa using h.1
    · rw [if_neg e] at hl; exact keysLt_ok h.2 i j hl
theorem frzOk_ok {r : List (Nat × Nat)} : ∀ {l : List Nat}, frzOk r l = true → ∀ x ∈ l, fresh x r = true
  | [], _, x, hx => by cases hx
  | j :: l, h, x, hx => by
    simp only [frzOk, Bool.and_eq_true] at h
    rcases List.mem_cons.1 hx with rfl | hx
    · exact h.1
    · exact frzOk_ok h.2 x hx
theorem zOk_ok {h : Heap} : ∀ {n : Nat}, zOk h n = true → (∀ p ∈ h, p.2.dead = false) ∧ ∀ i, i < n → ∃ b, lk i h = some b
  | 0, e => ⟨fun p hp => by simpa using List.all_eq_true.1 e p hp, fun i hi => by omega⟩
  | n + 1, e => by
    simp only [zOk] at e
    cases hl : lk n h with
    | none => simp [hl] at e
    | some b =>
      simp only [hl] at e
      obtain ⟨h1, h2⟩ := zOk_ok e
      refine ⟨h1, fun i hi => ?_⟩
      by_cases e' : i = n
      · subst e'; exact ⟨b, hl⟩
      · exact h2 i (by omega)
/-- The names that were frozen lie beyond the caller's. -/
theorem StLe.of_core {n0 : Nat} {t s : St} {N : Ncb} (hcb : N.Ok s.heap) {M R : MS} (h1 : mE (mA stdH N s.heap n0 8) s.env t.env ⟨idn n0, [], []⟩ = some M)
    (h2 : ∀ (π : Nat → Nat), M.le R ∧ ∀ R' : MS, R.le R' → R'.good π t.next n0 (ZOk n0 t) → ∀ p ∈ t.heap, p.1 < t.next ∧ ∃ b', lk (π p.1) s.heap = some b' ∧ RzB (ZOk n0 t) n0 s.heap π t.next p.2 b') (h3 : endSt n0 t R = true) (h : AllP R.obs) : StLe n0 t s := by
  simp only [endSt, Bool.and_eq_true, Bool.or_eq_true] at h3
  obtain ⟨e1, e2, e3, e4, e5, e6⟩ := h3
  let π : Nat → Nat := fun i => (lk i R.ren).getD 0
  obtain ⟨l1, l2⟩ := mE_ok hcb (π := π) (m := t.next) (Z := ZOk n0 t) h1
  obtain ⟨l3, l4⟩ := h2 π
  have hπ : ∀ i j, lk i R.ren = some j → π i = j := fun i j e => by simp only [π, e]; rfl
  have hn0 : n0 ≤ t.next := by simpa using e5
  have hg : R.good π t.next n0 (ZOk n0 t) := by
    refine ⟨fun i j e => ⟨hπ i j e, keysLt_ok e3 i j e⟩, fun j hj => ?_, h⟩
    rcases e6 with e6 | ⟨e6, e7⟩
    · rw [isNil_eq e6] at hj; cases hj
    · obtain ⟨z1, z2⟩ := zOk_ok e7
      have hf := frzOk_ok e6 j hj
      have hne : ∀ i, i < t.next → π i ≠ j := fun i hi => by
        obtain ⟨q, hq⟩ := covers_ok e2 i hi
        rw [hπ i q hq]; exact fresh_ok hf i q hq
      refine ⟨⟨fun i b hb => z1 (i, b) (lk_in hb), z2⟩, ?_, hne⟩
      rcases Nat.lt_or_ge j n0 with hlt | hge
      · have := hne j (by omega)
        exact absurd (hπ j j ((l1.trans l3).ren _ _ (idn_lk hlt))) this
      · exact hge
  refine ⟨π, fun k x hx => ?_, fun i b hb => ?_, fun i hi => hπ i i ((l1.trans l3).ren _ _ (idn_lk hi)), fun i j hi hj e => ?_, hn0⟩
  · exact l2 R l3 hg (k, x) (lk_in hx)
  · exact l4 R (.refl _) hg (i, b) (lk_in hb)
  · obtain ⟨a, ha⟩ := covers_ok e2 i hi
    obtain ⟨b, hb⟩ := covers_ok e2 j hj
    rw [hπ i a ha, hπ j b hb] at e
    subst e
    exact dst_ok e1 i j a ha hb
theorem StLe.of_match {n0 : Nat} {t s : St} (h : AllG (matchSt stdH n0 t s)) : StLe n0 t s := by
  unfold matchSt at h
  cases h1 : mE (mA stdH noN s.heap n0 8) s.env t.env ⟨idn n0, [], []⟩ with
  | none => simp only [h1] at h; exact h.elim
  | some M =>
    cases h2 : mH stdH noN s.heap n0 8 t.heap M with
    | none => simp only [h1, h2] at h; exact h.elim
    | some R =>
      cases h3 : endSt n0 t R with
      | false => simp only [h1, h2, h3, cond_false] at h; exact h.elim
      | true =>
        simp only [h1, h2, h3, cond_true, AllG] at h
        exact .of_core noN_ok h1 (fun π => mH_ok noN_ok (π := π) (m := t.next) (Z := ZOk n0 t) h2) h3 h

/-! ### Rows that hold slices: those of the call's own are let go -/
end Go.Proofs.Ytpilblmncpeelaa.AM

namespace Go.Proofs.Ytpilblmncpeelaa.AM
def newOf (n0 : Nat) : List (Nat × Nat) → List (Nat × Nat)
  | [] => []
  | (i, j) :: r => bif Nat.ble n0 i then (i, j) :: newOf n0 r else newOf n0 r
def oldOk (n0 : Nat) (u : Heap) : List (Nat × Nat) → Bool
  | [] => true
  | (_, j) :: r => (Nat.ble n0 j || u.all fun q => !Nat.beq q.1 j || q.2.dead) && oldOk n0 u r
def endEx (n0 : Nat) (nw : List Blk) (u : Heap) (M : MS) : Bool := dst (newOf n0 M.ren) && (covers M.ren (n0 + nw.length) && (keysLt (n0 + nw.length) M.ren && (heapLt n0 u && (oldOk n0 u (newOf n0 M.ren) && (nw.all (fun b => !b.dead) && (isNil M.frz || (frzOk M.ren M.frz && u.all fun p => !p.2.dead)))))))
/-- A result and blocks against a contract's: what is left to be shown. -/
def matchEx (H : Hold) (n0 : Nat) (r : AV) (nw : List Blk) (u : Heap) (x : AV) (hp : Heap) : Option (List Prop) := match mA H noN hp n0 8 r x ⟨idn n0, [], []⟩ with
  | some M => (match mH H noN hp n0 8 (named n0 nw) M with
    | some M => (match mH H noN hp n0 8 u M with
      | some M => bif endEx n0 nw u M then some M.obs else none
      | none => none)
    | none => none)
  | none => none
theorem lk_newOf {n0 i : Nat} (h : n0 ≤ i) : ∀ r, lk i (newOf n0 r) = lk i r
  | [] => rfl
  | (a, b) :: r => by
    simp only [newOf]
    cases e : Nat.ble n0 a with
    | true => simp only [cond_true, lk_cons, lk_newOf h r]
    | false =>
      have : a ≠ i := by rintro rfl; rw [← Bool.not_eq_true] at e; simp at e; omega
      simp only [cond_false, lk_cons, if_neg this, lk_newOf h r]
theorem oldOk_ok {n0 : Nat} {u : Heap} : ∀ {r : List (Nat × Nat)}, oldOk n0 u r = true → ∀ i j, lk i r = some j → j < n0 → ∀ b, (j, b) ∈ u → b.dead = true
  | [], _, i, j, h, _, _, _ => by simp [lk] at h
  | (a, q) :: r, h, i, j, hl, hj, b, hb => by
    simp only [oldOk, Bool.and_eq_true, Bool.or_eq_true] at h
    rw [lk_cons] at hl
    by_cases e : a = i
    · rw [if_pos e] at hl
      injection hl with hl; subst hl
      rcases h.1 with h1 | h1
      · simp at h1; omega
      · have := List.all_eq_true.1 h1 _ hb
        simpa using this
    · rw [if_neg e] at hl; exact oldOk_ok h.2 i j hl hj b hb
theorem heapLt_ok {m : Nat} : ∀ {h : Heap}, heapLt m h = true → ∀ p ∈ h, p.1 < m
  | [], _, p, hp => by cases hp
  | (i, b) :: r, h, p, hp => by
    simp only [heapLt, Bool.and_eq_true] at h
    rcases List.mem_cons.1 hp with rfl | hp
    · simpa using h.1
    · exact heapLt_ok h.2 p hp
theorem Exp.of_coreEx {n0 : Nat} {r : AV} {nw : List Blk} {u : Heap} {x : AV} {hp : Heap} {N : Ncb} (hcb : N.Ok hp) {M1 M2 R : MS} (h1 : mA stdH N hp n0 8 r x ⟨idn n0, [], []⟩ = some M1) (h2 : mH stdH N hp n0 8 (named n0 nw) M1 = some M2) (h3 : mH stdH N hp n0 8 u M2 = some R) (h4 : endEx n0 nw u R = true) (h : AllP R.obs) : ∃ π, Exp π n0 r nw u x hp := by
  simp only [endEx, Bool.and_eq_true, Bool.or_eq_true] at h4
  obtain ⟨e1, e2, e3, e4, e5, e6, e7⟩ := h4
  let π : Nat → Nat := fun i => (lk i R.ren).getD 0
  let Z : Prop := ∀ i b, (i, b) ∈ u → b.dead = false
  obtain ⟨l1, l2⟩ := mA_ok hcb (π := π) (m := n0 + nw.length) (Z := Z) 8 r x _ _ h1
  obtain ⟨l3, l4⟩ := mH_ok hcb (π := π) (m := n0 + nw.length) (Z := Z) h2
  obtain ⟨l5, l6⟩ := mH_ok hcb (π := π) (m := n0 + nw.length) (Z := Z) h3
  have hπ : ∀ i j, lk i R.ren = some j → π i = j := fun i j e => by simp only [π, e]; rfl
  have hid : ∀ i, i < n0 → lk i R.ren = some i := fun i hi => ((l1.trans l3).trans l5).ren _ _ (idn_lk hi)
  have hg : R.good π (n0 + nw.length) n0 Z := by
    refine ⟨fun i j e => ⟨hπ i j e, keysLt_ok e3 i j e⟩, fun j hj => ?_, h⟩
    rcases e7 with e7 | ⟨e7, e8⟩
    · rw [isNil_eq e7] at hj; cases hj
    · have hf := frzOk_ok e7 j hj
      have hne : ∀ i, i < n0 + nw.length → π i ≠ j := fun i hi => by
        obtain ⟨q, hq⟩ := covers_ok e2 i hi
        rw [hπ i q hq]; exact fresh_ok hf i q hq
      refine ⟨fun i b hb => by simpa using List.all_eq_true.1 e8 _ hb, ?_, hne⟩
      rcases Nat.lt_or_ge j n0 with hlt | hge
      · exact absurd (hπ j j (hid j hlt)) (hne j (by omega))
      · exact hge
  refine ⟨π, fun i hi => hπ i i (hid i hi), fun i j h1 h2 h3 h4 e => ?_, fun i h1 h2 h3 b hb => ?_, l2 R (l3.trans l5) hg, fun i b hb => ?_, fun i b hb => ?_⟩
  · obtain ⟨a, ha⟩ := covers_ok e2 i h2
    obtain ⟨b, hb⟩ := covers_ok e2 j h4
    rw [hπ i a ha, hπ j b hb] at e
    subst e
    exact dst_ok e1 i j a (by rw [lk_newOf h1]; exact ha) (by rw [lk_newOf h3]; exact hb)
  · obtain ⟨a, ha⟩ := covers_ok e2 i h2
    rw [hπ i a ha] at h3 hb
    exact oldOk_ok e5 i a (by rw [lk_newOf h1]; exact ha) h3 b hb
  · obtain ⟨_, b', h5, h6⟩ := l4 R l5 hg (i, b) hb
    obtain ⟨q1, q2⟩ := mem_named.1 hb
    have hd : b.dead = false := by simpa using List.all_eq_true.1 e6 b (List.mem_of_getElem? q2)
    exact ⟨b', h5, h6.1.2 hd, h6⟩
  · obtain ⟨_, b', h5, h6⟩ := l6 R (.refl _) hg (i, b) hb
    have hi := heapLt_ok e4 _ hb
    rw [show π i = i from hπ i i (hid i hi)] at h5
    exact ⟨b', h5, h6⟩
theorem Exp.of_match {n0 : Nat} {r : AV} {nw : List Blk} {u : Heap} {x : AV} {hp : Heap} (h : AllG (matchEx stdH n0 r nw u x hp)) : ∃ π, Exp π n0 r nw u x hp := by
  unfold matchEx at h
  cases h1 : mA stdH noN hp n0 8 r x ⟨idn n0, [], []⟩ with
  | none => simp only [h1] at h; exact h.elim
  | some M1 =>
    cases h2 : mH stdH noN hp n0 8 (named n0 nw) M1 with
    | none => simp only [h1, h2] at h; exact h.elim
    | some M2 =>
      cases h3 : mH stdH noN hp n0 8 u M2 with
      | none => simp only [h1, h2, h3] at h; exact h.elim
      | some R =>
        cases h4 : endEx n0 nw u R with
        | false => simp only [h1, h2, h3, h4, cond_false] at h; exact h.elim
        | true =>
          simp only [h1, h2, h3, h4, cond_true, AllG] at h
          exact Exp.of_coreEx noN_ok h1 h2 h3 h4 h
/-! ### Trees whose leaves are what is left to be shown -/
def Fin.chk (m : AV → Heap → Option (List Prop)) : Fin → Fin
  | .ret (some x) h => (match m x h with
    | some ps => .need ps (.ret none [])
    | none => .bad)
  | .ret none _ => .bad
  | .br b x y => .br b (x.chk m) (y.chk m)
  | .need p x => .need p (x.chk m)
  | .again l s => .again l s
  | .loop c ctx s => .loop c ctx s
  | .bad => .bad
def Fin.satC (P : Program) (X : Ctx) (τ : Tab) (rs : List ResultVar) (R : AV → Heap → Prop) (As : Nat → St → Prop) : Fin → Prop
  | .ret none _ => True
  | .ret (some _) _ => False
  | .again l s => As l s
  | .br b x y => (b = true → x.satC P X τ rs R As) ∧ (b = false → y.satC P X τ rs R As)
  | .need p x => AllP p ∧ x.satC P X τ rs R As
  | .loop c ctx s => (Fin.loop c ctx s).sat P X τ rs R As
  | .bad => False
section
variable {P : Program} {Γ : Cons} {τ : Tab} {X : Ctx} {rs : List ResultVar} {R : AV → Heap → Prop} {As : Nat → St → Prop} {m : AV → Heap → Option (List Prop)}
theorem Fin.chk_sat (hm : ∀ x h, AllG (m x h) → R x h) : ∀ {t : Fin}, (t.chk m).satC P X τ rs R As → t.sat P X τ rs R As
  | .ret (some x) h, e => by
    unfold Fin.chk at e
    cases hq : m x h with
    | none => rw [hq] at e; exact e.elim
    | some ps => rw [hq] at e; exact ⟨x, rfl, hm x h (by rw [hq]; exact e.1)⟩
  | .ret none _, e => e.elim
  | .br _ _ _, e => ⟨fun h => Fin.chk_sat hm (e.1 h), fun h => Fin.chk_sat hm (e.2 h)⟩
  | .need _ _, e => ⟨e.1, Fin.chk_sat hm e.2⟩
  | .again _ _, e => e
  | .loop _ _ _, e => e
  | .bad, e => e
theorem Fin.satC_ret {h : Heap} : (Fin.ret none h).satC P X τ rs R As = True := rfl
theorem Fin.satC_again {l : Nat} {s : St} : (Fin.again l s).satC P X τ rs R As = As l s := rfl
theorem Fin.satC_br {b : Bool} {x y : Fin} : (Fin.br b x y).satC P X τ rs R As = ((b = true → x.satC P X τ rs R As) ∧ (b = false → y.satC P X τ rs R As)) := rfl
theorem Fin.satC_need {p : List Prop} {x : Fin} : (Fin.need p x).satC P X τ rs R As = (AllP p ∧ x.satC P X τ rs R As) := rfl
/-- A loop: a pattern of its states, and a measure that falls. -/
theorem loop_m (hB : Base P Γ τ) (hD : DrawOk P Γ τ) {c : Code} {k : List KI} {ctx : List (List KI)} {s : St} {N n0 : Nat} (hN : X.N = N) (h0 : X.n0 = n0) {H : Hold} (hH : H = stdH) {ι : Type} (n : Nat) (I : ι → St) (μ : ι → Nat) (i0 : ι) (hi : AllG (matchSt H n0 (I i0) s))
    {n1 : Nat} {r : AV} {nw : List Blk} {u : Heap} (round : ∀ i, ((finish H Γ τ N n rs (k :: ctx) (arun H Γ τ N n [.code c] (I i))).chk (matchEx H n1 r nw u)).satC P X τ rs (fun x hp => ∃ π, Exp π n1 r nw u x hp) (upd As (ctx.length + 1) (fun s' => ∃ j, μ j < μ i ∧ AllG (matchSt H n0 (I j) s')))) : (Fin.loop c (k :: ctx) s).satC P X τ rs (fun x hp => ∃ π, Exp π n1 r nw u x hp) As := by
  subst hN; subst h0; subst hH
  intro a w hs
  show (Code.loop c).wp P (contOf P (postS P X τ rs _ As ctx) k) a w
  refine wp_loop_ghost (fun n a w => ∃ i, μ i = n ∧ Sat X (I i) a w) (μ i0) ⟨i0, rfl, hs.le (StLe.of_match hi)⟩ ?_
  rintro n' a w ⟨i, rfl, hi⟩
  have := arun_ok hB hD n [.code c] (I i) a w (finish_sat hB hD (k :: ctx) (Fin.chk_sat (fun x h e => Exp.of_match e) (round i))) hi
  refine wp_mono this fun e a w he => ?_
  cases e with
  | normal =>
    obtain ⟨s', h1, h2⟩ := he
    simp only [upd, if_true] at h1
    obtain ⟨j, h3, h4⟩ := h1
    exact ⟨μ j, h3, j, rfl, h2.le (StLe.of_match h4)⟩
  | _ =>
    have he' : contOf P (postS P X τ rs _ (upd As (ctx.length + 1) _) ctx) k _ a w := he
    rw [postS_upd ctx (by omega)] at he'
    exact he'
/-- A loop's rounds from here on. -/
def LK (P : Program) (c : Code) (Q : Exit → Act → World → Prop) (a : Act) (w : World) : Prop := ∀ b k cs, ∃ e a' w', Q e a' w' ∧ Arrives P (lone (b.at a (.code c :: .inLoop c :: k)) cs w) b k cs e a' w'
theorem LK.round {P : Program} {c : Code} {Q : Exit → Act → World → Prop} {a : Act} {w : World} (h : c.wp P (Exit.then (LK P c Q) Q) a w) : LK P c Q a w := by
  intro b k cs
  obtain ⟨e, a₁, w₁, hq, harr⟩ := h b (.inLoop c :: k) cs
  cases e with
  | normal =>
    obtain ⟨e₂, a₂, w₂, hq₂, harr₂⟩ := (show LK P c Q a₁ w₁ from hq) b k cs
    exact ⟨e₂, a₂, w₂, hq₂, .of_steps (Steps.trans harr (.one step_inLoop)) harr₂⟩
  | exit id => exact ⟨_, a₁, w₁, hq, .pass (x := .inLoop c) rfl (fun _ _ => .inl (by simp)) harr⟩
  | goto l => exact ⟨_, a₁, w₁, hq, .pass (x := .inLoop c) rfl (fun _ _ => .inl (by simp)) harr⟩
  | ret => exact ⟨_, a₁, w₁, hq, .pass (x := .inLoop c) rfl (fun _ _ => .inl (by simp)) harr⟩
  | panic ch => exact ⟨_, a₁, w₁, hq, .pass (x := .inLoop c) rfl (fun _ _ => .inl (by simp)) harr⟩
  | outgrown => exact ⟨_, a₁, w₁, hq, .pass (x := .inLoop c) rfl (fun _ _ => .inl (by simp)) harr⟩
theorem LK.wp {P : Program} {c : Code} {Q : Exit → Act → World → Prop} {a : Act} {w : World} (h : LK P c Q a w) : (Code.loop c).wp P Q a w := by
  intro b k cs
  obtain ⟨e, a', w', hq, harr⟩ := h b k cs
  exact ⟨e, a', w', hq, .of_steps (.one step_loop) harr⟩
/-- A contract, from the machine's run of the body. -/
theorem con_m (hB : Base P Γ τ) (hD : DrawOk P Γ τ) {f : FuncId} {fn : Func} {N : Nat} (hf : P.funcs[f]? = some fn) (hb0 : fn.body.isSome = true) (hN : fn.ntmps = N) (A : Hold → List AV) (h : Hold → Heap) (n0 : Nat) (r : Hold → AV) (nw : Hold → List Blk) (u : Hold → Heap) (fuel : Nat)
    (hlen : (A stdH).length ≤ N) (hargs : ∀ x ∈ A stdH, Bl n0 x) (hblk : ∀ i b, lk i (h stdH) = some b → i < n0 ∧ BlB n0 b ∧ ∃ b', (i, b') ∈ u stdH) (hkey : ∀ i, i < n0 → ∃ b, lk i (h stdH) = some b) (hu : ∀ i b, (i, b) ∈ u stdH → ∃ b', lk i (h stdH) = some b')
    (hrun : ∀ (X : Ctx), X.N = N → X.n0 = n0 → ∀ (H : Hold), H = stdH → ((finish H Γ τ N fuel fn.results.toList [] (arun H Γ τ N fuel [.code (bodyOf fn)] ⟨envOf 0 (A H), h H, n0⟩)).chk (matchEx H n0 (r H) (nw H) (u H))).satC P X τ fn.results.toList (fun x hp => ∃ π, Exp π n0 (r H) (nw H) (u H) x hp) (fun _ _ => False)) : ConN P f (A stdH) (h stdH) n0 (r stdH) (nw stdH) (u stdH) :=
  con_okX hB hD hf hb0 hN (A stdH) (h stdH) n0 (r stdH) (nw stdH) (u stdH) fuel hlen hargs hblk hkey hu fun X h1 h2 H hH => by
    subst hH
    exact Fin.chk_sat (fun x h e => Exp.of_match e) (hrun X h1 h2 stdH rfl)
end
/-! ### The pattern of a loop's states -/
/-- What varies: numbers, truths, texts, rows. -/
inductive Atom where
  | i (a : Int)
  | b (b : Bool)
  | s (s : ByteArray)
  | r (n : Nat) (f : Nat → List AV)
def opsR : List Oper → List Nat
  | [] => []
  | o :: r => tmpsOf o.op.operands.toList ++ opsR r
def opsW : List Oper → List Nat
  | [] => []
  | o :: r => o.dst.toList ++ opsW r
def codeR : Code → List Nat
  | .seq a b => codeR a ++ codeR b
  | .cond c a b => tmpsOf [c] ++ (codeR a ++ codeR b)
  | .block _ b => codeR b
  | .loop b => codeR b
  | .region _ ops _ => opsR ops.toList
  | _ => []
def codeW : Code → List Nat
  | .seq a b => codeW a ++ codeW b
  | .cond _ a b => codeW a ++ codeW b
  | .block _ b => codeW b
  | .loop b => codeW b
  | .region _ ops _ => opsW ops.toList
  | _ => []
def kiR : List KI → List Nat
  | [] => []
  | .code c :: k => codeR c ++ kiR k
  | .lp c :: k => codeR c ++ kiR k
  | .blk _ :: k => kiR k
def rsR : List ResultVar → List Nat
  | [] => []
  | .tmp t :: r => t :: rsR r
  | .cell t _ :: r => t :: rsR r
def codeO : Code → List Oper
  | .seq a b => codeO a ++ codeO b
  | .cond _ a b => codeO a ++ codeO b
  | .block _ b => codeO b
  | .loop b => codeO b
  | .region _ ops _ => ops.toList
  | _ => []
/-- Slots through which something may be written. -/
def wr0 : Op → List Nat
  | .store _ x _ => tmpsOf [x]
  | _ => []
def wr1 : Op → List Nat
  | .call c => (match c.callee with
    | .value f => tmpsOf [f] ++ tmpsOf c.args.toList
    | .builtin .len => []
    | .builtin .min => []
    | .builtin .max => []
    | _ => tmpsOf c.args.toList)
  | _ => []
def wrs (f : Op → List Nat) : List Oper → List Nat
  | [] => []
  | o :: r => f o.op ++ wrs f r
def bk1 (ld : Bool) : Op → List Nat
  | .move x => tmpsOf [x]
  | .assign x => tmpsOf [x]
  | .fieldAddr _ x _ => tmpsOf [x]
  | .indexAddr _ x _ => tmpsOf [x]
  | .nilCheck x => tmpsOf [x]
  | .load _ x => bif ld then tmpsOf [x] else []
  | .slice _ x _ _ _ => tmpsOf [x]
  | .makeFunc _ a c => tmpsOf a.toList ++ tmpsOf c.toList
  | _ => []
/-- One step back along pointers, from the end of the text. -/
def bks (ld : Bool) : List Oper → List Nat → List Nat
  | [], l => l
  | o :: r, l => match bks ld r l with
    | l => (match o.dst with
      | some d => bif l.any (Nat.beq d) then union (bk1 ld o.op) l else l
      | none => l)
def ptrs : Nat → AV → List Nat
  | 0, _ => []
  | d + 1, x => match x with
    | .ptr i _ => [i]
    | .slc i _ _ _ => [i]
    | .elm i _ _ _ => [i]
    | .agg l => l.flatMap (ptrs d)
    | .tup l => l.flatMap (ptrs d)
    | .fn _ a l => a.flatMap (ptrs d) ++ l.flatMap (ptrs d)
    | _ => []
def hotE (l : List Nat) : Env → List Nat
  | [] => []
  | (t, x) :: e => bif l.any (Nat.beq t) then union (ptrs 4 x) (hotE l e) else hotE l e
def hotH (hp : Heap) : List Nat → List Nat
  | [] => []
  | i :: r => match lk i hp with
    | some (.cells l _) => union (l.flatMap (ptrs 4)) (hotH hp r)
    | _ => hotH hp r
def hotB (hp : Heap) : Nat → List Nat → List Nat
  | 0, l => l
  | d + 1, l => hotB hp d (union (hotH hp l) l)
/-- The blocks that a loop may change. -/
def hot (c : Code) (s : St) : List Nat := match codeO c with
  | os => hotB s.heap 2 (union (hotE (bks true os (bks true os (wrs wr0 os))) s.env) (hotE (bks false os (bks false os (wrs wr1 os))) s.env))
structure IS where
  ren : List (Nat × Nat)
  nxt : Nat
  at' : List Atom
  blks : Heap
  todo : List (Nat × Nat)
def nat3 : Nat → Bool
  | 0 => false
  | _ => true
/-- Mode 0: as it is; 1: varies; 2: a cell (slices that are only read stay). -/
def vA (hp : Heap) (ho : List Nat) (md : Nat) : Nat → AV → IS → Option (AV × IS)
  | 0, _, _ => none
  | d + 1, x, S => match x with
    | .lit v => (match nat3 md with
      | false => some (.lit v, S)
      | true => (match v, S.at' with
        | .int k _, .i a :: l => some (.lit (.int k a), ⟨S.ren, S.nxt, l, S.blks, S.todo⟩)
        | .int _ _, _ => none
        | .bool _, .b a :: l => some (.lit (.bool a), ⟨S.ren, S.nxt, l, S.blks, S.todo⟩)
        | .bool _, _ => none
        | .string _, .s a :: l => some (.lit (.string a), ⟨S.ren, S.nxt, l, S.blks, S.todo⟩)
        | .string _, _ => none
        | v, _ => some (.lit v, S)))
    | .num n => (match md with
      | 1 => (match S.at' with
        | .i a :: l => some (.lit (.int .i64 a), ⟨S.ren, S.nxt, l, S.blks, S.todo⟩)
        | _ => none)
      | _ => some (.num n, S))
    | .kb b => (match md with
      | 1 => (match S.at' with
        | .b a :: l => some (.lit (.bool a), ⟨S.ren, S.nxt, l, S.blks, S.todo⟩)
        | _ => none)
      | _ => some (.kb b, S))
    | .ptr i o => (match lk i S.ren with
      | some j => some (.ptr j o, S)
      | none => some (.ptr S.nxt o, ⟨S.ren ++ [(i, S.nxt)], S.nxt + 1, S.at', S.blks, S.todo ++ [(i, S.nxt)]⟩))
    | .slc i o k n => (match lk i S.ren with
      | some j => (match lk j S.blks with
        | some (.rows _ n' _ _) => (match md with
          | 0 => some (.slc j o k n, S)
          | _ => some (.slc j o k n', S))
        | some (.cells (_ :: _) _) => some (.slc j o k n, S)
        | some _ => none
        | none => (match lk i hp with
          | some (.cells (_ :: _) _) => some (.slc j o k n, S)
          | some (.rows k' n' f' E) => (match nat3 md || ho.any (Nat.beq i) with
            | false => some (.slc j o k n, ⟨S.ren, S.nxt, S.at', S.blks ++ [(j, .rows k' n' f' E)], S.todo⟩)
            | true => (match S.at' with
              | .r n2 f2 :: l => some (.slc j o k (match md with | 0 => n | _ => n2), ⟨S.ren, S.nxt, l, S.blks ++ [(j, .rows k' n2 f2 E)], S.todo⟩)
              | _ => none))
          | _ => none))
      | none => (match lk i hp with
        | some (.cells (_ :: _) _) => some (.slc S.nxt o k n, ⟨S.ren ++ [(i, S.nxt)], S.nxt + 1, S.at', S.blks, S.todo ++ [(i, S.nxt)]⟩)
        | some (.rows k' n' f' E) => (match nat3 md || ho.any (Nat.beq i) with
          | false => some (.slc S.nxt o k n, ⟨S.ren ++ [(i, S.nxt)], S.nxt + 1, S.at', S.blks ++ [(S.nxt, .rows k' n' f' E)], S.todo⟩)
          | true => (match S.at' with
            | .r n2 f2 :: l => some (.slc S.nxt o k (match md with | 0 => n | _ => n2), ⟨S.ren ++ [(i, S.nxt)], S.nxt + 1, l, S.blks ++ [(S.nxt, .rows k' n2 f2 E)], S.todo⟩)
            | _ => none))
        | _ => none))
    | .vec k n f => (match md with
      | 1 => (match S.at' with
        | .r n2 f2 :: l => some (.vec k n2 f2, ⟨S.ren, S.nxt, l, S.blks, S.todo⟩)
        | _ => none)
      | _ => some (.vec k n f, S))
    | .ful k n f => (match md with
      | 1 => (match S.at' with
        | .r n2 f2 :: l => some (.vec k n2 f2, ⟨S.ren, S.nxt, l, S.blks, S.todo⟩)
        | _ => none)
      | _ => some (.ful k n f, S))
    | .agg l => (match vL (vA hp ho md d) l S with
      | some (l', S) => some (.agg l', S)
      | none => none)
    | .tup l => (match vL (vA hp ho md d) l S with
      | some (l', S) => some (.tup l', S)
      | none => none)
    | .fn f a l => (match vL (vA hp ho 0 d) l S with
      | some (l', S) => some (.fn f a l', S)
      | none => none)
    | .rptr l => some (.rptr l, S)
    | _ => none
where vL (f : AV → IS → Option (AV × IS)) : List AV → IS → Option (List AV × IS)
  | [], S => some ([], S)
  | x :: l, S => (match f x S with
    | some (y, S) => (match vL f l S with
      | some (l', S) => some (y :: l', S)
      | none => none)
    | none => none)
def vE (hp : Heap) (ho rd wr : List Nat) : Env → IS → Env × IS
  | [], S => ([], S)
  | (t, x) :: e, S => bif rd.any (Nat.beq t) then (match vA hp ho (bif wr.any (Nat.beq t) then 1 else 0) 6 x S with
    | some (y, S) => (match vE hp ho rd wr e S with
      | (e', S) => ((t, y) :: e', S))
    | none => vE hp ho rd wr e S) else vE hp ho rd wr e S
def vH (hp : Heap) (ho : List Nat) : Nat → IS → IS
  | 0, S => S
  | d + 1, S => match S.todo with
    | [] => S
    | (i, j) :: r => bif (lk j S.blks).isSome then vH hp ho d ⟨S.ren, S.nxt, S.at', S.blks, r⟩ else (match lk i hp with
      | some (.cells l T) => (match vA.vL (vA hp ho (bif ho.any (Nat.beq i) then 2 else 0) 6) l ⟨S.ren, S.nxt, S.at', S.blks, r⟩ with
        | some (l', S') => vH hp ho d ⟨S'.ren, S'.nxt, S'.at', S.blks ++ (j, .cells l' T) :: S'.blks.drop S.blks.length, S'.todo⟩
        | none => S)
      | some (.rows k n f E) => (match ho.any (Nat.beq i) with
        | false => vH hp ho d ⟨S.ren, S.nxt, S.at', S.blks ++ [(j, .rows k n f E)], r⟩
        | true => (match S.at' with
          | .r n2 f2 :: l => vH hp ho d ⟨S.ren, S.nxt, l, S.blks ++ [(j, .rows k n2 f2 E)], r⟩
          | _ => S))
      | none => S)
/-- The pattern of the states at a loop: what the loop may change, filled with the atoms. -/
def mkI (n0 : Nat) (all : Bool) (c : Code) (ctx : List (List KI)) (rs : List ResultVar) (s : St) (l : List Atom) : St :=
  match hot c s with
  | ho => (match vE s.heap ho (bif all then s.env.map (·.1) else codeR c ++ (rsR rs ++ kiR ctx.flatten)) (codeW c) s.env ⟨idn n0, n0, l, [], (idn n0).reverse⟩ with
    | (e, S) => (match vH s.heap ho 20 S with
      | S => ⟨e, S.blks, S.nxt⟩))
section
variable {P : Program} {Γ : Cons} {τ : Tab} {X : Ctx} {rs : List ResultVar} {As : Nat → St → Prop}
/-- A loop whose pattern is read off the state at its head. -/
theorem loop_a (hB : Base P Γ τ) (hD : DrawOk P Γ τ) {c : Code} {k : List KI} {ctx : List (List KI)} {s : St} {N n0 : Nat} (hN : X.N = N) (h0 : X.n0 = n0) {H : Hold} (hH : H = stdH) (all : Bool) {ι : Type} (n : Nat) (at' : ι → List Atom) (μ : ι → Nat) (i0 : ι) (hi : AllG (matchSt H n0 (mkI n0 all c (k :: ctx) rs s (at' i0)) s))
    {n1 : Nat} {r : AV} {nw : List Blk} {u : Heap} (round : ∀ (I : ι → St), (∀ i, I i = mkI n0 all c (k :: ctx) rs s (at' i)) → ∀ i, ((finish H Γ τ N n rs (k :: ctx) (arun H Γ τ N n [.code c] (mkI n0 all c (k :: ctx) rs s (at' i)))).chk (matchEx H n1 r nw u)).satC P X τ rs (fun x hp => ∃ π, Exp π n1 r nw u x hp) (upd As (ctx.length + 1) (fun s' => ∃ j, μ j < μ i ∧ AllG (matchSt H n0 (I j) s')))) : (Fin.loop c (k :: ctx) s).satC P X τ rs (fun x hp => ∃ π, Exp π n1 r nw u x hp) As :=
  loop_m hB hD hN h0 hH n (fun i => mkI n0 all c (k :: ctx) rs s (at' i)) μ i0 hi (round _ fun _ => rfl)
end
end Go.Proofs.Ytpilblmncpeelaa.AM

namespace Go.Proofs.Ytpilblmncpeelaa.AM
/-- How a value of a type lies in the cells of a row. -/
structure RowD (α : Type) where
  k : Nat
  d : α
  cells : Hold → (Unit → α) → List AV
  of : List AV → α
  rows : Hold → (Unit → List α) → Nat → List AV
structure RowOk {α : Type} (D : RowD α) : Prop where
  len : ∀ x, (D.cells stdH x).length = D.k
  bl : ∀ x, ∀ c ∈ D.cells stdH x, Bl 0 c
  of_cells : ∀ x : α, D.of (D.cells stdH fun _ => x) = x
  row : ∀ (L : Unit → List α) (j : Nat), D.rows stdH L j = D.cells stdH fun _ => (L ()).getD j D.d
def rowsT {α : Type} (D : RowD α) : Hold → (Unit → List α) → Nat → List AV := D.rows
def vT {α : Type} (D : RowD α) (H : Hold) (L : Unit → List α) : AV := .vec D.k (H Nat fun _ => (L ()).length) (rowsT D H L)
def bT {α : Type} (D : RowD α) (H : Hold) (E : TypeId) (L : Unit → List α) : Blk := .rows D.k (H Nat fun _ => (L ()).length) (rowsT D H L) E
def Tl {α : Type} (D : RowD α) (n : Nat) (f : Nat → List AV) : List α := (List.range n).map fun j => D.of (f j)
structure Shp {α : Type} (D : RowD α) (n : Nat) (f : Nat → List AV) : Prop where
  row : ∀ j, j < n → f j = D.cells stdH fun _ => D.of (f j)
section
variable {α : Type} {D : RowD α}
theorem Tl_len (n : Nat) (f : Nat → List AV) : (Tl D n f).length = n := by simp [Tl]
theorem Tl_getD {n : Nat} {f : Nat → List AV} {j : Nat} (h : j < n) (d : α) : (Tl D n f).getD j d = D.of (f j) := by simp [Tl, List.getD_eq_getElem?_getD, h]
theorem Tl_rowsT (ok : RowOk D) (L : List α) : Tl D L.length (rowsT D stdH fun _ => L) = L := by
  refine List.ext_getElem (by simp [Tl]) fun i h1 h2 => ?_
  simp only [Tl, List.getElem_map, List.getElem_range, rowsT, ok.row, ok.of_cells, List.getD_eq_getElem?_getD, List.getElem?_eq_getElem h2, Option.getD_some]
theorem Shp_rowsT (ok : RowOk D) (n : Nat) (L : Unit → List α) : Shp D n (rowsT D stdH L) := ⟨fun j _ => by simp only [rowsT, ok.row, ok.of_cells]⟩
theorem app_lt {n j : Nat} {f g : Nat → List AV} (h : j < n) : app n f g j = f j := by unfold app; rw [show Nat.blt j n = true by simpa using h]; rfl
theorem app_ge {n j : Nat} {f g : Nat → List AV} (h : n ≤ j) : app n f g j = g (j - n) := by unfold app; rw [show Nat.blt j n = false by rw [← Bool.not_eq_true]; simpa using h]; rfl
theorem Tl_app (n m : Nat) (f g : Nat → List AV) : Tl D (n + m) (app n f g) = Tl D n f ++ Tl D m g := by
  refine List.ext_getElem (by simp [Tl]) fun i h1 h2 => ?_
  simp only [Tl, List.getElem_map, List.getElem_range, List.getElem_append, List.length_map, List.length_range]
  split
  · rename_i h; rw [app_lt h]
  · rename_i h; rw [app_ge (by omega)]
theorem Shp_app {n m : Nat} {f g : Nat → List AV} (hf : Shp D n f) (hg : Shp D m g) : Shp D (n + m) (app n f g) := ⟨fun j hj => by
  by_cases h : j < n
  · rw [app_lt h]; exact hf.row j h
  · rw [app_ge (by omega)]; exact hg.row _ (by omega)⟩
theorem Shp_zero (f : Nat → List AV) : Shp D 0 f := ⟨fun j h => by omega⟩
theorem Tl_one {k : Nat} {cs : List AV} : Tl D 1 (rowsOf k cs) = [D.of (cs.take k)] := by simp [Tl, rowsOf]
theorem Shp_one {k : Nat} {cs : List AV} (h : cs.take k = D.cells stdH fun _ => D.of (cs.take k)) : Shp D 1 (rowsOf k cs) := ⟨fun j hj => by
  obtain rfl : j = 0 := by omega
  simpa [rowsOf] using h⟩
theorem Tl_put1 {n j : Nat} {row : List AV} {f : Nat → List AV} : Tl D n (put1 j row f) = (Tl D n f).set j (D.of row) := by
  refine List.ext_getElem (by simp [Tl]) fun i h1 h2 => ?_
  simp only [Tl, List.getElem_map, List.getElem_range, List.getElem_set, put1]
  by_cases h : j = i
  · subst h; rw [if_pos rfl, show Nat.beq j j = true by simp]; rfl
  · rw [if_neg h, show Nat.beq i j = false by rw [← Bool.not_eq_true]; simp; omega]; rfl
theorem Shp_put1 {n j : Nat} {row : List AV} {f : Nat → List AV} (hf : Shp D n f) (h : row = D.cells stdH fun _ => D.of row) : Shp D n (put1 j row f) := ⟨fun i hi => by
  unfold put1
  cases e : Nat.beq i j with
  | true => exact h
  | false => exact hf.row i hi⟩
theorem Shp.bl (ok : RowOk D) {n : Nat} {f : Nat → List AV} (h : Shp D n f) (m : Nat) : Bl m (.vec D.k n f) := .vec fun j hj x hx => by rw [h.row j hj] at hx; exact (ok.bl _ x hx).mono (Nat.zero_le _)
theorem vT_bl (ok : RowOk D) (L : Unit → List α) (m : Nat) : Bl m (vT D stdH L) := (Shp_rowsT ok _ L).bl ok m
theorem vl_bl (ok : RowOk D) {k : Nat} (L : List α) (m : Nat) (hk : k = D.k := by rfl) : Bl m (.vec k L.length (rowsT D stdH fun _ => L)) := by subst hk; exact vT_bl ok (fun _ => L) m
theorem bT_bl (ok : RowOk D) (E : TypeId) (L : Unit → List α) (m : Nat) : BlB m (bT D stdH E L) := fun p x hx => by
  simp only [bT, Blk.at] at hx
  split at hx
  · have hx := List.mem_of_getElem? hx
    rw [rowsT, ok.row] at hx
    exact (ok.bl _ x hx).mono (Nat.zero_le _)
  · cases hx
theorem rows_blx (ok : RowOk D) (L : List α) (j : Nat) : ∀ x ∈ rowsT D stdH (fun _ => L) j, Bl 0 x := fun x hx => by rw [rowsT, ok.row] at hx; exact ok.bl _ x hx
/-- A struct. -/
def aT (D : RowD α) (H : Hold) (x : Unit → α) : AV := .agg (D.cells H x)
theorem aT_bl (ok : RowOk D) (x : Unit → α) (m : Nat) : Bl m (aT D stdH x) := .agg fun c hc => (ok.bl x c hc).mono (Nat.zero_le _)
theorem RowsEq.self (ok : RowOk D) {k : Nat} {L : List α} (hk : k = D.k := by rfl) : RowsEq k L.length (rowsT D stdH fun _ => L) L.length (rowsT D stdH fun _ => L) := by
  subst hk
  exact ⟨rfl, fun j _ => ⟨rfl, by rw [rowsT, ok.row]; exact ok.len _, by rw [rowsT, ok.row]; exact ok.bl _⟩⟩
/-- What is asked of rows, told of lists. -/
theorem RowsEq.ofT (ok : RowOk D) {k n' : Nat} {f' : Nat → List AV} {L : List α} (hk : k = D.k) (h : Shp D n' f') (e : L = Tl D n' f') : RowsEq k L.length (rowsT D stdH fun _ => L) n' f' := by
  subst hk
  have hl : L.length = n' := by rw [e, Tl_len]
  refine ⟨hl, fun j hj => ⟨?_, by rw [rowsT, ok.row]; exact ok.len _, by rw [rowsT, ok.row]; exact ok.bl _⟩⟩
  rw [h.row j (by omega), rowsT, ok.row, e, Tl_getD (by omega)]
/-- Rows that are known, and more behind them. -/
theorem RowsEq.more (ok : RowOk D) {k m : Nat} {L M : List α} {g : Nat → List AV} (h : Shp D m g) (e : Tl D m g = M) (hk : k = D.k := by rfl) : RowsEq k (L ++ M).length (rowsT D stdH fun _ => L ++ M) (L.length + m) (app L.length (rowsT D stdH fun _ => L) g) :=
  .ofT ok hk (Shp_app (Shp_rowsT ok _ _) h) (by rw [Tl_app, Tl_rowsT ok, e])
theorem RowsEq.snoc (ok : RowOk D) {k k' : Nat} {L : List α} {x : α} {cs : List AV} (h : cs.take k' = D.cells stdH fun _ => x) (hk : k = D.k := by rfl) : RowsEq k (L ++ [x]).length (rowsT D stdH fun _ => L ++ [x]) (L.length + 1) (app L.length (rowsT D stdH fun _ => L) (rowsOf k' cs)) :=
  .more ok (Shp_one (by rw [h, ok.of_cells])) (by rw [Tl_one, h, ok.of_cells]) hk
theorem Tl_dropR {a k m n : Nat} {f : Nat → List AV} {L : List α} (hk : 0 < k) (e : Tl D n f = L) (h : a + m ≤ n) : Tl D m (dropR (a * k) k f) = (L.drop a).take m := by
  subst e
  refine List.ext_getElem (by simp [Tl]; omega) fun i h1 h2 => ?_
  simp only [Tl, List.getElem_map, List.getElem_range, List.getElem_take, List.getElem_drop, dropR, Nat.mul_div_cancel _ hk]
theorem Shp_dropR {a k m n : Nat} {f : Nat → List AV} (hk : 0 < k) (hf : Shp D n f) (h : a + m ≤ n) : Shp D m (dropR (a * k) k f) := ⟨fun j hj => by
  show f (a * k / k + j) = _
  rw [Nat.mul_div_cancel _ hk]
  have := hf.row (a + j) (by omega)
  rw [this]
  show _ = D.cells stdH fun _ => D.of (f (a * k / k + j))
  rw [Nat.mul_div_cancel _ hk]⟩
/-- One value seen as another. -/
def AEq (x y : AV) : Prop := ∀ (C : Cx) (v : Value), Rel C x v → Rel C y v
theorem AEq.rfl {x : AV} : AEq x x := fun _ _ h => h
theorem AEq.toT (ok : RowOk D) {k n : Nat} {f : Nat → List AV} (hk : k = D.k) (h : Shp D n f) : AEq (.vec k n f) (vT D stdH fun _ => Tl D n f) := fun C v hv => by
  subst hk
  have e : vT D stdH (fun _ => Tl D n f) = .vec D.k n (rowsT D stdH fun _ => Tl D n f) := by unfold vT; simp only [stdH, Tl_len]
  rw [e]
  refine hv.vecs fun j hj => ?_
  rw [rowsT, ok.row, Tl_getD hj]; exact h.row j hj
inductive AEqL : List AV → List AV → Prop
  | nil : AEqL [] []
  | cons {x y : AV} {l l' : List AV} (h : AEq x y) (r : AEqL l l') : AEqL (x :: l) (y :: l')
theorem AEqL.rfl : ∀ l : List AV, AEqL l l
  | [] => .nil
  | _ :: l => .cons AEq.rfl (AEqL.rfl l)
theorem AEqL.lrel {l l' : List AV} (h : AEqL l l') {C : Cx} : ∀ {vs : List Value}, LRel C l vs → LRel C l' vs := by
  induction h with
  | nil => intro vs h; exact h
  | @cons x y l l' h r ih =>
    intro vs hv
    cases vs with
    | nil => have := hv.1; simp at this
    | cons v vs => exact .cons (h C v (hv.2 0 x v (by simp) (by simp))) (ih ⟨by simpa using hv.1, fun c a b ha hb => hv.2 (c + 1) a b (by simpa using ha) (by simpa using hb)⟩)
end
section
theorem AEqL.get {l l' : List AV} (h : AEqL l l') : l'.length = l.length ∧ ∀ (c : Nat) (x y : AV), l[c]? = some x → l'[c]? = some y → AEq x y := by
  induction h with
  | nil => exact ⟨Eq.refl _, by simp⟩
  | @cons x y l l' h r ih =>
    refine ⟨by simp [ih.1], fun c a b ha hb => ?_⟩
    cases c with
    | zero => simp at ha hb; subst ha; subst hb; exact h
    | succ c => simp at ha hb; exact ih.2 c a b ha hb
theorem AEq.agg {l l' : List AV} (h : AEqL l l') : AEq (.agg l) (.agg l') := fun C v hv => by
  cases hv with
  | agg h1 h2 h3 =>
    have := h.lrel (C := C) ⟨h1, h3⟩
    exact .agg this.1 h2 this.2
theorem AEq.fn {f : Fn} {a a' b b' : List AV} (h : AEqL a a') (k : AEqL b b') : AEq (.fn f a b) (.fn f a' b') := fun C v hv => by
  cases hv with
  | fn h1 h2 h3 h4 =>
    have p := h.lrel (C := C) ⟨h1, h3⟩
    have q := k.lrel (C := C) ⟨h2, h4⟩
    exact .fn p.1 q.1 p.2 q.2
theorem AEq.rptr {l l' : List AV} (h : AEqL l l') : AEq (.rptr l) (.rptr l') := fun C v hv => by
  obtain ⟨e, hp⟩ := h.get
  cases hv with
  | rptr g hb hlt hc h1 hr =>
    refine .rptr g hb hlt (by rw [e]; exact hc) (by rw [e]; exact h1) fun c y hy => ?_
    have hc' : c < l.length := by rw [← e]; exact (List.getElem?_eq_some_iff.1 hy).1
    exact hp c _ y (List.getElem?_eq_getElem hc') hy C (g c) (hr c _ (List.getElem?_eq_getElem hc'))
end
theorem ConN.args {P : Program} {f : FuncId} {args args' : List AV} {h : Heap} {n : Nat} {r : AV} {nb : List Blk} {u : Heap} (k : AEqL args args') (hc : ConN P f args' h n r nb u) : ConN P f args h n r nb u := fun C vs hl => hc C vs (k.lrel hl)
/-- A function that turns none of the caller's blocks and may leave new ones. -/
def pureN (f : FuncId) (F : Hold → List AV → Option ((Nat → AV) × List Blk × List Prop)) : Entry := ⟨f, fun H a _ nx => match F H a with
  | some (r, nb, ob) => some (r nx, nb, [], [], ob)
  | none => none⟩
theorem pureN_ok {P : Program} {f : FuncId} {F : Hold → List AV → Option ((Nat → AV) × List Blk × List Prop)} (hb : isBody P f)
    (h : ∀ a r nb ob, F stdH a = some (r, nb, ob) → AllP ob → ConN P f a [] 0 (r 0) nb [] ∧ (∀ x ∈ a, Bl 0 x) ∧ (∀ nx, Re nx 0 nb.length (r nx) (r 0)) ∧ ∀ b ∈ nb, BlB 0 b) : EntryOk P (pureN f F) := by
  refine ⟨hb, fun a hp nx r nb rd u ob e hob => ?_⟩
  simp only [pureN] at e
  cases hF : F stdH a with
  | none => simp [hF] at e
  | some x =>
    obtain ⟨r', nb', ob'⟩ := x
    simp only [hF, Option.some.injEq, Prod.mk.injEq] at e
    obtain ⟨rfl, rfl, rfl, rfl, rfl⟩ := e
    obtain ⟨h1, h2, h3, h4⟩ := h a _ _ _ hF hob
    refine ⟨by simp, [], by simp [lk], ?_⟩
    refine h1.ren (fun i => i) (by omega) rfl (fun c x y hx hy => ?_) (by simp [lk]) (by omega) rfl (h3 nx) (fun q b hq => ⟨b, hq, .same (h4 b (List.mem_of_getElem? hq))⟩) (by simp) (by simp)
    rw [hx] at hy; injection hy with hy; subst hy
    exact .same (q := 0) (by omega) (by omega) (h2 x (List.mem_of_getElem? hx))
/-- A function that hands out plain values alone. -/
theorem pureM_ok {P : Program} {f : FuncId} {F : Hold → List AV → Option (AV × List Prop)} (hb : isBody P f) (h : ∀ a r ob, F stdH a = some (r, ob) → AllP ob → ConN P f a [] 0 r [] []) : EntryOk P (pureE f F) :=
  pureE_ok hb fun a r ob e ho => (h a r ob e ho).con
theorem rowsB_bl {k n E m : Nat} {g : Nat → List AV} (h : ∀ j, j < n → ∀ x ∈ g j, Bl 0 x) : BlB m (.rows k n g E) := fun p x hx => by
  simp only [Blk.at] at hx
  split at hx
  · rename_i hlt; exact (h _ hlt x (List.mem_of_getElem? hx)).mono (Nat.zero_le _)
  · cases hx
/-! ### Rows of numbers, texts, truths, bytes; of lists of them -/
def rowsI (H : Hold) (L : Unit → List Int) (j : Nat) : List AV := [.lit (.int .i64 (H Int fun _ => (L ()).getD j 0))]
def rowI : RowD Int := ⟨1, 0, fun H x => [.lit (.int .i64 (H Int x))], fun l => match l with
  | [.lit (.int _ a)] => a
  | _ => 0, rowsI⟩
theorem okI : RowOk rowI := ⟨fun _ => rfl, fun x c hc => by simp [rowI] at hc; subst hc; exact .lit, fun _ => rfl, fun _ _ => rfl⟩
def rowsB (H : Hold) (L : Unit → List Bool) (j : Nat) : List AV := [.lit (.bool (H Bool fun _ => (L ()).getD j false))]
def rowsU (H : Hold) (L : Unit → List Int) (j : Nat) : List AV := [.lit (.int .u8 (H Int fun _ => (L ()).getD j 0))]
theorem Plain_rowsI (n : Nat) (H : Hold) (L : Unit → List Int) : Plain n (rowsI H L) = True := eq_true ⟨fun j _ x hx => by simp [rowsI] at hx; subst hx; rfl⟩
theorem Plain_rowsS (n : Nat) (H : Hold) (L : Unit → List ByteArray) : Plain n (rowsS H L) = True := eq_true ⟨fun j _ x hx => by simp [rowsS] at hx; subst hx; rfl⟩
theorem Plain_rowsB (n : Nat) (H : Hold) (L : Unit → List Bool) : Plain n (rowsB H L) = True := eq_true ⟨fun j _ x hx => by simp [rowsB] at hx; subst hx; rfl⟩
theorem Plain_rowsU (n : Nat) (H : Hold) (L : Unit → List Int) : Plain n (rowsU H L) = True := eq_true ⟨fun j _ x hx => by simp [rowsU] at hx; subst hx; rfl⟩
theorem laid_at (hp : PG.globals.size < PG.low) {w : World} {n : String} {cs : Array Value} (h1 : w.var? PG n = some cs) : LaidAt w n cs := by
  unfold World.var? at h1
  cases q : PG.globalNamed n with
  | none => rw [q] at h1; cases h1
  | some g =>
    rw [q] at h1
    simp only [Option.bind_some] at h1
    split at h1
    · rename_i cs T f e
      injection h1 with h1
      subst h1
      exact ⟨g, T, f, q, Nat.lt_trans (globalNamed_lt q) hp, e⟩
    · cases h1
/-- At a call's begin. -/
theorem glo0 (hp : PG.globals.size < PG.low) {w : World} (h : w.ShapedOpen PG) (hl : Laid w) : Glo w fun _ => False := ⟨h, by
  obtain ⟨o, _, h1, _⟩ := h.2 (PG.low - 1) (by omega) (by unfold Program.low at hp ⊢; omega)
  have := (Array.getElem?_eq_some_iff.1 h1).1
  omega, fun _ k => k.elim, fun x hx => laid_at hp (hl.tab x hx), fun n hn => by
  obtain ⟨ev, h1, h2⟩ := hl.err n hn
  exact ⟨ev, laid_at hp h1, h2⟩⟩
theorem Plain.app {n m : Nat} {f g : Nat → List AV} (hf : Plain n f) (hg : Plain m g) : Plain (n + m) (app n f g) := ⟨fun j hj x hx => by
  by_cases h : j < n
  · rw [app_lt h] at hx; exact hf.row j h x hx
  · rw [app_ge (by omega)] at hx; exact hg.row _ (by omega) x hx⟩
theorem Plain.drop {a k m n : Nat} {f : Nat → List AV} (hk : 0 < k) (hf : Plain n f) (h : a + m ≤ n) : Plain m (dropR (a * k) k f) := ⟨fun j hj x hx => by
  have : dropR (a * k) k f j = f (a + j) := by show f (a * k / k + j) = _; rw [Nat.mul_div_cancel _ hk]
  rw [this] at hx
  exact hf.row _ (by omega) x hx⟩
theorem RowsEq.fz {cb : Heap} {k n n' : Nat} {f f' : Nat → List AV} (h : RowsEq k n f n' f') : RowsFz cb k n f n' f' :=
  ⟨h.1, fun j hj => ⟨(h.2 j hj).2.1, by rw [← (h.2 j hj).1]; exact (h.2 j hj).2.1, fun c x y hx hy => by
    rw [← (h.2 j hj).1, hx] at hy
    injection hy with hy
    subst hy
    exact .same ((h.2 j hj).2.2 x (List.mem_of_getElem? hx))⟩⟩
theorem RowsFz.self {α : Type} {D : RowD α} (ok : RowOk D) {cb : Heap} {k : Nat} {L : List α} (hk : k = D.k := by rfl) : RowsFz cb k L.length (rowsT D stdH fun _ => L) L.length (rowsT D stdH fun _ => L) := (RowsEq.self ok hk).fz
/-- Cells, one by one. -/
inductive CellsFz (cb : Heap) : List AV → List AV → Prop
  | nil : CellsFz cb [] []
  | cons {x y : AV} {l l' : List AV} (h : CellFz cb x y) (r : CellsFz cb l l') : CellsFz cb (x :: l) (y :: l')
theorem CellsFz.get {cb : Heap} {l l' : List AV} (h : CellsFz cb l l') : l.length = l'.length ∧ ∀ (c : Nat) (x y : AV), l[c]? = some x → l'[c]? = some y → CellFz cb x y := by
  induction h with
  | nil => exact ⟨rfl, by simp⟩
  | @cons x y l l' h r ih =>
    refine ⟨by simp [ih.1], fun c a b ha hb => ?_⟩
    cases c with
    | zero => simp at ha hb; subst ha; subst hb; exact h
    | succ c => simp at ha hb; exact ih.2 c a b ha hb
/-- A slice of the call's own, as the cell of a row. -/
theorem CellFz.own {α : Type} {D : RowD α} (ok : RowOk D) {cb : Heap} {i k m E : Nat} {g : Nat → List AV} {l : List α} (hb : lk i cb = some (.rows k m g E)) (h : RowsEq k l.length (rowsT D stdH fun _ => l) m g) : CellFz cb (.vec k l.length (rowsT D stdH fun _ => l)) (.slc i 0 k m) := by
  obtain rfl := h.1
  exact .slc hb fun q hq => ⟨(h.2 q hq).1, by rw [← (h.2 q hq).1]; exact (h.2 q hq).2.1, by rw [← (h.2 q hq).1]; exact (h.2 q hq).2.2⟩
/-- Rows, and behind them one whose cells are let go. -/
theorem RowsFz.snoc {α : Type} {D : RowD α} (ok : RowOk D) {cb : Heap} {k : Nat} {L : List α} {x : α} {cs : List AV} (hk : k = D.k) (h : CellsFz cb (D.cells stdH fun _ => x) (cs.take k)) : RowsFz cb k (L ++ [x]).length (rowsT D stdH fun _ => L ++ [x]) (L.length + 1) (app L.length (rowsT D stdH fun _ => L) (rowsOf k cs)) := by
  subst hk
  obtain ⟨h1, h2⟩ := h.get
  refine ⟨by simp, fun j hj => ?_⟩
  rw [List.length_append, List.length_singleton] at hj
  have hl : (rowsT D stdH (fun _ => L ++ [x]) j).length = D.k := by rw [rowsT, ok.row]; exact ok.len _
  by_cases hlt : j < L.length
  · have e : rowsT D stdH (fun _ => L ++ [x]) j = rowsT D stdH (fun _ => L) j := by
      rw [rowsT, ok.row, ok.row, List.getD_eq_getElem?_getD, List.getElem?_append_left hlt, List.getD_eq_getElem?_getD]
    rw [app_lt hlt, e]
    refine ⟨by rw [← e]; exact hl, by rw [← e]; exact hl, fun c a b ha hb => ?_⟩
    rw [ha] at hb
    injection hb with hb
    subst hb
    exact .same (rows_blx ok L j a (List.mem_of_getElem? ha))
  · obtain rfl : j = L.length := by omega
    have e : rowsT D stdH (fun _ => L ++ [x]) L.length = D.cells stdH fun _ => x := by
      rw [rowsT, ok.row]
      simp only [List.getD_eq_getElem?_getD, List.getElem?_append_right (Nat.le_refl _), Nat.sub_self, List.getElem?_cons_zero, Option.getD_some]
    have e2 : app L.length (rowsT D stdH fun _ => L) (rowsOf D.k cs) L.length = cs.take D.k := by
      rw [app_ge (Nat.le_refl _), Nat.sub_self]; simp [rowsOf]
    rw [e] at hl
    rw [e, e2]
    exact ⟨hl, by rw [← h1]; exact hl, h2⟩
end Go.Proofs.Ytpilblmncpeelaa.AM

namespace Go.Proofs.Ytpilblmncpeelaa.AM
/-- A draw's contract with new blocks: named from n on. -/
def DrwM (P : Program) (T : TypeId) (f : FuncId) (k : Nat) {β : Type} (r : Nat → Hold → (Unit → β) → AV) (nb : Hold → (Unit → β) → List Blk) (Φ : β → Prop) (c : Cd) (args : List AV) (st : DS) (y : β × DS) : Prop :=
  ConN P f (.ptr 0 0 :: args) [(0, curB T c st)] 1 (r 1 stdH fun _ => y.1) (nb stdH fun _ => y.1) [(0, curB T c y.2)] ∧ Adv k st y.2 ∧ Φ y.1
noncomputable def drwM (P : Program) (T : TypeId) (f : FuncId) (k : Nat) {β : Type} [Inhabited β] (r : Nat → Hold → (Unit → β) → AV) (nb : Hold → (Unit → β) → List Blk) (Φ : β → Prop) (c : Cd) (args : List AV) (st : DS) : β × DS :=
  Classical.epsilon (DrwM P T f k r nb Φ c args st)
theorem drwM_spec {P : Program} {T : TypeId} {f : FuncId} {k : Nat} {β : Type} [Inhabited β] {r : Nat → Hold → (Unit → β) → AV} {nb : Hold → (Unit → β) → List Blk} {Φ : β → Prop} {c : Cd} {args : List AV} {st : DS} (h : ∃ y, DrwM P T f k r nb Φ c args st y) : DrwM P T f k r nb Φ c args st (drwM P T f k r nb Φ c args st) := Classical.epsilon_spec h
def curH (H : Hold) (T : TypeId) (c : Cd) (y : Unit → DS) : Blk := .cells [.vec 1 c.n c.rows, .lit (.int .i64 (H Int fun _ => (y ()).1)), .lit (.int .u64 (H Int fun _ => (y ()).2))] T
/-- What is asked of a result. -/
def LeafM {β : Type} (H : Hold) (T : TypeId) (k : Nat) (r : Nat → Hold → (Unit → β) → AV) (nb : Hold → (Unit → β) → List Blk) (Φ : β → Prop) (c : Cd) (st : DS) (x : AV) (hp : Heap) : Prop :=
  ∃ y : β × DS, Adv k st y.2 ∧ Φ y.1 ∧ AllG (matchEx H 1 (r 1 H fun _ => y.1) (nb H fun _ => y.1) [(0, curH H T c fun _ => y.2)] x hp)
theorem drwM_ok {P : Program} {Γ : Cons} {τ : Tab} (hB : Base P Γ τ) (hD : DrawOk P Γ τ) {f : FuncId} {fn : Func} {N : Nat} (hf : P.funcs[f]? = some fn) (hb0 : fn.body.isSome = true) (hN : fn.ntmps = N) (T : TypeId) (k : Nat) {β : Type} (r : Nat → Hold → (Unit → β) → AV) (nb : Hold → (Unit → β) → List Blk) (Φ : β → Prop) (c : Cd) (args : Hold → List AV) (st : DS) (fuel : Nat)
    (hlen : (args stdH).length + 1 ≤ N) (hargs : ∀ x ∈ args stdH, Bl 0 x)
    (hrun : ∀ (H : Hold), H = stdH → (finish H Γ τ N fuel fn.results.toList [] (arun H Γ τ N fuel [.code (bodyOf fn)] ⟨envOf 0 (.ptr 0 0 :: args H), [(0, curH H T c fun _ => st)], 1⟩)).sat0 (LeafM H T k r nb Φ c st)) : ∃ y, DrwM P T f k r nb Φ c (args stdH) st y := by
  obtain ⟨x, hp, ⟨y, h1, h2, h3⟩, h4⟩ := Fin.leaf (hrun stdH rfl)
  refine ⟨y, con_okX hB hD hf hb0 hN _ _ 1 _ _ _ fuel (by simpa using hlen) ?_ ?_ ?_ ?_ ?_, h1, h2⟩
  · intro z hz
    rcases List.mem_cons.1 hz with rfl | hz
    · exact .ptr (by omega)
    · exact (hargs z hz).mono (by omega)
  · intro i b hi
    rw [lk_cons] at hi
    by_cases h0 : 0 = i
    · rw [if_pos h0] at hi; injection hi with hi; subst hi; subst h0
      exact ⟨by omega, c.blB _ _ _, _, List.mem_cons_self⟩
    · rw [if_neg h0] at hi; simp [lk] at hi
  · intro i hi
    obtain rfl : i = 0 := by omega
    exact ⟨_, rfl⟩
  · intro i b hi
    simp only [List.mem_cons, List.not_mem_nil, or_false, Prod.mk.injEq] at hi
    obtain ⟨rfl, rfl⟩ := hi
    exact ⟨_, rfl⟩
  · intro X hX hX0 H hH
    subst hH
    exact h4 _ P X τ _ (Exp.of_match h3)
/-- The same, the result told ahead: loops may be met. -/
theorem drwM_okL {P : Program} {Γ : Cons} {τ : Tab} (hB : Base P Γ τ) (hD : DrawOk P Γ τ) {f : FuncId} {fn : Func} {N : Nat} (hf : P.funcs[f]? = some fn) (hb0 : fn.body.isSome = true) (hN : fn.ntmps = N) (T : TypeId) (k : Nat) {β : Type} (r : Nat → Hold → (Unit → β) → AV) (nb : Hold → (Unit → β) → List Blk) (Φ : β → Prop) (c : Cd) (args : Hold → List AV) (st : DS) (fuel : Nat)
    (hlen : (args stdH).length + 1 ≤ N) (hargs : ∀ x ∈ args stdH, Bl 0 x) (Y : β × DS) (hY : Adv k st Y.2 ∧ Φ Y.1)
    (hrun : ∀ (X : Ctx), X.N = N → X.n0 = 1 → ∀ (H : Hold), H = stdH → ((finish H Γ τ N fuel fn.results.toList [] (arun H Γ τ N fuel [.code (bodyOf fn)] ⟨envOf 0 (.ptr 0 0 :: args H), [(0, curH H T c fun _ => st)], 1⟩)).chk (matchEx H 1 (r 1 H fun _ => Y.1) (nb H fun _ => Y.1) [(0, curH H T c fun _ => Y.2)])).satC P X τ fn.results.toList (fun x hp => ∃ π, Exp π 1 (r 1 H fun _ => Y.1) (nb H fun _ => Y.1) [(0, curH H T c fun _ => Y.2)] x hp) (fun _ _ => False)) : ∃ y, DrwM P T f k r nb Φ c (args stdH) st y := by
  refine ⟨Y, con_m hB hD hf hb0 hN (fun H => .ptr 0 0 :: args H) (fun H => [(0, curH H T c fun _ => st)]) 1 (fun H => r 1 H fun _ => Y.1) (fun H => nb H fun _ => Y.1) (fun H => [(0, curH H T c fun _ => Y.2)]) fuel (by simpa using hlen) ?_ ?_ ?_ ?_ hrun, hY⟩
  · intro z hz
    rcases List.mem_cons.1 hz with rfl | hz
    · exact .ptr (by omega)
    · exact (hargs z hz).mono (by omega)
  · intro i b hi
    rw [lk_cons] at hi
    by_cases h0 : 0 = i
    · rw [if_pos h0] at hi; injection hi with hi; subst hi; subst h0
      exact ⟨by omega, c.blB _ _ _, _, List.mem_cons_self⟩
    · rw [if_neg h0] at hi; simp [lk] at hi
  · intro i hi
    obtain rfl : i = 0 := by omega
    exact ⟨_, rfl⟩
  · intro i b hi
    simp only [List.mem_cons, List.not_mem_nil, or_false, Prod.mk.injEq] at hi
    obtain ⟨rfl, rfl⟩ := hi
    exact ⟨_, rfl⟩
/-- The same for a function of a code. -/
def DrfM (P : Program) (f : FuncId) {β : Type} (r : Nat → Hold → (Unit → β) → AV) (nb : Hold → (Unit → β) → List Blk) (Φ : β → Prop) (c : Cd) (y : β) : Prop :=
  ConN P f [codeAV c] [] 0 (r 0 stdH fun _ => y) (nb stdH fun _ => y) [] ∧ Φ y
noncomputable def drfM (P : Program) (f : FuncId) {β : Type} [Inhabited β] (r : Nat → Hold → (Unit → β) → AV) (nb : Hold → (Unit → β) → List Blk) (Φ : β → Prop) (c : Cd) : β := Classical.epsilon (DrfM P f r nb Φ c)
theorem drfM_spec {P : Program} {f : FuncId} {β : Type} [Inhabited β] {r : Nat → Hold → (Unit → β) → AV} {nb : Hold → (Unit → β) → List Blk} {Φ : β → Prop} {c : Cd} (h : ∃ y, DrfM P f r nb Φ c y) : DrfM P f r nb Φ c (drfM P f r nb Φ c) := Classical.epsilon_spec h
def LeafG {β : Type} (H : Hold) (r : Nat → Hold → (Unit → β) → AV) (nb : Hold → (Unit → β) → List Blk) (Φ : β → Prop) (x : AV) (hp : Heap) : Prop :=
  ∃ y : β, Φ y ∧ AllG (matchEx H 0 (r 0 H fun _ => y) (nb H fun _ => y) [] x hp)
theorem drfM_ok {P : Program} {Γ : Cons} {τ : Tab} (hB : Base P Γ τ) (hD : DrawOk P Γ τ) {f : FuncId} {fn : Func} {N : Nat} (hf : P.funcs[f]? = some fn) (hb0 : fn.body.isSome = true) (hN : fn.ntmps = N) {β : Type} (r : Nat → Hold → (Unit → β) → AV) (nb : Hold → (Unit → β) → List Blk) (Φ : β → Prop) (c : Cd) (fuel : Nat)
    (hlen : 1 ≤ N)
    (hrun : ∀ (H : Hold), H = stdH → (finish H Γ τ N fuel fn.results.toList [] (arun H Γ τ N fuel [.code (bodyOf fn)] ⟨[(0, .vec 1 c.n c.rows)], [], 0⟩)).sat0 (LeafG H r nb Φ)) : ∃ y, DrfM P f r nb Φ c y := by
  obtain ⟨x, hp, ⟨y, h2, h3⟩, h4⟩ := Fin.leaf (hrun stdH rfl)
  refine ⟨y, con_okX hB hD hf hb0 hN _ [] 0 _ _ [] fuel (by simpa using hlen) (codeAV_bl c) (by simp [lk]) (by omega) (by simp) ?_, h2⟩
  intro X hX hX0 H hH
  subst hH
  exact h4 _ P X τ _ (Exp.of_match h3)
/-- The entry of a function of a code that may leave new blocks. -/
def codeEN (f : FuncId) (c : Cd) (r : Nat → Hold → AV) (nb : Hold → List Blk) : Entry := ⟨f, fun H a _ nx => match a with
  | [.vec 1 n g] => some (r nx H, nb H, [], [], [H Prop fun _ => n = c.n ∧ g = c.rows])
  | _ => none⟩
theorem codeEN_ok {P : Program} {f : FuncId} {c : Cd} {r : Nat → Hold → AV} {nb : Hold → List Blk} (hb : isBody P f) (h : ConN P f [codeAV c] [] 0 (r 0 stdH) (nb stdH) []) (hr : ∀ nx, Re nx 0 (nb stdH).length (r nx stdH) (r 0 stdH)) (hn : ∀ b ∈ nb stdH, BlB 0 b) : EntryOk P (codeEN f c r nb) := by
  refine ⟨hb, fun a hp m q nb' rd u ob e hob => ?_⟩
  simp only [codeEN] at e
  split at e
  · rename_i a n g
    simp only [stdH, Option.some.injEq, Prod.mk.injEq] at e
    obtain ⟨rfl, rfl, rfl, rfl, rfl⟩ := e
    obtain ⟨⟨rfl, rfl⟩, _⟩ := hob
    refine ⟨by simp, [], by simp [lk], ?_⟩
    refine h.ren (fun i => i) (by omega) rfl (fun d x y hx hy => ?_) (by simp [lk]) (by omega) rfl (hr m) (fun q b hq => ⟨b, hq, .same (hn b (List.mem_of_getElem? hq))⟩) (by simp) (by simp)
    rw [show [codeAV c] = [AV.vec 1 c.n c.rows] from rfl] at hx
    rw [hx] at hy; injection hy with hy; subst hy
    exact .same (q := 0) (by omega) (by omega) (codeAV_bl c x (List.mem_of_getElem? hx))
  · simp at e
theorem heta {H : Hold} (hH : H = stdH) (p : DS) : (H Int fun _ => p.1, H Int fun _ => p.2) = p := by subst hH; rfl
/-- Lists of results, under other names. -/
inductive ReL (n m len : Nat) : List AV → List AV → Prop
  | nil : ReL n m len [] []
  | cons {x y : AV} {l l' : List AV} (h : Re n m len x y) (r : ReL n m len l l') : ReL n m len (x :: l) (y :: l')
theorem ReL.get {n m len : Nat} {l l' : List AV} (h : ReL n m len l l') : l.length = l'.length ∧ ∀ (c : Nat) (x y : AV), l[c]? = some x → l'[c]? = some y → Re n m len x y := by
  induction h with
  | nil => exact ⟨rfl, by simp⟩
  | @cons x y l l' h r ih =>
    refine ⟨by simp [ih.1], fun c a b ha hb => ?_⟩
    cases c with
    | zero => simp at ha hb; subst ha; subst hb; exact h
    | succ c => simp at ha hb; exact ih.2 c a b ha hb
theorem Re.aggL {n m len : Nat} {l l' : List AV} (h : ReL n m len l l') : Re n m len (.agg l) (.agg l') := .agg h.get.1 h.get.2
theorem Re.tupL {n m len : Nat} {l l' : List AV} (h : ReL n m len l l') : Re n m len (.tup l) (.tup l') := .tup h.get.1 h.get.2
end Go.Proofs.Ytpilblmncpeelaa.AM

