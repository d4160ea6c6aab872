/- The abstract machine: one row of the call's own deleted; conditions: none. -/
import Derived.Test.YtgjjedpoclhkfaaDoorAmN
set_option linter.unusedVariables false
set_option linter.unusedSimpArgs false
namespace Go.Proofs.YtgjjedpoclhkfaaDoor.AM
/-- The rows f without row a. -/
def delR {α : Type} (a : Nat) (f : Nat → α) (j : Nat) : α := bif Nat.blt j a then f j else f (j + 1)
theorem delR_lt {α : Type} {a j : Nat} {f : Nat → α} (h : j < a) : delR a f j = f j := by unfold delR; rw [show Nat.blt j a = true by simpa using h]; rfl
theorem delR_ge {α : Type} {a j : Nat} {f : Nat → α} (h : a ≤ j) : delR a f j = f (j + 1) := by unfold delR; rw [show Nat.blt j a = false by rw [← Bool.not_eq_true]; simpa using h]; rfl
theorem setCell_row {w : World} {b : Nat} {c : Array Value} {T : TypeId} {fr : Nat × Nat} (h : w.heap[b]? = some (.cells c T fr)) (o : Nat) (v : Value) : (w.setCell ⟨b, o, none⟩ v).heap[b]? = some (.cells (c.setIfInBounds o v) T fr) := by
  have hb : b < w.heap.size := (Array.getElem?_eq_some_iff.1 h).1
  have e : w.heap[b] = .cells c T fr := by rw [Array.getElem?_eq_getElem hb] at h; injection h
  simp only [World.setCell]
  rw [Array.getElem?_eq_getElem (by simpa using hb)]
  simp [Array.getElem_modify, e]
theorem setCell_else {w : World} {b k : Nat} (hk : k ≠ b) (o : Nat) (v : Value) : (w.setCell ⟨b, o, none⟩ v).heap[k]? = w.heap[k]? := by
  simp only [World.setCell]
  rw [Array.getElem?_modify, if_neg (by omega)]
/-- Cells set one by one: what the block is then. -/
theorem setCells_row (b : Nat) : ∀ (vs : List Value) (o : Nat) {w : World} {c : Array Value} {T : TypeId} {fr : Nat × Nat}, w.heap[b]? = some (.cells c T fr) → ∃ c', (w.setCells b o vs).heap[b]? = some (.cells c' T fr) ∧ c'.size = c.size ∧ ∀ p, p < c.size → c'[p]? = if o ≤ p ∧ p < o + vs.length then vs[p - o]? else c[p]?
  | [], o, w, c, T, fr, h => ⟨c, h, rfl, fun p _ => by rw [if_neg (by simp)]⟩
  | v :: r, o, w, c, T, fr, h => by
    obtain ⟨c', h1, h2, h3⟩ := setCells_row b r (o + 1) (setCell_row h o v)
    refine ⟨c', h1, by simpa using h2, fun p hp => ?_⟩
    rw [h3 p (by simpa using hp)]
    by_cases hpo : p = o
    · subst hpo
      rw [if_neg (by omega), if_pos ⟨Nat.le_refl _, by simp⟩]
      simp [hp]
    · by_cases hin : o + 1 ≤ p ∧ p < o + 1 + r.length
      · rw [if_pos hin, if_pos ⟨by omega, by simp only [List.length_cons]; omega⟩]
        rw [show p - o = (p - (o + 1)) + 1 by omega, List.getElem?_cons_succ]
      · rw [if_neg hin, if_neg (by simp only [List.length_cons]; omega)]
        rw [Array.getElem?_setIfInBounds, if_neg (by omega)]
theorem setCells_else (b : Nat) {k : Nat} (hk : k ≠ b) : ∀ (vs : List Value) (o : Nat) (w : World), (w.setCells b o vs).heap[k]? = w.heap[k]?
  | [], _, _ => rfl
  | v :: r, o, w => by rw [World.setCells, setCells_else b hk r, setCell_else hk]
theorem setCells_size (b : Nat) : ∀ (vs : List Value) (o : Nat) (w : World), (w.setCells b o vs).heap.size = w.heap.size
  | [], _, _ => rfl
  | v :: r, o, w => by rw [World.setCells, setCells_size b r]; simp [World.setCell]
/-- The cells that move to the left where row a of n rows of k cells goes. -/
def movd (cur : Array Value) (k n a : Nat) : List Value := (cur.toList.drop ((a + 1) * k)).take ((n - (a + 1)) * k)
theorem movd_len {cur : Array Value} {k n a : Nat} (ha : a < n) (h : n * k ≤ cur.size) : (movd cur k n a).length = (n - (a + 1)) * k := by
  have : (a + 1) * k + (n - (a + 1)) * k = n * k := by rw [← Nat.add_mul]; congr 1; omega
  simp only [movd, List.length_take, List.length_drop, Array.length_toList]
  omega
theorem movd_get {cur : Array Value} {k n a p : Nat} (h : p < (n - (a + 1)) * k) : (movd cur k n a)[p]? = cur[(a + 1) * k + p]? := by
  simp only [movd]
  rw [List.getElem?_take_of_lt h, List.getElem?_drop, Array.getElem?_toList]
section
variable {C : Cx} {n0 : Nat}
/-- One row deleted, where the rows are. -/
theorem Leaves.del (hn : ¬ C.ok n0) {i : Nat} (hok : C.ok i) (how : C.ow (C.β i)) {E : TypeId} {k n a cap : Nat} {f : Nat → List AV} {cur : Array Value} (hk : 0 < k) (ha : a < n) (hcur : C.w.heap[C.β i]? = some (.cells cur E (0, 0)))
    (hcells : ∀ p x, (Blk.rows k n f E).at p = some x → ∃ v, cur[p]? = some v ∧ v.oneCell' = true ∧ Rel C x v) (hnc : n ≤ cap) (hm : cap ≤ maxLen) (hsz : cap * k ≤ cur.size) (zs : List Value) (hz : zs.length = k) :
    Leaves C n0 (some (.slc n0 0 k (n - 1))) [.rows k (n - 1) (delR a f) E] [(i, .cells [] E)] (.slice (some ⟨C.β i, 0, none⟩) (n - 1) cap) ((C.w.drew.setCells (C.β i) (a * k) (movd cur k n a)).setCells (C.β i) ((n - 1) * k) zs) := by
  have hnk : n * k ≤ cur.size := Nat.le_trans (Nat.mul_le_mul_right _ hnc) hsz
  have e1 : (a + 1) * k + (n - (a + 1)) * k = n * k := by rw [← Nat.add_mul]; congr 1; omega
  have e2 : (n - 1) * k + k = n * k := by conv => lhs; rhs; rw [← Nat.one_mul k]
                                          rw [← Nat.add_mul]; congr 1; omega
  have e3 : (a + 1) * k = a * k + k := by rw [Nat.add_mul, Nat.one_mul]
  obtain ⟨c1, h1, h2, h3⟩ := setCells_row (C.β i) (movd cur k n a) (a * k) (w := C.w.drew) hcur
  obtain ⟨c2, h4, h5, h6⟩ := setCells_row (C.β i) zs ((n - 1) * k) h1
  have o1 := setCells_os (C.β i) (movd cur k n a) (a * k) C.w.drew
  have o2 := setCells_os (C.β i) zs ((n - 1) * k) (C.w.drew.setCells (C.β i) (a * k) (movd cur k n a))
  refine Leaves.inplace hn hok how hcur (arr := c2) (o2.1.trans o1.1) (o2.2.1.trans o1.2.1) (o2.2.2.1.trans o1.2.2.1) (by rw [setCells_size, setCells_size]; rfl) h4 (fun q hq => by rw [setCells_else _ hq, setCells_else _ hq]; rfl) (h5.trans h2) rfl (fun p x hx => ?_) (by omega) hm hsz
  simp only [Blk.at] at hx
  split at hx
  · rename_i hlt
    have hmod := Nat.mod_lt p hk
    have hp : p < (n - 1) * k := (Nat.div_lt_iff_lt_mul hk).1 hlt
    have hdm : p / k * k + p % k = p := by rw [Nat.mul_comm]; exact Nat.div_add_mod p k
    rw [h6 p (by omega), if_neg (by omega), h3 p (by omega)]
    have ml := movd_len ha hnk
    by_cases hpa : p < a * k
    · rw [if_neg (by omega)]
      have hj : p / k < a := (Nat.div_lt_iff_lt_mul hk).2 hpa
      rw [delR_lt hj] at hx
      exact hcells p x (by simp only [Blk.at]; rw [if_pos (by omega)]; exact hx)
    · have hj : a ≤ p / k := (Nat.le_div_iff_mul_le hk).2 (by omega)
      rw [delR_ge hj] at hx
      rw [if_pos ⟨by omega, by rw [ml]; omega⟩, movd_get (by omega), show (a + 1) * k + (p - a * k) = p + k by omega]
      refine hcells (p + k) x ?_
      have d1 : (p + k) / k = p / k + 1 := Nat.add_div_right p hk
      have d2 : (p + k) % k = p % k := Nat.add_mod_right p k
      simp only [Blk.at, d1, d2]
      rw [if_pos (by omega)]; exact hx
  · cases hx
end
/-- The slots l alone. -/
def flt (l : List Nat) : Env → Env
  | [] => []
  | (t, x) :: e => bif l.any (Nat.beq t) then (t, x) :: flt l e else flt l e
/-- The rounds behind the first, only the slots 'keep' kept. -/
theorem loopK_c {P : Program} {Γ : Cons} {τ : Tab} {X : Ctx} {rs : List ResultVar} {As : Nat → St → Prop} (hB : Base P Γ τ) (hD : DrawOk P Γ τ) {c : Code} {k : List KI} {ctx : List (List KI)} {s : St} {N n0 : Nat} (hN : X.N = N) (h0 : X.n0 = n0) {H : Hold} (hH : H = stdH) (keep : List Nat) {ι : Type} (n : Nat) (at' : ι → List Atom) (μ : ι → Nat) (i0 : ι) (hi : AllG (matchSt H n0 (mkI n0 false c (k :: ctx) rs ⟨flt keep s.env, s.heap, s.next⟩ (at' i0)) s))
    {n1 : Nat} {r : AV} {nw : List Blk} {u : Heap} (round : ∀ (I : ι → St), (∀ i, I i = mkI n0 false c (k :: ctx) rs ⟨flt keep s.env, s.heap, s.next⟩ (at' i)) → ∀ i, ((finish H Γ τ N n rs (k :: ctx) (arun H Γ τ N n [.code c] (mkI n0 false c (k :: ctx) rs ⟨flt keep s.env, s.heap, s.next⟩ (at' i)))).chk (matchEx H n1 r nw u)).satC P X τ rs (fun x hp => ∃ π, Exp π n1 r nw u x hp) (upd As (ctx.length + 1) (fun s' => ∃ j, μ j < μ i ∧ AllG (matchSt H n0 (I j) s')))) : LoopK P X τ rs (fun x hp => ∃ π, Exp π n1 r nw u x hp) As c k ctx s :=
  loopK_a hB hD hN h0 hH n (fun i => mkI n0 false c (k :: ctx) rs ⟨flt keep s.env, s.heap, s.next⟩ (at' i)) μ i0 hi (round _ fun _ => rfl)
/-- A loop, only the slots 'keep' kept. -/
theorem loop_c {P : Program} {Γ : Cons} {τ : Tab} {X : Ctx} {rs : List ResultVar} {As : Nat → St → Prop} (hB : Base P Γ τ) (hD : DrawOk P Γ τ) {c : Code} {k : List KI} {ctx : List (List KI)} {s : St} {N n0 : Nat} (hN : X.N = N) (h0 : X.n0 = n0) {H : Hold} (hH : H = stdH) (keep : List Nat) {ι : Type} (n : Nat) (at' : ι → List Atom) (μ : ι → Nat) (i0 : ι) (hi : AllG (matchSt H n0 (mkI n0 true c (k :: ctx) rs ⟨flt keep s.env, s.heap, s.next⟩ (at' i0)) s))
    {n1 : Nat} {r : AV} {nw : List Blk} {u : Heap} (round : ∀ (I : ι → St), (∀ i, I i = mkI n0 true c (k :: ctx) rs ⟨flt keep s.env, s.heap, s.next⟩ (at' i)) → ∀ i, ((finish H Γ τ N n rs (k :: ctx) (arun H Γ τ N n [.code c] (mkI n0 true c (k :: ctx) rs ⟨flt keep s.env, s.heap, s.next⟩ (at' i)))).chk (matchEx H n1 r nw u)).satC P X τ rs (fun x hp => ∃ π, Exp π n1 r nw u x hp) (upd As (ctx.length + 1) (fun s' => ∃ j, μ j < μ i ∧ AllG (matchSt H n0 (I j) s')))) : (Fin.loop c (k :: ctx) s).satC P X τ rs (fun x hp => ∃ π, Exp π n1 r nw u x hp) As :=
  loop_m hB hD hN h0 hH n (fun i => mkI n0 true c (k :: ctx) rs ⟨flt keep s.env, s.heap, s.next⟩ (at' i)) μ i0 hi (round _ fun _ => rfl)
theorem loop_cN {P : Program} {Γ : Cons} {τ : Tab} {X : Ctx} {rs : List ResultVar} {As : Nat → St → Prop} (hB : Base P Γ τ) (hD : DrawOk P Γ τ) {c : Code} {k : List KI} {ctx : List (List KI)} {s : St} {N n0 : Nat} (hN : X.N = N) (h0 : X.n0 = n0) {H : Hold} (hH : H = stdH) (keep : List Nat) (E0 : Nat) {ι : Type} (n : Nat) (at' : ι → List Atom) (μ : ι → Nat) (i0 : ι) (hi : AllG (matchStN H n0 E0 (mkI n0 true c (k :: ctx) rs ⟨flt keep s.env, s.heap, s.next⟩ (at' i0)) s))
    {n1 : Nat} {r : AV} {nw : List Blk} {u : Heap} (round : ∀ (I : ι → St), (∀ i, I i = mkI n0 true c (k :: ctx) rs ⟨flt keep s.env, s.heap, s.next⟩ (at' i)) → ∀ i, ((finish H Γ τ N n rs (k :: ctx) (arun H Γ τ N n [.code c] (mkI n0 true c (k :: ctx) rs ⟨flt keep s.env, s.heap, s.next⟩ (at' i)))).chk (matchExN H E0 n1 r nw u)).satC P X τ rs (fun x hp => ∃ π, Exp π n1 r nw u x hp) (upd As (ctx.length + 1) (fun s' => ∃ j, μ j < μ i ∧ AllG (matchStN H n0 E0 (I j) s')))) : (Fin.loop c (k :: ctx) s).satC P X τ rs (fun x hp => ∃ π, Exp π n1 r nw u x hp) As :=
  loop_mN hB hD hN h0 hH E0 n (fun i => mkI n0 true c (k :: ctx) rs ⟨flt keep s.env, s.heap, s.next⟩ (at' i)) μ i0 hi (round _ fun _ => rfl)
/-- One element of a slice made zero. -/
theorem run_clear_one {P : Program} (w : World) (t e ty : TypeId) (z : Value) (ht : P.underlying t = some (.slice e)) (hv : ∀ w, (zeroValue e).run P w = .ok z w) (k : Nat) (hz : z.cells.size = k) (hk : 0 < k) (h1 : ∀ v ∈ z.cells.toList, v.oneCell' = true) (b o c : Nat)
    (hc : ∀ j, j < k → (w.cell? ⟨b, o + j, none⟩).isSome = true) (hf : ∀ j, j < k → w.frozen? ⟨b, o + j, none⟩ = false) :
    (Builtin.clear_ #[t] ty #[.slice (some ⟨b, o, none⟩) 1 c]).run P w = .ok (.tuple #[]) (w.setCells b o z.cells.toList) := by
  have hzc : (Builtin.zeroCells z.cells 1).toList = z.cells.toList := by
    apply List.ext_getElem
    · rw [Array.length_toList, size_zeroCells]; simp
    · intro i h2 h3
      have : i < z.cells.size := by simpa using h3
      simp [Builtin.zeroCells, Nat.mod_eq_of_lt this, this]
  have hst := run_storeCells_cells (P := P) b o z.cells.toList 0 w (by intro j hj; rw [Nat.add_zero]; exact hc j (by rw [← hz]; simpa using hj)) (by intro j hj; rw [Nat.add_zero]; exact hf j (by rw [← hz]; simpa using hj)) h1
  simp only [Nat.add_zero] at hst
  simp [Builtin.clear_, run_underlying ht, hv, hzc, hst]
end Go.Proofs.YtgjjedpoclhkfaaDoor.AM
