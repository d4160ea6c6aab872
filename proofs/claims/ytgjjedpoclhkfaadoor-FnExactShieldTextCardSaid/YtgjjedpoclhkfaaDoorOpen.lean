/- Contracts and lemmas (Open) for the laws of this seat: what the Go functions named here return, for all arguments that each theorem states; no further conditions. -/
import Derived.ChangeOld
import Derived.ShutString
import Derived.Deep.Slices
import Derived.Deep.MidRow
import Derived.OpenShut
import Derived.WalkKit
import Derived.ProofKit
import Derived.WalkLawsBesides
import Derived.Lib.Hide
import Derived.Deep.QuietTactic
import Derived.BigQuiet
import Derived.Deep.Light
import Derived.Handy
namespace Go.Proofs.YtgjjedpoclhkfaaDoor
set_option maxRecDepth 100000
open Go.ChangeShapes Go.WideShapes Go.ChangeAt Go.RowKit
set_option linter.unusedVariables false
set_option linter.unusedSimpArgs false
open Go.Deep Go.ChangeShapes Go.WideShapes Go.ChangeAt Go.RowKit

/-- The reading of a type's cells, one leaf after the other. -/
def LeafAll (R : TypeId → Value → Prop) : List TypeId → List Value → Prop
  | [], [] => True
  | t :: ts, v :: vs => R t v ∧ LeafAll R ts vs
  | _, _ => False
theorem LeafAll.append {R : TypeId → Value → Prop} : ∀ {a : List TypeId} {c : List Value} {b : List TypeId} {d : List Value}, LeafAll R a c → LeafAll R b d → LeafAll R (a ++ b) (c ++ d)
  | [], [], _, _, _, h => h
  | _ :: _, _ :: _, _, _, h, k => ⟨h.1, LeafAll.append h.2 k⟩
def leaves (P : Program) : Nat → TypeId → List TypeId
  | 0, t => [t]
  | n + 1, t => match P.underlying t with
    | some (.struct fs) => fs.toList.flatMap fun f => leaves P n f.type
    | _ => [t]
def contig (P : Program) (tot : Nat) : Nat → List Field → Bool
  | off, [] => off == tot
  | off, f :: r => f.offset == off && contig P tot (off + P.cellsOf f.type) r
def leafOk (P : Program) : Nat → TypeId → Bool
  | 0, t => match P.underlying t with
    | some (.int _) => true | some .bool => true | some .string => true | some (.slice _) => true | _ => false
  | n + 1, t => match P.underlying t with
    | some (.struct fs) => contig P (P.cellsOf t) 0 fs.toList && fs.toList.all fun f => leafOk P n f.type
    | some (.int _) => true | some .bool => true | some .string => true | some (.slice _) => true | _ => false
section
variable {H : Type} {enc : TypeId × Value → H} {P : Program} {w : World} {base : Nat} {spare : Nat → Bool} {held : Bool}
def LeafRd (enc : TypeId × Value → H) (P : Program) (w : World) (base : Nat) (spare : Nat → Bool) (held : Bool) (u : TypeId) (v : Value) : Prop := ∃ m y, DataW.trod enc P w base spare held m u [v] = some y
theorem leaf_one {t : TypeId} {fuel : Nat} {cs : List Value} {x : DataW H × List MemPlace} (h : leafOk P 0 t = true) (hx : DataW.trod enc P w base spare held fuel t cs = some x) : LeafAll (LeafRd enc P w base spare held) [t] cs := by
  have key : ∃ v, cs = [v] := by
    unfold leafOk at h
    split at h
    · rename_i k hk; obtain ⟨n, hc, _⟩ := DataW.trod_int hk hx; exact ⟨_, hc⟩
    · rename_i hk; obtain ⟨n, hc, _⟩ := DataW.trod_bool hk hx; exact ⟨_, hc⟩
    · rename_i hk; obtain ⟨n, hc, _⟩ := DataW.trod_string hk hx; exact ⟨_, hc⟩
    · rename_i e hk
      rcases open_slice hk hx with ⟨hc, _⟩ | ⟨a, len, cap, m, n, D, Pl, hc, _⟩
      · exact ⟨_, hc⟩
      · exact ⟨_, hc⟩
    · cases h
  obtain ⟨v, rfl⟩ := key
  exact ⟨⟨_, _, hx⟩, trivial⟩
theorem leaf_open : ∀ (n : Nat) (t : TypeId) (fuel : Nat) (cs : List Value) (x : DataW H × List MemPlace), leafOk P n t = true → DataW.trod enc P w base spare held fuel t cs = some x → LeafAll (LeafRd enc P w base spare held) (leaves P n t) cs := by
  intro n
  induction n with
  | zero => intro t fuel cs x h hx; exact leaf_one h hx
  | succ n ih =>
    intro t fuel cs x h hx
    have hstruct : ∀ fs, P.underlying t = some (.struct fs) → LeafAll (LeafRd enc P w base spare held) (leaves P (n + 1) t) cs := by
      intro fs ht
      have h' := h
      unfold leafOk at h'
      rw [ht] at h'
      simp only [Bool.and_eq_true, List.all_eq_true] at h'
      obtain ⟨hcon, hall⟩ := h'
      obtain ⟨xs, m, _, _, hlen, hxl, hf⟩ := DataW.trod_struct ht hx
      have hrd : ∀ f ∈ fs.toList, ∃ y, DataW.trod enc P w base spare held m f.type ((cs.drop f.offset).take (P.cellsOf f.type)) = some y := by
        intro f hm
        obtain ⟨i, hi, he⟩ := List.mem_iff_getElem.1 hm
        have hi' : i < fs.size := by simpa using hi
        have := hf i f (by rw [← he]; simp)
        rw [this]
        exact ⟨_, List.getElem?_eq_getElem (by omega)⟩
      have go : ∀ (l : List Field) (off : Nat), contig P (P.cellsOf t) off l = true → (∀ f ∈ l, ∃ y, DataW.trod enc P w base spare held m f.type ((cs.drop f.offset).take (P.cellsOf f.type)) = some y) → (∀ f ∈ l, leafOk P n f.type = true) →
          LeafAll (LeafRd enc P w base spare held) (l.flatMap fun f => leaves P n f.type) (cs.drop off) := by
        intro l
        induction l with
        | nil =>
          intro off hc _ _
          simp only [contig, beq_iff_eq] at hc
          rw [List.drop_of_length_le (by omega)]
          trivial
        | cons f r ihl =>
          intro off hc hr ho
          simp only [contig, Bool.and_eq_true, beq_iff_eq] at hc
          obtain ⟨hc1, hc2⟩ := hc
          obtain ⟨y, hy⟩ := hr f (by simp)
          rw [hc1] at hy
          have a1 := ih f.type m _ y (ho f (by simp)) hy
          have a2 := ihl (off + P.cellsOf f.type) hc2 (fun g hg => hr g (by simp [hg])) (fun g hg => ho g (by simp [hg]))
          have := a1.append a2
          rw [← List.drop_drop, List.take_append_drop] at this
          simpa using this
      have := go fs.toList 0 hcon hrd hall
      simp only [leaves, ht]
      simpa using this
    cases hu : P.underlying t with
    | none => unfold leafOk at h; rw [hu] at h; cases h
    | some d =>
      cases d with
      | struct fs => exact hstruct fs hu
      | int k => have e : leaves P (n + 1) t = [t] := by simp [leaves, hu]
                 rw [e]; exact leaf_one (by simp [leafOk, hu]) hx
      | bool => have e : leaves P (n + 1) t = [t] := by simp [leaves, hu]
                rw [e]; exact leaf_one (by simp [leafOk, hu]) hx
      | string => have e : leaves P (n + 1) t = [t] := by simp [leaves, hu]
                  rw [e]; exact leaf_one (by simp [leafOk, hu]) hx
      | slice s => have e : leaves P (n + 1) t = [t] := by simp [leaves, hu]
                   rw [e]; exact leaf_one (by simp [leafOk, hu]) hx
      | _ => unfold leafOk at h; rw [hu] at h; cases h
end

/-- A number fits an int. -/
def I64 (x : Int) : Prop := -9223372036854775808 ≤ x ∧ x ≤ 9223372036854775807
theorem I64.of_wf {x : Int} (h : (Lit.int .i64 x).wf = true) : I64 x := bounds_i64 h
theorem list_of_length {α : Type} : ∀ {l : List α} {n : Nat}, l.length = n + 1 → ∃ a r, l = a :: r ∧ r.length = n
  | a :: r, _, h => ⟨a, r, rfl, by simpa using h⟩

/-- A slice that reads as a list: 'enc' gives an element's cells, of which there are k. -/
structure Rd {α : Type} (w : World) (k : Nat) (enc : α → List Value) (A : Option Addr) (cap : Nat) (l : List α) : Prop where
  le : l.length ≤ cap
  max : cap ≤ maxLen
  cells : l ≠ [] → ∃ b o, A = some ⟨b, o, none⟩ ∧ ∀ i a, l[i]? = some a → w.rangeAt b (o + i * k) (enc a)
theorem Rd.nil_ {α : Type} (w : World) (k : Nat) (enc : α → List Value) : Rd w k enc none 0 [] := ⟨by simp, by simp [maxLen], fun h => absurd rfl h⟩

section
variable {H : Type} {enc : TypeId × Value → H} {P : Program} {w : World} {base : Nat} {spare : Nat → Bool} {held : Bool}
theorem leaf_ints {T : TypeId} (hT : P.underlying T = some (.int .i64)) : ∀ {k : Nat} {cs : List Value}, LeafAll (LeafRd enc P w base spare held) (List.replicate k T) cs → ∃ xs : List Int, cs = xs.map (Value.int .i64) ∧ xs.length = k ∧ ∀ x ∈ xs, I64 x
  | 0, [], _ => ⟨[], rfl, rfl, by simp⟩
  | 0, _ :: _, h => absurd h (by simp [LeafAll])
  | k + 1, [], h => absurd h (by simp [LeafAll, List.replicate_succ])
  | k + 1, c :: cs, h => by
    rw [List.replicate_succ] at h
    obtain ⟨⟨m, y, hy⟩, h2⟩ := h
    obtain ⟨n, hn, _, hw⟩ := DataW.trod_int hT hy
    obtain ⟨xs, hx, hl, hall⟩ := leaf_ints hT h2
    obtain rfl : c = .int .i64 n := by simpa using hn
    exact ⟨n :: xs, by simp [hx], by simp [hl], by simpa using ⟨I64.of_wf hw, hall⟩⟩
/-- A struct of ints, by value. -/
theorem open_flat {t T : TypeId} {fs : Array Field} {v : Value} {d : DataW H} {p : List MemPlace} {r : Reach} {b0 n k : Nat} (hs : P.underlying t = some (.struct fs)) (hT : P.underlying T = some (.int .i64)) (hok : leafOk P n t = true) (hl : leaves P n t = List.replicate k T)
    (hv : Value.okWide P w r b0 t v) (h : DataW.Trod enc P w base spare held t v d p) : ∃ xs : List Int, v = .agg (xs.map (Value.int .i64)).toArray ∧ xs.length = k ∧ ∀ x ∈ xs, I64 x := by
  obtain ⟨cs, rfl, _⟩ := okWide_struct hs hv
  obtain ⟨fuel, hf⟩ := h
  have := leaf_open n t fuel _ _ hok hf
  rw [hl] at this
  obtain ⟨xs, hx, hlen, hall⟩ := leaf_ints hT this
  refine ⟨xs, ?_, hlen, hall⟩
  congr 1
  apply Array.ext'
  simpa [Value.cells] using hx
/-- A slice of elements whose cells are read by 'R'. -/
theorem open_rd {α : Type} [Inhabited α] {t e : TypeId} {fuel : Nat} {v : Value} {x : DataW H × List MemPlace} {k : Nat} {en : α → List Value} {good : α → Prop} (ht : P.underlying t = some (.slice e)) (hk : P.cellsOf e = k) (hpos : 0 < k) (hlen : ∀ a, (en a).length = k)
    (hel : ∀ m cs y, DataW.trod enc P w base spare held m e cs = some y → ∃ a, cs = en a ∧ good a) (h : DataW.trod enc P w base spare held fuel t v.cells.toList = some x) (hv : ∃ a len cap, v = .slice a len cap) :
    ∃ (A : Option Addr) (cap : Nat) (l : List α), v = .slice A l.length cap ∧ Rd w k en A cap l ∧ ∀ a ∈ l, good a := by
  obtain ⟨A, len, cap, rfl⟩ := hv
  rcases open_slice ht h with ⟨hc, _⟩ | ⟨a, len', cap', m, n, D, Pl, hc, hb, hl, hm, hmm, _, hi⟩
  · simp [Value.cells] at hc
    obtain ⟨rfl, rfl, rfl⟩ := hc
    exact ⟨none, 0, [], rfl, Rd.nil_ _ _ _, by simp⟩
  · simp [Value.cells] at hc
    obtain ⟨rfl, rfl, rfl⟩ := hc
    have hle : len ≤ m := by rw [hmm]; split <;> omega
    rw [hk] at hi
    have h1 : ∀ i, i < len → ∃ x : α, (w.cells? base (a.add (i * k)) k = some (en x)) ∧ good x := by
      intro i hil
      obtain ⟨cs', h1, h2⟩ := hi i (by omega)
      obtain ⟨x, rfl, hg⟩ := hel _ _ _ h2
      exact ⟨x, h1, hg⟩
    obtain ⟨f, hf⟩ := choose_lt h1
    refine ⟨some a, cap, (List.range len).map f, by simp, ⟨by simpa using hl, hm, fun hne => ?_⟩, ?_⟩
    · have hpos' : 0 < len := by
        rcases Nat.eq_zero_or_pos len with h0 | h0
        · subst h0; simp at hne
        · exact h0
      obtain ⟨b, o, sp⟩ := a
      have hsp : sp = none := by
        obtain ⟨h0, _⟩ := hf 0 hpos'
        obtain ⟨_, hcl, hat⟩ := World.cells?_some h0
        have h00 := hat 0 (by omega)
        rw [List.getElem?_eq_getElem (by rw [hlen]; omega)] at h00
        simpa [Addr.add] using World.cell?_spot h00
      subst hsp
      refine ⟨b, o, rfl, fun i x hx => ?_⟩
      have hil : i < len := by
        have := (List.getElem?_eq_some_iff.1 hx).1
        simpa using this
      have hxe : x = f i := by simp [hil] at hx; exact hx.symm
      subst hxe
      obtain ⟨h0, _⟩ := hf i hil
      obtain ⟨_, hcl, hat⟩ := World.cells?_some h0
      intro j u hu
      have hj : j < k := by rw [← hlen (f i)]; exact (List.getElem?_eq_some_iff.1 hu).1
      have := hat j hj
      rw [Addr.add_mid, Addr.add_mid] at this
      rw [this]; exact hu
    · intro x hx
      obtain ⟨i, hi', rfl⟩ := List.mem_map.1 hx
      exact (hf i (by simpa using hi')).2
end

end Go.Proofs.YtgjjedpoclhkfaaDoor
