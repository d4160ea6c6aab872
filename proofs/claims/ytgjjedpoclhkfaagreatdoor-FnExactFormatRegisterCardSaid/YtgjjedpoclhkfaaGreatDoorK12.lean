/- Lemmas and contracts (Idx Num Shelf Shf Qln Ito); conditions: none. -/
import Derived.Test.YtgjjedpoclhkfaaGreatDoorK03
import Derived.Test.YtgjjedpoclhkfaaGreatDoorK04
import Derived.Test.YtgjjedpoclhkfaaGreatDoorK08
import Derived.Test.YtgjjedpoclhkfaaGreatDoorK10
import Derived.Test.YtgjjedpoclhkfaaGreatDoorK11
import Derived.Below
import Derived.Shelf.Strings.Builder1
import Derived.Shelf.Strings.Builder2
import Derived.Shelf.Strings.OnBuilder
import Derived.Shelf.Small.Wraps
import Derived.Shelf.Strings.BuilderF
import Derived.Shelf.Strings.BuilderK
import Derived.Shelf.Strings.Builder2Cap
import Derived.Shelf.Strconv.Atoi
import Derived.Shelf.Strconv.Itoa0
import Derived.Shelf.Strconv.Itoa1
import Derived.Shelf.LaysM
import Derived.Shelf.Strconv.Itoa2
import Derived.Shelf.Strconv.Itoa3
import Derived.Shelf.Strconv.AtoiErrFast
import Derived.Shelf.Strconv.ParseIntEmpty
import Derived.Shelf.Strconv.AtoiFail
import Derived.Shelf.Strconv.Clone
import Derived.Shelf.Strconv.SyntaxError
import Derived.Shelf.LaysC
import Derived.Shelf.Strconv.ToError
import Derived.Shelf.Strconv.Lower
import Derived.Shelf.Strconv.ParseUint10
import Derived.Shelf.Strconv.ParseUint10Empty
import Derived.Shelf.Strconv.ParseUint10Any
import Derived.Shelf.Strconv.ParseInt10
import Derived.Shelf.Strconv.AtoiLong
import Derived.Shelf.Strconv.AtoiInnerAll
import Derived.Shelf.Strconv.RangeError
import Derived.Shelf.Strconv.ToErrorRange
import Derived.Shelf.Strconv.AtoiAll
import Derived.Shelf.Strconv.ErrVarAll
import Derived.Shelf.Strings.Search1
import Derived.Shelf.Strings.Search2
import Derived.Shelf.Strings.Search3
import Derived.Shelf.Strings.Cut
import Derived.Shelf.Strings.Count
import Derived.Shelf.Strings.Shaped
import Derived.Shelf.Strings.Prefix
import Derived.Shelf.Strings.Split
import Derived.Shelf.Strings.SplitShaped
import Derived.Shelf.Unicode.DecodeSlow
import Derived.Shelf.Strings.BuilderCap
import Derived.Shelf.Slices.Turned
import Derived.Shelf.Slices.Equal
import Derived.Shelf.Slices.Empties2
import Derived.Test.YtgjjedpoclhkfaaGreatDoorProg
import Derived.Shelf.Strings.SlTrimAscii
set_option linter.unusedVariables false
set_option linter.unusedSimpArgs false
set_option maxRecDepth 100000
set_option maxHeartbeats 4000000
set_option cbv.maxSteps 3000000
namespace Go.Proofs.YtgjjedpoclhkfaaGreatDoor.AM
/- Where something stands in a list; conditions: none. -/
def idxF {α : Type} (p : α → Bool) (l : List α) : Int := if l.any p then ((l.findIdx p : Nat) : Int) else -1
theorem idxF_at {α : Type} {p : α → Bool} {l : List α} {i : Nat} (d : α) (hi : i < l.length) (h : p (l.getD i d) = true) (hj : ∀ j, j < i → p (l.getD j d) = false) : idxF p l = (i : Nat) := by
  have e : ∀ j, (q : j < l.length) → l.getD j d = l[j] := fun j q => by rw [List.getD_eq_getElem?_getD, List.getElem?_eq_getElem q]; rfl
  have h1 : l.findIdx p = i := by
    rw [List.findIdx_eq hi]
    exact ⟨by rw [← e i hi]; exact h, fun j hji => by rw [← e j (by omega)]; exact hj j hji⟩
  unfold idxF
  rw [if_pos (List.any_eq_true.2 ⟨_, List.getElem_mem hi, by rw [← e i hi]; exact h⟩), h1]
theorem none_any {α : Type} {p : α → Bool} {l : List α} (d : α) (hj : ∀ j, j < l.length → p (l.getD j d) = false) : l.any p = false := by
  rw [List.any_eq_false]
  intro x hx
  obtain ⟨i, hi, e⟩ := List.getElem_of_mem hx
  have := hj i hi
  rw [List.getD_eq_getElem?_getD, List.getElem?_eq_getElem hi] at this
  rw [← e]; simpa using this
theorem idxF_no {α : Type} {p : α → Bool} {l : List α} (d : α) (hj : ∀ j, j < l.length → p (l.getD j d) = false) : idxF p l = -1 := by
  unfold idxF; rw [none_any d hj]; rfl
theorem idxF_ge {α : Type} (p : α → Bool) (l : List α) : decide (idxF p l ≥ 0) = l.any p := by
  unfold idxF
  cases l.any p
  · rfl
  · simp
end Go.Proofs.YtgjjedpoclhkfaaGreatDoor.AM

set_option linter.unusedVariables false
set_option linter.unusedSimpArgs false
set_option maxRecDepth 100000
set_option maxHeartbeats 4000000
set_option cbv.maxSteps 3000000
namespace Go.Proofs.YtgjjedpoclhkfaaGreatDoor.AM
/- Numbers as texts; marks of texts; conditions: none. -/
theorem beqT (s t : ByteArray) : (s.toList == t.toList) = decide (s = t) := by
  rw [Bool.eq_iff_iff, beq_iff_eq, decide_eq_true_eq, ByteArray.toList_eq, ByteArray.toList_eq]
  exact ⟨fun h => ByteArray.ext (Array.ext' h), fun h => by rw [h]⟩
end Go.Proofs.YtgjjedpoclhkfaaGreatDoor.AM

namespace Go.Proofs
open Go.Shelf
def Tryz.laysM171_ren : Go.Shelf.Ren := ⟨fun | 171 => 31 | 243 => 68 | 246 => 114 | 283 => 175 | 284 => 176 | 285 => 177 | 286 => 178 | 129 => 206 | 317 => 205 | 318 => 207 | 319 => 208 | 320 => 209 | 337 => 217 | 338 => 218 | n => n, fun | 3 => 3 | 9 => 9 | 2 => 2 | 4 => 4 | 171 => 179 | 0 => 0 | 53 => 81 | 37 => 34 | 5 => 5 | 173 => 182 | 212 => 198 | 51 => 199 | 20 => 20 | 213 => 200 | 46 => 189 | 232 => 216 | 233 => 217 | n => n, fun | 17 => 3 | 18 => 6 | 19 => 7 | n => n⟩
theorem Tryz.laysM171 : Go.Proofs.LaysM.n171 Tryz.prog Tryz.laysM171_ren := {
  mixed := by kernel_rfl
  f129 := Tryz.func206.trans (congrArg some (by kernel_rfl))
  f171 := Tryz.func31.trans (congrArg some (by kernel_rfl))
  f243 := Tryz.func68.trans (congrArg some (by kernel_rfl))
  f246 := Tryz.func114.trans (congrArg some (by kernel_rfl))
  f283 := Tryz.func175.trans (congrArg some (by kernel_rfl))
  f284 := Tryz.func176.trans (congrArg some (by kernel_rfl))
  f285 := Tryz.func177.trans (congrArg some (by kernel_rfl))
  f286 := Tryz.func178.trans (congrArg some (by kernel_rfl))
  f317 := Tryz.func205.trans (congrArg some (by kernel_rfl))
  f318 := Tryz.func207.trans (congrArg some (by kernel_rfl))
  f319 := Tryz.func208.trans (congrArg some (by kernel_rfl))
  f320 := Tryz.func209.trans (congrArg some (by kernel_rfl))
  f337 := Tryz.func217.trans (congrArg some (by kernel_rfl))
  f338 := Tryz.func218.trans (congrArg some (by kernel_rfl))
  t0 := Tryz.underlying0
  a0 := Tryz.isAgg0
  z0 := Tryz.sizeOf0
  v0 := Tryz.zeroValue0
  t2 := Tryz.underlying2
  a2 := Tryz.isAgg2
  z2 := Tryz.sizeOf2
  v2 := Tryz.zeroValue2
  t3 := Tryz.underlying3
  a3 := Tryz.isAgg3
  z3 := Tryz.sizeOf3
  v3 := Tryz.zeroValue3
  t4 := Tryz.underlying4
  a4 := Tryz.isAgg4
  z4 := Tryz.sizeOf4
  v4 := Tryz.zeroValue4
  t5 := Tryz.underlying5
  a5 := Tryz.isAgg5
  z5 := Tryz.sizeOf5
  v5 := Tryz.zeroValue5
  t9 := Tryz.underlying9
  a9 := Tryz.isAgg9
  z9 := Tryz.sizeOf9
  v9 := Tryz.zeroValue9
  t20 := Tryz.underlying20
  a20 := Tryz.isAgg20
  z20 := Tryz.sizeOf20
  v20 := Tryz.zeroValue20
  t37 := Tryz.underlying34
  a37 := Tryz.isAgg34
  z37 := Tryz.sizeOf34
  v37 := Tryz.zeroValue34
  t46 := Tryz.underlying189
  a46 := Tryz.isAgg189
  z46 := Tryz.sizeOf189
  v46 := Tryz.zeroValue189
  t51 := Tryz.underlying199
  a51 := Tryz.isAgg199
  z51 := Tryz.sizeOf199
  v51 := Tryz.zeroValue199
  t53 := Tryz.underlying81
  a53 := Tryz.isAgg81
  z53 := Tryz.sizeOf81
  v53 := Tryz.zeroValue81
  t171 := Tryz.underlying179
  a171 := Tryz.isAgg179
  z171 := Tryz.sizeOf179
  v171 := Tryz.zeroValue179
  t173 := Tryz.underlying182
  a173 := Tryz.isAgg182
  z173 := Tryz.sizeOf182
  v173 := Tryz.zeroValue182
  t212 := Tryz.underlying198
  a212 := Tryz.isAgg198
  z212 := Tryz.sizeOf198
  v212 := Tryz.zeroValue198
  t213 := Tryz.underlying200
  a213 := Tryz.isAgg200
  z213 := Tryz.sizeOf200
  t232 := Tryz.underlying216
  a232 := Tryz.isAgg216
  z232 := Tryz.sizeOf216
  v232 := Tryz.zeroValue216
  t233 := Tryz.underlying217
  a233 := Tryz.isAgg217
  z233 := Tryz.sizeOf217
  v233 := Tryz.zeroValue217
  g17 := by kernel_rfl
  g18 := by kernel_rfl
  g19 := by kernel_rfl
  i0 := by kernel_rfl
  i2 := by kernel_rfl
  i3 := by kernel_rfl
  i4 := by kernel_rfl
  i5 := by kernel_rfl
  i9 := by kernel_rfl
  i20 := by kernel_rfl
  i37 := by kernel_rfl
  i46 := by kernel_rfl
  i51 := by kernel_rfl
  i53 := by kernel_rfl
  i171 := by kernel_rfl
  i173 := by kernel_rfl
  i212 := by kernel_rfl
  i232 := by kernel_rfl
  i233 := by kernel_rfl
  m17 := by kernel_rfl
  m18 := by kernel_rfl
  m19 := by kernel_rfl }
open Go.RowKit Go.Sort Go.Lib in
/-- strconv.Itoa: "Itoa is equivalent to FormatInt(int64(i), 10).": i's DECIMAL NUMERAL ('Lib.itoa': a '-' where i is negative, then the digits), FOR EVERY int. The world behind the call: the world before it, new blocks behind the heap (the library's 'var a [24]byte'), draws. (LAID: no walk: one application.) -/
theorem Tryz.strconv_Itoa (n : Int) (h0 : -9223372036854775808 ≤ n) (h1 : n ≤ 9223372036854775807) (w : World) (htab : Lib.TabIs Tryz.prog w "internal/strconv.uint64pow10" .u64 Lib.pow10Tab) :
    Calls Tryz.prog 31 #[.int .i64 n] w fun e w' => e = .returned (.string ⟨(Lib.itoa n).toArray⟩) ∧ ∃ k os, w' = grow (w.drewN k) os := Any.strconv_Itoa Tryz.laysM171 n h0 h1 w htab
end Go.Proofs

set_option linter.unusedVariables false
set_option linter.unusedSimpArgs false
set_option maxRecDepth 100000
set_option maxHeartbeats 4000000
set_option cbv.maxSteps 3000000
namespace Go.Proofs.YtgjjedpoclhkfaaGreatDoor.AM
/- The library's contracts, as the machine takes them; conditions: none. -/
theorem LRel.lits {C : Cx} : ∀ {l : List Value} {vs : List Value}, LRel C (l.map .lit) vs → vs = l
  | [], [], _ => rfl
  | [], _ :: _, h => by have := h.1; simp at this
  | _ :: _, [], h => by have := h.1; simp at this
  | x :: l, v :: vs, h => by
    have h1 := h.2 0 (.lit x) v rfl rfl
    cases h1
    have := LRel.lits (C := C) (l := l) (vs := vs) ⟨by simpa using h.1, fun c y u hy hu => h.2 (c + 1) y u (by simpa using hy) (by simpa using hu)⟩
    rw [this]
/-- A function of the library's that lays new blocks alone. -/
theorem con_belowG {f : FuncId} {l : List Value} {r : AV} {v : Value} (hr : ∀ C, Rel C r v) (h : ∀ (w : World) (ow : Nat → Prop), Glo w ow → Calls Tryz.prog f l.toArray w fun e w' => e = .returned v ∧ RowKit.Below w.heap.size w w') : Con Tryz.prog f (l.map .lit) [] r [] := by
  intro C vs hl _ _ hg
  rw [hl.lits]
  refine (h C.w _ hg).mono fun e w' ⟨he, hw⟩ => ⟨v, he, ⟨C.β, C.ok, C.ow, w'⟩, rfl, ⟨⟨hw.os, hw.tape, hw.output, hw.size, fun k hk _ => hw.block k hk, fun k c T hc => ⟨c, ?_, rfl⟩⟩, by simp, fun _ _ => rfl, fun _ h => h, fun _ h => .inl h⟩, by simp <;> omega, by simp <;> omega, by simp <;> omega, by simp <;> omega, fun y hy => ?_, by simp [named], by simp⟩
  · show w'.heap[k]? = _
    rw [hw.block k (Array.getElem?_eq_some_iff.1 hc).1]; exact hc
  · injection hy with hy
    subst hy
    exact hr _
end Go.Proofs.YtgjjedpoclhkfaaGreatDoor.AM

set_option linter.unusedVariables false
set_option linter.unusedSimpArgs false
set_option maxRecDepth 100000
set_option maxHeartbeats 4000000
set_option cbv.maxSteps 3000000
namespace Go.Proofs.YtgjjedpoclhkfaaGreatDoor.AM
/- Small numbers as texts; lines of quarterings; conditions: none. -/
def numD (i : Nat) : ByteArray := ⟨(Lib.decDigits i).toArray⟩
/-- A call that is never reached. -/
noncomputable def e_l1NumV : Entry := pureE 60 fun H a => match a with
  | [.lit (.int .i64 _)] => some (.lit (.string ByteArray.empty), [H Prop fun _ => False])
  | _ => none
theorem eok_l1NumV : EntryOk Tryz.prog e_l1NumV := pureE_ok (by unfold isBody; kernel_rfl) (by
  intro a r ob e hob
  split at e
  · simp only [Option.some.injEq, Prod.mk.injEq] at e
    obtain ⟨rfl, rfl⟩ := e
    exact hob.1.elim
  · simp at e)
theorem numD_one {i : Nat} (h : i < 10) : numD i = ⟨⟨[UInt8.ofNat (48 + i)]⟩⟩ := by unfold numD; rw [Lib.decDigits_one h]
theorem numD_step {i : Nat} (h : ¬ i < 10) : numD i = numD (i / 10) ++ ⟨⟨[UInt8.ofNat (48 + i % 10)]⟩⟩ := by
  unfold numD
  rw [Lib.decDigits, dif_neg h]
  apply ByteArray.ext; apply Array.ext'
  simp
theorem dig_at {i : Nat} (h : i < 10) : ((⟨⟨[48, 49, 50, 51, 52, 53, 54, 55, 56, 57]⟩⟩ : ByteArray)).extract i (i + 1) = ⟨⟨[UInt8.ofNat (48 + i)]⟩⟩ := by
  have : ∀ i : Nat, i < 10 → ((⟨⟨[48, 49, 50, 51, 52, 53, 54, 55, 56, 57]⟩⟩ : ByteArray)).extract i (i + 1) = (⟨⟨[UInt8.ofNat (48 + i)]⟩⟩ : ByteArray) := by decide
  exact this i h
theorem numD_sz {i : Nat} (h : i < 100) : (numD i).size ≤ 2 := by
  by_cases h1 : i < 10
  · rw [numD_one h1]; exact Nat.le_succ 1
  · rw [numD_step h1, numD_one (by omega)]; exact Nat.le_refl 2
theorem c_l1NumA (x : Int) (h0 : 0 ≤ x ∧ x ≤ 9) : ConN Tryz.prog 60 [.lit (.int .i64 x)] [] 0 (.lit (.string (stdH ByteArray fun _ => numD (x).toNat))) [] [] := by
  have hB : Base Tryz.prog (tabΓ [e_l1NumV]) tab := base_of tabOk (ents_cons eok_l1NumV <| ents_nil)
  refine con_m (N := 25) hB (draw_ok hB mixed) Tryz.func60 rfl rfl (fun H => [.lit (.int .i64 x)]) (fun _ => []) 0 (fun H => .lit (.string (H ByteArray fun _ => numD (x).toNat))) (fun H => []) (fun _ => []) 200 (by simp) (fun x hx => ?_) (by simp [lk]) (by omega) (by simp) ?_
  · simp only [List.mem_cons, List.not_mem_nil, or_false] at hx
    rcases hx with rfl
    · exact .lit
  intro X hX hX0 H hH
  conv in Fin.chk _ _ => cbv
  try simp only [Plain_rowsA, Plain_rowsB, Plain_rowsC, Plain_rowsF, Plain_rowsG, Plain_rowsI, Plain_rowsS, Plain_rowsU, Fin.satC_ret, Fin.satC_br, Fin.satC_need, Fin.satC_again, AllP, and_true, true_and, upd, List.length_nil, List.length_cons, Nat.zero_add, if_true, ncast, Int.ofNat_eq_natCast]
  subst hH
  simp only [stdH, decide_eq_true_eq, decide_eq_false_iff_not]
  have e1 : 0 ≤ x ∧ x ≤ 9 → IntKind.i64.wrap (x + 1) = x + 1 := fun h => wi (by omega) (by omega)
  have e2 : (x.tmod 10) = x % 10 := Int.tmod_eq_emod_of_nonneg (by omega)
  have e3 : (x.tdiv 10) = x / 10 := Int.tdiv_eq_ediv_of_nonneg (by omega)
  have e4 : IntKind.i64.wrap (x % 10 + 1) = x % 10 + 1 := wi (by omega) (by omega)
  have e5 : IntKind.i64.wrap (x / 10) = x / 10 := wi (by omega) (by omega)
  have e6 : ((⟨⟨[48, 49, 50, 51, 52, 53, 54, 55, 56, 57]⟩⟩ : ByteArray)).size = 10 := rfl
  have hx : (x % 10).toNat < 10 := by omega
  have e7 : (x % 10 + 1).toNat = (x % 10).toNat + 1 := by omega
  simp only [e2, e3, e4, e5, e6]
  simp only [loOf, hiOf, okB, e7, dig_at hx]
  refine ⟨fun h => ?_, fun h => ⟨fun h2 => ?_, fun h2 => ?_⟩⟩
  · omega
  · rw [e1 (by omega), show (x + 1).toNat = x.toNat + 1 by omega, dig_at (by omega), numD_one (by omega)]
    exact ⟨⟨by omega, by omega, by omega, by omega⟩, rfl⟩
  · omega
noncomputable def e_l1NumA : Entry := pureE 60 fun H a => match a with
  | [.lit (.int .i64 x)] => some (.lit (.string (H ByteArray fun _ => numD (x).toNat)), [H Prop fun _ => 0 ≤ x ∧ x ≤ 9])
  | _ => none
theorem eok_l1NumA : EntryOk Tryz.prog e_l1NumA := pureM_ok (by unfold isBody; kernel_rfl) (by
  intro a r ob e hob
  split at e
  · rename_i x
    simp only [Option.some.injEq, Prod.mk.injEq] at e
    obtain ⟨rfl, rfl⟩ := e
    exact ConN.args (.cons .rfl .nil) (c_l1NumA x hob.1)
  · simp at e)
theorem c_l1NumB (x : Int) (h0 : 0 ≤ x ∧ x ≤ 99) : ConN Tryz.prog 60 [.lit (.int .i64 x)] [] 0 (.lit (.string (stdH ByteArray fun _ => numD (x).toNat))) [] [] := by
  have hB : Base Tryz.prog (tabΓ [e_l1NumA]) tab := base_of tabOk (ents_cons eok_l1NumA <| ents_nil)
  refine con_m (N := 25) hB (draw_ok hB mixed) Tryz.func60 rfl rfl (fun H => [.lit (.int .i64 x)]) (fun _ => []) 0 (fun H => .lit (.string (H ByteArray fun _ => numD (x).toNat))) (fun H => []) (fun _ => []) 200 (by simp) (fun x hx => ?_) (by simp [lk]) (by omega) (by simp) ?_
  · simp only [List.mem_cons, List.not_mem_nil, or_false] at hx
    rcases hx with rfl
    · exact .lit
  intro X hX hX0 H hH
  conv in Fin.chk _ _ => cbv
  try simp only [Plain_rowsA, Plain_rowsB, Plain_rowsC, Plain_rowsF, Plain_rowsG, Plain_rowsI, Plain_rowsS, Plain_rowsU, Fin.satC_ret, Fin.satC_br, Fin.satC_need, Fin.satC_again, AllP, and_true, true_and, upd, List.length_nil, List.length_cons, Nat.zero_add, if_true, ncast, Int.ofNat_eq_natCast]
  subst hH
  simp only [stdH, decide_eq_true_eq, decide_eq_false_iff_not]
  have e1 : 0 ≤ x ∧ x ≤ 9 → IntKind.i64.wrap (x + 1) = x + 1 := fun h => wi (by omega) (by omega)
  have e2 : (x.tmod 10) = x % 10 := Int.tmod_eq_emod_of_nonneg (by omega)
  have e3 : (x.tdiv 10) = x / 10 := Int.tdiv_eq_ediv_of_nonneg (by omega)
  have e4 : IntKind.i64.wrap (x % 10 + 1) = x % 10 + 1 := wi (by omega) (by omega)
  have e5 : IntKind.i64.wrap (x / 10) = x / 10 := wi (by omega) (by omega)
  have e6 : ((⟨⟨[48, 49, 50, 51, 52, 53, 54, 55, 56, 57]⟩⟩ : ByteArray)).size = 10 := rfl
  have hx : (x % 10).toNat < 10 := by omega
  have e7 : (x % 10 + 1).toNat = (x % 10).toNat + 1 := by omega
  simp only [e2, e3, e4, e5, e6]
  simp only [loOf, hiOf, okB, e7, dig_at hx]
  refine ⟨fun h => ?_, fun h => ⟨fun h2 => ?_, fun h2 => ?_⟩⟩
  · omega
  · rw [e1 (by omega), show (x + 1).toNat = x.toNat + 1 by omega, dig_at (by omega), numD_one (by omega)]
    exact ⟨⟨by omega, by omega, by omega, by omega⟩, rfl⟩
  · have s1 := numD_sz (i := (x / 10).toNat) (by omega)
    refine ⟨by omega, by omega, by omega, by omega, ⟨by omega, by omega, by omega, by omega⟩, ?_, ?_⟩
    · show _ + 1 ≤ _
      omega
    · rw [numD_step (by omega), show (x / 10).toNat = x.toNat / 10 by omega, show (x % 10).toNat = x.toNat % 10 by omega]
noncomputable def e_l1NumB : Entry := pureE 60 fun H a => match a with
  | [.lit (.int .i64 x)] => some (.lit (.string (H ByteArray fun _ => numD (x).toNat)), [H Prop fun _ => 0 ≤ x ∧ x ≤ 99])
  | _ => none
theorem eok_l1NumB : EntryOk Tryz.prog e_l1NumB := pureM_ok (by unfold isBody; kernel_rfl) (by
  intro a r ob e hob
  split at e
  · rename_i x
    simp only [Option.some.injEq, Prod.mk.injEq] at e
    obtain ⟨rfl, rfl⟩ := e
    exact ConN.args (.cons .rfl .nil) (c_l1NumB x hob.1)
  · simp at e)
end Go.Proofs.YtgjjedpoclhkfaaGreatDoor.AM

set_option linter.unusedVariables false
set_option linter.unusedSimpArgs false
set_option maxRecDepth 100000
set_option maxHeartbeats 4000000
set_option cbv.maxSteps 3000000
namespace Go.Proofs.YtgjjedpoclhkfaaGreatDoor.AM
/- Numbers of up to four digits as texts; conditions: none. -/
theorem itoa_pos {x : Int} (h : 0 ≤ x) : Lib.itoa x = Lib.decDigits x.toNat := by
  unfold Lib.itoa
  rw [if_neg (by omega)]
theorem c_itoaN (x : Int) (h : 0 ≤ x ∧ x ≤ 1000000) : Con Tryz.prog 31 [.lit (.int .i64 x)] [] (.lit (.string (numD x.toNat))) [] :=
  con_belowG (l := [.int .i64 x]) (fun _ => .lit rfl) fun w ow hg => by
    have := Tryz.strconv_Itoa x (by omega) (by omega) w (hg.var.tab _ (List.mem_cons_self))
    refine this.mono fun e w' ⟨h1, k, os, h2⟩ => ⟨by rw [h1, itoa_pos h.1]; rfl, ?_⟩
    subst h2
    refine ⟨rfl, rfl, rfl, ?_, fun q hq => ?_⟩
    · show _ ≤ (w.heap ++ _).size
      rw [Array.size_append]; exact Nat.le_add_right _ _
    · show (w.heap ++ _)[q]? = _
      rw [Array.getElem?_append_left hq]
noncomputable def e_itoaN : Entry := pureE 31 fun H a => match a with
  | [.lit (.int .i64 x)] => some (.lit (.string (H ByteArray fun _ => (numD (x).toNat))), [H Prop fun _ => 0 ≤ x ∧ x ≤ 1000000])
  | _ => none
theorem eok_itoaN : EntryOk Tryz.prog e_itoaN := pureE_ok (by unfold isBody; kernel_rfl) (by
  intro a r ob e hob
  split at e
  · simp only [Option.some.injEq, Prod.mk.injEq] at e
    obtain ⟨rfl, rfl⟩ := e
    obtain ⟨h0, _⟩ := hob
    exact c_itoaN _ h0
  · simp at e)
theorem numD_sz3 {i : Nat} (h : i < 1000) : (numD i).size ≤ 3 := by
  by_cases h1 : i < 100
  · exact Nat.le_trans (numD_sz h1) (by omega)
  · rw [numD_step (by omega), ByteArray.size_append]
    exact Nat.add_le_add_right (numD_sz (i := i / 10) (by omega)) 1
theorem numD_sz4 {i : Nat} (h : i < 10000) : (numD i).size ≤ 4 := by
  by_cases h1 : i < 1000
  · exact Nat.le_trans (numD_sz3 h1) (by omega)
  · rw [numD_step (by omega), ByteArray.size_append]
    exact Nat.add_le_add_right (numD_sz3 (i := i / 10) (by omega)) 1
theorem c_l1NumC (x : Int) (h0 : 0 ≤ x ∧ x ≤ 999) : ConN Tryz.prog 60 [.lit (.int .i64 x)] [] 0 (.lit (.string (stdH ByteArray fun _ => numD (x).toNat))) [] [] := by
  have hB : Base Tryz.prog (tabΓ [e_l1NumB]) tab := base_of tabOk (ents_cons eok_l1NumB <| ents_nil)
  refine con_m (N := 25) hB (draw_ok hB mixed) Tryz.func60 rfl rfl (fun H => [.lit (.int .i64 x)]) (fun _ => []) 0 (fun H => .lit (.string (H ByteArray fun _ => numD (x).toNat))) (fun H => []) (fun _ => []) 200 (by simp) (fun x hx => ?_) (by simp [lk]) (by omega) (by simp) ?_
  · simp only [List.mem_cons, List.not_mem_nil, or_false] at hx
    rcases hx with rfl
    · exact .lit
  intro X hX hX0 H hH
  conv in Fin.chk _ _ => cbv
  try simp only [Plain_rowsA, Plain_rowsB, Plain_rowsC, Plain_rowsF, Plain_rowsG, Plain_rowsI, Plain_rowsS, Plain_rowsU, Fin.satC_ret, Fin.satC_br, Fin.satC_need, Fin.satC_again, AllP, and_true, true_and, upd, List.length_nil, List.length_cons, Nat.zero_add, if_true, ncast, Int.ofNat_eq_natCast]
  subst hH
  simp only [stdH, decide_eq_true_eq, decide_eq_false_iff_not]
  have e1 : 0 ≤ x ∧ x ≤ 9 → IntKind.i64.wrap (x + 1) = x + 1 := fun h => wi (by omega) (by omega)
  have e2 : (x.tmod 10) = x % 10 := Int.tmod_eq_emod_of_nonneg (by omega)
  have e3 : (x.tdiv 10) = x / 10 := Int.tdiv_eq_ediv_of_nonneg (by omega)
  have e4 : IntKind.i64.wrap (x % 10 + 1) = x % 10 + 1 := wi (by omega) (by omega)
  have e5 : IntKind.i64.wrap (x / 10) = x / 10 := wi (by omega) (by omega)
  have e6 : ((⟨⟨[48, 49, 50, 51, 52, 53, 54, 55, 56, 57]⟩⟩ : ByteArray)).size = 10 := rfl
  have hx : (x % 10).toNat < 10 := by omega
  have e7 : (x % 10 + 1).toNat = (x % 10).toNat + 1 := by omega
  simp only [e2, e3, e4, e5, e6]
  simp only [loOf, hiOf, okB, e7, dig_at hx]
  refine ⟨fun h => ?_, fun h => ⟨fun h2 => ?_, fun h2 => ?_⟩⟩
  · omega
  · rw [e1 (by omega), show (x + 1).toNat = x.toNat + 1 by omega, dig_at (by omega), numD_one (by omega)]
    exact ⟨⟨by omega, by omega, by omega, by omega⟩, rfl⟩
  · have s1 := numD_sz (i := (x / 10).toNat) (by omega)
    refine ⟨by omega, by omega, by omega, by omega, ⟨by omega, by omega, by omega, by omega⟩, ?_, ?_⟩
    · show _ + 1 ≤ _
      omega
    · rw [numD_step (by omega), show (x / 10).toNat = x.toNat / 10 by omega, show (x % 10).toNat = x.toNat % 10 by omega]
noncomputable def e_l1NumC : Entry := pureE 60 fun H a => match a with
  | [.lit (.int .i64 x)] => some (.lit (.string (H ByteArray fun _ => numD (x).toNat)), [H Prop fun _ => 0 ≤ x ∧ x ≤ 999])
  | _ => none
theorem eok_l1NumC : EntryOk Tryz.prog e_l1NumC := pureM_ok (by unfold isBody; kernel_rfl) (by
  intro a r ob e hob
  split at e
  · rename_i x
    simp only [Option.some.injEq, Prod.mk.injEq] at e
    obtain ⟨rfl, rfl⟩ := e
    exact ConN.args (.cons .rfl .nil) (c_l1NumC x hob.1)
  · simp at e)
theorem c_l1NumD (x : Int) (h0 : 0 ≤ x ∧ x ≤ 9999) : ConN Tryz.prog 60 [.lit (.int .i64 x)] [] 0 (.lit (.string (stdH ByteArray fun _ => numD (x).toNat))) [] [] := by
  have hB : Base Tryz.prog (tabΓ [e_l1NumC]) tab := base_of tabOk (ents_cons eok_l1NumC <| ents_nil)
  refine con_m (N := 25) hB (draw_ok hB mixed) Tryz.func60 rfl rfl (fun H => [.lit (.int .i64 x)]) (fun _ => []) 0 (fun H => .lit (.string (H ByteArray fun _ => numD (x).toNat))) (fun H => []) (fun _ => []) 200 (by simp) (fun x hx => ?_) (by simp [lk]) (by omega) (by simp) ?_
  · simp only [List.mem_cons, List.not_mem_nil, or_false] at hx
    rcases hx with rfl
    · exact .lit
  intro X hX hX0 H hH
  conv in Fin.chk _ _ => cbv
  try simp only [Plain_rowsA, Plain_rowsB, Plain_rowsC, Plain_rowsF, Plain_rowsG, Plain_rowsI, Plain_rowsS, Plain_rowsU, Fin.satC_ret, Fin.satC_br, Fin.satC_need, Fin.satC_again, AllP, and_true, true_and, upd, List.length_nil, List.length_cons, Nat.zero_add, if_true, ncast, Int.ofNat_eq_natCast]
  subst hH
  simp only [stdH, decide_eq_true_eq, decide_eq_false_iff_not]
  have e1 : 0 ≤ x ∧ x ≤ 9 → IntKind.i64.wrap (x + 1) = x + 1 := fun h => wi (by omega) (by omega)
  have e2 : (x.tmod 10) = x % 10 := Int.tmod_eq_emod_of_nonneg (by omega)
  have e3 : (x.tdiv 10) = x / 10 := Int.tdiv_eq_ediv_of_nonneg (by omega)
  have e4 : IntKind.i64.wrap (x % 10 + 1) = x % 10 + 1 := wi (by omega) (by omega)
  have e5 : IntKind.i64.wrap (x / 10) = x / 10 := wi (by omega) (by omega)
  have e6 : ((⟨⟨[48, 49, 50, 51, 52, 53, 54, 55, 56, 57]⟩⟩ : ByteArray)).size = 10 := rfl
  have hx : (x % 10).toNat < 10 := by omega
  have e7 : (x % 10 + 1).toNat = (x % 10).toNat + 1 := by omega
  simp only [e2, e3, e4, e5, e6]
  simp only [loOf, hiOf, okB, e7, dig_at hx]
  refine ⟨fun h => ?_, fun h => ⟨fun h2 => ?_, fun h2 => ?_⟩⟩
  · omega
  · rw [e1 (by omega), show (x + 1).toNat = x.toNat + 1 by omega, dig_at (by omega), numD_one (by omega)]
    exact ⟨⟨by omega, by omega, by omega, by omega⟩, rfl⟩
  · have s1 := numD_sz3 (i := (x / 10).toNat) (by omega)
    refine ⟨by omega, by omega, by omega, by omega, ⟨by omega, by omega, by omega, by omega⟩, ?_, ?_⟩
    · show _ + 1 ≤ _
      omega
    · rw [numD_step (by omega), show (x / 10).toNat = x.toNat / 10 by omega, show (x % 10).toNat = x.toNat % 10 by omega]
noncomputable def e_l1NumD : Entry := pureE 60 fun H a => match a with
  | [.lit (.int .i64 x)] => some (.lit (.string (H ByteArray fun _ => numD (x).toNat)), [H Prop fun _ => 0 ≤ x ∧ x ≤ 9999])
  | _ => none
theorem eok_l1NumD : EntryOk Tryz.prog e_l1NumD := pureM_ok (by unfold isBody; kernel_rfl) (by
  intro a r ob e hob
  split at e
  · rename_i x
    simp only [Option.some.injEq, Prod.mk.injEq] at e
    obtain ⟨rfl, rfl⟩ := e
    exact ConN.args (.cons .rfl .nil) (c_l1NumD x hob.1)
  · simp at e)

end Go.Proofs.YtgjjedpoclhkfaaGreatDoor.AM

