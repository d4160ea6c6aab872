/- Lemmas and contracts (Rba); conditions: none. -/
import Derived.Test.YtpilblmncpeelaaK04
import Derived.Test.YtpilblmncpeelaaK05
set_option linter.unusedVariables false
set_option linter.unusedSimpArgs false
set_option linter.unusedVariables false
set_option linter.unusedSimpArgs false
set_option maxRecDepth 100000
set_option maxHeartbeats 4000000
set_option cbv.maxSteps 3000000
namespace Go.Proofs.Ytpilblmncpeelaa.AM
/- Bits of rows, regions: plain laws; conditions: none. -/
/-! ### Bits of rows -/
theorem ofI (n : Nat) : BitVec.ofInt 64 (n : Int) = BitVec.ofNat 64 n := BitVec.ofInt_natCast 64 n
theorem p62 {n : Nat} (h : n < 2 ^ 62) : n < 2 ^ 64 := Nat.lt_trans h (by decide)
theorem wiN {n : Nat} (h : n < 2 ^ 63) : IntKind.i64.wrap (n : Int) = n := by
  have h : n < 9223372036854775808 := h
  exact wi (by omega) (by omega)
/-- And, or, without: of numbers that are not negative. -/
theorem andI {n m : Nat} (hn : n < 2 ^ 62) (hm : m < 2 ^ 62) : IntKind.i64.wrap ((BitVec.ofInt 64 (n : Int) &&& BitVec.ofInt 64 (m : Int)).toNat : Nat) = ((n &&& m : Nat) : Int) := by
  rw [ofI, ofI, BitVec.toNat_and, BitVec.toNat_ofNat, BitVec.toNat_ofNat, Nat.mod_eq_of_lt (p62 hn), Nat.mod_eq_of_lt (p62 hm)]
  exact wiN (Nat.lt_of_le_of_lt Nat.and_le_left (Nat.lt_trans hn (by decide)))
theorem orI {n m : Nat} (hn : n < 2 ^ 62) (hm : m < 2 ^ 62) : IntKind.i64.wrap ((BitVec.ofInt 64 (n : Int) ||| BitVec.ofInt 64 (m : Int)).toNat : Nat) = ((n ||| m : Nat) : Int) := by
  rw [ofI, ofI, BitVec.toNat_or, BitVec.toNat_ofNat, BitVec.toNat_ofNat, Nat.mod_eq_of_lt (p62 hn), Nat.mod_eq_of_lt (p62 hm)]
  exact wiN (Nat.lt_trans (Nat.or_lt_two_pow hn hm) (by decide))
/-- The bits of n that m has not. -/
def noB (n m : Nat) : Nat := (BitVec.ofNat 64 n &&& ~~~BitVec.ofNat 64 m).toNat
theorem noB_bit {n m i : Nat} (hn : n < 2 ^ 62) : (noB n m).testBit i = (n.testBit i && !m.testBit i) := by
  unfold noB
  rw [BitVec.testBit_toNat, BitVec.getLsbD_and, BitVec.getLsbD_not, BitVec.getLsbD_ofNat, BitVec.getLsbD_ofNat]
  by_cases h : i < 64
  · simp [h]
  · have : n.testBit i = false := Nat.testBit_lt_two_pow (Nat.lt_of_lt_of_le hn (Nat.pow_le_pow_right (by decide) (by omega)))
    simp [h, this]
theorem noB_le {n m : Nat} (hn : n < 2 ^ 62) : noB n m ≤ n := by
  unfold noB
  rw [BitVec.toNat_and, BitVec.toNat_ofNat, Nat.mod_eq_of_lt (p62 hn)]
  exact Nat.and_le_left
theorem noI {n m : Nat} (hn : n < 2 ^ 62) : IntKind.i64.wrap ((BitVec.ofInt 64 (n : Int) &&& ~~~BitVec.ofInt 64 (m : Int)).toNat : Nat) = ((noB n m : Nat) : Int) := by
  rw [ofI, ofI]
  exact wiN (Nat.lt_of_le_of_lt (noB_le hn) (Nat.lt_trans hn (by decide)))
theorem shrI {n x : Nat} (h : x < 64) : (n : Int).fdiv (2 ^ (min (x : Int).toNat 64)) = ((n / 2 ^ x : Nat) : Int) := by
  rw [Int.toNat_natCast, Nat.min_eq_left (by omega), Int.fdiv_eq_ediv_of_nonneg _ (by exact Int.le_of_lt (Int.pow_pos (by decide)))]
  simp
theorem shlI {n x : Nat} (h : x < 32) (hn : n < 2 ^ 30) : IntKind.i64.wrap ((n : Int) * 2 ^ (min (x : Int).toNat 64)) = ((n * 2 ^ x : Nat) : Int) := by
  rw [Int.toNat_natCast, Nat.min_eq_left (by omega)]
  have e : (n : Int) * 2 ^ x = ((n * 2 ^ x : Nat) : Int) := by simp
  rw [e]
  refine wiN ?_
  have h1 : 2 ^ x ≤ 2 ^ 32 := Nat.pow_le_pow_right (by decide) (by omega)
  calc n * 2 ^ x ≤ n * 2 ^ 32 := Nat.mul_le_mul_left _ h1
    _ < 2 ^ 30 * 2 ^ 32 := Nat.mul_lt_mul_of_pos_right hn (by decide)
    _ < 2 ^ 63 := by decide
/-- Whether a cell's bit is set. -/
theorem hasI {n x : Nat} (hn : n < 2 ^ 62) (h : x < 64) : IntKind.i64.wrap ((BitVec.ofInt 64 ((n : Int).fdiv (2 ^ (min (x : Int).toNat 64))) &&& BitVec.ofInt 64 1).toNat : Nat) = if n.testBit x then 1 else 0 := by
  rw [shrI h]
  have := andI (n := n / 2 ^ x) (m := 1) (Nat.lt_of_le_of_lt (Nat.div_le_self _ _) hn) (by decide)
  rw [show ((1 : Nat) : Int) = 1 from rfl] at this
  rw [this, Nat.and_one_is_mod, Nat.testBit_eq_decide_div_mod_eq]
  have h2 : n / 2 ^ x % 2 < 2 := Nat.mod_lt _ (by decide)
  by_cases h3 : n / 2 ^ x % 2 = 1
  · rw [h3]; simp
  · rw [show n / 2 ^ x % 2 = 0 by omega]; simp
theorem one_bit {x i : Nat} : (1 * 2 ^ x : Nat).testBit i = decide (x = i) := by rw [Nat.one_mul, Nat.testBit_two_pow]
/-- A run of bits. -/
theorem run_bit {s x i : Nat} : ((2 ^ s - 1) * 2 ^ x).testBit i = decide (x ≤ i ∧ i < x + s) := by
  rw [← Nat.shiftLeft_eq, Nat.testBit_shiftLeft, Nat.testBit_two_pow_sub_one]
  rw [Bool.eq_iff_iff]
  simp only [Bool.and_eq_true, decide_eq_true_eq]
  omega
/-! ### Regions -/
def shN (y x : Nat) : Bool := decide (y < 12) || decide (576 * (2 * (x : Int) - 19) * (2 * (x : Int) - 19) + 400 * (2 * (y : Int) - 23) * (2 * (y : Int) - 23) ≤ 230400)
/-- A row of the cells for which something holds. -/
def rwG (g : Nat → Bool) : Nat → Nat
  | 0 => 0
  | n + 1 => if g n then rwG g n ||| (1 * 2 ^ n) else rwG g n
theorem rwG_bit {g : Nat → Bool} {i : Nat} : ∀ {n : Nat}, (rwG g n).testBit i = (decide (i < n) && g i)
  | 0 => by simp [rwG]
  | n + 1 => by
    show (if g n then rwG g n ||| (1 * 2 ^ n) else rwG g n).testBit i = _
    by_cases h : g n = true
    · rw [if_pos h, Nat.testBit_or, rwG_bit, one_bit]
      by_cases h2 : n = i
      · subst h2; simp [h]
      · have : decide (i < n + 1) = decide (i < n) := by rw [decide_eq_decide]; omega
        rw [this]; simp [h2]
    · rw [if_neg h, rwG_bit]
      by_cases h2 : n = i
      · subst h2; simp [h]
      · have : decide (i < n + 1) = decide (i < n) := by rw [decide_eq_decide]; omega
        rw [this]
theorem rwG_lt {g : Nat → Bool} {n : Nat} : rwG g n < 2 ^ n := Nat.lt_pow_two_of_testBit _ fun i hi => by
  rw [rwG_bit, decide_eq_false (by omega)]; rfl
theorem p20 {n : Nat} (h : n ≤ 20) : 2 ^ n ≤ 1048576 := Nat.le_trans (Nat.pow_le_pow_right (by decide) h) (by decide)
theorem rwG_62 {g : Nat → Bool} {n : Nat} (h : n ≤ 20) : rwG g n < 2 ^ 62 := Nat.lt_of_lt_of_le rwG_lt (Nat.le_trans (p20 h) (by decide))
/-- A region of the cells for which something holds, up to a cell. -/
def genAt (g : Nat → Nat → Bool) (y x : Nat) : List Int := (List.range 24).map fun j => if j < y then ((rwG (g j) 20 : Nat) : Int) else if j = y then ((rwG (g j) x : Nat) : Int) else 0
def genR (g : Nat → Nat → Bool) : List Int := (List.range 24).map fun j => ((rwG (g j) 20 : Nat) : Int)
theorem genAt_len (g : Nat → Nat → Bool) (y x : Nat) : (genAt g y x).length = 24 := by unfold genAt; rw [List.length_map, List.length_range]
theorem genAt_get {g : Nat → Nat → Bool} {y x j : Nat} (h : j < 24) : (genAt g y x).getD j 0 = if j < y then ((rwG (g j) 20 : Nat) : Int) else if j = y then ((rwG (g j) x : Nat) : Int) else 0 := by
  unfold genAt
  rw [List.getD_eq_getElem?_getD, List.getElem?_map, List.getElem?_range h]; rfl
theorem extZ {l l' : List Int} (h : l.length = l'.length) (he : ∀ j, j < l.length → l.getD j 0 = l'.getD j 0) : l = l' := by
  refine List.ext_getElem h fun j h1 h2 => ?_
  have := he j h1
  rwa [List.getD_eq_getElem?_getD, List.getD_eq_getElem?_getD, List.getElem?_eq_getElem h1, List.getElem?_eq_getElem h2] at this
theorem genAt_0 (g : Nat → Nat → Bool) : genAt g 0 0 = List.replicate 24 0 := by
  refine extZ (by rw [genAt_len, List.length_replicate]) fun j hj => ?_
  rw [genAt_len] at hj
  rw [genAt_get hj, if_neg (by omega), List.getD_eq_getElem?_getD, List.getElem?_replicate, if_pos hj]
  split <;> rfl
theorem genAt_row (g : Nat → Nat → Bool) (y : Nat) : genAt g y 20 = genAt g (y + 1) 0 := by
  refine extZ (by rw [genAt_len, genAt_len]) fun j hj => ?_
  rw [genAt_len] at hj
  rw [genAt_get hj, genAt_get hj]
  by_cases h1 : j < y
  · rw [if_pos h1, if_pos (by omega)]
  · by_cases h2 : j = y
    · rw [if_neg h1, if_pos h2, if_pos (by omega)]
    · rw [if_neg h1, if_neg h2, if_neg (by omega)]
      by_cases h3 : j = y + 1
      · rw [if_pos h3]; rfl
      · rw [if_neg h3]
theorem genAt_all (g : Nat → Nat → Bool) : genAt g 24 0 = genR g := by
  refine extZ (by rw [genAt_len]; unfold genR; rw [List.length_map, List.length_range]) fun j hj => ?_
  rw [genAt_len] at hj
  rw [genAt_get hj, if_pos hj]
  unfold genR
  rw [List.getD_eq_getElem?_getD, List.getElem?_map, List.getElem?_range hj]; rfl
theorem genAt_no {g : Nat → Nat → Bool} {y x : Nat} (h : g y x = false) : genAt g y (x + 1) = genAt g y x := by
  refine extZ (by rw [genAt_len, genAt_len]) fun j hj => ?_
  rw [genAt_len] at hj
  rw [genAt_get hj, genAt_get hj]
  by_cases h2 : j = y
  · subst h2
    rw [if_neg (by omega), if_pos rfl, if_neg (by omega), if_pos rfl]
    show (((if g j x then rwG (g j) x ||| (1 * 2 ^ x) else rwG (g j) x : Nat)) : Int) = _
    rw [h, if_neg (by simp)]
  · rw [if_neg h2, if_neg h2]
theorem genAt_yes {g : Nat → Nat → Bool} {y x : Nat} (hy : y < 24) (h : g y x = true) : (genAt g y x).set y (((rwG (g y) x ||| (1 * 2 ^ x) : Nat)) : Int) = genAt g y (x + 1) := by
  refine extZ (by rw [List.length_set, genAt_len, genAt_len]) fun j hj => ?_
  rw [List.length_set, genAt_len] at hj
  rw [List.getD_eq_getElem?_getD, List.getElem?_set]
  by_cases h2 : y = j
  · subst h2
    rw [if_pos rfl, if_pos (by rw [genAt_len]; exact hj), genAt_get hj, if_neg (by omega), if_pos rfl]
    show _ = (((if g y x then rwG (g y) x ||| (1 * 2 ^ x) else rwG (g y) x : Nat)) : Int)
    rw [h, if_pos rfl]; rfl
  · rw [if_neg h2, ← List.getD_eq_getElem?_getD, genAt_get hj, genAt_get hj, if_neg (by omega : ¬ j = y), if_neg (by omega : ¬ j = y)]
/-- Rows that stand for cells. -/
structure Rep (L : List Int) (B : Nat → Nat → Bool) : Prop where
  len : L.length = 24
  row : ∀ y, y < 24 → ∃ n : Nat, n < 2 ^ 20 ∧ L.getD y 0 = n ∧ ∀ x, x < 20 → n.testBit x = B y x
theorem Rep.gen (g : Nat → Nat → Bool) : Rep (genR g) g := ⟨by unfold genR; rw [List.length_map, List.length_range], fun y hy => ⟨rwG (g y) 20, rwG_lt, by unfold genR; rw [List.getD_eq_getElem?_getD, List.getElem?_map, List.getElem?_range hy]; rfl, fun x hx => by rw [rwG_bit, decide_eq_true hx]; rfl⟩⟩

end Go.Proofs.Ytpilblmncpeelaa.AM

