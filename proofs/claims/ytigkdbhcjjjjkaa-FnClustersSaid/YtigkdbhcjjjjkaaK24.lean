/- Lemmas and contracts (Mdi); conditions: none. -/
import Derived.Test.YtigkdbhcjjjjkaaK04
import Derived.Test.YtigkdbhcjjjjkaaK13
import Derived.Test.YtigkdbhcjjjjkaaK18
import Derived.Test.YtigkdbhcjjjjkaaK23
set_option linter.unusedVariables false
set_option linter.unusedSimpArgs false
set_option linter.unusedVariables false
set_option linter.unusedSimpArgs false
set_option maxRecDepth 100000
set_option maxHeartbeats 4000000
set_option cbv.maxSteps 3000000
namespace Go.Proofs.Ytigkdbhcjjjjkaa.AM
/- The most distinct ones by the program; conditions: none. -/
theorem bitQ0 {v i : Nat} (hv : v < 1048576) (hi : i ≤ 20) : ((BitVec.ofInt 64 (((v : Nat) : Int).fdiv (2 ^ (min ((i : Nat) : Int).toNat 64))) &&& BitVec.ofInt 64 1).toNat == 0) = !v.testBit i := by
  have e1 : min ((i : Nat) : Int).toNat 64 = i := by rw [Int.toNat_natCast]; omega
  have e2 : (((v : Nat) : Int).fdiv (2 ^ i)) = ((v / 2 ^ i : Nat) : Int) := by
    rw [Int.fdiv_eq_ediv_of_nonneg _ (Int.pow_nonneg (by decide))]
    simp
  have e3 : v / 2 ^ i < 2 ^ 64 := Nat.lt_of_le_of_lt (Nat.div_le_self _ _) (by omega)
  rw [e1, e2]
  have e4 : (BitVec.ofInt 64 ((v / 2 ^ i : Nat) : Int) &&& BitVec.ofInt 64 1).toNat = v / 2 ^ i % 2 := by
    rw [BitVec.toNat_and, BitVec.ofInt_natCast, BitVec.toNat_ofNat, Nat.mod_eq_of_lt e3]
    show v / 2 ^ i &&& 1 = _
    rw [Nat.and_one_is_mod]
  rw [e4, Nat.testBit_eq_decide_div_mod_eq]
  have : v / 2 ^ i % 2 = 0 ∨ v / 2 ^ i % 2 = 1 := by omega
  rcases this with h | h <;> rw [h] <;> rfl
theorem bitQ {v i : Nat} (hv : v < 1048576) (hi : i ≤ 20) : (IntKind.i64.wrap (((BitVec.ofInt IntKind.i64.bits (((v : Nat) : Int).fdiv (2 ^ (min ((i : Nat) : Int).toNat IntKind.i64.bits))) &&& BitVec.ofInt IntKind.i64.bits 1).toNat : Nat) : Int) == 0) = !v.testBit i := by
  have h := bitQ0 hv hi
  show (IntKind.i64.wrap (((BitVec.ofInt 64 (((v : Nat) : Int).fdiv (2 ^ (min ((i : Nat) : Int).toNat 64))) &&& BitVec.ofInt 64 1).toNat : Nat) : Int) == 0) = _
  have e : (BitVec.ofInt 64 (((v : Nat) : Int).fdiv (2 ^ (min ((i : Nat) : Int).toNat 64))) &&& BitVec.ofInt 64 1).toNat ≤ 1 := by
    rw [BitVec.toNat_and]
    exact Nat.and_le_right
  generalize (BitVec.ofInt 64 (((v : Nat) : Int).fdiv (2 ^ (min ((i : Nat) : Int).toNat 64))) &&& BitVec.ofInt 64 1).toNat = x at *
  rw [← h]
  rcases (by omega : x = 0 ∨ x = 1) with rfl | rfl <;> rfl
theorem shl1 : ∀ n : Nat, n < 11 → IntKind.i64.wrap (1 * 2 ^ min ((n : Nat) : Int).toNat IntKind.i64.bits) = ((2 ^ n : Nat) : Int) := by decide
/-- How two lists of numbers stand to each other. -/
def cmpZ : List Int → List Int → Int
  | [], [] => 0
  | [], _ :: _ => -1
  | _ :: _, [] => 1
  | x :: s, y :: t => if x < y then -1 else if y < x then 1 else cmpZ s t
theorem cmpZ_lex : ∀ s t : List Nat, decide (cmpZ (toZ s) (toZ t) < 0) = lexN s t
  | [], [] => rfl
  | [], _ :: _ => rfl
  | _ :: _, [] => rfl
  | x :: s, y :: t => by
    have ih := cmpZ_lex s t
    show decide ((if (x : Int) < (y : Int) then -1 else if (y : Int) < (x : Int) then 1 else cmpZ (toZ s) (toZ t)) < 0) = (if x < y then true else if y < x then false else lexN s t)
    by_cases h1 : x < y
    · rw [if_pos (by omega), if_pos h1]; rfl
    · rw [if_neg (by omega), if_neg h1]
      by_cases h2 : y < x
      · rw [if_pos (by omega), if_pos h2]; rfl
      · rw [if_neg (by omega), if_neg h2]; exact ih
def okL10 (l : List Arm) : Bool := bif decide ((l.length : Int) ≤ 10) then !l.any (fun y => !okA y) else false
def qA (l : List Arm) (a b : Nat) : Bool := decide (dS (l.getD a default) (l.getD b default) < 2)
def mdZ (l : List Arm) : List Int := if okL10 l = true then toZ (bstS (qA l) l.length (2 ^ l.length)) else []
theorem c_cmpI (a b : Int) : Con Try.prog 67 [.lit (.int .i64 a), .lit (.int .i64 b)] [] (.lit (.int .i64 (Lib.compareInt a b))) [] :=
  con_shelf (l := [.int .i64 a, .int .i64 b]) (fun _ => .lit rfl) fun w _ => (Try.cmp_Compare_int a b w).mono fun e w' ⟨h1, h2⟩ => ⟨h1, 0, h2⟩
noncomputable def e_cmpI : Entry := pureE 67 fun H a => match a with
  | [.lit (.int .i64 a), .lit (.int .i64 b)] => some (.lit (.int .i64 (H Int fun _ => (Lib.compareInt a b))), [])
  | _ => none
theorem eok_cmpI : EntryOk Try.prog e_cmpI := pureE_ok (by unfold isBody; kernel_rfl) (by
  intro a r ob e hob
  split at e
  · simp only [Option.some.injEq, Prod.mk.injEq] at e
    obtain ⟨rfl, rfl⟩ := e
    exact c_cmpI _ _
  · simp at e)
theorem cmpZ_at : ∀ {s t : List Int} {i : Nat}, i < s.length → i < t.length → (∀ j, j < i → s.getD j 0 = t.getD j 0) → Lib.compareInt (s.getD i 0) (t.getD i 0) ≠ 0 → cmpZ s t = Lib.compareInt (s.getD i 0) (t.getD i 0)
  | [], t, i, h, _, _, _ => absurd h (Nat.not_lt_zero _)
  | x :: s, [], i, _, h, _, _ => absurd h (Nat.not_lt_zero _)
  | x :: s, y :: t, 0, _, _, _, hn => by
    show (if x < y then (-1 : Int) else if y < x then 1 else cmpZ s t) = (if x < y then (-1 : Int) else if x > y then 1 else 0)
    have hn : (if x < y then (-1 : Int) else if x > y then 1 else 0) ≠ 0 := hn
    by_cases h1 : x < y
    · rw [if_pos h1, if_pos h1]
    · rw [if_neg h1, if_neg h1]
      rw [if_neg h1] at hn
      by_cases h2 : x > y
      · rw [if_pos h2, if_pos h2]
      · rw [if_neg h2] at hn
        exact absurd rfl hn
  | x :: s, y :: t, i + 1, h1, h2, h3, hn => by
    have e := h3 0 (by omega)
    have e : x = y := e
    show (if x < y then (-1 : Int) else if y < x then 1 else cmpZ s t) = _
    rw [if_neg (by omega), if_neg (by omega)]
    exact cmpZ_at (s := s) (t := t) (i := i) (by simpa using h1) (by simpa using h2) (fun j hj => by simpa using h3 (j + 1) (by omega)) hn
theorem cmpZ_end : ∀ {s t : List Int} {i : Nat}, i ≤ s.length → i ≤ t.length → i = s.length ∨ i = t.length → (∀ j, j < i → s.getD j 0 = t.getD j 0) → cmpZ s t = if t.length < s.length then 1 else if s.length < t.length then -1 else 0
  | [], [], i, _, _, _, _ => rfl
  | [], y :: t, i, _, _, _, _ => by
    show (-1 : Int) = _
    rw [if_neg (by simp), if_pos (by simp)]
  | x :: s, [], i, _, _, _, _ => by
    show (1 : Int) = _
    rw [if_pos (by simp)]
  | x :: s, y :: t, 0, _, _, h, _ => by
    rcases h with h | h <;> simp at h
  | x :: s, y :: t, i + 1, h1, h2, h3, h4 => by
    have e : x = y := h4 0 (by omega)
    show (if x < y then (-1 : Int) else if y < x then 1 else cmpZ s t) = _
    rw [if_neg (by omega), if_neg (by omega)]
    rw [cmpZ_end (s := s) (t := t) (i := i) (by simpa using h1) (by simpa using h2) (by simpa using h3) (fun j hj => by simpa using h4 (j + 1) (by omega))]
    simp only [List.length_cons, Nat.add_lt_add_iff_right]
theorem okL10_in {l : List Arm} (h : okL10 l = true) : l.length ≤ 10 ∧ ∀ i, i < l.length → okA (l.getD i default) = true := by
  unfold okL10 at h
  cases e : decide ((l.length : Int) ≤ 10) with
  | false => rw [e] at h; cases h
  | true =>
    rw [e, cond_true, Bool.not_eq_true'] at h
    rw [decide_eq_true_eq] at e
    refine ⟨by omega, fun i hi => ?_⟩
    have := (List.any_eq_false.1 h) _ (getD_mem (d := default) hi)
    simpa using this
theorem qA_I {l : List Arm} (h : okL10 l = true) {a b : Nat} (ha : a < l.length) (hb : b < l.length) : decide (dI (l.getD a default) (l.getD b default) < 2) = qA l a b := by
  unfold qA
  rw [dI_dS ((okL10_in h).2 a ha) ((okL10_in h).2 b hb)]
theorem cmp0 {x y : Int} (h : Lib.compareInt x y = 0) : x = y := by
  unfold Lib.compareInt at h
  split at h
  · omega
  · split at h
    · omega
    · omega
theorem anyQ {l : List Arm} (h : okL10 l = true) {i v : Nat} (hi : i < l.length) (f : Int → Bool) (hf : ∀ k : Nat, k < l.length → f (k : Int) = qA l k i) : (toZ (ownS i v)).any f = (ownS i v).any fun k => qA l k i := by
  rw [Bool.eq_iff_iff, List.any_eq_true, List.any_eq_true]
  constructor
  · rintro ⟨x, hx, e⟩
    obtain ⟨k, hk, rfl⟩ := List.mem_map.1 hx
    have hk2 := ownS_lt hk
    rw [hf k (by omega)] at e
    exact ⟨k, hk, e⟩
  · rintro ⟨k, hk, e⟩
    have hk2 := ownS_lt hk
    exact ⟨(k : Int), toZ_mem.2 hk, by rw [hf k (by omega)]; exact e⟩
theorem condQ (d : Bool) (s t : List Nat) : (bif d then bif decide (((toZ t).length : Int) < ((toZ s).length : Int)) then true else bif ((toZ s).length : Int) == ((toZ t).length : Int) then decide (cmpZ (toZ s) (toZ t) < 0) else false else false) = (d && betB s t) := by
  rw [cmpZ_lex, toZ_len, toZ_len]
  unfold betB
  cases d
  · rfl
  · simp only [cond_true, Bool.true_and]
    by_cases h1 : t.length < s.length
    · rw [decide_eq_true h1, decide_eq_true (by omega)]; rfl
    · rw [decide_eq_false h1, decide_eq_false (by omega)]
      by_cases h2 : s.length = t.length
      · rw [decide_eq_true h2, h2]; simp
      · rw [decide_eq_false h2, show ((s.length : Int) == (t.length : Int)) = false by rw [beq_eq_false_iff_ne]; omega]; simp
theorem c_cmpL (s : List Int) (t : List Int) (h0 : s.length ≤ 1000) (h1 : t.length ≤ 1000) : ConN Try.prog 39 [.vec 1 (stdH Nat fun _ => (s).length) (rowsI stdH fun _ => s), .vec 1 (stdH Nat fun _ => (t).length) (rowsI stdH fun _ => t)] [] 0 (.lit (.int .i64 (stdH Int fun _ => cmpZ s t))) [] [] := by
  have hB : Base Try.prog (tabΓ [e_cmpI]) tab := base_of tabOk (ents_cons eok_cmpI <| ents_nil)
  refine con_m (N := 36) hB (draw_ok hB mixed) Try.func39 rfl rfl (fun H => [.vec 1 (H Nat fun _ => (s).length) (rowsI H fun _ => s), .vec 1 (H Nat fun _ => (t).length) (rowsI H fun _ => t)]) (fun _ => []) 0 (fun H => .lit (.int .i64 (H Int fun _ => cmpZ s t))) (fun H => []) (fun _ => []) 300 (by simp) (fun x hx => ?_) (by simp [lk]) (by omega) (by simp) ?_
  · simp only [List.mem_cons, List.not_mem_nil, or_false] at hx
    rcases hx with rfl | rfl
    · exact vl_bl okI s _
    · exact vl_bl okI t _
  intro X hX hX0 H hH
  conv in Fin.chk _ _ => cbv
  try simp only [Plain_rowsA, Plain_rowsB, Plain_rowsF, Plain_rowsG, Plain_rowsI, Plain_rowsS, Plain_rowsU, Fin.satC_ret, Fin.satC_br, Fin.satC_need, Fin.satC_again, AllP, and_true, true_and, upd, List.length_nil, List.length_cons, Nat.zero_add, if_true, ncast, Int.ofNat_eq_natCast]
  refine loop_a hB (draw_ok hB mixed) hX hX0 hH false (ι := { i : Nat // i ≤ s.length ∧ i ≤ t.length ∧ ∀ j, j < i → s.getD j 0 = t.getD j 0 }) 300 (fun i => [.i (H Int fun _ => 0), .i (H Int fun _ => (i.1 : Nat))]) (fun i => s.length - i.1) (⟨0, Nat.zero_le _, Nat.zero_le _, fun j hj => absurd hj (Nat.not_lt_zero j)⟩) ?_ ?_
  · (conv in matchSt _ _ _ _ => cbv); simp only [AllG, AllP, and_true, hH, stdH, Nat.le_refl, ncast, Int.ofNat_eq_natCast, vrow_I, Arm.eta2, Fld.eta, Grp.eta]
    (repeat' (with_reducible refine And.intro ?_ ?_)) <;> (first | exact True.intro | exact Eq.refl _ | exact RowsEq.self okI | exact RowsEq.self okRA)
  · intro I hI i
    conv in Fin.chk _ _ => cbv
    try simp only [Plain_rowsA, Plain_rowsB, Plain_rowsF, Plain_rowsG, Plain_rowsI, Plain_rowsS, Plain_rowsU, Fin.satC_ret, Fin.satC_br, Fin.satC_need, Fin.satC_again, AllP, and_true, true_and, upd, List.length_nil, List.length_cons, Nat.zero_add, if_true, ncast, Int.ofNat_eq_natCast]
    obtain ⟨i, hi, hi2, hj⟩ := i
    refine ⟨fun k1 => ?_, fun k1 => ?_⟩
    · simp only [hH, stdH, Nat.le_refl, decide_eq_true_eq, decide_eq_false_iff_not, Bool.not_eq_true', Bool.not_eq_false', peta, ncast, Int.ofNat_eq_natCast, beq_iff_eq, bne_iff_ne, beq_eq_false_iff_ne, bne_eq_false_iff_eq, ne_eq, Classical.not_not, Int.toNat_natCast, vrow_I, Arm.eta2, Fld.eta, Grp.eta] at k1
      have k1 : i < s.length := by omega
      refine ⟨?_, fun k2 => ?_, fun k2 => ⟨?_, fun k3 => ?_, fun k3 => ?_⟩⟩
      · try simp only [hH, stdH, Nat.le_refl, decide_eq_true_eq, decide_eq_false_iff_not, Bool.not_eq_true', Bool.not_eq_false', peta, ncast, Int.ofNat_eq_natCast, beq_iff_eq, bne_iff_ne, beq_eq_false_iff_ne, bne_eq_false_iff_eq, ne_eq, Classical.not_not, Int.toNat_natCast, vrow_I, Arm.eta2, Fld.eta, Grp.eta]
        omega
      · simp only [hH, stdH, Nat.le_refl, decide_eq_true_eq, decide_eq_false_iff_not, Bool.not_eq_true', Bool.not_eq_false', peta, ncast, Int.ofNat_eq_natCast, beq_iff_eq, bne_iff_ne, beq_eq_false_iff_ne, bne_eq_false_iff_eq, ne_eq, Classical.not_not, Int.toNat_natCast, vrow_I, Arm.eta2, Fld.eta, Grp.eta] at k2
        try simp only [hH, stdH, Nat.le_refl, decide_eq_true_eq, decide_eq_false_iff_not, Bool.not_eq_true', Bool.not_eq_false', peta, ncast, Int.ofNat_eq_natCast, beq_iff_eq, bne_iff_ne, beq_eq_false_iff_ne, bne_eq_false_iff_eq, ne_eq, Classical.not_not, Int.toNat_natCast, vrow_I, Arm.eta2, Fld.eta, Grp.eta]
        rw [cmpZ_end hi hi2 (.inr (by omega)) hj, if_pos (by omega)]
      · simp only [hH, stdH, Nat.le_refl, decide_eq_true_eq, decide_eq_false_iff_not, Bool.not_eq_true', Bool.not_eq_false', peta, ncast, Int.ofNat_eq_natCast, beq_iff_eq, bne_iff_ne, beq_eq_false_iff_ne, bne_eq_false_iff_eq, ne_eq, Classical.not_not, Int.toNat_natCast, vrow_I, Arm.eta2, Fld.eta, Grp.eta] at k2 ⊢
        omega
      · simp only [hH, stdH, Nat.le_refl, decide_eq_true_eq, decide_eq_false_iff_not, Bool.not_eq_true', Bool.not_eq_false', peta, ncast, Int.ofNat_eq_natCast, beq_iff_eq, bne_iff_ne, beq_eq_false_iff_ne, bne_eq_false_iff_eq, ne_eq, Classical.not_not, Int.toNat_natCast, vrow_I, Arm.eta2, Fld.eta, Grp.eta] at k2
        simp only [hH, stdH, Nat.le_refl, decide_eq_true_eq, decide_eq_false_iff_not, Bool.not_eq_true', Bool.not_eq_false', peta, ncast, Int.ofNat_eq_natCast, beq_iff_eq, bne_iff_ne, beq_eq_false_iff_ne, bne_eq_false_iff_eq, ne_eq, Classical.not_not, Int.toNat_natCast, vrow_I, Arm.eta2, Fld.eta, Grp.eta] at k3
        try simp only [hH, stdH, Nat.le_refl, decide_eq_true_eq, decide_eq_false_iff_not, Bool.not_eq_true', Bool.not_eq_false', peta, ncast, Int.ofNat_eq_natCast, beq_iff_eq, bne_iff_ne, beq_eq_false_iff_ne, bne_eq_false_iff_eq, ne_eq, Classical.not_not, Int.toNat_natCast, vrow_I, Arm.eta2, Fld.eta, Grp.eta]
        exact cmpZ_at k1 (by omega) hj k3
      · simp only [hH, stdH, Nat.le_refl, decide_eq_true_eq, decide_eq_false_iff_not, Bool.not_eq_true', Bool.not_eq_false', peta, ncast, Int.ofNat_eq_natCast, beq_iff_eq, bne_iff_ne, beq_eq_false_iff_ne, bne_eq_false_iff_eq, ne_eq, Classical.not_not, Int.toNat_natCast, vrow_I, Arm.eta2, Fld.eta, Grp.eta] at k2
        simp only [hH, stdH, Nat.le_refl, decide_eq_true_eq, decide_eq_false_iff_not, Bool.not_eq_true', Bool.not_eq_false', peta, ncast, Int.ofNat_eq_natCast, beq_iff_eq, bne_iff_ne, beq_eq_false_iff_ne, bne_eq_false_iff_eq, ne_eq, Classical.not_not, Int.toNat_natCast, vrow_I, Arm.eta2, Fld.eta, Grp.eta] at k3
        have k2 : i < t.length := by omega
        refine ⟨⟨i + 1, by omega, by omega, fun j hj' => ?_⟩, by simp only; omega, ?_⟩
        · rcases Nat.lt_succ_iff_lt_or_eq.1 hj' with h | rfl
          · exact hj j h
          · exact cmp0 k3
        · rw [hI]
          (conv in matchSt _ _ _ _ => cbv); simp only [AllG, AllP, and_true, hH, stdH, Nat.le_refl, ncast, Int.ofNat_eq_natCast, vrow_I, Arm.eta2, Fld.eta, Grp.eta]
          rw [w1 (by omega)]
          (repeat' (with_reducible refine And.intro ?_ ?_)) <;> (first | exact True.intro | exact Eq.refl _ | exact RowsEq.self okI | exact RowsEq.self okRA)
    · simp only [hH, stdH, Nat.le_refl, decide_eq_true_eq, decide_eq_false_iff_not, Bool.not_eq_true', Bool.not_eq_false', peta, ncast, Int.ofNat_eq_natCast, beq_iff_eq, bne_iff_ne, beq_eq_false_iff_ne, bne_eq_false_iff_eq, ne_eq, Classical.not_not, Int.toNat_natCast, vrow_I, Arm.eta2, Fld.eta, Grp.eta] at k1
      obtain rfl : i = s.length := by omega
      refine ⟨fun k2 => ?_, fun k2 => ?_⟩
      · simp only [hH, stdH, Nat.le_refl, decide_eq_true_eq, decide_eq_false_iff_not, Bool.not_eq_true', Bool.not_eq_false', peta, ncast, Int.ofNat_eq_natCast, beq_iff_eq, bne_iff_ne, beq_eq_false_iff_ne, bne_eq_false_iff_eq, ne_eq, Classical.not_not, Int.toNat_natCast, vrow_I, Arm.eta2, Fld.eta, Grp.eta] at k2
        try simp only [hH, stdH, Nat.le_refl, decide_eq_true_eq, decide_eq_false_iff_not, Bool.not_eq_true', Bool.not_eq_false', peta, ncast, Int.ofNat_eq_natCast, beq_iff_eq, bne_iff_ne, beq_eq_false_iff_ne, bne_eq_false_iff_eq, ne_eq, Classical.not_not, Int.toNat_natCast, vrow_I, Arm.eta2, Fld.eta, Grp.eta]
        rw [cmpZ_end hi hi2 (.inl rfl) hj, if_neg (by omega), if_pos (by omega)]
      · simp only [hH, stdH, Nat.le_refl, decide_eq_true_eq, decide_eq_false_iff_not, Bool.not_eq_true', Bool.not_eq_false', peta, ncast, Int.ofNat_eq_natCast, beq_iff_eq, bne_iff_ne, beq_eq_false_iff_ne, bne_eq_false_iff_eq, ne_eq, Classical.not_not, Int.toNat_natCast, vrow_I, Arm.eta2, Fld.eta, Grp.eta] at k2
        try simp only [hH, stdH, Nat.le_refl, decide_eq_true_eq, decide_eq_false_iff_not, Bool.not_eq_true', Bool.not_eq_false', peta, ncast, Int.ofNat_eq_natCast, beq_iff_eq, bne_iff_ne, beq_eq_false_iff_ne, bne_eq_false_iff_eq, ne_eq, Classical.not_not, Int.toNat_natCast, vrow_I, Arm.eta2, Fld.eta, Grp.eta]
        rw [cmpZ_end hi hi2 (.inl rfl) hj, if_neg (by omega), if_neg (by omega)]
noncomputable def e_cmpL : Entry := pureE 39 fun H a => match a with
  | [.vec 1 sn sf, .vec 1 tn tf] => some (.lit (.int .i64 (H Int fun _ => cmpZ (Tl rowI sn sf) (Tl rowI tn tf))), [H Prop fun _ => Shp rowI sn sf, H Prop fun _ => Shp rowI tn tf, H Prop fun _ => (Tl rowI sn sf).length ≤ 1000, H Prop fun _ => (Tl rowI tn tf).length ≤ 1000])
  | _ => none
theorem eok_cmpL : EntryOk Try.prog e_cmpL := pureM_ok (by unfold isBody; kernel_rfl) (by
  intro a r ob e hob
  split at e
  · rename_i sn sf tn tf
    simp only [Option.some.injEq, Prod.mk.injEq] at e
    obtain ⟨rfl, rfl⟩ := e
    exact ConN.args (.cons (.toT okI rfl hob.1) (.cons (.toT okI rfl hob.2.1) .nil)) (c_cmpL (Tl rowI sn sf) (Tl rowI tn tf) hob.2.2.1 hob.2.2.2.1)
  · simp at e)
theorem c_mdC (k : Int) (l : List Arm) (i : Int) (h0 : (0 ≤ k ∧ k < (l.length : Nat)) ∧ (0 ≤ i ∧ i < (l.length : Nat))) : ConN Try.prog 37 [.lit (.int .i64 k), .rptr [.vec 15 (stdH Nat fun _ => (l).length) (rowsA stdH fun _ => l)], .rptr [.lit (.int .i64 i)]] [] 0 (.lit (.bool (stdH Bool fun _ => decide (dI (l.getD k.toNat default) (l.getD i.toNat default) < 2)))) [] [] := by
  have hB : Base Try.prog (tabΓ [e_conflict]) tab := base_of tabOk (ents_cons eok_conflict <| ents_nil)
  refine con_m (N := 14) hB (draw_ok hB mixed) Try.func37 rfl rfl (fun H => [.lit (.int .i64 k), .rptr [.vec 15 (H Nat fun _ => (l).length) (rowsA H fun _ => l)], .rptr [.lit (.int .i64 i)]]) (fun _ => []) 0 (fun H => .lit (.bool (H Bool fun _ => decide (dI (l.getD k.toNat default) (l.getD i.toNat default) < 2)))) (fun H => []) (fun _ => []) 100 (by simp) (fun x hx => ?_) (by simp [lk]) (by omega) (by simp) ?_
  · simp only [List.mem_cons, List.not_mem_nil, or_false] at hx
    rcases hx with rfl | rfl | rfl
    · exact .lit
    · exact (by
        refine .rptr ?_
        intro c hc
        simp only [List.mem_cons, List.not_mem_nil, or_false] at hc
        rcases hc with rfl
        · exact vl_bl okRA l _)
    · exact (by
        refine .rptr ?_
        intro c hc
        simp only [List.mem_cons, List.not_mem_nil, or_false] at hc
        rcases hc with rfl
        · exact .lit)
  intro X hX hX0 H hH
  conv in Fin.chk _ _ => cbv
  try simp only [Plain_rowsA, Plain_rowsB, Plain_rowsF, Plain_rowsG, Plain_rowsI, Plain_rowsS, Plain_rowsU, Fin.satC_ret, Fin.satC_br, Fin.satC_need, Fin.satC_again, AllP, and_true, true_and, upd, List.length_nil, List.length_cons, Nat.zero_add, if_true, ncast, Int.ofNat_eq_natCast]
  refine ⟨?_, ?_, ?_⟩
  · try simp only [hH, stdH, Nat.le_refl, decide_eq_true_eq, decide_eq_false_iff_not, Bool.not_eq_true', Bool.not_eq_false', peta, ncast, Int.ofNat_eq_natCast, beq_iff_eq, bne_iff_ne, beq_eq_false_iff_ne, bne_eq_false_iff_eq, ne_eq, Classical.not_not, Int.toNat_natCast, vrow_I, Arm.eta2, Fld.eta, Grp.eta]
    exact h0.1
  · try simp only [hH, stdH, Nat.le_refl, decide_eq_true_eq, decide_eq_false_iff_not, Bool.not_eq_true', Bool.not_eq_false', peta, ncast, Int.ofNat_eq_natCast, beq_iff_eq, bne_iff_ne, beq_eq_false_iff_ne, bne_eq_false_iff_eq, ne_eq, Classical.not_not, Int.toNat_natCast, vrow_I, Arm.eta2, Fld.eta, Grp.eta]
    exact h0.2
  · try simp only [hH, stdH, Nat.le_refl, decide_eq_true_eq, decide_eq_false_iff_not, Bool.not_eq_true', Bool.not_eq_false', peta, ncast, Int.ofNat_eq_natCast, beq_iff_eq, bne_iff_ne, beq_eq_false_iff_ne, bne_eq_false_iff_eq, ne_eq, Classical.not_not, Int.toNat_natCast, vrow_I, Arm.eta2, Fld.eta, Grp.eta]
noncomputable def e_mdC : Entry := pureE 37 fun H a => match a with
  | [.lit (.int .i64 k), .rptr [.vec 15 ln lf], .rptr [.lit (.int .i64 i)]] => some (.lit (.bool (H Bool fun _ => decide (dI ((Tl rowA ln lf).getD k.toNat default) ((Tl rowA ln lf).getD i.toNat default) < 2))), [H Prop fun _ => Shp rowA ln lf, H Prop fun _ => (0 ≤ k ∧ k < ((Tl rowA ln lf).length : Nat)) ∧ (0 ≤ i ∧ i < ((Tl rowA ln lf).length : Nat))])
  | _ => none
theorem eok_mdC : EntryOk Try.prog e_mdC := pureM_ok (by unfold isBody; kernel_rfl) (by
  intro a r ob e hob
  split at e
  · rename_i k ln lf i
    simp only [Option.some.injEq, Prod.mk.injEq] at e
    obtain ⟨rfl, rfl⟩ := e
    exact ConN.args (.cons .rfl (.cons (.rptr (.cons (.toT okRA rfl hob.1) .nil)) (.cons (.rptr (.cons .rfl .nil)) .nil))) (c_mdC k (Tl rowA ln lf) i hob.2.1)
  · simp at e)
def mdQ (l : List Arm) (i y : Int) : Bool := decide (dI (l.getD y.toNat default) (l.getD i.toNat default) < 2)
theorem c_idxMd (s : List Int) (f0 : List Arm) (f1 : Int) (h0 : s.length ≤ 1000) (h1 : (0 ≤ f1 ∧ f1 < (f0.length : Nat))) (h2 : ∀ x ∈ s, 0 ≤ x ∧ x < (f0.length : Nat)) : ConN Try.prog 66 [.vec 1 (stdH Nat fun _ => (s).length) (rowsI stdH fun _ => s), .fn (.func 37) [] [.rptr [.vec 15 (stdH Nat fun _ => (f0).length) (rowsA stdH fun _ => f0)], .rptr [.lit (.int .i64 f1)]]] [] 0 (.lit (.int .i64 (stdH Int fun _ => idxF (mdQ f0 f1) s))) [] [] := by
  have hB : Base Try.prog (tabΓ [e_mdC]) tab := base_of tabOk (ents_cons eok_mdC <| ents_nil)
  refine con_m (N := 19) hB (draw_ok hB mixed) Try.func66 rfl rfl (fun H => [.vec 1 (H Nat fun _ => (s).length) (rowsI H fun _ => s), .fn (.func 37) [] [.rptr [.vec 15 (H Nat fun _ => (f0).length) (rowsA H fun _ => f0)], .rptr [.lit (.int .i64 f1)]]]) (fun _ => []) 0 (fun H => .lit (.int .i64 (H Int fun _ => idxF (mdQ f0 f1) s))) (fun H => []) (fun _ => []) 100 (by simp) (fun x hx => ?_) (by simp [lk]) (by omega) (by simp) ?_
  · simp only [List.mem_cons, List.not_mem_nil, or_false] at hx
    rcases hx with rfl | rfl
    · exact vl_bl okI s _
    · exact (by
        refine .fn (fun c hc => by cases hc) ?_
        intro c hc
        simp only [List.mem_cons, List.not_mem_nil, or_false] at hc
        rcases hc with rfl | rfl
        · exact (by
        refine .rptr ?_
        intro c hc
        simp only [List.mem_cons, List.not_mem_nil, or_false] at hc
        rcases hc with rfl
        · exact vl_bl okRA f0 _)
        · exact (by
        refine .rptr ?_
        intro c hc
        simp only [List.mem_cons, List.not_mem_nil, or_false] at hc
        rcases hc with rfl
        · exact .lit))
  intro X hX hX0 H hH
  conv in Fin.chk _ _ => cbv
  try simp only [Plain_rowsA, Plain_rowsB, Plain_rowsF, Plain_rowsG, Plain_rowsI, Plain_rowsS, Plain_rowsU, Fin.satC_ret, Fin.satC_br, Fin.satC_need, Fin.satC_again, AllP, and_true, true_and, upd, List.length_nil, List.length_cons, Nat.zero_add, if_true, ncast, Int.ofNat_eq_natCast]
  refine loop_a hB (draw_ok hB mixed) hX hX0 hH false (ι := { i : Nat // i ≤ s.length ∧ ∀ j, j < i → mdQ f0 f1 (s.getD j 0) = false }) 100 (fun i => [.i (H Int fun _ => 0), .i (H Int fun _ => (i.1 : Nat))]) (fun i => s.length - i.1) (⟨0, Nat.zero_le _, fun j hj => absurd hj (Nat.not_lt_zero j)⟩) ?_ ?_
  · (conv in matchSt _ _ _ _ => cbv); simp only [AllG, AllP, and_true, hH, stdH, Nat.le_refl, ncast, Int.ofNat_eq_natCast, vrow_I, Arm.eta2, Fld.eta, Grp.eta]
    (repeat' (with_reducible refine And.intro ?_ ?_)) <;> (first | exact True.intro | exact Eq.refl _ | exact RowsEq.self okI | exact RowsEq.self okRA)
  · intro I hI i
    conv in Fin.chk _ _ => cbv
    try simp only [Plain_rowsA, Plain_rowsB, Plain_rowsF, Plain_rowsG, Plain_rowsI, Plain_rowsS, Plain_rowsU, Fin.satC_ret, Fin.satC_br, Fin.satC_need, Fin.satC_again, AllP, and_true, true_and, upd, List.length_nil, List.length_cons, Nat.zero_add, if_true, ncast, Int.ofNat_eq_natCast]
    obtain ⟨i, hi, hj⟩ := i
    refine ⟨fun k1 => ?_, fun k1 => ?_⟩
    · simp only [hH, stdH, Nat.le_refl, decide_eq_true_eq, decide_eq_false_iff_not, Bool.not_eq_true', Bool.not_eq_false', peta, ncast, Int.ofNat_eq_natCast, beq_iff_eq, bne_iff_ne, beq_eq_false_iff_ne, bne_eq_false_iff_eq, ne_eq, Classical.not_not, Int.toNat_natCast, vrow_I, Arm.eta2, Fld.eta, Grp.eta] at k1
      have k1 : i < s.length := by omega
      have hg := h2 _ (getD_mem (d := 0) k1)
      (repeat' (with_reducible refine And.intro ?_ ?_))
      · try simp only [hH, stdH, Nat.le_refl, decide_eq_true_eq, decide_eq_false_iff_not, Bool.not_eq_true', Bool.not_eq_false', peta, ncast, Int.ofNat_eq_natCast, beq_iff_eq, bne_iff_ne, beq_eq_false_iff_ne, bne_eq_false_iff_eq, ne_eq, Classical.not_not, Int.toNat_natCast, vrow_I, Arm.eta2, Fld.eta, Grp.eta]
        omega
      · try simp only [hH, stdH, Nat.le_refl, decide_eq_true_eq, decide_eq_false_iff_not, Bool.not_eq_true', Bool.not_eq_false', peta, ncast, Int.ofNat_eq_natCast, beq_iff_eq, bne_iff_ne, beq_eq_false_iff_ne, bne_eq_false_iff_eq, ne_eq, Classical.not_not, Int.toNat_natCast, vrow_I, Arm.eta2, Fld.eta, Grp.eta]
        exact Shp_A _ _
      · try simp only [hH, stdH, Nat.le_refl, decide_eq_true_eq, decide_eq_false_iff_not, Bool.not_eq_true', Bool.not_eq_false', peta, ncast, Int.ofNat_eq_natCast, beq_iff_eq, bne_iff_ne, beq_eq_false_iff_ne, bne_eq_false_iff_eq, ne_eq, Classical.not_not, Int.toNat_natCast, vrow_I, Arm.eta2, Fld.eta, Grp.eta]
        rw [Tl_A]
        exact ⟨hg, h1⟩
      · intro h4
        simp only [hH, stdH, Int.toNat_natCast] at h4
        rw [Tl_A] at h4
        try simp only [hH, stdH, Nat.le_refl, decide_eq_true_eq, decide_eq_false_iff_not, Bool.not_eq_true', Bool.not_eq_false', peta, ncast, Int.ofNat_eq_natCast, beq_iff_eq, bne_iff_ne, beq_eq_false_iff_ne, bne_eq_false_iff_eq, ne_eq, Classical.not_not, Int.toNat_natCast, vrow_I, Arm.eta2, Fld.eta, Grp.eta]
        exact idxF_at 0 k1 h4 hj
      · intro h4
        simp only [hH, stdH, Int.toNat_natCast] at h4
        rw [Tl_A] at h4
        refine ⟨⟨i + 1, by omega, fun j hj' => ?_⟩, by simp only; omega, ?_⟩
        · rcases Nat.lt_succ_iff_lt_or_eq.1 hj' with h | rfl
          · exact hj j h
          · exact h4
        · rw [hI]
          (conv in matchSt _ _ _ _ => cbv); simp only [AllG, AllP, and_true, hH, stdH, Nat.le_refl, ncast, Int.ofNat_eq_natCast, vrow_I, Arm.eta2, Fld.eta, Grp.eta]
          rw [w1 (by omega)]
          (repeat' (with_reducible refine And.intro ?_ ?_)) <;> (first | exact True.intro | exact Eq.refl _ | exact RowsEq.self okI | exact RowsEq.self okRA)
    · simp only [hH, stdH, Nat.le_refl, decide_eq_true_eq, decide_eq_false_iff_not, Bool.not_eq_true', Bool.not_eq_false', peta, ncast, Int.ofNat_eq_natCast, beq_iff_eq, bne_iff_ne, beq_eq_false_iff_ne, bne_eq_false_iff_eq, ne_eq, Classical.not_not, Int.toNat_natCast, vrow_I, Arm.eta2, Fld.eta, Grp.eta] at k1 ⊢
      exact idxF_no 0 fun j hj' => hj j (by omega)
noncomputable def e_idxMd : Entry := pureE 66 fun H a => match a with
  | [.vec 1 sn sf, .fn (.func 37) [] [.rptr [.vec 15 f0n f0f], .rptr [.lit (.int .i64 f1)]]] => some (.lit (.int .i64 (H Int fun _ => idxF (mdQ (Tl rowA f0n f0f) f1) (Tl rowI sn sf))), [H Prop fun _ => Shp rowI sn sf, H Prop fun _ => Shp rowA f0n f0f, H Prop fun _ => (Tl rowI sn sf).length ≤ 1000, H Prop fun _ => (0 ≤ f1 ∧ f1 < ((Tl rowA f0n f0f).length : Nat)), H Prop fun _ => ∀ x ∈ (Tl rowI sn sf), 0 ≤ x ∧ x < ((Tl rowA f0n f0f).length : Nat)])
  | _ => none
theorem eok_idxMd : EntryOk Try.prog e_idxMd := pureM_ok (by unfold isBody; kernel_rfl) (by
  intro a r ob e hob
  split at e
  · rename_i sn sf f0n f0f f1
    simp only [Option.some.injEq, Prod.mk.injEq] at e
    obtain ⟨rfl, rfl⟩ := e
    exact ConN.args (.cons (.toT okI rfl hob.1) (.cons (.fn .nil (.cons (.rptr (.cons (.toT okRA rfl hob.2.1) .nil)) (.cons (.rptr (.cons .rfl .nil)) .nil))) .nil)) (c_idxMd (Tl rowI sn sf) (Tl rowA f0n f0f) f1 hob.2.2.1 hob.2.2.2.1 hob.2.2.2.2.1)
  · simp at e)
theorem c_anyMd (s : List Int) (f0 : List Arm) (f1 : Int) (h0 : s.length ≤ 1000) (h1 : (0 ≤ f1 ∧ f1 < (f0.length : Nat))) (h2 : ∀ x ∈ s, 0 ≤ x ∧ x < (f0.length : Nat)) : ConN Try.prog 36 [.vec 1 (stdH Nat fun _ => (s).length) (rowsI stdH fun _ => s), .fn (.func 37) [] [.rptr [.vec 15 (stdH Nat fun _ => (f0).length) (rowsA stdH fun _ => f0)], .rptr [.lit (.int .i64 f1)]]] [] 0 (.lit (.bool (stdH Bool fun _ => s.any (mdQ f0 f1)))) [] [] := by
  have hB : Base Try.prog (tabΓ [e_idxMd]) tab := base_of tabOk (ents_cons eok_idxMd <| ents_nil)
  refine con_m (N := 9) hB (draw_ok hB mixed) Try.func36 rfl rfl (fun H => [.vec 1 (H Nat fun _ => (s).length) (rowsI H fun _ => s), .fn (.func 37) [] [.rptr [.vec 15 (H Nat fun _ => (f0).length) (rowsA H fun _ => f0)], .rptr [.lit (.int .i64 f1)]]]) (fun _ => []) 0 (fun H => .lit (.bool (H Bool fun _ => s.any (mdQ f0 f1)))) (fun H => []) (fun _ => []) 100 (by simp) (fun x hx => ?_) (by simp [lk]) (by omega) (by simp) ?_
  · simp only [List.mem_cons, List.not_mem_nil, or_false] at hx
    rcases hx with rfl | rfl
    · exact vl_bl okI s _
    · exact (by
        refine .fn (fun c hc => by cases hc) ?_
        intro c hc
        simp only [List.mem_cons, List.not_mem_nil, or_false] at hc
        rcases hc with rfl | rfl
        · exact (by
        refine .rptr ?_
        intro c hc
        simp only [List.mem_cons, List.not_mem_nil, or_false] at hc
        rcases hc with rfl
        · exact vl_bl okRA f0 _)
        · exact (by
        refine .rptr ?_
        intro c hc
        simp only [List.mem_cons, List.not_mem_nil, or_false] at hc
        rcases hc with rfl
        · exact .lit))
  intro X hX hX0 H hH
  conv in Fin.chk _ _ => cbv
  try simp only [Plain_rowsA, Plain_rowsB, Plain_rowsF, Plain_rowsG, Plain_rowsI, Plain_rowsS, Plain_rowsU, Fin.satC_ret, Fin.satC_br, Fin.satC_need, Fin.satC_again, AllP, and_true, true_and, upd, List.length_nil, List.length_cons, Nat.zero_add, if_true, ncast, Int.ofNat_eq_natCast]
  (repeat' (with_reducible refine And.intro ?_ ?_))
  · try simp only [hH, stdH, Nat.le_refl, decide_eq_true_eq, decide_eq_false_iff_not, Bool.not_eq_true', Bool.not_eq_false', peta, ncast, Int.ofNat_eq_natCast, beq_iff_eq, bne_iff_ne, beq_eq_false_iff_ne, bne_eq_false_iff_eq, ne_eq, Classical.not_not, Int.toNat_natCast, vrow_I, Arm.eta2, Fld.eta, Grp.eta]
    exact Shp_I _ _
  · try simp only [hH, stdH, Nat.le_refl, decide_eq_true_eq, decide_eq_false_iff_not, Bool.not_eq_true', Bool.not_eq_false', peta, ncast, Int.ofNat_eq_natCast, beq_iff_eq, bne_iff_ne, beq_eq_false_iff_ne, bne_eq_false_iff_eq, ne_eq, Classical.not_not, Int.toNat_natCast, vrow_I, Arm.eta2, Fld.eta, Grp.eta]
    exact Shp_A _ _
  · try simp only [hH, stdH, Nat.le_refl, decide_eq_true_eq, decide_eq_false_iff_not, Bool.not_eq_true', Bool.not_eq_false', peta, ncast, Int.ofNat_eq_natCast, beq_iff_eq, bne_iff_ne, beq_eq_false_iff_ne, bne_eq_false_iff_eq, ne_eq, Classical.not_not, Int.toNat_natCast, vrow_I, Arm.eta2, Fld.eta, Grp.eta]
    rw [Tl_I]
    exact h0
  · try simp only [hH, stdH, Nat.le_refl, decide_eq_true_eq, decide_eq_false_iff_not, Bool.not_eq_true', Bool.not_eq_false', peta, ncast, Int.ofNat_eq_natCast, beq_iff_eq, bne_iff_ne, beq_eq_false_iff_ne, bne_eq_false_iff_eq, ne_eq, Classical.not_not, Int.toNat_natCast, vrow_I, Arm.eta2, Fld.eta, Grp.eta]
    rw [Tl_A]
    exact h1
  · try simp only [hH, stdH, Nat.le_refl, decide_eq_true_eq, decide_eq_false_iff_not, Bool.not_eq_true', Bool.not_eq_false', peta, ncast, Int.ofNat_eq_natCast, beq_iff_eq, bne_iff_ne, beq_eq_false_iff_ne, bne_eq_false_iff_eq, ne_eq, Classical.not_not, Int.toNat_natCast, vrow_I, Arm.eta2, Fld.eta, Grp.eta]
    rw [Tl_I, Tl_A]
    exact h2
  · try simp only [hH, stdH, Nat.le_refl, decide_eq_true_eq, decide_eq_false_iff_not, Bool.not_eq_true', Bool.not_eq_false', peta, ncast, Int.ofNat_eq_natCast, beq_iff_eq, bne_iff_ne, beq_eq_false_iff_ne, bne_eq_false_iff_eq, ne_eq, Classical.not_not, Int.toNat_natCast, vrow_I, Arm.eta2, Fld.eta, Grp.eta]
    rw [Tl_I, Tl_A]
    exact (idxF_ge _ _).symm
noncomputable def e_anyMd : Entry := pureE 36 fun H a => match a with
  | [.vec 1 sn sf, .fn (.func 37) [] [.rptr [.vec 15 f0n f0f], .rptr [.lit (.int .i64 f1)]]] => some (.lit (.bool (H Bool fun _ => (Tl rowI sn sf).any (mdQ (Tl rowA f0n f0f) f1))), [H Prop fun _ => Shp rowI sn sf, H Prop fun _ => Shp rowA f0n f0f, H Prop fun _ => (Tl rowI sn sf).length ≤ 1000, H Prop fun _ => (0 ≤ f1 ∧ f1 < ((Tl rowA f0n f0f).length : Nat)), H Prop fun _ => ∀ x ∈ (Tl rowI sn sf), 0 ≤ x ∧ x < ((Tl rowA f0n f0f).length : Nat)])
  | _ => none
theorem eok_anyMd : EntryOk Try.prog e_anyMd := pureM_ok (by unfold isBody; kernel_rfl) (by
  intro a r ob e hob
  split at e
  · rename_i sn sf f0n f0f f1
    simp only [Option.some.injEq, Prod.mk.injEq] at e
    obtain ⟨rfl, rfl⟩ := e
    exact ConN.args (.cons (.toT okI rfl hob.1) (.cons (.fn .nil (.cons (.rptr (.cons (.toT okRA rfl hob.2.1) .nil)) (.cons (.rptr (.cons .rfl .nil)) .nil))) .nil)) (c_anyMd (Tl rowI sn sf) (Tl rowA f0n f0f) f1 hob.2.2.1 hob.2.2.2.1 hob.2.2.2.2.1)
  · simp at e)
theorem bstS_len (q : Nat → Nat → Bool) {n : Nat} (v : Nat) (h : n ≤ 1000) : (bstS q n v).length ≤ 1000 := by
  have h1 := (bstS_ok q n v).1
  refine Nat.le_trans (nd_len (h1.asc.imp fun hh => by omega) h1.lt) h
theorem c_mostI (l : List Arm) (h0 : l.length ≤ 100) : ConN Try.prog 11 [.vec 15 (stdH Nat fun _ => (l).length) (rowsA stdH fun _ => l)] [] 0 (.tup [.vec 1 (stdH Nat fun _ => (mdZ l).length) (rowsI stdH fun _ => mdZ l), .lit (.bool (stdH Bool fun _ => okL10 l))]) [] [] := by
  have hB : Base Try.prog (tabΓ [e_areArms, e_anyMd, e_cmpL]) tabO := base_of tabOkO (ents_cons eok_areArms <| ents_cons eok_anyMd <| ents_cons eok_cmpL <| ents_nil)
  refine con_m (N := 66) hB (draw_ok hB mixed) Try.func11 rfl rfl (fun H => [.vec 15 (H Nat fun _ => (l).length) (rowsA H fun _ => l)]) (fun _ => []) 0 (fun H => .tup [.vec 1 (H Nat fun _ => (mdZ l).length) (rowsI H fun _ => mdZ l), .lit (.bool (H Bool fun _ => okL10 l))]) (fun H => []) (fun _ => []) 300 (by simp) (fun x hx => ?_) (by simp [lk]) (by omega) (by simp) ?_
  · simp only [List.mem_cons, List.not_mem_nil, or_false] at hx
    rcases hx with rfl
    · exact vl_bl okRA l _
  intro X hX hX0 H hH
  conv in Fin.chk _ _ => cbv
  try simp only [Plain_rowsA, Plain_rowsB, Plain_rowsF, Plain_rowsG, Plain_rowsI, Plain_rowsS, Plain_rowsU, Fin.satC_ret, Fin.satC_br, Fin.satC_need, Fin.satC_again, AllP, and_true, true_and, upd, List.length_nil, List.length_cons, Nat.zero_add, if_true, ncast, Int.ofNat_eq_natCast]
  refine ⟨⟨?_, ?_⟩, fun h => ?_, fun h => ⟨?_, ?_⟩⟩
  · try simp only [hH, stdH, Nat.le_refl, decide_eq_true_eq, decide_eq_false_iff_not, Bool.not_eq_true', Bool.not_eq_false', peta, ncast, Int.ofNat_eq_natCast, beq_iff_eq, bne_iff_ne, beq_eq_false_iff_ne, bne_eq_false_iff_eq, ne_eq, Classical.not_not, Int.toNat_natCast, vrow_I, Arm.eta2, Fld.eta, Grp.eta]
    exact Shp_A _ _
  · try simp only [hH, stdH, Nat.le_refl, decide_eq_true_eq, decide_eq_false_iff_not, Bool.not_eq_true', Bool.not_eq_false', peta, ncast, Int.ofNat_eq_natCast, beq_iff_eq, bne_iff_ne, beq_eq_false_iff_ne, bne_eq_false_iff_eq, ne_eq, Classical.not_not, Int.toNat_natCast, vrow_I, Arm.eta2, Fld.eta, Grp.eta]
    simp only [Tl_A]; omega
  · simp only [hH, stdH, Tl_A] at h
    change (!okL10 l) = true at h
    rw [Bool.not_eq_true'] at h
    unfold mdZ
    rw [h]
    try simp only [hH, stdH, Nat.le_refl, decide_eq_true_eq, decide_eq_false_iff_not, Bool.not_eq_true', Bool.not_eq_false', peta, ncast, Int.ofNat_eq_natCast, beq_iff_eq, bne_iff_ne, beq_eq_false_iff_ne, bne_eq_false_iff_eq, ne_eq, Classical.not_not, Int.toNat_natCast, vrow_I, Arm.eta2, Fld.eta, Grp.eta]
    exact ⟨trivial, rfl⟩
  · try simp only [hH, stdH, Nat.le_refl, decide_eq_true_eq, decide_eq_false_iff_not, Bool.not_eq_true', Bool.not_eq_false', peta, ncast, Int.ofNat_eq_natCast, beq_iff_eq, bne_iff_ne, beq_eq_false_iff_ne, bne_eq_false_iff_eq, ne_eq, Classical.not_not, Int.toNat_natCast, vrow_I, Arm.eta2, Fld.eta, Grp.eta]
    omega
  · simp only [hH, stdH, Tl_A] at h
    change (!okL10 l) = false at h
    rw [Bool.not_eq_false'] at h
    obtain ⟨hl, hok⟩ := okL10_in h
    have hp : 2 ^ l.length ≤ 1024 := Nat.pow_le_pow_right (by decide) hl
    unfold mdZ
    rw [h]
    simp only [if_true]
    refine loop_a hB (draw_ok hB mixed) hX hX0 hH false (ι := { v : Nat // v ≤ 2 ^ l.length }) 300 (fun v => [.r (H Nat fun _ => (toZ (bstS (qA l) l.length v.1)).length) (rowsI H fun _ => toZ (bstS (qA l) l.length v.1)), .i (H Int fun _ => (v.1 : Nat))]) (fun v => 2 ^ l.length - v.1) (⟨0, Nat.zero_le _⟩) ?_ ?_
    · (conv in matchSt _ _ _ _ => cbv); simp only [AllG, AllP, and_true, hH, stdH, Nat.le_refl, ncast, Int.ofNat_eq_natCast, vrow_I, Arm.eta2, Fld.eta, Grp.eta]
      (repeat' (with_reducible refine And.intro ?_ ?_)) <;> (first | exact True.intro | exact Eq.refl _ | exact RowsEq.self okI | exact RowsEq.self okRA | exact RowsEq.ofT okI rfl (Shp_zero _) rfl)
    · intro I hI v
      conv in Fin.chk _ _ => cbv
      try simp only [Plain_rowsA, Plain_rowsB, Plain_rowsF, Plain_rowsG, Plain_rowsI, Plain_rowsS, Plain_rowsU, Fin.satC_ret, Fin.satC_br, Fin.satC_need, Fin.satC_again, AllP, and_true, true_and, upd, List.length_nil, List.length_cons, Nat.zero_add, if_true, ncast, Int.ofNat_eq_natCast]
      obtain ⟨v, hv⟩ := v
      refine ⟨fun h1 => ?_, fun h1 => ?_⟩
      · simp only [hH, stdH] at h1
        rw [shl1 _ (by omega), decide_eq_true_eq] at h1
        have h1 : v < 2 ^ l.length := by omega
        refine loop_c hB (draw_ok hB mixed) hX hX0 hH [0, 1, 2, 3, 4, 5, 6, 7, 15, 16, 21, 22] (ι := { i : Nat // i ≤ l.length }) 300 (fun i => [.r (H Nat fun _ => (toZ (ownS i.1 v)).length) (rowsI H fun _ => toZ (ownS i.1 v)), .b (H Bool fun _ => disS (qA l) v i.1), .i (H Int fun _ => (i.1 : Nat))]) (fun i => l.length - i.1) (⟨0, Nat.zero_le _⟩) ?_ ?_
        · (conv in matchSt _ _ _ _ => cbv); simp only [AllG, AllP, and_true, hH, stdH, Nat.le_refl, ncast, Int.ofNat_eq_natCast, vrow_I, Arm.eta2, Fld.eta, Grp.eta]
          (repeat' (with_reducible refine And.intro ?_ ?_)) <;> (first | exact True.intro | exact Eq.refl _ | exact RowsEq.self okI | exact RowsEq.self okRA | exact RowsEq.ofT okI rfl (Shp_zero _) rfl)
        · intro I2 hI2 i
          conv in Fin.chk _ _ => cbv
          try simp only [Plain_rowsA, Plain_rowsB, Plain_rowsF, Plain_rowsG, Plain_rowsI, Plain_rowsS, Plain_rowsU, Fin.satC_ret, Fin.satC_br, Fin.satC_need, Fin.satC_again, AllP, and_true, true_and, upd, List.length_nil, List.length_cons, Nat.zero_add, if_true, ncast, Int.ofNat_eq_natCast]
          obtain ⟨i, hi⟩ := i
          have hos : ∀ x ∈ toZ (ownS i v), 0 ≤ x ∧ x < (l.length : Nat) := fun x hx => by
            obtain ⟨y, hy, rfl⟩ := List.mem_map.1 hx
            have := ownS_lt hy
            omega
          have hol : (ownS i v).length ≤ i := by
            unfold ownS
            exact Nat.le_trans (List.length_filter_le _ _) (by rw [List.length_range]; exact Nat.le_refl _)
          refine ⟨fun h2 => ?_, fun h2 => ?_⟩
          · simp only [hH, stdH, Nat.le_refl, decide_eq_true_eq, decide_eq_false_iff_not, Bool.not_eq_true', Bool.not_eq_false', peta, ncast, Int.ofNat_eq_natCast, beq_iff_eq, bne_iff_ne, beq_eq_false_iff_ne, bne_eq_false_iff_eq, ne_eq, Classical.not_not, Int.toNat_natCast, vrow_I, Arm.eta2, Fld.eta, Grp.eta] at h2
            have h2 : i < l.length := by omega
            have hbit := bitQ (v := v) (i := i) (by omega) (by omega)
            refine ⟨?_, fun h3 => ?_, fun h3 => ?_⟩
            · try simp only [hH, stdH, Nat.le_refl, decide_eq_true_eq, decide_eq_false_iff_not, Bool.not_eq_true', Bool.not_eq_false', peta, ncast, Int.ofNat_eq_natCast, beq_iff_eq, bne_iff_ne, beq_eq_false_iff_ne, bne_eq_false_iff_eq, ne_eq, Classical.not_not, Int.toNat_natCast, vrow_I, Arm.eta2, Fld.eta, Grp.eta]
              omega
            · simp only [hH, stdH] at h3
              rw [hbit, Bool.not_eq_true'] at h3
              have e1 : ownS (i + 1) v = ownS i v := by rw [ownS_s, if_neg (by rw [h3]; simp)]
              have e2 : disS (qA l) v (i + 1) = disS (qA l) v i := if_neg (by rw [h3]; simp)
              refine ⟨⟨i + 1, by omega⟩, by simp only; omega, ?_⟩
              rw [hI2]
              (conv in matchSt _ _ _ _ => cbv); simp only [AllG, AllP, and_true, hH, stdH, Nat.le_refl, ncast, Int.ofNat_eq_natCast, vrow_I, Arm.eta2, Fld.eta, Grp.eta]
              rw [w1 (by omega), e1, e2]
              (repeat' (with_reducible refine And.intro ?_ ?_)) <;> (first | exact True.intro | exact Eq.refl _ | exact RowsEq.self okI | exact RowsEq.self okRA)
            · simp only [hH, stdH] at h3
              rw [hbit, Bool.not_eq_false'] at h3
              have e1 : ownS (i + 1) v = ownS i v ++ [i] := by rw [ownS_s, if_pos h3]
              have e2 : disS (qA l) v (i + 1) = (disS (qA l) v i && !(ownS i v).any (fun k => qA l k i)) := if_pos h3
              have e3 := anyQ h (v := v) h2 (mdQ l (i : Int)) fun k hk => by unfold mdQ; rw [Int.toNat_natCast, Int.toNat_natCast]; exact qA_I h hk h2
              (repeat' (with_reducible refine And.intro ?_ ?_))
              · try simp only [hH, stdH, Nat.le_refl, decide_eq_true_eq, decide_eq_false_iff_not, Bool.not_eq_true', Bool.not_eq_false', peta, ncast, Int.ofNat_eq_natCast, beq_iff_eq, bne_iff_ne, beq_eq_false_iff_ne, bne_eq_false_iff_eq, ne_eq, Classical.not_not, Int.toNat_natCast, vrow_I, Arm.eta2, Fld.eta, Grp.eta]
                exact fun _ j _ => rfl
              · try simp only [hH, stdH, Nat.le_refl, decide_eq_true_eq, decide_eq_false_iff_not, Bool.not_eq_true', Bool.not_eq_false', peta, ncast, Int.ofNat_eq_natCast, beq_iff_eq, bne_iff_ne, beq_eq_false_iff_ne, bne_eq_false_iff_eq, ne_eq, Classical.not_not, Int.toNat_natCast, vrow_I, Arm.eta2, Fld.eta, Grp.eta]
                exact fun _ => Shp_I _ _
              · try simp only [hH, stdH, Nat.le_refl, decide_eq_true_eq, decide_eq_false_iff_not, Bool.not_eq_true', Bool.not_eq_false', peta, ncast, Int.ofNat_eq_natCast, beq_iff_eq, bne_iff_ne, beq_eq_false_iff_ne, bne_eq_false_iff_eq, ne_eq, Classical.not_not, Int.toNat_natCast, vrow_I, Arm.eta2, Fld.eta, Grp.eta]
                exact fun _ => Shp_A _ _
              · try simp only [hH, stdH, Nat.le_refl, decide_eq_true_eq, decide_eq_false_iff_not, Bool.not_eq_true', Bool.not_eq_false', peta, ncast, Int.ofNat_eq_natCast, beq_iff_eq, bne_iff_ne, beq_eq_false_iff_ne, bne_eq_false_iff_eq, ne_eq, Classical.not_not, Int.toNat_natCast, vrow_I, Arm.eta2, Fld.eta, Grp.eta]
                intro _
                rw [Tl_I, toZ_len]
                omega
              · try simp only [hH, stdH, Nat.le_refl, decide_eq_true_eq, decide_eq_false_iff_not, Bool.not_eq_true', Bool.not_eq_false', peta, ncast, Int.ofNat_eq_natCast, beq_iff_eq, bne_iff_ne, beq_eq_false_iff_ne, bne_eq_false_iff_eq, ne_eq, Classical.not_not, Int.toNat_natCast, vrow_I, Arm.eta2, Fld.eta, Grp.eta]
                intro _
                rw [Tl_A]
                omega
              · try simp only [hH, stdH, Nat.le_refl, decide_eq_true_eq, decide_eq_false_iff_not, Bool.not_eq_true', Bool.not_eq_false', peta, ncast, Int.ofNat_eq_natCast, beq_iff_eq, bne_iff_ne, beq_eq_false_iff_ne, bne_eq_false_iff_eq, ne_eq, Classical.not_not, Int.toNat_natCast, vrow_I, Arm.eta2, Fld.eta, Grp.eta]
                intro _
                rw [Tl_I, Tl_A]
                exact hos
              · try simp only [hH, stdH, Nat.le_refl, decide_eq_true_eq, decide_eq_false_iff_not, Bool.not_eq_true', Bool.not_eq_false', peta, ncast, Int.ofNat_eq_natCast, beq_iff_eq, bne_iff_ne, beq_eq_false_iff_ne, bne_eq_false_iff_eq, ne_eq, Classical.not_not, Int.toNat_natCast, vrow_I, Arm.eta2, Fld.eta, Grp.eta]
              · try simp only [hH, stdH, Nat.le_refl, decide_eq_true_eq, decide_eq_false_iff_not, Bool.not_eq_true', Bool.not_eq_false', peta, ncast, Int.ofNat_eq_natCast, beq_iff_eq, bne_iff_ne, beq_eq_false_iff_ne, bne_eq_false_iff_eq, ne_eq, Classical.not_not, Int.toNat_natCast, vrow_I, Arm.eta2, Fld.eta, Grp.eta]
                rw [toZ_len]
                omega
              · refine ⟨⟨i + 1, by omega⟩, by simp only; omega, ?_⟩
                rw [hI2]
                (conv in matchSt _ _ _ _ => cbv); simp only [AllG, AllP, and_true, hH, stdH, Nat.le_refl, ncast, Int.ofNat_eq_natCast, vrow_I, Arm.eta2, Fld.eta, Grp.eta]
                rw [w1 (by omega), e1, e2, Tl_I, Tl_A, e3, toZ_snoc]
                (repeat' (with_reducible refine And.intro ?_ ?_)) <;> (first | exact True.intro | exact Eq.refl _ | exact RowsEq.self okI | exact RowsEq.self okRA | exact RowsEq.more okI (Shp_I 1 [(i : Int)]) (Tl_I [(i : Int)]) | exact (bifA _ _).symm | exact List.length_append)
          · simp only [hH, stdH, Nat.le_refl, decide_eq_true_eq, decide_eq_false_iff_not, Bool.not_eq_true', Bool.not_eq_false', peta, ncast, Int.ofNat_eq_natCast, beq_iff_eq, bne_iff_ne, beq_eq_false_iff_ne, bne_eq_false_iff_eq, ne_eq, Classical.not_not, Int.toNat_natCast, vrow_I, Arm.eta2, Fld.eta, Grp.eta] at h2
            obtain rfl : i = l.length := by omega
            (repeat' (with_reducible refine And.intro ?_ ?_))
            · try simp only [hH, stdH, Nat.le_refl, decide_eq_true_eq, decide_eq_false_iff_not, Bool.not_eq_true', Bool.not_eq_false', peta, ncast, Int.ofNat_eq_natCast, beq_iff_eq, bne_iff_ne, beq_eq_false_iff_ne, bne_eq_false_iff_eq, ne_eq, Classical.not_not, Int.toNat_natCast, vrow_I, Arm.eta2, Fld.eta, Grp.eta]
              exact fun _ j _ => rfl
            · try simp only [hH, stdH, Nat.le_refl, decide_eq_true_eq, decide_eq_false_iff_not, Bool.not_eq_true', Bool.not_eq_false', peta, ncast, Int.ofNat_eq_natCast, beq_iff_eq, bne_iff_ne, beq_eq_false_iff_ne, bne_eq_false_iff_eq, ne_eq, Classical.not_not, Int.toNat_natCast, vrow_I, Arm.eta2, Fld.eta, Grp.eta]
              exact fun _ j _ => rfl
            · try simp only [hH, stdH, Nat.le_refl, decide_eq_true_eq, decide_eq_false_iff_not, Bool.not_eq_true', Bool.not_eq_false', peta, ncast, Int.ofNat_eq_natCast, beq_iff_eq, bne_iff_ne, beq_eq_false_iff_ne, bne_eq_false_iff_eq, ne_eq, Classical.not_not, Int.toNat_natCast, vrow_I, Arm.eta2, Fld.eta, Grp.eta]
              exact fun _ => Shp_I _ _
            · try simp only [hH, stdH, Nat.le_refl, decide_eq_true_eq, decide_eq_false_iff_not, Bool.not_eq_true', Bool.not_eq_false', peta, ncast, Int.ofNat_eq_natCast, beq_iff_eq, bne_iff_ne, beq_eq_false_iff_ne, bne_eq_false_iff_eq, ne_eq, Classical.not_not, Int.toNat_natCast, vrow_I, Arm.eta2, Fld.eta, Grp.eta]
              exact fun _ => Shp_I _ _
            · try simp only [hH, stdH, Nat.le_refl, decide_eq_true_eq, decide_eq_false_iff_not, Bool.not_eq_true', Bool.not_eq_false', peta, ncast, Int.ofNat_eq_natCast, beq_iff_eq, bne_iff_ne, beq_eq_false_iff_ne, bne_eq_false_iff_eq, ne_eq, Classical.not_not, Int.toNat_natCast, vrow_I, Arm.eta2, Fld.eta, Grp.eta]
              intro _
              rw [Tl_I, toZ_len]
              omega
            · try simp only [hH, stdH, Nat.le_refl, decide_eq_true_eq, decide_eq_false_iff_not, Bool.not_eq_true', Bool.not_eq_false', peta, ncast, Int.ofNat_eq_natCast, beq_iff_eq, bne_iff_ne, beq_eq_false_iff_ne, bne_eq_false_iff_eq, ne_eq, Classical.not_not, Int.toNat_natCast, vrow_I, Arm.eta2, Fld.eta, Grp.eta]
              intro _
              rw [Tl_I, toZ_len]
              exact bstS_len (qA l) v (by omega)
            · intro h3
              simp only [hH, stdH, Tl_I] at h3
              rw [condQ] at h3
              have e5 : bstS (qA l) l.length (v + 1) = ownS l.length v := if_pos h3
              rw [if_neg (by decide)]
              refine ⟨⟨v + 1, by omega⟩, by simp only; omega, ?_⟩
              rw [hI]
              (conv in matchSt _ _ _ _ => cbv); simp only [AllG, AllP, and_true, hH, stdH, Nat.le_refl, ncast, Int.ofNat_eq_natCast, vrow_I, Arm.eta2, Fld.eta, Grp.eta]
              rw [w1 (by omega), e5]
              (repeat' (with_reducible refine And.intro ?_ ?_)) <;> (first | exact True.intro | exact Eq.refl _ | exact RowsEq.self okI | exact RowsEq.self okRA)
            · intro h3
              simp only [hH, stdH, Tl_I] at h3
              rw [condQ] at h3
              have e5 : bstS (qA l) l.length (v + 1) = bstS (qA l) l.length v := if_neg (by rw [h3]; simp)
              rw [if_neg (by decide)]
              refine ⟨⟨v + 1, by omega⟩, by simp only; omega, ?_⟩
              rw [hI]
              (conv in matchSt _ _ _ _ => cbv); simp only [AllG, AllP, and_true, hH, stdH, Nat.le_refl, ncast, Int.ofNat_eq_natCast, vrow_I, Arm.eta2, Fld.eta, Grp.eta]
              rw [w1 (by omega), e5]
              (repeat' (with_reducible refine And.intro ?_ ?_)) <;> (first | exact True.intro | exact Eq.refl _ | exact RowsEq.self okI | exact RowsEq.self okRA)
      · simp only [hH, stdH] at h1
        rw [shl1 _ (by omega), decide_eq_false_iff_not] at h1
        obtain rfl : v = 2 ^ l.length := by omega
        try simp only [hH, stdH, Nat.le_refl, decide_eq_true_eq, decide_eq_false_iff_not, Bool.not_eq_true', Bool.not_eq_false', peta, ncast, Int.ofNat_eq_natCast, beq_iff_eq, bne_iff_ne, beq_eq_false_iff_ne, bne_eq_false_iff_eq, ne_eq, Classical.not_not, Int.toNat_natCast, vrow_I, Arm.eta2, Fld.eta, Grp.eta]
        (repeat' (with_reducible refine And.intro ?_ ?_)) <;> (first | exact True.intro | exact Eq.refl _ | exact RowsEq.self okI | exact Nat.le_refl _ | omega)
noncomputable def e_mostI : Entry := pureE 11 fun H a => match a with
  | [.vec 15 ln lf] => some (.tup [.vec 1 (H Nat fun _ => (mdZ (Tl rowA ln lf)).length) (rowsI H fun _ => mdZ (Tl rowA ln lf)), .lit (.bool (H Bool fun _ => okL10 (Tl rowA ln lf)))], [H Prop fun _ => Shp rowA ln lf, H Prop fun _ => (Tl rowA ln lf).length ≤ 100])
  | _ => none
theorem eok_mostI : EntryOk Try.prog e_mostI := pureM_ok (by unfold isBody; kernel_rfl) (by
  intro a r ob e hob
  split at e
  · rename_i ln lf
    simp only [Option.some.injEq, Prod.mk.injEq] at e
    obtain ⟨rfl, rfl⟩ := e
    exact ConN.args (.cons (.toT okRA rfl hob.1) .nil) (c_mostI (Tl rowA ln lf) hob.2.1)
  · simp at e)

end Go.Proofs.Ytigkdbhcjjjjkaa.AM

