/- Lemmas and contracts (AmDl Shd Grd); conditions: none. -/
import Derived.Test.YtigkdbhcjjjjkaaK04
import Derived.Test.YtigkdbhcjjjjkaaK05
import Derived.Test.YtigkdbhcjjjjkaaK06
import Derived.Test.YtigkdbhcjjjjkaaK07
import Derived.Test.YtigkdbhcjjjjkaaK08
import Derived.Test.YtigkdbhcjjjjkaaK11
set_option linter.unusedVariables false
set_option linter.unusedSimpArgs false
set_option linter.unusedVariables false
set_option linter.unusedSimpArgs false
namespace Go.Proofs.Ytigkdbhcjjjjkaa.AM
section
variable {C : Cx} {n0 : Nat}
end
/-- The slots l alone. -/
def flt (l : List Nat) : Env → Env
  | [] => []
  | (t, x) :: e => bif l.any (Nat.beq t) then (t, x) :: flt l e else flt l e
/-- A loop, only the slots 'keep' kept. -/
theorem loop_c {P : Program} {Γ : Cons} {τ : Tab} {X : Ctx} {rs : List ResultVar} {As : Nat → St → Prop} (hB : Base P Γ τ) (hD : DrawOk P Γ τ) {c : Code} {k : List KI} {ctx : List (List KI)} {s : St} {N n0 : Nat} (hN : X.N = N) (h0 : X.n0 = n0) {H : Hold} (hH : H = stdH) (keep : List Nat) {ι : Type} (n : Nat) (at' : ι → List Atom) (μ : ι → Nat) (i0 : ι) (hi : AllG (matchSt H n0 (mkI n0 true c (k :: ctx) rs ⟨flt keep s.env, s.heap, s.next⟩ (at' i0)) s))
    {n1 : Nat} {r : AV} {nw : List Blk} {u : Heap} (round : ∀ (I : ι → St), (∀ i, I i = mkI n0 true c (k :: ctx) rs ⟨flt keep s.env, s.heap, s.next⟩ (at' i)) → ∀ i, ((finish H Γ τ N n rs (k :: ctx) (arun H Γ τ N n [.code c] (mkI n0 true c (k :: ctx) rs ⟨flt keep s.env, s.heap, s.next⟩ (at' i)))).chk (matchEx H n1 r nw u)).satC P X τ rs (fun x hp => ∃ π, Exp π n1 r nw u x hp) (upd As (ctx.length + 1) (fun s' => ∃ j, μ j < μ i ∧ AllG (matchSt H n0 (I j) s')))) : (Fin.loop c (k :: ctx) s).satC P X τ rs (fun x hp => ∃ π, Exp π n1 r nw u x hp) As :=
  loop_m hB hD hN h0 hH n (fun i => mkI n0 true c (k :: ctx) rs ⟨flt keep s.env, s.heap, s.next⟩ (at' i)) μ i0 hi (round _ fun _ => rfl)
theorem loop_cN {P : Program} {Γ : Cons} {τ : Tab} {X : Ctx} {rs : List ResultVar} {As : Nat → St → Prop} (hB : Base P Γ τ) (hD : DrawOk P Γ τ) {c : Code} {k : List KI} {ctx : List (List KI)} {s : St} {N n0 : Nat} (hN : X.N = N) (h0 : X.n0 = n0) {H : Hold} (hH : H = stdH) (keep : List Nat) (E0 : Nat) {ι : Type} (n : Nat) (at' : ι → List Atom) (μ : ι → Nat) (i0 : ι) (hi : AllG (matchStN H n0 E0 (mkI n0 true c (k :: ctx) rs ⟨flt keep s.env, s.heap, s.next⟩ (at' i0)) s))
    {n1 : Nat} {r : AV} {nw : List Blk} {u : Heap} (round : ∀ (I : ι → St), (∀ i, I i = mkI n0 true c (k :: ctx) rs ⟨flt keep s.env, s.heap, s.next⟩ (at' i)) → ∀ i, ((finish H Γ τ N n rs (k :: ctx) (arun H Γ τ N n [.code c] (mkI n0 true c (k :: ctx) rs ⟨flt keep s.env, s.heap, s.next⟩ (at' i)))).chk (matchExN H E0 n1 r nw u)).satC P X τ rs (fun x hp => ∃ π, Exp π n1 r nw u x hp) (upd As (ctx.length + 1) (fun s' => ∃ j, μ j < μ i ∧ AllG (matchStN H n0 E0 (I j) s')))) : (Fin.loop c (k :: ctx) s).satC P X τ rs (fun x hp => ∃ π, Exp π n1 r nw u x hp) As :=
  loop_mN hB hD hN h0 hH E0 n (fun i => mkI n0 true c (k :: ctx) rs ⟨flt keep s.env, s.heap, s.next⟩ (at' i)) μ i0 hi (round _ fun _ => rfl)
end Go.Proofs.Ytigkdbhcjjjjkaa.AM

set_option linter.unusedVariables false
set_option linter.unusedSimpArgs false
set_option maxRecDepth 100000
set_option maxHeartbeats 4000000
set_option cbv.maxSteps 3000000
namespace Go.Proofs.Ytigkdbhcjjjjkaa.AM
/- Shields are drawn; conditions: none. -/
structure Shd where
  mode : Int
  parts : List Arm
deriving Inhabited
theorem Shd.eta (a : Shd) : (⟨a.mode, a.parts⟩ : Shd) = a := rfl
theorem flat_at {α : Type} {f : α → List AV} {k : Nat} (hf : ∀ x, (f x).length = k) : ∀ (L : List α) (j : Nat) (h : j < L.length), ((L.flatMap f).drop (j * k)).take k = f L[j]
  | x :: L, 0, _ => by
    simp only [List.flatMap_cons, Nat.zero_mul, List.drop_zero, List.getElem_cons_zero]
    rw [List.take_append_of_le_length (by rw [hf]; exact Nat.le_refl _), List.take_of_length_le (by rw [hf]; exact Nat.le_refl _)]
  | x :: L, j + 1, h => by
    simp only [List.flatMap_cons, List.getElem_cons_succ]
    have e : (j + 1) * k = (f x).length + j * k := by rw [hf, Nat.add_mul, Nat.one_mul, Nat.add_comm]
    rw [e, List.drop_append, List.drop_of_length_le (by omega), List.nil_append, Nat.add_sub_cancel_left]
    exact flat_at hf L j (by simpa using h)
/-- A literal's rows. -/
theorem RowsEq.lit {α : Type} {D : RowD α} (ok : RowOk D) {L : List α} {cs : List AV} {n : Nat} (hn : L.length = n) (h : cs = L.flatMap fun x => D.cells stdH fun _ => x) : RowsEq D.k L.length (rowsT D stdH fun _ => L) n (rowsOf D.k cs) := by
  subst hn
  refine ⟨rfl, fun j hj => ⟨?_, by rw [rowsT, ok.row]; exact ok.len _, rows_blx ok L j⟩⟩
  rw [rowsT, ok.row, rowsOf, h, flat_at (fun x => ok.len fun _ => x) L j hj, List.getD_eq_getElem?_getD, List.getElem?_eq_getElem hj, Option.getD_some]
theorem hlen {H : Hold} (hH : H = stdH) (n : Nat) : (H Int fun _ => ((H Nat fun _ => n : Nat) : Int)) = (n : Int) := by subst hH; rfl
end Go.Proofs.Ytigkdbhcjjjjkaa.AM

set_option linter.unusedVariables false
set_option linter.unusedSimpArgs false
set_option maxRecDepth 100000
set_option maxHeartbeats 4000000
set_option cbv.maxSteps 3000000
namespace Go.Proofs.Ytigkdbhcjjjjkaa.AM
/- The grid of quarterings; conditions: none. -/
def grS (n r p : Nat) (s : Nat × Nat) : Nat × Nat := if n ≤ r * p ∧ (s.1 = 0 ∨ r * p < s.1 * s.2) then (r, p) else s
def grI (n r : Nat) : Nat → Nat × Nat → Nat × Nat
  | 0, s => s
  | k + 1, s => grS n r (r + k) (grI n r k s)
def grO (n : Nat) : Nat → Nat × Nat
  | 0 => (0, 0)
  | k + 1 => grI n (k + 1) 3 (grO n k)
def gr (n : Nat) : Nat × Nat := grO n n
theorem grS_le {n r p : Nat} {s : Nat × Nat} (h : s.1 ≤ 12 ∧ s.2 ≤ 14) (hr : r ≤ 12) (hp : p ≤ 14) : (grS n r p s).1 ≤ 12 ∧ (grS n r p s).2 ≤ 14 := by
  unfold grS
  split
  · exact ⟨hr, hp⟩
  · exact h
theorem grI_le {n r : Nat} {s : Nat × Nat} (h : s.1 ≤ 12 ∧ s.2 ≤ 14) (hr : r ≤ 12) : ∀ {k : Nat}, k ≤ 3 → (grI n r k s).1 ≤ 12 ∧ (grI n r k s).2 ≤ 14
  | 0, _ => h
  | k + 1, hk => grS_le (grI_le h hr (by omega)) hr (by omega)
theorem grO_le {n : Nat} : ∀ {k : Nat}, k ≤ 12 → (grO n k).1 ≤ 12 ∧ (grO n k).2 ≤ 14
  | 0, _ => ⟨Nat.zero_le _, Nat.zero_le _⟩
  | k + 1, hk => grI_le (grO_le (by omega)) (by omega) (by omega)
theorem gr_ok : ∀ n : Nat, n < 13 → 1 ≤ n → 1 ≤ (gr n).1 ∧ 1 ≤ (gr n).2 ∧ n ≤ (gr n).1 * (gr n).2 ∧ (gr n).1 ≤ 12 ∧ (gr n).2 ≤ 14 := by decide
theorem wm {a b : Nat} (ha : a ≤ 14) (hb : b ≤ 15) : IntKind.i64.wrap ((a : Int) * (b : Int)) = ((a * b : Nat) : Int) := by
  have : a * b ≤ 14 * 15 := Nat.mul_le_mul ha hb
  rw [← Int.natCast_mul, wi (by omega) (by omega)]
theorem grS_c {x : Int} {m a b : Nat} (hx : 1 ≤ x) (ha : a ≤ 14) (hb : b ≤ 15) : (bif decide (x ≤ (m : Int)) then bif (a : Int) == 0 then true else decide ((m : Int) < IntKind.i64.wrap ((a : Int) * (b : Int))) else false) = decide (x.toNat ≤ m ∧ (a = 0 ∨ m < a * b)) := by
  rw [wm ha hb, Bool.eq_iff_iff]
  by_cases h1 : x ≤ (m : Int)
  · rw [decide_eq_true h1, cond_true]
    by_cases h2 : a = 0
    · subst h2
      simp; omega
    · rw [show ((a : Int) == 0) = false by rw [beq_eq_false_iff_ne]; omega, cond_false]
      simp only [decide_eq_true_eq]
      generalize a * b = q
      omega
  · rw [decide_eq_false h1, cond_false]
    simp only [decide_eq_true_eq]
    constructor
    · intro h; cases h
    · omega
theorem c_gridOf (x : Int) (h0 : 1 ≤ x ∧ x ≤ 12) : ConN Try.prog 46 [.lit (.int .i64 x)] [] 0 (.tup [.lit (.int .i64 (stdH Int fun _ => ((gr x.toNat).1 : Nat))), .lit (.int .i64 (stdH Int fun _ => ((gr x.toNat).2 : Nat))), .lit (.bool (stdH Bool fun _ => true))]) [] [] := by
  have hB : Base Try.prog (tabΓ [e_inside]) tab := base_of tabOk (ents_cons eok_inside <| ents_nil)
  refine con_m (N := 46) hB (draw_ok hB mixed) Try.func46 rfl rfl (fun H => [.lit (.int .i64 x)]) (fun _ => []) 0 (fun H => .tup [.lit (.int .i64 (H Int fun _ => ((gr x.toNat).1 : Nat))), .lit (.int .i64 (H Int fun _ => ((gr x.toNat).2 : Nat))), .lit (.bool (H Bool fun _ => true))]) (fun H => []) (fun _ => []) 300 (by simp) (fun x hx => ?_) (by simp [lk]) (by omega) (by simp) ?_
  · simp only [List.mem_cons, List.not_mem_nil, or_false] at hx
    rcases hx with rfl
    · exact .lit
  intro X hX hX0 H hH
  conv in Fin.chk _ _ => cbv
  try simp only [Plain_rowsA, Plain_rowsB, Plain_rowsF, Plain_rowsG, Plain_rowsI, Plain_rowsS, Plain_rowsU, Fin.satC_ret, Fin.satC_br, Fin.satC_need, Fin.satC_again, AllP, and_true, true_and, upd, List.length_nil, List.length_cons, Nat.zero_add, if_true, ncast, Int.ofNat_eq_natCast]
  refine ⟨fun h => ?_, fun h => ?_⟩
  · exfalso
    simp only [hH, stdH, inB] at h
    rw [decide_eq_true h0] at h
    cases h
  · refine loop_a hB (draw_ok hB mixed) hX hX0 hH false (ι := { i : Nat // i ≤ x.toNat }) 300 (fun i => [.i (H Int fun _ => ((grO x.toNat i.1).1 : Nat)), .i (H Int fun _ => ((grO x.toNat i.1).2 : Nat)), .i (H Int fun _ => (i.1 + 1 : Nat))]) (fun i => x.toNat - i.1) (⟨0, by omega⟩) ?_ ?_
    · (conv in matchSt _ _ _ _ => cbv); simp only [AllG, AllP, and_true, hH, stdH, Nat.le_refl, ncast, Int.ofNat_eq_natCast, vrow_I, Arm.eta2, Fld.eta, Grp.eta]
      exact ⟨rfl, rfl, rfl⟩
    · intro I hI i
      conv in Fin.chk _ _ => cbv
      try simp only [Plain_rowsA, Plain_rowsB, Plain_rowsF, Plain_rowsG, Plain_rowsI, Plain_rowsS, Plain_rowsU, Fin.satC_ret, Fin.satC_br, Fin.satC_need, Fin.satC_again, AllP, and_true, true_and, upd, List.length_nil, List.length_cons, Nat.zero_add, if_true, ncast, Int.ofNat_eq_natCast]
      obtain ⟨i, hi⟩ := i
      refine ⟨fun h1 => ?_, fun h1 => ?_⟩
      · simp only [hH, stdH, Nat.le_refl, decide_eq_true_eq, decide_eq_false_iff_not, Bool.not_eq_true', Bool.not_eq_false', peta, ncast, Int.ofNat_eq_natCast, beq_iff_eq, bne_iff_ne, beq_eq_false_iff_ne, bne_eq_false_iff_eq, ne_eq, Classical.not_not, Int.toNat_natCast, vrow_I, Arm.eta2, Fld.eta, Grp.eta] at h1
        have h1 : i < x.toNat := by omega
        refine loop_a hB (draw_ok hB mixed) hX hX0 hH true (ι := { k : Nat // k ≤ 3 }) 300 (fun k => [.i (H Int fun _ => ((grI x.toNat (i + 1) k.1 (grO x.toNat i)).1 : Nat)), .i (H Int fun _ => ((grI x.toNat (i + 1) k.1 (grO x.toNat i)).2 : Nat)), .i (H Int fun _ => (i + 1 + k.1 : Nat))]) (fun k => 3 - k.1) (⟨0, by omega⟩) ?_ ?_
        · (conv in matchSt _ _ _ _ => cbv); simp only [AllG, AllP, and_true, hH, stdH, Nat.le_refl, ncast, Int.ofNat_eq_natCast, vrow_I, Arm.eta2, Fld.eta, Grp.eta]
          exact ⟨trivial, trivial, trivial, trivial, trivial, trivial, rfl, rfl⟩
        · intro I2 hI2 k
          conv in Fin.chk _ _ => cbv
          try simp only [Plain_rowsA, Plain_rowsB, Plain_rowsF, Plain_rowsG, Plain_rowsI, Plain_rowsS, Plain_rowsU, Fin.satC_ret, Fin.satC_br, Fin.satC_need, Fin.satC_again, AllP, and_true, true_and, upd, List.length_nil, List.length_cons, Nat.zero_add, if_true, ncast, Int.ofNat_eq_natCast]
          obtain ⟨k, hk⟩ := k
          have hs := grI_le (n := x.toNat) (r := i + 1) (grO_le (n := x.toNat) (k := i) (by omega)) (by omega) hk
          have e4 : IntKind.i64.wrap (((i + 1 : Nat) : Int) + 2) = (i : Int) + 3 := by rw [wi] <;> omega
          refine ⟨fun h2 => ⟨fun h3 => ?_, fun h3 => ?_⟩, fun h2 => ?_⟩
          · simp only [hH, stdH, Nat.le_refl, decide_eq_true_eq, decide_eq_false_iff_not, Bool.not_eq_true', Bool.not_eq_false', peta, ncast, Int.ofNat_eq_natCast, beq_iff_eq, bne_iff_ne, beq_eq_false_iff_ne, bne_eq_false_iff_eq, ne_eq, Classical.not_not, Int.toNat_natCast, vrow_I, Arm.eta2, Fld.eta, Grp.eta] at h2
            rw [e4] at h2
            simp only [hH, stdH, Int.toNat_natCast] at h3
            rw [wm (a := i + 1) (b := i + 1 + k) (by omega) (by omega), grS_c h0.1 (by omega) (by omega), decide_eq_true_eq] at h3
            have e3 : grI x.toNat (i + 1) (k + 1) (grO x.toNat i) = (i + 1, i + 1 + k) := if_pos h3
            refine ⟨⟨k + 1, by omega⟩, by simp only; omega, ?_⟩
            rw [hI2]
            (conv in matchSt _ _ _ _ => cbv); simp only [AllG, AllP, and_true, hH, stdH, Nat.le_refl, ncast, Int.ofNat_eq_natCast, vrow_I, Arm.eta2, Fld.eta, Grp.eta]
            rw [w1 (by omega), e3]
            (repeat' (first | with_reducible exact True.intro | rfl | refine And.intro ?_ ?_ | trivial))
          · simp only [hH, stdH, Nat.le_refl, decide_eq_true_eq, decide_eq_false_iff_not, Bool.not_eq_true', Bool.not_eq_false', peta, ncast, Int.ofNat_eq_natCast, beq_iff_eq, bne_iff_ne, beq_eq_false_iff_ne, bne_eq_false_iff_eq, ne_eq, Classical.not_not, Int.toNat_natCast, vrow_I, Arm.eta2, Fld.eta, Grp.eta] at h2
            rw [e4] at h2
            simp only [hH, stdH, Int.toNat_natCast] at h3
            rw [wm (a := i + 1) (b := i + 1 + k) (by omega) (by omega), grS_c h0.1 (by omega) (by omega), decide_eq_false_iff_not] at h3
            have e3 : grI x.toNat (i + 1) (k + 1) (grO x.toNat i) = grI x.toNat (i + 1) k (grO x.toNat i) := if_neg h3
            refine ⟨⟨k + 1, by omega⟩, by simp only; omega, ?_⟩
            rw [hI2]
            (conv in matchSt _ _ _ _ => cbv); simp only [AllG, AllP, and_true, hH, stdH, Nat.le_refl, ncast, Int.ofNat_eq_natCast, vrow_I, Arm.eta2, Fld.eta, Grp.eta]
            rw [w1 (by omega), e3]
            (repeat' (first | with_reducible exact True.intro | rfl | refine And.intro ?_ ?_ | trivial))
          · simp only [hH, stdH, Nat.le_refl, decide_eq_true_eq, decide_eq_false_iff_not, Bool.not_eq_true', Bool.not_eq_false', peta, ncast, Int.ofNat_eq_natCast, beq_iff_eq, bne_iff_ne, beq_eq_false_iff_ne, bne_eq_false_iff_eq, ne_eq, Classical.not_not, Int.toNat_natCast, vrow_I, Arm.eta2, Fld.eta, Grp.eta] at h2
            rw [e4] at h2
            obtain rfl : k = 3 := by omega
            rw [if_neg (by decide)]
            refine ⟨⟨i + 1, by omega⟩, by simp only; omega, ?_⟩
            rw [hI]
            (conv in matchSt _ _ _ _ => cbv); simp only [AllG, AllP, and_true, hH, stdH, Nat.le_refl, ncast, Int.ofNat_eq_natCast, vrow_I, Arm.eta2, Fld.eta, Grp.eta]
            rw [w1 (by omega)]
            (repeat' (first | with_reducible exact True.intro | rfl | refine And.intro ?_ ?_ | trivial))
      · simp only [hH, stdH, Nat.le_refl, decide_eq_true_eq, decide_eq_false_iff_not, Bool.not_eq_true', Bool.not_eq_false', peta, ncast, Int.ofNat_eq_natCast, beq_iff_eq, bne_iff_ne, beq_eq_false_iff_ne, bne_eq_false_iff_eq, ne_eq, Classical.not_not, Int.toNat_natCast, vrow_I, Arm.eta2, Fld.eta, Grp.eta] at h1
        obtain rfl : i = x.toNat := by omega
        try simp only [hH, stdH, Nat.le_refl, decide_eq_true_eq, decide_eq_false_iff_not, Bool.not_eq_true', Bool.not_eq_false', peta, ncast, Int.ofNat_eq_natCast, beq_iff_eq, bne_iff_ne, beq_eq_false_iff_ne, bne_eq_false_iff_eq, ne_eq, Classical.not_not, Int.toNat_natCast, vrow_I, Arm.eta2, Fld.eta, Grp.eta]
        exact ⟨trivial, rfl, rfl⟩
noncomputable def e_gridOf : Entry := pureE 46 fun H a => match a with
  | [.lit (.int .i64 x)] => some (.tup [.lit (.int .i64 (H Int fun _ => ((gr x.toNat).1 : Nat))), .lit (.int .i64 (H Int fun _ => ((gr x.toNat).2 : Nat))), .lit (.bool (H Bool fun _ => true))], [H Prop fun _ => 1 ≤ x ∧ x ≤ 12])
  | _ => none
theorem eok_gridOf : EntryOk Try.prog e_gridOf := pureM_ok (by unfold isBody; kernel_rfl) (by
  intro a r ob e hob
  split at e
  · rename_i x
    simp only [Option.some.injEq, Prod.mk.injEq] at e
    obtain ⟨rfl, rfl⟩ := e
    exact ConN.args (.cons .rfl .nil) (c_gridOf x hob.1)
  · simp at e)
def gridQ (n : Nat) : List (List Int) := (List.range (gr n).1).map fun r => (List.range (gr n).2).map fun p => (((r * (gr n).2 + p) % n : Nat) : Int)
def gridK (n k : Nat) : List (List Int) := (List.range k).map fun r => (List.range (gr n).2).map fun p => (((r * (gr n).2 + p) % n : Nat) : Int)
def gridR (n r k : Nat) : List Int := (List.range k).map fun p => (((r * (gr n).2 + p) % n : Nat) : Int)
theorem gridR_s (n r k : Nat) : gridR n r (k + 1) = gridR n r k ++ [(((r * (gr n).2 + k) % n : Nat) : Int)] := by simp [gridR, List.range_succ]
theorem gridK_s (n k : Nat) : gridK n (k + 1) = gridK n k ++ [gridR n k (gr n).2] := by simp [gridK, gridR, List.range_succ]
theorem gridR_len (n r k : Nat) : (gridR n r k).length = k := by simp [gridR]
theorem gridK_len (n k : Nat) : (gridK n k).length = k := by simp [gridK]
end Go.Proofs.Ytigkdbhcjjjjkaa.AM

