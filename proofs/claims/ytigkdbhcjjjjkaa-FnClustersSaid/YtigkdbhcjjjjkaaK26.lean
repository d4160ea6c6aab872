/- Lemmas and contracts (Mds); conditions: none. -/
import Derived.Test.YtigkdbhcjjjjkaaK04
import Derived.Test.YtigkdbhcjjjjkaaK20
import Derived.Test.YtigkdbhcjjjjkaaK24
import Derived.Test.YtigkdbhcjjjjkaaK25
set_option linter.unusedVariables false
set_option linter.unusedSimpArgs false
set_option linter.unusedVariables false
set_option linter.unusedSimpArgs false
set_option maxRecDepth 100000
set_option maxHeartbeats 4000000
set_option cbv.maxSteps 3000000
namespace Go.Proofs.Ytigkdbhcjjjjkaa.AM
/- The most distinct ones by the reference; conditions: none. -/
theorem aeql_rfl : ∀ a : List AV, AEqL a a
  | [] => .nil
  | _ :: a => .cons .rfl (aeql_rfl a)
/-- As growE, the slice the second argument. -/
def growE2 (f : FuncId) (k : Nat) (E : TypeId) (F : Hold → Nat → (Nat → List AV) → AV → List AV → Option (Nat × (Nat → List AV) × List Prop)) : Entry := ⟨f, fun H a h nx => match a with
  | a0 :: .slc i 0 k' n :: a => (match lk i h with
    | some (.rows k'' n' g E') => bif Nat.beq k k' && (Nat.beq k k'' && Nat.beq E E') then (match F H n g a0 a with
      | some (m, g', ob) => some (.slc nx 0 k m, [.rows k m g' E], [i], [(i, .cells [] E)], (H Prop fun _ => n' = n) :: ob)
      | none => none) else none
    | _ => none)
  | _ => none⟩
theorem growE2_ok {P : Program} {f : FuncId} {k : Nat} {E : TypeId} {F : Hold → Nat → (Nat → List AV) → AV → List AV → Option (Nat × (Nat → List AV) × List Prop)} (hb : isBody P f)
    (h : ∀ n g a0 a m g' ob, F stdH n g a0 a = some (m, g', ob) → AllP ob → ∃ g0 a1, (∀ j, j < n → g0 j = g j ∧ ∀ x ∈ g0 j, Bl 0 x) ∧ ConN P f (a1 :: .slc 0 0 k n :: a) [(0, .rows k n g0 E)] 1 (.slc 1 0 k m) [.rows k m g' E] [(0, .cells [] E)] ∧ (AEqL [a0] [a1] ∧ Bl 0 a1) ∧ (∀ x ∈ a, Bl 0 x) ∧ ∀ j, j < m → ∀ x ∈ g' j, Bl 0 x) : EntryOk P (growE2 f k E F) := by
  refine ⟨hb, fun a hp nx r nb rd u ob e hob => ?_⟩
  simp only [growE2] at e
  split at e
  · rename_i a a0 i k' n a'
    split at e
    · rename_i k'' n' g E' hlk
      cases hc : (Nat.beq k k' && (Nat.beq k k'' && Nat.beq E E')) with
      | false => rw [hc] at e; simp at e
      | true =>
        rw [hc] at e
        simp only [cond_true] at e
        simp only [Bool.and_eq_true] at hc
        obtain rfl := Nat.eq_of_beq_eq_true hc.1
        obtain rfl := Nat.eq_of_beq_eq_true hc.2.1
        obtain rfl := Nat.eq_of_beq_eq_true hc.2.2
        cases hF : F stdH n g a0 a' with
        | none => simp [hF] at e
        | some y =>
          obtain ⟨m, g', ob'⟩ := y
          simp only [hF, stdH, Option.some.injEq, Prod.mk.injEq] at e
          obtain ⟨rfl, rfl, rfl, rfl, rfl⟩ := e
          obtain ⟨rfl, hob⟩ := hob
          obtain ⟨g0, a1, h0, h1, ⟨h30, h20⟩, h2, h4⟩ := h _ _ _ _ _ _ _ hF hob
          refine ⟨fun q b hq => ?_, [(i, .rows k n' g E)], fun q b hq => ?_, ?_⟩
          · simp at hq; obtain ⟨rfl, rfl⟩ := hq; exact ⟨by simp, _, hlk, rfl⟩
          · rw [lk_cons] at hq
            by_cases hi : i = q
            · rw [if_pos hi] at hq; injection hq with hq; subst hq; subst hi; exact ⟨by simp, hlk⟩
            · rw [if_neg hi] at hq; simp [lk] at hq
          · refine ConN.args (args' := a1 :: .slc i 0 k n' :: a') (by cases h30 with | cons h30 _ => exact .cons h30 (aeql_rfl _)) (h1.ren (fun _ => i) (fun q hq => (by cases q with | zero => exact ⟨_, rfl⟩ | succ q => exact absurd hq (by omega))) rfl (fun c x z hx hz => ?_) (fun q b hq => ?_) (by omega) rfl (.slc ⟨by omega, by simp⟩ (by omega)) (fun q b hq => ?_) (fun q b hq => ?_) (fun q b hq => ?_))
            · match c with
              | 0 =>
                simp only [List.getElem?_cons_zero, Option.some.injEq] at hx hz; subst hx; subst hz
                exact .same (q := 0) (by omega) (by omega) h20
              | 1 => simp only [List.getElem?_cons_succ, List.getElem?_cons_zero, Option.some.injEq] at hx hz; subst hx; subst hz; exact Rn.slc (π := fun _ => i) (i := 0) (by omega)
              | c + 2 =>
                simp only [List.getElem?_cons_succ] at hx hz
                rw [hx] at hz; injection hz with hz; subst hz
                exact .same (q := 0) (by omega) (by omega) (h2 _ (List.mem_of_getElem? hx))
            · have := lk_in hq
              simp at this
              obtain ⟨rfl, rfl⟩ := this
              exact ⟨by omega, _, by rw [lk_cons, if_pos rfl], rnb_rows rfl (fun j hj => (h0 j hj).1) (fun j hj => (h0 j hj).2)⟩
            · cases q with
              | zero =>
                simp only [List.getElem?_cons_zero, Option.some.injEq] at hq
                subst hq
                exact ⟨_, rfl, .same (rowsB_bl h4)⟩
              | succ q => simp at hq
            · simp at hq
              obtain ⟨rfl, rfl⟩ := hq
              exact ⟨0, _, by omega, rfl, List.mem_cons_self, .same (fun p x hx => by simp [Blk.at] at hx)⟩
            · simp at hq
              obtain ⟨rfl, rfl⟩ := hq
              exact ⟨by omega, ⟨_, List.mem_cons_self⟩, fun _ b' hb' => by simp at hb'; subst hb'; rfl⟩
    · simp at e
  · simp at e
/-- A state of which a slot holds a slice of its own. -/
def sepS (t E : Nat) (s : St) : St := ⟨s.env.map fun p => bif Nat.beq p.1 t then (t, .slc s.next 0 1 0) else p, s.heap ++ [(s.next, .rows 1 0 (rowsOf 1 []) E)], s.next + 1⟩
section
variable {P : Program} {Γ : Cons} {τ : Tab} {X : Ctx} {rs : List ResultVar} {As : Nat → St → Prop}
/-- A loop that at first leaves a slot's slice as it is, and then holds one of its own there. -/
def twoI (n0 : Nat) (t E : Nat) (c : Code) (k : List KI) (ctx : List (List KI)) (rs : List ResultVar) (s : St) {ι κ : Type} (at1 : ι → List Atom) (at2 : κ → List Atom) : ι ⊕ κ → St
  | .inl i => mkI n0 false c (k :: ctx) rs s (at1 i)
  | .inr j => mkI n0 false c (k :: ctx) rs (sepS t E s) (at2 j)
theorem loop_two (hB : Base P Γ τ) (hD : DrawOk P Γ τ) {c : Code} {k : List KI} {ctx : List (List KI)} {s : St} {N n0 : Nat} (hN : X.N = N) (h0 : X.n0 = n0) {H : Hold} (hH : H = stdH) (t E : Nat) {ι κ : Type} (n : Nat) (at1 : ι → List Atom) (at2 : κ → List Atom) (μ : ι ⊕ κ → Nat) (i0 : ι) (hi : AllG (matchSt H n0 (mkI n0 false c (k :: ctx) rs s (at1 i0)) s))
    {n1 : Nat} {r : AV} {nw : List Blk} {u : Heap}
    (round1 : ∀ (I : ι ⊕ κ → St), (∀ i, I (.inl i) = mkI n0 false c (k :: ctx) rs s (at1 i)) → (∀ j, I (.inr j) = mkI n0 false c (k :: ctx) rs (sepS t E s) (at2 j)) → ∀ i, ((finish H Γ τ N n rs (k :: ctx) (arun H Γ τ N n [.code c] (mkI n0 false c (k :: ctx) rs s (at1 i)))).chk (matchEx H n1 r nw u)).satC P X τ rs (fun x hp => ∃ π, Exp π n1 r nw u x hp) (upd As (ctx.length + 1) (fun s' => ∃ j, μ j < μ (.inl i) ∧ AllG (matchSt H n0 (I j) s'))))
    (round2 : ∀ (I : ι ⊕ κ → St), (∀ i, I (.inl i) = mkI n0 false c (k :: ctx) rs s (at1 i)) → (∀ j, I (.inr j) = mkI n0 false c (k :: ctx) rs (sepS t E s) (at2 j)) → ∀ i, ((finish H Γ τ N n rs (k :: ctx) (arun H Γ τ N n [.code c] (mkI n0 false c (k :: ctx) rs (sepS t E s) (at2 i)))).chk (matchEx H n1 r nw u)).satC P X τ rs (fun x hp => ∃ π, Exp π n1 r nw u x hp) (upd As (ctx.length + 1) (fun s' => ∃ j, μ j < μ (.inr i) ∧ AllG (matchSt H n0 (I j) s')))) : (Fin.loop c (k :: ctx) s).satC P X τ rs (fun x hp => ∃ π, Exp π n1 r nw u x hp) As := by
  refine loop_m hB hD hN h0 hH n (twoI n0 t E c k ctx rs s at1 at2) μ (.inl i0) hi fun i => ?_
  cases i with
  | inl i => exact round1 _ (fun _ => rfl) (fun _ => rfl) i
  | inr i => exact round2 _ (fun _ => rfl) (fun _ => rfl) i
end
theorem c_l1Own (l : List Int) (h0 : l.length ≤ 100000) : ConN Try.prog 69 [.vec 1 (stdH Nat fun _ => (l).length) (rowsI stdH fun _ => l)] [] 0 (.slc 0 0 1 (stdH Nat fun _ => (l).length)) [.rows 1 (stdH Nat fun _ => (l).length) (rowsI stdH fun _ => l) 3] [] := by
  have hB : Base Try.prog (tabΓ []) tabO := base_of tabOkO (ents_nil)
  refine con_m (N := 6) hB (draw_ok hB mixed) Try.func69 rfl rfl (fun H => [.vec 1 (H Nat fun _ => (l).length) (rowsI H fun _ => l)]) (fun _ => []) 0 (fun H => .slc 0 0 1 (H Nat fun _ => (l).length)) (fun H => [.rows 1 (H Nat fun _ => (l).length) (rowsI H fun _ => l) 3]) (fun _ => []) 100 (by simp) (fun x hx => ?_) (by simp [lk]) (by omega) (by simp) ?_
  · simp only [List.mem_cons, List.not_mem_nil, or_false] at hx
    rcases hx with rfl
    · exact vl_bl okI l _
  intro X hX hX0 H hH
  conv in Fin.chk _ _ => cbv
  try simp only [Plain_rowsA, Plain_rowsB, Plain_rowsF, Plain_rowsG, Plain_rowsI, Plain_rowsS, Plain_rowsU, Fin.satC_ret, Fin.satC_br, Fin.satC_need, Fin.satC_again, AllP, and_true, true_and, upd, List.length_nil, List.length_cons, Nat.zero_add, if_true, ncast, Int.ofNat_eq_natCast]
  refine ⟨⟨?_, ?_⟩, ?_, ?_⟩
  · try simp only [hH, stdH, Nat.le_refl, decide_eq_true_eq, decide_eq_false_iff_not, Bool.not_eq_true', Bool.not_eq_false', peta, ncast, Int.ofNat_eq_natCast, beq_iff_eq, bne_iff_ne, beq_eq_false_iff_ne, bne_eq_false_iff_eq, ne_eq, Classical.not_not, Int.toNat_natCast, vrow_I, Arm.eta2, Fld.eta, Grp.eta]
  · try simp only [hH, stdH, Nat.le_refl, decide_eq_true_eq, decide_eq_false_iff_not, Bool.not_eq_true', Bool.not_eq_false', peta, ncast, Int.ofNat_eq_natCast, beq_iff_eq, bne_iff_ne, beq_eq_false_iff_ne, bne_eq_false_iff_eq, ne_eq, Classical.not_not, Int.toNat_natCast, vrow_I, Arm.eta2, Fld.eta, Grp.eta]
    omega
  · try simp only [hH, stdH, Nat.le_refl, decide_eq_true_eq, decide_eq_false_iff_not, Bool.not_eq_true', Bool.not_eq_false', peta, ncast, Int.ofNat_eq_natCast, beq_iff_eq, bne_iff_ne, beq_eq_false_iff_ne, bne_eq_false_iff_eq, ne_eq, Classical.not_not, Int.toNat_natCast, vrow_I, Arm.eta2, Fld.eta, Grp.eta]
    exact ⟨rfl, fun j hj => ⟨rfl, rfl, fun x hx => rows_blx okI _ j x hx⟩⟩
  · try simp only [hH, stdH, Nat.le_refl, decide_eq_true_eq, decide_eq_false_iff_not, Bool.not_eq_true', Bool.not_eq_false', peta, ncast, Int.ofNat_eq_natCast, beq_iff_eq, bne_iff_ne, beq_eq_false_iff_ne, bne_eq_false_iff_eq, ne_eq, Classical.not_not, Int.toNat_natCast, vrow_I, Arm.eta2, Fld.eta, Grp.eta]
noncomputable def e_l1Own : Entry := pureN 69 fun H a => match a with
  | [.vec 1 ln lf] => some (fun nx => .slc nx 0 1 (H Nat fun _ => ((Tl rowI ln lf)).length), [.rows 1 (H Nat fun _ => ((Tl rowI ln lf)).length) (rowsI H fun _ => (Tl rowI ln lf)) 3], [H Prop fun _ => Shp rowI ln lf, H Prop fun _ => (Tl rowI ln lf).length ≤ 100000])
  | _ => none
theorem eok_l1Own : EntryOk Try.prog e_l1Own := pureN_ok (by unfold isBody; kernel_rfl) (by
  intro a r nb ob e hob
  split at e
  · rename_i ln lf
    simp only [Option.some.injEq, Prod.mk.injEq] at e
    obtain ⟨rfl, rfl, rfl⟩ := e
    refine ⟨ConN.args (.cons (.toT okI rfl hob.1) .nil) (c_l1Own (Tl rowI ln lf) hob.2.1), fun x hx => ?_, fun nx => ?_, fun b hb => ?_⟩
    · simp only [List.mem_cons, List.not_mem_nil, or_false] at hx
      rcases hx with rfl
      · exact (hob.1).bl okI _
    · (first | exact .slc ⟨by omega, by simp⟩ (by omega) | (refine .tup rfl (fun c x y hx hy => ?_); rcases c with _ | _ | _ | c <;> simp at hx hy <;> (subst hx; subst hy; first | exact .slc ⟨by omega, by simp⟩ (by omega) | exact .pl .lit | exact .pl (blq_ok 4 rfl) | (refine .agg rfl (fun c x y hx hy => ?_); rcases c with _ | _ | _ | c <;> simp at hx hy <;> (subst hx; subst hy; first | exact .slc ⟨by omega, by simp⟩ (by omega) | exact .pl .lit | exact .pl (blq_ok 4 rfl))))) | (refine .agg rfl (fun c x y hx hy => ?_); rcases c with _ | _ | _ | c <;> simp at hx hy <;> (subst hx; subst hy; first | exact .slc ⟨by omega, by simp⟩ (by omega) | exact .pl .lit | exact .pl (blq_ok 4 rfl))))
    · simp only [List.mem_cons, List.not_mem_nil, or_false] at hb; subst hb; exact bT_bl okI _ (fun _ => (Tl rowI ln lf)) _
  · simp at e)
/-- The search, one call ahead. -/
def dstK (q : Nat → Nat → Bool) (n m : Nat) (s : List Nat) (i d : Nat) : List Nat := dstL q n (dstN q n (m - 1)) s i d
theorem dstK_end {q : Nat → Nat → Bool} {n : Nat} : ∀ {m : Nat} {s : List Nat} {i : Nat}, n - i ≤ m → dstK q n m s i (n - i) = dstN q n m s i
  | 0, s, i, h => by
    rw [show n - i = 0 by omega]; rfl
  | m + 1, s, i, h => rfl
/-- Numbers that count in a list. -/
def okN (n : Nat) (s : List Int) : Prop := ∀ x ∈ s, 0 ≤ x ∧ x < (n : Int)
theorem okN_toZ {n : Nat} {s : List Nat} (h : ∀ x ∈ s, x < n) : okN n (toZ s) := fun x hx => by
  obtain ⟨y, hy, rfl⟩ := List.mem_map.1 hx
  have := h y hy
  omega
def natZ (s : List Int) : List Nat := s.map Int.toNat
theorem toZ_natZ {n : Nat} {s : List Int} (h : okN n s) : toZ (natZ s) = s := by
  unfold toZ natZ
  rw [List.map_map]
  conv => rhs; rw [← List.map_id s]
  exact List.map_congr_left fun x hx => by
    have := (h x hx).1
    show ((x.toNat : Nat) : Int) = x
    omega
theorem natZ_lt {n : Nat} {s : List Int} (h : okN n s) : ∀ x ∈ natZ s, x < n := fun x hx => by
  obtain ⟨y, hy, rfl⟩ := List.mem_map.1 hx
  have := h y hy
  omega
theorem RowsEq.selfM {L : List Int} {n : Nat} (h : L.length = n) : RowsEq 1 L.length (rowsI stdH fun _ => L) n (rowsI stdH fun _ => L) := by
  subst h
  exact RowsEq.self okI
theorem natZ_toZ (L : List Nat) : natZ (toZ L) = L := by
  unfold natZ toZ
  rw [List.map_map]
  conv => rhs; rw [← List.map_id L]
  exact List.map_congr_left fun x _ => rfl
theorem tlX (s : List Nat) (j : Nat) : Tl rowI ((toZ s).length + 1) (app (toZ s).length (rowsI stdH fun _ => toZ s) (rowsN .i64 stdH fun _ => [(j : Int)])) = toZ (s ++ [j]) := by
  rw [Tl_app, Tl_I, toZ_snoc]
  exact congrArg _ (Tl_I [(j : Int)])
theorem shX (s : List Nat) (j : Nat) : Shp rowI ((toZ s).length + 1) (app (toZ s).length (rowsI stdH fun _ => toZ s) (rowsN .i64 stdH fun _ => [(j : Int)])) := Shp_app (Shp_I _ _) (Shp_I 1 [(j : Int)])
/-- Whether none of the first of a list clashes with a number. -/
def frL (q : Nat → Nat → Bool) (s : List Nat) (j k : Nat) : Bool := !((s.take k).any fun x => q x j)
theorem frL_s (q : Nat → Nat → Bool) {s : List Nat} (j : Nat) {k : Nat} (h : k < s.length) : frL q s j (k + 1) = (frL q s j k && !q (s.getD k 0) j) := by
  unfold frL
  rw [List.take_succ_eq_append_getElem h, List.any_append, getN h]
  simp
theorem frL_all (q : Nat → Nat → Bool) (s : List Nat) (j : Nat) : frL q s j s.length = !s.any fun x => q x j := by unfold frL; rw [List.take_length]
noncomputable def e_dist (m : Nat) : Entry := growE2 40 1 3 fun H n g a0 a => match a0, a with
  | .vec 15 p f, [.lit (.int .i64 i)] => some (H Nat fun _ => (dstN (qA (Tl rowA p f)) (Tl rowA p f).length (m - 1) (natZ (Tl rowI n g)) i.toNat).length, rowsI H fun _ => toZ (dstN (qA (Tl rowA p f)) (Tl rowA p f).length (m - 1) (natZ (Tl rowI n g)) i.toNat), [H Prop fun _ => Shp rowA p f, H Prop fun _ => Shp rowI n g, H Prop fun _ => (Tl rowA p f).length ≤ 100 ∧ okN (Tl rowA p f).length (Tl rowI n g) ∧ (Tl rowI n g).length ≤ i.toNat ∧ 0 ≤ i ∧ i ≤ 100 ∧ (Tl rowA p f).length - i.toNat < m])
  | _, _ => none
theorem c_dist (m : Nat) (he : EntryOk Try.prog (e_dist m)) (l : List Arm) (s : List Nat) (i : Nat) (h0 : l.length ≤ 100) (h1 : ∀ x ∈ s, x < l.length) (h2 : s.length ≤ i) (h3 : i ≤ 100) (h4 : l.length - i ≤ m) : ConN Try.prog 40 [.vec 15 (stdH Nat fun _ => l.length) (rowsA stdH fun _ => l), .slc 0 0 1 (stdH Nat fun _ => (toZ s).length), .lit (.int .i64 (i : Nat))] [(0, .rows 1 (stdH Nat fun _ => (toZ s).length) (rowsI stdH fun _ => toZ s) 3)] 1 (.slc 1 0 1 (stdH Nat fun _ => (toZ (dstN (qA l) l.length m s i)).length)) [.rows 1 (stdH Nat fun _ => (toZ (dstN (qA l) l.length m s i)).length) (rowsI stdH fun _ => toZ (dstN (qA l) l.length m s i)) 3] [(0, .cells [] 3)] := by
  have hB : Base Try.prog (tabΓ [e_l15Conflict, e_l1Own, e_dist m]) tabO := base_of tabOkO (ents_cons eok_l15Conflict <| ents_cons eok_l1Own <| ents_cons he <| ents_nil)
  refine con_m (N := 60) hB (draw_ok hB mixed) Try.func40 rfl rfl (fun H => [.vec 15 (H Nat fun _ => l.length) (rowsA H fun _ => l), .slc 0 0 1 (H Nat fun _ => (toZ s).length), .lit (.int .i64 (i : Nat))]) (fun H => [(0, .rows 1 (H Nat fun _ => (toZ s).length) (rowsI H fun _ => toZ s) 3)]) 1 (fun H => .slc 1 0 1 (H Nat fun _ => (toZ (dstN (qA l) l.length m s i)).length)) (fun H => [.rows 1 (H Nat fun _ => (toZ (dstN (qA l) l.length m s i)).length) (rowsI H fun _ => toZ (dstN (qA l) l.length m s i)) 3]) (fun H => [(0, .cells [] 3)]) 300 (by simp) (fun x hx => ?_) (fun i b hi => ?_) (fun i hi => ?_) (fun i b hi => ?_) ?_
  · simp only [List.mem_cons, List.not_mem_nil, or_false] at hx
    rcases hx with rfl | rfl | rfl
    · exact vl_bl okRA l _
    · exact .slc (by omega)
    · exact .lit
  · have := lk_in hi
    simp only [List.mem_cons, List.not_mem_nil, or_false, Prod.mk.injEq] at this
    obtain ⟨rfl, rfl⟩ := this
    exact ⟨by omega, bT_bl okI _ (fun _ => toZ s) _, _, List.mem_cons_self⟩
  · obtain rfl : i = 0 := by omega
    exact ⟨_, rfl⟩
  · simp only [List.mem_cons, List.not_mem_nil, or_false, Prod.mk.injEq] at hi
    obtain ⟨rfl, rfl⟩ := hi
    exact ⟨_, rfl⟩
  intro X hX hX0 H hH
  conv in Fin.chk _ _ => cbv
  try simp only [Plain_rowsA, Plain_rowsB, Plain_rowsF, Plain_rowsG, Plain_rowsI, Plain_rowsS, Plain_rowsU, Fin.satC_ret, Fin.satC_br, Fin.satC_need, Fin.satC_again, AllP, and_true, true_and, upd, List.length_nil, List.length_cons, Nat.zero_add, if_true, ncast, Int.ofNat_eq_natCast]
  rw [← dstK_end h4]
  refine loop_two hB (draw_ok hB mixed) hX hX0 hH 7 3 (ι := { d : Nat // d ≤ l.length - i ∧ dstK (qA l) l.length m s i d = s }) (κ := { d : Nat // d ≤ l.length - i }) 300 (fun d => [.r (H Nat fun _ => (toZ s).length) (rowsI H fun _ => toZ s), .i (H Int fun _ => (i + d.1 : Nat))]) (fun d => [.r (H Nat fun _ => (toZ s).length) (rowsI H fun _ => toZ s), .r (H Nat fun _ => (toZ (dstK (qA l) l.length m s i d.1)).length) (rowsI H fun _ => toZ (dstK (qA l) l.length m s i d.1)), .i (H Int fun _ => (i + d.1 : Nat))]) (fun d => l.length - i - (match d with | .inl d => d.1 | .inr d => d.1)) ⟨0, Nat.zero_le _, rfl⟩ ?_ ?_ ?_
  · (conv in matchSt _ _ _ _ => cbv); simp only [AllG, AllP, and_true, hH, stdH, Nat.le_refl, ncast, Int.ofNat_eq_natCast, vrow_I, Arm.eta2, Fld.eta, Grp.eta]
    (repeat' (with_reducible refine And.intro ?_ ?_)) <;> (first | exact True.intro | exact Eq.refl _ | exact RowsEq.self okI | exact RowsEq.self okRA)
  · intro I hI1 hI2 d
    conv in Fin.chk _ _ => cbv
    try simp only [Plain_rowsA, Plain_rowsB, Plain_rowsF, Plain_rowsG, Plain_rowsI, Plain_rowsS, Plain_rowsU, Fin.satC_ret, Fin.satC_br, Fin.satC_need, Fin.satC_again, AllP, and_true, true_and, upd, List.length_nil, List.length_cons, Nat.zero_add, if_true, ncast, Int.ofNat_eq_natCast]
    obtain ⟨d, hd, hq⟩ := d
    refine ⟨fun k1 => ?_, fun k1 => ?_⟩
    · simp only [hH, stdH, Nat.le_refl, decide_eq_true_eq, decide_eq_false_iff_not, Bool.not_eq_true', Bool.not_eq_false', peta, ncast, Int.ofNat_eq_natCast, beq_iff_eq, bne_iff_ne, beq_eq_false_iff_ne, bne_eq_false_iff_eq, ne_eq, Classical.not_not, Int.toNat_natCast, vrow_I, Arm.eta2, Fld.eta, Grp.eta] at k1
      have k1 : i + d < l.length := by omega
      have eW : IntKind.i64.wrap (((i + d : Nat) : Int) + 1) = ((i + (d + 1) : Nat) : Int) := w1 (by omega)
      refine loop_c hB (draw_ok hB mixed) hX hX0 hH [0, 1, 2, 6, 7, 8, 9, 10] (ι := { k : Nat // k ≤ s.length }) 300 (fun k => [.b (H Bool fun _ => frL (qA l) s (i + d) k.1), .i (H Int fun _ => (k.1 : Nat))]) (fun k => s.length - k.1) (⟨0, Nat.zero_le _⟩) ?_ ?_
      · (conv in matchSt _ _ _ _ => cbv); simp only [AllG, AllP, and_true, hH, stdH, Nat.le_refl, ncast, Int.ofNat_eq_natCast, vrow_I, Arm.eta2, Fld.eta, Grp.eta]
        (repeat' (with_reducible refine And.intro ?_ ?_)) <;> (first | exact True.intro | exact Eq.refl _ | exact RowsEq.self okI | exact RowsEq.self okRA)
      · intro I2 hI3 k
        conv in Fin.chk _ _ => cbv
        try simp only [Plain_rowsA, Plain_rowsB, Plain_rowsF, Plain_rowsG, Plain_rowsI, Plain_rowsS, Plain_rowsU, Fin.satC_ret, Fin.satC_br, Fin.satC_need, Fin.satC_again, AllP, and_true, true_and, upd, List.length_nil, List.length_cons, Nat.zero_add, if_true, ncast, Int.ofNat_eq_natCast]
        obtain ⟨k, hk⟩ := k
        refine ⟨fun h5 => ?_, fun h5 => ?_⟩
        · simp only [hH, stdH, Nat.le_refl, decide_eq_true_eq, decide_eq_false_iff_not, Bool.not_eq_true', Bool.not_eq_false', peta, ncast, Int.ofNat_eq_natCast, beq_iff_eq, bne_iff_ne, beq_eq_false_iff_ne, bne_eq_false_iff_eq, ne_eq, Classical.not_not, Int.toNat_natCast, vrow_I, Arm.eta2, Fld.eta, Grp.eta] at h5
          rw [toZ_len] at h5
          have h5 : k < s.length := by omega
          have hg := h1 (s.getD k 0) (by rw [getN h5]; exact List.getElem_mem h5)
          (repeat' (with_reducible refine And.intro ?_ ?_))
          · try simp only [hH, stdH, Nat.le_refl, decide_eq_true_eq, decide_eq_false_iff_not, Bool.not_eq_true', Bool.not_eq_false', peta, ncast, Int.ofNat_eq_natCast, beq_iff_eq, bne_iff_ne, beq_eq_false_iff_ne, bne_eq_false_iff_eq, ne_eq, Classical.not_not, Int.toNat_natCast, vrow_I, Arm.eta2, Fld.eta, Grp.eta]
            intro _
            rw [toZ_len]
            omega
          · try simp only [hH, stdH, Nat.le_refl, decide_eq_true_eq, decide_eq_false_iff_not, Bool.not_eq_true', Bool.not_eq_false', peta, ncast, Int.ofNat_eq_natCast, beq_iff_eq, bne_iff_ne, beq_eq_false_iff_ne, bne_eq_false_iff_eq, ne_eq, Classical.not_not, Int.toNat_natCast, vrow_I, Arm.eta2, Fld.eta, Grp.eta]
            intro _
            rw [toZ_len]
            exact ⟨h5, rfl⟩
          · try simp only [hH, stdH, Nat.le_refl, decide_eq_true_eq, decide_eq_false_iff_not, Bool.not_eq_true', Bool.not_eq_false', peta, ncast, Int.ofNat_eq_natCast, beq_iff_eq, bne_iff_ne, beq_eq_false_iff_ne, bne_eq_false_iff_eq, ne_eq, Classical.not_not, Int.toNat_natCast, vrow_I, Arm.eta2, Fld.eta, Grp.eta]
            intro _
            rw [toZ_at h5]
            omega
          · try simp only [hH, stdH, Nat.le_refl, decide_eq_true_eq, decide_eq_false_iff_not, Bool.not_eq_true', Bool.not_eq_false', peta, ncast, Int.ofNat_eq_natCast, beq_iff_eq, bne_iff_ne, beq_eq_false_iff_ne, bne_eq_false_iff_eq, ne_eq, Classical.not_not, Int.toNat_natCast, vrow_I, Arm.eta2, Fld.eta, Grp.eta]
            intro _
            omega
          · refine ⟨⟨k + 1, by omega⟩, by simp only; omega, ?_⟩
            rw [hI3]
            (conv in matchSt _ _ _ _ => cbv); simp only [AllG, AllP, and_true, hH, stdH, Nat.le_refl, ncast, Int.ofNat_eq_natCast, vrow_I, Arm.eta2, Fld.eta, Grp.eta]
            rw [w1 (by omega), frL_s _ _ h5]
            (repeat' (with_reducible refine And.intro ?_ ?_)) <;> (first | exact True.intro | exact Eq.refl _ | exact RowsEq.self okI | exact RowsEq.self okRA | exact ((bifA _ _).trans (by rw [Int.toNat_natCast, toZ_at h5]; rfl)).symm)
        · simp only [hH, stdH, Nat.le_refl, decide_eq_true_eq, decide_eq_false_iff_not, Bool.not_eq_true', Bool.not_eq_false', peta, ncast, Int.ofNat_eq_natCast, beq_iff_eq, bne_iff_ne, beq_eq_false_iff_ne, bne_eq_false_iff_eq, ne_eq, Classical.not_not, Int.toNat_natCast, vrow_I, Arm.eta2, Fld.eta, Grp.eta] at h5
          rw [toZ_len] at h5
          obtain rfl : k = s.length := by omega
          refine ⟨fun h6 => ?_, fun h6 => ?_⟩
          · simp only [hH, stdH, frL_all, Bool.not_not] at h6
            have e5 : dstK (qA l) l.length m s i (d + 1) = dstK (qA l) l.length m s i d := if_pos h6
            rw [if_neg (by decide)]
            refine ⟨.inl ⟨d + 1, by omega, by rw [e5]; exact hq⟩, (show l.length - i - (d + 1) < l.length - i - d by omega), ?_⟩
            rw [hI1]
            (conv in matchSt _ _ _ _ => cbv); simp only [AllG, AllP, and_true, hH, stdH, Nat.le_refl, ncast, Int.ofNat_eq_natCast, vrow_I, Arm.eta2, Fld.eta, Grp.eta]
            simp only [eW]
            try rw [e5]
            (repeat' (with_reducible refine And.intro ?_ ?_)) <;> (first | exact True.intro | exact Eq.refl _ | exact RowsEq.self okI | exact RowsEq.self okRA)
          · simp only [hH, stdH, frL_all, Bool.not_not] at h6
            have hl2 : (toZ s).length = s.length := toZ_len s
            (repeat' (with_reducible refine And.intro ?_ ?_))
            · try simp only [hH, stdH, Nat.le_refl, decide_eq_true_eq, decide_eq_false_iff_not, Bool.not_eq_true', Bool.not_eq_false', peta, ncast, Int.ofNat_eq_natCast, beq_iff_eq, bne_iff_ne, beq_eq_false_iff_ne, bne_eq_false_iff_eq, ne_eq, Classical.not_not, Int.toNat_natCast, vrow_I, Arm.eta2, Fld.eta, Grp.eta]
              exact fun j _ => rfl
            · try simp only [hH, stdH, Nat.le_refl, decide_eq_true_eq, decide_eq_false_iff_not, Bool.not_eq_true', Bool.not_eq_false', peta, ncast, Int.ofNat_eq_natCast, beq_iff_eq, bne_iff_ne, beq_eq_false_iff_ne, bne_eq_false_iff_eq, ne_eq, Classical.not_not, Int.toNat_natCast, vrow_I, Arm.eta2, Fld.eta, Grp.eta]
              exact Shp_I _ _
            · try simp only [hH, stdH, Nat.le_refl, decide_eq_true_eq, decide_eq_false_iff_not, Bool.not_eq_true', Bool.not_eq_false', peta, ncast, Int.ofNat_eq_natCast, beq_iff_eq, bne_iff_ne, beq_eq_false_iff_ne, bne_eq_false_iff_eq, ne_eq, Classical.not_not, Int.toNat_natCast, vrow_I, Arm.eta2, Fld.eta, Grp.eta]
              rw [Tl_I]
              omega
            · try simp only [hH, stdH, Nat.le_refl, decide_eq_true_eq, decide_eq_false_iff_not, Bool.not_eq_true', Bool.not_eq_false', peta, ncast, Int.ofNat_eq_natCast, beq_iff_eq, bne_iff_ne, beq_eq_false_iff_ne, bne_eq_false_iff_eq, ne_eq, Classical.not_not, Int.toNat_natCast, vrow_I, Arm.eta2, Fld.eta, Grp.eta]
            · try simp only [hH, stdH, Nat.le_refl, decide_eq_true_eq, decide_eq_false_iff_not, Bool.not_eq_true', Bool.not_eq_false', peta, ncast, Int.ofNat_eq_natCast, beq_iff_eq, bne_iff_ne, beq_eq_false_iff_ne, bne_eq_false_iff_eq, ne_eq, Classical.not_not, Int.toNat_natCast, vrow_I, Arm.eta2, Fld.eta, Grp.eta]
            · simp only [hH, stdH, Tl_I, Tl_A, tlX, natZ_toZ, eW, Int.toNat_natCast]
              omega
            · try simp only [hH, stdH, Nat.le_refl, decide_eq_true_eq, decide_eq_false_iff_not, Bool.not_eq_true', Bool.not_eq_false', peta, ncast, Int.ofNat_eq_natCast, beq_iff_eq, bne_iff_ne, beq_eq_false_iff_ne, bne_eq_false_iff_eq, ne_eq, Classical.not_not, Int.toNat_natCast, vrow_I, Arm.eta2, Fld.eta, Grp.eta]
            · try simp only [hH, stdH, Nat.le_refl, decide_eq_true_eq, decide_eq_false_iff_not, Bool.not_eq_true', Bool.not_eq_false', peta, ncast, Int.ofNat_eq_natCast, beq_iff_eq, bne_iff_ne, beq_eq_false_iff_ne, bne_eq_false_iff_eq, ne_eq, Classical.not_not, Int.toNat_natCast, vrow_I, Arm.eta2, Fld.eta, Grp.eta]
              exact Shp_A _ _
            · simp only [hH, stdH, Tl_I, Tl_A, tlX, natZ_toZ, eW, Int.toNat_natCast]
              exact shX _ _
            · simp only [hH, stdH, Tl_I, Tl_A, tlX, natZ_toZ, eW, Int.toNat_natCast]
              refine ⟨h0, okN_toZ (fun x hx => ?_), ?_, by omega, by omega, by omega⟩
              · rcases List.mem_append.1 hx with hx | hx
                · exact h1 x hx
                · rw [List.mem_singleton] at hx
                  omega
              · simp only [toZ_len, List.length_append, List.length_singleton]
                omega
            · intro h7
              simp only [hH, stdH, Tl_I, Tl_A, tlX, natZ_toZ, eW, Int.toNat_natCast] at h7
              rw [decide_eq_true_eq, toZ_len] at h7
              have h8 : (dstK (qA l) l.length m s i d).length < (dstN (qA l) l.length (m - 1) (s ++ [i + d]) (i + d + 1)).length := by rw [hq]; exact Int.ofNat_lt.1 h7
              have e5 : dstK (qA l) l.length m s i (d + 1) = dstN (qA l) l.length (m - 1) (s ++ [i + d]) (i + d + 1) := (if_neg (by rw [h6]; simp)).trans (if_pos h8)
              rw [if_neg (by decide)]
              refine ⟨.inr ⟨d + 1, by omega⟩, (show l.length - i - (d + 1) < l.length - i - d by omega), ?_⟩
              rw [hI2]
              (conv in matchSt _ _ _ _ => cbv); simp only [AllG, AllP, and_true, hH, stdH, Nat.le_refl, ncast, Int.ofNat_eq_natCast, vrow_I, Arm.eta2, Fld.eta, Grp.eta]
              simp only [Tl_I, Tl_A, tlX, natZ_toZ, eW, Int.toNat_natCast, e5]
              (repeat' (with_reducible refine And.intro ?_ ?_)) <;> (first | exact True.intro | exact Eq.refl _ | exact RowsEq.self okI | exact RowsEq.self okRA | exact RowsEq.selfM (toZ_len _) | exact toZ_len _ | exact (toZ_len _).symm)
            · intro h7
              simp only [hH, stdH, Tl_I, Tl_A, tlX, natZ_toZ, eW, Int.toNat_natCast] at h7
              rw [decide_eq_false_iff_not, toZ_len] at h7
              have h8 : ¬ (dstK (qA l) l.length m s i d).length < (dstN (qA l) l.length (m - 1) (s ++ [i + d]) (i + d + 1)).length := by rw [hq]; exact fun hh => h7 (Int.ofNat_lt.2 hh)
              have e5 : dstK (qA l) l.length m s i (d + 1) = dstK (qA l) l.length m s i d := (if_neg (by rw [h6]; simp)).trans (if_neg h8)
              rw [if_neg (by decide)]
              refine ⟨.inl ⟨d + 1, by omega, by rw [e5]; exact hq⟩, (show l.length - i - (d + 1) < l.length - i - d by omega), ?_⟩
              rw [hI1]
              (conv in matchSt _ _ _ _ => cbv); simp only [AllG, AllP, and_true, hH, stdH, Nat.le_refl, ncast, Int.ofNat_eq_natCast, vrow_I, Arm.eta2, Fld.eta, Grp.eta]
              simp only [eW]
              try rw [e5]
              (repeat' (with_reducible refine And.intro ?_ ?_)) <;> (first | exact True.intro | exact Eq.refl _ | exact RowsEq.self okI | exact RowsEq.self okRA)
    · simp only [hH, stdH, Nat.le_refl, decide_eq_true_eq, decide_eq_false_iff_not, Bool.not_eq_true', Bool.not_eq_false', peta, ncast, Int.ofNat_eq_natCast, beq_iff_eq, bne_iff_ne, beq_eq_false_iff_ne, bne_eq_false_iff_eq, ne_eq, Classical.not_not, Int.toNat_natCast, vrow_I, Arm.eta2, Fld.eta, Grp.eta] at k1
      obtain rfl : d = l.length - i := by omega
      rw [hq]
      try simp only [hH, stdH, Nat.le_refl, decide_eq_true_eq, decide_eq_false_iff_not, Bool.not_eq_true', Bool.not_eq_false', peta, ncast, Int.ofNat_eq_natCast, beq_iff_eq, bne_iff_ne, beq_eq_false_iff_ne, bne_eq_false_iff_eq, ne_eq, Classical.not_not, Int.toNat_natCast, vrow_I, Arm.eta2, Fld.eta, Grp.eta]
      (repeat' (with_reducible refine And.intro ?_ ?_)) <;> (first | exact True.intro | exact Eq.refl _ | exact RowsEq.self okI | exact RowsEq.self okRA)
  · intro I hI1 hI2 d
    conv in Fin.chk _ _ => cbv
    try simp only [Plain_rowsA, Plain_rowsB, Plain_rowsF, Plain_rowsG, Plain_rowsI, Plain_rowsS, Plain_rowsU, Fin.satC_ret, Fin.satC_br, Fin.satC_need, Fin.satC_again, AllP, and_true, true_and, upd, List.length_nil, List.length_cons, Nat.zero_add, if_true, ncast, Int.ofNat_eq_natCast]
    obtain ⟨d, hd⟩ := d
    refine ⟨fun k1 => ?_, fun k1 => ?_⟩
    · simp only [hH, stdH, Nat.le_refl, decide_eq_true_eq, decide_eq_false_iff_not, Bool.not_eq_true', Bool.not_eq_false', peta, ncast, Int.ofNat_eq_natCast, beq_iff_eq, bne_iff_ne, beq_eq_false_iff_ne, bne_eq_false_iff_eq, ne_eq, Classical.not_not, Int.toNat_natCast, vrow_I, Arm.eta2, Fld.eta, Grp.eta] at k1
      have k1 : i + d < l.length := by omega
      have eW : IntKind.i64.wrap (((i + d : Nat) : Int) + 1) = ((i + (d + 1) : Nat) : Int) := w1 (by omega)
      refine loop_c hB (draw_ok hB mixed) hX hX0 hH [0, 1, 2, 6, 7, 8, 9, 10] (ι := { k : Nat // k ≤ s.length }) 300 (fun k => [.b (H Bool fun _ => frL (qA l) s (i + d) k.1), .i (H Int fun _ => (k.1 : Nat))]) (fun k => s.length - k.1) (⟨0, Nat.zero_le _⟩) ?_ ?_
      · (conv in matchSt _ _ _ _ => cbv); simp only [AllG, AllP, and_true, hH, stdH, Nat.le_refl, ncast, Int.ofNat_eq_natCast, vrow_I, Arm.eta2, Fld.eta, Grp.eta]
        (repeat' (with_reducible refine And.intro ?_ ?_)) <;> (first | exact True.intro | exact Eq.refl _ | exact RowsEq.self okI | exact RowsEq.self okRA)
      · intro I2 hI3 k
        conv in Fin.chk _ _ => cbv
        try simp only [Plain_rowsA, Plain_rowsB, Plain_rowsF, Plain_rowsG, Plain_rowsI, Plain_rowsS, Plain_rowsU, Fin.satC_ret, Fin.satC_br, Fin.satC_need, Fin.satC_again, AllP, and_true, true_and, upd, List.length_nil, List.length_cons, Nat.zero_add, if_true, ncast, Int.ofNat_eq_natCast]
        obtain ⟨k, hk⟩ := k
        refine ⟨fun h5 => ?_, fun h5 => ?_⟩
        · simp only [hH, stdH, Nat.le_refl, decide_eq_true_eq, decide_eq_false_iff_not, Bool.not_eq_true', Bool.not_eq_false', peta, ncast, Int.ofNat_eq_natCast, beq_iff_eq, bne_iff_ne, beq_eq_false_iff_ne, bne_eq_false_iff_eq, ne_eq, Classical.not_not, Int.toNat_natCast, vrow_I, Arm.eta2, Fld.eta, Grp.eta] at h5
          rw [toZ_len] at h5
          have h5 : k < s.length := by omega
          have hg := h1 (s.getD k 0) (by rw [getN h5]; exact List.getElem_mem h5)
          (repeat' (with_reducible refine And.intro ?_ ?_))
          · try simp only [hH, stdH, Nat.le_refl, decide_eq_true_eq, decide_eq_false_iff_not, Bool.not_eq_true', Bool.not_eq_false', peta, ncast, Int.ofNat_eq_natCast, beq_iff_eq, bne_iff_ne, beq_eq_false_iff_ne, bne_eq_false_iff_eq, ne_eq, Classical.not_not, Int.toNat_natCast, vrow_I, Arm.eta2, Fld.eta, Grp.eta]
            intro _
            rw [toZ_len]
            omega
          · try simp only [hH, stdH, Nat.le_refl, decide_eq_true_eq, decide_eq_false_iff_not, Bool.not_eq_true', Bool.not_eq_false', peta, ncast, Int.ofNat_eq_natCast, beq_iff_eq, bne_iff_ne, beq_eq_false_iff_ne, bne_eq_false_iff_eq, ne_eq, Classical.not_not, Int.toNat_natCast, vrow_I, Arm.eta2, Fld.eta, Grp.eta]
            intro _
            rw [toZ_len]
            exact ⟨h5, rfl⟩
          · try simp only [hH, stdH, Nat.le_refl, decide_eq_true_eq, decide_eq_false_iff_not, Bool.not_eq_true', Bool.not_eq_false', peta, ncast, Int.ofNat_eq_natCast, beq_iff_eq, bne_iff_ne, beq_eq_false_iff_ne, bne_eq_false_iff_eq, ne_eq, Classical.not_not, Int.toNat_natCast, vrow_I, Arm.eta2, Fld.eta, Grp.eta]
            intro _
            rw [toZ_at h5]
            omega
          · try simp only [hH, stdH, Nat.le_refl, decide_eq_true_eq, decide_eq_false_iff_not, Bool.not_eq_true', Bool.not_eq_false', peta, ncast, Int.ofNat_eq_natCast, beq_iff_eq, bne_iff_ne, beq_eq_false_iff_ne, bne_eq_false_iff_eq, ne_eq, Classical.not_not, Int.toNat_natCast, vrow_I, Arm.eta2, Fld.eta, Grp.eta]
            intro _
            omega
          · refine ⟨⟨k + 1, by omega⟩, by simp only; omega, ?_⟩
            rw [hI3]
            (conv in matchSt _ _ _ _ => cbv); simp only [AllG, AllP, and_true, hH, stdH, Nat.le_refl, ncast, Int.ofNat_eq_natCast, vrow_I, Arm.eta2, Fld.eta, Grp.eta]
            rw [w1 (by omega), frL_s _ _ h5]
            (repeat' (with_reducible refine And.intro ?_ ?_)) <;> (first | exact True.intro | exact Eq.refl _ | exact RowsEq.self okI | exact RowsEq.self okRA | exact ((bifA _ _).trans (by rw [Int.toNat_natCast, toZ_at h5]; rfl)).symm)
        · simp only [hH, stdH, Nat.le_refl, decide_eq_true_eq, decide_eq_false_iff_not, Bool.not_eq_true', Bool.not_eq_false', peta, ncast, Int.ofNat_eq_natCast, beq_iff_eq, bne_iff_ne, beq_eq_false_iff_ne, bne_eq_false_iff_eq, ne_eq, Classical.not_not, Int.toNat_natCast, vrow_I, Arm.eta2, Fld.eta, Grp.eta] at h5
          rw [toZ_len] at h5
          obtain rfl : k = s.length := by omega
          refine ⟨fun h6 => ?_, fun h6 => ?_⟩
          · simp only [hH, stdH, frL_all, Bool.not_not] at h6
            have e5 : dstK (qA l) l.length m s i (d + 1) = dstK (qA l) l.length m s i d := if_pos h6
            rw [if_neg (by decide)]
            refine ⟨.inr ⟨d + 1, by omega⟩, (show l.length - i - (d + 1) < l.length - i - d by omega), ?_⟩
            rw [hI2]
            (conv in matchSt _ _ _ _ => cbv); simp only [AllG, AllP, and_true, hH, stdH, Nat.le_refl, ncast, Int.ofNat_eq_natCast, vrow_I, Arm.eta2, Fld.eta, Grp.eta]
            simp only [eW]
            rw [e5]
            (repeat' (with_reducible refine And.intro ?_ ?_)) <;> (first | exact True.intro | exact Eq.refl _ | exact RowsEq.self okI | exact RowsEq.self okRA)
          · simp only [hH, stdH, frL_all, Bool.not_not] at h6
            have hl2 : (toZ s).length = s.length := toZ_len s
            (repeat' (with_reducible refine And.intro ?_ ?_))
            · try simp only [hH, stdH, Nat.le_refl, decide_eq_true_eq, decide_eq_false_iff_not, Bool.not_eq_true', Bool.not_eq_false', peta, ncast, Int.ofNat_eq_natCast, beq_iff_eq, bne_iff_ne, beq_eq_false_iff_ne, bne_eq_false_iff_eq, ne_eq, Classical.not_not, Int.toNat_natCast, vrow_I, Arm.eta2, Fld.eta, Grp.eta]
              exact fun j _ => rfl
            · try simp only [hH, stdH, Nat.le_refl, decide_eq_true_eq, decide_eq_false_iff_not, Bool.not_eq_true', Bool.not_eq_false', peta, ncast, Int.ofNat_eq_natCast, beq_iff_eq, bne_iff_ne, beq_eq_false_iff_ne, bne_eq_false_iff_eq, ne_eq, Classical.not_not, Int.toNat_natCast, vrow_I, Arm.eta2, Fld.eta, Grp.eta]
              exact Shp_I _ _
            · try simp only [hH, stdH, Nat.le_refl, decide_eq_true_eq, decide_eq_false_iff_not, Bool.not_eq_true', Bool.not_eq_false', peta, ncast, Int.ofNat_eq_natCast, beq_iff_eq, bne_iff_ne, beq_eq_false_iff_ne, bne_eq_false_iff_eq, ne_eq, Classical.not_not, Int.toNat_natCast, vrow_I, Arm.eta2, Fld.eta, Grp.eta]
              rw [Tl_I]
              omega
            · try simp only [hH, stdH, Nat.le_refl, decide_eq_true_eq, decide_eq_false_iff_not, Bool.not_eq_true', Bool.not_eq_false', peta, ncast, Int.ofNat_eq_natCast, beq_iff_eq, bne_iff_ne, beq_eq_false_iff_ne, bne_eq_false_iff_eq, ne_eq, Classical.not_not, Int.toNat_natCast, vrow_I, Arm.eta2, Fld.eta, Grp.eta]
            · try simp only [hH, stdH, Nat.le_refl, decide_eq_true_eq, decide_eq_false_iff_not, Bool.not_eq_true', Bool.not_eq_false', peta, ncast, Int.ofNat_eq_natCast, beq_iff_eq, bne_iff_ne, beq_eq_false_iff_ne, bne_eq_false_iff_eq, ne_eq, Classical.not_not, Int.toNat_natCast, vrow_I, Arm.eta2, Fld.eta, Grp.eta]
            · simp only [hH, stdH, Tl_I, Tl_A, tlX, natZ_toZ, eW, Int.toNat_natCast]
              omega
            · try simp only [hH, stdH, Nat.le_refl, decide_eq_true_eq, decide_eq_false_iff_not, Bool.not_eq_true', Bool.not_eq_false', peta, ncast, Int.ofNat_eq_natCast, beq_iff_eq, bne_iff_ne, beq_eq_false_iff_ne, bne_eq_false_iff_eq, ne_eq, Classical.not_not, Int.toNat_natCast, vrow_I, Arm.eta2, Fld.eta, Grp.eta]
            · try simp only [hH, stdH, Nat.le_refl, decide_eq_true_eq, decide_eq_false_iff_not, Bool.not_eq_true', Bool.not_eq_false', peta, ncast, Int.ofNat_eq_natCast, beq_iff_eq, bne_iff_ne, beq_eq_false_iff_ne, bne_eq_false_iff_eq, ne_eq, Classical.not_not, Int.toNat_natCast, vrow_I, Arm.eta2, Fld.eta, Grp.eta]
              exact Shp_A _ _
            · simp only [hH, stdH, Tl_I, Tl_A, tlX, natZ_toZ, eW, Int.toNat_natCast]
              exact shX _ _
            · simp only [hH, stdH, Tl_I, Tl_A, tlX, natZ_toZ, eW, Int.toNat_natCast]
              refine ⟨h0, okN_toZ (fun x hx => ?_), ?_, by omega, by omega, by omega⟩
              · rcases List.mem_append.1 hx with hx | hx
                · exact h1 x hx
                · rw [List.mem_singleton] at hx
                  omega
              · simp only [toZ_len, List.length_append, List.length_singleton]
                omega
            · intro h7
              simp only [hH, stdH, Tl_I, Tl_A, tlX, natZ_toZ, eW, Int.toNat_natCast] at h7
              rw [decide_eq_true_eq, toZ_len] at h7
              have h8 : (dstK (qA l) l.length m s i d).length < (dstN (qA l) l.length (m - 1) (s ++ [i + d]) (i + d + 1)).length := by exact Int.ofNat_lt.1 h7
              have e5 : dstK (qA l) l.length m s i (d + 1) = dstN (qA l) l.length (m - 1) (s ++ [i + d]) (i + d + 1) := (if_neg (by rw [h6]; simp)).trans (if_pos h8)
              rw [if_neg (by decide)]
              refine ⟨.inr ⟨d + 1, by omega⟩, (show l.length - i - (d + 1) < l.length - i - d by omega), ?_⟩
              rw [hI2]
              (conv in matchSt _ _ _ _ => cbv); simp only [AllG, AllP, and_true, hH, stdH, Nat.le_refl, ncast, Int.ofNat_eq_natCast, vrow_I, Arm.eta2, Fld.eta, Grp.eta]
              simp only [Tl_I, Tl_A, tlX, natZ_toZ, eW, Int.toNat_natCast, e5]
              (repeat' (with_reducible refine And.intro ?_ ?_)) <;> (first | exact True.intro | exact Eq.refl _ | exact RowsEq.self okI | exact RowsEq.self okRA | exact RowsEq.selfM (toZ_len _) | exact toZ_len _ | exact (toZ_len _).symm)
            · intro h7
              simp only [hH, stdH, Tl_I, Tl_A, tlX, natZ_toZ, eW, Int.toNat_natCast] at h7
              rw [decide_eq_false_iff_not, toZ_len] at h7
              have h8 : ¬ (dstK (qA l) l.length m s i d).length < (dstN (qA l) l.length (m - 1) (s ++ [i + d]) (i + d + 1)).length := by exact fun hh => h7 (Int.ofNat_lt.2 hh)
              have e5 : dstK (qA l) l.length m s i (d + 1) = dstK (qA l) l.length m s i d := (if_neg (by rw [h6]; simp)).trans (if_neg h8)
              rw [if_neg (by decide)]
              refine ⟨.inr ⟨d + 1, by omega⟩, (show l.length - i - (d + 1) < l.length - i - d by omega), ?_⟩
              rw [hI2]
              (conv in matchSt _ _ _ _ => cbv); simp only [AllG, AllP, and_true, hH, stdH, Nat.le_refl, ncast, Int.ofNat_eq_natCast, vrow_I, Arm.eta2, Fld.eta, Grp.eta]
              simp only [eW]
              try rw [e5]
              (repeat' (with_reducible refine And.intro ?_ ?_)) <;> (first | exact True.intro | exact Eq.refl _ | exact RowsEq.self okI | exact RowsEq.self okRA)
    · simp only [hH, stdH, Nat.le_refl, decide_eq_true_eq, decide_eq_false_iff_not, Bool.not_eq_true', Bool.not_eq_false', peta, ncast, Int.ofNat_eq_natCast, beq_iff_eq, bne_iff_ne, beq_eq_false_iff_ne, bne_eq_false_iff_eq, ne_eq, Classical.not_not, Int.toNat_natCast, vrow_I, Arm.eta2, Fld.eta, Grp.eta] at k1
      obtain rfl : d = l.length - i := by omega
      try simp only [hH, stdH, Nat.le_refl, decide_eq_true_eq, decide_eq_false_iff_not, Bool.not_eq_true', Bool.not_eq_false', peta, ncast, Int.ofNat_eq_natCast, beq_iff_eq, bne_iff_ne, beq_eq_false_iff_ne, bne_eq_false_iff_eq, ne_eq, Classical.not_not, Int.toNat_natCast, vrow_I, Arm.eta2, Fld.eta, Grp.eta]
      (repeat' (with_reducible refine And.intro ?_ ?_)) <;> (first | exact True.intro | exact Eq.refl _ | exact RowsEq.self okI | exact RowsEq.self okRA)
theorem eok_dist (m : Nat) : EntryOk Try.prog (e_dist m) := by
  induction m with
  | zero =>
    exact growE2_ok (by unfold isBody; kernel_rfl) (by
      intro n g a0 a q g' ob e hob
      split at e
      · rename_i p f i
        simp only [Option.some.injEq, Prod.mk.injEq] at e
        obtain ⟨rfl, rfl, rfl⟩ := e
        obtain ⟨hs1, hs2, h3, _⟩ := hob
        exact absurd h3.2.2.2.2.2 (Nat.not_lt_zero _)
      · simp at e)
  | succ m ih =>
    exact growE2_ok (by unfold isBody; kernel_rfl) (by
      intro n g a0 a q g' ob e hob
      split at e
      · rename_i p f i
        simp only [Option.some.injEq, Prod.mk.injEq] at e
        obtain ⟨rfl, rfl, rfl⟩ := e
        obtain ⟨hs1, hs2, h3, _⟩ := hob
        obtain ⟨k0, k1, k2, k3, k4, k5⟩ := h3
        have hl : (Tl rowI n g).length = n := Tl_len n g
        have hc := c_dist m ih (Tl rowA p f) (natZ (Tl rowI n g)) i.toNat k0 (natZ_lt k1) (by unfold natZ; rw [List.length_map]; exact k2) (by omega) (by omega)
        rw [toZ_natZ k1, Int.toNat_of_nonneg k3] at hc
        refine ⟨rowsI stdH fun _ => Tl rowI n g, .vec 15 (Tl rowA p f).length (rowsA stdH fun _ => Tl rowA p f), fun j hj => ⟨?_, ?_⟩, ?_, ⟨.cons (.toT okRA rfl hs1) .nil, .vec fun j hj x hx => rows_blx okRA _ j x hx⟩, fun x hx => ?_, fun j hj => ?_⟩
        · rw [hs2.row j hj]; exact ((okI).row (fun _ => Tl rowI n g) j).trans (by rw [Tl_getD hj])
        · exact rows_blx okI _ j
        · simp only [stdH, hl, toZ_len] at hc ⊢
          exact hc
        · simp only [List.mem_cons, List.not_mem_nil, or_false] at hx
          rcases hx with rfl
          exact .lit
        · exact rows_blx okI _ j
      · simp at e)
theorem okL10_s (l : List Arm) : (bif !okLs l then true else decide (10 < (l.length : Int))) = !okL10 l := by
  unfold okL10 okLs
  by_cases h : (l.length : Int) ≤ 10
  · rw [decide_eq_true h, decide_eq_true (show (l.length : Int) ≤ 16 by omega), decide_eq_false (show ¬ 10 < (l.length : Int) by omega)]
    cases l.any fun y => !okA y <;> rfl
  · rw [decide_eq_false h, decide_eq_true (show 10 < (l.length : Int) by omega)]
    cases (bif decide ((l.length : Int) ≤ 16) then !l.any (fun y => !okA y) else false) <;> rfl
theorem c_mostS (l : List Arm) (h0 : l.length ≤ 100) : ConN Try.prog 12 [.vec 15 (stdH Nat fun _ => (l).length) (rowsA stdH fun _ => l)] [] 0 (.tup [.vec 1 (stdH Nat fun _ => (mdZ l).length) (rowsI stdH fun _ => mdZ l), .lit (.bool (stdH Bool fun _ => okL10 l))]) [] [] := by
  obtain ⟨m, hm⟩ : ∃ m, m = l.length + 1 := ⟨_, rfl⟩
  have hB : Base Try.prog (tabΓ [e_l15List, e_dist m]) tabO := base_of tabOkO (ents_cons eok_l15List <| ents_cons (eok_dist m) <| ents_nil)
  refine con_m (N := 16) hB (draw_ok hB mixed) Try.func12 rfl rfl (fun H => [.vec 15 (H Nat fun _ => (l).length) (rowsA H fun _ => l)]) (fun _ => []) 0 (fun H => .tup [.vec 1 (H Nat fun _ => (mdZ l).length) (rowsI H fun _ => mdZ l), .lit (.bool (H Bool fun _ => okL10 l))]) (fun H => []) (fun _ => []) 300 (by simp) (fun x hx => ?_) (by simp [lk]) (by omega) (by simp) ?_
  · simp only [List.mem_cons, List.not_mem_nil, or_false] at hx
    subst hx
    exact vl_bl okRA l _
  intro X hX hX0 H hH
  conv in Fin.chk _ _ => cbv
  try simp only [Plain_rowsA, Plain_rowsB, Plain_rowsF, Plain_rowsG, Plain_rowsI, Plain_rowsS, Plain_rowsU, Fin.satC_ret, Fin.satC_br, Fin.satC_need, Fin.satC_again, AllP, and_true, true_and, upd, List.length_nil, List.length_cons, Nat.zero_add, if_true, ncast, Int.ofNat_eq_natCast]
  refine ⟨⟨?_, ?_⟩, fun h => ⟨?_, ?_⟩, fun h => ?_⟩
  · try simp only [hH, stdH, Nat.le_refl, decide_eq_true_eq, decide_eq_false_iff_not, Bool.not_eq_true', Bool.not_eq_false', peta, ncast, Int.ofNat_eq_natCast, beq_iff_eq, bne_iff_ne, beq_eq_false_iff_ne, bne_eq_false_iff_eq, ne_eq, Classical.not_not, Int.toNat_natCast, vrow_I, Arm.eta2, Fld.eta, Grp.eta]
    exact Shp_A _ _
  · try simp only [hH, stdH, Nat.le_refl, decide_eq_true_eq, decide_eq_false_iff_not, Bool.not_eq_true', Bool.not_eq_false', peta, ncast, Int.ofNat_eq_natCast, beq_iff_eq, bne_iff_ne, beq_eq_false_iff_ne, bne_eq_false_iff_eq, ne_eq, Classical.not_not, Int.toNat_natCast, vrow_I, Arm.eta2, Fld.eta, Grp.eta]
    rw [Tl_A]
    exact h0
  · simp only [hH, stdH, Tl_A, okL10_s, Bool.not_eq_true'] at h
    try simp only [hH, stdH, Nat.le_refl, decide_eq_true_eq, decide_eq_false_iff_not, Bool.not_eq_true', Bool.not_eq_false', peta, ncast, Int.ofNat_eq_natCast, beq_iff_eq, bne_iff_ne, beq_eq_false_iff_ne, bne_eq_false_iff_eq, ne_eq, Classical.not_not, Int.toNat_natCast, vrow_I, Arm.eta2, Fld.eta, Grp.eta]
    exact h
  · simp only [hH, stdH, Tl_A, okL10_s, Bool.not_eq_true'] at h
    have e : mdZ l = [] := if_neg (by rw [h]; simp)
    rw [e]
    try simp only [hH, stdH, Nat.le_refl, decide_eq_true_eq, decide_eq_false_iff_not, Bool.not_eq_true', Bool.not_eq_false', peta, ncast, Int.ofNat_eq_natCast, beq_iff_eq, bne_iff_ne, beq_eq_false_iff_ne, bne_eq_false_iff_eq, ne_eq, Classical.not_not, Int.toNat_natCast, vrow_I, Arm.eta2, Fld.eta, Grp.eta]
    exact ⟨trivial, RowsEq.ofT okI rfl (Shp_zero _) rfl⟩
  · simp only [hH, stdH, Tl_A, okL10_s, Bool.not_eq_false'] at h
    have e : mdZ l = toZ (dstN (qA l) l.length l.length [] 0) := by rw [dst_bst]; exact if_pos h
    refine ⟨⟨?_, ?_, ?_, ?_⟩, ?_, ?_⟩
    · try simp only [hH, stdH, Nat.le_refl, decide_eq_true_eq, decide_eq_false_iff_not, Bool.not_eq_true', Bool.not_eq_false', peta, ncast, Int.ofNat_eq_natCast, beq_iff_eq, bne_iff_ne, beq_eq_false_iff_ne, bne_eq_false_iff_eq, ne_eq, Classical.not_not, Int.toNat_natCast, vrow_I, Arm.eta2, Fld.eta, Grp.eta]
    · try simp only [hH, stdH, Nat.le_refl, decide_eq_true_eq, decide_eq_false_iff_not, Bool.not_eq_true', Bool.not_eq_false', peta, ncast, Int.ofNat_eq_natCast, beq_iff_eq, bne_iff_ne, beq_eq_false_iff_ne, bne_eq_false_iff_eq, ne_eq, Classical.not_not, Int.toNat_natCast, vrow_I, Arm.eta2, Fld.eta, Grp.eta]
      exact Shp_A _ _
    · try simp only [hH, stdH, Nat.le_refl, decide_eq_true_eq, decide_eq_false_iff_not, Bool.not_eq_true', Bool.not_eq_false', peta, ncast, Int.ofNat_eq_natCast, beq_iff_eq, bne_iff_ne, beq_eq_false_iff_ne, bne_eq_false_iff_eq, ne_eq, Classical.not_not, Int.toNat_natCast, vrow_I, Arm.eta2, Fld.eta, Grp.eta]
      exact Shp_zero _
    · simp only [hH, stdH, Tl_A]
      refine ⟨h0, fun x hx => absurd (show x ∈ ([] : List Int) from hx) List.not_mem_nil, Nat.le_refl _, by omega, by omega, ?_⟩
      omega
    · try simp only [hH, stdH, Nat.le_refl, decide_eq_true_eq, decide_eq_false_iff_not, Bool.not_eq_true', Bool.not_eq_false', peta, ncast, Int.ofNat_eq_natCast, beq_iff_eq, bne_iff_ne, beq_eq_false_iff_ne, bne_eq_false_iff_eq, ne_eq, Classical.not_not, Int.toNat_natCast, vrow_I, Arm.eta2, Fld.eta, Grp.eta]
      exact h
    · simp only [hH, stdH, Tl_A]
      subst hm
      rw [e]
      exact ⟨Nat.le_refl _, RowsEq.selfM (toZ_len _)⟩
noncomputable def e_mostS : Entry := pureE 12 fun H a => match a with
  | [.vec 15 ln lf] => some (.tup [.vec 1 (H Nat fun _ => (mdZ (Tl rowA ln lf)).length) (rowsI H fun _ => mdZ (Tl rowA ln lf)), .lit (.bool (H Bool fun _ => okL10 (Tl rowA ln lf)))], [H Prop fun _ => Shp rowA ln lf, H Prop fun _ => (Tl rowA ln lf).length ≤ 100])
  | _ => none
theorem eok_mostS : EntryOk Try.prog e_mostS := pureM_ok (by unfold isBody; kernel_rfl) (by
  intro a r ob e hob
  split at e
  · rename_i ln lf
    simp only [Option.some.injEq, Prod.mk.injEq] at e
    obtain ⟨rfl, rfl⟩ := e
    exact ConN.args (.cons (.toT okRA rfl hob.1) .nil) (c_mostS (Tl rowA ln lf) hob.2.1)
  · simp at e)

end Go.Proofs.Ytigkdbhcjjjjkaa.AM

