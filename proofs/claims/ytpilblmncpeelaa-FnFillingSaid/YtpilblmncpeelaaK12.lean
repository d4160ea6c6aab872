/- Lemmas and contracts (Rbk); conditions: none. -/
import Derived.Test.YtpilblmncpeelaaK04
import Derived.Test.YtpilblmncpeelaaK11
set_option linter.unusedVariables false
set_option linter.unusedSimpArgs false
set_option linter.unusedVariables false
set_option linter.unusedSimpArgs false
set_option maxRecDepth 100000
set_option maxHeartbeats 4000000
set_option cbv.maxSteps 3000000
namespace Go.Proofs.Ytpilblmncpeelaa.AM
/- A region filled by the program; conditions: none. -/
noncomputable def e_allClr : Entry := ⟨29, fun H a h _ => match a with
  | [.agg [.lit (.int .i64 x), .lit (.int .i64 y), .lit (.int .i64 s)], .fn (.func k) [] [.ptr i 0]] => bif Nat.beq k 50 then (match lk i h with
    | some (.cells [.slc j 0 1 n] T) => (match lk j h with
      | some (.rows 1 n' g E) => bif Nat.beq T 26 && (Nat.beq E 3 && !Nat.beq i j) then some (.lit (.bool true), [], [i, j], [(i, .cells [.slc j 0 1 n] 26), (j, .rows 1 n (rowsI H fun _ => clrN (Tl rowI n g) x y s.toNat s.toNat) 3)], [H Prop fun _ => n' = n ∧ Shp rowI n g ∧ okRw (Tl rowI n g) ∧ (0 ≤ x ∧ x + s ≤ 20) ∧ (0 ≤ y ∧ y + s ≤ 24) ∧ 0 ≤ s]) else none
      | _ => none)
    | _ => none) else none
  | _ => none⟩
theorem eok_allClr : EntryOk Try.prog e_allClr := by
  refine ⟨by unfold isBody; kernel_rfl, fun a hp nx r nb rd u ob e hob => ?_⟩
  simp only [e_allClr] at e
  split at e
  · rename_i x y s k i
    cases hk : Nat.beq k 50 with
    | false => rw [hk] at e; simp at e
    | true =>
    rw [hk, cond_true] at e
    obtain rfl := Nat.eq_of_beq_eq_true hk
    split at e
    · rename_i j n T hi
      split at e
      · rename_i n' g E hj
        cases hc : (Nat.beq T 26 && (Nat.beq E 3 && !Nat.beq i j)) with
        | false => rw [hc] at e; simp at e
        | true =>
          rw [hc] at e
          simp only [cond_true, stdH, Option.some.injEq, Prod.mk.injEq] at e
          obtain ⟨rfl, rfl, rfl, rfl, rfl⟩ := e
          simp only [Bool.and_eq_true, Bool.not_eq_true'] at hc
          have hT := Nat.eq_of_beq_eq_true hc.1
          have hE := Nat.eq_of_beq_eq_true hc.2.1
          have hij : i ≠ j := by rintro rfl; have := hc.2.2; simp at this
          subst hT; subst hE
          obtain ⟨⟨rfl, hs, hL, hx, hy, h0⟩, _⟩ := hob
          have hlen : (Tl rowI n' g).length = n' := Tl_len n' g
          refine ⟨fun q b hq => ?_, [(i, .cells [.slc j 0 1 n'] 26), (j, .rows 1 n' g 3)], fun q b hq => ?_, ?_⟩
          · simp only [List.mem_cons, List.not_mem_nil, or_false, Prod.mk.injEq] at hq
            rcases hq with ⟨rfl, rfl⟩ | ⟨rfl, rfl⟩
            · exact ⟨by simp, _, hi, rfl⟩
            · exact ⟨by simp, _, hj, rfl⟩
          · have := lk_in hq
            simp only [List.mem_cons, List.not_mem_nil, or_false, Prod.mk.injEq] at this
            rcases this with ⟨rfl, rfl⟩ | ⟨rfl, rfl⟩
            · exact ⟨by simp, hi⟩
            · exact ⟨by simp, hj⟩
          · have hc2 := c_allClr ⟨x, y, s⟩ (Tl rowI n' g) hL hx hy h0
            simp only [stdH, hlen] at hc2
            refine capt_ok (args0 := [.agg [.lit (.int .i64 x), .lit (.int .i64 y), .lit (.int .i64 s)], .fn (.func 50) [] [.ptr 0 0]]) hij rfl (fun c p q hp hq => ?_) hc2 (fun q _ => rows_blx okI _ q) (tl_eq hs) (fun q _ => rows_blx okI _ q)
            match c, hp, hq with
            | 0, hp, hq =>
              simp at hp hq; subst hp; subst hq
              exact .same (q := 0) (by omega) (by omega) (blq_ok 4 rfl)
            | 1, hp, hq =>
              simp at hp hq; subst hp; subst hq
              refine .fn rfl (fun c x y hx => by simp at hx) rfl (fun c x y hx hy => ?_)
              match c, hx, hy with
              | 0, hx, hy => simp at hx hy; subst hx; subst hy; exact Rn.ptr (π := pi2 i j) (i := 0) (by omega)
              | c + 1, hx, hy => simp at hx
            | c + 2, hp, hq => simp at hp
      · simp at e
    · simp at e
  · simp at e
def okBx (q : Box) : Bool := inB q.s 1 8 && (inB q.x 0 19 && (inB q.y 0 23 && allC q.x q.y q.s shI))
theorem okBx_b {q : Box} (h : okBx q = true) : ((1 ≤ q.s ∧ q.s ≤ 8) ∧ (0 ≤ q.x ∧ q.x ≤ 19) ∧ (0 ≤ q.y ∧ q.y ≤ 23)) ∧ bxB q := by
  unfold okBx at h
  simp only [Bool.and_eq_true, inB_iff] at h
  refine ⟨⟨h.1, h.2.1, h.2.2.1⟩, ?_⟩
  unfold bxB
  omega
theorem okRg_rw {L : List Int} (h : okRg L = true) : okRw L := by
  unfold okRg at h
  rw [Bool.and_eq_true, decide_eq_true_eq] at h
  refine ⟨h.1, fun y hy => ?_⟩
  have := List.all_eq_true.1 h.2 y (List.mem_range.2 hy)
  unfold rO at this
  simp only [Bool.and_eq_true, decide_eq_true_eq] at this
  omega
theorem c_vldBx (q : Box)  : ConN Try.prog 11 [aT rowQ stdH fun _ => q] [] 0 (.lit (.bool (stdH Bool fun _ => okBx q))) [] [] := by
  have hB : Base Try.prog (tabΓ [e_inside, e_allIn]) tabG := base_of tabOkG (ents_cons eok_inside <| ents_cons eok_allIn <| ents_nil)
  refine con_m (N := 20) hB (draw_ok hB mixed) Try.func11 rfl rfl (fun H => [aT rowQ H fun _ => q]) (fun _ => []) 0 (fun H => .lit (.bool (H Bool fun _ => okBx q))) (fun H => []) (fun _ => []) 300 (by simp) (fun x hx => ?_) (by simp [lk]) (by omega) (by simp) ?_
  · simp only [List.mem_cons, List.not_mem_nil, or_false] at hx
    rcases hx with rfl
    · exact aT_bl okRQ _ _
  intro X hX hX0 H hH
  conv in Fin.chk _ _ => cbv
  try simp only [Plain_rowsA, Plain_rowsB, Plain_rowsF, Plain_rowsG, Plain_rowsI, Plain_rowsQ, Plain_rowsS, Plain_rowsU, Fin.satC_ret, Fin.satC_br, Fin.satC_need, Fin.satC_again, AllP, and_true, true_and, upd, List.length_nil, List.length_cons, Nat.zero_add, if_true, ncast, Int.ofNat_eq_natCast]
  subst hH
  simp only [stdH]
  have e : (⟨q.x, q.y, q.s⟩ : Box) = q := rfl
  unfold okBx
  cases hs : inB q.s 1 8
  · (repeat' (first | exact trivial | rfl | refine And.intro ?_ ?_ | (intro h; cases h; done)))
  · cases hx : inB q.x 0 19
    · (repeat' (first | exact trivial | rfl | refine And.intro ?_ ?_ | (intro h; cases h; done)))
    · cases hy : inB q.y 0 23
      · (repeat' (first | exact trivial | rfl | refine And.intro ?_ ?_ | (intro h; cases h; done)))
      · have h1 := inB_iff.1 hs; have h2 := inB_iff.1 hx; have h3 := inB_iff.1 hy
        refine ⟨fun _ => ?_, rfl⟩
        show bxB q
        unfold bxB
        omega
noncomputable def e_vldBx : Entry := pureE 11 fun H a => match a with
  | [.agg [.lit (.int .i64 q0), .lit (.int .i64 q1), .lit (.int .i64 q2)]] => some (.lit (.bool (H Bool fun _ => okBx (⟨q0, q1, q2⟩ : Box))), [])
  | _ => none
theorem eok_vldBx : EntryOk Try.prog e_vldBx := pureM_ok (by unfold isBody; kernel_rfl) (by
  intro a r ob e hob
  split at e
  · rename_i q0 q1 q2
    simp only [Option.some.injEq, Prod.mk.injEq] at e
    obtain ⟨rfl, rfl⟩ := e
    exact ConN.args (.cons .rfl .nil) (c_vldBx (⟨q0, q1, q2⟩ : Box) )
  · simp at e)
theorem c_fitsR (r : Rgn) (q : Box) (h0 : rgWB r.rows) : ConN Try.prog 10 [aT rowZ stdH fun _ => r, aT rowQ stdH fun _ => q] [] 0 (.tup [.lit (.bool (stdH Bool fun _ => okRg r.rows && (okBx q && allC q.x q.y q.s (hasZ r.rows)))), .lit (.bool (stdH Bool fun _ => okRg r.rows && okBx q))]) [] [] := by
  have hB : Base Try.prog (tabΓ [e_vldRg, e_vldBx, e_allHas]) tab := base_of tabOk (ents_cons eok_vldRg <| ents_cons eok_vldBx <| ents_cons eok_allHas <| ents_nil)
  refine con_m (N := 18) hB (draw_ok hB mixed) Try.func10 rfl rfl (fun H => [aT rowZ H fun _ => r, aT rowQ H fun _ => q]) (fun _ => []) 0 (fun H => .tup [.lit (.bool (H Bool fun _ => okRg r.rows && (okBx q && allC q.x q.y q.s (hasZ r.rows)))), .lit (.bool (H Bool fun _ => okRg r.rows && okBx q))]) (fun H => []) (fun _ => []) 300 (by simp) (fun x hx => ?_) (by simp [lk]) (by omega) (by simp) ?_
  · simp only [List.mem_cons, List.not_mem_nil, or_false] at hx
    rcases hx with rfl | rfl
    · exact aT_bl okRZ _ _
    · exact aT_bl okRQ _ _
  intro X hX hX0 H hH
  conv in Fin.chk _ _ => cbv
  try simp only [Plain_rowsA, Plain_rowsB, Plain_rowsF, Plain_rowsG, Plain_rowsI, Plain_rowsQ, Plain_rowsS, Plain_rowsU, Fin.satC_ret, Fin.satC_br, Fin.satC_need, Fin.satC_again, AllP, and_true, true_and, upd, List.length_nil, List.length_cons, Nat.zero_add, if_true, ncast, Int.ofNat_eq_natCast]
  subst hH
  simp only [stdH, Tl_I]
  have e : (⟨q.x, q.y, q.s⟩ : Box) = q := rfl
  simp only [e]
  cases hr : okRg r.rows
  · (repeat' (first | exact trivial | rfl | exact h0 | exact Shp_I _ _ | refine And.intro ?_ ?_ | (intro h; first | (cases h; done) | skip)))
  · cases hq : okBx q
    · (repeat' (first | exact trivial | rfl | exact h0 | exact Shp_I _ _ | refine And.intro ?_ ?_ | (intro h; first | (cases h; done) | skip)))
    · have h2 := (okBx_b hq).2
      have h3 := okRg_rw hr
      (repeat' (first | exact trivial | rfl | exact h0 | exact h2 | exact h3 | exact Shp_I _ _ | refine And.intro ?_ ?_ | (intro h; first | (cases h; done) | skip)))
noncomputable def e_fitsR : Entry := pureE 10 fun H a => match a with
  | [.agg [.vec 1 r0n r0f], .agg [.lit (.int .i64 q0), .lit (.int .i64 q1), .lit (.int .i64 q2)]] => some (.tup [.lit (.bool (H Bool fun _ => okRg (⟨(Tl rowI r0n r0f)⟩ : Rgn).rows && (okBx (⟨q0, q1, q2⟩ : Box) && allC (⟨q0, q1, q2⟩ : Box).x (⟨q0, q1, q2⟩ : Box).y (⟨q0, q1, q2⟩ : Box).s (hasZ (⟨(Tl rowI r0n r0f)⟩ : Rgn).rows)))), .lit (.bool (H Bool fun _ => okRg (⟨(Tl rowI r0n r0f)⟩ : Rgn).rows && okBx (⟨q0, q1, q2⟩ : Box)))], [H Prop fun _ => Shp rowI r0n r0f, H Prop fun _ => rgWB (⟨(Tl rowI r0n r0f)⟩ : Rgn).rows])
  | _ => none
theorem eok_fitsR : EntryOk Try.prog e_fitsR := pureM_ok (by unfold isBody; kernel_rfl) (by
  intro a r ob e hob
  split at e
  · rename_i r0n r0f q0 q1 q2
    simp only [Option.some.injEq, Prod.mk.injEq] at e
    obtain ⟨rfl, rfl⟩ := e
    exact ConN.args (.cons (.agg (.cons (.toT okI rfl hob.1) .nil)) (.cons .rfl .nil)) (c_fitsR (⟨(Tl rowI r0n r0f)⟩ : Rgn) (⟨q0, q1, q2⟩ : Box) hob.2.1)
  · simp at e)
theorem c_copyZ (l : List Int) (h0 : l.length ≤ 100000) : ConN Try.prog 49 [.vec 1 (stdH Nat fun _ => (l).length) (rowsI stdH fun _ => l)] [] 0 (.slc 0 0 1 (stdH Nat fun _ => (l).length)) [.rows 1 (stdH Nat fun _ => (l).length) (rowsI stdH fun _ => l) 3] [] := by
  have hB : Base Try.prog (tabΓ []) tabO := base_of tabOkO (ents_nil)
  refine con_m (N := 6) hB (draw_ok hB mixed) Try.func49 rfl rfl (fun H => [.vec 1 (H Nat fun _ => (l).length) (rowsI H fun _ => l)]) (fun _ => []) 0 (fun H => .slc 0 0 1 (H Nat fun _ => (l).length)) (fun H => [.rows 1 (H Nat fun _ => (l).length) (rowsI H fun _ => l) 3]) (fun _ => []) 100 (by simp) (fun x hx => ?_) (by simp [lk]) (by omega) (by simp) ?_
  · simp only [List.mem_cons, List.not_mem_nil, or_false] at hx
    rcases hx with rfl
    · exact vl_bl okI l _
  intro X hX hX0 H hH
  conv in Fin.chk _ _ => cbv
  try simp only [Plain_rowsA, Plain_rowsB, Plain_rowsF, Plain_rowsG, Plain_rowsI, Plain_rowsQ, Plain_rowsS, Plain_rowsU, Fin.satC_ret, Fin.satC_br, Fin.satC_need, Fin.satC_again, AllP, and_true, true_and, upd, List.length_nil, List.length_cons, Nat.zero_add, if_true, ncast, Int.ofNat_eq_natCast]
  refine ⟨⟨?_, ?_⟩, ?_, ?_⟩
  · try simp only [hH, stdH, Nat.le_refl, decide_eq_true_eq, decide_eq_false_iff_not, Bool.not_eq_true', Bool.not_eq_false', peta, ncast, Int.ofNat_eq_natCast, beq_iff_eq, bne_iff_ne, beq_eq_false_iff_ne, bne_eq_false_iff_eq, ne_eq, Classical.not_not, Int.toNat_natCast, vrow_I, Arm.eta2, Fld.eta, Grp.eta]
  · try simp only [hH, stdH, Nat.le_refl, decide_eq_true_eq, decide_eq_false_iff_not, Bool.not_eq_true', Bool.not_eq_false', peta, ncast, Int.ofNat_eq_natCast, beq_iff_eq, bne_iff_ne, beq_eq_false_iff_ne, bne_eq_false_iff_eq, ne_eq, Classical.not_not, Int.toNat_natCast, vrow_I, Arm.eta2, Fld.eta, Grp.eta]
    omega
  · try simp only [hH, stdH, Nat.le_refl, decide_eq_true_eq, decide_eq_false_iff_not, Bool.not_eq_true', Bool.not_eq_false', peta, ncast, Int.ofNat_eq_natCast, beq_iff_eq, bne_iff_ne, beq_eq_false_iff_ne, bne_eq_false_iff_eq, ne_eq, Classical.not_not, Int.toNat_natCast, vrow_I, Arm.eta2, Fld.eta, Grp.eta]
    exact ⟨rfl, fun j hj => ⟨rfl, rfl, fun x hx => rows_blx okI _ j x hx⟩⟩
  · try simp only [hH, stdH, Nat.le_refl, decide_eq_true_eq, decide_eq_false_iff_not, Bool.not_eq_true', Bool.not_eq_false', peta, ncast, Int.ofNat_eq_natCast, beq_iff_eq, bne_iff_ne, beq_eq_false_iff_ne, bne_eq_false_iff_eq, ne_eq, Classical.not_not, Int.toNat_natCast, vrow_I, Arm.eta2, Fld.eta, Grp.eta]
noncomputable def e_copyZ : Entry := pureN 49 fun H a => match a with
  | [.vec 1 ln lf] => some (fun nx => .slc nx 0 1 (H Nat fun _ => ((Tl rowI ln lf)).length), [.rows 1 (H Nat fun _ => ((Tl rowI ln lf)).length) (rowsI H fun _ => (Tl rowI ln lf)) 3], [H Prop fun _ => Shp rowI ln lf, H Prop fun _ => (Tl rowI ln lf).length ≤ 100000])
  | _ => none
theorem eok_copyZ : EntryOk Try.prog e_copyZ := pureN_ok (by unfold isBody; kernel_rfl) (by
  intro a r nb ob e hob
  split at e
  · rename_i ln lf
    simp only [Option.some.injEq, Prod.mk.injEq] at e
    obtain ⟨rfl, rfl, rfl⟩ := e
    refine ⟨ConN.args (.cons (.toT okI rfl hob.1) .nil) (c_copyZ (Tl rowI ln lf) hob.2.1), fun x hx => ?_, fun nx => ?_, fun b hb => ?_⟩
    · simp only [List.mem_cons, List.not_mem_nil, or_false] at hx
      rcases hx with rfl
      · exact (hob.1).bl okI _
    · (first | exact .slc ⟨by omega, by simp⟩ (by omega) | (refine .tup rfl (fun c x y hx hy => ?_); rcases c with _ | _ | _ | c <;> simp at hx hy <;> (subst hx; subst hy; first | exact .slc ⟨by omega, by simp⟩ (by omega) | exact .pl .lit | exact .pl (blq_ok 4 rfl) | (refine .agg rfl (fun c x y hx hy => ?_); rcases c with _ | _ | _ | c <;> simp at hx hy <;> (subst hx; subst hy; first | exact .slc ⟨by omega, by simp⟩ (by omega) | exact .pl .lit | exact .pl (blq_ok 4 rfl))))) | (refine .agg rfl (fun c x y hx hy => ?_); rcases c with _ | _ | _ | c <;> simp at hx hy <;> (subst hx; subst hy; first | exact .slc ⟨by omega, by simp⟩ (by omega) | exact .pl .lit | exact .pl (blq_ok 4 rfl))))
    · simp only [List.mem_cons, List.not_mem_nil, or_false] at hb; subst hb; exact bT_bl okI _ (fun _ => (Tl rowI ln lf)) _
  · simp at e)
/-- One cell looked at: a box more, where one fits. -/
def stP (s most : Int) (σ : List Box × List Int) (y x : Nat) : List Box × List Int := if (σ.1.length : Int) = most then σ else if allC x y s (hasZ σ.2) then (σ.1 ++ [⟨x, y, s⟩], clrN σ.2 x y s.toNat s.toNat) else σ
/-- Row by row, cell by cell. -/
def rwK (s most : Int) (σ : List Box × List Int) (y : Nat) : Nat → List Box × List Int
  | 0 => σ
  | x + 1 => stP s most (rwK s most σ y x) y x
def fiK (s most : Int) (L : List Int) : Nat → List Box × List Int
  | 0 => ([], L)
  | y + 1 => rwK s most (fiK s most L y) y 20
/-- The boxes that fill a region. -/
def fillP (L : List Int) (s most : Int) : List Box := (fiK s most L 24).1
theorem stP_full {s most : Int} {σ : List Box × List Int} {y x : Nat} (h : (σ.1.length : Int) = most) : stP s most σ y x = σ := if_pos h
theorem rwK_full {s most : Int} {σ : List Box × List Int} {y : Nat} (h : (σ.1.length : Int) = most) : ∀ x, rwK s most σ y x = σ
  | 0 => rfl
  | x + 1 => by
    show stP s most (rwK s most σ y x) y x = σ
    rw [rwK_full h x, stP_full h]
theorem rwK_from {s most : Int} {σ : List Box × List Int} {y x : Nat} (h : ((rwK s most σ y x).1.length : Int) = most) : ∀ k, rwK s most σ y (x + k) = rwK s most σ y x
  | 0 => rfl
  | k + 1 => by
    show stP s most (rwK s most σ y (x + k)) y (x + k) = _
    rw [rwK_from h k, stP_full h]
theorem fiK_from {s most : Int} {L : List Int} {y : Nat} (h : ((fiK s most L y).1.length : Int) = most) : ∀ k, fiK s most L (y + k) = fiK s most L y
  | 0 => rfl
  | k + 1 => by
    show rwK s most (fiK s most L (y + k)) (y + k) 20 = _
    rw [fiK_from h k, rwK_full h]
theorem fill_from {s most : Int} {L : List Int} {y x : Nat} (hy : y < 24) (hx : x ≤ 20) (h : ((rwK s most (fiK s most L y) y x).1.length : Int) = most) : fillP L s most = (rwK s most (fiK s most L y) y x).1 := by
  have e1 : fiK s most L (y + 1) = rwK s most (fiK s most L y) y x := by
    have := rwK_from h (20 - x)
    rwa [show x + (20 - x) = 20 by omega] at this
  have e2 := fiK_from (y := y + 1) (by rw [e1]; exact h) (24 - (y + 1))
  rw [show y + 1 + (24 - (y + 1)) = 24 by omega, e1] at e2
  unfold fillP
  rw [e2]
theorem stP_ok {s most : Int} {σ : List Box × List Int} {y x : Nat} (h : okRw σ.2) : okRw (stP s most σ y x).2 := by
  unfold stP
  split
  · exact h
  · split
    · exact okRw_clrN h _
    · exact h
theorem rwK_ok {s most : Int} {σ : List Box × List Int} {y : Nat} (h : okRw σ.2) : ∀ x, okRw (rwK s most σ y x).2
  | 0 => h
  | x + 1 => stP_ok (rwK_ok h x)
theorem fiK_ok {s most : Int} {L : List Int} (h : okRw L) : ∀ y, okRw (fiK s most L y).2
  | 0 => h
  | y + 1 => rwK_ok (fiK_ok h y) 20
theorem stP_le {s most : Int} {σ : List Box × List Int} {y x : Nat} (h : (σ.1.length : Int) ≤ most) : ((stP s most σ y x).1.length : Int) ≤ most := by
  unfold stP
  split
  · exact h
  · split
    · rw [List.length_append, List.length_singleton]; omega
    · exact h
theorem rwK_le {s most : Int} {σ : List Box × List Int} {y : Nat} (h : (σ.1.length : Int) ≤ most) : ∀ x, ((rwK s most σ y x).1.length : Int) ≤ most
  | 0 => h
  | x + 1 => stP_le (rwK_le h x)
theorem fiK_le {s most : Int} {L : List Int} (h : 0 ≤ most) : ∀ y, ((fiK s most L y).1.length : Int) ≤ most
  | 0 => h
  | y + 1 => rwK_le (fiK_le h y) 20
theorem hasZ_in {L : List Int} {x y : Int} (h : hasZ L x y = true) : (0 ≤ x ∧ x ≤ 19) ∧ 0 ≤ y ∧ y ≤ 23 := by
  unfold hasZ at h
  simp only [Bool.and_eq_true, inB_iff] at h
  exact ⟨h.1, h.2.1⟩
theorem allC_in {L : List Int} {x y s : Int} (hs : 1 ≤ s) (h : allC x y s (hasZ L) = true) : (0 ≤ x ∧ x + s ≤ 20) ∧ 0 ≤ y ∧ y + s ≤ 24 := by
  unfold allC at h
  have h1 := List.all_eq_true.1 (List.all_eq_true.1 h 0 (List.mem_range.2 (by omega))) 0 (List.mem_range.2 (by omega))
  have h2 := List.all_eq_true.1 (List.all_eq_true.1 h (s.toNat - 1) (List.mem_range.2 (by omega))) (s.toNat - 1) (List.mem_range.2 (by omega))
  have a := hasZ_in h1
  have b := hasZ_in h2
  omega
theorem TlI_HR {H : Hold} (hH : H = stdH) (L : List Int) : Tl rowI (H Nat fun _ => L.length) (rowsI H fun _ => L) = L := by subst hH; exact Tl_I L
theorem c_fillR (r : Rgn) (size : Int) (most : Int) (h0 : okRw r.rows) (h1 : 1 ≤ size ∧ size ≤ 8) (h2 : 0 ≤ most ∧ most ≤ 100) : ConN Try.prog 25 [aT rowZ stdH fun _ => r, .lit (.int .i64 size), .lit (.int .i64 most)] [] 0 (.vec 3 (stdH Nat fun _ => (fillP r.rows size most).length) (rowsQ stdH fun _ => fillP r.rows size most)) [] [] := by
  have hB : Base Try.prog (tabΓ [e_copyZ, e_allHas, e_allClr]) tabO := base_of tabOkO (ents_cons eok_copyZ <| ents_cons eok_allHas <| ents_cons eok_allClr <| ents_nil)
  refine con_m (N := 47) hB (draw_ok hB mixed) Try.func25 rfl rfl (fun H => [aT rowZ H fun _ => r, .lit (.int .i64 size), .lit (.int .i64 most)]) (fun _ => []) 0 (fun H => .vec 3 (H Nat fun _ => (fillP r.rows size most).length) (rowsQ H fun _ => fillP r.rows size most)) (fun H => []) (fun _ => []) 900 (by simp) (fun x hx => ?_) (by simp [lk]) (by omega) (by simp) ?_
  · simp only [List.mem_cons, List.not_mem_nil, or_false] at hx
    rcases hx with rfl | rfl | rfl
    · exact aT_bl okRZ _ _
    · exact .lit
    · exact .lit
  intro X hX hX0 H hH
  conv in Fin.chk _ _ => cbv
  try simp only [Plain_rowsA, Plain_rowsB, Plain_rowsF, Plain_rowsG, Plain_rowsI, Plain_rowsQ, Plain_rowsS, Plain_rowsU, Fin.satC_ret, Fin.satC_br, Fin.satC_need, Fin.satC_again, AllP, and_true, true_and, upd, List.length_nil, List.length_cons, Nat.zero_add, if_true, ncast, Int.ofNat_eq_natCast]
  have hl := h0.1
  refine ⟨?_, ?_⟩
  · simp only [hH, stdH, Tl_I]
    exact ⟨Shp_I _ _, by omega⟩
  simp only [TlI_HR hH]
  refine loop_c hB (draw_ok hB mixed) hX hX0 hH [1, 2, 7, 8, 17] (ι := { y : Nat // y ≤ 24 }) 900 (fun y => [.r (H Nat fun _ => ((fiK size most r.rows y.1).1).length) (rowsQ H fun _ => (fiK size most r.rows y.1).1), .i (H Int fun _ => (y.1 : Nat)), .r (H Nat fun _ => ((fiK size most r.rows y.1).2).length) (rowsI H fun _ => (fiK size most r.rows y.1).2)]) (fun y => 24 - y.1) (⟨0, by omega⟩) ?_ ?_
  · (conv in matchSt _ _ _ _ => cbv); simp only [AllG, AllP, and_true, hH, stdH, Nat.le_refl, ncast, Int.ofNat_eq_natCast, vrow_I, Arm.eta2, Fld.eta, Grp.eta]
    (repeat' (with_reducible refine And.intro ?_ ?_)) <;> (first | exact True.intro | exact RowsEq.self okI | exact RowsEq.ofT okRQ rfl (Shp_zero _) rfl | exact Eq.refl _)
  · intro I hI y
    conv in Fin.chk _ _ => cbv
    try simp only [Plain_rowsA, Plain_rowsB, Plain_rowsF, Plain_rowsG, Plain_rowsI, Plain_rowsQ, Plain_rowsS, Plain_rowsU, Fin.satC_ret, Fin.satC_br, Fin.satC_need, Fin.satC_again, AllP, and_true, true_and, upd, List.length_nil, List.length_cons, Nat.zero_add, if_true, ncast, Int.ofNat_eq_natCast]
    obtain ⟨y, hy⟩ := y
    have ok1 := fiK_ok (s := size) (most := most) h0 y
    have le1 := fiK_le (s := size) (L := r.rows) h2.1 y
    refine ⟨fun k1 => ?_, fun k1 => ?_⟩
    · have k2 := k1
      simp only [hH, stdH, decide_eq_true_eq] at k2
      refine loop_c hB (draw_ok hB mixed) hX hX0 hH [1, 2, 7, 8, 9, 17, 20] (ι := { x : Nat // x ≤ 20 }) 900 (fun x => [.r (H Nat fun _ => ((rwK size most (fiK size most r.rows y) y x.1).1).length) (rowsQ H fun _ => (rwK size most (fiK size most r.rows y) y x.1).1), .i (H Int fun _ => (x.1 : Nat)), .r (H Nat fun _ => ((rwK size most (fiK size most r.rows y) y x.1).2).length) (rowsI H fun _ => (rwK size most (fiK size most r.rows y) y x.1).2)]) (fun x => 20 - x.1) (⟨0, by omega⟩) ?_ ?_
      · (conv in matchSt _ _ _ _ => cbv); simp only [AllG, AllP, and_true, hH, stdH, Nat.le_refl, ncast, Int.ofNat_eq_natCast, vrow_I, Arm.eta2, Fld.eta, Grp.eta]
        (repeat' (with_reducible refine And.intro ?_ ?_)) <;> (first | exact True.intro | exact RowsEq.self okI | exact RowsEq.self okRQ | exact Eq.refl _)
      · intro J hJ x
        conv in Fin.chk _ _ => cbv
        try simp only [Plain_rowsA, Plain_rowsB, Plain_rowsF, Plain_rowsG, Plain_rowsI, Plain_rowsQ, Plain_rowsS, Plain_rowsU, Fin.satC_ret, Fin.satC_br, Fin.satC_need, Fin.satC_again, AllP, and_true, true_and, upd, List.length_nil, List.length_cons, Nat.zero_add, if_true, ncast, Int.ofNat_eq_natCast]
        obtain ⟨x, hx⟩ := x
        have ok2 := rwK_ok (s := size) (most := most) (y := y) ok1 x
        have le2 := rwK_le (s := size) (y := y) le1 x
        have st : rwK size most (fiK size most r.rows y) y (x + 1) = stP size most (rwK size most (fiK size most r.rows y) y x) y x := rfl
        have hbx : bxB ⟨(x : Int), (y : Int), size⟩ := by
          unfold bxB
          simp only
          omega
        refine ⟨fun k3 => ⟨fun k4 => ?_, fun k4 => ⟨?_, fun k5 => ?_, fun k5 => ⟨⟨?_, ?_⟩, ?_, ?_⟩⟩⟩, fun k3 => ?_⟩
        · simp only [hH, stdH, beq_iff_eq] at k4 ⊢
          simp only [hH, stdH, decide_eq_true_eq] at k3
          rw [fill_from (by omega) (by omega) k4]
          exact ⟨Nat.le_refl _, RowsEq.self okRQ⟩
        · simp only [hH, stdH, Tl_I]
          exact ⟨fun _ _ => rfl, Shp_I _ _, hbx, ok2⟩
        · simp only [hH, stdH, decide_eq_true_eq, beq_eq_false_iff_ne, ne_eq, Tl_I, Bool.not_eq_true'] at k3 k4 k5
          have e : rwK size most (fiK size most r.rows y) y (x + 1) = rwK size most (fiK size most r.rows y) y x := by
            rw [st]
            unfold stP
            rw [if_neg k4, k5]; rfl
          refine ⟨⟨x + 1, by omega⟩, by simp only; omega, ?_⟩
          rw [hJ]
          (conv in matchSt _ _ _ _ => cbv); simp only [AllG, AllP, and_true, hH, stdH, Nat.le_refl, ncast, Int.ofNat_eq_natCast, vrow_I, Arm.eta2, Fld.eta, Grp.eta]
          rw [e, w1 (by omega)]
          (repeat' (with_reducible refine And.intro ?_ ?_)) <;> (first | exact True.intro | exact RowsEq.self okI | exact RowsEq.self okRQ | exact Eq.refl _)
        · rw [hH]; exact trivial
        · try simp only [hH, stdH, Nat.le_refl, decide_eq_true_eq, decide_eq_false_iff_not, Bool.not_eq_true', Bool.not_eq_false', peta, ncast, Int.ofNat_eq_natCast, beq_iff_eq, bne_iff_ne, beq_eq_false_iff_ne, bne_eq_false_iff_eq, ne_eq, Classical.not_not, Int.toNat_natCast, vrow_I, Arm.eta2, Fld.eta, Grp.eta]
          (repeat' (first | exact trivial | omega | refine And.intro ?_ ?_))
        · simp only [hH, stdH, decide_eq_true_eq, Tl_I, Bool.not_eq_false'] at k3 k5 ⊢
          have q := allC_in h1.1 k5
          exact ⟨Shp_I _ _, ok2, by omega, by omega, by omega⟩
        · simp only [hH, stdH, decide_eq_true_eq, beq_eq_false_iff_ne, ne_eq, Tl_I, Bool.not_eq_false'] at k3 k4 k5
          have e : rwK size most (fiK size most r.rows y) y (x + 1) = ((rwK size most (fiK size most r.rows y) y x).1 ++ [⟨(x : Int), (y : Int), size⟩], clrN (rwK size most (fiK size most r.rows y) y x).2 x y size.toNat size.toNat) := by
            rw [st]
            unfold stP
            rw [if_neg k4, if_pos k5]
          refine ⟨⟨x + 1, by omega⟩, by simp only; omega, ?_⟩
          rw [hJ]
          (conv in matchSt _ _ _ _ => cbv); simp only [AllG, AllP, and_true, hH, stdH, Nat.le_refl, ncast, Int.ofNat_eq_natCast, vrow_I, Arm.eta2, Fld.eta, Grp.eta]
          rw [e, w1 (by omega)]
          simp only [Tl_I]
          have rq := RowsEq.self okI (L := clrN (rwK size most (fiK size most r.rows y) y x).2 x y size.toNat size.toNat)
          rw [clrN_len] at rq ⊢
          (repeat' (with_reducible refine And.intro ?_ ?_)) <;> (first | exact True.intro | exact rq | exact RowsEq.snoc okRQ rfl | exact List.length_append | exact Eq.refl _)
        · simp only [hH, stdH, decide_eq_false_iff_not] at k3
          rw [if_neg (by decide)]
          obtain rfl : x = 20 := by omega
          have e : rwK size most (fiK size most r.rows y) y 20 = fiK size most r.rows (y + 1) := rfl
          refine ⟨⟨y + 1, by omega⟩, by simp only; omega, ?_⟩
          rw [hI]
          (conv in matchSt _ _ _ _ => cbv); simp only [AllG, AllP, and_true, hH, stdH, Nat.le_refl, ncast, Int.ofNat_eq_natCast, vrow_I, Arm.eta2, Fld.eta, Grp.eta]
          rw [e, w1 (by omega)]
          (repeat' (with_reducible refine And.intro ?_ ?_)) <;> (first | exact True.intro | exact RowsEq.self okI | exact RowsEq.self okRQ | exact Eq.refl _)
    · simp only [hH, stdH, decide_eq_false_iff_not] at k1 ⊢
      obtain rfl : y = 24 := by omega
      exact ⟨Nat.le_refl _, RowsEq.self okRQ⟩
noncomputable def e_fillR : Entry := pureE 25 fun H a => match a with
  | [.agg [.vec 1 r0n r0f], .lit (.int .i64 size), .lit (.int .i64 most)] => some (.vec 3 (H Nat fun _ => (fillP (⟨(Tl rowI r0n r0f)⟩ : Rgn).rows size most).length) (rowsQ H fun _ => fillP (⟨(Tl rowI r0n r0f)⟩ : Rgn).rows size most), [H Prop fun _ => Shp rowI r0n r0f, H Prop fun _ => okRw (⟨(Tl rowI r0n r0f)⟩ : Rgn).rows, H Prop fun _ => 1 ≤ size ∧ size ≤ 8, H Prop fun _ => 0 ≤ most ∧ most ≤ 100])
  | _ => none
theorem eok_fillR : EntryOk Try.prog e_fillR := pureM_ok (by unfold isBody; kernel_rfl) (by
  intro a r ob e hob
  split at e
  · rename_i r0n r0f size most
    simp only [Option.some.injEq, Prod.mk.injEq] at e
    obtain ⟨rfl, rfl⟩ := e
    exact ConN.args (.cons (.agg (.cons (.toT okI rfl hob.1) .nil)) (.cons .rfl (.cons .rfl .nil))) (c_fillR (⟨(Tl rowI r0n r0f)⟩ : Rgn) size most hob.2.1 hob.2.2.1 hob.2.2.2.1)
  · simp at e)

end Go.Proofs.Ytpilblmncpeelaa.AM

