/- Lemmas and contracts (Grw); conditions: none. -/
import Derived.Test.YtigkdbhcjjjjkaaK04
import Derived.Test.YtigkdbhcjjjjkaaK06
import Derived.Test.YtigkdbhcjjjjkaaK12
set_option linter.unusedVariables false
set_option linter.unusedSimpArgs false
set_option linter.unusedVariables false
set_option linter.unusedSimpArgs false
set_option maxRecDepth 100000
set_option maxHeartbeats 4000000
set_option cbv.maxSteps 3000000
namespace Go.Proofs.Ytigkdbhcjjjjkaa.AM
/- Functions that hand out a slice that has come of one of the caller's own; conditions: none. -/
/-- A function that takes a slice of the caller's own and hands out one that has come of it: in its place, or another. -/
def growE (f : FuncId) (k : Nat) (E : TypeId) (F : Hold → Nat → (Nat → List AV) → List AV → Option (Nat × (Nat → List AV) × List Prop)) : Entry := ⟨f, fun H a h nx => match a with
  | .slc i 0 k' n :: a => (match lk i h with
    | some (.rows k'' n' g E') => bif Nat.beq k k' && (Nat.beq k k'' && Nat.beq E E') then (match F H n g a with
      | some (m, g', ob) => some (.slc nx 0 k m, [.rows k m g' E], [i], [(i, .cells [] E)], (H Prop fun _ => n' = n) :: ob)
      | none => none) else none
    | _ => none)
  | _ => none⟩
theorem growE_ok {P : Program} {f : FuncId} {k : Nat} {E : TypeId} {F : Hold → Nat → (Nat → List AV) → List AV → Option (Nat × (Nat → List AV) × List Prop)} (hb : isBody P f)
    (h : ∀ n g a m g' ob, F stdH n g a = some (m, g', ob) → AllP ob → ∃ g0, (∀ j, j < n → g0 j = g j ∧ ∀ x ∈ g0 j, Bl 0 x) ∧ ConN P f (.slc 0 0 k n :: a) [(0, .rows k n g0 E)] 1 (.slc 1 0 k m) [.rows k m g' E] [(0, .cells [] E)] ∧ (∀ x ∈ a, Bl 0 x) ∧ ∀ j, j < m → ∀ x ∈ g' j, Bl 0 x) : EntryOk P (growE f k E F) := by
  refine ⟨hb, fun a hp nx r nb rd u ob e hob => ?_⟩
  simp only [growE] at e
  split at e
  · rename_i a i k' n a'
    split at e
    · rename_i k'' n' g E' hlk
      cases hc : (Nat.beq k k' && (Nat.beq k k'' && Nat.beq E E')) with
      | false => rw [hc] at e; simp at e
      | true =>
        rw [hc] at e
        simp only [cond_true] at e
        simp only [Bool.and_eq_true] at hc
        obtain rfl := Nat.eq_of_beq_eq_true hc.1
        obtain rfl := Nat.eq_of_beq_eq_true hc.2.1
        obtain rfl := Nat.eq_of_beq_eq_true hc.2.2
        cases hF : F stdH n g a' with
        | none => simp [hF] at e
        | some y =>
          obtain ⟨m, g', ob'⟩ := y
          simp only [hF, stdH, Option.some.injEq, Prod.mk.injEq] at e
          obtain ⟨rfl, rfl, rfl, rfl, rfl⟩ := e
          obtain ⟨rfl, hob⟩ := hob
          obtain ⟨g0, h0, h1, h2, h4⟩ := h _ _ _ _ _ _ hF hob
          refine ⟨fun q b hq => ?_, [(i, .rows k n' g E)], fun q b hq => ?_, ?_⟩
          · simp at hq; obtain ⟨rfl, rfl⟩ := hq; exact ⟨by simp, _, hlk, rfl⟩
          · rw [lk_cons] at hq
            by_cases hi : i = q
            · rw [if_pos hi] at hq; injection hq with hq; subst hq; subst hi; exact ⟨by simp, hlk⟩
            · rw [if_neg hi] at hq; simp [lk] at hq
          · refine h1.ren (fun _ => i) (fun q hq => ⟨_, by obtain rfl : q = 0 := by omega
                                                           rfl⟩) rfl (fun c x z hx hz => ?_) (fun q b hq => ?_) (by omega) rfl (.slc ⟨by omega, by simp⟩ (by omega)) (fun q b hq => ?_) (fun q b hq => ?_) (fun q b hq => ?_)
            · cases c with
              | zero => simp only [List.getElem?_cons_zero, Option.some.injEq] at hx hz; subst hx; subst hz; exact Rn.slc (π := fun _ => i) (i := 0) (by omega)
              | succ c =>
                simp only [List.getElem?_cons_succ] at hx hz
                rw [hx] at hz; injection hz with hz; subst hz
                exact .same (q := 0) (by omega) (by omega) (h2 _ (List.mem_of_getElem? hx))
            · have := lk_in hq
              simp at this
              obtain ⟨rfl, rfl⟩ := this
              exact ⟨by omega, _, by rw [lk_cons, if_pos rfl], rnb_rows rfl (fun j hj => (h0 j hj).1) (fun j hj => (h0 j hj).2)⟩
            · cases q with
              | zero =>
                simp only [List.getElem?_cons_zero, Option.some.injEq] at hq
                subst hq
                exact ⟨_, rfl, .same (rowsB_bl h4)⟩
              | succ q => simp at hq
            · simp at hq
              obtain ⟨rfl, rfl⟩ := hq
              exact ⟨0, _, by omega, rfl, List.mem_cons_self, .same (fun p x hx => by simp [Blk.at] at hx)⟩
            · simp at hq
              obtain ⟨rfl, rfl⟩ := hq
              exact ⟨by omega, ⟨_, List.mem_cons_self⟩, fun _ b' hb' => by simp at hb'; subst hb'; rfl⟩
    · simp at e
  · simp at e

end Go.Proofs.Ytigkdbhcjjjjkaa.AM

