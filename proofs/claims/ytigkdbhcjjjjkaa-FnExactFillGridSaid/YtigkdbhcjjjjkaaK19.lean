/- Lemmas and contracts (Fge); conditions: none. -/
import Derived.Test.YtigkdbhcjjjjkaaK04
import Derived.Test.YtigkdbhcjjjjkaaK18
set_option linter.unusedVariables false
set_option linter.unusedSimpArgs false
set_option linter.unusedVariables false
set_option linter.unusedSimpArgs false
set_option maxRecDepth 100000
set_option maxHeartbeats 4000000
set_option cbv.maxSteps 3000000
namespace Go.Proofs.Ytigkdbhcjjjjkaa.AM
/- Slices of own slices of numbers: the entries; conditions: none. -/
def modNN (f : FuncId) (k : Nat) (E : TypeId) (F : Hold → Nat → (Nat → List AV) → Nat → Option (AV × List Blk × (Nat → List AV) × List Prop)) : Entry := ⟨f, fun H a h nx => match a with
  | [.slc i 0 k' n] => (match lk i h with
    | some (.rows k'' n' g E') => bif Nat.beq k k' && (Nat.beq k k'' && Nat.beq E E') then (match F H n g nx with
      | some (r, nb, g', ob) => some (r, nb, [i], [(i, .rows k n g' E)], (H Prop fun _ => n' = n) :: ob)
      | none => none) else none
    | _ => none)
  | _ => none⟩
theorem modNN_ok {P : Program} {f : FuncId} {k : Nat} {E : TypeId} {F : Hold → Nat → (Nat → List AV) → Nat → Option (AV × List Blk × (Nat → List AV) × List Prop)} (hb : isBody P f)
    (h : ∀ n g nx r nb g' ob, F stdH n g nx = some (r, nb, g', ob) → AllP ob → ∃ (g0 : Nat → List AV) (r1 : AV) (nb1 : List Blk), (∀ j, j < n → g0 j = g j ∧ ∀ x ∈ g0 j, Bl 0 x) ∧ ConN P f [.slc 0 0 k n] [(0, .rows k n g0 E)] 1 r1 nb1 [(0, .rows k n g' E)] ∧ nb.length = nb1.length ∧ Re nx 1 nb1.length r r1 ∧ (∀ (q : Nat) (b : Blk), nb[q]? = some b → ∃ b1, nb1[q]? = some b1 ∧ ReB nx 1 nb1.length b b1) ∧ ∀ j, j < n → ∀ x ∈ g' j, Bl 0 x) : EntryOk P (modNN f k E F) := by
  refine ⟨hb, fun a hp nx r nb rd u ob e hob => ?_⟩
  simp only [modNN] at e
  split at e
  · rename_i i k' n
    split at e
    · rename_i k'' n' g E' hlk
      cases hc : (Nat.beq k k' && (Nat.beq k k'' && Nat.beq E E')) with
      | false => rw [hc] at e; simp at e
      | true =>
        rw [hc] at e
        simp only [cond_true] at e
        simp only [Bool.and_eq_true] at hc
        obtain rfl := Nat.eq_of_beq_eq_true hc.1
        obtain rfl := Nat.eq_of_beq_eq_true hc.2.1
        obtain rfl := Nat.eq_of_beq_eq_true hc.2.2
        cases hF : F stdH n g nx with
        | none => simp [hF] at e
        | some y =>
          obtain ⟨r', nb', g', ob'⟩ := y
          simp only [hF, stdH, Option.some.injEq, Prod.mk.injEq] at e
          obtain ⟨rfl, rfl, rfl, rfl, rfl⟩ := e
          obtain ⟨rfl, hob⟩ := hob
          obtain ⟨g0, r1, nb1, h0, h1, h2, h3, h5, h4⟩ := h _ _ _ _ _ _ _ hF hob
          refine ⟨fun q b hq => ?_, [(i, .rows k n' g E)], fun q b hq => ?_, ?_⟩
          · simp at hq; obtain ⟨rfl, rfl⟩ := hq; exact ⟨by simp, _, hlk, rfl⟩
          · rw [lk_cons] at hq
            by_cases hi : i = q
            · rw [if_pos hi] at hq; injection hq with hq; subst hq; subst hi; exact ⟨by simp, hlk⟩
            · rw [if_neg hi] at hq; simp [lk] at hq
          · refine h1.ren (fun _ => i) (fun q hq => ⟨_, by obtain rfl : q = 0 := by omega
                                                           rfl⟩) rfl (fun c x z hx hz => ?_) (fun q b hq => ?_) (by omega) h2 h3 h5 (fun q b hq => ?_) (fun q b hq => ?_)
            · cases c with
              | zero => simp only [List.getElem?_cons_zero, Option.some.injEq] at hx hz; subst hx; subst hz; exact Rn.slc (π := fun _ => i) (i := 0) (by omega)
              | succ c => simp at hx
            · have := lk_in hq
              simp at this
              obtain ⟨rfl, rfl⟩ := this
              exact ⟨by omega, _, by rw [lk_cons, if_pos rfl], rnb_rows rfl (fun j hj => (h0 j hj).1) (fun j hj => (h0 j hj).2)⟩
            · simp at hq
              obtain ⟨rfl, rfl⟩ := hq
              exact ⟨0, _, by omega, rfl, List.mem_cons_self, .same (rowsB_bl h4)⟩
            · simp at hq
              obtain ⟨rfl, rfl⟩ := hq
              exact ⟨by omega, ⟨_, List.mem_cons_self⟩, fun h => by simp [Blk.dead] at h⟩
    · simp at e
  · simp at e
theorem own_row {n : Nat} {g : Nat → List AV} (hs : Shp rowA n g) (j : Nat) (hj : j < n) : rowsA stdH (fun _ => Tl rowA n g) j = g j ∧ ∀ x ∈ rowsA stdH (fun _ => Tl rowA n g) j, Bl 0 x := by
  refine ⟨?_, rows_blx okRA _ j⟩
  rw [hs.row j hj]
  exact (okRA.row (fun _ => Tl rowA n g) j).trans (by rw [Tl_getD hj])
noncomputable def e_fillSO : Entry := modE 16 15 43 fun H n g a => match a with
  | [] => some (.tup [.vec 1 (H Nat fun _ => (if okQ (Tl rowA n g) then gridQ (Tl rowA n g).length else []).length) (rowsL rowsI 1 H fun _ => if okQ (Tl rowA n g) then gridQ (Tl rowA n g).length else []), .lit (.bool (H Bool fun _ => okQ (Tl rowA n g)))], rowsA H fun _ => Tl rowA n g, [H Prop fun _ => Shp rowA n g, H Prop fun _ => (Tl rowA n g).length ≤ 2000000])
  | _ => none
theorem eok_fillSO : EntryOk Try.prog e_fillSO := modE_ok (by unfold isBody; kernel_rfl) (by
  intro n g a r g' ob e hob
  split at e
  · simp only [Option.some.injEq, Prod.mk.injEq] at e
    obtain ⟨rfl, rfl, rfl⟩ := e
    obtain ⟨o0, o1, _⟩ := hob
    refine ⟨rowsA stdH fun _ => Tl rowA n g, own_row o0, ?_, by simp, ?_, fun j hj => rows_blx okRA _ j⟩
    · have := c_fillSO (Tl rowA n g) o1
      simp only [stdH, Tl_len (D := rowA) n g] at this ⊢
      exact this
    · refine .tup fun x hx => ?_
      simp only [List.mem_cons, List.not_mem_nil, or_false] at hx
      rcases hx with rfl | rfl
      · exact vl_bl (okL okI) _ 0
      · exact .lit
  · cases e)
theorem ReB.cellsL {n m len E : Nat} {l l' : List AV} (h : ReL n m len l l') : ReB n m len (.cells l E) (.cells l' E) := ⟨rfl, fun p x hx => by
  obtain ⟨h1, h2⟩ := h.get
  have hx : l[p]? = some x := hx
  have hp : p < l'.length := by rw [← h1]; exact (List.getElem?_eq_some_iff.1 hx).1
  exact ⟨_, List.getElem?_eq_getElem hp, h2 p x _ hx (List.getElem?_eq_getElem hp)⟩⟩
theorem nst_row {bs : List (Nat × (Nat → List AV))} (h : ∀ b ∈ bs, Shp rowI b.1 b.2) {c p : Nat} {g g0 : Nat → List AV} (h1 : bs[c]? = some (p, g)) (h2 : (bs.map fun b => rowsI stdH fun _ => Tl rowI b.1 b.2)[c]? = some g0) (j : Nat) (hj : j < p) : g0 j = g j ∧ ∀ x ∈ g0 j, Bl 0 x := by
  rw [List.getElem?_map, h1] at h2
  simp only [Option.map_some, Option.some.injEq] at h2
  subst h2
  have hs : Shp rowI p g := h _ (List.mem_of_getElem? h1)
  refine ⟨?_, rows_blx okI _ j⟩
  rw [hs.row j hj]
  exact ((okI).row (fun _ => Tl rowI p g) j).trans (by rw [Tl_getD hj])
theorem nst_bl {gs : List (Nat → List AV)} (h : ∀ g ∈ gs, ∃ L : List Int, g = rowsI stdH fun _ => L) {c : Nat} {g' : Nat → List AV} (h2 : gs[c]? = some g') (j : Nat) : ∀ x ∈ g' j, Bl 0 x := by
  obtain ⟨L, rfl⟩ := h g' (List.mem_of_getElem? h2)
  exact rows_blx okI L j
noncomputable def e_eqSS1 : Entry := nstE 19 31 3 fun H bs a => match bs with
  | [(p1, g1)] => (match a with
    | [.vec 1 n f] => some (.lit (.bool (H Bool fun _ => true)), [rowsI H fun _ => (Tl rowI p1 g1)], [H Prop fun _ => Shp rowI p1 g1, H Prop fun _ => Shp (rowL rowI) n f, H Prop fun _ => Tl (rowL rowI) n f = [(Tl rowI p1 g1)], H Prop fun _ => (Tl rowI p1 g1).length ≤ 100])
    | _ => none)
  | _ => none
theorem eok_eqSS1 : EntryOk Try.prog e_eqSS1 := nstE_ok (by unfold isBody; kernel_rfl) (by
  intro bs a r gs ob e hob hlen
  split at e
  · rename_i p1 g1
    split at e
    · rename_i n f
      simp only [Option.some.injEq, Prod.mk.injEq] at e
      obtain ⟨rfl, rfl, rfl⟩ := e
      obtain ⟨o0, o1, o2, o3, _⟩ := hob
      refine ⟨[rowsI stdH fun _ => (Tl rowI p1 g1)], rfl, fun c p g g0 h1 h2 j hj => ?_, ?_, fun x hx => ?_, .lit, fun c p g g' h1 h2 j hj => ?_⟩
      · refine nst_row (bs := [(p1, g1)]) (fun b hb => ?_) h1 h2 j hj
        simp only [List.mem_cons, List.not_mem_nil, or_false] at hb
        rcases hb with rfl
        · exact o0
      · have := c_eqSS1 (Tl rowI p1 g1) (Tl (rowL rowI) n f) o2 o3
        simp only [Tl_len p1 g1] at this
        exact ConN.args (.cons .rfl (.cons (.toT (okL okI) rfl o1) .nil)) this
      · simp only [List.mem_cons, List.not_mem_nil, or_false] at hx; subst hx; exact Shp.bl (okL okI) o1 0
      · refine nst_bl (fun g hg => ?_) h2 j
        simp only [List.mem_cons, List.not_mem_nil, or_false] at hg
        rcases hg with rfl <;> exact ⟨_, rfl⟩
    · cases e
  · cases e)
noncomputable def e_markSS1 : Entry := nstE 22 31 3 fun H bs a => match bs with
  | [(p1, g1)] => (match a with
    | [.lit (.int .i64 k)] => some (.lit (.int .i64 (H Int fun _ => k + (p1 : Nat))), [rowsI H fun _ => mkN p1 (k)], [H Prop fun _ => Shp rowI p1 g1, H Prop fun _ => 0 ≤ k ∧ k ≤ 1000, H Prop fun _ => (Tl rowI p1 g1).length ≤ 100])
    | _ => none)
  | _ => none
theorem eok_markSS1 : EntryOk Try.prog e_markSS1 := nstE_ok (by unfold isBody; kernel_rfl) (by
  intro bs a r gs ob e hob hlen
  split at e
  · rename_i p1 g1
    split at e
    · rename_i k
      simp only [Option.some.injEq, Prod.mk.injEq] at e
      obtain ⟨rfl, rfl, rfl⟩ := e
      obtain ⟨o0, o1, o2, _⟩ := hob
      refine ⟨[rowsI stdH fun _ => (Tl rowI p1 g1)], rfl, fun c p g g0 h1 h2 j hj => ?_, ?_, fun x hx => ?_, .lit, fun c p g g' h1 h2 j hj => ?_⟩
      · refine nst_row (bs := [(p1, g1)]) (fun b hb => ?_) h1 h2 j hj
        simp only [List.mem_cons, List.not_mem_nil, or_false] at hb
        rcases hb with rfl
        · exact o0
      · have := c_markSS1 (Tl rowI p1 g1) k o1 o2
        simp only [Tl_len p1 g1] at this
        exact this
      · simp only [List.mem_cons, List.not_mem_nil, or_false] at hx; subst hx; exact .lit
      · refine nst_bl (fun g hg => ?_) h2 j
        simp only [List.mem_cons, List.not_mem_nil, or_false] at hg
        rcases hg with rfl <;> exact ⟨_, rfl⟩
    · cases e
  · cases e)
noncomputable def e_heldSS1 : Entry := nstE 23 31 3 fun H bs a => match bs with
  | [(p1, g1)] => (match a with
    | [.lit (.int .i64 k)] => some (.lit (.int .i64 (H Int fun _ => k + (p1 : Nat))), [rowsI H fun _ => (Tl rowI p1 g1)], [H Prop fun _ => Shp rowI p1 g1, H Prop fun _ => 0 ≤ k ∧ k ≤ 1000, H Prop fun _ => (Tl rowI p1 g1).length ≤ 100, H Prop fun _ => (Tl rowI p1 g1) = mkN (Tl rowI p1 g1).length (k)])
    | _ => none)
  | _ => none
theorem eok_heldSS1 : EntryOk Try.prog e_heldSS1 := nstE_ok (by unfold isBody; kernel_rfl) (by
  intro bs a r gs ob e hob hlen
  split at e
  · rename_i p1 g1
    split at e
    · rename_i k
      simp only [Option.some.injEq, Prod.mk.injEq] at e
      obtain ⟨rfl, rfl, rfl⟩ := e
      obtain ⟨o0, o1, o2, o3, _⟩ := hob
      refine ⟨[rowsI stdH fun _ => (Tl rowI p1 g1)], rfl, fun c p g g0 h1 h2 j hj => ?_, ?_, fun x hx => ?_, .lit, fun c p g g' h1 h2 j hj => ?_⟩
      · refine nst_row (bs := [(p1, g1)]) (fun b hb => ?_) h1 h2 j hj
        simp only [List.mem_cons, List.not_mem_nil, or_false] at hb
        rcases hb with rfl
        · exact o0
      · have := c_heldSS1 (Tl rowI p1 g1) k o1 o2 o3
        simp only [Tl_len p1 g1] at this
        exact this
      · simp only [List.mem_cons, List.not_mem_nil, or_false] at hx; subst hx; exact .lit
      · refine nst_bl (fun g hg => ?_) h2 j
        simp only [List.mem_cons, List.not_mem_nil, or_false] at hg
        rcases hg with rfl <;> exact ⟨_, rfl⟩
    · cases e
  · cases e)
noncomputable def e_eqSS2 : Entry := nstE 19 31 3 fun H bs a => match bs with
  | [(p1, g1), (p2, g2)] => (match a with
    | [.vec 1 n f] => some (.lit (.bool (H Bool fun _ => true)), [rowsI H fun _ => (Tl rowI p1 g1), rowsI H fun _ => (Tl rowI p2 g2)], [H Prop fun _ => Shp rowI p1 g1, H Prop fun _ => Shp rowI p2 g2, H Prop fun _ => Shp (rowL rowI) n f, H Prop fun _ => Tl (rowL rowI) n f = [(Tl rowI p1 g1), (Tl rowI p2 g2)], H Prop fun _ => (Tl rowI p1 g1).length ≤ 100, H Prop fun _ => (Tl rowI p2 g2).length ≤ 100])
    | _ => none)
  | _ => none
theorem eok_eqSS2 : EntryOk Try.prog e_eqSS2 := nstE_ok (by unfold isBody; kernel_rfl) (by
  intro bs a r gs ob e hob hlen
  split at e
  · rename_i p1 g1 p2 g2
    split at e
    · rename_i n f
      simp only [Option.some.injEq, Prod.mk.injEq] at e
      obtain ⟨rfl, rfl, rfl⟩ := e
      obtain ⟨o0, o1, o2, o3, o4, o5, _⟩ := hob
      refine ⟨[rowsI stdH fun _ => (Tl rowI p1 g1), rowsI stdH fun _ => (Tl rowI p2 g2)], rfl, fun c p g g0 h1 h2 j hj => ?_, ?_, fun x hx => ?_, .lit, fun c p g g' h1 h2 j hj => ?_⟩
      · refine nst_row (bs := [(p1, g1), (p2, g2)]) (fun b hb => ?_) h1 h2 j hj
        simp only [List.mem_cons, List.not_mem_nil, or_false] at hb
        rcases hb with rfl | rfl
        · exact o0
        · exact o1
      · have := c_eqSS2 (Tl rowI p1 g1) (Tl rowI p2 g2) (Tl (rowL rowI) n f) o3 o4 o5
        simp only [Tl_len p1 g1, Tl_len p2 g2] at this
        exact ConN.args (.cons .rfl (.cons (.toT (okL okI) rfl o2) .nil)) this
      · simp only [List.mem_cons, List.not_mem_nil, or_false] at hx; subst hx; exact Shp.bl (okL okI) o2 0
      · refine nst_bl (fun g hg => ?_) h2 j
        simp only [List.mem_cons, List.not_mem_nil, or_false] at hg
        rcases hg with rfl | rfl <;> exact ⟨_, rfl⟩
    · cases e
  · cases e)
noncomputable def e_markSS2 : Entry := nstE 22 31 3 fun H bs a => match bs with
  | [(p1, g1), (p2, g2)] => (match a with
    | [.lit (.int .i64 k)] => some (.lit (.int .i64 (H Int fun _ => k + (p1 : Nat) + (p2 : Nat))), [rowsI H fun _ => mkN p1 (k), rowsI H fun _ => mkN p2 (k + (p1 : Nat))], [H Prop fun _ => Shp rowI p1 g1, H Prop fun _ => Shp rowI p2 g2, H Prop fun _ => 0 ≤ k ∧ k ≤ 1000, H Prop fun _ => (Tl rowI p1 g1).length ≤ 100, H Prop fun _ => (Tl rowI p2 g2).length ≤ 100])
    | _ => none)
  | _ => none
theorem eok_markSS2 : EntryOk Try.prog e_markSS2 := nstE_ok (by unfold isBody; kernel_rfl) (by
  intro bs a r gs ob e hob hlen
  split at e
  · rename_i p1 g1 p2 g2
    split at e
    · rename_i k
      simp only [Option.some.injEq, Prod.mk.injEq] at e
      obtain ⟨rfl, rfl, rfl⟩ := e
      obtain ⟨o0, o1, o2, o3, o4, _⟩ := hob
      refine ⟨[rowsI stdH fun _ => (Tl rowI p1 g1), rowsI stdH fun _ => (Tl rowI p2 g2)], rfl, fun c p g g0 h1 h2 j hj => ?_, ?_, fun x hx => ?_, .lit, fun c p g g' h1 h2 j hj => ?_⟩
      · refine nst_row (bs := [(p1, g1), (p2, g2)]) (fun b hb => ?_) h1 h2 j hj
        simp only [List.mem_cons, List.not_mem_nil, or_false] at hb
        rcases hb with rfl | rfl
        · exact o0
        · exact o1
      · have := c_markSS2 (Tl rowI p1 g1) (Tl rowI p2 g2) k o2 o3 o4
        simp only [Tl_len p1 g1, Tl_len p2 g2] at this
        exact this
      · simp only [List.mem_cons, List.not_mem_nil, or_false] at hx; subst hx; exact .lit
      · refine nst_bl (fun g hg => ?_) h2 j
        simp only [List.mem_cons, List.not_mem_nil, or_false] at hg
        rcases hg with rfl | rfl <;> exact ⟨_, rfl⟩
    · cases e
  · cases e)
noncomputable def e_heldSS2 : Entry := nstE 23 31 3 fun H bs a => match bs with
  | [(p1, g1), (p2, g2)] => (match a with
    | [.lit (.int .i64 k)] => some (.lit (.int .i64 (H Int fun _ => k + (p1 : Nat) + (p2 : Nat))), [rowsI H fun _ => (Tl rowI p1 g1), rowsI H fun _ => (Tl rowI p2 g2)], [H Prop fun _ => Shp rowI p1 g1, H Prop fun _ => Shp rowI p2 g2, H Prop fun _ => 0 ≤ k ∧ k ≤ 1000, H Prop fun _ => (Tl rowI p1 g1).length ≤ 100, H Prop fun _ => (Tl rowI p2 g2).length ≤ 100, H Prop fun _ => (Tl rowI p1 g1) = mkN (Tl rowI p1 g1).length (k), H Prop fun _ => (Tl rowI p2 g2) = mkN (Tl rowI p2 g2).length (k + ((Tl rowI p1 g1).length : Nat))])
    | _ => none)
  | _ => none
theorem eok_heldSS2 : EntryOk Try.prog e_heldSS2 := nstE_ok (by unfold isBody; kernel_rfl) (by
  intro bs a r gs ob e hob hlen
  split at e
  · rename_i p1 g1 p2 g2
    split at e
    · rename_i k
      simp only [Option.some.injEq, Prod.mk.injEq] at e
      obtain ⟨rfl, rfl, rfl⟩ := e
      obtain ⟨o0, o1, o2, o3, o4, o5, o6, _⟩ := hob
      refine ⟨[rowsI stdH fun _ => (Tl rowI p1 g1), rowsI stdH fun _ => (Tl rowI p2 g2)], rfl, fun c p g g0 h1 h2 j hj => ?_, ?_, fun x hx => ?_, .lit, fun c p g g' h1 h2 j hj => ?_⟩
      · refine nst_row (bs := [(p1, g1), (p2, g2)]) (fun b hb => ?_) h1 h2 j hj
        simp only [List.mem_cons, List.not_mem_nil, or_false] at hb
        rcases hb with rfl | rfl
        · exact o0
        · exact o1
      · have := c_heldSS2 (Tl rowI p1 g1) (Tl rowI p2 g2) k o2 o3 o4 o5 o6
        simp only [Tl_len p1 g1, Tl_len p2 g2] at this
        exact this
      · simp only [List.mem_cons, List.not_mem_nil, or_false] at hx; subst hx; exact .lit
      · refine nst_bl (fun g hg => ?_) h2 j
        simp only [List.mem_cons, List.not_mem_nil, or_false] at hg
        rcases hg with rfl | rfl <;> exact ⟨_, rfl⟩
    · cases e
  · cases e)
noncomputable def e_eqSS3 : Entry := nstE 19 31 3 fun H bs a => match bs with
  | [(p1, g1), (p2, g2), (p3, g3)] => (match a with
    | [.vec 1 n f] => some (.lit (.bool (H Bool fun _ => true)), [rowsI H fun _ => (Tl rowI p1 g1), rowsI H fun _ => (Tl rowI p2 g2), rowsI H fun _ => (Tl rowI p3 g3)], [H Prop fun _ => Shp rowI p1 g1, H Prop fun _ => Shp rowI p2 g2, H Prop fun _ => Shp rowI p3 g3, H Prop fun _ => Shp (rowL rowI) n f, H Prop fun _ => Tl (rowL rowI) n f = [(Tl rowI p1 g1), (Tl rowI p2 g2), (Tl rowI p3 g3)], H Prop fun _ => (Tl rowI p1 g1).length ≤ 100, H Prop fun _ => (Tl rowI p2 g2).length ≤ 100, H Prop fun _ => (Tl rowI p3 g3).length ≤ 100])
    | _ => none)
  | _ => none
theorem eok_eqSS3 : EntryOk Try.prog e_eqSS3 := nstE_ok (by unfold isBody; kernel_rfl) (by
  intro bs a r gs ob e hob hlen
  split at e
  · rename_i p1 g1 p2 g2 p3 g3
    split at e
    · rename_i n f
      simp only [Option.some.injEq, Prod.mk.injEq] at e
      obtain ⟨rfl, rfl, rfl⟩ := e
      obtain ⟨o0, o1, o2, o3, o4, o5, o6, o7, _⟩ := hob
      refine ⟨[rowsI stdH fun _ => (Tl rowI p1 g1), rowsI stdH fun _ => (Tl rowI p2 g2), rowsI stdH fun _ => (Tl rowI p3 g3)], rfl, fun c p g g0 h1 h2 j hj => ?_, ?_, fun x hx => ?_, .lit, fun c p g g' h1 h2 j hj => ?_⟩
      · refine nst_row (bs := [(p1, g1), (p2, g2), (p3, g3)]) (fun b hb => ?_) h1 h2 j hj
        simp only [List.mem_cons, List.not_mem_nil, or_false] at hb
        rcases hb with rfl | rfl | rfl
        · exact o0
        · exact o1
        · exact o2
      · have := c_eqSS3 (Tl rowI p1 g1) (Tl rowI p2 g2) (Tl rowI p3 g3) (Tl (rowL rowI) n f) o4 o5 o6 o7
        simp only [Tl_len p1 g1, Tl_len p2 g2, Tl_len p3 g3] at this
        exact ConN.args (.cons .rfl (.cons (.toT (okL okI) rfl o3) .nil)) this
      · simp only [List.mem_cons, List.not_mem_nil, or_false] at hx; subst hx; exact Shp.bl (okL okI) o3 0
      · refine nst_bl (fun g hg => ?_) h2 j
        simp only [List.mem_cons, List.not_mem_nil, or_false] at hg
        rcases hg with rfl | rfl | rfl <;> exact ⟨_, rfl⟩
    · cases e
  · cases e)
noncomputable def e_markSS3 : Entry := nstE 22 31 3 fun H bs a => match bs with
  | [(p1, g1), (p2, g2), (p3, g3)] => (match a with
    | [.lit (.int .i64 k)] => some (.lit (.int .i64 (H Int fun _ => k + (p1 : Nat) + (p2 : Nat) + (p3 : Nat))), [rowsI H fun _ => mkN p1 (k), rowsI H fun _ => mkN p2 (k + (p1 : Nat)), rowsI H fun _ => mkN p3 (k + (p1 : Nat) + (p2 : Nat))], [H Prop fun _ => Shp rowI p1 g1, H Prop fun _ => Shp rowI p2 g2, H Prop fun _ => Shp rowI p3 g3, H Prop fun _ => 0 ≤ k ∧ k ≤ 1000, H Prop fun _ => (Tl rowI p1 g1).length ≤ 100, H Prop fun _ => (Tl rowI p2 g2).length ≤ 100, H Prop fun _ => (Tl rowI p3 g3).length ≤ 100])
    | _ => none)
  | _ => none
theorem eok_markSS3 : EntryOk Try.prog e_markSS3 := nstE_ok (by unfold isBody; kernel_rfl) (by
  intro bs a r gs ob e hob hlen
  split at e
  · rename_i p1 g1 p2 g2 p3 g3
    split at e
    · rename_i k
      simp only [Option.some.injEq, Prod.mk.injEq] at e
      obtain ⟨rfl, rfl, rfl⟩ := e
      obtain ⟨o0, o1, o2, o3, o4, o5, o6, _⟩ := hob
      refine ⟨[rowsI stdH fun _ => (Tl rowI p1 g1), rowsI stdH fun _ => (Tl rowI p2 g2), rowsI stdH fun _ => (Tl rowI p3 g3)], rfl, fun c p g g0 h1 h2 j hj => ?_, ?_, fun x hx => ?_, .lit, fun c p g g' h1 h2 j hj => ?_⟩
      · refine nst_row (bs := [(p1, g1), (p2, g2), (p3, g3)]) (fun b hb => ?_) h1 h2 j hj
        simp only [List.mem_cons, List.not_mem_nil, or_false] at hb
        rcases hb with rfl | rfl | rfl
        · exact o0
        · exact o1
        · exact o2
      · have := c_markSS3 (Tl rowI p1 g1) (Tl rowI p2 g2) (Tl rowI p3 g3) k o3 o4 o5 o6
        simp only [Tl_len p1 g1, Tl_len p2 g2, Tl_len p3 g3] at this
        exact this
      · simp only [List.mem_cons, List.not_mem_nil, or_false] at hx; subst hx; exact .lit
      · refine nst_bl (fun g hg => ?_) h2 j
        simp only [List.mem_cons, List.not_mem_nil, or_false] at hg
        rcases hg with rfl | rfl | rfl <;> exact ⟨_, rfl⟩
    · cases e
  · cases e)
noncomputable def e_heldSS3 : Entry := nstE 23 31 3 fun H bs a => match bs with
  | [(p1, g1), (p2, g2), (p3, g3)] => (match a with
    | [.lit (.int .i64 k)] => some (.lit (.int .i64 (H Int fun _ => k + (p1 : Nat) + (p2 : Nat) + (p3 : Nat))), [rowsI H fun _ => (Tl rowI p1 g1), rowsI H fun _ => (Tl rowI p2 g2), rowsI H fun _ => (Tl rowI p3 g3)], [H Prop fun _ => Shp rowI p1 g1, H Prop fun _ => Shp rowI p2 g2, H Prop fun _ => Shp rowI p3 g3, H Prop fun _ => 0 ≤ k ∧ k ≤ 1000, H Prop fun _ => (Tl rowI p1 g1).length ≤ 100, H Prop fun _ => (Tl rowI p2 g2).length ≤ 100, H Prop fun _ => (Tl rowI p3 g3).length ≤ 100, H Prop fun _ => (Tl rowI p1 g1) = mkN (Tl rowI p1 g1).length (k), H Prop fun _ => (Tl rowI p2 g2) = mkN (Tl rowI p2 g2).length (k + ((Tl rowI p1 g1).length : Nat)), H Prop fun _ => (Tl rowI p3 g3) = mkN (Tl rowI p3 g3).length (k + ((Tl rowI p1 g1).length : Nat) + ((Tl rowI p2 g2).length : Nat))])
    | _ => none)
  | _ => none
theorem eok_heldSS3 : EntryOk Try.prog e_heldSS3 := nstE_ok (by unfold isBody; kernel_rfl) (by
  intro bs a r gs ob e hob hlen
  split at e
  · rename_i p1 g1 p2 g2 p3 g3
    split at e
    · rename_i k
      simp only [Option.some.injEq, Prod.mk.injEq] at e
      obtain ⟨rfl, rfl, rfl⟩ := e
      obtain ⟨o0, o1, o2, o3, o4, o5, o6, o7, o8, o9, _⟩ := hob
      refine ⟨[rowsI stdH fun _ => (Tl rowI p1 g1), rowsI stdH fun _ => (Tl rowI p2 g2), rowsI stdH fun _ => (Tl rowI p3 g3)], rfl, fun c p g g0 h1 h2 j hj => ?_, ?_, fun x hx => ?_, .lit, fun c p g g' h1 h2 j hj => ?_⟩
      · refine nst_row (bs := [(p1, g1), (p2, g2), (p3, g3)]) (fun b hb => ?_) h1 h2 j hj
        simp only [List.mem_cons, List.not_mem_nil, or_false] at hb
        rcases hb with rfl | rfl | rfl
        · exact o0
        · exact o1
        · exact o2
      · have := c_heldSS3 (Tl rowI p1 g1) (Tl rowI p2 g2) (Tl rowI p3 g3) k o3 o4 o5 o6 o7 o8 o9
        simp only [Tl_len p1 g1, Tl_len p2 g2, Tl_len p3 g3] at this
        exact this
      · simp only [List.mem_cons, List.not_mem_nil, or_false] at hx; subst hx; exact .lit
      · refine nst_bl (fun g hg => ?_) h2 j
        simp only [List.mem_cons, List.not_mem_nil, or_false] at hg
        rcases hg with rfl | rfl | rfl <;> exact ⟨_, rfl⟩
    · cases e
  · cases e)
noncomputable def e_fill1 : Entry := modNN 18 15 43 fun H n g nx => some (.tup [.slc nx 0 1 1, .lit (.bool (H Bool fun _ => true))], [.cells [.slc (nx + 1) 0 1 (H Nat fun _ => (gr n).2)] 31, .rows 1 (H Nat fun _ => (gr n).2) (rowsI H fun _ => gridR n 0 (gr n).2) 3], rowsA H fun _ => Tl rowA n g, [H Prop fun _ => Shp rowA n g, H Prop fun _ => (Tl rowA n g).length ≤ 1000, H Prop fun _ => okQ (Tl rowA n g) = true, H Prop fun _ => (gr n).1 = 1])
theorem eok_fill1 : EntryOk Try.prog e_fill1 := modNN_ok (by unfold isBody; kernel_rfl) (by
  intro n g nx r nb g' ob e hob
  simp only [Option.some.injEq, Prod.mk.injEq] at e
  obtain ⟨rfl, rfl, rfl, rfl⟩ := e
  obtain ⟨o0, o1, o2, o3, _⟩ := hob
  have hc := c_fill1 (Tl rowA n g) o1 o2 (by rw [Tl_len]; exact o3)
  simp only [stdH, Tl_len (D := rowA) n g] at hc
  refine ⟨rowsA stdH fun _ => Tl rowA n g, _, _, own_row o0, hc, rfl, .tupL (.cons (.slc ⟨by omega, by simp⟩ (by omega)) (.cons (.pl .lit) .nil)), fun q b hq => ?_, fun j hj => rows_blx okRA _ j⟩
  rcases q with _ | _ | _ | _ | q
  all_goals first | (simp at hq; done) | (simp only [List.getElem?_cons_zero, List.getElem?_cons_succ, Option.some.injEq] at hq; subst hq; refine ⟨_, rfl, ?_⟩)
  · exact .cellsL (.cons (.slc ⟨by omega, by simp⟩ (by omega)) .nil)
  · exact .same (rowsB_bl fun j _ => rows_blx okI _ j))
noncomputable def e_fill2 : Entry := modNN 18 15 43 fun H n g nx => some (.tup [.slc nx 0 1 2, .lit (.bool (H Bool fun _ => true))], [.cells [.slc (nx + 1) 0 1 (H Nat fun _ => (gr n).2), .slc (nx + 2) 0 1 (H Nat fun _ => (gr n).2)] 31, .rows 1 (H Nat fun _ => (gr n).2) (rowsI H fun _ => gridR n 0 (gr n).2) 3, .rows 1 (H Nat fun _ => (gr n).2) (rowsI H fun _ => gridR n 1 (gr n).2) 3], rowsA H fun _ => Tl rowA n g, [H Prop fun _ => Shp rowA n g, H Prop fun _ => (Tl rowA n g).length ≤ 1000, H Prop fun _ => okQ (Tl rowA n g) = true, H Prop fun _ => (gr n).1 = 2])
theorem eok_fill2 : EntryOk Try.prog e_fill2 := modNN_ok (by unfold isBody; kernel_rfl) (by
  intro n g nx r nb g' ob e hob
  simp only [Option.some.injEq, Prod.mk.injEq] at e
  obtain ⟨rfl, rfl, rfl, rfl⟩ := e
  obtain ⟨o0, o1, o2, o3, _⟩ := hob
  have hc := c_fill2 (Tl rowA n g) o1 o2 (by rw [Tl_len]; exact o3)
  simp only [stdH, Tl_len (D := rowA) n g] at hc
  refine ⟨rowsA stdH fun _ => Tl rowA n g, _, _, own_row o0, hc, rfl, .tupL (.cons (.slc ⟨by omega, by simp⟩ (by omega)) (.cons (.pl .lit) .nil)), fun q b hq => ?_, fun j hj => rows_blx okRA _ j⟩
  rcases q with _ | _ | _ | _ | q
  all_goals first | (simp at hq; done) | (simp only [List.getElem?_cons_zero, List.getElem?_cons_succ, Option.some.injEq] at hq; subst hq; refine ⟨_, rfl, ?_⟩)
  · exact .cellsL (.cons (.slc ⟨by omega, by simp⟩ (by omega)) (.cons (.slc ⟨by omega, by simp⟩ (by omega)) .nil))
  · exact .same (rowsB_bl fun j _ => rows_blx okI _ j)
  · exact .same (rowsB_bl fun j _ => rows_blx okI _ j))
noncomputable def e_fill3 : Entry := modNN 18 15 43 fun H n g nx => some (.tup [.slc nx 0 1 3, .lit (.bool (H Bool fun _ => true))], [.cells [.slc (nx + 1) 0 1 (H Nat fun _ => (gr n).2), .slc (nx + 2) 0 1 (H Nat fun _ => (gr n).2), .slc (nx + 3) 0 1 (H Nat fun _ => (gr n).2)] 31, .rows 1 (H Nat fun _ => (gr n).2) (rowsI H fun _ => gridR n 0 (gr n).2) 3, .rows 1 (H Nat fun _ => (gr n).2) (rowsI H fun _ => gridR n 1 (gr n).2) 3, .rows 1 (H Nat fun _ => (gr n).2) (rowsI H fun _ => gridR n 2 (gr n).2) 3], rowsA H fun _ => Tl rowA n g, [H Prop fun _ => Shp rowA n g, H Prop fun _ => (Tl rowA n g).length ≤ 1000, H Prop fun _ => okQ (Tl rowA n g) = true, H Prop fun _ => (gr n).1 = 3])
theorem eok_fill3 : EntryOk Try.prog e_fill3 := modNN_ok (by unfold isBody; kernel_rfl) (by
  intro n g nx r nb g' ob e hob
  simp only [Option.some.injEq, Prod.mk.injEq] at e
  obtain ⟨rfl, rfl, rfl, rfl⟩ := e
  obtain ⟨o0, o1, o2, o3, _⟩ := hob
  have hc := c_fill3 (Tl rowA n g) o1 o2 (by rw [Tl_len]; exact o3)
  simp only [stdH, Tl_len (D := rowA) n g] at hc
  refine ⟨rowsA stdH fun _ => Tl rowA n g, _, _, own_row o0, hc, rfl, .tupL (.cons (.slc ⟨by omega, by simp⟩ (by omega)) (.cons (.pl .lit) .nil)), fun q b hq => ?_, fun j hj => rows_blx okRA _ j⟩
  rcases q with _ | _ | _ | _ | q
  all_goals first | (simp at hq; done) | (simp only [List.getElem?_cons_zero, List.getElem?_cons_succ, Option.some.injEq] at hq; subst hq; refine ⟨_, rfl, ?_⟩)
  · exact .cellsL (.cons (.slc ⟨by omega, by simp⟩ (by omega)) (.cons (.slc ⟨by omega, by simp⟩ (by omega)) (.cons (.slc ⟨by omega, by simp⟩ (by omega)) .nil)))
  · exact .same (rowsB_bl fun j _ => rows_blx okI _ j)
  · exact .same (rowsB_bl fun j _ => rows_blx okI _ j)
  · exact .same (rowsB_bl fun j _ => rows_blx okI _ j))

end Go.Proofs.Ytigkdbhcjjjjkaa.AM

