/- Lemmas and contracts (Dil Nea Clp Clw Shelf Shf Srz); conditions: none. -/
import Derived.Test.YtigkdbhcjjjjkaaK04
import Derived.Test.YtigkdbhcjjjjkaaK05
import Derived.Test.YtigkdbhcjjjjkaaK06
import Derived.Test.YtigkdbhcjjjjkaaK11
import Derived.Test.YtigkdbhcjjjjkaaK12
import Derived.Test.YtigkdbhcjjjjkaaK13
import Derived.Test.YtigkdbhcjjjjkaaK15
import Derived.Test.YtigkdbhcjjjjkaaK17
import Derived.Shelf.Small.Bits
import Derived.Shelf.Small.Wraps
import Derived.Shelf.Strconv.Itoa0
import Derived.Shelf.Sort.Plain
import Derived.Shelf.Slices.Equal
import Derived.Ground.Names2Prog
import Derived.Shelf.Slices.SearchI
import Derived.Shelf.Slices.Empties2
import Derived.Test.YtigkdbhcjjjjkaaProg
import Derived.Below
set_option linter.unusedVariables false
set_option linter.unusedSimpArgs false
set_option linter.unusedVariables false
set_option linter.unusedSimpArgs false
set_option maxRecDepth 100000
set_option maxHeartbeats 4000000
set_option cbv.maxSteps 3000000
namespace Go.Proofs.Ytigkdbhcjjjjkaa.AM
/- What the numbers of differences have in common; conditions: none. -/
theorem eqG_iff {a b : Grp} : eqG a b = true ↔ a = b := by
  obtain ⟨a0, a1, a2, a3⟩ := a; obtain ⟨b0, b1, b2, b3⟩ := b
  simp [eqG, allT]
theorem noG_iff {a : Grp} : noG a = true ↔ a = ⟨0, 0, 0, 0⟩ := by
  obtain ⟨a0, a1, a2, a3⟩ := a
  simp [noG, and_assoc]
theorem gd_self (a : Grp) : gd a a = 0 := by unfold gd; rw [eqG_iff.2 rfl]; rfl
theorem gd_ls (a b : Grp) : gd a b = ls a b := by
  by_cases h : a = b
  · subst h; rw [gd_self]; unfold ls; cases noG a <;> simp [nB]
  · have e : eqG a b = false := by cases h1 : eqG a b with | false => rfl | true => exact absurd (eqG_iff.1 h1) h
    unfold gd ls
    rw [e]
    cases ha : noG a <;> cases hb : noG b
    · simp only [Bool.or_self, cond_false, bne_self_eq_false]; omega
    · rfl
    · rfl
    · exact absurd ((noG_iff.1 ha).trans (noG_iff.1 hb).symm) h
theorem nB_sym (a b : Int) : nB (!decide (a = b)) = nB (!decide (b = a)) := by rw [show decide (a = b) = decide (b = a) from by simp [eq_comm]]
theorem ls_sym (a b : Grp) : ls a b = ls b a := by
  unfold ls
  rw [nB_sym a.c, nB_sym a.a, nB_sym a.t, show decide (a.k = b.k) = decide (b.k = a.k) from by simp [eq_comm], show (noG a != noG b) = (noG b != noG a) from by cases noG a <;> cases noG b <;> rfl]
theorem dF_sym (a b : Fld) : dF a b = dF b a := by
  unfold dF
  rw [nB_sym a.d, nB_sym a.l, show decide (tinF a = tinF b) = decide (tinF b = tinF a) from by simp [eq_comm]]
theorem od_sym (a b : Arm) : od a b = od b a := by
  unfold od
  rw [nB_sym a.l, nB_sym a.t, show decide (a.o = b.o) = decide (b.o = a.o) from by simp [eq_comm]]
theorem okA_f {a : Arm} (h : okA a = true) : okF a.f = true := by simp only [okA, Bool.and_eq_true] at h; exact h.1.1
theorem dI_dS {a b : Arm} (ha : okA a = true) (hb : okA b = true) : dI a b = dS a b := by
  unfold dI dS dv
  rw [okA_f ha, okA_f hb, gd_ls, gd_ls]
  simp only [Bool.and_self, cond_true]; omega
theorem dS_sym (a b : Arm) : dS a b = dS b a := by unfold dS; rw [dF_sym, ls_sym, ls_sym a.r, od_sym]
end Go.Proofs.Ytigkdbhcjjjjkaa.AM

set_option linter.unusedVariables false
set_option linter.unusedSimpArgs false
set_option maxRecDepth 100000
set_option maxHeartbeats 4000000
set_option cbv.maxSteps 3000000
namespace Go.Proofs.Ytigkdbhcjjjjkaa.AM
/- The nearest arms of a list, and the table of differences: the program's and the reference's; conditions: none. -/
def okLs (l : List Arm) : Bool := bif decide ((l.length : Int) ≤ 16) then !l.any (fun y => !okA y) else false
theorem okLs_in {l : List Arm} (h : okLs l = true) : l.length ≤ 16 ∧ ∀ a ∈ l, okA a = true := by
  unfold okLs at h
  by_cases h1 : (l.length : Int) ≤ 16
  · rw [decide_eq_true h1, cond_true, Bool.not_eq_true', List.any_eq_false] at h
    exact ⟨by omega, fun a ha => by simpa using h a ha⟩
  · rw [decide_eq_false h1] at h; cases h
theorem okLs_at {l : List Arm} (h : okLs l = true) {i : Nat} (hi : i < l.length) : okA (l.getD i default) = true := (okLs_in h).2 _ (getD_mem hi)
theorem c_l15List (l : List Arm) (h0 : l.length ≤ 100) : ConN Try.prog 30 [.vec 15 (stdH Nat fun _ => (l).length) (rowsA stdH fun _ => l)] [] 0 (.lit (.bool (stdH Bool fun _ => okLs l))) [] [] := by
  have hB : Base Try.prog (tabΓ [e_l5Good]) tabO := base_of tabOkO (ents_cons eok_l5Good <| ents_nil)
  refine con_m (N := 23) hB (draw_ok hB mixed) Try.func30 rfl rfl (fun H => [.vec 15 (H Nat fun _ => (l).length) (rowsA H fun _ => l)]) (fun _ => []) 0 (fun H => .lit (.bool (H Bool fun _ => okLs l))) (fun H => []) (fun _ => []) 300 (by simp) (fun x hx => ?_) (by simp [lk]) (by omega) (by simp) ?_
  · simp only [List.mem_cons, List.not_mem_nil, or_false] at hx
    rcases hx with rfl
    · exact vl_bl okRA l _
  intro X hX hX0 H hH
  conv in Fin.chk _ _ => cbv
  try simp only [Plain_rowsA, Plain_rowsB, Plain_rowsF, Plain_rowsG, Plain_rowsI, Plain_rowsS, Plain_rowsU, Fin.satC_ret, Fin.satC_br, Fin.satC_need, Fin.satC_again, AllP, and_true, true_and, upd, List.length_nil, List.length_cons, Nat.zero_add, if_true, ncast, Int.ofNat_eq_natCast]
  refine loop_a hB (draw_ok hB mixed) hX hX0 hH false (ι := { i : Nat // i ≤ l.length ∧ i ≤ 17 ∧ ∀ j, j < i → okA (l.getD j default) = true }) 300 (fun i => [.i (H Int fun _ => (i.1 : Nat))]) (fun i => l.length - i.1) (⟨0, by omega, by omega, by omega⟩) ?_ ?_
  · (conv in matchSt _ _ _ _ => cbv); simp only [AllG, AllP, and_true, hH, stdH, Nat.le_refl, ncast, Int.ofNat_eq_natCast, vrow_I, Arm.eta2, Fld.eta, Grp.eta]
    exact ⟨rfl, RowsEq.self okRA⟩
  · intro I hI i
    conv in Fin.chk _ _ => cbv
    try simp only [Plain_rowsA, Plain_rowsB, Plain_rowsF, Plain_rowsG, Plain_rowsI, Plain_rowsS, Plain_rowsU, Fin.satC_ret, Fin.satC_br, Fin.satC_need, Fin.satC_again, AllP, and_true, true_and, upd, List.length_nil, List.length_cons, Nat.zero_add, if_true, ncast, Int.ofNat_eq_natCast]
    obtain ⟨i, hi, hi2, hj⟩ := i
    refine ⟨fun h1 => ⟨?_, fun h2 => ?_, fun h2 => ?_⟩, fun h1 => ?_⟩
    · simp only [hH, stdH, Int.toNat_natCast] at h1
      have h1 := and_c2 h1
      try simp only [hH, stdH, Nat.le_refl, decide_eq_true_eq, decide_eq_false_iff_not, Bool.not_eq_true', Bool.not_eq_false', peta, ncast, Int.ofNat_eq_natCast, beq_iff_eq, bne_iff_ne, beq_eq_false_iff_ne, bne_eq_false_iff_eq, ne_eq, Classical.not_not, Int.toNat_natCast, vrow_I, Arm.eta2, Fld.eta, Grp.eta]
      omega
    · simp only [hH, stdH, Int.toNat_natCast] at h1
      have h1 := and_c2 h1
      simp only [hH, stdH, Nat.le_refl, decide_eq_true_eq, decide_eq_false_iff_not, Bool.not_eq_true', Bool.not_eq_false', peta, ncast, Int.ofNat_eq_natCast, beq_iff_eq, bne_iff_ne, beq_eq_false_iff_ne, bne_eq_false_iff_eq, ne_eq, Classical.not_not, Int.toNat_natCast, vrow_I, Arm.eta2, Fld.eta, Grp.eta] at h2
      try simp only [hH, stdH, Nat.le_refl, decide_eq_true_eq, decide_eq_false_iff_not, Bool.not_eq_true', Bool.not_eq_false', peta, ncast, Int.ofNat_eq_natCast, beq_iff_eq, bne_iff_ne, beq_eq_false_iff_ne, bne_eq_false_iff_eq, ne_eq, Classical.not_not, Int.toNat_natCast, vrow_I, Arm.eta2, Fld.eta, Grp.eta]
      unfold okLs
      have : (l.any fun y => !okA y) = true := List.any_eq_true.2 ⟨_, getD_mem (show i < l.length by omega), by rw [h2]; rfl⟩
      rw [this]
      cases decide ((l.length : Int) ≤ 16) <;> rfl
    · simp only [hH, stdH, Int.toNat_natCast] at h1
      have h1 := and_c2 h1
      simp only [hH, stdH, Nat.le_refl, decide_eq_true_eq, decide_eq_false_iff_not, Bool.not_eq_true', Bool.not_eq_false', peta, ncast, Int.ofNat_eq_natCast, beq_iff_eq, bne_iff_ne, beq_eq_false_iff_ne, bne_eq_false_iff_eq, ne_eq, Classical.not_not, Int.toNat_natCast, vrow_I, Arm.eta2, Fld.eta, Grp.eta] at h2
      refine ⟨⟨i + 1, by omega, by omega, fun j hj' => ?_⟩, by simp only; omega, ?_⟩
      · rcases Nat.lt_succ_iff_lt_or_eq.1 hj' with h | rfl
        · exact hj j h
        · exact h2
      · rw [hI]
        (conv in matchSt _ _ _ _ => cbv); simp only [AllG, AllP, and_true, hH, stdH, Nat.le_refl, ncast, Int.ofNat_eq_natCast, vrow_I, Arm.eta2, Fld.eta, Grp.eta]
        rw [w1 (by omega)]
        (repeat' (first | with_reducible exact True.intro | rfl | exact Nat.le_refl _ | exact RowsEq.self okRA | exact RowsEq.ofT okRA rfl (Shp_zero _) rfl | exact RowsEq.snoc okRA rfl | exact RowsEq.self okI | exact RowsEq.self okRA | exact List.length_append | refine And.intro ?_ ?_ | trivial))
    · simp only [hH, stdH, Int.toNat_natCast] at h1
      have h1 := and_n2 h1
      try simp only [hH, stdH, Nat.le_refl, decide_eq_true_eq, decide_eq_false_iff_not, Bool.not_eq_true', Bool.not_eq_false', peta, ncast, Int.ofNat_eq_natCast, beq_iff_eq, bne_iff_ne, beq_eq_false_iff_ne, bne_eq_false_iff_eq, ne_eq, Classical.not_not, Int.toNat_natCast, vrow_I, Arm.eta2, Fld.eta, Grp.eta]
      unfold okLs
      by_cases hl : (l.length : Int) ≤ 16
      · have : (l.any fun y => !okA y) = false := none_any default fun j q => by rw [hj j (by omega)]; rfl
        rw [decide_eq_true hl, this]; rfl
      · rw [decide_eq_false hl]; rfl
noncomputable def e_l15List : Entry := pureE 30 fun H a => match a with
  | [.vec 15 ln lf] => some (.lit (.bool (H Bool fun _ => okLs (Tl rowA ln lf))), [H Prop fun _ => Shp rowA ln lf, H Prop fun _ => (Tl rowA ln lf).length ≤ 100])
  | _ => none
theorem eok_l15List : EntryOk Try.prog e_l15List := pureM_ok (by unfold isBody; kernel_rfl) (by
  intro a r ob e hob
  split at e
  · rename_i ln lf
    simp only [Option.some.injEq, Prod.mk.injEq] at e
    obtain ⟨rfl, rfl⟩ := e
    exact ConN.args (.cons (.toT okRA rfl hob.1) .nil) (c_l15List (Tl rowA ln lf) hob.2.1)
  · simp at e)

end Go.Proofs.Ytigkdbhcjjjjkaa.AM

set_option linter.unusedVariables false
set_option linter.unusedSimpArgs false
set_option maxRecDepth 100000
set_option maxHeartbeats 4000000
set_option cbv.maxSteps 3000000
namespace Go.Proofs.Ytigkdbhcjjjjkaa.AM
/- Clusters: plain; conditions: none. -/
/-- The numbers below k that stand beside a, put behind the list. -/
def rowQ (r : Nat → Bool) (own : List Nat) : Nat → List Nat
  | 0 => own
  | k + 1 => if (!(rowQ r own k).contains k && r k) = true then rowQ r own k ++ [k] else rowQ r own k
theorem rowQ_pre (r : Nat → Bool) (own : List Nat) : ∀ k, ∃ t, rowQ r own k = own ++ t ∧ ∀ x ∈ t, x < k ∧ r x = true
  | 0 => ⟨[], by simp [rowQ], by simp⟩
  | k + 1 => by
    obtain ⟨t, h1, h2⟩ := rowQ_pre r own k
    unfold rowQ
    split
    · rename_i h
      rw [Bool.and_eq_true] at h
      refine ⟨t ++ [k], by rw [h1, List.append_assoc], fun x hx => ?_⟩
      rcases List.mem_append.1 hx with hx | hx
      · exact ⟨Nat.lt_succ_of_lt (h2 x hx).1, (h2 x hx).2⟩
      · rw [List.mem_singleton] at hx
        subst hx
        exact ⟨Nat.lt_succ_self _, h.2⟩
    · exact ⟨t, h1, fun x hx => ⟨Nat.lt_succ_of_lt (h2 x hx).1, (h2 x hx).2⟩⟩
theorem rowQ_nd {r : Nat → Bool} {own : List Nat} (h : own.Nodup) : ∀ k, (rowQ r own k).Nodup
  | 0 => h
  | k + 1 => by
    have ih := rowQ_nd (r := r) h k
    unfold rowQ
    split
    · rename_i q
      rw [Bool.and_eq_true, Bool.not_eq_true'] at q
      have q1 : k ∉ rowQ r own k := fun hm => by
        have := List.contains_iff_mem.2 hm
        rw [this] at q
        exact absurd q.1 (by decide)
      rw [List.nodup_append]
      exact ⟨ih, by simp, fun a ha b hb e => by rw [List.mem_singleton] at hb; subst hb; subst e; exact q1 ha⟩
    · exact ih
theorem rowQ_all {r : Nat → Bool} {own : List Nat} : ∀ {k j : Nat}, j < k → r j = true → j ∈ rowQ r own k
  | k + 1, j, hj, hr => by
    have sub : ∀ x, x ∈ rowQ r own k → x ∈ rowQ r own (k + 1) := fun x hx => by
      unfold rowQ
      split
      · exact List.mem_append_left _ hx
      · exact hx
    rcases Nat.lt_succ_iff_lt_or_eq.1 hj with h | rfl
    · exact sub _ (rowQ_all h hr)
    · by_cases hm : j ∈ rowQ r own j
      · exact sub _ hm
      · unfold rowQ
        rw [if_pos (by rw [hr, Bool.and_true, Bool.not_eq_true']; exact Bool.eq_false_iff.2 fun q => hm (List.contains_iff_mem.1 q))]
        exact List.mem_append_right _ (List.mem_singleton.2 rfl)
/-- All that is reached from the numbers of the list. -/
def bfs (r : Nat → Nat → Bool) (n : Nat) : Nat → List Nat → Nat → List Nat
  | 0, own, _ => own
  | f + 1, own, a => if a < own.length then bfs r n f (rowQ (r (own.getD a 0)) own n) (a + 1) else own
structure Bfs (r : Nat → Nat → Bool) (n : Nat) (own : List Nat) (a : Nat) : Prop where
  nd : own.Nodup
  lt : ∀ x ∈ own, x < n
  cl : ∀ j, j < a → j < own.length → ∀ k, k < n → r (own.getD j 0) k = true → k ∈ own
theorem nd_len : ∀ {n : Nat} {l : List Nat}, l.Nodup → (∀ x ∈ l, x < n) → l.length ≤ n
  | 0, l, _, h2 => by
    cases l with
    | nil => exact Nat.le_refl _
    | cons x l => exact absurd (h2 x List.mem_cons_self) (Nat.not_lt_zero x)
  | n + 1, l, h1, h2 => by
    have h3 : (l.erase n).length ≤ n := nd_len (h1.erase n) fun x hx => by
      have hm := (h1.mem_erase_iff).1 hx
      have := h2 x hm.2
      have := hm.1
      omega
    by_cases hm : n ∈ l
    · rw [List.length_erase_of_mem hm] at h3
      omega
    · rw [List.erase_of_not_mem hm] at h3
      omega
theorem nd_full : ∀ {n : Nat} {l : List Nat}, l.Nodup → (∀ x ∈ l, x < n) → (∀ j, j < n → j ∈ l) → l.length = n
  | 0, l, h1, h2, _ => by have := nd_len h1 h2; omega
  | n + 1, l, h1, h2, h3 => by
    have h4 : (l.erase n).length = n := nd_full (h1.erase n) (fun x hx => by
      have hm := (h1.mem_erase_iff).1 hx
      have := h2 x hm.2
      have := hm.1
      omega) fun j hj => (h1.mem_erase_iff).2 ⟨by omega, h3 j (by omega)⟩
    have h5 := h3 n (by omega)
    rw [List.length_erase_of_mem h5] at h4
    have : 0 < l.length := List.length_pos_of_mem h5
    omega
theorem getN {l : List Nat} {i : Nat} (h : i < l.length) : l.getD i 0 = l[i] := by rw [List.getD_eq_getElem?_getD, List.getElem?_eq_getElem h, Option.getD_some]
theorem Bfs.step {r : Nat → Nat → Bool} {n : Nat} {own : List Nat} {a : Nat} (h : Bfs r n own a) (ha : a < own.length) : Bfs r n (rowQ (r (own.getD a 0)) own n) (a + 1) ∧ own.length ≤ (rowQ (r (own.getD a 0)) own n).length ∧ ∀ x ∈ own, x ∈ rowQ (r (own.getD a 0)) own n := by
  obtain ⟨t, e, ht⟩ := rowQ_pre (r (own.getD a 0)) own n
  refine ⟨⟨rowQ_nd h.nd n, fun x hx => ?_, fun j hj hl k hk hr => ?_⟩, by rw [e, List.length_append]; omega, fun x hx => by rw [e]; exact List.mem_append_left _ hx⟩
  · rw [e] at hx
    rcases List.mem_append.1 hx with hx | hx
    · exact h.lt x hx
    · exact (ht x hx).1
  · have hjo : j < own.length := by omega
    have e1 : (rowQ (r (own.getD a 0)) own n).getD j 0 = own.getD j 0 := by
      rw [e, List.getD_eq_getElem?_getD, List.getD_eq_getElem?_getD, List.getElem?_append_left hjo]
    rw [e1] at hr
    rcases Nat.lt_succ_iff_lt_or_eq.1 hj with hq | rfl
    · rw [e]; exact List.mem_append_left _ (h.cl j hq hjo k hk hr)
    · exact rowQ_all hk hr
/-- What is reached is closed. -/
theorem bfs_ok {r : Nat → Nat → Bool} {n : Nat} : ∀ {f : Nat} {own : List Nat} {a : Nat}, Bfs r n own a → a ≤ own.length → n ≤ f + a → (bfs r n f own a).Nodup ∧ (∀ x ∈ bfs r n f own a, x < n) ∧ (∀ x ∈ bfs r n f own a, ∀ k, k < n → r x k = true → k ∈ bfs r n f own a) ∧ ∀ x ∈ own, x ∈ bfs r n f own a
  | 0, own, a, h, ha, hf => by
    have hl := nd_len h.nd h.lt
    refine ⟨h.nd, h.lt, fun x hx k hk hr => ?_, fun x hx => hx⟩
    obtain ⟨j, hj, rfl⟩ := List.getElem_of_mem (show x ∈ own from hx)
    exact h.cl j (by omega) hj k hk (by rw [getN hj]; exact hr)
  | f + 1, own, a, h, ha, hf => by
    unfold bfs
    split
    · rename_i q
      obtain ⟨h1, h2, h3⟩ := h.step q
      obtain ⟨g1, g2, g3, g4⟩ := bfs_ok (f := f) h1 (by omega) (by omega)
      exact ⟨g1, g2, g3, fun x hx => g4 x (h3 x hx)⟩
    · refine ⟨h.nd, h.lt, fun x hx k hk hr => ?_, fun x hx => hx⟩
      obtain ⟨j, hj, rfl⟩ := List.getElem_of_mem hx
      exact h.cl j (by omega) hj k hk (by rw [getN hj]; exact hr)
theorem bfs_P {r : Nat → Nat → Bool} {n : Nat} {P : Nat → Prop} (hP : ∀ x k, P x → k < n → r x k = true → P k) : ∀ {f : Nat} {own : List Nat} {a : Nat}, (∀ x ∈ own, P x) → ∀ x ∈ bfs r n f own a, P x
  | 0, own, a, h => h
  | f + 1, own, a, h => by
    unfold bfs
    split
    · rename_i q
      refine bfs_P hP (fun x hx => ?_)
      obtain ⟨t, e, ht⟩ := rowQ_pre (r (own.getD a 0)) own n
      rw [e] at hx
      rcases List.mem_append.1 hx with hx | hx
      · exact h x hx
      · exact hP _ x (h _ (by rw [getN q]; exact List.getElem_mem q)) (ht x hx).1 (ht x hx).2
    · exact h
def grpB (r : Nat → Nat → Bool) (n i : Nat) : List Nat := bfs r n n [i] 0
/-- The groups one by one, and all that is in one of them. -/
def cluB (r : Nat → Nat → Bool) (n : Nat) : Nat → List (List Nat) × List Nat
  | 0 => ([], [])
  | i + 1 => if (cluB r n i).2.contains i = true then cluB r n i else ((cluB r n i).1 ++ [grpB r n i], (cluB r n i).2 ++ grpB r n i)
structure Clu (r : Nat → Nat → Bool) (n i : Nat) (out : List (List Nat)) (E : List Nat) : Prop where
  nd : E.Nodup
  lt : ∀ x ∈ E, x < n
  cl : ∀ x ∈ E, ∀ k, k < n → r x k = true → k ∈ E
  all : ∀ j, j < i → j ∈ E
  flat : out.flatten = E
theorem grpB_ok {r : Nat → Nat → Bool} {n i : Nat} (hi : i < n) : (grpB r n i).Nodup ∧ (∀ x ∈ grpB r n i, x < n) ∧ (∀ x ∈ grpB r n i, ∀ k, k < n → r x k = true → k ∈ grpB r n i) ∧ i ∈ grpB r n i := by
  have h : Bfs r n [i] 0 := ⟨by simp, fun x hx => by rw [List.mem_singleton] at hx; omega, fun j hj => absurd hj (Nat.not_lt_zero j)⟩
  obtain ⟨h1, h2, h3, h4⟩ := bfs_ok (f := n) h (Nat.zero_le _) (by omega)
  exact ⟨h1, h2, h3, h4 i (by simp)⟩
theorem grpB_out {r : Nat → Nat → Bool} {n i : Nat} {out : List (List Nat)} {E : List Nat} (hs : ∀ x k, r x k = r k x) (h : Clu r n i out E) (hi : i ∉ E) (hin : i < n) : ∀ x ∈ grpB r n i, x ∉ E := by
  have := bfs_P (r := r) (n := n) (P := fun x => x ∉ E ∧ x < n) (fun x k hx hk hr => ⟨fun hm => hx.1 (h.cl k hm x hx.2 (by rw [hs]; exact hr)), hk⟩) (f := n) (own := [i]) (a := 0) (fun x hx => by rw [List.mem_singleton] at hx; subst hx; exact ⟨hi, hin⟩)
  exact fun x hx => (this x hx).1
theorem cluB_ok {r : Nat → Nat → Bool} {n : Nat} (hs : ∀ x k, r x k = r k x) : ∀ i, i ≤ n → Clu r n i (cluB r n i).1 (cluB r n i).2
  | 0, _ => ⟨by simp [cluB], by simp [cluB], by simp [cluB], fun j hj => absurd hj (Nat.not_lt_zero j), by simp [cluB]⟩
  | i + 1, hi => by
    have ih := cluB_ok (r := r) (n := n) hs i (by omega)
    unfold cluB
    split
    · rename_i hc
      refine ⟨ih.nd, ih.lt, ih.cl, fun j hj => ?_, ih.flat⟩
      rcases Nat.lt_succ_iff_lt_or_eq.1 hj with h | rfl
      · exact ih.all j h
      · exact List.contains_iff_mem.1 hc
    · rename_i hc
      have hn : i ∉ (cluB r n i).2 := fun hm => hc (List.contains_iff_mem.2 hm)
      obtain ⟨g1, g2, g3, g4⟩ := grpB_ok (r := r) (n := n) (i := i) (by omega)
      have g5 := grpB_out hs ih hn (by omega)
      refine ⟨?_, fun x hx => ?_, fun x hx k hk hr => ?_, fun j hj => ?_, ?_⟩
      · rw [List.nodup_append]
        exact ⟨ih.nd, g1, fun a ha b hb e => by subst e; exact g5 a hb ha⟩
      · rcases List.mem_append.1 hx with hx | hx
        · exact ih.lt x hx
        · exact g2 x hx
      · rcases List.mem_append.1 hx with hx | hx
        · exact List.mem_append_left _ (ih.cl x hx k hk hr)
        · exact List.mem_append_right _ (g3 x hx k hk hr)
      · rcases Nat.lt_succ_iff_lt_or_eq.1 hj with h | rfl
        · exact List.mem_append_left _ (ih.all j h)
        · exact List.mem_append_right _ g4
      · rw [List.flatten_append, ih.flat]
        simp
theorem cluB_len {r : Nat → Nat → Bool} {n : Nat} (hs : ∀ x k, r x k = r k x) : (cluB r n n).1.flatten.length = n := by
  have h := cluB_ok hs n (Nat.le_refl _)
  rw [h.flat]
  exact nd_full h.nd h.lt h.all

end Go.Proofs.Ytigkdbhcjjjjkaa.AM

set_option linter.unusedVariables false
set_option linter.unusedSimpArgs false
set_option maxRecDepth 100000
set_option maxHeartbeats 4000000
set_option cbv.maxSteps 3000000
namespace Go.Proofs.Ytigkdbhcjjjjkaa.AM
/- Clusters: the words of both walks; conditions: none. -/
def tabB : Tab := ⟨tabL, false, 1000 + 31⟩
theorem tabOkB : TabOk Try.prog tabB := tabOk
def adjA (l : List Arm) (t : Int) (i k : Nat) : Bool := decide (dS (l.getD i default) (l.getD k default) ≤ t)
theorem adjA_sym (l : List Arm) (t : Int) (i k : Nat) : adjA l t i k = adjA l t k i := by unfold adjA; rw [dS_sym]
def toZ (L : List Nat) : List Int := L.map fun (x : Nat) => (x : Int)
theorem toZ_len (L : List Nat) : (toZ L).length = L.length := by unfold toZ; rw [List.length_map]
theorem toZ_snoc (L : List Nat) (x : Nat) : toZ (L ++ [x]) = toZ L ++ [(x : Int)] := by unfold toZ; rw [List.map_append]; rfl
theorem toZ_at {L : List Nat} {i : Nat} (h : i < L.length) : (toZ L).getD i 0 = ((L.getD i 0 : Nat) : Int) := by
  unfold toZ
  rw [List.getD_eq_getElem?_getD, List.getElem?_map, List.getD_eq_getElem?_getD, List.getElem?_eq_getElem h]
  rfl
theorem toZ_mem {L : List Nat} {x : Nat} : (x : Int) ∈ toZ L ↔ x ∈ L := by
  unfold toZ
  rw [List.mem_map]
  constructor
  · rintro ⟨y, hy, e⟩
    rwa [show x = y by omega]
  · exact fun h => ⟨x, h, rfl⟩
/-- Which numbers are in a list. -/
def seenL (n : Nat) (E : List Nat) : List Bool := (List.range n).map fun k => E.contains k
theorem seenL_len (n : Nat) (E : List Nat) : (seenL n E).length = n := by unfold seenL; rw [List.length_map, List.length_range]
theorem seenL_at {n : Nat} {E : List Nat} {k : Nat} (h : k < n) : (seenL n E).getD k false = E.contains k := by
  unfold seenL
  rw [List.getD_eq_getElem?_getD, List.getElem?_map, List.getElem?_range h]
  rfl
theorem seenL_set {n : Nat} {E : List Nat} {k : Nat} (h : k < n) : (seenL n E).set k true = seenL n (E ++ [k]) := by
  apply List.ext_getElem
  · rw [List.length_set, seenL_len, seenL_len]
  · intro i h1 h2
    rw [List.length_set, seenL_len] at h1
    have e : ∀ (F : List Nat) (hi : i < (seenL n F).length), (seenL n F)[i] = F.contains i := fun F hi => by
      have := seenL_at (E := F) h1
      rwa [List.getD_eq_getElem?_getD, List.getElem?_eq_getElem hi, Option.getD_some] at this
    rw [List.getElem_set]
    split
    · rename_i q
      subst q
      rw [e]
      simp
    · rename_i q
      rw [e, e, Bool.eq_iff_iff, List.contains_iff_mem, List.contains_iff_mem, List.mem_append, List.mem_singleton]
      constructor
      · exact .inl
      · rintro (h | h)
        · exact h
        · omega
/-- Numbers in ascending order. -/
def srtZ (L : List Int) : List Int := L.mergeSort fun x y => decide (x ≤ y)
theorem srtZ_len (L : List Int) : (srtZ L).length = L.length := List.length_mergeSort ..
def okCl (l : List Arm) (t : Int) : Bool := okLs l && inB t 0 10
def cluZ (l : List Arm) (t : Int) (i : Nat) : List (List Int) := (cluB (adjA l t) l.length i).1.map fun G => srtZ (toZ G)
theorem cluZ_no {l : List Arm} {t : Int} {i : Nat} (h : (cluB (adjA l t) l.length i).2.contains i = true) : cluZ l t (i + 1) = cluZ l t i ∧ (cluB (adjA l t) l.length (i + 1)).2 = (cluB (adjA l t) l.length i).2 := by
  unfold cluZ
  rw [show cluB (adjA l t) l.length (i + 1) = cluB (adjA l t) l.length i from if_pos h]
  exact ⟨rfl, rfl⟩
theorem cluZ_yes {l : List Arm} {t : Int} {i : Nat} (h : (cluB (adjA l t) l.length i).2.contains i = false) : cluZ l t (i + 1) = cluZ l t i ++ [srtZ (toZ (grpB (adjA l t) l.length i))] ∧ (cluB (adjA l t) l.length (i + 1)).2 = (cluB (adjA l t) l.length i).2 ++ grpB (adjA l t) l.length i := by
  unfold cluZ
  rw [show cluB (adjA l t) l.length (i + 1) = ((cluB (adjA l t) l.length i).1 ++ [grpB (adjA l t) l.length i], (cluB (adjA l t) l.length i).2 ++ grpB (adjA l t) l.length i) from if_neg (by rw [h]; simp)]
  exact ⟨by rw [List.map_append]; rfl, rfl⟩
theorem cluN_len {r : Nat → Nat → Bool} {n : Nat} : ∀ i, (cluB r n i).1.length ≤ i
  | 0 => Nat.le_refl 0
  | i + 1 => by
    have := cluN_len (r := r) (n := n) i
    unfold cluB
    split
    · omega
    · rw [List.length_append, List.length_singleton]; omega
/-- A group under way. -/
structure Mid (r : Nat → Nat → Bool) (n i : Nat) (E : List Nat) (f : Nat) (own : List Nat) (a : Nat) : Prop where
  b : Bfs r n own a
  al : a ≤ own.length
  fu : n ≤ f + a
  eq : bfs r n f own a = grpB r n i
  out : ∀ x ∈ own, x ∉ E
theorem Mid.start {r : Nat → Nat → Bool} {n i : Nat} {E : List Nat} (hi : i < n) (hE : i ∉ E) : Mid r n i E n [i] 0 :=
  ⟨⟨by simp, fun x hx => by rw [List.mem_singleton] at hx; omega, fun j hj => absurd hj (Nat.not_lt_zero j)⟩, Nat.zero_le _, by omega, rfl, fun x hx => by rw [List.mem_singleton] at hx; rwa [hx]⟩
theorem Mid.free {r : Nat → Nat → Bool} {n i f a : Nat} {E own : List Nat} (hs : ∀ x k, r x k = r k x) (hE : ∀ x ∈ E, ∀ k, k < n → r x k = true → k ∈ E) (h : Mid r n i E f own a) (ha : a < own.length) {k : Nat} (hr : r (own.getD a 0) k = true) : k ∉ E := fun hk => by
  have hm : own.getD a 0 ∈ own := by rw [getN ha]; exact List.getElem_mem ha
  exact h.out _ hm (hE k hk _ (h.b.lt _ hm) (by rw [hs]; exact hr))
theorem Mid.step {r : Nat → Nat → Bool} {n i f a : Nat} {E own : List Nat} (hs : ∀ x k, r x k = r k x) (hE : ∀ x ∈ E, ∀ k, k < n → r x k = true → k ∈ E) (h : Mid r n i E f own a) (ha : a < own.length) : ∃ f', Mid r n i E f' (rowQ (r (own.getD a 0)) own n) (a + 1) := by
  obtain ⟨b1, b2, b3⟩ := h.b.step ha
  have hl := nd_len h.b.nd h.b.lt
  have hf := h.fu
  cases f with
  | zero => omega
  | succ f =>
    refine ⟨f, b1, by omega, by omega, ?_, fun x hx => ?_⟩
    · rw [← h.eq]
      exact (if_pos ha).symm
    · obtain ⟨u, e, hu⟩ := rowQ_pre (r (own.getD a 0)) own n
      rw [e] at hx
      rcases List.mem_append.1 hx with hx | hx
      · exact h.out x hx
      · exact h.free hs hE ha (hu x hx).2
theorem Mid.stop {r : Nat → Nat → Bool} {n i f a : Nat} {E own : List Nat} (h : Mid r n i E f own a) (ha : ¬ a < own.length) : own = grpB r n i := by
  rw [← h.eq]
  cases f with
  | zero => rfl
  | succ f => exact (if_neg ha).symm
theorem Mid.cond {r : Nat → Nat → Bool} {n i f a : Nat} {E own : List Nat} (hs : ∀ x k, r x k = r k x) (hE : ∀ x ∈ E, ∀ k, k < n → r x k = true → k ∈ E) (h : Mid r n i E f own a) (ha : a < own.length) (k : Nat) : (bif !(E ++ rowQ (r (own.getD a 0)) own k).contains k then r (own.getD a 0) k else false) = (!(rowQ (r (own.getD a 0)) own k).contains k && r (own.getD a 0) k) := by
  cases hr : r (own.getD a 0) k with
  | false => cases (E ++ rowQ (r (own.getD a 0)) own k).contains k <;> simp
  | true =>
    have hn := h.free hs hE ha hr
    have e : (E ++ rowQ (r (own.getD a 0)) own k).contains k = (rowQ (r (own.getD a 0)) own k).contains k := by
      rw [Bool.eq_iff_iff, List.contains_iff_mem, List.contains_iff_mem, List.mem_append]
      exact ⟨fun h => h.resolve_left hn, .inr⟩
    rw [e]
    cases (rowQ (r (own.getD a 0)) own k).contains k <;> rfl
theorem rowQ_at {r : Nat → Bool} {own : List Nat} {a k : Nat} (ha : a < own.length) : a < (rowQ r own k).length ∧ (rowQ r own k).getD a 0 = own.getD a 0 := by
  obtain ⟨u, e, hu⟩ := rowQ_pre r own k
  rw [e]
  exact ⟨by rw [List.length_append]; omega, by rw [List.getD_eq_getElem?_getD, List.getD_eq_getElem?_getD, List.getElem?_append_left ha]⟩
theorem rowQ_yes {r : Nat → Bool} {own : List Nat} {k : Nat} (h : (!(rowQ r own k).contains k && r k) = true) : rowQ r own (k + 1) = rowQ r own k ++ [k] := if_pos h
theorem rowQ_no {r : Nat → Bool} {own : List Nat} {k : Nat} (h : (!(rowQ r own k).contains k && r k) = false) : rowQ r own (k + 1) = rowQ r own k := if_neg (by rw [h]; simp)
theorem rowQ_len (r : Nat → Bool) (own : List Nat) : ∀ k, (rowQ r own k).length ≤ own.length + k
  | 0 => Nat.le_refl _
  | k + 1 => by
    have := rowQ_len r own k
    unfold rowQ
    split
    · rw [List.length_append, List.length_singleton]; omega
    · omega
theorem toZ_nd {L : List Nat} (h : L.Nodup) : (toZ L).Nodup := by
  unfold toZ
  refine List.Pairwise.map _ (fun a b hn e => hn ?_) h
  omega
theorem srtZ_mem {L : List Int} {x : Int} : x ∈ srtZ L ↔ x ∈ L := (List.mergeSort_perm L _).mem_iff
theorem cluZ_has (l : List Arm) (t : Int) {i : Nat} (hi : i ≤ l.length) (k : Nat) : (cluZ l t i).flatten.contains (k : Int) = (cluB (adjA l t) l.length i).2.contains k := by
  have h := (cluB_ok (adjA_sym l t) i hi).flat
  rw [Bool.eq_iff_iff, List.contains_iff_mem, List.contains_iff_mem, ← h, List.mem_flatten, List.mem_flatten]
  unfold cluZ
  constructor
  · rintro ⟨G, hG, hk⟩
    obtain ⟨F, hF, rfl⟩ := List.mem_map.1 hG
    exact ⟨F, hF, toZ_mem.1 (srtZ_mem.1 hk)⟩
  · rintro ⟨F, hF, hk⟩
    exact ⟨srtZ (toZ F), List.mem_map.2 ⟨F, hF, rfl⟩, srtZ_mem.2 (toZ_mem.2 hk)⟩
theorem flatZ_len (L : List (List Nat)) : (L.map fun G => srtZ (toZ G)).flatten.length = L.flatten.length := by
  induction L with
  | nil => rfl
  | cons G L ih => rw [List.map_cons, List.flatten_cons, List.flatten_cons, List.length_append, List.length_append, ih, srtZ_len, toZ_len]
theorem cluZ_flen (l : List Arm) (t : Int) {i : Nat} (hi : i ≤ l.length) : (cluZ l t i).flatten.length ≤ l.length := by
  have h := cluB_ok (adjA_sym l t) i hi
  unfold cluZ
  rw [flatZ_len, h.flat]
  exact nd_len h.nd h.lt
theorem cluZ_rlen (l : List Arm) (t : Int) (i : Nat) : (cluZ l t i).length ≤ i := by
  unfold cluZ
  rw [List.length_map]
  exact cluN_len i
theorem RowsEq.setB {L M : List Bool} {i : Nat} (e : L.set i true = M) : RowsEq 1 M.length (rowsB stdH fun _ => M) L.length (put1 i [.lit (.bool true)] (rowsB stdH fun _ => L)) := by
  subst e
  exact RowsEq.ofT okB' rfl (Shp_put1 (Shp_rowsT (D := rowB) okB' L.length fun _ => L) rfl) (by rw [Tl_put1]; exact congrArg (fun l => List.set l i true) (Tl_rowsT okB' L).symm)
theorem RowsEq.noB (n : Nat) {f : Nat → List AV} (hf : ∀ j, f j = [.lit (.bool false)]) : RowsEq 1 (seenL n []).length (rowsB stdH fun _ => seenL n []) n f := ⟨seenL_len n [], fun j hj => by
  have hj : j < n := by rw [seenL_len] at hj; exact hj
  refine ⟨?_, rfl, fun x hx => by obtain rfl := List.mem_singleton.1 hx; exact .lit⟩
  rw [hf]
  show [AV.lit (.bool ((seenL n []).getD j false))] = _
  rw [seenL_at hj]; rfl⟩
theorem RowsEq.oneZ (i : Nat) : RowsEq 1 (toZ [i]).length (rowsI stdH fun _ => toZ [i]) 1 (rowsOf 1 [.lit (.int .i64 (i : Int))]) := ⟨rfl, fun j hj => by
  obtain rfl : j = 0 := Nat.lt_one_iff.1 hj
  exact ⟨rfl, rfl, fun x hx => by obtain rfl := List.mem_singleton.1 hx; exact .lit⟩⟩
theorem Mid.dif {l : List Arm} {t : Int} (hl : okLs l = true) {x k : Nat} (hx : x < l.length) (hk : k < l.length) : decide (dI (l.getD x default) (l.getD k default) ≤ t) = adjA l t x k := by
  unfold adjA
  rw [dI_dS (okLs_at hl hx) (okLs_at hl hk)]
theorem Mid.difS (l : List Arm) (t : Int) (x k : Nat) : decide (dS (l.getD x default) (l.getD k default) ≤ t) = adjA l t x k := rfl
theorem bifA (a b : Bool) : (bif a then b else false) = (a && b) := by cases a <;> rfl
theorem toZ_has (L : List Nat) (k : Nat) : List.elem (k : Int) (toZ L) = L.contains k := by
  rw [Bool.eq_iff_iff]
  show (toZ L).contains (k : Int) = true ↔ _
  rw [List.contains_iff_mem, List.contains_iff_mem, toZ_mem]
theorem PlZ (n : Nat) (L : List Int) : Plain n (rowsI stdH fun _ => L) := of_eq_true (Plain_rowsI n stdH fun _ => L)
theorem dr1Z (f : Nat → List AV) : dropR 0 1 f = f := by
  funext j
  show f (0 / 1 + j) = f j
  rw [Nat.zero_div, Nat.zero_add]
theorem PlZ1 (L : List Int) (x : Int) : Plain (L.length + 1) (app L.length (rowsI stdH fun _ => L) (dropR 0 1 (rowsOf 1 [.lit (.int .i64 x)]))) := by
  rw [dr1Z]
  refine Plain.app (PlZ _ L) ⟨fun j hj y hy => ?_⟩
  obtain rfl : j = 0 := by omega
  obtain rfl := List.mem_singleton.1 (show y ∈ [AV.lit (.int .i64 x)] from hy)
  rfl
theorem PlZ2 (L M : List Int) : Plain (L.length + M.length) (app L.length (rowsI stdH fun _ => L) (dropR 0 1 (rowsI stdH fun _ => M))) := by
  rw [dr1Z]
  exact Plain.app (PlZ _ L) (PlZ _ M)
theorem RowsEq.snocZ {L M : List Int} {x : Int} (e : M = L ++ [x]) : RowsEq 1 M.length (rowsI stdH fun _ => M) (L.length + 1) (app L.length (rowsI stdH fun _ => L) (dropR 0 1 (rowsOf 1 [.lit (.int .i64 x)]))) := by
  subst e
  rw [dr1Z]
  exact RowsEq.snoc okI rfl
theorem RowsEq.catZ {L M F : List Int} (e : F = L ++ M) : RowsEq 1 F.length (rowsI stdH fun _ => F) (L.length + M.length) (app L.length (rowsI stdH fun _ => L) (dropR 0 1 (rowsI stdH fun _ => M))) := by
  subst e
  rw [dr1Z]
  exact RowsEq.more okI (Shp_I _ _) (Tl_I _)

end Go.Proofs.Ytigkdbhcjjjjkaa.AM

namespace Go.Proofs
open Go.Shelf
def Try.lays122_ren : Go.Shelf.Ren := ⟨fun | 122 => 67 | 215 => 106 | n => n, fun | 3 => 3 | 4 => 4 | n => n, fun | n => n⟩
theorem Try.lays122 : Go.Proofs.Lays.n122 Try.prog Try.lays122_ren := {
  mixed := by kernel_rfl
  f122 := Try.func67.trans (congrArg some (by kernel_rfl))
  f215 := Try.func106.trans (congrArg some (by kernel_rfl))
  t3 := Try.underlying3
  a3 := Try.isAgg3
  z3 := Try.sizeOf3
  v3 := Try.zeroValue3
  t4 := Try.underlying4
  a4 := Try.isAgg4
  z4 := Try.sizeOf4
  v4 := Try.zeroValue4 }
open Go.RowKit in
/-- cmp.Compare at int: "Compare returns -1 if x is less than y, 0 if x equals y, +1 if x is greater than y.": IT RETURNS 'Lib.compareInt x y'; the world is as it was. (LAID: no walk: one application.) -/
theorem Try.cmp_Compare_int (x y : Int) (w : World) :
    Calls Try.prog 67 #[.int .i64 x, .int .i64 y] w fun e w' => e = .returned (.int .i64 (Lib.compareInt x y)) ∧ w' = w := Any.cmp_Compare_int Try.lays122 x y w
def Try.lays189_ren : Go.Shelf.Ren := ⟨fun | 189 => 29 | 125 => 62 | 257 => 61 | 128 => 98 | 129 => 99 | 294 => 89 | 295 => 90 | 296 => 91 | 297 => 92 | 298 => 93 | 299 => 94 | 216 => 95 | 300 => 96 | 301 => 97 | 328 => 111 | 329 => 112 | 330 => 113 | 331 => 114 | 332 => 115 | 215 => 106 | 343 => 119 | n => n, fun | 28 => 31 | 3 => 3 | 46 => 92 | 0 => 0 | 51 => 118 | 53 => 53 | 4 => 4 | 183 => 111 | 182 => 110 | 131 => 86 | 5 => 5 | 9 => 9 | 218 => 121 | 222 => 125 | 228 => 129 | 229 => 72 | n => n, fun | n => n⟩
theorem Try.lays189 : Go.Proofs.Lays.n189 Try.prog Try.lays189_ren := {
  mixed := by kernel_rfl
  f125 := Try.func62.trans (congrArg some (by kernel_rfl))
  f128 := Try.func98.trans (congrArg some (by kernel_rfl))
  f129 := Try.func99.trans (congrArg some (by kernel_rfl))
  f189 := Try.func29.trans (congrArg some (by kernel_rfl))
  f215 := Try.func106.trans (congrArg some (by kernel_rfl))
  f216 := Try.func95.trans (congrArg some (by kernel_rfl))
  f257 := Try.func61.trans (congrArg some (by kernel_rfl))
  f294 := Try.func89.trans (congrArg some (by kernel_rfl))
  f295 := Try.func90.trans (congrArg some (by kernel_rfl))
  f296 := Try.func91.trans (congrArg some (by kernel_rfl))
  f297 := Try.func92.trans (congrArg some (by kernel_rfl))
  f298 := Try.func93.trans (congrArg some (by kernel_rfl))
  f299 := Try.func94.trans (congrArg some (by kernel_rfl))
  f300 := Try.func96.trans (congrArg some (by kernel_rfl))
  f301 := Try.func97.trans (congrArg some (by kernel_rfl))
  f328 := Try.func111.trans (congrArg some (by kernel_rfl))
  f329 := Try.func112.trans (congrArg some (by kernel_rfl))
  f330 := Try.func113.trans (congrArg some (by kernel_rfl))
  f331 := Try.func114.trans (congrArg some (by kernel_rfl))
  f332 := Try.func115.trans (congrArg some (by kernel_rfl))
  f343 := Try.func119.trans (congrArg some (by kernel_rfl))
  t0 := Try.underlying0
  a0 := Try.isAgg0
  z0 := Try.sizeOf0
  v0 := Try.zeroValue0
  t3 := Try.underlying3
  a3 := Try.isAgg3
  z3 := Try.sizeOf3
  v3 := Try.zeroValue3
  t4 := Try.underlying4
  a4 := Try.isAgg4
  z4 := Try.sizeOf4
  v4 := Try.zeroValue4
  t5 := Try.underlying5
  a5 := Try.isAgg5
  z5 := Try.sizeOf5
  v5 := Try.zeroValue5
  t9 := Try.underlying9
  a9 := Try.isAgg9
  z9 := Try.sizeOf9
  v9 := Try.zeroValue9
  t28 := Try.underlying31
  a28 := Try.isAgg31
  z28 := Try.sizeOf31
  v28 := Try.zeroValue31
  t46 := Try.underlying92
  a46 := Try.isAgg92
  z46 := Try.sizeOf92
  v46 := Try.zeroValue92
  t51 := Try.underlying118
  a51 := Try.isAgg118
  z51 := Try.sizeOf118
  v51 := Try.zeroValue118
  t53 := Try.underlying53
  a53 := Try.isAgg53
  z53 := Try.sizeOf53
  v53 := Try.zeroValue53
  t131 := Try.underlying86
  a131 := Try.isAgg86
  z131 := Try.sizeOf86
  v131 := Try.zeroValue86
  t182 := Try.underlying110
  a182 := Try.isAgg110
  z182 := Try.sizeOf110
  v182 := Try.zeroValue110
  t183 := Try.underlying111
  a183 := Try.isAgg111
  z183 := Try.sizeOf111
  v183 := Try.zeroValue111
  t218 := Try.underlying121
  a218 := Try.isAgg121
  z218 := Try.sizeOf121
  v218 := Try.zeroValue121
  t222 := Try.underlying125
  a222 := Try.isAgg125
  z222 := Try.sizeOf125
  v222 := Try.zeroValue125
  t228 := Try.underlying129
  a228 := Try.isAgg129
  z228 := Try.sizeOf129
  v228 := Try.zeroValue129
  t229 := Try.underlying72
  a229 := Try.isAgg72
  z229 := Try.sizeOf72
  v229 := Try.zeroValue72 }
open Go.Sort Go.RowKit in
theorem Try.slices_Sort_int (blk off cap : Nat) (zs : List Int) (w : World) (hH : Holds (Value.int .i64) w blk off zs.toArray) (hblk : blk < w.heap.size) (hsz : zs.length < 4611686018427387904) :
    Calls Try.prog 29 #[.slice (some ⟨blk, off, none⟩) zs.length cap] w fun e w' =>
      e = .returned (.tuple #[]) ∧ ∃ n os, w' = grow (putRow (Value.int .i64) (Sort.ahead w n) blk off (zs.mergeSort fun x y => decide (x ≤ y)).toArray) os := Any.slices_Sort_int Try.lays189 blk off cap zs w hH hblk hsz
end Go.Proofs

set_option linter.unusedVariables false
set_option linter.unusedSimpArgs false
set_option maxRecDepth 100000
set_option maxHeartbeats 4000000
set_option cbv.maxSteps 3000000
namespace Go.Proofs.Ytigkdbhcjjjjkaa.AM
/- The library's contracts, as the machine takes them; conditions: none. -/
theorem LRel.lits {C : Cx} : ∀ {l : List Value} {vs : List Value}, LRel C (l.map .lit) vs → vs = l
  | [], [], _ => rfl
  | [], _ :: _, h => by have := h.1; simp at this
  | _ :: _, [], h => by have := h.1; simp at this
  | x :: l, v :: vs, h => by
    have h1 := h.2 0 (.lit x) v rfl rfl
    cases h1
    have := LRel.lits (C := C) (l := l) (vs := vs) ⟨by simpa using h.1, fun c y u hy hu => h.2 (c + 1) y u (by simpa using hy) (by simpa using hu)⟩
    rw [this]
/-- A function of the library's that turns nothing. -/
theorem con_shelf {f : FuncId} {l : List Value} {r : AV} {v : Value} (hr : ∀ C, Rel C r v) (h : ∀ w : World, w.ShapedOpen Try.prog → Calls Try.prog f l.toArray w fun e w' => e = .returned v ∧ ∃ n, w' = w.drewN n) : Con Try.prog f (l.map .lit) [] r [] := by
  intro C vs hl _ _ hg
  rw [hl.lits]
  refine (h C.w hg.shaped).mono fun e w' ⟨he, n, hw⟩ => ⟨v, he, ⟨C.β, C.ok, C.ow, w'⟩, rfl, ⟨?_, by simp, fun _ _ => rfl, fun _ h => h, fun _ h => .inl h⟩, by simp <;> omega, by simp <;> omega, by simp <;> omega, by simp <;> omega, fun y hy => ?_, by simp [named], by simp⟩
  · subst hw
    exact ⟨rfl, rfl, rfl, Nat.le_refl _, fun _ _ _ => rfl, fun _ c _ h => ⟨c, h, rfl⟩⟩
  · injection hy with hy
    subst hy
    exact hr _
end Go.Proofs.Ytigkdbhcjjjjkaa.AM

set_option linter.unusedVariables false
set_option linter.unusedSimpArgs false
set_option maxRecDepth 100000
set_option maxHeartbeats 4000000
set_option cbv.maxSteps 3000000
namespace Go.Proofs.Ytigkdbhcjjjjkaa.AM
/- Lists of numbers sorted by the library; conditions: none. -/
open Go.RowKit Go.Sort
/-- One block of the caller's own has turned; there may be new ones. -/
theorem Leaves.turnZ {C : Cx} {n0 i : Nat} (how : C.ow (C.β i)) {cur arr : Array Value} {b : Blk} (hcur : C.w.heap[C.β i]? = some (.cells cur b.elem (0, 0))) {w' : World} (h2 : w'.os = C.w.os) (h3 : w'.tape = C.w.tape) (h4 : w'.output = C.w.output) (h5 : C.w.heap.size ≤ w'.heap.size)
    (hw : w'.heap[C.β i]? = some (.cells arr b.elem (0, 0))) (hoth : ∀ k, k < C.w.heap.size → k ≠ C.β i → w'.heap[k]? = C.w.heap[k]?) (has : arr.size = cur.size) (hr : ∀ p x, b.at p = some x → ∃ v, arr[p]? = some v ∧ v.oneCell' = true ∧ Rel ⟨C.β, C.ok, C.ow, w'⟩ x v)
    {r : AV} {v : Value} (hv : Rel ⟨C.β, C.ok, C.ow, w'⟩ r v) : Leaves C n0 (some r) [] [(i, b)] v w' := by
  refine ⟨⟨C.β, C.ok, C.ow, w'⟩, rfl, ⟨⟨h2, h3, h4, h5, fun k hk hn => hoth k hk (fun e => hn ⟨i, b, by simp, e.symm⟩), fun k c T hc => ?_⟩, ?_, fun _ _ => rfl, fun _ h => h, fun _ h => .inl h⟩, by simp <;> omega, by simp <;> omega, by simp <;> omega, by simp <;> omega, fun y hy => ?_, by simp [named], fun j b' hb' => ?_⟩
  · by_cases hki : k = C.β i
    · subst hki
      rw [hcur] at hc
      injection hc with hc
      injection hc with q1 q2
      subst q1; subst q2
      exact ⟨arr, hw, has⟩
    · exact ⟨c, by show w'.heap[k]? = _; rw [hoth k (Array.getElem?_eq_some_iff.1 hc).1 hki]; exact hc, rfl⟩
  · rintro k ⟨j, b', hj, rfl⟩
    simp at hj
    rw [hj.1]; exact how
  · injection hy with hy
    subst hy
    exact hv
  · simp at hb'
    obtain ⟨rfl, rfl⟩ := hb'
    exact ⟨arr, hw, fun p x hx => hr p x hx⟩
theorem putRowZ_block {w : World} {blk : Nat} {cur : Array Value} {E : TypeId} (h : w.heap[blk]? = some (.cells cur E (0, 0))) (m : Nat) (d : Array Int) (os : Array Obj) : (grow (putRow (Value.int .i64) (Sort.ahead w m) blk 0 d) os).heap[blk]? = some (.cells (putCells (Value.int .i64) 0 d cur) E (0, 0)) := by
  have hl : blk < w.heap.size := (Array.getElem?_eq_some_iff.1 h).1
  show ((w.heap.modify blk (onCells (putCells (Value.int .i64) 0 d))) ++ os)[blk]? = _
  rw [Array.getElem?_append_left (by simpa using hl), Array.getElem?_modify, if_pos rfl, h]
  rfl
theorem putRowZ_else {w : World} {blk k : Nat} (hk : k < w.heap.size) (hn : k ≠ blk) (m : Nat) (d : Array Int) (os : Array Obj) : (grow (putRow (Value.int .i64) (Sort.ahead w m) blk 0 d) os).heap[k]? = w.heap[k]? := by
  show ((w.heap.modify blk (onCells (putCells (Value.int .i64) 0 d))) ++ os)[k]? = _
  rw [Array.getElem?_append_left (by simpa using hk), Array.getElem?_modify, if_neg (fun e => hn e.symm)]
theorem rowZ_leaves {C : Cx} {n0 i : Nat} (how : C.ow (C.β i)) {cur : Array Value} {E : TypeId} (hcur : C.w.heap[C.β i]? = some (.cells cur E (0, 0))) {n : Nat} (hsz : n ≤ cur.size) (d : List Int) (hd : d.length = n) (m : Nat) (os : Array Obj) {r : AV} {v : Value}
    (hv : Rel ⟨C.β, C.ok, C.ow, grow (putRow (Value.int .i64) (Sort.ahead C.w m) (C.β i) 0 d.toArray) os⟩ r v) : Leaves C n0 (some r) [] [(i, .rows 1 n (rowsI stdH fun _ => d) E)] v (grow (putRow (Value.int .i64) (Sort.ahead C.w m) (C.β i) 0 d.toArray) os) := by
  refine Leaves.turnZ (b := .rows 1 n (rowsI stdH fun _ => d) E) (w' := grow (putRow (Value.int .i64) (Sort.ahead C.w m) (C.β i) 0 d.toArray) os) how hcur rfl rfl rfl ?_ (putRowZ_block hcur m d.toArray os) (fun k hk hn => putRowZ_else hk hn m d.toArray os) (by simp [putCells]) (fun p x hx => ?_) hv
  · show _ ≤ ((C.w.heap.modify _ _) ++ os).size
    rw [Array.size_append, Array.size_modify]; omega
  · simp only [Blk.at] at hx
    split at hx
    · rename_i hp
      rw [Nat.div_one] at hp hx
      rw [Nat.mod_one] at hx
      have hx : x = .lit (.int .i64 (d.getD p 0)) := by
        have : some (AV.lit (.int .i64 (d.getD p 0))) = some x := hx
        injection this with this
        exact this.symm
      have hpd : p < d.length := by omega
      have hpc : p < cur.size := by omega
      subst hx
      refine ⟨.int .i64 d[p], ?_, rfl, ?_⟩
      · unfold putCells
        rw [Array.getElem?_mapIdx, Array.getElem?_eq_getElem hpc, Option.map_some, if_pos ⟨Nat.zero_le _, by simpa using hpd⟩]
        simp [hpd]
      · rw [List.getD_eq_getElem?_getD, List.getElem?_eq_getElem hpd]
        exact .lit rfl
    · cases hx
theorem rowZ_holds {C : Cx} {i : Nat} {cur : Array Value} {E : TypeId} (hcur : C.w.heap[C.β i]? = some (.cells cur E (0, 0))) {L : List Int} (h : ∀ p x, (Blk.rows 1 L.length (rowsI stdH fun _ => L) E).at p = some x → ∃ v, cur[p]? = some v ∧ v.oneCell' = true ∧ Rel C x v) : Holds (Value.int .i64) C.w (C.β i) 0 L.toArray := by
  intro j hj
  have hj' : j < L.length := by simpa using hj
  obtain ⟨v, h1, _, h3⟩ := h j (.lit (.int .i64 (L.getD j 0))) (by
    simp only [Blk.at]
    rw [if_pos (by rw [Nat.div_one]; exact hj'), Nat.div_one, Nat.mod_one]
    rfl)
  cases h3
  refine ⟨?_, ?_⟩
  · unfold World.cell?
    simp only [hcur]
    rw [Nat.zero_add]
    simp [h1, hj']
  · unfold World.frozen?
    simp [hcur]
theorem c_sortZ (L : List Int) (hL : L.length ≤ 1000000) : ConN Try.prog 29 [.slc 0 0 1 L.length] [(0, .rows 1 L.length (rowsI stdH fun _ => L) 3)] 1 (.tup []) [] [(0, .rows 1 L.length (rowsI stdH fun _ => srtZ L) 3)] := by
  intro C vs hl hb hinj hglo hfresh
  obtain ⟨hlen, hrel⟩ := hl
  match vs, hlen with
  | [v0], _ =>
    have r0 := hrel 0 _ v0 rfl rfl
    obtain ⟨⟨cur, hcur, hcells⟩, hok, how⟩ := hb 0 _ (by rw [lk_cons, if_pos rfl])
    cases r0 with
    | @slc _ _ _ _ cap g1 g2 g3 g4 =>
    obtain ⟨cur', T', h5, h6⟩ := g4
    have hce : cur' = cur := by rw [hcur] at h5; injection h5 with h5; injection h5 with h5; exact h5.symm
    subst hce
    rw [ite_self]
    have hlt : C.β 0 < C.w.heap.size := (Array.getElem?_eq_some_iff.1 hcur).1
    have hc := Try.slices_Sort_int (C.β 0) 0 cap L C.w (rowZ_holds hcur hcells) hlt (by omega)
    refine hc.mono ?_
    rintro e w' ⟨rfl, m, os, rfl⟩
    exact ⟨_, rfl, rowZ_leaves how hcur (by omega) (srtZ L) (srtZ_len L) m os (.tup (vs := []) rfl fun c x u hx _ => by simp at hx)⟩
noncomputable def e_sortZ : Entry := modE 29 1 3 fun H n g a => match a with
  | [] => some (.tup [], rowsI H fun _ => srtZ (Tl rowI n g), [H Prop fun _ => Shp rowI n g, H Prop fun _ => (Tl rowI n g).length ≤ 1000000])
  | _ => none
theorem eok_sortZ : EntryOk Try.prog e_sortZ := modE_ok (by unfold isBody; kernel_rfl) (by
  intro n g a r g' ob e hob
  split at e
  · simp only [Option.some.injEq, Prod.mk.injEq] at e
    obtain ⟨rfl, rfl, rfl⟩ := e
    have hs := hob.1
    have hl : (Tl rowI n g).length = n := Tl_len n g
    refine ⟨rowsI stdH fun _ => Tl rowI n g, fun j hj => ⟨?_, ?_⟩, ?_, fun x hx => ?_, .tup (fun x hx => ?_), fun j hj => ?_⟩
    · rw [hs.row j hj]; exact ((okI).row (fun _ => Tl rowI n g) j).trans (by rw [Tl_getD hj])
    · exact rows_blx okI _ j
    · have := c_sortZ (Tl rowI n g) hob.2.1
      simp only [stdH, hl] at this ⊢
      exact this
    · simp at hx
    · simp at hx
    · exact rows_blx okI _ j
  · simp at e)

end Go.Proofs.Ytigkdbhcjjjjkaa.AM

