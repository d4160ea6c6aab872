import Derived.Test.YtmpbmbioeeckeaaAmT
import Derived.Test.YtmpbmbioeeckeaaLst
import Derived.Test.YtmpbmbioeeckeaaDif
import Derived.Test.YtmpbmbioeeckeaaGrp
set_option linter.unusedVariables false
set_option linter.unusedSimpArgs false
set_option maxRecDepth 100000
set_option maxHeartbeats 4000000
set_option cbv.maxSteps 3000000
namespace Go.Proofs.Ytmpbmbioeeckeaa.AM
/- Insertion sort, as the library does it; numbers sorted; conditions: none. -/
def swp {α : Type} (d : α) (l : List α) (j : Nat) : List α := (l.set j (l.getD (j - 1) d)).set (j - 1) (l.getD j d)
def bub {α : Type} (lt : α → α → Bool) (d : α) : Nat → List α → List α
  | 0, l => l
  | j + 1, l => bif lt (l.getD (j + 1) d) (l.getD j d) then bub lt d j (swp d l (j + 1)) else l
def isr {α : Type} (lt : α → α → Bool) (d : α) (l : List α) : Nat → List α
  | 0 => l
  | i + 1 => bub lt d (i + 1) (isr lt d l i)
theorem swp_len {α : Type} (d : α) (l : List α) (j : Nat) : (swp d l j).length = l.length := by simp [swp]
theorem bub_len {α : Type} (lt : α → α → Bool) (d : α) : ∀ (j : Nat) (l : List α), (bub lt d j l).length = l.length
  | 0, l => rfl
  | j + 1, l => by
    unfold bub
    cases lt (l.getD (j + 1) d) (l.getD j d)
    · rfl
    · exact (bub_len lt d j _).trans (swp_len d l (j + 1))
theorem isr_len {α : Type} (lt : α → α → Bool) (d : α) (l : List α) : ∀ i, (isr lt d l i).length = l.length
  | 0 => rfl
  | i + 1 => (bub_len lt d (i + 1) _).trans (isr_len lt d l i)
theorem bub_yes {α : Type} {lt : α → α → Bool} {d : α} {j : Nat} {l : List α} (h : lt (l.getD (j + 1) d) (l.getD j d) = true) : bub lt d (j + 1) l = bub lt d j (swp d l (j + 1)) := by
  rw [bub, h]; rfl
theorem bub_no {α : Type} {lt : α → α → Bool} {d : α} {j : Nat} {l : List α} (h : lt (l.getD (j + 1) d) (l.getD j d) = false) : bub lt d (j + 1) l = l := by
  rw [bub, h]; rfl
theorem getDm {α : Type} {d : α} {l : List α} {j : Nat} (h : j < l.length) : l.getD j d ∈ l := by
  rw [List.getD_eq_getElem?_getD, List.getElem?_eq_getElem h, Option.getD_some]; exact List.getElem_mem h
theorem swp_mem {α : Type} {d : α} {l : List α} {j : Nat} (h : j < l.length) {x : α} (hx : x ∈ swp d l j) : x ∈ l := by
  unfold swp at hx
  rcases List.mem_or_eq_of_mem_set hx with hx | rfl
  · rcases List.mem_or_eq_of_mem_set hx with hx | rfl
    · exact hx
    · exact getDm (by omega)
  · exact getDm h
theorem bub_mem {α : Type} {lt : α → α → Bool} {d : α} : ∀ {j : Nat} {l : List α}, j < l.length → ∀ {x : α}, x ∈ bub lt d j l → x ∈ l
  | 0, l, _, x, hx => hx
  | j + 1, l, h, x, hx => by
    unfold bub at hx
    cases hl : lt (l.getD (j + 1) d) (l.getD j d)
    · rw [hl] at hx; exact hx
    · rw [hl] at hx
      exact swp_mem h (bub_mem (by rw [swp_len]; omega) hx)
theorem isr_mem {α : Type} {lt : α → α → Bool} {d : α} {l : List α} : ∀ {i : Nat}, i < l.length → ∀ {x : α}, x ∈ isr lt d l i → x ∈ l
  | 0, _, x, hx => hx
  | i + 1, h, x, hx => isr_mem (by omega) (bub_mem (by rw [isr_len]; exact h) hx)
theorem c_nanI (x : Int)  : ConN Try.prog 127 [.lit (.int .i64 x)] [] 0 (.lit (.bool (stdH Bool fun _ => false))) [] [] := by
  have hB : Base Try.prog (tabΓ []) tab := base_of tabOk (ents_nil)
  refine con_m (N := 6) hB (draw_ok hB mixed) Try.func127 rfl rfl (fun H => [.lit (.int .i64 x)]) (fun _ => []) 0 (fun H => .lit (.bool (H Bool fun _ => false))) (fun H => []) (fun _ => []) 100 (by simp) (fun x hx => ?_) (by simp [lk]) (by omega) (by simp) ?_
  · simp only [List.mem_cons, List.not_mem_nil, or_false] at hx
    rcases hx with rfl
    · exact .lit
  intro X hX hX0 H hH
  conv in Fin.chk _ _ => cbv
  try simp only [Plain_rowsA, Plain_rowsB, Plain_rowsF, Plain_rowsG, Plain_rowsI, Plain_rowsS, Plain_rowsU, Fin.satC_ret, Fin.satC_br, Fin.satC_need, Fin.satC_again, AllP, and_true, true_and, upd, List.length_nil, List.length_cons, Nat.zero_add, if_true, ncast, Int.ofNat_eq_natCast]
  subst hH
  simp only [stdH]
  simp
noncomputable def e_nanI : Entry := pureE 127 fun H a => match a with
  | [.lit (.int .i64 x)] => some (.lit (.bool (H Bool fun _ => false)), [])
  | _ => none
theorem eok_nanI : EntryOk Try.prog e_nanI := pureM_ok (by unfold isBody; kernel_rfl) (by
  intro a r ob e hob
  split at e
  · rename_i x
    simp only [Option.some.injEq, Prod.mk.injEq] at e
    obtain ⟨rfl, rfl⟩ := e
    exact ConN.args (.cons .rfl .nil) (c_nanI x )
  · simp at e)
theorem c_lessI (x : Int) (y : Int)  : ConN Try.prog 105 [.lit (.int .i64 x), .lit (.int .i64 y)] [] 0 (.lit (.bool (stdH Bool fun _ => decide (x < y)))) [] [] := by
  have hB : Base Try.prog (tabΓ [e_nanI]) tab := base_of tabOk (ents_cons eok_nanI <| ents_nil)
  refine con_m (N := 17) hB (draw_ok hB mixed) Try.func105 rfl rfl (fun H => [.lit (.int .i64 x), .lit (.int .i64 y)]) (fun _ => []) 0 (fun H => .lit (.bool (H Bool fun _ => decide (x < y)))) (fun H => []) (fun _ => []) 100 (by simp) (fun x hx => ?_) (by simp [lk]) (by omega) (by simp) ?_
  · simp only [List.mem_cons, List.not_mem_nil, or_false] at hx
    rcases hx with rfl | rfl
    · exact .lit
    · exact .lit
  intro X hX hX0 H hH
  conv in Fin.chk _ _ => cbv
  try simp only [Plain_rowsA, Plain_rowsB, Plain_rowsF, Plain_rowsG, Plain_rowsI, Plain_rowsS, Plain_rowsU, Fin.satC_ret, Fin.satC_br, Fin.satC_need, Fin.satC_again, AllP, and_true, true_and, upd, List.length_nil, List.length_cons, Nat.zero_add, if_true, ncast, Int.ofNat_eq_natCast]
  subst hH
  rfl
noncomputable def e_lessI : Entry := pureE 105 fun H a => match a with
  | [.lit (.int .i64 x), .lit (.int .i64 y)] => some (.lit (.bool (H Bool fun _ => decide (x < y))), [])
  | _ => none
theorem eok_lessI : EntryOk Try.prog e_lessI := pureM_ok (by unfold isBody; kernel_rfl) (by
  intro a r ob e hob
  split at e
  · rename_i x y
    simp only [Option.some.injEq, Prod.mk.injEq] at e
    obtain ⟨rfl, rfl⟩ := e
    exact ConN.args (.cons .rfl (.cons .rfl .nil)) (c_lessI x y )
  · simp at e)
def ltI (x y : Int) : Bool := decide (x < y)
theorem rows_sw {m : List Int} {i j : Nat} (e : j = i - 1) : RowsEq 1 (swp 0 m i).length (rowsI stdH fun _ => swp 0 m i) m.length (put1 j [.lit (.int .i64 (m.getD i 0))] (put1 i [.lit (.int .i64 (m.getD j 0))] (rowsI stdH fun _ => m))) := by
  subst e
  exact RowsEq.ofT okI rfl (Shp_put1 (Shp_put1 (Shp_I _ _) rfl) rfl) (by rw [Tl_put1, Tl_put1, Tl_I]; rfl)
theorem wsub {j : Nat} (h : 0 < j) (hj : j ≤ 4000000) : IntKind.i64.wrap ((j : Int) - 1) = ((j - 1 : Nat) : Int) := by
  rw [wi] <;> omega
theorem c_isort (l : List Int) (a : Int) (b : Int) (h0 : l.length ≤ 2000000) (h1 : a = 0 ∧ b = l.length) : ConN Try.prog 99 [.slc 0 0 1 (stdH Nat fun _ => l.length), .lit (.int .i64 a), .lit (.int .i64 b)] [(0, .rows 1 (stdH Nat fun _ => l.length) (rowsI stdH fun _ => l) 3)] 1 (.tup []) [] [(0, .rows 1 (stdH Nat fun _ => l.length) (rowsI stdH fun _ => isr ltI 0 l (l.length - 1)) 3)] := by
  have hB : Base Try.prog (tabΓ [e_lessI]) tab := base_of tabOk (ents_cons eok_lessI <| ents_nil)
  refine con_m (N := 49) hB (draw_ok hB mixed) Try.func99 rfl rfl (fun H => [.slc 0 0 1 (H Nat fun _ => l.length), .lit (.int .i64 a), .lit (.int .i64 b)]) (fun H => [(0, .rows 1 (H Nat fun _ => l.length) (rowsI H fun _ => l) 3)]) 1 (fun H => .tup []) (fun H => []) (fun H => [(0, .rows 1 (H Nat fun _ => l.length) (rowsI H fun _ => isr ltI 0 l (l.length - 1)) 3)]) 300 (by simp) (fun x hx => ?_) (fun i b hi => ?_) (fun i hi => ?_) (fun i b hi => ?_) ?_
  · simp only [List.mem_cons, List.not_mem_nil, or_false] at hx
    rcases hx with rfl | rfl | rfl
    · exact .slc (by omega)
    · exact .lit
    · exact .lit
  · have := lk_in hi
    simp only [List.mem_cons, List.not_mem_nil, or_false, Prod.mk.injEq] at this
    obtain ⟨rfl, rfl⟩ := this
    exact ⟨by omega, bT_bl okI _ (fun _ => l) _, _, List.mem_cons_self⟩
  · obtain rfl : i = 0 := by omega
    exact ⟨_, rfl⟩
  · simp only [List.mem_cons, List.not_mem_nil, or_false, Prod.mk.injEq] at hi
    obtain ⟨rfl, rfl⟩ := hi
    exact ⟨_, rfl⟩
  intro X hX hX0 H hH
  conv in Fin.chk _ _ => cbv
  try simp only [Plain_rowsA, Plain_rowsB, Plain_rowsF, Plain_rowsG, Plain_rowsI, Plain_rowsS, Plain_rowsU, Fin.satC_ret, Fin.satC_br, Fin.satC_need, Fin.satC_again, AllP, and_true, true_and, upd, List.length_nil, List.length_cons, Nat.zero_add, if_true, ncast, Int.ofNat_eq_natCast]
  obtain ⟨rfl, hb⟩ := h1
  refine loop_a hB (draw_ok hB mixed) hX hX0 hH false (ι := { i : Nat // i ≤ l.length - 1 }) 300 (fun i => [.r (H Nat fun _ => (isr ltI 0 l i.1).length) (rowsI H fun _ => isr ltI 0 l i.1), .i (H Int fun _ => ((i.1 : Nat) : Int) + 1)]) (fun i => l.length - i.1) (⟨0, by omega⟩) ?_ ?_
  · (conv in matchSt _ _ _ _ => cbv); simp only [AllG, AllP, and_true, hH, stdH, ncast, Int.ofNat_eq_natCast, vrow_I, Arm.eta2, Fld.eta, Grp.eta]
    exact ⟨.self okI, rfl⟩
  · intro I hI i
    conv in Fin.chk _ _ => cbv
    try simp only [Plain_rowsA, Plain_rowsB, Plain_rowsF, Plain_rowsG, Plain_rowsI, Plain_rowsS, Plain_rowsU, Fin.satC_ret, Fin.satC_br, Fin.satC_need, Fin.satC_again, AllP, and_true, true_and, upd, List.length_nil, List.length_cons, Nat.zero_add, if_true, ncast, Int.ofNat_eq_natCast]
    obtain ⟨i, hi⟩ := i
    have hl := isr_len ltI 0 l i
    refine ⟨fun h1 => ?_, fun h1 => ?_⟩
    · simp only [hH, stdH, decide_eq_true_eq, decide_eq_false_iff_not, Bool.not_eq_true', Bool.not_eq_false', peta, ncast, Int.ofNat_eq_natCast, beq_iff_eq, bne_iff_ne, beq_eq_false_iff_ne, bne_eq_false_iff_eq, ne_eq, Classical.not_not, Int.toNat_natCast, vrow_I, Arm.eta2, Fld.eta, Grp.eta] at h1
      refine loop_a hB (draw_ok hB mixed) hX hX0 hH true (ι := { p : Nat × List Int // p.1 ≤ i + 1 ∧ p.2.length = l.length ∧ bub ltI 0 p.1 p.2 = isr ltI 0 l (i + 1) }) 300 (fun p => [.r (H Nat fun _ => (p.1.2).length) (rowsI H fun _ => p.1.2), .i (H Int fun _ => (p.1.1 : Nat))]) (fun p => p.1.1) (⟨(i + 1, isr ltI 0 l i), Nat.le_refl _, hl, rfl⟩) ?_ ?_
      · (conv in matchSt _ _ _ _ => cbv); simp only [AllG, AllP, and_true, hH, stdH, ncast, Int.ofNat_eq_natCast, vrow_I, Arm.eta2, Fld.eta, Grp.eta]
        (repeat' (first | rfl | trivial | exact RowsEq.self okI | exact RowsEq.ofT okI rfl (Shp_zero _) rfl | exact RowsEq.snoc okI rfl | exact RowsEq.more okI (Shp_I _ _) (Tl_I _) | exact RowsEq.self okI | exact RowsEq.self okRA | exact List.length_append | refine And.intro ?_ ?_))
      · intro J hJ p
        conv in Fin.chk _ _ => cbv
        try simp only [Plain_rowsA, Plain_rowsB, Plain_rowsF, Plain_rowsG, Plain_rowsI, Plain_rowsS, Plain_rowsU, Fin.satC_ret, Fin.satC_br, Fin.satC_need, Fin.satC_again, AllP, and_true, true_and, upd, List.length_nil, List.length_cons, Nat.zero_add, if_true, ncast, Int.ofNat_eq_natCast]
        obtain ⟨⟨j, m⟩, hj, hm, hbu⟩ := p
        dsimp only at hj hm hbu
        have q0 : 0 < j → IntKind.i64.wrap ((j : Int) - 1) = ((j - 1 : Nat) : Int) := fun h => wsub h (by omega)
        refine ⟨?_, ?_, ?_, ?_, fun h2 => ?_, fun h2 => ?_⟩
        · try simp only [hH, stdH, decide_eq_true_eq, decide_eq_false_iff_not, Bool.not_eq_true', Bool.not_eq_false', peta, ncast, Int.ofNat_eq_natCast, beq_iff_eq, bne_iff_ne, beq_eq_false_iff_ne, bne_eq_false_iff_eq, ne_eq, Classical.not_not, Int.toNat_natCast, vrow_I, Arm.eta2, Fld.eta, Grp.eta]
          omega
        · try simp only [hH, stdH, decide_eq_true_eq, decide_eq_false_iff_not, Bool.not_eq_true', Bool.not_eq_false', peta, ncast, Int.ofNat_eq_natCast, beq_iff_eq, bne_iff_ne, beq_eq_false_iff_ne, bne_eq_false_iff_eq, ne_eq, Classical.not_not, Int.toNat_natCast, vrow_I, Arm.eta2, Fld.eta, Grp.eta]
          intro _
          exact ⟨by omega, rfl⟩
        · try simp only [hH, stdH, decide_eq_true_eq, decide_eq_false_iff_not, Bool.not_eq_true', Bool.not_eq_false', peta, ncast, Int.ofNat_eq_natCast, beq_iff_eq, bne_iff_ne, beq_eq_false_iff_ne, bne_eq_false_iff_eq, ne_eq, Classical.not_not, Int.toNat_natCast, vrow_I, Arm.eta2, Fld.eta, Grp.eta]
          intro h
          rw [q0 (by omega)]
          omega
        · try simp only [hH, stdH, decide_eq_true_eq, decide_eq_false_iff_not, Bool.not_eq_true', Bool.not_eq_false', peta, ncast, Int.ofNat_eq_natCast, beq_iff_eq, bne_iff_ne, beq_eq_false_iff_ne, bne_eq_false_iff_eq, ne_eq, Classical.not_not, Int.toNat_natCast, vrow_I, Arm.eta2, Fld.eta, Grp.eta]
          intro h
          rw [q0 (by omega)]
          exact ⟨by omega, rfl⟩
        · have h3 : 0 < j ∧ m.getD j 0 < m.getD (j - 1) 0 := by
            simp only [hH, stdH, decide_eq_true_eq, decide_eq_false_iff_not, Bool.not_eq_true', Bool.not_eq_false', peta, ncast, Int.ofNat_eq_natCast, beq_iff_eq, bne_iff_ne, beq_eq_false_iff_ne, bne_eq_false_iff_eq, ne_eq, Classical.not_not, Int.toNat_natCast, vrow_I, Arm.eta2, Fld.eta, Grp.eta] at h2
            cases hj0 : decide (0 < (j : Int)) <;> simp only [hj0, cond_true, cond_false, decide_eq_true_eq] at h2
            · cases h2
            · rw [decide_eq_true_eq] at hj0
              rw [q0 (by omega)] at h2
              exact ⟨by omega, h2⟩
          obtain ⟨k, rfl⟩ : ∃ k, j = k + 1 := ⟨j - 1, by omega⟩
          have e1 := q0 h3.1
          rw [Nat.add_sub_cancel] at e1 h3
          have hb2 := bub_yes (lt := ltI) (d := 0) (j := k) (l := m) (decide_eq_true h3.2)
          refine ⟨?_, ?_, ?_, ?_, ?_, ?_, ?_, ?_, ⟨(k, swp 0 m (k + 1)), by dsimp only; omega, (swp_len _ _ _).trans hm, hb2.symm.trans hbu⟩, Nat.lt_succ_self _, ?_⟩
          · try simp only [hH, stdH, decide_eq_true_eq, decide_eq_false_iff_not, Bool.not_eq_true', Bool.not_eq_false', peta, ncast, Int.ofNat_eq_natCast, beq_iff_eq, bne_iff_ne, beq_eq_false_iff_ne, bne_eq_false_iff_eq, ne_eq, Classical.not_not, Int.toNat_natCast, vrow_I, Arm.eta2, Fld.eta, Grp.eta]
            rw [e1]
            omega
          · try simp only [hH, stdH, decide_eq_true_eq, decide_eq_false_iff_not, Bool.not_eq_true', Bool.not_eq_false', peta, ncast, Int.ofNat_eq_natCast, beq_iff_eq, bne_iff_ne, beq_eq_false_iff_ne, bne_eq_false_iff_eq, ne_eq, Classical.not_not, Int.toNat_natCast, vrow_I, Arm.eta2, Fld.eta, Grp.eta]
            rw [e1]
            exact ⟨by omega, rfl⟩
          · try simp only [hH, stdH, decide_eq_true_eq, decide_eq_false_iff_not, Bool.not_eq_true', Bool.not_eq_false', peta, ncast, Int.ofNat_eq_natCast, beq_iff_eq, bne_iff_ne, beq_eq_false_iff_ne, bne_eq_false_iff_eq, ne_eq, Classical.not_not, Int.toNat_natCast, vrow_I, Arm.eta2, Fld.eta, Grp.eta]
            omega
          · try simp only [hH, stdH, decide_eq_true_eq, decide_eq_false_iff_not, Bool.not_eq_true', Bool.not_eq_false', peta, ncast, Int.ofNat_eq_natCast, beq_iff_eq, bne_iff_ne, beq_eq_false_iff_ne, bne_eq_false_iff_eq, ne_eq, Classical.not_not, Int.toNat_natCast, vrow_I, Arm.eta2, Fld.eta, Grp.eta]
            exact ⟨by omega, rfl⟩
          · try simp only [hH, stdH, decide_eq_true_eq, decide_eq_false_iff_not, Bool.not_eq_true', Bool.not_eq_false', peta, ncast, Int.ofNat_eq_natCast, beq_iff_eq, bne_iff_ne, beq_eq_false_iff_ne, bne_eq_false_iff_eq, ne_eq, Classical.not_not, Int.toNat_natCast, vrow_I, Arm.eta2, Fld.eta, Grp.eta]
            omega
          · try simp only [hH, stdH, decide_eq_true_eq, decide_eq_false_iff_not, Bool.not_eq_true', Bool.not_eq_false', peta, ncast, Int.ofNat_eq_natCast, beq_iff_eq, bne_iff_ne, beq_eq_false_iff_ne, bne_eq_false_iff_eq, ne_eq, Classical.not_not, Int.toNat_natCast, vrow_I, Arm.eta2, Fld.eta, Grp.eta]
            exact ⟨by omega, rfl⟩
          · try simp only [hH, stdH, decide_eq_true_eq, decide_eq_false_iff_not, Bool.not_eq_true', Bool.not_eq_false', peta, ncast, Int.ofNat_eq_natCast, beq_iff_eq, bne_iff_ne, beq_eq_false_iff_ne, bne_eq_false_iff_eq, ne_eq, Classical.not_not, Int.toNat_natCast, vrow_I, Arm.eta2, Fld.eta, Grp.eta]
            rw [e1]
            omega
          · try simp only [hH, stdH, decide_eq_true_eq, decide_eq_false_iff_not, Bool.not_eq_true', Bool.not_eq_false', peta, ncast, Int.ofNat_eq_natCast, beq_iff_eq, bne_iff_ne, beq_eq_false_iff_ne, bne_eq_false_iff_eq, ne_eq, Classical.not_not, Int.toNat_natCast, vrow_I, Arm.eta2, Fld.eta, Grp.eta]
            rw [e1]
            refine ⟨by omega, ?_⟩
            unfold put1
            cases Nat.beq (Int.toNat k) (k + 1) <;> rfl
          · rw [hJ]
            (conv in matchSt _ _ _ _ => cbv); simp only [AllG, AllP, and_true, hH, stdH, ncast, Int.ofNat_eq_natCast, vrow_I, Arm.eta2, Fld.eta, Grp.eta]
            rw [e1]
            simp only [Int.toNat_natCast]
            refine ⟨rows_sw rfl, trivial⟩
        · have h3 : 0 < j → m.getD (j - 1) 0 ≤ m.getD j 0 := fun hj0 => by
            simp only [hH, stdH, decide_eq_true_eq, decide_eq_false_iff_not, Bool.not_eq_true', Bool.not_eq_false', peta, ncast, Int.ofNat_eq_natCast, beq_iff_eq, bne_iff_ne, beq_eq_false_iff_ne, bne_eq_false_iff_eq, ne_eq, Classical.not_not, Int.toNat_natCast, vrow_I, Arm.eta2, Fld.eta, Grp.eta] at h2
            rw [decide_eq_true (show 0 < (j : Int) by omega), cond_true, q0 hj0] at h2
            simpa using h2
          have e2 : isr ltI 0 l (i + 1) = m := by
            rw [← hbu]
            cases j with
            | zero => rfl
            | succ k => exact bub_no (decide_eq_false (by have := h3 (by omega); rw [Nat.add_sub_cancel] at this; omega))
          rw [if_neg (by decide)]
          refine ⟨⟨i + 1, by omega⟩, by simp only; omega, ?_⟩
          rw [hI]
          (conv in matchSt _ _ _ _ => cbv); simp only [AllG, AllP, and_true, hH, stdH, ncast, Int.ofNat_eq_natCast, vrow_I, Arm.eta2, Fld.eta, Grp.eta]
          rw [e2]
          exact ⟨RowsEq.self okI, by rw [wi] <;> omega⟩
    · simp only [hH, stdH, decide_eq_true_eq, decide_eq_false_iff_not, Bool.not_eq_true', Bool.not_eq_false', peta, ncast, Int.ofNat_eq_natCast, beq_iff_eq, bne_iff_ne, beq_eq_false_iff_ne, bne_eq_false_iff_eq, ne_eq, Classical.not_not, Int.toNat_natCast, vrow_I, Arm.eta2, Fld.eta, Grp.eta] at h1 ⊢
      obtain rfl : i = l.length - 1 := by omega
      rw [hl]
      have := RowsEq.self okI (L := isr ltI 0 l (l.length - 1))
      rw [hl] at this
      exact this
noncomputable def e_isort : Entry := modE 99 1 3 fun H n g a => match a with
  | [.lit (.int .i64 a), .lit (.int .i64 b)] => some (.tup [], rowsI H fun _ => isr ltI 0 (Tl rowI n g) ((Tl rowI n g).length - 1), [H Prop fun _ => Shp rowI n g, H Prop fun _ => (Tl rowI n g).length ≤ 2000000, H Prop fun _ => a = 0 ∧ b = (Tl rowI n g).length])
  | _ => none
theorem eok_isort : EntryOk Try.prog e_isort := modE_ok (by unfold isBody; kernel_rfl) (by
  intro n g a r g' ob e hob
  split at e
  · rename_i a b
    simp only [Option.some.injEq, Prod.mk.injEq] at e
    obtain ⟨rfl, rfl, rfl⟩ := e
    have hs := hob.1
    have hl : (Tl rowI n g).length = n := Tl_len n g
    refine ⟨rowsI stdH fun _ => Tl rowI n g, fun j hj => ⟨?_, ?_⟩, ?_, fun x hx => ?_, ?_, fun j hj => ?_⟩
    · rw [hs.row j hj]; exact ((okI).row (fun _ => Tl rowI n g) j).trans (by rw [Tl_getD hj])
    · exact rows_blx okI _ j
    · have := c_isort (Tl rowI n g) a b hob.2.1 hob.2.2.1
      simp only [stdH, hl] at this ⊢
      exact ConN.args (.cons .rfl (.cons .rfl (.cons .rfl .nil))) this
    · simp only [List.mem_cons, List.not_mem_nil, or_false] at hx
      rcases hx with rfl | rfl
      · exact .lit
      · exact .lit
    · first | exact .lit | exact .tup fun x h => (by cases h)
    · exact rows_blx okI _ j
  · simp at e)

end Go.Proofs.Ytmpbmbioeeckeaa.AM
