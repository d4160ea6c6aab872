/- Lemmas and contracts (Pln); conditions: none. -/
import Derived.Test.YtmkniipdkanbbaaGreatDoorK04
import Derived.Test.YtmkniipdkanbbaaGreatDoorK27
import Derived.Test.YtmkniipdkanbbaaGreatDoorK29
import Derived.Test.YtmkniipdkanbbaaGreatDoorK36
set_option linter.unusedVariables false
set_option linter.unusedSimpArgs false
set_option maxRecDepth 100000
set_option maxHeartbeats 4000000
set_option cbv.maxSteps 3000000
namespace Go.Proofs.YtmkniipdkanbbaaGreatDoor.AM
/- Plain sketches, by the program; conditions: none. -/
theorem c_ptrN000 (a : Arm) (ho : decide (a.o = 0) = true) (hn : noG a.n = true) (hr : noG a.r = true) : ConN Tryz.prog 41 [.ptr 0 0] [(0, .cells (cA stdH a [.lit (.slice none 0 0)]) 30)] 1 (.slc 1 0 1 0) [.rows 1 0 (rowsOf 1 []) 69] [(0, .cells (cA stdH a [.lit (.slice none 0 0)]) 30)] := by
  have hB : Base Tryz.prog (tabΓ []) tabN := base_of tabOkN (ents_nil)
  refine con_m (N := 43) hB (draw_ok hB mixed) Tryz.func41 rfl rfl (fun H => [.ptr 0 0]) (fun H => [(0, .cells (cA H a [.lit (.slice none 0 0)]) 30)]) 1 (fun H => .slc 1 0 1 0) (fun H => [.rows 1 0 (rowsOf 1 []) 69]) (fun H => [(0, .cells (cA H a [.lit (.slice none 0 0)]) 30)]) 200 (by simp) (fun x hx => ?_) (fun i b hi => ?_) (fun i hi => ?_) (fun i b hi => ?_) ?_
  · simp only [cA, cX, zqu] at hx
    subst hx
    exact .ptr (by omega)
  · have := lk_in hi
    simp only [zqu, Prod.mk.injEq] at this
    obtain ⟨rfl, rfl⟩ := this
    refine ⟨by omega, cells_bl fun x hx => ?_, _, List.mem_cons_self⟩
    simp only [cA, cX, zqu] at hx
    rcases hx with rfl | rfl | rfl | rfl | rfl | rfl | rfl | rfl | rfl | rfl | rfl | rfl | rfl | rfl | rfl | rfl <;> first | exact .lit
  · obtain rfl : i = 0 := by omega
    exact ⟨_, rfl⟩
  · simp only [zqu, Prod.mk.injEq] at hi
    obtain ⟨rfl, rfl⟩ := hi
    exact ⟨_, rfl⟩
  intro X hX hX0 H hH
  conv in Fin.chk _ _ => cbv
  try simp only [zqs, Plain_rowsC, Plain_rowsY, zqx, AllP, zqw, upd, if_true]
  subst hH
  simp only [stdH, Arm.eta2, Fld.eta, Grp.eta, allGn, bneD, ho, hn, hr]
  repeat' (first | exact trivial | rfl | exact RowsEq.self okRY | exact RowsEq.z0 | omega | refine And.intro ?_ ?_ | (intro h; first | (cases h; done) | (simp at h; done) | skip))
theorem c_ptrN001 (a : Arm) (ho : decide (a.o = 0) = true) (hn : noG a.n = true) (hr : noG a.r = false) : ConN Tryz.prog 41 [.ptr 0 0] [(0, .cells (cA stdH a [.lit (.slice none 0 0)]) 30)] 1 (.slc 1 0 1 1) [.cells [.ptr 0 14] 69] [(0, .cells (cA stdH a [.lit (.slice none 0 0)]) 30)] := by
  have hB : Base Tryz.prog (tabΓ []) tabN := base_of tabOkN (ents_nil)
  refine con_m (N := 43) hB (draw_ok hB mixed) Tryz.func41 rfl rfl (fun H => [.ptr 0 0]) (fun H => [(0, .cells (cA H a [.lit (.slice none 0 0)]) 30)]) 1 (fun H => .slc 1 0 1 1) (fun H => [.cells [.ptr 0 14] 69]) (fun H => [(0, .cells (cA H a [.lit (.slice none 0 0)]) 30)]) 200 (by simp) (fun x hx => ?_) (fun i b hi => ?_) (fun i hi => ?_) (fun i b hi => ?_) ?_
  · simp only [cA, cX, zqu] at hx
    subst hx
    exact .ptr (by omega)
  · have := lk_in hi
    simp only [zqu, Prod.mk.injEq] at this
    obtain ⟨rfl, rfl⟩ := this
    refine ⟨by omega, cells_bl fun x hx => ?_, _, List.mem_cons_self⟩
    simp only [cA, cX, zqu] at hx
    rcases hx with rfl | rfl | rfl | rfl | rfl | rfl | rfl | rfl | rfl | rfl | rfl | rfl | rfl | rfl | rfl | rfl <;> first | exact .lit
  · obtain rfl : i = 0 := by omega
    exact ⟨_, rfl⟩
  · simp only [zqu, Prod.mk.injEq] at hi
    obtain ⟨rfl, rfl⟩ := hi
    exact ⟨_, rfl⟩
  intro X hX hX0 H hH
  conv in Fin.chk _ _ => cbv
  try simp only [zqs, Plain_rowsC, Plain_rowsY, zqx, AllP, zqw, upd, if_true]
  subst hH
  simp only [stdH, Arm.eta2, Fld.eta, Grp.eta, allGn, bneD, ho, hn, hr]
  repeat' (first | exact trivial | rfl | exact RowsEq.self okRY | exact RowsEq.z0 | omega | refine And.intro ?_ ?_ | (intro h; first | (cases h; done) | (simp at h; done) | skip))
theorem c_ptrN100 (a : Arm) (ho : decide (a.o = 0) = false) (hn : noG a.n = true) (hr : noG a.r = true) : ConN Tryz.prog 41 [.ptr 0 0] [(0, .cells (cA stdH a [.lit (.slice none 0 0)]) 30)] 1 (.slc 1 0 1 1) [.cells [.ptr 0 6] 69] [(0, .cells (cA stdH a [.lit (.slice none 0 0)]) 30)] := by
  have hB : Base Tryz.prog (tabΓ []) tabN := base_of tabOkN (ents_nil)
  refine con_m (N := 43) hB (draw_ok hB mixed) Tryz.func41 rfl rfl (fun H => [.ptr 0 0]) (fun H => [(0, .cells (cA H a [.lit (.slice none 0 0)]) 30)]) 1 (fun H => .slc 1 0 1 1) (fun H => [.cells [.ptr 0 6] 69]) (fun H => [(0, .cells (cA H a [.lit (.slice none 0 0)]) 30)]) 200 (by simp) (fun x hx => ?_) (fun i b hi => ?_) (fun i hi => ?_) (fun i b hi => ?_) ?_
  · simp only [cA, cX, zqu] at hx
    subst hx
    exact .ptr (by omega)
  · have := lk_in hi
    simp only [zqu, Prod.mk.injEq] at this
    obtain ⟨rfl, rfl⟩ := this
    refine ⟨by omega, cells_bl fun x hx => ?_, _, List.mem_cons_self⟩
    simp only [cA, cX, zqu] at hx
    rcases hx with rfl | rfl | rfl | rfl | rfl | rfl | rfl | rfl | rfl | rfl | rfl | rfl | rfl | rfl | rfl | rfl <;> first | exact .lit
  · obtain rfl : i = 0 := by omega
    exact ⟨_, rfl⟩
  · simp only [zqu, Prod.mk.injEq] at hi
    obtain ⟨rfl, rfl⟩ := hi
    exact ⟨_, rfl⟩
  intro X hX hX0 H hH
  conv in Fin.chk _ _ => cbv
  try simp only [zqs, Plain_rowsC, Plain_rowsY, zqx, AllP, zqw, upd, if_true]
  subst hH
  simp only [stdH, Arm.eta2, Fld.eta, Grp.eta, allGn, bneD, ho, hn, hr]
  repeat' (first | exact trivial | rfl | exact RowsEq.self okRY | exact RowsEq.z0 | omega | refine And.intro ?_ ?_ | (intro h; first | (cases h; done) | (simp at h; done) | skip))
theorem c_ptrN101 (a : Arm) (ho : decide (a.o = 0) = false) (hn : noG a.n = true) (hr : noG a.r = false) : ConN Tryz.prog 41 [.ptr 0 0] [(0, .cells (cA stdH a [.lit (.slice none 0 0)]) 30)] 1 (.slc 1 0 1 2) [.cells [.ptr 0 6, .ptr 0 14] 69] [(0, .cells (cA stdH a [.lit (.slice none 0 0)]) 30)] := by
  have hB : Base Tryz.prog (tabΓ []) tabN := base_of tabOkN (ents_nil)
  refine con_m (N := 43) hB (draw_ok hB mixed) Tryz.func41 rfl rfl (fun H => [.ptr 0 0]) (fun H => [(0, .cells (cA H a [.lit (.slice none 0 0)]) 30)]) 1 (fun H => .slc 1 0 1 2) (fun H => [.cells [.ptr 0 6, .ptr 0 14] 69]) (fun H => [(0, .cells (cA H a [.lit (.slice none 0 0)]) 30)]) 200 (by simp) (fun x hx => ?_) (fun i b hi => ?_) (fun i hi => ?_) (fun i b hi => ?_) ?_
  · simp only [cA, cX, zqu] at hx
    subst hx
    exact .ptr (by omega)
  · have := lk_in hi
    simp only [zqu, Prod.mk.injEq] at this
    obtain ⟨rfl, rfl⟩ := this
    refine ⟨by omega, cells_bl fun x hx => ?_, _, List.mem_cons_self⟩
    simp only [cA, cX, zqu] at hx
    rcases hx with rfl | rfl | rfl | rfl | rfl | rfl | rfl | rfl | rfl | rfl | rfl | rfl | rfl | rfl | rfl | rfl <;> first | exact .lit
  · obtain rfl : i = 0 := by omega
    exact ⟨_, rfl⟩
  · simp only [zqu, Prod.mk.injEq] at hi
    obtain ⟨rfl, rfl⟩ := hi
    exact ⟨_, rfl⟩
  intro X hX hX0 H hH
  conv in Fin.chk _ _ => cbv
  try simp only [zqs, Plain_rowsC, Plain_rowsY, zqx, AllP, zqw, upd, if_true]
  subst hH
  simp only [stdH, Arm.eta2, Fld.eta, Grp.eta, allGn, bneD, ho, hn, hr]
  repeat' (first | exact trivial | rfl | exact RowsEq.self okRY | exact RowsEq.z0 | omega | refine And.intro ?_ ?_ | (intro h; first | (cases h; done) | (simp at h; done) | skip))
theorem c_ptrN110 (a : Arm) (ho : decide (a.o = 0) = false) (hn : noG a.n = false) (hr : noG a.r = true) : ConN Tryz.prog 41 [.ptr 0 0] [(0, .cells (cA stdH a [.lit (.slice none 0 0)]) 30)] 1 (.slc 1 0 1 2) [.cells [.ptr 0 6, .ptr 0 10] 69] [(0, .cells (cA stdH a [.lit (.slice none 0 0)]) 30)] := by
  have hB : Base Tryz.prog (tabΓ []) tabN := base_of tabOkN (ents_nil)
  refine con_m (N := 43) hB (draw_ok hB mixed) Tryz.func41 rfl rfl (fun H => [.ptr 0 0]) (fun H => [(0, .cells (cA H a [.lit (.slice none 0 0)]) 30)]) 1 (fun H => .slc 1 0 1 2) (fun H => [.cells [.ptr 0 6, .ptr 0 10] 69]) (fun H => [(0, .cells (cA H a [.lit (.slice none 0 0)]) 30)]) 200 (by simp) (fun x hx => ?_) (fun i b hi => ?_) (fun i hi => ?_) (fun i b hi => ?_) ?_
  · simp only [cA, cX, zqu] at hx
    subst hx
    exact .ptr (by omega)
  · have := lk_in hi
    simp only [zqu, Prod.mk.injEq] at this
    obtain ⟨rfl, rfl⟩ := this
    refine ⟨by omega, cells_bl fun x hx => ?_, _, List.mem_cons_self⟩
    simp only [cA, cX, zqu] at hx
    rcases hx with rfl | rfl | rfl | rfl | rfl | rfl | rfl | rfl | rfl | rfl | rfl | rfl | rfl | rfl | rfl | rfl <;> first | exact .lit
  · obtain rfl : i = 0 := by omega
    exact ⟨_, rfl⟩
  · simp only [zqu, Prod.mk.injEq] at hi
    obtain ⟨rfl, rfl⟩ := hi
    exact ⟨_, rfl⟩
  intro X hX hX0 H hH
  conv in Fin.chk _ _ => cbv
  try simp only [zqs, Plain_rowsC, Plain_rowsY, zqx, AllP, zqw, upd, if_true]
  subst hH
  simp only [stdH, Arm.eta2, Fld.eta, Grp.eta, allGn, bneD, ho, hn, hr]
  repeat' (first | exact trivial | rfl | exact RowsEq.self okRY | exact RowsEq.z0 | omega | refine And.intro ?_ ?_ | (intro h; first | (cases h; done) | (simp at h; done) | skip))
theorem c_ptrN111 (a : Arm) (ho : decide (a.o = 0) = false) (hn : noG a.n = false) (hr : noG a.r = false) : ConN Tryz.prog 41 [.ptr 0 0] [(0, .cells (cA stdH a [.lit (.slice none 0 0)]) 30)] 1 (.slc 1 0 1 3) [.cells [.ptr 0 6, .ptr 0 10, .ptr 0 14] 69] [(0, .cells (cA stdH a [.lit (.slice none 0 0)]) 30)] := by
  have hB : Base Tryz.prog (tabΓ []) tabN := base_of tabOkN (ents_nil)
  refine con_m (N := 43) hB (draw_ok hB mixed) Tryz.func41 rfl rfl (fun H => [.ptr 0 0]) (fun H => [(0, .cells (cA H a [.lit (.slice none 0 0)]) 30)]) 1 (fun H => .slc 1 0 1 3) (fun H => [.cells [.ptr 0 6, .ptr 0 10, .ptr 0 14] 69]) (fun H => [(0, .cells (cA H a [.lit (.slice none 0 0)]) 30)]) 200 (by simp) (fun x hx => ?_) (fun i b hi => ?_) (fun i hi => ?_) (fun i b hi => ?_) ?_
  · simp only [cA, cX, zqu] at hx
    subst hx
    exact .ptr (by omega)
  · have := lk_in hi
    simp only [zqu, Prod.mk.injEq] at this
    obtain ⟨rfl, rfl⟩ := this
    refine ⟨by omega, cells_bl fun x hx => ?_, _, List.mem_cons_self⟩
    simp only [cA, cX, zqu] at hx
    rcases hx with rfl | rfl | rfl | rfl | rfl | rfl | rfl | rfl | rfl | rfl | rfl | rfl | rfl | rfl | rfl | rfl <;> first | exact .lit
  · obtain rfl : i = 0 := by omega
    exact ⟨_, rfl⟩
  · simp only [zqu, Prod.mk.injEq] at hi
    obtain ⟨rfl, rfl⟩ := hi
    exact ⟨_, rfl⟩
  intro X hX hX0 H hH
  conv in Fin.chk _ _ => cbv
  try simp only [zqs, Plain_rowsC, Plain_rowsY, zqx, AllP, zqw, upd, if_true]
  subst hH
  simp only [stdH, Arm.eta2, Fld.eta, Grp.eta, allGn, bneD, ho, hn, hr]
  repeat' (first | exact trivial | rfl | exact RowsEq.self okRY | exact RowsEq.z0 | omega | refine And.intro ?_ ?_ | (intro h; first | (cases h; done) | (simp at h; done) | skip))
noncomputable def e_ptrN000 : Entry := ⟨41, fun H a h nx => match a with
  | [.ptr i 0] => (match lk i h with
    | some (.cells [.lit (.int .i64 x0), .lit (.int .i64 x1), .lit (.int .i64 x2), .lit (.int .i64 x3), .lit (.int .i64 x4), .lit (.int .i64 x5), .lit (.int .i64 x6), .lit (.int .i64 x7), .lit (.int .i64 x8), .lit (.int .i64 x9), .lit (.int .i64 x10), .lit (.int .i64 x11), .lit (.int .i64 x12), .lit (.int .i64 x13), .lit (.int .i64 x14), .lit (.slice none 0 0)] T') => bif Nat.beq T' 30 then some (.slc nx 0 1 0, [.rows 1 0 (rowsOf 1 []) 69], [i], [(i, .cells (cX x0 x1 x2 x3 x4 x5 x6 x7 x8 x9 x10 x11 x12 x13 x14 [.lit (.slice none 0 0)]) 30)], [H Prop fun _ => decide (x4 = 0) = true, H Prop fun _ => noG ⟨x7, x8, x9, x10⟩ = true, H Prop fun _ => noG ⟨x11, x12, x13, x14⟩ = true]) else none
    | _ => none)
  | _ => none⟩
theorem eok_ptrN000 : EntryOk Tryz.prog e_ptrN000 := ⟨by unfold isBody; kernel_rfl, fun a hp nx r nb rd u ob e hob => by
  simp only [e_ptrN000] at e
  split at e
  · rename_i i
    split at e
    · rename_i x0 x1 x2 x3 x4 x5 x6 x7 x8 x9 x10 x11 x12 x13 x14 T' hlk
      cases hc : Nat.beq T' 30 with
      | false => rw [hc] at e; cases e
      | true =>
      rw [hc, cond_true] at e
      obtain rfl := Nat.eq_of_beq_eq_true hc
      simp only [zqt] at e
      obtain ⟨rfl, rfl, rfl, rfl, rfl⟩ := e
      obtain ⟨o1, o2, o3, _⟩ := hob
      refine ⟨fun q b hq => ?_, [(i, .cells (cX x0 x1 x2 x3 x4 x5 x6 x7 x8 x9 x10 x11 x12 x13 x14 [.lit (.slice none 0 0)]) 30)], fun q b hq => ?_, ?_⟩
      · simp only [zqu, Prod.mk.injEq] at hq
        obtain ⟨rfl, rfl⟩ := hq
        exact ⟨by simp, _, hlk, rfl⟩
      · rw [lk_cons] at hq
        by_cases hi : i = q
        · rw [if_pos hi] at hq; injection hq with hq; subst hq; subst hi; exact ⟨by simp, hlk⟩
        · rw [if_neg hi] at hq; simp [lk] at hq
      · skip
        have hbl : ∀ x ∈ ((cX x0 x1 x2 x3 x4 x5 x6 x7 x8 x9 x10 x11 x12 x13 x14 [.lit (.slice none 0 0)]) : List AV), Bl 0 x := fun x hx => by
          simp only [cA, cX, zqu] at hx
          rcases hx with rfl | rfl | rfl | rfl | rfl | rfl | rfl | rfl | rfl | rfl | rfl | rfl | rfl | rfl | rfl | rfl <;> exact .lit
        exact ptrz_ok (c_ptrN000 ⟨⟨x0, x1, x2, x3⟩, x4, x5, x6, ⟨x7, x8, x9, x10⟩, ⟨x11, x12, x13, x14⟩⟩ o1 o2 o3) rfl rfl rfl (fun c x y hx hy => rn_same hbl hx hy) hbl
    · cases e
  · cases e⟩
noncomputable def e_ptrN001 : Entry := ⟨41, fun H a h nx => match a with
  | [.ptr i 0] => (match lk i h with
    | some (.cells [.lit (.int .i64 x0), .lit (.int .i64 x1), .lit (.int .i64 x2), .lit (.int .i64 x3), .lit (.int .i64 x4), .lit (.int .i64 x5), .lit (.int .i64 x6), .lit (.int .i64 x7), .lit (.int .i64 x8), .lit (.int .i64 x9), .lit (.int .i64 x10), .lit (.int .i64 x11), .lit (.int .i64 x12), .lit (.int .i64 x13), .lit (.int .i64 x14), .lit (.slice none 0 0)] T') => bif Nat.beq T' 30 then some (.slc nx 0 1 1, [.cells [.ptr i 14] 69], [i], [(i, .cells (cX x0 x1 x2 x3 x4 x5 x6 x7 x8 x9 x10 x11 x12 x13 x14 [.lit (.slice none 0 0)]) 30)], [H Prop fun _ => decide (x4 = 0) = true, H Prop fun _ => noG ⟨x7, x8, x9, x10⟩ = true, H Prop fun _ => noG ⟨x11, x12, x13, x14⟩ = false]) else none
    | _ => none)
  | _ => none⟩
theorem eok_ptrN001 : EntryOk Tryz.prog e_ptrN001 := ⟨by unfold isBody; kernel_rfl, fun a hp nx r nb rd u ob e hob => by
  simp only [e_ptrN001] at e
  split at e
  · rename_i i
    split at e
    · rename_i x0 x1 x2 x3 x4 x5 x6 x7 x8 x9 x10 x11 x12 x13 x14 T' hlk
      cases hc : Nat.beq T' 30 with
      | false => rw [hc] at e; cases e
      | true =>
      rw [hc, cond_true] at e
      obtain rfl := Nat.eq_of_beq_eq_true hc
      simp only [zqt] at e
      obtain ⟨rfl, rfl, rfl, rfl, rfl⟩ := e
      obtain ⟨o1, o2, o3, _⟩ := hob
      refine ⟨fun q b hq => ?_, [(i, .cells (cX x0 x1 x2 x3 x4 x5 x6 x7 x8 x9 x10 x11 x12 x13 x14 [.lit (.slice none 0 0)]) 30)], fun q b hq => ?_, ?_⟩
      · simp only [zqu, Prod.mk.injEq] at hq
        obtain ⟨rfl, rfl⟩ := hq
        exact ⟨by simp, _, hlk, rfl⟩
      · rw [lk_cons] at hq
        by_cases hi : i = q
        · rw [if_pos hi] at hq; injection hq with hq; subst hq; subst hi; exact ⟨by simp, hlk⟩
        · rw [if_neg hi] at hq; simp [lk] at hq
      · skip
        have hbl : ∀ x ∈ ((cX x0 x1 x2 x3 x4 x5 x6 x7 x8 x9 x10 x11 x12 x13 x14 [.lit (.slice none 0 0)]) : List AV), Bl 0 x := fun x hx => by
          simp only [cA, cX, zqu] at hx
          rcases hx with rfl | rfl | rfl | rfl | rfl | rfl | rfl | rfl | rfl | rfl | rfl | rfl | rfl | rfl | rfl | rfl <;> exact .lit
        exact ptrs_ok (offs := [14]) (c_ptrN001 ⟨⟨x0, x1, x2, x3⟩, x4, x5, x6, ⟨x7, x8, x9, x10⟩, ⟨x11, x12, x13, x14⟩⟩ o1 o2 o3) rfl rfl rfl (fun c x y hx hy => rn_same hbl hx hy) hbl
    · cases e
  · cases e⟩
noncomputable def e_ptrN100 : Entry := ⟨41, fun H a h nx => match a with
  | [.ptr i 0] => (match lk i h with
    | some (.cells [.lit (.int .i64 x0), .lit (.int .i64 x1), .lit (.int .i64 x2), .lit (.int .i64 x3), .lit (.int .i64 x4), .lit (.int .i64 x5), .lit (.int .i64 x6), .lit (.int .i64 x7), .lit (.int .i64 x8), .lit (.int .i64 x9), .lit (.int .i64 x10), .lit (.int .i64 x11), .lit (.int .i64 x12), .lit (.int .i64 x13), .lit (.int .i64 x14), .lit (.slice none 0 0)] T') => bif Nat.beq T' 30 then some (.slc nx 0 1 1, [.cells [.ptr i 6] 69], [i], [(i, .cells (cX x0 x1 x2 x3 x4 x5 x6 x7 x8 x9 x10 x11 x12 x13 x14 [.lit (.slice none 0 0)]) 30)], [H Prop fun _ => decide (x4 = 0) = false, H Prop fun _ => noG ⟨x7, x8, x9, x10⟩ = true, H Prop fun _ => noG ⟨x11, x12, x13, x14⟩ = true]) else none
    | _ => none)
  | _ => none⟩
theorem eok_ptrN100 : EntryOk Tryz.prog e_ptrN100 := ⟨by unfold isBody; kernel_rfl, fun a hp nx r nb rd u ob e hob => by
  simp only [e_ptrN100] at e
  split at e
  · rename_i i
    split at e
    · rename_i x0 x1 x2 x3 x4 x5 x6 x7 x8 x9 x10 x11 x12 x13 x14 T' hlk
      cases hc : Nat.beq T' 30 with
      | false => rw [hc] at e; cases e
      | true =>
      rw [hc, cond_true] at e
      obtain rfl := Nat.eq_of_beq_eq_true hc
      simp only [zqt] at e
      obtain ⟨rfl, rfl, rfl, rfl, rfl⟩ := e
      obtain ⟨o1, o2, o3, _⟩ := hob
      refine ⟨fun q b hq => ?_, [(i, .cells (cX x0 x1 x2 x3 x4 x5 x6 x7 x8 x9 x10 x11 x12 x13 x14 [.lit (.slice none 0 0)]) 30)], fun q b hq => ?_, ?_⟩
      · simp only [zqu, Prod.mk.injEq] at hq
        obtain ⟨rfl, rfl⟩ := hq
        exact ⟨by simp, _, hlk, rfl⟩
      · rw [lk_cons] at hq
        by_cases hi : i = q
        · rw [if_pos hi] at hq; injection hq with hq; subst hq; subst hi; exact ⟨by simp, hlk⟩
        · rw [if_neg hi] at hq; simp [lk] at hq
      · skip
        have hbl : ∀ x ∈ ((cX x0 x1 x2 x3 x4 x5 x6 x7 x8 x9 x10 x11 x12 x13 x14 [.lit (.slice none 0 0)]) : List AV), Bl 0 x := fun x hx => by
          simp only [cA, cX, zqu] at hx
          rcases hx with rfl | rfl | rfl | rfl | rfl | rfl | rfl | rfl | rfl | rfl | rfl | rfl | rfl | rfl | rfl | rfl <;> exact .lit
        exact ptrs_ok (offs := [6]) (c_ptrN100 ⟨⟨x0, x1, x2, x3⟩, x4, x5, x6, ⟨x7, x8, x9, x10⟩, ⟨x11, x12, x13, x14⟩⟩ o1 o2 o3) rfl rfl rfl (fun c x y hx hy => rn_same hbl hx hy) hbl
    · cases e
  · cases e⟩
noncomputable def e_ptrN101 : Entry := ⟨41, fun H a h nx => match a with
  | [.ptr i 0] => (match lk i h with
    | some (.cells [.lit (.int .i64 x0), .lit (.int .i64 x1), .lit (.int .i64 x2), .lit (.int .i64 x3), .lit (.int .i64 x4), .lit (.int .i64 x5), .lit (.int .i64 x6), .lit (.int .i64 x7), .lit (.int .i64 x8), .lit (.int .i64 x9), .lit (.int .i64 x10), .lit (.int .i64 x11), .lit (.int .i64 x12), .lit (.int .i64 x13), .lit (.int .i64 x14), .lit (.slice none 0 0)] T') => bif Nat.beq T' 30 then some (.slc nx 0 1 2, [.cells [.ptr i 6, .ptr i 14] 69], [i], [(i, .cells (cX x0 x1 x2 x3 x4 x5 x6 x7 x8 x9 x10 x11 x12 x13 x14 [.lit (.slice none 0 0)]) 30)], [H Prop fun _ => decide (x4 = 0) = false, H Prop fun _ => noG ⟨x7, x8, x9, x10⟩ = true, H Prop fun _ => noG ⟨x11, x12, x13, x14⟩ = false]) else none
    | _ => none)
  | _ => none⟩
theorem eok_ptrN101 : EntryOk Tryz.prog e_ptrN101 := ⟨by unfold isBody; kernel_rfl, fun a hp nx r nb rd u ob e hob => by
  simp only [e_ptrN101] at e
  split at e
  · rename_i i
    split at e
    · rename_i x0 x1 x2 x3 x4 x5 x6 x7 x8 x9 x10 x11 x12 x13 x14 T' hlk
      cases hc : Nat.beq T' 30 with
      | false => rw [hc] at e; cases e
      | true =>
      rw [hc, cond_true] at e
      obtain rfl := Nat.eq_of_beq_eq_true hc
      simp only [zqt] at e
      obtain ⟨rfl, rfl, rfl, rfl, rfl⟩ := e
      obtain ⟨o1, o2, o3, _⟩ := hob
      refine ⟨fun q b hq => ?_, [(i, .cells (cX x0 x1 x2 x3 x4 x5 x6 x7 x8 x9 x10 x11 x12 x13 x14 [.lit (.slice none 0 0)]) 30)], fun q b hq => ?_, ?_⟩
      · simp only [zqu, Prod.mk.injEq] at hq
        obtain ⟨rfl, rfl⟩ := hq
        exact ⟨by simp, _, hlk, rfl⟩
      · rw [lk_cons] at hq
        by_cases hi : i = q
        · rw [if_pos hi] at hq; injection hq with hq; subst hq; subst hi; exact ⟨by simp, hlk⟩
        · rw [if_neg hi] at hq; simp [lk] at hq
      · skip
        have hbl : ∀ x ∈ ((cX x0 x1 x2 x3 x4 x5 x6 x7 x8 x9 x10 x11 x12 x13 x14 [.lit (.slice none 0 0)]) : List AV), Bl 0 x := fun x hx => by
          simp only [cA, cX, zqu] at hx
          rcases hx with rfl | rfl | rfl | rfl | rfl | rfl | rfl | rfl | rfl | rfl | rfl | rfl | rfl | rfl | rfl | rfl <;> exact .lit
        exact ptrs_ok (offs := [6, 14]) (c_ptrN101 ⟨⟨x0, x1, x2, x3⟩, x4, x5, x6, ⟨x7, x8, x9, x10⟩, ⟨x11, x12, x13, x14⟩⟩ o1 o2 o3) rfl rfl rfl (fun c x y hx hy => rn_same hbl hx hy) hbl
    · cases e
  · cases e⟩
noncomputable def e_ptrN110 : Entry := ⟨41, fun H a h nx => match a with
  | [.ptr i 0] => (match lk i h with
    | some (.cells [.lit (.int .i64 x0), .lit (.int .i64 x1), .lit (.int .i64 x2), .lit (.int .i64 x3), .lit (.int .i64 x4), .lit (.int .i64 x5), .lit (.int .i64 x6), .lit (.int .i64 x7), .lit (.int .i64 x8), .lit (.int .i64 x9), .lit (.int .i64 x10), .lit (.int .i64 x11), .lit (.int .i64 x12), .lit (.int .i64 x13), .lit (.int .i64 x14), .lit (.slice none 0 0)] T') => bif Nat.beq T' 30 then some (.slc nx 0 1 2, [.cells [.ptr i 6, .ptr i 10] 69], [i], [(i, .cells (cX x0 x1 x2 x3 x4 x5 x6 x7 x8 x9 x10 x11 x12 x13 x14 [.lit (.slice none 0 0)]) 30)], [H Prop fun _ => decide (x4 = 0) = false, H Prop fun _ => noG ⟨x7, x8, x9, x10⟩ = false, H Prop fun _ => noG ⟨x11, x12, x13, x14⟩ = true]) else none
    | _ => none)
  | _ => none⟩
theorem eok_ptrN110 : EntryOk Tryz.prog e_ptrN110 := ⟨by unfold isBody; kernel_rfl, fun a hp nx r nb rd u ob e hob => by
  simp only [e_ptrN110] at e
  split at e
  · rename_i i
    split at e
    · rename_i x0 x1 x2 x3 x4 x5 x6 x7 x8 x9 x10 x11 x12 x13 x14 T' hlk
      cases hc : Nat.beq T' 30 with
      | false => rw [hc] at e; cases e
      | true =>
      rw [hc, cond_true] at e
      obtain rfl := Nat.eq_of_beq_eq_true hc
      simp only [zqt] at e
      obtain ⟨rfl, rfl, rfl, rfl, rfl⟩ := e
      obtain ⟨o1, o2, o3, _⟩ := hob
      refine ⟨fun q b hq => ?_, [(i, .cells (cX x0 x1 x2 x3 x4 x5 x6 x7 x8 x9 x10 x11 x12 x13 x14 [.lit (.slice none 0 0)]) 30)], fun q b hq => ?_, ?_⟩
      · simp only [zqu, Prod.mk.injEq] at hq
        obtain ⟨rfl, rfl⟩ := hq
        exact ⟨by simp, _, hlk, rfl⟩
      · rw [lk_cons] at hq
        by_cases hi : i = q
        · rw [if_pos hi] at hq; injection hq with hq; subst hq; subst hi; exact ⟨by simp, hlk⟩
        · rw [if_neg hi] at hq; simp [lk] at hq
      · skip
        have hbl : ∀ x ∈ ((cX x0 x1 x2 x3 x4 x5 x6 x7 x8 x9 x10 x11 x12 x13 x14 [.lit (.slice none 0 0)]) : List AV), Bl 0 x := fun x hx => by
          simp only [cA, cX, zqu] at hx
          rcases hx with rfl | rfl | rfl | rfl | rfl | rfl | rfl | rfl | rfl | rfl | rfl | rfl | rfl | rfl | rfl | rfl <;> exact .lit
        exact ptrs_ok (offs := [6, 10]) (c_ptrN110 ⟨⟨x0, x1, x2, x3⟩, x4, x5, x6, ⟨x7, x8, x9, x10⟩, ⟨x11, x12, x13, x14⟩⟩ o1 o2 o3) rfl rfl rfl (fun c x y hx hy => rn_same hbl hx hy) hbl
    · cases e
  · cases e⟩
noncomputable def e_ptrN111 : Entry := ⟨41, fun H a h nx => match a with
  | [.ptr i 0] => (match lk i h with
    | some (.cells [.lit (.int .i64 x0), .lit (.int .i64 x1), .lit (.int .i64 x2), .lit (.int .i64 x3), .lit (.int .i64 x4), .lit (.int .i64 x5), .lit (.int .i64 x6), .lit (.int .i64 x7), .lit (.int .i64 x8), .lit (.int .i64 x9), .lit (.int .i64 x10), .lit (.int .i64 x11), .lit (.int .i64 x12), .lit (.int .i64 x13), .lit (.int .i64 x14), .lit (.slice none 0 0)] T') => bif Nat.beq T' 30 then some (.slc nx 0 1 3, [.cells [.ptr i 6, .ptr i 10, .ptr i 14] 69], [i], [(i, .cells (cX x0 x1 x2 x3 x4 x5 x6 x7 x8 x9 x10 x11 x12 x13 x14 [.lit (.slice none 0 0)]) 30)], [H Prop fun _ => decide (x4 = 0) = false, H Prop fun _ => noG ⟨x7, x8, x9, x10⟩ = false, H Prop fun _ => noG ⟨x11, x12, x13, x14⟩ = false]) else none
    | _ => none)
  | _ => none⟩
theorem eok_ptrN111 : EntryOk Tryz.prog e_ptrN111 := ⟨by unfold isBody; kernel_rfl, fun a hp nx r nb rd u ob e hob => by
  simp only [e_ptrN111] at e
  split at e
  · rename_i i
    split at e
    · rename_i x0 x1 x2 x3 x4 x5 x6 x7 x8 x9 x10 x11 x12 x13 x14 T' hlk
      cases hc : Nat.beq T' 30 with
      | false => rw [hc] at e; cases e
      | true =>
      rw [hc, cond_true] at e
      obtain rfl := Nat.eq_of_beq_eq_true hc
      simp only [zqt] at e
      obtain ⟨rfl, rfl, rfl, rfl, rfl⟩ := e
      obtain ⟨o1, o2, o3, _⟩ := hob
      refine ⟨fun q b hq => ?_, [(i, .cells (cX x0 x1 x2 x3 x4 x5 x6 x7 x8 x9 x10 x11 x12 x13 x14 [.lit (.slice none 0 0)]) 30)], fun q b hq => ?_, ?_⟩
      · simp only [zqu, Prod.mk.injEq] at hq
        obtain ⟨rfl, rfl⟩ := hq
        exact ⟨by simp, _, hlk, rfl⟩
      · rw [lk_cons] at hq
        by_cases hi : i = q
        · rw [if_pos hi] at hq; injection hq with hq; subst hq; subst hi; exact ⟨by simp, hlk⟩
        · rw [if_neg hi] at hq; simp [lk] at hq
      · skip
        have hbl : ∀ x ∈ ((cX x0 x1 x2 x3 x4 x5 x6 x7 x8 x9 x10 x11 x12 x13 x14 [.lit (.slice none 0 0)]) : List AV), Bl 0 x := fun x hx => by
          simp only [cA, cX, zqu] at hx
          rcases hx with rfl | rfl | rfl | rfl | rfl | rfl | rfl | rfl | rfl | rfl | rfl | rfl | rfl | rfl | rfl | rfl <;> exact .lit
        exact ptrs_ok (offs := [6, 10, 14]) (c_ptrN111 ⟨⟨x0, x1, x2, x3⟩, x4, x5, x6, ⟨x7, x8, x9, x10⟩, ⟨x11, x12, x13, x14⟩⟩ o1 o2 o3) rfl rfl rfl (fun c x y hx hy => rn_same hbl hx hy) hbl
    · cases e
  · cases e⟩
theorem c_pln000 (a : Arm) (ha : okA a = true) (ho : decide (a.o = 0) = true) (hn : noG a.n = true) (hr : noG a.r = true) : ConN Tryz.prog 19 [aT rowA stdH fun _ => a] [] 0 (.tup [aT rowK stdH fun _ => plnK a, .lit (.bool (stdH Bool fun _ => true))]) [] [] := by
  have hB : Base Tryz.prog (tabΓ [e_IsValidArms, e_ptrN000]) tabZ := base_of tabOkZ (ents_cons eok_IsValidArms <| ents_cons eok_ptrN000 <| ents_nil)
  refine con_m (N := 33) hB (draw_ok hB mixed) Tryz.func19 rfl rfl (fun H => [aT rowA H fun _ => a]) (fun _ => []) 0 (fun H => .tup [aT rowK H fun _ => plnK a, .lit (.bool (H Bool fun _ => true))]) (fun H => []) (fun _ => []) 400 (by simp) (fun x hx => ?_) (by simp [lk]) (by omega) (by simp) ?_
  · simp only [zqu] at hx
    rcases hx with rfl
    exact aT_bl okRA _ _
  intro X hX hX0 H hH
  conv in Fin.chk _ _ => cbv
  try simp only [zqs, Plain_rowsC, Plain_rowsY, zqx, AllP, zqw, upd, if_true]
  subst hH
  have e1 : (plnK a).slots = (tncL a).map fun t => (⟨1, t⟩ : Slo) := rfl
  have e2 : (plnK a).arms = filA a [1, 1, 1] := rfl
  have ho2 := ho
  rw [decide_eq_true_eq] at ho2
  simp only [stdH, Arm.eta2, Fld.eta, Grp.eta, ha, ho, hn, hr, e1, e2]
  unfold filA tncL i2 i1
  simp only [ho2, hn, hr, if_true, if_false, Bool.false_eq_true, List.nil_append, List.append_nil, List.cons_append, List.map_cons, List.map_nil, List.getD_cons_zero, List.getD_cons_succ]
  (repeat' (first | exact trivial | exact QZ1 ⟨1, _⟩ | exact QZ2 ⟨1, _⟩ ⟨1, _⟩ | exact QZ3 ⟨1, _⟩ ⟨1, _⟩ ⟨1, _⟩ | rfl | omega | refine And.intro ?_ ?_ | (intro h; first | (cases h; done) | (simp at h; done) | skip)))
theorem c_pln001 (a : Arm) (ha : okA a = true) (ho : decide (a.o = 0) = true) (hn : noG a.n = true) (hr : noG a.r = false) : ConN Tryz.prog 19 [aT rowA stdH fun _ => a] [] 0 (.tup [aT rowK stdH fun _ => plnK a, .lit (.bool (stdH Bool fun _ => true))]) [] [] := by
  have hB : Base Tryz.prog (tabΓ [e_IsValidArms, e_ptrN001]) tabZ := base_of tabOkZ (ents_cons eok_IsValidArms <| ents_cons eok_ptrN001 <| ents_nil)
  refine con_m (N := 33) hB (draw_ok hB mixed) Tryz.func19 rfl rfl (fun H => [aT rowA H fun _ => a]) (fun _ => []) 0 (fun H => .tup [aT rowK H fun _ => plnK a, .lit (.bool (H Bool fun _ => true))]) (fun H => []) (fun _ => []) 400 (by simp) (fun x hx => ?_) (by simp [lk]) (by omega) (by simp) ?_
  · simp only [zqu] at hx
    rcases hx with rfl
    exact aT_bl okRA _ _
  intro X hX hX0 H hH
  conv in Fin.chk _ _ => cbv
  try simp only [zqs, Plain_rowsC, Plain_rowsY, zqx, AllP, zqw, upd, if_true]
  subst hH
  have e1 : (plnK a).slots = (tncL a).map fun t => (⟨1, t⟩ : Slo) := rfl
  have e2 : (plnK a).arms = filA a [1, 1, 1] := rfl
  have ho2 := ho
  rw [decide_eq_true_eq] at ho2
  simp only [stdH, Arm.eta2, Fld.eta, Grp.eta, ha, ho, hn, hr, e1, e2]
  unfold filA tncL i2 i1
  simp only [ho2, hn, hr, if_true, if_false, Bool.false_eq_true, List.nil_append, List.append_nil, List.cons_append, List.map_cons, List.map_nil, List.getD_cons_zero, List.getD_cons_succ]
  (repeat' (first | exact trivial | exact QZ1 ⟨1, _⟩ | exact QZ2 ⟨1, _⟩ ⟨1, _⟩ | exact QZ3 ⟨1, _⟩ ⟨1, _⟩ ⟨1, _⟩ | rfl | omega | refine And.intro ?_ ?_ | (intro h; first | (cases h; done) | (simp at h; done) | skip)))
theorem c_pln100 (a : Arm) (ha : okA a = true) (ho : decide (a.o = 0) = false) (hn : noG a.n = true) (hr : noG a.r = true) : ConN Tryz.prog 19 [aT rowA stdH fun _ => a] [] 0 (.tup [aT rowK stdH fun _ => plnK a, .lit (.bool (stdH Bool fun _ => true))]) [] [] := by
  have hB : Base Tryz.prog (tabΓ [e_IsValidArms, e_ptrN100]) tabZ := base_of tabOkZ (ents_cons eok_IsValidArms <| ents_cons eok_ptrN100 <| ents_nil)
  refine con_m (N := 33) hB (draw_ok hB mixed) Tryz.func19 rfl rfl (fun H => [aT rowA H fun _ => a]) (fun _ => []) 0 (fun H => .tup [aT rowK H fun _ => plnK a, .lit (.bool (H Bool fun _ => true))]) (fun H => []) (fun _ => []) 400 (by simp) (fun x hx => ?_) (by simp [lk]) (by omega) (by simp) ?_
  · simp only [zqu] at hx
    rcases hx with rfl
    exact aT_bl okRA _ _
  intro X hX hX0 H hH
  conv in Fin.chk _ _ => cbv
  try simp only [zqs, Plain_rowsC, Plain_rowsY, zqx, AllP, zqw, upd, if_true]
  subst hH
  have e1 : (plnK a).slots = (tncL a).map fun t => (⟨1, t⟩ : Slo) := rfl
  have e2 : (plnK a).arms = filA a [1, 1, 1] := rfl
  have ho2 := ho
  rw [decide_eq_false_iff_not] at ho2
  simp only [stdH, Arm.eta2, Fld.eta, Grp.eta, ha, ho, hn, hr, e1, e2]
  unfold filA tncL i2 i1
  simp only [ho2, hn, hr, if_true, if_false, Bool.false_eq_true, List.nil_append, List.append_nil, List.cons_append, List.map_cons, List.map_nil, List.getD_cons_zero, List.getD_cons_succ]
  (repeat' (first | exact trivial | exact QZ1 ⟨1, _⟩ | exact QZ2 ⟨1, _⟩ ⟨1, _⟩ | exact QZ3 ⟨1, _⟩ ⟨1, _⟩ ⟨1, _⟩ | rfl | omega | refine And.intro ?_ ?_ | (intro h; first | (cases h; done) | (simp at h; done) | skip)))
theorem c_pln101 (a : Arm) (ha : okA a = true) (ho : decide (a.o = 0) = false) (hn : noG a.n = true) (hr : noG a.r = false) : ConN Tryz.prog 19 [aT rowA stdH fun _ => a] [] 0 (.tup [aT rowK stdH fun _ => plnK a, .lit (.bool (stdH Bool fun _ => true))]) [] [] := by
  have hB : Base Tryz.prog (tabΓ [e_IsValidArms, e_ptrN101]) tabZ := base_of tabOkZ (ents_cons eok_IsValidArms <| ents_cons eok_ptrN101 <| ents_nil)
  refine con_m (N := 33) hB (draw_ok hB mixed) Tryz.func19 rfl rfl (fun H => [aT rowA H fun _ => a]) (fun _ => []) 0 (fun H => .tup [aT rowK H fun _ => plnK a, .lit (.bool (H Bool fun _ => true))]) (fun H => []) (fun _ => []) 400 (by simp) (fun x hx => ?_) (by simp [lk]) (by omega) (by simp) ?_
  · simp only [zqu] at hx
    rcases hx with rfl
    exact aT_bl okRA _ _
  intro X hX hX0 H hH
  conv in Fin.chk _ _ => cbv
  try simp only [zqs, Plain_rowsC, Plain_rowsY, zqx, AllP, zqw, upd, if_true]
  subst hH
  have e1 : (plnK a).slots = (tncL a).map fun t => (⟨1, t⟩ : Slo) := rfl
  have e2 : (plnK a).arms = filA a [1, 1, 1] := rfl
  have ho2 := ho
  rw [decide_eq_false_iff_not] at ho2
  simp only [stdH, Arm.eta2, Fld.eta, Grp.eta, ha, ho, hn, hr, e1, e2]
  unfold filA tncL i2 i1
  simp only [ho2, hn, hr, if_true, if_false, Bool.false_eq_true, List.nil_append, List.append_nil, List.cons_append, List.map_cons, List.map_nil, List.getD_cons_zero, List.getD_cons_succ]
  (repeat' (first | exact trivial | exact QZ1 ⟨1, _⟩ | exact QZ2 ⟨1, _⟩ ⟨1, _⟩ | exact QZ3 ⟨1, _⟩ ⟨1, _⟩ ⟨1, _⟩ | rfl | omega | refine And.intro ?_ ?_ | (intro h; first | (cases h; done) | (simp at h; done) | skip)))
theorem c_pln110 (a : Arm) (ha : okA a = true) (ho : decide (a.o = 0) = false) (hn : noG a.n = false) (hr : noG a.r = true) : ConN Tryz.prog 19 [aT rowA stdH fun _ => a] [] 0 (.tup [aT rowK stdH fun _ => plnK a, .lit (.bool (stdH Bool fun _ => true))]) [] [] := by
  have hB : Base Tryz.prog (tabΓ [e_IsValidArms, e_ptrN110]) tabZ := base_of tabOkZ (ents_cons eok_IsValidArms <| ents_cons eok_ptrN110 <| ents_nil)
  refine con_m (N := 33) hB (draw_ok hB mixed) Tryz.func19 rfl rfl (fun H => [aT rowA H fun _ => a]) (fun _ => []) 0 (fun H => .tup [aT rowK H fun _ => plnK a, .lit (.bool (H Bool fun _ => true))]) (fun H => []) (fun _ => []) 400 (by simp) (fun x hx => ?_) (by simp [lk]) (by omega) (by simp) ?_
  · simp only [zqu] at hx
    rcases hx with rfl
    exact aT_bl okRA _ _
  intro X hX hX0 H hH
  conv in Fin.chk _ _ => cbv
  try simp only [zqs, Plain_rowsC, Plain_rowsY, zqx, AllP, zqw, upd, if_true]
  subst hH
  have e1 : (plnK a).slots = (tncL a).map fun t => (⟨1, t⟩ : Slo) := rfl
  have e2 : (plnK a).arms = filA a [1, 1, 1] := rfl
  have ho2 := ho
  rw [decide_eq_false_iff_not] at ho2
  simp only [stdH, Arm.eta2, Fld.eta, Grp.eta, ha, ho, hn, hr, e1, e2]
  unfold filA tncL i2 i1
  simp only [ho2, hn, hr, if_true, if_false, Bool.false_eq_true, List.nil_append, List.append_nil, List.cons_append, List.map_cons, List.map_nil, List.getD_cons_zero, List.getD_cons_succ]
  (repeat' (first | exact trivial | exact QZ1 ⟨1, _⟩ | exact QZ2 ⟨1, _⟩ ⟨1, _⟩ | exact QZ3 ⟨1, _⟩ ⟨1, _⟩ ⟨1, _⟩ | rfl | omega | refine And.intro ?_ ?_ | (intro h; first | (cases h; done) | (simp at h; done) | skip)))
theorem c_pln111 (a : Arm) (ha : okA a = true) (ho : decide (a.o = 0) = false) (hn : noG a.n = false) (hr : noG a.r = false) : ConN Tryz.prog 19 [aT rowA stdH fun _ => a] [] 0 (.tup [aT rowK stdH fun _ => plnK a, .lit (.bool (stdH Bool fun _ => true))]) [] [] := by
  have hB : Base Tryz.prog (tabΓ [e_IsValidArms, e_ptrN111]) tabZ := base_of tabOkZ (ents_cons eok_IsValidArms <| ents_cons eok_ptrN111 <| ents_nil)
  refine con_m (N := 33) hB (draw_ok hB mixed) Tryz.func19 rfl rfl (fun H => [aT rowA H fun _ => a]) (fun _ => []) 0 (fun H => .tup [aT rowK H fun _ => plnK a, .lit (.bool (H Bool fun _ => true))]) (fun H => []) (fun _ => []) 400 (by simp) (fun x hx => ?_) (by simp [lk]) (by omega) (by simp) ?_
  · simp only [zqu] at hx
    rcases hx with rfl
    exact aT_bl okRA _ _
  intro X hX hX0 H hH
  conv in Fin.chk _ _ => cbv
  try simp only [zqs, Plain_rowsC, Plain_rowsY, zqx, AllP, zqw, upd, if_true]
  subst hH
  have e1 : (plnK a).slots = (tncL a).map fun t => (⟨1, t⟩ : Slo) := rfl
  have e2 : (plnK a).arms = filA a [1, 1, 1] := rfl
  have ho2 := ho
  rw [decide_eq_false_iff_not] at ho2
  simp only [stdH, Arm.eta2, Fld.eta, Grp.eta, ha, ho, hn, hr, e1, e2]
  unfold filA tncL i2 i1
  simp only [ho2, hn, hr, if_true, if_false, Bool.false_eq_true, List.nil_append, List.append_nil, List.cons_append, List.map_cons, List.map_nil, List.getD_cons_zero, List.getD_cons_succ]
  (repeat' (first | exact trivial | exact QZ1 ⟨1, _⟩ | exact QZ2 ⟨1, _⟩ ⟨1, _⟩ | exact QZ3 ⟨1, _⟩ ⟨1, _⟩ ⟨1, _⟩ | rfl | omega | refine And.intro ?_ ?_ | (intro h; first | (cases h; done) | (simp at h; done) | skip)))
theorem c_plnX (a : Arm) (ha : okA a = false) : ConN Tryz.prog 19 [aT rowA stdH fun _ => a] [] 0 (.tup [aT rowK stdH fun _ => zK, .lit (.bool (stdH Bool fun _ => false))]) [] [] := by
  have hB : Base Tryz.prog (tabΓ [e_IsValidArms, e_ptrN000]) tabZ := base_of tabOkZ (ents_cons eok_IsValidArms <| ents_cons eok_ptrN000 <| ents_nil)
  refine con_m (N := 33) hB (draw_ok hB mixed) Tryz.func19 rfl rfl (fun H => [aT rowA H fun _ => a]) (fun _ => []) 0 (fun H => .tup [aT rowK H fun _ => zK, .lit (.bool (H Bool fun _ => false))]) (fun H => []) (fun _ => []) 400 (by simp) (fun x hx => ?_) (by simp [lk]) (by omega) (by simp) ?_
  · simp only [zqu] at hx
    rcases hx with rfl
    exact aT_bl okRA _ _
  intro X hX hX0 H hH
  conv in Fin.chk _ _ => cbv
  try simp only [zqs, Plain_rowsC, Plain_rowsY, zqx, AllP, zqw, upd, if_true]
  subst hH
  simp only [stdH, Arm.eta2, Fld.eta, Grp.eta, ha]
  (repeat' (first | exact trivial | rfl | refine And.intro ?_ ?_ | (intro h; first | (cases h; done) | (simp at h; done) | skip)))
theorem c_PlainSk (a : Arm)  : ConN Tryz.prog 19 [aT rowA stdH fun _ => a] [] 0 (.tup [aT rowK stdH fun _ => if okA a = true then plnK a else zK, .lit (.bool (stdH Bool fun _ => okA a))]) [] [] := by
  cases ha : okA a with
  | false => exact c_plnX a ha
  | true =>
    by_cases ho : a.o = 0
    · have hn := okA_o0 ha ho
      cases hr : noG a.r
      · exact c_pln001 a ha (decide_eq_true ho) hn hr
      · exact c_pln000 a ha (decide_eq_true ho) hn hr
    · cases hn : noG a.n <;> cases hr : noG a.r
      · exact c_pln111 a ha (decide_eq_false ho) hn hr
      · exact c_pln110 a ha (decide_eq_false ho) hn hr
      · exact c_pln101 a ha (decide_eq_false ho) hn hr
      · exact c_pln100 a ha (decide_eq_false ho) hn hr
noncomputable def e_PlainSk : Entry := pureE 19 fun H a => match a with
  | [.agg [.lit (.int .i64 a0), .lit (.int .i64 a1), .lit (.int .i64 a2), .lit (.int .i64 a3), .lit (.int .i64 a4), .lit (.int .i64 a5), .lit (.int .i64 a6), .lit (.int .i64 a7), .lit (.int .i64 a8), .lit (.int .i64 a9), .lit (.int .i64 a10), .lit (.int .i64 a11), .lit (.int .i64 a12), .lit (.int .i64 a13), .lit (.int .i64 a14)]] => some (.tup [aT rowK H fun _ => if okA (⟨⟨a0, a1, a2, a3⟩, a4, a5, a6, ⟨a7, a8, a9, a10⟩, ⟨a11, a12, a13, a14⟩⟩ : Arm) = true then plnK (⟨⟨a0, a1, a2, a3⟩, a4, a5, a6, ⟨a7, a8, a9, a10⟩, ⟨a11, a12, a13, a14⟩⟩ : Arm) else zK, .lit (.bool (H Bool fun _ => okA (⟨⟨a0, a1, a2, a3⟩, a4, a5, a6, ⟨a7, a8, a9, a10⟩, ⟨a11, a12, a13, a14⟩⟩ : Arm)))], [])
  | _ => none
theorem eok_PlainSk : EntryOk Tryz.prog e_PlainSk := pureM_ok (by unfold isBody; kernel_rfl) (by
  intro a r ob e hob
  split at e
  · rename_i a0 a1 a2 a3 a4 a5 a6 a7 a8 a9 a10 a11 a12 a13 a14
    simp only [zqt] at e
    obtain ⟨rfl, rfl⟩ := e
    exact ConN.args (.cons .rfl .nil) (c_PlainSk (⟨⟨a0, a1, a2, a3⟩, a4, a5, a6, ⟨a7, a8, a9, a10⟩, ⟨a11, a12, a13, a14⟩⟩ : Arm) )
  · simp at e)

end Go.Proofs.YtmkniipdkanbbaaGreatDoor.AM

