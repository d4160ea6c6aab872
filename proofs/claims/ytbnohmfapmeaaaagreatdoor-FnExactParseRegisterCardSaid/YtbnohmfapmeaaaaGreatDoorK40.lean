/- Lemmas and contracts (Mkj); conditions: none. -/
import Derived.Test.YtbnohmfapmeaaaaGreatDoorK03
import Derived.Test.YtbnohmfapmeaaaaGreatDoorK39
set_option linter.unusedVariables false
set_option linter.unusedSimpArgs false
set_option maxRecDepth 100000
set_option maxHeartbeats 4000000
set_option cbv.maxSteps 3000000
namespace Go.Proofs.YtbnohmfapmeaaaaGreatDoor.AM
/- Marks on a register; conditions: none. -/
/-- A function that turns the slice of its first argument, a structure of a slice of the caller's own. -/
def modJ (f : FuncId) (k : Nat) (E : TypeId) (F : Hold → Nat → (Nat → List AV) → List AV → Option (AV × (Nat → List AV) × List Prop)) : Entry := ⟨f, fun H a h _ => match a with
  | .agg [.slc i 0 k' n] :: a => (match lk i h with
    | some (.rows k'' n' g E') => bif Nat.beq k k' && (Nat.beq k k'' && Nat.beq E E') then (match F H n g a with
      | some (r, g', ob) => some (r, [], [i], [(i, .rows k n g' E)], (H Prop fun _ => n' = n) :: ob)
      | none => none) else none
    | _ => none)
  | _ => none⟩
theorem modJ_ok {P : Program} {f : FuncId} {k : Nat} {E : TypeId} {F : Hold → Nat → (Nat → List AV) → List AV → Option (AV × (Nat → List AV) × List Prop)} (hb : isBody P f)
    (h : ∀ n g a r g' ob, F stdH n g a = some (r, g', ob) → AllP ob → ∃ g0, (∀ j, j < n → g0 j = g j ∧ ∀ x ∈ g0 j, Bl 0 x) ∧ ConN P f (.agg [.slc 0 0 k n] :: a) [(0, .rows k n g0 E)] 1 r [] [(0, .rows k n g' E)] ∧ (∀ x ∈ a, Bl 0 x) ∧ Bl 0 r ∧ ∀ j, j < n → ∀ x ∈ g' j, Bl 0 x) : EntryOk P (modJ f k E F) := by
  refine ⟨hb, fun a hp nx r nb rd u ob e hob => ?_⟩
  simp only [modJ] at e
  split at e
  · rename_i i k' n a'
    split at e
    · rename_i k'' n' g E' hlk
      cases hc : (Nat.beq k k' && (Nat.beq k k'' && Nat.beq E E')) with
      | false => rw [hc] at e; simp at e
      | true =>
        rw [hc] at e
        simp only [cond_true] at e
        simp only [Bool.and_eq_true] at hc
        obtain rfl := Nat.eq_of_beq_eq_true hc.1
        obtain rfl := Nat.eq_of_beq_eq_true hc.2.1
        obtain rfl := Nat.eq_of_beq_eq_true hc.2.2
        cases hF : F stdH n g a' with
        | none => simp [hF] at e
        | some y =>
          obtain ⟨r', g', ob'⟩ := y
          simp only [hF, stdH, Option.some.injEq, Prod.mk.injEq] at e
          obtain ⟨rfl, rfl, rfl, rfl, rfl⟩ := e
          obtain ⟨rfl, hob⟩ := hob
          obtain ⟨g0, h0, h1, h2, h3, h4⟩ := h _ _ _ _ _ _ hF hob
          refine ⟨fun q b hq => ?_, [(i, .rows k n' g E)], fun q b hq => ?_, ?_⟩
          · simp at hq; obtain ⟨rfl, rfl⟩ := hq; exact ⟨by simp, _, hlk, rfl⟩
          · rw [lk_cons] at hq
            by_cases hi : i = q
            · rw [if_pos hi] at hq; injection hq with hq; subst hq; subst hi; exact ⟨by simp, hlk⟩
            · rw [if_neg hi] at hq; simp [lk] at hq
          · refine h1.renR (fun _ => i) (fun q hq => ⟨_, by obtain rfl : q = 0 := by omega
                                                            rfl⟩) (fun C vs hv => ⟨hv.1, fun c x v hx hw => ?_⟩) (fun q b hq => ?_) (by omega) rfl (.pl h3) (fun q b hq => by simp at hq) (fun q b hq => ?_) (fun q b hq => ?_)
            · cases c with
              | zero =>
                have hz := hv.2 0 _ v rfl hw
                simp only [List.getElem?_cons_zero, Option.some.injEq] at hx
                subst hx
                cases hz with
                | agg hl1 h5 hr =>
                  refine .agg hl1 h5 fun c x v hx hw => ?_
                  rcases c with _ | c
                  · simp only [List.getElem?_cons_zero, Option.some.injEq] at hx
                    subst hx
                    exact (Rn.slc (π := fun _ => i) (m := 1) (i := 0) (by omega)).rel (C := C) (D := ⟨fun _ => C.β i, fun j => j < 1, C.ow, C.w⟩) (fun _ _ => rfl) (fun _ h => h) (fun _ h => h) rfl (hr 0 _ v rfl hw)
                  · simp at hx
              | succ c =>
                simp only [List.getElem?_cons_succ] at hx
                exact (Rn.same (π := fun _ => i) (m := 1) (q := 0) (by omega) (by omega) (h2 _ (List.mem_of_getElem? hx))).rel (C := C) (D := ⟨fun _ => C.β i, fun j => j < 1, C.ow, C.w⟩) (fun _ _ => rfl) (fun _ h => h) (fun _ h => h) rfl (hv.2 (c + 1) _ v (by simpa using hx) hw)
            · have := lk_in hq
              simp at this
              obtain ⟨rfl, rfl⟩ := this
              exact ⟨by omega, _, by rw [lk_cons, if_pos rfl], rnb_rows rfl (fun j hj => (h0 j hj).1) (fun j hj => (h0 j hj).2)⟩
            · simp at hq
              obtain ⟨rfl, rfl⟩ := hq
              exact ⟨0, _, by omega, rfl, List.mem_cons_self, .same (rowsB_bl h4)⟩
            · simp at hq
              obtain ⟨rfl, rfl⟩ := hq
              exact ⟨by omega, ⟨_, List.mem_cons_self⟩, fun h => by simp [Blk.dead] at h⟩
    · simp at e
  · simp at e
theorem c_markRegister (s : Rgr) (k : Int) (h0 : s.gs.length ≤ 1048576) (h1 : 0 ≤ k ∧ k ≤ 100000000) : ConN Tryz.prog 27 [.agg [.slc 0 0 18 s.gs.length], .lit (.int .i64 k)] [(0, .rows 18 s.gs.length (rowsW stdH fun _ => s.gs) 100)] 1 (.lit (.int .i64 (k + 18 * (s.gs.length : Nat)))) [] [(0, .rows 18 s.gs.length (rowsW stdH fun _ => mkR s.gs.length k) 100)] := by
  have hB : Base Tryz.prog (tabΓ [e_markGrantS]) tab := base_of tabOk (ents_cons eok_markGrantS <| ents_nil)
  refine con_m (N := 10) hB (draw_ok hB mixed) Tryz.func27 rfl rfl (fun H => [.agg [.slc 0 0 18 (H Nat fun _ => s.gs.length)], .lit (.int .i64 (H Int fun _ => k))]) (fun H => [(0, .rows 18 (H Nat fun _ => s.gs.length) (rowsW H fun _ => s.gs) 100)]) 1 (fun H => .lit (.int .i64 (H Int fun _ => k + 18 * (s.gs.length : Nat)))) (fun H => []) (fun H => [(0, .rows 18 (H Nat fun _ => s.gs.length) (rowsW H fun _ => mkR s.gs.length k) 100)]) 300 (by simp) (fun x hx => ?_) (fun i b hi => ?_) (fun i hi => ?_) (fun i b hi => ?_) ?_
  · simp only [List.mem_cons, List.not_mem_nil, or_false] at hx
    rcases hx with rfl | rfl
    · exact .agg fun x hx => by
        simp only [List.mem_cons, List.not_mem_nil, or_false] at hx
        subst hx
        exact .slc (by omega)
    · exact .lit
  · have := lk_in hi
    simp only [List.mem_cons, List.not_mem_nil, or_false, Prod.mk.injEq] at this
    obtain ⟨rfl, rfl⟩ := this
    exact ⟨by omega, bT_bl okRW _ (fun _ => s.gs) _, _, List.mem_cons_self⟩
  · obtain rfl : i = 0 := by omega
    exact ⟨_, rfl⟩
  · simp only [List.mem_cons, List.not_mem_nil, or_false, Prod.mk.injEq] at hi
    obtain ⟨rfl, rfl⟩ := hi
    exact ⟨_, rfl⟩
  intro X hX hX0 H hH
  conv in Fin.chk _ _ => cbv
  try simp only [Plain_rowsA, Plain_rowsB, Plain_rowsC, Plain_rowsD, Plain_rowsF, Plain_rowsG, Plain_rowsI, Plain_rowsS, Plain_rowsU, Fin.satC_ret, Fin.satC_br, Fin.satC_need, Fin.satC_again, AllP, and_true, true_and, upd, List.length_nil, List.length_cons, Nat.zero_add, if_true, ncast, Int.ofNat_eq_natCast]
  subst hH
  simp only [stdH, Tl_W]
  refine ⟨⟨trivial, Shp_W _ _, h0, h1⟩, ?_, trivial⟩
  have := RowsEq.self okRW (k := 18) (L := mkR s.gs.length k)
  rw [mkR_len] at this
  exact this
noncomputable def e_markRegister : Entry := modJ 27 18 100 fun H n g a => match a with
  | [.lit (.int .i64 k)] => some (.lit (.int .i64 (H Int fun _ => k + 18 * ((Tl rowW n g).length : Nat))), rowsW H fun _ => mkR (Tl rowW n g).length k, [H Prop fun _ => Shp rowW n g, H Prop fun _ => (Tl rowW n g).length ≤ 1048576, H Prop fun _ => 0 ≤ k ∧ k ≤ 100000000])
  | _ => none
theorem eok_markRegister : EntryOk Tryz.prog e_markRegister := modJ_ok (by unfold isBody; kernel_rfl) (by
  intro n g a r g' ob e hob
  split at e
  · rename_i k
    simp only [Option.some.injEq, Prod.mk.injEq] at e
    obtain ⟨rfl, rfl, rfl⟩ := e
    have hs := hob.1
    have hl : (Tl rowW n g).length = n := Tl_len n g
    refine ⟨rowsW stdH fun _ => Tl rowW n g, fun j hj => ⟨?_, ?_⟩, ?_, fun x hx => ?_, .lit, fun j hj => ?_⟩
    · rw [hs.row j hj]; exact ((okRW).row (fun _ => Tl rowW n g) j).trans (by rw [Tl_getD hj])
    · exact rows_blx okRW _ j
    · have := c_markRegister ⟨Tl rowW n g⟩ k hob.2.1 hob.2.2.1
      simp only [stdH, hl] at this ⊢
      exact this
    · simp only [List.mem_cons, List.not_mem_nil, or_false] at hx
      subst hx
      exact .lit
    · exact rows_blx okRW _ j
  · simp at e)
theorem c_heldRegister (a : Rgr) (k : Int) (h0 : a.gs.length ≤ 1048576) (h1 : 0 ≤ k ∧ k ≤ 100000000) (h2 : a.gs = mkR a.gs.length k) : ConN Tryz.prog 28 [aT rowJ stdH fun _ => a, .lit (.int .i64 k)] [] 0 (.lit (.int .i64 (stdH Int fun _ => k + 18 * (a.gs.length : Nat)))) [] [] := by
  have hB : Base Tryz.prog (tabΓ [e_heldGrantS]) tab := base_of tabOk (ents_cons eok_heldGrantS <| ents_nil)
  refine con_m (N := 12) hB (draw_ok hB mixed) Tryz.func28 rfl rfl (fun H => [aT rowJ H fun _ => a, .lit (.int .i64 k)]) (fun _ => []) 0 (fun H => .lit (.int .i64 (H Int fun _ => k + 18 * (a.gs.length : Nat)))) (fun H => []) (fun _ => []) 300 (by simp) (fun x hx => ?_) (by simp [lk]) (by omega) (by simp) ?_
  · simp only [List.mem_cons, List.not_mem_nil, or_false] at hx
    rcases hx with rfl | rfl
    · exact aT_bl okRJ _ _
    · exact .lit
  intro X hX hX0 H hH
  conv in Fin.chk _ _ => cbv
  try simp only [Plain_rowsA, Plain_rowsB, Plain_rowsC, Plain_rowsD, Plain_rowsF, Plain_rowsG, Plain_rowsI, Plain_rowsS, Plain_rowsU, Fin.satC_ret, Fin.satC_br, Fin.satC_need, Fin.satC_again, AllP, and_true, true_and, upd, List.length_nil, List.length_cons, Nat.zero_add, if_true, ncast, Int.ofNat_eq_natCast]
  subst hH
  simp only [stdH, Tl_W]
  refine ⟨⟨Shp_W _ _, h0, h1, h2⟩, fun h => ?_, fun _ => ?_⟩
  · simp only [decide_eq_true_eq] at h
    omega
  · first | exact True.intro | rfl
noncomputable def e_heldRegister : Entry := pureE 28 fun H a => match a with
  | [.agg [.vec 18 a0n a0f], .lit (.int .i64 k)] => some (.lit (.int .i64 (H Int fun _ => k + 18 * ((⟨(Tl rowW a0n a0f)⟩ : Rgr).gs.length : Nat))), [H Prop fun _ => Shp rowW a0n a0f, H Prop fun _ => (⟨(Tl rowW a0n a0f)⟩ : Rgr).gs.length ≤ 1048576, H Prop fun _ => 0 ≤ k ∧ k ≤ 100000000, H Prop fun _ => (⟨(Tl rowW a0n a0f)⟩ : Rgr).gs = mkR (⟨(Tl rowW a0n a0f)⟩ : Rgr).gs.length k])
  | _ => none
theorem eok_heldRegister : EntryOk Tryz.prog e_heldRegister := pureM_ok (by unfold isBody; kernel_rfl) (by
  intro a r ob e hob
  split at e
  · rename_i a0n a0f k
    simp only [Option.some.injEq, Prod.mk.injEq] at e
    obtain ⟨rfl, rfl⟩ := e
    exact ConN.args (.cons (.agg (.cons (.toT okRW rfl hob.1) .nil)) (.cons .rfl .nil)) (c_heldRegister (⟨(Tl rowW a0n a0f)⟩ : Rgr) k hob.2.1 hob.2.2.1 hob.2.2.2.1)
  · simp at e)
theorem c_markGrantsZ (l : List Grt) (k : Int) (h0 : l = []) : ConN Tryz.prog 93 [.vec 18 (stdH Nat fun _ => (l).length) (rowsW stdH fun _ => l), .lit (.int .i64 k)] [] 0 (.lit (.int .i64 (stdH Int fun _ => k))) [] [] := by
  have hB : Base Tryz.prog (tabΓ [e_markText]) tab := base_of tabOk (ents_cons eok_markText <| ents_nil)
  refine con_m (N := 167) hB (draw_ok hB mixed) Tryz.func93 rfl rfl (fun H => [.vec 18 (H Nat fun _ => (l).length) (rowsW H fun _ => l), .lit (.int .i64 k)]) (fun _ => []) 0 (fun H => .lit (.int .i64 (H Int fun _ => k))) (fun H => []) (fun _ => []) 3000 (by simp) (fun x hx => ?_) (by simp [lk]) (by omega) (by simp) ?_
  · simp only [List.mem_cons, List.not_mem_nil, or_false] at hx
    rcases hx with rfl | rfl
    · exact vl_bl okRW l _
    · exact .lit
  intro X hX hX0 H hH
  conv in Fin.chk _ _ => cbv
  try simp only [Plain_rowsA, Plain_rowsB, Plain_rowsC, Plain_rowsD, Plain_rowsF, Plain_rowsG, Plain_rowsI, Plain_rowsS, Plain_rowsU, Fin.satC_ret, Fin.satC_br, Fin.satC_need, Fin.satC_again, AllP, and_true, true_and, upd, List.length_nil, List.length_cons, Nat.zero_add, if_true, ncast, Int.ofNat_eq_natCast]
  subst h0
  refine loop_a hB (draw_ok hB mixed) hX hX0 hH false (ι := Unit) 3000 (fun i => [.i (H Int fun _ => k), .i (H Int fun _ => 0)]) (fun i => 0) (()) ?_ ?_
  · (conv in matchSt _ _ _ _ => cbv); simp only [AllG, AllP, and_true, hH, stdH, Nat.le_refl, ncast, Int.ofNat_eq_natCast, vrow_I, Arm.eta2, Fld.eta, Grp.eta]
    exact ⟨trivial, trivial, trivial, RowsEq.self okRW⟩
  · intro I hI i
    conv in Fin.chk _ _ => cbv
    try simp only [Plain_rowsA, Plain_rowsB, Plain_rowsC, Plain_rowsD, Plain_rowsF, Plain_rowsG, Plain_rowsI, Plain_rowsS, Plain_rowsU, Fin.satC_ret, Fin.satC_br, Fin.satC_need, Fin.satC_again, AllP, and_true, true_and, upd, List.length_nil, List.length_cons, Nat.zero_add, if_true, ncast, Int.ofNat_eq_natCast]
    refine ⟨fun h => ?_, fun _ => by rw [hH]; trivial⟩
    exfalso
    simp only [hH, stdH] at h
    exact absurd h (by decide)
noncomputable def e_markGrantsZ : Entry := pureE 93 fun H a => match a with
  | [.vec 18 ln lf, .lit (.int .i64 k)] => some (.lit (.int .i64 (H Int fun _ => k)), [H Prop fun _ => Shp rowW ln lf, H Prop fun _ => (Tl rowW ln lf) = []])
  | _ => none
theorem eok_markGrantsZ : EntryOk Tryz.prog e_markGrantsZ := pureM_ok (by unfold isBody; kernel_rfl) (by
  intro a r ob e hob
  split at e
  · rename_i ln lf k
    simp only [Option.some.injEq, Prod.mk.injEq] at e
    obtain ⟨rfl, rfl⟩ := e
    exact ConN.args (.cons (.toT okRW rfl hob.1) (.cons .rfl .nil)) (c_markGrantsZ (Tl rowW ln lf) k hob.2.1)
  · simp at e)
theorem c_markRegisterZ (a : Rgr) (k : Int) (h0 : a.gs = []) : ConN Tryz.prog 27 [aT rowJ stdH fun _ => a, .lit (.int .i64 k)] [] 0 (.lit (.int .i64 (stdH Int fun _ => k))) [] [] := by
  have hB : Base Tryz.prog (tabΓ [e_markGrantsZ]) tab := base_of tabOk (ents_cons eok_markGrantsZ <| ents_nil)
  refine con_m (N := 10) hB (draw_ok hB mixed) Tryz.func27 rfl rfl (fun H => [aT rowJ H fun _ => a, .lit (.int .i64 k)]) (fun _ => []) 0 (fun H => .lit (.int .i64 (H Int fun _ => k))) (fun H => []) (fun _ => []) 300 (by simp) (fun x hx => ?_) (by simp [lk]) (by omega) (by simp) ?_
  · simp only [List.mem_cons, List.not_mem_nil, or_false] at hx
    rcases hx with rfl | rfl
    · exact aT_bl okRJ _ _
    · exact .lit
  intro X hX hX0 H hH
  conv in Fin.chk _ _ => cbv
  try simp only [Plain_rowsA, Plain_rowsB, Plain_rowsC, Plain_rowsD, Plain_rowsF, Plain_rowsG, Plain_rowsI, Plain_rowsS, Plain_rowsU, Fin.satC_ret, Fin.satC_br, Fin.satC_need, Fin.satC_again, AllP, and_true, true_and, upd, List.length_nil, List.length_cons, Nat.zero_add, if_true, ncast, Int.ofNat_eq_natCast]
  subst hH
  simp only [stdH, Tl_W]
  exact ⟨⟨Shp_W _ _, h0⟩, trivial⟩
noncomputable def e_markRegisterZ : Entry := pureE 27 fun H a => match a with
  | [.agg [.vec 18 a0n a0f], .lit (.int .i64 k)] => some (.lit (.int .i64 (H Int fun _ => k)), [H Prop fun _ => Shp rowW a0n a0f, H Prop fun _ => (⟨(Tl rowW a0n a0f)⟩ : Rgr).gs = []])
  | _ => none
theorem eok_markRegisterZ : EntryOk Tryz.prog e_markRegisterZ := pureM_ok (by unfold isBody; kernel_rfl) (by
  intro a r ob e hob
  split at e
  · rename_i a0n a0f k
    simp only [Option.some.injEq, Prod.mk.injEq] at e
    obtain ⟨rfl, rfl⟩ := e
    exact ConN.args (.cons (.agg (.cons (.toT okRW rfl hob.1) .nil)) (.cons .rfl .nil)) (c_markRegisterZ (⟨(Tl rowW a0n a0f)⟩ : Rgr) k hob.2.1)
  · simp at e)

end Go.Proofs.YtbnohmfapmeaaaaGreatDoor.AM

