/- Lemmas and contracts (Sky); conditions: none. -/
import Derived.Test.YtmkniipdkanbbaaGreatDoorK04
import Derived.Test.YtmkniipdkanbbaaGreatDoorK31
set_option linter.unusedVariables false
set_option linter.unusedSimpArgs false
set_option maxRecDepth 100000
set_option maxHeartbeats 4000000
set_option cbv.maxSteps 3000000
namespace Go.Proofs.YtmkniipdkanbbaaGreatDoor.AM
/- Valid sketches by the program; conditions: none. -/
theorem cond3 {n m : Nat} {b : Bool} : (bif ((n : Nat) : Int) != ((m : Nat) : Int) then true else bif decide ((0 : Int) < ((n : Nat) : Int)) then b else false) = (!decide (m = n) || (decide (0 < n) && b)) := by
  by_cases h : m = n
  · subst h
    rw [show (((m : Nat) : Int) != ((m : Nat) : Int)) = false by simp, decide_eq_true rfl]
    by_cases h0 : 0 < m
    · rw [decide_eq_true (show (0 : Int) < ((m : Nat) : Int) by omega), decide_eq_true h0]; rfl
    · rw [decide_eq_false (show ¬ (0 : Int) < ((m : Nat) : Int) by omega), decide_eq_false h0]; rfl
  · rw [show (((n : Nat) : Int) != ((m : Nat) : Int)) = true by rw [bne_iff_ne]; omega, decide_eq_false h]; rfl
theorem okK_vs (k : Skt) : okK k = (okA k.arms && (gldA k.arms && (decide (k.slots.length = cntP k.arms) && (k.slots.all okY && !decide ((k.slots.getD (k.slots.length - 1) default).m = 5))))) := rfl
theorem any_okY (l : List Slo) : (l.any fun y => !okY y) = !l.all okY := by
  rw [List.all_eq_not_any_not, Bool.not_not]
theorem vsk_all (k : Skt) (q : Nat) (g : Bool) (hz : k.slots.length ≤ 2000000) (hc : cntP k.arms = q) (hg : gldA k.arms = !g) : (((!okA k.arms) = false → Shp rowY k.slots.length (rowsY stdH fun _ => k.slots)) ∧ ((!okA k.arms) = false → k.slots.length ≤ 2000000)) ∧
    ((bif !okA k.arms then true else k.slots.any fun y => !okY y) = true → okK k = false) ∧
    ((bif !okA k.arms then true else k.slots.any fun y => !okY y) = false → (Shp rowY k.slots.length (rowsY stdH fun _ => k.slots) ∧ True ∧ True ∧ True) ∧
      ((((q : Nat) : Int) != ((k.slots.length : Nat) : Int)) = false → decide ((0 : Int) < ((q : Nat) : Int)) = true → 0 ≤ IntKind.i64.wrap (((q : Nat) : Int) - 1) ∧ IntKind.i64.wrap (((q : Nat) : Int) - 1) < ((k.slots.length : Nat) : Int)) ∧
      ((bif ((q : Nat) : Int) != ((k.slots.length : Nat) : Int) then true else bif decide ((0 : Int) < ((q : Nat) : Int)) then (k.slots.getD (IntKind.i64.wrap (((q : Nat) : Int) - 1)).toNat default).m == 5 else false) = true → okK k = false) ∧
      ((bif ((q : Nat) : Int) != ((k.slots.length : Nat) : Int) then true else bif decide ((0 : Int) < ((q : Nat) : Int)) then (k.slots.getD (IntKind.i64.wrap (((q : Nat) : Int) - 1)).toNat default).m == 5 else false) = false → okK k = !g)) := by
  have hs : Shp rowY k.slots.length (rowsY stdH fun _ => k.slots) := Shp_Y _ _
  refine ⟨⟨fun _ => hs, fun _ => hz⟩, fun h => ?_, fun h => ⟨⟨hs, trivial, trivial, trivial⟩, fun h1 h2 => ?_, fun h1 => ?_, fun h1 => ?_⟩⟩
  · rw [okK_vs]
    cases ha : okA k.arms with
    | false => rfl
    | true =>
      rw [ha, any_okY] at h
      have h : k.slots.all okY = false := by simpa using h
      rw [h]; simp
  · rw [bne_eq_false_iff_eq] at h1
    rw [decide_eq_true_eq] at h2
    rw [wi (by omega) (by omega)]
    omega
  all_goals
    have ha : okA k.arms = true ∧ k.slots.all okY = true := by
      cases ha : okA k.arms with
      | false => rw [ha] at h; cases h
      | true =>
        rw [ha, any_okY] at h
        exact ⟨rfl, by simpa using h⟩
    rw [cond3] at h1
    rw [okK_vs, ha.1, ha.2, hg, hc]
    by_cases he : k.slots.length = q
    · have e : (IntKind.i64.wrap (((q : Nat) : Int) - 1)).toNat = k.slots.length - 1 ∨ q = 0 := by
        rcases Nat.eq_zero_or_pos q with h0 | h0
        · exact .inr h0
        · left
          rw [wi (by omega) (by omega)]
          omega
      rcases e with e | e
      · rw [e] at h1
        rw [decide_eq_true he] at h1 ⊢
        by_cases h0 : 0 < q
        · rw [decide_eq_true h0] at h1
          first
            | (have h1 : (k.slots.getD (k.slots.length - 1) default).m = 5 := by simpa using h1)
              rw [decide_eq_true h1]; simp
            | (have h1 : ¬ (k.slots.getD (k.slots.length - 1) default).m = 5 := by simpa using h1)
              rw [decide_eq_false h1]; simp
        · rw [decide_eq_false h0] at h1
          first
            | cases h1; done
            | have e0 : k.slots = [] := List.eq_nil_of_length_eq_zero (by omega)
              rw [e0]; simp; intro _; decide
      · subst e
        rw [decide_eq_true he] at h1 ⊢
        first
          | cases h1; done
          | have e0 : k.slots = [] := List.eq_nil_of_length_eq_zero (by omega)
            rw [e0]; simp; intro _; decide
    · rw [decide_eq_false he] at h1 ⊢
      first
        | cases h1; done
        | simp
theorem rdZ_ok {P : Program} {f : FuncId} {E : Nat} {g : Nat → List AV} {rest : List AV} {v : Value} {j nx : Nat} (hc : ConN P f (.slc 0 0 1 0 :: rest) [(0, .rows 1 0 g E)] 1 (.lit v) [] [(0, .rows 1 0 g E)]) (hrest : ∀ x ∈ rest, Bl 0 x) (g' : Nat → List AV) : ConN P f (.slc j 0 1 0 :: rest) [(j, .rows 1 0 g' E)] nx (.lit v) [] [(j, .rows 1 0 g' E)] := by
  refine hc.renW (fun _ => j) (fun q hq => ⟨_, by obtain rfl : q = 0 := (by omega); rfl⟩) rfl (fun c x z hx hz => ?_) (fun q b hq => ?_) (by omega) rfl (.pl .lit) (fun q b hq => by simp at hq) (fun q b hq => ?_) (fun q b hq => ?_)
  · cases c with
    | zero =>
      simp only [List.getElem?_cons_zero, Option.some.injEq] at hx hz
      subst hx; subst hz
      exact Rn.slc (π := fun _ => j) (i := 0) (by omega)
    | succ c =>
      simp only [List.getElem?_cons_succ] at hx hz
      rw [hx] at hz; injection hz with hz; subst hz
      exact .same (q := 0) (by omega) (by omega) (hrest x (List.mem_of_getElem? hx))
  · have := lk_in hq
    simp only [zqu, Prod.mk.injEq] at this
    obtain ⟨rfl, rfl⟩ := this
    exact ⟨by omega, .rows 1 0 g' E, by rw [lk_cons, if_pos rfl], ⟨rfl, fun _ => rfl⟩, fun p x hx => by simp [Blk.at] at hx⟩
  · simp only [zqu, Prod.mk.injEq] at hq
    obtain ⟨rfl, rfl⟩ := hq
    exact ⟨0, _, by omega, rfl, List.mem_cons_self, rfl, fun p x hx => by simp [Blk.at] at hx⟩
  · simp only [zqu, Prod.mk.injEq] at hq
    obtain ⟨rfl, rfl⟩ := hq
    exact ⟨by omega, ⟨_, List.mem_cons_self⟩, fun h => by cases h⟩
def e_rdZ (f E k : Nat) (v : Value) : Entry := ⟨f, fun _ a h _ => match a with
  | [.slc j 0 1 0, .lit (.func (.func k') ⟨[]⟩ ⟨[]⟩)] => bif Nat.beq k' k then (match lk j h with
    | some (.rows 1 0 g E') => bif Nat.beq E' E then some (.lit v, [], [j], [(j, .rows 1 0 g E)], []) else none
    | _ => none) else none
  | _ => none⟩
theorem eok_rdZ {P : Program} {f E k : Nat} {v : Value} (hb : isBody P f) (hc : ConN P f [.slc 0 0 1 0, .lit (.func (.func k) ⟨[]⟩ ⟨[]⟩)] [(0, .rows 1 0 (rowsOf 1 []) E)] 1 (.lit v) [] [(0, .rows 1 0 (rowsOf 1 []) E)]) : EntryOk P (e_rdZ f E k v) := ⟨hb, fun a hp nx r nb rd u ob e hob => by
  simp only [e_rdZ] at e
  split at e
  · rename_i j k'
    cases hk : Nat.beq k' k with
    | false => rw [hk] at e; cases e
    | true =>
    rw [hk, cond_true] at e
    obtain rfl := Nat.eq_of_beq_eq_true hk
    split at e
    · rename_i g E' hlk
      cases hE : Nat.beq E' E with
      | false => rw [hE] at e; cases e
      | true =>
      rw [hE, cond_true] at e
      obtain rfl := Nat.eq_of_beq_eq_true hE
      simp only [zqt] at e
      obtain ⟨rfl, rfl, rfl, rfl, rfl⟩ := e
      refine ⟨fun q b hq => ?_, [(j, .rows 1 0 g E')], fun q b hq => ?_, rdZ_ok hc (fun x hx => ?_) g⟩
      · simp only [zqu, Prod.mk.injEq] at hq
        obtain ⟨rfl, rfl⟩ := hq
        exact ⟨by simp, _, hlk, rfl⟩
      · rw [lk_cons] at hq
        by_cases hi : j = q
        · rw [if_pos hi] at hq; injection hq with hq; subst hq; subst hi; exact ⟨by simp, hlk⟩
        · rw [if_neg hi] at hq; simp [lk] at hq
      · simp only [zqu] at hx
        subst hx
        exact .lit
    · cases e
  · cases e⟩
theorem c_idxP000 : ConN Tryz.prog 85 [.slc 0 0 1 0, .lit (.func (.func 43) ⟨[]⟩ ⟨[]⟩)] [(0, .rows 1 0 (rowsOf 1 []) 69)] 1 (.lit (.int .i64 (-1))) [] [(0, .rows 1 0 (rowsOf 1 []) 69)] := by
  have hB : Base Tryz.prog (tabΓ []) tabZ := base_of tabOkZ (ents_nil)
  refine con_m (N := 19) hB (draw_ok hB mixed) Tryz.func85 rfl rfl (fun _ => [.slc 0 0 1 0, .lit (.func (.func 43) ⟨[]⟩ ⟨[]⟩)]) (fun _ => [(0, .rows 1 0 (rowsOf 1 []) 69)]) 1 (fun H => .lit (.int .i64 (-1))) (fun _ => []) (fun _ => [(0, .rows 1 0 (rowsOf 1 []) 69)]) 100 (by simp) (fun x hx => ?_) (fun i b hi => ?_) (fun i hi => ?_) (fun i b hi => ?_) ?_
  · simp only [zqu] at hx
    rcases hx with rfl | rfl
    · exact .slc (by omega)
    · exact .lit
  · have := lk_in hi
    simp only [zqu, Prod.mk.injEq] at this
    obtain ⟨rfl, rfl⟩ := this
    exact ⟨by omega, fun p x hx => by simp [Blk.at] at hx, _, List.mem_cons_self⟩
  · obtain rfl : i = 0 := by omega
    exact ⟨_, rfl⟩
  · simp only [zqu, Prod.mk.injEq] at hi
    obtain ⟨rfl, rfl⟩ := hi
    exact ⟨_, rfl⟩
  intro X hX hX0 H hH
  conv in Fin.chk _ _ => cbv
  try simp only [zqs, Plain_rowsC, Plain_rowsY, zqx, AllP, zqw, upd, if_true]
  subst hH
  simp only [stdH]
  repeat' (first | exact trivial | rfl | exact RowsEq.z0 | refine And.intro ?_ ?_)
def e_idxP000 : Entry := e_rdZ 85 69 43 (.int .i64 (-1))
theorem eok_idxP000 : EntryOk Tryz.prog e_idxP000 := eok_rdZ (by unfold isBody; kernel_rfl) c_idxP000
theorem c_anyP000 : ConN Tryz.prog 42 [.slc 0 0 1 0, .lit (.func (.func 43) ⟨[]⟩ ⟨[]⟩)] [(0, .rows 1 0 (rowsOf 1 []) 69)] 1 (.lit (.bool false)) [] [(0, .rows 1 0 (rowsOf 1 []) 69)] := by
  have hB : Base Tryz.prog (tabΓ [e_idxP000]) tabN := base_of tabOkN (ents_cons eok_idxP000 <| ents_nil)
  refine con_m (N := 9) hB (draw_ok hB mixed) Tryz.func42 rfl rfl (fun _ => [.slc 0 0 1 0, .lit (.func (.func 43) ⟨[]⟩ ⟨[]⟩)]) (fun _ => [(0, .rows 1 0 (rowsOf 1 []) 69)]) 1 (fun H => .lit (.bool (H Bool fun _ => false))) (fun _ => []) (fun _ => [(0, .rows 1 0 (rowsOf 1 []) 69)]) 100 (by simp) (fun x hx => ?_) (fun i b hi => ?_) (fun i hi => ?_) (fun i b hi => ?_) ?_
  · simp only [zqu] at hx
    rcases hx with rfl | rfl
    · exact .slc (by omega)
    · exact .lit
  · have := lk_in hi
    simp only [zqu, Prod.mk.injEq] at this
    obtain ⟨rfl, rfl⟩ := this
    exact ⟨by omega, fun p x hx => by simp [Blk.at] at hx, _, List.mem_cons_self⟩
  · obtain rfl : i = 0 := by omega
    exact ⟨_, rfl⟩
  · simp only [zqu, Prod.mk.injEq] at hi
    obtain ⟨rfl, rfl⟩ := hi
    exact ⟨_, rfl⟩
  intro X hX hX0 H hH
  conv in Fin.chk _ _ => cbv
  try simp only [zqs, Plain_rowsC, Plain_rowsY, zqx, AllP, zqw, upd, if_true]
  subst hH
  simp only [stdH]
  repeat' (first | exact trivial | rfl | exact RowsEq.z0 | refine And.intro ?_ ?_)
def e_anyP000 : Entry := e_rdZ 42 69 43 (.bool false)
theorem eok_anyP000 : EntryOk Tryz.prog e_anyP000 := eok_rdZ (by unfold isBody; kernel_rfl) c_anyP000
theorem c_notSl (y : Slo)  : ConN Tryz.prog 39 [aT rowY stdH fun _ => y] [] 0 (.lit (.bool (stdH Bool fun _ => !okY y))) [] [] := by
  have hB : Base Tryz.prog (tabΓ [e_isSlot]) tab := base_of tabOk (ents_cons eok_isSlot <| ents_nil)
  refine con_m (N := 6) hB (draw_ok hB mixed) Tryz.func39 rfl rfl (fun H => [aT rowY H fun _ => y]) (fun _ => []) 0 (fun H => .lit (.bool (H Bool fun _ => !okY y))) (fun H => []) (fun _ => []) 100 (by simp) (fun x hx => ?_) (by simp [lk]) (by omega) (by simp) ?_
  · simp only [zqu] at hx
    rcases hx with rfl
    · exact aT_bl okRY _ _
  intro X hX hX0 H hH
  conv in Fin.chk _ _ => cbv
  try simp only [zqs, Plain_rowsC, Plain_rowsY, zqx, AllP, zqw, upd, if_true]
  subst hH
  simp only [stdH, Slo.eta]
noncomputable def e_notSl : Entry := pureE 39 fun H a => match a with
  | [.agg [.lit (.int .i64 y0), .lit (.int .i64 y1)]] => some (.lit (.bool (H Bool fun _ => !okY (⟨y0, y1⟩ : Slo))), [])
  | _ => none
theorem eok_notSl : EntryOk Tryz.prog e_notSl := pureM_ok (by unfold isBody; kernel_rfl) (by
  intro a r ob e hob
  split at e
  · rename_i y0 y1
    simp only [zqt] at e
    obtain ⟨rfl, rfl⟩ := e
    exact ConN.args (.cons .rfl .nil) (c_notSl (⟨y0, y1⟩ : Slo) )
  · simp at e)
theorem c_idxSl (s : List Slo)  (h0 : s.length ≤ 2000000) : ConN Tryz.prog 82 [.vec 2 (stdH Nat fun _ => (s).length) (rowsY stdH fun _ => s), .lit (.func (.func 39) #[] #[])] [] 0 (.lit (.int .i64 (stdH Int fun _ => idxF (fun y => !okY y) s))) [] [] := by
  have hB : Base Tryz.prog (tabΓ [e_notSl]) tab := base_of tabOk (ents_cons eok_notSl <| ents_nil)
  refine con_m (N := 19) hB (draw_ok hB mixed) Tryz.func82 rfl rfl (fun H => [.vec 2 (H Nat fun _ => (s).length) (rowsY H fun _ => s), .lit (.func (.func 39) #[] #[])]) (fun _ => []) 0 (fun H => .lit (.int .i64 (H Int fun _ => idxF (fun y => !okY y) s))) (fun H => []) (fun _ => []) 100 (by simp) (fun x hx => ?_) (by simp [lk]) (by omega) (by simp) ?_
  · simp only [zqu] at hx
    rcases hx with rfl | rfl
    · exact vl_bl okRY s _
    · exact .lit
  intro X hX hX0 H hH
  conv in Fin.chk _ _ => cbv
  try simp only [zqs, Plain_rowsC, Plain_rowsY, zqx, AllP, zqw, upd, if_true]
  refine loop_a hB (draw_ok hB mixed) hX hX0 hH false (ι := { i : Nat // i ≤ (s).length ∧ ∀ j, j < i → (fun y => !okY y) ((s).getD j default) = false }) 100 (fun i => [.i (H Int fun _ => 0), .i (H Int fun _ => (i.1 : Nat))]) (fun i => (s).length - i.1) (⟨0, by omega, by omega⟩) ?_ ?_
  · (conv in matchSt _ _ _ _ => cbv); simp only [AllG, AllP, and_true, hH, stdH, zql, ncast, zqe, zqy]
    (repeat' (first | with_reducible exact True.intro | rfl | exact Nat.le_refl _ | exact RowsEq.self okRY | exact RowsEq.ofT okRY rfl (Shp_zero _) rfl | exact RowsEq.snoc okRY rfl | exact RowsEq.self okI | exact RowsEq.self okRA | exact List.length_append | refine And.intro ?_ ?_ | trivial))
  · intro I hI i
    conv in Fin.chk _ _ => cbv
    try simp only [zqs, Plain_rowsC, Plain_rowsY, zqx, AllP, zqw, upd, if_true]
    obtain ⟨i, hi, hj⟩ := i
    refine ⟨fun h1 => ⟨?_, fun h2 => ?_, fun h2 => ?_⟩, fun h1 => ?_⟩
    · simp only [hH, stdH, zqz, ne_eq, zqy] at h1 ⊢
      omega
    · simp only [hH, stdH, zqz, ne_eq, zqy] at h1
      simp only [hH, stdH, Int.toNat_natCast] at h2
      have h3 : (fun y => !okY y) ((s).getD i default) = true := by exact h2
      try simp only [hH, stdH, zqz, ne_eq, zqy]
      exact idxF_at default (by omega) h3 hj
    · simp only [hH, stdH, zqz, ne_eq, zqy] at h1
      simp only [hH, stdH, Int.toNat_natCast] at h2
      have h3 : (fun y => !okY y) ((s).getD i default) = false := by exact h2
      refine ⟨⟨i + 1, by omega, fun j hj' => ?_⟩, by simp only; omega, ?_⟩
      · rcases Nat.lt_succ_iff_lt_or_eq.1 hj' with h | rfl
        · exact hj j h
        · exact h3
      · rw [hI]
        (conv in matchSt _ _ _ _ => cbv); simp only [AllG, AllP, and_true, hH, stdH, zql, ncast, zqe, zqy]
        rw [w1 (by omega)]
        (repeat' (first | with_reducible exact True.intro | rfl | exact Nat.le_refl _ | exact RowsEq.self okRY | exact RowsEq.ofT okRY rfl (Shp_zero _) rfl | exact RowsEq.snoc okRY rfl | exact RowsEq.self okI | exact RowsEq.self okRA | exact List.length_append | refine And.intro ?_ ?_ | trivial))
    · simp only [hH, stdH, zqz, ne_eq, zqy] at h1 ⊢
      exact idxF_no default fun j hj' => hj j (by omega)
noncomputable def e_idxSl : Entry := pureE 82 fun H a => match a with
  | [.vec 2 sn sf, .lit (.func (.func 39) ⟨[]⟩ ⟨[]⟩)] => some (.lit (.int .i64 (H Int fun _ => idxF (fun y => !okY y) (Tl rowY sn sf))), [H Prop fun _ => Shp rowY sn sf, H Prop fun _ => (Tl rowY sn sf).length ≤ 2000000])
  | _ => none
theorem eok_idxSl : EntryOk Tryz.prog e_idxSl := pureM_ok (by unfold isBody; kernel_rfl) (by
  intro a r ob e hob
  split at e
  · rename_i sn sf
    simp only [zqt] at e
    obtain ⟨rfl, rfl⟩ := e
    exact ConN.args (.cons (.toT okRY rfl hob.1) (.cons .rfl .nil)) (c_idxSl (Tl rowY sn sf) hob.2.1)
  · simp at e)
theorem c_anySl (s : List Slo)  (h0 : s.length ≤ 2000000) : ConN Tryz.prog 38 [.vec 2 (stdH Nat fun _ => (s).length) (rowsY stdH fun _ => s), .lit (.func (.func 39) #[] #[])] [] 0 (.lit (.bool (stdH Bool fun _ => s.any (fun y => !okY y)))) [] [] := by
  have hB : Base Tryz.prog (tabΓ [e_idxSl]) tab := base_of tabOk (ents_cons eok_idxSl <| ents_nil)
  refine con_m (N := 9) hB (draw_ok hB mixed) Tryz.func38 rfl rfl (fun H => [.vec 2 (H Nat fun _ => (s).length) (rowsY H fun _ => s), .lit (.func (.func 39) #[] #[])]) (fun _ => []) 0 (fun H => .lit (.bool (H Bool fun _ => s.any (fun y => !okY y)))) (fun H => []) (fun _ => []) 100 (by simp) (fun x hx => ?_) (by simp [lk]) (by omega) (by simp) ?_
  · simp only [zqu] at hx
    rcases hx with rfl | rfl
    · exact vl_bl okRY s _
    · exact .lit
  intro X hX hX0 H hH
  conv in Fin.chk _ _ => cbv
  try simp only [zqs, Plain_rowsC, Plain_rowsY, zqx, AllP, zqw, upd, if_true]
  refine ⟨⟨?_, ?_⟩, ?_⟩
  · try simp only [hH, stdH, zqz, ne_eq, zqy]
    exact Shp_Y _ _
  · try simp only [hH, stdH, zqz, ne_eq, zqy]
    simp only [Tl_Y]; exact h0
  · try simp only [hH, stdH, zqz, ne_eq, zqy]
    simp only [Tl_Y]; exact (idxF_ge _ _).symm
noncomputable def e_anySl : Entry := pureE 38 fun H a => match a with
  | [.vec 2 sn sf, .lit (.func (.func 39) ⟨[]⟩ ⟨[]⟩)] => some (.lit (.bool (H Bool fun _ => (Tl rowY sn sf).any (fun y => !okY y))), [H Prop fun _ => Shp rowY sn sf, H Prop fun _ => (Tl rowY sn sf).length ≤ 2000000])
  | _ => none
theorem eok_anySl : EntryOk Tryz.prog e_anySl := pureM_ok (by unfold isBody; kernel_rfl) (by
  intro a r ob e hob
  split at e
  · rename_i sn sf
    simp only [zqt] at e
    obtain ⟨rfl, rfl⟩ := e
    exact ConN.args (.cons (.toT okRY rfl hob.1) (.cons .rfl .nil)) (c_anySl (Tl rowY sn sf) hob.2.1)
  · simp at e)
theorem c_vsk000 (k : Skt) (hz : k.slots.length ≤ 2000000) (ho : decide (k.arms.o = 0) = true) (hn : noG k.arms.n = true) (hr : noG k.arms.r = true) : ConN Tryz.prog 15 [aT rowK stdH fun _ => k] [] 0 (.lit (.bool (stdH Bool fun _ => okK k))) [] [] := by
  have hB : Base Tryz.prog (tabΓ [e_IsValidArms, e_anySl, e_ptrK000, e_anyP000]) tabG := base_of tabOkG (ents_cons eok_IsValidArms <| ents_cons eok_anySl <| ents_cons eok_ptrK000 <| ents_cons eok_anyP000 <| ents_nil)
  refine con_m (N := 40) hB (draw_ok hB mixed) Tryz.func15 rfl rfl (fun H => [aT rowK H fun _ => k]) (fun _ => []) 0 (fun H => .lit (.bool (H Bool fun _ => okK k))) (fun H => []) (fun _ => []) 300 (by simp) (fun x hx => ?_) (by simp [lk]) (by omega) (by simp) ?_
  · simp only [zqu] at hx
    rcases hx with rfl
    exact aT_bl okRK _ _
  intro X hX hX0 H hH
  conv in Fin.chk _ _ => cbv
  try simp only [zqs, Plain_rowsC, Plain_rowsY, zqx, AllP, zqw, upd, if_true]
  subst hH
  simp only [stdH, Arm.eta2, Fld.eta, Grp.eta, Slo.eta, ho, hn, hr, Tl_Y]
  try simp only [List.getD_cons_zero, List.getD_cons_succ]
  refine vsk_all k 0 (false) hz ?_ ?_
  · rw [decide_eq_true_eq] at ho
    unfold cntP i2 i1
    simp [ho, hn, hr]
  · rw [decide_eq_true_eq] at ho
    unfold gldA
    try unfold nG
    simp [ho, hn, hr]
theorem c_vsk001 (k : Skt) (hz : k.slots.length ≤ 2000000) (ho : decide (k.arms.o = 0) = true) (hn : noG k.arms.n = true) (hr : noG k.arms.r = false) : ConN Tryz.prog 15 [aT rowK stdH fun _ => k] [] 0 (.lit (.bool (stdH Bool fun _ => okK k))) [] [] := by
  have hB : Base Tryz.prog (tabΓ [e_IsValidArms, e_anySl, e_ptrK001, e_anyP001]) tabG := base_of tabOkG (ents_cons eok_IsValidArms <| ents_cons eok_anySl <| ents_cons eok_ptrK001 <| ents_cons eok_anyP001 <| ents_nil)
  refine con_m (N := 40) hB (draw_ok hB mixed) Tryz.func15 rfl rfl (fun H => [aT rowK H fun _ => k]) (fun _ => []) 0 (fun H => .lit (.bool (H Bool fun _ => okK k))) (fun H => []) (fun _ => []) 300 (by simp) (fun x hx => ?_) (by simp [lk]) (by omega) (by simp) ?_
  · simp only [zqu] at hx
    rcases hx with rfl
    exact aT_bl okRK _ _
  intro X hX hX0 H hH
  conv in Fin.chk _ _ => cbv
  try simp only [zqs, Plain_rowsC, Plain_rowsY, zqx, AllP, zqw, upd, if_true]
  subst hH
  simp only [stdH, Arm.eta2, Fld.eta, Grp.eta, Slo.eta, ho, hn, hr, Tl_Y]
  try simp only [List.getD_cons_zero, List.getD_cons_succ]
  refine vsk_all k 1 (List.any [k.arms.r.t] nG) hz ?_ ?_
  · rw [decide_eq_true_eq] at ho
    unfold cntP i2 i1
    simp [ho, hn, hr]
  · rw [decide_eq_true_eq] at ho
    unfold gldA
    try unfold nG
    simp [ho, hn, hr]
theorem c_vsk100 (k : Skt) (hz : k.slots.length ≤ 2000000) (ho : decide (k.arms.o = 0) = false) (hn : noG k.arms.n = true) (hr : noG k.arms.r = true) : ConN Tryz.prog 15 [aT rowK stdH fun _ => k] [] 0 (.lit (.bool (stdH Bool fun _ => okK k))) [] [] := by
  have hB : Base Tryz.prog (tabΓ [e_IsValidArms, e_anySl, e_ptrK100, e_anyP100]) tabG := base_of tabOkG (ents_cons eok_IsValidArms <| ents_cons eok_anySl <| ents_cons eok_ptrK100 <| ents_cons eok_anyP100 <| ents_nil)
  refine con_m (N := 40) hB (draw_ok hB mixed) Tryz.func15 rfl rfl (fun H => [aT rowK H fun _ => k]) (fun _ => []) 0 (fun H => .lit (.bool (H Bool fun _ => okK k))) (fun H => []) (fun _ => []) 300 (by simp) (fun x hx => ?_) (by simp [lk]) (by omega) (by simp) ?_
  · simp only [zqu] at hx
    rcases hx with rfl
    exact aT_bl okRK _ _
  intro X hX hX0 H hH
  conv in Fin.chk _ _ => cbv
  try simp only [zqs, Plain_rowsC, Plain_rowsY, zqx, AllP, zqw, upd, if_true]
  subst hH
  simp only [stdH, Arm.eta2, Fld.eta, Grp.eta, Slo.eta, ho, hn, hr, Tl_Y]
  try simp only [List.getD_cons_zero, List.getD_cons_succ]
  refine vsk_all k 1 (List.any [k.arms.t] nG) hz ?_ ?_
  · rw [decide_eq_false_iff_not] at ho
    unfold cntP i2 i1
    simp [ho, hn, hr]
  · rw [decide_eq_false_iff_not] at ho
    unfold gldA
    try unfold nG
    simp [ho, hn, hr]
theorem c_vsk101 (k : Skt) (hz : k.slots.length ≤ 2000000) (ho : decide (k.arms.o = 0) = false) (hn : noG k.arms.n = true) (hr : noG k.arms.r = false) : ConN Tryz.prog 15 [aT rowK stdH fun _ => k] [] 0 (.lit (.bool (stdH Bool fun _ => okK k))) [] [] := by
  have hB : Base Tryz.prog (tabΓ [e_IsValidArms, e_anySl, e_ptrK101, e_anyP101]) tabG := base_of tabOkG (ents_cons eok_IsValidArms <| ents_cons eok_anySl <| ents_cons eok_ptrK101 <| ents_cons eok_anyP101 <| ents_nil)
  refine con_m (N := 40) hB (draw_ok hB mixed) Tryz.func15 rfl rfl (fun H => [aT rowK H fun _ => k]) (fun _ => []) 0 (fun H => .lit (.bool (H Bool fun _ => okK k))) (fun H => []) (fun _ => []) 300 (by simp) (fun x hx => ?_) (by simp [lk]) (by omega) (by simp) ?_
  · simp only [zqu] at hx
    rcases hx with rfl
    exact aT_bl okRK _ _
  intro X hX hX0 H hH
  conv in Fin.chk _ _ => cbv
  try simp only [zqs, Plain_rowsC, Plain_rowsY, zqx, AllP, zqw, upd, if_true]
  subst hH
  simp only [stdH, Arm.eta2, Fld.eta, Grp.eta, Slo.eta, ho, hn, hr, Tl_Y]
  try simp only [List.getD_cons_zero, List.getD_cons_succ]
  refine vsk_all k 2 (List.any [k.arms.t, k.arms.r.t] nG) hz ?_ ?_
  · rw [decide_eq_false_iff_not] at ho
    unfold cntP i2 i1
    simp [ho, hn, hr]
  · rw [decide_eq_false_iff_not] at ho
    unfold gldA
    try unfold nG
    simp [ho, hn, hr]
theorem c_vsk110 (k : Skt) (hz : k.slots.length ≤ 2000000) (ho : decide (k.arms.o = 0) = false) (hn : noG k.arms.n = false) (hr : noG k.arms.r = true) : ConN Tryz.prog 15 [aT rowK stdH fun _ => k] [] 0 (.lit (.bool (stdH Bool fun _ => okK k))) [] [] := by
  have hB : Base Tryz.prog (tabΓ [e_IsValidArms, e_anySl, e_ptrK110, e_anyP110]) tabG := base_of tabOkG (ents_cons eok_IsValidArms <| ents_cons eok_anySl <| ents_cons eok_ptrK110 <| ents_cons eok_anyP110 <| ents_nil)
  refine con_m (N := 40) hB (draw_ok hB mixed) Tryz.func15 rfl rfl (fun H => [aT rowK H fun _ => k]) (fun _ => []) 0 (fun H => .lit (.bool (H Bool fun _ => okK k))) (fun H => []) (fun _ => []) 300 (by simp) (fun x hx => ?_) (by simp [lk]) (by omega) (by simp) ?_
  · simp only [zqu] at hx
    rcases hx with rfl
    exact aT_bl okRK _ _
  intro X hX hX0 H hH
  conv in Fin.chk _ _ => cbv
  try simp only [zqs, Plain_rowsC, Plain_rowsY, zqx, AllP, zqw, upd, if_true]
  subst hH
  simp only [stdH, Arm.eta2, Fld.eta, Grp.eta, Slo.eta, ho, hn, hr, Tl_Y]
  try simp only [List.getD_cons_zero, List.getD_cons_succ]
  refine vsk_all k 2 (List.any [k.arms.t, k.arms.n.t] nG) hz ?_ ?_
  · rw [decide_eq_false_iff_not] at ho
    unfold cntP i2 i1
    simp [ho, hn, hr]
  · rw [decide_eq_false_iff_not] at ho
    unfold gldA
    try unfold nG
    simp [ho, hn, hr]
theorem c_vsk111 (k : Skt) (hz : k.slots.length ≤ 2000000) (ho : decide (k.arms.o = 0) = false) (hn : noG k.arms.n = false) (hr : noG k.arms.r = false) : ConN Tryz.prog 15 [aT rowK stdH fun _ => k] [] 0 (.lit (.bool (stdH Bool fun _ => okK k))) [] [] := by
  have hB : Base Tryz.prog (tabΓ [e_IsValidArms, e_anySl, e_ptrK111, e_anyP111]) tabG := base_of tabOkG (ents_cons eok_IsValidArms <| ents_cons eok_anySl <| ents_cons eok_ptrK111 <| ents_cons eok_anyP111 <| ents_nil)
  refine con_m (N := 40) hB (draw_ok hB mixed) Tryz.func15 rfl rfl (fun H => [aT rowK H fun _ => k]) (fun _ => []) 0 (fun H => .lit (.bool (H Bool fun _ => okK k))) (fun H => []) (fun _ => []) 300 (by simp) (fun x hx => ?_) (by simp [lk]) (by omega) (by simp) ?_
  · simp only [zqu] at hx
    rcases hx with rfl
    exact aT_bl okRK _ _
  intro X hX hX0 H hH
  conv in Fin.chk _ _ => cbv
  try simp only [zqs, Plain_rowsC, Plain_rowsY, zqx, AllP, zqw, upd, if_true]
  subst hH
  simp only [stdH, Arm.eta2, Fld.eta, Grp.eta, Slo.eta, ho, hn, hr, Tl_Y]
  try simp only [List.getD_cons_zero, List.getD_cons_succ]
  refine vsk_all k 3 (List.any [k.arms.t, k.arms.n.t, k.arms.r.t] nG) hz ?_ ?_
  · rw [decide_eq_false_iff_not] at ho
    unfold cntP i2 i1
    simp [ho, hn, hr]
  · rw [decide_eq_false_iff_not] at ho
    unfold gldA
    try unfold nG
    simp [ho, hn, hr]
theorem c_vskN (k : Skt) (ha : okA k.arms = false) : ConN Tryz.prog 15 [aT rowK stdH fun _ => k] [] 0 (.lit (.bool (stdH Bool fun _ => okK k))) [] [] := by
  have hB : Base Tryz.prog (tabΓ [e_IsValidArms, e_anySl, e_ptrK000, e_anyP000]) tabG := base_of tabOkG (ents_cons eok_IsValidArms <| ents_cons eok_anySl <| ents_cons eok_ptrK000 <| ents_cons eok_anyP000 <| ents_nil)
  refine con_m (N := 40) hB (draw_ok hB mixed) Tryz.func15 rfl rfl (fun H => [aT rowK H fun _ => k]) (fun _ => []) 0 (fun H => .lit (.bool (H Bool fun _ => okK k))) (fun H => []) (fun _ => []) 300 (by simp) (fun x hx => ?_) (by simp [lk]) (by omega) (by simp) ?_
  · simp only [zqu] at hx
    rcases hx with rfl
    exact aT_bl okRK _ _
  intro X hX hX0 H hH
  conv in Fin.chk _ _ => cbv
  try simp only [zqs, Plain_rowsC, Plain_rowsY, zqx, AllP, zqw, upd, if_true]
  subst hH
  simp only [stdH, Arm.eta2, Fld.eta, Grp.eta, Slo.eta, ha]
  have e : okK k = false := by rw [okK_vs, ha]; rfl
  (repeat' (first | exact trivial | exact e | refine And.intro ?_ ?_ | (intro h; first | (cases h; done) | (simp at h; done) | skip)))
theorem c_IsValidSketch (k : Skt) (h0 : k.slots.length ≤ 2000000) : ConN Tryz.prog 15 [aT rowK stdH fun _ => k] [] 0 (.lit (.bool (stdH Bool fun _ => okK k))) [] [] := by
  cases ha : okA k.arms with
  | false => exact c_vskN k ha
  | true =>
    by_cases ho : k.arms.o = 0
    · have hn := okA_o0 ha ho
      cases hr : noG k.arms.r
      · exact c_vsk001 k h0 (decide_eq_true ho) hn hr
      · exact c_vsk000 k h0 (decide_eq_true ho) hn hr
    · cases hn : noG k.arms.n <;> cases hr : noG k.arms.r
      · exact c_vsk111 k h0 (decide_eq_false ho) hn hr
      · exact c_vsk110 k h0 (decide_eq_false ho) hn hr
      · exact c_vsk101 k h0 (decide_eq_false ho) hn hr
      · exact c_vsk100 k h0 (decide_eq_false ho) hn hr
noncomputable def e_IsValidSketch : Entry := pureE 15 fun H a => match a with
  | [.agg [.lit (.int .i64 k0), .lit (.int .i64 k1), .lit (.int .i64 k2), .lit (.int .i64 k3), .lit (.int .i64 k4), .lit (.int .i64 k5), .lit (.int .i64 k6), .lit (.int .i64 k7), .lit (.int .i64 k8), .lit (.int .i64 k9), .lit (.int .i64 k10), .lit (.int .i64 k11), .lit (.int .i64 k12), .lit (.int .i64 k13), .lit (.int .i64 k14), .vec 2 k15n k15f]] => some (.lit (.bool (H Bool fun _ => okK (⟨⟨⟨k0, k1, k2, k3⟩, k4, k5, k6, ⟨k7, k8, k9, k10⟩, ⟨k11, k12, k13, k14⟩⟩, (Tl rowY k15n k15f)⟩ : Skt))), [H Prop fun _ => Shp rowY k15n k15f, H Prop fun _ => (⟨⟨⟨k0, k1, k2, k3⟩, k4, k5, k6, ⟨k7, k8, k9, k10⟩, ⟨k11, k12, k13, k14⟩⟩, (Tl rowY k15n k15f)⟩ : Skt).slots.length ≤ 2000000])
  | _ => none
theorem eok_IsValidSketch : EntryOk Tryz.prog e_IsValidSketch := pureM_ok (by unfold isBody; kernel_rfl) (by
  intro a r ob e hob
  split at e
  · rename_i k0 k1 k2 k3 k4 k5 k6 k7 k8 k9 k10 k11 k12 k13 k14 k15n k15f
    simp only [zqt] at e
    obtain ⟨rfl, rfl⟩ := e
    exact ConN.args (.cons (.agg (.cons .rfl (.cons .rfl (.cons .rfl (.cons .rfl (.cons .rfl (.cons .rfl (.cons .rfl (.cons .rfl (.cons .rfl (.cons .rfl (.cons .rfl (.cons .rfl (.cons .rfl (.cons .rfl (.cons .rfl (.cons (.toT okRY rfl hob.1) .nil))))))))))))))))) .nil) (c_IsValidSketch (⟨⟨⟨k0, k1, k2, k3⟩, k4, k5, k6, ⟨k7, k8, k9, k10⟩, ⟨k11, k12, k13, k14⟩⟩, (Tl rowY k15n k15f)⟩ : Skt) hob.2.1)
  · simp at e)
theorem c_SketchText (k : Skt) (h0 : k.slots.length ≤ 2000000) : ConN Tryz.prog 13 [aT rowK stdH fun _ => k] [] 0 (.tup [.lit (.string (stdH ByteArray fun _ => if okK k = true then kT k else ByteArray.empty)), .lit (.bool (stdH Bool fun _ => okK k))]) [] [] := by
  have hB : Base Tryz.prog (tabΓ [e_IsValidSketch, e_sktText]) tab := base_of tabOk (ents_cons eok_IsValidSketch <| ents_cons eok_sktText <| ents_nil)
  refine con_m (N := 9) hB (draw_ok hB mixed) Tryz.func13 rfl rfl (fun H => [aT rowK H fun _ => k]) (fun _ => []) 0 (fun H => .tup [.lit (.string (H ByteArray fun _ => if okK k = true then kT k else ByteArray.empty)), .lit (.bool (H Bool fun _ => okK k))]) (fun H => []) (fun _ => []) 200 (by simp) (fun x hx => ?_) (by simp [lk]) (by omega) (by simp) ?_
  · simp only [zqu] at hx
    rcases hx with rfl
    · exact aT_bl okRK _ _
  intro X hX hX0 H hH
  conv in Fin.chk _ _ => cbv
  try simp only [zqs, Plain_rowsC, Plain_rowsY, zqx, AllP, zqw, upd, if_true]
  subst hH
  simp only [stdH, Arm.eta2, Fld.eta, Grp.eta, Tl_Y]
  have e : (⟨k.arms, k.slots⟩ : Skt) = k := rfl
  simp only [e]
  cases hk : okK k
  · (repeat' (first | exact trivial | rfl | exact h0 | exact Shp_Y _ _ | refine And.intro ?_ ?_ | (intro h; first | (cases h; done) | (simp at h; done) | skip)))
  · (repeat' (first | exact trivial | rfl | exact h0 | exact Shp_Y _ _ | refine And.intro ?_ ?_ | (intro h; first | (cases h; done) | (simp at h; done) | skip)))
noncomputable def e_SketchText : Entry := pureE 13 fun H a => match a with
  | [.agg [.lit (.int .i64 k0), .lit (.int .i64 k1), .lit (.int .i64 k2), .lit (.int .i64 k3), .lit (.int .i64 k4), .lit (.int .i64 k5), .lit (.int .i64 k6), .lit (.int .i64 k7), .lit (.int .i64 k8), .lit (.int .i64 k9), .lit (.int .i64 k10), .lit (.int .i64 k11), .lit (.int .i64 k12), .lit (.int .i64 k13), .lit (.int .i64 k14), .vec 2 k15n k15f]] => some (.tup [.lit (.string (H ByteArray fun _ => if okK (⟨⟨⟨k0, k1, k2, k3⟩, k4, k5, k6, ⟨k7, k8, k9, k10⟩, ⟨k11, k12, k13, k14⟩⟩, (Tl rowY k15n k15f)⟩ : Skt) = true then kT (⟨⟨⟨k0, k1, k2, k3⟩, k4, k5, k6, ⟨k7, k8, k9, k10⟩, ⟨k11, k12, k13, k14⟩⟩, (Tl rowY k15n k15f)⟩ : Skt) else ByteArray.empty)), .lit (.bool (H Bool fun _ => okK (⟨⟨⟨k0, k1, k2, k3⟩, k4, k5, k6, ⟨k7, k8, k9, k10⟩, ⟨k11, k12, k13, k14⟩⟩, (Tl rowY k15n k15f)⟩ : Skt)))], [H Prop fun _ => Shp rowY k15n k15f, H Prop fun _ => (⟨⟨⟨k0, k1, k2, k3⟩, k4, k5, k6, ⟨k7, k8, k9, k10⟩, ⟨k11, k12, k13, k14⟩⟩, (Tl rowY k15n k15f)⟩ : Skt).slots.length ≤ 2000000])
  | _ => none
theorem eok_SketchText : EntryOk Tryz.prog e_SketchText := pureM_ok (by unfold isBody; kernel_rfl) (by
  intro a r ob e hob
  split at e
  · rename_i k0 k1 k2 k3 k4 k5 k6 k7 k8 k9 k10 k11 k12 k13 k14 k15n k15f
    simp only [zqt] at e
    obtain ⟨rfl, rfl⟩ := e
    exact ConN.args (.cons (.agg (.cons .rfl (.cons .rfl (.cons .rfl (.cons .rfl (.cons .rfl (.cons .rfl (.cons .rfl (.cons .rfl (.cons .rfl (.cons .rfl (.cons .rfl (.cons .rfl (.cons .rfl (.cons .rfl (.cons .rfl (.cons (.toT okRY rfl hob.1) .nil))))))))))))))))) .nil) (c_SketchText (⟨⟨⟨k0, k1, k2, k3⟩, k4, k5, k6, ⟨k7, k8, k9, k10⟩, ⟨k11, k12, k13, k14⟩⟩, (Tl rowY k15n k15f)⟩ : Skt) hob.2.1)
  · simp at e)

end Go.Proofs.YtmkniipdkanbbaaGreatDoor.AM

