import Derived.Test.YtoommgpcmgnpaaaAmT
import Derived.Test.YtoommgpcmgnpaaaLst
import Derived.Test.YtoommgpcmgnpaaaTin
import Derived.Test.YtoommgpcmgnpaaaCre
set_option linter.unusedVariables false
set_option linter.unusedSimpArgs false
set_option maxRecDepth 100000
set_option maxHeartbeats 4000000
set_option cbv.maxSteps 3000000
namespace Go.Proofs.Ytoommgpcmgnpaaa.AM
/- Findings; conditions: none. -/
structure Fdg where
  p : Int
  u : Int
  l : Int
deriving Inhabited
def rowsD (H : Hold) (L : Unit → List Fdg) (j : Nat) : List AV := [.lit (.int .i64 (H Int fun _ => ((L ()).getD j default).p)), .lit (.int .i64 (H Int fun _ => ((L ()).getD j default).u)), .lit (.int .i64 (H Int fun _ => ((L ()).getD j default).l))]
def rowD : RowD Fdg := ⟨3, default, fun H x => [.lit (.int .i64 (H Int fun _ => (x ()).p)), .lit (.int .i64 (H Int fun _ => (x ()).u)), .lit (.int .i64 (H Int fun _ => (x ()).l))], fun l => match l with
  | [.lit (.int _ x0), .lit (.int _ x1), .lit (.int _ x2)] => ⟨x0, x1, x2⟩
  | _ => default, rowsD⟩
theorem okRD : RowOk rowD := ⟨fun _ => rfl, fun x c hc => by simp [rowD] at hc; rcases hc with rfl | rfl | rfl <;> exact .lit, fun _ => rfl, fun _ _ => rfl⟩
theorem Fdg.eta (a : Fdg) : (⟨a.p, a.u, a.l⟩ : Fdg) = a := rfl
theorem Tl_D (L : List Fdg) : Tl rowD L.length (rowsD stdH fun _ => L) = L := Tl_rowsT okRD L
theorem Shp_D (n : Nat) (L : List Fdg) : Shp rowD n (rowsD stdH fun _ => L) := Shp_rowsT okRD n (fun _ => L)
theorem Plain_rowsD (n : Nat) (H : Hold) (L : Unit → List Fdg) : Plain n (rowsD H L) = True := eq_true ⟨fun j _ x hx => by simp [rowsD] at hx; rcases hx with rfl | rfl | rfl <;> rfl⟩
def eqrD (a b : Fdg) : Bool := allT [fun _ => a.p == b.p, fun _ => a.u == b.u, fun _ => a.l == b.l]
theorem eqrD_iff {a b : Fdg} : eqrD a b = true ↔ a = b := by
  obtain ⟨a0, a1, a2⟩ := a; obtain ⟨b0, b1, b2⟩ := b
  simp [eqrD, allT, and_assoc]
instance : DecidableEq Fdg := fun a b => decidable_of_iff (eqrD a b = true) eqrD_iff
theorem eqDE (a b : Fdg) : allT [fun _ => a.p == b.p, fun _ => a.u == b.u, fun _ => a.l == b.l] = decide (a = b) := by
  rw [Bool.eq_iff_iff, decide_eq_true_eq]; exact eqrD_iff

theorem noGE (a : Grp) : allT [fun _ => a.c == 0, fun _ => a.k == 0, fun _ => a.a == 0, fun _ => a.t == 0] = noG a := by
  simp [allT, noG, beqd, Bool.and_assoc]
theorem tinF_len' (f : Fld) : (tinF f).length ≤ 100000 := by unfold tinF; split <;> simp
def clsh (a b : Int) : Bool := decide (a = b) || (decide (clsF a = clsF b) && !decide (clsF a = 3))
theorem c_clash (a : Int) (b : Int)  : ConN Try.prog 71 [.lit (.int .i64 a), .lit (.int .i64 b)] [] 0 (.lit (.bool (stdH Bool fun _ => clsh a b))) [] [] := by
  have hB : Base Try.prog (tabΓ [e_class]) tab := base_of tabOk (ents_cons eok_class <| ents_nil)
  refine con_m (N := 20) hB (draw_ok hB mixed) Try.func71 rfl rfl (fun H => [.lit (.int .i64 a), .lit (.int .i64 b)]) (fun _ => []) 0 (fun H => .lit (.bool (H Bool fun _ => clsh a b))) (fun H => []) (fun _ => []) 60 (by simp) (fun x hx => ?_) (by simp [lk]) (by omega) (by simp) ?_
  · simp only [List.mem_cons, List.not_mem_nil, or_false] at hx
    rcases hx with rfl | rfl
    · exact .lit
    · exact .lit
  intro X hX hX0 H hH
  conv in Fin.chk _ _ => cbv
  try simp only [Plain_rowsA, Plain_rowsB, Plain_rowsF, Plain_rowsG, Plain_rowsI, Plain_rowsS, Plain_rowsU, Fin.satC_ret, Fin.satC_br, Fin.satC_need, Fin.satC_again, AllP, and_true, true_and, upd, List.length_nil, List.length_cons, Nat.zero_add, if_true, ncast, Int.ofNat_eq_natCast]
  subst hH
  simp only [stdH, clsh, beqd, bned]
  cases decide (a = b) <;> simp <;> cases decide (clsF a = clsF b) <;> simp
noncomputable def e_clash : Entry := pureE 71 fun H a => match a with
  | [.lit (.int .i64 a), .lit (.int .i64 b)] => some (.lit (.bool (H Bool fun _ => clsh a b)), [])
  | _ => none
theorem eok_clash : EntryOk Try.prog e_clash := pureM_ok (by unfold isBody; kernel_rfl) (by
  intro a r ob e hob
  split at e
  · rename_i a b
    simp only [Option.some.injEq, Prod.mk.injEq] at e
    obtain ⟨rfl, rfl⟩ := e
    exact ConN.args (.cons .rfl (.cons .rfl .nil)) (c_clash a b )
  · simp at e)
theorem c_l2Clash (a : Int) (b : Int)  : ConN Try.prog 78 [.lit (.int .i64 a), .lit (.int .i64 b)] [] 0 (.lit (.bool (stdH Bool fun _ => clsh a b))) [] [] := by
  have hB : Base Try.prog (tabΓ [e_l2Class]) tab := base_of tabOk (ents_cons eok_l2Class <| ents_nil)
  refine con_m (N := 20) hB (draw_ok hB mixed) Try.func78 rfl rfl (fun H => [.lit (.int .i64 a), .lit (.int .i64 b)]) (fun _ => []) 0 (fun H => .lit (.bool (H Bool fun _ => clsh a b))) (fun H => []) (fun _ => []) 60 (by simp) (fun x hx => ?_) (by simp [lk]) (by omega) (by simp) ?_
  · simp only [List.mem_cons, List.not_mem_nil, or_false] at hx
    rcases hx with rfl | rfl
    · exact .lit
    · exact .lit
  intro X hX hX0 H hH
  conv in Fin.chk _ _ => cbv
  try simp only [Plain_rowsA, Plain_rowsB, Plain_rowsF, Plain_rowsG, Plain_rowsI, Plain_rowsS, Plain_rowsU, Fin.satC_ret, Fin.satC_br, Fin.satC_need, Fin.satC_again, AllP, and_true, true_and, upd, List.length_nil, List.length_cons, Nat.zero_add, if_true, ncast, Int.ofNat_eq_natCast]
  subst hH
  simp only [stdH, clsh, beqd, bned]
  cases decide (a = b) <;> simp <;> cases decide (clsF a = clsF b) <;> simp
noncomputable def e_l2Clash : Entry := pureE 78 fun H a => match a with
  | [.lit (.int .i64 a), .lit (.int .i64 b)] => some (.lit (.bool (H Bool fun _ => clsh a b)), [])
  | _ => none
theorem eok_l2Clash : EntryOk Try.prog e_l2Clash := pureM_ok (by unfold isBody; kernel_rfl) (by
  intro a r ob e hob
  split at e
  · rename_i a b
    simp only [Option.some.injEq, Prod.mk.injEq] at e
    obtain ⟨rfl, rfl⟩ := e
    exact ConN.args (.cons .rfl (.cons .rfl .nil)) (c_l2Clash a b )
  · simp at e)
theorem all_getD {p : Int → Bool} {l : List Int} (h : ∀ j, j < l.length → p (l.getD j 0) = true) : l.all p = true := by
  rw [List.all_eq_true]
  intro x hx
  obtain ⟨i, hi, e⟩ := List.getElem_of_mem hx
  have := h i hi
  rw [List.getD_eq_getElem?_getD, List.getElem?_eq_getElem hi] at this
  rw [← e]; exact this
theorem not_all_getD {p : Int → Bool} {l : List Int} {i : Nat} (hi : i < l.length) (h : p (l.getD i 0) = false) : l.all p = false := by
  rw [← Bool.not_eq_true, List.all_eq_true]
  intro q
  rw [q _ (getD_mem hi)] at h; cases h
theorem c_breaks (x : Int) (list : List Int) (h0 : list.length ≤ 100000) : ConN Try.prog 70 [.lit (.int .i64 x), .vec 1 (stdH Nat fun _ => (list).length) (rowsI stdH fun _ => list)] [] 0 (.lit (.bool (stdH Bool fun _ => list.all (clsh x)))) [] [] := by
  have hB : Base Try.prog (tabΓ [e_clash]) tab := base_of tabOk (ents_cons eok_clash <| ents_nil)
  refine con_m (N := 18) hB (draw_ok hB mixed) Try.func70 rfl rfl (fun H => [.lit (.int .i64 x), .vec 1 (H Nat fun _ => (list).length) (rowsI H fun _ => list)]) (fun _ => []) 0 (fun H => .lit (.bool (H Bool fun _ => list.all (clsh x)))) (fun H => []) (fun _ => []) 100 (by simp) (fun x hx => ?_) (by simp [lk]) (by omega) (by simp) ?_
  · simp only [List.mem_cons, List.not_mem_nil, or_false] at hx
    rcases hx with rfl | rfl
    · exact .lit
    · exact vl_bl okI list _
  intro X hX hX0 H hH
  conv in Fin.chk _ _ => cbv
  try simp only [Plain_rowsA, Plain_rowsB, Plain_rowsF, Plain_rowsG, Plain_rowsI, Plain_rowsS, Plain_rowsU, Fin.satC_ret, Fin.satC_br, Fin.satC_need, Fin.satC_again, AllP, and_true, true_and, upd, List.length_nil, List.length_cons, Nat.zero_add, if_true, ncast, Int.ofNat_eq_natCast]
  refine loop_a hB (draw_ok hB mixed) hX hX0 hH false (ι := { i : Nat // i ≤ list.length ∧ ∀ j, j < i → clsh x (list.getD j 0) = true }) 100 (fun i => [.i (H Int fun _ => (i.1 : Nat))]) (fun i => list.length - i.1) (⟨0, by omega, by omega⟩) ?_ ?_
  · (conv in matchSt _ _ _ _ => cbv); simp only [AllG, AllP, and_true, hH, stdH, ncast, Int.ofNat_eq_natCast, vrow_I, Arm.eta2, Fld.eta, Grp.eta]
    (repeat' (first | rfl | trivial | exact RowsEq.self okI | exact RowsEq.self okRA | exact RowsEq.self okS | refine And.intro ?_ ?_))
  · intro I hI i
    conv in Fin.chk _ _ => cbv
    try simp only [Plain_rowsA, Plain_rowsB, Plain_rowsF, Plain_rowsG, Plain_rowsI, Plain_rowsS, Plain_rowsU, Fin.satC_ret, Fin.satC_br, Fin.satC_need, Fin.satC_again, AllP, and_true, true_and, upd, List.length_nil, List.length_cons, Nat.zero_add, if_true, ncast, Int.ofNat_eq_natCast]
    obtain ⟨i, hi, hj⟩ := i
    refine ⟨fun h1 => ⟨?_, fun h2 => ?_, fun h2 => ?_⟩, fun h1 => ?_⟩
    · simp only [hH, stdH, decide_eq_true_eq, decide_eq_false_iff_not, Bool.not_eq_true', Bool.not_eq_false', peta, ncast, Int.ofNat_eq_natCast, beq_iff_eq, bne_iff_ne, beq_eq_false_iff_ne, bne_eq_false_iff_eq, ne_eq, Classical.not_not, Int.toNat_natCast, vrow_I, Arm.eta2, Fld.eta, Grp.eta] at h1 ⊢
      omega
    · simp only [hH, stdH, decide_eq_true_eq, decide_eq_false_iff_not, Bool.not_eq_true', Bool.not_eq_false', peta, ncast, Int.ofNat_eq_natCast, beq_iff_eq, bne_iff_ne, beq_eq_false_iff_ne, bne_eq_false_iff_eq, ne_eq, Classical.not_not, Int.toNat_natCast, vrow_I, Arm.eta2, Fld.eta, Grp.eta] at h1 h2 ⊢
      exact not_all_getD (by omega) h2
    · simp only [hH, stdH, decide_eq_true_eq, decide_eq_false_iff_not, Bool.not_eq_true', Bool.not_eq_false', peta, ncast, Int.ofNat_eq_natCast, beq_iff_eq, bne_iff_ne, beq_eq_false_iff_ne, bne_eq_false_iff_eq, ne_eq, Classical.not_not, Int.toNat_natCast, vrow_I, Arm.eta2, Fld.eta, Grp.eta] at h1 h2
      refine ⟨⟨i + 1, by omega, fun j hj' => ?_⟩, by simp only; omega, ?_⟩
      · rcases Nat.lt_succ_iff_lt_or_eq.1 hj' with h | rfl
        · exact hj j h
        · exact h2
      · (rw [hI]; (conv in matchSt _ _ _ _ => cbv); simp only [AllG, AllP, and_true, hH, stdH, ncast, Int.ofNat_eq_natCast, vrow_I, Arm.eta2, Fld.eta, Grp.eta]; (try rw [w1 (by omega)]); (repeat' (first | rfl | trivial | exact RowsEq.self okI | exact RowsEq.self okRA | exact RowsEq.self okS | refine And.intro ?_ ?_)))
    · simp only [hH, stdH, decide_eq_true_eq, decide_eq_false_iff_not, Bool.not_eq_true', Bool.not_eq_false', peta, ncast, Int.ofNat_eq_natCast, beq_iff_eq, bne_iff_ne, beq_eq_false_iff_ne, bne_eq_false_iff_eq, ne_eq, Classical.not_not, Int.toNat_natCast, vrow_I, Arm.eta2, Fld.eta, Grp.eta] at h1 ⊢
      exact all_getD fun j hj' => hj j (by omega)
noncomputable def e_breaks : Entry := pureE 70 fun H a => match a with
  | [.lit (.int .i64 x), .vec 1 listn listf] => some (.lit (.bool (H Bool fun _ => (Tl rowI listn listf).all (clsh x))), [H Prop fun _ => Shp rowI listn listf, H Prop fun _ => (Tl rowI listn listf).length ≤ 100000])
  | _ => none
theorem eok_breaks : EntryOk Try.prog e_breaks := pureM_ok (by unfold isBody; kernel_rfl) (by
  intro a r ob e hob
  split at e
  · rename_i x listn listf
    simp only [Option.some.injEq, Prod.mk.injEq] at e
    obtain ⟨rfl, rfl⟩ := e
    exact ConN.args (.cons .rfl (.cons (.toT okI rfl hob.1) .nil)) (c_breaks x (Tl rowI listn listf) hob.2.1)
  · simp at e)
theorem c_l3TincV (f : Fld)  : ConN Try.prog 100 [aT rowF stdH fun _ => f] [] 0 (.vec 1 (stdH Nat fun _ => (tinF f).length) (rowsI stdH fun _ => tinF f)) [] [] := by
  have hB : Base Try.prog (tabΓ []) tab := base_of tabOk (ents_nil)
  refine con_m (N := 14) hB (draw_ok hB mixed) Try.func100 rfl rfl (fun H => [aT rowF H fun _ => f]) (fun _ => []) 0 (fun H => .vec 1 (H Nat fun _ => (tinF f).length) (rowsI H fun _ => tinF f)) (fun H => []) (fun _ => []) 60 (by simp) (fun x hx => ?_) (by simp [lk]) (by omega) (by simp) ?_
  · simp only [List.mem_cons, List.not_mem_nil, or_false] at hx
    rcases hx with rfl
    · exact aT_bl okRF _ _
  intro X hX hX0 H hH
  conv in Fin.chk _ _ => cbv
  try simp only [Plain_rowsA, Plain_rowsB, Plain_rowsF, Plain_rowsG, Plain_rowsI, Plain_rowsS, Plain_rowsU, Fin.satC_ret, Fin.satC_br, Fin.satC_need, Fin.satC_again, AllP, and_true, true_and, upd, List.length_nil, List.length_cons, Nat.zero_add, if_true, ncast, Int.ofNat_eq_natCast]
  subst hH
  simp only [stdH, beq_iff_eq, beq_eq_false_iff_ne, ne_eq]
  unfold tinF
  refine ⟨fun h => ?_, fun h => ?_⟩
  · rw [if_pos h]; exact .ofT okI rfl (Shp_one rfl) (by rw [Tl_one]; rfl)
  · rw [if_neg h]; exact .ofT okI rfl ⟨fun j hj => by rcases (by omega : j = 0 ∨ j = 1) with rfl | rfl <;> rfl⟩ rfl
noncomputable def e_l3TincV : Entry := pureE 100 fun H a => match a with
  | [.agg [.lit (.int .i64 f0), .lit (.int .i64 f1), .lit (.int .i64 f2), .lit (.int .i64 f3)]] => some (.vec 1 (H Nat fun _ => (tinF (⟨f0, f1, f2, f3⟩ : Fld)).length) (rowsI H fun _ => tinF (⟨f0, f1, f2, f3⟩ : Fld)), [])
  | _ => none
theorem eok_l3TincV : EntryOk Try.prog e_l3TincV := pureM_ok (by unfold isBody; kernel_rfl) (by
  intro a r ob e hob
  split at e
  · rename_i f0 f1 f2 f3
    simp only [Option.some.injEq, Prod.mk.injEq] at e
    obtain ⟨rfl, rfl⟩ := e
    exact ConN.args (.cons .rfl .nil) (c_l3TincV (⟨f0, f1, f2, f3⟩ : Fld) )
  · simp at e)
theorem c_l8OnField (f : Fld) (x : Int)  : ConN Try.prog 77 [aT rowF stdH fun _ => f, .lit (.int .i64 x)] [] 0 (.lit (.bool (stdH Bool fun _ => (tinF f).all (clsh x)))) [] [] := by
  have hB : Base Try.prog (tabΓ [e_l3TincV, e_l2Clash]) tab := base_of tabOk (ents_cons eok_l3TincV <| ents_cons eok_l2Clash <| ents_nil)
  refine con_m (N := 22) hB (draw_ok hB mixed) Try.func77 rfl rfl (fun H => [aT rowF H fun _ => f, .lit (.int .i64 x)]) (fun _ => []) 0 (fun H => .lit (.bool (H Bool fun _ => (tinF f).all (clsh x)))) (fun H => []) (fun _ => []) 100 (by simp) (fun x hx => ?_) (by simp [lk]) (by omega) (by simp) ?_
  · simp only [List.mem_cons, List.not_mem_nil, or_false] at hx
    rcases hx with rfl | rfl
    · exact aT_bl okRF _ _
    · exact .lit
  intro X hX hX0 H hH
  conv in Fin.chk _ _ => cbv
  try simp only [Plain_rowsA, Plain_rowsB, Plain_rowsF, Plain_rowsG, Plain_rowsI, Plain_rowsS, Plain_rowsU, Fin.satC_ret, Fin.satC_br, Fin.satC_need, Fin.satC_again, AllP, and_true, true_and, upd, List.length_nil, List.length_cons, Nat.zero_add, if_true, ncast, Int.ofNat_eq_natCast]
  have e1 := tinF_len' f
  refine loop_a hB (draw_ok hB mixed) hX hX0 hH false (ι := { i : Nat // i ≤ (tinF f).length ∧ ∀ j, j < i → clsh x ((tinF f).getD j 0) = true }) 100 (fun i => [.i (H Int fun _ => (i.1 : Nat))]) (fun i => (tinF f).length - i.1) (⟨0, by omega, by omega⟩) ?_ ?_
  · (conv in matchSt _ _ _ _ => cbv); simp only [AllG, AllP, and_true, hH, stdH, ncast, Int.ofNat_eq_natCast, vrow_I, Arm.eta2, Fld.eta, Grp.eta]
    (repeat' (first | rfl | trivial | exact RowsEq.self okI | exact RowsEq.self okRA | exact RowsEq.self okS | refine And.intro ?_ ?_))
  · intro I hI i
    conv in Fin.chk _ _ => cbv
    try simp only [Plain_rowsA, Plain_rowsB, Plain_rowsF, Plain_rowsG, Plain_rowsI, Plain_rowsS, Plain_rowsU, Fin.satC_ret, Fin.satC_br, Fin.satC_need, Fin.satC_again, AllP, and_true, true_and, upd, List.length_nil, List.length_cons, Nat.zero_add, if_true, ncast, Int.ofNat_eq_natCast]
    obtain ⟨i, hi, hj⟩ := i
    refine ⟨fun h1 => ⟨?_, fun h2 => ?_, fun h2 => ?_⟩, fun h1 => ?_⟩
    · simp only [hH, stdH, decide_eq_true_eq, decide_eq_false_iff_not, Bool.not_eq_true', Bool.not_eq_false', peta, ncast, Int.ofNat_eq_natCast, beq_iff_eq, bne_iff_ne, beq_eq_false_iff_ne, bne_eq_false_iff_eq, ne_eq, Classical.not_not, Int.toNat_natCast, vrow_I, Arm.eta2, Fld.eta, Grp.eta] at h1 ⊢
      omega
    · simp only [hH, stdH, decide_eq_true_eq, decide_eq_false_iff_not, Bool.not_eq_true', Bool.not_eq_false', peta, ncast, Int.ofNat_eq_natCast, beq_iff_eq, bne_iff_ne, beq_eq_false_iff_ne, bne_eq_false_iff_eq, ne_eq, Classical.not_not, Int.toNat_natCast, vrow_I, Arm.eta2, Fld.eta, Grp.eta] at h1 h2 ⊢
      exact not_all_getD (by omega) h2
    · simp only [hH, stdH, decide_eq_true_eq, decide_eq_false_iff_not, Bool.not_eq_true', Bool.not_eq_false', peta, ncast, Int.ofNat_eq_natCast, beq_iff_eq, bne_iff_ne, beq_eq_false_iff_ne, bne_eq_false_iff_eq, ne_eq, Classical.not_not, Int.toNat_natCast, vrow_I, Arm.eta2, Fld.eta, Grp.eta] at h1 h2
      refine ⟨⟨i + 1, by omega, fun j hj' => ?_⟩, by simp only; omega, ?_⟩
      · rcases Nat.lt_succ_iff_lt_or_eq.1 hj' with h | rfl
        · exact hj j h
        · exact h2
      · (rw [hI]; (conv in matchSt _ _ _ _ => cbv); simp only [AllG, AllP, and_true, hH, stdH, ncast, Int.ofNat_eq_natCast, vrow_I, Arm.eta2, Fld.eta, Grp.eta]; (try rw [w1 (by omega)]); (repeat' (first | rfl | trivial | exact RowsEq.self okI | exact RowsEq.self okRA | exact RowsEq.self okS | refine And.intro ?_ ?_)))
    · simp only [hH, stdH, decide_eq_true_eq, decide_eq_false_iff_not, Bool.not_eq_true', Bool.not_eq_false', peta, ncast, Int.ofNat_eq_natCast, beq_iff_eq, bne_iff_ne, beq_eq_false_iff_ne, bne_eq_false_iff_eq, ne_eq, Classical.not_not, Int.toNat_natCast, vrow_I, Arm.eta2, Fld.eta, Grp.eta] at h1 ⊢
      exact all_getD fun j hj' => hj j (by omega)
noncomputable def e_l8OnField : Entry := pureE 77 fun H a => match a with
  | [.agg [.lit (.int .i64 f0), .lit (.int .i64 f1), .lit (.int .i64 f2), .lit (.int .i64 f3)], .lit (.int .i64 x)] => some (.lit (.bool (H Bool fun _ => (tinF (⟨f0, f1, f2, f3⟩ : Fld)).all (clsh x))), [])
  | _ => none
theorem eok_l8OnField : EntryOk Try.prog e_l8OnField := pureM_ok (by unfold isBody; kernel_rfl) (by
  intro a r ob e hob
  split at e
  · rename_i f0 f1 f2 f3 x
    simp only [Option.some.injEq, Prod.mk.injEq] at e
    obtain ⟨rfl, rfl⟩ := e
    exact ConN.args (.cons .rfl (.cons .rfl .nil)) (c_l8OnField (⟨f0, f1, f2, f3⟩ : Fld) x )
  · simp at e)
def fnds (a : Arm) : List Fdg := (bif (bif !decide (a.o = 0) then (tinF a.f).all (clsh a.t) else false) then [⟨1, a.t, a.f.p⟩] else []) ++ (bif (bif !noG a.n then clsh a.n.t a.t else false) then [⟨2, a.n.t, a.t⟩] else []) ++ (bif (bif !noG a.r then (tinF a.f).all (clsh a.r.t) else false) then [⟨3, a.r.t, a.f.p⟩] else [])
theorem c_findings (a : Arm)  : ConN Try.prog 32 [aT rowA stdH fun _ => a] [] 0 (.vec 3 (stdH Nat fun _ => (fnds a).length) (rowsD stdH fun _ => fnds a)) [] [] := by
  have hB : Base Try.prog (tabΓ [e_tinF, e_breaks, e_clash]) tabO := base_of tabOkO (ents_cons eok_tinF <| ents_cons eok_breaks <| ents_cons eok_clash <| ents_nil)
  refine con_m (N := 70) hB (draw_ok hB mixed) Try.func32 rfl rfl (fun H => [aT rowA H fun _ => a]) (fun _ => []) 0 (fun H => .vec 3 (H Nat fun _ => (fnds a).length) (rowsD H fun _ => fnds a)) (fun H => []) (fun _ => []) 300 (by simp) (fun x hx => ?_) (by simp [lk]) (by omega) (by simp) ?_
  · simp only [List.mem_cons, List.not_mem_nil, or_false] at hx
    rcases hx with rfl
    · exact aT_bl okRA _ _
  intro X hX hX0 H hH
  conv in Fin.chk _ _ => cbv
  try simp only [Plain_rowsA, Plain_rowsB, Plain_rowsF, Plain_rowsG, Plain_rowsI, Plain_rowsS, Plain_rowsU, Fin.satC_ret, Fin.satC_br, Fin.satC_need, Fin.satC_again, AllP, and_true, true_and, upd, List.length_nil, List.length_cons, Nat.zero_add, if_true, ncast, Int.ofNat_eq_natCast]
  subst hH
  simp only [stdH, Arm.eta, Fld.eta, Grp.eta, vrow_I, Tl_I, noGE]
  simp only [bned]
  have e1 := tinF_len' a.f
  repeat' (first | refine And.intro ?_ ?_ | intro _)
  all_goals first | omega | exact trivial | exact Shp_I _ _ | exact e1 | skip
  all_goals (refine RowsEq.ofT okRD rfl (by repeat' first | exact Shp_zero _ | exact Shp_one rfl | apply Shp_app) ?_; (repeat rw [Tl_app]); simp only [Tl_one, Tl_zero, fnds, *, cond_true, cond_false, List.append_nil, List.nil_append, List.cons_append]; try rfl)
noncomputable def e_findings : Entry := pureE 32 fun H a => match a with
  | [.agg [.lit (.int .i64 a0), .lit (.int .i64 a1), .lit (.int .i64 a2), .lit (.int .i64 a3), .lit (.int .i64 a4), .lit (.int .i64 a5), .lit (.int .i64 a6), .lit (.int .i64 a7), .lit (.int .i64 a8), .lit (.int .i64 a9), .lit (.int .i64 a10), .lit (.int .i64 a11), .lit (.int .i64 a12), .lit (.int .i64 a13), .lit (.int .i64 a14)]] => some (.vec 3 (H Nat fun _ => (fnds (⟨⟨a0, a1, a2, a3⟩, a4, a5, a6, ⟨a7, a8, a9, a10⟩, ⟨a11, a12, a13, a14⟩⟩ : Arm)).length) (rowsD H fun _ => fnds (⟨⟨a0, a1, a2, a3⟩, a4, a5, a6, ⟨a7, a8, a9, a10⟩, ⟨a11, a12, a13, a14⟩⟩ : Arm)), [])
  | _ => none
theorem eok_findings : EntryOk Try.prog e_findings := pureM_ok (by unfold isBody; kernel_rfl) (by
  intro a r ob e hob
  split at e
  · rename_i a0 a1 a2 a3 a4 a5 a6 a7 a8 a9 a10 a11 a12 a13 a14
    simp only [Option.some.injEq, Prod.mk.injEq] at e
    obtain ⟨rfl, rfl⟩ := e
    exact ConN.args (.cons .rfl .nil) (c_findings (⟨⟨a0, a1, a2, a3⟩, a4, a5, a6, ⟨a7, a8, a9, a10⟩, ⟨a11, a12, a13, a14⟩⟩ : Arm) )
  · simp at e)
theorem c_l8Findings (a : Arm)  : ConN Try.prog 34 [aT rowA stdH fun _ => a] [] 0 (.vec 3 (stdH Nat fun _ => (fnds a).length) (rowsD stdH fun _ => fnds a)) [] [] := by
  have hB : Base Try.prog (tabΓ [e_l8OnField, e_l4None, e_l2Clash]) tabO := base_of tabOkO (ents_cons eok_l8OnField <| ents_cons eok_l4None <| ents_cons eok_l2Clash <| ents_nil)
  refine con_m (N := 68) hB (draw_ok hB mixed) Try.func34 rfl rfl (fun H => [aT rowA H fun _ => a]) (fun _ => []) 0 (fun H => .vec 3 (H Nat fun _ => (fnds a).length) (rowsD H fun _ => fnds a)) (fun H => []) (fun _ => []) 300 (by simp) (fun x hx => ?_) (by simp [lk]) (by omega) (by simp) ?_
  · simp only [List.mem_cons, List.not_mem_nil, or_false] at hx
    rcases hx with rfl
    · exact aT_bl okRA _ _
  intro X hX hX0 H hH
  conv in Fin.chk _ _ => cbv
  try simp only [Plain_rowsA, Plain_rowsB, Plain_rowsF, Plain_rowsG, Plain_rowsI, Plain_rowsS, Plain_rowsU, Fin.satC_ret, Fin.satC_br, Fin.satC_need, Fin.satC_again, AllP, and_true, true_and, upd, List.length_nil, List.length_cons, Nat.zero_add, if_true, ncast, Int.ofNat_eq_natCast]
  subst hH
  simp only [stdH, Arm.eta, Fld.eta, Grp.eta, vrow_I, Tl_I, noGE]
  simp only [bned]
  have e1 := tinF_len' a.f
  repeat' (first | refine And.intro ?_ ?_ | intro _)
  all_goals first | omega | exact trivial | exact Shp_I _ _ | exact e1 | skip
  all_goals (refine RowsEq.ofT okRD rfl (by repeat' first | exact Shp_zero _ | exact Shp_one rfl | apply Shp_app) ?_; (repeat rw [Tl_app]); simp only [Tl_one, Tl_zero, fnds, *, cond_true, cond_false, List.append_nil, List.nil_append, List.cons_append]; try rfl)
noncomputable def e_l8Findings : Entry := pureE 34 fun H a => match a with
  | [.agg [.lit (.int .i64 a0), .lit (.int .i64 a1), .lit (.int .i64 a2), .lit (.int .i64 a3), .lit (.int .i64 a4), .lit (.int .i64 a5), .lit (.int .i64 a6), .lit (.int .i64 a7), .lit (.int .i64 a8), .lit (.int .i64 a9), .lit (.int .i64 a10), .lit (.int .i64 a11), .lit (.int .i64 a12), .lit (.int .i64 a13), .lit (.int .i64 a14)]] => some (.vec 3 (H Nat fun _ => (fnds (⟨⟨a0, a1, a2, a3⟩, a4, a5, a6, ⟨a7, a8, a9, a10⟩, ⟨a11, a12, a13, a14⟩⟩ : Arm)).length) (rowsD H fun _ => fnds (⟨⟨a0, a1, a2, a3⟩, a4, a5, a6, ⟨a7, a8, a9, a10⟩, ⟨a11, a12, a13, a14⟩⟩ : Arm)), [])
  | _ => none
theorem eok_l8Findings : EntryOk Try.prog e_l8Findings := pureM_ok (by unfold isBody; kernel_rfl) (by
  intro a r ob e hob
  split at e
  · rename_i a0 a1 a2 a3 a4 a5 a6 a7 a8 a9 a10 a11 a12 a13 a14
    simp only [Option.some.injEq, Prod.mk.injEq] at e
    obtain ⟨rfl, rfl⟩ := e
    exact ConN.args (.cons .rfl .nil) (c_l8Findings (⟨⟨a0, a1, a2, a3⟩, a4, a5, a6, ⟨a7, a8, a9, a10⟩, ⟨a11, a12, a13, a14⟩⟩ : Arm) )
  · simp at e)
theorem fnds_len (a : Arm) : (fnds a).length ≤ 3 := by
  have e : ∀ (b : Bool) (x : Fdg), (bif b then [x] else []).length ≤ 1 := fun b x => by cases b <;> simp
  unfold fnds
  simp only [List.length_append]
  have := e (bif !decide (a.o = 0) then (tinF a.f).all (clsh a.t) else false) ⟨1, a.t, a.f.p⟩
  have := e (bif !noG a.n then clsh a.n.t a.t else false) ⟨2, a.n.t, a.t⟩
  have := e (bif !noG a.r then (tinF a.f).all (clsh a.r.t) else false) ⟨3, a.r.t, a.f.p⟩
  omega
def lentF (a : Arm) (x : Fdg) : Bool := bif a.o != 7 then true else x.p != 1
theorem filter_snoc {α : Type} {p : α → Bool} {l : List α} {i : Nat} {d : α} (h : i < l.length) : (l.take (i + 1)).filter p = (l.take i).filter p ++ (if p (l.getD i d) then [l.getD i d] else []) := by
  rw [List.take_succ_eq_append_getElem h, List.filter_append, List.getD_eq_getElem?_getD, List.getElem?_eq_getElem h]
  simp only [Option.getD_some, List.filter_cons, List.filter_nil]
theorem c_RuleFindings (a : Arm)  : ConN Try.prog 7 [aT rowA stdH fun _ => a] [] 0 (.tup [.vec 3 (stdH Nat fun _ => (if okA a then fnds a else []).length) (rowsD stdH fun _ => if okA a then fnds a else []), .lit (.bool (stdH Bool fun _ => okA a))]) [] [] := by
  have hB : Base Try.prog (tabΓ [e_IsValidArms, e_findings]) tab := base_of tabOk (ents_cons eok_IsValidArms <| ents_cons eok_findings <| ents_nil)
  refine con_m (N := 9) hB (draw_ok hB mixed) Try.func7 rfl rfl (fun H => [aT rowA H fun _ => a]) (fun _ => []) 0 (fun H => .tup [.vec 3 (H Nat fun _ => (if okA a then fnds a else []).length) (rowsD H fun _ => if okA a then fnds a else []), .lit (.bool (H Bool fun _ => okA a))]) (fun H => []) (fun _ => []) 100 (by simp) (fun x hx => ?_) (by simp [lk]) (by omega) (by simp) ?_
  · simp only [List.mem_cons, List.not_mem_nil, or_false] at hx
    rcases hx with rfl
    · exact aT_bl okRA _ _
  intro X hX hX0 H hH
  conv in Fin.chk _ _ => cbv
  try simp only [Plain_rowsA, Plain_rowsB, Plain_rowsF, Plain_rowsG, Plain_rowsI, Plain_rowsS, Plain_rowsU, Fin.satC_ret, Fin.satC_br, Fin.satC_need, Fin.satC_again, AllP, and_true, true_and, upd, List.length_nil, List.length_cons, Nat.zero_add, if_true, ncast, Int.ofNat_eq_natCast]
  subst hH
  simp only [stdH, Arm.eta]
  refine ⟨fun h => ?_, fun h => ?_⟩
  · have e : okA a = false := by simpa using h
    rw [e]; exact ⟨rfl, rfl⟩
  · have e : okA a = true := by simpa using h
    rw [e]; exact ⟨rfl, .self okRD⟩
noncomputable def e_RuleFindings : Entry := pureE 7 fun H a => match a with
  | [.agg [.lit (.int .i64 a0), .lit (.int .i64 a1), .lit (.int .i64 a2), .lit (.int .i64 a3), .lit (.int .i64 a4), .lit (.int .i64 a5), .lit (.int .i64 a6), .lit (.int .i64 a7), .lit (.int .i64 a8), .lit (.int .i64 a9), .lit (.int .i64 a10), .lit (.int .i64 a11), .lit (.int .i64 a12), .lit (.int .i64 a13), .lit (.int .i64 a14)]] => some (.tup [.vec 3 (H Nat fun _ => (if okA (⟨⟨a0, a1, a2, a3⟩, a4, a5, a6, ⟨a7, a8, a9, a10⟩, ⟨a11, a12, a13, a14⟩⟩ : Arm) then fnds (⟨⟨a0, a1, a2, a3⟩, a4, a5, a6, ⟨a7, a8, a9, a10⟩, ⟨a11, a12, a13, a14⟩⟩ : Arm) else []).length) (rowsD H fun _ => if okA (⟨⟨a0, a1, a2, a3⟩, a4, a5, a6, ⟨a7, a8, a9, a10⟩, ⟨a11, a12, a13, a14⟩⟩ : Arm) then fnds (⟨⟨a0, a1, a2, a3⟩, a4, a5, a6, ⟨a7, a8, a9, a10⟩, ⟨a11, a12, a13, a14⟩⟩ : Arm) else []), .lit (.bool (H Bool fun _ => okA (⟨⟨a0, a1, a2, a3⟩, a4, a5, a6, ⟨a7, a8, a9, a10⟩, ⟨a11, a12, a13, a14⟩⟩ : Arm)))], [])
  | _ => none
theorem eok_RuleFindings : EntryOk Try.prog e_RuleFindings := pureM_ok (by unfold isBody; kernel_rfl) (by
  intro a r ob e hob
  split at e
  · rename_i a0 a1 a2 a3 a4 a5 a6 a7 a8 a9 a10 a11 a12 a13 a14
    simp only [Option.some.injEq, Prod.mk.injEq] at e
    obtain ⟨rfl, rfl⟩ := e
    exact ConN.args (.cons .rfl .nil) (c_RuleFindings (⟨⟨a0, a1, a2, a3⟩, a4, a5, a6, ⟨a7, a8, a9, a10⟩, ⟨a11, a12, a13, a14⟩⟩ : Arm) )
  · simp at e)
theorem filter_le {α : Type} (p : α → Bool) (l : List α) (i : Nat) : ((l.take i).filter p).length ≤ l.length := Nat.le_trans (List.length_filter_le _ _) (by simp; omega)
theorem lentF_comm (a : Arm) (x : Fdg) : lentF a x = bif x.p != 1 then true else a.o != 7 := by unfold lentF; cases (a.o != 7) <;> cases (x.p != 1) <;> rfl

end Go.Proofs.Ytoommgpcmgnpaaa.AM
