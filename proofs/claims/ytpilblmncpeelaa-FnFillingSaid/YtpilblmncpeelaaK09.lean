/- Lemmas and contracts (Rbc); conditions: none. -/
import Derived.Test.YtpilblmncpeelaaK04
import Derived.Test.YtpilblmncpeelaaK06
import Derived.Test.YtpilblmncpeelaaK08
set_option linter.unusedVariables false
set_option linter.unusedSimpArgs false
set_option linter.unusedVariables false
set_option linter.unusedSimpArgs false
set_option maxRecDepth 100000
set_option maxHeartbeats 4000000
set_option cbv.maxSteps 3000000
namespace Go.Proofs.Ytpilblmncpeelaa.AM
/- Regions by the program; conditions: none. -/
structure Rgn where
  rows : List Int
deriving Inhabited
def rowsZ (H : Hold) (L : Unit → List Rgn) (j : Nat) : List AV := [.vec 1 (H Nat fun _ => (((L ()).getD j default).rows).length) (rowsI H fun _ => ((L ()).getD j default).rows)]
def rowZ : RowD Rgn := ⟨1, default, fun H x => [.vec 1 (H Nat fun _ => ((x ()).rows).length) (rowsI H fun _ => (x ()).rows)], fun l => match l with
  | [.vec _ x0n x0f] => ⟨(Tl rowI x0n x0f)⟩
  | _ => default, rowsZ⟩
theorem okRZ : RowOk rowZ := ⟨fun _ => rfl, fun x c hc => by simp only [rowZ, List.mem_cons, List.not_mem_nil, or_false] at hc; rcases hc with rfl <;> (first | exact .lit | exact vT_bl okI (fun _ => (x ()).rows) 0), fun x => (by show (⟨Tl rowI (x.rows).length (rowsT rowI stdH fun _ => x.rows)⟩ : Rgn) = x; rw [Tl_rowsT okI]), fun _ _ => rfl⟩
theorem Rgn.eta (a : Rgn) : (⟨a.rows⟩ : Rgn) = a := rfl
structure Box where
  x : Int
  y : Int
  s : Int
deriving Inhabited
def rowsQ (H : Hold) (L : Unit → List Box) (j : Nat) : List AV := [.lit (.int .i64 (H Int fun _ => ((L ()).getD j default).x)), .lit (.int .i64 (H Int fun _ => ((L ()).getD j default).y)), .lit (.int .i64 (H Int fun _ => ((L ()).getD j default).s))]
def rowQ : RowD Box := ⟨3, default, fun H x => [.lit (.int .i64 (H Int fun _ => (x ()).x)), .lit (.int .i64 (H Int fun _ => (x ()).y)), .lit (.int .i64 (H Int fun _ => (x ()).s))], fun l => match l with
  | [.lit (.int _ x0), .lit (.int _ x1), .lit (.int _ x2)] => ⟨x0, x1, x2⟩
  | _ => default, rowsQ⟩
theorem okRQ : RowOk rowQ := ⟨fun _ => rfl, fun x c hc => by simp only [rowQ, List.mem_cons, List.not_mem_nil, or_false] at hc; rcases hc with rfl | rfl | rfl <;> (first | exact .lit ), fun _ => rfl, fun _ _ => rfl⟩
theorem Box.eta (a : Box) : (⟨a.x, a.y, a.s⟩ : Box) = a := rfl
theorem Tl_Q (L : List Box) : Tl rowQ L.length (rowsQ stdH fun _ => L) = L := Tl_rowsT okRQ L
theorem Shp_Q (n : Nat) (L : List Box) : Shp rowQ n (rowsQ stdH fun _ => L) := Shp_rowsT okRQ n (fun _ => L)
theorem Plain_rowsQ (n : Nat) (H : Hold) (L : Unit → List Box) : Plain n (rowsQ H L) = True := eq_true ⟨fun j _ x hx => by simp only [rowsQ, List.mem_cons, List.not_mem_nil, or_false] at hx; rcases hx with rfl | rfl | rfl <;> rfl⟩
def eqrQ (a b : Box) : Bool := allT [fun _ => a.x == b.x, fun _ => a.y == b.y, fun _ => a.s == b.s]
theorem eqrQ_iff {a b : Box} : eqrQ a b = true ↔ a = b := by
  obtain ⟨a0, a1, a2⟩ := a; obtain ⟨b0, b1, b2⟩ := b
  simp [eqrQ, allT, and_assoc]
instance : DecidableEq Box := fun a b => decidable_of_iff (eqrQ a b = true) eqrQ_iff
theorem eqQE (a b : Box) : allT [fun _ => a.x == b.x, fun _ => a.y == b.y, fun _ => a.s == b.s] = decide (a = b) := by
  rw [Bool.eq_iff_iff, decide_eq_true_eq]; exact eqrQ_iff
def shI (x y : Int) : Bool := inB x 0 19 && (inB y 0 23 && (decide (y < 12) || decide (576 * (2 * x - 19) * (2 * x - 19) + 400 * (2 * y - 23) * (2 * y - 23) ≤ 230400)))
theorem inB_iff {x a b : Int} : inB x a b = true ↔ a ≤ x ∧ x ≤ b := by unfold inB; rw [decide_eq_true_eq]
/-- What is reckoned of a cell stays small. -/
theorem ell_w {x y : Int} (hx : 0 ≤ x ∧ x ≤ 19) (hy : 0 ≤ y ∧ y ≤ 23) : IntKind.i64.wrap (IntKind.i64.wrap (IntKind.i64.wrap (576 * IntKind.i64.wrap (IntKind.i64.wrap (2 * x) - 19)) * IntKind.i64.wrap (IntKind.i64.wrap (2 * x) - 19)) + IntKind.i64.wrap (IntKind.i64.wrap (400 * IntKind.i64.wrap (IntKind.i64.wrap (2 * y) - 23)) * IntKind.i64.wrap (IntKind.i64.wrap (2 * y) - 23))) = 576 * (2 * x - 19) * (2 * x - 19) + 400 * (2 * y - 23) * (2 * y - 23) := by
  have e1 : IntKind.i64.wrap (2 * x) = 2 * x := wi (by omega) (by omega)
  have e2 : IntKind.i64.wrap (2 * y) = 2 * y := wi (by omega) (by omega)
  have e3 : IntKind.i64.wrap (2 * x - 19) = 2 * x - 19 := wi (by omega) (by omega)
  have e4 : IntKind.i64.wrap (2 * y - 23) = 2 * y - 23 := wi (by omega) (by omega)
  have e5 : IntKind.i64.wrap (576 * (2 * x - 19)) = 576 * (2 * x - 19) := wi (by omega) (by omega)
  have e6 : IntKind.i64.wrap (400 * (2 * y - 23)) = 400 * (2 * y - 23) := wi (by omega) (by omega)
  have sq : ∀ a b : Int, -b ≤ a → a ≤ b → 0 ≤ a * a ∧ a * a ≤ b * b := fun a b h1 h2 => by
    refine ⟨by rcases Int.le_total 0 a with h | h; exact Int.mul_nonneg h h; exact Int.mul_nonneg_of_nonpos_of_nonpos h h, ?_⟩
    have := Int.mul_nonneg (show 0 ≤ b - a by omega) (show 0 ≤ b + a by omega)
    have e : (b - a) * (b + a) = b * b - a * a := by rw [Int.sub_mul, Int.mul_add, Int.mul_add, Int.mul_comm a b]; omega
    omega
  have s1 := sq (2 * x - 19) 19 (by omega) (by omega)
  have s2 := sq (2 * y - 23) 23 (by omega) (by omega)
  have a1 : 576 * (2 * x - 19) * (2 * x - 19) = 576 * ((2 * x - 19) * (2 * x - 19)) := Int.mul_assoc _ _ _
  have a2 : 400 * (2 * y - 23) * (2 * y - 23) = 400 * ((2 * y - 23) * (2 * y - 23)) := Int.mul_assoc _ _ _
  rw [e1, e2, e3, e4, e5, e6, a1, a2]
  generalize (2 * x - 19) * (2 * x - 19) = p at *
  generalize (2 * y - 23) * (2 * y - 23) = q at *
  have f1 : IntKind.i64.wrap (576 * p) = 576 * p := wi (by omega) (by omega)
  have f2 : IntKind.i64.wrap (400 * q) = 400 * q := wi (by omega) (by omega)
  rw [f1, f2, wi (by omega) (by omega)]
theorem shI_eq (x y : Int) : shI x y = (bif bif inB x 0 19 then inB y 0 23 else false then (bif decide (y < 12) then true else decide (IntKind.i64.wrap (IntKind.i64.wrap (IntKind.i64.wrap (576 * IntKind.i64.wrap (IntKind.i64.wrap (2 * x) - 19)) * IntKind.i64.wrap (IntKind.i64.wrap (2 * x) - 19)) + IntKind.i64.wrap (IntKind.i64.wrap (400 * IntKind.i64.wrap (IntKind.i64.wrap (2 * y) - 23)) * IntKind.i64.wrap (IntKind.i64.wrap (2 * y) - 23))) ≤ 230400)) else false) := by
  unfold shI
  cases hx : inB x 0 19
  · rfl
  · cases hy : inB y 0 23
    · rfl
    · rw [ell_w (inB_iff.1 hx) (inB_iff.1 hy)]
      cases decide (y < 12) <;> rfl
theorem shI_N (y x : Nat) (hy : y < 24) (hx : x < 20) : shI (x : Int) (y : Int) = shN y x := by
  unfold shI shN
  rw [show inB (x : Int) 0 19 = true from inB_iff.2 (by omega), show inB (y : Int) 0 23 = true from inB_iff.2 (by omega), Bool.true_and, Bool.true_and]
  congr 1
  rw [decide_eq_decide]; omega
theorem RowsEq.putD {α : Type} {D : RowD α} (ok : RowOk D) {L : List α} {j : Nat} {x : α} {M : List α} (e : L.set j x = M) : RowsEq D.k M.length (rowsT D stdH fun _ => M) L.length (put1 j (D.cells stdH fun _ => x) (rowsT D stdH fun _ => L)) :=
  .ofT ok rfl (Shp_put1 (Shp_rowsT ok _ _) (by rw [ok.of_cells])) (by rw [Tl_put1, Tl_rowsT ok, ok.of_cells, e])
theorem gen_zero (g : Nat → Nat → Bool) : RowsEq 1 (genAt g 0 0).length (rowsI stdH fun _ => genAt g 0 0) (Int.toNat 24) fun _ => List.map AV.lit [Value.int IntKind.i64 0] := by
  refine ⟨genAt_len g 0 0, fun j hj => ?_⟩
  have q := (RowsEq.self okI (L := genAt g 0 0)).2 j hj
  have e : rowsI stdH (fun _ => genAt g 0 0) j = List.map AV.lit [Value.int IntKind.i64 0] := by
    show [AV.lit (.int .i64 ((genAt g 0 0).getD j 0))] = [AV.lit (.int .i64 0)]
    rw [genAt_len] at hj
    rw [genAt_get hj, if_neg (by omega)]
    split <;> rfl
  exact ⟨e, q.2⟩
theorem gen_or {g : Nat → Nat → Bool} {y x : Nat} (hy : y < 24) (hx : x < 20) (h : g y x = true) : RowsEq 1 (genAt g y (x + 1)).length (rowsI stdH fun _ => genAt g y (x + 1)) (genAt g y x).length (put1 y [AV.lit (.int .i64 (IntKind.i64.wrap ↑(BitVec.ofInt IntKind.i64.bits ((genAt g y x).getD y 0) ||| BitVec.ofInt IntKind.i64.bits (IntKind.i64.wrap (1 * 2 ^ min x IntKind.i64.bits))).toNat))] (rowsI stdH fun _ => genAt g y x)) := by
  have e : IntKind.i64.wrap ((BitVec.ofInt IntKind.i64.bits ((genAt g y x).getD y 0) ||| BitVec.ofInt IntKind.i64.bits (IntKind.i64.wrap (1 * 2 ^ min x IntKind.i64.bits))).toNat : Nat) = ((rwG (g y) x ||| (1 * 2 ^ x) : Nat) : Int) := by
    rw [genAt_get hy, if_neg (by omega), if_pos rfl]
    have h2 := shlI (n := 1) (x := x) (by omega) (by decide)
    rw [Int.toNat_natCast] at h2
    have h3 : IntKind.i64.wrap (1 * 2 ^ min x IntKind.i64.bits) = ((1 * 2 ^ x : Nat) : Int) := h2
    rw [h3]
    exact orI (rwG_62 (by omega)) (by rw [Nat.one_mul]; exact Nat.pow_lt_pow_right (by decide) (by omega))
  rw [e]
  exact RowsEq.putD okI (genAt_yes hy h)
theorem c_InShield (x : Int) (y : Int)  : ConN Try.prog 31 [.lit (.int .i64 x), .lit (.int .i64 y)] [] 0 (.lit (.bool (stdH Bool fun _ => shI x y))) [] [] := by
  have hB : Base Try.prog (tabΓ [e_inside]) tab := base_of tabOk (ents_cons eok_inside <| ents_nil)
  refine con_m (N := 35) hB (draw_ok hB mixed) Try.func31 rfl rfl (fun H => [.lit (.int .i64 x), .lit (.int .i64 y)]) (fun _ => []) 0 (fun H => .lit (.bool (H Bool fun _ => shI x y))) (fun H => []) (fun _ => []) 100 (by simp) (fun x hx => ?_) (by simp [lk]) (by omega) (by simp) ?_
  · simp only [List.mem_cons, List.not_mem_nil, or_false] at hx
    rcases hx with rfl | rfl
    · exact .lit
    · exact .lit
  intro X hX hX0 H hH
  conv in Fin.chk _ _ => cbv
  try simp only [Plain_rowsA, Plain_rowsB, Plain_rowsF, Plain_rowsG, Plain_rowsI, Plain_rowsS, Plain_rowsU, Fin.satC_ret, Fin.satC_br, Fin.satC_need, Fin.satC_again, AllP, and_true, true_and, upd, List.length_nil, List.length_cons, Nat.zero_add, if_true, ncast, Int.ofNat_eq_natCast]
  subst hH
  simp only [stdH]
  exact shI_eq x y
noncomputable def e_InShield : Entry := pureE 31 fun H a => match a with
  | [.lit (.int .i64 x), .lit (.int .i64 y)] => some (.lit (.bool (H Bool fun _ => shI x y)), [])
  | _ => none
theorem eok_InShield : EntryOk Try.prog e_InShield := pureM_ok (by unfold isBody; kernel_rfl) (by
  intro a r ob e hob
  split at e
  · rename_i x y
    simp only [Option.some.injEq, Prod.mk.injEq] at e
    obtain ⟨rfl, rfl⟩ := e
    exact ConN.args (.cons .rfl (.cons .rfl .nil)) (c_InShield x y )
  · simp at e)
theorem c_shTrue (x : Int) (y : Int)  : ConN Try.prog 74 [.lit (.int .i64 x), .lit (.int .i64 y)] [] 0 (.lit (.bool (stdH Bool fun _ => true))) [] [] := by
  have hB : Base Try.prog (tabΓ []) tab := base_of tabOk (ents_nil)
  refine con_m (N := 5) hB (draw_ok hB mixed) Try.func74 rfl rfl (fun H => [.lit (.int .i64 x), .lit (.int .i64 y)]) (fun _ => []) 0 (fun H => .lit (.bool (H Bool fun _ => true))) (fun H => []) (fun _ => []) 60 (by simp) (fun x hx => ?_) (by simp [lk]) (by omega) (by simp) ?_
  · simp only [List.mem_cons, List.not_mem_nil, or_false] at hx
    rcases hx with rfl | rfl
    · exact .lit
    · exact .lit
  intro X hX hX0 H hH
  conv in Fin.chk _ _ => cbv
  try simp only [Plain_rowsA, Plain_rowsB, Plain_rowsF, Plain_rowsG, Plain_rowsI, Plain_rowsS, Plain_rowsU, Fin.satC_ret, Fin.satC_br, Fin.satC_need, Fin.satC_again, AllP, and_true, true_and, upd, List.length_nil, List.length_cons, Nat.zero_add, if_true, ncast, Int.ofNat_eq_natCast]
  subst hH
  simp only [stdH]
noncomputable def e_shTrue : Entry := pureE 74 fun H a => match a with
  | [.lit (.int .i64 x), .lit (.int .i64 y)] => some (.lit (.bool (H Bool fun _ => true)), [])
  | _ => none
theorem eok_shTrue : EntryOk Try.prog e_shTrue := pureM_ok (by unfold isBody; kernel_rfl) (by
  intro a r ob e hob
  split at e
  · rename_i x y
    simp only [Option.some.injEq, Prod.mk.injEq] at e
    obtain ⟨rfl, rfl⟩ := e
    exact ConN.args (.cons .rfl (.cons .rfl .nil)) (c_shTrue x y )
  · simp at e)
theorem c_regOf   : ConN Try.prog 60 [.lit (.func (.func 74) #[] #[])] [] 0 (.agg [.slc 0 0 1 (stdH Nat fun _ => (genR shN).length)]) [.rows 1 (stdH Nat fun _ => (genR shN).length) (rowsI stdH fun _ => genR shN) 3] [] := by
  have hB : Base Try.prog (tabΓ [e_InShield, e_shTrue]) tabO := base_of tabOkO (ents_cons eok_InShield <| ents_cons eok_shTrue <| ents_nil)
  refine con_m (N := 35) hB (draw_ok hB mixed) Try.func60 rfl rfl (fun H => [.lit (.func (.func 74) #[] #[])]) (fun _ => []) 0 (fun H => .agg [.slc 0 0 1 (H Nat fun _ => (genR shN).length)]) (fun H => [.rows 1 (H Nat fun _ => (genR shN).length) (rowsI H fun _ => genR shN) 3]) (fun _ => []) 600 (by simp) (fun x hx => ?_) (by simp [lk]) (by omega) (by simp) ?_
  · simp only [List.mem_cons, List.not_mem_nil, or_false] at hx
    rcases hx with rfl
    · exact .lit
  intro X hX hX0 H hH
  conv in Fin.chk _ _ => cbv
  try simp only [Plain_rowsA, Plain_rowsB, Plain_rowsF, Plain_rowsG, Plain_rowsI, Plain_rowsS, Plain_rowsU, Fin.satC_ret, Fin.satC_br, Fin.satC_need, Fin.satC_again, AllP, and_true, true_and, upd, List.length_nil, List.length_cons, Nat.zero_add, if_true, ncast, Int.ofNat_eq_natCast]
  refine ⟨?_, ?_⟩
  · simp only [hH, stdH]
    (repeat' (first | omega | refine And.intro ?_ ?_))
  refine loop_c hB (draw_ok hB mixed) hX hX0 hH [0, 2, 3, 8] (ι := { y : Nat // y ≤ 24 }) 600 (fun y => [.i (H Int fun _ => (y.1 : Nat)), .r (H Nat fun _ => (genAt shN y.1 0).length) (rowsI H fun _ => genAt shN y.1 0)]) (fun y => 24 - y.1) (⟨0, by omega⟩) ?_ ?_
  · (conv in matchSt _ _ _ _ => cbv); simp only [AllG, AllP, and_true, hH, stdH, Nat.le_refl, ncast, Int.ofNat_eq_natCast, vrow_I, Arm.eta2, Fld.eta, Grp.eta]
    exact ⟨gen_zero _, genAt_len _ _ _, rfl⟩
  · intro I hI y
    conv in Fin.chk _ _ => cbv
    try simp only [Plain_rowsA, Plain_rowsB, Plain_rowsF, Plain_rowsG, Plain_rowsI, Plain_rowsS, Plain_rowsU, Fin.satC_ret, Fin.satC_br, Fin.satC_need, Fin.satC_again, AllP, and_true, true_and, upd, List.length_nil, List.length_cons, Nat.zero_add, if_true, ncast, Int.ofNat_eq_natCast]
    obtain ⟨y, hy⟩ := y
    refine ⟨fun h1 => ?_, fun h1 => ?_⟩
    · have hy2 := h1
      simp only [hH, stdH, decide_eq_true_eq] at hy2
      refine loop_c hB (draw_ok hB mixed) hX hX0 hH [0, 2, 3, 4, 8, 11] (ι := { x : Nat // x ≤ 20 }) 600 (fun x => [.i (H Int fun _ => (x.1 : Nat)), .r (H Nat fun _ => (genAt shN y x.1).length) (rowsI H fun _ => genAt shN y x.1)]) (fun x => 20 - x.1) (⟨0, by omega⟩) ?_ ?_
      · (conv in matchSt _ _ _ _ => cbv); simp only [AllG, AllP, and_true, hH, stdH, Nat.le_refl, ncast, Int.ofNat_eq_natCast, vrow_I, Arm.eta2, Fld.eta, Grp.eta]
        (repeat' (with_reducible refine And.intro ?_ ?_)) <;> (first | exact True.intro | exact RowsEq.self okI | exact Eq.refl _)
      · intro J hJ x
        conv in Fin.chk _ _ => cbv
        try simp only [Plain_rowsA, Plain_rowsB, Plain_rowsF, Plain_rowsG, Plain_rowsI, Plain_rowsS, Plain_rowsU, Fin.satC_ret, Fin.satC_br, Fin.satC_need, Fin.satC_again, AllP, and_true, true_and, upd, List.length_nil, List.length_cons, Nat.zero_add, if_true, ncast, Int.ofNat_eq_natCast]
        obtain ⟨x, hx⟩ := x
        have gl := genAt_len shN y x
        refine ⟨fun h2 => ⟨fun h3 => ⟨?_, ?_, ?_, ?_, ?_, ?_⟩, fun h3 => ?_⟩, fun h2 => ?_⟩
        · try simp only [hH, stdH, Nat.le_refl, decide_eq_true_eq, decide_eq_false_iff_not, Bool.not_eq_true', Bool.not_eq_false', peta, ncast, Int.ofNat_eq_natCast, beq_iff_eq, bne_iff_ne, beq_eq_false_iff_ne, bne_eq_false_iff_eq, ne_eq, Classical.not_not, Int.toNat_natCast, vrow_I, Arm.eta2, Fld.eta, Grp.eta]
          omega
        · try simp only [hH, stdH, Nat.le_refl, decide_eq_true_eq, decide_eq_false_iff_not, Bool.not_eq_true', Bool.not_eq_false', peta, ncast, Int.ofNat_eq_natCast, beq_iff_eq, bne_iff_ne, beq_eq_false_iff_ne, bne_eq_false_iff_eq, ne_eq, Classical.not_not, Int.toNat_natCast, vrow_I, Arm.eta2, Fld.eta, Grp.eta]
          exact ⟨by omega, rfl⟩
        · try simp only [hH, stdH, Nat.le_refl, decide_eq_true_eq, decide_eq_false_iff_not, Bool.not_eq_true', Bool.not_eq_false', peta, ncast, Int.ofNat_eq_natCast, beq_iff_eq, bne_iff_ne, beq_eq_false_iff_ne, bne_eq_false_iff_eq, ne_eq, Classical.not_not, Int.toNat_natCast, vrow_I, Arm.eta2, Fld.eta, Grp.eta]
          omega
        · try simp only [hH, stdH, Nat.le_refl, decide_eq_true_eq, decide_eq_false_iff_not, Bool.not_eq_true', Bool.not_eq_false', peta, ncast, Int.ofNat_eq_natCast, beq_iff_eq, bne_iff_ne, beq_eq_false_iff_ne, bne_eq_false_iff_eq, ne_eq, Classical.not_not, Int.toNat_natCast, vrow_I, Arm.eta2, Fld.eta, Grp.eta]
          omega
        · try simp only [hH, stdH, Nat.le_refl, decide_eq_true_eq, decide_eq_false_iff_not, Bool.not_eq_true', Bool.not_eq_false', peta, ncast, Int.ofNat_eq_natCast, beq_iff_eq, bne_iff_ne, beq_eq_false_iff_ne, bne_eq_false_iff_eq, ne_eq, Classical.not_not, Int.toNat_natCast, vrow_I, Arm.eta2, Fld.eta, Grp.eta]
          exact ⟨by omega, rfl⟩
        · simp only [hH, stdH, decide_eq_true_eq] at h2 h3
          refine ⟨⟨x + 1, by omega⟩, by simp only; omega, ?_⟩
          rw [hJ]
          (conv in matchSt _ _ _ _ => cbv); simp only [AllG, AllP, and_true, hH, stdH, Nat.le_refl, ncast, Int.ofNat_eq_natCast, vrow_I, Arm.eta2, Fld.eta, Grp.eta]
          simp only [Int.toNat_natCast]
          have h4 : shN y x = true := by
            rw [← shI_N y x (by omega) (by omega)]
            cases h5 : shI (x : Int) (y : Int)
            · rw [h5] at h3; cases h3
            · rfl
          exact ⟨gen_or (by omega) (by omega) h4, by rw [genAt_len, genAt_len], (w1 (by omega)).symm⟩
        · simp only [hH, stdH, decide_eq_true_eq] at h2 h3
          refine ⟨⟨x + 1, by omega⟩, by simp only; omega, ?_⟩
          rw [hJ]
          (conv in matchSt _ _ _ _ => cbv); simp only [AllG, AllP, and_true, hH, stdH, Nat.le_refl, ncast, Int.ofNat_eq_natCast, vrow_I, Arm.eta2, Fld.eta, Grp.eta]
          have h4 : shN y x = false := by
            rw [← shI_N y x (by omega) (by omega)]
            cases h5 : shI (x : Int) (y : Int)
            · rfl
            · rw [h5] at h3; cases h3
          rw [genAt_no h4]
          exact ⟨RowsEq.self okI, rfl, (w1 (by omega)).symm⟩
        · simp only [hH, stdH, decide_eq_false_iff_not] at h2
          rw [if_neg (by decide)]
          refine ⟨⟨y + 1, by omega⟩, by simp only; omega, ?_⟩
          rw [hI]
          (conv in matchSt _ _ _ _ => cbv); simp only [AllG, AllP, and_true, hH, stdH, Nat.le_refl, ncast, Int.ofNat_eq_natCast, vrow_I, Arm.eta2, Fld.eta, Grp.eta]
          obtain rfl : x = 20 := by omega
          rw [genAt_row]
          exact ⟨RowsEq.self okI, rfl, (w1 (by omega)).symm⟩
    · simp only [hH, stdH, decide_eq_false_iff_not] at h1 ⊢
      obtain rfl : y = 24 := by omega
      rw [genAt_all]
      exact ⟨RowsEq.self okI, rfl⟩
noncomputable def e_regOf : Entry := pureN 60 fun H a => match a with
  | [.lit (.func (.func 74) ⟨[]⟩ ⟨[]⟩)] => some (fun nx => .agg [.slc nx 0 1 (H Nat fun _ => (genR shN).length)], [.rows 1 (H Nat fun _ => (genR shN).length) (rowsI H fun _ => genR shN) 3], [])
  | _ => none
theorem eok_regOf : EntryOk Try.prog e_regOf := pureN_ok (by unfold isBody; kernel_rfl) (by
  intro a r nb ob e hob
  split at e
  · simp only [Option.some.injEq, Prod.mk.injEq] at e
    obtain ⟨rfl, rfl, rfl⟩ := e
    refine ⟨ConN.args (.cons .rfl .nil) (c_regOf  ), fun x hx => ?_, fun nx => ?_, fun b hb => ?_⟩
    · simp only [List.mem_cons, List.not_mem_nil, or_false] at hx
      rcases hx with rfl
      · exact .lit
    · (first | exact .slc ⟨by omega, by simp⟩ (by omega) | (refine .tup rfl (fun c x y hx hy => ?_); rcases c with _ | _ | _ | c <;> simp at hx hy <;> (subst hx; subst hy; first | exact .slc ⟨by omega, by simp⟩ (by omega) | exact .pl .lit | exact .pl (blq_ok 4 rfl) | (refine .agg rfl (fun c x y hx hy => ?_); rcases c with _ | _ | _ | c <;> simp at hx hy <;> (subst hx; subst hy; first | exact .slc ⟨by omega, by simp⟩ (by omega) | exact .pl .lit | exact .pl (blq_ok 4 rfl))))) | (refine .agg rfl (fun c x y hx hy => ?_); rcases c with _ | _ | _ | c <;> simp at hx hy <;> (subst hx; subst hy; first | exact .slc ⟨by omega, by simp⟩ (by omega) | exact .pl .lit | exact .pl (blq_ok 4 rfl))))
    · simp only [List.mem_cons, List.not_mem_nil, or_false] at hb; subst hb; exact bT_bl okI _ (fun _ => genR shN) _
  · simp at e)
theorem c_ShieldReg   : ConN Try.prog 48 [] [] 0 (.agg [.slc 0 0 1 (stdH Nat fun _ => (genR shN).length)]) [.rows 1 (stdH Nat fun _ => (genR shN).length) (rowsI stdH fun _ => genR shN) 3] [] := by
  have hB : Base Try.prog (tabΓ [e_regOf]) tabO := base_of tabOkO (ents_cons eok_regOf <| ents_nil)
  refine con_m (N := 2) hB (draw_ok hB mixed) Try.func48 rfl rfl (fun H => []) (fun _ => []) 0 (fun H => .agg [.slc 0 0 1 (H Nat fun _ => (genR shN).length)]) (fun H => [.rows 1 (H Nat fun _ => (genR shN).length) (rowsI H fun _ => genR shN) 3]) (fun _ => []) 100 (by simp) (fun x hx => ?_) (by simp [lk]) (by omega) (by simp) ?_
  · cases hx
  intro X hX hX0 H hH
  conv in Fin.chk _ _ => cbv
  try simp only [Plain_rowsA, Plain_rowsB, Plain_rowsF, Plain_rowsG, Plain_rowsI, Plain_rowsS, Plain_rowsU, Fin.satC_ret, Fin.satC_br, Fin.satC_need, Fin.satC_again, AllP, and_true, true_and, upd, List.length_nil, List.length_cons, Nat.zero_add, if_true, ncast, Int.ofNat_eq_natCast]
  subst hH
  simp only [stdH]
  (repeat' (first | exact trivial | rfl | exact RowsEq.self okI | refine And.intro ?_ ?_))
noncomputable def e_ShieldReg : Entry := pureN 48 fun H a => match a with
  | [] => some (fun nx => .agg [.slc nx 0 1 (H Nat fun _ => (genR shN).length)], [.rows 1 (H Nat fun _ => (genR shN).length) (rowsI H fun _ => genR shN) 3], [])
  | _ => none
theorem eok_ShieldReg : EntryOk Try.prog e_ShieldReg := pureN_ok (by unfold isBody; kernel_rfl) (by
  intro a r nb ob e hob
  split at e
  · simp only [Option.some.injEq, Prod.mk.injEq] at e
    obtain ⟨rfl, rfl, rfl⟩ := e
    refine ⟨ConN.args .nil (c_ShieldReg  ), fun x hx => ?_, fun nx => ?_, fun b hb => ?_⟩
    · cases hx
    · (first | exact .slc ⟨by omega, by simp⟩ (by omega) | (refine .tup rfl (fun c x y hx hy => ?_); rcases c with _ | _ | _ | c <;> simp at hx hy <;> (subst hx; subst hy; first | exact .slc ⟨by omega, by simp⟩ (by omega) | exact .pl .lit | exact .pl (blq_ok 4 rfl) | (refine .agg rfl (fun c x y hx hy => ?_); rcases c with _ | _ | _ | c <;> simp at hx hy <;> (subst hx; subst hy; first | exact .slc ⟨by omega, by simp⟩ (by omega) | exact .pl .lit | exact .pl (blq_ok 4 rfl))))) | (refine .agg rfl (fun c x y hx hy => ?_); rcases c with _ | _ | _ | c <;> simp at hx hy <;> (subst hx; subst hy; first | exact .slc ⟨by omega, by simp⟩ (by omega) | exact .pl .lit | exact .pl (blq_ok 4 rfl))))
    · simp only [List.mem_cons, List.not_mem_nil, or_false] at hb; subst hb; exact bT_bl okI _ (fun _ => genR shN) _
  · simp at e)

end Go.Proofs.Ytpilblmncpeelaa.AM

