import Derived.Test.YtocekpklffdjgaaAmT
import Derived.Test.YtocekpklffdjgaaKin
import Derived.Test.YtocekpklffdjgaaLst
import Derived.Test.YtocekpklffdjgaaDif
import Derived.Test.YtocekpklffdjgaaDrA
set_option linter.unusedVariables false
set_option linter.unusedSimpArgs false
set_option maxRecDepth 100000
set_option maxHeartbeats 4000000
set_option cbv.maxSteps 3000000
namespace Go.Proofs.Ytocekpklffdjgaa.AM
/- The kinds of differences, told by both; conditions: none. -/
def kdsI (a x : Arm) : List Int := nt (!eqG a.r x.r) 6 (nt (!eqG a.n x.n) 5 (nt (decide (a.o = x.o) && !decide (a.t = x.t)) 4 (nt (decide (a.o = x.o) && !decide (a.l = x.l)) 3 (nt (!decide (a.o = x.o)) 2 (nt (!eqF a.f x.f) 1 [])))))
theorem nt_len (b : Bool) (k : Int) (l : List Int) : (nt b k l).length ≤ l.length + 1 := by cases b <;> simp [nt]
theorem lst_vrow' (l : List Int) : lst l.length (vrow (lget l)) = l := lst_vrow l
theorem ints_vrow' (g : Nat → Int) : ints (vrow g) = g := rfl
theorem allGE (a b : Grp) : allT [fun _ => a.c == b.c, fun _ => a.k == b.k, fun _ => a.a == b.a, fun _ => a.t == b.t] = eqG a b := rfl
theorem allFE (a b : Fld) : allT [fun _ => a.d == b.d, fun _ => a.l == b.l, fun _ => a.p == b.p, fun _ => a.q == b.q] = eqF a b := rfl
theorem c_DifferenceKinds (a : Arm) (x : Arm)  : ConN Try.prog 32 [aT rowA stdH fun _ => a, aT rowA stdH fun _ => x] [] 0 (.tup [.vec 1 (stdH Nat fun _ => (if okA a && okA x then kdsI a x else []).length) (rowsI stdH fun _ => if okA a && okA x then kdsI a x else []), .lit (.bool (stdH Bool fun _ => okA a && okA x))]) [] [] := by
  have hB : Base Try.prog (tabΓ [e_IsValidArms, e_note]) tabO := base_of tabOkO (ents_cons eok_IsValidArms <| ents_cons eok_note <| ents_nil)
  refine con_m (N := 70) hB (draw_ok hB mixed) Try.func32 rfl rfl (fun H => [aT rowA H fun _ => a, aT rowA H fun _ => x]) (fun _ => []) 0 (fun H => .tup [.vec 1 (H Nat fun _ => (if okA a && okA x then kdsI a x else []).length) (rowsI H fun _ => if okA a && okA x then kdsI a x else []), .lit (.bool (H Bool fun _ => okA a && okA x))]) (fun H => []) (fun _ => []) 300 (by simp) (fun x hx => ?_) (by simp [lk]) (by omega) (by simp) ?_
  · simp only [List.mem_cons, List.not_mem_nil, or_false] at hx
    rcases hx with rfl | rfl
    · exact aT_bl okRA _ _
    · exact aT_bl okRA _ _
  intro X hX hX0 H hH
  conv in Fin.chk _ _ => cbv
  try simp only [Fin.satC_ret, Fin.satC_br, Fin.satC_need, Fin.satC_again, AllP, and_true, true_and, upd, List.length_nil, List.length_cons, Nat.zero_add, if_true, ncast, Int.ofNat_eq_natCast]
  subst hH
  simp only [stdH, Arm.eta, lst_vrow', ints_vrow', allGE, allFE, forall_const, implies_true, and_true, Nat.zero_le, Nat.not_lt_zero, false_implies, show lst 0 (rowsOf 1 []) = [] from rfl, true_and]
  refine ⟨fun h => ?_, fun h => ?_⟩
  · have e : (okA a && okA x) = false := by
      generalize okA a = b1 at *
      cases b1 <;> simp_all
    rw [e]
    exact ⟨rfl, rfl⟩
  · have e : (okA a && okA x) = true := by
      generalize okA a = b1 at *
      cases b1 <;> simp_all
    simp only [e, if_true, true_and]
    have e2 : ∀ p q : Bool, (bif p then q else false) = (p && q) := fun p q => by cases p <;> rfl
    simp only [e2, bned, beqd]
    have h0 : ([] : List Int).length = 0 := rfl
    have h1 := nt_len (!eqF a.f x.f) 1 []
    have h2 := nt_len (!decide (a.o = x.o)) 2 (nt (!eqF a.f x.f) 1 [])
    have h3 := nt_len (decide (a.o = x.o) && !decide (a.l = x.l)) 3 (nt (!decide (a.o = x.o)) 2 (nt (!eqF a.f x.f) 1 []))
    have h4 := nt_len (decide (a.o = x.o) && !decide (a.t = x.t)) 4 (nt (decide (a.o = x.o) && !decide (a.l = x.l)) 3 (nt (!decide (a.o = x.o)) 2 (nt (!eqF a.f x.f) 1 [])))
    have h5 := nt_len (!eqG a.n x.n) 5 (nt (decide (a.o = x.o) && !decide (a.t = x.t)) 4 (nt (decide (a.o = x.o) && !decide (a.l = x.l)) 3 (nt (!decide (a.o = x.o)) 2 (nt (!eqF a.f x.f) 1 []))))
    exact ⟨by omega, by omega, by omega, by omega, by omega, .self okI⟩
noncomputable def e_DifferenceKinds : Entry := pureE 32 fun H a => match a with
  | [.agg [.lit (.int .i64 a0), .lit (.int .i64 a1), .lit (.int .i64 a2), .lit (.int .i64 a3), .lit (.int .i64 a4), .lit (.int .i64 a5), .lit (.int .i64 a6), .lit (.int .i64 a7), .lit (.int .i64 a8), .lit (.int .i64 a9), .lit (.int .i64 a10), .lit (.int .i64 a11), .lit (.int .i64 a12), .lit (.int .i64 a13), .lit (.int .i64 a14)], .agg [.lit (.int .i64 x0), .lit (.int .i64 x1), .lit (.int .i64 x2), .lit (.int .i64 x3), .lit (.int .i64 x4), .lit (.int .i64 x5), .lit (.int .i64 x6), .lit (.int .i64 x7), .lit (.int .i64 x8), .lit (.int .i64 x9), .lit (.int .i64 x10), .lit (.int .i64 x11), .lit (.int .i64 x12), .lit (.int .i64 x13), .lit (.int .i64 x14)]] => some (.tup [.vec 1 (H Nat fun _ => (if okA (⟨⟨a0, a1, a2, a3⟩, a4, a5, a6, ⟨a7, a8, a9, a10⟩, ⟨a11, a12, a13, a14⟩⟩ : Arm) && okA (⟨⟨x0, x1, x2, x3⟩, x4, x5, x6, ⟨x7, x8, x9, x10⟩, ⟨x11, x12, x13, x14⟩⟩ : Arm) then kdsI (⟨⟨a0, a1, a2, a3⟩, a4, a5, a6, ⟨a7, a8, a9, a10⟩, ⟨a11, a12, a13, a14⟩⟩ : Arm) (⟨⟨x0, x1, x2, x3⟩, x4, x5, x6, ⟨x7, x8, x9, x10⟩, ⟨x11, x12, x13, x14⟩⟩ : Arm) else []).length) (rowsI H fun _ => if okA (⟨⟨a0, a1, a2, a3⟩, a4, a5, a6, ⟨a7, a8, a9, a10⟩, ⟨a11, a12, a13, a14⟩⟩ : Arm) && okA (⟨⟨x0, x1, x2, x3⟩, x4, x5, x6, ⟨x7, x8, x9, x10⟩, ⟨x11, x12, x13, x14⟩⟩ : Arm) then kdsI (⟨⟨a0, a1, a2, a3⟩, a4, a5, a6, ⟨a7, a8, a9, a10⟩, ⟨a11, a12, a13, a14⟩⟩ : Arm) (⟨⟨x0, x1, x2, x3⟩, x4, x5, x6, ⟨x7, x8, x9, x10⟩, ⟨x11, x12, x13, x14⟩⟩ : Arm) else []), .lit (.bool (H Bool fun _ => okA (⟨⟨a0, a1, a2, a3⟩, a4, a5, a6, ⟨a7, a8, a9, a10⟩, ⟨a11, a12, a13, a14⟩⟩ : Arm) && okA (⟨⟨x0, x1, x2, x3⟩, x4, x5, x6, ⟨x7, x8, x9, x10⟩, ⟨x11, x12, x13, x14⟩⟩ : Arm)))], [])
  | _ => none
theorem eok_DifferenceKinds : EntryOk Try.prog e_DifferenceKinds := pureM_ok (by unfold isBody; kernel_rfl) (by
  intro a r ob e hob
  split at e
  · rename_i a0 a1 a2 a3 a4 a5 a6 a7 a8 a9 a10 a11 a12 a13 a14 x0 x1 x2 x3 x4 x5 x6 x7 x8 x9 x10 x11 x12 x13 x14
    simp only [Option.some.injEq, Prod.mk.injEq] at e
    obtain ⟨rfl, rfl⟩ := e
    exact ConN.args (.cons .rfl (.cons .rfl .nil)) (c_DifferenceKinds (⟨⟨a0, a1, a2, a3⟩, a4, a5, a6, ⟨a7, a8, a9, a10⟩, ⟨a11, a12, a13, a14⟩⟩ : Arm) (⟨⟨x0, x1, x2, x3⟩, x4, x5, x6, ⟨x7, x8, x9, x10⟩, ⟨x11, x12, x13, x14⟩⟩ : Arm) )
  · simp at e)
theorem notG (b : Bool) : (!b) = true ↔ b = false := by cases b <;> simp
theorem c_DifferenceKindsS (a : Arm) (x : Arm)  : ConN Try.prog 33 [aT rowA stdH fun _ => a, aT rowA stdH fun _ => x] [] 0 (.tup [.vec 1 (stdH Nat fun _ => (if okA a && okA x then kdsI a x else []).length) (rowsI stdH fun _ => if okA a && okA x then kdsI a x else []), .lit (.bool (stdH Bool fun _ => okA a && okA x))]) [] [] := by
  have hB : Base Try.prog (tabΓ [e_l5Good]) tabO := base_of tabOkO (ents_cons eok_l5Good <| ents_nil)
  refine con_m (N := 66) hB (draw_ok hB mixed) Try.func33 rfl rfl (fun H => [aT rowA H fun _ => a, aT rowA H fun _ => x]) (fun _ => []) 0 (fun H => .tup [.vec 1 (H Nat fun _ => (if okA a && okA x then kdsI a x else []).length) (rowsI H fun _ => if okA a && okA x then kdsI a x else []), .lit (.bool (H Bool fun _ => okA a && okA x))]) (fun H => []) (fun _ => []) 300 (by simp) (fun x hx => ?_) (by simp [lk]) (by omega) (by simp) ?_
  · simp only [List.mem_cons, List.not_mem_nil, or_false] at hx
    rcases hx with rfl | rfl
    · exact aT_bl okRA _ _
    · exact aT_bl okRA _ _
  intro X hX hX0 H hH
  conv in Fin.chk _ _ => cbv
  try simp only [Fin.satC_ret, Fin.satC_br, Fin.satC_need, Fin.satC_again, AllP, and_true, true_and, upd, List.length_nil, List.length_cons, Nat.zero_add, if_true, ncast, Int.ofNat_eq_natCast]
  subst hH
  simp only [stdH, Arm.eta, allGE, allFE, bned]
  refine ⟨fun h => ?_, fun h => ?_⟩
  · have e : (okA a && okA x) = false := by
      generalize okA a = b1 at *
      cases b1 <;> simp_all
    rw [e]
    exact ⟨rfl, .ofT okI rfl (Shp_zero _) rfl⟩
  · have e : (okA a && okA x) = true := by
      generalize okA a = b1 at *
      cases b1 <;> simp_all
    clear h
    simp only [e, if_true, true_and]
    repeat' (first | refine And.intro ?_ ?_ | intro _)
    all_goals first | omega | skip
    all_goals (refine RowsEq.ofT okI rfl (by repeat' first | exact Shp_zero _ | exact Shp_one rfl | apply Shp_app) ?_; (repeat rw [Tl_app]); simp only [Tl_one, Tl_zero, kdsI]; simp_all [nt]; try rfl)
noncomputable def e_DifferenceKindsS : Entry := pureE 33 fun H a => match a with
  | [.agg [.lit (.int .i64 a0), .lit (.int .i64 a1), .lit (.int .i64 a2), .lit (.int .i64 a3), .lit (.int .i64 a4), .lit (.int .i64 a5), .lit (.int .i64 a6), .lit (.int .i64 a7), .lit (.int .i64 a8), .lit (.int .i64 a9), .lit (.int .i64 a10), .lit (.int .i64 a11), .lit (.int .i64 a12), .lit (.int .i64 a13), .lit (.int .i64 a14)], .agg [.lit (.int .i64 x0), .lit (.int .i64 x1), .lit (.int .i64 x2), .lit (.int .i64 x3), .lit (.int .i64 x4), .lit (.int .i64 x5), .lit (.int .i64 x6), .lit (.int .i64 x7), .lit (.int .i64 x8), .lit (.int .i64 x9), .lit (.int .i64 x10), .lit (.int .i64 x11), .lit (.int .i64 x12), .lit (.int .i64 x13), .lit (.int .i64 x14)]] => some (.tup [.vec 1 (H Nat fun _ => (if okA (⟨⟨a0, a1, a2, a3⟩, a4, a5, a6, ⟨a7, a8, a9, a10⟩, ⟨a11, a12, a13, a14⟩⟩ : Arm) && okA (⟨⟨x0, x1, x2, x3⟩, x4, x5, x6, ⟨x7, x8, x9, x10⟩, ⟨x11, x12, x13, x14⟩⟩ : Arm) then kdsI (⟨⟨a0, a1, a2, a3⟩, a4, a5, a6, ⟨a7, a8, a9, a10⟩, ⟨a11, a12, a13, a14⟩⟩ : Arm) (⟨⟨x0, x1, x2, x3⟩, x4, x5, x6, ⟨x7, x8, x9, x10⟩, ⟨x11, x12, x13, x14⟩⟩ : Arm) else []).length) (rowsI H fun _ => if okA (⟨⟨a0, a1, a2, a3⟩, a4, a5, a6, ⟨a7, a8, a9, a10⟩, ⟨a11, a12, a13, a14⟩⟩ : Arm) && okA (⟨⟨x0, x1, x2, x3⟩, x4, x5, x6, ⟨x7, x8, x9, x10⟩, ⟨x11, x12, x13, x14⟩⟩ : Arm) then kdsI (⟨⟨a0, a1, a2, a3⟩, a4, a5, a6, ⟨a7, a8, a9, a10⟩, ⟨a11, a12, a13, a14⟩⟩ : Arm) (⟨⟨x0, x1, x2, x3⟩, x4, x5, x6, ⟨x7, x8, x9, x10⟩, ⟨x11, x12, x13, x14⟩⟩ : Arm) else []), .lit (.bool (H Bool fun _ => okA (⟨⟨a0, a1, a2, a3⟩, a4, a5, a6, ⟨a7, a8, a9, a10⟩, ⟨a11, a12, a13, a14⟩⟩ : Arm) && okA (⟨⟨x0, x1, x2, x3⟩, x4, x5, x6, ⟨x7, x8, x9, x10⟩, ⟨x11, x12, x13, x14⟩⟩ : Arm)))], [])
  | _ => none
theorem eok_DifferenceKindsS : EntryOk Try.prog e_DifferenceKindsS := pureM_ok (by unfold isBody; kernel_rfl) (by
  intro a r ob e hob
  split at e
  · rename_i a0 a1 a2 a3 a4 a5 a6 a7 a8 a9 a10 a11 a12 a13 a14 x0 x1 x2 x3 x4 x5 x6 x7 x8 x9 x10 x11 x12 x13 x14
    simp only [Option.some.injEq, Prod.mk.injEq] at e
    obtain ⟨rfl, rfl⟩ := e
    exact ConN.args (.cons .rfl (.cons .rfl .nil)) (c_DifferenceKindsS (⟨⟨a0, a1, a2, a3⟩, a4, a5, a6, ⟨a7, a8, a9, a10⟩, ⟨a11, a12, a13, a14⟩⟩ : Arm) (⟨⟨x0, x1, x2, x3⟩, x4, x5, x6, ⟨x7, x8, x9, x10⟩, ⟨x11, x12, x13, x14⟩⟩ : Arm) )
  · simp at e)

end Go.Proofs.Ytocekpklffdjgaa.AM
