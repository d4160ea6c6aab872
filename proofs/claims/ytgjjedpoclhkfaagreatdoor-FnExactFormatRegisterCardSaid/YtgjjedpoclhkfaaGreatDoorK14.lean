/- Lemmas and contracts (Dil Shd Frs); conditions: none. -/
import Derived.Test.YtgjjedpoclhkfaaGreatDoorK03
import Derived.Test.YtgjjedpoclhkfaaGreatDoorK04
import Derived.Test.YtgjjedpoclhkfaaGreatDoorK07
import Derived.Test.YtgjjedpoclhkfaaGreatDoorK08
import Derived.Test.YtgjjedpoclhkfaaGreatDoorK11
import Derived.Test.YtgjjedpoclhkfaaGreatDoorK12
import Derived.Test.YtgjjedpoclhkfaaGreatDoorK13
set_option linter.unusedVariables false
set_option linter.unusedSimpArgs false
set_option maxRecDepth 100000
set_option maxHeartbeats 4000000
set_option cbv.maxSteps 3000000
namespace Go.Proofs.YtgjjedpoclhkfaaGreatDoor.AM
/- What the numbers of differences have in common; conditions: none. -/
theorem eqG_iff {a b : Grp} : eqG a b = true ↔ a = b := by
  obtain ⟨a0, a1, a2, a3⟩ := a; obtain ⟨b0, b1, b2, b3⟩ := b
  simp [eqG, allT]
theorem noG_iff {a : Grp} : noG a = true ↔ a = ⟨0, 0, 0, 0⟩ := by
  obtain ⟨a0, a1, a2, a3⟩ := a
  simp [noG, and_assoc]
theorem gd_self (a : Grp) : gd a a = 0 := by unfold gd; rw [eqG_iff.2 rfl]; rfl
theorem gd_ls (a b : Grp) : gd a b = ls a b := by
  by_cases h : a = b
  · subst h; rw [gd_self]; unfold ls; cases noG a <;> simp [nB]
  · have e : eqG a b = false := by cases h1 : eqG a b with | false => rfl | true => exact absurd (eqG_iff.1 h1) h
    unfold gd ls
    rw [e]
    cases ha : noG a <;> cases hb : noG b
    · simp only [Bool.or_self, cond_false, bne_self_eq_false]; omega
    · rfl
    · rfl
    · exact absurd ((noG_iff.1 ha).trans (noG_iff.1 hb).symm) h
theorem okA_f {a : Arm} (h : okA a = true) : okF a.f = true := by simp only [okA, Bool.and_eq_true] at h; exact h.1.1
theorem dI_dS {a b : Arm} (ha : okA a = true) (hb : okA b = true) : dI a b = dS a b := by
  unfold dI dS dv
  rw [okA_f ha, okA_f hb, gd_ls, gd_ls]
  simp only [Bool.and_self, cond_true]; omega
end Go.Proofs.YtgjjedpoclhkfaaGreatDoor.AM

set_option linter.unusedVariables false
set_option linter.unusedSimpArgs false
set_option maxRecDepth 100000
set_option maxHeartbeats 4000000
set_option cbv.maxSteps 3000000
namespace Go.Proofs.YtgjjedpoclhkfaaGreatDoor.AM
/- Shields are drawn; conditions: none. -/
structure Shd where
  mode : Int
  parts : List Arm
deriving Inhabited
theorem Shd.eta (a : Shd) : (⟨a.mode, a.parts⟩ : Shd) = a := rfl
theorem flat_at {α : Type} {f : α → List AV} {k : Nat} (hf : ∀ x, (f x).length = k) : ∀ (L : List α) (j : Nat) (h : j < L.length), ((L.flatMap f).drop (j * k)).take k = f L[j]
  | x :: L, 0, _ => by
    simp only [List.flatMap_cons, Nat.zero_mul, List.drop_zero, List.getElem_cons_zero]
    rw [List.take_append_of_le_length (by rw [hf]; exact Nat.le_refl _), List.take_of_length_le (by rw [hf]; exact Nat.le_refl _)]
  | x :: L, j + 1, h => by
    simp only [List.flatMap_cons, List.getElem_cons_succ]
    have e : (j + 1) * k = (f x).length + j * k := by rw [hf, Nat.add_mul, Nat.one_mul, Nat.add_comm]
    rw [e, List.drop_append, List.drop_of_length_le (by omega), List.nil_append, Nat.add_sub_cancel_left]
    exact flat_at hf L j (by simpa using h)
/-- A literal's rows. -/
theorem RowsEq.lit {α : Type} {D : RowD α} (ok : RowOk D) {L : List α} {cs : List AV} {n : Nat} (hn : L.length = n) (h : cs = L.flatMap fun x => D.cells stdH fun _ => x) : RowsEq D.k L.length (rowsT D stdH fun _ => L) n (rowsOf D.k cs) := by
  subst hn
  refine ⟨rfl, fun j hj => ⟨?_, by rw [rowsT, ok.row]; exact ok.len _, rows_blx ok L j⟩⟩
  rw [rowsT, ok.row, rowsOf, h, flat_at (fun x => ok.len fun _ => x) L j hj, List.getD_eq_getElem?_getD, List.getElem?_eq_getElem hj, Option.getD_some]
theorem hetaA {H : Hold} (hH : H = stdH) (a : Arm) : (⟨⟨H Int fun _ => a.f.d, H Int fun _ => a.f.l, H Int fun _ => a.f.p, H Int fun _ => a.f.q⟩, H Int fun _ => a.o, H Int fun _ => a.l, H Int fun _ => a.t, ⟨H Int fun _ => a.n.c, H Int fun _ => a.n.k, H Int fun _ => a.n.a, H Int fun _ => a.n.t⟩, ⟨H Int fun _ => a.r.c, H Int fun _ => a.r.k, H Int fun _ => a.r.a, H Int fun _ => a.r.t⟩⟩ : Arm) = a := by subst hH; rfl
theorem Cd.rqN (c : Cd) : RowsEq 1 c.n c.rows c.n c.rows := ⟨rfl, fun j _ => ⟨rfl, rfl, fun x hx => by simp [Cd.rows] at hx; subst hx; exact .lit⟩⟩
theorem hlen {H : Hold} (hH : H = stdH) (n : Nat) : (H Int fun _ => ((H Nat fun _ => n : Nat) : Int)) = (n : Int) := by subst hH; rfl
end Go.Proofs.YtgjjedpoclhkfaaGreatDoor.AM

set_option linter.unusedVariables false
set_option linter.unusedSimpArgs false
set_option maxRecDepth 100000
set_option maxHeartbeats 4000000
set_option cbv.maxSteps 3000000
namespace Go.Proofs.YtgjjedpoclhkfaaGreatDoor.AM
/- Free tinctures: the reference's; conditions: none. -/
theorem c_l15Conflict (a : Arm) (v : Arm)  : ConN Tryz.prog 59 [aT rowA stdH fun _ => a, aT rowA stdH fun _ => v] [] 0 (.lit (.bool (stdH Bool fun _ => decide (dS a v < 2)))) [] [] := by
  have hB : Base Tryz.prog (tabΓ [e_l15Count]) tab := base_of tabOk (ents_cons eok_l15Count <| ents_nil)
  refine con_m (N := 9) hB (draw_ok hB mixed) Tryz.func59 rfl rfl (fun H => [aT rowA H fun _ => a, aT rowA H fun _ => v]) (fun _ => []) 0 (fun H => .lit (.bool (H Bool fun _ => decide (dS a v < 2)))) (fun H => []) (fun _ => []) 100 (by simp) (fun x hx => ?_) (by simp [lk]) (by omega) (by simp) ?_
  · simp only [List.mem_cons, List.not_mem_nil, or_false] at hx
    rcases hx with rfl | rfl
    · exact aT_bl okRA _ _
    · exact aT_bl okRA _ _
  intro X hX hX0 H hH
  conv in Fin.chk _ _ => cbv
  try simp only [Fin.satC_ret, Fin.satC_br, Fin.satC_need, Fin.satC_again, AllP, and_true, true_and, upd, List.length_nil, List.length_cons, Nat.zero_add, if_true, ncast, Int.ofNat_eq_natCast]
  try simp only [hH, stdH, decide_eq_true_eq, decide_eq_false_iff_not, Bool.not_eq_true', Bool.not_eq_false', peta, ncast, Int.ofNat_eq_natCast, beq_iff_eq, bne_iff_ne, beq_eq_false_iff_ne, bne_eq_false_iff_eq, ne_eq, Classical.not_not, Int.toNat_natCast, vrow_I, Arm.eta2, Fld.eta, Grp.eta]
noncomputable def e_l15Conflict : Entry := pureE 59 fun H a => match a with
  | [.agg [.lit (.int .i64 a0), .lit (.int .i64 a1), .lit (.int .i64 a2), .lit (.int .i64 a3), .lit (.int .i64 a4), .lit (.int .i64 a5), .lit (.int .i64 a6), .lit (.int .i64 a7), .lit (.int .i64 a8), .lit (.int .i64 a9), .lit (.int .i64 a10), .lit (.int .i64 a11), .lit (.int .i64 a12), .lit (.int .i64 a13), .lit (.int .i64 a14)], .agg [.lit (.int .i64 v0), .lit (.int .i64 v1), .lit (.int .i64 v2), .lit (.int .i64 v3), .lit (.int .i64 v4), .lit (.int .i64 v5), .lit (.int .i64 v6), .lit (.int .i64 v7), .lit (.int .i64 v8), .lit (.int .i64 v9), .lit (.int .i64 v10), .lit (.int .i64 v11), .lit (.int .i64 v12), .lit (.int .i64 v13), .lit (.int .i64 v14)]] => some (.lit (.bool (H Bool fun _ => decide (dS (⟨⟨a0, a1, a2, a3⟩, a4, a5, a6, ⟨a7, a8, a9, a10⟩, ⟨a11, a12, a13, a14⟩⟩ : Arm) (⟨⟨v0, v1, v2, v3⟩, v4, v5, v6, ⟨v7, v8, v9, v10⟩, ⟨v11, v12, v13, v14⟩⟩ : Arm) < 2))), [])
  | _ => none
theorem eok_l15Conflict : EntryOk Tryz.prog e_l15Conflict := pureM_ok (by unfold isBody; kernel_rfl) (by
  intro a r ob e hob
  split at e
  · rename_i a0 a1 a2 a3 a4 a5 a6 a7 a8 a9 a10 a11 a12 a13 a14 v0 v1 v2 v3 v4 v5 v6 v7 v8 v9 v10 v11 v12 v13 v14
    simp only [Option.some.injEq, Prod.mk.injEq] at e
    obtain ⟨rfl, rfl⟩ := e
    exact ConN.args (.cons .rfl (.cons .rfl .nil)) (c_l15Conflict (⟨⟨a0, a1, a2, a3⟩, a4, a5, a6, ⟨a7, a8, a9, a10⟩, ⟨a11, a12, a13, a14⟩⟩ : Arm) (⟨⟨v0, v1, v2, v3⟩, v4, v5, v6, ⟨v7, v8, v9, v10⟩, ⟨v11, v12, v13, v14⟩⟩ : Arm) )
  · simp at e)

end Go.Proofs.YtgjjedpoclhkfaaGreatDoor.AM

