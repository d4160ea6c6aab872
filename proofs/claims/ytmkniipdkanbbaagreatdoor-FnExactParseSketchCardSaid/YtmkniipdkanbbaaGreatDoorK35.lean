/- Lemmas and contracts (Sku ALParseSketch Open Up M1 Data Brg Brx LParseSketch); conditions: none. -/
import Derived.Test.YtmkniipdkanbbaaGreatDoorK04
import Derived.Test.YtmkniipdkanbbaaGreatDoorK05
import Derived.Test.YtmkniipdkanbbaaGreatDoorK08
import Derived.Test.YtmkniipdkanbbaaGreatDoorK34
import Derived.OpenShut
import Derived.WalkKit
import Derived.ProofKit
import Derived.WalkLawsBesides
import Derived.Lib.Hide
import Derived.Deep.QuietTactic
import Derived.BigQuiet
import Derived.Deep.Light
import Derived.Handy
import Derived.ChangeOld
import Derived.ShutString
import Derived.Deep.Slices
import Derived.Deep.MidRow
import Derived.Below
import Derived.Laws.CopyOwn
set_option linter.unusedVariables false
set_option linter.unusedSimpArgs false
set_option maxRecDepth 100000
set_option maxHeartbeats 4000000
set_option cbv.maxSteps 3000000
namespace Go.Proofs.YtmkniipdkanbbaaGreatDoor.AM
/- Sketches read by the program, with slots of the caller's own, and by the reference; conditions: none. -/
theorem c_parseKY (s : ByteArray) (h0 : s.size ≤ 1100000) (h1 : (pK s).isSome = true) (h2 : ((pK s).getD zK).slots ≠ []) : ConN Tryz.prog 7 [.lit (.string s)] [] 0 (.tup [.agg [.lit (.int .i64 (stdH Int fun _ => ((pK s).getD zK).arms.f.d)), .lit (.int .i64 (stdH Int fun _ => ((pK s).getD zK).arms.f.l)), .lit (.int .i64 (stdH Int fun _ => ((pK s).getD zK).arms.f.p)), .lit (.int .i64 (stdH Int fun _ => ((pK s).getD zK).arms.f.q)), .lit (.int .i64 (stdH Int fun _ => ((pK s).getD zK).arms.o)), .lit (.int .i64 (stdH Int fun _ => ((pK s).getD zK).arms.l)), .lit (.int .i64 (stdH Int fun _ => ((pK s).getD zK).arms.t)), .lit (.int .i64 (stdH Int fun _ => ((pK s).getD zK).arms.n.c)), .lit (.int .i64 (stdH Int fun _ => ((pK s).getD zK).arms.n.k)), .lit (.int .i64 (stdH Int fun _ => ((pK s).getD zK).arms.n.a)), .lit (.int .i64 (stdH Int fun _ => ((pK s).getD zK).arms.n.t)), .lit (.int .i64 (stdH Int fun _ => ((pK s).getD zK).arms.r.c)), .lit (.int .i64 (stdH Int fun _ => ((pK s).getD zK).arms.r.k)), .lit (.int .i64 (stdH Int fun _ => ((pK s).getD zK).arms.r.a)), .lit (.int .i64 (stdH Int fun _ => ((pK s).getD zK).arms.r.t)), .slc 0 0 2 (stdH Nat fun _ => (((pK s).getD zK).slots).length)], .lit (.bool (stdH Bool fun _ => true))]) [.rows 2 (stdH Nat fun _ => (((pK s).getD zK).slots).length) (rowsY stdH fun _ => ((pK s).getD zK).slots) 56] [] := by
  have hB : Base Tryz.prog (tabΓ [e_taken, e_cutSl, e_joinedL, e_parseA, e_SketchTextN]) tabU := base_of tabOkU (ents_cons eok_taken <| ents_cons eok_cutSl <| ents_cons eok_joinedL <| ents_cons eok_parseA <| ents_cons eok_SketchTextN <| ents_nil)
  refine con_m (N := 66) hB (draw_ok hB mixed) Tryz.func7 rfl rfl (fun H => [.lit (.string s)]) (fun _ => []) 0 (fun H => .tup [.agg [.lit (.int .i64 (H Int fun _ => ((pK s).getD zK).arms.f.d)), .lit (.int .i64 (H Int fun _ => ((pK s).getD zK).arms.f.l)), .lit (.int .i64 (H Int fun _ => ((pK s).getD zK).arms.f.p)), .lit (.int .i64 (H Int fun _ => ((pK s).getD zK).arms.f.q)), .lit (.int .i64 (H Int fun _ => ((pK s).getD zK).arms.o)), .lit (.int .i64 (H Int fun _ => ((pK s).getD zK).arms.l)), .lit (.int .i64 (H Int fun _ => ((pK s).getD zK).arms.t)), .lit (.int .i64 (H Int fun _ => ((pK s).getD zK).arms.n.c)), .lit (.int .i64 (H Int fun _ => ((pK s).getD zK).arms.n.k)), .lit (.int .i64 (H Int fun _ => ((pK s).getD zK).arms.n.a)), .lit (.int .i64 (H Int fun _ => ((pK s).getD zK).arms.n.t)), .lit (.int .i64 (H Int fun _ => ((pK s).getD zK).arms.r.c)), .lit (.int .i64 (H Int fun _ => ((pK s).getD zK).arms.r.k)), .lit (.int .i64 (H Int fun _ => ((pK s).getD zK).arms.r.a)), .lit (.int .i64 (H Int fun _ => ((pK s).getD zK).arms.r.t)), .slc 0 0 2 (H Nat fun _ => (((pK s).getD zK).slots).length)], .lit (.bool (H Bool fun _ => true))]) (fun H => [.rows 2 (H Nat fun _ => (((pK s).getD zK).slots).length) (rowsY H fun _ => ((pK s).getD zK).slots) 56]) (fun _ => []) 900 (by simp) (fun x hx => ?_) (by simp [lk]) (by omega) (by simp) ?_
  · simp only [zqu] at hx
    rcases hx with rfl
    · exact .lit
  intro X hX hX0 H hH
  conv in Fin.chk _ _ => cbv
  try simp only [zqs, Plain_rowsC, Plain_rowsY, zqx, AllP, zqw, upd, if_true]
  subst hH
  have em : ∀ t : ByteArray, (t.toList == (⟨⟨[]⟩⟩ : ByteArray).toList) = emp t := fun _ => rfl
  simp only [stdH, Arm.eta2, Fld.eta, Grp.eta, Slo.eta, em, condK2]
  have hP := pK_cand2 s
  have hC : candK s = ⟨(pA (jnT ⟨(tkn s).f, k1 (tkn s).o, k1 (tkn s).n, k1 (tkn s).r, (tkn s).c⟩)).getD zA, k2 (tkn s).o ++ (k2 (tkn s).n ++ k2 (tkn s).r)⟩ := rfl
  rw [hC] at hP
  have z := tkn_add s
  have zo := cutK_sz (tkn s).o
  have zn := cutK_sz (tkn s).n
  have zr := cutK_sz (tkn s).r
  have gsz : golB.size = 5 := rfl
  have jz : ∀ p : Pcs, p.f.size + p.o.size + p.n.size + p.r.size ≤ 2000000 → (jnT p).size ≤ 4000000 := jnT_sz2
  clear hC
  generalize pK s = K at *
  generalize tkn s = Q at *
  obtain ⟨qf, qo, qn, qr, qc⟩ := Q
  have e0 : ByteArray.empty.size = 0 := rfl
  simp only at hP z zo zn zr ⊢
  cases ho : emp qo <;> cases hn : emp qn <;> cases hr : emp qr
  all_goals (try obtain rfl := emp_eq ho)
  all_goals (try obtain rfl := emp_eq hn)
  all_goals (try obtain rfl := emp_eq hr)
  all_goals simp only [k1, k2, emp_y, ho, hn, hr, if_true, if_false, Bool.false_eq_true, List.nil_append, List.append_nil, List.cons_append] at hP
  all_goals simp only [Bool.not_true, Bool.not_false, TZ0, TZ1, TZ2, TZ3, LZ1, LZ2, LZ3]
  all_goals (subst hP)
  all_goals
    repeat' (first | exact trivial | rfl | exact SZ1 _ | exact SZ2 _ _ | exact SZ3 _ _ _ | exact Shp_zero _ | omega | (simp only [ByteArray.size_append, gsz]; omega) | (refine jz _ ?_; simp only [ByteArray.size_append, gsz]; omega) | (refine jz _ ?_; simp only; omega) | (simp only [List.length_cons, List.length_nil]; omega) | (intro hh; first | (cases hh; done) | skip) | refine And.intro ?_ ?_)
  all_goals first
    | (exfalso; rw [Bool.not_eq_true'] at hh; rw [hh] at h1; cases h1; done)
    | (exfalso; rw [Bool.not_eq_false'] at hh; rw [hh] at h2; exact h2 rfl)
    | (rw [Bool.not_eq_false'] at hh; rw [hh]; first | rfl | exact QZ1 _ | exact QZ2 _ _ | exact QZ3 _ _ _)
    | skip
noncomputable def e_parseKY : Entry := pureN 7 fun H a => match a with
  | [.lit (.string s)] => some (fun nx => .tup [.agg [.lit (.int .i64 (H Int fun _ => ((pK s).getD zK).arms.f.d)), .lit (.int .i64 (H Int fun _ => ((pK s).getD zK).arms.f.l)), .lit (.int .i64 (H Int fun _ => ((pK s).getD zK).arms.f.p)), .lit (.int .i64 (H Int fun _ => ((pK s).getD zK).arms.f.q)), .lit (.int .i64 (H Int fun _ => ((pK s).getD zK).arms.o)), .lit (.int .i64 (H Int fun _ => ((pK s).getD zK).arms.l)), .lit (.int .i64 (H Int fun _ => ((pK s).getD zK).arms.t)), .lit (.int .i64 (H Int fun _ => ((pK s).getD zK).arms.n.c)), .lit (.int .i64 (H Int fun _ => ((pK s).getD zK).arms.n.k)), .lit (.int .i64 (H Int fun _ => ((pK s).getD zK).arms.n.a)), .lit (.int .i64 (H Int fun _ => ((pK s).getD zK).arms.n.t)), .lit (.int .i64 (H Int fun _ => ((pK s).getD zK).arms.r.c)), .lit (.int .i64 (H Int fun _ => ((pK s).getD zK).arms.r.k)), .lit (.int .i64 (H Int fun _ => ((pK s).getD zK).arms.r.a)), .lit (.int .i64 (H Int fun _ => ((pK s).getD zK).arms.r.t)), .slc nx 0 2 (H Nat fun _ => (((pK s).getD zK).slots).length)], .lit (.bool (H Bool fun _ => true))], [.rows 2 (H Nat fun _ => (((pK s).getD zK).slots).length) (rowsY H fun _ => ((pK s).getD zK).slots) 56], [H Prop fun _ => s.size ≤ 1100000, H Prop fun _ => (pK s).isSome = true, H Prop fun _ => ((pK s).getD zK).slots ≠ []])
  | _ => none
theorem eok_parseKY : EntryOk Tryz.prog e_parseKY := pureN_ok (by unfold isBody; kernel_rfl) (by
  intro a r nb ob e hob
  split at e
  · rename_i s
    simp only [zqt] at e
    obtain ⟨rfl, rfl, rfl⟩ := e
    refine ⟨ConN.args (.cons .rfl .nil) (c_parseKY s hob.1 hob.2.1 hob.2.2.1), fun x hx => ?_, fun nx => ?_, fun b hb => ?_⟩
    · simp only [zqu] at hx
      rcases hx with rfl
      · exact .lit
    · (repeat' (first | exact .nil | exact .slc ⟨by omega, by simp⟩ (by omega) | exact .pl .lit | apply ReL.cons | apply Re.aggL | apply Re.tupL))
    · simp only [zqu] at hb; subst hb; exact bT_bl okRY _ (fun _ => ((pK s).getD zK).slots) _
  · simp at e)
theorem r7_some {s : ByteArray} {k : Skt} (h : pK s = some k) : r7 s = k := by
  by_cases he : earlyK s
  · obtain ⟨h1, h2, h3, h4⟩ := he
    obtain ⟨f, hf⟩ := Option.isSome_iff_exists.1 h2
    obtain ⟨g, hg⟩ := Option.isSome_iff_exists.1 h4
    rw [r7_early h1 hf h3 hg]
    rw [pK_early hf h3 hg] at h
    split at h
    · injection h
    · cases h
  · rw [r7_late he, h]; rfl
theorem c_parseKS (s : ByteArray) (h0 : s.size ≤ 1100000) : ConN Tryz.prog 6 [.lit (.string s)] [] 0 (.tup [aT rowK stdH fun _ => (pK s).getD zK, .lit (.bool (stdH Bool fun _ => (pK s).isSome))]) [] [] := by
  have hB : Base Tryz.prog (tabΓ [e_parse7]) tab := base_of tabOk (ents_cons eok_parse7 <| ents_nil)
  refine con_m (N := 15) hB (draw_ok hB mixed) Tryz.func6 rfl rfl (fun H => [.lit (.string s)]) (fun _ => []) 0 (fun H => .tup [aT rowK H fun _ => (pK s).getD zK, .lit (.bool (H Bool fun _ => (pK s).isSome))]) (fun H => []) (fun _ => []) 300 (by simp) (fun x hx => ?_) (by simp [lk]) (by omega) (by simp) ?_
  · simp only [zqu] at hx
    rcases hx with rfl
    · exact .lit
  intro X hX hX0 H hH
  conv in Fin.chk _ _ => cbv
  try simp only [zqs, Plain_rowsC, Plain_rowsY, zqx, AllP, zqw, upd, if_true]
  subst hH
  simp only [stdH, Arm.eta2, Fld.eta, Grp.eta]
  cases h : pK s with
  | none => (repeat' (first | exact trivial | rfl | exact h0 | refine And.intro ?_ ?_ | (intro h; first | (cases h; done) | (simp at h; done) | skip)))
  | some k =>
    rw [r7_some h]
    (repeat' (first | exact trivial | rfl | exact h0 | exact RowsEq.self okRY | refine And.intro ?_ ?_ | (intro h; first | (cases h; done) | (simp at h; done) | skip)))
noncomputable def e_parseKS : Entry := pureE 6 fun H a => match a with
  | [.lit (.string s)] => some (.tup [aT rowK H fun _ => (pK s).getD zK, .lit (.bool (H Bool fun _ => (pK s).isSome))], [H Prop fun _ => s.size ≤ 1100000])
  | _ => none
theorem eok_parseKS : EntryOk Tryz.prog e_parseKS := pureM_ok (by unfold isBody; kernel_rfl) (by
  intro a r ob e hob
  split at e
  · rename_i s
    simp only [zqt] at e
    obtain ⟨rfl, rfl⟩ := e
    exact ConN.args (.cons .rfl .nil) (c_parseKS s hob.1)
  · simp at e)

end Go.Proofs.YtmkniipdkanbbaaGreatDoor.AM

set_option maxRecDepth 100000
set_option maxHeartbeats 4000000
set_option cbv.maxSteps 3000000
namespace Go.Proofs.YtmkniipdkanbbaaGreatDoor.AM
/- The law FnExactParseSketch; conditions: none. -/
theorem pK_le (u : ByteArray) : ((pK u).getD zK).slots.length ≤ 3 := by
  cases h : pK u with
  | none => exact Nat.zero_le _
  | some m =>
    have hk := okK_iff.1 (pK_iff.1 h).1
    show m.slots.length ≤ 3
    rw [hk.len]
    unfold cntP i2 i1
    split <;> split <;> split <;> omega
theorem c_lawPSkY (t : ByteArray) (h0 : (pK t).isSome = true) (h1 : ((pK t).getD zK).slots ≠ []) : ConN Tryz.prog 3 [.lit (.string t)] [] 0 (.lit (.bool (stdH Bool fun _ => true))) [] [] := by
  have hB : Base Tryz.prog (tabΓ [e_parseKS, e_parseKY, e_eqSketch, e_markSketch, e_heldSketch]) tabO := base_of tabOkO (ents_cons eok_parseKS <| ents_cons eok_parseKY <| ents_cons eok_eqSketch <| ents_cons eok_markSketch <| ents_cons eok_heldSketch <| ents_nil)
  refine con_m (N := 66) hB (draw_ok hB mixed) Tryz.func3 rfl rfl (fun H => [.lit (.string t)]) (fun _ => []) 0 (fun H => .lit (.bool (H Bool fun _ => true))) (fun H => []) (fun _ => []) 600 (by simp) (fun x hx => ?_) (by simp [lk]) (by omega) (by simp) ?_
  · simp only [zqu] at hx
    rcases hx with rfl
    · exact .lit
  intro X hX hX0 H hH
  conv in Fin.chk _ _ => cbv
  try simp only [zqs, Plain_rowsC, Plain_rowsY, zqx, AllP, zqw, upd, if_true]
  have hl := pK_le t
  have hn := h1
  subst hH
  simp only [stdH]
  generalize (pK t).getD zK = s at *
  have e1 : ∀ n : Nat, decide (1 + 2 * (n : Int) < 0) = false := fun n => decide_eq_false (by omega)
  simp only [hn, Arm.eta2, Fld.eta, Grp.eta, h0, Tl_Y, Tl_mkYL, mkYL_len, e1, decide_true, and_self, beq_self_eq_true, bne_self_eq_false, Bool.not_true, Bool.not_false, cond_true, cond_false, zqa, zqb]
  repeat' (first | exact True.intro | rfl | omega | exact Nat.zero_le _ | exact Shp_Y _ _ | exact fun j _ => rowsY_len _ _ | (with_reducible refine And.intro ?_ ?_) | (intro h; first | (simp at h; done) | skip))
theorem c_lawPSkN (t : ByteArray) (h0 : ((pK t).getD zK).slots = []) : ConN Tryz.prog 3 [.lit (.string t)] [] 0 (.lit (.bool (stdH Bool fun _ => true))) [] [] := by
  have hB : Base Tryz.prog (tabΓ [e_parseKS, e_parseK, e_eqSketch, e_markSketchZ, e_heldSketch]) tabO := base_of tabOkO (ents_cons eok_parseKS <| ents_cons eok_parseK <| ents_cons eok_eqSketch <| ents_cons eok_markSketchZ <| ents_cons eok_heldSketch <| ents_nil)
  refine con_m (N := 66) hB (draw_ok hB mixed) Tryz.func3 rfl rfl (fun H => [.lit (.string t)]) (fun _ => []) 0 (fun H => .lit (.bool (H Bool fun _ => true))) (fun H => []) (fun _ => []) 600 (by simp) (fun x hx => ?_) (by simp [lk]) (by omega) (by simp) ?_
  · simp only [zqu] at hx
    rcases hx with rfl
    · exact .lit
  intro X hX hX0 H hH
  conv in Fin.chk _ _ => cbv
  try simp only [zqs, Plain_rowsC, Plain_rowsY, zqx, AllP, zqw, upd, if_true]
  have hn := h0
  have hl := pK_le t
  subst hH
  simp only [stdH]
  generalize (pK t).getD zK = s at *
  obtain ⟨mo, pa⟩ := s
  dsimp only at hn hl h0
  subst hn
  have hn := True.intro
  have e1 : ∀ n : Nat, decide (1 + 2 * (n : Int) < 0) = false := fun n => decide_eq_false (by omega)
  simp only [hn, Arm.eta2, Fld.eta, Grp.eta, h0, Tl_Y, Tl_mkYL, mkYL_len, e1, decide_true, and_self, beq_self_eq_true, bne_self_eq_false, Bool.not_true, Bool.not_false, cond_true, cond_false, zqa, zqb]
  repeat' (first | exact True.intro | rfl | omega | exact Nat.zero_le _ | exact Shp_Y _ _ | exact fun j _ => rowsY_len _ _ | (with_reducible refine And.intro ?_ ?_) | (intro h; first | (simp at h; done) | skip))
theorem law_ParseSketch (t : ByteArray) : ConN Tryz.prog 3 [.lit (.string t)] [] 0 (.lit (.bool true)) [] [] := by
  by_cases h : ((pK t).getD zK).slots = []
  · exact c_lawPSkN t h
  · have h2 : (pK t).isSome = true := by
      cases q : pK t with
      | none => rw [q] at h; exact absurd rfl h
      | some k => rfl
    exact c_lawPSkY t h2 h

end Go.Proofs.YtmkniipdkanbbaaGreatDoor.AM

namespace Go.Proofs.YtmkniipdkanbbaaGreatDoor
set_option maxRecDepth 100000
open Go.ChangeShapes Go.WideShapes Go.ChangeAt Go.RowKit
set_option linter.unusedVariables false
set_option linter.unusedSimpArgs false
open Go.Deep Go.ChangeShapes Go.WideShapes Go.ChangeAt Go.RowKit

def LeafAll (R : TypeId → Value → Prop) : List TypeId → List Value → Prop
  | [], [] => True
  | t :: ts, v :: vs => R t v ∧ LeafAll R ts vs
  | _, _ => False
theorem LeafAll.append {R : TypeId → Value → Prop} : ∀ {a : List TypeId} {c : List Value} {b : List TypeId} {d : List Value}, LeafAll R a c → LeafAll R b d → LeafAll R (a ++ b) (c ++ d)
  | [], [], _, _, _, h => h
  | _ :: _, _ :: _, _, _, h, k => ⟨h.1, LeafAll.append h.2 k⟩
section
variable {H : Type} {enc : TypeId × Value → H} {P : Program} {w : World} {base : Nat} {spare : Nat → Bool} {held : Bool}
end

section
variable {H : Type} {enc : TypeId × Value → H} {P : Program} {w : World} {base : Nat} {spare : Nat → Bool} {held : Bool}
end

end Go.Proofs.YtmkniipdkanbbaaGreatDoor

namespace Go.Proofs.YtmkniipdkanbbaaGreatDoor
set_option maxRecDepth 100000
open Go.ChangeShapes Go.WideShapes Go.ChangeAt Go.RowKit
set_option linter.unusedVariables false
set_option linter.unusedSimpArgs false
open Go.RowKit

def Up (w w' : World) : Prop := Below w.heap.size w w'
theorem Up.refl (w : World) : Up w w := Below.refl _ _
theorem Up.size {w w' : World} (h : Up w w') : w.heap.size ≤ w'.heap.size := Below.size h
theorem Up.trans {a b c : World} (h : Up a b) (k : Up b c) : Up a c := Below.trans h (Below.mono k h.size)
theorem Up.alloc {a w : World} (h : Up a w) (o : Obj) : Up a (w.alloc o) := Below.alloc h h.size o
theorem Up.drew {a w : World} (h : Up a w) : Up a w.drew := Below.drew h
theorem Up.drewN {a w : World} (h : Up a w) : ∀ n, Up a (w.drewN n)
  | 0 => h
  | n + 1 => ⟨h.os, h.tape, h.output, h.size, h.block⟩
theorem Up.setCell {a w : World} (h : Up a w) {p : Addr} (hp : a.heap.size ≤ p.block) (u : Value) : Up a (w.setCell p u) := Below.setCell h hp u
theorem Up.store {a w : World} (h : Up a w) {b o : Nat} (hp : a.heap.size ≤ b) (u : Value) : Up a (w.setCell ⟨b, o, none⟩ u) := Up.setCell h hp u
theorem Up.row {a w : World} (h : Up a w) {L : Nat} (hp : a.heap.size ≤ L) (cs : Array Value) : Up a (w.setRow L cs) := below_setRow h hp cs
theorem Up.grown {a w w' : World} {row : Option Nat} (h : Up a w) (hg : w.grownBy w' row) (hr : ∀ k, row = some k → a.heap.size ≤ k) : Up a w' := Below.grown h hg h.size hr
theorem Up.below {w w' : World} (h : Up w w') : Below w.heap.size w w' := h
theorem Up.block {w w' : World} (h : Up w w') {k : Nat} {o : Obj} (hk : w.heap[k]? = some o) : w'.heap[k]? = some o := by
  have hlt : k < w.heap.size := (Array.getElem?_eq_some_iff.1 hk).1
  exact (Below.block h k hlt).trans hk
theorem Up.cell {w w' : World} (h : Up w w') {p : Addr} {v : Value} (hv : w.cell? p = some v) : w'.cell? p = some v :=
  (Below.cell h (World.block_lt_of_cell? w p hv)).trans hv
theorem Up.box {w w' : World} {c : Array Value} {t : TypeId} (h : Up (w.alloc (.cells c t)) w') : ∀ o, w'.cell? ⟨w.heap.size, o, none⟩ = c[o]? := fun o => by
  have h1 : (w.alloc (.cells c t)).heap[w.heap.size]? = some (.cells c t) := heap_alloc_new w _
  have h2 := h.block h1
  exact cell_of_row w' w.heap.size o c t (0, 0) h2
end Go.Proofs.YtmkniipdkanbbaaGreatDoor

namespace Go.Proofs.YtmkniipdkanbbaaGreatDoor

def inB (x a b : Int) : Bool := decide (a ≤ x ∧ x ≤ b)
end Go.Proofs.YtmkniipdkanbbaaGreatDoor

namespace Go.Proofs.YtmkniipdkanbbaaGreatDoor
set_option maxRecDepth 100000
open Go.ChangeShapes Go.WideShapes Go.ChangeAt Go.RowKit
set_option linter.unusedVariables false
set_option linter.unusedSimpArgs false
open Go.Deep

structure Arms where
  (fd fl ff fs o l t c1 k1 a1 t1 c2 k2 a2 t2 : Int)
def Arms.list (A : Arms) : List Int := [A.fd, A.fl, A.ff, A.fs, A.o, A.l, A.t, A.c1, A.k1, A.a1, A.t1, A.c2, A.k2, A.a2, A.t2]
theorem Arms.list_inj {A B : Arms} (h : A.list = B.list) : A = B := by
  cases A; cases B; simp [Arms.list] at h; simp [h]
instance : DecidableEq Arms := fun A B => decidable_of_iff (A.list = B.list) ⟨Arms.list_inj, fun h => by rw [h]⟩
def Arms.arr (A : Arms) : Array Value := (A.list.map (Value.int .i64)).toArray
@[simp, go_sem] theorem Arms.arr_size (A : Arms) : A.arr.size = 15 := id rfl
@[simp, go_sem] theorem Arms.arr_0 (A : Arms) : A.arr[0]? = some (.int .i64 A.fd) := id rfl
@[simp, go_sem] theorem Arms.arr_1 (A : Arms) : A.arr[1]? = some (.int .i64 A.fl) := id rfl
@[simp, go_sem] theorem Arms.arr_2 (A : Arms) : A.arr[2]? = some (.int .i64 A.ff) := id rfl
@[simp, go_sem] theorem Arms.arr_3 (A : Arms) : A.arr[3]? = some (.int .i64 A.fs) := id rfl
@[simp, go_sem] theorem Arms.arr_4 (A : Arms) : A.arr[4]? = some (.int .i64 A.o) := id rfl
@[simp, go_sem] theorem Arms.arr_5 (A : Arms) : A.arr[5]? = some (.int .i64 A.l) := id rfl
@[simp, go_sem] theorem Arms.arr_6 (A : Arms) : A.arr[6]? = some (.int .i64 A.t) := id rfl
@[simp, go_sem] theorem Arms.arr_7 (A : Arms) : A.arr[7]? = some (.int .i64 A.c1) := id rfl
@[simp, go_sem] theorem Arms.arr_8 (A : Arms) : A.arr[8]? = some (.int .i64 A.k1) := id rfl
@[simp, go_sem] theorem Arms.arr_9 (A : Arms) : A.arr[9]? = some (.int .i64 A.a1) := id rfl
@[simp, go_sem] theorem Arms.arr_10 (A : Arms) : A.arr[10]? = some (.int .i64 A.t1) := id rfl
@[simp, go_sem] theorem Arms.arr_11 (A : Arms) : A.arr[11]? = some (.int .i64 A.c2) := id rfl
@[simp, go_sem] theorem Arms.arr_12 (A : Arms) : A.arr[12]? = some (.int .i64 A.k2) := id rfl
@[simp, go_sem] theorem Arms.arr_13 (A : Arms) : A.arr[13]? = some (.int .i64 A.a2) := id rfl
@[simp, go_sem] theorem Arms.arr_14 (A : Arms) : A.arr[14]? = some (.int .i64 A.t2) := id rfl
@[simp, go_sem] theorem Arms.arr_g0 (A : Arms) (h : 0 < A.arr.size) : A.arr[0] = .int .i64 A.fd := id rfl
@[simp, go_sem] theorem Arms.arr_g1 (A : Arms) (h : 1 < A.arr.size) : A.arr[1] = .int .i64 A.fl := id rfl
@[simp, go_sem] theorem Arms.arr_g2 (A : Arms) (h : 2 < A.arr.size) : A.arr[2] = .int .i64 A.ff := id rfl
@[simp, go_sem] theorem Arms.arr_g3 (A : Arms) (h : 3 < A.arr.size) : A.arr[3] = .int .i64 A.fs := id rfl
@[simp, go_sem] theorem Arms.arr_g4 (A : Arms) (h : 4 < A.arr.size) : A.arr[4] = .int .i64 A.o := id rfl
@[simp, go_sem] theorem Arms.arr_g5 (A : Arms) (h : 5 < A.arr.size) : A.arr[5] = .int .i64 A.l := id rfl
@[simp, go_sem] theorem Arms.arr_g6 (A : Arms) (h : 6 < A.arr.size) : A.arr[6] = .int .i64 A.t := id rfl
@[simp, go_sem] theorem Arms.arr_g7 (A : Arms) (h : 7 < A.arr.size) : A.arr[7] = .int .i64 A.c1 := id rfl
@[simp, go_sem] theorem Arms.arr_g8 (A : Arms) (h : 8 < A.arr.size) : A.arr[8] = .int .i64 A.k1 := id rfl
@[simp, go_sem] theorem Arms.arr_g9 (A : Arms) (h : 9 < A.arr.size) : A.arr[9] = .int .i64 A.a1 := id rfl
@[simp, go_sem] theorem Arms.arr_g10 (A : Arms) (h : 10 < A.arr.size) : A.arr[10] = .int .i64 A.t1 := id rfl
@[simp, go_sem] theorem Arms.arr_g11 (A : Arms) (h : 11 < A.arr.size) : A.arr[11] = .int .i64 A.c2 := id rfl
@[simp, go_sem] theorem Arms.arr_g12 (A : Arms) (h : 12 < A.arr.size) : A.arr[12] = .int .i64 A.k2 := id rfl
@[simp, go_sem] theorem Arms.arr_g13 (A : Arms) (h : 13 < A.arr.size) : A.arr[13] = .int .i64 A.a2 := id rfl
@[simp, go_sem] theorem Arms.arr_g14 (A : Arms) (h : 14 < A.arr.size) : A.arr[14] = .int .i64 A.t2 := id rfl
def Arms.cells (A : Arms) : List Value := A.arr.toList
instance : Inhabited Arms := ⟨⟨0, 0, 0, 0, 0, 0, 0, 0, 0, 0, 0, 0, 0, 0, 0⟩⟩
theorem Arms.one (A : Arms) : A.arr.all (·.oneCell') = true := by simp [Arms.arr, Arms.list, Value.oneCell']

section
variable {H : Type} {enc : TypeId × Value → H} {P : Program} {w : World} {base : Nat} {spare : Nat → Bool} {held : Bool}
end

def goodG (c k a t : Int) : Bool := inB c 1 6 && inB k 1 8 && inB t 1 9 && (if k ≤ 3 then inB a 1 2 else decide (a = 0))
def noneG (c k a t : Int) : Bool := decide (c = 0 ∧ k = 0 ∧ a = 0 ∧ t = 0)
def okG (c k a t : Int) : Bool := noneG c k a t || goodG c k a t
end Go.Proofs.YtmkniipdkanbbaaGreatDoor

set_option maxRecDepth 100000
set_option maxHeartbeats 4000000
set_option cbv.maxSteps 3000000
namespace Go.Proofs.YtmkniipdkanbbaaGreatDoor.AM
/- From a law's contract to the walk that lift.py asks for; conditions: none. -/
theorem lowOk : Tryz.prog.globals.size < Tryz.prog.low := by decide +kernel
end Go.Proofs.YtmkniipdkanbbaaGreatDoor.AM

set_option maxRecDepth 100000
set_option maxHeartbeats 4000000
set_option cbv.maxSteps 3000000
namespace Go.Proofs.YtmkniipdkanbbaaGreatDoor.AM
/- From an exact law's contract to the walk that lift.py asks for; conditions: none. -/
def cx0 (w : World) : Cx := ⟨id, fun _ => False, fun _ => False, w⟩
theorem law_ofX {f : FuncId} {args : List AV} {vs : List Value} {w : World} (h : ConN Tryz.prog f args [] 0 (.lit (.bool true)) [] []) (hl : LRel (cx0 w) args vs) (hsh : w.ShapedOpen Tryz.prog) (hld : Laid w := by exact ⟨fun x hx => (by cases hx), fun n hn => (by cases hn)⟩) : Calls Tryz.prog f vs.toArray w (fun e w' => e = .returned (.bool true) ∧ Up w w') := by
  refine (h (cx0 w) vs hl (by simp [lk]) (by simp [lk]) (glo0 lowOk hsh hld) (fun i _ _ => fun h => h)).mono fun e w' ⟨cv, he, C', ha⟩ => ?_
  have hv := ha.val _ rfl
  cases hv
  refine ⟨he, Up.grown (Up.refl w) (row := none) ⟨?_, ?_, ?_, ?_, fun k hk _ => ?_⟩ (by simp)⟩
  · have := ha.ext.wx.os; rw [ha.w] at this; exact this
  · have := ha.ext.wx.tape; rw [ha.w] at this; exact this
  · have := ha.ext.wx.output; rw [ha.w] at this; exact this
  · have := ha.ext.wx.size; rw [ha.w] at this; exact this
  · have := ha.ext.wx.same k hk (by simp); rw [ha.w] at this; exact this
end Go.Proofs.YtmkniipdkanbbaaGreatDoor.AM

set_option maxRecDepth 100000
set_option maxHeartbeats 4000000
set_option cbv.maxSteps 3000000
namespace Go.Proofs.YtmkniipdkanbbaaGreatDoor.AM
/- The walk of the law FnExactParseSketch, from its contract; conditions: none. -/
end Go.Proofs.YtmkniipdkanbbaaGreatDoor.AM
namespace Go.Proofs.YtmkniipdkanbbaaGreatDoor
open Go AM
theorem w_ParseSketch (s : ByteArray) (_ : s.size ≤ maxLen) (w : World) (hsh : w.ShapedOpen Tryz.prog) : Calls Tryz.prog 3 #[.string s] w (fun e w' => e = .returned (.bool true) ∧ Up w w') :=
  law_ofX (law_ParseSketch s) (.cons (.lit rfl) (.nil _)) hsh
end Go.Proofs.YtmkniipdkanbbaaGreatDoor
namespace Go.Proofs.YtmkniipdkanbbaaGreatDoor.AM

end Go.Proofs.YtmkniipdkanbbaaGreatDoor.AM

