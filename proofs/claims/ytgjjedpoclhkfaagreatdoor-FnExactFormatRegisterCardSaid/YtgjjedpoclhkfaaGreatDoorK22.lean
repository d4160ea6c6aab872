/- Lemmas and contracts (ALFormatRegister); conditions: none. -/
import Derived.Test.YtgjjedpoclhkfaaGreatDoorK03
import Derived.Test.YtgjjedpoclhkfaaGreatDoorK11
import Derived.Test.YtgjjedpoclhkfaaGreatDoorK20
import Derived.Test.YtgjjedpoclhkfaaGreatDoorK21
set_option linter.unusedVariables false
set_option linter.unusedSimpArgs false
set_option maxRecDepth 100000
set_option maxHeartbeats 4000000
set_option cbv.maxSteps 3000000
namespace Go.Proofs.YtgjjedpoclhkfaaGreatDoor.AM
/- The law FnExactFormatRegister; conditions: none. -/
section
variable {H : Type} {enc : TypeId × Value → H} {w : World}
structure GD_W (x : Grt) : Prop where
  g1 : (x.name).size ≤ 9223372036854775807
theorem rt_W : RTy enc w 99 rowW GD_W := fun base spare held m cs y h => by
  have h1 := leaf_open 4 99 m cs y (by kernel_rfl) h
  rw [show leaves Tryz.prog 4 99 = [3, 9, 3, 3, 3, 3, 3, 3, 3, 3, 3, 3, 3, 3, 3, 3, 3, 3] from by kernel_rfl] at h1
  obtain ⟨c0, s0, rfl, ⟨m0, y0, g0⟩, h1⟩ := leaf_cons h1
  obtain ⟨x0, r0, o0, q0⟩ := (rt_int Tryz.underlying3) base spare held m0 [c0] y0 g0
  obtain ⟨c1, s1, rfl, ⟨m1, y1, g1⟩, h1⟩ := leaf_cons h1
  obtain ⟨x1, r1, o1, q1⟩ := (rt_str Tryz.underlying9) base spare held m1 [c1] y1 g1
  obtain ⟨c2, s2, rfl, ⟨m2, y2, g2⟩, h1⟩ := leaf_cons h1
  obtain ⟨x2, r2, o2, q2⟩ := (rt_int Tryz.underlying3) base spare held m2 [c2] y2 g2
  obtain ⟨c3, s3, rfl, ⟨m3, y3, g3⟩, h1⟩ := leaf_cons h1
  obtain ⟨x3, r3, o3, q3⟩ := (rt_int Tryz.underlying3) base spare held m3 [c3] y3 g3
  obtain ⟨c4, s4, rfl, ⟨m4, y4, g4⟩, h1⟩ := leaf_cons h1
  obtain ⟨x4, r4, o4, q4⟩ := (rt_int Tryz.underlying3) base spare held m4 [c4] y4 g4
  obtain ⟨c5, s5, rfl, ⟨m5, y5, g5⟩, h1⟩ := leaf_cons h1
  obtain ⟨x5, r5, o5, q5⟩ := (rt_int Tryz.underlying3) base spare held m5 [c5] y5 g5
  obtain ⟨c6, s6, rfl, ⟨m6, y6, g6⟩, h1⟩ := leaf_cons h1
  obtain ⟨x6, r6, o6, q6⟩ := (rt_int Tryz.underlying3) base spare held m6 [c6] y6 g6
  obtain ⟨c7, s7, rfl, ⟨m7, y7, g7⟩, h1⟩ := leaf_cons h1
  obtain ⟨x7, r7, o7, q7⟩ := (rt_int Tryz.underlying3) base spare held m7 [c7] y7 g7
  obtain ⟨c8, s8, rfl, ⟨m8, y8, g8⟩, h1⟩ := leaf_cons h1
  obtain ⟨x8, r8, o8, q8⟩ := (rt_int Tryz.underlying3) base spare held m8 [c8] y8 g8
  obtain ⟨c9, s9, rfl, ⟨m9, y9, g9⟩, h1⟩ := leaf_cons h1
  obtain ⟨x9, r9, o9, q9⟩ := (rt_int Tryz.underlying3) base spare held m9 [c9] y9 g9
  obtain ⟨c10, s10, rfl, ⟨m10, y10, g10⟩, h1⟩ := leaf_cons h1
  obtain ⟨x10, r10, o10, q10⟩ := (rt_int Tryz.underlying3) base spare held m10 [c10] y10 g10
  obtain ⟨c11, s11, rfl, ⟨m11, y11, g11⟩, h1⟩ := leaf_cons h1
  obtain ⟨x11, r11, o11, q11⟩ := (rt_int Tryz.underlying3) base spare held m11 [c11] y11 g11
  obtain ⟨c12, s12, rfl, ⟨m12, y12, g12⟩, h1⟩ := leaf_cons h1
  obtain ⟨x12, r12, o12, q12⟩ := (rt_int Tryz.underlying3) base spare held m12 [c12] y12 g12
  obtain ⟨c13, s13, rfl, ⟨m13, y13, g13⟩, h1⟩ := leaf_cons h1
  obtain ⟨x13, r13, o13, q13⟩ := (rt_int Tryz.underlying3) base spare held m13 [c13] y13 g13
  obtain ⟨c14, s14, rfl, ⟨m14, y14, g14⟩, h1⟩ := leaf_cons h1
  obtain ⟨x14, r14, o14, q14⟩ := (rt_int Tryz.underlying3) base spare held m14 [c14] y14 g14
  obtain ⟨c15, s15, rfl, ⟨m15, y15, g15⟩, h1⟩ := leaf_cons h1
  obtain ⟨x15, r15, o15, q15⟩ := (rt_int Tryz.underlying3) base spare held m15 [c15] y15 g15
  obtain ⟨c16, s16, rfl, ⟨m16, y16, g16⟩, h1⟩ := leaf_cons h1
  obtain ⟨x16, r16, o16, q16⟩ := (rt_int Tryz.underlying3) base spare held m16 [c16] y16 g16
  obtain ⟨c17, s17, rfl, ⟨m17, y17, g17⟩, h1⟩ := leaf_cons h1
  obtain ⟨x17, r17, o17, q17⟩ := (rt_int Tryz.underlying3) base spare held m17 [c17] y17 g17
  obtain rfl := leaf_nil h1
  refine ⟨⟨x0, x1, x2, ⟨⟨x3, x4, x5, x6⟩, x7, x8, x9, ⟨x10, x11, x12, x13⟩, ⟨x14, x15, x16, x17⟩⟩⟩, (.cons r0.one (.cons r1.one (.cons r2.one (.cons r3.one (.cons r4.one (.cons r5.one (.cons r6.one (.cons r7.one (.cons r8.one (.cons r9.one (.cons r10.one (.cons r11.one (.cons r12.one (.cons r13.one (.cons r14.one (.cons r15.one (.cons r16.one (.cons r17.one (.nil _))))))))))))))))))), fun v hv => ?_, ⟨q1⟩⟩
  simp only [List.mem_cons, List.not_mem_nil, or_false] at hv
  rcases hv with rfl | rfl | rfl | rfl | rfl | rfl | rfl | rfl | rfl | rfl | rfl | rfl | rfl | rfl | rfl | rfl | rfl | rfl
  · exact o0 _ List.mem_cons_self
  · exact o1 _ List.mem_cons_self
  · exact o2 _ List.mem_cons_self
  · exact o3 _ List.mem_cons_self
  · exact o4 _ List.mem_cons_self
  · exact o5 _ List.mem_cons_self
  · exact o6 _ List.mem_cons_self
  · exact o7 _ List.mem_cons_self
  · exact o8 _ List.mem_cons_self
  · exact o9 _ List.mem_cons_self
  · exact o10 _ List.mem_cons_self
  · exact o11 _ List.mem_cons_self
  · exact o12 _ List.mem_cons_self
  · exact o13 _ List.mem_cons_self
  · exact o14 _ List.mem_cons_self
  · exact o15 _ List.mem_cons_self
  · exact o16 _ List.mem_cons_self
  · exact o17 _ List.mem_cons_self
structure GD_J (x : Rgr) : Prop where
  g0 : ((x.gs).length ≤ 9223372036854775807 ∧ ∀ z ∈ x.gs, GD_W z)
theorem rt_J : RTy enc w 24 rowJ GD_J := fun base spare held m cs y h => by
  have h1 := leaf_open 4 24 m cs y (by kernel_rfl) h
  rw [show leaves Tryz.prog 4 24 = [22] from by kernel_rfl] at h1
  obtain ⟨c0, s0, rfl, ⟨m0, y0, g0⟩, h1⟩ := leaf_cons h1
  obtain ⟨x0, r0, o0, q0⟩ := (rt_sl okRW Tryz.underlying22 (by kernel_rfl) (by show 0 < 18; omega) rt_W) base spare held m0 [c0] y0 g0
  obtain rfl := leaf_nil h1
  refine ⟨⟨x0⟩, (.cons r0.one (.nil _)), fun v hv => ?_, ⟨q0⟩⟩
  simp only [List.mem_cons, List.not_mem_nil, or_false] at hv
  rcases hv with rfl
  · exact o0 _ List.mem_cons_self
end
def szW : Int → List Grt → Int
  | left, [] => left
  | left, g :: r => if left - (g.name.size : Nat) < 0 then -1 else szW (left - (g.name.size : Nat)) r
def szG (left : Int) (l : List Grt) : Int := if left - (l.length : Nat) < 0 then -1 else szW (left - (l.length : Nat)) l
structure Nlg (l : List Grt) : Prop where
  le : ∀ g ∈ l, g.name.size ≤ 9223372036854775807
theorem Nlg.at {l : List Grt} (h : Nlg l) {i : Nat} (hi : i < l.length) : (l.getD i default).name.size ≤ 9223372036854775807 := by
  rw [List.getD_eq_getElem?_getD, List.getElem?_eq_getElem hi, Option.getD_some]
  exact h.le _ (List.getElem_mem hi)
theorem drop_getW {l : List Grt} {i : Nat} (hi : i < l.length) : l.drop i = l.getD i default :: l.drop (i + 1) := by
  rw [List.drop_eq_getElem_cons hi, List.getD_eq_getElem?_getD, List.getElem?_eq_getElem hi, Option.getD_some]
theorem szW_y {x : Int} {l : List Grt} {i : Nat} (hi : i < l.length) (h : x - ((l.getD i default).name.size : Nat) < 0) : szW x (l.drop i) = -1 := by
  rw [drop_getW hi]
  exact if_pos h
theorem szW_n {x : Int} {l : List Grt} {i : Nat} (hi : i < l.length) (h : ¬ x - ((l.getD i default).name.size : Nat) < 0) : szW x (l.drop i) = szW (x - ((l.getD i default).name.size : Nat)) (l.drop (i + 1)) := by
  rw [drop_getW hi]
  exact if_neg h
/-- What is left is not below nothing: the names are short. -/
theorem szW_ok : ∀ (l : List Grt) (x : Int), x ≤ 1048576 → ¬ szW x l < 0 → ∀ g ∈ l, g.name.size ≤ 1048576
  | [], _, _, _, g, hg => by cases hg
  | a :: l, x, hx, h, g, hg => by
    unfold szW at h
    split at h
    · exact absurd (by omega) h
    · rename_i q
      rcases List.mem_cons.1 hg with rfl | hg
      · omega
      · exact szW_ok l _ (by omega) h g hg
theorem szG_ok {l : List Grt} (h : ¬ szG 1048576 l < 0) : l.length ≤ 1048576 ∧ ∀ g ∈ l, g.name.size ≤ 1048576 := by
  unfold szG at h
  split at h
  · exact absurd (by omega) h
  · exact ⟨by omega, szW_ok l _ (by omega) h⟩
theorem RowsEq.putG {α : Type} {D : RowD α} (ok : RowOk D) {L : List α} {j : Nat} {x : α} {M : List α} (e : L.set j x = M) : RowsEq D.k M.length (rowsT D stdH fun _ => M) L.length (put1 j (D.cells stdH fun _ => x) (rowsT D stdH fun _ => L)) :=
  .ofT ok rfl (Shp_put1 (Shp_rowsT ok _ _) (by rw [ok.of_cells])) (by rw [Tl_put1, Tl_rowsT ok, ok.of_cells, e])
theorem RowsEq.zerosG {α : Type} {D : RowD α} (ok : RowOk D) {d : α} (n : Nat) {f : Nat → List AV} (hf : ∀ j, f j = D.cells stdH fun _ => d) : RowsEq D.k (List.replicate n d).length (rowsT D stdH fun _ => List.replicate n d) n f :=
  .ofT ok rfl ⟨fun j _ => by rw [hf j, ok.of_cells]⟩ (by
    refine List.ext_getElem (by simp [Tl]) fun i h1 h2 => ?_
    simp only [Tl, List.getElem_map, List.getElem_range, List.getElem_replicate, hf, ok.of_cells])
theorem szW_neg : ∀ (l : List Grt) (x : Int), 0 ≤ x → szW x l < 0 → szW x l = -1
  | [], x, h0, h => by unfold szW at h; omega
  | a :: l, x, h0, h => by
    unfold szW at h ⊢
    split
    · rfl
    · rename_i q
      rw [if_neg q] at h
      exact szW_neg l _ (by omega) h
theorem szG_neg {left : Int} {l : List Grt} (h : szG left l < 0) : szG left l = -1 := by
  unfold szG at h ⊢
  split
  · rfl
  · rename_i q
    rw [if_neg q] at h
    exact szW_neg l _ (by omega) h
theorem c_szGrant (a : Grt) (left : Int) (h0 : a.name.size ≤ 9223372036854775807) (h1 : 0 ≤ left ∧ left ≤ 1048576) : ConN Tryz.prog 57 [aT rowW stdH fun _ => a, .lit (.int .i64 left)] [] 0 (.lit (.int .i64 (stdH Int fun _ => if left - (a.name.size : Nat) < 0 then -1 else left - (a.name.size : Nat)))) [] [] := by
  have hB : Base Tryz.prog (tabΓ []) tab := base_of tabOk (ents_nil)
  refine con_m (N := 13) hB (draw_ok hB mixed) Tryz.func57 rfl rfl (fun H => [aT rowW H fun _ => a, .lit (.int .i64 left)]) (fun _ => []) 0 (fun H => .lit (.int .i64 (H Int fun _ => if left - (a.name.size : Nat) < 0 then -1 else left - (a.name.size : Nat)))) (fun H => []) (fun _ => []) 60 (by simp) (fun x hx => ?_) (by simp [lk]) (by omega) (by simp) ?_
  · simp only [List.mem_cons, List.not_mem_nil, or_false] at hx
    rcases hx with rfl | rfl
    · exact aT_bl okRW _ _
    · exact .lit
  intro X hX hX0 H hH
  conv in Fin.chk _ _ => cbv
  try simp only [Plain_rowsA, Plain_rowsB, Plain_rowsC, Plain_rowsF, Plain_rowsG, Plain_rowsI, Plain_rowsS, Plain_rowsU, Fin.satC_ret, Fin.satC_br, Fin.satC_need, Fin.satC_again, AllP, and_true, true_and, upd, List.length_nil, List.length_cons, Nat.zero_add, if_true, ncast, Int.ofNat_eq_natCast]
  subst hH
  simp only [stdH, ncast, Int.ofNat_eq_natCast, decide_eq_true_eq, decide_eq_false_iff_not]
  have e : IntKind.i64.wrap (left - (a.name.size : Int)) = left - (a.name.size : Int) := wi (by omega) (by omega)
  rw [e]
  exact ⟨fun h => by rw [if_pos h], fun h => by rw [if_neg h]⟩
noncomputable def e_szGrant : Entry := pureE 57 fun H a => match a with
  | [.agg [.lit (.int .i64 a0), .lit (.string a1), .lit (.int .i64 a2), .lit (.int .i64 a3), .lit (.int .i64 a4), .lit (.int .i64 a5), .lit (.int .i64 a6), .lit (.int .i64 a7), .lit (.int .i64 a8), .lit (.int .i64 a9), .lit (.int .i64 a10), .lit (.int .i64 a11), .lit (.int .i64 a12), .lit (.int .i64 a13), .lit (.int .i64 a14), .lit (.int .i64 a15), .lit (.int .i64 a16), .lit (.int .i64 a17)], .lit (.int .i64 left)] => some (.lit (.int .i64 (H Int fun _ => if left - ((⟨a0, a1, a2, ⟨⟨a3, a4, a5, a6⟩, a7, a8, a9, ⟨a10, a11, a12, a13⟩, ⟨a14, a15, a16, a17⟩⟩⟩ : Grt).name.size : Nat) < 0 then -1 else left - ((⟨a0, a1, a2, ⟨⟨a3, a4, a5, a6⟩, a7, a8, a9, ⟨a10, a11, a12, a13⟩, ⟨a14, a15, a16, a17⟩⟩⟩ : Grt).name.size : Nat))), [H Prop fun _ => (⟨a0, a1, a2, ⟨⟨a3, a4, a5, a6⟩, a7, a8, a9, ⟨a10, a11, a12, a13⟩, ⟨a14, a15, a16, a17⟩⟩⟩ : Grt).name.size ≤ 9223372036854775807, H Prop fun _ => 0 ≤ left ∧ left ≤ 1048576])
  | _ => none
theorem eok_szGrant : EntryOk Tryz.prog e_szGrant := pureM_ok (by unfold isBody; kernel_rfl) (by
  intro a r ob e hob
  split at e
  · rename_i a0 a1 a2 a3 a4 a5 a6 a7 a8 a9 a10 a11 a12 a13 a14 a15 a16 a17 left
    simp only [Option.some.injEq, Prod.mk.injEq] at e
    obtain ⟨rfl, rfl⟩ := e
    exact ConN.args (.cons .rfl (.cons .rfl .nil)) (c_szGrant (⟨a0, a1, a2, ⟨⟨a3, a4, a5, a6⟩, a7, a8, a9, ⟨a10, a11, a12, a13⟩, ⟨a14, a15, a16, a17⟩⟩⟩ : Grt) left hob.1 hob.2.1)
  · simp at e)
theorem c_toGrant (a : Grt)  : ConN Tryz.prog 62 [aT rowW stdH fun _ => a] [] 0 (aT rowW stdH fun _ => a) [] [] := by
  have hB : Base Tryz.prog (tabΓ [e_toArms]) tab := base_of tabOk (ents_cons eok_toArms <| ents_nil)
  refine con_m (N := 18) hB (draw_ok hB mixed) Tryz.func62 rfl rfl (fun H => [aT rowW H fun _ => a]) (fun _ => []) 0 (fun H => aT rowW H fun _ => a) (fun H => []) (fun _ => []) 200 (by simp) (fun x hx => ?_) (by simp [lk]) (by omega) (by simp) ?_
  · simp only [List.mem_cons, List.not_mem_nil, or_false] at hx
    rcases hx with rfl
    · exact aT_bl okRW _ _
  intro X hX hX0 H hH
  conv in Fin.chk _ _ => cbv
  try simp only [Plain_rowsA, Plain_rowsB, Plain_rowsC, Plain_rowsF, Plain_rowsG, Plain_rowsI, Plain_rowsS, Plain_rowsU, Fin.satC_ret, Fin.satC_br, Fin.satC_need, Fin.satC_again, AllP, and_true, true_and, upd, List.length_nil, List.length_cons, Nat.zero_add, if_true, ncast, Int.ofNat_eq_natCast]
  subst hH
  simp only [stdH]
  (repeat' (first | with_reducible exact True.intro | rfl | exact RowsEq.self okI | exact RowsEq.self okRA | exact RowsEq.self okS | refine And.intro ?_ ?_ | trivial))
noncomputable def e_toGrant : Entry := pureE 62 fun H a => match a with
  | [.agg [.lit (.int .i64 a0), .lit (.string a1), .lit (.int .i64 a2), .lit (.int .i64 a3), .lit (.int .i64 a4), .lit (.int .i64 a5), .lit (.int .i64 a6), .lit (.int .i64 a7), .lit (.int .i64 a8), .lit (.int .i64 a9), .lit (.int .i64 a10), .lit (.int .i64 a11), .lit (.int .i64 a12), .lit (.int .i64 a13), .lit (.int .i64 a14), .lit (.int .i64 a15), .lit (.int .i64 a16), .lit (.int .i64 a17)]] => some (aT rowW H fun _ => (⟨a0, a1, a2, ⟨⟨a3, a4, a5, a6⟩, a7, a8, a9, ⟨a10, a11, a12, a13⟩, ⟨a14, a15, a16, a17⟩⟩⟩ : Grt), [])
  | _ => none
theorem eok_toGrant : EntryOk Tryz.prog e_toGrant := pureM_ok (by unfold isBody; kernel_rfl) (by
  intro a r ob e hob
  split at e
  · rename_i a0 a1 a2 a3 a4 a5 a6 a7 a8 a9 a10 a11 a12 a13 a14 a15 a16 a17
    simp only [Option.some.injEq, Prod.mk.injEq] at e
    obtain ⟨rfl, rfl⟩ := e
    exact ConN.args (.cons .rfl .nil) (c_toGrant (⟨a0, a1, a2, ⟨⟨a3, a4, a5, a6⟩, a7, a8, a9, ⟨a10, a11, a12, a13⟩, ⟨a14, a15, a16, a17⟩⟩⟩ : Grt) )
  · simp at e)
theorem c_eqGrant (a : Grt) (b : Grt)  : ConN Tryz.prog 71 [aT rowW stdH fun _ => a, aT rowW stdH fun _ => b] [] 0 (.lit (.bool (stdH Bool fun _ => decide (a = b)))) [] [] := by
  have hB : Base Tryz.prog (tabΓ [e_eqArms]) tab := base_of tabOk (ents_cons eok_eqArms <| ents_nil)
  refine con_m (N := 26) hB (draw_ok hB mixed) Tryz.func71 rfl rfl (fun H => [aT rowW H fun _ => a, aT rowW H fun _ => b]) (fun _ => []) 0 (fun H => .lit (.bool (H Bool fun _ => decide (a = b)))) (fun H => []) (fun _ => []) 200 (by simp) (fun x hx => ?_) (by simp [lk]) (by omega) (by simp) ?_
  · simp only [List.mem_cons, List.not_mem_nil, or_false] at hx
    rcases hx with rfl | rfl
    · exact aT_bl okRW _ _
    · exact aT_bl okRW _ _
  intro X hX hX0 H hH
  conv in Fin.chk _ _ => cbv
  try simp only [Plain_rowsA, Plain_rowsB, Plain_rowsC, Plain_rowsF, Plain_rowsG, Plain_rowsI, Plain_rowsS, Plain_rowsU, Fin.satC_ret, Fin.satC_br, Fin.satC_need, Fin.satC_again, AllP, and_true, true_and, upd, List.length_nil, List.length_cons, Nat.zero_add, if_true, ncast, Int.ofNat_eq_natCast]
  subst hH
  simp only [stdH, Arm.eta2, Fld.eta, Grp.eta]
  obtain ⟨a0, a1, a2, a3⟩ := a
  obtain ⟨b0, b1, b2, b3⟩ := b
  simp only [beqT]
  by_cases h0 : a0 = b0 <;> by_cases h1 : a1 = b1 <;> by_cases h2 : a2 = b2 <;> by_cases h3 : a3 = b3 <;> simp [h0, h1, h2, h3]
noncomputable def e_eqGrant : Entry := pureE 71 fun H a => match a with
  | [.agg [.lit (.int .i64 a0), .lit (.string a1), .lit (.int .i64 a2), .lit (.int .i64 a3), .lit (.int .i64 a4), .lit (.int .i64 a5), .lit (.int .i64 a6), .lit (.int .i64 a7), .lit (.int .i64 a8), .lit (.int .i64 a9), .lit (.int .i64 a10), .lit (.int .i64 a11), .lit (.int .i64 a12), .lit (.int .i64 a13), .lit (.int .i64 a14), .lit (.int .i64 a15), .lit (.int .i64 a16), .lit (.int .i64 a17)], .agg [.lit (.int .i64 b0), .lit (.string b1), .lit (.int .i64 b2), .lit (.int .i64 b3), .lit (.int .i64 b4), .lit (.int .i64 b5), .lit (.int .i64 b6), .lit (.int .i64 b7), .lit (.int .i64 b8), .lit (.int .i64 b9), .lit (.int .i64 b10), .lit (.int .i64 b11), .lit (.int .i64 b12), .lit (.int .i64 b13), .lit (.int .i64 b14), .lit (.int .i64 b15), .lit (.int .i64 b16), .lit (.int .i64 b17)]] => some (.lit (.bool (H Bool fun _ => decide ((⟨a0, a1, a2, ⟨⟨a3, a4, a5, a6⟩, a7, a8, a9, ⟨a10, a11, a12, a13⟩, ⟨a14, a15, a16, a17⟩⟩⟩ : Grt) = (⟨b0, b1, b2, ⟨⟨b3, b4, b5, b6⟩, b7, b8, b9, ⟨b10, b11, b12, b13⟩, ⟨b14, b15, b16, b17⟩⟩⟩ : Grt)))), [])
  | _ => none
theorem eok_eqGrant : EntryOk Tryz.prog e_eqGrant := pureM_ok (by unfold isBody; kernel_rfl) (by
  intro a r ob e hob
  split at e
  · rename_i a0 a1 a2 a3 a4 a5 a6 a7 a8 a9 a10 a11 a12 a13 a14 a15 a16 a17 b0 b1 b2 b3 b4 b5 b6 b7 b8 b9 b10 b11 b12 b13 b14 b15 b16 b17
    simp only [Option.some.injEq, Prod.mk.injEq] at e
    obtain ⟨rfl, rfl⟩ := e
    exact ConN.args (.cons .rfl (.cons .rfl .nil)) (c_eqGrant (⟨a0, a1, a2, ⟨⟨a3, a4, a5, a6⟩, a7, a8, a9, ⟨a10, a11, a12, a13⟩, ⟨a14, a15, a16, a17⟩⟩⟩ : Grt) (⟨b0, b1, b2, ⟨⟨b3, b4, b5, b6⟩, b7, b8, b9, ⟨b10, b11, b12, b13⟩, ⟨b14, b15, b16, b17⟩⟩⟩ : Grt) )
  · simp at e)
theorem w0 {x : Int} {n : Nat} (h : 0 ≤ x ∧ x ≤ 1048576) (hn : n ≤ 9223372036854775807) : IntKind.i64.wrap (x - (n : Int)) = x - (n : Int) := wi (by omega) (by omega)
theorem c_szGrantS (a : List Grt) (left : Int) (h0 : a.length ≤ 9223372036854775807) (h1 : Nlg a) (h2 : 0 ≤ left ∧ left ≤ 1048576) : ConN Tryz.prog 26 [.vec 18 (stdH Nat fun _ => (a).length) (rowsW stdH fun _ => a), .lit (.int .i64 left)] [] 0 (.lit (.int .i64 (stdH Int fun _ => szG left a))) [] [] := by
  have hB : Base Tryz.prog (tabΓ [e_szGrant]) tab := base_of tabOk (ents_cons eok_szGrant <| ents_nil)
  refine con_m (N := 27) hB (draw_ok hB mixed) Tryz.func26 rfl rfl (fun H => [.vec 18 (H Nat fun _ => (a).length) (rowsW H fun _ => a), .lit (.int .i64 left)]) (fun _ => []) 0 (fun H => .lit (.int .i64 (H Int fun _ => szG left a))) (fun H => []) (fun _ => []) 100 (by simp) (fun x hx => ?_) (by simp [lk]) (by omega) (by simp) ?_
  · simp only [List.mem_cons, List.not_mem_nil, or_false] at hx
    rcases hx with rfl | rfl
    · exact vl_bl okRW a _
    · exact .lit
  intro X hX hX0 H hH
  conv in Fin.chk _ _ => cbv
  try simp only [Plain_rowsA, Plain_rowsB, Plain_rowsC, Plain_rowsF, Plain_rowsG, Plain_rowsI, Plain_rowsS, Plain_rowsU, Fin.satC_ret, Fin.satC_br, Fin.satC_need, Fin.satC_again, AllP, and_true, true_and, upd, List.length_nil, List.length_cons, Nat.zero_add, if_true, ncast, Int.ofNat_eq_natCast]
  have e0 : IntKind.i64.wrap (left - (a.length : Nat)) = left - (a.length : Nat) := w0 h2 h0
  refine ⟨fun h => ?_, fun h => ?_⟩
  · simp only [hH, stdH, e0, decide_eq_true_eq] at h ⊢
    exact if_pos h
  simp only [hH, stdH, e0, decide_eq_false_iff_not] at h
  have eG : szG left a = szW (left - (a.length : Nat)) a := if_neg h
  rw [eG]
  have g0 : 0 ≤ a.length ∧ (0 ≤ left - (a.length : Nat) ∧ left - (a.length : Nat) ≤ 1048576) ∧ szW (left - (a.length : Nat)) a = szW (left - (a.length : Nat)) (a.drop 0) := ⟨Nat.zero_le _, by omega, by rw [List.drop_zero]⟩
  refine loop_a hB (draw_ok hB mixed) hX hX0 hH false (ι := { x : Int × Nat // x.2 ≤ a.length ∧ (0 ≤ x.1 ∧ x.1 ≤ 1048576) ∧ szW (left - (a.length : Nat)) a = szW x.1 (a.drop x.2) }) 100 (fun x => [.i (H Int fun _ => x.1.1), .i (H Int fun _ => 0), .i (H Int fun _ => (x.1.2 : Nat))]) (fun x => a.length - x.1.2) (⟨(left - (a.length : Nat), 0), g0⟩) ?_ ?_
  · (conv in matchSt _ _ _ _ => cbv); simp only [AllG, AllP, and_true, hH, stdH, ncast, Int.ofNat_eq_natCast, vrow_I, Arm.eta2, Fld.eta, Grp.eta]
    rw [e0]
    all_goals (repeat' (with_reducible refine And.intro ?_ ?_)) <;> (first | exact Eq.refl _ | exact True.intro | exact RowsEq.self okRW | exact RowsEq.ofT okRW rfl (Shp_zero _) rfl | exact RowsEq.snoc okRW rfl | exact List.length_append | exact c.rqN)
  · intro I hI x
    conv in Fin.chk _ _ => cbv
    try simp only [Plain_rowsA, Plain_rowsB, Plain_rowsC, Plain_rowsF, Plain_rowsG, Plain_rowsI, Plain_rowsS, Plain_rowsU, Fin.satC_ret, Fin.satC_br, Fin.satC_need, Fin.satC_again, AllP, and_true, true_and, upd, List.length_nil, List.length_cons, Nat.zero_add, if_true, ncast, Int.ofNat_eq_natCast]
    obtain ⟨⟨x, i⟩, hi, hx, he⟩ := x
    dsimp only at hi hx he
    simp only [hetaA hH, hetaW hH]
    refine ⟨fun h3 => ⟨?_, ⟨?_, ?_⟩, fun h4 => ?_, fun h4 => ?_⟩, fun h3 => ?_⟩
    · simp only [hH, stdH, decide_eq_true_eq, decide_eq_false_iff_not, Bool.not_eq_true', Bool.not_eq_false', peta, ncast, Int.ofNat_eq_natCast, beq_iff_eq, bne_iff_ne, beq_eq_false_iff_ne, bne_eq_false_iff_eq, ne_eq, Classical.not_not, Int.toNat_natCast, vrow_I, Arm.eta2, Fld.eta, Grp.eta] at h3 ⊢
      omega
    · simp only [hH, stdH, decide_eq_true_eq, decide_eq_false_iff_not, Bool.not_eq_true', Bool.not_eq_false', peta, ncast, Int.ofNat_eq_natCast, beq_iff_eq, bne_iff_ne, beq_eq_false_iff_ne, bne_eq_false_iff_eq, ne_eq, Classical.not_not, Int.toNat_natCast, vrow_I, Arm.eta2, Fld.eta, Grp.eta] at h3 ⊢
      exact h1.at (by omega)
    · try simp only [hH, stdH, decide_eq_true_eq, decide_eq_false_iff_not, Bool.not_eq_true', Bool.not_eq_false', peta, ncast, Int.ofNat_eq_natCast, beq_iff_eq, bne_iff_ne, beq_eq_false_iff_ne, bne_eq_false_iff_eq, ne_eq, Classical.not_not, Int.toNat_natCast, vrow_I, Arm.eta2, Fld.eta, Grp.eta]
      exact hx
    · simp only [hH, stdH, decide_eq_true_eq, Int.toNat_natCast] at h3 h4 ⊢
      have q : x - ((a.getD i default).name.size : Nat) < 0 := by
        refine Decidable.byContradiction fun q => ?_
        rw [if_neg q] at h4; exact q h4
      rw [he, szW_y (by omega) q]
    · simp only [hH, stdH, decide_eq_true_eq, decide_eq_false_iff_not, Int.toNat_natCast] at h3 h4
      have q : ¬ x - ((a.getD i default).name.size : Nat) < 0 := fun q => by
        rw [if_pos q] at h4; omega
      have hi' : i < a.length := by omega
      have g1 : i + 1 ≤ a.length ∧ (0 ≤ x - ((a.getD i default).name.size : Nat) ∧ x - ((a.getD i default).name.size : Nat) ≤ 1048576) ∧ szW (left - (a.length : Nat)) a = szW (x - ((a.getD i default).name.size : Nat)) (a.drop (i + 1)) := ⟨hi', by omega, by rw [he, szW_n hi' q]⟩
      refine ⟨⟨(x - ((a.getD i default).name.size : Nat), i + 1), g1⟩, by simp only; omega, ?_⟩
      rw [hI]
      (conv in matchSt _ _ _ _ => cbv); simp only [AllG, AllP, and_true, hH, stdH, ncast, Int.ofNat_eq_natCast, vrow_I, Arm.eta2, Fld.eta, Grp.eta]
      rw [w1 (by omega)]
      simp only [Int.toNat_natCast, if_neg q]
      all_goals (repeat' (with_reducible refine And.intro ?_ ?_)) <;> (first | exact Eq.refl _ | exact True.intro | exact RowsEq.self okRW | exact RowsEq.ofT okRW rfl (Shp_zero _) rfl | exact RowsEq.snoc okRW rfl | exact List.length_append | exact c.rqN)
    · simp only [hH, stdH, decide_eq_false_iff_not] at h3 ⊢
      obtain rfl : i = a.length := by omega
      rw [he, List.drop_length]; rfl
noncomputable def e_szGrantS : Entry := pureE 26 fun H a => match a with
  | [.vec 18 an af, .lit (.int .i64 left)] => some (.lit (.int .i64 (H Int fun _ => szG left (Tl rowW an af))), [H Prop fun _ => Shp rowW an af, H Prop fun _ => (Tl rowW an af).length ≤ 9223372036854775807, H Prop fun _ => Nlg (Tl rowW an af), H Prop fun _ => 0 ≤ left ∧ left ≤ 1048576])
  | _ => none
theorem eok_szGrantS : EntryOk Tryz.prog e_szGrantS := pureM_ok (by unfold isBody; kernel_rfl) (by
  intro a r ob e hob
  split at e
  · rename_i an af left
    simp only [Option.some.injEq, Prod.mk.injEq] at e
    obtain ⟨rfl, rfl⟩ := e
    exact ConN.args (.cons (.toT okRW rfl hob.1) (.cons .rfl .nil)) (c_szGrantS (Tl rowW an af) left hob.2.1 hob.2.2.1 hob.2.2.2.1)
  · simp at e)
theorem c_toGrantS (a : List Grt) (h0 : a.length ≤ 1048576) : ConN Tryz.prog 29 [.vec 18 (stdH Nat fun _ => (a).length) (rowsW stdH fun _ => a)] [] 0 (.slc 0 0 18 (stdH Nat fun _ => (a).length)) [.rows 18 (stdH Nat fun _ => (a).length) (rowsW stdH fun _ => a) 61] [] := by
  have hB : Base Tryz.prog (tabΓ [e_toGrant]) tabO := base_of tabOkO (ents_cons eok_toGrant <| ents_nil)
  refine con_m (N := 23) hB (draw_ok hB mixed) Tryz.func29 rfl rfl (fun H => [.vec 18 (H Nat fun _ => (a).length) (rowsW H fun _ => a)]) (fun _ => []) 0 (fun H => .slc 0 0 18 (H Nat fun _ => (a).length)) (fun H => [.rows 18 (H Nat fun _ => (a).length) (rowsW H fun _ => a) 61]) (fun _ => []) 200 (by simp) (fun x hx => ?_) (by simp [lk]) (by omega) (by simp) ?_
  · simp only [List.mem_cons, List.not_mem_nil, or_false] at hx
    rcases hx with rfl
    · exact vl_bl okRW a _
  intro X hX hX0 H hH
  conv in Fin.chk _ _ => cbv
  try simp only [Plain_rowsA, Plain_rowsB, Plain_rowsC, Plain_rowsF, Plain_rowsG, Plain_rowsI, Plain_rowsS, Plain_rowsU, Fin.satC_ret, Fin.satC_br, Fin.satC_need, Fin.satC_again, AllP, and_true, true_and, upd, List.length_nil, List.length_cons, Nat.zero_add, if_true, ncast, Int.ofNat_eq_natCast]
  refine ⟨?_, ?_⟩
  · try simp only [hH, stdH, decide_eq_true_eq, decide_eq_false_iff_not, Bool.not_eq_true', Bool.not_eq_false', peta, ncast, Int.ofNat_eq_natCast, beq_iff_eq, bne_iff_ne, beq_eq_false_iff_ne, bne_eq_false_iff_eq, ne_eq, Classical.not_not, Int.toNat_natCast, vrow_I, Arm.eta2, Fld.eta, Grp.eta]
    omega
  refine loop_a hB (draw_ok hB mixed) hX hX0 hH false (ι := { i : Nat // i ≤ a.length }) 200 (fun i => [.r (H Nat fun _ => (a.take i.1 ++ List.replicate (a.length - i.1) default).length) (rowsW H fun _ => a.take i.1 ++ List.replicate (a.length - i.1) default), .i (H Int fun _ => (i.1 : Nat))]) (fun i => a.length - i.1) (⟨0, by omega⟩) ?_ ?_
  · (conv in matchSt _ _ _ _ => cbv); simp only [AllG, AllP, and_true, hH, stdH, ncast, Int.ofNat_eq_natCast, vrow_I, Arm.eta2, Fld.eta, Grp.eta]
    simp only [List.take_zero, List.nil_append, Nat.sub_zero, Int.toNat_natCast]
    exact ⟨.zerosG okRW _ (fun j => rfl), rfl, trivial, .self okRW⟩
  · intro I hI i
    conv in Fin.chk _ _ => cbv
    try simp only [Plain_rowsA, Plain_rowsB, Plain_rowsC, Plain_rowsF, Plain_rowsG, Plain_rowsI, Plain_rowsS, Plain_rowsU, Fin.satC_ret, Fin.satC_br, Fin.satC_need, Fin.satC_again, AllP, and_true, true_and, upd, List.length_nil, List.length_cons, Nat.zero_add, if_true, ncast, Int.ofNat_eq_natCast]
    obtain ⟨i, hi⟩ := i
    refine ⟨fun h1 => ⟨?_, ?_, ?_, ⟨⟨i + 1, ?_⟩, by simp only; simp only [hH, stdH, decide_eq_true_eq, decide_eq_false_iff_not, Bool.not_eq_true', Bool.not_eq_false', peta, ncast, Int.ofNat_eq_natCast, beq_iff_eq, bne_iff_ne, beq_eq_false_iff_ne, bne_eq_false_iff_eq, ne_eq, Classical.not_not, Int.toNat_natCast, vrow_I, Arm.eta2, Fld.eta, Grp.eta] at h1; omega, ?_⟩⟩, fun h1 => ?_⟩
    · simp only [hH, stdH, decide_eq_true_eq, decide_eq_false_iff_not, Bool.not_eq_true', Bool.not_eq_false', peta, ncast, Int.ofNat_eq_natCast, beq_iff_eq, bne_iff_ne, beq_eq_false_iff_ne, bne_eq_false_iff_eq, ne_eq, Classical.not_not, Int.toNat_natCast, vrow_I, Arm.eta2, Fld.eta, Grp.eta] at h1 ⊢
      omega
    · simp only [hH, stdH, decide_eq_true_eq, decide_eq_false_iff_not, Bool.not_eq_true', Bool.not_eq_false', peta, ncast, Int.ofNat_eq_natCast, beq_iff_eq, bne_iff_ne, beq_eq_false_iff_ne, bne_eq_false_iff_eq, ne_eq, Classical.not_not, Int.toNat_natCast, vrow_I, Arm.eta2, Fld.eta, Grp.eta] at h1 ⊢
      omega
    · simp only [hH, stdH, decide_eq_true_eq, decide_eq_false_iff_not, Bool.not_eq_true', Bool.not_eq_false', peta, ncast, Int.ofNat_eq_natCast, beq_iff_eq, bne_iff_ne, beq_eq_false_iff_ne, bne_eq_false_iff_eq, ne_eq, Classical.not_not, Int.toNat_natCast, vrow_I, Arm.eta2, Fld.eta, Grp.eta] at h1 ⊢
      simp only [List.length_append, List.length_take, List.length_replicate]
      exact ⟨by omega, rfl⟩
    · simp only [hH, stdH, decide_eq_true_eq, decide_eq_false_iff_not, Bool.not_eq_true', Bool.not_eq_false', peta, ncast, Int.ofNat_eq_natCast, beq_iff_eq, bne_iff_ne, beq_eq_false_iff_ne, bne_eq_false_iff_eq, ne_eq, Classical.not_not, Int.toNat_natCast, vrow_I, Arm.eta2, Fld.eta, Grp.eta] at h1
      omega
    · simp only [hH, stdH, decide_eq_true_eq, decide_eq_false_iff_not, Bool.not_eq_true', Bool.not_eq_false', peta, ncast, Int.ofNat_eq_natCast, beq_iff_eq, bne_iff_ne, beq_eq_false_iff_ne, bne_eq_false_iff_eq, ne_eq, Classical.not_not, Int.toNat_natCast, vrow_I, Arm.eta2, Fld.eta, Grp.eta] at h1
      rw [hI]
      (conv in matchSt _ _ _ _ => cbv); simp only [AllG, AllP, and_true, hH, stdH, ncast, Int.ofNat_eq_natCast, vrow_I, Arm.eta2, Fld.eta, Grp.eta]
      have e2 : (List.take i a ++ List.replicate (a.length - i) (default : Grt)).length = a.length := by simp; omega
      rw [w1 (by omega)]
      simp only [Int.toNat_natCast]
      exact ⟨RowsEq.putG okRW (set_take (d := default) (show i < a.length by omega)), by all_goals (repeat' (with_reducible refine And.intro ?_ ?_)) <;> (first | exact Eq.refl _ | exact True.intro | exact RowsEq.self okRW | exact RowsEq.ofT okRW rfl (Shp_zero _) rfl | exact RowsEq.snoc okRW rfl | exact List.length_append | exact c.rqN)⟩
    · simp only [hH, stdH, decide_eq_true_eq, decide_eq_false_iff_not, Bool.not_eq_true', Bool.not_eq_false', peta, ncast, Int.ofNat_eq_natCast, beq_iff_eq, bne_iff_ne, beq_eq_false_iff_ne, bne_eq_false_iff_eq, ne_eq, Classical.not_not, Int.toNat_natCast, vrow_I, Arm.eta2, Fld.eta, Grp.eta] at h1 ⊢
      obtain rfl : i = a.length := by omega
      simp only [List.take_length, Nat.sub_self, List.replicate_zero, List.append_nil, Int.toNat_natCast]
      exact ⟨.self okRW, trivial⟩
noncomputable def e_toGrantS : Entry := pureN 29 fun H a => match a with
  | [.vec 18 an af] => some (fun nx => .slc nx 0 18 (H Nat fun _ => ((Tl rowW an af)).length), [.rows 18 (H Nat fun _ => ((Tl rowW an af)).length) (rowsW H fun _ => (Tl rowW an af)) 61], [H Prop fun _ => Shp rowW an af, H Prop fun _ => (Tl rowW an af).length ≤ 1048576])
  | _ => none
theorem eok_toGrantS : EntryOk Tryz.prog e_toGrantS := pureN_ok (by unfold isBody; kernel_rfl) (by
  intro a r nb ob e hob
  split at e
  · rename_i an af
    simp only [Option.some.injEq, Prod.mk.injEq] at e
    obtain ⟨rfl, rfl, rfl⟩ := e
    refine ⟨ConN.args (.cons (.toT okRW rfl hob.1) .nil) (c_toGrantS (Tl rowW an af) hob.2.1), fun x hx => ?_, fun nx => ?_, fun b hb => ?_⟩
    · simp only [List.mem_cons, List.not_mem_nil, or_false] at hx
      rcases hx with rfl
      · exact (hob.1).bl okRW _
    · (first | exact .slc ⟨by omega, by simp⟩ (by omega) | (refine .tup rfl (fun c x y hx hy => ?_); rcases c with _ | _ | _ | c <;> simp at hx hy <;> (subst hx; subst hy; first | exact .slc ⟨by omega, by simp⟩ (by omega) | exact .pl .lit | exact .pl (blq_ok 4 rfl))) | (refine .agg rfl (fun c x y hx hy => ?_); rcases c with _ | _ | _ | c <;> simp at hx hy <;> (subst hx; subst hy; first | exact .slc ⟨by omega, by simp⟩ (by omega) | exact .pl .lit | exact .pl (blq_ok 4 rfl))))
    · simp only [List.mem_cons, List.not_mem_nil, or_false] at hb; subst hb; exact bT_bl okRW _ (fun _ => (Tl rowW an af)) _
  · simp at e)
theorem c_eqGrantS (a : List Grt) (b : List Grt) (h0 : a.length ≤ 100000000) : ConN Tryz.prog 33 [.vec 18 (stdH Nat fun _ => (a).length) (rowsW stdH fun _ => a), .vec 18 (stdH Nat fun _ => (b).length) (rowsW stdH fun _ => b)] [] 0 (.lit (.bool (stdH Bool fun _ => decide (a = b)))) [] [] := by
  have hB : Base Tryz.prog (tabΓ [e_eqGrant]) tab := base_of tabOk (ents_cons eok_eqGrant <| ents_nil)
  refine con_m (N := 27) hB (draw_ok hB mixed) Tryz.func33 rfl rfl (fun H => [.vec 18 (H Nat fun _ => (a).length) (rowsW H fun _ => a), .vec 18 (H Nat fun _ => (b).length) (rowsW H fun _ => b)]) (fun _ => []) 0 (fun H => .lit (.bool (H Bool fun _ => decide (a = b)))) (fun H => []) (fun _ => []) 100 (by simp) (fun x hx => ?_) (by simp [lk]) (by omega) (by simp) ?_
  · simp only [List.mem_cons, List.not_mem_nil, or_false] at hx
    rcases hx with rfl | rfl
    · exact vl_bl okRW a _
    · exact vl_bl okRW b _
  intro X hX hX0 H hH
  conv in Fin.chk _ _ => cbv
  try simp only [Plain_rowsA, Plain_rowsB, Plain_rowsC, Plain_rowsF, Plain_rowsG, Plain_rowsI, Plain_rowsS, Plain_rowsU, Fin.satC_ret, Fin.satC_br, Fin.satC_need, Fin.satC_again, AllP, and_true, true_and, upd, List.length_nil, List.length_cons, Nat.zero_add, if_true, ncast, Int.ofNat_eq_natCast]
  refine ⟨fun h => ?_, fun h => ?_⟩
  · simp only [hH, stdH, decide_eq_true_eq, decide_eq_false_iff_not, Bool.not_eq_true', Bool.not_eq_false', peta, ncast, Int.ofNat_eq_natCast, beq_iff_eq, bne_iff_ne, beq_eq_false_iff_ne, bne_eq_false_iff_eq, ne_eq, Classical.not_not, Int.toNat_natCast, vrow_I, Arm.eta2, Fld.eta, Grp.eta] at h ⊢
    rintro rfl; exact h rfl
  simp only [hH, stdH, decide_eq_true_eq, decide_eq_false_iff_not, Bool.not_eq_true', Bool.not_eq_false', peta, ncast, Int.ofNat_eq_natCast, beq_iff_eq, bne_iff_ne, beq_eq_false_iff_ne, bne_eq_false_iff_eq, ne_eq, Classical.not_not, Int.toNat_natCast, vrow_I, Arm.eta2, Fld.eta, Grp.eta] at h
  refine loop_a hB (draw_ok hB mixed) hX hX0 hH false (ι := { i : Nat // i ≤ a.length ∧ ∀ j, j < i → a.getD j default = b.getD j default }) 100 (fun i => [.i (H Int fun _ => (i.1 : Nat))]) (fun i => a.length - i.1) (⟨0, by omega, by omega⟩) ?_ ?_
  · (conv in matchSt _ _ _ _ => cbv); simp only [AllG, AllP, and_true, hH, stdH, ncast, Int.ofNat_eq_natCast, vrow_I, Arm.eta2, Fld.eta, Grp.eta]
    all_goals (repeat' (with_reducible refine And.intro ?_ ?_)) <;> (first | exact Eq.refl _ | exact True.intro | exact RowsEq.self okRW | exact RowsEq.ofT okRW rfl (Shp_zero _) rfl | exact RowsEq.snoc okRW rfl | exact List.length_append | exact c.rqN)
  · intro I hI i
    conv in Fin.chk _ _ => cbv
    try simp only [Plain_rowsA, Plain_rowsB, Plain_rowsC, Plain_rowsF, Plain_rowsG, Plain_rowsI, Plain_rowsS, Plain_rowsU, Fin.satC_ret, Fin.satC_br, Fin.satC_need, Fin.satC_again, AllP, and_true, true_and, upd, List.length_nil, List.length_cons, Nat.zero_add, if_true, ncast, Int.ofNat_eq_natCast]
    obtain ⟨i, hi, hj⟩ := i
    simp only [hetaA hH, hetaW hH]
    refine ⟨fun h1 => ⟨?_, ?_, fun h2 => ?_, fun h2 => ?_⟩, fun h1 => ?_⟩
    · simp only [hH, stdH, decide_eq_true_eq, decide_eq_false_iff_not, Bool.not_eq_true', Bool.not_eq_false', peta, ncast, Int.ofNat_eq_natCast, beq_iff_eq, bne_iff_ne, beq_eq_false_iff_ne, bne_eq_false_iff_eq, ne_eq, Classical.not_not, Int.toNat_natCast, vrow_I, Arm.eta2, Fld.eta, Grp.eta] at h1 ⊢
      omega
    · simp only [hH, stdH, decide_eq_true_eq, decide_eq_false_iff_not, Bool.not_eq_true', Bool.not_eq_false', peta, ncast, Int.ofNat_eq_natCast, beq_iff_eq, bne_iff_ne, beq_eq_false_iff_ne, bne_eq_false_iff_eq, ne_eq, Classical.not_not, Int.toNat_natCast, vrow_I, Arm.eta2, Fld.eta, Grp.eta] at h1 ⊢
      omega
    · simp only [hH, stdH, decide_eq_true_eq, decide_eq_false_iff_not, Bool.not_eq_true', Bool.not_eq_false', peta, ncast, Int.ofNat_eq_natCast, beq_iff_eq, bne_iff_ne, beq_eq_false_iff_ne, bne_eq_false_iff_eq, ne_eq, Classical.not_not, Int.toNat_natCast, vrow_I, Arm.eta2, Fld.eta, Grp.eta] at h2 ⊢
      rintro rfl; exact h2 rfl
    · simp only [hH, stdH, decide_eq_true_eq, decide_eq_false_iff_not, Bool.not_eq_true', Bool.not_eq_false', peta, ncast, Int.ofNat_eq_natCast, beq_iff_eq, bne_iff_ne, beq_eq_false_iff_ne, bne_eq_false_iff_eq, ne_eq, Classical.not_not, Int.toNat_natCast, vrow_I, Arm.eta2, Fld.eta, Grp.eta] at h1 h2
      refine ⟨⟨i + 1, by omega, fun j hj' => ?_⟩, by simp only; omega, ?_⟩
      · rcases Nat.lt_succ_iff_lt_or_eq.1 hj' with h | rfl
        · exact hj j h
        · exact h2
      · rw [hI]
        (conv in matchSt _ _ _ _ => cbv); simp only [AllG, AllP, and_true, hH, stdH, ncast, Int.ofNat_eq_natCast, vrow_I, Arm.eta2, Fld.eta, Grp.eta]
        rw [w1 (by omega)]
        all_goals (repeat' (with_reducible refine And.intro ?_ ?_)) <;> (first | exact Eq.refl _ | exact True.intro | exact RowsEq.self okRW | exact RowsEq.ofT okRW rfl (Shp_zero _) rfl | exact RowsEq.snoc okRW rfl | exact List.length_append | exact c.rqN)
    · simp only [hH, stdH, decide_eq_true_eq, decide_eq_false_iff_not, Bool.not_eq_true', Bool.not_eq_false', peta, ncast, Int.ofNat_eq_natCast, beq_iff_eq, bne_iff_ne, beq_eq_false_iff_ne, bne_eq_false_iff_eq, ne_eq, Classical.not_not, Int.toNat_natCast, vrow_I, Arm.eta2, Fld.eta, Grp.eta] at h1 ⊢
      obtain rfl : i = a.length := by omega
      exact list_ext_getD default (by omega) hj
noncomputable def e_eqGrantS : Entry := pureE 33 fun H a => match a with
  | [.vec 18 an af, .vec 18 bn bf] => some (.lit (.bool (H Bool fun _ => decide ((Tl rowW an af) = (Tl rowW bn bf)))), [H Prop fun _ => Shp rowW an af, H Prop fun _ => Shp rowW bn bf, H Prop fun _ => (Tl rowW an af).length ≤ 100000000])
  | _ => none
theorem eok_eqGrantS : EntryOk Tryz.prog e_eqGrantS := pureM_ok (by unfold isBody; kernel_rfl) (by
  intro a r ob e hob
  split at e
  · rename_i an af bn bf
    simp only [Option.some.injEq, Prod.mk.injEq] at e
    obtain ⟨rfl, rfl⟩ := e
    exact ConN.args (.cons (.toT okRW rfl hob.1) (.cons (.toT okRW rfl hob.2.1) .nil)) (c_eqGrantS (Tl rowW an af) (Tl rowW bn bf) hob.2.2.1)
  · simp at e)
theorem c_eqRegister (a : Rgr) (b : Rgr) (h0 : a.gs.length ≤ 100000000) : ConN Tryz.prog 10 [aT rowJ stdH fun _ => a, aT rowJ stdH fun _ => b] [] 0 (.lit (.bool (stdH Bool fun _ => decide (a.gs = b.gs)))) [] [] := by
  have hB : Base Tryz.prog (tabΓ [e_eqGrantS]) tab := base_of tabOk (ents_cons eok_eqGrantS <| ents_nil)
  refine con_m (N := 11) hB (draw_ok hB mixed) Tryz.func10 rfl rfl (fun H => [aT rowJ H fun _ => a, aT rowJ H fun _ => b]) (fun _ => []) 0 (fun H => .lit (.bool (H Bool fun _ => decide (a.gs = b.gs)))) (fun H => []) (fun _ => []) 100 (by simp) (fun x hx => ?_) (by simp [lk]) (by omega) (by simp) ?_
  · simp only [List.mem_cons, List.not_mem_nil, or_false] at hx
    rcases hx with rfl | rfl
    · exact aT_bl okRJ _ _
    · exact aT_bl okRJ _ _
  intro X hX hX0 H hH
  conv in Fin.chk _ _ => cbv
  try simp only [Plain_rowsA, Plain_rowsB, Plain_rowsC, Plain_rowsF, Plain_rowsG, Plain_rowsI, Plain_rowsS, Plain_rowsU, Fin.satC_ret, Fin.satC_br, Fin.satC_need, Fin.satC_again, AllP, and_true, true_and, upd, List.length_nil, List.length_cons, Nat.zero_add, if_true, ncast, Int.ofNat_eq_natCast]
  subst hH
  simp only [stdH, Tl_W]
  exact ⟨⟨Shp_W _ _, Shp_W _ _, h0⟩, fun h => by simpa using h, fun h => by simpa using h⟩
noncomputable def e_eqRegister : Entry := pureE 10 fun H a => match a with
  | [.agg [.vec 18 a0n a0f], .agg [.vec 18 b0n b0f]] => some (.lit (.bool (H Bool fun _ => decide ((⟨(Tl rowW a0n a0f)⟩ : Rgr).gs = (⟨(Tl rowW b0n b0f)⟩ : Rgr).gs))), [H Prop fun _ => Shp rowW a0n a0f, H Prop fun _ => Shp rowW b0n b0f, H Prop fun _ => (⟨(Tl rowW a0n a0f)⟩ : Rgr).gs.length ≤ 100000000])
  | _ => none
theorem eok_eqRegister : EntryOk Tryz.prog e_eqRegister := pureM_ok (by unfold isBody; kernel_rfl) (by
  intro a r ob e hob
  split at e
  · rename_i a0n a0f b0n b0f
    simp only [Option.some.injEq, Prod.mk.injEq] at e
    obtain ⟨rfl, rfl⟩ := e
    exact ConN.args (.cons (.agg (.cons (.toT okRW rfl hob.1) .nil)) (.cons (.agg (.cons (.toT okRW rfl hob.2.1) .nil)) .nil)) (c_eqRegister (⟨(Tl rowW a0n a0f)⟩ : Rgr) (⟨(Tl rowW b0n b0f)⟩ : Rgr) hob.2.2.1)
  · simp at e)
theorem c_toRegister (a : Rgr) (h0 : a.gs.length ≤ 1048576) : ConN Tryz.prog 8 [aT rowJ stdH fun _ => a] [] 0 (.agg [.slc 0 0 18 (stdH Nat fun _ => (a.gs).length)]) [.rows 18 (stdH Nat fun _ => (a.gs).length) (rowsW stdH fun _ => a.gs) 61] [] := by
  have hB : Base Tryz.prog (tabΓ [e_toGrantS]) tabO := base_of tabOkO (ents_cons eok_toGrantS <| ents_nil)
  refine con_m (N := 9) hB (draw_ok hB mixed) Tryz.func8 rfl rfl (fun H => [aT rowJ H fun _ => a]) (fun _ => []) 0 (fun H => .agg [.slc 0 0 18 (H Nat fun _ => (a.gs).length)]) (fun H => [.rows 18 (H Nat fun _ => (a.gs).length) (rowsW H fun _ => a.gs) 61]) (fun _ => []) 200 (by simp) (fun x hx => ?_) (by simp [lk]) (by omega) (by simp) ?_
  · simp only [List.mem_cons, List.not_mem_nil, or_false] at hx
    rcases hx with rfl
    · exact aT_bl okRJ _ _
  intro X hX hX0 H hH
  conv in Fin.chk _ _ => cbv
  try simp only [Plain_rowsA, Plain_rowsB, Plain_rowsC, Plain_rowsF, Plain_rowsG, Plain_rowsI, Plain_rowsS, Plain_rowsU, Fin.satC_ret, Fin.satC_br, Fin.satC_need, Fin.satC_again, AllP, and_true, true_and, upd, List.length_nil, List.length_cons, Nat.zero_add, if_true, ncast, Int.ofNat_eq_natCast]
  subst hH
  simp only [stdH, Tl_W]
  exact ⟨⟨Shp_W _ _, h0⟩, RowsEq.self okRW, trivial⟩
noncomputable def e_toRegister : Entry := pureN 8 fun H a => match a with
  | [.agg [.vec 18 a0n a0f]] => some (fun nx => .agg [.slc nx 0 18 (H Nat fun _ => ((⟨(Tl rowW a0n a0f)⟩ : Rgr).gs).length)], [.rows 18 (H Nat fun _ => ((⟨(Tl rowW a0n a0f)⟩ : Rgr).gs).length) (rowsW H fun _ => (⟨(Tl rowW a0n a0f)⟩ : Rgr).gs) 61], [H Prop fun _ => Shp rowW a0n a0f, H Prop fun _ => (⟨(Tl rowW a0n a0f)⟩ : Rgr).gs.length ≤ 1048576])
  | _ => none
theorem eok_toRegister : EntryOk Tryz.prog e_toRegister := pureN_ok (by unfold isBody; kernel_rfl) (by
  intro a r nb ob e hob
  split at e
  · rename_i a0n a0f
    simp only [Option.some.injEq, Prod.mk.injEq] at e
    obtain ⟨rfl, rfl, rfl⟩ := e
    refine ⟨ConN.args (.cons (.agg (.cons (.toT okRW rfl hob.1) .nil)) .nil) (c_toRegister (⟨(Tl rowW a0n a0f)⟩ : Rgr) hob.2.1), fun x hx => ?_, fun nx => ?_, fun b hb => ?_⟩
    · simp only [List.mem_cons, List.not_mem_nil, or_false] at hx
      rcases hx with rfl
      · exact (.agg fun c hc => (by
        simp only [List.mem_cons, List.not_mem_nil, or_false] at hc
        rcases hc with rfl
        · exact (hob.1).bl okRW _))
    · (first | exact .slc ⟨by omega, by simp⟩ (by omega) | (refine .tup rfl (fun c x y hx hy => ?_); rcases c with _ | _ | _ | c <;> simp at hx hy <;> (subst hx; subst hy; first | exact .slc ⟨by omega, by simp⟩ (by omega) | exact .pl .lit | exact .pl (blq_ok 4 rfl))) | (refine .agg rfl (fun c x y hx hy => ?_); rcases c with _ | _ | _ | c <;> simp at hx hy <;> (subst hx; subst hy; first | exact .slc ⟨by omega, by simp⟩ (by omega) | exact .pl .lit | exact .pl (blq_ok 4 rfl))))
    · simp only [List.mem_cons, List.not_mem_nil, or_false] at hb; subst hb; exact bT_bl okRW _ (fun _ => (⟨(Tl rowW a0n a0f)⟩ : Rgr).gs) _
  · simp at e)
theorem c_szRegister (a : Rgr) (left : Int) (h0 : a.gs.length ≤ 9223372036854775807) (h1 : Nlg a.gs) (h2 : 0 ≤ left ∧ left ≤ 1048576) : ConN Tryz.prog 6 [aT rowJ stdH fun _ => a, .lit (.int .i64 left)] [] 0 (.lit (.int .i64 (stdH Int fun _ => szG left a.gs))) [] [] := by
  have hB : Base Tryz.prog (tabΓ [e_szGrantS]) tab := base_of tabOk (ents_cons eok_szGrantS <| ents_nil)
  refine con_m (N := 12) hB (draw_ok hB mixed) Tryz.func6 rfl rfl (fun H => [aT rowJ H fun _ => a, .lit (.int .i64 left)]) (fun _ => []) 0 (fun H => .lit (.int .i64 (H Int fun _ => szG left a.gs))) (fun H => []) (fun _ => []) 100 (by simp) (fun x hx => ?_) (by simp [lk]) (by omega) (by simp) ?_
  · simp only [List.mem_cons, List.not_mem_nil, or_false] at hx
    rcases hx with rfl | rfl
    · exact aT_bl okRJ _ _
    · exact .lit
  intro X hX hX0 H hH
  conv in Fin.chk _ _ => cbv
  try simp only [Plain_rowsA, Plain_rowsB, Plain_rowsC, Plain_rowsF, Plain_rowsG, Plain_rowsI, Plain_rowsS, Plain_rowsU, Fin.satC_ret, Fin.satC_br, Fin.satC_need, Fin.satC_again, AllP, and_true, true_and, upd, List.length_nil, List.length_cons, Nat.zero_add, if_true, ncast, Int.ofNat_eq_natCast]
  subst hH
  simp only [stdH, Tl_W, decide_eq_true_eq, decide_eq_false_iff_not]
  refine ⟨⟨Shp_W _ _, h0, h1, h2⟩, fun h => ?_, fun h => trivial⟩
  exact szG_neg h
noncomputable def e_szRegister : Entry := pureE 6 fun H a => match a with
  | [.agg [.vec 18 a0n a0f], .lit (.int .i64 left)] => some (.lit (.int .i64 (H Int fun _ => szG left (⟨(Tl rowW a0n a0f)⟩ : Rgr).gs)), [H Prop fun _ => Shp rowW a0n a0f, H Prop fun _ => (⟨(Tl rowW a0n a0f)⟩ : Rgr).gs.length ≤ 9223372036854775807, H Prop fun _ => Nlg (⟨(Tl rowW a0n a0f)⟩ : Rgr).gs, H Prop fun _ => 0 ≤ left ∧ left ≤ 1048576])
  | _ => none
theorem eok_szRegister : EntryOk Tryz.prog e_szRegister := pureM_ok (by unfold isBody; kernel_rfl) (by
  intro a r ob e hob
  split at e
  · rename_i a0n a0f left
    simp only [Option.some.injEq, Prod.mk.injEq] at e
    obtain ⟨rfl, rfl⟩ := e
    exact ConN.args (.cons (.agg (.cons (.toT okRW rfl hob.1) .nil)) (.cons .rfl .nil)) (c_szRegister (⟨(Tl rowW a0n a0f)⟩ : Rgr) left hob.2.1 hob.2.2.1 hob.2.2.2.1)
  · simp at e)
theorem rowsW_len (L : List Grt) (j : Nat) : (rowsW stdH (fun _ => L) j).length = 18 := rfl
theorem c_lawFormatRegister (r : Rgr) (h0 : r.gs.length ≤ 9223372036854775807) (h1 : Nlg r.gs) : ConN Tryz.prog 3 [aT rowJ stdH fun _ => r] [] 0 (.lit (.bool (stdH Bool fun _ => true))) [] [] := by
  have hB : Base Tryz.prog (tabΓ [e_szRegister, e_toRegister, e_formatR, e_formatRS, e_eqRegister]) tabO := base_of tabOkO (ents_cons eok_szRegister <| ents_cons eok_toRegister <| ents_cons eok_formatR <| ents_cons eok_formatRS <| ents_cons eok_eqRegister <| ents_nil)
  refine con_m (N := 40) hB (draw_ok hB mixed) Tryz.func3 rfl rfl (fun H => [aT rowJ H fun _ => r]) (fun _ => []) 0 (fun H => .lit (.bool (H Bool fun _ => true))) (fun H => []) (fun _ => []) 600 (by simp) (fun x hx => ?_) (by simp [lk]) (by omega) (by simp) ?_
  · simp only [List.mem_cons, List.not_mem_nil, or_false] at hx
    rcases hx with rfl
    · exact aT_bl okRJ _ _
  intro X hX hX0 H hH
  conv in Fin.chk _ _ => cbv
  try simp only [Plain_rowsA, Plain_rowsB, Plain_rowsC, Plain_rowsF, Plain_rowsG, Plain_rowsI, Plain_rowsS, Plain_rowsU, Fin.satC_ret, Fin.satC_br, Fin.satC_need, Fin.satC_again, AllP, and_true, true_and, upd, List.length_nil, List.length_cons, Nat.zero_add, if_true, ncast, Int.ofNat_eq_natCast]
  subst hH
  simp only [stdH, Tl_W, Shp_W, rowsW_len, implies_true, and_true, true_and]
  by_cases e1 : szG 1048576 r.gs < 0
  · simp only [decide_eq_true e1]
    repeat' (first | exact trivial | rfl | omega | exact h1 | refine And.intro ?_ ?_ | (intro h; first | (simp at h; done) | skip))
  have e2 := szG_ok e1
  have e3 : Nsz r.gs := ⟨fun g hg => Nat.le_trans (e2.2 g hg) (by omega)⟩
  simp only [decide_eq_false e1, beq_self_eq_true, bne_self_eq_false, Bool.not_true, cond_false, decide_true]
  repeat' (first | exact trivial | rfl | omega | exact h1 | exact e3 | refine And.intro ?_ ?_ | (intro h; first | (simp at h; done) | skip))
theorem law_FormatRegister (r : Rgr) (h : r.gs.length ≤ 9223372036854775807) (h1 : Nlg r.gs) : ConN Tryz.prog 3 [aT rowJ stdH fun _ => r] [] 0 (.lit (.bool true)) [] [] := c_lawFormatRegister r h h1

end Go.Proofs.YtgjjedpoclhkfaaGreatDoor.AM

