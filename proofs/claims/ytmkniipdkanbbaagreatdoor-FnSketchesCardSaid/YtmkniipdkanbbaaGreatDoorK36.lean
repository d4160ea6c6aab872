/- Lemmas and contracts (Skz); conditions: none. -/
import Derived.Test.YtmkniipdkanbbaaGreatDoorK04
import Derived.Test.YtmkniipdkanbbaaGreatDoorK32
import Derived.Test.YtmkniipdkanbbaaGreatDoorK34
set_option linter.unusedVariables false
set_option linter.unusedSimpArgs false
set_option maxRecDepth 100000
set_option maxHeartbeats 4000000
set_option cbv.maxSteps 3000000
namespace Go.Proofs.YtmkniipdkanbbaaGreatDoor.AM
/- Sketches read by the program; conditions: none. -/
def nilK (ks : List Nat) : List AV → List AV
  | .agg l :: r => .agg (nilA ks l) :: r
  | l => l
theorem nilK_eq (ks : List Nat) (l : List AV) : AEqL l (nilK ks l) := by
  unfold nilK
  split
  · exact .cons (AEq.agg (nilA_eq ks _)) (AEqL.rfl _)
  · exact AEqL.rfl _
def nilKE (ks : List Nat) (e : Entry) : Entry := ⟨e.f, fun H a h n => e.fn H (nilK ks a) h n⟩
theorem nilKE_ok {P : Program} {ks : List Nat} {e : Entry} (h : EntryOk P e) : EntryOk P (nilKE ks e) := ⟨h.body, fun a hp n r nb rd u ob he hob => by
  obtain ⟨h1, h0, h2, h3⟩ := h.con _ _ _ _ _ _ _ _ he hob
  exact ⟨h1, h0, h2, h3.args (nilK_eq ks a)⟩⟩
noncomputable def e_SketchTextN : Entry := nilKE [0, 0, 0, 0, 0, 0, 0, 0, 0, 0, 0, 0, 0, 0, 0, 2] e_SketchText
theorem eok_SketchTextN : EntryOk Tryz.prog e_SketchTextN := nilKE_ok eok_SketchText
theorem cutB_add (s p : ByteArray) : (cutB s p).1.size + (cutB s p).2.1.size ≤ s.size := by
  unfold cutB Lib.cut
  split
  · show (List.take _ _).length + (List.drop _ _).length ≤ s.data.toList.length
    rw [List.length_take, List.length_drop]; omega
  · exact Nat.le_refl _
theorem tkn_add (s : ByteArray) : (tkn s).f.size + (tkn s).o.size + (tkn s).n.size + (tkn s).r.size ≤ s.size := by
  have s1 := cutB_add s comB
  have s2 := cutB_add (cutB s comB).2.1 abvB
  have s3 := cutB_add (cutB s comB).2.1 btwB
  have s4 := cutB_add (cutB (cutB s comB).2.1 abvB).1 chgB
  have s5 := cutB_add (cutB (cutB s comB).2.1 btwB).1 chgB
  have e0 : ByteArray.empty.size = 0 := rfl
  cases h : (bif decide (((wordsB (cutB s comB).2.1).length : Int) < 2) then true else !isIn ((wordsB (cutB s comB).2.1).getD 1 ByteArray.empty) ordL)
  · cases h2 : (cutB (cutB s comB).2.1 abvB).2.2
    · rw [tkn_n1 h h2]
      show (cutB s comB).1.size + (cutB (cutB (cutB s comB).2.1 btwB).1 chgB).1.size + (cutB (cutB (cutB s comB).2.1 btwB).1 chgB).2.1.size + (cutB (cutB s comB).2.1 btwB).2.1.size ≤ _
      omega
    · rw [tkn_n2 h h2]
      show (cutB s comB).1.size + (cutB (cutB (cutB s comB).2.1 abvB).1 chgB).1.size + (cutB (cutB (cutB s comB).2.1 abvB).1 chgB).2.1.size + (cutB (cutB s comB).2.1 abvB).2.1.size ≤ _
      omega
  · rw [tkn_y h]
    show (cutB s comB).1.size + ByteArray.empty.size + ByteArray.empty.size + (cutB s comB).2.1.size ≤ _
    omega
theorem cutL_sz (l : List Slo) (p : ByteArray) : (cutL l p).1.size ≤ p.size := by
  unfold cutL
  split
  · exact befS_sz _ _
  · exact Nat.le_refl _
theorem cutK_sz (p : ByteArray) : (cutK p).1.size ≤ p.size := cutL_sz allY p
theorem c_joinedL (p : Pcs) (h0 : p.f.size + p.o.size + p.n.size + p.r.size ≤ 2000000) : ConN Tryz.prog 29 [.agg [.lit (.string (stdH ByteArray fun _ => p.f)), .lit (.string (stdH ByteArray fun _ => p.o)), .lit (.string (stdH ByteArray fun _ => p.n)), .lit (.string (stdH ByteArray fun _ => p.r)), .lit (.bool (stdH Bool fun _ => p.c))]] [] 0 (.lit (.string (stdH ByteArray fun _ => jnT p))) [] [] := by
  have hB : Base Tryz.prog (tabΓ []) tab := base_of tabOk (ents_nil)
  refine con_m (N := 56) hB (draw_ok hB mixed) Tryz.func29 rfl rfl (fun H => [.agg [.lit (.string (H ByteArray fun _ => p.f)), .lit (.string (H ByteArray fun _ => p.o)), .lit (.string (H ByteArray fun _ => p.n)), .lit (.string (H ByteArray fun _ => p.r)), .lit (.bool (H Bool fun _ => p.c))]]) (fun _ => []) 0 (fun H => .lit (.string (H ByteArray fun _ => jnT p))) (fun H => []) (fun _ => []) 160 (by simp) (fun x hx => ?_) (by simp [lk]) (by omega) (by simp) ?_
  · simp only [zqu] at hx
    rcases hx with rfl
    · exact blq_ok 4 rfl
  intro X hX hX0 H hH
  conv in Fin.chk _ _ => cbv
  try simp only [zqs, Plain_rowsC, Plain_rowsY, zqx, AllP, zqw, upd, if_true]
  subst hH
  simp only [stdH]
  have z1 := h0
  obtain ⟨pf, po, pn, pr, pc⟩ := p
  simp only at z1 ⊢
  unfold jnT
  simp only
  have eo : (po.toList == (⟨⟨[]⟩⟩ : ByteArray).toList) = emp po := rfl
  have en : (pn.toList == (⟨⟨[]⟩⟩ : ByteArray).toList) = emp pn := rfl
  have er : (pr.toList == (⟨⟨[]⟩⟩ : ByteArray).toList) = emp pr := rfl
  simp only [eo, en, er]
  generalize emp po = b1
  generalize emp pn = b2
  generalize emp pr = b3
  cases b1 <;> cases b2 <;> cases b3 <;> cases pc
  all_goals simp only [cond_true, cond_false, Bool.not_true, Bool.not_false, if_true, Bool.false_eq_true, if_false, ByteArray.append_assoc, app_empty, empty_app]
  all_goals repeat' (first | exact trivial | rfl | (intro h; first | (cases h; done) | skip) | refine And.intro ?_ ?_ | (simp only [ByteArray.size_append, bsz, List.length_cons, List.length_nil]; omega))
noncomputable def e_joinedL : Entry := pureE 29 fun H a => match a with
  | [.agg [.lit (.string p0), .lit (.string p1), .lit (.string p2), .lit (.string p3), .lit (.bool p4)]] => some (.lit (.string (H ByteArray fun _ => jnT (⟨p0, p1, p2, p3, p4⟩ : Pcs))), [H Prop fun _ => (⟨p0, p1, p2, p3, p4⟩ : Pcs).f.size + (⟨p0, p1, p2, p3, p4⟩ : Pcs).o.size + (⟨p0, p1, p2, p3, p4⟩ : Pcs).n.size + (⟨p0, p1, p2, p3, p4⟩ : Pcs).r.size ≤ 2000000])
  | _ => none
theorem eok_joinedL : EntryOk Tryz.prog e_joinedL := pureM_ok (by unfold isBody; kernel_rfl) (by
  intro a r ob e hob
  split at e
  · rename_i p0 p1 p2 p3 p4
    simp only [zqt] at e
    obtain ⟨rfl, rfl⟩ := e
    exact ConN.args (.cons .rfl .nil) (c_joinedL (⟨p0, p1, p2, p3, p4⟩ : Pcs) hob.1)
  · simp at e)
theorem emp_eq {t : ByteArray} (h : emp t = true) : t = ByteArray.empty := by
  have h0 := (emp_iff t).1 h
  apply ByteArray.ext; apply Array.ext'
  exact List.eq_nil_of_length_eq_zero (by rw [Array.length_toList]; exact h0)
theorem TZ0 (f : Nat → List AV) : Tl rowY 0 f = [] := rfl
theorem TZ1 (x : Slo) : Tl rowY 1 (rowsOf 2 [AV.lit (.int .i64 x.m), AV.lit (.int .i64 x.n)]) = [x] := rfl
theorem SZ1 (x : Slo) : Shp rowY 1 (rowsOf 2 [AV.lit (.int .i64 x.m), AV.lit (.int .i64 x.n)]) := ⟨fun j hj => by
  obtain rfl : j = 0 := by omega
  rfl⟩
theorem LZ1 (x : Slo) : (∀ j, j < 1 → (rowsOf 2 [AV.lit (.int .i64 x.m), AV.lit (.int .i64 x.n)] j).length = 2) = True := eq_true fun j hj => by
  obtain rfl : j = 0 := by omega
  rfl
theorem QZ1 (x : Slo) : RowsEq 2 [x].length (rowsY stdH fun _ => [x]) 1 (rowsOf 2 [AV.lit (.int .i64 x.m), AV.lit (.int .i64 x.n)]) := RowsEq.ofT okRY rfl (SZ1 x) rfl
theorem TZ2 (x y : Slo) : Tl rowY (1 + 1) (app 1 (rowsOf 2 [AV.lit (.int .i64 x.m), AV.lit (.int .i64 x.n)]) (rowsOf 2 [AV.lit (.int .i64 y.m), AV.lit (.int .i64 y.n)])) = [x, y] := rfl
theorem SZ2 (x y : Slo) : Shp rowY (1 + 1) (app 1 (rowsOf 2 [AV.lit (.int .i64 x.m), AV.lit (.int .i64 x.n)]) (rowsOf 2 [AV.lit (.int .i64 y.m), AV.lit (.int .i64 y.n)])) := ⟨fun j hj => by
  rcases (by omega : j = 0 ∨ j = 1) with rfl | rfl <;> rfl⟩
theorem LZ2 (x y : Slo) : (∀ j, j < (1 + 1) → ((app 1 (rowsOf 2 [AV.lit (.int .i64 x.m), AV.lit (.int .i64 x.n)]) (rowsOf 2 [AV.lit (.int .i64 y.m), AV.lit (.int .i64 y.n)])) j).length = 2) = True := eq_true fun j hj => by
  rcases (by omega : j = 0 ∨ j = 1) with rfl | rfl <;> rfl
theorem QZ2 (x y : Slo) : RowsEq 2 [x, y].length (rowsY stdH fun _ => [x, y]) (1 + 1) (app 1 (rowsOf 2 [AV.lit (.int .i64 x.m), AV.lit (.int .i64 x.n)]) (rowsOf 2 [AV.lit (.int .i64 y.m), AV.lit (.int .i64 y.n)])) := RowsEq.ofT okRY rfl (SZ2 x y) rfl
theorem TZ3 (x y z : Slo) : Tl rowY (1 + 1 + 1) (app (1 + 1) (app 1 (rowsOf 2 [AV.lit (.int .i64 x.m), AV.lit (.int .i64 x.n)]) (rowsOf 2 [AV.lit (.int .i64 y.m), AV.lit (.int .i64 y.n)])) (rowsOf 2 [AV.lit (.int .i64 z.m), AV.lit (.int .i64 z.n)])) = [x, y, z] := rfl
theorem SZ3 (x y z : Slo) : Shp rowY (1 + 1 + 1) (app (1 + 1) (app 1 (rowsOf 2 [AV.lit (.int .i64 x.m), AV.lit (.int .i64 x.n)]) (rowsOf 2 [AV.lit (.int .i64 y.m), AV.lit (.int .i64 y.n)])) (rowsOf 2 [AV.lit (.int .i64 z.m), AV.lit (.int .i64 z.n)])) := ⟨fun j hj => by
  rcases (by omega : j = 0 ∨ j = 1 ∨ j = 2) with rfl | rfl | rfl <;> rfl⟩
theorem LZ3 (x y z : Slo) : (∀ j, j < (1 + 1 + 1) → ((app (1 + 1) (app 1 (rowsOf 2 [AV.lit (.int .i64 x.m), AV.lit (.int .i64 x.n)]) (rowsOf 2 [AV.lit (.int .i64 y.m), AV.lit (.int .i64 y.n)])) (rowsOf 2 [AV.lit (.int .i64 z.m), AV.lit (.int .i64 z.n)])) j).length = 2) = True := eq_true fun j hj => by
  rcases (by omega : j = 0 ∨ j = 1 ∨ j = 2) with rfl | rfl | rfl <;> rfl
theorem QZ3 (x y z : Slo) : RowsEq 2 [x, y, z].length (rowsY stdH fun _ => [x, y, z]) (1 + 1 + 1) (app (1 + 1) (app 1 (rowsOf 2 [AV.lit (.int .i64 x.m), AV.lit (.int .i64 x.n)]) (rowsOf 2 [AV.lit (.int .i64 y.m), AV.lit (.int .i64 y.n)])) (rowsOf 2 [AV.lit (.int .i64 z.m), AV.lit (.int .i64 z.n)])) := RowsEq.ofT okRY rfl (SZ3 x y z) rfl
theorem jnT_sz2 (p : Pcs) (h : p.f.size + p.o.size + p.n.size + p.r.size ≤ 2000000) : (jnT p).size ≤ 4000000 := by
  obtain ⟨pf, po, pn, pr, pc⟩ := p
  simp only at h
  unfold jnT
  simp only
  cases emp po <;> cases emp pn <;> cases emp pr <;> cases pc
  all_goals simp only [if_true, Bool.false_eq_true, if_false, ByteArray.size_append, bsz, List.length_cons, List.length_nil]
  all_goals (have e0 : ByteArray.empty.size = 0 := rfl)
  all_goals omega
def okKs (C : Skt) (s : ByteArray) : Bool := okK C && decide (kT C = s)
theorem condK2 {C : Skt} {s : ByteArray} : (bif !okK C then true else !((if okK C = true then kT C else ByteArray.empty).toList == s.toList)) = !okKs C s := by
  rw [beqT]
  unfold okKs
  cases h : okK C <;> simp
theorem pK_cand2 (s : ByteArray) : pK s = bif okKs (candK s) s then some (candK s) else none := by
  rw [pK_cand]
  unfold okKs
  by_cases h : okK (candK s) = true ∧ kT (candK s) = s
  · rw [if_pos h, h.1, decide_eq_true h.2]; rfl
  · rw [if_neg h]
    cases h1 : okK (candK s)
    · rfl
    · rw [decide_eq_false (fun q => h ⟨h1, q⟩)]; rfl
theorem c_parseK (s : ByteArray) (h0 : s.size ≤ 1100000) : ConN Tryz.prog 7 [.lit (.string s)] [] 0 (.tup [aT rowK stdH fun _ => (pK s).getD zK, .lit (.bool (stdH Bool fun _ => (pK s).isSome))]) [] [] := by
  have hB : Base Tryz.prog (tabΓ [e_taken, e_cutSl, e_joinedL, e_parseA, e_SketchTextN]) tabU := base_of tabOkU (ents_cons eok_taken <| ents_cons eok_cutSl <| ents_cons eok_joinedL <| ents_cons eok_parseA <| ents_cons eok_SketchTextN <| ents_nil)
  refine con_m (N := 66) hB (draw_ok hB mixed) Tryz.func7 rfl rfl (fun H => [.lit (.string s)]) (fun _ => []) 0 (fun H => .tup [aT rowK H fun _ => (pK s).getD zK, .lit (.bool (H Bool fun _ => (pK s).isSome))]) (fun H => []) (fun _ => []) 900 (by simp) (fun x hx => ?_) (by simp [lk]) (by omega) (by simp) ?_
  · simp only [zqu] at hx
    rcases hx with rfl
    · exact .lit
  intro X hX hX0 H hH
  conv in Fin.chk _ _ => cbv
  try simp only [zqs, Plain_rowsC, Plain_rowsY, zqx, AllP, zqw, upd, if_true]
  subst hH
  have em : ∀ t : ByteArray, (t.toList == (⟨⟨[]⟩⟩ : ByteArray).toList) = emp t := fun _ => rfl
  simp only [stdH, Arm.eta2, Fld.eta, Grp.eta, Slo.eta, em, condK2]
  have hP := pK_cand2 s
  have hC : candK s = ⟨(pA (jnT ⟨(tkn s).f, k1 (tkn s).o, k1 (tkn s).n, k1 (tkn s).r, (tkn s).c⟩)).getD zA, k2 (tkn s).o ++ (k2 (tkn s).n ++ k2 (tkn s).r)⟩ := rfl
  rw [hC] at hP
  have z := tkn_add s
  have zo := cutK_sz (tkn s).o
  have zn := cutK_sz (tkn s).n
  have zr := cutK_sz (tkn s).r
  have gsz : golB.size = 5 := rfl
  have jz : ∀ p : Pcs, p.f.size + p.o.size + p.n.size + p.r.size ≤ 2000000 → (jnT p).size ≤ 4000000 := jnT_sz2
  clear hC
  generalize pK s = K at *
  generalize tkn s = Q at *
  obtain ⟨qf, qo, qn, qr, qc⟩ := Q
  have e0 : ByteArray.empty.size = 0 := rfl
  simp only at hP z zo zn zr ⊢
  cases ho : emp qo <;> cases hn : emp qn <;> cases hr : emp qr
  all_goals (try obtain rfl := emp_eq ho)
  all_goals (try obtain rfl := emp_eq hn)
  all_goals (try obtain rfl := emp_eq hr)
  all_goals simp only [k1, k2, emp_y, ho, hn, hr, if_true, if_false, Bool.false_eq_true, List.nil_append, List.append_nil, List.cons_append] at hP
  all_goals simp only [Bool.not_true, Bool.not_false, TZ0, TZ1, TZ2, TZ3, LZ1, LZ2, LZ3]
  all_goals (subst hP)
  all_goals
    repeat' (first | exact trivial | rfl | exact SZ1 _ | exact SZ2 _ _ | exact SZ3 _ _ _ | exact Shp_zero _ | omega | (simp only [ByteArray.size_append, gsz]; omega) | (refine jz _ ?_; simp only [ByteArray.size_append, gsz]; omega) | (refine jz _ ?_; simp only; omega) | (simp only [List.length_cons, List.length_nil]; omega) | (intro hh; first | (cases hh; done) | skip) | refine And.intro ?_ ?_)
  all_goals first
    | (rw [Bool.not_eq_true'] at hh; rw [hh]; first | rfl | exact QY0)
    | (rw [Bool.not_eq_false'] at hh; rw [hh]; first | rfl | exact QZ1 _ | exact QZ2 _ _ | exact QZ3 _ _ _)
    | skip
noncomputable def e_parseK : Entry := pureE 7 fun H a => match a with
  | [.lit (.string s)] => some (.tup [aT rowK H fun _ => (pK s).getD zK, .lit (.bool (H Bool fun _ => (pK s).isSome))], [H Prop fun _ => s.size ≤ 1100000])
  | _ => none
theorem eok_parseK : EntryOk Tryz.prog e_parseK := pureM_ok (by unfold isBody; kernel_rfl) (by
  intro a r ob e hob
  split at e
  · rename_i s
    simp only [zqt] at e
    obtain ⟨rfl, rfl⟩ := e
    exact ConN.args (.cons .rfl .nil) (c_parseK s hob.1)
  · simp at e)

end Go.Proofs.YtmkniipdkanbbaaGreatDoor.AM

