/- Lemmas and contracts (Rgb Rgr Rgz); conditions: none. -/
import Derived.Test.YtbnohmfapmeaaaaGreatDoorK03
import Derived.Test.YtbnohmfapmeaaaaGreatDoorK16
import Derived.Test.YtbnohmfapmeaaaaGreatDoorK19
import Derived.Test.YtbnohmfapmeaaaaGreatDoorK20
import Derived.Test.YtbnohmfapmeaaaaGreatDoorK25
import Derived.Test.YtbnohmfapmeaaaaGreatDoorK39
set_option linter.unusedVariables false
set_option linter.unusedSimpArgs false
set_option maxRecDepth 100000
set_option maxHeartbeats 4000000
set_option cbv.maxSteps 3000000
namespace Go.Proofs.YtbnohmfapmeaaaaGreatDoor.AM
/- Grants of arms: granted; conditions: none. -/
theorem c_cloneR (r : Rgr) (h0 : r.gs.length ≤ 2000000) : ConN Tryz.prog 83 [aT rowJ stdH fun _ => r] [] 0 (.agg [.slc 0 0 18 (stdH Nat fun _ => (r.gs).length)]) [.rows 18 (stdH Nat fun _ => (r.gs).length) (rowsW stdH fun _ => r.gs) 100] [] := by
  have hB : Base Tryz.prog (tabΓ []) tabA := base_of tabOkA (ents_nil)
  refine con_m (N := 8) hB (draw_ok hB mixed) Tryz.func83 rfl rfl (fun H => [aT rowJ H fun _ => r]) (fun _ => []) 0 (fun H => .agg [.slc 0 0 18 (H Nat fun _ => (r.gs).length)]) (fun H => [.rows 18 (H Nat fun _ => (r.gs).length) (rowsW H fun _ => r.gs) 100]) (fun _ => []) 100 (by simp) (fun x hx => ?_) (by simp [lk]) (by omega) (by simp) ?_
  · simp only [List.mem_cons, List.not_mem_nil, or_false] at hx
    rcases hx with rfl
    · exact aT_bl okRJ _ _
  intro X hX hX0 H hH
  conv in Fin.chk _ _ => cbv
  try simp only [Plain_rowsA, Plain_rowsB, Plain_rowsF, Plain_rowsG, Plain_rowsI, Plain_rowsS, Plain_rowsU, Fin.satC_ret, Fin.satC_br, Fin.satC_need, Fin.satC_again, AllP, and_true, true_and, upd, List.length_nil, List.length_cons, Nat.zero_add, if_true, ncast, zqe]
  try simp only [TlW_H hH, hetaA hH]
  refine ⟨⟨?_, ?_⟩, ?_, ?_⟩
  · try simp only [hH, stdH, zql, zqa, zqb, zqc, zqd, peta, ncast, zqe, zqf, zqg, zqh, zqi, ne_eq, zqj, zqk, vrow_I, Arm.eta2, Fld.eta, Grp.eta]
  · try simp only [hH, stdH, zql, zqa, zqb, zqc, zqd, peta, ncast, zqe, zqf, zqg, zqh, zqi, ne_eq, zqj, zqk, vrow_I, Arm.eta2, Fld.eta, Grp.eta]
    ((repeat' (with_reducible refine And.intro ?_ ?_)) <;> (first | exact True.intro | omega | exact Eq.refl _))
  · try simp only [hH, stdH, zql, zqa, zqb, zqc, zqd, peta, ncast, zqe, zqf, zqg, zqh, zqi, ne_eq, zqj, zqk, vrow_I, Arm.eta2, Fld.eta, Grp.eta]
    rw [appN0]; exact RowsEq.self okRW
  · try simp only [hH, stdH, zql, zqa, zqb, zqc, zqd, peta, ncast, zqe, zqf, zqg, zqh, zqi, ne_eq, zqj, zqk, vrow_I, Arm.eta2, Fld.eta, Grp.eta]
noncomputable def e_cloneR : Entry := pureN 83 fun H a => match a with
  | [.agg [.vec 18 r0n r0f]] => some (fun nx => .agg [.slc nx 0 18 (H Nat fun _ => ((⟨(Tl rowW r0n r0f)⟩ : Rgr).gs).length)], [.rows 18 (H Nat fun _ => ((⟨(Tl rowW r0n r0f)⟩ : Rgr).gs).length) (rowsW H fun _ => (⟨(Tl rowW r0n r0f)⟩ : Rgr).gs) 100], [H Prop fun _ => Shp rowW r0n r0f, H Prop fun _ => (⟨(Tl rowW r0n r0f)⟩ : Rgr).gs.length ≤ 2000000])
  | _ => none
theorem eok_cloneR : EntryOk Tryz.prog e_cloneR := pureN_ok (by unfold isBody; kernel_rfl) (by
  intro a r nb ob e hob
  split at e
  · rename_i r0n r0f
    simp only [Option.some.injEq, Prod.mk.injEq] at e
    obtain ⟨rfl, rfl, rfl⟩ := e
    refine ⟨ConN.args (.cons (.agg (.cons (.toT okRW rfl hob.1) .nil)) .nil) (c_cloneR (⟨(Tl rowW r0n r0f)⟩ : Rgr) hob.2.1), fun x hx => ?_, fun nx => ?_, fun b hb => ?_⟩
    · simp only [List.mem_cons, List.not_mem_nil, or_false] at hx
      rcases hx with rfl
      · exact (.agg fun c hc => (by
        simp only [List.mem_cons, List.not_mem_nil, or_false] at hc
        rcases hc with rfl
        · exact (hob.1).bl okRW _))
    · (first | exact .slc ⟨by omega, by simp⟩ (by omega) | (refine .tup rfl (fun c x y hx hy => ?_); rcases c with _ | _ | _ | c <;> simp at hx hy <;> (subst hx; subst hy; first | exact .slc ⟨by omega, by simp⟩ (by omega) | exact .pl .lit | exact .pl (blq_ok 4 rfl) | (refine .agg rfl (fun c x y hx hy => ?_); rcases c with _ | _ | _ | c <;> simp at hx hy <;> (subst hx; subst hy; first | exact .slc ⟨by omega, by simp⟩ (by omega) | exact .pl .lit | exact .pl (blq_ok 4 rfl))))) | (refine .agg rfl (fun c x y hx hy => ?_); rcases c with _ | _ | _ | c <;> simp at hx hy <;> (subst hx; subst hy; first | exact .slc ⟨by omega, by simp⟩ (by omega) | exact .pl .lit | exact .pl (blq_ok 4 rfl))))
    · simp only [List.mem_cons, List.not_mem_nil, or_false] at hb; subst hb; exact bT_bl okRW _ (fun _ => (⟨(Tl rowW r0n r0f)⟩ : Rgr).gs) _
  · simp at e)

end Go.Proofs.YtbnohmfapmeaaaaGreatDoor.AM

set_option linter.unusedVariables false
set_option linter.unusedSimpArgs false
set_option maxRecDepth 100000
set_option maxHeartbeats 4000000
set_option cbv.maxSteps 3000000
namespace Go.Proofs.YtbnohmfapmeaaaaGreatDoor.AM
theorem c_validRS (r : Rgr) (h0 : r.gs.length ≤ 2000000) (h1 : Nsz r.gs) : ConN Tryz.prog 17 [aT rowJ stdH fun _ => r] [] 0 (.lit (.bool (stdH Bool fun _ => okRg r.gs))) [] [] := by
  have hB : Base Tryz.prog (tabΓ [e_l16Good]) tab := base_of tabOk (ents_cons eok_l16Good <| ents_nil)
  refine con_m (N := 5) hB (draw_ok hB mixed) Tryz.func17 rfl rfl (fun H => [aT rowJ H fun _ => r]) (fun _ => []) 0 (fun H => .lit (.bool (H Bool fun _ => okRg r.gs))) (fun H => []) (fun _ => []) 100 (by simp) (fun x hx => ?_) (by simp [lk]) (by omega) (by simp) ?_
  · simp only [List.mem_cons, List.not_mem_nil, or_false] at hx
    rcases hx with rfl
    · exact aT_bl okRJ _ _
  intro X hX hX0 H hH
  conv in Fin.chk _ _ => cbv
  try simp only [Plain_rowsA, Plain_rowsB, Plain_rowsF, Plain_rowsG, Plain_rowsI, Plain_rowsS, Plain_rowsU, Fin.satC_ret, Fin.satC_br, Fin.satC_need, Fin.satC_again, AllP, and_true, true_and, upd, List.length_nil, List.length_cons, Nat.zero_add, if_true, ncast, zqe]
  try simp only [TlW_H hH, hetaA hH]
  refine ⟨⟨?_, ?_, ?_⟩, ?_⟩
  · try simp only [hH, stdH, zql, zqa, zqb, zqc, zqd, peta, ncast, zqe, zqf, zqg, zqh, zqi, ne_eq, zqj, zqk, vrow_I, Arm.eta2, Fld.eta, Grp.eta]
    exact Shp_W _ _
  · try simp only [hH, stdH, zql, zqa, zqb, zqc, zqd, peta, ncast, zqe, zqf, zqg, zqh, zqi, ne_eq, zqj, zqk, vrow_I, Arm.eta2, Fld.eta, Grp.eta]
    omega
  · try simp only [hH, stdH, zql, zqa, zqb, zqc, zqd, peta, ncast, zqe, zqf, zqg, zqh, zqi, ne_eq, zqj, zqk, vrow_I, Arm.eta2, Fld.eta, Grp.eta]
    exact h1
  · try simp only [hH, stdH, zql, zqa, zqb, zqc, zqd, peta, ncast, zqe, zqf, zqg, zqh, zqi, ne_eq, zqj, zqk, vrow_I, Arm.eta2, Fld.eta, Grp.eta]
noncomputable def e_validRS : Entry := pureE 17 fun H a => match a with
  | [.agg [.vec 18 r0n r0f]] => some (.lit (.bool (H Bool fun _ => okRg (⟨(Tl rowW r0n r0f)⟩ : Rgr).gs)), [H Prop fun _ => Shp rowW r0n r0f, H Prop fun _ => (⟨(Tl rowW r0n r0f)⟩ : Rgr).gs.length ≤ 2000000, H Prop fun _ => Nsz (⟨(Tl rowW r0n r0f)⟩ : Rgr).gs])
  | _ => none
theorem eok_validRS : EntryOk Tryz.prog e_validRS := pureM_ok (by unfold isBody; kernel_rfl) (by
  intro a r ob e hob
  split at e
  · rename_i r0n r0f
    simp only [Option.some.injEq, Prod.mk.injEq] at e
    obtain ⟨rfl, rfl⟩ := e
    exact ConN.args (.cons (.agg (.cons (.toT okRW rfl hob.1) .nil)) .nil) (c_validRS (⟨(Tl rowW r0n r0f)⟩ : Rgr) hob.2.1 hob.2.2.1)
  · simp at e)
theorem c_l16Own (r : Rgr) (h0 : r.gs.length ≤ 2000000) : ConN Tryz.prog 87 [aT rowJ stdH fun _ => r] [] 0 (.agg [.slc 0 0 18 (stdH Nat fun _ => (r.gs).length)]) [.rows 18 (stdH Nat fun _ => (r.gs).length) (rowsW stdH fun _ => r.gs) 100] [] := by
  have hB : Base Tryz.prog (tabΓ []) tabA := base_of tabOkA (ents_nil)
  refine con_m (N := 8) hB (draw_ok hB mixed) Tryz.func87 rfl rfl (fun H => [aT rowJ H fun _ => r]) (fun _ => []) 0 (fun H => .agg [.slc 0 0 18 (H Nat fun _ => (r.gs).length)]) (fun H => [.rows 18 (H Nat fun _ => (r.gs).length) (rowsW H fun _ => r.gs) 100]) (fun _ => []) 100 (by simp) (fun x hx => ?_) (by simp [lk]) (by omega) (by simp) ?_
  · simp only [List.mem_cons, List.not_mem_nil, or_false] at hx
    rcases hx with rfl
    · exact aT_bl okRJ _ _
  intro X hX hX0 H hH
  conv in Fin.chk _ _ => cbv
  try simp only [Plain_rowsA, Plain_rowsB, Plain_rowsF, Plain_rowsG, Plain_rowsI, Plain_rowsS, Plain_rowsU, Fin.satC_ret, Fin.satC_br, Fin.satC_need, Fin.satC_again, AllP, and_true, true_and, upd, List.length_nil, List.length_cons, Nat.zero_add, if_true, ncast, zqe]
  try simp only [TlW_H hH, hetaA hH]
  refine ⟨⟨?_, ?_⟩, ?_, ?_⟩
  · try simp only [hH, stdH, zql, zqa, zqb, zqc, zqd, peta, ncast, zqe, zqf, zqg, zqh, zqi, ne_eq, zqj, zqk, vrow_I, Arm.eta2, Fld.eta, Grp.eta]
  · try simp only [hH, stdH, zql, zqa, zqb, zqc, zqd, peta, ncast, zqe, zqf, zqg, zqh, zqi, ne_eq, zqj, zqk, vrow_I, Arm.eta2, Fld.eta, Grp.eta]
    ((repeat' (with_reducible refine And.intro ?_ ?_)) <;> (first | exact True.intro | omega | exact Eq.refl _))
  · try simp only [hH, stdH, zql, zqa, zqb, zqc, zqd, peta, ncast, zqe, zqf, zqg, zqh, zqi, ne_eq, zqj, zqk, vrow_I, Arm.eta2, Fld.eta, Grp.eta]
    rw [appN0]; exact RowsEq.self okRW
  · try simp only [hH, stdH, zql, zqa, zqb, zqc, zqd, peta, ncast, zqe, zqf, zqg, zqh, zqi, ne_eq, zqj, zqk, vrow_I, Arm.eta2, Fld.eta, Grp.eta]
noncomputable def e_l16Own : Entry := pureN 87 fun H a => match a with
  | [.agg [.vec 18 r0n r0f]] => some (fun nx => .agg [.slc nx 0 18 (H Nat fun _ => ((⟨(Tl rowW r0n r0f)⟩ : Rgr).gs).length)], [.rows 18 (H Nat fun _ => ((⟨(Tl rowW r0n r0f)⟩ : Rgr).gs).length) (rowsW H fun _ => (⟨(Tl rowW r0n r0f)⟩ : Rgr).gs) 100], [H Prop fun _ => Shp rowW r0n r0f, H Prop fun _ => (⟨(Tl rowW r0n r0f)⟩ : Rgr).gs.length ≤ 2000000])
  | _ => none
theorem eok_l16Own : EntryOk Tryz.prog e_l16Own := pureN_ok (by unfold isBody; kernel_rfl) (by
  intro a r nb ob e hob
  split at e
  · rename_i r0n r0f
    simp only [Option.some.injEq, Prod.mk.injEq] at e
    obtain ⟨rfl, rfl, rfl⟩ := e
    refine ⟨ConN.args (.cons (.agg (.cons (.toT okRW rfl hob.1) .nil)) .nil) (c_l16Own (⟨(Tl rowW r0n r0f)⟩ : Rgr) hob.2.1), fun x hx => ?_, fun nx => ?_, fun b hb => ?_⟩
    · simp only [List.mem_cons, List.not_mem_nil, or_false] at hx
      rcases hx with rfl
      · exact (.agg fun c hc => (by
        simp only [List.mem_cons, List.not_mem_nil, or_false] at hc
        rcases hc with rfl
        · exact (hob.1).bl okRW _))
    · (first | exact .slc ⟨by omega, by simp⟩ (by omega) | (refine .tup rfl (fun c x y hx hy => ?_); rcases c with _ | _ | _ | c <;> simp at hx hy <;> (subst hx; subst hy; first | exact .slc ⟨by omega, by simp⟩ (by omega) | exact .pl .lit | exact .pl (blq_ok 4 rfl) | (refine .agg rfl (fun c x y hx hy => ?_); rcases c with _ | _ | _ | c <;> simp at hx hy <;> (subst hx; subst hy; first | exact .slc ⟨by omega, by simp⟩ (by omega) | exact .pl .lit | exact .pl (blq_ok 4 rfl))))) | (refine .agg rfl (fun c x y hx hy => ?_); rcases c with _ | _ | _ | c <;> simp at hx hy <;> (subst hx; subst hy; first | exact .slc ⟨by omega, by simp⟩ (by omega) | exact .pl .lit | exact .pl (blq_ok 4 rfl))))
    · simp only [List.mem_cons, List.not_mem_nil, or_false] at hb; subst hb; exact bT_bl okRW _ (fun _ => (⟨(Tl rowW r0n r0f)⟩ : Rgr).gs) _
  · simp at e)

end Go.Proofs.YtbnohmfapmeaaaaGreatDoor.AM

set_option linter.unusedVariables false
set_option linter.unusedSimpArgs false
set_option maxRecDepth 100000
set_option maxHeartbeats 4000000
set_option cbv.maxSteps 3000000
namespace Go.Proofs.YtbnohmfapmeaaaaGreatDoor.AM
/- A grant under another name: plain; conditions: none. -/
def nmG (g : Grt) (nm : ByteArray) : Grt := ⟨g.num, nm, g.year, g.arms⟩
def setN (l : List Grt) (i : Nat) (nm : ByteArray) : List Grt := l.set i (nmG (l.getD i default) nm)
theorem setN_len (l : List Grt) (i : Nat) (nm : ByteArray) : (setN l i nm).length = l.length := List.length_set
theorem setN_ne {l : List Grt} {i j : Nat} (nm : ByteArray) (h : j ≠ i) : (setN l i nm).getD j default = l.getD j default := by
  unfold setN
  rw [List.getD_eq_getElem?_getD, List.getElem?_set_ne (fun q => h q.symm), List.getD_eq_getElem?_getD]
theorem setN_same {l : List Grt} {i : Nat} (nm : ByteArray) (h : i < l.length) : (setN l i nm).getD i default = nmG (l.getD i default) nm := by
  unfold setN
  rw [List.getD_eq_getElem?_getD, List.getElem?_set_self h, Option.getD_some]
theorem setN_at (l : List Grt) (i j : Nat) (nm : ByteArray) : ((setN l i nm).getD j default).num = (l.getD j default).num ∧ ((setN l i nm).getD j default).year = (l.getD j default).year ∧ ((setN l i nm).getD j default).arms = (l.getD j default).arms := by
  by_cases h : j = i
  · subst h
    by_cases hi : j < l.length
    · rw [setN_same nm hi]; exact ⟨rfl, rfl, rfl⟩
    · unfold setN
      rw [List.set_eq_of_length_le (by omega)]; exact ⟨rfl, rfl, rfl⟩
  · rw [setN_ne nm h]; exact ⟨rfl, rfl, rfl⟩
theorem setN_arms (l : List Grt) (i : Nat) (nm : ByteArray) : (setN l i nm).map Grt.arms = l.map Grt.arms := by
  refine List.ext_getElem (by simp [setN_len]) fun j h1 h2 => ?_
  rw [List.getElem_map, List.getElem_map]
  rw [List.length_map] at h1 h2
  have := (setN_at l i j nm).2.2
  rwa [List.getD_eq_getElem?_getD, List.getD_eq_getElem?_getD, List.getElem?_eq_getElem h1, List.getElem?_eq_getElem h2, Option.getD_some, Option.getD_some] at this
theorem cnf_arms (g : Grt) (L : List Grt) : L.any (cnfI g) = (L.map Grt.arms).any fun a => decide (dI a g.arms < 2) := by
  rw [List.any_map]; rfl
theorem cnf_setN (l : List Grt) (i j : Nat) (nm : ByteArray) : ((setN l i nm).take j).any (cnfI ((setN l i nm).getD j default)) = (l.take j).any (cnfI (l.getD j default)) := by
  rw [cnf_arms, cnf_arms, List.map_take, List.map_take, setN_arms, (setN_at l i j nm).2.2]
theorem ord_setN (l : List Grt) (i j : Nat) (nm : ByteArray) : okOrd (setN l i nm) j = okOrd l j := by
  unfold okOrd
  rw [(setN_at l i j nm).1, (setN_at l i j nm).2.1, (setN_at l i (j - 1) nm).1, (setN_at l i (j - 1) nm).2.1]
theorem okN_nmG {g : Grt} (nm : ByteArray) (h : okN g = true) : okN (nmG g nm) = okNm nm := by
  unfold okN at *
  simp only [Bool.and_eq_true] at h
  show (inB g.num 1 999 && (okNm nm && (inB g.year 1000 2999 && okA g.arms))) = okNm nm
  rw [h.1, h.2.2.1, h.2.2.2]
  cases okNm nm <;> rfl
theorem okRg_setN {l : List Grt} {i : Nat} (nm : ByteArray) (h : okRg l = true) (hi : i < l.length) : okRg (setN l i nm) = okNm nm := by
  obtain ⟨h1, h2⟩ := okRg_in h
  have hA : okAt (setN l i nm) i = okNm nm := by
    have h3 := h2 i hi
    unfold okAt at h3 ⊢
    rw [cnf_setN, ord_setN, setN_same nm hi]
    simp only [Bool.and_eq_true] at h3
    rw [okN_nmG nm h3.1, h3.2.1, h3.2.2]
    cases okNm nm <;> rfl
  cases hn : okNm nm with
  | false => exact okRg_bad (by rw [setN_len]; exact hi) (hA.trans hn)
  | true =>
    rw [okRg_all fun j hj => ?_, setN_len, decide_eq_true h1]
    rw [setN_len] at hj
    by_cases q : j = i
    · subst q; exact hA.trans hn
    · have h3 := h2 j hj
      unfold okAt at h3 ⊢
      rw [cnf_setN, ord_setN, setN_ne nm q]
      exact h3
def trI (l : List Grt) (x : Int) : Int := idxF (nuE x) l
def trO (l : List Grt) (x : Int) (nm : ByteArray) : Bool := (okRg l && decide (0 ≤ trI l x)) && okNm nm
def trR (l : List Grt) (x : Int) (nm : ByteArray) : List Grt := if trO l x nm = true then setN l (trI l x).toNat nm else []
theorem trO_in {l : List Grt} {x : Int} {nm : ByteArray} (h : trO l x nm = true) : okRg l = true ∧ 0 ≤ trI l x ∧ (trI l x).toNat < l.length ∧ okNm nm = true := by
  unfold trO at h
  simp only [Bool.and_eq_true, decide_eq_true_eq] at h
  have := idxF_up _ _ h.1.2
  exact ⟨h.1.1, h.1.2, by have : trI l x < (l.length : Nat) := this; omega, h.2⟩
theorem trR_ok {l : List Grt} {x : Int} {nm : ByteArray} (h : trO l x nm = true) : okRg (trR l x nm) = true ∧ (trR l x nm).length = l.length := by
  obtain ⟨h1, h2, h3, h4⟩ := trO_in h
  unfold trR
  rw [if_pos h, setN_len]
  exact ⟨(okRg_setN nm h1 h3).trans h4, rfl⟩
theorem trR_no {l : List Grt} {x : Int} {nm : ByteArray} (h : trO l x nm = false) : trR l x nm = [] := if_neg (by rw [h]; simp)
theorem trI_at {l : List Grt} {x : Int} (h : 0 ≤ trI l x) : (l.getD (trI l x).toNat default).num = x := by
  have ha : l.any (nuE x) = true := by
    cases q : l.any (nuE x) with
    | true => rfl
    | false =>
      have e : trI l x = -1 := if_neg (by rw [q]; simp)
      omega
  have e : trI l x = ((l.findIdx (nuE x) : Nat) : Int) := by unfold trI idxF; rw [if_pos ha]
  have hl : l.findIdx (nuE x) < l.length := List.findIdx_lt_length.2 (List.any_eq_true.1 ha)
  rw [e, Int.toNat_natCast, List.getD_eq_getElem?_getD, List.getElem?_eq_getElem hl, Option.getD_some]
  have := List.findIdx_getElem (w := hl)
  exact beq_iff_eq.1 this
theorem trH {l : List Grt} {x : Int} {nm : ByteArray} (h : trO l x nm = true) : (nmb (nmE nm) (trR l x nm) (trR l x nm).length).any (· == x) = true := by
  obtain ⟨h1, h2, h3, h4⟩ := trO_in h
  have e : trR l x nm = setN l (trI l x).toNat nm := if_pos h
  have hl : (trI l x).toNat < (setN l (trI l x).toNat nm).length := by rw [setN_len]; exact h3
  have hs := setN_same nm h3
  rw [nmb_all, List.any_map, List.any_eq_true, e]
  rw [List.getD_eq_getElem?_getD, List.getElem?_eq_getElem hl, Option.getD_some] at hs
  refine ⟨(setN l (trI l x).toNat nm)[(trI l x).toNat], List.mem_filter.2 ⟨List.getElem_mem hl, ?_⟩, ?_⟩
  · rw [hs]
    show (nm.toList == nm.toList) = true
    exact beq_self_eq_true _
  · rw [hs]
    show ((l.getD (trI l x).toNat default).num == x) = true
    rw [trI_at h2]
    exact beq_self_eq_true _

end Go.Proofs.YtbnohmfapmeaaaaGreatDoor.AM

