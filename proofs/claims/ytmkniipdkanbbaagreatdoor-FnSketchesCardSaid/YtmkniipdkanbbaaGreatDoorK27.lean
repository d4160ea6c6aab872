/- Lemmas and contracts (Plq Spt Spo Exa Wra Ftx Shd); conditions: none. -/
import Derived.Test.YtmkniipdkanbbaaGreatDoorK04
import Derived.Test.YtmkniipdkanbbaaGreatDoorK10
import Derived.Test.YtmkniipdkanbbaaGreatDoorK11
import Derived.Test.YtmkniipdkanbbaaGreatDoorK12
import Derived.Test.YtmkniipdkanbbaaGreatDoorK13
import Derived.Test.YtmkniipdkanbbaaGreatDoorK14
import Derived.Test.YtmkniipdkanbbaaGreatDoorK15
import Derived.Test.YtmkniipdkanbbaaGreatDoorK16
import Derived.Test.YtmkniipdkanbbaaGreatDoorK17
import Derived.Test.YtmkniipdkanbbaaGreatDoorK22
import Derived.Test.YtmkniipdkanbbaaGreatDoorK23
import Derived.Test.YtmkniipdkanbbaaGreatDoorK26
set_option linter.unusedVariables false
set_option linter.unusedSimpArgs false
set_option maxRecDepth 100000
set_option maxHeartbeats 4000000
set_option cbv.maxSteps 3000000
namespace Go.Proofs.YtmkniipdkanbbaaGreatDoor.AM
/- Plain sketches, filled ones: plain laws; conditions: none. -/
theorem noG_t {g : Grp} (h : okG g = true) (t : Int) : noG ⟨g.c, g.k, g.a, t⟩ = false := by
  unfold okG inB at h
  simp only [Bool.and_eq_true, decide_eq_true_eq] at h
  unfold noG
  rw [decide_eq_false (show ¬ g.c = 0 by omega)]; rfl
theorem okA_Nb {a : Arm} (h : okA a = true) (hn : noG a.n = false) : okG a.n = true := by
  have ho := (okA_N h hn).2
  unfold okA at h
  rw [if_neg ho, hn] at h
  simp only [Bool.and_eq_true, Bool.false_or] at h
  exact h.2.2
theorem okA_Rb {a : Arm} (h : okA a = true) (hr : noG a.r = false) : okG a.r = true := by
  unfold okA at h
  rw [hr] at h
  simp only [Bool.and_eq_true, Bool.false_or] at h
  exact h.1.2
theorem noG_filn {a : Arm} (h : okA a = true) (l : List Int) : noG (filA a l).n = noG a.n := by
  show noG ⟨a.n.c, a.n.k, a.n.a, if noG a.n then a.n.t else l.getD (i1 a) 0⟩ = _
  cases hn : noG a.n
  · exact noG_t (okA_Nb h hn) _
  · exact hn
theorem noG_filr {a : Arm} (h : okA a = true) (l : List Int) : noG (filA a l).r = noG a.r := by
  show noG ⟨a.r.c, a.r.k, a.r.a, if noG a.r then a.r.t else l.getD (i2 a) 0⟩ = _
  cases hr : noG a.r
  · exact noG_t (okA_Rb h hr) _
  · exact hr
theorem i1_fil (a : Arm) (l : List Int) : i1 (filA a l) = i1 a := rfl
theorem i2_fil {a : Arm} (h : okA a = true) (l : List Int) : i2 (filA a l) = i2 a := by
  unfold i2; rw [noG_filn h, i1_fil]
theorem cntP_fil {a : Arm} (h : okA a = true) (l : List Int) : cntP (filA a l) = cntP a := by
  unfold cntP; rw [noG_filr h, i2_fil h]
theorem okG_fil {g : Grp} (h : okG g = true) {t : Int} (ht : tnc t) : okG ⟨g.c, g.k, g.a, t⟩ = true := by
  have e : okG ⟨g.c, g.k, g.a, t⟩ = (inB g.c 1 6 && attF g.k g.a && inB t 1 9) := rfl
  rw [e]
  have e2 : okG g = (inB g.c 1 6 && attF g.k g.a && inB g.t 1 9) := rfl
  rw [e2] at h
  simp only [Bool.and_eq_true] at h ⊢
  exact ⟨h.1, decide_eq_true ht⟩
theorem okA_fil {a : Arm} (h : okA a = true) {l : List Int} (hl : ∀ j, j < cntP a → tnc (l.getD j 0)) : okA (filA a l) = true := by
  have e : okA (filA a l) = (okF a.f && (noG (filA a l).r || okG (filA a l).r) && (if a.o = 0 then decide (a.l = 0) && decide (a.t = 0) && noG (filA a l).n else inB a.o 1 7 && inB a.l 0 4 && inB (l.getD 0 0) 1 9 && (noG (filA a l).n || okG (filA a l).n))) := by
    by_cases ho : a.o = 0
    · have e1 : (filA a l).t = a.t := if_pos ho
      unfold okA
      rw [e1, if_pos (show (filA a l).o = 0 from ho), if_pos ho]; rfl
    · have e1 : (filA a l).t = l.getD 0 0 := if_neg ho
      unfold okA
      rw [e1, if_neg (show ¬ (filA a l).o = 0 from ho), if_neg ho]; rfl
  rw [e, noG_filn h, noG_filr h]
  have h9 := h
  unfold okA at h
  simp only [Bool.and_eq_true] at h ⊢
  refine ⟨⟨h.1.1, ?_⟩, ?_⟩
  · cases hr : noG a.r
    · rw [Bool.false_or]
      show okG ⟨a.r.c, a.r.k, a.r.a, if noG a.r then a.r.t else l.getD (i2 a) 0⟩ = true
      rw [hr, if_neg (by simp)]
      exact okG_fil (okA_Rb h9 hr) (hl _ (by unfold cntP; rw [hr]; simp))
    · rfl
  · by_cases ho : a.o = 0
    · rw [if_pos ho] at h ⊢; exact h.2
    · rw [if_neg ho] at h ⊢
      simp only [Bool.and_eq_true] at h ⊢
      have hc : i1 a = 1 := if_neg ho
      refine ⟨⟨h.2.1.1, decide_eq_true (hl 0 (by unfold cntP i2; omega))⟩, ?_⟩
      cases hn : noG a.n
      · rw [Bool.false_or]
        show okG ⟨a.n.c, a.n.k, a.n.a, if noG a.n then a.n.t else l.getD (i1 a) 0⟩ = true
        rw [hn, if_neg (by simp)]
        exact okG_fil (okA_Nb h9 hn) (hl _ (by unfold cntP i2; rw [hn]; simp only [Bool.false_eq_true, if_false]; split <;> omega))
      · rfl
theorem filA_two {a : Arm} (h : okA a = true) (l m : List Int) : filA (filA a l) m = filA a m := by
  have e1 := noG_filn h l
  have e2 := noG_filr h l
  have e3 := i2_fil h l
  unfold filA at e1 e2 e3 ⊢
  simp only at e1 e2 e3 ⊢
  simp only [e1, e2, e3]
  have e4 : ∀ (n : Grp) (r : Grp) (t : Int), i1 ⟨a.f, a.o, a.l, t, n, r⟩ = i1 a := fun _ _ _ => rfl
  simp only [e4]
  by_cases ho : a.o = 0 <;> cases hn : noG a.n <;> cases hr : noG a.r <;> simp only [ho, if_true, if_false, Bool.false_eq_true]
def tncL (a : Arm) : List Int := (if a.o = 0 then [] else [a.t]) ++ ((if noG a.n then [] else [a.n.t]) ++ (if noG a.r then [] else [a.r.t]))
def plnS (a : Arm) : List Slo := (tncL a).map fun t => ⟨1, t⟩
def plnK (a : Arm) : Skt := ⟨filA a [1, 1, 1], plnS a⟩
theorem tncL_len (a : Arm) : (tncL a).length = cntP a := by
  unfold tncL cntP i2 i1
  rw [List.length_append, List.length_append]
  by_cases ho : a.o = 0 <;> cases hn : noG a.n <;> cases hr : noG a.r <;> simp [ho]
theorem tncL_fil {a : Arm} : filA a (tncL a) = a := by
  obtain ⟨f, o, l, t, ⟨n1, n2, n3, n4⟩, ⟨r1, r2, r3, r4⟩⟩ := a
  generalize hA : (⟨f, o, l, t, ⟨n1, n2, n3, n4⟩, ⟨r1, r2, r3, r4⟩⟩ : Arm) = a
  have e1 : a.o = o := by rw [← hA]
  unfold filA tncL i2 i1
  subst hA
  simp only
  generalize hn0 : noG (⟨n1, n2, n3, n4⟩ : Grp) = bn
  generalize hr0 : noG (⟨r1, r2, r3, r4⟩ : Grp) = br
  by_cases ho : o = 0 <;> cases bn <;> cases br <;> simp [ho]
theorem tncL_tnc {a : Arm} (h : okA a = true) : ∀ x ∈ tncL a, tnc x := by
  intro x hx
  unfold tncL at hx
  rw [List.mem_append, List.mem_append] at hx
  rcases hx with hx | hx | hx
  · by_cases ho : a.o = 0
    · rw [if_pos ho] at hx; simp at hx
    · rw [if_neg ho, List.mem_singleton] at hx; subst hx; exact (okA_O h ho).2.2
  · cases hn : noG a.n
    · rw [hn, if_neg (by simp), List.mem_singleton] at hx; subst hx; exact (okA_N h hn).1.2.2.2
    · rw [hn, if_pos rfl] at hx; simp at hx
  · cases hr : noG a.r
    · rw [hr, if_neg (by simp), List.mem_singleton] at hx; subst hx; exact (okA_R h hr).2.2.2
    · rw [hr, if_pos rfl] at hx; simp at hx
theorem cntP_3 (a : Arm) : cntP a ≤ 3 := by unfold cntP i2 i1; split <;> split <;> split <;> omega
theorem tnc_111 {j : Nat} (h : j < 3) : tnc (([1, 1, 1] : List Int).getD j 0) := by
  rcases (by omega : j = 0 ∨ j = 1 ∨ j = 2) with rfl | rfl | rfl <;> exact ⟨by decide, by decide⟩
theorem plnS_len (a : Arm) : (plnS a).length = cntP a := by unfold plnS; rw [List.length_map, tncL_len]
theorem plnS_get {a : Arm} {i : Nat} (h : i < cntP a) : (plnS a).getD i default = ⟨1, (tncL a).getD i 0⟩ := by
  unfold plnS
  rw [List.getD_eq_getElem?_getD, List.getElem?_map, List.getD_eq_getElem?_getD, List.getElem?_eq_getElem (by rw [tncL_len]; exact h)]; rfl
theorem gldA_fil {a : Arm} (h : okA a = true) : gldA (filA a [1, 1, 1]) = true := by
  have hc := cntP_3 a
  unfold gldA
  rw [noG_filn h, noG_filr h]
  simp only [Bool.and_eq_true, Bool.or_eq_true, decide_eq_true_eq]
  refine ⟨?_, ?_, ?_⟩
  · by_cases ho : a.o = 0
    · exact .inl ho
    · exact .inr (if_neg ho)
  · cases hn : noG a.n
    · refine .inr ?_
      show (if noG a.n then a.n.t else ([1, 1, 1] : List Int).getD (i1 a) 0) = 1
      rw [hn, if_neg (by simp)]
      unfold i1
      split <;> rfl
    · exact .inl rfl
  · cases hr : noG a.r
    · refine .inr ?_
      show (if noG a.r then a.r.t else ([1, 1, 1] : List Int).getD (i2 a) 0) = 1
      rw [hr, if_neg (by simp)]
      have : i2 a < 3 := by unfold cntP at hc; rw [hr] at hc; simp at hc; omega
      rcases (by omega : i2 a = 0 ∨ i2 a = 1 ∨ i2 a = 2) with e | e | e <;> rw [e] <;> rfl
    · exact .inl rfl
theorem okK_pln {a : Arm} (h : okA a = true) : OkK (plnK a) := by
  have hc := cntP_3 a
  have e : cntP (plnK a).arms = cntP a := cntP_fil h _
  have hy : ∀ i, i < cntP a → okY ((plnS a).getD i default) = true := fun i hi => by
    rw [plnS_get hi]
    have ht := tncL_tnc h _ (getD_mem (d := 0) (show i < (tncL a).length by rw [tncL_len]; exact hi))
    unfold okY
    rw [if_pos rfl]
    exact decide_eq_true ht
  refine ⟨okA_fil h fun j hj => tnc_111 (by omega), gldA_fil h, ?_, fun i hi => hy i (by rw [e] at hi; exact hi), ?_⟩
  · rw [e]; exact plnS_len a
  · show ((plnS a).getD ((plnS a).length - 1) default).m ≠ 5
    rw [plnS_len]
    by_cases h0 : cntP a = 0
    · have : plnS a = [] := List.eq_nil_of_length_eq_zero (by rw [plnS_len]; exact h0)
      rw [this]; show (default : Slo).m ≠ 5; decide
    · rw [plnS_get (by omega)]; show (1 : Int) ≠ 5; decide
theorem nxD_no {p : Nat → Bool} {n : Nat} {l : List Int} (h : ∀ i, i < n → p i = false) : ∀ s, s + 1 ≤ n → nxD p n l s = l
  | 0, _ => rfl
  | s + 1, hs => by
    show (if p (n - 2 - s) then _ else _ : List Int) = _
    rw [h _ (by omega), if_neg (by simp)]
    exact nxD_no h s (by omega)
theorem tI_pln {f : Fld} {a : Arm} {i : Nat} (h : i < cntP a) : tI f (plnS a) i = (tncL a).getD i 0 := by
  unfold tI tVm
  rw [plnS_get h, if_neg (by show ¬ (1 : Int) = 5; decide), if_pos rfl]
theorem okR_pln (f : Fld) (a : Arm) : okR f (plnS a) = true := okR_all.2 fun j hj => by
  rw [plnS_len] at hj
  unfold gI gVm
  rw [plnS_get hj, if_neg (by show ¬ (1 : Int) = 2; decide), if_neg (by show ¬ (1 : Int) = 3; decide)]
theorem rdO_pln (f : Fld) (a : Arm) : rdO f (plnS a) = tncL a := by
  have e : preZ (tI f (plnS a)) (plnS a).length (plnS a).length = tncL a := by
    refine ext0 (by rw [preZ_len (Nat.le_refl _), plnS_len, tncL_len]) fun j hj => ?_
    rw [preZ_len (Nat.le_refl _), plnS_len] at hj
    rw [preZ_get, if_pos (by rw [plnS_len]; exact hj), tI_pln hj]
  unfold rdO
  rw [e]
  by_cases h0 : (plnS a).length = 0
  · rw [h0]; rfl
  · refine nxD_no (fun i hi => ?_) _ (by omega)
    rw [plnS_len] at hi
    unfold isN
    rw [plnS_get hi]; rfl
theorem pln_back {a : Arm} (h : okA a = true) : filA (plnK a).arms (rdO (plnK a).arms.f (plnK a).slots) = a := by
  show filA (filA a [1, 1, 1]) (rdO a.f (plnS a)) = a
  rw [rdO_pln, filA_two h, tncL_fil]
theorem slW_1 (t : Int) : slW ⟨1, t⟩ = spB ++ wordOf tinL t := if_pos rfl
theorem kT_pln {a : Arm} (h : okA a = true) : kT (plnK a) = armT a := by
  have e1 := noG_filn h [1, 1, 1]
  have e2 := noG_filr h [1, 1, 1]
  have e3 := i2_fil h [1, 1, 1]
  rw [armT_eq h]
  have hO : kO (plnK a) = ordP a := by
    unfold kO ordP
    show (if a.o = 0 then _ else comB ++ (ordS a.o a.l ++ slW ((plnS a).getD 0 default))) = _
    by_cases ho : a.o = 0
    · rw [if_pos ho, if_pos ho]
    · rw [if_neg ho, if_neg ho]
      have : (plnS a).getD 0 default = ⟨1, a.t⟩ := by unfold plnS tncL; simp [ho]
      rw [this, slW_1]; rfl
  have hN : kN (plnK a) = onP a := by
    unfold kN onP
    show (if noG (filA a [1, 1, 1]).n then _ else chgB ++ (barT a.n ++ slW ((plnS a).getD (i1 a) default))) = _
    rw [e1]
    cases hn : noG a.n
    · have ho := (okA_N h hn).2
      rw [if_neg (by simp), if_neg (by simp)]
      have : (plnS a).getD (i1 a) default = ⟨1, a.n.t⟩ := by unfold plnS tncL i1; simp [ho, hn]
      rw [this, slW_1, barT_grp]; rfl
    · rfl
  have hR : kR (plnK a) = arP a := by
    unfold kR arP
    show (if noG (filA a [1, 1, 1]).r then _ else jnO a.o ++ (barT a.r ++ slW ((plnS a).getD (i2 (filA a [1, 1, 1])) default))) = _
    rw [e2, e3]
    cases hr : noG a.r
    · rw [if_neg (by simp), if_neg (by simp)]
      have : (plnS a).getD (i2 a) default = ⟨1, a.r.t⟩ := by
        unfold plnS tncL i2 i1
        by_cases ho : a.o = 0
        · have hn := okA_o0 h ho
          simp [ho, hn, hr]
        · cases hn : noG a.n <;> simp [ho, hr]
      rw [this, slW_1, barT_grp]
    · rfl
  unfold kT
  rw [hO, hN, hR]
  rfl

end Go.Proofs.YtmkniipdkanbbaaGreatDoor.AM

set_option maxRecDepth 100000
set_option maxHeartbeats 4000000
set_option cbv.maxSteps 3000000
namespace Go.Proofs.YtmkniipdkanbbaaGreatDoor.AM
/- Texts are spoilt, drawn; conditions: none. -/
def enc_spoilt (H : Hold) (y : Unit → ByteArray) : AV := .lit (.string (H ByteArray fun _ => ((y ()))))
theorem x_spoilt (c : Cd) (t : ByteArray) (u : ByteArray) (st : DS) (h : Bd 6 st) (k0 : t.size ≤ 1000000) (k1 : 1 ≤ u.size) (k2 : u.size ≤ 1000) : ∃ y, Drw Tryz.prog 74 47 6 enc_spoilt (fun y => y.size ≤ t.size + 1) c [.lit (.string t), .lit (.string u)] st y := by
  have hB : Base Tryz.prog (tabΓ [e_pick c]) tab := base_of tabOk (ents_cons (eok_pick c) <| ents_nil)
  refine drw_ok (N := 57) hB (draw_ok hB mixed) Tryz.func47 rfl rfl _ _ _ _ _ _ _ 100 (by simp) (by intro x hx; simp at hx; (first | done | (subst hx; first | (first | exact .lit | exact blq_ok 4 rfl) | exact .vec (fun j hj x hx => by simp [vrow] at hx; subst hx; exact .lit)) | (rcases hx with rfl | rfl <;> (first | exact .lit | exact blq_ok 4 rfl)) | (rcases hx with rfl | rfl | rfl <;> (first | exact .lit | exact blq_ok 4 rfl)))) ?_
  intro H hH
  conv in finish _ _ _ _ _ _ _ _ => cbv
  subst hH
  simp only [Fin.sat0, Fin.sat1, stdH, Option.some.injEq, AV.lit.injEq, AV.agg.injEq, AV.tup.injEq, List.cons.injEq, Value.bool.injEq, Value.int.injEq, AllP, and_true, true_and, eq_self, zqa, zqb, zqc, zqd, peta, ncast]
  obtain ⟨a1, m1, n1⟩ := p_pick c (t.size : Nat) st h.mono
  generalize F_pick c (t.size : Nat) st = y1 at *
  have b1 : Bd 4 y1.2 := a1.bd h
  obtain ⟨a2, m2, n2⟩ := p_pick c (u.size : Nat) y1.2 b1.mono
  generalize F_pick c (u.size : Nat) y1.2 = y2 at *
  have b2 : Bd 2 y2.2 := a2.bd b1
  have a3 := (p_pick c 3 y2.2 b2.mono).1
  generalize F_pick c 3 y2.2 = y3 at *
  have ws : ∀ x : ByteArray, (x.extract (loOf none) (hiOf x.size (some 1))).size ≤ 1 := fun x => by
    rw [ByteArray.size_extract]
    show min (1 : Int).toNat x.size - 0 ≤ 1
    omega
  have sx : ∀ (x : ByteArray) (i j : Nat), (x.extract i j).size = min j x.size - i := fun x i j => ByteArray.size_extract
  refine ⟨fun _ => ⟨⟨trivial, by show (0 : Int) ≤ 1; omega, by show 0 ≤ (1 : Int).toNat; omega, by show (1 : Int).toNat ≤ u.size; omega⟩, (_, st), .refl, by unfold enc_spoilt; exact .lit, rfl, .refl _ _, Nat.le_trans (ws u) (by omega)⟩, fun h0 => ?_⟩
  have ht : 1 ≤ t.size := by
    rcases Nat.eq_zero_or_pos t.size with e | e
    · have e1 : t.data.toList = [] := List.eq_nil_of_length_eq_zero e
      have e2 : t.toList = [] := by rw [ByteArray.toList_eq, e1]
      have e3 : (⟨⟨[]⟩⟩ : ByteArray).toList = [] := ByteArray.toList_eq _
      rw [e2, e3] at h0; simp at h0
    · exact e
  have hi : 0 ≤ y1.1 ∧ y1.1 < (t.size : Nat) := by omega
  have hj : 0 ≤ y2.1 ∧ y2.1 < (u.size : Nat) := by omega
  have ew : IntKind.i64.wrap (y1.1 + 1) = y1.1 + 1 := wi (by omega) (by omega)
  rw [ew]
  have h1 := ws (u.extract (loOf (some y2.1)) (hiOf u.size none))
  have l1 : loOf (some y1.1) = y1.1.toNat := rfl
  have l2 : ∀ n, hiOf n (some y1.1) = y1.1.toNat := fun _ => rfl
  have l3 : ∀ n, hiOf n none = n := fun _ => rfl
  have l4 : loOf none = 0 := rfl
  have l5 : loOf (some (y1.1 + 1)) = (y1.1 + 1).toNat := rfl
  have lw : okB (u.extract (loOf (some y2.1)) (hiOf u.size none)).size none (some 1) := ⟨trivial, by show (0 : Int) ≤ 1; omega, by show 0 ≤ (1 : Int).toNat; omega, by
    rw [sx, l3]
    show (1 : Int).toNat ≤ min u.size u.size - y2.1.toNat
    omega⟩
  generalize (u.extract (loOf (some y2.1)) (hiOf u.size none)).extract (loOf none) (hiOf (u.extract (loOf (some y2.1)) (hiOf u.size none)).size (some 1)) = w at *
  have o1 : okB t.size none (some y1.1) := ⟨trivial, hi.1, Nat.zero_le _, by show y1.1.toNat ≤ t.size; omega⟩
  have o2 : okB t.size (some y1.1) none := ⟨hi.1, trivial, by show y1.1.toNat ≤ t.size; omega, Nat.le_refl _⟩
  have o3 : okB t.size (some (y1.1 + 1)) none := ⟨by show 0 ≤ y1.1 + 1; omega, trivial, by show (y1.1 + 1).toNat ≤ t.size; omega, Nat.le_refl _⟩
  have o4 : okB u.size (some y2.1) none := ⟨hj.1, trivial, by show y2.1.toNat ≤ u.size; omega, Nat.le_refl _⟩
  have s1 : (t.extract (loOf none) (hiOf t.size (some y1.1))).size = y1.1.toNat := by rw [sx, l2, l4]; omega
  have s2 : (t.extract (loOf (some y1.1)) (hiOf t.size none)).size = t.size - y1.1.toNat := by rw [sx, l3, l1]; omega
  have s3 : (t.extract (loOf (some (y1.1 + 1))) (hiOf t.size none)).size = t.size - (y1.1.toNat + 1) := by rw [sx, l3, l5]; omega
  have av : Adv 6 st y3.2 := ((a1.t a2).t a3).le (by decide)
  refine ⟨h.mono, b1.mono, o4, lw, b2, fun _ => ⟨o1, by rw [s1]; omega, o2, by rw [ByteArray.size_append, s1, s2]; omega, (_, y3.2), .refl, by unfold enc_spoilt; exact .lit, rfl, av, by simp only [ByteArray.size_append]; rw [s1, s2]; omega⟩, fun _ => ⟨fun _ => ⟨o1, by rw [s1]; omega, o3, by rw [ByteArray.size_append, s1, s3]; omega, (_, y3.2), .refl, by unfold enc_spoilt; exact .lit, rfl, av, by simp only [ByteArray.size_append]; rw [s1, s3]; omega⟩, fun _ => ⟨o1, o3, by rw [s1, s3]; omega, (_, y3.2), .refl, by unfold enc_spoilt; exact .lit, rfl, av, by simp only [ByteArray.size_append]; rw [s1, s3]; omega⟩⟩⟩
noncomputable def F_spoilt (c : Cd) (t : ByteArray) (u : ByteArray) (st : DS) : ByteArray × DS := drw Tryz.prog 74 47 6 enc_spoilt (fun y => y.size ≤ t.size + 1) c [.lit (.string t), .lit (.string u)] st
noncomputable def e_spoilt (c : Cd) : Entry := curE 74 47 6 c fun H st a => match a with
  | [.lit (.string t), .lit (.string u)] => some (enc_spoilt H (fun _ => (F_spoilt c t u st).1), (fun _ => (F_spoilt c t u st).2), [H Prop fun _ => t.size ≤ 1000000, H Prop fun _ => 1 ≤ u.size, H Prop fun _ => u.size ≤ 1000])
  | _ => none
theorem eok_spoilt (c : Cd) : EntryOk Tryz.prog (e_spoilt c) := curE_ok (by unfold isBody; kernel_rfl) (by
  intro st a r y ob e hb hob
  split at e
  · simp only [zqt] at e
    obtain ⟨rfl, rfl, rfl⟩ := e
    exact ⟨(drw_spec (x_spoilt c _ _ st hb hob.1 hob.2.1 hob.2.2.1)).1, (by intro x hx; simp only [zqu] at hx; rcases hx with rfl | rfl <;> (first | (first | exact .lit | exact blq_ok 4 rfl) | exact .vec (fun j hj x hx => by rw [hob.1 j hj] at hx; simp [vrow] at hx; subst hx; exact .lit))), (by unfold enc_spoilt; (first | exact .lit | exact blq_ok 4 rfl))⟩
  · simp at e)
theorem p_spoilt (c : Cd) (t : ByteArray) (u : ByteArray) (st : DS) (h : Bd 6 st) (k0 : t.size ≤ 1000000) (k1 : 1 ≤ u.size) (k2 : u.size ≤ 1000) : Adv 6 st (F_spoilt c t u st).2 ∧ (fun y => y.size ≤ t.size + 1) (F_spoilt c t u st).1 := (drw_spec (x_spoilt c t u st h k0 k1 k2)).2

end Go.Proofs.YtmkniipdkanbbaaGreatDoor.AM

set_option maxRecDepth 100000
set_option maxHeartbeats 4000000
set_option cbv.maxSteps 3000000
namespace Go.Proofs.YtmkniipdkanbbaaGreatDoor.AM
/- Texts are spoilt, drawn; conditions: none. -/
theorem grp_ok {g : Grp} (h : (1 ≤ g.c ∧ g.c ≤ 6) ∧ (1 ≤ g.k ∧ g.k ≤ 8) ∧ (if g.k ≤ 3 then 1 ≤ g.a ∧ g.a ≤ 2 else g.a = 0) ∧ (1 ≤ g.t ∧ g.t ≤ 9)) : okG g = true := by
  obtain ⟨h1, h2, h3, h4⟩ := h
  unfold okG attF inB
  simp only [Bool.and_eq_true, decide_eq_true_eq]
  refine ⟨⟨h1, h2, ?_⟩, h4⟩
  split
  · rename_i hk; rw [if_pos hk] at h3; exact decide_eq_true h3
  · rename_i hk; rw [if_neg hk] at h3; exact decide_eq_true h3
end Go.Proofs.YtmkniipdkanbbaaGreatDoor.AM

set_option maxRecDepth 100000
set_option maxHeartbeats 4000000
set_option cbv.maxSteps 3000000
namespace Go.Proofs.YtmkniipdkanbbaaGreatDoor.AM
/- Copies, comparisons and marks of lists of arms; conditions: none. -/
theorem RowsEq.put {D : RowD Arm} (ok : RowOk D) {L : List Arm} {j : Nat} {x : Arm} {M : List Arm} (e : L.set j x = M) : RowsEq D.k M.length (rowsT D stdH fun _ => M) L.length (put1 j (D.cells stdH fun _ => x) (rowsT D stdH fun _ => L)) :=
  .ofT ok rfl (Shp_put1 (Shp_rowsT ok _ _) (by rw [ok.of_cells])) (by rw [Tl_put1, Tl_rowsT ok, ok.of_cells, e])

end Go.Proofs.YtmkniipdkanbbaaGreatDoor.AM

set_option maxRecDepth 100000
set_option maxHeartbeats 4000000
set_option cbv.maxSteps 3000000
namespace Go.Proofs.YtmkniipdkanbbaaGreatDoor.AM
/- Arms wrapped; conditions: none. -/
theorem Tl_S (L : List ByteArray) : Tl rowS L.length (rowsS stdH fun _ => L) = L := Tl_rowsT okS L
theorem Shp_S (n : Nat) (L : List ByteArray) : Shp rowS n (rowsS stdH fun _ => L) := Shp_rowsT okS n (fun _ => L)
end Go.Proofs.YtmkniipdkanbbaaGreatDoor.AM

set_option maxRecDepth 100000
set_option maxHeartbeats 4000000
set_option cbv.maxSteps 3000000
namespace Go.Proofs.YtmkniipdkanbbaaGreatDoor.AM
/- Arms and their texts: draws, lines joined; conditions: none. -/
theorem okF_0 {p : Int} (h : 1 ≤ p ∧ p ≤ 9) : okF ⟨0, 0, p, 0⟩ = true := by
  simp [okF, inB]
  omega
theorem okF_1 {d l p q k : Int} (hd : 1 ≤ d ∧ d ≤ 7) (hl : 0 ≤ l ∧ l ≤ 4) (hp : 1 ≤ p ∧ p ≤ 9) (hk : 0 ≤ k ∧ k < 8) (hq : q = 1 + Int.tmod (p + k) 9) : okF ⟨d, l, p, q⟩ = true := by
  rw [Int.tmod_eq_emod_of_nonneg (by omega)] at hq
  unfold okF inB
  have h0 : ¬ d = 0 := by omega
  simp only [Bool.and_eq_true, zqa, h0, if_false, zqc, zqb]
  omega
theorem okA_1 {f : Fld} {o l t : Int} {n r : Grp} (hf : okF f = true) (ho : 1 ≤ o ∧ o ≤ 7) (hl : 0 ≤ l ∧ l ≤ 4) (ht : 1 ≤ t ∧ t ≤ 9) (hn : (noG n || okG n) = true) (hr : (noG r || okG r) = true) : okA ⟨f, o, l, t, n, r⟩ = true := by
  have h0 : ¬ o = 0 := by omega
  unfold okA inB
  simp only [hf, hr, hn, h0, if_false, Bool.and_eq_true, zqa, Bool.true_and, Bool.and_true, true_and, and_true]
  omega
theorem okA_0 {f : Fld} {r : Grp} (hf : okF f = true) (hr : (noG r || okG r) = true) : okA ⟨f, 0, 0, 0, zG, r⟩ = true := by
  unfold okA
  simp only [hf, hr, if_true, Bool.and_eq_true, decide_eq_true_eq, true_and]
  rfl
theorem orG {g : Grp} (h : okG g = true) : (noG g || okG g) = true := by rw [h]; simp
theorem orZ : (noG zG || okG zG) = true := rfl
def enc_fieldV (H : Hold) (y : Unit → Fld) : AV := .agg [.lit (.int .i64 (H Int fun _ => (((y ())).d))), .lit (.int .i64 (H Int fun _ => (((y ())).l))), .lit (.int .i64 (H Int fun _ => (((y ())).p))), .lit (.int .i64 (H Int fun _ => (((y ())).q)))]
theorem x_fieldV (c : Cd)  (st : DS) (h : Bd 10 st)  : ∃ y, Drw Tryz.prog 74 141 10 enc_fieldV (fun y => okF y = true) c [] st y := by
  have hB : Base Tryz.prog (tabΓ [e_tincture c, e_one c, e_pick c, e_among c]) tab := base_of tabOk (ents_cons (eok_tincture c) <| ents_cons (eok_one c) <| ents_cons (eok_pick c) <| ents_cons (eok_among c) <| ents_nil)
  refine drw_ok (N := 27) hB (draw_ok hB mixed) Tryz.func141 rfl rfl _ _ _ _ _ _ _ 100 (by simp) (by intro x hx; simp at hx; (first | done | (subst hx; first | (first | exact .lit | exact blq_ok 4 rfl) | exact .vec (fun j hj x hx => by simp [vrow] at hx; subst hx; exact .lit)) | (rcases hx with rfl | rfl <;> (first | exact .lit | exact blq_ok 4 rfl)) | (rcases hx with rfl | rfl | rfl <;> (first | exact .lit | exact blq_ok 4 rfl)))) ?_
  intro H hH
  conv in finish _ _ _ _ _ _ _ _ => cbv
  subst hH
  simp only [Fin.sat0, Fin.sat1, stdH, Option.some.injEq, AV.lit.injEq, AV.agg.injEq, AV.tup.injEq, List.cons.injEq, Value.bool.injEq, Value.int.injEq, AllP, and_true, true_and, eq_self, zqa, zqb, zqc, zqd, peta, ncast]
  obtain ⟨a1, m1, n1⟩ := p_tincture c st h.mono
  generalize F_tincture c st = y1 at *
  have b1 : Bd 8 y1.2 := a1.bd h
  have a2 := (p_one c 2 y1.2 (Bd.mono (by assumption))).1; generalize F_one c 2 y1.2 = y2 at *; have b2 : Bd 6 y2.2 := a2.bd (by assumption)
  obtain ⟨a3, m3, n3⟩ := p_pick c (7) y2.2 (Bd.mono (by assumption)); generalize F_pick c (7) y2.2 = y3 at *; have b3 : Bd 4 y3.2 := Adv.bd a3 (by assumption)
  have q4 := p_amongL c [.lit (.int .i64 0), .lit (.int .i64 0), .lit (.int .i64 1), .lit (.int .i64 2), .lit (.int .i64 3), .lit (.int .i64 4)] 6 y3.2 (by first | assumption | exact Bd.mono (by assumption)) rfl (by decide) (by decide); generalize F_among c 6 (ints (rowsOf 1 [.lit (.int .i64 0), .lit (.int .i64 0), .lit (.int .i64 1), .lit (.int .i64 2), .lit (.int .i64 3), .lit (.int .i64 4)])) y3.2 = y4 at *; simp only [List.map_cons, List.map_nil, intOf, zqu] at q4; obtain ⟨a4, q4⟩ := q4
  have b4 : Bd 2 y4.2 := a4.bd b3
  obtain ⟨a5, m5, n5⟩ := p_pick c (8) y4.2 (Bd.mono (by assumption)); generalize F_pick c (8) y4.2 = y5 at *; have b5 : Bd 0 y5.2 := Adv.bd a5 (by assumption)
  have w3 : IntKind.i64.wrap (1 + y3.1) = 1 + y3.1 := wi (by omega) (by omega)
  have w4 : IntKind.i64.wrap (y1.1 + y5.1) = y1.1 + y5.1 := wi (by omega) (by omega)
  have t1 := Int.tmod_nonneg 9 (a := y1.1 + y5.1) (by omega)
  have t2 := Int.tmod_lt_of_pos (y1.1 + y5.1) (show (0 : Int) < 9 by omega)
  have w5 : IntKind.i64.wrap (Int.tmod (y1.1 + y5.1) 9) = Int.tmod (y1.1 + y5.1) 9 := wi (by omega) (by omega)
  have w6 : IntKind.i64.wrap (1 + Int.tmod (y1.1 + y5.1) 9) = 1 + Int.tmod (y1.1 + y5.1) 9 := wi (by omega) (by omega)
  simp only [w3, w4, w5, w6]
  exact ⟨h.mono, b1.mono, fun _ => ⟨(⟨0, 0, y1.1, 0⟩, y2.2), .refl, by unfold enc_fieldV; (first | exact .lit | exact blq_ok 4 rfl), rfl, (a1.t a2).le (by decide), okF_0 ⟨m1, n1⟩⟩, fun _ => ⟨b2.mono, ⟨b3.mono, vrow_ok _ rfl (by decide), by decide, by decide⟩, b4, by decide, ⟨(⟨1 + y3.1, y4.1, y1.1, 1 + Int.tmod (y1.1 + y5.1) 9⟩, y5.2), .refl, by unfold enc_fieldV; (first | exact .lit | exact blq_ok 4 rfl), rfl, ((((a1.t a2).t a3).t a4).t a5).le (by decide), okF_1 ⟨by omega, by omega⟩ ⟨by omega, by omega⟩ ⟨m1, n1⟩ ⟨by omega, by omega⟩ rfl⟩⟩⟩
noncomputable def F_fieldV (c : Cd)  (st : DS) : Fld × DS := drw Tryz.prog 74 141 10 enc_fieldV (fun y => okF y = true) c [] st
noncomputable def e_fieldV (c : Cd) : Entry := curE 74 141 10 c fun H st a => match a with
  | [] => some (enc_fieldV H (fun _ => (F_fieldV c  st).1), (fun _ => (F_fieldV c  st).2), [])
  | _ => none
theorem eok_fieldV (c : Cd) : EntryOk Tryz.prog (e_fieldV c) := curE_ok (by unfold isBody; kernel_rfl) (by
  intro st a r y ob e hb hob
  split at e
  · simp only [zqt] at e
    obtain ⟨rfl, rfl, rfl⟩ := e
    exact ⟨(drw_spec (x_fieldV c  st hb)).1, (by intro x hx; cases hx), (by unfold enc_fieldV; (first | exact .lit | exact blq_ok 4 rfl))⟩
  · simp at e)
theorem p_fieldV (c : Cd)  (st : DS) (h : Bd 10 st)  : Adv 10 st (F_fieldV c  st).2 ∧ (fun y => okF y = true) (F_fieldV c  st).1 := (drw_spec (x_fieldV c  st h )).2
def enc_armsV (H : Hold) (y : Unit → Arm) : AV := .agg [.lit (.int .i64 (H Int fun _ => (((y ())).f.d))), .lit (.int .i64 (H Int fun _ => (((y ())).f.l))), .lit (.int .i64 (H Int fun _ => (((y ())).f.p))), .lit (.int .i64 (H Int fun _ => (((y ())).f.q))), .lit (.int .i64 (H Int fun _ => (((y ())).o))), .lit (.int .i64 (H Int fun _ => (((y ())).l))), .lit (.int .i64 (H Int fun _ => (((y ())).t))), .lit (.int .i64 (H Int fun _ => (((y ())).n.c))), .lit (.int .i64 (H Int fun _ => (((y ())).n.k))), .lit (.int .i64 (H Int fun _ => (((y ())).n.a))), .lit (.int .i64 (H Int fun _ => (((y ())).n.t))), .lit (.int .i64 (H Int fun _ => (((y ())).r.c))), .lit (.int .i64 (H Int fun _ => (((y ())).r.k))), .lit (.int .i64 (H Int fun _ => (((y ())).r.a))), .lit (.int .i64 (H Int fun _ => (((y ())).r.t)))]
theorem x_armsV (c : Cd)  (st : DS) (h : Bd 38 st)  : ∃ y, Drw Tryz.prog 74 93 38 enc_armsV (fun y => okA y = true) c [] st y := by
  have hB : Base Tryz.prog (tabΓ [e_fieldV c, e_one c, e_pick c, e_among c, e_tincture c, e_group c]) tab := base_of tabOk (ents_cons (eok_fieldV c) <| ents_cons (eok_one c) <| ents_cons (eok_pick c) <| ents_cons (eok_among c) <| ents_cons (eok_tincture c) <| ents_cons (eok_group c) <| ents_nil)
  refine drw_ok (N := 33) hB (draw_ok hB mixed) Tryz.func93 rfl rfl _ _ _ _ _ _ _ 150 (by simp) (by intro x hx; simp at hx; (first | done | (subst hx; first | (first | exact .lit | exact blq_ok 4 rfl) | exact .vec (fun j hj x hx => by simp [vrow] at hx; subst hx; exact .lit)) | (rcases hx with rfl | rfl <;> (first | exact .lit | exact blq_ok 4 rfl)) | (rcases hx with rfl | rfl | rfl <;> (first | exact .lit | exact blq_ok 4 rfl)))) ?_
  intro H hH
  conv in finish _ _ _ _ _ _ _ _ => cbv
  subst hH
  simp only [Fin.sat0, Fin.sat1, stdH, Option.some.injEq, AV.lit.injEq, AV.agg.injEq, AV.tup.injEq, List.cons.injEq, Value.bool.injEq, Value.int.injEq, AllP, and_true, true_and, eq_self, zqa, zqb, zqc, zqd, peta, ncast]
  obtain ⟨a1, k1⟩ := p_fieldV c st h.mono
  generalize F_fieldV c st = y1 at *
  have b1 : Bd 28 y1.2 := a1.bd h
  have a2 := (p_one c 3 y1.2 (Bd.mono (by assumption))).1; generalize F_one c 3 y1.2 = y2 at *; have b2 : Bd 26 y2.2 := a2.bd (by assumption)
  obtain ⟨a3, m3, n3⟩ := p_pick c (7) y2.2 (Bd.mono (by assumption)); generalize F_pick c (7) y2.2 = y3 at *; have b3 : Bd 24 y3.2 := Adv.bd a3 (by assumption)
  have q4 := p_amongL c [.lit (.int .i64 0), .lit (.int .i64 0), .lit (.int .i64 0), .lit (.int .i64 1), .lit (.int .i64 2), .lit (.int .i64 3), .lit (.int .i64 4)] 7 y3.2 (by first | assumption | exact Bd.mono (by assumption)) rfl (by decide) (by decide); generalize F_among c 7 (ints (rowsOf 1 [.lit (.int .i64 0), .lit (.int .i64 0), .lit (.int .i64 0), .lit (.int .i64 1), .lit (.int .i64 2), .lit (.int .i64 3), .lit (.int .i64 4)])) y3.2 = y4 at *; simp only [List.map_cons, List.map_nil, intOf, zqu] at q4; obtain ⟨a4, q4⟩ := q4
  have b4 : Bd 22 y4.2 := a4.bd b3
  obtain ⟨a5, m5, n5⟩ := p_tincture c y4.2 b4.mono
  generalize F_tincture c y4.2 = y5 at *
  have b5 : Bd 20 y5.2 := a5.bd b4
  have a6 := (p_one c 3 y5.2 (Bd.mono (by assumption))).1; generalize F_one c 3 y5.2 = y6 at *; have b6 : Bd 18 y6.2 := a6.bd (by assumption)
  obtain ⟨a7, k7⟩ := p_group c y6.2 b6.mono
  generalize F_group c y6.2 = y7 at *
  have b7 : Bd 10 y7.2 := a7.bd b6
  have a8 := (p_one c 3 y7.2 (Bd.mono (by assumption))).1; generalize F_one c 3 y7.2 = y8 at *; have b8 : Bd 8 y8.2 := a8.bd (by assumption)
  obtain ⟨a9, k9⟩ := p_group c y8.2 b8.mono
  generalize F_group c y8.2 = y9 at *
  have b9 : Bd 0 y9.2 := a9.bd b8
  have a10 := (p_one c 3 y6.2 (Bd.mono (by assumption))).1; generalize F_one c 3 y6.2 = y10 at *; have b10 : Bd 16 y10.2 := a10.bd (by assumption)
  obtain ⟨a11, k11⟩ := p_group c y10.2 b10.mono
  generalize F_group c y10.2 = y11 at *
  have b11 : Bd 8 y11.2 := a11.bd b10
  have a12 := (p_one c 3 y2.2 (Bd.mono (by assumption))).1; generalize F_one c 3 y2.2 = y12 at *; have b12 : Bd 24 y12.2 := a12.bd (by assumption)
  obtain ⟨a13, k13⟩ := p_group c y12.2 b12.mono
  generalize F_group c y12.2 = y13 at *
  have b13 : Bd 16 y13.2 := a13.bd b12
  have k7 := orG (grp_ok k7)
  have k9 := orG (grp_ok k9)
  have k11 := orG (grp_ok k11)
  have k13 := orG (grp_ok k13)
  have w3 : IntKind.i64.wrap (1 + y3.1) = 1 + y3.1 := wi (by omega) (by omega)
  simp only [w3]
  have ho : 1 ≤ 1 + y3.1 ∧ 1 + y3.1 ≤ 7 := ⟨by omega, by omega⟩
  have hl : 0 ≤ y4.1 ∧ y4.1 ≤ 4 := ⟨by omega, by omega⟩
  exact ⟨h.mono, b1.mono, fun _ => ⟨b2.mono, ⟨b3.mono, vrow_ok _ rfl (by decide), by decide, by decide⟩, b4.mono, b5.mono, fun _ => ⟨b6.mono, b7.mono, fun _ => ⟨b8, ⟨(⟨y1.1, 1 + y3.1, y4.1, y5.1, y7.1, y9.1⟩, y9.2), .refl, by unfold enc_armsV; (first | exact .lit | exact blq_ok 4 rfl), rfl, ((((((((a1.t a2).t a3).t a4).t a5).t a6).t a7).t a8).t a9).le (by decide), okA_1 k1 ho hl ⟨m5, n5⟩ k7 k9⟩⟩, fun _ => ⟨(⟨y1.1, 1 + y3.1, y4.1, y5.1, y7.1, zG⟩, y8.2), .refl, by unfold enc_armsV; (first | exact .lit | exact blq_ok 4 rfl), rfl, (((((((a1.t a2).t a3).t a4).t a5).t a6).t a7).t a8).le (by decide), okA_1 k1 ho hl ⟨m5, n5⟩ k7 orZ⟩⟩,
    fun _ => ⟨b6.mono, fun _ => ⟨b10.mono, ⟨(⟨y1.1, 1 + y3.1, y4.1, y5.1, zG, y11.1⟩, y11.2), .refl, by unfold enc_armsV; (first | exact .lit | exact blq_ok 4 rfl), rfl, (((((((a1.t a2).t a3).t a4).t a5).t a6).t a10).t a11).le (by decide), okA_1 k1 ho hl ⟨m5, n5⟩ orZ k11⟩⟩, fun _ => ⟨(⟨y1.1, 1 + y3.1, y4.1, y5.1, zG, zG⟩, y10.2), .refl, by unfold enc_armsV; (first | exact .lit | exact blq_ok 4 rfl), rfl, ((((((a1.t a2).t a3).t a4).t a5).t a6).t a10).le (by decide), okA_1 k1 ho hl ⟨m5, n5⟩ orZ orZ⟩⟩⟩, fun _ => ⟨b2.mono, fun _ => ⟨b12.mono, ⟨(⟨y1.1, 0, 0, 0, zG, y13.1⟩, y13.2), .refl, by unfold enc_armsV; (first | exact .lit | exact blq_ok 4 rfl), rfl, (((a1.t a2).t a12).t a13).le (by decide), okA_0 k1 k13⟩⟩, fun _ => ⟨(⟨y1.1, 0, 0, 0, zG, zG⟩, y12.2), .refl, by unfold enc_armsV; (first | exact .lit | exact blq_ok 4 rfl), rfl, ((a1.t a2).t a12).le (by decide), okA_0 k1 orZ⟩⟩⟩
noncomputable def F_armsV (c : Cd)  (st : DS) : Arm × DS := drw Tryz.prog 74 93 38 enc_armsV (fun y => okA y = true) c [] st
noncomputable def e_armsV (c : Cd) : Entry := curE 74 93 38 c fun H st a => match a with
  | [] => some (enc_armsV H (fun _ => (F_armsV c  st).1), (fun _ => (F_armsV c  st).2), [])
  | _ => none
theorem eok_armsV (c : Cd) : EntryOk Tryz.prog (e_armsV c) := curE_ok (by unfold isBody; kernel_rfl) (by
  intro st a r y ob e hb hob
  split at e
  · simp only [zqt] at e
    obtain ⟨rfl, rfl, rfl⟩ := e
    exact ⟨(drw_spec (x_armsV c  st hb)).1, (by intro x hx; cases hx), (by unfold enc_armsV; (first | exact .lit | exact blq_ok 4 rfl))⟩
  · simp at e)
theorem p_armsV (c : Cd)  (st : DS) (h : Bd 38 st)  : Adv 38 st (F_armsV c  st).2 ∧ (fun y => okA y = true) (F_armsV c  st).1 := (drw_spec (x_armsV c  st h )).2
/-! ### Lines joined -/
end Go.Proofs.YtmkniipdkanbbaaGreatDoor.AM

set_option maxRecDepth 100000
set_option maxHeartbeats 4000000
set_option cbv.maxSteps 3000000
namespace Go.Proofs.YtmkniipdkanbbaaGreatDoor.AM
/- Shields are drawn; conditions: none. -/
structure Shd where
  mode : Int
  parts : List Arm
deriving Inhabited
theorem Shd.eta (a : Shd) : (⟨a.mode, a.parts⟩ : Shd) = a := rfl
theorem flat_at {α : Type} {f : α → List AV} {k : Nat} (hf : ∀ x, (f x).length = k) : ∀ (L : List α) (j : Nat) (h : j < L.length), ((L.flatMap f).drop (j * k)).take k = f L[j]
  | x :: L, 0, _ => by
    simp only [List.flatMap_cons, Nat.zero_mul, List.drop_zero, List.getElem_cons_zero]
    rw [List.take_append_of_le_length (by rw [hf]; exact Nat.le_refl _), List.take_of_length_le (by rw [hf]; exact Nat.le_refl _)]
  | x :: L, j + 1, h => by
    simp only [List.flatMap_cons, List.getElem_cons_succ]
    have e : (j + 1) * k = (f x).length + j * k := by rw [hf, Nat.add_mul, Nat.one_mul, Nat.add_comm]
    rw [e, List.drop_append, List.drop_of_length_le (by omega), List.nil_append, Nat.add_sub_cancel_left]
    exact flat_at hf L j (by simpa using h)
theorem RowsEq.lit {α : Type} {D : RowD α} (ok : RowOk D) {L : List α} {cs : List AV} {n : Nat} (hn : L.length = n) (h : cs = L.flatMap fun x => D.cells stdH fun _ => x) : RowsEq D.k L.length (rowsT D stdH fun _ => L) n (rowsOf D.k cs) := by
  subst hn
  refine ⟨rfl, fun j hj => ⟨?_, by rw [rowsT, ok.row]; exact ok.len _, rows_blx ok L j⟩⟩
  rw [rowsT, ok.row, rowsOf, h, flat_at (fun x => ok.len fun _ => x) L j hj, List.getD_eq_getElem?_getD, List.getElem?_eq_getElem hj, Option.getD_some]
theorem hetaA {H : Hold} (hH : H = stdH) (a : Arm) : (⟨⟨H Int fun _ => a.f.d, H Int fun _ => a.f.l, H Int fun _ => a.f.p, H Int fun _ => a.f.q⟩, H Int fun _ => a.o, H Int fun _ => a.l, H Int fun _ => a.t, ⟨H Int fun _ => a.n.c, H Int fun _ => a.n.k, H Int fun _ => a.n.a, H Int fun _ => a.n.t⟩, ⟨H Int fun _ => a.r.c, H Int fun _ => a.r.k, H Int fun _ => a.r.a, H Int fun _ => a.r.t⟩⟩ : Arm) = a := by subst hH; rfl
theorem Cd.rqN (c : Cd) : RowsEq 1 c.n c.rows c.n c.rows := ⟨rfl, fun j _ => ⟨rfl, rfl, fun x hx => by simp [Cd.rows] at hx; subst hx; exact .lit⟩⟩
theorem hlen {H : Hold} (hH : H = stdH) (n : Nat) : (H Int fun _ => ((H Nat fun _ => n : Nat) : Int)) = (n : Int) := by subst hH; rfl
end Go.Proofs.YtmkniipdkanbbaaGreatDoor.AM

