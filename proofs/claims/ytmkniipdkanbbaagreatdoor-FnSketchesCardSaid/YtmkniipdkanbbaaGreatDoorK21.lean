/- Lemmas and contracts (Skq); conditions: none. -/
import Derived.Test.YtmkniipdkanbbaaGreatDoorK04
import Derived.Test.YtmkniipdkanbbaaGreatDoorK20
set_option linter.unusedVariables false
set_option linter.unusedSimpArgs false
set_option maxRecDepth 100000
set_option maxHeartbeats 4000000
set_option cbv.maxSteps 3000000
namespace Go.Proofs.YtmkniipdkanbbaaGreatDoor.AM
/- Sketches: what is read back; conditions: none. -/
def slV : List ByteArray := [(⟨⟨[111, 102]⟩⟩ : ByteArray), (⟨⟨[116, 104, 101]⟩⟩ : ByteArray)] ++ lasL
theorem slW_w {y : Slo} (hy : y ∈ allY) : ∃ W, slW y = spB ++ W ∧ (wordsB W).all (fun w => isIn w slV) = true := by
  unfold allY at hy
  simp only [zqu] at hy
  rcases hy with rfl | rfl | rfl | rfl | rfl | rfl | rfl | rfl | rfl | rfl | rfl | rfl | rfl | rfl
  · exact ⟨(⟨⟨[111, 102, 32, 116, 104, 101, 32, 102, 105, 101, 108, 100]⟩⟩ : ByteArray), by decide, by decide⟩
  · exact ⟨(⟨⟨[111, 102, 32, 116, 104, 101, 32, 102, 105, 114, 115, 116]⟩⟩ : ByteArray), by decide, by decide⟩
  · exact ⟨(⟨⟨[111, 102, 32, 116, 104, 101, 32, 115, 101, 99, 111, 110, 100]⟩⟩ : ByteArray), by decide, by decide⟩
  · exact ⟨(⟨⟨[111, 102, 32, 116, 104, 101, 32, 116, 104, 105, 114, 100]⟩⟩ : ByteArray), by decide, by decide⟩
  · exact ⟨(⟨⟨[111, 102, 32, 116, 104, 101, 32, 108, 97, 115, 116]⟩⟩ : ByteArray), by decide, by decide⟩
  all_goals exact ⟨_, rfl, by decide⟩
theorem no_sl {w A : ByteArray} {y : Slo} (hy : okY y = true) (hA : w ∉ wordsB A) (hv : notIn w slV = true) : w ∉ wordsB (A ++ slW y) := by
  rcases okY_in hy with h | rfl
  · obtain ⟨W, e, hW⟩ := slW_w h
    rw [e, wordsB_app, List.mem_append, not_or]
    exact ⟨hA, fun q => notIn_mem hv (isIn_mem (List.all_eq_true.1 hW w q))⟩
  · rw [show slW nxY = ByteArray.empty from rfl, app_empty]; exact hA
theorem no_ord {w : ByteArray} (h : strange w = true) (o l : Int) : w ∉ wordsB (ordS o l) := fun q => by
  refine strange_O h ⟨o, l, 1⟩ ?_
  have e : oT ⟨o, l, 1⟩ = ordS o l ++ (spB ++ wordOf tinL 1) := rfl
  rw [e, wordsB_app]
  exact List.mem_append_left _ q
theorem no_bar {w : ByteArray} (h : strange w = true) (g : Grp) : w ∉ wordsB (barT g) := fun q => by
  refine strange_G h g ?_
  rw [barT_grp, wordsB_app]
  exact List.mem_append_left _ q
def spE (X : ByteArray) : Prop := X = ByteArray.empty ∨ ∃ Y, X = spB ++ Y
theorem spE_app {A B : ByteArray} (hA : spE A) (hB : spE B) : spE (A ++ B) := by
  rcases hA with rfl | ⟨Y, rfl⟩
  · rw [empty_app]; exact hB
  · exact .inr ⟨Y ++ B, ByteArray.append_assoc⟩
theorem spE_sl {y : Slo} (hy : okY y = true) : spE (slW y) := by
  rcases okY_in hy with h | rfl
  · obtain ⟨W, e, _⟩ := slW_w h
    exact .inr ⟨W, e⟩
  · exact .inl rfl
theorem two_w {a w X : ByteArray} (ha : nsp a = true) (hw : nsp w = true) (hX : spE X) : ∃ r, wordsB (a ++ (spB ++ (w ++ X))) = a :: w :: r := by
  rw [wordsB_app, wordsB_one ha]
  rcases hX with rfl | ⟨Y, rfl⟩
  · rw [app_empty, wordsB_one hw]; exact ⟨[], rfl⟩
  · rw [wordsB_app, wordsB_one hw]; exact ⟨_, rfl⟩
theorem ordS_two (o l : Int) : ∃ X, spE X ∧ ordS o l = (⟨⟨[97]⟩⟩ : ByteArray) ++ (spB ++ (wordOf ordL o ++ X)) := by
  have ea : ∀ y : ByteArray, (⟨⟨[97, 32]⟩⟩ : ByteArray) ++ y = (⟨⟨[97]⟩⟩ : ByteArray) ++ (spB ++ y) := fun y => by rw [← ByteArray.append_assoc]; rfl
  unfold ordS
  by_cases h : l = 0
  · rw [wlT_y h, ea]
    exact ⟨ByteArray.empty, .inl rfl, by rw [app_empty]⟩
  · rw [wlT_n h, ea]
    exact ⟨_, .inr ⟨wordOf linL l, rfl⟩, by simp only [ByteArray.append_assoc]; rfl⟩
theorem tkR_gen (f : ByteArray) {o : Int} (ho : 1 ≤ o ∧ o ≤ 7) {P N R : ByteArray} (bn br : Bool) (hw : (wordsB (P ++ ((if bn then ByteArray.empty else chgB ++ N) ++ (if br then ByteArray.empty else midB o ++ R)))).getD 1 ByteArray.empty = wordOf ordL o ∧ 2 ≤ (wordsB (P ++ ((if bn then ByteArray.empty else chgB ++ N) ++ (if br then ByteArray.empty else midB o ++ R)))).length)
    (hP : wAbove ∉ wordsB P ∧ wBetween ∉ wordsB P ∧ wCharged ∉ wordsB P) (hN : wAbove ∉ wordsB N ∧ wBetween ∉ wordsB N) (hR : wAbove ∉ wordsB R) :
    tkR f (P ++ ((if bn then ByteArray.empty else chgB ++ N) ++ (if br then ByteArray.empty else midB o ++ R))) = ⟨f, P, if bn then ByteArray.empty else N, if br then ByteArray.empty else R, decide (o = 7)⟩ := by
  have hin : isIn (wordOf ordL o) ordL = true := by
    have : ∀ i, i < 7 → isIn (wordOf ordL ((i + 1 : Nat))) ordL = true := by decide
    have := this (o.toNat - 1) (by omega)
    rwa [show (((o.toNat - 1 + 1 : Nat)) : Int) = o by omega] at this
  have hch : decide (wordOf ordL o = (⟨⟨[99, 104, 105, 101, 102]⟩⟩ : ByteArray)) = decide (o = 7) := by
    have : ∀ i, i < 7 → decide (wordOf ordL ((i + 1 : Nat)) = (⟨⟨[99, 104, 105, 101, 102]⟩⟩ : ByteArray)) = decide (((i + 1 : Nat) : Int) = 7) := by decide
    have := this (o.toNat - 1) (by omega)
    rwa [show (((o.toNat - 1 + 1 : Nat)) : Int) = o by omega] at this
  have hPN : ∀ w, w ∉ wordsB P → w ∉ wordsB N → w ≠ wCharged → w ≠ (⟨⟨[119, 105, 116, 104]⟩⟩ : ByteArray) → w ∉ wordsB (P ++ (if bn then ByteArray.empty else chgB ++ N)) := fun w h1 h2 hcc hvv => by
    cases bn
    · simp only [Bool.false_eq_true, if_false]
      have e : P ++ (chgB ++ N) = P ++ (spB ++ (wCharged ++ (spB ++ ((⟨⟨[119, 105, 116, 104]⟩⟩ : ByteArray) ++ (spB ++ N))))) := by
        rw [show chgB = spB ++ (wCharged ++ (spB ++ ((⟨⟨[119, 105, 116, 104]⟩⟩ : ByteArray) ++ spB))) by decide]
        simp only [ByteArray.append_assoc]
      rw [e, wordsB_app, wordsB_app, wordsB_one (w := wCharged) (by decide), wordsB_app, wordsB_one (w := (⟨⟨[119, 105, 116, 104]⟩⟩ : ByteArray)) (by decide)]
      simp only [List.mem_append, List.mem_singleton, not_or]
      exact ⟨h1, hcc, hvv, h2⟩
    · simp only [if_true]; rw [app_empty]; exact h1
  have nA := hPN wAbove hP.1 hN.1 (by decide) (by decide)
  have nB := hPN wBetween hP.2.1 hN.2 (by decide) (by decide)
  have hs : nsp wAbove = true := by decide
  have hb : nsp wBetween = true := by decide
  have hc : nsp wCharged = true := by decide
  have last : cutB (P ++ (if bn then ByteArray.empty else chgB ++ N)) chgB = (P, if bn then ByteArray.empty else N, !bn) := by
    cases bn
    · simp only [Bool.false_eq_true, if_false, Bool.not_false]
      rw [chg_eq]
      exact cutB_word hc hP.2.2
    · simp only [if_true, Bool.not_true]
      rw [app_empty, chg_eq]
      exact cutB_word' hc hP.2.2
  generalize (if bn then ByteArray.empty else chgB ++ N) = N1 at *
  have hx2 : (if (cutB (P ++ (N1 ++ (if br then ByteArray.empty else midB o ++ R))) abvB).2.2 then ((cutB (P ++ (N1 ++ (if br then ByteArray.empty else midB o ++ R))) abvB).1, (cutB (P ++ (N1 ++ (if br then ByteArray.empty else midB o ++ R))) abvB).2.1) else ((cutB (P ++ (N1 ++ (if br then ByteArray.empty else midB o ++ R))) btwB).1, (cutB (P ++ (N1 ++ (if br then ByteArray.empty else midB o ++ R))) btwB).2.1)) = (P ++ N1, if br then ByteArray.empty else R) := by
    rw [← ByteArray.append_assoc]
    cases br
    · simp only [Bool.false_eq_true, if_false]
      by_cases h7 : o = 7
      · have em : midB o = abvB := if_pos h7
        rw [em, abv_eq, cutB_word hs nA]; rfl
      · have em : midB o = btwB := if_neg h7
        have e1 : cutB ((P ++ N1) ++ (btwB ++ R)) abvB = ((P ++ N1) ++ (btwB ++ R), ByteArray.empty, false) := by
          rw [abv_eq]
          refine cutB_word' hs ?_
          rw [btw_eq]
          have : (P ++ N1) ++ (spW wBetween ByteArray.empty ++ R) = (P ++ N1) ++ (spB ++ (wBetween ++ (spB ++ R))) := by
            unfold spW; simp only [ByteArray.append_assoc, empty_app]
          rw [this, wordsB_app, wordsB_app, wordsB_one (w := wBetween) hb]
          simp only [List.mem_append, List.mem_singleton, not_or]
          exact ⟨nA, by decide, hR⟩
        rw [em, e1, btw_eq, cutB_word hb nB]; rfl
    · simp only [if_true]
      rw [app_empty, abv_eq, cutB_word' hs nA, btw_eq, cutB_word' hb nB]; rfl
  unfold tkR
  obtain ⟨h1, h2⟩ := hw
  rw [if_neg (by rw [h1, hin]; simp; omega)]
  simp only
  rw [hx2, h1, hch]
  simp only
  rw [last]
theorem tkR_one (f : ByteArray) (g : Grp) {y : Slo} (hy : okY y = true) : tkR f (barT g ++ slW y) = ⟨f, ByteArray.empty, ByteArray.empty, barT g ++ slW y, false⟩ := by
  have hX : spE (attT g ++ slW y) := by
    refine spE_app ?_ (spE_sl hy)
    unfold attT
    split
    · exact .inr ⟨_, rfl⟩
    · exact .inl rfl
  have e : barT g ++ slW y = cntT g.c g.k ++ (spB ++ (kndT g.k g.c ++ (attT g ++ slW y))) := by
    unfold barT; simp only [ByteArray.append_assoc]; rfl
  obtain ⟨r, hr⟩ := two_w (nsp_cnt g.c g.k) (nsp_knd g.k g.c) hX
  have : (wordsB (barT g ++ slW y)).getD 1 ByteArray.empty = kndT g.k g.c := by rw [e, hr]; rfl
  unfold tkR
  rw [if_pos (.inr (by rw [this]; exact knd_ord _ _))]
/-! ### The texts of sketches -/
def gldA (a : Arm) : Bool := (decide (a.o = 0) || decide (a.t = 1)) && ((noG a.n || decide (a.n.t = 1)) && (noG a.r || decide (a.r.t = 1)))
def i1 (a : Arm) : Nat := if a.o = 0 then 0 else 1
def i2 (a : Arm) : Nat := i1 a + if noG a.n then 0 else 1
def cntP (a : Arm) : Nat := i2 a + if noG a.r then 0 else 1
def okK (k : Skt) : Bool := okA k.arms && (gldA k.arms && (decide (k.slots.length = cntP k.arms) && (k.slots.all okY && !decide ((k.slots.getD (k.slots.length - 1) default).m = 5))))
def kS (k : Skt) (i : Nat) : ByteArray := slW (k.slots.getD i default)
def kO (k : Skt) : ByteArray := if k.arms.o = 0 then ByteArray.empty else comB ++ (ordS k.arms.o k.arms.l ++ kS k 0)
def kN (k : Skt) : ByteArray := if noG k.arms.n then ByteArray.empty else chgB ++ (barT k.arms.n ++ kS k (i1 k.arms))
def kR (k : Skt) : ByteArray := if noG k.arms.r then ByteArray.empty else jnO k.arms.o ++ (barT k.arms.r ++ kS k (i2 k.arms))
def kT (k : Skt) : ByteArray := fldT k.arms.f ++ (kO k ++ (kN k ++ kR k))
structure OkK (k : Skt) : Prop where
  a : okA k.arms = true
  g : gldA k.arms = true
  len : k.slots.length = cntP k.arms
  y : ∀ i, i < cntP k.arms → okY (k.slots.getD i default) = true
  nx : (k.slots.getD (k.slots.length - 1) default).m ≠ 5
theorem okK_iff {k : Skt} : okK k = true ↔ OkK k := by
  unfold okK
  simp only [Bool.and_eq_true, zqa, zqc, zqb]
  constructor
  · rintro ⟨h1, h2, h3, h4, h5⟩
    exact ⟨h1, h2, h3, fun i hi => List.all_eq_true.1 h4 _ (getD_mem (d := default) (by omega)), h5⟩
  · rintro ⟨h1, h2, h3, h4, h5⟩
    refine ⟨h1, h2, h3, List.all_eq_true.2 fun y hy => ?_, h5⟩
    obtain ⟨i, hi, rfl⟩ := List.getElem_of_mem hy
    have := h4 i (by omega)
    rwa [List.getD_eq_getElem?_getD, List.getElem?_eq_getElem hi] at this
theorem gldA_in {a : Arm} (h : gldA a = true) : (a.o = 0 ∨ a.t = 1) ∧ (noG a.n = true ∨ a.n.t = 1) ∧ (noG a.r = true ∨ a.r.t = 1) := by
  unfold gldA at h
  simp only [Bool.and_eq_true, Bool.or_eq_true, decide_eq_true_eq] at h
  exact h
def golB : ByteArray := (⟨⟨[32, 103, 111, 108, 100]⟩⟩ : ByteArray)
def k1 (p : ByteArray) : ByteArray := if emp p then ByteArray.empty else (cutK p).1 ++ golB
def k2 (p : ByteArray) : List Slo := if emp p then [] else [(cutK p).2]
noncomputable def candK (s : ByteArray) : Skt := ⟨(pA (jnT ⟨(tkn s).f, k1 (tkn s).o, k1 (tkn s).n, k1 (tkn s).r, (tkn s).c⟩)).getD zA, k2 (tkn s).o ++ (k2 (tkn s).n ++ k2 (tkn s).r)⟩
theorem emp_app {a b : ByteArray} (h : 1 ≤ a.size) : emp (a ++ b) = false := emp_no (by simp only [ByteArray.size_append]; omega)
theorem list1 {l : List Slo} (h : l.length = 1) : [l.getD 0 default] = l := by
  match l, h with
  | [x], _ => rfl
theorem list2 {l : List Slo} (h : l.length = 2) : [l.getD 0 default, l.getD 1 default] = l := by
  match l, h with
  | [x, y], _ => rfl
theorem list3 {l : List Slo} (h : l.length = 3) : [l.getD 0 default, l.getD 1 default, l.getD 2 default] = l := by
  match l, h with
  | [x, y, z], _ => rfl
theorem kS_or {k : Skt} (h : OkK k) (i : Nat) : (∃ y, okY y = true ∧ kS k i = slW y) ∨ kS k i = ByteArray.empty := by
  by_cases hi : i < cntP k.arms
  · exact .inl ⟨_, h.y i hi, rfl⟩
  · refine .inr ?_
    unfold kS
    rw [List.getD_eq_getElem?_getD, List.getElem?_eq_none (by rw [h.len]; omega)]; rfl
theorem no_kS {k : Skt} (h : OkK k) {w A : ByteArray} (i : Nat) (hA : w ∉ wordsB A) (hv : notIn w slV = true) : w ∉ wordsB (A ++ kS k i) := by
  rcases kS_or h i with ⟨y, hy, e⟩ | e
  · rw [e]; exact no_sl hy hA hv
  · rw [e, app_empty]; exact hA
theorem spE_kS {k : Skt} (h : OkK k) (i : Nat) : spE (kS k i) := by
  rcases kS_or h i with ⟨y, hy, e⟩ | e
  · rw [e]; exact spE_sl hy
  · rw [e]; exact .inl rfl
theorem kT_tkn {k : Skt} (h : OkK k) : tkn (kT k) = ⟨fldT k.arms.f, if k.arms.o = 0 then ByteArray.empty else ordS k.arms.o k.arms.l ++ kS k 0, if noG k.arms.n then ByteArray.empty else barT k.arms.n ++ kS k (i1 k.arms), if noG k.arms.r then ByteArray.empty else barT k.arms.r ++ kS k (i2 k.arms), decide (k.arms.o = 7)⟩ := by
  have h0 := h
  obtain ⟨ha, hg, hlen, hy, _⟩ := h
  by_cases ho : k.arms.o = 0
  · have hn := okA_o0 ha ho
    have e0 : i2 k.arms = 0 := by unfold i2 i1; rw [if_pos ho, hn]; rfl
    unfold kT kO kN kR tkn
    rw [if_pos ho, if_pos ho, hn, show jnO k.arms.o = comB from if_pos ho]
    simp only [if_true, empty_app]
    cases hr : noG k.arms.r
    · simp only [Bool.false_eq_true, if_false]
      rw [cutB_lacks com_l (lacks44_f _)]
      have := hy 0 (by unfold cntP; rw [e0, hr]; simp)
      rw [e0, show decide (k.arms.o = 7) = false from decide_eq_false (by omega)]
      exact tkR_one _ _ this
    · simp only [if_true]
      rw [app_empty, cutB_lacks' com_l (lacks44_f _), show decide (k.arms.o = 7) = false from decide_eq_false (by omega)]
      exact tkR_e _
  · obtain ⟨o2, o3, o4⟩ := okA_O ha ho
    have em : jnO k.arms.o = midB k.arms.o := by unfold jnO midB; rw [if_neg ho]; rfl
    have q := tkR_gen (fldT k.arms.f) o2 (P := ordS k.arms.o k.arms.l ++ kS k 0) (N := barT k.arms.n ++ kS k (i1 k.arms)) (R := barT k.arms.r ++ kS k (i2 k.arms)) (noG k.arms.n) (noG k.arms.r) ?_ ⟨no_kS h0 0 (no_ord str_above _ _) (by decide), no_kS h0 0 (no_ord str_between _ _) (by decide), no_kS h0 0 (no_ord str_charged _ _) (by decide)⟩ ⟨no_kS h0 _ (no_bar str_above _) (by decide), no_kS h0 _ (no_bar str_between _) (by decide)⟩ (no_kS h0 _ (no_bar str_above _) (by decide))
    · unfold kT kO kN kR tkn
      rw [if_neg ho, if_neg ho, em, ByteArray.append_assoc (a := comB), cutB_lacks com_l (lacks44_f _)]
      exact q
    · obtain ⟨X0, hX0, e0⟩ := ordS_two k.arms.o k.arms.l
      have hN : spE (if noG k.arms.n then ByteArray.empty else chgB ++ (barT k.arms.n ++ kS k (i1 k.arms))) := by
        split
        · exact .inl rfl
        · exact .inr ⟨(wCharged ++ (spB ++ ((⟨⟨[119, 105, 116, 104]⟩⟩ : ByteArray) ++ spB))) ++ (barT k.arms.n ++ kS k (i1 k.arms)), by rw [show chgB = spB ++ (wCharged ++ (spB ++ ((⟨⟨[119, 105, 116, 104]⟩⟩ : ByteArray) ++ spB))) by decide, ByteArray.append_assoc]⟩
      have hR : spE (if noG k.arms.r then ByteArray.empty else midB k.arms.o ++ (barT k.arms.r ++ kS k (i2 k.arms))) := by
        split
        · exact .inl rfl
        · unfold midB
          split
          · exact .inr ⟨(⟨⟨[97, 98, 111, 118, 101, 32]⟩⟩ : ByteArray) ++ (barT k.arms.r ++ kS k (i2 k.arms)), by rw [show abvB = spB ++ (⟨⟨[97, 98, 111, 118, 101, 32]⟩⟩ : ByteArray) by decide, ByteArray.append_assoc]⟩
          · exact .inr ⟨(⟨⟨[98, 101, 116, 119, 101, 101, 110, 32]⟩⟩ : ByteArray) ++ (barT k.arms.r ++ kS k (i2 k.arms)), by rw [show btwB = spB ++ (⟨⟨[98, 101, 116, 119, 101, 101, 110, 32]⟩⟩ : ByteArray) by decide, ByteArray.append_assoc]⟩
      obtain ⟨r, hr⟩ := two_w (a := (⟨⟨[97]⟩⟩ : ByteArray)) (w := wordOf ordL k.arms.o) (by decide) (nsp_ord _) (spE_app hX0 (spE_app (spE_kS h0 0) (spE_app hN hR)))
      have e1 : (ordS k.arms.o k.arms.l ++ kS k 0) ++ ((if noG k.arms.n then ByteArray.empty else chgB ++ (barT k.arms.n ++ kS k (i1 k.arms))) ++ (if noG k.arms.r then ByteArray.empty else midB k.arms.o ++ (barT k.arms.r ++ kS k (i2 k.arms)))) = (⟨⟨[97]⟩⟩ : ByteArray) ++ (spB ++ (wordOf ordL k.arms.o ++ (X0 ++ (kS k 0 ++ ((if noG k.arms.n then ByteArray.empty else chgB ++ (barT k.arms.n ++ kS k (i1 k.arms))) ++ (if noG k.arms.r then ByteArray.empty else midB k.arms.o ++ (barT k.arms.r ++ kS k (i2 k.arms)))))))) := by
        rw [e0]; simp only [ByteArray.append_assoc]
      rw [e1, hr]
      exact ⟨rfl, by simp⟩
theorem k1_e : k1 ByteArray.empty = ByteArray.empty := by unfold k1; rw [emp_y]; rfl
theorem k2_e : k2 ByteArray.empty = [] := by unfold k2; rw [emp_y]; rfl
theorem k1_o {o l : Int} (ho : 1 ≤ o ∧ o ≤ 7) (hl : 0 ≤ l ∧ l ≤ 4) {y : Slo} (hy : okY y = true) : k1 (ordS o l ++ slW y) = ordS o l ++ golB ∧ k2 (ordS o l ++ slW y) = [y] := by
  unfold k1 k2
  rw [emp_app (ordS_pos o l), cut_ord ho hl hy]
  exact ⟨rfl, rfl⟩
theorem k1_g {g : Grp} (hg : okT g) {y : Slo} (hy : okY y = true) : k1 (barT g ++ slW y) = barT g ++ golB ∧ k2 (barT g ++ slW y) = [y] := by
  unfold k1 k2
  rw [emp_app (barT_pos g), cut_grp hg hy]
  exact ⟨rfl, rfl⟩
theorem candK_at {k : Skt} (h : OkK k) : candK (kT k) = k := by
  obtain ⟨ha, hg, hlen, hy, _⟩ := h
  obtain ⟨g1, g2, g3⟩ := gldA_in hg
  have yn : noG k.arms.n = false → okY (k.slots.getD (i1 k.arms) default) = true := fun hn => hy _ (by unfold cntP i2; rw [hn]; simp; omega)
  have yr : noG k.arms.r = false → okY (k.slots.getD (i2 k.arms) default) = true := fun hr => hy _ (by unfold cntP; rw [hr]; simp)
  have yo : k.arms.o ≠ 0 → okY (k.slots.getD 0 default) = true := fun ho => hy _ (by unfold cntP i2 i1; rw [if_neg ho]; omega)
  have eo : k1 (if k.arms.o = 0 then ByteArray.empty else ordS k.arms.o k.arms.l ++ kS k 0) = orE (decide (k.arms.o = 0)) (ordS k.arms.o k.arms.l ++ ((⟨⟨[32]⟩⟩ : ByteArray) ++ wordOf tinL k.arms.t)) := by
    by_cases ho : k.arms.o = 0
    · rw [if_pos ho, k1_e, decide_eq_true ho]; rfl
    · obtain ⟨o2, o3, _⟩ := okA_O ha ho
      rw [if_neg ho, decide_eq_false ho, g1.resolve_left ho]
      exact (k1_o o2 o3 (yo ho)).1
  have en : k1 (if noG k.arms.n then ByteArray.empty else barT k.arms.n ++ kS k (i1 k.arms)) = orE (noG k.arms.n) (grpT k.arms.n) := by
    cases hn : noG k.arms.n
    · simp only [Bool.false_eq_true, if_false]
      refine (k1_g (okA_N ha hn).1 (yn hn)).1.trans ?_
      rw [barT_grp, (g2.resolve_left (by rw [hn]; simp))]; rfl
    · simp only [if_true]; rw [k1_e]; rfl
  have er : k1 (if noG k.arms.r then ByteArray.empty else barT k.arms.r ++ kS k (i2 k.arms)) = orE (noG k.arms.r) (grpT k.arms.r) := by
    cases hr : noG k.arms.r
    · simp only [Bool.false_eq_true, if_false]
      refine (k1_g (okA_R ha hr) (yr hr)).1.trans ?_
      rw [barT_grp, (g3.resolve_left (by rw [hr]; simp))]; rfl
    · simp only [if_true]; rw [k1_e]; rfl
  have es : k2 (if k.arms.o = 0 then ByteArray.empty else ordS k.arms.o k.arms.l ++ kS k 0) ++ (k2 (if noG k.arms.n then ByteArray.empty else barT k.arms.n ++ kS k (i1 k.arms)) ++ k2 (if noG k.arms.r then ByteArray.empty else barT k.arms.r ++ kS k (i2 k.arms))) = k.slots := by
    have fo : k2 (if k.arms.o = 0 then ByteArray.empty else ordS k.arms.o k.arms.l ++ kS k 0) = if k.arms.o = 0 then [] else [k.slots.getD 0 default] := by
      by_cases ho : k.arms.o = 0
      · rw [if_pos ho, if_pos ho, k2_e]
      · obtain ⟨o2, o3, _⟩ := okA_O ha ho
        rw [if_neg ho, if_neg ho]
        exact (k1_o o2 o3 (yo ho)).2
    have fn : k2 (if noG k.arms.n then ByteArray.empty else barT k.arms.n ++ kS k (i1 k.arms)) = if noG k.arms.n then [] else [k.slots.getD (i1 k.arms) default] := by
      cases hn : noG k.arms.n
      · simp only [Bool.false_eq_true, if_false]
        exact (k1_g (okA_N ha hn).1 (yn hn)).2
      · simp only [if_true]; exact k2_e
    have fr : k2 (if noG k.arms.r then ByteArray.empty else barT k.arms.r ++ kS k (i2 k.arms)) = if noG k.arms.r then [] else [k.slots.getD (i2 k.arms) default] := by
      cases hr : noG k.arms.r
      · simp only [Bool.false_eq_true, if_false]
        exact (k1_g (okA_R ha hr) (yr hr)).2
      · simp only [if_true]; exact k2_e
    rw [fo, fn, fr]
    unfold cntP i2 i1 at hlen
    unfold i2 i1
    by_cases ho : k.arms.o = 0 <;> cases hn : noG k.arms.n <;> cases hr : noG k.arms.r
    all_goals simp only [ho, hn, hr, if_true, if_false, Bool.false_eq_true] at hlen ⊢
    all_goals first
      | exact (List.eq_nil_of_length_eq_zero hlen).symm
      | exact list1 hlen
      | exact list2 hlen
      | exact list3 hlen
  have e7 : decide (k.arms.o = 7) = (k.arms.o == 7) := by rw [Bool.eq_iff_iff, decide_eq_true_eq, beq_iff_eq]
  unfold candK
  rw [kT_tkn ⟨ha, hg, hlen, hy, by assumption⟩]
  simp only
  rw [eo, en, er, es, e7]
  have eA : pA (jnT ⟨fldT k.arms.f, orE (decide (k.arms.o = 0)) (ordS k.arms.o k.arms.l ++ ((⟨⟨[32]⟩⟩ : ByteArray) ++ wordOf tinL k.arms.t)), orE (noG k.arms.n) (grpT k.arms.n), orE (noG k.arms.r) (grpT k.arms.r), k.arms.o == 7⟩) = some k.arms := pA_iff.2 ⟨ha, rfl⟩
  rw [eA]
  rfl
theorem kT_inj : ∀ x y : Skt, okK x = true → okK y = true → kT x = kT y → x = y := fun x y hx hy e => by
  rw [← candK_at (okK_iff.1 hx), e, candK_at (okK_iff.1 hy)]
noncomputable def pK (s : ByteArray) : Option Skt := findO okK kT s
theorem pK_iff {s : ByteArray} {k : Skt} : pK s = some k ↔ okK k = true ∧ kT k = s := findO_iff kT_inj
theorem pK_cand (s : ByteArray) : pK s = if okK (candK s) = true ∧ kT (candK s) = s then some (candK s) else none := by
  by_cases h : okK (candK s) = true ∧ kT (candK s) = s
  · rw [if_pos h]; exact pK_iff.2 h
  · rw [if_neg h]
    cases e : pK s with
    | none => rfl
    | some x =>
      have hx := pK_iff.1 e
      have hc : candK s = x := by rw [← hx.2]; exact candK_at (okK_iff.1 hx.1)
      exact absurd (by rw [hc]; exact hx) h

end Go.Proofs.YtmkniipdkanbbaaGreatDoor.AM

