/- Lemmas and contracts (Skr); conditions: none. -/
import Derived.Test.YtmkniipdkanbbaaGreatDoorK04
import Derived.Test.YtmkniipdkanbbaaGreatDoorK17
import Derived.Test.YtmkniipdkanbbaaGreatDoorK23
set_option linter.unusedVariables false
set_option linter.unusedSimpArgs false
set_option maxRecDepth 100000
set_option maxHeartbeats 4000000
set_option cbv.maxSteps 3000000
namespace Go.Proofs.YtmkniipdkanbbaaGreatDoor.AM
/- Sketches as the reference reads them: plain; conditions: none. -/
theorem slW_sz {y : Slo} (hy : okY y = true) : (slW y).size ≤ 14 := by
  rcases okY_in hy with h | rfl
  · have : allY.all (fun y => decide ((slW y).size ≤ 14)) = true := by decide +kernel
    exact of_decide_eq_true (List.all_eq_true.1 this y h)
  · decide
theorem kS_sz {k : Skt} (h : OkK k) (i : Nat) : (kS k i).size ≤ 14 := by
  rcases kS_or h i with ⟨y, hy, e⟩ | e
  · rw [e]; exact slW_sz hy
  · rw [e]; exact Nat.zero_le _
theorem kT_sz {k : Skt} (h : OkK k) : (kT k).size ≤ 240 := by
  obtain ⟨hf, _⟩ := okA_b h.a
  have ho : ∀ x, (wordOf ordL x).size ≤ 7 := fun x => getD_sz (l := ordL) (m := 7) (by decide) _
  have hl : ∀ x, (wordOf linL x).size ≤ 9 := fun x => getD_sz (l := linL) (m := 9) (by decide) _
  have hk : ∀ x, (wordOf kndL x).size ≤ 5 := fun x => getD_sz (l := kndL) (m := 5) (by decide) _
  have hc : ∀ x, (wordOf cntL x).size ≤ 5 := fun x => getD_sz (l := cntL) (m := 5) (by decide) _
  have hat : ∀ k x, (wordOf (attL k) x).size ≤ 9 := fun k x => by
    rcases attL_mem k with e | e | e | e <;> rw [e]
    · exact getD_sz (l := attL 1) (m := 9) (by decide) _
    · exact getD_sz (l := attL 2) (m := 9) (by decide) _
    · exact getD_sz (l := attL 3) (m := 9) (by decide) _
    · exact Nat.zero_le _
  have sg : ∀ g : Grp, (barT g).size ≤ 24 := fun g => by
    have a1 := hc g.c; have a2 := hk g.k; have a3 := hat g.k g.a
    have c1 : (cntT g.c g.k).size ≤ 5 := by unfold cntT; split; decide; exact a1
    have c2 : (kndT g.k g.c).size ≤ 6 := by
      unfold kndT; split
      · rw [ByteArray.size_append]; exact Nat.add_le_add (d := 1) a2 (by decide)
      · omega
    have c3 : (attT g).size ≤ 10 := by
      unfold attT; split
      · rw [ByteArray.size_append]; exact Nat.le_trans (Nat.add_le_add (b := 1) (d := 9) (by decide) a3) (by decide)
      · exact Nat.zero_le _
    unfold barT
    simp only [ByteArray.size_append, bsz, List.length_cons, List.length_nil]
    omega
  have so : (ordS k.arms.o k.arms.l).size ≤ 19 := by
    have b1 := ho k.arms.o; have b2 := hl k.arms.l
    unfold ordS wlT
    split
    · simp only [ByteArray.size_append, bsz, List.length_cons, List.length_nil]; omega
    · simp only [ByteArray.size_append, bsz, List.length_cons, List.length_nil]; omega
  have s1 := fld_sz hf
  have q0 := kS_sz h 0
  have q1 := kS_sz h (i1 k.arms)
  have q2 := kS_sz h (i2 k.arms)
  have sn := sg k.arms.n
  have sr := sg k.arms.r
  have o1 : comB.size = 2 := rfl
  have o2 : chgB.size = 14 := rfl
  have o3 : (jnO k.arms.o).size ≤ 9 := jnO_sz _
  have e0 : ByteArray.empty.size = 0 := rfl
  have t1 : (kO k).size ≤ 35 := by unfold kO; split; omega; simp only [ByteArray.size_append]; omega
  have t2 : (kN k).size ≤ 52 := by unfold kN; split; omega; simp only [ByteArray.size_append]; omega
  have t3 : (kR k).size ≤ 47 := by unfold kR; split; omega; simp only [ByteArray.size_append]; omega
  unfold kT
  simp only [ByteArray.size_append]
  omega
theorem pK_long {s : ByteArray} (h : 240 < s.size) : pK s = none := by
  cases e : pK s with
  | none => rfl
  | some k =>
    have hk := pK_iff.1 e
    have := kT_sz (okK_iff.1 hk.1)
    rw [hk.2] at this
    omega
theorem pK_first {s : ByteArray} {k : Skt} (h : pK s = some k) : (cutB s comB).1 = fldT k.arms.f := by
  have hk := pK_iff.1 h
  have h1 := kT_tkn (okK_iff.1 hk.1)
  rw [hk.2] at h1
  have h2 : (tkn s).f = (cutB s comB).1 := by
    unfold tkn tkR
    split <;> rfl
  rw [← h2, h1]
theorem pK_badF {s : ByteArray} (h : (pF (cutB s comB).1).isSome = false) : pK s = none := by
  cases e : pK s with
  | none => rfl
  | some k =>
    rw [pK_first e, pF_of (okA_b (okK_iff.1 (pK_iff.1 e).1).a).1] at h
    cases h
theorem okK_fld {f : Fld} (hf : okF f = true) : okK ⟨⟨f, 0, 0, 0, zG, zG⟩, []⟩ = true := by
  have := okA_fld (f := f) (r := zG) hf (by decide)
  unfold okK
  simp only [this, Bool.true_and]
  rfl
theorem kT_fld (f : Fld) : kT ⟨⟨f, 0, 0, 0, zG, zG⟩, []⟩ = fldT f := by
  have h0 : noG zG = true := by decide
  unfold kT kO kN kR
  simp only [h0, if_true, app_empty]
theorem pK_alone {s : ByteArray} {f : Fld} (hf : pF (cutB s comB).1 = some f) (hm : (cutB s comB).2.2 = false) : pK s = some ⟨⟨f, 0, 0, 0, zG, zG⟩, []⟩ := by
  have e := cutB_nf hm
  rw [e] at hf
  have h2 := pF_iff.1 hf
  exact pK_iff.2 ⟨okK_fld h2.1, by rw [kT_fld]; exact h2.2⟩
theorem least {P : Nat → Prop} (h : ∃ i, P i) : ∃ i, P i ∧ ∀ j, j < i → ¬ P j := by
  obtain ⟨i, hi⟩ := h
  induction i using Nat.strongRecOn with
  | _ i ih =>
    by_cases q : ∃ j, j < i ∧ P j
    · obtain ⟨j, h1, h2⟩ := q
      exact ih j h1 h2
    · exact ⟨i, hi, fun j h1 h2 => q ⟨j, h1, h2⟩⟩
theorem cut_back {s : ByteArray} (hm : (cutB s comB).2.2 = true) : s = (cutB s comB).1 ++ (comB ++ (cutB s comB).2.1) := by
  by_cases h : ∃ i, i ≤ s.size ∧ occ s comB i = true
  · obtain ⟨i, ⟨hi, ho⟩, hj⟩ := least h
    obtain ⟨r, hr⟩ := pre_drop.1 ho
    have e : s = (⟨(s.data.toList.take i).toArray⟩ : ByteArray) ++ (comB ++ (⟨r.toArray⟩ : ByteArray)) := by
      apply ByteArray.ext; apply Array.ext'
      simp only [ByteArray.toList_data_append]
      rw [← hr, List.take_append_drop]
    have hc := cutB_at (u := (⟨(s.data.toList.take i).toArray⟩ : ByteArray)) (p := comB) (v := (⟨r.toArray⟩ : ByteArray)) (fun j q => by
      rw [← e]
      have q : j < (s.data.toList.take i).length := q
      rw [List.length_take] at q
      exact Bool.eq_false_iff.2 fun w => hj j (by omega) ⟨by omega, w⟩)
    rw [← e] at hc
    rw [hc]
    exact e
  · rw [cutB_no (by decide) fun i hi => Bool.eq_false_iff.2 fun w => h ⟨i, hi, w⟩] at hm
    cases hm
theorem cutK_back (s : ByteArray) : s = (cutK s).1 ++ slW (cutK s).2 := by
  by_cases h : ∃ y ∈ allY, isSuf s (slW y) = true
  · obtain ⟨y, hy, h⟩ := h
    obtain ⟨t, rfl⟩ := isSuf_iff.1 h
    rw [cutK_y hy]
  · have h' : ∀ y ∈ allY, isSuf s (slW y) = false := fun y hy => Bool.eq_false_iff.2 fun e => h ⟨y, hy, e⟩
    have e : cutK s = (s, nxY) := cutL_no h'
    rw [e]
    exact (app_empty s).symm
theorem cutK_ok (s : ByteArray) : okY (cutK s).2 = true := by
  by_cases h : ∃ y ∈ allY, isSuf s (slW y) = true
  · obtain ⟨y, hy, h⟩ := h
    obtain ⟨t, rfl⟩ := isSuf_iff.1 h
    rw [cutK_y hy]
    have : allY.all okY = true := by decide
    exact List.all_eq_true.1 this y hy
  · have h' : ∀ y ∈ allY, isSuf s (slW y) = false := fun y hy => Bool.eq_false_iff.2 fun e => h ⟨y, hy, e⟩
    have e : cutK s = (s, nxY) := cutL_no h'
    rw [e]; exact (by decide : okY nxY = true)
theorem noG_bar {g : Grp} (h : okBar g = true) : noG g = false := by
  have := okBar_b h
  rw [← Bool.not_eq_true]
  intro q
  rw [noG_eq q] at this
  exact absurd this.1.1 (by decide)
theorem okBar_G {g : Grp} (h : okBar g = true) : okG g = true ∧ g.t = 1 := by
  unfold okBar at h
  simpa only [Bool.and_eq_true, decide_eq_true_eq] using h
theorem kT_one (f : Fld) {g : Grp} (hg : okBar g = true) (y : Slo) : kT ⟨⟨f, 0, 0, 0, zG, g⟩, [y]⟩ = fldT f ++ (comB ++ (barT g ++ slW y)) := by
  have h0 : noG zG = true := by decide
  have h1 := noG_bar hg
  unfold kT kO kN kR
  simp only [h0, h1, if_true, empty_app, Bool.false_eq_true, if_false]
  rfl
theorem pK_early {s : ByteArray} {f : Fld} {g : Grp} (hf : pF (cutB s comB).1 = some f) (hm : (cutB s comB).2.2 = true) (hg : uB (cutK (cutB s comB).2.1).1 = some g) : pK s = if okK ⟨⟨f, 0, 0, 0, zG, g⟩, [(cutK (cutB s comB).2.1).2]⟩ = true then some ⟨⟨f, 0, 0, 0, zG, g⟩, [(cutK (cutB s comB).2.1).2]⟩ else none := by
  have h2 := pF_iff.1 hf
  have h3 := uB_iff.1 hg
  have hy := cutK_ok (cutB s comB).2.1
  have hr := cutK_back (cutB s comB).2.1
  have hT : okT g := okG_T (okBar_G h3.1).1
  have hk : kT ⟨⟨f, 0, 0, 0, zG, g⟩, [(cutK (cutB s comB).2.1).2]⟩ = s := by
    rw [kT_one f h3.1, h2.2, h3.2, ← hr, ← cut_back hm]
  have hA : okA ⟨f, 0, 0, 0, zG, g⟩ = true := okA_fld h2.1 (by rw [(okBar_G h3.1).1]; simp)
  have hc : candK s = ⟨⟨f, 0, 0, 0, zG, g⟩, [(cutK (cutB s comB).2.1).2]⟩ := by
    have ht : tkn s = ⟨(cutB s comB).1, ByteArray.empty, ByteArray.empty, (cutB s comB).2.1, false⟩ := by
      unfold tkn
      generalize (cutB s comB).2.1 = R at *
      rw [hr, ← h3.2]
      exact tkR_one _ g hy
    have e1 : k1 (cutB s comB).2.1 = grpT g ∧ k2 (cutB s comB).2.1 = [(cutK (cutB s comB).2.1).2] := by
      have := k1_g hT hy
      rw [h3.2, ← hr] at this
      refine ⟨?_, this.2⟩
      rw [this.1, ← h3.2, barT_grp, (okBar_G h3.1).2]; rfl
    unfold candK
    rw [ht]
    simp only
    rw [k1_e, k2_e, e1.1, e1.2, ← h2.2]
    have eA : pA (jnT ⟨fldT f, ByteArray.empty, ByteArray.empty, grpT g, false⟩) = some ⟨f, 0, 0, 0, zG, g⟩ := by
      refine pA_iff.2 ⟨hA, ?_⟩
      have h1 := noG_bar h3.1
      unfold armT pcsA orE
      simp only [h1, Bool.false_eq_true, if_false]
      rfl
    rw [eA]; rfl
  rw [pK_cand, hc]
  by_cases q : okK ⟨⟨f, 0, 0, 0, zG, g⟩, [(cutK (cutB s comB).2.1).2]⟩ = true
  · rw [if_pos ⟨q, hk⟩, if_pos q]
  · rw [if_neg fun w => q w.1, if_neg q]
theorem okUn_of {a : Arm} (h : okA a = true) (ho : a.o ≠ 0) : uO (ordS a.o a.l) = some ⟨a.o, a.l, 1⟩ := by
  obtain ⟨o2, o3, _⟩ := okA_O h ho
  exact uO_iff.2 ⟨okU_of o2 o3, rfl⟩
theorem btA_gen {o : Int} {P R : ByteArray} (br : Bool) (hA : wAbove ∉ wordsB P) (hB : wBetween ∉ wordsB P) (hR : wBetween ∉ wordsB R) : btA (P ++ (if br then ByteArray.empty else midB o ++ R)) = (P, if br then ByteArray.empty else R, !br) := by
  have hs : nsp wAbove = true := by decide
  have hb : nsp wBetween = true := by decide
  unfold btA
  cases br
  · simp only [Bool.false_eq_true, if_false, Bool.not_false]
    by_cases h7 : o = 7
    · have em : midB o = abvB := if_pos h7
      have e1 : cutB (P ++ (abvB ++ R)) btwB = (P ++ (abvB ++ R), ByteArray.empty, false) := by
        rw [btw_eq]
        refine cutB_word' hb ?_
        rw [abv_eq]
        have : P ++ (spW wAbove ByteArray.empty ++ R) = P ++ (spB ++ (wAbove ++ (spB ++ R))) := by
          unfold spW; simp only [ByteArray.append_assoc, empty_app]
        rw [this, wordsB_app, wordsB_app, wordsB_one (w := wAbove) hs]
        simp only [List.mem_append, List.mem_singleton, not_or]
        exact ⟨hB, by decide, hR⟩
      rw [em, e1, if_neg (by simp), abv_eq, cutB_word hs hA]
    · have em : midB o = btwB := if_neg h7
      rw [em]
      have : cutB (P ++ (btwB ++ R)) btwB = (P, R, true) := by rw [btw_eq]; exact cutB_word hb hB
      rw [this]; rfl
  · simp only [if_true, Bool.not_true]
    have e1 : cutB P btwB = (P, ByteArray.empty, false) := by rw [btw_eq]; exact cutB_word' hb hB
    have e2 : cutB P abvB = (P, ByteArray.empty, false) := by rw [abv_eq]; exact cutB_word' hs hA
    rw [app_empty, e1, e2]; rfl
theorem pK_cuts {s : ByteArray} {k : Skt} (h : pK s = some k) (hm : (cutB s comB).2.2 = true) (hg : (uB (cutK (cutB s comB).2.1).1).isSome = false) : k.arms.o ≠ 0 ∧ pF (cutB s comB).1 = some k.arms.f ∧
    btA (cutB s comB).2.1 = ((ordS k.arms.o k.arms.l ++ kS k 0) ++ (if noG k.arms.n then ByteArray.empty else chgB ++ (barT k.arms.n ++ kS k (i1 k.arms))), if noG k.arms.r then ByteArray.empty else barT k.arms.r ++ kS k (i2 k.arms), !noG k.arms.r) ∧
    cutB (btA (cutB s comB).2.1).1 chgB = (ordS k.arms.o k.arms.l ++ kS k 0, if noG k.arms.n then ByteArray.empty else barT k.arms.n ++ kS k (i1 k.arms), !noG k.arms.n) := by
  have hk := pK_iff.1 h
  have h0 := okK_iff.1 hk.1
  obtain ⟨ha, hgl, hlen, hy, _⟩ := h0
  obtain ⟨g1, g2, g3⟩ := gldA_in hgl
  have hf := pF_of (okA_b ha).1
  have hz : k.arms.o ≠ 0 := fun hz => by
    have hn := okA_o0 ha hz
    have e0 : i2 k.arms = 0 := by unfold i2 i1; rw [if_pos hz, hn]; rfl
    have e : kT k = fldT k.arms.f ++ (if noG k.arms.r then ByteArray.empty else comB ++ (barT k.arms.r ++ kS k 0)) := by
      unfold kT kO kN kR
      rw [if_pos hz, hn, show jnO k.arms.o = comB from if_pos hz, e0]
      simp only [if_true, empty_app]
    rw [hk.2] at e
    cases hr : noG k.arms.r
    · rw [hr, if_neg (by simp)] at e
      rw [e, cutB_lacks com_l (lacks44_f _)] at hg
      have y0 := hy 0 (by unfold cntP; rw [e0, hr]; simp)
      have hT := okA_R ha hr
      have hc : cutK (barT k.arms.r ++ kS k 0) = (barT k.arms.r, k.slots.getD 0 default) := cut_grp hT y0
      rw [hc, uB_iff.2 ⟨?_, rfl⟩] at hg
      · cases hg
      · have h2 := (okA_b ha).2.1
        rw [hr, Bool.false_or] at h2
        unfold okBar
        rw [h2, g3.resolve_left (by rw [hr]; simp)]; rfl
    · rw [hr, if_pos rfl, app_empty] at e
      rw [e, cutB_lacks' com_l (lacks44_f _)] at hm
      cases hm
  have h0 : OkK k := okK_iff.1 hk.1
  have em : jnO k.arms.o = midB k.arms.o := by unfold jnO midB; rw [if_neg hz]; rfl
  have e : (cutB s comB).2.1 = ((ordS k.arms.o k.arms.l ++ kS k 0) ++ (if noG k.arms.n then ByteArray.empty else chgB ++ (barT k.arms.n ++ kS k (i1 k.arms)))) ++ (if noG k.arms.r then ByteArray.empty else midB k.arms.o ++ (barT k.arms.r ++ kS k (i2 k.arms))) := by
    rw [← hk.2]
    unfold kT kO kN kR
    rw [if_neg hz, em, ByteArray.append_assoc (a := comB), cutB_lacks com_l (lacks44_f _), ByteArray.append_assoc (a := ordS k.arms.o k.arms.l ++ kS k 0)]
  have fP : ∀ w, strange w = true → notIn w slV = true → w ≠ wCharged → w ≠ (⟨⟨[119, 105, 116, 104]⟩⟩ : ByteArray) → w ∉ wordsB ((ordS k.arms.o k.arms.l ++ kS k 0) ++ (if noG k.arms.n then ByteArray.empty else chgB ++ (barT k.arms.n ++ kS k (i1 k.arms)))) := fun w h1 h2 h3 h4 => by
    cases hn : noG k.arms.n
    · simp only [Bool.false_eq_true, if_false]
      have e : ∀ N : ByteArray, (ordS k.arms.o k.arms.l ++ kS k 0) ++ (chgB ++ N) = (ordS k.arms.o k.arms.l ++ kS k 0) ++ (spB ++ (wCharged ++ (spB ++ ((⟨⟨[119, 105, 116, 104]⟩⟩ : ByteArray) ++ (spB ++ N))))) := fun N => by
        rw [show chgB = spB ++ (wCharged ++ (spB ++ ((⟨⟨[119, 105, 116, 104]⟩⟩ : ByteArray) ++ spB))) by decide]
        simp only [ByteArray.append_assoc]
      rw [e, wordsB_app, wordsB_app, wordsB_one (w := wCharged) (by decide), wordsB_app, wordsB_one (w := (⟨⟨[119, 105, 116, 104]⟩⟩ : ByteArray)) (by decide)]
      simp only [List.mem_append, List.mem_singleton, not_or]
      exact ⟨no_kS h0 0 (no_ord h1 _ _) h2, h3, h4, no_kS h0 _ (no_bar h1 _) h2⟩
    · simp only [if_true]
      rw [app_empty]
      exact no_kS h0 0 (no_ord h1 _ _) h2
  have eb := btA_gen (o := k.arms.o) (P := (ordS k.arms.o k.arms.l ++ kS k 0) ++ (if noG k.arms.n then ByteArray.empty else chgB ++ (barT k.arms.n ++ kS k (i1 k.arms)))) (R := barT k.arms.r ++ kS k (i2 k.arms)) (noG k.arms.r) (fP wAbove str_above (by decide) (by decide) (by decide)) (fP wBetween str_between (by decide) (by decide) (by decide)) (no_kS h0 _ (no_bar str_between _) (by decide))
  rw [← e] at eb
  refine ⟨hz, by rw [pK_first h]; exact hf, eb, ?_⟩
  rw [eb]
  have hc : nsp wCharged = true := by decide
  have hP : wCharged ∉ wordsB (ordS k.arms.o k.arms.l ++ kS k 0) := no_kS h0 0 (no_ord str_charged _ _) (by decide)
  cases hn : noG k.arms.n
  · simp only [Bool.false_eq_true, if_false, Bool.not_false]
    rw [chg_eq]
    exact cutB_word hc hP
  · simp only [if_true, Bool.not_true]
    rw [app_empty, chg_eq]
    exact cutB_word' hc hP
def skK (f : Fld) (o : Od) (n r : Grp) (y0 yn yr : Slo) (hn hr : Bool) : Skt := ⟨⟨f, o.o, o.l, 1, n, r⟩, y0 :: ((if hn then [yn] else []) ++ (if hr then [yr] else []))⟩
def put7 (f : Fld) (s : ByteArray) (o : Option Od) (y0 : Slo) (hn hr : Bool) (n : Option Grp) (yn : Slo) (r : Option Grp) (yr : Slo) : Option Skt := match o with
  | none => none
  | some o => match (if hn then n else some zG), (if hr then r else some zG) with
    | some n, some r => if okK (skK f o n r y0 yn yr hn hr) = true ∧ kT (skK f o n r y0 yn yr hn hr) = s then some (skK f o n r y0 yn yr hn hr) else none
    | _, _ => none
theorem put7_ok {f : Fld} {s : ByteArray} {o : Option Od} {y0 yn yr : Slo} {hn hr : Bool} {n r : Option Grp} {k : Skt} (h : put7 f s o y0 hn hr n yn r yr = some k) : pK s = some k := by
  unfold put7 at h
  split at h
  · cases h
  · split at h
    · split at h
      · rename_i q
        injection h with h
        subst h
        exact pK_iff.2 q
      · cases h
    · cases h
theorem pK_rest {s : ByteArray} {f : Fld} {x y : ByteArray × ByteArray × Bool} (hf : pF (cutB s comB).1 = some f) (hm : (cutB s comB).2.2 = true) (hg : (uB (cutK (cutB s comB).2.1).1).isSome = false) (hx : btA (cutB s comB).2.1 = x) (hy : cutB x.1 chgB = y) :
    pK s = put7 f s (uO (cutK y.1).1) (cutK y.1).2 y.2.2 x.2.2 (uB (cutK y.2.1).1) (cutK y.2.1).2 (uB (cutK x.2.1).1) (cutK x.2.1).2 := by
  cases e : pK s with
  | none =>
    cases e2 : put7 f s (uO (cutK y.1).1) (cutK y.1).2 y.2.2 x.2.2 (uB (cutK y.2.1).1) (cutK y.2.1).2 (uB (cutK x.2.1).1) (cutK x.2.1).2 with
    | none => rfl
    | some a => rw [put7_ok e2] at e; cases e
  | some k =>
    obtain ⟨hz, hf', hX, hY⟩ := pK_cuts e hm hg
    have hk := pK_iff.1 e
    have h0 := okK_iff.1 hk.1
    obtain ⟨ha, hgl, hlen, hyy, _⟩ := h0
    obtain ⟨g1, g2, g3⟩ := gldA_in hgl
    obtain ⟨o2, o3, _⟩ := okA_O ha hz
    rw [hf] at hf'
    injection hf' with hf'
    subst hf'
    rw [hx] at hX hY
    rw [hX] at hy
    rw [hX] at hY
    rw [hy] at hY
    have e1 : i1 k.arms = 1 := if_neg hz
    have y0 : okY (k.slots.getD 0 default) = true := hyy 0 (by unfold cntP i2; rw [e1]; omega)
    have cO : cutK (ordS k.arms.o k.arms.l ++ kS k 0) = (ordS k.arms.o k.arms.l, k.slots.getD 0 default) := cut_ord o2 o3 y0
    rw [hX, hY]
    simp only
    rw [cO]
    simp only
    rw [okUn_of ha hz]
    have okB : ∀ g : Grp, okG g = true → g.t = 1 → okBar g = true := fun g h1 h2 => by unfold okBar; rw [h1, h2]; rfl
    have en : (if (!noG k.arms.n) = true then uB (cutK (if noG k.arms.n = true then ByteArray.empty else barT k.arms.n ++ kS k (i1 k.arms))).1 else some zG) = some k.arms.n ∧ (noG k.arms.n = false → (cutK (if noG k.arms.n = true then ByteArray.empty else barT k.arms.n ++ kS k (i1 k.arms))).2 = k.slots.getD (i1 k.arms) default) := by
      cases q : noG k.arms.n
      · have yq := hyy (i1 k.arms) (by unfold cntP i2; rw [q]; simp; omega)
        have cN : cutK (barT k.arms.n ++ kS k (i1 k.arms)) = (barT k.arms.n, k.slots.getD (i1 k.arms) default) := cut_grp (okA_N ha q).1 yq
        have hG := ((okA_b ha).2.2.2 hz).2
        rw [q, Bool.false_or] at hG
        simp only [Bool.not_false, if_true, Bool.false_eq_true, if_false]
        rw [cN]
        exact ⟨uB_iff.2 ⟨okB _ hG (g2.resolve_left (by rw [q]; simp)), rfl⟩, fun _ => rfl⟩
      · simp only [Bool.not_true, Bool.false_eq_true, if_false]
        rw [noG_eq q]
        exact ⟨rfl, fun h => by cases h⟩
    have er : (if (!noG k.arms.r) = true then uB (cutK (if noG k.arms.r = true then ByteArray.empty else barT k.arms.r ++ kS k (i2 k.arms))).1 else some zG) = some k.arms.r ∧ (noG k.arms.r = false → (cutK (if noG k.arms.r = true then ByteArray.empty else barT k.arms.r ++ kS k (i2 k.arms))).2 = k.slots.getD (i2 k.arms) default) := by
      cases q : noG k.arms.r
      · have yq := hyy (i2 k.arms) (by unfold cntP; rw [q]; simp)
        have cR : cutK (barT k.arms.r ++ kS k (i2 k.arms)) = (barT k.arms.r, k.slots.getD (i2 k.arms) default) := cut_grp (okA_R ha q) yq
        have hG := (okA_b ha).2.1
        rw [q, Bool.false_or] at hG
        simp only [Bool.not_false, if_true, Bool.false_eq_true, if_false]
        rw [cR]
        exact ⟨uB_iff.2 ⟨okB _ hG (g3.resolve_left (by rw [q]; simp)), rfl⟩, fun _ => rfl⟩
      · simp only [Bool.not_true, Bool.false_eq_true, if_false]
        rw [noG_eq q]
        exact ⟨rfl, fun h => by cases h⟩
    have es : k.slots.getD 0 default :: ((if (!noG k.arms.n) = true then [(cutK (if noG k.arms.n = true then ByteArray.empty else barT k.arms.n ++ kS k (i1 k.arms))).2] else []) ++ (if (!noG k.arms.r) = true then [(cutK (if noG k.arms.r = true then ByteArray.empty else barT k.arms.r ++ kS k (i2 k.arms))).2] else [])) = k.slots := by
      unfold cntP i2 at hlen
      rw [e1] at hlen
      have i2e : i2 k.arms = 1 + if noG k.arms.n then 0 else 1 := by unfold i2; rw [e1]
      cases qn : noG k.arms.n <;> cases qr : noG k.arms.r
      all_goals rw [qn, qr] at hlen
      all_goals simp only [Bool.not_true, Bool.not_false, Bool.false_eq_true, if_true, if_false, List.nil_append, List.append_nil, List.cons_append] at hlen ⊢
      · have a1 := en.2 qn; have a2 := er.2 qr
        simp only [qn, qr, Bool.false_eq_true, if_false] at a1 a2
        rw [a1, a2, i2e, qn, e1]; exact list3 hlen
      · have a1 := en.2 qn
        simp only [qn, Bool.false_eq_true, if_false] at a1
        rw [a1, e1]; exact list2 hlen
      · have a2 := er.2 qr
        simp only [qr, Bool.false_eq_true, if_false] at a2
        rw [a2, i2e, qn]; exact list2 hlen
      · exact list1 hlen
    unfold put7
    simp only
    rw [en.1, er.1]
    simp only
    unfold skK
    rw [es]
    have ea : (⟨⟨k.arms.f, k.arms.o, k.arms.l, 1, k.arms.n, k.arms.r⟩, k.slots⟩ : Skt) = k := by
      obtain ⟨⟨f, o, l, t, n, r⟩, sl⟩ := k
      have := g1.resolve_left hz
      simp only at this
      subst this; rfl
    rw [ea, if_pos ⟨hk.1, hk.2⟩]

end Go.Proofs.YtmkniipdkanbbaaGreatDoor.AM

