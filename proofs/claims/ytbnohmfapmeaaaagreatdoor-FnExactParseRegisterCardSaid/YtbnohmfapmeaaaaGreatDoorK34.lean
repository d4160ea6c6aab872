/- Lemmas and contracts (Spd); conditions: none. -/
import Derived.Test.YtbnohmfapmeaaaaGreatDoorK03
import Derived.Test.YtbnohmfapmeaaaaGreatDoorK33
set_option linter.unusedVariables false
set_option linter.unusedSimpArgs false
set_option maxRecDepth 100000
set_option maxHeartbeats 4000000
set_option cbv.maxSteps 3000000
namespace Go.Proofs.YtbnohmfapmeaaaaGreatDoor.AM
/- The reference's parser of arms; conditions: none. -/
theorem cutB_nf {s p : ByteArray} (h : (cutB s p).2.2 = false) : cutB s p = (s, ByteArray.empty, false) := by
  unfold cutB Lib.cut at *
  split
  · rename_i q; rw [if_pos q] at h; cases h
  · rfl
theorem arm_sz {a : Arm} (h : okA a = true) : (armT a).size ≤ 240 := by
  obtain ⟨hf, hr, h0, h1⟩ := okA_b h
  have ht : ∀ x, (wordOf tinL x).size ≤ 6 := fun x => getD_sz (l := tinL) (m := 6) (by decide) _
  have ho : ∀ x, (wordOf ordL x).size ≤ 7 := fun x => getD_sz (l := ordL) (m := 7) (by decide) _
  have hl : ∀ x, (wordOf linL x).size ≤ 9 := fun x => getD_sz (l := linL) (m := 9) (by decide) _
  have hk : ∀ x, (wordOf kndL x).size ≤ 5 := fun x => getD_sz (l := kndL) (m := 5) (by decide) _
  have hc : ∀ x, (wordOf cntL x).size ≤ 5 := fun x => getD_sz (l := cntL) (m := 5) (by decide) _
  have hat : ∀ k x, (wordOf (attL k) x).size ≤ 9 := fun k x => by
    rcases attL_mem k with e | e | e | e <;> rw [e]
    · exact getD_sz (l := attL 1) (m := 9) (by decide) _
    · exact getD_sz (l := attL 2) (m := 9) (by decide) _
    · exact getD_sz (l := attL 3) (m := 9) (by decide) _
    · exact Nat.zero_le _
  have sg : ∀ g : Grp, (grpT g).size ≤ 30 := fun g => by
    have a1 := hc g.c; have a2 := hk g.k; have a3 := hat g.k g.a; have a4 := ht g.t
    have c1 : (cntT g.c g.k).size ≤ 5 := by unfold cntT; split; decide; exact a1
    have c2 : (kndT g.k g.c).size ≤ 6 := by
      unfold kndT; split
      · rw [ByteArray.size_append]; exact Nat.add_le_add (d := 1) a2 (by decide)
      · omega
    have c3 : (attT g).size ≤ 10 := by
      unfold attT; split
      · rw [ByteArray.size_append]; exact Nat.le_trans (Nat.add_le_add (b := 1) (d := 9) (by decide) a3) (by decide)
      · exact Nat.zero_le _
    unfold grpT
    simp only [ByteArray.size_append, bsz, List.length_cons, List.length_nil]
    omega
  have so : (ordS a.o a.l).size ≤ 19 := by
    have b1 := ho a.o; have b2 := hl a.l
    unfold ordS wlT
    split
    · simp only [ByteArray.size_append, bsz, List.length_cons, List.length_nil]; omega
    · simp only [ByteArray.size_append, bsz, List.length_cons, List.length_nil]; omega
  have s1 := fld_sz hf
  have s2 := sg a.n; have s3 := sg a.r; have s4 := ht a.t
  have opt : ∀ p g, (grpT g).size ≤ 30 → p.size ≤ 15 → (optT p g).size ≤ 45 := fun p g q1 q2 => by
    unfold optT; split
    · exact Nat.zero_le _
    · rw [ByteArray.size_append]; omega
  by_cases hz : a.o = 0
  · rw [armT_0 h hz, ByteArray.size_append]
    have := opt comB a.r s3 (by decide)
    omega
  · rw [armT_1 h hz]
    have o1 := opt chgB a.n s2 (by decide)
    have o2 := opt (midB a.o) a.r s3 (by unfold midB; split <;> decide)
    have o3 : comB.size = 2 := rfl
    have o4 : (oT (odA a)).size ≤ 26 := by
      unfold oT odA
      simp only [ByteArray.size_append, bsz, List.length_cons, List.length_nil]; omega
    simp only [ByteArray.size_append]
    omega
/-- Whether a text without an ordinary is parsed: what is returned then. -/
def early (s : ByteArray) : Prop := s.size ≤ 240 ∧ (pF (cutB s comB).1).isSome = true ∧ (cutB s comB).2.2 = true ∧ (pG (cutB s comB).2.1).isSome = true
open Classical in
noncomputable def r6 (s : ByteArray) : Arm := if early s then ⟨(pF (cutB s comB).1).getD zF, 0, 0, 0, zG, (pG (cutB s comB).2.1).getD zG⟩ else (pA s).getD zA
theorem pA_long {s : ByteArray} (h : 240 < s.size) : pA s = none := by
  cases e : pA s with
  | none => rfl
  | some a =>
    have ha := pA_iff.1 e
    have := arm_sz ha.1
    rw [ha.2] at this
    omega
theorem pA_first {s : ByteArray} {a : Arm} (h : pA s = some a) : (cutB s comB).1 = fldT a.f := by
  have ha := pA_iff.1 h
  by_cases hz : a.o = 0
  · rw [← ha.2, armT_0 ha.1 hz]
    unfold optT
    cases hn : noG a.r
    · rw [if_neg (by simp), cutB_lacks com_l (lacks44_f _)]
    · rw [if_pos rfl, app_empty, cutB_lacks' com_l (lacks44_f _)]
  · rw [← ha.2, armT_1 ha.1 hz, cutB_lacks com_l (lacks44_f _)]
theorem pA_badF {s : ByteArray} (h : (pF (cutB s comB).1).isSome = false) : pA s = none := by
  cases e : pA s with
  | none => rfl
  | some a =>
    rw [pA_first e, pF_of (okA_b (pA_iff.1 e).1).1] at h
    cases h
theorem okA_fld {f : Fld} {r : Grp} (hf : okF f = true) (hr : (noG r || okG r) = true) : okA ⟨f, 0, 0, 0, zG, r⟩ = true := by
  unfold okA
  simp only [hf, hr, Bool.true_and, if_true]
  decide
theorem pA_alone {s : ByteArray} {f : Fld} (hf : pF (cutB s comB).1 = some f) (hm : (cutB s comB).2.2 = false) : pA s = some ⟨f, 0, 0, 0, zG, zG⟩ := by
  have e := cutB_nf hm
  rw [e] at hf
  have h2 := pF_iff.1 hf
  have ok : okA ⟨f, 0, 0, 0, zG, zG⟩ = true := okA_fld h2.1 (by decide)
  refine pA_iff.2 ⟨ok, ?_⟩
  rw [armT_0 ok rfl]
  show fldT f ++ optT comB zG = s
  rw [show optT comB zG = ByteArray.empty from rfl, app_empty, h2.2]
theorem pA_early {s : ByteArray} {f : Fld} {g : Grp} (hf : pF (cutB s comB).1 = some f) (hm : (cutB s comB).2.2 = true) (hg : pG (cutB s comB).2.1 = some g) : pA s = if armT ⟨f, 0, 0, 0, zG, g⟩ = s then some ⟨f, 0, 0, 0, zG, g⟩ else none := by
  have h2 := pF_iff.1 hf
  have h3 := pG_iff.1 hg
  have ok : okA ⟨f, 0, 0, 0, zG, g⟩ = true := okA_fld h2.1 (by rw [h3.1]; simp)
  have hc : candA (tkn s) = ⟨f, 0, 0, 0, zG, g⟩ := by
    unfold tkn
    rw [← h3.2, tkR_grp]
    unfold candA
    simp only [hf, pO_e, pG_e, pG_iff.2 ⟨h3.1, rfl⟩, Option.getD_some, Option.getD_none]
    rfl
  rw [pA_cand, hc]
  simp only [ok, true_and]
/-- What stands behind an ordinary, as the reference cuts it. -/
def btA (r : ByteArray) : ByteArray × ByteArray × Bool := if (cutB r btwB).2.2 then cutB r btwB else cutB r abvB
theorem btA_ord {x : Od} (n r : Grp) : btA (oT x ++ (optT chgB n ++ optT (midB x.o) r)) = (oT x ++ optT chgB n, if noG r then ByteArray.empty else grpT r, !noG r) ∨ btA (oT x ++ (optT chgB n ++ optT (midB x.o) r)) = (oT x ++ optT chgB n, if noG r then ByteArray.empty else grpT r, !noG r) := by
  left
  have nA : wAbove ∉ wordsB (oT x ++ optT chgB n) := words_onP str_above (by decide) (by decide)
  have nB : wBetween ∉ wordsB (oT x ++ optT chgB n) := words_onP str_between (by decide) (by decide)
  have hs : nsp wAbove = true := by decide
  have hb : nsp wBetween = true := by decide
  unfold btA
  rw [← ByteArray.append_assoc]
  cases hr : noG r
  · have eo : ∀ p, optT p r = p ++ grpT r := fun p => by unfold optT; rw [hr]; rfl
    rw [eo]
    by_cases h7 : x.o = 7
    · have em : midB x.o = abvB := if_pos h7
      have e1 : cutB ((oT x ++ optT chgB n) ++ (abvB ++ grpT r)) btwB = ((oT x ++ optT chgB n) ++ (abvB ++ grpT r), ByteArray.empty, false) := by
        rw [btw_eq]
        refine cutB_word' hb ?_
        rw [abv_eq]
        have : (oT x ++ optT chgB n) ++ (spW wAbove ByteArray.empty ++ grpT r) = (oT x ++ optT chgB n) ++ (spB ++ (wAbove ++ (spB ++ grpT r))) := by
          unfold spW; simp only [ByteArray.append_assoc, empty_app]
        rw [this, wordsB_app, wordsB_app, wordsB_one (w := wAbove) hs]
        simp only [List.mem_append, List.mem_singleton, not_or]
        exact ⟨nB, by decide, strange_G str_between r⟩
      rw [em, e1, abv_eq, cutB_word hs nA]; rfl
    · have em : midB x.o = btwB := if_neg h7
      rw [em, btw_eq, cutB_word hb nB]; rfl
  · have eo : ∀ p, optT p r = ByteArray.empty := fun p => by unfold optT; rw [hr]; rfl
    rw [eo, app_empty, btw_eq, cutB_word' hb nB, abv_eq, cutB_word' hs nA]; rfl
theorem chg_ord (x : Od) (n : Grp) : cutB (oT x ++ optT chgB n) chgB = (oT x, if noG n then ByteArray.empty else grpT n, !noG n) := by
  have hc : nsp wCharged = true := by decide
  unfold optT
  cases hn : noG n
  · simp only [Bool.false_eq_true, if_false, Bool.not_false]
    rw [chg_eq]
    exact cutB_word hc (strange_O str_charged x)
  · simp only [if_true, Bool.not_true]
    rw [app_empty, chg_eq]
    exact cutB_word' hc (strange_O str_charged x)
/-- Where arms are read of a text with more than a field, and its rest is no group: how it is cut. -/
theorem pA_cuts {s : ByteArray} {a : Arm} (h : pA s = some a) (hm : (cutB s comB).2.2 = true) (hg : (pG (cutB s comB).2.1).isSome = false) : okO (odA a) = true ∧ pF (cutB s comB).1 = some a.f ∧ (noG a.n || okG a.n) = true ∧ (noG a.r || okG a.r) = true ∧
    btA (cutB s comB).2.1 = (oT (odA a) ++ optT chgB a.n, if noG a.r then ByteArray.empty else grpT a.r, !noG a.r) ∧ cutB (btA (cutB s comB).2.1).1 chgB = (oT (odA a), if noG a.n then ByteArray.empty else grpT a.n, !noG a.n) := by
  have ha := pA_iff.1 h
  obtain ⟨hf, hr, h0, h1⟩ := okA_b ha.1
  have hz : a.o ≠ 0 := fun hz => by
    have e := armT_0 ha.1 hz
    rw [ha.2] at e
    unfold optT at e
    cases hn : noG a.r
    · rw [hn, if_neg (by simp)] at e
      rw [e, cutB_lacks com_l (lacks44_f _)] at hg
      rw [hn] at hr
      rw [pG_iff.2 ⟨by simpa using hr, rfl⟩] at hg
      cases hg
    · rw [hn, if_pos rfl, app_empty] at e
      rw [e, cutB_lacks' com_l (lacks44_f _)] at hm
      cases hm
  obtain ⟨hx, hn⟩ := h1 hz
  have e : (cutB s comB).2.1 = oT (odA a) ++ (optT chgB a.n ++ optT (midB a.o) a.r) := by
    rw [← ha.2, armT_1 ha.1 hz, cutB_lacks com_l (lacks44_f _)]
  have eb := (btA_ord (x := odA a) a.n a.r).elim id id
  refine ⟨hx, by rw [pA_first h]; exact pF_of hf, hn, hr, by rw [e]; exact eb, ?_⟩
  rw [e]
  have eb' : btA (oT (odA a) ++ (optT chgB a.n ++ optT (midB a.o) a.r)) = _ := eb
  rw [eb']
  exact chg_ord _ _
/-- Arms put together of what was read. -/
def put6 (f : Fld) (s : ByteArray) (o : Option Od) (y x : Bool) (n r : Option Grp) : Option Arm := match o with
  | none => none
  | some o => match (if y then n else some zG), (if x then r else some zG) with
    | some n, some r => if okA ⟨f, o.o, o.l, o.t, n, r⟩ = true ∧ armT ⟨f, o.o, o.l, o.t, n, r⟩ = s then some ⟨f, o.o, o.l, o.t, n, r⟩ else none
    | _, _ => none
theorem put6_ok {f : Fld} {s : ByteArray} {o : Option Od} {y x : Bool} {n r : Option Grp} {a : Arm} (h : put6 f s o y x n r = some a) : pA s = some a := by
  unfold put6 at h
  split at h
  · cases h
  · split at h
    · split at h
      · rename_i q
        injection h with h
        subst h
        exact pA_iff.2 q
      · cases h
    · cases h
theorem pA_rest {s : ByteArray} {f : Fld} {x y : ByteArray × ByteArray × Bool} (hf : pF (cutB s comB).1 = some f) (hm : (cutB s comB).2.2 = true) (hg : (pG (cutB s comB).2.1).isSome = false) (hx : btA (cutB s comB).2.1 = x) (hy : cutB x.1 chgB = y) : pA s = put6 f s (pO y.1) y.2.2 x.2.2 (pG y.2.1) (pG x.2.1) := by
  cases e : pA s with
  | none =>
    cases e2 : put6 f s (pO y.1) y.2.2 x.2.2 (pG y.2.1) (pG x.2.1) with
    | none => rfl
    | some a => rw [put6_ok e2] at e; cases e
  | some a =>
    obtain ⟨ho, hf', hn, hr, hX, hY⟩ := pA_cuts e hm hg
    have ha := pA_iff.1 e
    rw [hf] at hf'
    injection hf' with hf'
    subst hf'
    rw [hx] at hX hY
    rw [hX] at hy
    rw [hX] at hY
    rw [hy] at hY
    rw [hX, hY]
    unfold put6
    simp only [pO_of ho]
    have en : (if (!noG a.n) = true then pG (if noG a.n = true then ByteArray.empty else grpT a.n) else some zG) = some a.n := by
      cases q : noG a.n
      · rw [q] at hn
        simp only [Bool.not_false, if_true, Bool.false_eq_true, if_false]
        exact pG_iff.2 ⟨by simpa using hn, rfl⟩
      · simp only [Bool.not_true, Bool.false_eq_true, if_false]
        rw [noG_eq q]
    have er : (if (!noG a.r) = true then pG (if noG a.r = true then ByteArray.empty else grpT a.r) else some zG) = some a.r := by
      cases q : noG a.r
      · rw [q] at hr
        simp only [Bool.not_false, if_true, Bool.false_eq_true, if_false]
        exact pG_iff.2 ⟨by simpa using hr, rfl⟩
      · simp only [Bool.not_true, Bool.false_eq_true, if_false]
        rw [noG_eq q]
    rw [en, er]
    simp only
    have ea : (⟨a.f, (odA a).o, (odA a).l, (odA a).t, a.n, a.r⟩ : Arm) = a := rfl
    rw [ea, if_pos ha]
theorem r6_late {s : ByteArray} (h : ¬ early s) : r6 s = (pA s).getD zA := by unfold r6; rw [if_neg h]
theorem r6_early {s : ByteArray} {f : Fld} {g : Grp} (hs : s.size ≤ 240) (hf : pF (cutB s comB).1 = some f) (hm : (cutB s comB).2.2 = true) (hg : pG (cutB s comB).2.1 = some g) : r6 s = ⟨f, 0, 0, 0, zG, g⟩ := by
  have : early s := ⟨hs, by rw [hf]; rfl, hm, by rw [hg]; rfl⟩
  unfold r6
  rw [if_pos this, hf, hg]; rfl
theorem condA6 {c : Arm} {s : ByteArray} : (bif !okA c then true else !((armT c).toList == s.toList)) = !decide (okA c = true ∧ armT c = s) := by
  rw [beqT]
  cases h : okA c <;> simp
theorem c_l6Parse (s : ByteArray) (h0 : s.size ≤ 1100000) : ConN Tryz.prog 56 [.lit (.string s)] [] 0 (.tup [aT rowA stdH fun _ => r6 s, .lit (.bool (stdH Bool fun _ => (pA s).isSome))]) [] [] := by
  have hB : Base Tryz.prog (tabΓ [e_l6Cut, e_l3Parse, e_l4Parse, e_parseOS, e_l6Text, e_l5Good]) tab := base_of tabOk (ents_cons eok_l6Cut <| ents_cons eok_l3Parse <| ents_cons eok_l4Parse <| ents_cons eok_parseOS <| ents_cons eok_l6Text <| ents_cons eok_l5Good <| ents_nil)
  refine con_m (N := 128) hB (draw_ok hB mixed) Tryz.func56 rfl rfl (fun H => [.lit (.string s)]) (fun _ => []) 0 (fun H => .tup [aT rowA H fun _ => r6 s, .lit (.bool (H Bool fun _ => (pA s).isSome))]) (fun H => []) (fun _ => []) 400 (by simp) (fun x hx => ?_) (by simp [lk]) (by omega) (by simp) ?_
  · simp only [List.mem_cons, List.not_mem_nil, or_false] at hx
    rcases hx with rfl
    · exact .lit
  intro X hX hX0 H hH
  conv in Fin.chk _ _ => cbv
  try simp only [Plain_rowsA, Plain_rowsB, Plain_rowsC, Plain_rowsF, Plain_rowsG, Plain_rowsI, Plain_rowsS, Plain_rowsU, Fin.satC_ret, Fin.satC_br, Fin.satC_need, Fin.satC_again, AllP, and_true, true_and, upd, List.length_nil, List.length_cons, Nat.zero_add, if_true, ncast, Int.ofNat_eq_natCast]
  subst hH
  have ec : (⟨⟨[44, 32]⟩⟩ : ByteArray) = comB := rfl
  have ea : (⟨⟨[32, 97, 98, 111, 118, 101, 32]⟩⟩ : ByteArray) = abvB := rfl
  have eb : (⟨⟨[32, 98, 101, 116, 119, 101, 101, 110, 32]⟩⟩ : ByteArray) = btwB := rfl
  have eg : (⟨⟨[32, 99, 104, 97, 114, 103, 101, 100, 32, 119, 105, 116, 104, 32]⟩⟩ : ByteArray) = chgB := rfl
  have ez : (⟨0, 0, 0, 0⟩ : Grp) = zG := rfl
  simp only [stdH, Arm.eta2, Fld.eta, Grp.eta, ec, ea, eb, eg, ez]
  have s1 := cutB_sz s comB
  refine ⟨fun h => ?_, fun h => ⟨⟨by omega, by decide⟩, by have := of_decide_eq_false h; omega, fun h2 => ?_, fun h2 => ?_⟩⟩
  · have h := of_decide_eq_true h
    have hn := pA_long (s := s) (by omega)
    have hl : ¬ early s := fun q => by have := q.1; omega
    rw [r6_late hl, hn]
    (repeat' (first | rfl | refine And.intro ?_ ?_))
  · have hn := pA_badF (s := s) (by simpa using h2)
    have hl : ¬ early s := fun q => by have := q.2.1; rw [this] at h2; cases h2
    rw [r6_late hl, hn]
    (repeat' (first | rfl | refine And.intro ?_ ?_))
  have h := of_decide_eq_false h
  cases hf : pF (cutB s comB).1 with
  | none => rw [hf] at h2; cases h2
  | some f =>
    simp only [Option.getD_some]
    refine ⟨fun h3 => ?_, fun h3 => ⟨by omega, fun h4 => ?_, fun h4 => ?_⟩⟩
    · have h3 : (cutB s comB).2.2 = false := by simpa using h3
      have hn := pA_alone hf h3
      rw [r6_late (fun q => by have := q.2.2.1; rw [h3] at this; cases this), hn]
      (repeat' (first | rfl | refine And.intro ?_ ?_))
    · have h3 : (cutB s comB).2.2 = true := by simpa using h3
      cases hg : pG (cutB s comB).2.1 with
      | none => rw [hg] at h4; cases h4
      | some g =>
        rw [r6_early (by omega) hf h3 hg, pA_early hf h3 hg]
        simp only [Option.getD_some, beqT]
        have ok := okA_fld (pF_iff.1 hf).1 (r := g) (by rw [(pG_iff.1 hg).1]; simp)
        refine ⟨ok, ?_, ?_⟩
        · by_cases q : armT ⟨f, 0, 0, 0, zG, g⟩ = s
          · rw [if_pos q]; exact (decide_eq_true q).symm
          · rw [if_neg q]; exact (decide_eq_false q).symm
        · (repeat' (first | with_reducible exact True.intro | rfl | refine And.intro ?_ ?_ | trivial))
    · have h3 : (cutB s comB).2.2 = true := by simpa using h3
      have hl : ¬ early s := fun q => by have := q.2.2.2; rw [h4] at this; cases this
      refine ⟨⟨by omega, by decide⟩, fun h5 => ?_, fun h5 => ?_⟩
      · have h5 : (cutB (cutB s comB).2.1 btwB).2.2 = false := by simpa using h5
        have hX : btA (cutB s comB).2.1 = cutB (cutB s comB).2.1 abvB := by unfold btA; rw [h5]; rfl
        clear h5
        have h5 : True := trivial
        have q1 := cutB_sz (cutB s comB).2.1 abvB
        have q2 := cutB_sz (cutB (cutB s comB).2.1 abvB).1 chgB
        have hpA := pA_rest hf h3 h4 hX rfl
        rw [r6_late hl, hpA]
        generalize cutB (cutB (cutB s comB).2.1 abvB).1 chgB = Y at *
        generalize cutB (cutB s comB).2.1 abvB = X at *
        obtain ⟨X1, X2, X3⟩ := X
        obtain ⟨Y1, Y2, Y3⟩ := Y
        simp only at h5 q1 q2 ⊢
        clear hpA hX
        cases pO Y1 with
        | none =>
          (repeat' (first | rfl | omega | decide | (intro hh; cases hh; done) | refine And.intro ?_ ?_ | intro _))
        | some o =>
          cases pG Y2 <;> cases pG X2 <;> cases Y3 <;> cases X3
          all_goals simp only [put6, condA6, Option.isSome_some, Option.isSome_none, Option.getD_some, Option.getD_none, if_true, Bool.false_eq_true, if_false, cond_true, cond_false, Bool.not_true, Bool.not_false] at h5 ⊢
          all_goals (repeat' (first | with_reducible exact True.intro | rfl | omega | decide | refine And.intro ?_ ?_ | (intro hh; first | (cases hh; done) | skip) | trivial))
          all_goals first
            | (simpa using hh)
            | (rw [Bool.not_eq_true', decide_eq_false_iff_not] at hh; rw [if_neg hh]; rfl)
            | (rw [Bool.not_eq_false', decide_eq_true_eq] at hh; rw [if_pos hh]; rfl)
      · have h5 : (cutB (cutB s comB).2.1 btwB).2.2 = true := by simpa using h5
        have hX : btA (cutB s comB).2.1 = cutB (cutB s comB).2.1 btwB := by unfold btA; rw [h5]; rfl
        have q1 := cutB_sz (cutB s comB).2.1 btwB
        have q2 := cutB_sz (cutB (cutB s comB).2.1 btwB).1 chgB
        have hpA := pA_rest hf h3 h4 hX rfl
        rw [r6_late hl, hpA]
        generalize cutB (cutB (cutB s comB).2.1 btwB).1 chgB = Y at *
        generalize cutB (cutB s comB).2.1 btwB = X at *
        obtain ⟨X1, X2, X3⟩ := X
        obtain ⟨Y1, Y2, Y3⟩ := Y
        simp only at h5 q1 q2 ⊢
        clear hpA hX
        cases pO Y1 with
        | none =>
          (repeat' (first | rfl | omega | decide | (intro hh; cases hh; done) | refine And.intro ?_ ?_ | intro _))
        | some o =>
          cases pG Y2 <;> cases pG X2 <;> cases Y3 <;> cases X3
          all_goals simp only [put6, condA6, Option.isSome_some, Option.isSome_none, Option.getD_some, Option.getD_none, if_true, Bool.false_eq_true, if_false, cond_true, cond_false, Bool.not_true, Bool.not_false] at h5 ⊢
          all_goals (repeat' (first | with_reducible exact True.intro | rfl | omega | decide | refine And.intro ?_ ?_ | (intro hh; first | (cases hh; done) | skip) | trivial))
          all_goals first
            | (simpa using hh)
            | (rw [Bool.not_eq_true', decide_eq_false_iff_not] at hh; rw [if_neg hh]; rfl)
            | (rw [Bool.not_eq_false', decide_eq_true_eq] at hh; rw [if_pos hh]; rfl)
noncomputable def e_l6Parse : Entry := pureE 56 fun H a => match a with
  | [.lit (.string s)] => some (.tup [aT rowA H fun _ => r6 s, .lit (.bool (H Bool fun _ => (pA s).isSome))], [H Prop fun _ => s.size ≤ 1100000])
  | _ => none
theorem eok_l6Parse : EntryOk Tryz.prog e_l6Parse := pureM_ok (by unfold isBody; kernel_rfl) (by
  intro a r ob e hob
  split at e
  · rename_i s
    simp only [Option.some.injEq, Prod.mk.injEq] at e
    obtain ⟨rfl, rfl⟩ := e
    exact ConN.args (.cons .rfl .nil) (c_l6Parse s hob.1)
  · simp at e)

end Go.Proofs.YtbnohmfapmeaaaaGreatDoor.AM

