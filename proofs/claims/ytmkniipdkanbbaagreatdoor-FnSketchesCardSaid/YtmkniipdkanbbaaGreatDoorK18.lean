/- Lemmas and contracts (Arp); conditions: none. -/
import Derived.Test.YtmkniipdkanbbaaGreatDoorK04
import Derived.Test.YtmkniipdkanbbaaGreatDoorK17
set_option linter.unusedVariables false
set_option linter.unusedSimpArgs false
set_option maxRecDepth 100000
set_option maxHeartbeats 4000000
set_option cbv.maxSteps 3000000
namespace Go.Proofs.YtmkniipdkanbbaaGreatDoor.AM
/- Ordinaries and arms parsed; conditions: none. -/
structure Od where
  o : Int
  l : Int
  t : Int
deriving Inhabited
def okO (x : Od) : Bool := inB x.o 1 7 && (inB x.l 0 4 && inB x.t 1 9)
def oT (x : Od) : ByteArray := ordS x.o x.l ++ ((⟨⟨[32]⟩⟩ : ByteArray) ++ wordOf tinL x.t)
theorem okO_b {x : Od} (h : okO x = true) : (1 ≤ x.o ∧ x.o ≤ 7) ∧ (0 ≤ x.l ∧ x.l ≤ 4) ∧ (1 ≤ x.t ∧ x.t ≤ 9) := by
  unfold okO inB at h
  simp only [Bool.and_eq_true, decide_eq_true_eq] at h
  exact ⟨h.1, h.2.1, h.2.2⟩
theorem nsp_ord (x : Int) : nsp (wordOf ordL x) = true := nsp_w (by decide) x
theorem nsp_lin (x : Int) : nsp (wordOf linL x) = true := nsp_w (by decide) x
def oTail (x : Od) : ByteArray := if x.l = 0 then wordOf tinL x.t else wordOf linL x.l ++ (spB ++ wordOf tinL x.t)
theorem oT_eq (x : Od) : oT x = (⟨⟨[97]⟩⟩ : ByteArray) ++ (spB ++ (wordOf ordL x.o ++ (spB ++ oTail x))) := by
  have ea : ∀ y : ByteArray, (⟨⟨[97, 32]⟩⟩ : ByteArray) ++ y = (⟨⟨[97]⟩⟩ : ByteArray) ++ (spB ++ y) := fun y => by rw [← ByteArray.append_assoc]; rfl
  have es : (⟨⟨[32]⟩⟩ : ByteArray) = spB := rfl
  unfold oT ordS oTail
  by_cases h : x.l = 0
  · rw [wlT_y h, if_pos h, ByteArray.append_assoc, ea, es]
  · rw [wlT_n h, if_neg h, es]
    simp only [ByteArray.append_assoc]
    rw [ea]
theorem oTail_words (x : Od) : wordsB (oTail x) = (if x.l = 0 then [] else [wordOf linL x.l]) ++ [wordOf tinL x.t] := by
  unfold oTail
  by_cases h : x.l = 0
  · rw [if_pos h, if_pos h, wordsB_one (nsp_tin _)]; rfl
  · rw [if_neg h, if_neg h, wordsB_app, wordsB_one (nsp_lin _), wordsB_one (nsp_tin _)]
theorem oT_words (x : Od) : wordsB (oT x) = (⟨⟨[97]⟩⟩ : ByteArray) :: wordOf ordL x.o :: ((if x.l = 0 then [] else [wordOf linL x.l]) ++ [wordOf tinL x.t]) := by
  rw [oT_eq, wordsB_app, wordsB_one (by decide), wordsB_app, wordsB_one (nsp_ord _), oTail_words]; rfl
def candO (ws : List ByteArray) : Od := ⟨ixS ordL (ws.getD 1 ByteArray.empty) + 1, if ws.length = 4 then ixS linL (ws.getD 2 ByteArray.empty) + 1 else 0, pT (ws.getD (ws.length - 1) ByteArray.empty)⟩
theorem candO_at {x : Od} (h : okO x = true) : candO (wordsB (oT x)) = x ∧ 3 ≤ (wordsB (oT x)).length ∧ (wordsB (oT x)).length ≤ 4 := by
  obtain ⟨ho, hl, ht⟩ := okO_b h
  obtain ⟨o, l, t⟩ := x
  simp only at ho hl ht
  rw [oT_words]
  simp only
  have e1 := ixS_word (l := ordL) (by decide) ho.1 (show o ≤ ((7 : Nat) : Int) by omega)
  by_cases h0 : l = 0
  · subst h0
    refine ⟨?_, by simp, by simp⟩
    show (⟨ixS ordL (wordOf ordL o) + 1, 0, pT (wordOf tinL t)⟩ : Od) = _
    rw [e1, pT_w ht, show o - 1 + 1 = o by omega]
  · have e2 := ixS_word (l := linL) (x := l) (by decide) (by omega) (show l ≤ ((4 : Nat) : Int) by omega)
    rw [if_neg h0]
    refine ⟨?_, by simp, by simp⟩
    show (⟨ixS ordL (wordOf ordL o) + 1, ixS linL (wordOf linL l) + 1, pT (wordOf tinL t)⟩ : Od) = _
    rw [e1, e2, pT_w ht, show o - 1 + 1 = o by omega, show l - 1 + 1 = l by omega]
theorem oT_inj : ∀ x y : Od, okO x = true → okO y = true → oT x = oT y → x = y := fun x y hx hy e => by
  rw [← (candO_at hx).1, e, (candO_at hy).1]
noncomputable def pO (s : ByteArray) : Option Od := findO okO oT s
theorem pO_iff {s : ByteArray} {x : Od} : pO s = some x ↔ okO x = true ∧ oT x = s := findO_iff oT_inj
def zO : Od := ⟨0, 0, 0⟩
theorem pO_len {s : ByteArray} (h : ¬ (3 ≤ (wordsB s).length ∧ (wordsB s).length ≤ 4)) : pO s = none := by
  cases e : pO s with
  | none => rfl
  | some x =>
    have hx := pO_iff.1 e
    have := (candO_at hx.1).2
    rw [hx.2] at this
    exact absurd this h
theorem pO_cand (s : ByteArray) : pO s = if okO (candO (wordsB s)) = true ∧ oT (candO (wordsB s)) = s then some (candO (wordsB s)) else none := by
  by_cases h : okO (candO (wordsB s)) = true ∧ oT (candO (wordsB s)) = s
  · rw [if_pos h]; exact pO_iff.2 h
  · rw [if_neg h]
    cases e : pO s with
    | none => rfl
    | some x =>
      have hx := pO_iff.1 e
      have hc : candO (wordsB s) = x := by rw [← hx.2]; exact (candO_at hx.1).1
      exact absurd (by rw [hc]; exact hx) h
/-! ### The words that occur -/
def isIn (w : ByteArray) (l : List ByteArray) : Bool := l.any fun x => decide (x = w)
def notIn (w : ByteArray) (l : List ByteArray) : Bool := l.all fun x => decide (x ≠ w)
theorem isIn_mem {w : ByteArray} {l : List ByteArray} (h : isIn w l = true) : w ∈ l := by
  obtain ⟨x, hx, e⟩ := List.any_eq_true.1 h
  exact of_decide_eq_true e ▸ hx
theorem notIn_mem {w : ByteArray} {l : List ByteArray} (h : notIn w l = true) : w ∉ l := fun q => (of_decide_eq_true (List.all_eq_true.1 h w q)) rfl
def kndV : List ByteArray := kndL ++ [(⟨⟨[108, 105, 111, 110, 115]⟩⟩ : ByteArray), (⟨⟨[101, 97, 103, 108, 101, 115]⟩⟩ : ByteArray), (⟨⟨[102, 105, 115, 104, 115]⟩⟩ : ByteArray), (⟨⟨[114, 111, 115, 101, 115]⟩⟩ : ByteArray), (⟨⟨[115, 116, 97, 114, 115]⟩⟩ : ByteArray), (⟨⟨[116, 111, 119, 101, 114, 115]⟩⟩ : ByteArray), (⟨⟨[107, 101, 121, 115]⟩⟩ : ByteArray), (⟨⟨[115, 119, 111, 114, 100, 115]⟩⟩ : ByteArray)]
def vocG : List ByteArray := cntL ++ ([(⟨⟨[97, 110]⟩⟩ : ByteArray)] ++ (kndV ++ (attL 1 ++ (attL 2 ++ (attL 3 ++ tinL)))))
def vocO : List ByteArray := [(⟨⟨[97]⟩⟩ : ByteArray)] ++ (ordL ++ (linL ++ tinL))
theorem wordOf_mem (l : List ByteArray) (x : Int) : wordOf l x = ByteArray.empty ∨ wordOf l x ∈ l := by
  unfold wordOf
  rw [List.getD_eq_getElem?_getD]
  cases e : l[(x - 1).toNat]? with
  | none => exact .inl rfl
  | some s => exact .inr (List.mem_of_getElem? e)
theorem kndT_mem (k c : Int) : kndT k c ∈ [(⟨⟨[115]⟩⟩ : ByteArray)] ∨ kndT k c = ByteArray.empty ∨ kndT k c ∈ kndV := by
  unfold kndT
  rcases wordOf_mem kndL k with h | h
  · rw [h]
    split
    · exact .inl (by rw [empty_app]; exact List.mem_cons_self)
    · exact .inr (.inl rfl)
  · refine .inr (.inr ?_)
    unfold kndV
    split
    · refine List.mem_append_right _ ?_
      have : kndL.all (fun w => isIn (w ++ (⟨⟨[115]⟩⟩ : ByteArray)) [(⟨⟨[108, 105, 111, 110, 115]⟩⟩ : ByteArray), (⟨⟨[101, 97, 103, 108, 101, 115]⟩⟩ : ByteArray), (⟨⟨[102, 105, 115, 104, 115]⟩⟩ : ByteArray), (⟨⟨[114, 111, 115, 101, 115]⟩⟩ : ByteArray), (⟨⟨[115, 116, 97, 114, 115]⟩⟩ : ByteArray), (⟨⟨[116, 111, 119, 101, 114, 115]⟩⟩ : ByteArray), (⟨⟨[107, 101, 121, 115]⟩⟩ : ByteArray), (⟨⟨[115, 119, 111, 114, 100, 115]⟩⟩ : ByteArray)]) = true := by decide
      exact isIn_mem (List.all_eq_true.1 this _ h)
    · exact List.mem_append_left _ h
theorem attL_mem (k : Int) : attL k = attL 1 ∨ attL k = attL 2 ∨ attL k = attL 3 ∨ attL k = [] := by
  unfold attL
  by_cases h1 : k = 1
  · exact .inl (by rw [if_pos h1]; rfl)
  · by_cases h2 : k = 2
    · exact .inr (.inl (by rw [if_neg h1, if_pos h2]; rfl))
    · by_cases h3 : k = 3
      · exact .inr (.inr (.inl (by rw [if_neg h1, if_neg h2, if_pos h3]; rfl)))
      · exact .inr (.inr (.inr (by rw [if_neg h1, if_neg h2, if_neg h3])))
theorem voc_G (g : Grp) : ∀ w ∈ wordsB (grpT g), w = ByteArray.empty ∨ w ∈ [(⟨⟨[115]⟩⟩ : ByteArray)] ∨ w ∈ vocG := by
  intro w hw
  rw [grpT_words] at hw
  unfold vocG
  simp only [List.mem_cons, List.mem_append] at hw ⊢
  rcases hw with rfl | rfl | hw | rfl | hw
  · unfold cntT
    split
    · exact .inr (.inr (.inr (.inl (.inl rfl))))
    · rcases wordOf_mem cntL g.c with h | h
      · exact .inl h
      · exact .inr (.inr (.inl h))
  · rcases kndT_mem g.k g.c with h | h | h
    · exact .inr (.inl (by simpa using h))
    · exact .inl h
    · exact .inr (.inr (.inr (.inr (.inl h))))
  · split at hw
    · simp only [List.mem_singleton] at hw
      subst hw
      rcases wordOf_mem (attL g.k) g.a with h | h
      · exact .inl h
      · rcases attL_mem g.k with e | e | e | e <;> rw [e] at h
        · exact .inr (.inr (.inr (.inr (.inr (.inl (by rw [e]; exact h))))))
        · exact .inr (.inr (.inr (.inr (.inr (.inr (.inl (by rw [e]; exact h)))))))
        · exact .inr (.inr (.inr (.inr (.inr (.inr (.inr (.inl (by rw [e]; exact h))))))))
        · cases h
    · cases hw
  · rcases wordOf_mem tinL g.t with h | h
    · exact .inl h
    · exact .inr (.inr (.inr (.inr (.inr (.inr (.inr (.inr h)))))))
  · cases hw
theorem voc_O (x : Od) : ∀ w ∈ wordsB (oT x), w = ByteArray.empty ∨ w ∈ vocO := by
  intro w hw
  rw [oT_words] at hw
  unfold vocO
  simp only [List.mem_cons, List.mem_append] at hw ⊢
  rcases hw with rfl | rfl | hw | rfl | hw
  · exact .inr (.inl (.inl rfl))
  · rcases wordOf_mem ordL x.o with h | h
    · exact .inl h
    · exact .inr (.inr (.inl h))
  · split at hw
    · cases hw
    · simp only [List.mem_singleton] at hw
      subst hw
      rcases wordOf_mem linL x.l with h | h
      · exact .inl h
      · exact .inr (.inr (.inr (.inl h)))
  · rcases wordOf_mem tinL x.t with h | h
    · exact .inl h
    · exact .inr (.inr (.inr (.inr h)))
  · cases hw
def strange (w : ByteArray) : Bool := decide (w ≠ ByteArray.empty) && (notIn w [(⟨⟨[115]⟩⟩ : ByteArray)] && (notIn w vocG && notIn w vocO))
theorem strange_G {w : ByteArray} (h : strange w = true) (g : Grp) : w ∉ wordsB (grpT g) := fun q => by
  unfold strange at h
  simp only [Bool.and_eq_true, decide_eq_true_eq] at h
  rcases voc_G g w q with e | e | e
  · exact h.1 e
  · exact notIn_mem h.2.1 e
  · exact notIn_mem h.2.2.1 e
theorem strange_O {w : ByteArray} (h : strange w = true) (x : Od) : w ∉ wordsB (oT x) := fun q => by
  unfold strange at h
  simp only [Bool.and_eq_true, decide_eq_true_eq] at h
  rcases voc_O x w q with e | e
  · exact h.1 e
  · exact notIn_mem h.2.2.2 e
def wAbove : ByteArray := (⟨⟨[97, 98, 111, 118, 101]⟩⟩ : ByteArray)
def wBetween : ByteArray := (⟨⟨[98, 101, 116, 119, 101, 101, 110]⟩⟩ : ByteArray)
def wCharged : ByteArray := (⟨⟨[99, 104, 97, 114, 103, 101, 100]⟩⟩ : ByteArray)
theorem str_above : strange wAbove = true := by decide +kernel
theorem str_between : strange wBetween = true := by decide +kernel
theorem str_charged : strange wCharged = true := by decide +kernel
/-! ### Arms -/
def comB : ByteArray := (⟨⟨[44, 32]⟩⟩ : ByteArray)
def abvB : ByteArray := (⟨⟨[32, 97, 98, 111, 118, 101, 32]⟩⟩ : ByteArray)
def btwB : ByteArray := (⟨⟨[32, 98, 101, 116, 119, 101, 101, 110, 32]⟩⟩ : ByteArray)
def chgB : ByteArray := (⟨⟨[32, 99, 104, 97, 114, 103, 101, 100, 32, 119, 105, 116, 104, 32]⟩⟩ : ByteArray)
theorem abv_eq : abvB = spW wAbove ByteArray.empty := by decide
theorem btw_eq : btwB = spW wBetween ByteArray.empty := by decide
theorem chg_eq : chgB = spW wCharged (⟨⟨[119, 105, 116, 104, 32]⟩⟩ : ByteArray) := by decide
theorem com_l : comB.data.toList = 44 :: [32] := rfl
def tkR (f rest : ByteArray) : Pcs := if (wordsB rest).length < 2 ∨ isIn ((wordsB rest).getD 1 ByteArray.empty) ordL = false then ⟨f, ByteArray.empty, ByteArray.empty, rest, false⟩
  else
    let c := decide ((wordsB rest).getD 1 ByteArray.empty = (⟨⟨[99, 104, 105, 101, 102]⟩⟩ : ByteArray))
    let x := if (cutB rest abvB).2.2 then ((cutB rest abvB).1, (cutB rest abvB).2.1) else ((cutB rest btwB).1, (cutB rest btwB).2.1)
    ⟨f, (cutB x.1 chgB).1, (cutB x.1 chgB).2.1, x.2, c⟩
def tkn (s : ByteArray) : Pcs := tkR (cutB s comB).1 (cutB s comB).2.1
noncomputable def candA (p : Pcs) : Arm := ⟨(pF p.f).getD zF, ((pO p.o).getD zO).o, ((pO p.o).getD zO).l, ((pO p.o).getD zO).t, (pG p.n).getD zG, (pG p.r).getD zG⟩
theorem lacks44_f (f : Fld) : lacks (fldT f) 44 = true := by
  have ht : ∀ x, lacks (wordOf tinL x) 44 = true := lacks_w (by decide)
  have hd : ∀ x, lacks (wordOf divL x) 44 = true := lacks_w (by decide)
  have hl : ∀ x, lacks (wordOf linL x) 44 = true := lacks_w (by decide)
  by_cases h : f.d = 0
  · rw [fldT_y h]; exact ht _
  · rw [fldT_n h]
    refine lacks_app ?_ (lacks_app (by decide) (lacks_app (ht _) (lacks_app (by decide) (ht _))))
    unfold wlT
    split
    · exact hd _
    · exact lacks_app (hd _) (lacks_app (by decide) (hl _))
def odA (a : Arm) : Od := ⟨a.o, a.l, a.t⟩
theorem okA_b {a : Arm} (h : okA a = true) : okF a.f = true ∧ (noG a.r || okG a.r) = true ∧ (a.o = 0 → a.l = 0 ∧ a.t = 0 ∧ noG a.n = true) ∧ (a.o ≠ 0 → okO (odA a) = true ∧ (noG a.n || okG a.n) = true) := by
  unfold okA at h
  simp only [Bool.and_eq_true] at h
  refine ⟨h.1.1, h.1.2, fun ho => ?_, fun ho => ?_⟩
  · have h2 := h.2
    rw [if_pos ho] at h2
    simp only [Bool.and_eq_true, decide_eq_true_eq] at h2
    exact ⟨h2.1.1, h2.1.2, h2.2⟩
  · have h2 := h.2
    rw [if_neg ho] at h2
    simp only [Bool.and_eq_true] at h2
    refine ⟨?_, h2.2⟩
    unfold okO odA
    simp only [Bool.and_eq_true]
    exact ⟨h2.1.1.1, h2.1.1.2, h2.1.2⟩
theorem noG_eq {g : Grp} (h : noG g = true) : g = zG := by
  unfold noG at h
  simp only [Bool.and_eq_true, decide_eq_true_eq] at h
  obtain ⟨c, k, a, t⟩ := g
  obtain ⟨⟨⟨h1, h2⟩, h3⟩, h4⟩ := h
  simp only at h1 h2 h3 h4
  subst h1; subst h2; subst h3; subst h4; rfl
theorem pG_e : pG ByteArray.empty = none := by
  have : wordsB ByteArray.empty = [ByteArray.empty] := rfl
  unfold pG
  rw [if_neg (by rw [this]; simp)]
theorem pO_e : pO ByteArray.empty = none := by
  have : wordsB ByteArray.empty = [ByteArray.empty] := rfl
  exact pO_len (by rw [this]; simp)
def optT (p : ByteArray) (g : Grp) : ByteArray := if noG g then ByteArray.empty else p ++ grpT g
theorem knd_ord (k c : Int) : isIn (kndT k c) ordL = false := by
  rw [← Bool.not_eq_true]
  intro h
  have h := isIn_mem h
  rcases kndT_mem k c with e | e | e
  · have : kndT k c = (⟨⟨[115]⟩⟩ : ByteArray) := by simpa using e
    rw [this] at h
    exact notIn_mem (w := (⟨⟨[115]⟩⟩ : ByteArray)) (l := ordL) (by decide) h
  · rw [e] at h
    exact notIn_mem (w := ByteArray.empty) (l := ordL) (by decide) h
  · have : kndV.all (fun w => notIn w ordL) = true := by decide
    exact notIn_mem (List.all_eq_true.1 this _ e) h
theorem tkR_grp (f : ByteArray) (g : Grp) : tkR f (grpT g) = ⟨f, ByteArray.empty, ByteArray.empty, grpT g, false⟩ := by
  have : (wordsB (grpT g)).getD 1 ByteArray.empty = kndT g.k g.c := by rw [grpT_words]; rfl
  unfold tkR
  rw [if_pos (.inr (by rw [this]; exact knd_ord _ _))]
theorem tkR_e (f : ByteArray) : tkR f ByteArray.empty = ⟨f, ByteArray.empty, ByteArray.empty, ByteArray.empty, false⟩ := by
  have : wordsB ByteArray.empty = [ByteArray.empty] := rfl
  unfold tkR
  rw [if_pos (.inl (by rw [this]; simp))]
theorem words_onP {x : Od} {n : Grp} {w : ByteArray} (h : strange w = true) (hc : w ≠ wCharged) (hw : w ≠ (⟨⟨[119, 105, 116, 104]⟩⟩ : ByteArray)) : w ∉ wordsB (oT x ++ optT chgB n) := by
  unfold optT
  split
  · rw [app_empty]; exact strange_O h x
  · have e : oT x ++ (chgB ++ grpT n) = oT x ++ (spB ++ (wCharged ++ (spB ++ ((⟨⟨[119, 105, 116, 104]⟩⟩ : ByteArray) ++ (spB ++ grpT n))))) := by
      rw [show chgB = spB ++ (wCharged ++ (spB ++ ((⟨⟨[119, 105, 116, 104]⟩⟩ : ByteArray) ++ spB))) by decide]
      simp only [ByteArray.append_assoc]
    rw [e, wordsB_app, wordsB_app, wordsB_one (w := wCharged) (by decide), wordsB_app, wordsB_one (w := (⟨⟨[119, 105, 116, 104]⟩⟩ : ByteArray)) (by decide)]
    simp only [List.mem_append, List.mem_singleton, not_or]
    exact ⟨strange_O h x, hc, hw, strange_G h n⟩
def midB (o : Int) : ByteArray := if o = 7 then abvB else btwB
theorem tkR_ord (f : ByteArray) {x : Od} (hx : okO x = true) (n r : Grp) : tkR f (oT x ++ (optT chgB n ++ optT (midB x.o) r)) = ⟨f, oT x, if noG n then ByteArray.empty else grpT n, if noG r then ByteArray.empty else grpT r, decide (x.o = 7)⟩ := by
  obtain ⟨ho, hl, ht⟩ := okO_b hx
  have hw1 : ∀ Z : ByteArray, (wordsB (oT x ++ Z)).getD 1 ByteArray.empty = wordOf ordL x.o ∧ 2 ≤ (wordsB (oT x ++ Z)).length := fun Z => by
    have e : oT x ++ Z = (⟨⟨[97]⟩⟩ : ByteArray) ++ (spB ++ (wordOf ordL x.o ++ (spB ++ (oTail x ++ Z)))) := by
      rw [oT_eq]; simp only [ByteArray.append_assoc]
    rw [e, wordsB_app, wordsB_one (by decide), wordsB_app, wordsB_one (nsp_ord _)]
    exact ⟨rfl, by simp⟩
  have hin : isIn (wordOf ordL x.o) ordL = true := by
    have : ∀ i, i < 7 → isIn (wordOf ordL ((i + 1 : Nat))) ordL = true := by decide
    have := this (x.o.toNat - 1) (by omega)
    rwa [show (((x.o.toNat - 1 + 1 : Nat)) : Int) = x.o by omega] at this
  have hch : decide (wordOf ordL x.o = (⟨⟨[99, 104, 105, 101, 102]⟩⟩ : ByteArray)) = decide (x.o = 7) := by
    have : ∀ i, i < 7 → decide (wordOf ordL ((i + 1 : Nat)) = (⟨⟨[99, 104, 105, 101, 102]⟩⟩ : ByteArray)) = decide (((i + 1 : Nat) : Int) = 7) := by decide
    have := this (x.o.toNat - 1) (by omega)
    rwa [show (((x.o.toNat - 1 + 1 : Nat)) : Int) = x.o by omega] at this
  have nA : ∀ n, wAbove ∉ wordsB (oT x ++ optT chgB n) := fun n => words_onP str_above (by decide) (by decide)
  have nB : ∀ n, wBetween ∉ wordsB (oT x ++ optT chgB n) := fun n => words_onP str_between (by decide) (by decide)
  have hs : nsp wAbove = true := by decide
  have hb : nsp wBetween = true := by decide
  have hc : nsp wCharged = true := by decide
  have last : cutB (oT x ++ optT chgB n) chgB = (oT x, if noG n then ByteArray.empty else grpT n, !noG n) := by
    unfold optT
    cases hn : noG n
    · simp only [Bool.false_eq_true, if_false, Bool.not_false]
      rw [chg_eq]
      exact cutB_word hc (strange_O str_charged x)
    · simp only [if_true, Bool.not_true]
      rw [app_empty, chg_eq]
      exact cutB_word' hc (strange_O str_charged x)
  have hx2 : (if (cutB (oT x ++ (optT chgB n ++ optT (midB x.o) r)) abvB).2.2 then ((cutB (oT x ++ (optT chgB n ++ optT (midB x.o) r)) abvB).1, (cutB (oT x ++ (optT chgB n ++ optT (midB x.o) r)) abvB).2.1) else ((cutB (oT x ++ (optT chgB n ++ optT (midB x.o) r)) btwB).1, (cutB (oT x ++ (optT chgB n ++ optT (midB x.o) r)) btwB).2.1)) = (oT x ++ optT chgB n, if noG r then ByteArray.empty else grpT r) := by
    rw [← ByteArray.append_assoc]
    cases hr : noG r
    · have eo : ∀ p, optT p r = p ++ grpT r := fun p => by unfold optT; rw [hr]; rfl
      rw [eo]
      by_cases h7 : x.o = 7
      · have em : midB x.o = abvB := if_pos h7
        rw [em, abv_eq, cutB_word hs (nA n)]; rfl
      · have em : midB x.o = btwB := if_neg h7
        have e1 : cutB ((oT x ++ optT chgB n) ++ (btwB ++ grpT r)) abvB = ((oT x ++ optT chgB n) ++ (btwB ++ grpT r), ByteArray.empty, false) := by
          rw [abv_eq]
          refine cutB_word' hs ?_
          rw [btw_eq]
          have : (oT x ++ optT chgB n) ++ (spW wBetween ByteArray.empty ++ grpT r) = (oT x ++ optT chgB n) ++ (spB ++ (wBetween ++ (spB ++ grpT r))) := by
            unfold spW; simp only [ByteArray.append_assoc, empty_app]
          rw [this, wordsB_app, wordsB_app, wordsB_one (w := wBetween) hb]
          simp only [List.mem_append, List.mem_singleton, not_or]
          exact ⟨nA n, by decide, strange_G str_above r⟩
        rw [em, e1, btw_eq, cutB_word hb (nB n)]; rfl
    · have eo : ∀ p, optT p r = ByteArray.empty := fun p => by unfold optT; rw [hr]; rfl
      rw [eo, app_empty, abv_eq, cutB_word' hs (nA n), btw_eq, cutB_word' hb (nB n)]; rfl
  unfold tkR
  obtain ⟨h1, h2⟩ := hw1 (optT chgB n ++ optT (midB x.o) r)
  rw [if_neg (by rw [h1, hin]; simp; omega)]
  simp only
  rw [hx2, h1, hch]
  simp only
  rw [last]
theorem armT_0 {a : Arm} (h : okA a = true) (ho : a.o = 0) : armT a = fldT a.f ++ optT comB a.r := by
  rw [armT_eq h]
  unfold ordP onP arP optT
  rw [if_pos ho, if_pos (okA_o0 h ho), empty_app, empty_app]
  have : jnO a.o = comB := if_pos ho
  rw [this]
theorem armT_1 {a : Arm} (h : okA a = true) (ho : a.o ≠ 0) : armT a = fldT a.f ++ (comB ++ (oT (odA a) ++ (optT chgB a.n ++ optT (midB a.o) a.r))) := by
  rw [armT_eq h]
  unfold ordP onP arP optT
  rw [if_neg ho]
  have e1 : jnO a.o = midB a.o := by unfold jnO midB; rw [if_neg ho]; rfl
  have e2 : ordS a.o a.l ++ ((⟨⟨[32]⟩⟩ : ByteArray) ++ wordOf tinL a.t) = oT (odA a) := rfl
  rw [e1, e2]
  simp only [ByteArray.append_assoc]
  rfl
theorem pF_of {f : Fld} (h : okF f = true) : pF (fldT f) = some f := pF_iff.2 ⟨h, rfl⟩
theorem pO_of {x : Od} (h : okO x = true) : pO (oT x) = some x := pO_iff.2 ⟨h, rfl⟩
theorem pG_opt {g : Grp} (h : (noG g || okG g) = true) : (pG (if noG g then ByteArray.empty else grpT g)).getD zG = g := by
  cases hn : noG g
  · rw [hn] at h
    rw [if_neg (by simp), pG_iff.2 ⟨by simpa using h, rfl⟩]; rfl
  · rw [if_pos rfl, pG_e]; exact (noG_eq hn).symm
theorem candA_at {a : Arm} (h : okA a = true) : candA (tkn (armT a)) = a := by
  obtain ⟨hf, hr, h0, h1⟩ := okA_b h
  by_cases ho : a.o = 0
  · obtain ⟨el, et, en⟩ := h0 ho
    have key : tkn (armT a) = ⟨fldT a.f, ByteArray.empty, ByteArray.empty, if noG a.r then ByteArray.empty else grpT a.r, false⟩ := by
      rw [armT_0 h ho]
      unfold tkn optT
      cases hn : noG a.r
      · simp only [Bool.false_eq_true, if_false]
        rw [cutB_lacks com_l (lacks44_f _)]
        exact tkR_grp _ _
      · simp only [if_true]
        rw [app_empty, cutB_lacks' com_l (lacks44_f _)]
        exact tkR_e _
    rw [key]
    unfold candA
    simp only [pF_of hf, pO_e, pG_e, pG_opt hr, Option.getD_some, Option.getD_none]
    obtain ⟨f, o, l, t, n, r⟩ := a
    simp only at ho el et en ⊢
    subst ho; subst el; subst et
    rw [noG_eq en]; rfl
  · obtain ⟨hx, hn⟩ := h1 ho
    have key : tkn (armT a) = ⟨fldT a.f, oT (odA a), if noG a.n then ByteArray.empty else grpT a.n, if noG a.r then ByteArray.empty else grpT a.r, decide (a.o = 7)⟩ := by
      rw [armT_1 h ho]
      unfold tkn
      rw [cutB_lacks com_l (lacks44_f _)]
      exact tkR_ord _ hx _ _
    rw [key]
    unfold candA
    simp only [pF_of hf, pO_of hx, pG_opt hr, pG_opt hn, Option.getD_some]
    rfl
theorem armT_inj : ∀ a b : Arm, okA a = true → okA b = true → armT a = armT b → a = b := fun a b ha hb e => by
  rw [← candA_at ha, e, candA_at hb]
noncomputable def pA (s : ByteArray) : Option Arm := findO okA armT s
theorem pA_iff {s : ByteArray} {a : Arm} : pA s = some a ↔ okA a = true ∧ armT a = s := findO_iff armT_inj
theorem pA_cand (s : ByteArray) : pA s = if okA (candA (tkn s)) = true ∧ armT (candA (tkn s)) = s then some (candA (tkn s)) else none := by
  by_cases h : okA (candA (tkn s)) = true ∧ armT (candA (tkn s)) = s
  · rw [if_pos h]; exact pA_iff.2 h
  · rw [if_neg h]
    cases e : pA s with
    | none => rfl
    | some x =>
      have hx := pA_iff.1 e
      have hc : candA (tkn s) = x := by rw [← hx.2]; exact candA_at hx.1
      exact absurd (by rw [hc]; exact hx) h

end Go.Proofs.YtmkniipdkanbbaaGreatDoor.AM

