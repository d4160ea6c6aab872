import Derived.Test.YtbgmlocolacnpaaDoorAmT
import Derived.Test.YtbgmlocolacnpaaDoorTxt
set_option linter.unusedVariables false
set_option linter.unusedSimpArgs false
set_option maxRecDepth 100000
set_option maxHeartbeats 4000000
set_option cbv.maxSteps 3000000
namespace Go.Proofs.YtbgmlocolacnpaaDoor.AM
/- Texts of fields and arms; conditions: none. -/
structure Pcs where
  f : ByteArray
  o : ByteArray
  n : ByteArray
  r : ByteArray
  c : Bool
def divL : List ByteArray := [(⟨⟨[112, 101, 114, 32, 112, 97, 108, 101]⟩⟩ : ByteArray), (⟨⟨[112, 101, 114, 32, 102, 101, 115, 115]⟩⟩ : ByteArray), (⟨⟨[112, 101, 114, 32, 98, 101, 110, 100]⟩⟩ : ByteArray), (⟨⟨[113, 117, 97, 114, 116, 101, 114, 108, 121]⟩⟩ : ByteArray), (⟨⟨[112, 101, 114, 32, 115, 97, 108, 116, 105, 114, 101]⟩⟩ : ByteArray), (⟨⟨[112, 97, 108, 121]⟩⟩ : ByteArray), (⟨⟨[98, 97, 114, 114, 121]⟩⟩ : ByteArray)]
def linL : List ByteArray := [(⟨⟨[101, 110, 103, 114, 97, 105, 108, 101, 100]⟩⟩ : ByteArray), (⟨⟨[119, 97, 118, 121]⟩⟩ : ByteArray), (⟨⟨[101, 109, 98, 97, 116, 116, 108, 101, 100]⟩⟩ : ByteArray), (⟨⟨[105, 110, 100, 101, 110, 116, 101, 100]⟩⟩ : ByteArray)]
def ordL : List ByteArray := [(⟨⟨[112, 97, 108, 101]⟩⟩ : ByteArray), (⟨⟨[102, 101, 115, 115]⟩⟩ : ByteArray), (⟨⟨[98, 101, 110, 100]⟩⟩ : ByteArray), (⟨⟨[99, 104, 101, 118, 114, 111, 110]⟩⟩ : ByteArray), (⟨⟨[99, 114, 111, 115, 115]⟩⟩ : ByteArray), (⟨⟨[115, 97, 108, 116, 105, 114, 101]⟩⟩ : ByteArray), (⟨⟨[99, 104, 105, 101, 102]⟩⟩ : ByteArray)]
theorem divL_sz (x : Int) : (wordOf divL x).size ≤ 20 := getD_sz (by decide) _
theorem linL_sz (x : Int) : (wordOf linL x).size ≤ 20 := getD_sz (by decide) _
theorem ordL_sz (x : Int) : (wordOf ordL x).size ≤ 20 := getD_sz (by decide) _
def wlT (t : ByteArray) (l : Int) : ByteArray := if l = 0 then t else t ++ ((⟨⟨[32]⟩⟩ : ByteArray) ++ wordOf linL l)
theorem wlT_sz (t : ByteArray) (l : Int) : (wlT t l).size ≤ t.size + 21 := by
  have := linL_sz l
  unfold wlT; split
  · omega
  · simp only [ByteArray.size_append, bsz, List.length_cons, List.length_nil]; omega
theorem wlT_y {t : ByteArray} {l : Int} (h : l = 0) : wlT t l = t := if_pos h
theorem wlT_n {t : ByteArray} {l : Int} (h : ¬ l = 0) : wlT t l = t ++ ((⟨⟨[32]⟩⟩ : ByteArray) ++ wordOf linL l) := if_neg h
def okFT (f : Fld) : Prop := (0 ≤ f.d ∧ f.d ≤ 7) ∧ (0 ≤ f.l ∧ f.l ≤ 4) ∧ (1 ≤ f.p ∧ f.p ≤ 9) ∧ (f.d ≠ 0 → 1 ≤ f.q ∧ f.q ≤ 9)
def fldT (f : Fld) : ByteArray := if f.d = 0 then wordOf tinL f.p else wlT (wordOf divL f.d) f.l ++ ((⟨⟨[32]⟩⟩ : ByteArray) ++ (wordOf tinL f.p ++ ((⟨⟨[32, 97, 110, 100, 32]⟩⟩ : ByteArray) ++ wordOf tinL f.q)))
theorem fldT_y {f : Fld} (h : f.d = 0) : fldT f = wordOf tinL f.p := if_pos h
theorem fldT_n {f : Fld} (h : ¬ f.d = 0) : fldT f = wlT (wordOf divL f.d) f.l ++ ((⟨⟨[32]⟩⟩ : ByteArray) ++ (wordOf tinL f.p ++ ((⟨⟨[32, 97, 110, 100, 32]⟩⟩ : ByteArray) ++ wordOf tinL f.q))) := if_neg h
theorem fldT_sz (f : Fld) : (fldT f).size ≤ 100 := by
  have h1 := tinL_sz f.p; have h2 := tinL_sz f.q; have h3 := divL_sz f.d; have h4 := wlT_sz (wordOf divL f.d) f.l
  unfold fldT; split
  · omega
  · simp only [ByteArray.size_append, bsz, List.length_cons, List.length_nil]; omega
def ordS (o l : Int) : ByteArray := wlT ((⟨⟨[97, 32]⟩⟩ : ByteArray) ++ wordOf ordL o) l
theorem ordS_sz (o l : Int) : (ordS o l).size ≤ 50 := by
  have h1 := ordL_sz o; have h2 := wlT_sz ((⟨⟨[97, 32]⟩⟩ : ByteArray) ++ wordOf ordL o) l
  unfold ordS
  simp only [ByteArray.size_append, bsz, List.length_cons, List.length_nil] at h2
  omega
def orE (b : Bool) (t : ByteArray) : ByteArray := if b then ByteArray.empty else t
/-- The pieces of arms. -/
def pcsA (a : Arm) : Pcs := ⟨fldT a.f, orE (decide (a.o = 0)) (ordS a.o a.l ++ ((⟨⟨[32]⟩⟩ : ByteArray) ++ wordOf tinL a.t)), orE (noG a.n) (grpT a.n), orE (noG a.r) (grpT a.r), a.o == 7⟩
def emp (t : ByteArray) : Bool := t.toList == (⟨⟨[]⟩⟩ : ByteArray).toList
theorem emp_iff (t : ByteArray) : emp t = true ↔ t.size = 0 := by
  unfold emp
  rw [ByteArray.toList_eq, ByteArray.toList_eq, beq_iff_eq]
  exact (List.length_eq_zero_iff (l := t.data.toList)).symm
def jnT (p : Pcs) : ByteArray := if emp p.o then (if emp p.r then p.f else p.f ++ ((⟨⟨[44, 32]⟩⟩ : ByteArray) ++ p.r)) else p.f ++ ((⟨⟨[44, 32]⟩⟩ : ByteArray) ++ (p.o ++ ((if emp p.n then ByteArray.empty else (⟨⟨[32, 99, 104, 97, 114, 103, 101, 100, 32, 119, 105, 116, 104, 32]⟩⟩ : ByteArray) ++ p.n) ++ (if emp p.r then ByteArray.empty else (if p.c then (⟨⟨[32, 97, 98, 111, 118, 101, 32]⟩⟩ : ByteArray) else (⟨⟨[32, 98, 101, 116, 119, 101, 101, 110, 32]⟩⟩ : ByteArray)) ++ p.r))))
def szP (p : Pcs) : Prop := p.f.size ≤ 1000 ∧ p.o.size ≤ 1000 ∧ p.n.size ≤ 1000 ∧ p.r.size ≤ 1000
theorem okG_T {g : Grp} (h : okG g = true) : okT g := by
  unfold okG attF inB at h
  simp only [Bool.and_eq_true, decide_eq_true_eq] at h
  obtain ⟨⟨h1, h2, h3⟩, h4⟩ := h
  refine ⟨h1, h2, ?_, h4⟩
  show g.a ≤ ((attL g.k).length : Nat)
  by_cases hk : g.k ≤ 3
  · rw [if_pos hk] at h3
    have h3 := of_decide_eq_true h3
    have : (attL g.k).length = 2 := by
      unfold attL
      rcases (by omega : g.k = 1 ∨ g.k = 2 ∨ g.k = 3) with e | e | e <;> rw [e] <;> rfl
    omega
  · rw [if_neg hk] at h3
    have h3 := of_decide_eq_true h3
    omega
theorem okF_T {f : Fld} (h : okF f = true) : okFT f := by
  unfold okF inB at h
  simp only [Bool.and_eq_true, decide_eq_true_eq] at h
  obtain ⟨⟨⟨h1, h2⟩, h3⟩, h4⟩ := h
  refine ⟨h1, h2, h3, fun hd => ?_⟩
  rw [if_neg hd] at h4
  simp only [Bool.and_eq_true, decide_eq_true_eq] at h4
  exact h4.1
theorem okA_F {a : Arm} (h : okA a = true) : okFT a.f := by
  unfold okA at h
  simp only [Bool.and_eq_true] at h
  exact okF_T h.1.1
theorem okA_O {a : Arm} (h : okA a = true) (ho : a.o ≠ 0) : (1 ≤ a.o ∧ a.o ≤ 7) ∧ (0 ≤ a.l ∧ a.l ≤ 4) ∧ 1 ≤ a.t ∧ a.t ≤ 9 := by
  unfold okA at h
  rw [if_neg ho] at h
  unfold inB at h
  simp only [Bool.and_eq_true, decide_eq_true_eq] at h
  exact ⟨h.2.1.1.1, h.2.1.1.2, h.2.1.2⟩
theorem okA_N {a : Arm} (h : okA a = true) (hn : noG a.n = false) : okT a.n ∧ a.o ≠ 0 := by
  unfold okA at h
  by_cases ho : a.o = 0
  · rw [if_pos ho] at h
    simp only [Bool.and_eq_true, hn] at h
    exact absurd h.2.2 (by simp)
  · rw [if_neg ho] at h
    simp only [Bool.and_eq_true, hn, Bool.false_or] at h
    exact ⟨okG_T h.2.2, ho⟩
theorem okA_R {a : Arm} (h : okA a = true) (hr : noG a.r = false) : okT a.r := by
  unfold okA at h
  simp only [Bool.and_eq_true, hr, Bool.false_or] at h
  exact okG_T h.1.2
theorem szPA (a : Arm) : szP (pcsA a) := by
  have h1 := fldT_sz a.f; have h2 := ordS_sz a.o a.l; have h3 := tinL_sz a.t; have h4 := grpT_sz a.n; have h5 := grpT_sz a.r
  have orE_sz : ∀ (b : Bool) (t : ByteArray), t.size ≤ 1000 → (orE b t).size ≤ 1000 := fun b t h => by
    unfold orE; split
    · exact Nat.zero_le _
    · exact h
  unfold szP pcsA
  exact ⟨by show (fldT a.f).size ≤ 1000; omega, orE_sz _ _ (by simp only [ByteArray.size_append, bsz, List.length_cons, List.length_nil]; omega), orE_sz _ _ (by omega), orE_sz _ _ (by omega)⟩
/-- The text of arms. -/
def armT (a : Arm) : ByteArray := jnT (pcsA a)
theorem jnT_sz {p : Pcs} (h : szP p) : (jnT p).size ≤ 5000 := by
  obtain ⟨h1, h2, h3, h4⟩ := h
  have e : ByteArray.empty.size = 0 := rfl
  unfold jnT
  generalize emp p.o = b1; generalize emp p.n = b2; generalize emp p.r = b3
  cases b1 <;> cases b2 <;> cases b3 <;> cases p.c
  all_goals simp only [if_true, Bool.false_eq_true, if_false, ByteArray.size_append, bsz, List.length_cons, List.length_nil, e]; omega
theorem armT_sz (a : Arm) : (armT a).size ≤ 5000 := jnT_sz (szPA a)
theorem allGn (g : Grp) : allT [fun _ => g.c == 0, fun _ => g.k == 0, fun _ => g.a == 0, fun _ => g.t == 0] = noG g := allG _ _ _ _
def jnO (o : Int) : ByteArray := if o = 0 then (⟨⟨[44, 32]⟩⟩ : ByteArray) else if o = 7 then (⟨⟨[32, 97, 98, 111, 118, 101, 32]⟩⟩ : ByteArray) else (⟨⟨[32, 98, 101, 116, 119, 101, 101, 110, 32]⟩⟩ : ByteArray)
theorem jnO_sz (o : Int) : (jnO o).size ≤ 9 := by unfold jnO; split <;> (try split) <;> decide
theorem emp_no {t : ByteArray} (h : 1 ≤ t.size) : emp t = false := by
  cases e : emp t with
  | false => rfl
  | true => rw [emp_iff] at e; omega
theorem emp_y : emp ByteArray.empty = true := (emp_iff _).2 rfl
theorem grpT_pos (g : Grp) : 1 ≤ (grpT g).size := by
  unfold grpT
  simp only [ByteArray.size_append, bsz, List.length_cons, List.length_nil]; omega
theorem ordS_pos (o l : Int) : 1 ≤ (ordS o l).size := by
  unfold ordS wlT
  split
  · simp only [ByteArray.size_append, bsz, List.length_cons, List.length_nil]; omega
  · simp only [ByteArray.size_append, bsz, List.length_cons, List.length_nil]; omega
/-- The text of arms, part by part. -/
def ordP (a : Arm) : ByteArray := if a.o = 0 then ByteArray.empty else (⟨⟨[44, 32]⟩⟩ : ByteArray) ++ (ordS a.o a.l ++ ((⟨⟨[32]⟩⟩ : ByteArray) ++ wordOf tinL a.t))
def onP (a : Arm) : ByteArray := if noG a.n then ByteArray.empty else (⟨⟨[32, 99, 104, 97, 114, 103, 101, 100, 32, 119, 105, 116, 104, 32]⟩⟩ : ByteArray) ++ grpT a.n
def arP (a : Arm) : ByteArray := if noG a.r then ByteArray.empty else jnO a.o ++ grpT a.r
theorem okA_o0 {a : Arm} (h : okA a = true) (ho : a.o = 0) : noG a.n = true := by
  cases e : noG a.n with
  | true => rfl
  | false => exact absurd ho (okA_N h e).2
theorem armT_eq {a : Arm} (h : okA a = true) : armT a = fldT a.f ++ (ordP a ++ (onP a ++ arP a)) := by
  have p1 := grpT_pos a.n; have p2 := grpT_pos a.r; have p3 := ordS_pos a.o a.l
  have q1 : emp (grpT a.n) = false := emp_no p1
  have q2 : emp (grpT a.r) = false := emp_no p2
  have q3 : emp (ordS a.o a.l ++ ((⟨⟨[32]⟩⟩ : ByteArray) ++ wordOf tinL a.t)) = false := emp_no (by simp only [ByteArray.size_append]; omega)
  unfold armT jnT pcsA ordP onP arP orE jnO
  simp only
  by_cases ho : a.o = 0
  · have hn := okA_o0 h ho
    rw [decide_eq_true ho, hn]
    cases hr : noG a.r
    all_goals simp only [ho, if_true, Bool.false_eq_true, if_false, emp_y, q2, app_empty, empty_app]
  · rw [decide_eq_false ho]
    by_cases h7 : a.o = 7
    · have e7 : (a.o == 7) = true := by rw [h7]; rfl
      rw [e7, if_pos h7]
      cases hn : noG a.n <;> cases hr : noG a.r
      all_goals simp only [if_neg ho, if_true, Bool.false_eq_true, if_false, emp_y, q1, q2, q3, app_empty, empty_app, ByteArray.append_assoc]
    · have e7 : (a.o == 7) = false := by rw [beq_eq_false_iff_ne]; exact h7
      rw [e7, if_neg h7]
      cases hn : noG a.n <;> cases hr : noG a.r
      all_goals simp only [if_neg ho, if_true, Bool.false_eq_true, if_false, emp_y, q1, q2, q3, app_empty, empty_app, ByteArray.append_assoc]

end Go.Proofs.YtbgmlocolacnpaaDoor.AM
