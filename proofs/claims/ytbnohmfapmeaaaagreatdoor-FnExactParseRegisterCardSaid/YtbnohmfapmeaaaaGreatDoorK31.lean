/- Lemmas and contracts (Spa); conditions: none. -/
import Derived.Test.YtbnohmfapmeaaaaGreatDoorK03
import Derived.Test.YtbnohmfapmeaaaaGreatDoorK25
set_option linter.unusedVariables false
set_option linter.unusedSimpArgs false
set_option maxRecDepth 100000
set_option maxHeartbeats 4000000
set_option cbv.maxSteps 3000000
namespace Go.Proofs.YtbnohmfapmeaaaaGreatDoor.AM
/- The reference's parsers: the last word, groups; conditions: none. -/
def lstF (s : ByteArray) : Nat → ByteArray × ByteArray
  | 0 => (ByteArray.empty, s)
  | n + 1 => if sByte s n = 32 then (s.extract 0 n, s.extract (n + 1) s.size) else lstF s n
/-- A text parted at its last space. -/
def lst (s : ByteArray) : ByteArray × ByteArray := lstF s s.size
theorem lstF_y {s : ByteArray} {n : Nat} (h : sByte s n = 32) : lstF s (n + 1) = (s.extract 0 n, s.extract (n + 1) s.size) := by unfold lstF; rw [if_pos h]
theorem lstF_n {s : ByteArray} {n : Nat} (h : ¬ sByte s n = 32) : lstF s (n + 1) = lstF s n := by
  conv => lhs; unfold lstF
  rw [if_neg h]
theorem nsp_byte {s : ByteArray} : nsp s = true ↔ ∀ j, j < s.size → sByte s j ≠ 32 := by
  constructor
  · intro h j hj e
    have e2 := (sByte_32 hj).1 e
    have := List.all_eq_true.1 h 32 (List.mem_of_getElem? e2)
    simp at this
  · intro h
    unfold nsp
    rw [List.all_eq_true]
    intro b hb
    obtain ⟨j, hj, e⟩ := List.getElem_of_mem hb
    have hj' : j < s.size := hj
    have := h j hj'
    rw [Ne, sByte_32 hj', List.getElem?_eq_getElem hj, e] at this
    simpa using this
theorem lst_at (a : ByteArray) {b : ByteArray} (hb : nsp b = true) : lst (a ++ (spB ++ b)) = (a, b) := by
  have hz : (a ++ (spB ++ b)).size = a.size + 1 + b.size := by simp only [ByteArray.size_append]; have : spB.size = 1 := rfl; omega
  have hl : a.size = a.data.toList.length := rfl
  have hlb : b.size = b.data.toList.length := rfl
  have e : (a ++ (spB ++ b)).data.toList = a.data.toList ++ 32 :: b.data.toList := by simp only [ByteArray.toList_data_append]; rfl
  have at0 : sByte (a ++ (spB ++ b)) a.size = 32 := (sByte_32 (by omega)).2 (by rw [e, hl, List.getElem?_append_right (Nat.le_refl _), Nat.sub_self]; rfl)
  have ne : ∀ j, a.size < j → j < (a ++ (spB ++ b)).size → ¬ sByte (a ++ (spB ++ b)) j = 32 := fun j h1 h2 q => by
    have q := (sByte_32 h2).1 q
    rw [e, List.getElem?_append_right (by omega)] at q
    obtain ⟨m, hm⟩ : ∃ m, j - a.data.toList.length = m + 1 := ⟨j - a.data.toList.length - 1, by omega⟩
    rw [hm, List.getElem?_cons_succ] at q
    have := List.all_eq_true.1 hb 32 (List.mem_of_getElem? q)
    simp at this
  have key : ∀ n, a.size < n → n ≤ (a ++ (spB ++ b)).size → lstF (a ++ (spB ++ b)) n = (a, b) := by
    intro n
    induction n with
    | zero => intro h; omega
    | succ n ih =>
      intro h1 h2
      rcases Nat.lt_or_eq_of_le (show a.size ≤ n by omega) with h | h
      · rw [lstF_n (ne n h (by omega))]
        exact ih h (by omega)
      · subst h
        rw [lstF_y at0]
        refine Prod.ext ?_ ?_
        · show ByteArray.extract _ 0 a.size = a
          rw [← ofL_ext, List.drop_zero, Nat.sub_zero, e, hl, List.take_left]; rfl
        · show ByteArray.extract _ (a.size + 1) _ = b
          have e3 : a.data.toList ++ 32 :: b.data.toList = (a.data.toList ++ [32]) ++ b.data.toList := by simp
          rw [← ofL_end, e, e3, hl, show a.data.toList.length + 1 = (a.data.toList ++ [32]).length by simp, List.drop_left]; rfl
  exact key _ (by omega) (Nat.le_refl _)
theorem lst_no {s : ByteArray} (h : nsp s = true) : lst s = (ByteArray.empty, s) := by
  have h' := nsp_byte.1 h
  have key : ∀ n, n ≤ s.size → lstF s n = (ByteArray.empty, s) := by
    intro n
    induction n with
    | zero => intro _; rfl
    | succ n ih => intro hn; rw [lstF_n (h' n (by omega))]; exact ih (by omega)
  exact key _ (Nat.le_refl _)
theorem lst_spec (s : ByteArray) : (s = (lst s).1 ++ (spB ++ (lst s).2) ∧ nsp (lst s).2 = true) ∨ (lst s = (ByteArray.empty, s) ∧ nsp s = true) := by
  cases h : nsp s with
  | true => exact .inr ⟨lst_no h, rfl⟩
  | false =>
    left
    have hw : ∃ a b, s = a ++ (spB ++ b) ∧ nsp b = true := by
      have key : ∀ l : List UInt8, (l.all fun b => b != 32) = false → ∃ a b : List UInt8, l = a ++ 32 :: b ∧ (b.all fun b => b != 32) = true := by
        intro l
        induction l with
        | nil => intro h; simp at h
        | cons x l ih =>
          intro h
          cases hl : (l.all fun b => b != 32) with
          | false =>
            obtain ⟨a, b, e, hb⟩ := ih hl
            exact ⟨x :: a, b, by rw [e]; rfl, hb⟩
          | true =>
            rw [List.all_cons, hl, Bool.and_true] at h
            have : x = 32 := by simpa using h
            exact ⟨[], l, by rw [this]; rfl, hl⟩
      obtain ⟨a, b, e, hb⟩ := key s.data.toList h
      refine ⟨ofL a, ofL b, ?_, hb⟩
      apply ByteArray.ext; apply Array.ext'
      simp only [ByteArray.toList_data_append]
      exact e
    obtain ⟨a, b, rfl, hb⟩ := hw
    rw [lst_at a hb]
    exact ⟨rfl, hb⟩
theorem c_l4Last (s : ByteArray) (h0 : s.size ≤ 4000000) : ConN Tryz.prog 188 [.lit (.string s)] [] 0 (.tup [.lit (.string (stdH ByteArray fun _ => (lst s).1)), .lit (.string (stdH ByteArray fun _ => (lst s).2))]) [] [] := by
  have hB : Base Tryz.prog (tabΓ []) tab := base_of tabOk (ents_nil)
  refine con_m (N := 24) hB (draw_ok hB mixed) Tryz.func188 rfl rfl (fun H => [.lit (.string s)]) (fun _ => []) 0 (fun H => .tup [.lit (.string (H ByteArray fun _ => (lst s).1)), .lit (.string (H ByteArray fun _ => (lst s).2))]) (fun H => []) (fun _ => []) 200 (by simp) (fun x hx => ?_) (by simp [lk]) (by omega) (by simp) ?_
  · simp only [List.mem_cons, List.not_mem_nil, or_false] at hx
    rcases hx with rfl
    · exact .lit
  intro X hX hX0 H hH
  conv in Fin.chk _ _ => cbv
  try simp only [Plain_rowsA, Plain_rowsB, Plain_rowsC, Plain_rowsF, Plain_rowsG, Plain_rowsI, Plain_rowsS, Plain_rowsU, Fin.satC_ret, Fin.satC_br, Fin.satC_need, Fin.satC_again, AllP, and_true, true_and, upd, List.length_nil, List.length_cons, Nat.zero_add, if_true, ncast, Int.ofNat_eq_natCast]
  have w0 : IntKind.i64.wrap ((s.size : Int) - 1) = (s.size : Int) - 1 := wi (by omega) (by omega)
  refine loop_a hB (draw_ok hB mixed) hX hX0 hH false (ι := { n : Nat // n ≤ s.size ∧ lst s = lstF s n }) 200 (fun n => [.s (H ByteArray fun _ => ⟨⟨[]⟩⟩), .s (H ByteArray fun _ => ⟨⟨[]⟩⟩), .i (H Int fun _ => ((n.1 : Nat) : Int) - 1)]) (fun n => n.1) (⟨s.size, Nat.le_refl _, rfl⟩) ?_ ?_
  · (conv in matchSt _ _ _ _ => cbv); simp only [AllG, AllP, and_true, hH, stdH, Nat.le_refl, ncast, Int.ofNat_eq_natCast, vrow_I, Arm.eta2, Fld.eta, Grp.eta]
    rw [w0]
    (repeat' (first | with_reducible exact True.intro | rfl | refine And.intro ?_ ?_ | trivial))
  · intro I hI n
    conv in Fin.chk _ _ => cbv
    try simp only [Plain_rowsA, Plain_rowsB, Plain_rowsC, Plain_rowsF, Plain_rowsG, Plain_rowsI, Plain_rowsS, Plain_rowsU, Fin.satC_ret, Fin.satC_br, Fin.satC_need, Fin.satC_again, AllP, and_true, true_and, upd, List.length_nil, List.length_cons, Nat.zero_add, if_true, ncast, Int.ofNat_eq_natCast]
    obtain ⟨n, hn, hf⟩ := n
    refine ⟨fun h1 => ?_, fun h1 => ?_⟩
    · simp only [hH, stdH, Nat.le_refl, decide_eq_true_eq, decide_eq_false_iff_not, Bool.not_eq_true', Bool.not_eq_false', peta, ncast, Int.ofNat_eq_natCast, beq_iff_eq, bne_iff_ne, beq_eq_false_iff_ne, bne_eq_false_iff_eq, ne_eq, Classical.not_not, Int.toNat_natCast, vrow_I, Arm.eta2, Fld.eta, Grp.eta] at h1
      obtain ⟨m, rfl⟩ : ∃ m, n = m + 1 := ⟨n - 1, by omega⟩
      have e1 : (((m + 1 : Nat) : Int) - 1) = (m : Nat) := by omega
      have e2 : IntKind.i64.wrap ((m : Int) + 1) = ((m + 1 : Nat) : Int) := w1 (by omega)
      refine ⟨?_, fun h2 => ⟨?_, ?_, ?_⟩, fun h2 => ?_⟩
      · try simp only [hH, stdH, Nat.le_refl, decide_eq_true_eq, decide_eq_false_iff_not, Bool.not_eq_true', Bool.not_eq_false', peta, ncast, Int.ofNat_eq_natCast, beq_iff_eq, bne_iff_ne, beq_eq_false_iff_ne, bne_eq_false_iff_eq, ne_eq, Classical.not_not, Int.toNat_natCast, vrow_I, Arm.eta2, Fld.eta, Grp.eta]
        omega
      · simp only [hH, stdH, e1]
        exact ⟨trivial, by show (0 : Int) ≤ (m : Nat); omega, Nat.zero_le _, by show ((m : Nat) : Int).toNat ≤ s.size; omega⟩
      · simp only [hH, stdH, e1, e2]
        exact ⟨by show (0 : Int) ≤ ((m + 1 : Nat) : Int); omega, trivial, by show ((m + 1 : Nat) : Int).toNat ≤ s.size; omega, Nat.le_refl _⟩
      · simp only [hH, stdH, e1, e2, Int.toNat_natCast, beq_iff_eq] at h2 ⊢
        rw [hf, lstF_y h2]
        exact ⟨rfl, rfl⟩
      · simp only [hH, stdH, e1, Int.toNat_natCast, beq_eq_false_iff_ne, ne_eq] at h2
        refine ⟨⟨m, by omega, by rw [hf, lstF_n h2]⟩, by simp only; omega, ?_⟩
        rw [hI]
        (conv in matchSt _ _ _ _ => cbv); simp only [AllG, AllP, and_true, hH, stdH, Nat.le_refl, ncast, Int.ofNat_eq_natCast, vrow_I, Arm.eta2, Fld.eta, Grp.eta]
        rw [e1, wi (by omega) (by omega)]
        (repeat' (first | with_reducible exact True.intro | rfl | refine And.intro ?_ ?_ | trivial))
    · simp only [hH, stdH, Nat.le_refl, decide_eq_true_eq, decide_eq_false_iff_not, Bool.not_eq_true', Bool.not_eq_false', peta, ncast, Int.ofNat_eq_natCast, beq_iff_eq, bne_iff_ne, beq_eq_false_iff_ne, bne_eq_false_iff_eq, ne_eq, Classical.not_not, Int.toNat_natCast, vrow_I, Arm.eta2, Fld.eta, Grp.eta] at h1
      obtain rfl : n = 0 := by omega
      try simp only [hH, stdH, Nat.le_refl, decide_eq_true_eq, decide_eq_false_iff_not, Bool.not_eq_true', Bool.not_eq_false', peta, ncast, Int.ofNat_eq_natCast, beq_iff_eq, bne_iff_ne, beq_eq_false_iff_ne, bne_eq_false_iff_eq, ne_eq, Classical.not_not, Int.toNat_natCast, vrow_I, Arm.eta2, Fld.eta, Grp.eta]
      rw [hf]
      exact ⟨rfl, rfl⟩
noncomputable def e_l4Last : Entry := pureE 188 fun H a => match a with
  | [.lit (.string s)] => some (.tup [.lit (.string (H ByteArray fun _ => (lst s).1)), .lit (.string (H ByteArray fun _ => (lst s).2))], [H Prop fun _ => s.size ≤ 4000000])
  | _ => none
theorem eok_l4Last : EntryOk Tryz.prog e_l4Last := pureM_ok (by unfold isBody; kernel_rfl) (by
  intro a r ob e hob
  split at e
  · rename_i s
    simp only [Option.some.injEq, Prod.mk.injEq] at e
    obtain ⟨rfl, rfl⟩ := e
    exact ConN.args (.cons .rfl .nil) (c_l4Last s hob.1)
  · simp at e)
/-- The text of a group without its tincture. -/
def barT (g : Grp) : ByteArray := cntT g.c g.k ++ ((⟨⟨[32]⟩⟩ : ByteArray) ++ (kndT g.k g.c ++ attT g))
theorem barT_grp (g : Grp) : grpT g = barT g ++ (spB ++ wordOf tinL g.t) := by
  unfold barT grpT
  simp only [ByteArray.append_assoc]; rfl
def okBar (g : Grp) : Bool := okG g && decide (g.t = 1)
theorem okG_t {g : Grp} {t : Int} (h : okG g = true) (ht : 1 ≤ t ∧ t ≤ 9) : okG ⟨g.c, g.k, g.a, t⟩ = true := by
  unfold okG inB at *
  simp only [Bool.and_eq_true, decide_eq_true_eq] at *
  exact ⟨h.1, ht⟩
theorem barT_inj : ∀ x y : Grp, okBar x = true → okBar y = true → barT x = barT y → x = y := fun x y hx hy e => by
  unfold okBar at hx hy
  simp only [Bool.and_eq_true, decide_eq_true_eq] at hx hy
  exact grpT_inj hx.1 hy.1 (by rw [barT_grp, barT_grp, e, hx.2, hy.2])
noncomputable def uB (s : ByteArray) : Option Grp := findO okBar barT s
theorem uB_iff {s : ByteArray} {g : Grp} : uB s = some g ↔ okBar g = true ∧ barT g = s := findO_iff barT_inj
theorem barT_pos (g : Grp) : 1 ≤ (barT g).size := by
  unfold barT
  simp only [ByteArray.size_append, bsz, List.length_cons, List.length_nil]; omega
theorem pG_bar (s : ByteArray) : pG s = match uB (lst s).1 with
    | some g => if 0 < pT (lst s).2 then some ⟨g.c, g.k, g.a, pT (lst s).2⟩ else none
    | none => none := by
  cases e : pG s with
  | some g =>
    have hg := pG_iff.1 e
    obtain ⟨hc, hk, h0, ha, ht⟩ := okG_c hg.1
    have hs : lst s = (barT g, wordOf tinL g.t) := by rw [← hg.2, barT_grp]; exact lst_at _ (nsp_tin _)
    have hu : uB (lst s).1 = some ⟨g.c, g.k, g.a, 1⟩ := by
      rw [hs]
      refine uB_iff.2 ⟨?_, rfl⟩
      unfold okBar
      rw [okG_t hg.1 (by omega)]; rfl
    rw [hu, hs]
    simp only [pT_w ht]
    rw [if_pos (by omega)]
  | none =>
    cases hu : uB (lst s).1 with
    | none => rfl
    | some g =>
      have hg := uB_iff.1 hu
      have ho : okG g = true := by have := hg.1; unfold okBar at this; simp only [Bool.and_eq_true] at this; exact this.1
      simp only
      by_cases hp : 0 < pT (lst s).2
      · exfalso
        have hin := pT_in (lst s).2
        rcases lst_spec s with ⟨h1, _⟩ | ⟨h1, _⟩
        · have hq : pG s = some ⟨g.c, g.k, g.a, pT (lst s).2⟩ := by
            refine pG_iff.2 ⟨okG_t ho (by omega), ?_⟩
            rw [barT_grp]
            show barT g ++ (spB ++ wordOf tinL (pT (lst s).2)) = s
            rw [pT_at hp, hg.2, ← h1]
          rw [e] at hq; cases hq
        · have := barT_pos g
          rw [hg.2, h1] at this
          have e0 : ByteArray.empty.size = 0 := rfl
          simp only [e0] at this
          omega
      · rw [if_neg hp]

end Go.Proofs.YtbnohmfapmeaaaaGreatDoor.AM

