/- Lemmas and contracts (Rgq); conditions: none. -/
import Derived.Test.YtbnohmfapmeaaaaGreatDoorK03
import Derived.Test.YtbnohmfapmeaaaaGreatDoorK33
import Derived.Test.YtbnohmfapmeaaaaGreatDoorK39
import Derived.Test.YtbnohmfapmeaaaaGreatDoorK44
set_option linter.unusedVariables false
set_option linter.unusedSimpArgs false
set_option maxRecDepth 100000
set_option maxHeartbeats 4000000
set_option cbv.maxSteps 3000000
namespace Go.Proofs.YtbnohmfapmeaaaaGreatDoor.AM
/- Registers read back from their texts: plain; conditions: none. -/
def nlB : ByteArray := (⟨⟨[10]⟩⟩ : ByteArray)
def lnX (g : Grt) : ByteArray := numD g.num.toNat ++ (spB ++ (g.name ++ (spB ++ (numD g.year.toNat ++ (spB ++ armT g.arms)))))
theorem lnW_X (g : Grt) : lnW g = lnX g ++ nlB := by
  unfold lnW lnX
  simp only [ByteArray.append_assoc]
  rfl
theorem jnB_cons2 {x : ByteArray} {L : List ByteArray} (p : ByteArray) (h : L ≠ []) : jnB (x :: L) p = x ++ (p ++ jnB L p) := by
  cases L with
  | nil => exact absurd rfl h
  | cons y L => exact jnB_cons x y L p
theorem jn_end (p x : ByteArray) : ∀ L : List ByteArray, jnB (L ++ [x, ByteArray.empty]) p = jnB (L ++ [ByteArray.empty]) p ++ (x ++ p)
  | [] => by
    rw [List.nil_append, List.nil_append, jnB_cons, jnB_one, ByteArray.append_empty, ByteArray.empty_append]
  | y :: L => by
    rw [List.cons_append, List.cons_append, jnB_cons2 p (by simp), jnB_cons2 p (by simp), jn_end p x L]
    simp only [ByteArray.append_assoc]
theorem rgT_jn (l : List Grt) : ∀ i, i ≤ l.length → rgT l i = jnB ((l.take i).map lnX ++ [ByteArray.empty]) nlB
  | 0, _ => by
    rw [List.take_zero, List.map_nil, List.nil_append, jnB_one]; rfl
  | i + 1, hi => by
    have h : i < l.length := by omega
    rw [show rgT l (i + 1) = rgT l i ++ lnW (l.getD i default) from rfl, rgT_jn l i (by omega), List.take_succ_eq_append_getElem h, List.map_append, List.map_cons, List.map_nil, List.append_assoc, List.singleton_append, jn_end, lnW_X, List.getD_eq_getElem?_getD, List.getElem?_eq_getElem h, Option.getD_some]
theorem nm_lacks {s : ByteArray} {b : UInt8} (h : okNm s = true) (hb : b.toNat < 65) : lacks s b = true := by
  unfold lacks
  rw [List.all_eq_true]
  intro c hc
  obtain ⟨i, hi, e⟩ := List.getElem_of_mem hc
  have hi' : i < s.size := hi
  obtain ⟨d, h1, h2⟩ := sByte_at hi'
  rw [List.getElem?_eq_getElem hi, e] at h1
  injection h1 with h1
  subst h1
  have h3 := (okNm_in h).2 i hi'
  have h4 : 65 ≤ sByte s i := by
    unfold nmX at h3
    split at h3
    · rename_i q
      subst q
      exact (of_decide_eq_true h3).1
    · have := (of_decide_eq_true h3).1
      omega
  rw [h2] at h4
  rw [bne_iff_ne]
  intro q
  subst q
  omega
theorem lnX_lacks {g : Grt} (h : okN g = true) : lacks (lnX g) 10 = true := by
  obtain ⟨h1, h2, h3, h4⟩ := okN_in h
  exact lacks_app (num_lacks (by decide) _) (lacks_app (by decide) (lacks_app (nm_lacks h2 (by decide)) (lacks_app (by decide) (lacks_app (num_lacks (by decide) _) (lacks_app (by decide) (armT_lacks (by decide) _))))))
theorem okRg_mem {l : List Grt} (h : okRg l = true) {g : Grt} (hg : g ∈ l) : okN g = true := by
  obtain ⟨i, hi, e⟩ := List.getElem_of_mem hg
  have := okRg_N h hi
  rwa [List.getD_eq_getElem?_getD, List.getElem?_eq_getElem hi, Option.getD_some, e] at this
theorem pcs_rg {l : List Grt} (h : okRg l = true) : pcs nlB (rgT l l.length) = l.map lnX ++ [ByteArray.empty] := by
  rw [rgT_jn l l.length (Nat.le_refl _), List.take_length]
  refine pcs_jn (b := 10) (r := []) rfl (by simp) fun x hx => ?_
  rcases List.mem_append.1 hx with hx | hx
  · obtain ⟨g, hg, rfl⟩ := List.mem_map.1 hx
    exact lnX_lacks (okRg_mem h hg)
  · rw [List.mem_singleton] at hx
    rw [hx]; rfl
noncomputable def rdW (w : List ByteArray) : Grt := ⟨atV (w.getD 0 ByteArray.empty), w.getD 1 ByteArray.empty, atV (w.getD 2 ByteArray.empty), (pA (w.getD 3 ByteArray.empty)).getD zA⟩
noncomputable def rdG (x : ByteArray) : Grt := rdW (pcsN spB 3 x)
theorem pcs_lnX {g : Grt} (h : okN g = true) : pcsN spB 3 (lnX g) = [numD g.num.toNat, g.name, numD g.year.toNat, armT g.arms] := by
  obtain ⟨h1, h2, h3, h4⟩ := okN_in h
  have hn : ∀ i, lacks (numD i) 32 = true := fun i => num_lacks (by decide) i
  unfold lnX
  rw [pcsN_s, cutB_lacks (b := 32) (r := []) rfl (hn _), if_pos rfl, pcsN_s, cutB_lacks (b := 32) (r := []) rfl (nm_lacks h2 (by decide)), if_pos rfl, pcsN_s, cutB_lacks (b := 32) (r := []) rfl (hn _), if_pos rfl]
  rfl
theorem rdG_lnX {g : Grt} (h : okN g = true) : rdG (lnX g) = g := by
  obtain ⟨h1, h2, h3, h4⟩ := okN_in h
  have hp : pA (armT g.arms) = some g.arms := pA_iff.2 ⟨h4, rfl⟩
  unfold rdG rdW
  rw [pcs_lnX h]
  show (⟨atV (numD g.num.toNat), g.name, atV (numD g.year.toNat), (pA (armT g.arms)).getD zA⟩ : Grt) = g
  rw [atV_num (by omega), atV_num (by omega), hp, Option.getD_some, Int.toNat_of_nonneg (by omega), Int.toNat_of_nonneg (by omega)]
def ln1 (x : ByteArray) : ByteArray × ByteArray × Bool := cutB x spB
def ln2 (x : ByteArray) : ByteArray × ByteArray × Bool := cutB (ln1 x).2.1 spB
def ln3 (x : ByteArray) : ByteArray × ByteArray × Bool := cutB (ln2 x).2.1 spB
noncomputable def okLn (x : ByteArray) : Bool := (ln1 x).2.2 && ((ln2 x).2.2 && ((ln3 x).2.2 && (rdO (ln1 x).1 && (rdO (ln3 x).1 && (pA (ln3 x).2.1).isSome))))
noncomputable def rdS (x : ByteArray) : Grt := ⟨rdV (ln1 x).1, (ln2 x).1, rdV (ln3 x).1, r6 (ln3 x).2.1⟩
theorem ln_lnX {g : Grt} (h : okN g = true) : ln1 (lnX g) = (numD g.num.toNat, g.name ++ (spB ++ (numD g.year.toNat ++ (spB ++ armT g.arms))), true) ∧ ln2 (lnX g) = (g.name, numD g.year.toNat ++ (spB ++ armT g.arms), true) ∧ ln3 (lnX g) = (numD g.year.toNat, armT g.arms, true) := by
  obtain ⟨h1, h2, h3, h4⟩ := okN_in h
  have hn : ∀ i, lacks (numD i) 32 = true := fun i => num_lacks (by decide) i
  have e1 : ln1 (lnX g) = (numD g.num.toNat, g.name ++ (spB ++ (numD g.year.toNat ++ (spB ++ armT g.arms))), true) := cutB_lacks (b := 32) (r := []) rfl (hn _)
  have e2 : ln2 (lnX g) = (g.name, numD g.year.toNat ++ (spB ++ armT g.arms), true) := by
    unfold ln2
    rw [e1]
    exact cutB_lacks (b := 32) (r := []) rfl (nm_lacks h2 (by decide))
  refine ⟨e1, e2, ?_⟩
  unfold ln3
  rw [e2]
  exact cutB_lacks (b := 32) (r := []) rfl (hn _)
theorem okLn_lnX {g : Grt} (h : okN g = true) : okLn (lnX g) = true ∧ rdS (lnX g) = g := by
  obtain ⟨h1, h2, h3, h4⟩ := okN_in h
  obtain ⟨e1, e2, e3⟩ := ln_lnX h
  obtain ⟨n1, n2⟩ := rd_num (i := g.num.toNat) (by omega)
  obtain ⟨y1, y2⟩ := rd_num (i := g.year.toNat) (by omega)
  have hp : pA (armT g.arms) = some g.arms := pA_iff.2 ⟨h4, rfl⟩
  unfold okLn rdS
  rw [e1, e2, e3]
  dsimp only
  rw [n1, n2, y1, y2, r6_some hp, hp, Int.toNat_of_nonneg (by omega), Int.toNat_of_nonneg (by omega)]
  exact ⟨rfl, rfl⟩
noncomputable def rdL (t : ByteArray) : List Grt := ((pcs nlB t).dropLast).map rdG
noncomputable def pR (t : ByteArray) : Option Rgr := if okRg (rdL t) = true ∧ rgT (rdL t) (rdL t).length = t then some ⟨rdL t⟩ else none
theorem map_self {α : Type} {f : α → α} : ∀ {l : List α}, (∀ x ∈ l, f x = x) → l.map f = l
  | [], _ => rfl
  | a :: l, h => by rw [List.map_cons, h a List.mem_cons_self, map_self fun x hx => h x (List.mem_cons_of_mem _ hx)]
theorem rdL_rgT {l : List Grt} (h : okRg l = true) : rdL (rgT l l.length) = l := by
  unfold rdL
  rw [pcs_rg h, List.dropLast_concat, List.map_map]
  exact map_self fun g hg => rdG_lnX (okRg_mem h hg)
theorem pR_iff {t : ByteArray} {r : Rgr} : pR t = some r ↔ okRg r.gs = true ∧ rgT r.gs r.gs.length = t := by
  unfold pR
  constructor
  · intro h
    split at h
    · rename_i q
      injection h with h
      rw [← h]; exact q
    · cases h
  · rintro ⟨h1, rfl⟩
    rw [rdL_rgT h1, if_pos ⟨h1, rfl⟩]
theorem pR_some {t : ByteArray} {r : Rgr} (h : pR t = some r) : pcs nlB t = r.gs.map lnX ++ [ByteArray.empty] ∧ ∀ g ∈ r.gs, okN g = true := by
  obtain ⟨h1, rfl⟩ := pR_iff.1 h
  exact ⟨pcs_rg h1, fun g hg => okRg_mem h1 hg⟩
theorem lnW_sz2 {g : Grt} (h : okN g = true) : (lnW g).size ≤ 263 := by
  obtain ⟨h1, h2, h3, h4⟩ := okN_in h
  have h5 := (okNm_in h2).1
  have h6 := numD_sz3 (i := g.num.toNat) (by omega)
  have h7 := numD_sz4 (i := g.year.toNat) (by omega)
  have h8 := arm_sz h4
  unfold lnW
  simp only [ByteArray.size_append, bsz, List.length_cons, List.length_nil]
  omega
theorem rgT_sz2 {l : List Grt} (h : okRg l = true) : ∀ i, i ≤ l.length → (rgT l i).size ≤ 263 * i
  | 0, _ => Nat.le_refl 0
  | i + 1, hi => by
    have h1 := rgT_sz2 h i (by omega)
    have h2 := lnW_sz2 (okRg_N h (show i < l.length by omega))
    unfold rgT
    rw [ByteArray.size_append]
    omega
theorem pR_sz {t : ByteArray} (h : 3156 < t.size) : pR t = none := by
  cases e : pR t with
  | none => rfl
  | some r =>
    obtain ⟨h1, rfl⟩ := pR_iff.1 e
    have := rgT_sz2 h1 _ (Nat.le_refl _)
    have := (okRg_in h1).1
    omega
theorem pR_no {t : ByteArray} (h : ∀ r, pR t = some r → False) : pR t = none := by
  cases e : pR t with
  | none => rfl
  | some r => exact (h r e).elim
theorem pR_line {t : ByteArray} {i : Nat} (hi : i < (pcs nlB t).length - 1) : ∀ r, pR t = some r → okLn ((pcs nlB t).getD i ByteArray.empty) = true ∧ (pcsN spB 3 ((pcs nlB t).getD i ByteArray.empty)).length = 4 := fun r e => by
  obtain ⟨h1, h2⟩ := pR_some e
  rw [h1, List.length_append, List.length_map, List.length_singleton] at hi
  have hi : i < r.gs.length := by omega
  have e1 : (pcs nlB t).getD i ByteArray.empty = lnX r.gs[i] := by
    rw [h1, List.getD_eq_getElem?_getD, List.getElem?_append_left (by rw [List.length_map]; exact hi), List.getElem?_map, List.getElem?_eq_getElem hi]; rfl
  have h3 := h2 _ (List.getElem_mem hi)
  rw [e1, pcs_lnX h3]
  exact ⟨(okLn_lnX h3).1, rfl⟩
theorem pR_words_n {t : ByteArray} {i : Nat} (hi : i < (pcs nlB t).length - 1) (h : ¬ (pcsN spB 3 ((pcs nlB t).getD i ByteArray.empty)).length = 4) : pR t = none := pR_no fun r e => h (pR_line hi r e).2
theorem pR_prg_y {t : ByteArray} (h : okRg (rdL t) = true ∧ rgT (rdL t) (rdL t).length = t) : pR t = some ⟨rdL t⟩ := if_pos h
theorem pR_prg_n {t : ByteArray} (h : ¬ (okRg (rdL t) = true ∧ rgT (rdL t) (rdL t).length = t)) : pR t = none := if_neg h
theorem take_dl {α : Type} (l : List α) : l.take (l.length - 1) = l.dropLast := (List.dropLast_eq_take (l := l)).symm

end Go.Proofs.YtbnohmfapmeaaaaGreatDoor.AM

