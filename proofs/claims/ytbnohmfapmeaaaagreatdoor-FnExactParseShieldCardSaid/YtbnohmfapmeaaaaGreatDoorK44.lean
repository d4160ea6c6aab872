/- Lemmas and contracts (Rpl); conditions: none. -/
import Derived.Test.YtbnohmfapmeaaaaGreatDoorK03
import Derived.Test.YtbnohmfapmeaaaaGreatDoorK27
import Derived.Test.YtbnohmfapmeaaaaGreatDoorK34
import Derived.Test.YtbnohmfapmeaaaaGreatDoorK38
import Derived.Test.YtbnohmfapmeaaaaGreatDoorK43
set_option linter.unusedVariables false
set_option linter.unusedSimpArgs false
set_option maxRecDepth 100000
set_option maxHeartbeats 4000000
set_option cbv.maxSteps 3000000
namespace Go.Proofs.YtbnohmfapmeaaaaGreatDoor.AM
/- Texts of shields read by the reference: plain; conditions: none. -/
theorem num_sB {i : Nat} : sByte (numD i) 0 ≠ 45 := by
  obtain ⟨d, r, h1, h2⟩ := numD_head i
  unfold sByte
  rw [h2]
  intro q
  have : ∀ d : Nat, d < 10 → (UInt8.ofNat (48 + d)).toNat ≠ 45 := by decide
  have h3 : (((UInt8.ofNat (48 + d)).toNat : Nat) : Int) = 45 := q
  exact this d h1 (by omega)
theorem numD_posR (i : Nat) : 1 ≤ (numD i).size := by
  obtain ⟨d, r, h1, h2⟩ := numD_head i
  have : (numD i).size = (numD i).data.toList.length := rfl
  rw [this, h2, List.length_cons]; omega
theorem rd_num {i : Nat} (h : i < 1000000) : rdO (numD i) = true ∧ rdV (numD i) = i := by
  have hr : rdT (numD i) = numD i := if_neg fun q => num_sB q.2
  obtain ⟨r1, r2⟩ := rd_end (s := numD i) (n := i) (v := (i : Int)) (by rw [hr]; exact ⟨numD_posR i, numD_sz6 h⟩) (by rw [hr]; exact numD_dec i) (by rw [hr, if_neg (by omega)])
  have e : numI (i : Int) = numD i := by rw [numI_p (by omega), Int.toNat_natCast]
  exact ⟨by rw [r1, e]; simp, r2 e⟩
theorem rd_so {w : ByteArray} (h : rdO w = true) : numI (rdV w) = w := by
  have e : rdV w = rdM w := if_pos h
  unfold rdO at h
  simp only [Bool.and_eq_true, decide_eq_true_eq] at h
  rw [e]; exact h.2.2
/-- The numbers of a piece, as the reference reads them. -/
def rd1 (a : Arm) (n : Int) : List ByteArray → List Arm → List Arm × Bool
  | [], l => (l, true)
  | w :: ws, l => if rdO w = true ∧ 1 ≤ rdV w ∧ rdV w ≤ n then rd1 a n ws (l.set (rdV w - 1).toNat a) else (l, false)
/-- The pieces, as the reference reads them. -/
noncomputable def rdP (n : Int) : List ByteArray → List Arm → List Arm × Bool
  | [], l => (l, true)
  | t :: ts, l => if (cutB t colB).2.2 = true ∧ (pA (cutB t colB).2.1).isSome = true then (if (rd1 (r6 (cutB t colB).2.1) n (pcs nndB (cutB t colB).1) l).2 = true then rdP n ts (rd1 (r6 (cutB t colB).2.1) n (pcs nndB (cutB t colB).1) l).1 else ((rd1 (r6 (cutB t colB).2.1) n (pcs nndB (cutB t colB).1) l).1, false)) else (l, false)
theorem rd1_len (a : Arm) (n : Int) : ∀ ws l, (rd1 a n ws l).1.length = l.length
  | [], l => rfl
  | w :: ws, l => by
    unfold rd1
    split
    · rw [rd1_len a n ws, List.length_set]
    · rfl
theorem rdP_len (n : Int) : ∀ ts l, (rdP n ts l).1.length = l.length
  | [], l => rfl
  | t :: ts, l => by
    unfold rdP
    split
    · split
      · rw [rdP_len n ts, rd1_len]
      · exact rd1_len _ _ _ _
    · rfl
theorem rd1_ok {a : Arm} {n : Int} : ∀ ws l, (l.length : Int) = n → n ≤ 9 → (rd1 a n ws l).2 = true → (rd1 a n ws l).1 = ws.foldl (stp1 a) l
  | [], l, _, _, _ => rfl
  | w :: ws, l, hn, h9, h => by
    unfold rd1 at h ⊢
    split at h
    · rename_i q
      rw [if_pos q]
      have hw := rd_so q.1
      rw [numI_p (by omega)] at hw
      have e1 : atO w = true := by rw [← hw]; exact atO_num (by omega)
      have e2 : atV w = rdV w := by
        have : atV w = ((rdV w).toNat : Nat) := by
          have e3 := atV_num (i := (rdV w).toNat) (by omega)
          rwa [hw] at e3
        omega
      have e : stp1 a l w = l.set (rdV w - 1).toNat a := by
        unfold stp1
        rw [e1, e2, if_pos ⟨rfl, by omega, by omega⟩]
      rw [List.foldl_cons, e]
      exact rd1_ok ws _ (by rw [List.length_set]; exact hn) h9 h
    · cases h
theorem rdP_ok {n : Int} : ∀ ts l, (l.length : Int) = n → n ≤ 9 → (rdP n ts l).2 = true → (rdP n ts l).1 = ts.foldl stpP l
  | [], l, _, _, _ => rfl
  | t :: ts, l, hn, h9, h => by
    unfold rdP at h ⊢
    split at h
    · rename_i q
      rw [if_pos q]
      split at h
      · rename_i q2
        rw [if_pos q2, List.foldl_cons]
        obtain ⟨a, ha⟩ := Option.isSome_iff_exists.1 q.2
        have e : stpP l t = (rd1 (r6 (cutB t colB).2.1) n (pcs nndB (cutB t colB).1) l).1 := by
          rw [rd1_ok _ _ hn h9 q2, r6_some ha]
          unfold stpP
          rw [ha]; rfl
        rw [e]
        exact rdP_ok ts _ (by rw [rd1_len]; exact hn) h9 h
      · cases h
    · cases h
theorem rd1_nums {a : Arm} {n : Int} (h9 : n ≤ 9) : ∀ ws l, (∀ w ∈ ws, ∃ i : Nat, w = numD i ∧ 1 ≤ i ∧ (i : Int) ≤ n) → (rd1 a n ws l).2 = true
  | [], l, _ => rfl
  | w :: ws, l, h => by
    obtain ⟨i, rfl, h1, h2⟩ := h w List.mem_cons_self
    obtain ⟨r1, r2⟩ := rd_num (i := i) (by omega)
    unfold rd1
    rw [r1, r2, if_pos ⟨rfl, by omega, h2⟩]
    exact rd1_nums h9 ws _ fun x hx => h x (List.mem_cons_of_mem _ hx)
/-- A piece that the reference reads. -/
def pcR (n : Int) (t : ByteArray) : Prop := ((cutB t colB).2.2 = true ∧ (pA (cutB t colB).2.1).isSome = true) ∧ ∀ w ∈ pcs nndB (cutB t colB).1, ∃ i : Nat, w = numD i ∧ 1 ≤ i ∧ (i : Int) ≤ n
theorem rdP_all {n : Int} (h9 : n ≤ 9) : ∀ ts l, (∀ t ∈ ts, pcR n t) → (rdP n ts l).2 = true
  | [], l, _ => rfl
  | t :: ts, l, h => by
    obtain ⟨h1, h2⟩ := h t List.mem_cons_self
    unfold rdP
    rw [if_pos h1, if_pos (rd1_nums h9 _ _ h2)]
    exact rdP_all h9 ts _ fun x hx => h x (List.mem_cons_of_mem _ hx)
theorem pcR_one {n : Int} {i : Nat} {a : Arm} (ha : okA a = true) (h1 : 1 ≤ i) (h2 : (i : Int) ≤ n) : pcR n (numD i ++ (colB ++ armT a)) := by
  have hp : pA (armT a) = some a := pA_iff.2 ⟨ha, rfl⟩
  have hc : cutB (numD i ++ (colB ++ armT a)) colB = (numD i, armT a, true) := cutB_lacks (b := 58) (r := [32]) rfl (num_lacks (by decide) _)
  have hq : pcs nndB (numD i) = [numD i] := by
    have := pcs_jn (p := nndB) (b := 32) (r := [97, 110, 100, 32]) rfl (L := [numD i]) (by simp) fun w hw => by
      rw [List.mem_singleton] at hw
      rw [hw]; exact num_lacks (by decide) _
    rwa [jnB_one] at this
  unfold pcR
  rw [hc]
  dsimp only
  rw [hq, hp]
  refine ⟨⟨rfl, rfl⟩, fun w hw => ?_⟩
  rw [List.mem_singleton] at hw
  exact ⟨i, hw, h1, h2⟩
theorem nmS_in (l : List Arm) (x : Arm) : ∀ k, ∀ w ∈ nmS l x k, ∃ i, w = numD i ∧ 1 ≤ i ∧ i ≤ k
  | 0, w, h => by cases h
  | k + 1, w, h => by
    unfold nmS at h
    split at h
    · rcases List.mem_append.1 h with h | h
      · obtain ⟨i, h1, h2, h3⟩ := nmS_in l x k w h
        exact ⟨i, h1, h2, by omega⟩
      · exact ⟨k + 1, by rw [List.mem_singleton] at h; exact h, by omega, by omega⟩
    · obtain ⟨i, h1, h2, h3⟩ := nmS_in l x k w h
      exact ⟨i, h1, h2, by omega⟩
theorem pcR_shP {l : List Arm} {i : Nat} (hi : i < l.length) (ho : okA (l.getD i default) = true) : pcR (l.length : Nat) (shP l (i : Int)) := by
  have hp : pA (armT (l.getD i default)) = some (l.getD i default) := pA_iff.2 ⟨ho, rfl⟩
  unfold pcR
  rw [shP_cut hi]
  dsimp only
  rw [nm_pcs hi, hp]
  refine ⟨⟨rfl, rfl⟩, fun w hw => ?_⟩
  obtain ⟨j, h1, h2, h3⟩ := nmS_in l _ _ w hw
  exact ⟨j, h1, h2, by omega⟩
/-- What the reference reads, and whether all of it is well formed. -/
noncomputable def cR (t : ByteArray) : Shd × Bool := if isPre t impB = true then (⟨2, (rdP 2 (pcs semB (afterP t impB)) (List.replicate 2 zA)).1⟩, (rdP 2 (pcs semB (afterP t impB)) (List.replicate 2 zA)).2) else if isPre t qutB = true then (⟨3, (rdP 4 (pcs semB (afterP t qutB)) (List.replicate 4 zA)).1⟩, (rdP 4 (pcs semB (afterP t qutB)) (List.replicate 4 zA)).2) else (⟨1, [r6 t]⟩, (pA t).isSome)
theorem cR_ok {t : ByteArray} (h : (cR t).2 = true) : (cR t).1 = cndH t := by
  unfold cR cndH at *
  by_cases h1 : isPre t impB = true
  · rw [if_pos h1] at h ⊢
    rw [if_pos h1]
    dsimp only at h ⊢
    rw [rdP_ok (n := 2) _ (List.replicate 2 zA) rfl (by decide) h]
  · rw [if_neg h1] at h ⊢
    rw [if_neg h1]
    by_cases h2 : isPre t qutB = true
    · rw [if_pos h2] at h ⊢
      rw [if_pos h2]
      dsimp only at h ⊢
      rw [rdP_ok (n := 4) _ (List.replicate 4 zA) rfl (by decide) h]
    · rw [if_neg h2] at h ⊢
      rw [if_neg h2]
      obtain ⟨a, ha⟩ := Option.isSome_iff_exists.1 h
      dsimp only
      rw [r6_some ha, ha]; rfl
theorem cR_sh {s : Shd} (h : okH s = true) : (cR (shT s)).2 = true := by
  obtain ⟨g1, g2, g3⟩ := okH_inQ h
  obtain ⟨m, l⟩ := s
  dsimp only at g1 g2 g3
  have hm : m = 1 ∨ m = 2 ∨ m = 3 := by omega
  rcases hm with rfl | rfl | rfl
  · have g2 : (l.length : Int) = 1 := g2
    obtain ⟨a, rfl⟩ := List.length_eq_one_iff.1 (show l.length = 1 by omega)
    have e : shT ⟨1, [a]⟩ = armT a := if_pos rfl
    have hl := armT_lacks (b := 58) (by decide) a
    have hp : pA (armT a) = some a := pA_iff.2 ⟨g3 a List.mem_cons_self, rfl⟩
    rw [e]
    unfold cR
    rw [isPre_lacks hl (by decide), if_neg (by simp), isPre_lacks hl (by decide), if_neg (by simp), hp]; rfl
  · have g2 : (l.length : Int) = 2 := g2
    obtain ⟨a, b, rfl⟩ := len_two (show l.length = 2 by omega)
    have e : shT ⟨2, [a, b]⟩ = impB ++ jnB [numD 1 ++ (colB ++ armT a), numD 2 ++ (colB ++ armT b)] semB := by
      rw [jnB_cons, jnB_one]
      have e0 : shT ⟨2, [a, b]⟩ = (⟨⟨[105, 109, 112, 97, 108, 101, 100, 58, 32, 49, 58, 32]⟩⟩ : ByteArray) ++ (armT a ++ ((⟨⟨[59, 32, 50, 58, 32]⟩⟩ : ByteArray) ++ armT b)) := (if_neg (show ¬ (2 : Int) = 1 by decide)).trans (if_pos rfl)
      rw [e0]
      have e1 : (⟨⟨[105, 109, 112, 97, 108, 101, 100, 58, 32, 49, 58, 32]⟩⟩ : ByteArray) = impB ++ (numD 1 ++ colB) := by rw [numD_one (by omega)]; decide
      have e2 : (⟨⟨[59, 32, 50, 58, 32]⟩⟩ : ByteArray) = semB ++ (numD 2 ++ colB) := by rw [numD_one (by omega)]; decide
      rw [e1, e2]
      simp only [ByteArray.append_assoc]
    have hq : pcs semB (jnB [numD 1 ++ (colB ++ armT a), numD 2 ++ (colB ++ armT b)] semB) = [numD 1 ++ (colB ++ armT a), numD 2 ++ (colB ++ armT b)] := pcs_jn (b := 59) (r := [32]) rfl (by simp) fun w hw => by
      simp only [List.mem_cons, List.not_mem_nil, or_false] at hw
      rcases hw with rfl | rfl <;> exact lacks_app (num_lacks (by decide) _) (lacks_app (by decide) (armT_lacks (by decide) _))
    rw [e]
    unfold cR
    rw [isPre_app, if_pos rfl, afterP_app, hq]
    refine rdP_all (by decide) _ _ fun t ht => ?_
    simp only [List.mem_cons, List.not_mem_nil, or_false] at ht
    rcases ht with rfl | rfl
    · exact pcR_one (g3 a (by simp)) (by omega) (by omega)
    · exact pcR_one (g3 b (by simp)) (by omega) (by omega)
  · have g2 : (l.length : Int) = 4 := g2
    have g4 : l.length = 4 := by omega
    have e : shT ⟨3, l⟩ = qutB ++ jnB ((fs1 l l.length).map (shP l)) semB := (if_neg (show ¬ (3 : Int) = 1 by decide)).trans (if_neg (show ¬ (3 : Int) = 2 by decide))
    have hq : pcs semB (jnB ((fs1 l l.length).map (shP l)) semB) = (fs1 l l.length).map (shP l) := pcs_jn (b := 59) (r := [32]) rfl (by
      intro q
      exact fs1_ne l.length (by omega) (List.map_eq_nil_iff.1 q)) fun w hw => by
      obtain ⟨i, _, rfl⟩ := List.mem_map.1 hw
      exact shP_lacks l i
    rw [e]
    unfold cR
    rw [qut_imp, if_neg (by simp), isPre_app, if_pos rfl, afterP_app, hq]
    refine rdP_all (by decide) _ _ fun t ht => ?_
    obtain ⟨i, hi, rfl⟩ := List.mem_map.1 ht
    obtain ⟨h1, h2⟩ := fs1_mem l _ i hi
    obtain ⟨k, rfl⟩ : ∃ k : Nat, i = k := ⟨i.toNat, by omega⟩
    have hk : k < l.length := by omega
    have := pcR_shP (l := l) hk (g3 _ (by rw [List.getD_eq_getElem?_getD, List.getElem?_eq_getElem hk, Option.getD_some]; exact List.getElem_mem _))
    rwa [g4] at this
theorem shP_szR {l : List Arm} {i : Int} (hl : l.length ≤ 4) (ho : okA (l.getD i.toNat default) = true) : (shP l i).size ≤ 270 := by
  obtain ⟨h1, h2⟩ := nmS_mem l (l.getD i.toNat default) l.length (by omega)
  have h3 := jnB_le nndB (nmS l (l.getD i.toNat default) l.length) 2 h2
  have h4 := arm_sz ho
  have h5 : (nmS l (l.getD i.toNat default) l.length).length * (2 + nndB.size) ≤ 4 * 7 := Nat.mul_le_mul (by omega) (by decide)
  have h6 : colB.size = 2 := rfl
  show (jnB (nmS l (l.getD i.toNat default) l.length) nndB ++ (colB ++ armT (l.getD i.toNat default))).size ≤ 270
  rw [ByteArray.size_append, ByteArray.size_append]
  omega
theorem shT_1200 {s : Shd} (h : okH s = true) : (shT s).size ≤ 1200 := by
  obtain ⟨g1, g2, g3⟩ := okH_inQ h
  obtain ⟨m, l⟩ := s
  dsimp only at g1 g2 g3
  have hm : m = 1 ∨ m = 2 ∨ m = 3 := by omega
  have hg : ∀ i, i < l.length → okA (l.getD i default) = true := fun i hi => g3 _ (by rw [List.getD_eq_getElem?_getD, List.getElem?_eq_getElem hi, Option.getD_some]; exact List.getElem_mem _)
  rcases hm with rfl | rfl | rfl
  · have g2 : (l.length : Int) = 1 := g2
    have := arm_sz (hg 0 (by omega))
    rw [show shT ⟨1, l⟩ = armT (l.getD 0 default) from if_pos rfl]
    omega
  · have g2 : (l.length : Int) = 2 := g2
    have a0 := arm_sz (hg 0 (by omega))
    have a1 := arm_sz (hg 1 (by omega))
    rw [show shT ⟨2, l⟩ = (⟨⟨[105, 109, 112, 97, 108, 101, 100, 58, 32, 49, 58, 32]⟩⟩ : ByteArray) ++ (armT (l.getD 0 default) ++ ((⟨⟨[59, 32, 50, 58, 32]⟩⟩ : ByteArray) ++ armT (l.getD 1 default))) from (if_neg (show ¬ (2 : Int) = 1 by decide)).trans (if_pos rfl)]
    simp only [ByteArray.size_append, bsz, List.length_cons, List.length_nil]
    omega
  · have g2 : (l.length : Int) = 4 := g2
    have e : shT ⟨3, l⟩ = qutB ++ jnB ((fs1 l l.length).map (shP l)) semB := (if_neg (show ¬ (3 : Int) = 1 by decide)).trans (if_neg (show ¬ (3 : Int) = 2 by decide))
    have h3 := jnB_le semB ((fs1 l l.length).map (shP l)) 270 fun x hx => by
      obtain ⟨i, hi, rfl⟩ := List.mem_map.1 hx
      obtain ⟨h1, h2⟩ := fs1_mem l _ i hi
      exact shP_szR (by omega) (hg _ (by omega))
    have hF := fs1_len l l.length
    rw [List.length_map] at h3
    have h5 : (fs1 l l.length).length * (270 + semB.size) ≤ 4 * 272 := Nat.mul_le_mul (by omega) (by decide)
    have h6 : qutB.size = 11 := rfl
    rw [e, ByteArray.size_append]
    omega
/-- The reference reads what the program reads. -/
theorem pS_ref {t : ByteArray} (h : t.size ≤ 1200 ∧ (cR t).2 = true ∧ okH (cR t).1 = true ∧ shT (cR t).1 = t) : pS t = some (cR t).1 := pS_iff.2 h.2.2
theorem pS_ref_no {t : ByteArray} (h : ¬ (t.size ≤ 1200 ∧ (cR t).2 = true ∧ okH (cR t).1 = true ∧ shT (cR t).1 = t)) : pS t = none := by
  cases e : pS t with
  | none => rfl
  | some s =>
    exfalso
    obtain ⟨h1, rfl⟩ := pS_iff.1 e
    have h2 := cR_sh h1
    have h3 := (cR_ok h2).trans (cndH_shT h1)
    exact h ⟨shT_1200 h1, h2, by rw [h3]; exact h1, by rw [h3]⟩

end Go.Proofs.YtbnohmfapmeaaaaGreatDoor.AM

