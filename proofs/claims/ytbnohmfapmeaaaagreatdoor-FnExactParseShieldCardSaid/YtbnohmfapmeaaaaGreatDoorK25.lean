/- Lemmas and contracts (Shx); conditions: none. -/
import Derived.Test.YtbnohmfapmeaaaaGreatDoorK03
import Derived.Test.YtbnohmfapmeaaaaGreatDoorK24
set_option linter.unusedVariables false
set_option linter.unusedSimpArgs false
set_option maxRecDepth 100000
set_option maxHeartbeats 4000000
set_option cbv.maxSteps 3000000
namespace Go.Proofs.YtbnohmfapmeaaaaGreatDoor.AM
/- Texts of shields: the reference's; conditions: none. -/
theorem okH_in {s : Shd} (h : okH s = true) : (1 ≤ s.mode ∧ s.mode ≤ 3) ∧ (s.parts.length : Int) = cntH s.mode ∧ ∀ y ∈ s.parts, okA y = true := by
  unfold okH inB at h
  simp only [Bool.and_eq_true, decide_eq_true_eq, Bool.not_eq_true'] at h
  refine ⟨h.1, h.2.1, fun y hy => ?_⟩
  have := List.any_eq_false.1 h.2.2 y hy
  simpa using this
theorem fs1_mem (l : List Arm) : ∀ n, ∀ x ∈ fs1 l n, 0 ≤ x ∧ x < (n : Int)
  | 0, x, h => by cases h
  | n + 1, x, h => by
    have ih := fs1_mem l n x
    unfold fs1 at h
    split at h
    · have := ih h; omega
    · rcases List.mem_append.1 h with h | h
      · have := ih h; omega
      · rw [List.mem_singleton] at h; omega
/-- The text of the pieces of a quarterly shield so far. -/
def shK (l : List Arm) (F : List Int) (i : Nat) : ByteArray := (⟨⟨[113, 117, 97, 114, 116, 101, 114, 108, 121, 58, 32]⟩⟩ : ByteArray) ++ jnB ((F.take i).map (shP l)) (⟨⟨[59, 32]⟩⟩ : ByteArray)
theorem shK_0 (l : List Arm) (F : List Int) : shK l F 0 = (⟨⟨[113, 117, 97, 114, 116, 101, 114, 108, 121, 58, 32]⟩⟩ : ByteArray) := by
  unfold shK
  rw [List.take_zero]; rfl
theorem getD_mapI {l : List Arm} {F : List Int} {i : Nat} (h : i < F.length) : (F.map (shP l)).take (i + 1) = (F.map (shP l)).take i ++ [shP l (F.getD i 0)] := by
  rw [List.take_succ_eq_append_getElem (by rw [List.length_map]; exact h), List.getElem_map, List.getD_eq_getElem?_getD, List.getElem?_eq_getElem h, Option.getD_some]
theorem shK_1 {l : List Arm} {F : List Int} (h : 0 < F.length) : shK l F 1 = (⟨⟨[113, 117, 97, 114, 116, 101, 114, 108, 121, 58, 32]⟩⟩ : ByteArray) ++ shP l (F.getD 0 0) := by
  unfold shK
  rw [List.map_take, getD_mapI h, List.take_zero, List.nil_append, jnB_one]
theorem shK_s {l : List Arm} {F : List Int} {i : Nat} (h0 : 0 < i) (h : i < F.length) : shK l F (i + 1) = shK l F i ++ ((⟨⟨[59, 32]⟩⟩ : ByteArray) ++ shP l (F.getD i 0)) := by
  unfold shK
  rw [List.map_take, List.map_take, getD_mapI h, jnB_snoc _ _ (by
    intro q
    have := congrArg List.length q
    rw [List.length_take, List.length_map, List.length_nil] at this
    omega), ByteArray.append_assoc]
/-- The numbers of a piece so far. -/
def nmK (l : List Arm) (x : Arm) (k : Nat) : ByteArray := jnB (nmS l x k) (⟨⟨[32, 97, 110, 100, 32]⟩⟩ : ByteArray)
theorem nmK_sz (l : List Arm) (x : Arm) : ∀ k, k ≤ 90 → (nmK l x k).size ≤ 7 * k
  | 0, _ => Nat.le_refl 0
  | k + 1, h => by
    have ih := nmK_sz l x k (by omega)
    have h1 := numD_sz (i := k + 1) (by omega)
    unfold nmK at *
    unfold nmS
    split
    · cases e : nmS l x k with
      | nil => rw [List.nil_append, jnB_one]; omega
      | cons a b =>
        rw [jnB_snoc _ _ (by simp), ← e]
        simp only [ByteArray.size_append, bsz, List.length_cons, List.length_nil]
        omega
    · omega
theorem numD_pos (i : Nat) : 0 < (numD i).size := by
  by_cases h1 : i < 10
  · rw [numD_one h1]; exact Nat.zero_lt_one
  · rw [numD_step h1, ByteArray.size_append]; exact Nat.lt_of_lt_of_le Nat.zero_lt_one (Nat.le_add_left _ _)
theorem nmK_pos (l : List Arm) (x : Arm) : ∀ k, nmS l x k ≠ [] → 0 < (nmK l x k).size
  | 0, h => absurd rfl h
  | k + 1, h => by
    have ih := nmK_pos l x k
    have h1 := numD_pos (k + 1)
    unfold nmK at *
    unfold nmS at h ⊢
    split
    · cases e : nmS l x k with
      | nil => rw [List.nil_append, jnB_one]; omega
      | cons a b =>
        rw [jnB_snoc _ _ (by simp), ← e]
        simp only [ByteArray.size_append]
        omega
    · rename_i q
      rw [if_neg q] at h
      exact ih h
theorem nmK_e {l : List Arm} {x : Arm} {k : Nat} (h : nmK l x k = ByteArray.empty) : nmS l x k = [] := by
  cases e : nmS l x k with
  | nil => rfl
  | cons a b =>
    have := nmK_pos l x k (by rw [e]; simp)
    rw [h] at this
    exact absurd this (Nat.lt_irrefl 0)
theorem nmK_y0 {l : List Arm} {x : Arm} {k : Nat} (h : l.getD k default = x) (h2 : nmK l x k = ByteArray.empty) : nmK l x (k + 1) = numD (k + 1) := by
  have := nmK_e h2
  unfold nmK nmS
  rw [if_pos h, this, List.nil_append, jnB_one]
theorem nmK_y {l : List Arm} {x : Arm} {k : Nat} (h : l.getD k default = x) (h2 : nmK l x k ≠ ByteArray.empty) : nmK l x (k + 1) = nmK l x k ++ ((⟨⟨[32, 97, 110, 100, 32]⟩⟩ : ByteArray) ++ numD (k + 1)) := by
  have h3 : nmS l x k ≠ [] := fun q => h2 (by unfold nmK; rw [q]; rfl)
  unfold nmK
  rw [show nmS l x (k + 1) = nmS l x k ++ [numD (k + 1)] from if_pos h, jnB_snoc _ _ h3]
theorem nmK_n {l : List Arm} {x : Arm} {k : Nat} (h : ¬ l.getD k default = x) : nmK l x (k + 1) = nmK l x k := by
  unfold nmK
  conv => lhs; unfold nmS
  rw [if_neg h]
theorem shP_eq (l : List Arm) (i : Int) : shP l i = nmK l (l.getD i.toNat default) l.length ++ ((⟨⟨[58, 32]⟩⟩ : ByteArray) ++ armT (l.getD i.toNat default)) := rfl
theorem shP_sz {l : List Arm} (h : l.length ≤ 90) (i : Int) : (shP l i).size ≤ 7 * l.length + 5002 := by
  have h1 := nmK_sz l (l.getD i.toNat default) l.length h
  have h2 := armT_sz (l.getD i.toNat default)
  rw [shP_eq]
  simp only [ByteArray.size_append, bsz, List.length_cons, List.length_nil]
  omega
theorem shK_sz {l : List Arm} {F : List Int} (h : l.length ≤ 90) : ∀ i, (shK l F i).size ≤ 11 + 6000 * i
  | 0 => by rw [shK_0]; exact Nat.le_refl _
  | i + 1 => by
    have ih := shK_sz (l := l) (F := F) h i
    rcases Nat.lt_or_ge i F.length with hi | hi
    · have h2 := shP_sz h (F.getD i 0)
      rcases Nat.eq_zero_or_pos i with rfl | h0
      · rw [shK_1 hi]
        simp only [ByteArray.size_append, bsz, List.length_cons, List.length_nil]
        omega
      · rw [shK_s h0 hi]
        simp only [ByteArray.size_append, bsz, List.length_cons, List.length_nil]
        omega
    · have : shK l F (i + 1) = shK l F i := by
        unfold shK
        rw [List.take_of_length_le (by omega), List.take_of_length_le hi]
      rw [this]; omega
theorem emp_app (a : ByteArray) : (⟨⟨[]⟩⟩ : ByteArray) ++ a = a := (show ByteArray.empty ++ a = a by simp)
theorem shK_z {l : List Arm} {F : List Int} {i : Nat} (h0 : i = 0) (h : i < F.length) : shK l F (i + 1) = shK l F i ++ shP l (F.getD i 0) := by
  subst h0
  rw [shK_1 h, shK_0]
theorem c_l20Text (s : Shd) (h0 : okH s = true) : ConN Tryz.prog 58 [aT rowH stdH fun _ => s] [] 0 (.lit (.string (stdH ByteArray fun _ => shT s))) [] [] := by
  have hB : Base Tryz.prog (tabΓ [e_differentS, e_l6Text, e_l1NumA]) tab := base_of tabOk (ents_cons eok_differentS <| ents_cons eok_l6Text <| ents_cons eok_l1NumA <| ents_nil)
  refine con_m (N := 90) hB (draw_ok hB mixed) Tryz.func58 rfl rfl (fun H => [aT rowH H fun _ => s]) (fun _ => []) 0 (fun H => .lit (.string (H ByteArray fun _ => shT s))) (fun H => []) (fun _ => []) 300 (by simp) (fun x hx => ?_) (by simp [lk]) (by omega) (by simp) ?_
  · simp only [List.mem_cons, List.not_mem_nil, or_false] at hx
    rcases hx with rfl
    · exact aT_bl okRH _ _
  intro X hX hX0 H hH
  conv in Fin.chk _ _ => cbv
  try simp only [Plain_rowsA, Plain_rowsB, Plain_rowsC, Plain_rowsF, Plain_rowsG, Plain_rowsI, Plain_rowsS, Plain_rowsU, Fin.satC_ret, Fin.satC_br, Fin.satC_need, Fin.satC_again, AllP, and_true, true_and, upd, List.length_nil, List.length_cons, Nat.zero_add, if_true, ncast, Int.ofNat_eq_natCast]
  obtain ⟨g1, g2, g3⟩ := okH_in h0
  simp only [hetaA hH]
  have a0 : 1 ≤ s.parts.length → okA (s.parts.getD 0 default) = true := fun h => g3 _ (by
    rw [List.getD_eq_getElem?_getD, List.getElem?_eq_getElem (by omega), Option.getD_some]
    exact List.getElem_mem _)
  have a1 : 2 ≤ s.parts.length → okA (s.parts.getD 1 default) = true := fun h => g3 _ (by
    rw [List.getD_eq_getElem?_getD, List.getElem?_eq_getElem (by omega), Option.getD_some]
    exact List.getElem_mem _)
  refine ⟨fun h1 => ⟨?_, ?_, ?_⟩, fun h1 => ⟨fun h2 => ?_, fun h2 => ?_⟩⟩
  · simp only [hH, stdH, Nat.le_refl, decide_eq_true_eq, decide_eq_false_iff_not, Bool.not_eq_true', Bool.not_eq_false', peta, ncast, Int.ofNat_eq_natCast, beq_iff_eq, bne_iff_ne, beq_eq_false_iff_ne, bne_eq_false_iff_eq, ne_eq, Classical.not_not, Int.toNat_natCast, vrow_I, Arm.eta2, Fld.eta, Grp.eta] at h1
    rw [h1] at g2
    have g2 : (s.parts.length : Int) = 1 := g2
    try simp only [hH, stdH, Nat.le_refl, decide_eq_true_eq, decide_eq_false_iff_not, Bool.not_eq_true', Bool.not_eq_false', peta, ncast, Int.ofNat_eq_natCast, beq_iff_eq, bne_iff_ne, beq_eq_false_iff_ne, bne_eq_false_iff_eq, ne_eq, Classical.not_not, Int.toNat_natCast, vrow_I, Arm.eta2, Fld.eta, Grp.eta]
    omega
  · simp only [hH, stdH, Nat.le_refl, decide_eq_true_eq, decide_eq_false_iff_not, Bool.not_eq_true', Bool.not_eq_false', peta, ncast, Int.ofNat_eq_natCast, beq_iff_eq, bne_iff_ne, beq_eq_false_iff_ne, bne_eq_false_iff_eq, ne_eq, Classical.not_not, Int.toNat_natCast, vrow_I, Arm.eta2, Fld.eta, Grp.eta] at h1
    rw [h1] at g2
    have g2 : (s.parts.length : Int) = 1 := g2
    try simp only [hH, stdH, Nat.le_refl, decide_eq_true_eq, decide_eq_false_iff_not, Bool.not_eq_true', Bool.not_eq_false', peta, ncast, Int.ofNat_eq_natCast, beq_iff_eq, bne_iff_ne, beq_eq_false_iff_ne, bne_eq_false_iff_eq, ne_eq, Classical.not_not, Int.toNat_natCast, vrow_I, Arm.eta2, Fld.eta, Grp.eta]
    exact a0 (by omega)
  · simp only [hH, stdH, Nat.le_refl, decide_eq_true_eq, decide_eq_false_iff_not, Bool.not_eq_true', Bool.not_eq_false', peta, ncast, Int.ofNat_eq_natCast, beq_iff_eq, bne_iff_ne, beq_eq_false_iff_ne, bne_eq_false_iff_eq, ne_eq, Classical.not_not, Int.toNat_natCast, vrow_I, Arm.eta2, Fld.eta, Grp.eta] at h1
    try simp only [hH, stdH, Nat.le_refl, decide_eq_true_eq, decide_eq_false_iff_not, Bool.not_eq_true', Bool.not_eq_false', peta, ncast, Int.ofNat_eq_natCast, beq_iff_eq, bne_iff_ne, beq_eq_false_iff_ne, bne_eq_false_iff_eq, ne_eq, Classical.not_not, Int.toNat_natCast, vrow_I, Arm.eta2, Fld.eta, Grp.eta]
    unfold shT
    rw [if_pos h1]; rfl
  · have q1 : s.mode ≠ 1 := by
      simp only [hH, stdH, Nat.le_refl, decide_eq_true_eq, decide_eq_false_iff_not, Bool.not_eq_true', Bool.not_eq_false', peta, ncast, Int.ofNat_eq_natCast, beq_iff_eq, bne_iff_ne, beq_eq_false_iff_ne, bne_eq_false_iff_eq, ne_eq, Classical.not_not, Int.toNat_natCast, vrow_I, Arm.eta2, Fld.eta, Grp.eta] at h1
      exact h1
    simp only [hH, stdH, Nat.le_refl, decide_eq_true_eq, decide_eq_false_iff_not, Bool.not_eq_true', Bool.not_eq_false', peta, ncast, Int.ofNat_eq_natCast, beq_iff_eq, bne_iff_ne, beq_eq_false_iff_ne, bne_eq_false_iff_eq, ne_eq, Classical.not_not, Int.toNat_natCast, vrow_I, Arm.eta2, Fld.eta, Grp.eta] at h2
    rw [h2] at g2
    have g2 : (s.parts.length : Int) = 2 := g2
    have b0 := armT_sz (s.parts.getD 0 default)
    have b1 := armT_sz (s.parts.getD 1 default)
    refine ⟨?_, ?_, ?_, ?_, ?_, ?_, ?_, ?_⟩
    · try simp only [hH, stdH, Nat.le_refl, decide_eq_true_eq, decide_eq_false_iff_not, Bool.not_eq_true', Bool.not_eq_false', peta, ncast, Int.ofNat_eq_natCast, beq_iff_eq, bne_iff_ne, beq_eq_false_iff_ne, bne_eq_false_iff_eq, ne_eq, Classical.not_not, Int.toNat_natCast, vrow_I, Arm.eta2, Fld.eta, Grp.eta]
      omega
    · try simp only [hH, stdH, Nat.le_refl, decide_eq_true_eq, decide_eq_false_iff_not, Bool.not_eq_true', Bool.not_eq_false', peta, ncast, Int.ofNat_eq_natCast, beq_iff_eq, bne_iff_ne, beq_eq_false_iff_ne, bne_eq_false_iff_eq, ne_eq, Classical.not_not, Int.toNat_natCast, vrow_I, Arm.eta2, Fld.eta, Grp.eta]
      exact a0 (by omega)
    · try simp only [hH, stdH, Nat.le_refl, decide_eq_true_eq, decide_eq_false_iff_not, Bool.not_eq_true', Bool.not_eq_false', peta, ncast, Int.ofNat_eq_natCast, beq_iff_eq, bne_iff_ne, beq_eq_false_iff_ne, bne_eq_false_iff_eq, ne_eq, Classical.not_not, Int.toNat_natCast, vrow_I, Arm.eta2, Fld.eta, Grp.eta]
      simp only [bsz, List.length_cons, List.length_nil]
      show _ + (armT (s.parts.getD 0 default)).size ≤ _
      omega
    · try simp only [hH, stdH, Nat.le_refl, decide_eq_true_eq, decide_eq_false_iff_not, Bool.not_eq_true', Bool.not_eq_false', peta, ncast, Int.ofNat_eq_natCast, beq_iff_eq, bne_iff_ne, beq_eq_false_iff_ne, bne_eq_false_iff_eq, ne_eq, Classical.not_not, Int.toNat_natCast, vrow_I, Arm.eta2, Fld.eta, Grp.eta]
      simp only [ByteArray.size_append, bsz, List.length_cons, List.length_nil]
      show _ + (armT (s.parts.getD 0 default)).size + _ ≤ _
      omega
    · try simp only [hH, stdH, Nat.le_refl, decide_eq_true_eq, decide_eq_false_iff_not, Bool.not_eq_true', Bool.not_eq_false', peta, ncast, Int.ofNat_eq_natCast, beq_iff_eq, bne_iff_ne, beq_eq_false_iff_ne, bne_eq_false_iff_eq, ne_eq, Classical.not_not, Int.toNat_natCast, vrow_I, Arm.eta2, Fld.eta, Grp.eta]
      omega
    · try simp only [hH, stdH, Nat.le_refl, decide_eq_true_eq, decide_eq_false_iff_not, Bool.not_eq_true', Bool.not_eq_false', peta, ncast, Int.ofNat_eq_natCast, beq_iff_eq, bne_iff_ne, beq_eq_false_iff_ne, bne_eq_false_iff_eq, ne_eq, Classical.not_not, Int.toNat_natCast, vrow_I, Arm.eta2, Fld.eta, Grp.eta]
      exact a1 (by omega)
    · try simp only [hH, stdH, Nat.le_refl, decide_eq_true_eq, decide_eq_false_iff_not, Bool.not_eq_true', Bool.not_eq_false', peta, ncast, Int.ofNat_eq_natCast, beq_iff_eq, bne_iff_ne, beq_eq_false_iff_ne, bne_eq_false_iff_eq, ne_eq, Classical.not_not, Int.toNat_natCast, vrow_I, Arm.eta2, Fld.eta, Grp.eta]
      simp only [ByteArray.size_append, bsz, List.length_cons, List.length_nil]
      show _ + (armT (s.parts.getD 0 default)).size + _ + (armT (s.parts.getD 1 default)).size ≤ _
      omega
    · try simp only [hH, stdH, Nat.le_refl, decide_eq_true_eq, decide_eq_false_iff_not, Bool.not_eq_true', Bool.not_eq_false', peta, ncast, Int.ofNat_eq_natCast, beq_iff_eq, bne_iff_ne, beq_eq_false_iff_ne, bne_eq_false_iff_eq, ne_eq, Classical.not_not, Int.toNat_natCast, vrow_I, Arm.eta2, Fld.eta, Grp.eta]
      unfold shT
      rw [if_neg q1, if_pos h2]
      simp only [ByteArray.append_assoc]
      rfl
  have q1 : s.mode ≠ 1 := by
    simp only [hH, stdH, Nat.le_refl, decide_eq_true_eq, decide_eq_false_iff_not, Bool.not_eq_true', Bool.not_eq_false', peta, ncast, Int.ofNat_eq_natCast, beq_iff_eq, bne_iff_ne, beq_eq_false_iff_ne, bne_eq_false_iff_eq, ne_eq, Classical.not_not, Int.toNat_natCast, vrow_I, Arm.eta2, Fld.eta, Grp.eta] at h1
    exact h1
  have q2 : s.mode ≠ 2 := by
    simp only [hH, stdH, Nat.le_refl, decide_eq_true_eq, decide_eq_false_iff_not, Bool.not_eq_true', Bool.not_eq_false', peta, ncast, Int.ofNat_eq_natCast, beq_iff_eq, bne_iff_ne, beq_eq_false_iff_ne, bne_eq_false_iff_eq, ne_eq, Classical.not_not, Int.toNat_natCast, vrow_I, Arm.eta2, Fld.eta, Grp.eta] at h2
    exact h2
  have g3' : s.mode = 3 := by omega
  rw [g3'] at g2
  have g2 : (s.parts.length : Int) = 4 := g2
  have hT : shT s = (⟨⟨[113, 117, 97, 114, 116, 101, 114, 108, 121, 58, 32]⟩⟩ : ByteArray) ++ jnB ((fs1 s.parts s.parts.length).map (shP s.parts)) (⟨⟨[59, 32]⟩⟩ : ByteArray) := by
    unfold shT
    rw [if_neg q1, if_neg q2]
  have hF := fs1_len s.parts s.parts.length
  have hM := fs1_mem s.parts s.parts.length
  rw [hT]
  simp only [TlA_HS hH]
  generalize fs1 s.parts s.parts.length = F at *
  refine ⟨⟨?_, ?_⟩, ?_⟩
  · try simp only [hH, stdH, Nat.le_refl, decide_eq_true_eq, decide_eq_false_iff_not, Bool.not_eq_true', Bool.not_eq_false', peta, ncast, Int.ofNat_eq_natCast, beq_iff_eq, bne_iff_ne, beq_eq_false_iff_ne, bne_eq_false_iff_eq, ne_eq, Classical.not_not, Int.toNat_natCast, vrow_I, Arm.eta2, Fld.eta, Grp.eta]
    exact Shp_A _ _
  · try simp only [hH, stdH, Nat.le_refl, decide_eq_true_eq, decide_eq_false_iff_not, Bool.not_eq_true', Bool.not_eq_false', peta, ncast, Int.ofNat_eq_natCast, beq_iff_eq, bne_iff_ne, beq_eq_false_iff_ne, bne_eq_false_iff_eq, ne_eq, Classical.not_not, Int.toNat_natCast, vrow_I, Arm.eta2, Fld.eta, Grp.eta]
    omega
  refine loop_a hB (draw_ok hB mixed) hX hX0 hH false (ι := { i : Nat // i ≤ F.length }) 300 (fun i => [.s (H ByteArray fun _ => shK s.parts F i.1), .i (H Int fun _ => (i.1 : Nat))]) (fun i => F.length - i.1) (⟨0, by omega⟩) ?_ ?_
  · (conv in matchSt _ _ _ _ => cbv); simp only [AllG, AllP, and_true, hH, stdH, Nat.le_refl, ncast, Int.ofNat_eq_natCast, vrow_I, Arm.eta2, Fld.eta, Grp.eta]
    rw [shK_0]
    all_goals (repeat' (with_reducible refine And.intro ?_ ?_)) <;> (first | exact Eq.refl _ | exact True.intro | exact Nat.le_refl _ | exact RowsEq.self okRA | exact RowsEq.ofT okRA rfl (Shp_zero _) rfl | exact RowsEq.snoc okRA rfl | exact RowsEq.self okI | exact RowsEq.ofT okI rfl (Shp_zero _) rfl | exact RowsEq.snoc okI rfl | exact RowsEq.more okI (Shp_I _ _) (Tl_I _) | exact List.length_append | exact c.rqN)
  · intro I hI i
    conv in Fin.chk _ _ => cbv
    try simp only [Plain_rowsA, Plain_rowsB, Plain_rowsC, Plain_rowsF, Plain_rowsG, Plain_rowsI, Plain_rowsS, Plain_rowsU, Fin.satC_ret, Fin.satC_br, Fin.satC_need, Fin.satC_again, AllP, and_true, true_and, upd, List.length_nil, List.length_cons, Nat.zero_add, if_true, ncast, Int.ofNat_eq_natCast]
    obtain ⟨i, hi⟩ := i
    refine ⟨fun h3 => ⟨fun h4 => ⟨?_, ?_⟩, fun h4 => ?_⟩, fun h3 => ?_⟩
    · have hz := shK_sz (l := s.parts) (F := F) (by omega) i
      try simp only [hH, stdH, Nat.le_refl, decide_eq_true_eq, decide_eq_false_iff_not, Bool.not_eq_true', Bool.not_eq_false', peta, ncast, Int.ofNat_eq_natCast, beq_iff_eq, bne_iff_ne, beq_eq_false_iff_ne, bne_eq_false_iff_eq, ne_eq, Classical.not_not, Int.toNat_natCast, vrow_I, Arm.eta2, Fld.eta, Grp.eta]
      simp only [bsz, List.length_cons, List.length_nil]
      omega
    · simp only [hH, stdH, Nat.le_refl, decide_eq_true_eq, decide_eq_false_iff_not, Bool.not_eq_true', Bool.not_eq_false', peta, ncast, Int.ofNat_eq_natCast, beq_iff_eq, bne_iff_ne, beq_eq_false_iff_ne, bne_eq_false_iff_eq, ne_eq, Classical.not_not, Int.toNat_natCast, vrow_I, Arm.eta2, Fld.eta, Grp.eta] at h3
      simp only [hH, stdH, Nat.le_refl, decide_eq_true_eq, decide_eq_false_iff_not, Bool.not_eq_true', Bool.not_eq_false', peta, ncast, Int.ofNat_eq_natCast, beq_iff_eq, bne_iff_ne, beq_eq_false_iff_ne, bne_eq_false_iff_eq, ne_eq, Classical.not_not, Int.toNat_natCast, vrow_I, Arm.eta2, Fld.eta, Grp.eta] at h4
      have h3 : i < F.length := by omega
      have hx := hM (F.getD i 0) (by rw [List.getD_eq_getElem?_getD, List.getElem?_eq_getElem h3, Option.getD_some]; exact List.getElem_mem _)
      refine loop_a hB (draw_ok hB mixed) hX hX0 hH true (ι := { k : Nat // k ≤ s.parts.length }) 300 (fun k => [.s (H ByteArray fun _ => nmK s.parts (s.parts.getD (F.getD i 0).toNat default) k.1), .i (H Int fun _ => (k.1 : Nat))]) (fun k => s.parts.length - k.1) (⟨0, by omega⟩) ?_ ?_
      · (conv in matchSt _ _ _ _ => cbv); simp only [AllG, AllP, and_true, hH, stdH, Nat.le_refl, ncast, Int.ofNat_eq_natCast, vrow_I, Arm.eta2, Fld.eta, Grp.eta]
        all_goals (repeat' (with_reducible refine And.intro ?_ ?_)) <;> (first | exact Eq.refl _ | exact True.intro | exact Nat.le_refl _ | exact RowsEq.self okRA | exact RowsEq.ofT okRA rfl (Shp_zero _) rfl | exact RowsEq.snoc okRA rfl | exact RowsEq.self okI | exact RowsEq.ofT okI rfl (Shp_zero _) rfl | exact RowsEq.snoc okI rfl | exact RowsEq.more okI (Shp_I _ _) (Tl_I _) | exact List.length_append | exact c.rqN)
      · intro I2 hI2 k
        conv in Fin.chk _ _ => cbv
        try simp only [Plain_rowsA, Plain_rowsB, Plain_rowsC, Plain_rowsF, Plain_rowsG, Plain_rowsI, Plain_rowsS, Plain_rowsU, Fin.satC_ret, Fin.satC_br, Fin.satC_need, Fin.satC_again, AllP, and_true, true_and, upd, List.length_nil, List.length_cons, Nat.zero_add, if_true, ncast, Int.ofNat_eq_natCast]
        obtain ⟨k, hk⟩ := k
        try simp only [hetaA hH, TlA_HS hH]
        have hnz := nmK_sz s.parts (s.parts.getD (F.getD i 0).toNat default) k (by omega)
        have eW : IntKind.i64.wrap ((k : Int) + 1) = ((k + 1 : Nat) : Int) := w1 (by omega)
        have hdz : (numD (k + 1)).size ≤ 2 := numD_sz (by omega)
        refine ⟨fun h5 => ⟨?_, ?_, ?_, ?_, fun h6 => ?_, fun h6 => ⟨fun h7 => ⟨?_, ?_, ?_, ?_⟩, fun h7 => ⟨?_, ?_, ?_⟩⟩⟩, fun h5 => ?_⟩
        · simp only [hH, stdH, Nat.le_refl, decide_eq_true_eq, decide_eq_false_iff_not, Bool.not_eq_true', Bool.not_eq_false', peta, ncast, Int.ofNat_eq_natCast, beq_iff_eq, bne_iff_ne, beq_eq_false_iff_ne, bne_eq_false_iff_eq, ne_eq, Classical.not_not, Int.toNat_natCast, vrow_I, Arm.eta2, Fld.eta, Grp.eta] at h5 ⊢
          omega
        · try simp only [hH, stdH, Nat.le_refl, decide_eq_true_eq, decide_eq_false_iff_not, Bool.not_eq_true', Bool.not_eq_false', peta, ncast, Int.ofNat_eq_natCast, beq_iff_eq, bne_iff_ne, beq_eq_false_iff_ne, bne_eq_false_iff_eq, ne_eq, Classical.not_not, Int.toNat_natCast, vrow_I, Arm.eta2, Fld.eta, Grp.eta]
          omega
        · try simp only [hH, stdH, Nat.le_refl, decide_eq_true_eq, decide_eq_false_iff_not, Bool.not_eq_true', Bool.not_eq_false', peta, ncast, Int.ofNat_eq_natCast, beq_iff_eq, bne_iff_ne, beq_eq_false_iff_ne, bne_eq_false_iff_eq, ne_eq, Classical.not_not, Int.toNat_natCast, vrow_I, Arm.eta2, Fld.eta, Grp.eta]
          exact ⟨h3, rfl⟩
        · try simp only [hH, stdH, Nat.le_refl, decide_eq_true_eq, decide_eq_false_iff_not, Bool.not_eq_true', Bool.not_eq_false', peta, ncast, Int.ofNat_eq_natCast, beq_iff_eq, bne_iff_ne, beq_eq_false_iff_ne, bne_eq_false_iff_eq, ne_eq, Classical.not_not, Int.toNat_natCast, vrow_I, Arm.eta2, Fld.eta, Grp.eta]
          omega
        · simp only [hH, stdH, Nat.le_refl, decide_eq_true_eq, decide_eq_false_iff_not, Bool.not_eq_true', Bool.not_eq_false', peta, ncast, Int.ofNat_eq_natCast, beq_iff_eq, bne_iff_ne, beq_eq_false_iff_ne, bne_eq_false_iff_eq, ne_eq, Classical.not_not, Int.toNat_natCast, vrow_I, Arm.eta2, Fld.eta, Grp.eta] at h5
          simp only [hH, stdH, eqAE, Int.toNat_natCast, Bool.not_eq_true', decide_eq_false_iff_not] at h6
          refine ⟨⟨k + 1, by omega⟩, by simp only; omega, ?_⟩
          rw [hI2]
          (conv in matchSt _ _ _ _ => cbv); simp only [AllG, AllP, and_true, hH, stdH, Nat.le_refl, ncast, Int.ofNat_eq_natCast, vrow_I, Arm.eta2, Fld.eta, Grp.eta]
          rw [eW, nmK_n h6]
          all_goals (repeat' (with_reducible refine And.intro ?_ ?_)) <;> (first | exact Eq.refl _ | exact True.intro | exact Nat.le_refl _ | exact RowsEq.self okRA | exact RowsEq.ofT okRA rfl (Shp_zero _) rfl | exact RowsEq.snoc okRA rfl | exact RowsEq.self okI | exact RowsEq.ofT okI rfl (Shp_zero _) rfl | exact RowsEq.snoc okI rfl | exact RowsEq.more okI (Shp_I _ _) (Tl_I _) | exact List.length_append | exact c.rqN)
        · try simp only [hH, stdH, Nat.le_refl, decide_eq_true_eq, decide_eq_false_iff_not, Bool.not_eq_true', Bool.not_eq_false', peta, ncast, Int.ofNat_eq_natCast, beq_iff_eq, bne_iff_ne, beq_eq_false_iff_ne, bne_eq_false_iff_eq, ne_eq, Classical.not_not, Int.toNat_natCast, vrow_I, Arm.eta2, Fld.eta, Grp.eta]
          simp only [bsz, List.length_cons, List.length_nil]
          omega
        · simp only [hH, stdH, Nat.le_refl, decide_eq_true_eq, decide_eq_false_iff_not, Bool.not_eq_true', Bool.not_eq_false', peta, ncast, Int.ofNat_eq_natCast, beq_iff_eq, bne_iff_ne, beq_eq_false_iff_ne, bne_eq_false_iff_eq, ne_eq, Classical.not_not, Int.toNat_natCast, vrow_I, Arm.eta2, Fld.eta, Grp.eta] at h5
          simp only [hH, stdH, eW]
          omega
        · simp only [hH, stdH, eW, Int.toNat_natCast, ByteArray.size_append, bsz, List.length_cons, List.length_nil]
          omega
        · simp only [hH, stdH, Nat.le_refl, decide_eq_true_eq, decide_eq_false_iff_not, Bool.not_eq_true', Bool.not_eq_false', peta, ncast, Int.ofNat_eq_natCast, beq_iff_eq, bne_iff_ne, beq_eq_false_iff_ne, bne_eq_false_iff_eq, ne_eq, Classical.not_not, Int.toNat_natCast, vrow_I, Arm.eta2, Fld.eta, Grp.eta] at h5
          simp only [hH, stdH, eqAE, Int.toNat_natCast, Bool.not_eq_false', decide_eq_true_eq] at h6
          simp only [hH, stdH, beqT, Bool.not_eq_true', decide_eq_false_iff_not] at h7
          refine ⟨⟨k + 1, by omega⟩, by simp only; omega, ?_⟩
          rw [hI2]
          (conv in matchSt _ _ _ _ => cbv); simp only [AllG, AllP, and_true, hH, stdH, Nat.le_refl, ncast, Int.ofNat_eq_natCast, vrow_I, Arm.eta2, Fld.eta, Grp.eta]
          rw [eW, nmK_y h6 h7]
          simp only [ByteArray.append_assoc]
          all_goals (repeat' (with_reducible refine And.intro ?_ ?_)) <;> (first | exact Eq.refl _ | exact True.intro | exact Nat.le_refl _ | exact RowsEq.self okRA | exact RowsEq.ofT okRA rfl (Shp_zero _) rfl | exact RowsEq.snoc okRA rfl | exact RowsEq.self okI | exact RowsEq.ofT okI rfl (Shp_zero _) rfl | exact RowsEq.snoc okI rfl | exact RowsEq.more okI (Shp_I _ _) (Tl_I _) | exact List.length_append | exact c.rqN)
        · simp only [hH, stdH, Nat.le_refl, decide_eq_true_eq, decide_eq_false_iff_not, Bool.not_eq_true', Bool.not_eq_false', peta, ncast, Int.ofNat_eq_natCast, beq_iff_eq, bne_iff_ne, beq_eq_false_iff_ne, bne_eq_false_iff_eq, ne_eq, Classical.not_not, Int.toNat_natCast, vrow_I, Arm.eta2, Fld.eta, Grp.eta] at h5
          simp only [hH, stdH, eW]
          omega
        · simp only [hH, stdH, eW, Int.toNat_natCast]
          omega
        · simp only [hH, stdH, Nat.le_refl, decide_eq_true_eq, decide_eq_false_iff_not, Bool.not_eq_true', Bool.not_eq_false', peta, ncast, Int.ofNat_eq_natCast, beq_iff_eq, bne_iff_ne, beq_eq_false_iff_ne, bne_eq_false_iff_eq, ne_eq, Classical.not_not, Int.toNat_natCast, vrow_I, Arm.eta2, Fld.eta, Grp.eta] at h5
          simp only [hH, stdH, eqAE, Int.toNat_natCast, Bool.not_eq_false', decide_eq_true_eq] at h6
          simp only [hH, stdH, beqT, Bool.not_eq_false', decide_eq_true_eq] at h7
          refine ⟨⟨k + 1, by omega⟩, by simp only; omega, ?_⟩
          rw [hI2]
          (conv in matchSt _ _ _ _ => cbv); simp only [AllG, AllP, and_true, hH, stdH, Nat.le_refl, ncast, Int.ofNat_eq_natCast, vrow_I, Arm.eta2, Fld.eta, Grp.eta]
          rw [eW, nmK_y0 h6 h7, h7]
          simp only [emp_app, Int.toNat_natCast]
          all_goals (repeat' (with_reducible refine And.intro ?_ ?_)) <;> (first | exact Eq.refl _ | exact True.intro | exact Nat.le_refl _ | exact RowsEq.self okRA | exact RowsEq.ofT okRA rfl (Shp_zero _) rfl | exact RowsEq.snoc okRA rfl | exact RowsEq.self okI | exact RowsEq.ofT okI rfl (Shp_zero _) rfl | exact RowsEq.snoc okI rfl | exact RowsEq.more okI (Shp_I _ _) (Tl_I _) | exact List.length_append | exact c.rqN)
        · simp only [hH, stdH, Nat.le_refl, decide_eq_true_eq, decide_eq_false_iff_not, Bool.not_eq_true', Bool.not_eq_false', peta, ncast, Int.ofNat_eq_natCast, beq_iff_eq, bne_iff_ne, beq_eq_false_iff_ne, bne_eq_false_iff_eq, ne_eq, Classical.not_not, Int.toNat_natCast, vrow_I, Arm.eta2, Fld.eta, Grp.eta] at h5
          obtain rfl : k = s.parts.length := by omega
          have hz := shK_sz (l := s.parts) (F := F) (by omega) i
          have ha := armT_sz (s.parts.getD (F.getD i 0).toNat default)
          rw [if_neg (by decide)]
          refine ⟨?_, ?_, ?_, ?_, ?_, ?_, ?_, ?_⟩
          · simp only [hH, stdH, ByteArray.size_append, bsz, List.length_cons, List.length_nil]
            omega
          · simp only [hH, stdH, ByteArray.size_append, bsz, List.length_cons, List.length_nil]
            omega
          · try simp only [hH, stdH, Nat.le_refl, decide_eq_true_eq, decide_eq_false_iff_not, Bool.not_eq_true', Bool.not_eq_false', peta, ncast, Int.ofNat_eq_natCast, beq_iff_eq, bne_iff_ne, beq_eq_false_iff_ne, bne_eq_false_iff_eq, ne_eq, Classical.not_not, Int.toNat_natCast, vrow_I, Arm.eta2, Fld.eta, Grp.eta]
            omega
          · try simp only [hH, stdH, Nat.le_refl, decide_eq_true_eq, decide_eq_false_iff_not, Bool.not_eq_true', Bool.not_eq_false', peta, ncast, Int.ofNat_eq_natCast, beq_iff_eq, bne_iff_ne, beq_eq_false_iff_ne, bne_eq_false_iff_eq, ne_eq, Classical.not_not, Int.toNat_natCast, vrow_I, Arm.eta2, Fld.eta, Grp.eta]
            exact ⟨h3, rfl⟩
          · try simp only [hH, stdH, Nat.le_refl, decide_eq_true_eq, decide_eq_false_iff_not, Bool.not_eq_true', Bool.not_eq_false', peta, ncast, Int.ofNat_eq_natCast, beq_iff_eq, bne_iff_ne, beq_eq_false_iff_ne, bne_eq_false_iff_eq, ne_eq, Classical.not_not, Int.toNat_natCast, vrow_I, Arm.eta2, Fld.eta, Grp.eta]
            omega
          · try simp only [hH, stdH, Nat.le_refl, decide_eq_true_eq, decide_eq_false_iff_not, Bool.not_eq_true', Bool.not_eq_false', peta, ncast, Int.ofNat_eq_natCast, beq_iff_eq, bne_iff_ne, beq_eq_false_iff_ne, bne_eq_false_iff_eq, ne_eq, Classical.not_not, Int.toNat_natCast, vrow_I, Arm.eta2, Fld.eta, Grp.eta]
            refine g3 _ ?_
            rw [List.getD_eq_getElem?_getD, List.getElem?_eq_getElem (by omega), Option.getD_some]
            exact List.getElem_mem _
          · simp only [hH, stdH, Int.toNat_natCast, ByteArray.size_append, bsz, List.length_cons, List.length_nil]
            omega
          · refine ⟨⟨i + 1, by omega⟩, by simp only; omega, ?_⟩
            rw [hI]
            (conv in matchSt _ _ _ _ => cbv); simp only [AllG, AllP, and_true, hH, stdH, Nat.le_refl, ncast, Int.ofNat_eq_natCast, vrow_I, Arm.eta2, Fld.eta, Grp.eta]
            rw [w1 (by omega), shK_s (by omega) h3, shP_eq]
            simp only [Int.toNat_natCast, ByteArray.append_assoc]
            all_goals (repeat' (with_reducible refine And.intro ?_ ?_)) <;> (first | exact Eq.refl _ | exact True.intro | exact Nat.le_refl _ | exact RowsEq.self okRA | exact RowsEq.ofT okRA rfl (Shp_zero _) rfl | exact RowsEq.snoc okRA rfl | exact RowsEq.self okI | exact RowsEq.ofT okI rfl (Shp_zero _) rfl | exact RowsEq.snoc okI rfl | exact RowsEq.more okI (Shp_I _ _) (Tl_I _) | exact List.length_append | exact c.rqN)
    · simp only [hH, stdH, Nat.le_refl, decide_eq_true_eq, decide_eq_false_iff_not, Bool.not_eq_true', Bool.not_eq_false', peta, ncast, Int.ofNat_eq_natCast, beq_iff_eq, bne_iff_ne, beq_eq_false_iff_ne, bne_eq_false_iff_eq, ne_eq, Classical.not_not, Int.toNat_natCast, vrow_I, Arm.eta2, Fld.eta, Grp.eta] at h3
      simp only [hH, stdH, Nat.le_refl, decide_eq_true_eq, decide_eq_false_iff_not, Bool.not_eq_true', Bool.not_eq_false', peta, ncast, Int.ofNat_eq_natCast, beq_iff_eq, bne_iff_ne, beq_eq_false_iff_ne, bne_eq_false_iff_eq, ne_eq, Classical.not_not, Int.toNat_natCast, vrow_I, Arm.eta2, Fld.eta, Grp.eta] at h4
      have h3 : i < F.length := by omega
      have hx := hM (F.getD i 0) (by rw [List.getD_eq_getElem?_getD, List.getElem?_eq_getElem h3, Option.getD_some]; exact List.getElem_mem _)
      refine loop_a hB (draw_ok hB mixed) hX hX0 hH true (ι := { k : Nat // k ≤ s.parts.length }) 300 (fun k => [.s (H ByteArray fun _ => nmK s.parts (s.parts.getD (F.getD i 0).toNat default) k.1), .i (H Int fun _ => (k.1 : Nat))]) (fun k => s.parts.length - k.1) (⟨0, by omega⟩) ?_ ?_
      · (conv in matchSt _ _ _ _ => cbv); simp only [AllG, AllP, and_true, hH, stdH, Nat.le_refl, ncast, Int.ofNat_eq_natCast, vrow_I, Arm.eta2, Fld.eta, Grp.eta]
        all_goals (repeat' (with_reducible refine And.intro ?_ ?_)) <;> (first | exact Eq.refl _ | exact True.intro | exact Nat.le_refl _ | exact RowsEq.self okRA | exact RowsEq.ofT okRA rfl (Shp_zero _) rfl | exact RowsEq.snoc okRA rfl | exact RowsEq.self okI | exact RowsEq.ofT okI rfl (Shp_zero _) rfl | exact RowsEq.snoc okI rfl | exact RowsEq.more okI (Shp_I _ _) (Tl_I _) | exact List.length_append | exact c.rqN)
      · intro I2 hI2 k
        conv in Fin.chk _ _ => cbv
        try simp only [Plain_rowsA, Plain_rowsB, Plain_rowsC, Plain_rowsF, Plain_rowsG, Plain_rowsI, Plain_rowsS, Plain_rowsU, Fin.satC_ret, Fin.satC_br, Fin.satC_need, Fin.satC_again, AllP, and_true, true_and, upd, List.length_nil, List.length_cons, Nat.zero_add, if_true, ncast, Int.ofNat_eq_natCast]
        obtain ⟨k, hk⟩ := k
        try simp only [hetaA hH, TlA_HS hH]
        have hnz := nmK_sz s.parts (s.parts.getD (F.getD i 0).toNat default) k (by omega)
        have eW : IntKind.i64.wrap ((k : Int) + 1) = ((k + 1 : Nat) : Int) := w1 (by omega)
        have hdz : (numD (k + 1)).size ≤ 2 := numD_sz (by omega)
        refine ⟨fun h5 => ⟨?_, ?_, ?_, ?_, fun h6 => ?_, fun h6 => ⟨fun h7 => ⟨?_, ?_, ?_, ?_⟩, fun h7 => ⟨?_, ?_, ?_⟩⟩⟩, fun h5 => ?_⟩
        · simp only [hH, stdH, Nat.le_refl, decide_eq_true_eq, decide_eq_false_iff_not, Bool.not_eq_true', Bool.not_eq_false', peta, ncast, Int.ofNat_eq_natCast, beq_iff_eq, bne_iff_ne, beq_eq_false_iff_ne, bne_eq_false_iff_eq, ne_eq, Classical.not_not, Int.toNat_natCast, vrow_I, Arm.eta2, Fld.eta, Grp.eta] at h5 ⊢
          omega
        · try simp only [hH, stdH, Nat.le_refl, decide_eq_true_eq, decide_eq_false_iff_not, Bool.not_eq_true', Bool.not_eq_false', peta, ncast, Int.ofNat_eq_natCast, beq_iff_eq, bne_iff_ne, beq_eq_false_iff_ne, bne_eq_false_iff_eq, ne_eq, Classical.not_not, Int.toNat_natCast, vrow_I, Arm.eta2, Fld.eta, Grp.eta]
          omega
        · try simp only [hH, stdH, Nat.le_refl, decide_eq_true_eq, decide_eq_false_iff_not, Bool.not_eq_true', Bool.not_eq_false', peta, ncast, Int.ofNat_eq_natCast, beq_iff_eq, bne_iff_ne, beq_eq_false_iff_ne, bne_eq_false_iff_eq, ne_eq, Classical.not_not, Int.toNat_natCast, vrow_I, Arm.eta2, Fld.eta, Grp.eta]
          exact ⟨h3, rfl⟩
        · try simp only [hH, stdH, Nat.le_refl, decide_eq_true_eq, decide_eq_false_iff_not, Bool.not_eq_true', Bool.not_eq_false', peta, ncast, Int.ofNat_eq_natCast, beq_iff_eq, bne_iff_ne, beq_eq_false_iff_ne, bne_eq_false_iff_eq, ne_eq, Classical.not_not, Int.toNat_natCast, vrow_I, Arm.eta2, Fld.eta, Grp.eta]
          omega
        · simp only [hH, stdH, Nat.le_refl, decide_eq_true_eq, decide_eq_false_iff_not, Bool.not_eq_true', Bool.not_eq_false', peta, ncast, Int.ofNat_eq_natCast, beq_iff_eq, bne_iff_ne, beq_eq_false_iff_ne, bne_eq_false_iff_eq, ne_eq, Classical.not_not, Int.toNat_natCast, vrow_I, Arm.eta2, Fld.eta, Grp.eta] at h5
          simp only [hH, stdH, eqAE, Int.toNat_natCast, Bool.not_eq_true', decide_eq_false_iff_not] at h6
          refine ⟨⟨k + 1, by omega⟩, by simp only; omega, ?_⟩
          rw [hI2]
          (conv in matchSt _ _ _ _ => cbv); simp only [AllG, AllP, and_true, hH, stdH, Nat.le_refl, ncast, Int.ofNat_eq_natCast, vrow_I, Arm.eta2, Fld.eta, Grp.eta]
          rw [eW, nmK_n h6]
          all_goals (repeat' (with_reducible refine And.intro ?_ ?_)) <;> (first | exact Eq.refl _ | exact True.intro | exact Nat.le_refl _ | exact RowsEq.self okRA | exact RowsEq.ofT okRA rfl (Shp_zero _) rfl | exact RowsEq.snoc okRA rfl | exact RowsEq.self okI | exact RowsEq.ofT okI rfl (Shp_zero _) rfl | exact RowsEq.snoc okI rfl | exact RowsEq.more okI (Shp_I _ _) (Tl_I _) | exact List.length_append | exact c.rqN)
        · try simp only [hH, stdH, Nat.le_refl, decide_eq_true_eq, decide_eq_false_iff_not, Bool.not_eq_true', Bool.not_eq_false', peta, ncast, Int.ofNat_eq_natCast, beq_iff_eq, bne_iff_ne, beq_eq_false_iff_ne, bne_eq_false_iff_eq, ne_eq, Classical.not_not, Int.toNat_natCast, vrow_I, Arm.eta2, Fld.eta, Grp.eta]
          simp only [bsz, List.length_cons, List.length_nil]
          omega
        · simp only [hH, stdH, Nat.le_refl, decide_eq_true_eq, decide_eq_false_iff_not, Bool.not_eq_true', Bool.not_eq_false', peta, ncast, Int.ofNat_eq_natCast, beq_iff_eq, bne_iff_ne, beq_eq_false_iff_ne, bne_eq_false_iff_eq, ne_eq, Classical.not_not, Int.toNat_natCast, vrow_I, Arm.eta2, Fld.eta, Grp.eta] at h5
          simp only [hH, stdH, eW]
          omega
        · simp only [hH, stdH, eW, Int.toNat_natCast, ByteArray.size_append, bsz, List.length_cons, List.length_nil]
          omega
        · simp only [hH, stdH, Nat.le_refl, decide_eq_true_eq, decide_eq_false_iff_not, Bool.not_eq_true', Bool.not_eq_false', peta, ncast, Int.ofNat_eq_natCast, beq_iff_eq, bne_iff_ne, beq_eq_false_iff_ne, bne_eq_false_iff_eq, ne_eq, Classical.not_not, Int.toNat_natCast, vrow_I, Arm.eta2, Fld.eta, Grp.eta] at h5
          simp only [hH, stdH, eqAE, Int.toNat_natCast, Bool.not_eq_false', decide_eq_true_eq] at h6
          simp only [hH, stdH, beqT, Bool.not_eq_true', decide_eq_false_iff_not] at h7
          refine ⟨⟨k + 1, by omega⟩, by simp only; omega, ?_⟩
          rw [hI2]
          (conv in matchSt _ _ _ _ => cbv); simp only [AllG, AllP, and_true, hH, stdH, Nat.le_refl, ncast, Int.ofNat_eq_natCast, vrow_I, Arm.eta2, Fld.eta, Grp.eta]
          rw [eW, nmK_y h6 h7]
          simp only [ByteArray.append_assoc]
          all_goals (repeat' (with_reducible refine And.intro ?_ ?_)) <;> (first | exact Eq.refl _ | exact True.intro | exact Nat.le_refl _ | exact RowsEq.self okRA | exact RowsEq.ofT okRA rfl (Shp_zero _) rfl | exact RowsEq.snoc okRA rfl | exact RowsEq.self okI | exact RowsEq.ofT okI rfl (Shp_zero _) rfl | exact RowsEq.snoc okI rfl | exact RowsEq.more okI (Shp_I _ _) (Tl_I _) | exact List.length_append | exact c.rqN)
        · simp only [hH, stdH, Nat.le_refl, decide_eq_true_eq, decide_eq_false_iff_not, Bool.not_eq_true', Bool.not_eq_false', peta, ncast, Int.ofNat_eq_natCast, beq_iff_eq, bne_iff_ne, beq_eq_false_iff_ne, bne_eq_false_iff_eq, ne_eq, Classical.not_not, Int.toNat_natCast, vrow_I, Arm.eta2, Fld.eta, Grp.eta] at h5
          simp only [hH, stdH, eW]
          omega
        · simp only [hH, stdH, eW, Int.toNat_natCast]
          omega
        · simp only [hH, stdH, Nat.le_refl, decide_eq_true_eq, decide_eq_false_iff_not, Bool.not_eq_true', Bool.not_eq_false', peta, ncast, Int.ofNat_eq_natCast, beq_iff_eq, bne_iff_ne, beq_eq_false_iff_ne, bne_eq_false_iff_eq, ne_eq, Classical.not_not, Int.toNat_natCast, vrow_I, Arm.eta2, Fld.eta, Grp.eta] at h5
          simp only [hH, stdH, eqAE, Int.toNat_natCast, Bool.not_eq_false', decide_eq_true_eq] at h6
          simp only [hH, stdH, beqT, Bool.not_eq_false', decide_eq_true_eq] at h7
          refine ⟨⟨k + 1, by omega⟩, by simp only; omega, ?_⟩
          rw [hI2]
          (conv in matchSt _ _ _ _ => cbv); simp only [AllG, AllP, and_true, hH, stdH, Nat.le_refl, ncast, Int.ofNat_eq_natCast, vrow_I, Arm.eta2, Fld.eta, Grp.eta]
          rw [eW, nmK_y0 h6 h7, h7]
          simp only [emp_app, Int.toNat_natCast]
          all_goals (repeat' (with_reducible refine And.intro ?_ ?_)) <;> (first | exact Eq.refl _ | exact True.intro | exact Nat.le_refl _ | exact RowsEq.self okRA | exact RowsEq.ofT okRA rfl (Shp_zero _) rfl | exact RowsEq.snoc okRA rfl | exact RowsEq.self okI | exact RowsEq.ofT okI rfl (Shp_zero _) rfl | exact RowsEq.snoc okI rfl | exact RowsEq.more okI (Shp_I _ _) (Tl_I _) | exact List.length_append | exact c.rqN)
        · simp only [hH, stdH, Nat.le_refl, decide_eq_true_eq, decide_eq_false_iff_not, Bool.not_eq_true', Bool.not_eq_false', peta, ncast, Int.ofNat_eq_natCast, beq_iff_eq, bne_iff_ne, beq_eq_false_iff_ne, bne_eq_false_iff_eq, ne_eq, Classical.not_not, Int.toNat_natCast, vrow_I, Arm.eta2, Fld.eta, Grp.eta] at h5
          obtain rfl : k = s.parts.length := by omega
          have hz := shK_sz (l := s.parts) (F := F) (by omega) i
          have ha := armT_sz (s.parts.getD (F.getD i 0).toNat default)
          rw [if_neg (by decide)]
          refine ⟨?_, ?_, ?_, ?_, ?_, ?_, ?_, ?_⟩
          · simp only [hH, stdH, ByteArray.size_append, bsz, List.length_cons, List.length_nil]
            omega
          · simp only [hH, stdH, ByteArray.size_append, bsz, List.length_cons, List.length_nil]
            omega
          · try simp only [hH, stdH, Nat.le_refl, decide_eq_true_eq, decide_eq_false_iff_not, Bool.not_eq_true', Bool.not_eq_false', peta, ncast, Int.ofNat_eq_natCast, beq_iff_eq, bne_iff_ne, beq_eq_false_iff_ne, bne_eq_false_iff_eq, ne_eq, Classical.not_not, Int.toNat_natCast, vrow_I, Arm.eta2, Fld.eta, Grp.eta]
            omega
          · try simp only [hH, stdH, Nat.le_refl, decide_eq_true_eq, decide_eq_false_iff_not, Bool.not_eq_true', Bool.not_eq_false', peta, ncast, Int.ofNat_eq_natCast, beq_iff_eq, bne_iff_ne, beq_eq_false_iff_ne, bne_eq_false_iff_eq, ne_eq, Classical.not_not, Int.toNat_natCast, vrow_I, Arm.eta2, Fld.eta, Grp.eta]
            exact ⟨h3, rfl⟩
          · try simp only [hH, stdH, Nat.le_refl, decide_eq_true_eq, decide_eq_false_iff_not, Bool.not_eq_true', Bool.not_eq_false', peta, ncast, Int.ofNat_eq_natCast, beq_iff_eq, bne_iff_ne, beq_eq_false_iff_ne, bne_eq_false_iff_eq, ne_eq, Classical.not_not, Int.toNat_natCast, vrow_I, Arm.eta2, Fld.eta, Grp.eta]
            omega
          · try simp only [hH, stdH, Nat.le_refl, decide_eq_true_eq, decide_eq_false_iff_not, Bool.not_eq_true', Bool.not_eq_false', peta, ncast, Int.ofNat_eq_natCast, beq_iff_eq, bne_iff_ne, beq_eq_false_iff_ne, bne_eq_false_iff_eq, ne_eq, Classical.not_not, Int.toNat_natCast, vrow_I, Arm.eta2, Fld.eta, Grp.eta]
            refine g3 _ ?_
            rw [List.getD_eq_getElem?_getD, List.getElem?_eq_getElem (by omega), Option.getD_some]
            exact List.getElem_mem _
          · simp only [hH, stdH, Int.toNat_natCast, ByteArray.size_append, bsz, List.length_cons, List.length_nil]
            omega
          · refine ⟨⟨i + 1, by omega⟩, by simp only; omega, ?_⟩
            rw [hI]
            (conv in matchSt _ _ _ _ => cbv); simp only [AllG, AllP, and_true, hH, stdH, Nat.le_refl, ncast, Int.ofNat_eq_natCast, vrow_I, Arm.eta2, Fld.eta, Grp.eta]
            rw [w1 (by omega), shK_z (by omega) h3, shP_eq]
            simp only [Int.toNat_natCast, ByteArray.append_assoc]
            all_goals (repeat' (with_reducible refine And.intro ?_ ?_)) <;> (first | exact Eq.refl _ | exact True.intro | exact Nat.le_refl _ | exact RowsEq.self okRA | exact RowsEq.ofT okRA rfl (Shp_zero _) rfl | exact RowsEq.snoc okRA rfl | exact RowsEq.self okI | exact RowsEq.ofT okI rfl (Shp_zero _) rfl | exact RowsEq.snoc okI rfl | exact RowsEq.more okI (Shp_I _ _) (Tl_I _) | exact List.length_append | exact c.rqN)
    · simp only [hH, stdH, Nat.le_refl, decide_eq_true_eq, decide_eq_false_iff_not, Bool.not_eq_true', Bool.not_eq_false', peta, ncast, Int.ofNat_eq_natCast, beq_iff_eq, bne_iff_ne, beq_eq_false_iff_ne, bne_eq_false_iff_eq, ne_eq, Classical.not_not, Int.toNat_natCast, vrow_I, Arm.eta2, Fld.eta, Grp.eta] at h3
      obtain rfl : i = F.length := by omega
      try simp only [hH, stdH, Nat.le_refl, decide_eq_true_eq, decide_eq_false_iff_not, Bool.not_eq_true', Bool.not_eq_false', peta, ncast, Int.ofNat_eq_natCast, beq_iff_eq, bne_iff_ne, beq_eq_false_iff_ne, bne_eq_false_iff_eq, ne_eq, Classical.not_not, Int.toNat_natCast, vrow_I, Arm.eta2, Fld.eta, Grp.eta]
      unfold shK
      rw [List.take_length]
noncomputable def e_l20Text : Entry := pureE 58 fun H a => match a with
  | [.agg [.lit (.int .i64 s0), .vec 15 s1n s1f]] => some (.lit (.string (H ByteArray fun _ => shT (⟨s0, (Tl rowA s1n s1f)⟩ : Shd))), [H Prop fun _ => Shp rowA s1n s1f, H Prop fun _ => okH (⟨s0, (Tl rowA s1n s1f)⟩ : Shd) = true])
  | _ => none
theorem eok_l20Text : EntryOk Tryz.prog e_l20Text := pureM_ok (by unfold isBody; kernel_rfl) (by
  intro a r ob e hob
  split at e
  · rename_i s0 s1n s1f
    simp only [Option.some.injEq, Prod.mk.injEq] at e
    obtain ⟨rfl, rfl⟩ := e
    exact ConN.args (.cons (.agg (.cons .rfl (.cons (.toT okRA rfl hob.1) .nil))) .nil) (c_l20Text (⟨s0, (Tl rowA s1n s1f)⟩ : Shd) hob.2.1)
  · simp at e)

end Go.Proofs.YtbnohmfapmeaaaaGreatDoor.AM

