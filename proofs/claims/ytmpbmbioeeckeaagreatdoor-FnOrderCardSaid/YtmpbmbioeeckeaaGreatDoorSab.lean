import Derived.Test.YtmpbmbioeeckeaaGreatDoorAmT
import Derived.Test.YtmpbmbioeeckeaaGreatDoorSas
set_option linter.unusedVariables false
set_option linter.unusedSimpArgs false
set_option maxRecDepth 100000
set_option maxHeartbeats 4000000
set_option cbv.maxSteps 3000000
namespace Go.Proofs.YtmpbmbioeeckeaaGreatDoor.AM
/- Arms sorted: the reference's; conditions: none. -/
def insA (ts : List ByteArray) (out : List Int) (i : Int) : Nat → List Int
  | 0 => i :: out
  | k + 1 => bif ltX ts i (out.getD k 0) then insA ts out i k else out.take (k + 1) ++ i :: out.drop (k + 1)
def insAll (ts : List ByteArray) : Nat → List Int
  | 0 => []
  | i + 1 => insA ts (insAll ts i) i (insAll ts i).length
theorem insA_len (ts : List ByteArray) (out : List Int) (i : Int) : ∀ k, (insA ts out i k).length = out.length + 1
  | 0 => rfl
  | k + 1 => by
    unfold insA
    cases ltX ts i (out.getD k 0)
    · simp; omega
    · exact insA_len ts out i k
theorem insA_mem {ts : List ByteArray} {out : List Int} {i x : Int} : ∀ {k}, x ∈ insA ts out i k → x = i ∨ x ∈ out
  | 0, h => by simpa [insA] using h
  | k + 1, h => by
    unfold insA at h
    cases hl : ltX ts i (out.getD k 0)
    · rw [hl, cond_false] at h
      rcases List.mem_append.1 h with h | h
      · exact .inr (List.mem_of_mem_take h)
      · rcases List.mem_cons.1 h with h | h
        · exact .inl h
        · exact .inr (List.mem_of_mem_drop h)
    · rw [hl] at h
      exact insA_mem h
theorem insAll_len (ts : List ByteArray) : ∀ i, (insAll ts i).length = i
  | 0 => rfl
  | i + 1 => by rw [insAll, insA_len, insAll_len ts i]
theorem insAll_mem {ts : List ByteArray} : ∀ {i : Nat} {x : Int}, x ∈ insAll ts i → inR i x
  | i + 1, x, h => by
    rcases insA_mem h with rfl | h
    · exact ⟨by omega, by omega⟩
    · have := insAll_mem h
      exact ⟨this.1, by have := this.2; omega⟩
theorem less_tot : ∀ a b : List UInt8, (!(Op.bytesLess a b || a == b)) = Op.bytesLess b a
  | [], [] => rfl
  | [], _ :: _ => rfl
  | _ :: _, [] => rfl
  | a :: a2, b :: b2 => by
    have ih := less_tot a2 b2
    unfold Op.bytesLess
    by_cases h1 : a < b
    · have h2 : ¬ b < a := fun h => absurd (UInt8.lt_trans h1 h) (UInt8.lt_irrefl a)
      have h3 : ¬ b = a := fun h => by subst h; exact absurd h1 (UInt8.lt_irrefl _)
      simp [h1, h2, h3]
    · by_cases h2 : b < a
      · have h3 : ¬ a = b := fun h => by subst h; exact absurd h2 (UInt8.lt_irrefl _)
        simp [h1, h2, h3]
      · have h3 : a = b := by
          have h4 : ¬ a.toNat < b.toNat := h1
          have h5 : ¬ b.toNat < a.toNat := h2
          exact UInt8.toNat_inj.1 (by omega)
        subst h3
        simpa [h1] using ih
theorem PlI (n : Nat) (L : List Int) : Plain n (rowsI stdH fun _ => L) := of_eq_true (Plain_rowsI n stdH fun _ => L)
theorem ins_tl {A : List Int} {i k : Nat} (hA : A.length = i) (hk : k ≤ i) : Tl rowI k (dropR 0 1 (rowsI stdH fun _ => A)) = A.take k ∧ Shp rowI k (dropR 0 1 (rowsI stdH fun _ => A)) ∧ Tl rowI (i - k) (dropR (k * 1) 1 (rowsI stdH fun _ => A)) = A.drop k ∧ Shp rowI (i - k) (dropR (k * 1) 1 (rowsI stdH fun _ => A)) := by
  subst hA
  refine ⟨?_, ?_, ?_, ?_⟩
  · have := Tl_dropR (D := rowI) (a := 0) (k := 1) (m := k) (by omega) (Tl_I A) (by omega)
    rw [Nat.zero_mul, List.drop_zero] at this
    exact this
  · have := Shp_dropR (D := rowI) (a := 0) (k := 1) (m := k) (by omega) (Shp_I A.length A) (by omega)
    rw [Nat.zero_mul] at this
    exact this
  · have := Tl_dropR (D := rowI) (a := k) (k := 1) (m := A.length - k) (by omega) (Tl_I A) (by omega)
    rw [this, List.take_of_length_le (by rw [List.length_drop]; omega)]
  · exact Shp_dropR (D := rowI) (by omega) (Shp_I A.length A) (by omega)
theorem appZ {k : Nat} {f g : Nat → List AV} : Tl rowI k (app 0 f g) = Tl rowI k g := by
  have := Tl_app (D := rowI) 0 k f g
  rw [Nat.zero_add, Tl_zero, List.nil_append] at this
  exact this
theorem appZs {k : Nat} {f g : Nat → List AV} (h : Shp rowI k g) : Shp rowI k (app 0 f g) := by
  have := Shp_app (D := rowI) (n := 0) (f := f) (Shp_zero _) h
  rw [Nat.zero_add] at this
  exact this
theorem ins_rows {A B : List Int} {i k : Nat} {x : Int} (hA : A.length = i) (hk : k ≤ i) (hB : B = A.take k ++ x :: A.drop k) : RowsEq 1 B.length (rowsI stdH fun _ => B) (k + 1 + (i - k)) (app (k + 1) (app k (app 0 (rowsOf 1 []) (dropR 0 1 (rowsI stdH fun _ => A))) (rowsN .i64 stdH fun _ => [x])) (dropR (k * 1) 1 (rowsI stdH fun _ => A))) := by
  obtain ⟨a, b, c, d⟩ := ins_tl hA hk
  refine RowsEq.ofT okI rfl (Shp_app (Shp_app (appZs b) (Shp_I 1 [x])) d) ?_
  rw [Tl_app, Tl_app, appZ, a, c, hB]
  have e : Tl rowI 1 (rowsN .i64 stdH fun _ => [x]) = [x] := Tl_I [x]
  rw [e, List.append_assoc]; rfl
theorem ins_plain {A : List Int} {i k : Nat} {x : Int} (hA : A.length = i) (hk : k ≤ i) : Plain k (app 0 (rowsOf 1 []) (dropR 0 1 (rowsI stdH fun _ => A))) ∧ Plain (k + 1 + (i - k)) (app (k + 1) (app k (app 0 (rowsOf 1 []) (dropR 0 1 (rowsI stdH fun _ => A))) (rowsN .i64 stdH fun _ => [x])) (dropR (k * 1) 1 (rowsI stdH fun _ => A))) := by
  have h1 : Plain k (dropR 0 1 (rowsI stdH fun _ => A)) := by
    have := Plain.drop (a := 0) (k := 1) (m := k) (n := i) (by omega) (PlI i A) (by omega)
    rw [Nat.zero_mul] at this
    exact this
  have h2 : Plain k (app 0 (rowsOf 1 []) (dropR 0 1 (rowsI stdH fun _ => A))) := by
    have := Plain.app (n := 0) (f := rowsOf 1 []) (Plain_zero _) h1
    rw [Nat.zero_add] at this
    exact this
  exact ⟨h2, Plain.app (Plain.app h2 (PlI 1 [x])) (Plain.drop (a := k) (k := 1) (m := i - k) (n := i) (by omega) (PlI i A) (by omega))⟩
def ok20 (l : List Arm) : Bool := decide (l.length ≤ 20) && !l.any (fun y => !okA y)
theorem ok20_of {l : List Arm} (h : l.length ≤ 20) (k : ∀ j, j < l.length → okA (l.getD j default) = true) : ok20 l = true := by
  unfold ok20
  rw [decide_eq_true h, Bool.true_and, Bool.not_eq_true', List.any_eq_false]
  intro x hx
  obtain ⟨j, hj, rfl⟩ := List.getElem_of_mem hx
  have := k j hj
  rw [List.getD_eq_getElem?_getD, List.getElem?_eq_getElem hj, Option.getD_some] at this
  simp [this]
theorem ok20_no {l : List Arm} {j : Nat} (hj : j < l.length) (k : okA (l.getD j default) = false) : ok20 l = false := by
  unfold ok20
  have : l.any (fun y => !okA y) = true := List.any_eq_true.2 ⟨_, getDm (d := default) hj, by rw [k]; rfl⟩
  rw [this, Bool.not_true, Bool.and_false]
theorem nilI {n : Nat} {f g : Nat → List AV} (h : n = 0) : RowsEq 1 n f 0 g := ⟨h, fun j hj => by omega⟩
theorem c_l6Sort (l : List Arm) (h0 : l.length ≤ 2000000) : ConN Tryz.prog 7 [.vec 15 (stdH Nat fun _ => (l).length) (rowsA stdH fun _ => l)] [] 0 (.tup [.slc 0 0 1 (stdH Nat fun _ => (if ok20 l then insAll (l.map armT) l.length else []).length), .lit (.bool (stdH Bool fun _ => ok20 l))]) [.rows 1 (stdH Nat fun _ => (if ok20 l then insAll (l.map armT) l.length else []).length) (rowsI stdH fun _ => if ok20 l then insAll (l.map armT) l.length else []) 3] [] := by
  have hB : Base Tryz.prog (tabΓ [e_l5Good, e_l6Text]) tabO := base_of tabOkO (ents_cons eok_l5Good <| ents_cons eok_l6Text <| ents_nil)
  refine con_m (N := 61) hB (draw_ok hB mixed) Tryz.func7 rfl rfl (fun H => [.vec 15 (H Nat fun _ => (l).length) (rowsA H fun _ => l)]) (fun _ => []) 0 (fun H => .tup [.slc 0 0 1 (H Nat fun _ => (if ok20 l then insAll (l.map armT) l.length else []).length), .lit (.bool (H Bool fun _ => ok20 l))]) (fun H => [.rows 1 (H Nat fun _ => (if ok20 l then insAll (l.map armT) l.length else []).length) (rowsI H fun _ => if ok20 l then insAll (l.map armT) l.length else []) 3]) (fun _ => []) 300 (by simp) (fun x hx => ?_) (by simp [lk]) (by omega) (by simp) ?_
  · simp only [List.mem_cons, List.not_mem_nil, or_false] at hx
    rcases hx with rfl
    · exact vl_bl okRA l _
  intro X hX hX0 H hH
  conv in Fin.chk _ _ => cbv
  try simp only [Plain_rowsA, Plain_rowsB, Plain_rowsC, Plain_rowsF, Plain_rowsG, Plain_rowsI, Plain_rowsS, Plain_rowsU, Fin.satC_ret, Fin.satC_br, Fin.satC_need, Fin.satC_again, AllP, and_true, true_and, upd, List.length_nil, List.length_cons, Nat.zero_add, if_true, ncast, Int.ofNat_eq_natCast]
  refine ⟨fun h => ?_, fun h => ?_⟩
  · simp only [hH, stdH, decide_eq_true_eq, decide_eq_false_iff_not, Bool.not_eq_true', Bool.not_eq_false', peta, ncast, Int.ofNat_eq_natCast, beq_iff_eq, bne_iff_ne, beq_eq_false_iff_ne, bne_eq_false_iff_eq, ne_eq, Classical.not_not, Int.toNat_natCast, vrow_I, Arm.eta2, Fld.eta, Grp.eta] at h ⊢
    have : ok20 l = false := by unfold ok20; rw [decide_eq_false (by omega)]; rfl
    rw [this]
    exact ⟨nilI rfl, rfl, rfl⟩
  · have h20 : l.length ≤ 20 := by
      simp only [hH, stdH, decide_eq_true_eq, decide_eq_false_iff_not, Bool.not_eq_true', Bool.not_eq_false', peta, ncast, Int.ofNat_eq_natCast, beq_iff_eq, bne_iff_ne, beq_eq_false_iff_ne, bne_eq_false_iff_eq, ne_eq, Classical.not_not, Int.toNat_natCast, vrow_I, Arm.eta2, Fld.eta, Grp.eta] at h
      omega
    refine loop_a hB (draw_ok hB mixed) hX hX0 hH false (ι := { i : Nat // i ≤ l.length ∧ ∀ j, j < i → okA (l.getD j default) = true }) 300 (fun i => [.r (H Nat fun _ => (insAll (l.map armT) i.1).length) (rowsI H fun _ => insAll (l.map armT) i.1), .i (H Int fun _ => (i.1 : Nat))]) (fun i => l.length - i.1) (⟨0, by omega, by omega⟩) ?_ ?_
    · (conv in matchSt _ _ _ _ => cbv); simp only [AllG, AllP, and_true, hH, stdH, ncast, Int.ofNat_eq_natCast, vrow_I, Arm.eta2, Fld.eta, Grp.eta]
      (repeat' (first | rfl | trivial | exact RowsEq.self okI | exact RowsEq.ofT okI rfl (Shp_zero _) rfl | exact RowsEq.snoc okI rfl | exact RowsEq.more okI (Shp_I _ _) (Tl_I _) | exact RowsEq.self okRA | exact RowsEq.ofT okRA rfl (Shp_zero _) rfl | exact RowsEq.snoc okRA rfl | exact RowsEq.self okI | exact RowsEq.self okRA | exact List.length_append | refine And.intro ?_ ?_))
    · intro I hI i
      conv in Fin.chk _ _ => cbv
      try simp only [Plain_rowsA, Plain_rowsB, Plain_rowsC, Plain_rowsF, Plain_rowsG, Plain_rowsI, Plain_rowsS, Plain_rowsU, Fin.satC_ret, Fin.satC_br, Fin.satC_need, Fin.satC_again, AllP, and_true, true_and, upd, List.length_nil, List.length_cons, Nat.zero_add, if_true, ncast, Int.ofNat_eq_natCast]
      obtain ⟨i, hi, hall⟩ := i
      have el := insAll_len (l.map armT) i
      refine ⟨fun k1 => ⟨?_, fun k2 => ?_, fun k2 => ?_⟩, fun k1 => ?_⟩
      · simp only [hH, stdH, decide_eq_true_eq, decide_eq_false_iff_not, Bool.not_eq_true', Bool.not_eq_false', peta, ncast, Int.ofNat_eq_natCast, beq_iff_eq, bne_iff_ne, beq_eq_false_iff_ne, bne_eq_false_iff_eq, ne_eq, Classical.not_not, Int.toNat_natCast, vrow_I, Arm.eta2, Fld.eta, Grp.eta] at k1 ⊢
        omega
      · simp only [hH, stdH, decide_eq_true_eq, decide_eq_false_iff_not, Bool.not_eq_true', Bool.not_eq_false', peta, ncast, Int.ofNat_eq_natCast, beq_iff_eq, bne_iff_ne, beq_eq_false_iff_ne, bne_eq_false_iff_eq, ne_eq, Classical.not_not, Int.toNat_natCast, vrow_I, Arm.eta2, Fld.eta, Grp.eta] at k1
        have hno : ok20 l = false := by
          simp only [hH, stdH, Int.toNat_natCast] at k2
          simp only [Arm.eta2, Fld.eta, Grp.eta] at k2
          exact ok20_no (j := i) (by omega) (by simpa using k2)
        simp only [hH, stdH, hno]
        exact ⟨nilI rfl, trivial, rfl⟩
      · simp only [hH, stdH, decide_eq_true_eq, decide_eq_false_iff_not, Bool.not_eq_true', Bool.not_eq_false', peta, ncast, Int.ofNat_eq_natCast, beq_iff_eq, bne_iff_ne, beq_eq_false_iff_ne, bne_eq_false_iff_eq, ne_eq, Classical.not_not, Int.toNat_natCast, vrow_I, Arm.eta2, Fld.eta, Grp.eta] at k1
        have hik : okA (l.getD i default) = true := by
          simp only [hH, stdH, Int.toNat_natCast] at k2
          simp only [Arm.eta2, Fld.eta, Grp.eta] at k2
          simpa using k2
        have hall2 : ∀ j, j < i + 1 → okA (l.getD j default) = true := fun j hj => by
          rcases Nat.lt_succ_iff_lt_or_eq.1 hj with h | rfl
          · exact hall j h
          · exact hik
        clear k2
        refine loop_a hB (draw_ok hB mixed) hX hX0 hH true (ι := { k : Nat // k ≤ i ∧ insA (l.map armT) (insAll (l.map armT) i) i k = insAll (l.map armT) (i + 1) }) 300 (fun k => [.i (H Int fun _ => (k.1 : Nat))]) (fun k => k.1) (⟨i, Nat.le_refl _, by rw [insAll, el]⟩) ?_ ?_
        · (conv in matchSt _ _ _ _ => cbv); simp only [AllG, AllP, and_true, hH, stdH, ncast, Int.ofNat_eq_natCast, vrow_I, Arm.eta2, Fld.eta, Grp.eta]
          have e0 := RowsEq.self okI (L := insAll (l.map armT) i)
          rw [el] at e0 ⊢
          (repeat' (first | trivial | exact e0 | exact RowsEq.self okRA | refine And.intro ?_ ?_))
        · intro J hJ k
          conv in Fin.chk _ _ => cbv
          try simp only [Plain_rowsA, Plain_rowsB, Plain_rowsC, Plain_rowsF, Plain_rowsG, Plain_rowsI, Plain_rowsS, Plain_rowsU, Fin.satC_ret, Fin.satC_br, Fin.satC_need, Fin.satC_again, AllP, and_true, true_and, upd, List.length_nil, List.length_cons, Nat.zero_add, if_true, ncast, Int.ofNat_eq_natCast]
          obtain ⟨k, hk, he⟩ := k
          have q0 : 0 < k → IntKind.i64.wrap ((k : Int) - 1) = ((k - 1 : Nat) : Int) := fun h => wsub h (by omega)
          have hm : 0 < k → inR i ((insAll (l.map armT) i).getD (k - 1) 0) := fun h => insAll_mem (getDm (by rw [el]; omega))
          have hok : 0 < k → okA (l.getD ((insAll (l.map armT) i).getD (k - 1) 0).toNat default) = true := fun h => hall _ (by have := hm h; unfold inR at this; omega)
          have hcmp : 0 < k → (!(Op.bytesLess (armT (l.getD ((insAll (l.map armT) i).getD (k - 1) 0).toNat default)).toList (armT (l.getD i default)).toList || (armT (l.getD ((insAll (l.map armT) i).getD (k - 1) 0).toNat default)).toList == (armT (l.getD i default)).toList)) = ltX (l.map armT) i ((insAll (l.map armT) i).getD (k - 1) 0) := fun h => by
            have := hm h
            unfold inR at this
            rw [less_tot]
            unfold ltX ltS
            have g1 : ∀ q, q < l.length → (l.map armT).getD q ByteArray.empty = armT (l.getD q default) := fun q hq => by
              simp only [List.getD_eq_getElem?_getD, List.getElem?_map, List.getElem?_eq_getElem hq, Option.map_some, Option.getD_some]
            rw [Int.toNat_natCast, g1 i (by omega), g1 _ (by omega)]
          refine ⟨?_, ?_, ?_, ?_, ?_, ?_, fun k2 => ?_, fun k2 => ?_⟩
          · try simp only [hH, stdH, decide_eq_true_eq, decide_eq_false_iff_not, Bool.not_eq_true', Bool.not_eq_false', peta, ncast, Int.ofNat_eq_natCast, beq_iff_eq, bne_iff_ne, beq_eq_false_iff_ne, bne_eq_false_iff_eq, ne_eq, Classical.not_not, Int.toNat_natCast, vrow_I, Arm.eta2, Fld.eta, Grp.eta]
            intro h
            rw [q0 (by omega)]
            omega
          · try simp only [hH, stdH, decide_eq_true_eq, decide_eq_false_iff_not, Bool.not_eq_true', Bool.not_eq_false', peta, ncast, Int.ofNat_eq_natCast, beq_iff_eq, bne_iff_ne, beq_eq_false_iff_ne, bne_eq_false_iff_eq, ne_eq, Classical.not_not, Int.toNat_natCast, vrow_I, Arm.eta2, Fld.eta, Grp.eta]
            intro h
            rw [q0 (by omega)]
            exact ⟨by omega, rfl⟩
          · try simp only [hH, stdH, decide_eq_true_eq, decide_eq_false_iff_not, Bool.not_eq_true', Bool.not_eq_false', peta, ncast, Int.ofNat_eq_natCast, beq_iff_eq, bne_iff_ne, beq_eq_false_iff_ne, bne_eq_false_iff_eq, ne_eq, Classical.not_not, Int.toNat_natCast, vrow_I, Arm.eta2, Fld.eta, Grp.eta]
            intro h
            rw [q0 (by omega), Int.toNat_natCast]
            have := hm (by omega)
            unfold inR at this
            omega
          · try simp only [hH, stdH, decide_eq_true_eq, decide_eq_false_iff_not, Bool.not_eq_true', Bool.not_eq_false', peta, ncast, Int.ofNat_eq_natCast, beq_iff_eq, bne_iff_ne, beq_eq_false_iff_ne, bne_eq_false_iff_eq, ne_eq, Classical.not_not, Int.toNat_natCast, vrow_I, Arm.eta2, Fld.eta, Grp.eta]
            intro h
            rw [q0 (by omega), Int.toNat_natCast]
            exact hok (by omega)
          · try simp only [hH, stdH, decide_eq_true_eq, decide_eq_false_iff_not, Bool.not_eq_true', Bool.not_eq_false', peta, ncast, Int.ofNat_eq_natCast, beq_iff_eq, bne_iff_ne, beq_eq_false_iff_ne, bne_eq_false_iff_eq, ne_eq, Classical.not_not, Int.toNat_natCast, vrow_I, Arm.eta2, Fld.eta, Grp.eta]
            intro h
            omega
          · try simp only [hH, stdH, decide_eq_true_eq, decide_eq_false_iff_not, Bool.not_eq_true', Bool.not_eq_false', peta, ncast, Int.ofNat_eq_natCast, beq_iff_eq, bne_iff_ne, beq_eq_false_iff_ne, bne_eq_false_iff_eq, ne_eq, Classical.not_not, Int.toNat_natCast, vrow_I, Arm.eta2, Fld.eta, Grp.eta]
            intro h
            exact hik
          · have h3 : 0 < k ∧ ltX (l.map armT) i ((insAll (l.map armT) i).getD (k - 1) 0) = true := by
              simp only [hH, stdH, Int.toNat_natCast] at k2
              simp only [Arm.eta2, Fld.eta, Grp.eta] at k2
              cases hk0 : decide (0 < (k : Int)) <;> simp only [hk0, cond_true, cond_false] at k2
              · cases k2
              · rw [decide_eq_true_eq] at hk0
                rw [q0 (by omega), Int.toNat_natCast, hcmp (by omega)] at k2
                exact ⟨by omega, k2⟩
            obtain ⟨p, rfl⟩ : ∃ p, k = p + 1 := ⟨k - 1, by omega⟩
            rw [Nat.add_sub_cancel] at h3
            refine ⟨⟨p, by omega, ?_⟩, Nat.lt_succ_self _, ?_⟩
            · rw [← he]
              show _ = (bif ltX (l.map armT) i ((insAll (l.map armT) i).getD p 0) then _ else _)
              rw [h3.2]; rfl
            · rw [hJ]
              (conv in matchSt _ _ _ _ => cbv); simp only [AllG, AllP, and_true, hH, stdH, ncast, Int.ofNat_eq_natCast, vrow_I, Arm.eta2, Fld.eta, Grp.eta]
              rw [q0 (by omega)]
              (repeat' (first | rfl | trivial | exact RowsEq.self okI | exact RowsEq.ofT okI rfl (Shp_zero _) rfl | exact RowsEq.snoc okI rfl | exact RowsEq.more okI (Shp_I _ _) (Tl_I _) | exact RowsEq.self okRA | exact RowsEq.ofT okRA rfl (Shp_zero _) rfl | exact RowsEq.snoc okRA rfl | exact RowsEq.self okI | exact RowsEq.self okRA | exact List.length_append | refine And.intro ?_ ?_))
          · have he2 : insAll (l.map armT) (i + 1) = (insAll (l.map armT) i).take k ++ (i : Int) :: (insAll (l.map armT) i).drop k := by
              rw [← he]
              cases k with
              | zero => simp [insA]
              | succ p =>
                simp only [hH, stdH, Int.toNat_natCast] at k2
                simp only [Arm.eta2, Fld.eta, Grp.eta] at k2
                rw [decide_eq_true (show 0 < ((p + 1 : Nat) : Int) by omega), cond_true, q0 (by omega), Int.toNat_natCast, hcmp (by omega), Nat.add_sub_cancel] at k2
                show (bif ltX (l.map armT) i ((insAll (l.map armT) i).getD p 0) then _ else _) = _
                rw [k2]; rfl
            obtain ⟨p1, p2⟩ := ins_plain (x := (i : Int)) el hk
            have r1 := ins_rows (x := (i : Int)) el hk he2
            rw [if_neg (by decide)]
            have sz : hiOf (insAll (l.map armT) i).length (some (k : Int)) - loOf none = k := by simp [hiOf, loOf]
            have sz2 : hiOf (insAll (l.map armT) i).length none - loOf (some (k : Int)) = i - k := by simp [hiOf, loOf, el]
            have ok1 : okB (insAll (l.map armT) i).length none (some (k : Int)) := ⟨trivial, by omega, by simp [hiOf, loOf], by rw [el]; simpa [hiOf] using hk⟩
            have ok2 : okB (insAll (l.map armT) i).length (some (k : Int)) none := ⟨by omega, trivial, by rw [el]; simpa [hiOf, loOf] using hk, Nat.le_refl _⟩
            refine ⟨?_, ⟨?_, (by subst hH; trivial), ?_, ?_⟩, ⟨(by subst hH; trivial), ?_⟩, ?_, ⟨?_, (by subst hH; trivial), ?_, ?_⟩, ⟨i + 1, by omega, hall2⟩, by simp only; omega, ?_⟩
            · try simp only [hH, stdH, decide_eq_true_eq, decide_eq_false_iff_not, Bool.not_eq_true', Bool.not_eq_false', peta, ncast, Int.ofNat_eq_natCast, beq_iff_eq, bne_iff_ne, beq_eq_false_iff_ne, bne_eq_false_iff_eq, ne_eq, Classical.not_not, Int.toNat_natCast, vrow_I, Arm.eta2, Fld.eta, Grp.eta]
              exact ok1
            · try simp only [hH, stdH, decide_eq_true_eq, decide_eq_false_iff_not, Bool.not_eq_true', Bool.not_eq_false', peta, ncast, Int.ofNat_eq_natCast, beq_iff_eq, bne_iff_ne, beq_eq_false_iff_ne, bne_eq_false_iff_eq, ne_eq, Classical.not_not, Int.toNat_natCast, vrow_I, Arm.eta2, Fld.eta, Grp.eta]
              rw [sz, el]
              exact ⟨by omega, fun _ _ => rfl⟩
            · try simp only [hH, stdH, decide_eq_true_eq, decide_eq_false_iff_not, Bool.not_eq_true', Bool.not_eq_false', peta, ncast, Int.ofNat_eq_natCast, beq_iff_eq, bne_iff_ne, beq_eq_false_iff_ne, bne_eq_false_iff_eq, ne_eq, Classical.not_not, Int.toNat_natCast, vrow_I, Arm.eta2, Fld.eta, Grp.eta]
              rw [sz]
              omega
            · try simp only [hH, stdH, decide_eq_true_eq, decide_eq_false_iff_not, Bool.not_eq_true', Bool.not_eq_false', peta, ncast, Int.ofNat_eq_natCast, beq_iff_eq, bne_iff_ne, beq_eq_false_iff_ne, bne_eq_false_iff_eq, ne_eq, Classical.not_not, Int.toNat_natCast, vrow_I, Arm.eta2, Fld.eta, Grp.eta]
              rw [sz]
              exact p1
            · try simp only [hH, stdH, decide_eq_true_eq, decide_eq_false_iff_not, Bool.not_eq_true', Bool.not_eq_false', peta, ncast, Int.ofNat_eq_natCast, beq_iff_eq, bne_iff_ne, beq_eq_false_iff_ne, bne_eq_false_iff_eq, ne_eq, Classical.not_not, Int.toNat_natCast, vrow_I, Arm.eta2, Fld.eta, Grp.eta]
              rw [sz]
              omega
            · try simp only [hH, stdH, decide_eq_true_eq, decide_eq_false_iff_not, Bool.not_eq_true', Bool.not_eq_false', peta, ncast, Int.ofNat_eq_natCast, beq_iff_eq, bne_iff_ne, beq_eq_false_iff_ne, bne_eq_false_iff_eq, ne_eq, Classical.not_not, Int.toNat_natCast, vrow_I, Arm.eta2, Fld.eta, Grp.eta]
              exact ok2
            · try simp only [hH, stdH, decide_eq_true_eq, decide_eq_false_iff_not, Bool.not_eq_true', Bool.not_eq_false', peta, ncast, Int.ofNat_eq_natCast, beq_iff_eq, bne_iff_ne, beq_eq_false_iff_ne, bne_eq_false_iff_eq, ne_eq, Classical.not_not, Int.toNat_natCast, vrow_I, Arm.eta2, Fld.eta, Grp.eta]
              rw [sz2, el]
              exact ⟨by omega, by omega, fun _ _ => rfl⟩
            · try simp only [hH, stdH, decide_eq_true_eq, decide_eq_false_iff_not, Bool.not_eq_true', Bool.not_eq_false', peta, ncast, Int.ofNat_eq_natCast, beq_iff_eq, bne_iff_ne, beq_eq_false_iff_ne, bne_eq_false_iff_eq, ne_eq, Classical.not_not, Int.toNat_natCast, vrow_I, Arm.eta2, Fld.eta, Grp.eta]
              rw [sz, sz2]
              omega
            · try simp only [hH, stdH, decide_eq_true_eq, decide_eq_false_iff_not, Bool.not_eq_true', Bool.not_eq_false', peta, ncast, Int.ofNat_eq_natCast, beq_iff_eq, bne_iff_ne, beq_eq_false_iff_ne, bne_eq_false_iff_eq, ne_eq, Classical.not_not, Int.toNat_natCast, vrow_I, Arm.eta2, Fld.eta, Grp.eta]
              rw [sz, sz2]
              exact p2
            · rw [hI]
              (conv in matchSt _ _ _ _ => cbv); simp only [AllG, AllP, and_true, hH, stdH, ncast, Int.ofNat_eq_natCast, vrow_I, Arm.eta2, Fld.eta, Grp.eta]
              simp only [Int.toNat_natCast]
              rw [sz, sz2, w1 (by omega)]
              (repeat' (first | trivial | exact r1 | exact r1.len | exact RowsEq.self okRA | refine And.intro ?_ ?_))
      · simp only [hH, stdH, decide_eq_true_eq, decide_eq_false_iff_not, Bool.not_eq_true', Bool.not_eq_false', peta, ncast, Int.ofNat_eq_natCast, beq_iff_eq, bne_iff_ne, beq_eq_false_iff_ne, bne_eq_false_iff_eq, ne_eq, Classical.not_not, Int.toNat_natCast, vrow_I, Arm.eta2, Fld.eta, Grp.eta] at k1 ⊢
        obtain rfl : i = l.length := by omega
        have hok : ok20 l = true := ok20_of h20 hall
        rw [hok]
        have := RowsEq.self okI (L := insAll (l.map armT) l.length)
        exact ⟨this, rfl, rfl⟩
noncomputable def e_l6Sort : Entry := pureN 7 fun H a => match a with
  | [.vec 15 ln lf] => some (fun nx => .tup [.slc nx 0 1 (H Nat fun _ => (if ok20 (Tl rowA ln lf) then insAll ((Tl rowA ln lf).map armT) (Tl rowA ln lf).length else []).length), .lit (.bool (H Bool fun _ => ok20 (Tl rowA ln lf)))], [.rows 1 (H Nat fun _ => (if ok20 (Tl rowA ln lf) then insAll ((Tl rowA ln lf).map armT) (Tl rowA ln lf).length else []).length) (rowsI H fun _ => if ok20 (Tl rowA ln lf) then insAll ((Tl rowA ln lf).map armT) (Tl rowA ln lf).length else []) 3], [H Prop fun _ => Shp rowA ln lf, H Prop fun _ => (Tl rowA ln lf).length ≤ 2000000])
  | _ => none
theorem eok_l6Sort : EntryOk Tryz.prog e_l6Sort := pureN_ok (by unfold isBody; kernel_rfl) (by
  intro a r nb ob e hob
  split at e
  · rename_i ln lf
    simp only [Option.some.injEq, Prod.mk.injEq] at e
    obtain ⟨rfl, rfl, rfl⟩ := e
    refine ⟨ConN.args (.cons (.toT okRA rfl hob.1) .nil) (c_l6Sort (Tl rowA ln lf) hob.2.1), fun x hx => ?_, fun nx => ?_, fun b hb => ?_⟩
    · simp only [List.mem_cons, List.not_mem_nil, or_false] at hx
      rcases hx with rfl
      · exact (hob.1).bl okRA _
    · (first | exact .slc ⟨by omega, by simp⟩ (by omega) | (refine .tup rfl (fun c x y hx hy => ?_); rcases c with _ | _ | _ | c <;> simp at hx hy <;> (subst hx; subst hy; first | exact .slc ⟨by omega, by simp⟩ (by omega) | exact .pl .lit | exact .pl (blq_ok 4 rfl))))
    · simp only [List.mem_cons, List.not_mem_nil, or_false] at hb; subst hb; exact bT_bl okI _ (fun _ => if ok20 (Tl rowA ln lf) then insAll ((Tl rowA ln lf).map armT) (Tl rowA ln lf).length else []) _
  · simp at e)
theorem insA_bub (ts : List ByteArray) (out : List Int) (x : Int) (rest : List Int) : ∀ k, k ≤ out.length → bub (ltX ts) 0 k (out.take k ++ x :: (out.drop k ++ rest)) = insA ts out x k ++ rest
  | 0, _ => by simp [bub, insA]
  | k + 1, hk => by
    have g1 : (out.take (k + 1) ++ x :: (out.drop (k + 1) ++ rest)).getD (k + 1) 0 = x := by
      rw [List.getD_eq_getElem?_getD, List.getElem?_append_right (by simp; omega)]
      simp [List.length_take, Nat.min_eq_left hk]
    have g2 : (out.take (k + 1) ++ x :: (out.drop (k + 1) ++ rest)).getD k 0 = out.getD k 0 := by
      rw [List.getD_eq_getElem?_getD, List.getElem?_append_left (by simp; omega), List.getD_eq_getElem?_getD, List.getElem?_take]
      simp
    unfold bub
    rw [g1, g2]
    unfold insA
    cases hl : ltX ts x (out.getD k 0) with
    | false =>
      simp only [cond_false, List.append_assoc, List.cons_append]
    | true =>
      simp only [cond_true]
      rw [← insA_bub ts out x rest k (by omega)]
      congr 1
      have hkl : k < out.length := by omega
      have e1 : out.drop k = out.getD k 0 :: out.drop (k + 1) := by
        rw [List.drop_eq_getElem_cons hkl, List.getD_eq_getElem?_getD, List.getElem?_eq_getElem hkl, Option.getD_some]
      have e2 : out.take (k + 1) = out.take k ++ [out.getD k 0] := by
        rw [List.take_succ_eq_append_getElem hkl, List.getD_eq_getElem?_getD, List.getElem?_eq_getElem hkl, Option.getD_some]
      unfold swp
      rw [Nat.add_sub_cancel, g1, g2, e1, e2]
      have hlen : (out.take k).length = k := by rw [List.length_take]; omega
      rw [List.append_assoc]
      rw [List.set_append_right _ _ (by rw [hlen]; omega), List.set_append_right _ _ (by rw [hlen]; omega), hlen]
      simp
theorem isr_ins (ts : List ByteArray) (n : Nat) : ∀ i, i < n → isr (ltX ts) 0 (iot n) i = insAll ts (i + 1) ++ (iot n).drop (i + 1)
  | 0, h => by
    have e : iot n = (0 : Int) :: (iot n).drop 1 := by
      obtain ⟨m, rfl⟩ : ∃ m, n = m + 1 := ⟨n - 1, by omega⟩
      simp [iot, List.range_succ_eq_map]
    show iot n = insA ts [] 0 0 ++ _
    exact e
  | i + 1, h => by
    have e : (iot n).drop (i + 1) = ((i + 1 : Nat) : Int) :: (iot n).drop (i + 2) := by
      rw [List.drop_eq_getElem_cons (by rw [iot_len]; exact h)]
      simp [iot]
    have hl := insAll_len ts (i + 1)
    rw [isr, isr_ins ts n i (by omega), e]
    have := insA_bub ts (insAll ts (i + 1)) ((i + 1 : Nat) : Int) ((iot n).drop (i + 2)) (i + 1) (by omega)
    rw [List.take_of_length_le (by omega), List.drop_of_length_le (by omega), List.nil_append] at this
    rw [this, show insAll ts (i + 1 + 1) = insA ts (insAll ts (i + 1)) ((i + 1 : Nat) : Int) (insAll ts (i + 1)).length from rfl, hl]
theorem srtA_ins (l : List Arm) : insAll (l.map armT) l.length = srtA l := by
  unfold srtA
  cases hl : l.length with
  | zero => rfl
  | succ n =>
    rw [Nat.add_sub_cancel, isr_ins _ _ n (by omega), List.drop_of_length_le (by rw [iot_len]; omega), List.append_nil]

end Go.Proofs.YtmpbmbioeeckeaaGreatDoor.AM
