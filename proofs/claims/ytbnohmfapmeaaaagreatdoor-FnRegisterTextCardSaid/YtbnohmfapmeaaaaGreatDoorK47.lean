/- Lemmas and contracts (Rgm); conditions: none. -/
import Derived.Test.YtbnohmfapmeaaaaGreatDoorK03
import Derived.Test.YtbnohmfapmeaaaaGreatDoorK25
import Derived.Test.YtbnohmfapmeaaaaGreatDoorK36
import Derived.Test.YtbnohmfapmeaaaaGreatDoorK44
import Derived.Test.YtbnohmfapmeaaaaGreatDoorK45
import Derived.Test.YtbnohmfapmeaaaaGreatDoorK46
set_option linter.unusedVariables false
set_option linter.unusedSimpArgs false
set_option maxRecDepth 100000
set_option maxHeartbeats 4000000
set_option cbv.maxSteps 3000000
namespace Go.Proofs.YtbnohmfapmeaaaaGreatDoor.AM
/- Registers read back by the program; conditions: none. -/
def nilG (k : Nat) : List AV → List AV
  | .agg [.lit (.slice none 0 0)] :: l => .agg [.vec (k + 1) 0 (fun _ => [])] :: l
  | l => l
theorem nilG_eq (k : Nat) (l : List AV) : AEqL l (nilG k l) := by
  unfold nilG
  split
  · exact .cons (AEq.agg (nilA_eq [k + 1] [.lit (.slice none 0 0)])) (AEqL.rfl _)
  · exact AEqL.rfl _
def nilJ (k : Nat) (e : Entry) : Entry := ⟨e.f, fun H a h n => e.fn H (nilG k a) h n⟩
theorem nilJ_ok {P : Program} {k : Nat} {e : Entry} (h : EntryOk P e) : EntryOk P (nilJ k e) := ⟨h.body, fun a hp n r nb rd u ob he hob => by
  obtain ⟨h1, h0, h2, h3⟩ := h.con _ _ _ _ _ _ _ _ he hob
  exact ⟨h1, h0, h2, h3.args (nilG_eq k a)⟩⟩
noncomputable def e_formatRN : Entry := nilJ 17 e_formatR
theorem eok_formatRN : EntryOk Tryz.prog e_formatRN := nilJ_ok eok_formatR
theorem hi_len {n : Nat} (h : IntKind.i64.wrap ((n : Int) - 1) = ((n - 1 : Nat) : Int)) : hiOf n (some (IntKind.i64.wrap ((n : Int) - 1))) - loOf none = n - 1 := by
  rw [h]
  show ((n - 1 : Nat) : Int).toNat - 0 = n - 1
  omega
theorem cond_rgR {L : List Grt} {t : ByteArray} : (bif !okRg L then true else !((rgR L).toList == t.toList)) = !decide (okRg L = true ∧ rgT L L.length = t) := by
  rw [beqT]
  cases h : okRg L
  · simp
  · rw [rgR_y h]; simp
theorem take_rdG {L : List ByteArray} {i : Nat} (h : i < L.length) : (L.take (i + 1)).map rdG = (L.take i).map rdG ++ [rdG (L.getD i ByteArray.empty)] := by
  rw [List.take_succ_eq_append_getElem h, List.map_append, List.map_cons, List.map_nil, List.getD_eq_getElem?_getD, List.getElem?_eq_getElem h, Option.getD_some]
theorem rdL_take {t : ByteArray} : ((pcs nlB t).take ((pcs nlB t).length - 1)).map rdG = rdL t := by rw [take_dl]; rfl
theorem rdL_len {t : ByteArray} : (rdL t).length = (pcs nlB t).length - 1 := by unfold rdL; rw [List.length_map, List.length_dropLast]
theorem rdG_nm (x : ByteArray) : (rdG x).name.size ≤ x.size := by
  show ((pcsN spB 3 x).getD 1 ByteArray.empty).size ≤ x.size
  exact getD_le2 (fun y hy => pcsN_sz spB 3 x y hy) 1
theorem rdL_nsz {t : ByteArray} (h : t.size ≤ 4000) : Nsz (rdL t) := ⟨fun g hg => by
  unfold rdL at hg
  obtain ⟨x, hx, rfl⟩ := List.mem_map.1 hg
  have h5 := pcs_sz (List.dropLast_subset _ hx)
  have h6 := rdG_nm x
  omega⟩
theorem RowsEq.selfN (L : List ByteArray) (n : Nat) : RowsEq 1 n (fun j => rowsS stdH (fun _ => L) j) n (fun j => rowsS stdH (fun _ => L) j) := ⟨rfl, fun j _ => ⟨rfl, rfl, fun x hx => by simp [rowsS] at hx; subst hx; exact .lit⟩⟩
theorem c_parseR (t : ByteArray) (h0 : t.size ≤ 2000000) : ConN Tryz.prog 16 [.lit (.string t)] [] 0 (.tup [aT rowJ stdH fun _ => (pR t).getD ⟨[]⟩, .lit (.bool (stdH Bool fun _ => (pR t).isSome))]) [] [] := by
  have hB : Base Tryz.prog (tabΓ [e_splitG, e_splitN, e_atoi, e_parseA, e_formatR, e_formatRN]) tabO := base_of tabOkO (ents_cons eok_splitG <| ents_cons eok_splitN <| ents_cons eok_atoi <| ents_cons eok_parseA <| ents_cons eok_formatR <| ents_cons eok_formatRN <| ents_nil)
  refine con_m (N := 84) hB (draw_ok hB mixed) Tryz.func16 rfl rfl (fun H => [.lit (.string t)]) (fun _ => []) 0 (fun H => .tup [aT rowJ H fun _ => (pR t).getD ⟨[]⟩, .lit (.bool (H Bool fun _ => (pR t).isSome))]) (fun H => []) (fun _ => []) 600 (by simp) (fun x hx => ?_) (by simp [lk]) (by omega) (by simp) ?_
  · simp only [List.mem_cons, List.not_mem_nil, or_false] at hx
    rcases hx with rfl
    · exact .lit
  intro X hX hX0 H hH
  conv in Fin.chk _ _ => cbv
  try simp only [Plain_rowsA, Plain_rowsB, Plain_rowsC, Plain_rowsD, Plain_rowsF, Plain_rowsG, Plain_rowsI, Plain_rowsS, Plain_rowsU, Fin.satC_ret, Fin.satC_br, Fin.satC_need, Fin.satC_again, AllP, and_true, true_and, upd, List.length_nil, List.length_cons, Nat.zero_add, if_true, ncast, zqe]
  have hp := pcs_len nlB t
  have eW : IntKind.i64.wrap (((pcs nlB t).length : Int) - 1) = (((pcs nlB t).length - 1 : Nat) : Int) := by rw [wi (by omega) (by omega)]; omega
  have en : pcs (⟨⟨[10]⟩⟩ : ByteArray) t = pcs nlB t := rfl
  have es : ∀ x, pcsN (⟨⟨[32]⟩⟩ : ByteArray) 3 x = pcsN spB 3 x := fun _ => rfl
  have eH : hiOf (pcs nlB t).length (some (IntKind.i64.wrap (((pcs nlB t).length : Int) - 1))) - loOf none = (pcs nlB t).length - 1 := hi_len eW
  have ez : loOf none + Int.toNat 0 = 0 := rfl
  have el : ∀ n : Nat, loOf none + n = n := fun n => Nat.zero_add n
  have z0 : Int.toNat 0 = 0 := rfl
  have z1 : Int.toNat 1 = 1 := rfl
  have z2 : Int.toNat 2 = 2 := rfl
  have z3 : Int.toNat 3 = 3 := rfl
  refine ⟨fun h1 => ⟨?_, ?_⟩, fun h1 => ⟨⟨?_, ?_⟩, ?_, ?_⟩⟩
  · have e : pR t = none := by
      refine pR_sz ?_
      simp only [hH, stdH, decide_eq_true_eq] at h1
      omega
    try simp only [hH, stdH, zql, zqa, zqb, zqc, zqd, peta, ncast, zqe, zqf, zqg, zqh, zqi, ne_eq, zqj, zqk, vrow_I, Arm.eta2, Fld.eta, Grp.eta]
    rw [e]; rfl
  · have e : pR t = none := by
      refine pR_sz ?_
      simp only [hH, stdH, decide_eq_true_eq] at h1
      omega
    try simp only [hH, stdH, zql, zqa, zqb, zqc, zqd, peta, ncast, zqe, zqf, zqg, zqh, zqi, ne_eq, zqj, zqk, vrow_I, Arm.eta2, Fld.eta, Grp.eta]
    rw [e]; rfl
  · try simp only [hH, stdH, zql, zqa, zqb, zqc, zqd, peta, ncast, zqe, zqf, zqg, zqh, zqi, ne_eq, zqj, zqk, vrow_I, Arm.eta2, Fld.eta, Grp.eta]
    omega
  · try simp only [hH, stdH, zql, zqa, zqb, zqc, zqd, peta, ncast, zqe, zqf, zqg, zqh, zqi, ne_eq, zqj, zqk, vrow_I, Arm.eta2, Fld.eta, Grp.eta]
    decide
  · have hp2 : (pcs nlB t).length - 1 ≤ (pcs nlB t).length := by omega
    show H Prop _
    simp only [hH, stdH]
    show okB (pcs nlB t).length none (some (IntKind.i64.wrap (((pcs nlB t).length : Int) - 1)))
    rw [eW]
    exact ⟨trivial, by show (0 : Int) ≤ _; omega, Nat.zero_le _, by show (((pcs nlB t).length - 1 : Nat) : Int).toNat ≤ _; omega⟩
  · have hs : t.size ≤ 4000 := by
      simp only [hH, stdH] at h1
      by_cases q : (4000 : Int) < t.size
      · rw [decide_eq_true q] at h1; cases h1
      · omega
    clear h1
    have hn : Nsz (rdL t) := rdL_nsz hs
    have hl : (rdL t).length ≤ 2000000 := by rw [rdL_len]; omega
    have hY := pR_prg_y (t := t)
    have hN := pR_prg_n (t := t)
    refine loop_peel hB (draw_ok hB mixed) hX hH 600 ?_
    conv in Fin.chk _ _ => cbv
    try simp only [Plain_rowsA, Plain_rowsB, Plain_rowsC, Plain_rowsD, Plain_rowsF, Plain_rowsG, Plain_rowsI, Plain_rowsS, Plain_rowsU, Fin.satC_ret, Fin.satC_br, Fin.satC_need, Fin.satC_again, AllP, and_true, true_and, upd, List.length_nil, List.length_cons, Nat.zero_add, if_true, ncast, zqe]
    refine ⟨fun h1 => ⟨?_, ⟨?_, ?_, ?_⟩, fun h2 => ⟨?_, ?_⟩, fun h2 => ⟨?_, ?_, ?_, ?_, ?_, ?_, ?_, ?_, ?_⟩⟩, fun h1 => ?_⟩
    · simp only [hH, stdH, en, eH, decide_eq_true_eq] at h1 ⊢
      omega
    · simp only [hH, stdH, en, ez]
      have hw := getD_le2 (L := pcs nlB t) (m := t.size) (fun x hx => pcs_sz hx) 0
      have hq := pcsN_len spB 3 ((pcs nlB t).getD 0 ByteArray.empty)
      have hv := fun j => getD_le2 (L := pcsN spB 3 ((pcs nlB t).getD 0 ByteArray.empty)) (m := ((pcs nlB t).getD 0 ByteArray.empty).size) (fun y hy => pcsN_sz spB 3 _ y hy) j
      have hv0 := hv 0
      have hv2 := hv 2
      have hv3 := hv 3
      omega
    · try simp only [hH, stdH, zql, zqa, zqb, zqc, zqd, peta, ncast, zqe, zqf, zqg, zqh, zqi, ne_eq, zqj, zqk, vrow_I, Arm.eta2, Fld.eta, Grp.eta]
      decide
    · try simp only [hH, stdH, zql, zqa, zqb, zqc, zqd, peta, ncast, zqe, zqf, zqg, zqh, zqi, ne_eq, zqj, zqk, vrow_I, Arm.eta2, Fld.eta, Grp.eta]
    · have h1 : (0 : Int) < (((pcs nlB t).length - 1 : Nat) : Int) := by simpa only [hH, stdH, en, eH, decide_eq_true_eq] using h1
      have e : pR t = none := pR_words_n (i := 0) (by omega) (by
        simp only [hH, stdH, en, es, ez, decide_eq_true_eq] at h2
        omega)
      try simp only [hH, stdH, zql, zqa, zqb, zqc, zqd, peta, ncast, zqe, zqf, zqg, zqh, zqi, ne_eq, zqj, zqk, vrow_I, Arm.eta2, Fld.eta, Grp.eta]
      rw [e]; rfl
    · have h1 : (0 : Int) < (((pcs nlB t).length - 1 : Nat) : Int) := by simpa only [hH, stdH, en, eH, decide_eq_true_eq] using h1
      have e : pR t = none := pR_words_n (i := 0) (by omega) (by
        simp only [hH, stdH, en, es, ez, decide_eq_true_eq] at h2
        omega)
      try simp only [hH, stdH, zql, zqa, zqb, zqc, zqd, peta, ncast, zqe, zqf, zqg, zqh, zqi, ne_eq, zqj, zqk, vrow_I, Arm.eta2, Fld.eta, Grp.eta]
      rw [e]; rfl
    · simp only [hH, stdH, en, es, ez, decide_eq_false_iff_not] at h2 ⊢
      omega
    · simp only [hH, stdH, en, es, ez, decide_eq_false_iff_not] at h2 ⊢
      omega
    · simp only [hH, stdH, en, es, el, z0]
      have hw := getD_le2 (L := pcs nlB t) (m := t.size) (fun x hx => pcs_sz hx) 0
      have hq := pcsN_len spB 3 ((pcs nlB t).getD 0 ByteArray.empty)
      have hv := fun j => getD_le2 (L := pcsN spB 3 ((pcs nlB t).getD 0 ByteArray.empty)) (m := ((pcs nlB t).getD 0 ByteArray.empty).size) (fun y hy => pcsN_sz spB 3 _ y hy) j
      have hv0 := hv 0
      have hv2 := hv 2
      have hv3 := hv 3
      omega
    · simp only [hH, stdH, en, es, ez, decide_eq_false_iff_not] at h2 ⊢
      omega
    · simp only [hH, stdH, en, es, el, z0, z2]
      have hw := getD_le2 (L := pcs nlB t) (m := t.size) (fun x hx => pcs_sz hx) 0
      have hq := pcsN_len spB 3 ((pcs nlB t).getD 0 ByteArray.empty)
      have hv := fun j => getD_le2 (L := pcsN spB 3 ((pcs nlB t).getD 0 ByteArray.empty)) (m := ((pcs nlB t).getD 0 ByteArray.empty).size) (fun y hy => pcsN_sz spB 3 _ y hy) j
      have hv0 := hv 0
      have hv2 := hv 2
      have hv3 := hv 3
      omega
    · simp only [hH, stdH, en, es, ez, decide_eq_false_iff_not] at h2 ⊢
      omega
    · simp only [hH, stdH, en, es, el, z0, z3]
      have hw := getD_le2 (L := pcs nlB t) (m := t.size) (fun x hx => pcs_sz hx) 0
      have hq := pcsN_len spB 3 ((pcs nlB t).getD 0 ByteArray.empty)
      have hv := fun j => getD_le2 (L := pcsN spB 3 ((pcs nlB t).getD 0 ByteArray.empty)) (m := ((pcs nlB t).getD 0 ByteArray.empty).size) (fun y hy => pcsN_sz spB 3 _ y hy) j
      have hv0 := hv 0
      have hv2 := hv 2
      have hv3 := hv 3
      omega
    · try simp only [hH, stdH, zql, zqa, zqb, zqc, zqd, peta, ncast, zqe, zqf, zqg, zqh, zqi, ne_eq, zqj, zqk, vrow_I, Arm.eta2, Fld.eta, Grp.eta]
      omega
    · have h1 : (0 : Int) < (((pcs nlB t).length - 1 : Nat) : Int) := by simpa only [hH, stdH, en, eH, decide_eq_true_eq] using h1
      clear h2
      have g0 : 1 ≤ 1 ∧ 1 ≤ (pcs nlB t).length - 1 := ⟨Nat.le_refl _, by omega⟩
      refine loopK_c hB (draw_ok hB mixed) hX hX0 hH [0, 2, 5, 23, 24, 25] (ι := { i : Nat // 1 ≤ i ∧ i ≤ (pcs nlB t).length - 1 }) 600 (fun i => [.i (H Int fun _ => (i.1 : Nat)), .r (H Nat fun _ => (((pcs nlB t).take i.1).map rdG).length) (rowsW H fun _ => ((pcs nlB t).take i.1).map rdG)]) (fun i => (pcs nlB t).length - i.1) (⟨1, g0⟩) ?_ ?_
      · (conv in matchSt _ _ _ _ => cbv); simp only [AllG, AllP, and_true, hH, stdH, zql, ncast, zqe, vrow_I, Arm.eta2, Fld.eta, Grp.eta]
        have e1 : ((pcs nlB t).take 1).map rdG = [rdG ((pcs nlB t).getD 0 ByteArray.empty)] := take_rdG (i := 0) (by omega)
        simp only [en, es, el, z0, z1, z2, z3]
        rw [e1]
        exact ⟨RowsEq.lit okRW rfl rfl, rfl, rfl, trivial, RowsEq.selfN _ _⟩
      · intro I hI i
        conv in Fin.chk _ _ => cbv
        try simp only [Plain_rowsA, Plain_rowsB, Plain_rowsC, Plain_rowsD, Plain_rowsF, Plain_rowsG, Plain_rowsI, Plain_rowsS, Plain_rowsU, Fin.satC_ret, Fin.satC_br, Fin.satC_need, Fin.satC_again, AllP, and_true, true_and, upd, List.length_nil, List.length_cons, Nat.zero_add, if_true, ncast, zqe]
        obtain ⟨i, hi0, hi⟩ := i
        have hli : (((pcs nlB t).take i).map rdG).length = i := by rw [List.length_map, List.length_take]; omega
        refine ⟨fun h2 => ⟨?_, ⟨?_, ?_, ?_⟩, fun h3 => ⟨?_, ?_⟩, fun h3 => ⟨?_, ?_, ?_, ?_, ?_, ?_, ?_, ⟨?_, ?_⟩, ?_⟩⟩, fun h2 => ?_⟩
        · simp only [hH, stdH, en, eH, decide_eq_true_eq] at h2 ⊢
          omega
        · simp only [hH, stdH, en, el, Int.toNat_natCast]
          have hw := getD_le2 (L := pcs nlB t) (m := t.size) (fun x hx => pcs_sz hx) i
          have hq := pcsN_len spB 3 ((pcs nlB t).getD i ByteArray.empty)
          have hv := fun j => getD_le2 (L := pcsN spB 3 ((pcs nlB t).getD i ByteArray.empty)) (m := ((pcs nlB t).getD i ByteArray.empty).size) (fun y hy => pcsN_sz spB 3 _ y hy) j
          have hv0 := hv 0
          have hv2 := hv 2
          have hv3 := hv 3
          omega
        · try simp only [hH, stdH, zql, zqa, zqb, zqc, zqd, peta, ncast, zqe, zqf, zqg, zqh, zqi, ne_eq, zqj, zqk, vrow_I, Arm.eta2, Fld.eta, Grp.eta]
          decide
        · try simp only [hH, stdH, zql, zqa, zqb, zqc, zqd, peta, ncast, zqe, zqf, zqg, zqh, zqi, ne_eq, zqj, zqk, vrow_I, Arm.eta2, Fld.eta, Grp.eta]
        · have h2 : (i : Int) < (((pcs nlB t).length - 1 : Nat) : Int) := by simpa only [hH, stdH, en, eH, decide_eq_true_eq] using h2
          have e : pR t = none := pR_words_n (i := i) (by omega) (by
            simp only [hH, stdH, en, es, el, Int.toNat_natCast, decide_eq_true_eq] at h3
            omega)
          try simp only [hH, stdH, zql, zqa, zqb, zqc, zqd, peta, ncast, zqe, zqf, zqg, zqh, zqi, ne_eq, zqj, zqk, vrow_I, Arm.eta2, Fld.eta, Grp.eta]
          rw [e]; rfl
        · have h2 : (i : Int) < (((pcs nlB t).length - 1 : Nat) : Int) := by simpa only [hH, stdH, en, eH, decide_eq_true_eq] using h2
          have e : pR t = none := pR_words_n (i := i) (by omega) (by
            simp only [hH, stdH, en, es, el, Int.toNat_natCast, decide_eq_true_eq] at h3
            omega)
          try simp only [hH, stdH, zql, zqa, zqb, zqc, zqd, peta, ncast, zqe, zqf, zqg, zqh, zqi, ne_eq, zqj, zqk, vrow_I, Arm.eta2, Fld.eta, Grp.eta]
          rw [e]; rfl
        · simp only [hH, stdH, en, es, el, Int.toNat_natCast, decide_eq_false_iff_not] at h3 ⊢
          omega
        · simp only [hH, stdH, en, es, el, Int.toNat_natCast, decide_eq_false_iff_not] at h3 ⊢
          omega
        · simp only [hH, stdH, en, es, el, Int.toNat_natCast, z0]
          have hw := getD_le2 (L := pcs nlB t) (m := t.size) (fun x hx => pcs_sz hx) i
          have hq := pcsN_len spB 3 ((pcs nlB t).getD i ByteArray.empty)
          have hv := fun j => getD_le2 (L := pcsN spB 3 ((pcs nlB t).getD i ByteArray.empty)) (m := ((pcs nlB t).getD i ByteArray.empty).size) (fun y hy => pcsN_sz spB 3 _ y hy) j
          have hv0 := hv 0
          have hv2 := hv 2
          have hv3 := hv 3
          omega
        · simp only [hH, stdH, en, es, el, Int.toNat_natCast, decide_eq_false_iff_not] at h3 ⊢
          omega
        · simp only [hH, stdH, en, es, el, Int.toNat_natCast, z2]
          have hw := getD_le2 (L := pcs nlB t) (m := t.size) (fun x hx => pcs_sz hx) i
          have hq := pcsN_len spB 3 ((pcs nlB t).getD i ByteArray.empty)
          have hv := fun j => getD_le2 (L := pcsN spB 3 ((pcs nlB t).getD i ByteArray.empty)) (m := ((pcs nlB t).getD i ByteArray.empty).size) (fun y hy => pcsN_sz spB 3 _ y hy) j
          have hv0 := hv 0
          have hv2 := hv 2
          have hv3 := hv 3
          omega
        · simp only [hH, stdH, en, es, el, Int.toNat_natCast, decide_eq_false_iff_not] at h3 ⊢
          omega
        · simp only [hH, stdH, en, es, el, Int.toNat_natCast, z3]
          have hw := getD_le2 (L := pcs nlB t) (m := t.size) (fun x hx => pcs_sz hx) i
          have hq := pcsN_len spB 3 ((pcs nlB t).getD i ByteArray.empty)
          have hv := fun j => getD_le2 (L := pcsN spB 3 ((pcs nlB t).getD i ByteArray.empty)) (m := ((pcs nlB t).getD i ByteArray.empty).size) (fun y hy => pcsN_sz spB 3 _ y hy) j
          have hv0 := hv 0
          have hv2 := hv 2
          have hv3 := hv 3
          omega
        · try simp only [hH, stdH, zql, zqa, zqb, zqc, zqd, peta, ncast, zqe, zqf, zqg, zqh, zqi, ne_eq, zqj, zqk, vrow_I, Arm.eta2, Fld.eta, Grp.eta]
        · simp only [hH, stdH, hli]
          omega
        · have h2 : (i : Int) < (((pcs nlB t).length - 1 : Nat) : Int) := by simpa only [hH, stdH, en, eH, decide_eq_true_eq] using h2
          refine ⟨⟨i + 1, by omega, by omega⟩, by simp only; omega, ?_⟩
          rw [hI]
          (conv in matchSt _ _ _ _ => cbv); simp only [AllG, AllP, and_true, hH, stdH, zql, ncast, zqe, vrow_I, Arm.eta2, Fld.eta, Grp.eta]
          simp only [en, es, el, z0, z1, z2, z3, Int.toNat_natCast]
          rw [w1 (by omega), take_rdG (by omega)]
          (repeat' (with_reducible refine And.intro ?_ ?_)) <;> (first | exact True.intro | exact rows_snocW | exact Eq.refl _ | exact List.length_append | exact RowsEq.selfN _ _)
        · have h2 : ¬ (i : Int) < (((pcs nlB t).length - 1 : Nat) : Int) := by simpa only [hH, stdH, en, eH, decide_eq_false_iff_not] using h2
          obtain rfl : i = (pcs nlB t).length - 1 := by omega
          have hL : ((pcs nlB t).take ((pcs nlB t).length - 1)).map rdG = rdL t := rdL_take
          obtain ⟨L, hL2⟩ : ∃ L, rdL t = L := ⟨_, rfl⟩
          rw [hL2] at hN hY hn hl hL
          subst hH
          simp only [stdH, hL, Tl_W, cond_rgR]
          by_cases q : okRg L = true ∧ rgT L L.length = t
          · rw [hY q, decide_eq_true q]
            simp only [q.1, Bool.not_true, Bool.not_false, Option.getD_some, Option.isSome_some]
            (repeat' (first | exact fun _ _ => rfl | exact Shp_W _ _ | exact hl | exact hn | exact True.intro | exact Eq.refl _ | exact Nat.le_refl _ | exact RowsEq.self okRW | exact hz | (with_reducible refine And.intro ?_ ?_) | (intro h9; first | (exact absurd h9 (by decide)) | skip)))
          · rw [hN q, decide_eq_false q]
            simp only [Bool.not_true, Bool.not_false, Option.getD_none, Option.isSome_none]
            (repeat' (first | exact fun _ _ => rfl | exact Shp_W _ _ | exact hl | exact hn | exact True.intro | exact Eq.refl _ | exact Nat.le_refl _ | (with_reducible refine And.intro ?_ ?_) | (intro h9; first | (exact absurd h9 (by decide)) | skip)))
    · have h1 : ¬ (0 : Int) < (((pcs nlB t).length - 1 : Nat) : Int) := by simpa only [hH, stdH, en, eH, decide_eq_false_iff_not] using h1
      have hL : rdL t = [] := List.eq_nil_of_length_eq_zero (by rw [rdL_len]; omega)
      obtain ⟨L, hL2⟩ : ∃ L : List Grt, [] = L := ⟨_, rfl⟩
      have e0 : Tl rowW 0 (fun _ => []) = L := hL2
      rw [hL, hL2] at hN hY hn hl
      have hz : L.length = 0 := by rw [← hL2]; rfl
      subst hH
      simp only [stdH, e0, cond_rgR]
      refine ⟨⟨⟨fun j hj => by omega⟩, hl, hn⟩, ?_⟩
      by_cases q : okRg L = true ∧ rgT L L.length = t
      · rw [hY q, decide_eq_true q]
        simp only [q.1, Bool.not_true, Bool.not_false, Option.getD_some, Option.isSome_some]
        (repeat' (first | exact fun _ _ => rfl | exact Shp_W _ _ | exact hl | exact hn | exact True.intro | exact Eq.refl _ | exact Nat.le_refl _ | exact RowsEq.self okRW | exact hz | (with_reducible refine And.intro ?_ ?_) | (intro h9; first | (exact absurd h9 (by decide)) | skip)))
      · rw [hN q, decide_eq_false q]
        simp only [Bool.not_true, Bool.not_false, Option.getD_none, Option.isSome_none]
        (repeat' (first | exact fun _ _ => rfl | exact Shp_W _ _ | exact hl | exact hn | exact True.intro | exact Eq.refl _ | exact Nat.le_refl _ | (with_reducible refine And.intro ?_ ?_) | (intro h9; first | (exact absurd h9 (by decide)) | skip)))
noncomputable def e_parseR : Entry := pureE 16 fun H a => match a with
  | [.lit (.string t)] => some (.tup [aT rowJ H fun _ => (pR t).getD ⟨[]⟩, .lit (.bool (H Bool fun _ => (pR t).isSome))], [H Prop fun _ => t.size ≤ 2000000])
  | _ => none
theorem eok_parseR : EntryOk Tryz.prog e_parseR := pureM_ok (by unfold isBody; kernel_rfl) (by
  intro a r ob e hob
  split at e
  · rename_i t
    simp only [Option.some.injEq, Prod.mk.injEq] at e
    obtain ⟨rfl, rfl⟩ := e
    exact ConN.args (.cons .rfl .nil) (c_parseR t hob.1)
  · simp at e)

end Go.Proofs.YtbnohmfapmeaaaaGreatDoor.AM

