/- Lemmas and contracts (Rgt Spc Spd); conditions: none. -/
import Derived.Test.YtbnohmfapmeaaaaGreatDoorK03
import Derived.Test.YtbnohmfapmeaaaaGreatDoorK18
import Derived.Test.YtbnohmfapmeaaaaGreatDoorK19
import Derived.Test.YtbnohmfapmeaaaaGreatDoorK28
import Derived.Test.YtbnohmfapmeaaaaGreatDoorK30
import Derived.Test.YtbnohmfapmeaaaaGreatDoorK32
import Derived.Test.YtbnohmfapmeaaaaGreatDoorK35
set_option linter.unusedVariables false
set_option linter.unusedSimpArgs false
set_option maxRecDepth 100000
set_option maxHeartbeats 4000000
set_option cbv.maxSteps 3000000
namespace Go.Proofs.YtbnohmfapmeaaaaGreatDoor.AM
/- Registers as texts; conditions: none. -/
def lnW (g : Grt) : ByteArray := numD g.num.toNat ++ ((⟨⟨[32]⟩⟩ : ByteArray) ++ (g.name ++ ((⟨⟨[32]⟩⟩ : ByteArray) ++ (numD g.year.toNat ++ ((⟨⟨[32]⟩⟩ : ByteArray) ++ (armT g.arms ++ (⟨⟨[10]⟩⟩ : ByteArray)))))))
def rgT (l : List Grt) : Nat → ByteArray
  | 0 => ByteArray.empty
  | i + 1 => rgT l i ++ lnW (l.getD i default)
def rgR (l : List Grt) : ByteArray := if okRg l = true then rgT l l.length else ByteArray.empty
theorem rgR_y {l : List Grt} (h : okRg l = true) : rgR l = rgT l l.length := if_pos h
theorem rgR_n {l : List Grt} (h : okRg l = false) : rgR l = ByteArray.empty := if_neg (by rw [h]; simp)
theorem okAt_N {l : List Grt} {i : Nat} (h : okAt l i = true) : okN (l.getD i default) = true := by
  unfold okAt at h
  rw [Bool.and_eq_true] at h
  exact h.1
theorem okRg_N {l : List Grt} (h : okRg l = true) {i : Nat} (hi : i < l.length) : okN (l.getD i default) = true := okAt_N ((okRg_in h).2 i hi)
theorem lnW_sz {g : Grt} (h : okN g = true) : (lnW g).size ≤ 5023 := by
  obtain ⟨h1, h2, h3, h4⟩ := okN_in h
  have h5 := (okNm_in h2).1
  have h6 := numD_sz3 (i := g.num.toNat) (by omega)
  have h7 := numD_sz4 (i := g.year.toNat) (by omega)
  have h8 := armT_sz g.arms
  unfold lnW
  simp only [ByteArray.size_append, bsz, List.length_cons, List.length_nil]
  omega
theorem rgT_sz {l : List Grt} (h : okRg l = true) : ∀ i, i ≤ l.length → (rgT l i).size ≤ 5023 * i
  | 0, _ => Nat.le_refl 0
  | i + 1, hi => by
    have h1 := rgT_sz h i (by omega)
    have h2 := lnW_sz (okRg_N h (show i < l.length by omega))
    unfold rgT
    rw [ByteArray.size_append]
    omega
theorem c_formatR (r : Rgr) (h0 : r.gs.length ≤ 2000000) (h1 : Nsz r.gs) : ConN Tryz.prog 15 [aT rowJ stdH fun _ => r] [] 0 (.tup [.lit (.string (stdH ByteArray fun _ => rgR r.gs)), .lit (.bool (stdH Bool fun _ => okRg r.gs))]) [] [] := by
  have hB : Base Tryz.prog (tabΓ [e_validR, e_itoaN, e_armText]) tab := base_of tabOk (ents_cons eok_validR <| ents_cons eok_itoaN <| ents_cons eok_armText <| ents_nil)
  refine con_m (N := 39) hB (draw_ok hB mixed) Tryz.func15 rfl rfl (fun H => [aT rowJ H fun _ => r]) (fun _ => []) 0 (fun H => .tup [.lit (.string (H ByteArray fun _ => rgR r.gs)), .lit (.bool (H Bool fun _ => okRg r.gs))]) (fun H => []) (fun _ => []) 300 (by simp) (fun x hx => ?_) (by simp [lk]) (by omega) (by simp) ?_
  · simp only [List.mem_cons, List.not_mem_nil, or_false] at hx
    rcases hx with rfl
    · exact aT_bl okRJ _ _
  intro X hX hX0 H hH
  conv in Fin.chk _ _ => cbv
  try simp only [Plain_rowsA, Plain_rowsB, Plain_rowsC, Plain_rowsF, Plain_rowsG, Plain_rowsI, Plain_rowsS, Plain_rowsU, Fin.satC_ret, Fin.satC_br, Fin.satC_need, Fin.satC_again, AllP, and_true, true_and, upd, List.length_nil, List.length_cons, Nat.zero_add, if_true, ncast, zqe]
  simp only [TlW_H hH]
  refine ⟨?_, fun h => ?_, fun h => ?_⟩
  · try simp only [hH, stdH, zql, zqa, zqb, zqc, zqd, peta, ncast, zqe, zqf, zqg, zqh, zqi, ne_eq, zqj, zqk, vrow_I, Arm.eta2, Fld.eta, Grp.eta]
    exact ⟨Shp_W _ _, h0, h1⟩
  · simp only [hH, stdH, zql, zqa, zqb, zqc, zqd, peta, ncast, zqe, zqf, zqg, zqh, zqi, ne_eq, zqj, zqk, vrow_I, Arm.eta2, Fld.eta, Grp.eta] at h
    try simp only [hH, stdH, zql, zqa, zqb, zqc, zqd, peta, ncast, zqe, zqf, zqg, zqh, zqi, ne_eq, zqj, zqk, vrow_I, Arm.eta2, Fld.eta, Grp.eta]
    exact ⟨h, rgR_n h⟩
  · simp only [hH, stdH, zql, zqa, zqb, zqc, zqd, peta, ncast, zqe, zqf, zqg, zqh, zqi, ne_eq, zqj, zqk, vrow_I, Arm.eta2, Fld.eta, Grp.eta] at h
    rw [rgR_y h, h]
    have h0 := h
    have hl := (okRg_in h0).1
    refine loop_a hB (draw_ok hB mixed) hX hX0 hH false (ι := { i : Nat // i ≤ r.gs.length }) 300 (fun i => [.s (H ByteArray fun _ => rgT r.gs i.1), .i (H Int fun _ => (i.1 : Nat))]) (fun i => r.gs.length - i.1) (⟨0, by omega⟩) ?_ ?_
    · (conv in matchSt _ _ _ _ => cbv); simp only [AllG, AllP, and_true, hH, stdH, zql, ncast, zqe, vrow_I, Arm.eta2, Fld.eta, Grp.eta]
      all_goals (repeat' (with_reducible refine And.intro ?_ ?_)) <;> (first | exact Eq.refl _ | exact True.intro | exact Nat.le_refl _ | exact RowsEq.self okRW | exact RowsEq.ofT okRW rfl (Shp_zero _) rfl | exact RowsEq.snoc okRW rfl | exact List.length_append | exact c.rqN)
    · intro I hI i
      conv in Fin.chk _ _ => cbv
      try simp only [Plain_rowsA, Plain_rowsB, Plain_rowsC, Plain_rowsF, Plain_rowsG, Plain_rowsI, Plain_rowsS, Plain_rowsU, Fin.satC_ret, Fin.satC_br, Fin.satC_need, Fin.satC_again, AllP, and_true, true_and, upd, List.length_nil, List.length_cons, Nat.zero_add, if_true, ncast, zqe]
      obtain ⟨i, hi⟩ := i
      simp only [hetaA hH, hetaW hH]
      refine ⟨fun h2 => ?_, fun h2 => ?_⟩
      · simp only [hH, stdH, zql, zqa, zqb, zqc, zqd, peta, ncast, zqe, zqf, zqg, zqh, zqi, ne_eq, zqj, zqk, vrow_I, Arm.eta2, Fld.eta, Grp.eta] at h2
        have hi' : i < r.gs.length := by omega
        obtain ⟨n1, n2, n3, n4⟩ := okN_in (okRg_N h0 hi')
        have n5 := (okNm_in n2).1
        have n6 := numD_sz3 (i := (r.gs.getD i default).num.toNat) (by omega)
        have n7 := numD_sz4 (i := (r.gs.getD i default).year.toNat) (by omega)
        have n8 := armT_sz (r.gs.getD i default).arms
        have n9 := rgT_sz h0 i hi
        (repeat' (with_reducible refine And.intro ?_ ?_))
        all_goals try (simp only [hH, stdH, zqk, ByteArray.size_append, bsz, List.length_cons, List.length_nil]; first | exact n4 | omega)
        refine ⟨⟨i + 1, by omega⟩, by simp only; omega, ?_⟩
        rw [hI]
        (conv in matchSt _ _ _ _ => cbv); simp only [AllG, AllP, and_true, hH, stdH, zql, ncast, zqe, vrow_I, Arm.eta2, Fld.eta, Grp.eta]
        rw [w1 (by omega), show rgT r.gs (i + 1) = rgT r.gs i ++ lnW (r.gs.getD i default) from rfl]
        unfold lnW
        simp only [Int.toNat_natCast, ByteArray.append_assoc]
        all_goals (repeat' (with_reducible refine And.intro ?_ ?_)) <;> (first | exact Eq.refl _ | exact True.intro | exact Nat.le_refl _ | exact RowsEq.self okRW | exact RowsEq.ofT okRW rfl (Shp_zero _) rfl | exact RowsEq.snoc okRW rfl | exact List.length_append | exact c.rqN)
      · simp only [hH, stdH, zql, zqa, zqb, zqc, zqd, peta, ncast, zqe, zqf, zqg, zqh, zqi, ne_eq, zqj, zqk, vrow_I, Arm.eta2, Fld.eta, Grp.eta] at h2
        obtain rfl : i = r.gs.length := by omega
        try simp only [hH, stdH, zql, zqa, zqb, zqc, zqd, peta, ncast, zqe, zqf, zqg, zqh, zqi, ne_eq, zqj, zqk, vrow_I, Arm.eta2, Fld.eta, Grp.eta]
        first | done | exact ⟨trivial, trivial⟩
noncomputable def e_formatR : Entry := pureE 15 fun H a => match a with
  | [.agg [.vec 18 r0n r0f]] => some (.tup [.lit (.string (H ByteArray fun _ => rgR (⟨(Tl rowW r0n r0f)⟩ : Rgr).gs)), .lit (.bool (H Bool fun _ => okRg (⟨(Tl rowW r0n r0f)⟩ : Rgr).gs))], [H Prop fun _ => Shp rowW r0n r0f, H Prop fun _ => (⟨(Tl rowW r0n r0f)⟩ : Rgr).gs.length ≤ 2000000, H Prop fun _ => Nsz (⟨(Tl rowW r0n r0f)⟩ : Rgr).gs])
  | _ => none
theorem eok_formatR : EntryOk Tryz.prog e_formatR := pureM_ok (by unfold isBody; kernel_rfl) (by
  intro a r ob e hob
  split at e
  · rename_i r0n r0f
    simp only [Option.some.injEq, Prod.mk.injEq] at e
    obtain ⟨rfl, rfl⟩ := e
    exact ConN.args (.cons (.agg (.cons (.toT okRW rfl hob.1) .nil)) .nil) (c_formatR (⟨(Tl rowW r0n r0f)⟩ : Rgr) hob.2.1 hob.2.2.1)
  · simp at e)

end Go.Proofs.YtbnohmfapmeaaaaGreatDoor.AM

set_option linter.unusedVariables false
set_option linter.unusedSimpArgs false
set_option maxRecDepth 100000
set_option maxHeartbeats 4000000
set_option cbv.maxSteps 3000000
namespace Go.Proofs.YtbnohmfapmeaaaaGreatDoor.AM
/- The reference's parsers of fields and arms; conditions: none. -/
theorem fld_sz {f : Fld} (h : okF f = true) : (fldT f).size ≤ 60 := by
  have ht : ∀ x, (wordOf tinL x).size ≤ 6 := fun x => getD_sz (l := tinL) (m := 6) (by decide) _
  have hd : ∀ x, (wordOf divL x).size ≤ 11 := fun x => getD_sz (l := divL) (m := 11) (by decide) _
  have hl : ∀ x, (wordOf linL x).size ≤ 9 := fun x => getD_sz (l := linL) (m := 9) (by decide) _
  have h1 := ht f.p; have h2 := ht f.q; have h3 := hd f.d; have h4 := hl f.l
  by_cases hz : f.d = 0
  · rw [fldT_y hz]; omega
  · rw [fldT_n hz]
    unfold wlT
    split
    · simp only [ByteArray.size_append, bsz, List.length_cons, List.length_nil]; omega
    · simp only [ByteArray.size_append, bsz, List.length_cons, List.length_nil]; omega
end Go.Proofs.YtbnohmfapmeaaaaGreatDoor.AM

set_option linter.unusedVariables false
set_option linter.unusedSimpArgs false
set_option maxRecDepth 100000
set_option maxHeartbeats 4000000
set_option cbv.maxSteps 3000000
namespace Go.Proofs.YtbnohmfapmeaaaaGreatDoor.AM
/- The reference's parser of arms; conditions: none. -/
theorem arm_sz {a : Arm} (h : okA a = true) : (armT a).size ≤ 240 := by
  obtain ⟨hf, hr, h0, h1⟩ := okA_b h
  have ht : ∀ x, (wordOf tinL x).size ≤ 6 := fun x => getD_sz (l := tinL) (m := 6) (by decide) _
  have ho : ∀ x, (wordOf ordL x).size ≤ 7 := fun x => getD_sz (l := ordL) (m := 7) (by decide) _
  have hl : ∀ x, (wordOf linL x).size ≤ 9 := fun x => getD_sz (l := linL) (m := 9) (by decide) _
  have hk : ∀ x, (wordOf kndL x).size ≤ 5 := fun x => getD_sz (l := kndL) (m := 5) (by decide) _
  have hc : ∀ x, (wordOf cntL x).size ≤ 5 := fun x => getD_sz (l := cntL) (m := 5) (by decide) _
  have hat : ∀ k x, (wordOf (attL k) x).size ≤ 9 := fun k x => by
    rcases attL_mem k with e | e | e | e <;> rw [e]
    · exact getD_sz (l := attL 1) (m := 9) (by decide) _
    · exact getD_sz (l := attL 2) (m := 9) (by decide) _
    · exact getD_sz (l := attL 3) (m := 9) (by decide) _
    · exact Nat.zero_le _
  have sg : ∀ g : Grp, (grpT g).size ≤ 30 := fun g => by
    have a1 := hc g.c; have a2 := hk g.k; have a3 := hat g.k g.a; have a4 := ht g.t
    have c1 : (cntT g.c g.k).size ≤ 5 := by unfold cntT; split; decide; exact a1
    have c2 : (kndT g.k g.c).size ≤ 6 := by
      unfold kndT; split
      · rw [ByteArray.size_append]; exact Nat.add_le_add (d := 1) a2 (by decide)
      · omega
    have c3 : (attT g).size ≤ 10 := by
      unfold attT; split
      · rw [ByteArray.size_append]; exact Nat.le_trans (Nat.add_le_add (b := 1) (d := 9) (by decide) a3) (by decide)
      · exact Nat.zero_le _
    unfold grpT
    simp only [ByteArray.size_append, bsz, List.length_cons, List.length_nil]
    omega
  have so : (ordS a.o a.l).size ≤ 19 := by
    have b1 := ho a.o; have b2 := hl a.l
    unfold ordS wlT
    split
    · simp only [ByteArray.size_append, bsz, List.length_cons, List.length_nil]; omega
    · simp only [ByteArray.size_append, bsz, List.length_cons, List.length_nil]; omega
  have s1 := fld_sz hf
  have s2 := sg a.n; have s3 := sg a.r; have s4 := ht a.t
  have opt : ∀ p g, (grpT g).size ≤ 30 → p.size ≤ 15 → (optT p g).size ≤ 45 := fun p g q1 q2 => by
    unfold optT; split
    · exact Nat.zero_le _
    · rw [ByteArray.size_append]; omega
  by_cases hz : a.o = 0
  · rw [armT_0 h hz, ByteArray.size_append]
    have := opt comB a.r s3 (by decide)
    omega
  · rw [armT_1 h hz]
    have o1 := opt chgB a.n s2 (by decide)
    have o2 := opt (midB a.o) a.r s3 (by unfold midB; split <;> decide)
    have o3 : comB.size = 2 := rfl
    have o4 : (oT (odA a)).size ≤ 26 := by
      unfold oT odA
      simp only [ByteArray.size_append, bsz, List.length_cons, List.length_nil]; omega
    simp only [ByteArray.size_append]
    omega
def early (s : ByteArray) : Prop := s.size ≤ 240 ∧ (pF (cutB s comB).1).isSome = true ∧ (cutB s comB).2.2 = true ∧ (pG (cutB s comB).2.1).isSome = true
open Classical in
noncomputable def r6 (s : ByteArray) : Arm := if early s then ⟨(pF (cutB s comB).1).getD zF, 0, 0, 0, zG, (pG (cutB s comB).2.1).getD zG⟩ else (pA s).getD zA
theorem okA_fld {f : Fld} {r : Grp} (hf : okF f = true) (hr : (noG r || okG r) = true) : okA ⟨f, 0, 0, 0, zG, r⟩ = true := by
  unfold okA
  simp only [hf, hr, Bool.true_and, if_true]
  decide
theorem pA_early {s : ByteArray} {f : Fld} {g : Grp} (hf : pF (cutB s comB).1 = some f) (hm : (cutB s comB).2.2 = true) (hg : pG (cutB s comB).2.1 = some g) : pA s = if armT ⟨f, 0, 0, 0, zG, g⟩ = s then some ⟨f, 0, 0, 0, zG, g⟩ else none := by
  have h2 := pF_iff.1 hf
  have h3 := pG_iff.1 hg
  have ok : okA ⟨f, 0, 0, 0, zG, g⟩ = true := okA_fld h2.1 (by rw [h3.1]; simp)
  have hc : candA (tkn s) = ⟨f, 0, 0, 0, zG, g⟩ := by
    unfold tkn
    rw [← h3.2, tkR_grp]
    unfold candA
    simp only [hf, pO_e, pG_e, pG_iff.2 ⟨h3.1, rfl⟩, Option.getD_some, Option.getD_none]
    rfl
  rw [pA_cand, hc]
  simp only [ok, true_and]
theorem r6_late {s : ByteArray} (h : ¬ early s) : r6 s = (pA s).getD zA := by unfold r6; rw [if_neg h]
theorem r6_early {s : ByteArray} {f : Fld} {g : Grp} (hs : s.size ≤ 240) (hf : pF (cutB s comB).1 = some f) (hm : (cutB s comB).2.2 = true) (hg : pG (cutB s comB).2.1 = some g) : r6 s = ⟨f, 0, 0, 0, zG, g⟩ := by
  have : early s := ⟨hs, by rw [hf]; rfl, hm, by rw [hg]; rfl⟩
  unfold r6
  rw [if_pos this, hf, hg]; rfl
end Go.Proofs.YtbnohmfapmeaaaaGreatDoor.AM

