/- Lemmas and contracts (ALRegisterText); conditions: none. -/
import Derived.Test.YtbnohmfapmeaaaaGreatDoorK03
import Derived.Test.YtbnohmfapmeaaaaGreatDoorK41
import Derived.Test.YtbnohmfapmeaaaaGreatDoorK43
import Derived.Test.YtbnohmfapmeaaaaGreatDoorK47
import Derived.Test.YtbnohmfapmeaaaaGreatDoorK48
import Derived.Test.YtbnohmfapmeaaaaGreatDoorK49
set_option linter.unusedVariables false
set_option linter.unusedSimpArgs false
set_option maxRecDepth 100000
set_option maxHeartbeats 4000000
set_option cbv.maxSteps 3000000
namespace Go.Proofs.YtbnohmfapmeaaaaGreatDoor.AM
/- The law FnRegisterText holds; conditions: none. -/
theorem TlI_HT {H : Hold} (hH : H = stdH) (L : List Int) : Tl rowI (H Nat fun _ => L.length) (rowsI H fun _ => L) = L := by subst hH; exact Tl_I L
theorem rgR_sz {l : List Grt} : (rgR l).size ≤ 2000000 := by
  cases hk : okRg l with
  | false => rw [rgR_n hk]; decide
  | true =>
    rw [rgR_y hk]
    have h1 := rgT_sz2 hk _ (Nat.le_refl _)
    have h2 := (okRg_in hk).1
    omega
theorem Nsz_ok {l : List Grt} (h : okRg l = true) : Nsz l := ⟨fun g hg => by
  have := (okNm_in (okN_in (okRg_mem h hg)).2.1).1
  omega⟩
theorem law_RegisterText (c : Cd) : Con Tryz.prog 4 [codeAV c] [] (.lit (.bool true)) [] := by
  cases hT : trO (F_DrawTransferGrant c).r (F_DrawTransferGrant c).n (F_DrawTransferGrant c).s with
  | true =>
    have hB : Base Tryz.prog (tabΓ [e_vBig c, e_DrawFormatRegister c, e_formatR, e_parseR, e_validRS, e_vRegister, e_DrawParseRegister c, e_DrawTransferGrant c, e_transHY, e_transS, e_grantsOf, e_vHas]) tabG := base_of tabOkG (ents_cons (eok_vBig c) <| ents_cons (eok_DrawFormatRegister c) <| ents_cons eok_formatR <| ents_cons eok_parseR <| ents_cons eok_validRS <| ents_cons eok_vRegister <| ents_cons (eok_DrawParseRegister c) <| ents_cons (eok_DrawTransferGrant c) <| ents_cons eok_transHY <| ents_cons eok_transS <| ents_cons eok_grantsOf <| ents_cons eok_vHas <| ents_nil)
    refine ConN.con (n := 0) (con_m (N := 131) hB (draw_ok hB mixed) Tryz.func4 rfl rfl (fun _ => [codeAV c]) (fun _ => []) 0 (fun H => .lit (.bool (H Bool fun _ => true))) (fun _ => []) (fun _ => []) 600 (by simp) (codeAV_bl c) (by simp [lk]) (by omega) (by simp) ?_)
    intro X hX hX0 H hH
    conv in Fin.chk _ _ => cbv
    try simp only [Plain_rowsA, Plain_rowsB, Plain_rowsC, Plain_rowsD, Plain_rowsF, Plain_rowsG, Plain_rowsI, Plain_rowsS, Plain_rowsU, Plain_rowsW, Fin.satC_ret, Fin.satC_br, Fin.satC_need, Fin.satC_again, AllP, and_true, true_and, upd, List.length_nil, List.length_cons, Nat.zero_add, if_true, ncast, zqe]
    simp only [hetaA hH, TlW_H hH, TlI_HT hH]
    have hs := p_DrawFormatRegister c
    have hu := p_DrawParseRegister c
    have hd := p_DrawTransferGrant c
    simp only at hs hu hd
    generalize F_DrawFormatRegister c = r at *
    generalize F_DrawParseRegister c = u at *
    obtain ⟨q, hq⟩ : ∃ q, F_DrawTransferGrant c = q := ⟨_, rfl⟩
    rw [hq] at hd hT
    simp only [hq]
    obtain ⟨x, number, name⟩ := q
    simp only at hd hT ⊢
    obtain ⟨⟨d1, d2⟩, d3⟩ := hd
    obtain ⟨s1, s2⟩ := hs
    have nr : Nsz r := ⟨fun g hg => Nat.le_trans (s2 g hg) (by decide)⟩
    have nx : Nsz x := ⟨fun g hg => Nat.le_trans (d2 g hg) (by decide)⟩
    have n0 : Nsz ([] : List Grt) := ⟨fun g hg => by cases hg⟩
    have n1 : r.length ≤ 2000000 := by omega
    have n2 : x.length ≤ 2000000 := by omega
    have n3 : name.size ≤ 2000000 := by omega
    have n4 : u.size ≤ 2000000 := by omega
    have n5 := rgR_sz (l := r)
    have ns : ∀ b : Bool, (!b == b) = false := fun b => by cases b <;> rfl
    have nb : ∀ b : Bool, (b != b) = false := fun b => by cases b <;> rfl
    have ni : ∀ x : Int, (x != x) = false := fun x => by simp
    have nt : ∀ t : List UInt8, (t != t) = false := fun t => by simp
    have k1 : okRg r = true → pR (rgR r) = some ⟨r⟩ := fun h => pR_iff.2 ⟨h, (rgR_y h).symm⟩
    have kw := pR_le u
    have kn : Nsz ((pR u).getD ⟨[]⟩).gs := by
      cases hp : pR u with
      | none => exact n0
      | some m => exact Nsz_ok (pR_iff.1 hp).1
    have ku : ∀ m, pR u = some m → okRg m.gs = true ∧ rgR m.gs = u := fun m h => by
      obtain ⟨g1, g2⟩ := pR_iff.1 h
      exact ⟨g1, (rgR_y g1).trans g2⟩
    have kr := pR_le (rgR r)
    have kl : ((pR (rgR r)).getD ⟨[]⟩).gs.length ≤ 2000000 := by omega
    have km : ((pR u).getD ⟨[]⟩).gs.length ≤ 2000000 := by omega
    have cA : (bif !(okRg r == okRg r) then true else bif okRg r then bif !(pR (rgR r)).isSome then true else !decide (((pR (rgR r)).getD ⟨[]⟩).gs = r) else false) = false := by
      cases hk : okRg r with
      | false => rfl
      | true => rw [k1 hk]; simp
    have cB : (bif (pR u).isSome then bif !okRg ((pR u).getD ⟨[]⟩).gs then true else !((rgR ((pR u).getD ⟨[]⟩).gs).toList == u.toList) else false) = false := by
      cases hp : pR u with
      | none => rfl
      | some m =>
        obtain ⟨q1, q2⟩ := ku m hp
        simp only [Option.isSome_some, Option.getD_some, q1, q2]
        simp
    have e0 : Tl rowW 0 (rowsW stdH fun _ => []) = [] := rfl
    obtain ⟨t1, t2⟩ := trR_ok hT
    have t3 := trH hT
    have t4 := Nsz_ok t1
    have t5 : (trR x number name).length ≤ 2000000 := by omega
    have t6 := nmb_le (nmE name) (trR x number name) (trR x number name).length
    have t7 : (nmb (nmE name) (trR x number name) (trR x number name).length).length ≤ 2000000 := by omega
    rw [t2] at t3 t7
    subst hH
    simp only [stdH, cA, cB, hT, t1, if_true, t2]
    simp only [t3, beq_self_eq_true, Bool.not_true, decide_true, cond_false, cond_true]
    (repeat' (first | exact Shp_W _ _ | exact Shp_I _ _ | assumption | exact True.intro | exact Eq.refl _ | omega | (with_reducible refine And.intro ?_ ?_) | (intro h9; first | exact absurd h9 (by decide) | skip)))
  | false =>
    have hB : Base Tryz.prog (tabΓ [e_vBig c, e_DrawFormatRegister c, e_formatR, e_parseR, e_validRS, e_vRegister, e_DrawParseRegister c, e_DrawTransferGrant c, e_transHN, e_transS, e_grantsOf, e_vHas]) tabG := base_of tabOkG (ents_cons (eok_vBig c) <| ents_cons (eok_DrawFormatRegister c) <| ents_cons eok_formatR <| ents_cons eok_parseR <| ents_cons eok_validRS <| ents_cons eok_vRegister <| ents_cons (eok_DrawParseRegister c) <| ents_cons (eok_DrawTransferGrant c) <| ents_cons eok_transHN <| ents_cons eok_transS <| ents_cons eok_grantsOf <| ents_cons eok_vHas <| ents_nil)
    refine ConN.con (n := 0) (con_m (N := 131) hB (draw_ok hB mixed) Tryz.func4 rfl rfl (fun _ => [codeAV c]) (fun _ => []) 0 (fun H => .lit (.bool (H Bool fun _ => true))) (fun _ => []) (fun _ => []) 600 (by simp) (codeAV_bl c) (by simp [lk]) (by omega) (by simp) ?_)
    intro X hX hX0 H hH
    conv in Fin.chk _ _ => cbv
    try simp only [Plain_rowsA, Plain_rowsB, Plain_rowsC, Plain_rowsD, Plain_rowsF, Plain_rowsG, Plain_rowsI, Plain_rowsS, Plain_rowsU, Plain_rowsW, Fin.satC_ret, Fin.satC_br, Fin.satC_need, Fin.satC_again, AllP, and_true, true_and, upd, List.length_nil, List.length_cons, Nat.zero_add, if_true, ncast, zqe]
    simp only [hetaA hH, TlW_H hH, TlI_HT hH]
    have hs := p_DrawFormatRegister c
    have hu := p_DrawParseRegister c
    have hd := p_DrawTransferGrant c
    simp only at hs hu hd
    generalize F_DrawFormatRegister c = r at *
    generalize F_DrawParseRegister c = u at *
    obtain ⟨q, hq⟩ : ∃ q, F_DrawTransferGrant c = q := ⟨_, rfl⟩
    rw [hq] at hd hT
    simp only [hq]
    obtain ⟨x, number, name⟩ := q
    simp only at hd hT ⊢
    obtain ⟨⟨d1, d2⟩, d3⟩ := hd
    obtain ⟨s1, s2⟩ := hs
    have nr : Nsz r := ⟨fun g hg => Nat.le_trans (s2 g hg) (by decide)⟩
    have nx : Nsz x := ⟨fun g hg => Nat.le_trans (d2 g hg) (by decide)⟩
    have n0 : Nsz ([] : List Grt) := ⟨fun g hg => by cases hg⟩
    have n1 : r.length ≤ 2000000 := by omega
    have n2 : x.length ≤ 2000000 := by omega
    have n3 : name.size ≤ 2000000 := by omega
    have n4 : u.size ≤ 2000000 := by omega
    have n5 := rgR_sz (l := r)
    have ns : ∀ b : Bool, (!b == b) = false := fun b => by cases b <;> rfl
    have nb : ∀ b : Bool, (b != b) = false := fun b => by cases b <;> rfl
    have ni : ∀ x : Int, (x != x) = false := fun x => by simp
    have nt : ∀ t : List UInt8, (t != t) = false := fun t => by simp
    have k1 : okRg r = true → pR (rgR r) = some ⟨r⟩ := fun h => pR_iff.2 ⟨h, (rgR_y h).symm⟩
    have kw := pR_le u
    have kn : Nsz ((pR u).getD ⟨[]⟩).gs := by
      cases hp : pR u with
      | none => exact n0
      | some m => exact Nsz_ok (pR_iff.1 hp).1
    have ku : ∀ m, pR u = some m → okRg m.gs = true ∧ rgR m.gs = u := fun m h => by
      obtain ⟨g1, g2⟩ := pR_iff.1 h
      exact ⟨g1, (rgR_y g1).trans g2⟩
    have kr := pR_le (rgR r)
    have kl : ((pR (rgR r)).getD ⟨[]⟩).gs.length ≤ 2000000 := by omega
    have km : ((pR u).getD ⟨[]⟩).gs.length ≤ 2000000 := by omega
    have cA : (bif !(okRg r == okRg r) then true else bif okRg r then bif !(pR (rgR r)).isSome then true else !decide (((pR (rgR r)).getD ⟨[]⟩).gs = r) else false) = false := by
      cases hk : okRg r with
      | false => rfl
      | true => rw [k1 hk]; simp
    have cB : (bif (pR u).isSome then bif !okRg ((pR u).getD ⟨[]⟩).gs then true else !((rgR ((pR u).getD ⟨[]⟩).gs).toList == u.toList) else false) = false := by
      cases hp : pR u with
      | none => rfl
      | some m =>
        obtain ⟨q1, q2⟩ := ku m hp
        simp only [Option.isSome_some, Option.getD_some, q1, q2]
        simp
    have e0 : Tl rowW 0 (rowsW stdH fun _ => []) = [] := rfl
    have t1 := trR_no hT
    subst hH
    simp only [stdH, cA, cB, hT, t1, e0, List.length_nil]
    simp only [beq_self_eq_true, Bool.not_true, Bool.not_false, decide_true, cond_false, cond_true]
    (repeat' (first | exact Shp_W _ _ | exact Shp_I _ _ | assumption | exact True.intro | exact Eq.refl _ | omega | (with_reducible refine And.intro ?_ ?_) | (intro h9; first | exact absurd h9 (by decide) | skip)))

end Go.Proofs.YtbnohmfapmeaaaaGreatDoor.AM

