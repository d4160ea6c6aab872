import Derived.Test.YtoommgpcmgnpaaaAmT
import Derived.Test.YtoommgpcmgnpaaaRga
import Derived.Test.YtoommgpcmgnpaaaRgb
import Derived.Test.YtoommgpcmgnpaaaRgr
import Derived.Test.YtoommgpcmgnpaaaRgu
import Derived.Test.YtoommgpcmgnpaaaRgd
set_option linter.unusedVariables false
set_option linter.unusedSimpArgs false
set_option maxRecDepth 100000
set_option maxHeartbeats 4000000
set_option cbv.maxSteps 3000000
namespace Go.Proofs.Ytoommgpcmgnpaaa.AM
/- The law FnGrants holds; conditions: none. -/
theorem TlI_HG {H : Hold} (hH : H = stdH) (L : List Int) : Tl rowI (H Nat fun _ => L.length) (rowsI H fun _ => L) = L := by subst hH; exact Tl_I L
theorem law_Grants (c : Cd) : Con Try.prog 4 [codeAV c] [] (.lit (.bool true)) [] := by
  have hB : Base Try.prog (tabΓ [e_vBig c, e_DrawGrantArms c, e_grantH, e_grantS, e_vRegister, e_validR, e_validRS, e_confW, e_findA, e_revH, e_grantsOf, e_vHas]) tabG := base_of tabOkG (ents_cons (eok_vBig c) <| ents_cons (eok_DrawGrantArms c) <| ents_cons eok_grantH <| ents_cons eok_grantS <| ents_cons eok_vRegister <| ents_cons eok_validR <| ents_cons eok_validRS <| ents_cons eok_confW <| ents_cons eok_findA <| ents_cons eok_revH <| ents_cons eok_grantsOf <| ents_cons eok_vHas <| ents_nil)
  refine ConN.con (n := 0) (con_m (N := 131) hB (draw_ok hB mixed) Try.func4 rfl rfl (fun _ => [codeAV c]) (fun _ => []) 0 (fun H => .lit (.bool (H Bool fun _ => true))) (fun _ => []) (fun _ => []) 600 (by simp) (codeAV_bl c) (by simp [lk]) (by omega) (by simp) ?_)
  intro X hX hX0 H hH
  conv in Fin.chk _ _ => cbv
  try simp only [Plain_rowsA, Plain_rowsB, Plain_rowsC, Plain_rowsD, Plain_rowsF, Plain_rowsG, Plain_rowsI, Plain_rowsS, Plain_rowsU, Fin.satC_ret, Fin.satC_br, Fin.satC_need, Fin.satC_again, AllP, and_true, true_and, upd, List.length_nil, List.length_cons, Nat.zero_add, if_true, ncast, Int.ofNat_eq_natCast]
  simp only [hetaA hH, TlW_H hH, TlI_HG hH]
  have hd := p_DrawGrantArms c
  simp only at hd
  obtain ⟨q, hq⟩ : ∃ q, F_DrawGrantArms c = q := ⟨_, rfl⟩
  rw [hq] at hd
  simp only [hq]
  obtain ⟨r, s, yr, a⟩ := q
  simp only at hd ⊢
  obtain ⟨⟨d1, d2⟩, d3⟩ := hd
  have nr : Nsz r := ⟨fun g hg => Nat.le_trans (d2 g hg) (by decide)⟩
  have ns : ∀ b : Bool, (!b == b) = false := fun b => by cases b <;> rfl
  have ni : ∀ x : Int, (x != x) = false := fun x => by simp
  have n1 : r.length ≤ 1000000 := by omega
  have n2 : r.length ≤ 100000 := by omega
  have n3 : s.size ≤ 1000000 := by omega
  have n0 : Nsz ([] : List Grt) := ⟨fun g hg => by cases hg⟩
  cases hg : grO r s yr a with
  | false =>
    simp only [hH, stdH, hg, Bool.false_eq_true, if_false, ns, ni, decide_true, Bool.not_true, cond_false, cond_true, Shp_W, Shp_I, nr, n0, n1, n2, n3, Bool.not_false, List.length_nil]
    simp
  | true =>
    obtain ⟨h1, h2, ha, hc, hne, hnum⟩ := gr_law hg
    have e1 : nmb (cnA a) r r.length = [] := nmb_nil fun o ho => decide_eq_false (hc o ho)
    obtain ⟨e3, e2⟩ := fa_last (l := r) (g := grG r s yr a) hne
    obtain ⟨e4, e5⟩ := rv_last (l := r) (g := grG r s yr a) hnum
    have e6 := go_last (l := r) (g := grG r s yr a) (nmE s) (by show (s.toList == s.toList) = true; simp)
    have nm : Nsz (r ++ [grG r s yr a]) := ⟨fun g hg => by
      rcases List.mem_append.1 hg with hg | hg
      · exact nr.le g hg
      · rw [List.mem_singleton] at hg; subst hg; exact n3⟩
    have lm : (r ++ [grG r s yr a]).length = r.length + 1 := by rw [List.length_append, List.length_singleton]
    have e7 : rvO (r ++ [grG r s yr a]) (grN r) = true := by
      unfold rvO
      rw [h2, show rvI (r ++ [grG r s yr a]) (grN r) = _ from e4, Bool.true_and, decide_eq_true_eq]
      omega
    change faN (r ++ [grG r s yr a]) a = grN r at e3
    change faB (r ++ [grG r s yr a]) a = true at e2
    change rvL (r ++ [grG r s yr a]) (grN r) = r at e5
    change ((nmb (nmE s) (r ++ [grG r s yr a]) (r ++ [grG r s yr a]).length).any fun y => y == grN r) = true at e6
    have nl := nmb_le (nmE s) (r ++ [grG r s yr a]) (r ++ [grG r s yr a]).length
    simp only [hH, stdH, hg, if_true]
    generalize r ++ [grG r s yr a] = m at *
    have l1 : m.length ≤ 1000000 := by omega
    have l2 : (nmb (nmE s) m m.length).length ≤ 1000000 := by omega
    simp only [if_true, ns, ni, decide_true, Bool.not_true, cond_false, cond_true, Shp_W, Shp_I, nr, nm, n1, n2, n3, h1, h2, ha, e1, e2, e3, e5, e6, e7, l1, l2, Bool.and_self, List.length_nil, Bool.true_and]
    simp

end Go.Proofs.Ytoommgpcmgnpaaa.AM
