/- Lemmas and contracts (Rga ALParseRegister); conditions: none. -/
import Derived.Test.YtbnohmfapmeaaaaGreatDoorK03
import Derived.Test.YtbnohmfapmeaaaaGreatDoorK05
import Derived.Test.YtbnohmfapmeaaaaGreatDoorK09
import Derived.Test.YtbnohmfapmeaaaaGreatDoorK13
import Derived.Test.YtbnohmfapmeaaaaGreatDoorK17
import Derived.Test.YtbnohmfapmeaaaaGreatDoorK20
import Derived.Test.YtbnohmfapmeaaaaGreatDoorK25
import Derived.Test.YtbnohmfapmeaaaaGreatDoorK26
import Derived.Test.YtbnohmfapmeaaaaGreatDoorK28
import Derived.Test.YtbnohmfapmeaaaaGreatDoorK36
import Derived.Test.YtbnohmfapmeaaaaGreatDoorK39
import Derived.Test.YtbnohmfapmeaaaaGreatDoorK44
import Derived.Test.YtbnohmfapmeaaaaGreatDoorK45
import Derived.Test.YtbnohmfapmeaaaaGreatDoorK47
set_option linter.unusedVariables false
set_option linter.unusedSimpArgs false
set_option maxRecDepth 100000
set_option maxHeartbeats 4000000
set_option cbv.maxSteps 3000000
namespace Go.Proofs.YtbnohmfapmeaaaaGreatDoor.AM
/- Grants of arms: found; conditions: none. -/
theorem c_grantsOf (r : Rgr) (s : ByteArray) (h0 : r.gs.length ≤ 2000000) (h1 : Nsz r.gs) : ConN Tryz.prog 23 [aT rowJ stdH fun _ => r, .lit (.string s)] [] 0 (.tup [.vec 1 (stdH Nat fun _ => (if okRg r.gs then nmb (nmE s) r.gs r.gs.length else []).length) (rowsI stdH fun _ => if okRg r.gs then nmb (nmE s) r.gs r.gs.length else []), .lit (.bool (stdH Bool fun _ => okRg r.gs))]) [] [] := by
  have hB : Base Tryz.prog (tabΓ [e_validR, e_numG]) tab := base_of tabOk (ents_cons eok_validR <| ents_cons eok_numG <| ents_nil)
  refine con_m (N := 12) hB (draw_ok hB mixed) Tryz.func23 rfl rfl (fun H => [aT rowJ H fun _ => r, .lit (.string s)]) (fun _ => []) 0 (fun H => .tup [.vec 1 (H Nat fun _ => (if okRg r.gs then nmb (nmE s) r.gs r.gs.length else []).length) (rowsI H fun _ => if okRg r.gs then nmb (nmE s) r.gs r.gs.length else []), .lit (.bool (H Bool fun _ => okRg r.gs))]) (fun H => []) (fun _ => []) 300 (by simp) (fun x hx => ?_) (by simp [lk]) (by omega) (by simp) ?_
  · simp only [List.mem_cons, List.not_mem_nil, or_false] at hx
    rcases hx with rfl | rfl
    · exact aT_bl okRJ _ _
    · exact .lit
  intro X hX hX0 H hH
  conv in Fin.chk _ _ => cbv
  try simp only [Plain_rowsA, Plain_rowsB, Plain_rowsF, Plain_rowsG, Plain_rowsI, Plain_rowsS, Plain_rowsU, Fin.satC_ret, Fin.satC_br, Fin.satC_need, Fin.satC_again, AllP, and_true, true_and, upd, List.length_nil, List.length_cons, Nat.zero_add, if_true, ncast, zqe]
  try simp only [TlW_H hH, hetaA hH]
  refine ⟨⟨?_, ?_, ?_⟩, fun h3 => ⟨?_, ?_⟩, fun h3 => ⟨⟨?_, ?_, ?_⟩, ?_, ?_⟩⟩
  · try simp only [hH, stdH, zql, zqa, zqb, zqc, zqd, peta, ncast, zqe, zqf, zqg, zqh, zqi, ne_eq, zqj, zqk, vrow_I, Arm.eta2, Fld.eta, Grp.eta]
    exact Shp_W _ _
  · try simp only [hH, stdH, zql, zqa, zqb, zqc, zqd, peta, ncast, zqe, zqf, zqg, zqh, zqi, ne_eq, zqj, zqk, vrow_I, Arm.eta2, Fld.eta, Grp.eta]
    omega
  · try simp only [hH, stdH, zql, zqa, zqb, zqc, zqd, peta, ncast, zqe, zqf, zqg, zqh, zqi, ne_eq, zqj, zqk, vrow_I, Arm.eta2, Fld.eta, Grp.eta]
    exact h1
  · simp only [hH, stdH, Int.toNat_natCast] at h3
    rw [Bool.not_eq_true'] at h3
    try simp only [hH, stdH, zql, zqa, zqb, zqc, zqd, peta, ncast, zqe, zqf, zqg, zqh, zqi, ne_eq, zqj, zqk, vrow_I, Arm.eta2, Fld.eta, Grp.eta]
    exact h3
  · simp only [hH, stdH, Int.toNat_natCast] at h3
    rw [Bool.not_eq_true'] at h3
    try simp only [hH, stdH, zql, zqa, zqb, zqc, zqd, peta, ncast, zqe, zqf, zqg, zqh, zqi, ne_eq, zqj, zqk, vrow_I, Arm.eta2, Fld.eta, Grp.eta]
    rw [h3]; rfl
  · try simp only [hH, stdH, zql, zqa, zqb, zqc, zqd, peta, ncast, zqe, zqf, zqg, zqh, zqi, ne_eq, zqj, zqk, vrow_I, Arm.eta2, Fld.eta, Grp.eta]
    exact Shp_W _ _
  · try simp only [hH, stdH, zql, zqa, zqb, zqc, zqd, peta, ncast, zqe, zqf, zqg, zqh, zqi, ne_eq, zqj, zqk, vrow_I, Arm.eta2, Fld.eta, Grp.eta]
    omega
  · try simp only [hH, stdH, zql, zqa, zqb, zqc, zqd, peta, ncast, zqe, zqf, zqg, zqh, zqi, ne_eq, zqj, zqk, vrow_I, Arm.eta2, Fld.eta, Grp.eta]
  · simp only [hH, stdH, Int.toNat_natCast] at h3
    rw [Bool.not_eq_false'] at h3
    try simp only [hH, stdH, zql, zqa, zqb, zqc, zqd, peta, ncast, zqe, zqf, zqg, zqh, zqi, ne_eq, zqj, zqk, vrow_I, Arm.eta2, Fld.eta, Grp.eta]
    exact h3
  · simp only [hH, stdH, Int.toNat_natCast] at h3
    rw [Bool.not_eq_false'] at h3
    try simp only [hH, stdH, zql, zqa, zqb, zqc, zqd, peta, ncast, zqe, zqf, zqg, zqh, zqi, ne_eq, zqj, zqk, vrow_I, Arm.eta2, Fld.eta, Grp.eta]
    rw [h3, if_pos rfl]
    first | exact RowsEq.self okI | exact ⟨Nat.le_refl _, RowsEq.self okI⟩ | exact ⟨trivial, RowsEq.self okI⟩
noncomputable def e_grantsOf : Entry := pureE 23 fun H a => match a with
  | [.agg [.vec 18 r0n r0f], .lit (.string s)] => some (.tup [.vec 1 (H Nat fun _ => (if okRg (⟨(Tl rowW r0n r0f)⟩ : Rgr).gs then nmb (nmE s) (⟨(Tl rowW r0n r0f)⟩ : Rgr).gs (⟨(Tl rowW r0n r0f)⟩ : Rgr).gs.length else []).length) (rowsI H fun _ => if okRg (⟨(Tl rowW r0n r0f)⟩ : Rgr).gs then nmb (nmE s) (⟨(Tl rowW r0n r0f)⟩ : Rgr).gs (⟨(Tl rowW r0n r0f)⟩ : Rgr).gs.length else []), .lit (.bool (H Bool fun _ => okRg (⟨(Tl rowW r0n r0f)⟩ : Rgr).gs))], [H Prop fun _ => Shp rowW r0n r0f, H Prop fun _ => (⟨(Tl rowW r0n r0f)⟩ : Rgr).gs.length ≤ 2000000, H Prop fun _ => Nsz (⟨(Tl rowW r0n r0f)⟩ : Rgr).gs])
  | _ => none
theorem eok_grantsOf : EntryOk Tryz.prog e_grantsOf := pureM_ok (by unfold isBody; kernel_rfl) (by
  intro a r ob e hob
  split at e
  · rename_i r0n r0f s
    simp only [Option.some.injEq, Prod.mk.injEq] at e
    obtain ⟨rfl, rfl⟩ := e
    exact ConN.args (.cons (.agg (.cons (.toT okRW rfl hob.1) .nil)) (.cons .rfl .nil)) (c_grantsOf (⟨(Tl rowW r0n r0f)⟩ : Rgr) s hob.2.1 hob.2.2.1)
  · simp at e)

end Go.Proofs.YtbnohmfapmeaaaaGreatDoor.AM

set_option linter.unusedVariables false
set_option linter.unusedSimpArgs false
set_option maxRecDepth 100000
set_option maxHeartbeats 4000000
set_option cbv.maxSteps 3000000
namespace Go.Proofs.YtbnohmfapmeaaaaGreatDoor.AM
/- The law FnExactParseRegister; conditions: none. -/
theorem pR_le (u : ByteArray) : ((pR u).getD ⟨[]⟩).gs.length ≤ 12 := by
  cases h : pR u with
  | none => exact Nat.zero_le _
  | some m => exact (okRg_in (pR_iff.1 h).1).1
end Go.Proofs.YtbnohmfapmeaaaaGreatDoor.AM

