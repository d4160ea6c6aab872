/- Lemmas and contracts (Wra Qln); conditions: none. -/
import Derived.Test.YtbnohmfapmeaaaaGreatDoorK03
import Derived.Test.YtbnohmfapmeaaaaGreatDoorK10
import Derived.Test.YtbnohmfapmeaaaaGreatDoorK14
import Derived.Test.YtbnohmfapmeaaaaGreatDoorK16
import Derived.Test.YtbnohmfapmeaaaaGreatDoorK18
import Derived.Test.YtbnohmfapmeaaaaGreatDoorK19
import Derived.Test.YtbnohmfapmeaaaaGreatDoorK20
set_option linter.unusedVariables false
set_option linter.unusedSimpArgs false
set_option maxRecDepth 100000
set_option maxHeartbeats 4000000
set_option cbv.maxSteps 3000000
namespace Go.Proofs.YtbnohmfapmeaaaaGreatDoor.AM
/- Arms wrapped; conditions: none. -/
theorem Tl_S (L : List ByteArray) : Tl rowS L.length (rowsS stdH fun _ => L) = L := Tl_rowsT okS L
theorem Shp_S (n : Nat) (L : List ByteArray) : Shp rowS n (rowsS stdH fun _ => L) := Shp_rowsT okS n (fun _ => L)
end Go.Proofs.YtbnohmfapmeaaaaGreatDoor.AM

set_option linter.unusedVariables false
set_option linter.unusedSimpArgs false
set_option maxRecDepth 100000
set_option maxHeartbeats 4000000
set_option cbv.maxSteps 3000000
namespace Go.Proofs.YtbnohmfapmeaaaaGreatDoor.AM
/- Small numbers as texts; lines of quarterings; conditions: none. -/
def numD (i : Nat) : ByteArray := ⟨(Lib.decDigits i).toArray⟩
/-- A call that is never reached. -/
noncomputable def e_l1NumV : Entry := pureE 134 fun H a => match a with
  | [.lit (.int .i64 _)] => some (.lit (.string ByteArray.empty), [H Prop fun _ => False])
  | _ => none
theorem eok_l1NumV : EntryOk Tryz.prog e_l1NumV := pureE_ok (by unfold isBody; kernel_rfl) (by
  intro a r ob e hob
  split at e
  · simp only [Option.some.injEq, Prod.mk.injEq] at e
    obtain ⟨rfl, rfl⟩ := e
    exact hob.1.elim
  · simp at e)
theorem numD_one {i : Nat} (h : i < 10) : numD i = ⟨⟨[UInt8.ofNat (48 + i)]⟩⟩ := by unfold numD; rw [Lib.decDigits_one h]
theorem numD_step {i : Nat} (h : ¬ i < 10) : numD i = numD (i / 10) ++ ⟨⟨[UInt8.ofNat (48 + i % 10)]⟩⟩ := by
  unfold numD
  rw [Lib.decDigits, dif_neg h]
  apply ByteArray.ext; apply Array.ext'
  simp
theorem dig_at {i : Nat} (h : i < 10) : ((⟨⟨[48, 49, 50, 51, 52, 53, 54, 55, 56, 57]⟩⟩ : ByteArray)).extract i (i + 1) = ⟨⟨[UInt8.ofNat (48 + i)]⟩⟩ := by
  have : ∀ i : Nat, i < 10 → ((⟨⟨[48, 49, 50, 51, 52, 53, 54, 55, 56, 57]⟩⟩ : ByteArray)).extract i (i + 1) = (⟨⟨[UInt8.ofNat (48 + i)]⟩⟩ : ByteArray) := by decide
  exact this i h
theorem numD_sz {i : Nat} (h : i < 100) : (numD i).size ≤ 2 := by
  by_cases h1 : i < 10
  · rw [numD_one h1]; exact Nat.le_succ 1
  · rw [numD_step h1, numD_one (by omega)]; exact Nat.le_refl 2
theorem c_l1NumA (x : Int) (h0 : 0 ≤ x ∧ x ≤ 9) : ConN Tryz.prog 134 [.lit (.int .i64 x)] [] 0 (.lit (.string (stdH ByteArray fun _ => numD (x).toNat))) [] [] := by
  have hB : Base Tryz.prog (tabΓ [e_l1NumV]) tab := base_of tabOk (ents_cons eok_l1NumV <| ents_nil)
  refine con_m (N := 25) hB (draw_ok hB mixed) Tryz.func134 rfl rfl (fun H => [.lit (.int .i64 x)]) (fun _ => []) 0 (fun H => .lit (.string (H ByteArray fun _ => numD (x).toNat))) (fun H => []) (fun _ => []) 200 (by simp) (fun x hx => ?_) (by simp [lk]) (by omega) (by simp) ?_
  · simp only [List.mem_cons, List.not_mem_nil, or_false] at hx
    rcases hx with rfl
    · exact .lit
  intro X hX hX0 H hH
  conv in Fin.chk _ _ => cbv
  try simp only [Plain_rowsA, Plain_rowsB, Plain_rowsC, Plain_rowsF, Plain_rowsG, Plain_rowsI, Plain_rowsS, Plain_rowsU, Fin.satC_ret, Fin.satC_br, Fin.satC_need, Fin.satC_again, AllP, and_true, true_and, upd, List.length_nil, List.length_cons, Nat.zero_add, if_true, ncast, Int.ofNat_eq_natCast]
  subst hH
  simp only [stdH, decide_eq_true_eq, decide_eq_false_iff_not]
  have e1 : 0 ≤ x ∧ x ≤ 9 → IntKind.i64.wrap (x + 1) = x + 1 := fun h => wi (by omega) (by omega)
  have e2 : (x.tmod 10) = x % 10 := Int.tmod_eq_emod_of_nonneg (by omega)
  have e3 : (x.tdiv 10) = x / 10 := Int.tdiv_eq_ediv_of_nonneg (by omega)
  have e4 : IntKind.i64.wrap (x % 10 + 1) = x % 10 + 1 := wi (by omega) (by omega)
  have e5 : IntKind.i64.wrap (x / 10) = x / 10 := wi (by omega) (by omega)
  have e6 : ((⟨⟨[48, 49, 50, 51, 52, 53, 54, 55, 56, 57]⟩⟩ : ByteArray)).size = 10 := rfl
  have hx : (x % 10).toNat < 10 := by omega
  have e7 : (x % 10 + 1).toNat = (x % 10).toNat + 1 := by omega
  simp only [e2, e3, e4, e5, e6]
  simp only [loOf, hiOf, okB, e7, dig_at hx]
  refine ⟨fun h => ?_, fun h => ⟨fun h2 => ?_, fun h2 => ?_⟩⟩
  · omega
  · rw [e1 (by omega), show (x + 1).toNat = x.toNat + 1 by omega, dig_at (by omega), numD_one (by omega)]
    exact ⟨⟨by omega, by omega, by omega, by omega⟩, rfl⟩
  · omega
noncomputable def e_l1NumA : Entry := pureE 134 fun H a => match a with
  | [.lit (.int .i64 x)] => some (.lit (.string (H ByteArray fun _ => numD (x).toNat)), [H Prop fun _ => 0 ≤ x ∧ x ≤ 9])
  | _ => none
theorem eok_l1NumA : EntryOk Tryz.prog e_l1NumA := pureM_ok (by unfold isBody; kernel_rfl) (by
  intro a r ob e hob
  split at e
  · rename_i x
    simp only [Option.some.injEq, Prod.mk.injEq] at e
    obtain ⟨rfl, rfl⟩ := e
    exact ConN.args (.cons .rfl .nil) (c_l1NumA x hob.1)
  · simp at e)
theorem c_l1NumB (x : Int) (h0 : 0 ≤ x ∧ x ≤ 99) : ConN Tryz.prog 134 [.lit (.int .i64 x)] [] 0 (.lit (.string (stdH ByteArray fun _ => numD (x).toNat))) [] [] := by
  have hB : Base Tryz.prog (tabΓ [e_l1NumA]) tab := base_of tabOk (ents_cons eok_l1NumA <| ents_nil)
  refine con_m (N := 25) hB (draw_ok hB mixed) Tryz.func134 rfl rfl (fun H => [.lit (.int .i64 x)]) (fun _ => []) 0 (fun H => .lit (.string (H ByteArray fun _ => numD (x).toNat))) (fun H => []) (fun _ => []) 200 (by simp) (fun x hx => ?_) (by simp [lk]) (by omega) (by simp) ?_
  · simp only [List.mem_cons, List.not_mem_nil, or_false] at hx
    rcases hx with rfl
    · exact .lit
  intro X hX hX0 H hH
  conv in Fin.chk _ _ => cbv
  try simp only [Plain_rowsA, Plain_rowsB, Plain_rowsC, Plain_rowsF, Plain_rowsG, Plain_rowsI, Plain_rowsS, Plain_rowsU, Fin.satC_ret, Fin.satC_br, Fin.satC_need, Fin.satC_again, AllP, and_true, true_and, upd, List.length_nil, List.length_cons, Nat.zero_add, if_true, ncast, Int.ofNat_eq_natCast]
  subst hH
  simp only [stdH, decide_eq_true_eq, decide_eq_false_iff_not]
  have e1 : 0 ≤ x ∧ x ≤ 9 → IntKind.i64.wrap (x + 1) = x + 1 := fun h => wi (by omega) (by omega)
  have e2 : (x.tmod 10) = x % 10 := Int.tmod_eq_emod_of_nonneg (by omega)
  have e3 : (x.tdiv 10) = x / 10 := Int.tdiv_eq_ediv_of_nonneg (by omega)
  have e4 : IntKind.i64.wrap (x % 10 + 1) = x % 10 + 1 := wi (by omega) (by omega)
  have e5 : IntKind.i64.wrap (x / 10) = x / 10 := wi (by omega) (by omega)
  have e6 : ((⟨⟨[48, 49, 50, 51, 52, 53, 54, 55, 56, 57]⟩⟩ : ByteArray)).size = 10 := rfl
  have hx : (x % 10).toNat < 10 := by omega
  have e7 : (x % 10 + 1).toNat = (x % 10).toNat + 1 := by omega
  simp only [e2, e3, e4, e5, e6]
  simp only [loOf, hiOf, okB, e7, dig_at hx]
  refine ⟨fun h => ?_, fun h => ⟨fun h2 => ?_, fun h2 => ?_⟩⟩
  · omega
  · rw [e1 (by omega), show (x + 1).toNat = x.toNat + 1 by omega, dig_at (by omega), numD_one (by omega)]
    exact ⟨⟨by omega, by omega, by omega, by omega⟩, rfl⟩
  · have s1 := numD_sz (i := (x / 10).toNat) (by omega)
    refine ⟨by omega, by omega, by omega, by omega, ⟨by omega, by omega, by omega, by omega⟩, ?_, ?_⟩
    · show _ + 1 ≤ _
      omega
    · rw [numD_step (by omega), show (x / 10).toNat = x.toNat / 10 by omega, show (x % 10).toNat = x.toNat % 10 by omega]
noncomputable def e_l1NumB : Entry := pureE 134 fun H a => match a with
  | [.lit (.int .i64 x)] => some (.lit (.string (H ByteArray fun _ => numD (x).toNat)), [H Prop fun _ => 0 ≤ x ∧ x ≤ 99])
  | _ => none
theorem eok_l1NumB : EntryOk Tryz.prog e_l1NumB := pureM_ok (by unfold isBody; kernel_rfl) (by
  intro a r ob e hob
  split at e
  · rename_i x
    simp only [Option.some.injEq, Prod.mk.injEq] at e
    obtain ⟨rfl, rfl⟩ := e
    exact ConN.args (.cons .rfl .nil) (c_l1NumB x hob.1)
  · simp at e)
end Go.Proofs.YtbnohmfapmeaaaaGreatDoor.AM

