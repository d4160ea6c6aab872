/- Lemmas and contracts (Spn); conditions: none. -/
import Derived.Test.YtbnohmfapmeaaaaGreatDoorK03
import Derived.Test.YtbnohmfapmeaaaaGreatDoorK45
set_option linter.unusedVariables false
set_option linter.unusedSimpArgs false
set_option maxRecDepth 100000
set_option maxHeartbeats 4000000
set_option cbv.maxSteps 3000000
namespace Go.Proofs.YtbnohmfapmeaaaaGreatDoor.AM
/- Texts parted at most so often, by the library; conditions: none. -/
theorem pcs_eqN {p : ByteArray} : ∀ n s, Lib.splitB p 0 n s = pcsN p n s
  | 0, s => by rw [Lib.splitB_zero]; rfl
  | n + 1, s => by
    rcases Lib.indexB_cases s p with h | ⟨i, h, hr⟩
    · rw [Lib.splitB_miss _ _ _ _ h]
      rw [pcsN_s, cutB_miss h, if_neg (fun q => by cases q)]
    · rw [Lib.splitB_hit _ _ _ _ _ h, Nat.add_zero, pcs_eqN n _]
      rw [pcsN_s, cutB_idx h, if_pos rfl]
theorem pcsN_min {p : ByteArray} (hp : 1 ≤ p.size) {n : Nat} {s : ByteArray} (h1 : 1 ≤ n) : pcsN p (min n (s.size + 1) - 1) s = pcsN p (n - 1) s := by
  rcases Nat.le_total n (s.size + 1) with h | h
  · rw [Nat.min_eq_left h]
  · rw [Nat.min_eq_right h, ← pcs_eq hp _ _ (show s.size ≤ s.size + 1 - 1 by omega), ← pcs_eq hp _ _ (show s.size ≤ n - 1 by omega)]
theorem con_textsN {f : FuncId} {l : List Value} {L : List ByteArray} {N : Nat} {T : TypeId} (hN : L.length ≤ N) (hL : N ≤ maxLen) (h : ∀ w : World, w.ShapedOpen Tryz.prog → Calls Tryz.prog f l.toArray w fun e w' => e = .returned (.slice (some ⟨w.heap.size, 0, none⟩) L.length N) ∧ w' = w.alloc (.cells (Lib.cellsOf L N) T)) : Con Tryz.prog f (l.map .lit) [] (.vec 1 L.length (rowsS stdH fun _ => L)) [] := by
  intro C vs hl _ _ hg
  rw [hl.lits]
  refine (h C.w hg.shaped).mono fun e w' ⟨he, hw⟩ => ⟨_, he, ⟨C.β, C.ok, C.ow, w'⟩, rfl, ⟨?_, by simp, fun _ _ => rfl, fun _ h => h, fun _ h => .inl h⟩, by simp <;> omega, by simp <;> omega, by simp <;> omega, by simp <;> omega, fun y hy => ?_, by simp [named], by simp⟩
  · subst hw; exact .alloc _ _ _
  · injection hy with hy
    subst hy
    subst hw
    refine .vec (fun j _ => .string (L.getD j ByteArray.empty)) hN hL (fun _ _ => rfl) (fun _ => ⟨C.w.heap.size, 0, rfl, fun h => Nat.lt_irrefl _ (hg.lt _ h), by simp, fun j c hj hc => ?_⟩) (fun _ _ _ _ => rfl) (fun j c x hj hx => ?_)
    · obtain rfl : c = 0 := by omega
      show World.cell? _ ⟨C.w.heap.size, 0 + j * 1 + 0, none⟩ = _
      rw [World.cell?_alloc_new, Nat.zero_add, Nat.mul_one, Nat.add_zero]
      unfold Lib.cellsOf
      simp only [List.getElem?_toArray]
      rw [List.getElem?_append_left (by rw [List.length_map]; exact hj)]
      simp only [List.getElem?_map, List.getElem?_eq_getElem hj, Option.map_some, List.getD_eq_getElem?_getD, Option.getD_some]
    · rcases c with _ | c
      · simp [rowsS] at hx; subst hx; exact .lit rfl
      · simp [rowsS] at hx
theorem c_splitN (s p : ByteArray) (n : Int) (h0 : s.size < 4294967281) (h1 : 1 ≤ p.size) (hn : n = 4) : Con Tryz.prog 73 [.lit (.string s), .lit (.string p), .lit (.int .i64 n)] [] (.vec 1 (pcsN p 3 s).length (rowsS stdH fun _ => pcsN p 3 s)) [] := by
  subst hn
  have h3 : (pcsN p 3 s).length ≤ min 4 (s.size + 1) := by
    have h3 := (pcsN_len p (min 4 (s.size + 1) - 1) s).1
    rw [pcsN_min h1 (by omega)] at h3
    have h4 : (pcsN p (4 - 1) s).length ≤ _ := h3
    show (pcsN p (4 - 1) s).length ≤ _
    omega
  exact con_textsN (l := [.string s, .string p, .int .i64 (4 : Int)]) (N := min 4 (s.size + 1)) h3 (by unfold maxLen; omega) fun w hw => (Tryz.strings_SplitN_shaped s p 4 w hw h0 h1 (by omega) (by omega)).mono fun e w' ⟨g1, g2⟩ => by
    rw [pcs_eqN, pcsN_min h1 (by omega)] at g1 g2
    exact ⟨g1, g2⟩
noncomputable def e_splitN : Entry := pureE 73 fun H a => match a with
  | [.lit (.string s), .lit (.string p), .lit (.int .i64 n)] => some (.vec 1 (H Nat fun _ => (pcsN p 3 s).length) (rowsS H fun _ => pcsN p 3 s), [H Prop fun _ => s.size < 4294967281, H Prop fun _ => 1 ≤ p.size, H Prop fun _ => n = 4])
  | _ => none
theorem eok_splitN : EntryOk Tryz.prog e_splitN := pureE_ok (by unfold isBody; kernel_rfl) (by
  intro a r ob e hob
  split at e
  · simp only [Option.some.injEq, Prod.mk.injEq] at e
    obtain ⟨rfl, rfl⟩ := e
    obtain ⟨h0, h1, h2, _⟩ := hob
    exact c_splitN _ _ _ h0 h1 h2
  · simp at e)

end Go.Proofs.YtbnohmfapmeaaaaGreatDoor.AM

