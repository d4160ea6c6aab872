/- Lemmas and contracts (Shw); conditions: none. -/
import Derived.Test.YtbnohmfapmeaaaaGreatDoorK03
import Derived.Test.YtbnohmfapmeaaaaGreatDoorK33
set_option linter.unusedVariables false
set_option linter.unusedSimpArgs false
set_option maxRecDepth 100000
set_option maxHeartbeats 4000000
set_option cbv.maxSteps 3000000
namespace Go.Proofs.YtbnohmfapmeaaaaGreatDoor.AM
/- Texts of shields read back: whole shields; conditions: none. -/
/-- Both halves of an impaled shield read. -/
theorem imp_at {a b z0 z1 : Arm} (ha : okA a = true) (hb : okA b = true) : stpP (stpP [z0, z1] (numD 1 ++ (colB ++ armT a))) (numD 2 ++ (colB ++ armT b)) = [a, b] := by
  have one : ∀ (i : Nat) (x : Arm) (M : List Arm), i < M.length → M.length ≤ 90 → okA x = true → stpP M (numD (i + 1) ++ (colB ++ armT x)) = M.set i x := fun i x M hi hM hx => by
    have hp : pA (armT x) = some x := pA_iff.2 ⟨hx, rfl⟩
    have hc : cutB (numD (i + 1) ++ (colB ++ armT x)) colB = (numD (i + 1), armT x, true) := cutB_lacks (b := 58) (r := [32]) rfl (num_lacks (by decide) _)
    have hq : pcs nndB (numD (i + 1)) = [numD (i + 1)] := by
      have := pcs_jn (p := nndB) (b := 32) (r := [97, 110, 100, 32]) rfl (L := [numD (i + 1)]) (by simp) fun w hw => by
        rw [List.mem_singleton] at hw
        rw [hw]; exact num_lacks (by decide) _
      rwa [jnB_one] at this
    unfold stpP
    rw [hc]
    dsimp only
    rw [hq, hp, Option.getD_some, List.foldl_cons, List.foldl_nil]
    exact stp1_num hi hM
  rw [one 0 a [z0, z1] (by simp) (by simp) ha, one 1 b _ (by simp) (by simp) hb]
  rfl
theorem len_two {α : Type} : ∀ {l : List α}, l.length = 2 → ∃ a b, l = [a, b]
  | [a, b], _ => ⟨a, b, rfl⟩
  | [], h => by simp at h
  | [_], h => by simp at h
  | _ :: _ :: _ :: _, h => by simp at h
theorem okH_inQ {s : Shd} (h : okH s = true) : (1 ≤ s.mode ∧ s.mode ≤ 3) ∧ (s.parts.length : Int) = cntH s.mode ∧ ∀ y ∈ s.parts, okA y = true := by
  unfold okH inB at h
  simp only [Bool.and_eq_true, decide_eq_true_eq, Bool.not_eq_true'] at h
  refine ⟨h.1, h.2.1, fun y hy => ?_⟩
  have := List.any_eq_false.1 h.2.2 y hy
  simpa using this
theorem cndH_shT {s : Shd} (h : okH s = true) : cndH (shT s) = s := by
  obtain ⟨g1, g2, g3⟩ := okH_inQ h
  obtain ⟨m, l⟩ := s
  dsimp only at g1 g2 g3
  have hm : m = 1 ∨ m = 2 ∨ m = 3 := by omega
  rcases hm with rfl | rfl | rfl
  · have g2 : (l.length : Int) = 1 := g2
    obtain ⟨a, rfl⟩ := List.length_eq_one_iff.1 (show l.length = 1 by omega)
    · have e : shT ⟨1, [a]⟩ = armT a := if_pos rfl
      have hl := armT_lacks (b := 58) (by decide) a
      have hp : pA (armT a) = some a := pA_iff.2 ⟨g3 a List.mem_cons_self, rfl⟩
      rw [e]
      unfold cndH
      rw [isPre_lacks hl (by decide), if_neg (by simp), isPre_lacks hl (by decide), if_neg (by simp), hp]; rfl
  · have g2 : (l.length : Int) = 2 := g2
    obtain ⟨a, b, rfl⟩ := len_two (show l.length = 2 by omega)
    · have e : shT ⟨2, [a, b]⟩ = impB ++ jnB [numD 1 ++ (colB ++ armT a), numD 2 ++ (colB ++ armT b)] semB := by
        rw [jnB_cons, jnB_one]
        have e0 : shT ⟨2, [a, b]⟩ = (⟨⟨[105, 109, 112, 97, 108, 101, 100, 58, 32, 49, 58, 32]⟩⟩ : ByteArray) ++ (armT a ++ ((⟨⟨[59, 32, 50, 58, 32]⟩⟩ : ByteArray) ++ armT b)) := (if_neg (show ¬ (2 : Int) = 1 by decide)).trans (if_pos rfl)
        rw [e0]
        have e1 : (⟨⟨[105, 109, 112, 97, 108, 101, 100, 58, 32, 49, 58, 32]⟩⟩ : ByteArray) = impB ++ (numD 1 ++ colB) := by rw [numD_one (by omega)]; decide
        have e2 : (⟨⟨[59, 32, 50, 58, 32]⟩⟩ : ByteArray) = semB ++ (numD 2 ++ colB) := by rw [numD_one (by omega)]; decide
        rw [e1, e2]
        simp only [ByteArray.append_assoc]
      have hq : pcs semB (jnB [numD 1 ++ (colB ++ armT a), numD 2 ++ (colB ++ armT b)] semB) = [numD 1 ++ (colB ++ armT a), numD 2 ++ (colB ++ armT b)] := pcs_jn (b := 59) (r := [32]) rfl (by simp) fun w hw => by
        simp only [List.mem_cons, List.not_mem_nil, or_false] at hw
        rcases hw with rfl | rfl <;> exact lacks_app (num_lacks (by decide) _) (lacks_app (by decide) (armT_lacks (by decide) _))
      rw [e]
      unfold cndH
      rw [isPre_app, if_pos rfl, afterP_app, hq]
      congr 1
      exact imp_at (g3 a (by simp)) (g3 b (by simp))
  · have g2 : (l.length : Int) = 4 := g2
    have g4 : l.length = 4 := by omega
    have e : shT ⟨3, l⟩ = qutB ++ jnB ((fs1 l l.length).map (shP l)) semB := (if_neg (show ¬ (3 : Int) = 1 by decide)).trans (if_neg (show ¬ (3 : Int) = 2 by decide))
    have hq : pcs semB (jnB ((fs1 l l.length).map (shP l)) semB) = (fs1 l l.length).map (shP l) := pcs_jn (b := 59) (r := [32]) rfl (by
      intro q
      exact fs1_ne l.length (by omega) (List.map_eq_nil_iff.1 q)) fun w hw => by
      obtain ⟨i, _, rfl⟩ := List.mem_map.1 hw
      exact shP_lacks l i
    rw [e]
    unfold cndH
    rw [qut_imp, if_neg (by simp), isPre_app, if_pos rfl, afterP_app, hq]
    congr 1
    have := fold_all (l := l) (by omega) g3
    rwa [g4] at this ⊢
theorem pS_iff {t : ByteArray} {s : Shd} : pS t = some s ↔ okH s = true ∧ shT s = t := by
  unfold pS
  constructor
  · intro h
    split at h
    · rename_i q
      injection h with h
      rw [← h]; exact q
    · cases h
  · rintro ⟨h1, rfl⟩
    rw [cndH_shT h1, if_pos ⟨h1, rfl⟩]
end Go.Proofs.YtbnohmfapmeaaaaGreatDoor.AM

