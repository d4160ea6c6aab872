/- Lemmas and contracts (Spe Rpl Rps Mks); conditions: none. -/
import Derived.Test.YtbnohmfapmeaaaaGreatDoorK03
import Derived.Test.YtbnohmfapmeaaaaGreatDoorK04
import Derived.Test.YtbnohmfapmeaaaaGreatDoorK08
import Derived.Test.YtbnohmfapmeaaaaGreatDoorK10
import Derived.Test.YtbnohmfapmeaaaaGreatDoorK14
import Derived.Test.YtbnohmfapmeaaaaGreatDoorK16
import Derived.Test.YtbnohmfapmeaaaaGreatDoorK21
import Derived.Test.YtbnohmfapmeaaaaGreatDoorK26
import Derived.Test.YtbnohmfapmeaaaaGreatDoorK29
import Derived.Test.YtbnohmfapmeaaaaGreatDoorK30
import Derived.Test.YtbnohmfapmeaaaaGreatDoorK34
set_option linter.unusedVariables false
set_option linter.unusedSimpArgs false
set_option maxRecDepth 100000
set_option maxHeartbeats 4000000
set_option cbv.maxSteps 3000000
namespace Go.Proofs.YtbnohmfapmeaaaaGreatDoor.AM
/- Arms parsed by both; conditions: none. -/
theorem r6_some {s : ByteArray} {a : Arm} (h : pA s = some a) : r6 s = a := by
  by_cases q : early s
  · obtain ⟨q1, q2, q3, q4⟩ := q
    cases hf : pF (cutB s comB).1 with
    | none => rw [hf] at q2; cases q2
    | some f =>
      cases hg : pG (cutB s comB).2.1 with
      | none => rw [hg] at q4; cases q4
      | some g =>
        rw [r6_early q1 hf q3 hg]
        rw [pA_early hf q3 hg] at h
        split at h
        · injection h
        · cases h
  · rw [r6_late q, h]; rfl
end Go.Proofs.YtbnohmfapmeaaaaGreatDoor.AM

set_option linter.unusedVariables false
set_option linter.unusedSimpArgs false
set_option maxRecDepth 100000
set_option maxHeartbeats 4000000
set_option cbv.maxSteps 3000000
namespace Go.Proofs.YtbnohmfapmeaaaaGreatDoor.AM
/- Texts of shields read by the reference: plain; conditions: none. -/
theorem num_sB {i : Nat} : sByte (numD i) 0 ≠ 45 := by
  obtain ⟨d, r, h1, h2⟩ := numD_head i
  unfold sByte
  rw [h2]
  intro q
  have : ∀ d : Nat, d < 10 → (UInt8.ofNat (48 + d)).toNat ≠ 45 := by decide
  have h3 : (((UInt8.ofNat (48 + d)).toNat : Nat) : Int) = 45 := q
  exact this d h1 (by omega)
theorem numD_posR (i : Nat) : 1 ≤ (numD i).size := by
  obtain ⟨d, r, h1, h2⟩ := numD_head i
  have : (numD i).size = (numD i).data.toList.length := rfl
  rw [this, h2, List.length_cons]; omega
theorem rd_num {i : Nat} (h : i < 1000000) : rdO (numD i) = true ∧ rdV (numD i) = i := by
  have hr : rdT (numD i) = numD i := if_neg fun q => num_sB q.2
  obtain ⟨r1, r2⟩ := rd_end (s := numD i) (n := i) (v := (i : Int)) (by rw [hr]; exact ⟨numD_posR i, numD_sz6 h⟩) (by rw [hr]; exact numD_dec i) (by rw [hr, if_neg (by omega)])
  have e : numI (i : Int) = numD i := by rw [numI_p (by omega), Int.toNat_natCast]
  exact ⟨by rw [r1, e]; simp, r2 e⟩
end Go.Proofs.YtbnohmfapmeaaaaGreatDoor.AM

set_option linter.unusedVariables false
set_option linter.unusedSimpArgs false
set_option maxRecDepth 100000
set_option maxHeartbeats 4000000
set_option cbv.maxSteps 3000000
namespace Go.Proofs.YtbnohmfapmeaaaaGreatDoor.AM
/- Texts of shields read by the reference; conditions: none. -/
theorem pcs_step {p : ByteArray} (hp : 1 ≤ p.size) (s : ByteArray) : pcs p s = if (cutB s p).2.2 = true then (cutB s p).1 :: pcs p (cutB s p).2.1 else [s] := by
  have e1 : pcs p s = pcsN p (s.size + 1) s := by
    unfold pcs
    rw [← pcs_eq hp s.size s (Nat.le_refl _), ← pcs_eq hp (s.size + 1) s (by omega)]
  have hz := cutB_sz s p
  have e2 : pcsN p s.size (cutB s p).2.1 = pcs p (cutB s p).2.1 := by
    unfold pcs
    rw [← pcs_eq hp s.size _ hz.2, ← pcs_eq hp _ _ (Nat.le_refl _)]
  rw [e1, pcsN_s, e2]
theorem ofL_toL (l : List UInt8) : (ofL l).data.toList = l := rfl
theorem hidx {H : Hold} (hH : H = stdH) (n : Nat) : Int.toNat (H Int fun _ => (n : Int)) = n := by subst hH; rfl
end Go.Proofs.YtbnohmfapmeaaaaGreatDoor.AM

set_option linter.unusedVariables false
set_option linter.unusedSimpArgs false
set_option maxRecDepth 100000
set_option maxHeartbeats 4000000
set_option cbv.maxSteps 3000000
namespace Go.Proofs.YtbnohmfapmeaaaaGreatDoor.AM
/- Marks on a shield's parts; conditions: none. -/
/-- A contract under other names, the arguments by what they stand for. -/
theorem ConN.renR {P : Program} {f : FuncId} {args args' : List AV} {hp hp' u u' : Heap} {r r' : AV} {nb nb' : List Blk} {m n : Nat} (π : Nat → Nat) (h : ConN P f args hp m r nb u) (hm : ∀ i, i < m → ∃ b, lk i hp = some b) (hA : ∀ (C : Cx) (vs : List Value), LRel C args' vs → LRel ⟨fun i => C.β (π i), fun j => j < m, C.ow, C.w⟩ args vs)
    (hh : ∀ i b, lk i hp = some b → i < m ∧ ∃ b', lk (π i) hp' = some b' ∧ RnB π m b b') (hi : ∀ i j, i < m → j < m → π i = π j → i = j) (hlen : nb'.length = nb.length) (hr : Re n m nb.length r' r)
    (hnb : ∀ (q : Nat) (b' : Blk), nb'[q]? = some b' → ∃ b, nb[q]? = some b ∧ ReB n m nb.length b' b) (hu : ∀ i' b', (i', b') ∈ u' → ∃ i b, i < m ∧ π i = i' ∧ (i, b) ∈ u ∧ ReB n m nb.length b' b)
    (hu2 : ∀ i b, (i, b) ∈ u → i < m ∧ (∃ b', (π i, b') ∈ u') ∧ (b.dead = true → ∀ b', (π i, b') ∈ u' → b'.dead = true)) : ConN P f args' hp' n r' nb' u' := by
  intro C vs hv hb hinj hlt hfresh
  let D : Cx := ⟨fun i => C.β (π i), fun j => j < m, C.ow, C.w⟩
  have hl' : LRel D args vs := hA C vs hv
  have hkey : ∀ i, i < m → C.ok (π i) ∧ C.ow (C.β (π i)) := fun i hi => by
    obtain ⟨b, hb1⟩ := hm i hi
    obtain ⟨_, b', hb2, _⟩ := hh i b hb1
    exact (hb _ _ hb2).2
  refine (h D vs hl' (fun j b hj => ?_) (fun j k a1 a2 h1 h2 d1 d2 he => ?_) hlt (fun i h1 _ (h2 : i < m) => by omega)).mono fun e w' ⟨cv, he, C', h⟩ => ⟨cv, he, ?_⟩
  · obtain ⟨h1, b', h2, h3⟩ := hh j b hj
    exact ⟨(h3.z (Z := False) (n0 := 0) (hp := [])).brel (C := C) (i' := π j) rfl (fun _ _ => rfl) (fun _ h => h) (fun _ h => h) rfl (fun h => h.elim) (hb _ _ h2).1, h1, (hkey j h1).2⟩
  · obtain ⟨p1, b1, p2, ⟨_, p3⟩, _⟩ := hh j a1 h1
    obtain ⟨q1, b2, q2, ⟨_, q3⟩, _⟩ := hh k a2 h2
    exact hi j k p1 q1 (hinj _ _ _ _ p2 q2 (p3 d1) (q3 d2) he)
  have hβm : ∀ i, i < m → C'.β i = C.β (π i) := fun i hi => h.ext.β i hi
  have hww : C'.w = w' := h.w
  let F : Cx := ⟨fun i => if n ≤ i ∧ i < n + nb.length then C'.β (m + (i - n)) else C.β i, fun i => C.ok i ∨ (n ≤ i ∧ i < n + nb.length), fun k => C.ow k ∨ ∃ i, n ≤ i ∧ i < n + nb.length ∧ C'.β (m + (i - n)) = k, w'⟩
  have hFn : ∀ i, n ≤ i → i < n + nb.length → F.β i = C'.β (m + (i - n)) := fun i h1 h2 => if_pos ⟨h1, h2⟩
  have hFo : ∀ i, C.ok i → F.β i = C.β i := fun i hi => if_neg fun ⟨h1, h2⟩ => hfresh i h1 (by omega) hi
  have hβ : ∀ i, n ≤ i → i < n + nb.length → F.β i = C'.β (m + (i - n)) ∧ F.ok i := fun i h1 h2 => ⟨hFn i h1 h2, .inr ⟨h1, h2⟩⟩
  have how : ∀ k, F.ow k → C'.ow k := by
    rintro k (h0 | ⟨i, h1, h2, e⟩)
    · exact (h.ow k).2 (.inl h0)
    · exact (h.ow k).2 (.inr ⟨m + (i - n), by omega, by omega, e⟩)
  refine ⟨F, rfl, ⟨?_, ?_, hFo, fun _ h => .inl h, ?_⟩, fun i => by rw [hlen], fun k => ?_, fun i h1 h2 => ?_, fun i j h1 h2 h3 h4 e => ?_, fun y hy => ?_, fun i b hib => ?_, fun i b hib => ?_⟩
  · have hw := h.ext.wx
    rw [h.w] at hw
    refine hw.trans (.refl _ (fun _ => False)) (fun k hk => ?_) (fun k _ h => h.elim)
    obtain ⟨j, b2, hj, hk⟩ := hk
    obtain ⟨_, ⟨b', hb'⟩, _⟩ := hu2 j b2 hj
    exact ⟨π j, b', hb', hk⟩
  · rintro k ⟨i', b', hib, rfl⟩
    obtain ⟨i, b, h1, rfl, _⟩ := hu i' b' hib
    exact (hkey i h1).2
  · rintro k (h0 | ⟨i, h1, h2, rfl⟩)
    · exact .inl h0
    · have := h.ext.ow (C'.β (m + (i - n))) ((h.ow _).2 (.inr ⟨m + (i - n), by omega, by omega, rfl⟩))
      exact this
  · rw [hlen]
    show C.ow k ∨ _ ↔ C.ow k ∨ _
    refine or_congr Iff.rfl ⟨?_, ?_⟩
    · rintro ⟨i, h1, h2, e⟩; exact ⟨i, h1, h2, by rw [hFn i h1 h2]; exact e⟩
    · rintro ⟨i, h1, h2, e⟩; exact ⟨i, h1, h2, by rw [← hFn i h1 h2]; exact e⟩
  · rw [hlen] at h2
    rw [hFn i h1 h2]
    rcases h.new (m + (i - n)) (by omega) (by omega) with hge | ⟨j, hj, e, ⟨b, hjb⟩, hd⟩
    · exact .inl hge
    · obtain ⟨_, hex, hdd⟩ := hu2 j b hjb
      exact .inr ⟨π j, (hkey j hj).1, e, hex, hdd (hd b hjb)⟩
  · rw [hlen] at h2 h4
    rw [hFn i h1 h2, hFn j h3 h4] at e
    have := h.inj (m + (i - n)) (m + (j - n)) (by omega) (by omega) (by omega) (by omega) e
    omega
  · injection hy with hy
    subst hy
    exact hr.rel hβ how hww.symm (h.val _ rfl)
  · obtain ⟨h1, h2⟩ := mem_named.1 hib
    have hlt2 : i - n < nb.length := by rw [← hlen]; exact (List.getElem?_eq_some_iff.1 h2).1
    obtain ⟨b0, h3, h4⟩ := hnb _ _ h2
    exact h4.brel (i' := m + (i - n)) (hFn i h1 (by omega)) hβ how hww.symm (h.nb _ _ (mem_named.2 ⟨by omega, by rw [Nat.add_sub_cancel_left]; exact h3⟩))
  · obtain ⟨j, b0, h1, rfl, h2, h3⟩ := hu i b hib
    exact h3.brel (i' := j) (by rw [hFo _ (hkey j h1).1, hβm j h1]) hβ how hww.symm (h.u _ _ h2)
end Go.Proofs.YtbnohmfapmeaaaaGreatDoor.AM

