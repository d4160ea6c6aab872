import Derived.Test.YtoommgpcmgnpaaaAmT
import Derived.Test.YtoommgpcmgnpaaaAmDl
import Derived.Test.YtoommgpcmgnpaaaLst
import Derived.WalkKit
import Derived.Deep.RegionLaw
import Derived.Lib.SliceRun
set_option linter.unusedVariables false
set_option linter.unusedSimpArgs false
set_option maxRecDepth 100000
set_option maxHeartbeats 4000000
set_option cbv.maxSteps 3000000
namespace Go.Proofs.Ytoommgpcmgnpaaa.AM
/- One of a list of grants deleted by the library; conditions: none. -/
open Go.RowKit
theorem underGrant : Try.prog.underlying 47 = some (.slice 88) := by kernel_rfl
set_option maxHeartbeats 4000000 in
set_option maxRecDepth 1000000 in
theorem calls_DeleteN (b cap n a : Nat) (cur : Array Value) (w : World) (hw : w.heap[b]? = some (.cells cur 88 (0, 0))) (ha : a < n) (hn : n ≤ cap) (hm : cap ≤ maxLen) (hsz : cap * 18 ≤ cur.size) (h1 : ∀ p, p < n * 18 → ∃ v, cur[p]? = some v ∧ v.oneCell' = true) :
    ∃ zs : List Value, zs.length = 18 ∧ Calls Try.prog 63 #[.slice (some ⟨b, 0, none⟩) n cap, .int .i64 a, .int .i64 ((a + 1 : Nat) : Int)] w fun e w' => e = .returned (.slice (some ⟨b, 0, none⟩) (n - 1) cap) ∧ w' = (w.drew.setCells b (a * 18) (movd cur 18 n a)).setCells b ((n - 1) * 18) zs := by
  have hE := tgood88
  obtain ⟨i0, z, hi0, hz2, _, hz3, hz4⟩ := hE.get
  have hz1 : z.cells.toList.length = 18 := by rw [hz4]; rfl
  have hnk : n * 18 ≤ cur.size := Nat.le_trans (Nat.mul_le_mul_right _ hn) hsz
  have hcell : ∀ p, (hp : p < cur.size) → w.cell? ⟨b, p, none⟩ = some (cur[p]'hp) := fun p hp => by simp [World.cell?, hw, hp]
  have hcell' : ∀ p v, cur[p]? = some v → w.cell? ⟨b, p, none⟩ = some v := fun p v hv => by simp [World.cell?, hw, hv]
  have hfr : ∀ p, w.frozen? ⟨b, p, none⟩ = false := fun p => by simp [World.frozen?, hw]
  have ml := movd_len ha hnk
  obtain ⟨news, hnews⟩ : ∃ news, news = movd cur 18 n a := ⟨_, rfl⟩
  have e1 : (a + 1) * 18 + (n - (a + 1)) * 18 = n * 18 := by omega
  obtain ⟨A, hA, hsrc⟩ : ∃ A : Addr, (if cap = a + 1 then some (⟨b, 0, none⟩ : Addr) else some ⟨b, (a + 1) * 18, none⟩) = some A ∧ Hid (∀ t u, news[t]? = some u → w.drew.cell? (A.add t) = some u) := by
    by_cases h : cap = a + 1
    · refine ⟨⟨b, 0, none⟩, by simp [h], fun t u hu => ?_⟩
      have h0 : news.length = 0 := by rw [hnews, ml]; omega
      rw [List.length_eq_zero_iff.1 h0] at hu
      simp at hu
    · refine ⟨⟨b, (a + 1) * 18, none⟩, by simp [h], fun t u hu => ?_⟩
      have ht : t < (n - (a + 1)) * 18 := by
        have := (List.getElem?_eq_some_iff.1 hu).1
        rwa [hnews, ml] at this
      rw [hnews, movd_get ht] at hu
      rw [Addr.add_lit]
      exact hcell' _ _ hu
  have s1 : Hid (news.length = (n - (a + 1)) * 18) := by rw [hnews]; exact ml
  have s2 : Hid (∀ u ∈ news, u.oneCell' = true) := by
    intro u hu
    obtain ⟨t, ht⟩ := List.getElem?_of_mem hu
    have ht' : t < (n - (a + 1)) * 18 := by
      have := (List.getElem?_eq_some_iff.1 ht).1
      rwa [hnews, ml] at this
    rw [hnews, movd_get ht'] at ht
    obtain ⟨v, q1, q2⟩ := h1 ((a + 1) * 18 + t) (by omega)
    rw [q1] at ht
    injection ht with ht
    exact ht ▸ q2
  have s3 : Hid (∀ t, t < news.length → (w.drew.cell? ⟨b, 0 + a * 18 + t, none⟩).isSome = true ∧ w.drew.frozen? ⟨b, 0 + a * 18 + t, none⟩ = false) := by
    intro t ht
    rw [hnews, ml] at ht
    exact ⟨by show (w.cell? _).isSome = true; rw [hcell _ (by omega)]; rfl, hfr _⟩
  obtain ⟨W1, hW1⟩ : ∃ W1, W1 = w.drew.setCells b (0 + a * 18) news := ⟨_, rfl⟩
  have hcl : ∀ ty, (Builtin.clear_ #[47] ty #[.slice (some ⟨b, (a + (n - (a + 1))) * 18, none⟩) (n - (a + (n - (a + 1)))) (cap - (a + (n - (a + 1))))]).run Try.prog W1 = .ok (.tuple #[]) (W1.setCells b ((a + (n - (a + 1))) * 18) z.cells.toList) := fun ty => by
    rw [show n - (a + (n - (a + 1))) = 1 by omega]
    refine run_clear_one W1 47 88 ty z underGrant ?_ 18 (by rw [← Array.length_toList]; exact hz1) (by decide) ?_ b _ _ (fun j hj => ?_) (fun j hj => ?_)
    · intro w
      simp [zeroValue, typeInfo, hi0, hz3]
    · rw [hz4]; decide
    · rw [hW1]
      have := World.isSome_setCells b news (0 + a * 18) w.drew ⟨b, (a + (n - (a + 1))) * 18 + j, none⟩ (by show (w.cell? _).isSome = true; rw [hcell _ (by omega)]; rfl)
      exact this
    · rw [hW1, World.frozen?_setCells]; exact hfr _
  have X : Hid (W1 = w.drew.setCells b (a * 18) (movd cur 18 n a)) := by
    have := hW1
    rw [Nat.zero_add, hnews] at this
    exact this
  have hW : Hid (W1 = w.drew.setCells b (0 + a * 18) news) := hW1
  have hic : a ≤ cap := by omega
  have hp0 : (0 : Int) ≤ (a : Int) + 1 := by omega
  have hp1 : (a : Int) + 1 ≤ (n : Int) := by omega
  have hjc : a + 1 ≤ cap := by omega
  generalize z.cells.toList = zs at hcl hz1 hz4
  refine ⟨zs, hz1, ?_⟩
  clear hz4 hz3
  clear hW1 hnews hcell hcell' hfr h1 ml hw
  go_enter Try.func63, Try.ntmps63
  go_wp2_with fail
  go_region_law (refine step_append_room rfl (.tmp 22) (.tmp 25) 47 rfl 88 i0 18 underGrant hi0 hz2 b 0 a cap (by simp [Act.eval, Act.put]) A (n - (a + 1)) (cap - (a + 1)) news (by simp [Act.eval, Act.put]) s1.out hsrc.out s2.out (by omega) s3.out ?_; rw [← hW.out])
  go_wp2
  go_ret
  have e2 : a + (n - (a + 1)) = n - 1 := by omega
  rw [e2]
  exact ⟨rfl, by rw [← X.out]⟩
/-- One row of the caller's own deleted. -/
theorem c_DeleteN (i nx n a : Nat) (f : Nat → List AV) (ha : a < n) (hf : ∀ j, j < n → (f j).length = 18) : ConN Try.prog 63 [.slc i 0 18 n, .lit (.int .i64 a), .lit (.int .i64 ((a + 1 : Nat) : Int))] [(i, .rows 18 n f 88)] nx (.slc nx 0 18 (n - 1)) [.rows 18 (n - 1) (delR a f) 88] [(i, .cells [] 88)] := by
  intro C vs hl hb hinj hglo hfresh
  obtain ⟨hlen, hrel⟩ := hl
  match vs, hlen with
  | [v0, v1, v2], _ =>
    have r0 := hrel 0 _ v0 rfl rfl
    have r1 := hrel 1 _ v1 rfl rfl
    have r2 := hrel 2 _ v2 rfl rfl
    cases r1
    cases r2
    obtain ⟨⟨cur, hcur, hcells⟩, hok, how⟩ := hb i _ (by rw [lk_cons, if_pos rfl])
    cases r0 with
    | @slc _ _ _ _ cap g1 g2 g3 g4 =>
    obtain ⟨cur', T', h5, h6⟩ := g4
    have hce : cur' = cur := by rw [hcur] at h5; injection h5 with h5; injection h5 with h5; exact h5.symm
    subst hce
    simp only [Nat.zero_add] at h6
    have h1 : ∀ p, p < n * 18 → ∃ v, cur'[p]? = some v ∧ v.oneCell' = true := fun p hp => by
      have hj : p / 18 < n := by omega
      have hq : p % 18 < (f (p / 18)).length := by rw [hf _ hj]; omega
      obtain ⟨v, q1, q2, _⟩ := hcells p _ (by simp only [Blk.at]; rw [if_pos hj]; exact List.getElem?_eq_getElem hq)
      exact ⟨v, q1, q2⟩
    obtain ⟨zs, hz, hcall⟩ := calls_DeleteN (C.β i) cap n a cur' C.w hcur ha g2 g3 h6 h1
    rw [ite_self]
    refine hcall.mono ?_
    rintro e w' ⟨rfl, rfl⟩
    exact ⟨_, rfl, Leaves.del (hfresh nx (by omega) (by simp)) hok how (by decide) ha hcur hcells g2 g3 h6 zs hz⟩
noncomputable def e_DeleteN : Entry := ⟨63, fun H a h nx => match a with
  | [.slc i 0 18 n, .lit (.int .i64 x), .lit (.int .i64 y)] => (match lk i h with
    | some (.rows 18 n' f E) => bif Nat.beq E 88 then some (.slc nx 0 18 (H Nat fun _ => n - 1), [.rows 18 (H Nat fun _ => n - 1) (delR (H Nat fun _ => x.toNat) f) 88], [i], [(i, .cells [] 88)], [H Prop fun _ => n' = n ∧ 0 ≤ x ∧ x.toNat < n ∧ y = x + 1 ∧ ∀ j, j < n → (f j).length = 18]) else none
    | _ => none)
  | _ => none⟩
theorem eok_DeleteN : EntryOk Try.prog e_DeleteN := by
  refine ⟨by unfold isBody; kernel_rfl, fun a hp nx r nb rd u ob e hob => ?_⟩
  simp only [e_DeleteN] at e
  split at e
  · rename_i i n x y
    split at e
    · rename_i n' f E hlk
      cases hE : Nat.beq E 88 with
      | false => rw [hE] at e; simp at e
      | true =>
        rw [hE] at e
        have hE := Nat.eq_of_beq_eq_true hE
        subst hE
        simp only [cond_true, stdH, Option.some.injEq, Prod.mk.injEq] at e
        obtain ⟨rfl, rfl, rfl, rfl, rfl⟩ := e
        obtain ⟨⟨h0, h1, h2, h3, h4⟩, _⟩ := hob
        subst h0
        obtain ⟨m, rfl⟩ : ∃ m : Nat, x = m := ⟨x.toNat, by omega⟩
        subst h3
        simp only [Int.toNat_natCast] at h2 ⊢
        refine ⟨fun q b hq => ?_, [(i, .rows 18 n' f 88)], fun q b hq => ?_, ?_⟩
        · simp only [List.mem_cons, List.not_mem_nil, or_false, Prod.mk.injEq] at hq
          obtain ⟨rfl, rfl⟩ := hq
          exact ⟨by simp, _, hlk, rfl⟩
        · rw [lk_cons] at hq
          by_cases hi : i = q
          · rw [if_pos hi] at hq; injection hq with hq; subst hq; subst hi; exact ⟨by simp, hlk⟩
          · rw [if_neg hi] at hq; simp [lk] at hq
        · have hc := c_DeleteN i nx n' m f h2 h4
          exact hc
    · simp at e
  · simp at e

end Go.Proofs.Ytoommgpcmgnpaaa.AM
