import Derived.Test.YtocekpklffdjgaaDif
import Derived.Test.YtocekpklffdjgaaDrA
set_option linter.unusedVariables false
set_option linter.unusedSimpArgs false
set_option maxRecDepth 100000
set_option maxHeartbeats 4000000
set_option cbv.maxSteps 3000000
namespace Go.Proofs.Ytocekpklffdjgaa.AM
/- The kinds of differences; arms like others are drawn; conditions: none. -/
def nt (b : Bool) (k : Int) (l : List Int) : List Int := bif b then l ++ [k] else l
def lst (n : Nat) (f : Nat → List AV) : List Int := (List.range n).map (ints f)
theorem lst_len (n : Nat) (f : Nat → List AV) : (lst n f).length = n := by simp [lst]
theorem lst_get (n : Nat) (f : Nat → List AV) : ∀ j, j < n → lget (lst n f) j = ints f j := fun j hj => by simp [lget, lst, hj]
theorem lst_vrow (l : List Int) : lst l.length (vrow (lget l)) = l := by
  refine List.ext_getElem (by simp [lst]) fun i h1 h2 => ?_
  simp only [lst, List.getElem_map, List.getElem_range]
  show lget l i = _
  simp [lget, List.getElem?_eq_getElem h2]
theorem lst_gro {n : Nat} {f : Nat → List AV} (h : ∀ j, j < n → f j = vrow (ints f) j) : Gro n f (lst n f) := ⟨(lst_len n f).symm, fun j hj => by
  rw [lst_len] at hj
  rw [h j hj]
  unfold vrow
  rw [lst_get n f j hj]⟩
theorem c_note (l : List Int) (n : Nat) (f : Nat → List AV) (hg : Gro n f l) (is : Bool) (k : Int) (hn : n ≤ 100000) : ConN Try.prog 103 [.lit (.bool is), .lit (.int .i64 k), .ptr 0 0] [(0, .cells [.slc 1 0 1 n] 32), (1, .rows 1 n f 3)] 2 (.tup [])
    [.rows 1 (nt is k l).length (vrow (lget (nt is k l))) 3] [(0, .cells [.slc 2 0 1 (nt is k l).length] 32), (1, .cells [] 3)] := by
  have hB : Base Try.prog (tabΓ []) tab := base_of tabOk (ents_nil)
  refine con_okX (N := 10) hB (draw_ok hB mixed) Try.func103 rfl rfl _ _ 2 _ _ _ 60 (by simp) (fun x hx => ?_) (fun i b hi => ?_) (fun i hi => ?_) (fun i b hi => ?_) ?_
  · simp only [List.mem_cons, List.not_mem_nil, or_false] at hx
    rcases hx with rfl | rfl | rfl
    · exact .lit
    · exact .lit
    · exact .ptr (by omega)
  · have := lk_in hi
    simp only [List.mem_cons, List.not_mem_nil, or_false, Prod.mk.injEq] at this
    rcases this with ⟨rfl, rfl⟩ | ⟨rfl, rfl⟩
    · refine ⟨by omega, fun p x hx => ?_, _, by simp; rfl⟩
      simp only [Blk.at] at hx
      match p, hx with
      | 0, hx => simp at hx; subst hx; exact .slc (by omega)
      | p + 1, hx => simp at hx
    · refine ⟨by omega, fun p x hx => ?_, .cells [] _, by simp; rfl⟩
      simp only [Blk.at] at hx
      split at hx
      · rename_i hlt
        rw [hg.2 _ (by rw [← hg.1]; exact hlt)] at hx
        have := List.mem_of_getElem? hx
        simp [vrow] at this
        subst this
        exact .lit
      · cases hx
  · rcases (by omega : i = 0 ∨ i = 1) with rfl | rfl
    · exact ⟨_, rfl⟩
    · exact ⟨_, rfl⟩
  · simp only [List.mem_cons, List.not_mem_nil, or_false, Prod.mk.injEq] at hi
    rcases hi with ⟨rfl, rfl⟩ | ⟨rfl, rfl⟩
    · exact ⟨_, rfl⟩
    · exact ⟨_, rfl⟩
  intro X hX hX0 H hH
  conv in finish _ _ _ _ _ _ _ _ => cbv
  subst hH
  simp only [Fin.sat_ret, Fin.sat_br, Fin.sat_need, AllP, stdH, and_true, true_and]
  refine ⟨fun hi => ⟨by omega, ⟨_, rfl, fun i => i, fun _ _ => rfl, fun _ _ _ _ _ _ h => h, fun i h1 h2 h3 => by omega, .rn (.same (q := 0) (fun _ _ => rfl) (by omega) (.tup (by simp))), fun i b hb => ?_, fun i b hb => ?_⟩⟩, fun hi => ⟨_, rfl, fun i => if i = 2 then 1 else i, fun i h => if_neg (by omega), fun i j a1 a2 a3 a4 _ => by simp at a2 a4; omega, fun i h1 h2 h3 b hb => ?_, .rn (.same (q := 0) (by omega) (by omega) (.tup (by simp))), fun i b hb => ?_, fun i b hb => ?_⟩⟩
  · subst hi
    simp only [named, List.mem_cons, List.not_mem_nil, or_false, Prod.mk.injEq] at hb
    obtain ⟨rfl, rfl⟩ := hb
    exact ⟨_, rfl, rfl, (rnb_ints (gro_snoc hg k)).z⟩
  · subst hi
    simp only [List.mem_cons, List.not_mem_nil, or_false, Prod.mk.injEq] at hb
    rcases hb with ⟨rfl, rfl⟩ | ⟨rfl, rfl⟩
    · refine ⟨_, rfl, ⟨rfl, fun _ => rfl⟩, fun p x hx => ?_⟩
      simp only [Blk.at] at hx
      match p, hx with
      | 0, hx =>
        simp at hx
        subst hx
        refine ⟨_, rfl, ?_⟩
        have : (nt true k l).length = n + 1 := by simp [nt, hg.1]
        rw [this]
        exact .rn (Rn.slc (π := fun i => i) (by simp))
      | p + 1, hx => simp at hx
    · exact ⟨_, rfl, ⟨rfl, fun h => by simp [Blk.dead] at h⟩, fun p x hx => by simp [Blk.at] at hx⟩
  · have e : i = 2 := by simp at h2; omega
    subst e
    simp only [if_true, List.mem_cons, List.not_mem_nil, or_false, Prod.mk.injEq] at hb
    rcases hb with ⟨h, _⟩ | ⟨_, rfl⟩
    · omega
    · rfl
  · subst hi
    simp only [named, List.mem_cons, List.not_mem_nil, or_false, Prod.mk.injEq] at hb
    obtain ⟨rfl, rfl⟩ := hb
    exact ⟨_, rfl, rfl, (rnb_ints hg).z⟩
  · subst hi
    simp only [List.mem_cons, List.not_mem_nil, or_false, Prod.mk.injEq] at hb
    rcases hb with ⟨rfl, rfl⟩ | ⟨rfl, rfl⟩
    · refine ⟨_, rfl, ⟨rfl, fun _ => rfl⟩, fun p x hx => ?_⟩
      simp only [Blk.at] at hx
      match p, hx with
      | 0, hx =>
        simp at hx
        subst hx
        refine ⟨_, rfl, ?_⟩
        have : (nt false k l).length = n := by simp [nt, hg.1]
        rw [this]
        exact .rn (Rn.slc (π := fun i => if i = 2 then 1 else i) (i := 2) (by simp))
      | p + 1, hx => simp at hx
    · exact ⟨_, rfl, ⟨rfl, fun h => by simp [Blk.dead] at h⟩, fun p x hx => by simp [Blk.at] at hx⟩
noncomputable def e_note : Entry := ⟨103, fun H a h nx => match a with
  | [.lit (.bool is), .lit (.int .i64 k), .ptr i 0] => (match lk i h with
    | some (.cells [.slc j 0 1 n] T) => (match lk j h with
      | some (.rows 1 n' f E) => bif Nat.beq T 32 && (Nat.beq E 3 && !Nat.beq i j) then some (.tup [], [.rows 1 (H Nat fun _ => (nt is k (lst n f)).length) (vrow (H (Nat → Int) fun _ => lget (nt is k (lst n f)))) 3], [i, j], [(i, .cells [.slc nx 0 1 (H Nat fun _ => (nt is k (lst n f)).length)] 32), (j, .cells [] 3)], [H Prop fun _ => n' = n ∧ n ≤ 100000 ∧ ∀ j, j < n → f j = vrow (ints f) j]) else none
      | _ => none)
    | _ => none)
  | _ => none⟩
def pi2' (i j k : Nat) : Nat := if k = 0 then i else j
theorem eok_note : EntryOk Try.prog e_note := by
  refine ⟨by unfold isBody; kernel_rfl, fun a hp nx r nb rd u ob e hob => ?_⟩
  simp only [e_note] at e
  split at e
  · rename_i is k i
    split at e
    · rename_i j n T hi
      split at e
      · rename_i n' f E hj
        cases hc : (Nat.beq T 32 && (Nat.beq E 3 && !Nat.beq i j)) with
        | false => rw [hc] at e; simp at e
        | true =>
          rw [hc] at e
          simp only [cond_true, stdH, Option.some.injEq, Prod.mk.injEq] at e
          obtain ⟨rfl, rfl, rfl, rfl, rfl⟩ := e
          simp only [Bool.and_eq_true, Bool.not_eq_true'] at hc
          have hT := Nat.eq_of_beq_eq_true hc.1
          have hE := Nat.eq_of_beq_eq_true hc.2.1
          have hij : i ≠ j := by rintro rfl; have := hc.2.2; simp at this
          subst hT; subst hE
          obtain ⟨⟨rfl, hn, hf⟩, _⟩ := hob
          have hg := lst_gro hf
          refine ⟨fun q b hq => ?_, [(i, .cells [.slc j 0 1 n'] 32), (j, .rows 1 n' f 3)], fun q b hq => ?_, ?_⟩
          · simp only [List.mem_cons, List.not_mem_nil, or_false, Prod.mk.injEq] at hq
            rcases hq with ⟨rfl, rfl⟩ | ⟨rfl, rfl⟩
            · exact ⟨by simp, _, hi, rfl⟩
            · exact ⟨by simp, _, hj, rfl⟩
          · have := lk_in hq
            simp only [List.mem_cons, List.not_mem_nil, or_false, Prod.mk.injEq] at this
            rcases this with ⟨rfl, rfl⟩ | ⟨rfl, rfl⟩
            · exact ⟨by simp, hi⟩
            · exact ⟨by simp, hj⟩
          · refine (c_note (lst n' f) n' f hg is k hn).ren (pi2 i j) (fun q hq => ?_) rfl (fun c x y hx hy => ?_) (fun q b hq => ?_) (fun q q' hq hq' he => ?_) rfl (.pl (.tup (by simp))) (fun q b' hq => ?_) (fun i' b' hq => ?_) (fun i' b' hq => ?_)
            · rcases (by omega : q = 0 ∨ q = 1) with rfl | rfl
              · exact ⟨_, rfl⟩
              · exact ⟨_, rfl⟩
            · match c, hx, hy with
              | 0, hx, hy => simp at hx hy; subst hx; subst hy; exact .same (q := 0) (by omega) (by omega) .lit
              | 1, hx, hy => simp at hx hy; subst hx; subst hy; exact .same (q := 0) (by omega) (by omega) .lit
              | 2, hx, hy => simp at hx hy; subst hx; subst hy; exact Rn.ptr (π := pi2 i j) (i := 0) (by omega)
              | c + 3, hx, hy => simp at hx
            · have := lk_in hq
              simp only [List.mem_cons, List.not_mem_nil, or_false, Prod.mk.injEq] at this
              rcases this with ⟨rfl, rfl⟩ | ⟨rfl, rfl⟩
              · refine ⟨by omega, .cells [.slc j 0 1 n'] _, by rw [show pi2 i j 0 = i from rfl, lk_cons, if_pos rfl], ⟨rfl, fun _ => rfl⟩, fun p x hx => ?_⟩
                simp only [Blk.at] at hx
                match p, hx with
                | 0, hx => simp at hx; subst hx; exact ⟨_, rfl, Rn.slc (π := pi2 i j) (i := 1) (by omega)⟩
                | p + 1, hx => simp at hx
              · refine ⟨by omega, .rows 1 n' f _, by rw [show pi2 i j 1 = j from rfl, lk_cons, if_neg hij, lk_cons, if_pos rfl], ⟨rfl, fun _ => rfl⟩, fun p x hx => ⟨x, hx, ?_⟩⟩
                simp only [Blk.at] at hx
                split at hx
                · rename_i hlt
                  rw [hf _ hlt] at hx
                  have := List.mem_of_getElem? hx
                  simp [vrow] at this
                  subst this
                  exact .same (q := 0) (by omega) (by omega) .lit
                · cases hx
            · unfold pi2 at he
              split at he <;> split at he <;> first | omega | (exact absurd he hij) | (exact absurd he.symm hij)
            · match q, hq with
              | 0, hq =>
                simp at hq
                subst hq
                refine ⟨_, rfl, .same fun p x hx => ?_⟩
                simp only [Blk.at] at hx
                split at hx
                · have := List.mem_of_getElem? hx
                  simp [vrow] at this
                  subst this
                  exact .lit
                · cases hx
              | q + 1, hq => simp at hq
            · simp only [List.mem_cons, List.not_mem_nil, or_false, Prod.mk.injEq] at hq
              rcases hq with ⟨rfl, rfl⟩ | ⟨rfl, rfl⟩
              · refine ⟨0, .cells [.slc 2 0 1 _] _, by omega, rfl, by simp; rfl, rfl, fun p x hx => ?_⟩
                simp only [Blk.at] at hx
                match p, hx with
                | 0, hx => simp at hx; subst hx; exact ⟨_, rfl, .slc (by simp) (by omega)⟩
                | p + 1, hx => simp at hx
              · exact ⟨1, .cells [] _, by omega, rfl, by simp, rfl, fun p x hx => by simp [Blk.at] at hx⟩
            · simp only [List.mem_cons, List.not_mem_nil, or_false, Prod.mk.injEq] at hq
              rcases hq with ⟨rfl, rfl⟩ | ⟨rfl, rfl⟩
              · exact ⟨by omega, ⟨_, List.mem_cons_self⟩, fun h => by simp [Blk.dead] at h⟩
              · refine ⟨by omega, ⟨_, List.mem_cons_of_mem _ List.mem_cons_self⟩, fun _ b' hb' => ?_⟩
                simp only [List.mem_cons, List.not_mem_nil, or_false, Prod.mk.injEq, pi2] at hb'
                rcases hb' with ⟨h, _⟩ | ⟨_, rfl⟩
                · exact absurd h.symm hij
                · rfl
      · simp at e
    · simp at e
  · simp at e

end Go.Proofs.Ytocekpklffdjgaa.AM
