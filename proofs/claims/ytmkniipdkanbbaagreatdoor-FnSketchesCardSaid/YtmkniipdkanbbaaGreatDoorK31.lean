/- Lemmas and contracts (Skx); conditions: none. -/
import Derived.Test.YtmkniipdkanbbaaGreatDoorK04
import Derived.Test.YtmkniipdkanbbaaGreatDoorK10
import Derived.Test.YtmkniipdkanbbaaGreatDoorK29
import Derived.Test.YtmkniipdkanbbaaGreatDoorK30
set_option linter.unusedVariables false
set_option linter.unusedSimpArgs false
set_option maxRecDepth 100000
set_option maxHeartbeats 4000000
set_option cbv.maxSteps 3000000
namespace Go.Proofs.YtmkniipdkanbbaaGreatDoor.AM
/- Where the tinctures of sketches stand: pointers looked at; conditions: none. -/
def nG (x : Int) : Bool := !decide (x = 1)
theorem bne1 (x : Int) : (x != 1) = nG x := by unfold nG; rw [Bool.eq_iff_iff]; simp
theorem rdQ_ok {P : Program} {f : FuncId} {T E q : Nat} {L0 L : List AV} {offs : List Nat} {rest : List AV} {v : Value} {i j nx : Nat} (hc : ConN P f (.slc 1 0 1 q :: rest) [(0, .cells L0 T), (1, .cells (offs.map (AV.ptr 0)) E)] 2 (.lit v) [] [(0, .cells L0 T), (1, .cells (offs.map (AV.ptr 0)) E)]) (hd0 : (Blk.cells L0 T).dead = false) (hd : (Blk.cells L T).dead = false) (hp : (Blk.cells (offs.map (AV.ptr 0)) E).dead = false) (hij : i ≠ j) (hrest : ∀ x ∈ rest, Bl 0 x) (hL : ∀ (c : Nat) (x : AV), L0[c]? = some x → L[c]? = some x) (hb : ∀ x ∈ L0, Bl 0 x) : ConN P f (.slc j 0 1 q :: rest) [(i, .cells L T), (j, .cells (offs.map (AV.ptr i)) E)] nx (.lit v) [] [(i, .cells L0 T), (j, .cells (offs.map (AV.ptr i)) E)] := by
  have hpd : (Blk.cells (offs.map (AV.ptr i)) E).dead = false := by
    cases offs with
    | nil => cases hp
    | cons => rfl
  refine hc.renW (fun q => if q = 0 then i else j) (fun q hq => ?_) rfl (fun c x z hx hz => ?_) (fun q b hq => ?_) (fun a b h1 h2 h3 => ?_) rfl (.pl .lit) (fun q b hq => by simp at hq) (fun q b hq => ?_) (fun q b hq => ?_)
  · rcases (by omega : q = 0 ∨ q = 1) with rfl | rfl
    · exact ⟨_, rfl⟩
    · exact ⟨_, rfl⟩
  · cases c with
    | zero =>
      simp only [List.getElem?_cons_zero, Option.some.injEq] at hx hz
      subst hx; subst hz
      exact Rn.slc (π := fun q => if q = 0 then i else j) (i := 1) (m := 2) (by omega)
    | succ c =>
      simp only [List.getElem?_cons_succ] at hx hz
      rw [hx] at hz; injection hz with hz; subst hz
      exact .same (q := 0) (by omega) (by omega) (hrest x (List.mem_of_getElem? hx))
  · have := lk_in hq
    simp only [zqu, Prod.mk.injEq] at this
    rcases this with ⟨rfl, rfl⟩ | ⟨rfl, rfl⟩
    · refine ⟨by omega, .cells L T, by simp only [if_true]; rw [lk_cons, if_pos rfl], ⟨rfl, fun _ => hd⟩, fun p x hx => ?_⟩
      have hx : L0[p]? = some x := hx
      exact ⟨x, hL p x hx, .same (q := 0) (by omega) (by omega) (hb x (List.mem_of_getElem? hx))⟩
    · refine ⟨by omega, .cells (offs.map (AV.ptr i)) E, by rw [if_neg (by decide), lk_cons, if_neg hij, lk_cons, if_pos rfl], ⟨rfl, fun _ => hpd⟩, fun p x hx => ?_⟩
      have hx : (offs.map (AV.ptr 0))[p]? = some x := hx
      rw [List.getElem?_map] at hx
      cases ho : offs[p]? with
      | none => rw [ho] at hx; cases hx
      | some y =>
        rw [ho] at hx
        simp only [Option.map_some, Option.some.injEq] at hx
        subst hx
        refine ⟨.ptr i y, ?_, Rn.ptr (π := fun q => if q = 0 then i else j) (i := 0) (by omega)⟩
        show (offs.map (AV.ptr i))[p]? = _
        rw [List.getElem?_map, ho]; rfl
  · rcases (by omega : a = 0 ∨ a = 1) with rfl | rfl <;> rcases (by omega : b = 0 ∨ b = 1) with rfl | rfl
    · rfl
    · exact absurd h3 hij
    · exact absurd h3.symm hij
    · rfl
  · simp only [zqu, Prod.mk.injEq] at hq
    rcases hq with ⟨rfl, rfl⟩ | ⟨rfl, rfl⟩
    · exact ⟨0, _, by omega, rfl, List.mem_cons_self, rfl, fun p x hx => ⟨x, hx, .pl (hb x (List.mem_of_getElem? hx))⟩⟩
    · refine ⟨1, _, by omega, rfl, List.mem_cons_of_mem _ List.mem_cons_self, rfl, fun p x hx => ?_⟩
      have hx : (offs.map (AV.ptr i))[p]? = some x := hx
      rw [List.getElem?_map] at hx
      cases ho : offs[p]? with
      | none => rw [ho] at hx; cases hx
      | some y =>
        rw [ho] at hx
        simp only [Option.map_some, Option.some.injEq] at hx
        subst hx
        refine ⟨.ptr 0 y, ?_, Rw.ptrO (π := fun z => if z = 0 then i else q) (i := 0) (by omega)⟩
        show (offs.map (AV.ptr 0))[p]? = _
        rw [List.getElem?_map, ho]; rfl
  · simp only [zqu, Prod.mk.injEq] at hq
    rcases hq with ⟨rfl, rfl⟩ | ⟨rfl, rfl⟩
    · exact ⟨by omega, ⟨_, List.mem_cons_self⟩, fun h => by rw [hd0] at h; cases h⟩
    · exact ⟨by omega, ⟨_, List.mem_cons_of_mem _ List.mem_cons_self⟩, fun h => by rw [hp] at h; cases h⟩
theorem rdP_ok {P : Program} {f : FuncId} {T o : Nat} {L0 L : List AV} {v : Value} {i nx : Nat} (hc : ConN P f [.ptr 0 o] [(0, .cells L0 T)] 1 (.lit v) [] [(0, .cells L0 T)]) (hd0 : (Blk.cells L0 T).dead = false) (hd : (Blk.cells L T).dead = false) (hL : ∀ (c : Nat) (x : AV), L0[c]? = some x → L[c]? = some x) (hb : ∀ x ∈ L0, Bl 0 x) : ConN P f [.ptr i o] [(i, .cells L T)] nx (.lit v) [] [(i, .cells L0 T)] := by
  refine hc.renW (fun _ => i) (fun q hq => ⟨_, by obtain rfl : q = 0 := (by omega); rfl⟩) rfl (fun c x z hx hz => ?_) (fun q b hq => ?_) (by omega) rfl (.pl .lit) (fun q b hq => by simp at hq) (fun q b hq => ?_) (fun q b hq => ?_)
  · cases c with
    | zero =>
      simp only [List.getElem?_cons_zero, Option.some.injEq] at hx hz
      subst hx; subst hz
      exact Rn.ptr (π := fun _ => i) (i := 0) (by omega)
    | succ c => simp at hx
  · have := lk_in hq
    simp only [zqu, Prod.mk.injEq] at this
    obtain ⟨rfl, rfl⟩ := this
    refine ⟨by omega, .cells L T, by rw [lk_cons, if_pos rfl], ⟨rfl, fun _ => hd⟩, fun p x hx => ?_⟩
    have hx : L0[p]? = some x := hx
    exact ⟨x, hL p x hx, .same (q := 0) (by omega) (by omega) (hb x (List.mem_of_getElem? hx))⟩
  · simp only [zqu, Prod.mk.injEq] at hq
    obtain ⟨rfl, rfl⟩ := hq
    exact ⟨0, _, by omega, rfl, List.mem_cons_self, rfl, fun p x hx => ⟨x, hx, .pl (hb x (List.mem_of_getElem? hx))⟩⟩
  · simp only [zqu, Prod.mk.injEq] at hq
    obtain ⟨rfl, rfl⟩ := hq
    exact ⟨by omega, ⟨_, List.mem_cons_self⟩, fun h => by rw [hd0] at h; cases h⟩
theorem get_pre {A B : List AV} {c : Nat} {x : AV} (h : A[c]? = some x) : (A ++ B)[c]? = some x := by
  rw [List.getElem?_append_left (List.getElem?_eq_some_iff.1 h).1]; exact h
def e_rdP (f T o : Nat) (g : List Int → Bool) : Entry := ⟨f, fun H a h nx => match a with
  | [.ptr i o'] => bif Nat.beq o' o then (match lk i h with
    | some (.cells (.lit (.int .i64 x0) :: .lit (.int .i64 x1) :: .lit (.int .i64 x2) :: .lit (.int .i64 x3) :: .lit (.int .i64 x4) :: .lit (.int .i64 x5) :: .lit (.int .i64 x6) :: .lit (.int .i64 x7) :: .lit (.int .i64 x8) :: .lit (.int .i64 x9) :: .lit (.int .i64 x10) :: .lit (.int .i64 x11) :: .lit (.int .i64 x12) :: .lit (.int .i64 x13) :: .lit (.int .i64 x14) :: _) T') => bif Nat.beq T' T then some (.lit (.bool (H Bool fun _ => g [x0, x1, x2, x3, x4, x5, x6, x7, x8, x9, x10, x11, x12, x13, x14])), [], [i], [(i, .cells (cX x0 x1 x2 x3 x4 x5 x6 x7 x8 x9 x10 x11 x12 x13 x14 []) T)], []) else none
    | _ => none) else none
  | _ => none⟩
theorem eok_rdP {P : Program} {f T o : Nat} {g : List Int → Bool} (hb : isBody P f) (hc : ∀ x0 x1 x2 x3 x4 x5 x6 x7 x8 x9 x10 x11 x12 x13 x14, ConN P f [.ptr 0 o] [(0, .cells (cX x0 x1 x2 x3 x4 x5 x6 x7 x8 x9 x10 x11 x12 x13 x14 []) T)] 1 (.lit (.bool (g [x0, x1, x2, x3, x4, x5, x6, x7, x8, x9, x10, x11, x12, x13, x14]))) [] [(0, .cells (cX x0 x1 x2 x3 x4 x5 x6 x7 x8 x9 x10 x11 x12 x13 x14 []) T)]) : EntryOk P (e_rdP f T o g) := ⟨hb, fun a hp nx r nb rd u ob e hob => by
  simp only [e_rdP] at e
  split at e
  · rename_i i o'
    cases hO : Nat.beq o' o with
    | false => rw [hO] at e; cases e
    | true =>
    rw [hO, cond_true] at e
    obtain rfl := Nat.eq_of_beq_eq_true hO
    split at e
    · rename_i x0 x1 x2 x3 x4 x5 x6 x7 x8 x9 x10 x11 x12 x13 x14 R T' hlk
      cases hT : Nat.beq T' T with
      | false => rw [hT] at e; cases e
      | true =>
      rw [hT, cond_true] at e
      obtain rfl := Nat.eq_of_beq_eq_true hT
      simp only [zqt] at e
      obtain ⟨rfl, rfl, rfl, rfl, rfl⟩ := e
      refine ⟨fun q b hq => ?_, [(i, .cells ((cX x0 x1 x2 x3 x4 x5 x6 x7 x8 x9 x10 x11 x12 x13 x14 []) ++ R) T')], fun q b hq => ?_, ?_⟩
      · simp only [zqu, Prod.mk.injEq] at hq
        obtain ⟨rfl, rfl⟩ := hq
        exact ⟨by simp, _, hlk, rfl⟩
      · rw [lk_cons] at hq
        by_cases hi : i = q
        · rw [if_pos hi] at hq; injection hq with hq; subst hq; subst hi; exact ⟨by simp, hlk⟩
        · rw [if_neg hi] at hq; simp [lk] at hq
      · exact rdP_ok (hc x0 x1 x2 x3 x4 x5 x6 x7 x8 x9 x10 x11 x12 x13 x14) rfl rfl (fun c x h => get_pre h) fun x hx => by
          simp only [cA, cX, zqu] at hx
          rcases hx with rfl | rfl | rfl | rfl | rfl | rfl | rfl | rfl | rfl | rfl | rfl | rfl | rfl | rfl | rfl <;> exact .lit
    · cases e
  · cases e⟩
def ptO (offs : List Nat) : List AV → Option Nat
  | [] => none
  | .ptr i o :: l => bif Nat.beq o (offs.headD 0) then (bif (List.map (AV.ptr i) offs.tail).length == l.length then bif allP i offs.tail l then some i else none else none) else none
  | _ => none
where allP (i : Nat) : List Nat → List AV → Bool
  | [], [] => true
  | o :: os, .ptr i' o' :: l => bif Nat.beq i' i then bif Nat.beq o' o then allP i os l else false else false
  | _, _ => false
theorem allP_ok {i : Nat} : ∀ {os : List Nat} {l : List AV}, ptO.allP i os l = true → l = os.map (AV.ptr i)
  | [], [], _ => rfl
  | o :: os, [], h => by simp [ptO.allP] at h
  | [], x :: l, h => by cases x <;> simp [ptO.allP] at h
  | o :: os, x :: l, h => by
    cases x with
    | ptr i' o' =>
      simp only [ptO.allP] at h
      cases h1 : Nat.beq i' i with
      | false => rw [h1] at h; cases h
      | true =>
        rw [h1, cond_true] at h
        cases h2 : Nat.beq o' o with
        | false => rw [h2] at h; cases h
        | true =>
          rw [h2, cond_true] at h
          rw [Nat.eq_of_beq_eq_true h1, Nat.eq_of_beq_eq_true h2, allP_ok h]; rfl
    | _ => simp [ptO.allP] at h
theorem ptO_ok {o : Nat} {os : List Nat} {l : List AV} {i : Nat} (h : ptO (o :: os) l = some i) : l = (o :: os).map (AV.ptr i) := by
  unfold ptO at h
  split at h
  · cases h
  · rename_i i' o' l
    cases h1 : Nat.beq o' ((o :: os).headD 0) with
    | false => rw [h1] at h; cases h
    | true =>
      rw [h1, cond_true] at h
      cases h2 : (List.map (AV.ptr i') (o :: os).tail).length == l.length with
      | false => rw [h2] at h; cases h
      | true =>
        rw [h2, cond_true] at h
        cases h3 : ptO.allP i' (o :: os).tail l with
        | false => rw [h3] at h; cases h
        | true =>
          rw [h3, cond_true] at h
          injection h with h
          subst h
          rw [Nat.eq_of_beq_eq_true h1, allP_ok h3]; rfl
  · cases h
def e_rdQ (f T E k : Nat) (o : Nat) (os : List Nat) (g : Hold → List Int → Value) : Entry := ⟨f, fun H a h nx => match a with
  | [.slc j 0 1 q, .lit (.func (.func k') ⟨[]⟩ ⟨[]⟩)] => bif Nat.beq k' k then bif Nat.beq q (o :: os).length then (match lk j h with
    | some (.cells l E') => bif Nat.beq E' E then (match ptO (o :: os) l with
      | some i => bif Nat.beq i j then none else (match lk i h with
        | some (.cells (.lit (.int .i64 x0) :: .lit (.int .i64 x1) :: .lit (.int .i64 x2) :: .lit (.int .i64 x3) :: .lit (.int .i64 x4) :: .lit (.int .i64 x5) :: .lit (.int .i64 x6) :: .lit (.int .i64 x7) :: .lit (.int .i64 x8) :: .lit (.int .i64 x9) :: .lit (.int .i64 x10) :: .lit (.int .i64 x11) :: .lit (.int .i64 x12) :: .lit (.int .i64 x13) :: .lit (.int .i64 x14) :: _) T') => bif Nat.beq T' T then some (.lit (g H [x0, x1, x2, x3, x4, x5, x6, x7, x8, x9, x10, x11, x12, x13, x14]), [], [i, j], [(i, .cells (cX x0 x1 x2 x3 x4 x5 x6 x7 x8 x9 x10 x11 x12 x13 x14 []) T), (j, .cells ((o :: os).map (AV.ptr i)) E)], []) else none
        | _ => none)
      | none => none) else none
    | _ => none) else none else none
  | _ => none⟩
theorem eok_rdQ {P : Program} {f T E k o : Nat} {os : List Nat} {g : Hold → List Int → Value} (hb : isBody P f) (hc : ∀ x0 x1 x2 x3 x4 x5 x6 x7 x8 x9 x10 x11 x12 x13 x14, ConN P f [.slc 1 0 1 (o :: os).length, .lit (.func (.func k) ⟨[]⟩ ⟨[]⟩)] [(0, .cells (cX x0 x1 x2 x3 x4 x5 x6 x7 x8 x9 x10 x11 x12 x13 x14 []) T), (1, .cells ((o :: os).map (AV.ptr 0)) E)] 2 (.lit (g stdH [x0, x1, x2, x3, x4, x5, x6, x7, x8, x9, x10, x11, x12, x13, x14])) [] [(0, .cells (cX x0 x1 x2 x3 x4 x5 x6 x7 x8 x9 x10 x11 x12 x13 x14 []) T), (1, .cells ((o :: os).map (AV.ptr 0)) E)]) : EntryOk P (e_rdQ f T E k o os g) := ⟨hb, fun a hp nx r nb rd u ob e hob => by
  simp only [e_rdQ] at e
  split at e
  · rename_i j q k'
    cases hk : Nat.beq k' k with
    | false => rw [hk] at e; cases e
    | true =>
    rw [hk, cond_true] at e
    obtain rfl := Nat.eq_of_beq_eq_true hk
    cases hq : Nat.beq q (o :: os).length with
    | false => rw [hq] at e; cases e
    | true =>
    rw [hq, cond_true] at e
    obtain rfl := Nat.eq_of_beq_eq_true hq
    split at e
    · rename_i l E' hlk
      cases hE : Nat.beq E' E with
      | false => rw [hE] at e; cases e
      | true =>
      rw [hE, cond_true] at e
      obtain rfl := Nat.eq_of_beq_eq_true hE
      split at e
      · rename_i i hi
        obtain rfl := ptO_ok hi
        cases hij : Nat.beq i j with
        | true => rw [hij] at e; cases e
        | false =>
        rw [hij, cond_false] at e
        have hne : i ≠ j := fun h => by subst h; rw [Nat.beq_refl] at hij; cases hij
        split at e
        · rename_i x0 x1 x2 x3 x4 x5 x6 x7 x8 x9 x10 x11 x12 x13 x14 R T' hlk2
          cases hT : Nat.beq T' T with
          | false => rw [hT] at e; cases e
          | true =>
          rw [hT, cond_true] at e
          obtain rfl := Nat.eq_of_beq_eq_true hT
          simp only [zqt] at e
          obtain ⟨rfl, rfl, rfl, rfl, rfl⟩ := e
          refine ⟨fun q b hq => ?_, [(i, .cells ((cX x0 x1 x2 x3 x4 x5 x6 x7 x8 x9 x10 x11 x12 x13 x14 []) ++ R) T'), (j, .cells ((o :: os).map (AV.ptr i)) E')], fun q b hq => ?_, ?_⟩
          · simp only [zqu, Prod.mk.injEq] at hq
            rcases hq with ⟨rfl, rfl⟩ | ⟨rfl, rfl⟩
            · exact ⟨by simp, _, hlk2, rfl⟩
            · exact ⟨by simp, _, hlk, rfl⟩
          · rw [lk_cons] at hq
            by_cases hi' : i = q
            · rw [if_pos hi'] at hq; injection hq with hq; subst hq; subst hi'; exact ⟨by simp, hlk2⟩
            · rw [if_neg hi', lk_cons] at hq
              by_cases hj' : j = q
              · rw [if_pos hj'] at hq; injection hq with hq; subst hq; subst hj'; exact ⟨by simp, hlk⟩
              · rw [if_neg hj'] at hq; simp [lk] at hq
          · exact rdQ_ok (offs := o :: os) (hc x0 x1 x2 x3 x4 x5 x6 x7 x8 x9 x10 x11 x12 x13 x14) rfl rfl rfl hne (fun x hx => by
              simp only [cA, cX, zqu] at hx
              subst hx
              exact .lit) (fun c x h => get_pre h) fun x hx => by
              simp only [cA, cX, zqu] at hx
              rcases hx with rfl | rfl | rfl | rfl | rfl | rfl | rfl | rfl | rfl | rfl | rfl | rfl | rfl | rfl | rfl <;> exact .lit
        · cases e
      · cases e
    · cases e
  · cases e⟩

theorem c_gld6 (a : Arm) : ConN Tryz.prog 43 [.ptr 0 6] [(0, (.cells (cA stdH a []) 30))] 1 (.lit (.bool (stdH Bool fun _ => nG a.t))) [] [(0, (.cells (cA stdH a []) 30))] := by
  have hB : Base Tryz.prog (tabΓ []) tabN := base_of tabOkN (ents_nil)
  refine con_m (N := 7) hB (draw_ok hB mixed) Tryz.func43 rfl rfl (fun H => [.ptr 0 6]) (fun H => [(0, (.cells (cA H a []) 30))]) 1 (fun H => .lit (.bool (H Bool fun _ => nG a.t))) (fun H => []) (fun H => [(0, (.cells (cA H a []) 30))]) 100 (by simp) (fun x hx => ?_) (fun i b hi => ?_) (fun i hi => ?_) (fun i b hi => ?_) ?_
  · simp only [cA, cX, zqu] at hx
    subst hx
    exact .ptr (by omega)
  · have := lk_in hi
    simp only [zqu, Prod.mk.injEq] at this
    obtain ⟨rfl, rfl⟩ := this
    refine ⟨by omega, cells_bl fun x hx => ?_, _, List.mem_cons_self⟩
    simp only [cA, cX, zqu] at hx
    rcases hx with rfl | rfl | rfl | rfl | rfl | rfl | rfl | rfl | rfl | rfl | rfl | rfl | rfl | rfl | rfl <;> exact .lit
  · obtain rfl : i = 0 := by omega
    exact ⟨_, rfl⟩
  · simp only [zqu, Prod.mk.injEq] at hi
    obtain ⟨rfl, rfl⟩ := hi
    exact ⟨_, rfl⟩
  intro X hX hX0 H hH
  conv in Fin.chk _ _ => cbv
  try simp only [zqs, Plain_rowsC, Plain_rowsY, zqx, AllP, zqw, upd, if_true]
  subst hH
  simp only [stdH, bne1, List.getD_cons_zero, List.getD_cons_succ]
  repeat' (first | exact trivial | rfl | refine And.intro ?_ ?_)
noncomputable def e_gld6 : Entry := e_rdP 43 30 6 fun l => nG (l.getD 6 0)
theorem eok_gld6 : EntryOk Tryz.prog e_gld6 := eok_rdP (by unfold isBody; kernel_rfl) fun x0 x1 x2 x3 x4 x5 x6 x7 x8 x9 x10 x11 x12 x13 x14 => c_gld6 ⟨⟨x0, x1, x2, x3⟩, x4, x5, x6, ⟨x7, x8, x9, x10⟩, ⟨x11, x12, x13, x14⟩⟩
theorem c_gld10 (a : Arm) : ConN Tryz.prog 43 [.ptr 0 10] [(0, (.cells (cA stdH a []) 30))] 1 (.lit (.bool (stdH Bool fun _ => nG a.n.t))) [] [(0, (.cells (cA stdH a []) 30))] := by
  have hB : Base Tryz.prog (tabΓ []) tabN := base_of tabOkN (ents_nil)
  refine con_m (N := 7) hB (draw_ok hB mixed) Tryz.func43 rfl rfl (fun H => [.ptr 0 10]) (fun H => [(0, (.cells (cA H a []) 30))]) 1 (fun H => .lit (.bool (H Bool fun _ => nG a.n.t))) (fun H => []) (fun H => [(0, (.cells (cA H a []) 30))]) 100 (by simp) (fun x hx => ?_) (fun i b hi => ?_) (fun i hi => ?_) (fun i b hi => ?_) ?_
  · simp only [cA, cX, zqu] at hx
    subst hx
    exact .ptr (by omega)
  · have := lk_in hi
    simp only [zqu, Prod.mk.injEq] at this
    obtain ⟨rfl, rfl⟩ := this
    refine ⟨by omega, cells_bl fun x hx => ?_, _, List.mem_cons_self⟩
    simp only [cA, cX, zqu] at hx
    rcases hx with rfl | rfl | rfl | rfl | rfl | rfl | rfl | rfl | rfl | rfl | rfl | rfl | rfl | rfl | rfl <;> exact .lit
  · obtain rfl : i = 0 := by omega
    exact ⟨_, rfl⟩
  · simp only [zqu, Prod.mk.injEq] at hi
    obtain ⟨rfl, rfl⟩ := hi
    exact ⟨_, rfl⟩
  intro X hX hX0 H hH
  conv in Fin.chk _ _ => cbv
  try simp only [zqs, Plain_rowsC, Plain_rowsY, zqx, AllP, zqw, upd, if_true]
  subst hH
  simp only [stdH, bne1, List.getD_cons_zero, List.getD_cons_succ]
  repeat' (first | exact trivial | rfl | refine And.intro ?_ ?_)
noncomputable def e_gld10 : Entry := e_rdP 43 30 10 fun l => nG (l.getD 10 0)
theorem eok_gld10 : EntryOk Tryz.prog e_gld10 := eok_rdP (by unfold isBody; kernel_rfl) fun x0 x1 x2 x3 x4 x5 x6 x7 x8 x9 x10 x11 x12 x13 x14 => c_gld10 ⟨⟨x0, x1, x2, x3⟩, x4, x5, x6, ⟨x7, x8, x9, x10⟩, ⟨x11, x12, x13, x14⟩⟩
theorem c_gld14 (a : Arm) : ConN Tryz.prog 43 [.ptr 0 14] [(0, (.cells (cA stdH a []) 30))] 1 (.lit (.bool (stdH Bool fun _ => nG a.r.t))) [] [(0, (.cells (cA stdH a []) 30))] := by
  have hB : Base Tryz.prog (tabΓ []) tabN := base_of tabOkN (ents_nil)
  refine con_m (N := 7) hB (draw_ok hB mixed) Tryz.func43 rfl rfl (fun H => [.ptr 0 14]) (fun H => [(0, (.cells (cA H a []) 30))]) 1 (fun H => .lit (.bool (H Bool fun _ => nG a.r.t))) (fun H => []) (fun H => [(0, (.cells (cA H a []) 30))]) 100 (by simp) (fun x hx => ?_) (fun i b hi => ?_) (fun i hi => ?_) (fun i b hi => ?_) ?_
  · simp only [cA, cX, zqu] at hx
    subst hx
    exact .ptr (by omega)
  · have := lk_in hi
    simp only [zqu, Prod.mk.injEq] at this
    obtain ⟨rfl, rfl⟩ := this
    refine ⟨by omega, cells_bl fun x hx => ?_, _, List.mem_cons_self⟩
    simp only [cA, cX, zqu] at hx
    rcases hx with rfl | rfl | rfl | rfl | rfl | rfl | rfl | rfl | rfl | rfl | rfl | rfl | rfl | rfl | rfl <;> exact .lit
  · obtain rfl : i = 0 := by omega
    exact ⟨_, rfl⟩
  · simp only [zqu, Prod.mk.injEq] at hi
    obtain ⟨rfl, rfl⟩ := hi
    exact ⟨_, rfl⟩
  intro X hX hX0 H hH
  conv in Fin.chk _ _ => cbv
  try simp only [zqs, Plain_rowsC, Plain_rowsY, zqx, AllP, zqw, upd, if_true]
  subst hH
  simp only [stdH, bne1, List.getD_cons_zero, List.getD_cons_succ]
  repeat' (first | exact trivial | rfl | refine And.intro ?_ ?_)
noncomputable def e_gld14 : Entry := e_rdP 43 30 14 fun l => nG (l.getD 14 0)
theorem eok_gld14 : EntryOk Tryz.prog e_gld14 := eok_rdP (by unfold isBody; kernel_rfl) fun x0 x1 x2 x3 x4 x5 x6 x7 x8 x9 x10 x11 x12 x13 x14 => c_gld14 ⟨⟨x0, x1, x2, x3⟩, x4, x5, x6, ⟨x7, x8, x9, x10⟩, ⟨x11, x12, x13, x14⟩⟩
noncomputable def e_gldP : Entry := ⟨43, fun H a h nx => match a with
  | [.ptr _ 6] => e_gld6.fn H a h nx
  | [.ptr _ 10] => e_gld10.fn H a h nx
  | [.ptr _ 14] => e_gld14.fn H a h nx
  | _ => none⟩
theorem eok_gldP : EntryOk Tryz.prog e_gldP := ⟨by unfold isBody; kernel_rfl, fun a hp nx r nb rd u ob e hob => by
  simp only [e_gldP] at e
  split at e
  · exact eok_gld6.con _ _ _ _ _ _ _ _ e hob
  · exact eok_gld10.con _ _ _ _ _ _ _ _ e hob
  · exact eok_gld14.con _ _ _ _ _ _ _ _ e hob
  · cases e⟩
theorem c_idxP001 (a : Arm) : ConN Tryz.prog 85 [.slc 1 0 1 1, .lit (.func (.func 43) ⟨[]⟩ ⟨[]⟩)] [(0, (.cells (cA stdH a []) 30)), (1, (.cells (List.map (AV.ptr 0) [14]) 69))] 2 (.lit (.int .i64 (stdH Int fun _ => idxF nG [a.r.t]))) [] [(0, (.cells (cA stdH a []) 30)), (1, (.cells (List.map (AV.ptr 0) [14]) 69))] := by
  have hB : Base Tryz.prog (tabΓ [e_gldP]) tabZ := base_of tabOkZ (ents_cons eok_gldP <| ents_nil)
  refine con_m (N := 19) hB (draw_ok hB mixed) Tryz.func85 rfl rfl (fun H => [.slc 1 0 1 1, .lit (.func (.func 43) ⟨[]⟩ ⟨[]⟩)]) (fun H => [(0, (.cells (cA H a []) 30)), (1, (.cells (List.map (AV.ptr 0) [14]) 69))]) 2 (fun H => .lit (.int .i64 (H Int fun _ => idxF nG [a.r.t]))) (fun H => []) (fun H => [(0, (.cells (cA H a []) 30)), (1, (.cells (List.map (AV.ptr 0) [14]) 69))]) 300 (by simp) (fun x hx => ?_) (fun i b hi => ?_) (fun i hi => ?_) (fun i b hi => ?_) ?_
  · simp only [cA, cX, zqu] at hx
    rcases hx with rfl | rfl
    · exact .slc (by omega)
    · exact .lit
  · have := lk_in hi
    simp only [zqu, Prod.mk.injEq] at this
    rcases this with ⟨rfl, rfl⟩ | ⟨rfl, rfl⟩
    · refine ⟨by omega, cells_bl fun x hx => ?_, _, List.mem_cons_self⟩
      simp only [cA, cX, zqu] at hx
      rcases hx with rfl | rfl | rfl | rfl | rfl | rfl | rfl | rfl | rfl | rfl | rfl | rfl | rfl | rfl | rfl <;> exact .lit
    · refine ⟨by omega, cells_bl fun x hx => ?_, _, List.mem_cons_of_mem _ List.mem_cons_self⟩
      simp only [List.map_cons, List.map_nil, zqu] at hx
      rcases hx with rfl <;> exact .ptr (by omega)
  · rcases (by omega : i = 0 ∨ i = 1) with rfl | rfl <;> exact ⟨_, rfl⟩
  · simp only [zqu, Prod.mk.injEq] at hi
    rcases hi with ⟨rfl, rfl⟩ | ⟨rfl, rfl⟩ <;> exact ⟨_, rfl⟩
  intro X hX hX0 H hH
  conv in Fin.chk _ _ => cbv
  try simp only [zqs, Plain_rowsC, Plain_rowsY, zqx, AllP, zqw, upd, if_true]
  subst hH
  simp only [stdH, bne1, List.getD_cons_zero, List.getD_cons_succ]
  repeat' (first | exact trivial | rfl | omega | refine And.intro ?_ ?_ | intro _)
  all_goals simp only [idxF, List.any_cons, List.any_nil, List.findIdx_cons, List.findIdx_nil, *]
  all_goals rfl
noncomputable def e_idxP001 : Entry := e_rdQ 85 30 69 43 14 [] fun H l => .int .i64 (H Int fun _ => idxF nG [l.getD 14 0])
theorem eok_idxP001 : EntryOk Tryz.prog e_idxP001 := eok_rdQ (by unfold isBody; kernel_rfl) fun x0 x1 x2 x3 x4 x5 x6 x7 x8 x9 x10 x11 x12 x13 x14 => c_idxP001 ⟨⟨x0, x1, x2, x3⟩, x4, x5, x6, ⟨x7, x8, x9, x10⟩, ⟨x11, x12, x13, x14⟩⟩
theorem c_anyP001 (a : Arm) : ConN Tryz.prog 42 [.slc 1 0 1 1, .lit (.func (.func 43) ⟨[]⟩ ⟨[]⟩)] [(0, (.cells (cA stdH a []) 30)), (1, (.cells (List.map (AV.ptr 0) [14]) 69))] 2 (.lit (.bool (stdH Bool fun _ => List.any [a.r.t] nG))) [] [(0, (.cells (cA stdH a []) 30)), (1, (.cells (List.map (AV.ptr 0) [14]) 69))] := by
  have hB : Base Tryz.prog (tabΓ [e_idxP001]) tabN := base_of tabOkN (ents_cons eok_idxP001 <| ents_nil)
  refine con_m (N := 9) hB (draw_ok hB mixed) Tryz.func42 rfl rfl (fun H => [.slc 1 0 1 1, .lit (.func (.func 43) ⟨[]⟩ ⟨[]⟩)]) (fun H => [(0, (.cells (cA H a []) 30)), (1, (.cells (List.map (AV.ptr 0) [14]) 69))]) 2 (fun H => .lit (.bool (H Bool fun _ => List.any [a.r.t] nG))) (fun H => []) (fun H => [(0, (.cells (cA H a []) 30)), (1, (.cells (List.map (AV.ptr 0) [14]) 69))]) 300 (by simp) (fun x hx => ?_) (fun i b hi => ?_) (fun i hi => ?_) (fun i b hi => ?_) ?_
  · simp only [cA, cX, zqu] at hx
    rcases hx with rfl | rfl
    · exact .slc (by omega)
    · exact .lit
  · have := lk_in hi
    simp only [zqu, Prod.mk.injEq] at this
    rcases this with ⟨rfl, rfl⟩ | ⟨rfl, rfl⟩
    · refine ⟨by omega, cells_bl fun x hx => ?_, _, List.mem_cons_self⟩
      simp only [cA, cX, zqu] at hx
      rcases hx with rfl | rfl | rfl | rfl | rfl | rfl | rfl | rfl | rfl | rfl | rfl | rfl | rfl | rfl | rfl <;> exact .lit
    · refine ⟨by omega, cells_bl fun x hx => ?_, _, List.mem_cons_of_mem _ List.mem_cons_self⟩
      simp only [List.map_cons, List.map_nil, zqu] at hx
      rcases hx with rfl <;> exact .ptr (by omega)
  · rcases (by omega : i = 0 ∨ i = 1) with rfl | rfl <;> exact ⟨_, rfl⟩
  · simp only [zqu, Prod.mk.injEq] at hi
    rcases hi with ⟨rfl, rfl⟩ | ⟨rfl, rfl⟩ <;> exact ⟨_, rfl⟩
  intro X hX hX0 H hH
  conv in Fin.chk _ _ => cbv
  try simp only [zqs, Plain_rowsC, Plain_rowsY, zqx, AllP, zqw, upd, if_true]
  subst hH
  simp only [stdH, bne1, List.getD_cons_zero, List.getD_cons_succ]
  repeat' (first | exact trivial | rfl | exact (idxF_ge _ _).symm | omega | refine And.intro ?_ ?_)
noncomputable def e_anyP001 : Entry := e_rdQ 42 30 69 43 14 [] fun H l => .bool (H Bool fun _ => List.any [l.getD 14 0] nG)
theorem eok_anyP001 : EntryOk Tryz.prog e_anyP001 := eok_rdQ (by unfold isBody; kernel_rfl) fun x0 x1 x2 x3 x4 x5 x6 x7 x8 x9 x10 x11 x12 x13 x14 => c_anyP001 ⟨⟨x0, x1, x2, x3⟩, x4, x5, x6, ⟨x7, x8, x9, x10⟩, ⟨x11, x12, x13, x14⟩⟩
theorem c_idxP100 (a : Arm) : ConN Tryz.prog 85 [.slc 1 0 1 1, .lit (.func (.func 43) ⟨[]⟩ ⟨[]⟩)] [(0, (.cells (cA stdH a []) 30)), (1, (.cells (List.map (AV.ptr 0) [6]) 69))] 2 (.lit (.int .i64 (stdH Int fun _ => idxF nG [a.t]))) [] [(0, (.cells (cA stdH a []) 30)), (1, (.cells (List.map (AV.ptr 0) [6]) 69))] := by
  have hB : Base Tryz.prog (tabΓ [e_gldP]) tabZ := base_of tabOkZ (ents_cons eok_gldP <| ents_nil)
  refine con_m (N := 19) hB (draw_ok hB mixed) Tryz.func85 rfl rfl (fun H => [.slc 1 0 1 1, .lit (.func (.func 43) ⟨[]⟩ ⟨[]⟩)]) (fun H => [(0, (.cells (cA H a []) 30)), (1, (.cells (List.map (AV.ptr 0) [6]) 69))]) 2 (fun H => .lit (.int .i64 (H Int fun _ => idxF nG [a.t]))) (fun H => []) (fun H => [(0, (.cells (cA H a []) 30)), (1, (.cells (List.map (AV.ptr 0) [6]) 69))]) 300 (by simp) (fun x hx => ?_) (fun i b hi => ?_) (fun i hi => ?_) (fun i b hi => ?_) ?_
  · simp only [cA, cX, zqu] at hx
    rcases hx with rfl | rfl
    · exact .slc (by omega)
    · exact .lit
  · have := lk_in hi
    simp only [zqu, Prod.mk.injEq] at this
    rcases this with ⟨rfl, rfl⟩ | ⟨rfl, rfl⟩
    · refine ⟨by omega, cells_bl fun x hx => ?_, _, List.mem_cons_self⟩
      simp only [cA, cX, zqu] at hx
      rcases hx with rfl | rfl | rfl | rfl | rfl | rfl | rfl | rfl | rfl | rfl | rfl | rfl | rfl | rfl | rfl <;> exact .lit
    · refine ⟨by omega, cells_bl fun x hx => ?_, _, List.mem_cons_of_mem _ List.mem_cons_self⟩
      simp only [List.map_cons, List.map_nil, zqu] at hx
      rcases hx with rfl <;> exact .ptr (by omega)
  · rcases (by omega : i = 0 ∨ i = 1) with rfl | rfl <;> exact ⟨_, rfl⟩
  · simp only [zqu, Prod.mk.injEq] at hi
    rcases hi with ⟨rfl, rfl⟩ | ⟨rfl, rfl⟩ <;> exact ⟨_, rfl⟩
  intro X hX hX0 H hH
  conv in Fin.chk _ _ => cbv
  try simp only [zqs, Plain_rowsC, Plain_rowsY, zqx, AllP, zqw, upd, if_true]
  subst hH
  simp only [stdH, bne1, List.getD_cons_zero, List.getD_cons_succ]
  repeat' (first | exact trivial | rfl | omega | refine And.intro ?_ ?_ | intro _)
  all_goals simp only [idxF, List.any_cons, List.any_nil, List.findIdx_cons, List.findIdx_nil, *]
  all_goals rfl
noncomputable def e_idxP100 : Entry := e_rdQ 85 30 69 43 6 [] fun H l => .int .i64 (H Int fun _ => idxF nG [l.getD 6 0])
theorem eok_idxP100 : EntryOk Tryz.prog e_idxP100 := eok_rdQ (by unfold isBody; kernel_rfl) fun x0 x1 x2 x3 x4 x5 x6 x7 x8 x9 x10 x11 x12 x13 x14 => c_idxP100 ⟨⟨x0, x1, x2, x3⟩, x4, x5, x6, ⟨x7, x8, x9, x10⟩, ⟨x11, x12, x13, x14⟩⟩
theorem c_anyP100 (a : Arm) : ConN Tryz.prog 42 [.slc 1 0 1 1, .lit (.func (.func 43) ⟨[]⟩ ⟨[]⟩)] [(0, (.cells (cA stdH a []) 30)), (1, (.cells (List.map (AV.ptr 0) [6]) 69))] 2 (.lit (.bool (stdH Bool fun _ => List.any [a.t] nG))) [] [(0, (.cells (cA stdH a []) 30)), (1, (.cells (List.map (AV.ptr 0) [6]) 69))] := by
  have hB : Base Tryz.prog (tabΓ [e_idxP100]) tabN := base_of tabOkN (ents_cons eok_idxP100 <| ents_nil)
  refine con_m (N := 9) hB (draw_ok hB mixed) Tryz.func42 rfl rfl (fun H => [.slc 1 0 1 1, .lit (.func (.func 43) ⟨[]⟩ ⟨[]⟩)]) (fun H => [(0, (.cells (cA H a []) 30)), (1, (.cells (List.map (AV.ptr 0) [6]) 69))]) 2 (fun H => .lit (.bool (H Bool fun _ => List.any [a.t] nG))) (fun H => []) (fun H => [(0, (.cells (cA H a []) 30)), (1, (.cells (List.map (AV.ptr 0) [6]) 69))]) 300 (by simp) (fun x hx => ?_) (fun i b hi => ?_) (fun i hi => ?_) (fun i b hi => ?_) ?_
  · simp only [cA, cX, zqu] at hx
    rcases hx with rfl | rfl
    · exact .slc (by omega)
    · exact .lit
  · have := lk_in hi
    simp only [zqu, Prod.mk.injEq] at this
    rcases this with ⟨rfl, rfl⟩ | ⟨rfl, rfl⟩
    · refine ⟨by omega, cells_bl fun x hx => ?_, _, List.mem_cons_self⟩
      simp only [cA, cX, zqu] at hx
      rcases hx with rfl | rfl | rfl | rfl | rfl | rfl | rfl | rfl | rfl | rfl | rfl | rfl | rfl | rfl | rfl <;> exact .lit
    · refine ⟨by omega, cells_bl fun x hx => ?_, _, List.mem_cons_of_mem _ List.mem_cons_self⟩
      simp only [List.map_cons, List.map_nil, zqu] at hx
      rcases hx with rfl <;> exact .ptr (by omega)
  · rcases (by omega : i = 0 ∨ i = 1) with rfl | rfl <;> exact ⟨_, rfl⟩
  · simp only [zqu, Prod.mk.injEq] at hi
    rcases hi with ⟨rfl, rfl⟩ | ⟨rfl, rfl⟩ <;> exact ⟨_, rfl⟩
  intro X hX hX0 H hH
  conv in Fin.chk _ _ => cbv
  try simp only [zqs, Plain_rowsC, Plain_rowsY, zqx, AllP, zqw, upd, if_true]
  subst hH
  simp only [stdH, bne1, List.getD_cons_zero, List.getD_cons_succ]
  repeat' (first | exact trivial | rfl | exact (idxF_ge _ _).symm | omega | refine And.intro ?_ ?_)
noncomputable def e_anyP100 : Entry := e_rdQ 42 30 69 43 6 [] fun H l => .bool (H Bool fun _ => List.any [l.getD 6 0] nG)
theorem eok_anyP100 : EntryOk Tryz.prog e_anyP100 := eok_rdQ (by unfold isBody; kernel_rfl) fun x0 x1 x2 x3 x4 x5 x6 x7 x8 x9 x10 x11 x12 x13 x14 => c_anyP100 ⟨⟨x0, x1, x2, x3⟩, x4, x5, x6, ⟨x7, x8, x9, x10⟩, ⟨x11, x12, x13, x14⟩⟩
theorem c_idxP101 (a : Arm) : ConN Tryz.prog 85 [.slc 1 0 1 2, .lit (.func (.func 43) ⟨[]⟩ ⟨[]⟩)] [(0, (.cells (cA stdH a []) 30)), (1, (.cells (List.map (AV.ptr 0) [6, 14]) 69))] 2 (.lit (.int .i64 (stdH Int fun _ => idxF nG [a.t, a.r.t]))) [] [(0, (.cells (cA stdH a []) 30)), (1, (.cells (List.map (AV.ptr 0) [6, 14]) 69))] := by
  have hB : Base Tryz.prog (tabΓ [e_gldP]) tabZ := base_of tabOkZ (ents_cons eok_gldP <| ents_nil)
  refine con_m (N := 19) hB (draw_ok hB mixed) Tryz.func85 rfl rfl (fun H => [.slc 1 0 1 2, .lit (.func (.func 43) ⟨[]⟩ ⟨[]⟩)]) (fun H => [(0, (.cells (cA H a []) 30)), (1, (.cells (List.map (AV.ptr 0) [6, 14]) 69))]) 2 (fun H => .lit (.int .i64 (H Int fun _ => idxF nG [a.t, a.r.t]))) (fun H => []) (fun H => [(0, (.cells (cA H a []) 30)), (1, (.cells (List.map (AV.ptr 0) [6, 14]) 69))]) 300 (by simp) (fun x hx => ?_) (fun i b hi => ?_) (fun i hi => ?_) (fun i b hi => ?_) ?_
  · simp only [cA, cX, zqu] at hx
    rcases hx with rfl | rfl
    · exact .slc (by omega)
    · exact .lit
  · have := lk_in hi
    simp only [zqu, Prod.mk.injEq] at this
    rcases this with ⟨rfl, rfl⟩ | ⟨rfl, rfl⟩
    · refine ⟨by omega, cells_bl fun x hx => ?_, _, List.mem_cons_self⟩
      simp only [cA, cX, zqu] at hx
      rcases hx with rfl | rfl | rfl | rfl | rfl | rfl | rfl | rfl | rfl | rfl | rfl | rfl | rfl | rfl | rfl <;> exact .lit
    · refine ⟨by omega, cells_bl fun x hx => ?_, _, List.mem_cons_of_mem _ List.mem_cons_self⟩
      simp only [List.map_cons, List.map_nil, zqu] at hx
      rcases hx with rfl | rfl <;> exact .ptr (by omega)
  · rcases (by omega : i = 0 ∨ i = 1) with rfl | rfl <;> exact ⟨_, rfl⟩
  · simp only [zqu, Prod.mk.injEq] at hi
    rcases hi with ⟨rfl, rfl⟩ | ⟨rfl, rfl⟩ <;> exact ⟨_, rfl⟩
  intro X hX hX0 H hH
  conv in Fin.chk _ _ => cbv
  try simp only [zqs, Plain_rowsC, Plain_rowsY, zqx, AllP, zqw, upd, if_true]
  subst hH
  simp only [stdH, bne1, List.getD_cons_zero, List.getD_cons_succ]
  repeat' (first | exact trivial | rfl | omega | refine And.intro ?_ ?_ | intro _)
  all_goals simp only [idxF, List.any_cons, List.any_nil, List.findIdx_cons, List.findIdx_nil, *]
  all_goals rfl
noncomputable def e_idxP101 : Entry := e_rdQ 85 30 69 43 6 [14] fun H l => .int .i64 (H Int fun _ => idxF nG [l.getD 6 0, l.getD 14 0])
theorem eok_idxP101 : EntryOk Tryz.prog e_idxP101 := eok_rdQ (by unfold isBody; kernel_rfl) fun x0 x1 x2 x3 x4 x5 x6 x7 x8 x9 x10 x11 x12 x13 x14 => c_idxP101 ⟨⟨x0, x1, x2, x3⟩, x4, x5, x6, ⟨x7, x8, x9, x10⟩, ⟨x11, x12, x13, x14⟩⟩
theorem c_anyP101 (a : Arm) : ConN Tryz.prog 42 [.slc 1 0 1 2, .lit (.func (.func 43) ⟨[]⟩ ⟨[]⟩)] [(0, (.cells (cA stdH a []) 30)), (1, (.cells (List.map (AV.ptr 0) [6, 14]) 69))] 2 (.lit (.bool (stdH Bool fun _ => List.any [a.t, a.r.t] nG))) [] [(0, (.cells (cA stdH a []) 30)), (1, (.cells (List.map (AV.ptr 0) [6, 14]) 69))] := by
  have hB : Base Tryz.prog (tabΓ [e_idxP101]) tabN := base_of tabOkN (ents_cons eok_idxP101 <| ents_nil)
  refine con_m (N := 9) hB (draw_ok hB mixed) Tryz.func42 rfl rfl (fun H => [.slc 1 0 1 2, .lit (.func (.func 43) ⟨[]⟩ ⟨[]⟩)]) (fun H => [(0, (.cells (cA H a []) 30)), (1, (.cells (List.map (AV.ptr 0) [6, 14]) 69))]) 2 (fun H => .lit (.bool (H Bool fun _ => List.any [a.t, a.r.t] nG))) (fun H => []) (fun H => [(0, (.cells (cA H a []) 30)), (1, (.cells (List.map (AV.ptr 0) [6, 14]) 69))]) 300 (by simp) (fun x hx => ?_) (fun i b hi => ?_) (fun i hi => ?_) (fun i b hi => ?_) ?_
  · simp only [cA, cX, zqu] at hx
    rcases hx with rfl | rfl
    · exact .slc (by omega)
    · exact .lit
  · have := lk_in hi
    simp only [zqu, Prod.mk.injEq] at this
    rcases this with ⟨rfl, rfl⟩ | ⟨rfl, rfl⟩
    · refine ⟨by omega, cells_bl fun x hx => ?_, _, List.mem_cons_self⟩
      simp only [cA, cX, zqu] at hx
      rcases hx with rfl | rfl | rfl | rfl | rfl | rfl | rfl | rfl | rfl | rfl | rfl | rfl | rfl | rfl | rfl <;> exact .lit
    · refine ⟨by omega, cells_bl fun x hx => ?_, _, List.mem_cons_of_mem _ List.mem_cons_self⟩
      simp only [List.map_cons, List.map_nil, zqu] at hx
      rcases hx with rfl | rfl <;> exact .ptr (by omega)
  · rcases (by omega : i = 0 ∨ i = 1) with rfl | rfl <;> exact ⟨_, rfl⟩
  · simp only [zqu, Prod.mk.injEq] at hi
    rcases hi with ⟨rfl, rfl⟩ | ⟨rfl, rfl⟩ <;> exact ⟨_, rfl⟩
  intro X hX hX0 H hH
  conv in Fin.chk _ _ => cbv
  try simp only [zqs, Plain_rowsC, Plain_rowsY, zqx, AllP, zqw, upd, if_true]
  subst hH
  simp only [stdH, bne1, List.getD_cons_zero, List.getD_cons_succ]
  repeat' (first | exact trivial | rfl | exact (idxF_ge _ _).symm | omega | refine And.intro ?_ ?_)
noncomputable def e_anyP101 : Entry := e_rdQ 42 30 69 43 6 [14] fun H l => .bool (H Bool fun _ => List.any [l.getD 6 0, l.getD 14 0] nG)
theorem eok_anyP101 : EntryOk Tryz.prog e_anyP101 := eok_rdQ (by unfold isBody; kernel_rfl) fun x0 x1 x2 x3 x4 x5 x6 x7 x8 x9 x10 x11 x12 x13 x14 => c_anyP101 ⟨⟨x0, x1, x2, x3⟩, x4, x5, x6, ⟨x7, x8, x9, x10⟩, ⟨x11, x12, x13, x14⟩⟩
theorem c_idxP110 (a : Arm) : ConN Tryz.prog 85 [.slc 1 0 1 2, .lit (.func (.func 43) ⟨[]⟩ ⟨[]⟩)] [(0, (.cells (cA stdH a []) 30)), (1, (.cells (List.map (AV.ptr 0) [6, 10]) 69))] 2 (.lit (.int .i64 (stdH Int fun _ => idxF nG [a.t, a.n.t]))) [] [(0, (.cells (cA stdH a []) 30)), (1, (.cells (List.map (AV.ptr 0) [6, 10]) 69))] := by
  have hB : Base Tryz.prog (tabΓ [e_gldP]) tabZ := base_of tabOkZ (ents_cons eok_gldP <| ents_nil)
  refine con_m (N := 19) hB (draw_ok hB mixed) Tryz.func85 rfl rfl (fun H => [.slc 1 0 1 2, .lit (.func (.func 43) ⟨[]⟩ ⟨[]⟩)]) (fun H => [(0, (.cells (cA H a []) 30)), (1, (.cells (List.map (AV.ptr 0) [6, 10]) 69))]) 2 (fun H => .lit (.int .i64 (H Int fun _ => idxF nG [a.t, a.n.t]))) (fun H => []) (fun H => [(0, (.cells (cA H a []) 30)), (1, (.cells (List.map (AV.ptr 0) [6, 10]) 69))]) 300 (by simp) (fun x hx => ?_) (fun i b hi => ?_) (fun i hi => ?_) (fun i b hi => ?_) ?_
  · simp only [cA, cX, zqu] at hx
    rcases hx with rfl | rfl
    · exact .slc (by omega)
    · exact .lit
  · have := lk_in hi
    simp only [zqu, Prod.mk.injEq] at this
    rcases this with ⟨rfl, rfl⟩ | ⟨rfl, rfl⟩
    · refine ⟨by omega, cells_bl fun x hx => ?_, _, List.mem_cons_self⟩
      simp only [cA, cX, zqu] at hx
      rcases hx with rfl | rfl | rfl | rfl | rfl | rfl | rfl | rfl | rfl | rfl | rfl | rfl | rfl | rfl | rfl <;> exact .lit
    · refine ⟨by omega, cells_bl fun x hx => ?_, _, List.mem_cons_of_mem _ List.mem_cons_self⟩
      simp only [List.map_cons, List.map_nil, zqu] at hx
      rcases hx with rfl | rfl <;> exact .ptr (by omega)
  · rcases (by omega : i = 0 ∨ i = 1) with rfl | rfl <;> exact ⟨_, rfl⟩
  · simp only [zqu, Prod.mk.injEq] at hi
    rcases hi with ⟨rfl, rfl⟩ | ⟨rfl, rfl⟩ <;> exact ⟨_, rfl⟩
  intro X hX hX0 H hH
  conv in Fin.chk _ _ => cbv
  try simp only [zqs, Plain_rowsC, Plain_rowsY, zqx, AllP, zqw, upd, if_true]
  subst hH
  simp only [stdH, bne1, List.getD_cons_zero, List.getD_cons_succ]
  repeat' (first | exact trivial | rfl | omega | refine And.intro ?_ ?_ | intro _)
  all_goals simp only [idxF, List.any_cons, List.any_nil, List.findIdx_cons, List.findIdx_nil, *]
  all_goals rfl
noncomputable def e_idxP110 : Entry := e_rdQ 85 30 69 43 6 [10] fun H l => .int .i64 (H Int fun _ => idxF nG [l.getD 6 0, l.getD 10 0])
theorem eok_idxP110 : EntryOk Tryz.prog e_idxP110 := eok_rdQ (by unfold isBody; kernel_rfl) fun x0 x1 x2 x3 x4 x5 x6 x7 x8 x9 x10 x11 x12 x13 x14 => c_idxP110 ⟨⟨x0, x1, x2, x3⟩, x4, x5, x6, ⟨x7, x8, x9, x10⟩, ⟨x11, x12, x13, x14⟩⟩
theorem c_anyP110 (a : Arm) : ConN Tryz.prog 42 [.slc 1 0 1 2, .lit (.func (.func 43) ⟨[]⟩ ⟨[]⟩)] [(0, (.cells (cA stdH a []) 30)), (1, (.cells (List.map (AV.ptr 0) [6, 10]) 69))] 2 (.lit (.bool (stdH Bool fun _ => List.any [a.t, a.n.t] nG))) [] [(0, (.cells (cA stdH a []) 30)), (1, (.cells (List.map (AV.ptr 0) [6, 10]) 69))] := by
  have hB : Base Tryz.prog (tabΓ [e_idxP110]) tabN := base_of tabOkN (ents_cons eok_idxP110 <| ents_nil)
  refine con_m (N := 9) hB (draw_ok hB mixed) Tryz.func42 rfl rfl (fun H => [.slc 1 0 1 2, .lit (.func (.func 43) ⟨[]⟩ ⟨[]⟩)]) (fun H => [(0, (.cells (cA H a []) 30)), (1, (.cells (List.map (AV.ptr 0) [6, 10]) 69))]) 2 (fun H => .lit (.bool (H Bool fun _ => List.any [a.t, a.n.t] nG))) (fun H => []) (fun H => [(0, (.cells (cA H a []) 30)), (1, (.cells (List.map (AV.ptr 0) [6, 10]) 69))]) 300 (by simp) (fun x hx => ?_) (fun i b hi => ?_) (fun i hi => ?_) (fun i b hi => ?_) ?_
  · simp only [cA, cX, zqu] at hx
    rcases hx with rfl | rfl
    · exact .slc (by omega)
    · exact .lit
  · have := lk_in hi
    simp only [zqu, Prod.mk.injEq] at this
    rcases this with ⟨rfl, rfl⟩ | ⟨rfl, rfl⟩
    · refine ⟨by omega, cells_bl fun x hx => ?_, _, List.mem_cons_self⟩
      simp only [cA, cX, zqu] at hx
      rcases hx with rfl | rfl | rfl | rfl | rfl | rfl | rfl | rfl | rfl | rfl | rfl | rfl | rfl | rfl | rfl <;> exact .lit
    · refine ⟨by omega, cells_bl fun x hx => ?_, _, List.mem_cons_of_mem _ List.mem_cons_self⟩
      simp only [List.map_cons, List.map_nil, zqu] at hx
      rcases hx with rfl | rfl <;> exact .ptr (by omega)
  · rcases (by omega : i = 0 ∨ i = 1) with rfl | rfl <;> exact ⟨_, rfl⟩
  · simp only [zqu, Prod.mk.injEq] at hi
    rcases hi with ⟨rfl, rfl⟩ | ⟨rfl, rfl⟩ <;> exact ⟨_, rfl⟩
  intro X hX hX0 H hH
  conv in Fin.chk _ _ => cbv
  try simp only [zqs, Plain_rowsC, Plain_rowsY, zqx, AllP, zqw, upd, if_true]
  subst hH
  simp only [stdH, bne1, List.getD_cons_zero, List.getD_cons_succ]
  repeat' (first | exact trivial | rfl | exact (idxF_ge _ _).symm | omega | refine And.intro ?_ ?_)
noncomputable def e_anyP110 : Entry := e_rdQ 42 30 69 43 6 [10] fun H l => .bool (H Bool fun _ => List.any [l.getD 6 0, l.getD 10 0] nG)
theorem eok_anyP110 : EntryOk Tryz.prog e_anyP110 := eok_rdQ (by unfold isBody; kernel_rfl) fun x0 x1 x2 x3 x4 x5 x6 x7 x8 x9 x10 x11 x12 x13 x14 => c_anyP110 ⟨⟨x0, x1, x2, x3⟩, x4, x5, x6, ⟨x7, x8, x9, x10⟩, ⟨x11, x12, x13, x14⟩⟩
theorem c_idxP111 (a : Arm) : ConN Tryz.prog 85 [.slc 1 0 1 3, .lit (.func (.func 43) ⟨[]⟩ ⟨[]⟩)] [(0, (.cells (cA stdH a []) 30)), (1, (.cells (List.map (AV.ptr 0) [6, 10, 14]) 69))] 2 (.lit (.int .i64 (stdH Int fun _ => idxF nG [a.t, a.n.t, a.r.t]))) [] [(0, (.cells (cA stdH a []) 30)), (1, (.cells (List.map (AV.ptr 0) [6, 10, 14]) 69))] := by
  have hB : Base Tryz.prog (tabΓ [e_gldP]) tabZ := base_of tabOkZ (ents_cons eok_gldP <| ents_nil)
  refine con_m (N := 19) hB (draw_ok hB mixed) Tryz.func85 rfl rfl (fun H => [.slc 1 0 1 3, .lit (.func (.func 43) ⟨[]⟩ ⟨[]⟩)]) (fun H => [(0, (.cells (cA H a []) 30)), (1, (.cells (List.map (AV.ptr 0) [6, 10, 14]) 69))]) 2 (fun H => .lit (.int .i64 (H Int fun _ => idxF nG [a.t, a.n.t, a.r.t]))) (fun H => []) (fun H => [(0, (.cells (cA H a []) 30)), (1, (.cells (List.map (AV.ptr 0) [6, 10, 14]) 69))]) 300 (by simp) (fun x hx => ?_) (fun i b hi => ?_) (fun i hi => ?_) (fun i b hi => ?_) ?_
  · simp only [cA, cX, zqu] at hx
    rcases hx with rfl | rfl
    · exact .slc (by omega)
    · exact .lit
  · have := lk_in hi
    simp only [zqu, Prod.mk.injEq] at this
    rcases this with ⟨rfl, rfl⟩ | ⟨rfl, rfl⟩
    · refine ⟨by omega, cells_bl fun x hx => ?_, _, List.mem_cons_self⟩
      simp only [cA, cX, zqu] at hx
      rcases hx with rfl | rfl | rfl | rfl | rfl | rfl | rfl | rfl | rfl | rfl | rfl | rfl | rfl | rfl | rfl <;> exact .lit
    · refine ⟨by omega, cells_bl fun x hx => ?_, _, List.mem_cons_of_mem _ List.mem_cons_self⟩
      simp only [List.map_cons, List.map_nil, zqu] at hx
      rcases hx with rfl | rfl | rfl <;> exact .ptr (by omega)
  · rcases (by omega : i = 0 ∨ i = 1) with rfl | rfl <;> exact ⟨_, rfl⟩
  · simp only [zqu, Prod.mk.injEq] at hi
    rcases hi with ⟨rfl, rfl⟩ | ⟨rfl, rfl⟩ <;> exact ⟨_, rfl⟩
  intro X hX hX0 H hH
  conv in Fin.chk _ _ => cbv
  try simp only [zqs, Plain_rowsC, Plain_rowsY, zqx, AllP, zqw, upd, if_true]
  subst hH
  simp only [stdH, bne1, List.getD_cons_zero, List.getD_cons_succ]
  repeat' (first | exact trivial | rfl | omega | refine And.intro ?_ ?_ | intro _)
  all_goals simp only [idxF, List.any_cons, List.any_nil, List.findIdx_cons, List.findIdx_nil, *]
  all_goals rfl
noncomputable def e_idxP111 : Entry := e_rdQ 85 30 69 43 6 [10, 14] fun H l => .int .i64 (H Int fun _ => idxF nG [l.getD 6 0, l.getD 10 0, l.getD 14 0])
theorem eok_idxP111 : EntryOk Tryz.prog e_idxP111 := eok_rdQ (by unfold isBody; kernel_rfl) fun x0 x1 x2 x3 x4 x5 x6 x7 x8 x9 x10 x11 x12 x13 x14 => c_idxP111 ⟨⟨x0, x1, x2, x3⟩, x4, x5, x6, ⟨x7, x8, x9, x10⟩, ⟨x11, x12, x13, x14⟩⟩
theorem c_anyP111 (a : Arm) : ConN Tryz.prog 42 [.slc 1 0 1 3, .lit (.func (.func 43) ⟨[]⟩ ⟨[]⟩)] [(0, (.cells (cA stdH a []) 30)), (1, (.cells (List.map (AV.ptr 0) [6, 10, 14]) 69))] 2 (.lit (.bool (stdH Bool fun _ => List.any [a.t, a.n.t, a.r.t] nG))) [] [(0, (.cells (cA stdH a []) 30)), (1, (.cells (List.map (AV.ptr 0) [6, 10, 14]) 69))] := by
  have hB : Base Tryz.prog (tabΓ [e_idxP111]) tabN := base_of tabOkN (ents_cons eok_idxP111 <| ents_nil)
  refine con_m (N := 9) hB (draw_ok hB mixed) Tryz.func42 rfl rfl (fun H => [.slc 1 0 1 3, .lit (.func (.func 43) ⟨[]⟩ ⟨[]⟩)]) (fun H => [(0, (.cells (cA H a []) 30)), (1, (.cells (List.map (AV.ptr 0) [6, 10, 14]) 69))]) 2 (fun H => .lit (.bool (H Bool fun _ => List.any [a.t, a.n.t, a.r.t] nG))) (fun H => []) (fun H => [(0, (.cells (cA H a []) 30)), (1, (.cells (List.map (AV.ptr 0) [6, 10, 14]) 69))]) 300 (by simp) (fun x hx => ?_) (fun i b hi => ?_) (fun i hi => ?_) (fun i b hi => ?_) ?_
  · simp only [cA, cX, zqu] at hx
    rcases hx with rfl | rfl
    · exact .slc (by omega)
    · exact .lit
  · have := lk_in hi
    simp only [zqu, Prod.mk.injEq] at this
    rcases this with ⟨rfl, rfl⟩ | ⟨rfl, rfl⟩
    · refine ⟨by omega, cells_bl fun x hx => ?_, _, List.mem_cons_self⟩
      simp only [cA, cX, zqu] at hx
      rcases hx with rfl | rfl | rfl | rfl | rfl | rfl | rfl | rfl | rfl | rfl | rfl | rfl | rfl | rfl | rfl <;> exact .lit
    · refine ⟨by omega, cells_bl fun x hx => ?_, _, List.mem_cons_of_mem _ List.mem_cons_self⟩
      simp only [List.map_cons, List.map_nil, zqu] at hx
      rcases hx with rfl | rfl | rfl <;> exact .ptr (by omega)
  · rcases (by omega : i = 0 ∨ i = 1) with rfl | rfl <;> exact ⟨_, rfl⟩
  · simp only [zqu, Prod.mk.injEq] at hi
    rcases hi with ⟨rfl, rfl⟩ | ⟨rfl, rfl⟩ <;> exact ⟨_, rfl⟩
  intro X hX hX0 H hH
  conv in Fin.chk _ _ => cbv
  try simp only [zqs, Plain_rowsC, Plain_rowsY, zqx, AllP, zqw, upd, if_true]
  subst hH
  simp only [stdH, bne1, List.getD_cons_zero, List.getD_cons_succ]
  repeat' (first | exact trivial | rfl | exact (idxF_ge _ _).symm | omega | refine And.intro ?_ ?_)
noncomputable def e_anyP111 : Entry := e_rdQ 42 30 69 43 6 [10, 14] fun H l => .bool (H Bool fun _ => List.any [l.getD 6 0, l.getD 10 0, l.getD 14 0] nG)
theorem eok_anyP111 : EntryOk Tryz.prog e_anyP111 := eok_rdQ (by unfold isBody; kernel_rfl) fun x0 x1 x2 x3 x4 x5 x6 x7 x8 x9 x10 x11 x12 x13 x14 => c_anyP111 ⟨⟨x0, x1, x2, x3⟩, x4, x5, x6, ⟨x7, x8, x9, x10⟩, ⟨x11, x12, x13, x14⟩⟩

end Go.Proofs.YtmkniipdkanbbaaGreatDoor.AM

