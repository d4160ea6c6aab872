/- Lemmas and contracts (Rgv); conditions: none. -/
import Derived.Test.YtcjjffmbhionmaaGreatDoorK03
import Derived.Test.YtcjjffmbhionmaaGreatDoorK23
set_option linter.unusedVariables false
set_option linter.unusedSimpArgs false
set_option maxRecDepth 100000
set_option maxHeartbeats 4000000
set_option cbv.maxSteps 3000000
namespace Go.Proofs.YtcjjffmbhionmaaGreatDoor.AM
/- Valid registers; conditions: none. -/
def cnfI (g y : Grt) : Bool := decide (dI y.arms g.arms < 2)
structure Nsz (l : List Grt) : Prop where
  le : ∀ g ∈ l, g.name.size ≤ 2000000
theorem Nsz.at {l : List Grt} (h : Nsz l) (i : Nat) : (l.getD i default).name.size ≤ 2000000 := by
  rcases Nat.lt_or_ge i l.length with g | g
  · rw [List.getD_eq_getElem?_getD, List.getElem?_eq_getElem g, Option.getD_some]
    exact h.le _ (List.getElem_mem g)
  · rw [List.getD_eq_getElem?_getD, List.getElem?_eq_none g, Option.getD_none]
    exact Nat.zero_le _
def okN (g : Grt) : Bool := inB g.num 1 999 && (okNm g.name && (inB g.year 1000 2999 && okA g.arms))
def okOrd (l : List Grt) (i : Nat) : Bool := decide (i = 0) || (decide ((l.getD (i - 1) default).num < (l.getD i default).num) && decide ((l.getD (i - 1) default).year ≤ (l.getD i default).year))
def okAt (l : List Grt) (i : Nat) : Bool := okN (l.getD i default) && (okOrd l i && !(l.take i).any (cnfI (l.getD i default)))
def okRg (l : List Grt) : Bool := decide (l.length ≤ 12) && (List.range l.length).all (okAt l)
theorem okRg_all {l : List Grt} (h : ∀ i, i < l.length → okAt l i = true) : okRg l = decide (l.length ≤ 12) := by
  unfold okRg
  rw [List.all_eq_true.2 (fun i hi => h i (List.mem_range.1 hi)), Bool.and_true]
theorem okRg_bad {l : List Grt} {i : Nat} (hi : i < l.length) (h : okAt l i = false) : okRg l = false := by
  unfold okRg
  cases e : (List.range l.length).all (okAt l) with
  | false => rw [Bool.and_false]
  | true =>
    have := List.all_eq_true.1 e i (List.mem_range.2 hi)
    rw [h] at this; cases this
theorem okRg_in {l : List Grt} (h : okRg l = true) : l.length ≤ 12 ∧ ∀ i, i < l.length → okAt l i = true := by
  unfold okRg at h
  rw [Bool.and_eq_true, decide_eq_true_eq] at h
  exact ⟨h.1, fun i hi => List.all_eq_true.1 h.2 i (List.mem_range.2 hi)⟩
theorem okN_in {g : Grt} (h : okN g = true) : (1 ≤ g.num ∧ g.num ≤ 999) ∧ okNm g.name = true ∧ (1000 ≤ g.year ∧ g.year ≤ 2999) ∧ okA g.arms = true := by
  unfold okN inB at h
  simp only [Bool.and_eq_true, decide_eq_true_eq] at h
  exact h
theorem hetaW {H : Hold} (hH : H = stdH) (g : Grt) : (⟨H Int fun _ => g.num, H ByteArray fun _ => g.name, H Int fun _ => g.year, ⟨⟨H Int fun _ => g.arms.f.d, H Int fun _ => g.arms.f.l, H Int fun _ => g.arms.f.p, H Int fun _ => g.arms.f.q⟩, H Int fun _ => g.arms.o, H Int fun _ => g.arms.l, H Int fun _ => g.arms.t, ⟨H Int fun _ => g.arms.n.c, H Int fun _ => g.arms.n.k, H Int fun _ => g.arms.n.a, H Int fun _ => g.arms.n.t⟩, ⟨H Int fun _ => g.arms.r.c, H Int fun _ => g.arms.r.k, H Int fun _ => g.arms.r.a, H Int fun _ => g.arms.r.t⟩⟩⟩ : Grt) = g := by subst hH; rfl
/-- A grant out of its cells. -/
def uW (l : List AV) : Option Grt := match l with
  | [.lit (.int .i64 x0), .lit (.string x1), .lit (.int .i64 x2), .lit (.int .i64 x3), .lit (.int .i64 x4), .lit (.int .i64 x5), .lit (.int .i64 x6), .lit (.int .i64 x7), .lit (.int .i64 x8), .lit (.int .i64 x9), .lit (.int .i64 x10), .lit (.int .i64 x11), .lit (.int .i64 x12), .lit (.int .i64 x13), .lit (.int .i64 x14), .lit (.int .i64 x15), .lit (.int .i64 x16), .lit (.int .i64 x17)] => some ⟨x0, x1, x2, ⟨⟨x3, x4, x5, x6⟩, x7, x8, x9, ⟨x10, x11, x12, x13⟩, ⟨x14, x15, x16, x17⟩⟩⟩
  | _ => none
theorem uW_some {l : List AV} {g : Grt} (h : uW l = some g) : l = rowW.cells stdH fun _ => g := by
  unfold uW at h
  split at h
  · cases h; rfl
  · cases h
theorem c_rgC (o g : Grt) : ConN Tryz.prog 72 [aT rowW stdH fun _ => o, .rptr (rowW.cells stdH fun _ => g)] [] 0 (.lit (.bool (stdH Bool fun _ => cnfI g o))) [] [] := by
  have hB : Base Tryz.prog (tabΓ [e_conflict]) tab := base_of tabOk (ents_cons eok_conflict <| ents_nil)
  refine con_m (N := 9) hB (draw_ok hB mixed) Tryz.func72 rfl rfl (fun H => [aT rowW H fun _ => o, .rptr (rowW.cells H fun _ => g)]) (fun _ => []) 0 (fun H => .lit (.bool (H Bool fun _ => cnfI g o))) (fun H => []) (fun _ => []) 100 (by simp) (fun x hx => ?_) (by simp [lk]) (by omega) (by simp) ?_
  · simp only [List.mem_cons, List.not_mem_nil, or_false] at hx
    rcases hx with rfl | rfl
    · exact aT_bl okRW _ _
    · exact (.rptr fun c hc => (okRW.bl (fun _ => g) c hc).mono (Nat.zero_le _))
  intro X hX hX0 H hH
  conv in Fin.chk _ _ => cbv
  try simp only [Plain_rowsA, Plain_rowsB, Plain_rowsF, Plain_rowsG, Plain_rowsI, Plain_rowsS, Plain_rowsU, Plain_rowsW, Fin.satC_ret, Fin.satC_br, Fin.satC_need, Fin.satC_again, AllP, and_true, true_and, upd, List.length_nil, List.length_cons, Nat.zero_add, if_true, ncast, Int.ofNat_eq_natCast]
  simp only [hetaA hH]
  rw [hH]
  rfl
noncomputable def e_rgC : Entry := pureE 72 fun H a => match a with
  | [.agg l, .rptr m] => (match uW l, uW m with
    | some o, some g => some (.lit (.bool (H Bool fun _ => cnfI g o)), [])
    | _, _ => none)
  | _ => none
theorem eok_rgC : EntryOk Tryz.prog e_rgC := pureM_ok (by unfold isBody; kernel_rfl) (by
  intro a r ob e hob
  split at e
  · split at e
    · rename_i h1 h2
      simp only [Option.some.injEq, Prod.mk.injEq] at e
      obtain ⟨rfl, rfl⟩ := e
      rw [uW_some h1, uW_some h2]
      exact c_rgC _ _
    · simp at e
  · simp at e)

end Go.Proofs.YtcjjffmbhionmaaGreatDoor.AM

