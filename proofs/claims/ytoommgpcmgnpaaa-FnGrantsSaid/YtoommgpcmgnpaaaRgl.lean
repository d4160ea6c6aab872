import Derived.Test.YtoommgpcmgnpaaaAmT
import Derived.Test.YtoommgpcmgnpaaaRgw
import Derived.Test.YtoommgpcmgnpaaaRdl
set_option linter.unusedVariables false
set_option linter.unusedSimpArgs false
set_option maxRecDepth 100000
set_option maxHeartbeats 4000000
set_option cbv.maxSteps 3000000
namespace Go.Proofs.Ytoommgpcmgnpaaa.AM
/- Grants of arms: plain; conditions: none. -/
theorem TlW_H {H : Hold} (hH : H = stdH) (L : List Grt) : Tl rowW (H Nat fun _ => L.length) (rowsW H fun _ => L) = L := by subst hH; exact Tl_W L
theorem dr0 (f : Nat → List AV) : dropR 0 18 f = f := by
  funext j
  show f (0 / 18 + j) = f j
  rw [Nat.zero_div, Nat.zero_add]
theorem appN0 {α : Type} (f g : Nat → α) : app 0 f g = g := by
  funext j
  rfl
/-- The rows of a list with one grant more. -/
def GW (l : List Grt) (g : Grt) : Nat → List AV := app l.length (rowsW stdH fun _ => l) (dropR 0 18 (rowsOf 18 (rowW.cells stdH fun _ => g)))
theorem GW_shp {l : List Grt} {g : Grt} : Shp rowW (l.length + 1) (GW l g) := by
  unfold GW
  rw [dr0]
  exact Shp_app (Shp_W _ _) (Shp_one rfl)
theorem GW_tl {l : List Grt} {g : Grt} : Tl rowW (l.length + 1) (GW l g) = l ++ [g] := by
  unfold GW
  rw [dr0, Tl_app, Tl_W, Tl_one]
  rfl
theorem GW_len {l : List Grt} {g : Grt} (j : Nat) (hj : j < l.length + 1) : (GW l g j).length = 18 :=
  (congrArg List.length (GW_shp.row j hj)).trans (okRW.len _)
theorem GW_pl {l : List Grt} {g : Grt} : Plain (l.length + 1) (GW l g) := by
  unfold GW
  rw [dr0]
  refine Plain.app (of_eq_true (Plain_rowsW _ _ _)) ⟨fun j hj x hx => ?_⟩
  obtain rfl : j = 0 := by omega
  exact (of_eq_true (Plain_rowsW 1 stdH fun _ => [g])).row 0 (by omega) x hx
theorem GW_eq {l : List Grt} {g : Grt} : RowsEq 18 (l ++ [g]).length (rowsW stdH fun _ => l ++ [g]) (l.length + 1) (GW l g) := RowsEq.ofT okRW rfl GW_shp GW_tl.symm
theorem idxF_up {α : Type} (p : α → Bool) (l : List α) (h : 0 ≤ idxF p l) : idxF p l < (l.length : Nat) := by
  unfold idxF at h ⊢
  split at h
  · rename_i g
    rw [if_pos g]
    obtain ⟨x, hx, hp⟩ := List.any_eq_true.1 g
    have := List.findIdx_lt_length_of_exists ⟨x, hx, hp⟩
    omega
  · omega
def grN (l : List Grt) : Int := if l.length = 0 then 1 else (l.getD (l.length - 1) default).num + 1
def grG (l : List Grt) (nm : ByteArray) (yr : Int) (a : Arm) : Grt := ⟨grN l, nm, yr, a⟩
def grO (l : List Grt) (nm : ByteArray) (yr : Int) (a : Arm) : Bool := okRg l && okRg (l ++ [grG l nm yr a])
theorem getD_app {l : List Grt} {g : Grt} {i : Nat} (h : i < l.length) : (l ++ [g]).getD i default = l.getD i default := by
  rw [List.getD_eq_getElem?_getD, List.getD_eq_getElem?_getD, List.getElem?_append_left h]
theorem getD_last {l : List Grt} {g : Grt} : (l ++ [g]).getD l.length default = g := by
  rw [List.getD_eq_getElem?_getD, List.getElem?_append_right (Nat.le_refl _), Nat.sub_self]; rfl
theorem okAt_in {l : List Grt} {i : Nat} (h : okAt l i = true) : okN (l.getD i default) = true ∧ (i ≠ 0 → (l.getD (i - 1) default).num < (l.getD i default).num ∧ (l.getD (i - 1) default).year ≤ (l.getD i default).year) ∧ ∀ o ∈ l.take i, ¬ dI o.arms (l.getD i default).arms < 2 := by
  unfold okAt okOrd at h
  simp only [Bool.and_eq_true, Bool.or_eq_true, decide_eq_true_eq, Bool.not_eq_true'] at h
  refine ⟨h.1, fun hi => ?_, fun o ho e => ?_⟩
  · rcases h.2.1 with g | g
    · exact absurd g hi
    · exact g
  · have := List.any_eq_false.1 h.2.2 o ho
    unfold cnfI at this
    rw [decide_eq_true e] at this
    exact this rfl
theorem num_up {l : List Grt} (h : ∀ i, i < l.length → okAt l i = true) : ∀ (d i : Nat), i + d + 1 < l.length → (l.getD i default).num < (l.getD (i + d + 1) default).num
  | 0, i, hi => by
    have := (okAt_in (h (i + 1) hi)).2.1 (by omega)
    rw [Nat.add_sub_cancel] at this
    exact this.1
  | d + 1, i, hi => by
    have h1 := num_up h d i (by omega)
    have h2 := (okAt_in (h (i + d + 1 + 1) (by omega))).2.1 (by omega)
    rw [Nat.add_sub_cancel] at h2
    exact Int.lt_trans h1 h2.1
theorem dI_self {a : Arm} (h : okA a = true) : dI a a = 0 := by
  rw [dI_dS h h]
  exact (kds_len h h).2.2.2 rfl
theorem gr_law {l : List Grt} {nm : ByteArray} {yr : Int} {a : Arm} (h : grO l nm yr a = true) : okRg l = true ∧ okRg (l ++ [grG l nm yr a]) = true ∧ okA a = true ∧ (∀ o ∈ l, ¬ dI o.arms a < 2) ∧ (∀ o ∈ l, o.arms ≠ a) ∧ ∀ o ∈ l, o.num < grN l := by
  unfold grO at h
  rw [Bool.and_eq_true] at h
  obtain ⟨h1, h2⟩ := h
  have hl : (l ++ [grG l nm yr a]).length = l.length + 1 := by rw [List.length_append, List.length_singleton]
  obtain ⟨_, h4⟩ := okRg_in h2
  obtain ⟨q1, q2, q3⟩ := okAt_in (h4 l.length (by omega))
  rw [getD_last] at q1 q3
  have ha : okA a = true := (okN_in q1).2.2.2
  have hc : ∀ o ∈ l, ¬ dI o.arms a < 2 := fun o ho => by
    refine q3 o ?_
    rw [List.take_left' rfl]; exact ho
  refine ⟨h1, h2, ha, hc, fun o ho e => ?_, fun o ho => ?_⟩
  · have := hc o ho
    rw [e, dI_self ha] at this
    omega
  · obtain ⟨i, hi, rfl⟩ := List.getElem_of_mem ho
    have e1 : l[i] = l.getD i default := by rw [List.getD_eq_getElem?_getD, List.getElem?_eq_getElem hi, Option.getD_some]
    obtain ⟨d, hd⟩ : ∃ d, l.length = i + d + 1 := ⟨l.length - i - 1, by omega⟩
    have := num_up h4 d i (by omega)
    rw [← hd, getD_last, getD_app hi] at this
    rw [e1]
    exact this
theorem nmb_nil {p : Grt → Bool} {l : List Grt} (h : ∀ o ∈ l, p o = false) : nmb p l l.length = [] := by
  rw [nmb_all, List.filter_eq_nil_iff.2 (fun o ho => by rw [h o ho]; decide)]
  rfl
def faN (l : List Grt) (a : Arm) : Int := match l.find? (fun y => decide (y.arms = a)) with
  | some g => g.num
  | none => 0
def faB (l : List Grt) (a : Arm) : Bool := l.any fun y => decide (y.arms = a)
theorem fa_last {l : List Grt} {g : Grt} (h : ∀ o ∈ l, o.arms ≠ g.arms) : faN (l ++ [g]) g.arms = g.num ∧ faB (l ++ [g]) g.arms = true := by
  constructor
  · unfold faN
    rw [List.find?_append, List.find?_eq_none.2 (fun o ho => by simpa using h o ho)]
    simp
  · unfold faB
    rw [List.any_append]
    simp
def rvI (l : List Grt) (n : Int) : Int := idxF (nuE n) l
def rvL (l : List Grt) (n : Int) : List Grt := l.take (rvI l n).toNat ++ l.drop ((rvI l n).toNat + 1)
def rvO (l : List Grt) (n : Int) : Bool := okRg l && decide (0 ≤ rvI l n)
theorem rv_last {l : List Grt} {g : Grt} (h : ∀ o ∈ l, o.num < g.num) : rvI (l ++ [g]) g.num = (l.length : Nat) ∧ rvL (l ++ [g]) g.num = l := by
  have e : rvI (l ++ [g]) g.num = (l.length : Nat) := by
    unfold rvI
    refine idxF_at default (by simp) (by unfold nuE; rw [getD_last]; simp) fun j hj => ?_
    have hm : l.getD j default ∈ l := by
      rw [List.getD_eq_getElem?_getD, List.getElem?_eq_getElem hj, Option.getD_some]
      exact List.getElem_mem hj
    have := h _ hm
    unfold nuE
    rw [getD_app hj, beq_eq_false_iff_ne]
    omega
  refine ⟨e, ?_⟩
  unfold rvL
  rw [e, Int.toNat_natCast, List.take_left' rfl, List.drop_of_length_le (by simp), List.append_nil]
theorem go_last {l : List Grt} {g : Grt} (p : Grt → Bool) (h : p g = true) : ((nmb p (l ++ [g]) (l ++ [g]).length).any fun y => y == g.num) = true := by
  rw [nmb_all, List.filter_append, List.map_append, List.any_append]
  simp [h]
theorem grN_w {l : List Grt} (h : okRg l = true) (h0 : 0 < l.length) : IntKind.i64.wrap ((l.getD (IntKind.i64.wrap (((l.length : Nat) : Int) - 1)).toNat default).num + 1) = grN l := by
  obtain ⟨h1, h2⟩ := okRg_in h
  have h3 := (okN_in (okAt_in (h2 (l.length - 1) (by omega))).1).1
  rw [show (IntKind.i64.wrap (((l.length : Nat) : Int) - 1)).toNat = l.length - 1 by rw [wi (by omega) (by omega)]; omega, wi (by omega) (by omega)]
  unfold grN
  rw [if_neg (by omega)]
theorem Tl_delW {L : List Grt} {a : Nat} (h : a < L.length) : Tl rowW (L.length - 1) (delR a (rowsW stdH fun _ => L)) = L.take a ++ L.drop (a + 1) := by
  refine List.ext_getElem (by simp [Tl]; omega) fun j h1 h2 => ?_
  have hj : j < L.length - 1 := by simpa [Tl] using h1
  simp only [Tl, List.getElem_map, List.getElem_range]
  have hr : ∀ k, k < L.length → rowW.of (rowsW stdH (fun _ => L) k) = L.getD k default := fun k hk => by
    rw [show rowsW stdH (fun _ => L) k = rowW.cells stdH fun _ => L.getD k default from rfl, okRW.of_cells]
  by_cases hja : j < a
  · rw [delR_lt hja, hr j (by omega), List.getElem_append_left (by rw [List.length_take]; omega), List.getElem_take, List.getD_eq_getElem?_getD, List.getElem?_eq_getElem (by omega), Option.getD_some]
  · rw [delR_ge (by omega), hr (j + 1) (by omega), List.getElem_append_right (by rw [List.length_take]; omega), List.getElem_drop, List.getD_eq_getElem?_getD, List.getElem?_eq_getElem (by omega), Option.getD_some]
    congr 1
    rw [List.length_take]; omega
theorem Shp_delW {L : List Grt} (a n : Nat) : Shp rowW n (delR a (rowsW stdH fun _ => L)) := ⟨fun j _ => by
  unfold delR
  cases Nat.blt j a with
  | true => exact (Shp_W (j + 1) L).row j (by omega)
  | false => exact (Shp_W (j + 2) L).row (j + 1) (by omega)⟩
theorem RowsEq.putW {L : List Grt} {j : Nat} (x : Grt) {M : List Grt} (e : L.set j x = M) : RowsEq 18 M.length (rowsW stdH fun _ => M) L.length (put1 j (rowW.cells stdH fun _ => x) (rowsW stdH fun _ => L)) :=
  .ofT okRW rfl (Shp_put1 (Shp_W _ _) (by rw [okRW.of_cells])) (by rw [Tl_put1, Tl_W, okRW.of_cells, e])

end Go.Proofs.Ytoommgpcmgnpaaa.AM
