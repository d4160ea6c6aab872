/- Lemmas and contracts (Skp); conditions: none. -/
import Derived.Test.YtmkniipdkanbbaaGreatDoorK04
import Derived.Test.YtmkniipdkanbbaaGreatDoorK18
import Derived.Test.YtmkniipdkanbbaaGreatDoorK19
set_option linter.unusedVariables false
set_option linter.unusedSimpArgs false
set_option maxRecDepth 100000
set_option maxHeartbeats 4000000
set_option cbv.maxSteps 3000000
namespace Go.Proofs.YtmkniipdkanbbaaGreatDoor.AM
/- Sketches: their texts, and the pieces of them; conditions: none. -/
structure Slo where
  m : Int
  n : Int
deriving Inhabited
def rowsY (H : Hold) (L : Unit → List Slo) (j : Nat) : List AV := [.lit (.int .i64 (H Int fun _ => ((L ()).getD j default).m)), .lit (.int .i64 (H Int fun _ => ((L ()).getD j default).n))]
def rowY : RowD Slo := ⟨2, default, fun H x => [.lit (.int .i64 (H Int fun _ => (x ()).m)), .lit (.int .i64 (H Int fun _ => (x ()).n))], fun l => match l with
  | [.lit (.int _ x0), .lit (.int _ x1)] => ⟨x0, x1⟩
  | _ => default, rowsY⟩
theorem okRY : RowOk rowY := ⟨fun _ => rfl, fun x c hc => by simp only [rowY, zqu] at hc; rcases hc with rfl | rfl <;> (first | exact .lit ), fun _ => rfl, fun _ _ => rfl⟩
theorem Slo.eta (a : Slo) : (⟨a.m, a.n⟩ : Slo) = a := rfl
theorem Tl_Y (L : List Slo) : Tl rowY L.length (rowsY stdH fun _ => L) = L := Tl_rowsT okRY L
theorem Shp_Y (n : Nat) (L : List Slo) : Shp rowY n (rowsY stdH fun _ => L) := Shp_rowsT okRY n (fun _ => L)
theorem Plain_rowsY (n : Nat) (H : Hold) (L : Unit → List Slo) : Plain n (rowsY H L) = True := eq_true ⟨fun j _ x hx => by simp only [rowsY, zqu] at hx; rcases hx with rfl | rfl <;> rfl⟩
def eqrY (a b : Slo) : Bool := allT [fun _ => a.m == b.m, fun _ => a.n == b.n]
theorem eqrY_iff {a b : Slo} : eqrY a b = true ↔ a = b := by
  obtain ⟨a0, a1⟩ := a; obtain ⟨b0, b1⟩ := b
  simp [eqrY, allT, and_assoc]
instance : DecidableEq Slo := fun a b => decidable_of_iff (eqrY a b = true) eqrY_iff
structure Skt where
  arms : Arm
  slots : List Slo
deriving Inhabited
def rowsK (H : Hold) (L : Unit → List Skt) (j : Nat) : List AV := [.lit (.int .i64 (H Int fun _ => ((L ()).getD j default).arms.f.d)), .lit (.int .i64 (H Int fun _ => ((L ()).getD j default).arms.f.l)), .lit (.int .i64 (H Int fun _ => ((L ()).getD j default).arms.f.p)), .lit (.int .i64 (H Int fun _ => ((L ()).getD j default).arms.f.q)), .lit (.int .i64 (H Int fun _ => ((L ()).getD j default).arms.o)), .lit (.int .i64 (H Int fun _ => ((L ()).getD j default).arms.l)), .lit (.int .i64 (H Int fun _ => ((L ()).getD j default).arms.t)), .lit (.int .i64 (H Int fun _ => ((L ()).getD j default).arms.n.c)), .lit (.int .i64 (H Int fun _ => ((L ()).getD j default).arms.n.k)), .lit (.int .i64 (H Int fun _ => ((L ()).getD j default).arms.n.a)), .lit (.int .i64 (H Int fun _ => ((L ()).getD j default).arms.n.t)), .lit (.int .i64 (H Int fun _ => ((L ()).getD j default).arms.r.c)), .lit (.int .i64 (H Int fun _ => ((L ()).getD j default).arms.r.k)), .lit (.int .i64 (H Int fun _ => ((L ()).getD j default).arms.r.a)), .lit (.int .i64 (H Int fun _ => ((L ()).getD j default).arms.r.t)), .vec 2 (H Nat fun _ => (((L ()).getD j default).slots).length) (rowsY H fun _ => ((L ()).getD j default).slots)]
def rowK : RowD Skt := ⟨16, default, fun H x => [.lit (.int .i64 (H Int fun _ => (x ()).arms.f.d)), .lit (.int .i64 (H Int fun _ => (x ()).arms.f.l)), .lit (.int .i64 (H Int fun _ => (x ()).arms.f.p)), .lit (.int .i64 (H Int fun _ => (x ()).arms.f.q)), .lit (.int .i64 (H Int fun _ => (x ()).arms.o)), .lit (.int .i64 (H Int fun _ => (x ()).arms.l)), .lit (.int .i64 (H Int fun _ => (x ()).arms.t)), .lit (.int .i64 (H Int fun _ => (x ()).arms.n.c)), .lit (.int .i64 (H Int fun _ => (x ()).arms.n.k)), .lit (.int .i64 (H Int fun _ => (x ()).arms.n.a)), .lit (.int .i64 (H Int fun _ => (x ()).arms.n.t)), .lit (.int .i64 (H Int fun _ => (x ()).arms.r.c)), .lit (.int .i64 (H Int fun _ => (x ()).arms.r.k)), .lit (.int .i64 (H Int fun _ => (x ()).arms.r.a)), .lit (.int .i64 (H Int fun _ => (x ()).arms.r.t)), .vec 2 (H Nat fun _ => ((x ()).slots).length) (rowsY H fun _ => (x ()).slots)], fun l => match l with
  | [.lit (.int _ x0), .lit (.int _ x1), .lit (.int _ x2), .lit (.int _ x3), .lit (.int _ x4), .lit (.int _ x5), .lit (.int _ x6), .lit (.int _ x7), .lit (.int _ x8), .lit (.int _ x9), .lit (.int _ x10), .lit (.int _ x11), .lit (.int _ x12), .lit (.int _ x13), .lit (.int _ x14), .vec _ x15n x15f] => ⟨⟨⟨x0, x1, x2, x3⟩, x4, x5, x6, ⟨x7, x8, x9, x10⟩, ⟨x11, x12, x13, x14⟩⟩, (Tl rowY x15n x15f)⟩
  | _ => default, rowsK⟩
theorem okRK : RowOk rowK := ⟨fun _ => rfl, fun x c hc => by simp only [rowK, zqu] at hc; rcases hc with rfl | rfl | rfl | rfl | rfl | rfl | rfl | rfl | rfl | rfl | rfl | rfl | rfl | rfl | rfl | rfl <;> (first | exact .lit | exact vT_bl okRY (fun _ => (x ()).slots) 0), fun x => (by show (⟨⟨⟨x.arms.f.d, x.arms.f.l, x.arms.f.p, x.arms.f.q⟩, x.arms.o, x.arms.l, x.arms.t, ⟨x.arms.n.c, x.arms.n.k, x.arms.n.a, x.arms.n.t⟩, ⟨x.arms.r.c, x.arms.r.k, x.arms.r.a, x.arms.r.t⟩⟩, Tl rowY (x.slots).length (rowsT rowY stdH fun _ => x.slots)⟩ : Skt) = x; rw [Tl_rowsT okRY]), fun _ _ => rfl⟩
theorem Skt.eta (a : Skt) : (⟨⟨⟨a.arms.f.d, a.arms.f.l, a.arms.f.p, a.arms.f.q⟩, a.arms.o, a.arms.l, a.arms.t, ⟨a.arms.n.c, a.arms.n.k, a.arms.n.a, a.arms.n.t⟩, ⟨a.arms.r.c, a.arms.r.k, a.arms.r.a, a.arms.r.t⟩⟩, a.slots⟩ : Skt) = a := rfl
def okY (y : Slo) : Bool := if y.m = 1 then inB y.n 1 9 else if y.m = 3 then inB y.n 1 3 else inB y.m 2 5 && decide (y.n = 0)
def nthL : List ByteArray := [(⟨⟨[102, 105, 114, 115, 116]⟩⟩ : ByteArray), (⟨⟨[115, 101, 99, 111, 110, 100]⟩⟩ : ByteArray), (⟨⟨[116, 104, 105, 114, 100]⟩⟩ : ByteArray)]
def slW (y : Slo) : ByteArray := if y.m = 1 then spB ++ wordOf tinL y.n else if y.m = 2 then (⟨⟨[32, 111, 102, 32, 116, 104, 101, 32, 102, 105, 101, 108, 100]⟩⟩ : ByteArray) else if y.m = 3 then (⟨⟨[32, 111, 102, 32, 116, 104, 101, 32]⟩⟩ : ByteArray) ++ wordOf nthL y.n else if y.m = 4 then (⟨⟨[32, 111, 102, 32, 116, 104, 101, 32, 108, 97, 115, 116]⟩⟩ : ByteArray) else ByteArray.empty
def allY : List Slo := [⟨2, 0⟩, ⟨3, 1⟩, ⟨3, 2⟩, ⟨3, 3⟩, ⟨4, 0⟩, ⟨1, 1⟩, ⟨1, 2⟩, ⟨1, 3⟩, ⟨1, 4⟩, ⟨1, 5⟩, ⟨1, 6⟩, ⟨1, 7⟩, ⟨1, 8⟩, ⟨1, 9⟩]
def nxY : Slo := ⟨5, 0⟩
theorem okY_in {y : Slo} (h : okY y = true) : y ∈ allY ∨ y = nxY := by
  obtain ⟨m, n⟩ := y
  unfold okY inB at h
  simp only at h
  by_cases h1 : m = 1
  · rw [if_pos h1] at h
    simp only [decide_eq_true_eq] at h
    subst h1
    rcases (by omega : n = 1 ∨ n = 2 ∨ n = 3 ∨ n = 4 ∨ n = 5 ∨ n = 6 ∨ n = 7 ∨ n = 8 ∨ n = 9) with rfl | rfl | rfl | rfl | rfl | rfl | rfl | rfl | rfl <;> exact .inl (by decide)
  · rw [if_neg h1] at h
    by_cases h3 : m = 3
    · rw [if_pos h3] at h
      simp only [decide_eq_true_eq] at h
      subst h3
      rcases (by omega : n = 1 ∨ n = 2 ∨ n = 3) with rfl | rfl | rfl <;> exact .inl (by decide)
    · rw [if_neg h3, Bool.and_eq_true, decide_eq_true_eq, decide_eq_true_eq] at h
      obtain ⟨h4, rfl⟩ := h
      rcases (by omega : m = 2 ∨ m = 4 ∨ m = 5) with rfl | rfl | rfl
      · exact .inl (by decide)
      · exact .inl (by decide)
      · exact .inr rfl
/-! ### Texts that end with others -/
def isSuf (s p : ByteArray) : Bool := Lib.hasSuffix s.data.toList p.data.toList
def befS (s p : ByteArray) : ByteArray := ⟨(Lib.trimSuffix s.data.toList p.data.toList).toArray⟩
theorem isSuf_iff {s p : ByteArray} : isSuf s p = true ↔ ∃ t, s = t ++ p := by
  unfold isSuf Lib.hasSuffix
  rw [List.isSuffixOf_iff_suffix]
  constructor
  · rintro ⟨t, h⟩
    refine ⟨⟨⟨t⟩⟩, ?_⟩
    apply ByteArray.ext; apply Array.ext'
    rw [ByteArray.toList_data_append]; exact h.symm
  · rintro ⟨t, rfl⟩
    rw [ByteArray.toList_data_append]; exact List.suffix_append _ _
theorem isSuf_app (t p : ByteArray) : isSuf (t ++ p) p = true := isSuf_iff.2 ⟨t, rfl⟩
theorem befS_app (t p : ByteArray) : befS (t ++ p) p = t := by
  have h := isSuf_app t p
  unfold isSuf at h
  unfold befS Lib.trimSuffix
  rw [h, if_pos rfl]
  apply ByteArray.ext; apply Array.ext'
  rw [ByteArray.toList_data_append, List.length_append, Nat.add_sub_cancel]
  simp
theorem isSuf_two {s a b : ByteArray} (h1 : isSuf s a = true) (h2 : isSuf s b = true) : isSuf a b = true ∨ isSuf b a = true := by
  unfold isSuf Lib.hasSuffix at *
  simp only [List.isSuffixOf_iff_suffix] at *
  exact (List.suffix_or_suffix_of_suffix h1 h2).symm
theorem allY_uni : allY.all (fun y => allY.all fun z => !isSuf (slW y) (slW z) || decide (y = z)) = true := by decide +kernel
theorem allY_one {s : ByteArray} {y z : Slo} (hy : y ∈ allY) (hz : z ∈ allY) (h1 : isSuf s (slW y) = true) (h2 : isSuf s (slW z) = true) : y = z := by
  have key : ∀ y ∈ allY, ∀ z ∈ allY, isSuf (slW y) (slW z) = true → y = z := fun y hy z hz h => by
    have := List.all_eq_true.1 (List.all_eq_true.1 allY_uni y hy) z hz
    rw [h] at this
    exact of_decide_eq_true (by simpa using this)
  rcases isSuf_two h1 h2 with h | h
  · exact key y hy z hz h
  · exact (key z hz y hy h).symm
def cutL (l : List Slo) (s : ByteArray) : ByteArray × Slo := match l.find? fun y => isSuf s (slW y) with
  | some y => (befS s (slW y), y)
  | none => (s, nxY)
def cutK (s : ByteArray) : ByteArray × Slo := cutL allY s
theorem cutL_y {l : List Slo} (hl : ∀ z ∈ l, z ∈ allY) {t : ByteArray} {y : Slo} (hy : y ∈ l) : cutL l (t ++ slW y) = (t, y) := by
  unfold cutL
  cases e : l.find? fun z => isSuf (t ++ slW y) (slW z) with
  | none => exact absurd (isSuf_app t (slW y)) (by simpa using List.find?_eq_none.1 e y hy)
  | some z =>
    have h1 := List.find?_some e
    have h2 := List.mem_of_find?_eq_some e
    obtain rfl := allY_one (hl _ hy) (hl _ h2) (isSuf_app t (slW y)) h1
    show (befS (t ++ slW y) (slW y), y) = (t, y)
    rw [befS_app]
theorem cutL_no {l : List Slo} {s : ByteArray} (h : ∀ y ∈ l, isSuf s (slW y) = false) : cutL l s = (s, nxY) := by
  unfold cutL
  rw [List.find?_eq_none.2 fun y hy => by rw [h y hy]; simp]
theorem cutK_y {t : ByteArray} {y : Slo} (hy : y ∈ allY) : cutK (t ++ slW y) = (t, y) := cutL_y (fun z hz => hz) hy
/-! ### The last words -/
def lasL : List ByteArray := [(⟨⟨[102, 105, 101, 108, 100]⟩⟩ : ByteArray), (⟨⟨[108, 97, 115, 116]⟩⟩ : ByteArray)] ++ (nthL ++ tinL)
theorem slW_end {y : Slo} (hy : y ∈ allY) : ∃ u w, slW y = u ++ (spB ++ w) ∧ nsp w = true ∧ w ∈ lasL := by
  have e0 : ∀ x : ByteArray, x = ByteArray.empty ++ x := fun x => (empty_app x).symm
  have e1 : (⟨⟨[32, 111, 102, 32, 116, 104, 101, 32, 102, 105, 101, 108, 100]⟩⟩ : ByteArray) = (⟨⟨[32, 111, 102, 32, 116, 104, 101]⟩⟩ : ByteArray) ++ (spB ++ (⟨⟨[102, 105, 101, 108, 100]⟩⟩ : ByteArray)) := by decide
  have e2 : (⟨⟨[32, 111, 102, 32, 116, 104, 101, 32, 108, 97, 115, 116]⟩⟩ : ByteArray) = (⟨⟨[32, 111, 102, 32, 116, 104, 101]⟩⟩ : ByteArray) ++ (spB ++ (⟨⟨[108, 97, 115, 116]⟩⟩ : ByteArray)) := by decide
  have e3 : ∀ x : ByteArray, (⟨⟨[32, 111, 102, 32, 116, 104, 101, 32]⟩⟩ : ByteArray) ++ x = (⟨⟨[32, 111, 102, 32, 116, 104, 101]⟩⟩ : ByteArray) ++ (spB ++ x) := fun x => by rw [← ByteArray.append_assoc]; rfl
  unfold allY at hy
  simp only [zqu] at hy
  rcases hy with rfl | rfl | rfl | rfl | rfl | rfl | rfl | rfl | rfl | rfl | rfl | rfl | rfl | rfl
  · exact ⟨_, _, e1, by decide, isIn_mem (by decide)⟩
  · exact ⟨_, _, e3 (wordOf nthL 1), by decide, isIn_mem (by decide)⟩
  · exact ⟨_, _, e3 (wordOf nthL 2), by decide, isIn_mem (by decide)⟩
  · exact ⟨_, _, e3 (wordOf nthL 3), by decide, isIn_mem (by decide)⟩
  · exact ⟨_, _, e2, by decide, isIn_mem (by decide)⟩
  all_goals exact ⟨_, _, e0 _, by decide, isIn_mem (by decide)⟩
theorem noSuf {a w : ByteArray} (hw : nsp w = true) (hn : w ∉ lasL) : ∀ y ∈ allY, isSuf (a ++ (spB ++ w)) (slW y) = false := fun y hy => by
  rw [← Bool.not_eq_true]
  intro h
  obtain ⟨t, e⟩ := isSuf_iff.1 h
  obtain ⟨u, v, e2, hv, hm⟩ := slW_end hy
  have e : a ++ (spB ++ w) = (t ++ u) ++ (spB ++ v) := by rw [e, e2, ByteArray.append_assoc]
  have h2 := congrArg wordsB e
  rw [wordsB_app, wordsB_app, wordsB_one hw, wordsB_one hv] at h2
  have h3 := congrArg List.getLast? h2
  simp only [List.getLast?_append, List.getLast?_singleton, Option.some_or, Option.some.injEq] at h3
  rw [h3] at hn
  exact hn hm
theorem las_ord {o : Int} (ho : 1 ≤ o ∧ o ≤ 7) : wordOf ordL o ∉ lasL := by
  have : ∀ i, i < 7 → notIn (wordOf ordL ((i + 1 : Nat))) lasL = true := by decide
  have := this (o.toNat - 1) (by omega)
  rw [show (((o.toNat - 1 + 1 : Nat)) : Int) = o by omega] at this
  exact notIn_mem this
theorem las_lin {l : Int} (hl : 1 ≤ l ∧ l ≤ 4) : wordOf linL l ∉ lasL := by
  have : ∀ i, i < 4 → notIn (wordOf linL ((i + 1 : Nat))) lasL = true := by decide
  have := this (l.toNat - 1) (by omega)
  rw [show (((l.toNat - 1 + 1 : Nat)) : Int) = l by omega] at this
  exact notIn_mem this
theorem cut_ord {o l : Int} (ho : 1 ≤ o ∧ o ≤ 7) (hl : 0 ≤ l ∧ l ≤ 4) {y : Slo} (hy : okY y = true) : cutK (ordS o l ++ slW y) = (ordS o l, y) := by
  rcases okY_in hy with h | rfl
  · exact cutK_y h
  · have e : slW nxY = ByteArray.empty := rfl
    rw [e, app_empty]
    refine cutL_no ?_
    unfold ordS
    have ea : (⟨⟨[97, 32]⟩⟩ : ByteArray) ++ wordOf ordL o = (⟨⟨[97]⟩⟩ : ByteArray) ++ (spB ++ wordOf ordL o) := by rw [← ByteArray.append_assoc]; rfl
    by_cases h0 : l = 0
    · rw [wlT_y h0, ea]
      exact noSuf (nsp_ord _) (las_ord ho)
    · rw [wlT_n h0]
      exact noSuf (nsp_lin _) (las_lin (by omega))
theorem las_knd {k c : Int} (hk : 1 ≤ k ∧ k ≤ 8) : kndT k c ∉ lasL := by
  have h1 : ∀ i, i < 8 → notIn (wordOf kndL ((i + 1 : Nat))) lasL = true ∧ notIn (wordOf kndL ((i + 1 : Nat)) ++ (⟨⟨[115]⟩⟩ : ByteArray)) lasL = true := by decide
  have := h1 (k.toNat - 1) (by omega)
  rw [show (((k.toNat - 1 + 1 : Nat)) : Int) = k by omega] at this
  unfold kndT
  split
  · exact notIn_mem this.2
  · exact notIn_mem this.1
theorem las_att {k a : Int} (hk : 0 < a ∧ a ≤ ((attL k).length : Nat)) : wordOf (attL k) a ∉ lasL := by
  rcases attL_mem k with e | e | e | e
  all_goals rw [e] at hk ⊢
  · rcases (by have : (attL 1).length = 2 := rfl; omega : a = 1 ∨ a = 2) with rfl | rfl <;> exact notIn_mem (by decide)
  · rcases (by have : (attL 2).length = 2 := rfl; omega : a = 1 ∨ a = 2) with rfl | rfl <;> exact notIn_mem (by decide)
  · rcases (by have : (attL 3).length = 2 := rfl; omega : a = 1 ∨ a = 2) with rfl | rfl <;> exact notIn_mem (by decide)
  · simp at hk; omega
theorem cut_grp {g : Grp} (hg : okT g) {y : Slo} (hy : okY y = true) : cutK (barT g ++ slW y) = (barT g, y) := by
  obtain ⟨g1, g2, g3, g4⟩ := hg
  rcases okY_in hy with h | rfl
  · exact cutK_y h
  · have e : slW nxY = ByteArray.empty := rfl
    rw [e, app_empty]
    refine cutL_no ?_
    have eb : barT g = (cntT g.c g.k) ++ (spB ++ (kndT g.k g.c ++ attT g)) := rfl
    unfold attT at eb
    by_cases h0 : 0 < g.a
    · rw [if_pos h0] at eb
      have e2 : barT g = (cntT g.c g.k ++ (spB ++ kndT g.k g.c)) ++ (spB ++ wordOf (attL g.k) g.a) := by rw [eb]; simp only [ByteArray.append_assoc]; rfl
      rw [e2]
      exact noSuf (nsp_att _ _) (las_att ⟨h0, g3⟩)
    · rw [if_neg h0, app_empty] at eb
      rw [eb]
      exact noSuf (nsp_knd _ _) (las_knd g2)

end Go.Proofs.YtmkniipdkanbbaaGreatDoor.AM

