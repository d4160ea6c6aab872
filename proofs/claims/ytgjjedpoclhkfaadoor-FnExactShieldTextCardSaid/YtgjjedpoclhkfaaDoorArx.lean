import Derived.Test.YtgjjedpoclhkfaaDoorAmT
import Derived.Test.YtgjjedpoclhkfaaDoorAmN
import Derived.Test.YtgjjedpoclhkfaaDoorLst
import Derived.Test.YtgjjedpoclhkfaaDoorBrx
import Derived.Test.YtgjjedpoclhkfaaDoorOpen
import Derived.Test.YtgjjedpoclhkfaaDoorUp
import Derived.Test.YtgjjedpoclhkfaaDoorData
set_option linter.unusedVariables false
set_option linter.unusedSimpArgs false
set_option maxRecDepth 100000
set_option maxHeartbeats 4000000
set_option cbv.maxSteps 3000000
namespace Go.Proofs.YtgjjedpoclhkfaaDoor.AM
/- Arguments of whatever type, seen from how they read; conditions: none. -/
theorem LRel.one {C : Cx} {x : AV} {v : Value} (h : LRel C [x] [v]) : Rel C x v := h.2 0 x v rfl rfl
theorem add_add (b o n c : Nat) : ((⟨b, o, none⟩ : Addr).add n).add c = ⟨b, o + n + c, none⟩ := by
  unfold Addr.add
  by_cases h1 : n = 0 <;> by_cases h2 : c = 0 <;> simp [h1, h2]
theorem Rel.agg_at {C : Cx} {l : List AV} {v : Value} (h : Rel C (.agg l) v) {c : Nat} {x : AV} (hx : l[c]? = some x) : ∃ u, Rel C x u := by
  cases h with
  | @agg _ vs hl h1 hr =>
    have hc := (List.getElem?_eq_some_iff.1 hx).1
    exact ⟨_, hr c x _ hx (List.getElem?_eq_getElem (show c < vs.length by omega))⟩
theorem Rel.vec_le {C : Cx} {k n : Nat} {f : Nat → List AV} {v : Value} (h : Rel C (.vec k n f) v) : n ≤ 9223372036854775807 := by
  cases h with
  | vec g hn hm hk hc h1 hr =>
    unfold maxLen at hm
    omega
theorem ch_lt {α : Type} [Inhabited α] {n : Nat} {p : Nat → α → Prop} (h : ∀ i, i < n → ∃ x, p i x) : ∃ f : Nat → α, ∀ i, i < n → p i (f i) :=
  ⟨fun i => if hi : i < n then Classical.choose (h i hi) else default, fun i hi => by simp only [dif_pos hi]; exact Classical.choose_spec (h i hi)⟩
theorem leaf_cons {R : TypeId → Value → Prop} {t : TypeId} {ts : List TypeId} {cs : List Value} (h : LeafAll R (t :: ts) cs) : ∃ c r, cs = c :: r ∧ R t c ∧ LeafAll R ts r := by
  cases cs with
  | nil => exact h.elim
  | cons c r => exact ⟨c, r, rfl, h.1, h.2⟩
theorem leaf_nil {R : TypeId → Value → Prop} {cs : List Value} (h : LeafAll R [] cs) : cs = [] := by
  cases cs with
  | nil => rfl
  | cons c r => exact h.elim
section
variable {H : Type} {enc : TypeId × Value → H} {w : World}
/-- What reads as a value of this type holds the cells of a row of this kind. -/
def RTy {H : Type} (enc : TypeId × Value → H) (w : World) (t : TypeId) {α : Type} (D : RowD α) : Prop := ∀ (base : Nat) (spare : Nat → Bool) (held : Bool) (m : Nat) (cs : List Value) (y : DataW H × List MemPlace), DataW.trod enc Tryd.prog w base spare held m t cs = some y → ∃ a : α, LRel (cx0 w) (D.cells stdH fun _ => a) cs ∧ ∀ v ∈ cs, v.oneCell' = true
theorem rt_int {t : TypeId} (ht : (Tryd.prog).underlying t = some (.int .i64)) : RTy enc w t rowI := fun base spare held m cs y h => by
  obtain ⟨n, rfl, _, _⟩ := DataW.trod_int ht h
  exact ⟨n, .cons (.lit rfl) (.nil _), fun v hv => by rw [List.mem_singleton] at hv; subst hv; rfl⟩
theorem rt_str {t : TypeId} (ht : (Tryd.prog).underlying t = some .string) : RTy enc w t rowS := fun base spare held m cs y h => by
  obtain ⟨n, rfl, _, _⟩ := DataW.trod_string ht h
  exact ⟨n, .cons (.lit rfl) (.nil _), fun v hv => by rw [List.mem_singleton] at hv; subst hv; rfl⟩
theorem rt_bool {t : TypeId} (ht : (Tryd.prog).underlying t = some .bool) : RTy enc w t rowB := fun base spare held m cs y h => by
  obtain ⟨n, rfl, _⟩ := DataW.trod_bool ht h
  exact ⟨n, .cons (.lit rfl) (.nil _), fun v hv => by rw [List.mem_singleton] at hv; subst hv; rfl⟩
theorem rt_sl {t e : TypeId} {α : Type} {D : RowD α} (ok : RowOk D) (ht : (Tryd.prog).underlying t = some (.slice e)) (hk : (Tryd.prog).cellsOf e = D.k) (hp : 0 < D.k) (he : RTy enc w e D) : RTy enc w t (rowL D) := fun base spare held m cs y h => by
  rcases DataW.trod_slice ht h with ⟨rfl, _⟩ | ⟨a, len, cap, elems, rest, n, _, rfl, _, _, hl, hm, hlen, hel, _⟩
  · refine ⟨[], .cons (.vec (fun _ _ => .bool false) (Nat.le_refl 0) (Nat.zero_le _) (fun j hj => absurd hj (Nat.not_lt_zero j)) (fun h => absurd h (Nat.lt_irrefl 0)) (fun j c hj => absurd hj (Nat.not_lt_zero j)) (fun j c x hj => absurd hj (Nat.not_lt_zero j))) (.nil _), fun v hv => by rw [List.mem_singleton] at hv; subst hv; rfl⟩
  · rw [hk] at hel
    have h1 : ∀ i, i < len → ∃ q : List Value × α, w.cells? base (a.add (i * D.k)) D.k = some q.1 ∧ LRel (cx0 w) (D.cells stdH fun _ => q.2) q.1 ∧ ∀ v ∈ q.1, v.oneCell' = true := fun i hi => by
      have h2 := hel i hi
      rw [List.getElem?_eq_getElem (by omega)] at h2
      obtain ⟨cs, h3, h4⟩ := Option.bind_eq_some_iff.1 h2
      obtain ⟨x, h5, h6⟩ := he _ _ _ _ _ _ h4
      exact ⟨(cs, x), h3, h5, h6⟩
    have : Inhabited α := ⟨D.d⟩
    obtain ⟨f, hf⟩ := ch_lt h1
    have hlf : ((List.range len).map fun i => (f i).2).length = len := by rw [List.length_map, List.length_range]
    have hlk : ∀ j, j < len → (f j).1.length = D.k := fun j hj => by rw [(hf j hj).2.1.1]; exact ok.len _
    refine ⟨(List.range len).map fun i => (f i).2, .cons ?_ (.nil _), fun v hv => by rw [List.mem_singleton] at hv; subst hv; rfl⟩
    have hrow : ∀ j, j < len → rowsT D stdH (fun _ => (List.range len).map fun i => (f i).2) j = D.cells stdH fun _ => (f j).2 := fun j hj => by
      rw [rowsT, ok.row, List.getD_eq_getElem?_getD, List.getElem?_map, List.getElem?_range hj]; rfl
    show Rel (cx0 w) (.vec D.k ((List.range len).map fun i => (f i).2).length _) _
    rw [hlf]
    refine .vec (fun j c => (f j).1.getD c (.bool false)) hl hm (fun j hj => ?_) (fun h0 => ?_) (fun j c hj hc => ?_) (fun j c x hj hx => ?_)
    · rw [hrow j hj]; exact ok.len _
    · obtain ⟨b, o, sp⟩ := a
      have hsp : sp = none := by
        obtain ⟨_, hcl, hat⟩ := World.cells?_some (hf 0 h0).1
        have h00 := hat 0 (by omega)
        rw [List.getElem?_eq_getElem (by rw [hlk 0 h0]; exact hp)] at h00
        simpa [Addr.add] using World.cell?_spot h00
      subst hsp
      have cell : ∀ j c, j < len → c < D.k → w.cell? ⟨b, o + j * D.k + c, none⟩ = some ((f j).1.getD c (.bool false)) := fun j c hj hc => by
        obtain ⟨_, hcl, hat⟩ := World.cells?_some (hf j hj).1
        have h00 := hat c (by omega)
        rw [List.getD_eq_getElem?_getD, List.getElem?_eq_getElem (by rw [hlk j hj]; exact hc), Option.getD_some]
        rw [List.getElem?_eq_getElem (by rw [hlk j hj]; exact hc)] at h00
        rw [add_add] at h00
        exact h00
      exact ⟨b, o, rfl, fun h => h, World.block_lt_of_cell? w _ (cell 0 0 h0 hp), cell⟩
    · rw [List.getD_eq_getElem?_getD, List.getElem?_eq_getElem (by rw [hlk j hj]; exact hc), Option.getD_some]
      exact (hf j hj).2.2 _ (List.getElem_mem _)
    · rw [hrow j hj] at hx
      have hlt := (List.getElem?_eq_some_iff.1 hx).1
      have hc : c < (f j).1.length := by rw [(hf j hj).2.1.1]; exact hlt
      rw [List.getD_eq_getElem?_getD, List.getElem?_eq_getElem hc, Option.getD_some]
      exact (hf j hj).2.1.2 c x _ hx (List.getElem?_eq_getElem hc)
theorem RTy.agg {t : TypeId} {α : Type} {D : RowD α} (h : RTy enc w t D) {base : Nat} {spare : Nat → Bool} {held : Bool} {m : Nat} {cs : Array Value} {y : DataW H × List MemPlace} (hy : DataW.trod enc Tryd.prog w base spare held m t (Value.agg cs).cells.toList = some y) : ∃ a : α, Rel (cx0 w) (aT D stdH fun _ => a) (.agg cs) := by
  obtain ⟨a, h1, h2⟩ := h _ _ _ _ _ _ hy
  refine ⟨a, ?_⟩
  have h3 : Rel (cx0 w) (.agg (D.cells stdH fun _ => a)) (.agg (Value.agg cs).cells.toList.toArray) := Rel.agg h1.1 h2 h1.2
  have e : (Value.agg cs).cells.toList.toArray = cs := by simp [Value.cells]
  rw [e] at h3
  exact h3
theorem RTy.row {t : TypeId} {α : Type} {D : RowD α} (h : RTy enc w t (rowL D)) {base : Nat} {spare : Nat → Bool} {held : Bool} {m : Nat} {v : Value} {y : DataW H × List MemPlace} (hy : DataW.trod enc Tryd.prog w base spare held m t v.cells.toList = some y) (hv : ∃ a len cap, v = .slice a len cap) : ∃ l : List α, Rel (cx0 w) (vT D stdH fun _ => l) v ∧ l.length ≤ 9223372036854775807 := by
  obtain ⟨a, len, cap, rfl⟩ := hv
  obtain ⟨l, h1, h2⟩ := h _ _ _ _ _ _ hy
  have h3 : Rel (cx0 w) (vT D stdH fun _ => l) (.slice a len cap) := LRel.one (by
    have e : (Value.slice a len cap).cells.toList = [Value.slice a len cap] := by simp [Value.cells]
    rw [e] at h1
    exact h1)
  refine ⟨l, h3, ?_⟩
  have h4 : vT D stdH (fun _ => l) = .vec D.k l.length (rowsT D stdH fun _ => l) := rfl
  rw [h4] at h3
  cases h3 with
  | vec g hn hm hk hc h1 hr =>
    unfold maxLen at hm
    omega
end
section
variable {H : Type} {enc : TypeId × Value → H} {w : World}
theorem rt_A : RTy enc w 56 rowA := fun base spare held m cs y h => by
  have h1 := leaf_open 4 56 m cs y (by kernel_rfl) h
  rw [show leaves Tryd.prog 4 56 = [3, 3, 3, 3, 3, 3, 3, 3, 3, 3, 3, 3, 3, 3, 3] from by kernel_rfl] at h1
  obtain ⟨c0, s0, rfl, ⟨m0, y0, g0⟩, h1⟩ := leaf_cons h1
  obtain ⟨x0, r0, o0⟩ := (rt_int Tryd.underlying3) base spare held m0 [c0] y0 g0
  obtain ⟨c1, s1, rfl, ⟨m1, y1, g1⟩, h1⟩ := leaf_cons h1
  obtain ⟨x1, r1, o1⟩ := (rt_int Tryd.underlying3) base spare held m1 [c1] y1 g1
  obtain ⟨c2, s2, rfl, ⟨m2, y2, g2⟩, h1⟩ := leaf_cons h1
  obtain ⟨x2, r2, o2⟩ := (rt_int Tryd.underlying3) base spare held m2 [c2] y2 g2
  obtain ⟨c3, s3, rfl, ⟨m3, y3, g3⟩, h1⟩ := leaf_cons h1
  obtain ⟨x3, r3, o3⟩ := (rt_int Tryd.underlying3) base spare held m3 [c3] y3 g3
  obtain ⟨c4, s4, rfl, ⟨m4, y4, g4⟩, h1⟩ := leaf_cons h1
  obtain ⟨x4, r4, o4⟩ := (rt_int Tryd.underlying3) base spare held m4 [c4] y4 g4
  obtain ⟨c5, s5, rfl, ⟨m5, y5, g5⟩, h1⟩ := leaf_cons h1
  obtain ⟨x5, r5, o5⟩ := (rt_int Tryd.underlying3) base spare held m5 [c5] y5 g5
  obtain ⟨c6, s6, rfl, ⟨m6, y6, g6⟩, h1⟩ := leaf_cons h1
  obtain ⟨x6, r6, o6⟩ := (rt_int Tryd.underlying3) base spare held m6 [c6] y6 g6
  obtain ⟨c7, s7, rfl, ⟨m7, y7, g7⟩, h1⟩ := leaf_cons h1
  obtain ⟨x7, r7, o7⟩ := (rt_int Tryd.underlying3) base spare held m7 [c7] y7 g7
  obtain ⟨c8, s8, rfl, ⟨m8, y8, g8⟩, h1⟩ := leaf_cons h1
  obtain ⟨x8, r8, o8⟩ := (rt_int Tryd.underlying3) base spare held m8 [c8] y8 g8
  obtain ⟨c9, s9, rfl, ⟨m9, y9, g9⟩, h1⟩ := leaf_cons h1
  obtain ⟨x9, r9, o9⟩ := (rt_int Tryd.underlying3) base spare held m9 [c9] y9 g9
  obtain ⟨c10, s10, rfl, ⟨m10, y10, g10⟩, h1⟩ := leaf_cons h1
  obtain ⟨x10, r10, o10⟩ := (rt_int Tryd.underlying3) base spare held m10 [c10] y10 g10
  obtain ⟨c11, s11, rfl, ⟨m11, y11, g11⟩, h1⟩ := leaf_cons h1
  obtain ⟨x11, r11, o11⟩ := (rt_int Tryd.underlying3) base spare held m11 [c11] y11 g11
  obtain ⟨c12, s12, rfl, ⟨m12, y12, g12⟩, h1⟩ := leaf_cons h1
  obtain ⟨x12, r12, o12⟩ := (rt_int Tryd.underlying3) base spare held m12 [c12] y12 g12
  obtain ⟨c13, s13, rfl, ⟨m13, y13, g13⟩, h1⟩ := leaf_cons h1
  obtain ⟨x13, r13, o13⟩ := (rt_int Tryd.underlying3) base spare held m13 [c13] y13 g13
  obtain ⟨c14, s14, rfl, ⟨m14, y14, g14⟩, h1⟩ := leaf_cons h1
  obtain ⟨x14, r14, o14⟩ := (rt_int Tryd.underlying3) base spare held m14 [c14] y14 g14
  obtain rfl := leaf_nil h1
  refine ⟨⟨⟨x0, x1, x2, x3⟩, x4, x5, x6, ⟨x7, x8, x9, x10⟩, ⟨x11, x12, x13, x14⟩⟩, (.cons r0.one (.cons r1.one (.cons r2.one (.cons r3.one (.cons r4.one (.cons r5.one (.cons r6.one (.cons r7.one (.cons r8.one (.cons r9.one (.cons r10.one (.cons r11.one (.cons r12.one (.cons r13.one (.cons r14.one (.nil _)))))))))))))))), fun v hv => ?_⟩
  simp only [List.mem_cons, List.not_mem_nil, or_false] at hv
  rcases hv with rfl | rfl | rfl | rfl | rfl | rfl | rfl | rfl | rfl | rfl | rfl | rfl | rfl | rfl | rfl
  · exact o0 _ List.mem_cons_self
  · exact o1 _ List.mem_cons_self
  · exact o2 _ List.mem_cons_self
  · exact o3 _ List.mem_cons_self
  · exact o4 _ List.mem_cons_self
  · exact o5 _ List.mem_cons_self
  · exact o6 _ List.mem_cons_self
  · exact o7 _ List.mem_cons_self
  · exact o8 _ List.mem_cons_self
  · exact o9 _ List.mem_cons_self
  · exact o10 _ List.mem_cons_self
  · exact o11 _ List.mem_cons_self
  · exact o12 _ List.mem_cons_self
  · exact o13 _ List.mem_cons_self
  · exact o14 _ List.mem_cons_self
end

end Go.Proofs.YtgjjedpoclhkfaaDoor.AM
