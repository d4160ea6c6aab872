/- Lemmas and contracts (Cre Txt Exa Idx Num Wra Qln Ito DrL Shd); conditions: none. -/
import Derived.Test.YtcjjffmbhionmaaGreatDoorK03
import Derived.Test.YtcjjffmbhionmaaGreatDoorK04
import Derived.Test.YtcjjffmbhionmaaGreatDoorK07
import Derived.Test.YtcjjffmbhionmaaGreatDoorK09
import Derived.Test.YtcjjffmbhionmaaGreatDoorK11
import Derived.Test.YtcjjffmbhionmaaGreatDoorK12
set_option linter.unusedVariables false
set_option linter.unusedSimpArgs false
set_option maxRecDepth 100000
set_option maxHeartbeats 4000000
set_option cbv.maxSteps 3000000
namespace Go.Proofs.YtcjjffmbhionmaaGreatDoor.AM
/- Crests, classes of tinctures, wreaths; conditions: none. -/
structure Crs where
  k : Int
  a : Int
  t : Int
  r : Int
deriving Inhabited
theorem c_tinFS (f : Fld) : Con Tryz.prog 112 [.agg [.lit (.int .i64 f.d), .lit (.int .i64 f.l), .lit (.int .i64 f.p), .lit (.int .i64 f.q)]] [] (LF (tinF f)) [] := by
  obtain ⟨f0, f1, f2, f3⟩ := f
  have hB : Base Tryz.prog (tabΓ []) tab := base_of tabOk (ents_nil)
  refine con_eqF (N := 14) hB (draw_ok hB mixed) Tryz.func112 rfl rfl _ _ 60 (by simp) (by intro x hx; simp only [zqu] at hx; subst hx; exact blq_ok 4 rfl) (vrow_blf _ _ _ _) ?_
  intro H hH
  conv in finish _ _ _ _ _ _ _ _ => cbv
  subst hH
  simp only [Fin.satF, stdH, beq_iff_eq, beq_eq_false_iff_ne, ne_eq, tinF]
  exact ⟨fun h => ⟨_, rfl, by rw [if_pos h]; exact frz_lit1 _⟩, fun h => ⟨_, rfl, by rw [if_neg h]; exact frz_lit2 _ _⟩⟩
def e_tinFS : Entry := pureE 112 fun H a => match a with
  | [.agg [.lit (.int .i64 f0), .lit (.int .i64 f1), .lit (.int .i64 f2), .lit (.int .i64 f3)]] => some (.ful 1 (H Nat fun _ => (tinF ⟨f0, f1, f2, f3⟩).length) (H (Nat → List AV) fun _ => vrow (lget (tinF ⟨f0, f1, f2, f3⟩))), [])
  | _ => none
theorem eok_tinFS : EntryOk Tryz.prog e_tinFS := pureE_ok (by unfold isBody; kernel_rfl) (by
  intro a r ob e hob
  split at e
  · rename_i f0 f1 f2 f3
    simp only [zqt] at e
    obtain ⟨rfl, rfl⟩ := e
    exact c_tinFS ⟨f0, f1, f2, f3⟩
  · simp at e)
def tinS (a : Arm) : List Int := tinF a.f ++ (if a.o > 0 then [a.t] else []) ++ (if noG a.n then [] else [a.n.t]) ++ (if noG a.r then [] else [a.r.t])
theorem tinS_eq {a : Arm} (h : okA a = true) : tinS a = tinA a := by
  obtain ⟨⟨a0, a1, a2, a3⟩, a4, a5, a6, ⟨a7, a8, a9, a10⟩, ⟨a11, a12, a13, a14⟩⟩ := a
  simp only [okA, Bool.and_eq_true] at h
  obtain ⟨⟨_, hr⟩, ho⟩ := h
  have hg : ∀ g : Grp, (noG g || okG g) = true → (if noG g = true then [] else [g.t]) = nz g.t := by
    intro g hg
    cases hn : noG g
    · rw [hn] at hg
      simp only [Bool.false_or, okG, Bool.and_eq_true, inB, decide_eq_true_eq] at hg
      have e : nz g.t = [g.t] := if_neg (by omega)
      rw [e]; simp
    · simp only [noG, Bool.and_eq_true, decide_eq_true_eq] at hn
      have e : nz g.t = [] := if_pos hn.2
      rw [e]; simp
  simp only [tinS, tinA]
  rw [hg ⟨a11, a12, a13, a14⟩ hr]
  by_cases h0 : a4 = 0
  · rw [if_pos h0] at ho
    simp only [Bool.and_eq_true, decide_eq_true_eq] at ho
    rw [if_neg (by omega), hg ⟨a7, a8, a9, a10⟩ (by rw [ho.2]; rfl), ho.1.2]; rfl
  · rw [if_neg h0] at ho
    simp only [Bool.and_eq_true, inB, decide_eq_true_eq] at ho
    rw [if_pos (by omega), hg ⟨a7, a8, a9, a10⟩ ho.2]
    have : nz a6 = [a6] := if_neg (by omega)
    rw [this]
theorem c_tinS (a : Arm) : Con Tryz.prog 79 [.agg [.lit (.int .i64 (a).f.d), .lit (.int .i64 (a).f.l), .lit (.int .i64 (a).f.p), .lit (.int .i64 (a).f.q), .lit (.int .i64 (a).o), .lit (.int .i64 (a).l), .lit (.int .i64 (a).t), .lit (.int .i64 (a).n.c), .lit (.int .i64 (a).n.k), .lit (.int .i64 (a).n.a), .lit (.int .i64 (a).n.t), .lit (.int .i64 (a).r.c), .lit (.int .i64 (a).r.k), .lit (.int .i64 (a).r.a), .lit (.int .i64 (a).r.t)]] [] (LV (tinS a)) [] := by
  obtain ⟨⟨a0, a1, a2, a3⟩, a4, a5, a6, ⟨a7, a8, a9, a10⟩, ⟨a11, a12, a13, a14⟩⟩ := a
  have hB : Base Tryz.prog (tabΓ [e_tinFS, e_l4None]) tab := base_of tabOk (ents_cons eok_tinFS <| ents_cons eok_l4None <| ents_nil)
  refine con_eqF (N := 36) hB (draw_ok hB mixed) Tryz.func79 rfl rfl _ _ 150 (by simp) (by intro x hx; simp only [zqu] at hx; subst hx; exact blq_ok 4 rfl) (vrow_bl _ _ _ _) ?_
  intro H hH
  conv in finish _ _ _ _ _ _ _ _ => cbv
  subst hH
  simp only [Fin.satF, stdH, zqa, zqb, zqc, zqd]
  have hl : (tinF ⟨a0, a1, a2, a3⟩).length ≤ 2 := by unfold tinF; split <;> simp
  repeat' (first | refine ⟨(⟨by omega, trivial⟩ : AllP [_]), ?_⟩ | refine ⟨(⟨by first | omega | trivial, by omega, trivial⟩ : AllP [_, _]), ?_⟩ | (apply And.intro <;> intro h))
  all_goals
    refine ⟨_, rfl, ?_⟩
    simp only [tinS, List.append_nil, if_true, if_false, Bool.false_eq_true, *]
    first | exact frz_gro (gro_snoc (gro_snoc (gro_snoc (gro0 _) _) _) _) rfl (Nat.zero_le _) | exact frz_gro (gro_snoc (gro_snoc (gro0 _) _) _) rfl (Nat.zero_le _) | exact frz_gro (gro_snoc (gro0 _) _) rfl (Nat.zero_le _) | exact frz_ful _ rfl (fun _ _ => rfl)
noncomputable def e_tinS : Entry := pureE 79 fun H a => match a with
  | [.agg [.lit (.int .i64 a0), .lit (.int .i64 a1), .lit (.int .i64 a2), .lit (.int .i64 a3), .lit (.int .i64 a4), .lit (.int .i64 a5), .lit (.int .i64 a6), .lit (.int .i64 a7), .lit (.int .i64 a8), .lit (.int .i64 a9), .lit (.int .i64 a10), .lit (.int .i64 a11), .lit (.int .i64 a12), .lit (.int .i64 a13), .lit (.int .i64 a14)]] => some (.vec 1 (H Nat fun _ => (tinS ⟨⟨a0, a1, a2, a3⟩, a4, a5, a6, ⟨a7, a8, a9, a10⟩, ⟨a11, a12, a13, a14⟩⟩).length) (vrow (H (Nat → Int) fun _ => lget (tinS ⟨⟨a0, a1, a2, a3⟩, a4, a5, a6, ⟨a7, a8, a9, a10⟩, ⟨a11, a12, a13, a14⟩⟩))), [])
  | _ => none
theorem eok_tinS : EntryOk Tryz.prog e_tinS := pureE_ok (by unfold isBody; kernel_rfl) (by
  intro a r ob e hob
  split at e
  · rename_i a0 a1 a2 a3 a4 a5 a6 a7 a8 a9 a10 a11 a12 a13 a14
    simp only [zqt] at e
    obtain ⟨rfl, rfl⟩ := e
    exact c_tinS ⟨⟨a0, a1, a2, a3⟩, a4, a5, a6, ⟨a7, a8, a9, a10⟩, ⟨a11, a12, a13, a14⟩⟩
  · simp at e)

end Go.Proofs.YtcjjffmbhionmaaGreatDoor.AM

set_option maxRecDepth 100000
set_option maxHeartbeats 4000000
set_option cbv.maxSteps 3000000
namespace Go.Proofs.YtcjjffmbhionmaaGreatDoor.AM
/- Words of tinctures, kinds, attitudes, numbers; texts of groups and crests; conditions: none. -/
def rowsC (H : Hold) (L : Unit → List Crs) (j : Nat) : List AV := [.lit (.int .i64 (H Int fun _ => ((L ()).getD j default).k)), .lit (.int .i64 (H Int fun _ => ((L ()).getD j default).a)), .lit (.int .i64 (H Int fun _ => ((L ()).getD j default).t)), .lit (.int .i64 (H Int fun _ => ((L ()).getD j default).r))]
theorem Crs.eta (a : Crs) : (⟨a.k, a.a, a.t, a.r⟩ : Crs) = a := rfl
theorem Plain_rowsC (n : Nat) (H : Hold) (L : Unit → List Crs) : Plain n (rowsC H L) = True := eq_true ⟨fun j _ x hx => by simp [rowsC] at hx; rcases hx with rfl | rfl | rfl | rfl <;> rfl⟩
def eqrC (a b : Crs) : Bool := allT [fun _ => a.k == b.k, fun _ => a.a == b.a, fun _ => a.t == b.t, fun _ => a.r == b.r]
theorem eqrC_iff {a b : Crs} : eqrC a b = true ↔ a = b := by
  obtain ⟨a0, a1, a2, a3⟩ := a; obtain ⟨b0, b1, b2, b3⟩ := b
  simp [eqrC, allT, and_assoc]
instance : DecidableEq Crs := fun a b => decidable_of_iff (eqrC a b = true) eqrC_iff
theorem bsz (l : List UInt8) : (ByteArray.mk (Array.mk l)).size = l.length := rfl
end Go.Proofs.YtcjjffmbhionmaaGreatDoor.AM

set_option maxRecDepth 100000
set_option maxHeartbeats 4000000
set_option cbv.maxSteps 3000000
namespace Go.Proofs.YtcjjffmbhionmaaGreatDoor.AM
/- Copies, comparisons and marks of lists of arms; conditions: none. -/
theorem RowsEq.put {D : RowD Arm} (ok : RowOk D) {L : List Arm} {j : Nat} {x : Arm} {M : List Arm} (e : L.set j x = M) : RowsEq D.k M.length (rowsT D stdH fun _ => M) L.length (put1 j (D.cells stdH fun _ => x) (rowsT D stdH fun _ => L)) :=
  .ofT ok rfl (Shp_put1 (Shp_rowsT ok _ _) (by rw [ok.of_cells])) (by rw [Tl_put1, Tl_rowsT ok, ok.of_cells, e])

end Go.Proofs.YtcjjffmbhionmaaGreatDoor.AM

set_option maxRecDepth 100000
set_option maxHeartbeats 4000000
set_option cbv.maxSteps 3000000
namespace Go.Proofs.YtcjjffmbhionmaaGreatDoor.AM
/- Where something stands in a list; conditions: none. -/
def idxF {α : Type} (p : α → Bool) (l : List α) : Int := if l.any p then ((l.findIdx p : Nat) : Int) else -1
theorem idxF_at {α : Type} {p : α → Bool} {l : List α} {i : Nat} (d : α) (hi : i < l.length) (h : p (l.getD i d) = true) (hj : ∀ j, j < i → p (l.getD j d) = false) : idxF p l = (i : Nat) := by
  have e : ∀ j, (q : j < l.length) → l.getD j d = l[j] := fun j q => by rw [List.getD_eq_getElem?_getD, List.getElem?_eq_getElem q]; rfl
  have h1 : l.findIdx p = i := by
    rw [List.findIdx_eq hi]
    exact ⟨by rw [← e i hi]; exact h, fun j hji => by rw [← e j (by omega)]; exact hj j hji⟩
  unfold idxF
  rw [if_pos (List.any_eq_true.2 ⟨_, List.getElem_mem hi, by rw [← e i hi]; exact h⟩), h1]
theorem none_any {α : Type} {p : α → Bool} {l : List α} (d : α) (hj : ∀ j, j < l.length → p (l.getD j d) = false) : l.any p = false := by
  rw [List.any_eq_false]
  intro x hx
  obtain ⟨i, hi, e⟩ := List.getElem_of_mem hx
  have := hj i hi
  rw [List.getD_eq_getElem?_getD, List.getElem?_eq_getElem hi] at this
  rw [← e]; simpa using this
theorem idxF_no {α : Type} {p : α → Bool} {l : List α} (d : α) (hj : ∀ j, j < l.length → p (l.getD j d) = false) : idxF p l = -1 := by
  unfold idxF; rw [none_any d hj]; rfl
theorem idxF_ge {α : Type} (p : α → Bool) (l : List α) : decide (idxF p l ≥ 0) = l.any p := by
  unfold idxF
  cases l.any p
  · rfl
  · simp
end Go.Proofs.YtcjjffmbhionmaaGreatDoor.AM

set_option maxRecDepth 100000
set_option maxHeartbeats 4000000
set_option cbv.maxSteps 3000000
namespace Go.Proofs.YtcjjffmbhionmaaGreatDoor.AM
/- Numbers as texts; marks of texts; conditions: none. -/
theorem beqT (s t : ByteArray) : (s.toList == t.toList) = decide (s = t) := by
  rw [Bool.eq_iff_iff, beq_iff_eq, decide_eq_true_eq, ByteArray.toList_eq, ByteArray.toList_eq]
  exact ⟨fun h => ByteArray.ext (Array.ext' h), fun h => by rw [h]⟩
theorem TlS' (L : List ByteArray) : Tl rowS L.length (rowsS stdH fun _ => L) = L := Tl_rowsT okS L
theorem ShpS' (n : Nat) (L : List ByteArray) : Shp rowS n (rowsS stdH fun _ => L) := Shp_rowsT okS n (fun _ => L)
theorem list_extS {a b : List ByteArray} (h : a.length = b.length) (hj : ∀ j, j < a.length → a.getD j ByteArray.empty = b.getD j ByteArray.empty) : a = b := by
  refine List.ext_getElem h fun j h2 h3 => ?_
  have := hj j h2
  simpa [List.getD_eq_getElem?_getD, h2, h3] using this
end Go.Proofs.YtcjjffmbhionmaaGreatDoor.AM

set_option maxRecDepth 100000
set_option maxHeartbeats 4000000
set_option cbv.maxSteps 3000000
namespace Go.Proofs.YtcjjffmbhionmaaGreatDoor.AM
/- Arms wrapped; conditions: none. -/
theorem Tl_S (L : List ByteArray) : Tl rowS L.length (rowsS stdH fun _ => L) = L := Tl_rowsT okS L
theorem Shp_S (n : Nat) (L : List ByteArray) : Shp rowS n (rowsS stdH fun _ => L) := Shp_rowsT okS n (fun _ => L)
end Go.Proofs.YtcjjffmbhionmaaGreatDoor.AM

set_option maxRecDepth 100000
set_option maxHeartbeats 4000000
set_option cbv.maxSteps 3000000
namespace Go.Proofs.YtcjjffmbhionmaaGreatDoor.AM
/- Small numbers as texts; lines of quarterings; conditions: none. -/
def numD (i : Nat) : ByteArray := ⟨(Lib.decDigits i).toArray⟩
noncomputable def e_l1NumV : Entry := pureE 80 fun H a => match a with
  | [.lit (.int .i64 _)] => some (.lit (.string ByteArray.empty), [H Prop fun _ => False])
  | _ => none
theorem eok_l1NumV : EntryOk Tryz.prog e_l1NumV := pureE_ok (by unfold isBody; kernel_rfl) (by
  intro a r ob e hob
  split at e
  · simp only [zqt] at e
    obtain ⟨rfl, rfl⟩ := e
    exact hob.1.elim
  · simp at e)
theorem numD_one {i : Nat} (h : i < 10) : numD i = ⟨⟨[UInt8.ofNat (48 + i)]⟩⟩ := by unfold numD; rw [Lib.decDigits_one h]
theorem numD_step {i : Nat} (h : ¬ i < 10) : numD i = numD (i / 10) ++ ⟨⟨[UInt8.ofNat (48 + i % 10)]⟩⟩ := by
  unfold numD
  rw [Lib.decDigits, dif_neg h]
  apply ByteArray.ext; apply Array.ext'
  simp
theorem dig_at {i : Nat} (h : i < 10) : ((⟨⟨[48, 49, 50, 51, 52, 53, 54, 55, 56, 57]⟩⟩ : ByteArray)).extract i (i + 1) = ⟨⟨[UInt8.ofNat (48 + i)]⟩⟩ := by
  have : ∀ i : Nat, i < 10 → ((⟨⟨[48, 49, 50, 51, 52, 53, 54, 55, 56, 57]⟩⟩ : ByteArray)).extract i (i + 1) = (⟨⟨[UInt8.ofNat (48 + i)]⟩⟩ : ByteArray) := by decide
  exact this i h
theorem numD_sz {i : Nat} (h : i < 100) : (numD i).size ≤ 2 := by
  by_cases h1 : i < 10
  · rw [numD_one h1]; exact Nat.le_succ 1
  · rw [numD_step h1, numD_one (by omega)]; exact Nat.le_refl 2
theorem c_l1NumA (x : Int) (h0 : 0 ≤ x ∧ x ≤ 9) : ConN Tryz.prog 80 [.lit (.int .i64 x)] [] 0 (.lit (.string (stdH ByteArray fun _ => numD (x).toNat))) [] [] := by
  have hB : Base Tryz.prog (tabΓ [e_l1NumV]) tab := base_of tabOk (ents_cons eok_l1NumV <| ents_nil)
  refine con_m (N := 25) hB (draw_ok hB mixed) Tryz.func80 rfl rfl (fun H => [.lit (.int .i64 x)]) (fun _ => []) 0 (fun H => .lit (.string (H ByteArray fun _ => numD (x).toNat))) (fun H => []) (fun _ => []) 200 (by simp) (fun x hx => ?_) (by simp [lk]) (by omega) (by simp) ?_
  · simp only [zqu] at hx
    rcases hx with rfl
    · exact .lit
  intro X hX hX0 H hH
  conv in Fin.chk _ _ => cbv
  try simp only [zqs, Plain_rowsC, zqx, AllP, zqw, upd, if_true]
  subst hH
  simp only [stdH, decide_eq_true_eq, decide_eq_false_iff_not]
  have e1 : 0 ≤ x ∧ x ≤ 9 → IntKind.i64.wrap (x + 1) = x + 1 := fun h => wi (by omega) (by omega)
  have e2 : (x.tmod 10) = x % 10 := Int.tmod_eq_emod_of_nonneg (by omega)
  have e3 : (x.tdiv 10) = x / 10 := Int.tdiv_eq_ediv_of_nonneg (by omega)
  have e4 : IntKind.i64.wrap (x % 10 + 1) = x % 10 + 1 := wi (by omega) (by omega)
  have e5 : IntKind.i64.wrap (x / 10) = x / 10 := wi (by omega) (by omega)
  have e6 : ((⟨⟨[48, 49, 50, 51, 52, 53, 54, 55, 56, 57]⟩⟩ : ByteArray)).size = 10 := rfl
  have hx : (x % 10).toNat < 10 := by omega
  have e7 : (x % 10 + 1).toNat = (x % 10).toNat + 1 := by omega
  simp only [e2, e3, e4, e5, e6]
  simp only [loOf, hiOf, okB, e7, dig_at hx]
  refine ⟨fun h => ?_, fun h => ⟨fun h2 => ?_, fun h2 => ?_⟩⟩
  · omega
  · rw [e1 (by omega), show (x + 1).toNat = x.toNat + 1 by omega, dig_at (by omega), numD_one (by omega)]
    exact ⟨⟨by omega, by omega, by omega, by omega⟩, rfl⟩
  · omega
noncomputable def e_l1NumA : Entry := pureE 80 fun H a => match a with
  | [.lit (.int .i64 x)] => some (.lit (.string (H ByteArray fun _ => numD (x).toNat)), [H Prop fun _ => 0 ≤ x ∧ x ≤ 9])
  | _ => none
theorem eok_l1NumA : EntryOk Tryz.prog e_l1NumA := pureM_ok (by unfold isBody; kernel_rfl) (by
  intro a r ob e hob
  split at e
  · rename_i x
    simp only [zqt] at e
    obtain ⟨rfl, rfl⟩ := e
    exact ConN.args (.cons .rfl .nil) (c_l1NumA x hob.1)
  · simp at e)
theorem c_l1NumB (x : Int) (h0 : 0 ≤ x ∧ x ≤ 99) : ConN Tryz.prog 80 [.lit (.int .i64 x)] [] 0 (.lit (.string (stdH ByteArray fun _ => numD (x).toNat))) [] [] := by
  have hB : Base Tryz.prog (tabΓ [e_l1NumA]) tab := base_of tabOk (ents_cons eok_l1NumA <| ents_nil)
  refine con_m (N := 25) hB (draw_ok hB mixed) Tryz.func80 rfl rfl (fun H => [.lit (.int .i64 x)]) (fun _ => []) 0 (fun H => .lit (.string (H ByteArray fun _ => numD (x).toNat))) (fun H => []) (fun _ => []) 200 (by simp) (fun x hx => ?_) (by simp [lk]) (by omega) (by simp) ?_
  · simp only [zqu] at hx
    rcases hx with rfl
    · exact .lit
  intro X hX hX0 H hH
  conv in Fin.chk _ _ => cbv
  try simp only [zqs, Plain_rowsC, zqx, AllP, zqw, upd, if_true]
  subst hH
  simp only [stdH, decide_eq_true_eq, decide_eq_false_iff_not]
  have e1 : 0 ≤ x ∧ x ≤ 9 → IntKind.i64.wrap (x + 1) = x + 1 := fun h => wi (by omega) (by omega)
  have e2 : (x.tmod 10) = x % 10 := Int.tmod_eq_emod_of_nonneg (by omega)
  have e3 : (x.tdiv 10) = x / 10 := Int.tdiv_eq_ediv_of_nonneg (by omega)
  have e4 : IntKind.i64.wrap (x % 10 + 1) = x % 10 + 1 := wi (by omega) (by omega)
  have e5 : IntKind.i64.wrap (x / 10) = x / 10 := wi (by omega) (by omega)
  have e6 : ((⟨⟨[48, 49, 50, 51, 52, 53, 54, 55, 56, 57]⟩⟩ : ByteArray)).size = 10 := rfl
  have hx : (x % 10).toNat < 10 := by omega
  have e7 : (x % 10 + 1).toNat = (x % 10).toNat + 1 := by omega
  simp only [e2, e3, e4, e5, e6]
  simp only [loOf, hiOf, okB, e7, dig_at hx]
  refine ⟨fun h => ?_, fun h => ⟨fun h2 => ?_, fun h2 => ?_⟩⟩
  · omega
  · rw [e1 (by omega), show (x + 1).toNat = x.toNat + 1 by omega, dig_at (by omega), numD_one (by omega)]
    exact ⟨⟨by omega, by omega, by omega, by omega⟩, rfl⟩
  · have s1 := numD_sz (i := (x / 10).toNat) (by omega)
    refine ⟨by omega, by omega, by omega, by omega, ⟨by omega, by omega, by omega, by omega⟩, ?_, ?_⟩
    · show _ + 1 ≤ _
      omega
    · rw [numD_step (by omega), show (x / 10).toNat = x.toNat / 10 by omega, show (x % 10).toNat = x.toNat % 10 by omega]
noncomputable def e_l1NumB : Entry := pureE 80 fun H a => match a with
  | [.lit (.int .i64 x)] => some (.lit (.string (H ByteArray fun _ => numD (x).toNat)), [H Prop fun _ => 0 ≤ x ∧ x ≤ 99])
  | _ => none
theorem eok_l1NumB : EntryOk Tryz.prog e_l1NumB := pureM_ok (by unfold isBody; kernel_rfl) (by
  intro a r ob e hob
  split at e
  · rename_i x
    simp only [zqt] at e
    obtain ⟨rfl, rfl⟩ := e
    exact ConN.args (.cons .rfl .nil) (c_l1NumB x hob.1)
  · simp at e)
end Go.Proofs.YtcjjffmbhionmaaGreatDoor.AM

set_option maxRecDepth 100000
set_option maxHeartbeats 4000000
set_option cbv.maxSteps 3000000
namespace Go.Proofs.YtcjjffmbhionmaaGreatDoor.AM
/- Numbers of up to four digits as texts; conditions: none. -/
theorem itoa_pos {x : Int} (h : 0 ≤ x) : Lib.itoa x = Lib.decDigits x.toNat := by
  unfold Lib.itoa
  rw [if_neg (by omega)]
theorem c_itoaN (x : Int) (h : 0 ≤ x ∧ x ≤ 1000000) : Con Tryz.prog 74 [.lit (.int .i64 x)] [] (.lit (.string (numD x.toNat))) [] :=
  con_belowG (l := [.int .i64 x]) (fun _ => .lit rfl) fun w ow hg => by
    have := Tryz.strconv_Itoa x (by omega) (by omega) w (hg.var.tab _ (List.mem_cons_self))
    refine this.mono fun e w' ⟨h1, k, os, h2⟩ => ⟨by rw [h1, itoa_pos h.1]; rfl, ?_⟩
    subst h2
    refine ⟨rfl, rfl, rfl, ?_, fun q hq => ?_⟩
    · show _ ≤ (w.heap ++ _).size
      rw [Array.size_append]; exact Nat.le_add_right _ _
    · show (w.heap ++ _)[q]? = _
      rw [Array.getElem?_append_left hq]
noncomputable def e_itoaN : Entry := pureE 74 fun H a => match a with
  | [.lit (.int .i64 x)] => some (.lit (.string (H ByteArray fun _ => (numD (x).toNat))), [H Prop fun _ => 0 ≤ x ∧ x ≤ 1000000])
  | _ => none
theorem eok_itoaN : EntryOk Tryz.prog e_itoaN := pureE_ok (by unfold isBody; kernel_rfl) (by
  intro a r ob e hob
  split at e
  · simp only [zqt] at e
    obtain ⟨rfl, rfl⟩ := e
    obtain ⟨h0, _⟩ := hob
    exact c_itoaN _ h0
  · simp at e)
theorem numD_sz3 {i : Nat} (h : i < 1000) : (numD i).size ≤ 3 := by
  by_cases h1 : i < 100
  · exact Nat.le_trans (numD_sz h1) (by omega)
  · rw [numD_step (by omega), ByteArray.size_append]
    exact Nat.add_le_add_right (numD_sz (i := i / 10) (by omega)) 1
theorem numD_sz4 {i : Nat} (h : i < 10000) : (numD i).size ≤ 4 := by
  by_cases h1 : i < 1000
  · exact Nat.le_trans (numD_sz3 h1) (by omega)
  · rw [numD_step (by omega), ByteArray.size_append]
    exact Nat.add_le_add_right (numD_sz3 (i := i / 10) (by omega)) 1
theorem c_l1NumC (x : Int) (h0 : 0 ≤ x ∧ x ≤ 999) : ConN Tryz.prog 80 [.lit (.int .i64 x)] [] 0 (.lit (.string (stdH ByteArray fun _ => numD (x).toNat))) [] [] := by
  have hB : Base Tryz.prog (tabΓ [e_l1NumB]) tab := base_of tabOk (ents_cons eok_l1NumB <| ents_nil)
  refine con_m (N := 25) hB (draw_ok hB mixed) Tryz.func80 rfl rfl (fun H => [.lit (.int .i64 x)]) (fun _ => []) 0 (fun H => .lit (.string (H ByteArray fun _ => numD (x).toNat))) (fun H => []) (fun _ => []) 200 (by simp) (fun x hx => ?_) (by simp [lk]) (by omega) (by simp) ?_
  · simp only [zqu] at hx
    rcases hx with rfl
    · exact .lit
  intro X hX hX0 H hH
  conv in Fin.chk _ _ => cbv
  try simp only [zqs, Plain_rowsC, zqx, AllP, zqw, upd, if_true]
  subst hH
  simp only [stdH, decide_eq_true_eq, decide_eq_false_iff_not]
  have e1 : 0 ≤ x ∧ x ≤ 9 → IntKind.i64.wrap (x + 1) = x + 1 := fun h => wi (by omega) (by omega)
  have e2 : (x.tmod 10) = x % 10 := Int.tmod_eq_emod_of_nonneg (by omega)
  have e3 : (x.tdiv 10) = x / 10 := Int.tdiv_eq_ediv_of_nonneg (by omega)
  have e4 : IntKind.i64.wrap (x % 10 + 1) = x % 10 + 1 := wi (by omega) (by omega)
  have e5 : IntKind.i64.wrap (x / 10) = x / 10 := wi (by omega) (by omega)
  have e6 : ((⟨⟨[48, 49, 50, 51, 52, 53, 54, 55, 56, 57]⟩⟩ : ByteArray)).size = 10 := rfl
  have hx : (x % 10).toNat < 10 := by omega
  have e7 : (x % 10 + 1).toNat = (x % 10).toNat + 1 := by omega
  simp only [e2, e3, e4, e5, e6]
  simp only [loOf, hiOf, okB, e7, dig_at hx]
  refine ⟨fun h => ?_, fun h => ⟨fun h2 => ?_, fun h2 => ?_⟩⟩
  · omega
  · rw [e1 (by omega), show (x + 1).toNat = x.toNat + 1 by omega, dig_at (by omega), numD_one (by omega)]
    exact ⟨⟨by omega, by omega, by omega, by omega⟩, rfl⟩
  · have s1 := numD_sz (i := (x / 10).toNat) (by omega)
    refine ⟨by omega, by omega, by omega, by omega, ⟨by omega, by omega, by omega, by omega⟩, ?_, ?_⟩
    · show _ + 1 ≤ _
      omega
    · rw [numD_step (by omega), show (x / 10).toNat = x.toNat / 10 by omega, show (x % 10).toNat = x.toNat % 10 by omega]
noncomputable def e_l1NumC : Entry := pureE 80 fun H a => match a with
  | [.lit (.int .i64 x)] => some (.lit (.string (H ByteArray fun _ => numD (x).toNat)), [H Prop fun _ => 0 ≤ x ∧ x ≤ 999])
  | _ => none
theorem eok_l1NumC : EntryOk Tryz.prog e_l1NumC := pureM_ok (by unfold isBody; kernel_rfl) (by
  intro a r ob e hob
  split at e
  · rename_i x
    simp only [zqt] at e
    obtain ⟨rfl, rfl⟩ := e
    exact ConN.args (.cons .rfl .nil) (c_l1NumC x hob.1)
  · simp at e)
theorem c_l1NumD (x : Int) (h0 : 0 ≤ x ∧ x ≤ 9999) : ConN Tryz.prog 80 [.lit (.int .i64 x)] [] 0 (.lit (.string (stdH ByteArray fun _ => numD (x).toNat))) [] [] := by
  have hB : Base Tryz.prog (tabΓ [e_l1NumC]) tab := base_of tabOk (ents_cons eok_l1NumC <| ents_nil)
  refine con_m (N := 25) hB (draw_ok hB mixed) Tryz.func80 rfl rfl (fun H => [.lit (.int .i64 x)]) (fun _ => []) 0 (fun H => .lit (.string (H ByteArray fun _ => numD (x).toNat))) (fun H => []) (fun _ => []) 200 (by simp) (fun x hx => ?_) (by simp [lk]) (by omega) (by simp) ?_
  · simp only [zqu] at hx
    rcases hx with rfl
    · exact .lit
  intro X hX hX0 H hH
  conv in Fin.chk _ _ => cbv
  try simp only [zqs, Plain_rowsC, zqx, AllP, zqw, upd, if_true]
  subst hH
  simp only [stdH, decide_eq_true_eq, decide_eq_false_iff_not]
  have e1 : 0 ≤ x ∧ x ≤ 9 → IntKind.i64.wrap (x + 1) = x + 1 := fun h => wi (by omega) (by omega)
  have e2 : (x.tmod 10) = x % 10 := Int.tmod_eq_emod_of_nonneg (by omega)
  have e3 : (x.tdiv 10) = x / 10 := Int.tdiv_eq_ediv_of_nonneg (by omega)
  have e4 : IntKind.i64.wrap (x % 10 + 1) = x % 10 + 1 := wi (by omega) (by omega)
  have e5 : IntKind.i64.wrap (x / 10) = x / 10 := wi (by omega) (by omega)
  have e6 : ((⟨⟨[48, 49, 50, 51, 52, 53, 54, 55, 56, 57]⟩⟩ : ByteArray)).size = 10 := rfl
  have hx : (x % 10).toNat < 10 := by omega
  have e7 : (x % 10 + 1).toNat = (x % 10).toNat + 1 := by omega
  simp only [e2, e3, e4, e5, e6]
  simp only [loOf, hiOf, okB, e7, dig_at hx]
  refine ⟨fun h => ?_, fun h => ⟨fun h2 => ?_, fun h2 => ?_⟩⟩
  · omega
  · rw [e1 (by omega), show (x + 1).toNat = x.toNat + 1 by omega, dig_at (by omega), numD_one (by omega)]
    exact ⟨⟨by omega, by omega, by omega, by omega⟩, rfl⟩
  · have s1 := numD_sz3 (i := (x / 10).toNat) (by omega)
    refine ⟨by omega, by omega, by omega, by omega, ⟨by omega, by omega, by omega, by omega⟩, ?_, ?_⟩
    · show _ + 1 ≤ _
      omega
    · rw [numD_step (by omega), show (x / 10).toNat = x.toNat / 10 by omega, show (x % 10).toNat = x.toNat % 10 by omega]
noncomputable def e_l1NumD : Entry := pureE 80 fun H a => match a with
  | [.lit (.int .i64 x)] => some (.lit (.string (H ByteArray fun _ => numD (x).toNat)), [H Prop fun _ => 0 ≤ x ∧ x ≤ 9999])
  | _ => none
theorem eok_l1NumD : EntryOk Tryz.prog e_l1NumD := pureM_ok (by unfold isBody; kernel_rfl) (by
  intro a r ob e hob
  split at e
  · rename_i x
    simp only [zqt] at e
    obtain ⟨rfl, rfl⟩ := e
    exact ConN.args (.cons .rfl .nil) (c_l1NumD x hob.1)
  · simp at e)

end Go.Proofs.YtcjjffmbhionmaaGreatDoor.AM

set_option maxRecDepth 100000
set_option maxHeartbeats 4000000
set_option cbv.maxSteps 3000000
namespace Go.Proofs.YtcjjffmbhionmaaGreatDoor.AM
/- Arms like others are drawn; conditions: none. -/
def enc_like (H : Hold) (y : Unit → Arm) : AV := .agg [.lit (.int .i64 (H Int fun _ => (((y ())).f.d))), .lit (.int .i64 (H Int fun _ => (((y ())).f.l))), .lit (.int .i64 (H Int fun _ => (((y ())).f.p))), .lit (.int .i64 (H Int fun _ => (((y ())).f.q))), .lit (.int .i64 (H Int fun _ => (((y ())).o))), .lit (.int .i64 (H Int fun _ => (((y ())).l))), .lit (.int .i64 (H Int fun _ => (((y ())).t))), .lit (.int .i64 (H Int fun _ => (((y ())).n.c))), .lit (.int .i64 (H Int fun _ => (((y ())).n.k))), .lit (.int .i64 (H Int fun _ => (((y ())).n.a))), .lit (.int .i64 (H Int fun _ => (((y ())).n.t))), .lit (.int .i64 (H Int fun _ => (((y ())).r.c))), .lit (.int .i64 (H Int fun _ => (((y ())).r.k))), .lit (.int .i64 (H Int fun _ => (((y ())).r.a))), .lit (.int .i64 (H Int fun _ => (((y ())).r.t)))]
theorem x_like (c : Cd) (x : Arm) (st : DS) (h : Bd 40 st)  : ∃ y, Drw Tryz.prog 66 69 40 enc_like (fun _ => True) c [.agg [.lit (.int .i64 (x).f.d), .lit (.int .i64 (x).f.l), .lit (.int .i64 (x).f.p), .lit (.int .i64 (x).f.q), .lit (.int .i64 (x).o), .lit (.int .i64 (x).l), .lit (.int .i64 (x).t), .lit (.int .i64 (x).n.c), .lit (.int .i64 (x).n.k), .lit (.int .i64 (x).n.a), .lit (.int .i64 (x).n.t), .lit (.int .i64 (x).r.c), .lit (.int .i64 (x).r.k), .lit (.int .i64 (x).r.a), .lit (.int .i64 (x).r.t)]] st y := by
  obtain ⟨⟨x0, x1, x2, x3⟩, x4, x5, x6, ⟨x7, x8, x9, x10⟩, ⟨x11, x12, x13, x14⟩⟩ := x
  have hB : Base Tryz.prog (tabΓ [e_pick c, e_field c, e_tincture c, e_group c, e_arms c, e_l4None]) tab := base_of tabOk (ents_cons (eok_pick c) <| ents_cons (eok_field c) <| ents_cons (eok_tincture c) <| ents_cons (eok_group c) <| ents_cons (eok_arms c) <| ents_cons eok_l4None <| ents_nil)
  refine drw_ok (N := 52) hB (draw_ok hB mixed) Tryz.func69 rfl rfl _ _ _ _ _ _ _ 200 (by simp) (by intro x hx; simp at hx; (first | done | (subst hx; first | (first | exact .lit | exact blq_ok 4 rfl) | exact .vec (fun j hj x hx => by simp [vrow] at hx; subst hx; exact .lit)) | (rcases hx with rfl | rfl <;> (first | exact .lit | exact blq_ok 4 rfl)) | (rcases hx with rfl | rfl | rfl <;> (first | exact .lit | exact blq_ok 4 rfl)))) ?_
  intro H hH
  conv in finish _ _ _ _ _ _ _ _ => cbv
  subst hH
  simp only [Fin.sat0, Fin.sat1, stdH, Option.some.injEq, AV.lit.injEq, AV.agg.injEq, AV.tup.injEq, List.cons.injEq, Value.bool.injEq, Value.int.injEq, AllP, and_true, true_and, eq_self, zqa, zqb, zqc, zqd, peta, ncast]
  have a1 := (p_pick c 7 st (Bd.mono (by assumption))).1; generalize F_pick c 7 st = y1 at *; have b1 : Bd 38 y1.2 := a1.bd (by assumption)
  have a2 := (p_field c y1.2 (Bd.mono (by assumption))).1; generalize F_field c y1.2 = y2 at *; have b2 : Bd 28 y2.2 := a2.bd (by assumption)
  have a3 := (p_tincture c y1.2 (Bd.mono (by assumption))).1; generalize F_tincture c y1.2 = y3 at *; have b3 : Bd 36 y3.2 := a3.bd (by assumption)
  have a4 := (p_group c y1.2 (Bd.mono (by assumption))).1; generalize F_group c y1.2 = y4 at *; have b4 : Bd 30 y4.2 := a4.bd (by assumption)
  obtain ⟨a5, m5, n5⟩ := p_pick c (7) y1.2 (Bd.mono (by assumption)); generalize F_pick c (7) y1.2 = y5 at *; have b5 : Bd 36 y5.2 := Adv.bd a5 (by assumption)
  have a6 := (p_arms c y1.2 (Bd.mono (by assumption))).1; generalize F_arms c y1.2 = y6 at *; have b6 : Bd 0 y6.2 := a6.bd (by assumption)
  obtain ⟨a7, m7, n7⟩ := p_pick c (6) y1.2 (Bd.mono (by assumption)); generalize F_pick c (6) y1.2 = y7 at *; have b7 : Bd 36 y7.2 := Adv.bd a7 (by assumption)
  have w5 : IntKind.i64.wrap (1 + y5.1) = 1 + y5.1 := wi (by omega) (by omega)
  have w7 : IntKind.i64.wrap (1 + y7.1) = 1 + y7.1 := wi (by omega) (by omega)
  have q0 : Adv 40 st y1.2 := a1.le (by omega)
  simp only [w5, w7]
  exact ⟨h.mono, fun _ => ⟨b1.mono, (⟨y2.1, x4, x5, x6, ⟨x7, x8, x9, x10⟩, ⟨x11, x12, x13, x14⟩⟩, y2.2), .refl, blq_ok 4 rfl, rfl, a1.trans a2⟩, fun _ => ⟨fun _ => ⟨fun _ => ⟨b1.mono, (⟨⟨x0, x1, x2, x3⟩, x4, x5, y3.1, ⟨x7, x8, x9, x10⟩, ⟨x11, x12, x13, x14⟩⟩, y3.2), .refl, blq_ok 4 rfl, rfl, a1.trans a3⟩, fun _ => ⟨(⟨⟨x0, x1, x2, x3⟩, x4, x5, x6, ⟨x7, x8, x9, x10⟩, ⟨x11, x12, x13, x14⟩⟩, y1.2), .refl, blq_ok 4 rfl, rfl, q0⟩⟩, fun _ => ⟨fun _ => ⟨b1.mono, (⟨⟨x0, x1, x2, x3⟩, x4, x5, x6, ⟨x7, x8, x9, x10⟩, y4.1⟩, y4.2), .refl, blq_ok 4 rfl, rfl, a1.trans a4⟩, fun _ => ⟨fun _ => ⟨fun _ => ⟨b1.mono, (⟨⟨x0, x1, x2, x3⟩, 1 + y5.1, x5, x6, ⟨x7, x8, x9, x10⟩, ⟨x11, x12, x13, x14⟩⟩, y5.2), .refl, blq_ok 4 rfl, rfl, a1.trans a5⟩, fun _ => ⟨(⟨⟨x0, x1, x2, x3⟩, x4, x5, x6, ⟨x7, x8, x9, x10⟩, ⟨x11, x12, x13, x14⟩⟩, y1.2), .refl, blq_ok 4 rfl, rfl, q0⟩⟩, fun _ => ⟨fun _ => ⟨b1.mono, (y6.1, y6.2), .refl, blq_ok 4 rfl, rfl, a1.trans a6⟩, fun _ => ⟨fun _ => ⟨fun _ => ⟨b1.mono, (⟨⟨x0, x1, x2, x3⟩, x4, x5, x6, ⟨x7, x8, x9, x10⟩, ⟨1 + y7.1, x12, x13, x14⟩⟩, y7.2), .refl, blq_ok 4 rfl, rfl, a1.trans a7⟩, fun _ => ⟨(⟨⟨x0, x1, x2, x3⟩, x4, x5, x6, ⟨x7, x8, x9, x10⟩, ⟨x11, x12, x13, x14⟩⟩, y1.2), .refl, blq_ok 4 rfl, rfl, q0⟩⟩, fun _ => ⟨(⟨⟨x0, x1, x2, x3⟩, x4, x5, x6, ⟨x7, x8, x9, x10⟩, ⟨x11, x12, x13, x14⟩⟩, y1.2), .refl, blq_ok 4 rfl, rfl, q0⟩⟩⟩⟩⟩⟩⟩
noncomputable def F_like (c : Cd) (x : Arm) (st : DS) : Arm × DS := drw Tryz.prog 66 69 40 enc_like (fun _ => True) c [.agg [.lit (.int .i64 (x).f.d), .lit (.int .i64 (x).f.l), .lit (.int .i64 (x).f.p), .lit (.int .i64 (x).f.q), .lit (.int .i64 (x).o), .lit (.int .i64 (x).l), .lit (.int .i64 (x).t), .lit (.int .i64 (x).n.c), .lit (.int .i64 (x).n.k), .lit (.int .i64 (x).n.a), .lit (.int .i64 (x).n.t), .lit (.int .i64 (x).r.c), .lit (.int .i64 (x).r.k), .lit (.int .i64 (x).r.a), .lit (.int .i64 (x).r.t)]] st
noncomputable def e_like (c : Cd) : Entry := curE 66 69 40 c fun H st a => match a with
  | [.agg [.lit (.int .i64 x0), .lit (.int .i64 x1), .lit (.int .i64 x2), .lit (.int .i64 x3), .lit (.int .i64 x4), .lit (.int .i64 x5), .lit (.int .i64 x6), .lit (.int .i64 x7), .lit (.int .i64 x8), .lit (.int .i64 x9), .lit (.int .i64 x10), .lit (.int .i64 x11), .lit (.int .i64 x12), .lit (.int .i64 x13), .lit (.int .i64 x14)]] => some (enc_like H (fun _ => (F_like c (⟨⟨x0, x1, x2, x3⟩, x4, x5, x6, ⟨x7, x8, x9, x10⟩, ⟨x11, x12, x13, x14⟩⟩ : Arm) st).1), (fun _ => (F_like c (⟨⟨x0, x1, x2, x3⟩, x4, x5, x6, ⟨x7, x8, x9, x10⟩, ⟨x11, x12, x13, x14⟩⟩ : Arm) st).2), [])
  | _ => none
theorem eok_like (c : Cd) : EntryOk Tryz.prog (e_like c) := curE_ok (by unfold isBody; kernel_rfl) (by
  intro st a r y ob e hb hob
  split at e
  · rename_i x0 x1 x2 x3 x4 x5 x6 x7 x8 x9 x10 x11 x12 x13 x14
    simp only [zqt] at e
    obtain ⟨rfl, rfl, rfl⟩ := e
    exact ⟨(drw_spec (x_like c (⟨⟨x0, x1, x2, x3⟩, x4, x5, x6, ⟨x7, x8, x9, x10⟩, ⟨x11, x12, x13, x14⟩⟩ : Arm) st hb)).1, (by intro x hx; simp only [zqu] at hx; rcases hx with rfl <;> (first | (first | exact .lit | exact blq_ok 4 rfl) | exact .vec (fun j hj x hx => by rw [hob.1 j hj] at hx; simp [vrow] at hx; subst hx; exact .lit))), (by unfold enc_like; (first | exact .lit | exact blq_ok 4 rfl))⟩
  · simp at e)
theorem p_like (c : Cd) (x : Arm) (st : DS) (h : Bd 40 st)  : Adv 40 st (F_like c x st).2 ∧ (fun _ => True) (F_like c x st).1 := (drw_spec (x_like c x st h )).2
end Go.Proofs.YtcjjffmbhionmaaGreatDoor.AM

set_option maxRecDepth 100000
set_option maxHeartbeats 4000000
set_option cbv.maxSteps 3000000
namespace Go.Proofs.YtcjjffmbhionmaaGreatDoor.AM
/- Shields are drawn; conditions: none. -/
structure Shd where
  mode : Int
  parts : List Arm
deriving Inhabited
theorem Shd.eta (a : Shd) : (⟨a.mode, a.parts⟩ : Shd) = a := rfl
theorem flat_at {α : Type} {f : α → List AV} {k : Nat} (hf : ∀ x, (f x).length = k) : ∀ (L : List α) (j : Nat) (h : j < L.length), ((L.flatMap f).drop (j * k)).take k = f L[j]
  | x :: L, 0, _ => by
    simp only [List.flatMap_cons, Nat.zero_mul, List.drop_zero, List.getElem_cons_zero]
    rw [List.take_append_of_le_length (by rw [hf]; exact Nat.le_refl _), List.take_of_length_le (by rw [hf]; exact Nat.le_refl _)]
  | x :: L, j + 1, h => by
    simp only [List.flatMap_cons, List.getElem_cons_succ]
    have e : (j + 1) * k = (f x).length + j * k := by rw [hf, Nat.add_mul, Nat.one_mul, Nat.add_comm]
    rw [e, List.drop_append, List.drop_of_length_le (by omega), List.nil_append, Nat.add_sub_cancel_left]
    exact flat_at hf L j (by simpa using h)
theorem RowsEq.lit {α : Type} {D : RowD α} (ok : RowOk D) {L : List α} {cs : List AV} {n : Nat} (hn : L.length = n) (h : cs = L.flatMap fun x => D.cells stdH fun _ => x) : RowsEq D.k L.length (rowsT D stdH fun _ => L) n (rowsOf D.k cs) := by
  subst hn
  refine ⟨rfl, fun j hj => ⟨?_, by rw [rowsT, ok.row]; exact ok.len _, rows_blx ok L j⟩⟩
  rw [rowsT, ok.row, rowsOf, h, flat_at (fun x => ok.len fun _ => x) L j hj, List.getD_eq_getElem?_getD, List.getElem?_eq_getElem hj, Option.getD_some]
theorem hetaA {H : Hold} (hH : H = stdH) (a : Arm) : (⟨⟨H Int fun _ => a.f.d, H Int fun _ => a.f.l, H Int fun _ => a.f.p, H Int fun _ => a.f.q⟩, H Int fun _ => a.o, H Int fun _ => a.l, H Int fun _ => a.t, ⟨H Int fun _ => a.n.c, H Int fun _ => a.n.k, H Int fun _ => a.n.a, H Int fun _ => a.n.t⟩, ⟨H Int fun _ => a.r.c, H Int fun _ => a.r.k, H Int fun _ => a.r.a, H Int fun _ => a.r.t⟩⟩ : Arm) = a := by subst hH; rfl
theorem Cd.rqN (c : Cd) : RowsEq 1 c.n c.rows c.n c.rows := ⟨rfl, fun j _ => ⟨rfl, rfl, fun x hx => by simp [Cd.rows] at hx; subst hx; exact .lit⟩⟩
theorem hlen {H : Hold} (hH : H = stdH) (n : Nat) : (H Int fun _ => ((H Nat fun _ => n : Nat) : Int)) = (n : Int) := by subst hH; rfl
end Go.Proofs.YtcjjffmbhionmaaGreatDoor.AM

