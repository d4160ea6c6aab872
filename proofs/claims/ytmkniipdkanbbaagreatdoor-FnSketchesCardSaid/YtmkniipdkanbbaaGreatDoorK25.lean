/- Lemmas and contracts (Spc Skr); conditions: none. -/
import Derived.Test.YtmkniipdkanbbaaGreatDoorK04
import Derived.Test.YtmkniipdkanbbaaGreatDoorK17
import Derived.Test.YtmkniipdkanbbaaGreatDoorK19
import Derived.Test.YtmkniipdkanbbaaGreatDoorK21
import Derived.Test.YtmkniipdkanbbaaGreatDoorK23
set_option linter.unusedVariables false
set_option linter.unusedSimpArgs false
set_option maxRecDepth 100000
set_option maxHeartbeats 4000000
set_option cbv.maxSteps 3000000
namespace Go.Proofs.YtmkniipdkanbbaaGreatDoor.AM
/- The reference's parsers of fields and arms; conditions: none. -/
theorem fld_sz {f : Fld} (h : okF f = true) : (fldT f).size ≤ 60 := by
  have ht : ∀ x, (wordOf tinL x).size ≤ 6 := fun x => getD_sz (l := tinL) (m := 6) (by decide) _
  have hd : ∀ x, (wordOf divL x).size ≤ 11 := fun x => getD_sz (l := divL) (m := 11) (by decide) _
  have hl : ∀ x, (wordOf linL x).size ≤ 9 := fun x => getD_sz (l := linL) (m := 9) (by decide) _
  have h1 := ht f.p; have h2 := ht f.q; have h3 := hd f.d; have h4 := hl f.l
  by_cases hz : f.d = 0
  · rw [fldT_y hz]; omega
  · rw [fldT_n hz]
    unfold wlT
    split
    · simp only [ByteArray.size_append, bsz, List.length_cons, List.length_nil]; omega
    · simp only [ByteArray.size_append, bsz, List.length_cons, List.length_nil]; omega
end Go.Proofs.YtmkniipdkanbbaaGreatDoor.AM

set_option maxRecDepth 100000
set_option maxHeartbeats 4000000
set_option cbv.maxSteps 3000000
namespace Go.Proofs.YtmkniipdkanbbaaGreatDoor.AM
/- Sketches as the reference reads them: plain; conditions: none. -/
theorem slW_sz {y : Slo} (hy : okY y = true) : (slW y).size ≤ 14 := by
  rcases okY_in hy with h | rfl
  · have : allY.all (fun y => decide ((slW y).size ≤ 14)) = true := by decide +kernel
    exact of_decide_eq_true (List.all_eq_true.1 this y h)
  · decide
theorem kS_sz {k : Skt} (h : OkK k) (i : Nat) : (kS k i).size ≤ 14 := by
  rcases kS_or h i with ⟨y, hy, e⟩ | e
  · rw [e]; exact slW_sz hy
  · rw [e]; exact Nat.zero_le _
theorem kT_sz {k : Skt} (h : OkK k) : (kT k).size ≤ 240 := by
  obtain ⟨hf, _⟩ := okA_b h.a
  have ho : ∀ x, (wordOf ordL x).size ≤ 7 := fun x => getD_sz (l := ordL) (m := 7) (by decide) _
  have hl : ∀ x, (wordOf linL x).size ≤ 9 := fun x => getD_sz (l := linL) (m := 9) (by decide) _
  have hk : ∀ x, (wordOf kndL x).size ≤ 5 := fun x => getD_sz (l := kndL) (m := 5) (by decide) _
  have hc : ∀ x, (wordOf cntL x).size ≤ 5 := fun x => getD_sz (l := cntL) (m := 5) (by decide) _
  have hat : ∀ k x, (wordOf (attL k) x).size ≤ 9 := fun k x => by
    rcases attL_mem k with e | e | e | e <;> rw [e]
    · exact getD_sz (l := attL 1) (m := 9) (by decide) _
    · exact getD_sz (l := attL 2) (m := 9) (by decide) _
    · exact getD_sz (l := attL 3) (m := 9) (by decide) _
    · exact Nat.zero_le _
  have sg : ∀ g : Grp, (barT g).size ≤ 24 := fun g => by
    have a1 := hc g.c; have a2 := hk g.k; have a3 := hat g.k g.a
    have c1 : (cntT g.c g.k).size ≤ 5 := by unfold cntT; split; decide; exact a1
    have c2 : (kndT g.k g.c).size ≤ 6 := by
      unfold kndT; split
      · rw [ByteArray.size_append]; exact Nat.add_le_add (d := 1) a2 (by decide)
      · omega
    have c3 : (attT g).size ≤ 10 := by
      unfold attT; split
      · rw [ByteArray.size_append]; exact Nat.le_trans (Nat.add_le_add (b := 1) (d := 9) (by decide) a3) (by decide)
      · exact Nat.zero_le _
    unfold barT
    simp only [ByteArray.size_append, bsz, List.length_cons, List.length_nil]
    omega
  have so : (ordS k.arms.o k.arms.l).size ≤ 19 := by
    have b1 := ho k.arms.o; have b2 := hl k.arms.l
    unfold ordS wlT
    split
    · simp only [ByteArray.size_append, bsz, List.length_cons, List.length_nil]; omega
    · simp only [ByteArray.size_append, bsz, List.length_cons, List.length_nil]; omega
  have s1 := fld_sz hf
  have q0 := kS_sz h 0
  have q1 := kS_sz h (i1 k.arms)
  have q2 := kS_sz h (i2 k.arms)
  have sn := sg k.arms.n
  have sr := sg k.arms.r
  have o1 : comB.size = 2 := rfl
  have o2 : chgB.size = 14 := rfl
  have o3 : (jnO k.arms.o).size ≤ 9 := jnO_sz _
  have e0 : ByteArray.empty.size = 0 := rfl
  have t1 : (kO k).size ≤ 35 := by unfold kO; split; omega; simp only [ByteArray.size_append]; omega
  have t2 : (kN k).size ≤ 52 := by unfold kN; split; omega; simp only [ByteArray.size_append]; omega
  have t3 : (kR k).size ≤ 47 := by unfold kR; split; omega; simp only [ByteArray.size_append]; omega
  unfold kT
  simp only [ByteArray.size_append]
  omega
end Go.Proofs.YtmkniipdkanbbaaGreatDoor.AM

