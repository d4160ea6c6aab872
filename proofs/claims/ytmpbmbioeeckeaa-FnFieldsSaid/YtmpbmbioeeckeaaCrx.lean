import Derived.Test.YtmpbmbioeeckeaaAmT
import Derived.Test.YtmpbmbioeeckeaaTxt
import Derived.Test.YtmpbmbioeeckeaaShf
import Derived.Test.YtmpbmbioeeckeaaSpl
import Derived.Test.YtmpbmbioeeckeaaCre
set_option linter.unusedVariables false
set_option linter.unusedSimpArgs false
set_option maxRecDepth 100000
set_option maxHeartbeats 4000000
set_option cbv.maxSteps 3000000
namespace Go.Proofs.Ytmpbmbioeeckeaa.AM
/- Crests as texts; conditions: none. -/
/-- The text ahead of a crest's charge. -/
def crsS (r : Int) : ByteArray := (⟨⟨[111, 110, 32, 97, 32]⟩⟩ : ByteArray) ++ (wordOf hlmL r ++ ((⟨⟨[32, 104, 101, 108, 109, 101, 116, 32, 111, 102, 32]⟩⟩ : ByteArray) ++ ((if r = 1 then (⟨⟨[97, 110, 32]⟩⟩ : ByteArray) else (⟨⟨[97, 32]⟩⟩ : ByteArray)) ++ (wordOf rnkL r ++ (⟨⟨[58, 32]⟩⟩ : ByteArray)))))
def afterS (s : ByteArray) : ByteArray := ⟨(Lib.cut s.data.toList [32]).2.1.toArray⟩
def grpC (z : Crs) : Grp := ⟨1, z.k, z.a, z.t⟩
def crsT (z : Crs) : ByteArray := crsS z.r ++ afterS (grpT (grpC z))
theorem artT_sz (r : Int) : (if r = 1 then (⟨⟨[97, 110, 32]⟩⟩ : ByteArray) else (⟨⟨[97, 32]⟩⟩ : ByteArray)).size ≤ 3 := by split <;> decide
theorem crsS_sz (r : Int) : (crsS r).size ≤ 100 := by
  have h1 := hlmL_sz r; have h2 := rnkL_sz r; have h3 := artT_sz r
  unfold crsS
  simp only [ByteArray.size_append, bsz, List.length_cons, List.length_nil]
  omega
theorem okC_T {z : Crs} (h : okC z = true) : okT (grpC z) ∧ 1 ≤ z.r ∧ z.r ≤ 5 := by
  unfold okC okG attF inB at h
  simp only [Bool.and_eq_true, decide_eq_true_eq] at h
  obtain ⟨⟨⟨h1, h2, h3⟩, h4⟩, h5⟩ := h
  refine ⟨⟨h1, h2, ?_, h4⟩, h5⟩
  show z.a ≤ ((attL z.k).length : Nat)
  by_cases hk : z.k ≤ 3
  · rw [if_pos hk] at h3
    have h3 := of_decide_eq_true h3
    have : (attL z.k).length = 2 := by
      try simp only at h2
      unfold attL
      rcases (by omega : z.k = 1 ∨ z.k = 2 ∨ z.k = 3) with e | e | e <;> rw [e] <;> rfl
    omega
  · rw [if_neg hk] at h3
    have h3 := of_decide_eq_true h3
    omega
theorem afterS_at {s : ByteArray} {i : Nat} (hi : i < s.size) (h : sByte s i = 32) (hj : ∀ j, j < i → sByte s j ≠ 32) : afterS s = s.extract (i + 1) s.size := by
  have e := index_at s.data.toList i ((sByte_32 hi).1 h) (fun j q => fun e => hj j q ((sByte_32 (by omega)).2 e))
  unfold afterS Lib.cut
  rw [e, if_pos (by omega)]
  apply ByteArray.ext
  apply Array.ext'
  have : s.data.toList.length = s.size := rfl
  simp
  rw [List.take_of_length_le (by simp)]
theorem afterS_sz (s : ByteArray) : (afterS s).size ≤ s.size := by
  have : s.data.toList.length = s.size := rfl
  unfold afterS Lib.cut
  split
  · show (List.drop _ _).length ≤ _
    rw [List.length_drop]; omega
  · exact Nat.zero_le _
theorem grpT_32 (g : Grp) : (cntT g.c g.k).size < (grpT g).size ∧ sByte (grpT g) (cntT g.c g.k).size = 32 := by
  have h1 : (cntT g.c g.k).size < (grpT g).size := by
    unfold grpT
    simp only [ByteArray.size_append, bsz, List.length_cons, List.length_nil]
    omega
  refine ⟨h1, (sByte_32 h1).2 ?_⟩
  have : (cntT g.c g.k).size = (cntT g.c g.k).data.toList.length := rfl
  unfold grpT
  rw [ByteArray.toList_data_append, this, List.getElem?_append_right (Nat.le_refl _), Nat.sub_self, ByteArray.toList_data_append]
  rfl

end Go.Proofs.Ytmpbmbioeeckeaa.AM
