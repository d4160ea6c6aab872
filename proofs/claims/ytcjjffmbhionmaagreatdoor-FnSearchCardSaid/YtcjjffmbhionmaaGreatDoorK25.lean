/- Lemmas and contracts (Rks); conditions: none. -/
import Derived.Test.YtcjjffmbhionmaaGreatDoorK03
import Derived.Test.YtcjjffmbhionmaaGreatDoorK05
import Derived.Test.YtcjjffmbhionmaaGreatDoorK23
import Derived.Test.YtcjjffmbhionmaaGreatDoorK24
set_option linter.unusedVariables false
set_option linter.unusedSimpArgs false
set_option maxRecDepth 100000
set_option maxHeartbeats 4000000
set_option cbv.maxSteps 3000000
namespace Go.Proofs.YtcjjffmbhionmaaGreatDoor.AM
/- Grants ranked by the library's stable sort; conditions: none. -/
def tiF : TI := ⟨1, false, [.nilFunc], [], 0, 8, .other, false, false⟩
theorem tgoodF : TGood Tryz.prog 88 tiF := ⟨by kernel_rfl, by kernel_rfl, by kernel_rfl, by kernel_rfl, by kernel_rfl, by simp [tiF], trivial⟩
def tabK : Tab := ⟨(88, tiF) :: tabL, false, 0⟩
theorem tabOkK : TabOk Tryz.prog tabK := .cons tgoodF tabOk
theorem c_saC (g : Grt) (f : List ByteArray) (h0 : okA g.arms = true) (h1 : f.length ≤ 100000) : ConN Tryz.prog 53 [aT rowW stdH fun _ => g, .rptr [.vec 1 (stdH Nat fun _ => (f).length) (rowsS stdH fun _ => f)]] [] 0 (.lit (.int .i64 (stdH Int fun _ => (kyG f g : Nat)))) [] [] := by
  have hB : Base Tryz.prog (tabΓ [e_sharedF]) tab := base_of tabOk (ents_cons eok_sharedF <| ents_nil)
  refine con_m (N := 8) hB (draw_ok hB mixed) Tryz.func53 rfl rfl (fun H => [aT rowW H fun _ => g, .rptr [.vec 1 (H Nat fun _ => (f).length) (rowsS H fun _ => f)]]) (fun _ => []) 0 (fun H => .lit (.int .i64 (H Int fun _ => (kyG f g : Nat)))) (fun H => []) (fun _ => []) 100 (by simp) (fun x hx => ?_) (by simp [lk]) (by omega) (by simp) ?_
  · simp only [zqu] at hx
    rcases hx with rfl | rfl
    · exact aT_bl okRW _ _
    · exact (by
        refine .rptr ?_
        intro c hc
        simp only [zqu] at hc
        rcases hc with rfl
        · exact vl_bl okS f _)
  intro X hX hX0 H hH
  conv in Fin.chk _ _ => cbv
  try simp only [zqs, Plain_rowsC, Plain_rowsW, zqx, AllP, zqw, upd, if_true]
  try simp only [hetaA hH]
  subst hH
  simp only [stdH, TlS']
  (repeat' (first | exact Shp_rowsT okS _ (fun _ => _) | assumption | exact True.intro | exact Eq.refl _ | (with_reducible refine And.intro ?_ ?_)))
noncomputable def e_saC : Entry := pureE 53 fun H a => match a with
  | [.agg [.lit (.int .i64 g0), .lit (.string g1), .lit (.int .i64 g2), .lit (.int .i64 g3), .lit (.int .i64 g4), .lit (.int .i64 g5), .lit (.int .i64 g6), .lit (.int .i64 g7), .lit (.int .i64 g8), .lit (.int .i64 g9), .lit (.int .i64 g10), .lit (.int .i64 g11), .lit (.int .i64 g12), .lit (.int .i64 g13), .lit (.int .i64 g14), .lit (.int .i64 g15), .lit (.int .i64 g16), .lit (.int .i64 g17)], .rptr [.vec 1 fn ff]] => some (.lit (.int .i64 (H Int fun _ => (kyG (Tl rowS fn ff) (⟨g0, g1, g2, ⟨⟨g3, g4, g5, g6⟩, g7, g8, g9, ⟨g10, g11, g12, g13⟩, ⟨g14, g15, g16, g17⟩⟩⟩ : Grt) : Nat))), [H Prop fun _ => Shp rowS fn ff, H Prop fun _ => okA (⟨g0, g1, g2, ⟨⟨g3, g4, g5, g6⟩, g7, g8, g9, ⟨g10, g11, g12, g13⟩, ⟨g14, g15, g16, g17⟩⟩⟩ : Grt).arms = true, H Prop fun _ => (Tl rowS fn ff).length ≤ 100000])
  | _ => none
theorem eok_saC : EntryOk Tryz.prog e_saC := pureM_ok (by unfold isBody; kernel_rfl) (by
  intro a r ob e hob
  split at e
  · rename_i g0 g1 g2 g3 g4 g5 g6 g7 g8 g9 g10 g11 g12 g13 g14 g15 g16 g17 fn ff
    simp only [zqt] at e
    obtain ⟨rfl, rfl⟩ := e
    exact ConN.args (.cons .rfl (.cons (.rptr (.cons (.toT okS rfl hob.1) .nil)) .nil)) (c_saC (⟨g0, g1, g2, ⟨⟨g3, g4, g5, g6⟩, g7, g8, g9, ⟨g10, g11, g12, g13⟩, ⟨g14, g15, g16, g17⟩⟩⟩ : Grt) (Tl rowS fn ff) hob.2.1 hob.2.2.1)
  · simp at e)
def kyD (f : List ByteArray) (a b : Grt) : Int := IntKind.i64.wrap (((kyG f b : Nat) : Int) - ((kyG f a : Nat) : Int))
theorem kyD_lt {f : List ByteArray} {a b : Grt} (h : f.length ≤ 100000) : decide (kyD f a b < 0) = gtK (kyG f) a b := by
  have h1 := kyG_le f a
  have h2 := kyG_le f b
  unfold kyD gtK
  rw [wi (by omega) (by omega), decide_eq_decide]
  omega
theorem c_raC (a : Grt) (b : Grt) (k0 : List ByteArray) (h0 : okA a.arms = true) (h1 : okA b.arms = true) (h2 : k0.length ≤ 100000) : ConN Tryz.prog 98 [aT rowW stdH fun _ => a, aT rowW stdH fun _ => b, .rptr [.fn (.func 53) [] [.rptr [.vec 1 (stdH Nat fun _ => (k0).length) (rowsS stdH fun _ => k0)]]]] [] 0 (.lit (.int .i64 (stdH Int fun _ => kyD k0 a b))) [] [] := by
  have hB : Base Tryz.prog (tabΓ [e_saC]) tabK := base_of tabOkK (ents_cons eok_saC <| ents_nil)
  refine con_m (N := 13) hB (draw_ok hB mixed) Tryz.func98 rfl rfl (fun H => [aT rowW H fun _ => a, aT rowW H fun _ => b, .rptr [.fn (.func 53) [] [.rptr [.vec 1 (H Nat fun _ => (k0).length) (rowsS H fun _ => k0)]]]]) (fun _ => []) 0 (fun H => .lit (.int .i64 (H Int fun _ => kyD k0 a b))) (fun H => []) (fun _ => []) 100 (by simp) (fun x hx => ?_) (by simp [lk]) (by omega) (by simp) ?_
  · simp only [zqu] at hx
    rcases hx with rfl | rfl | rfl
    · exact aT_bl okRW _ _
    · exact aT_bl okRW _ _
    · exact (by
        refine .rptr ?_
        intro c hc
        simp only [zqu] at hc
        rcases hc with rfl
        · exact (by
        refine .fn (fun c hc => by cases hc) ?_
        intro c hc
        simp only [zqu] at hc
        rcases hc with rfl
        · exact (by
        refine .rptr ?_
        intro c hc
        simp only [zqu] at hc
        rcases hc with rfl
        · exact vl_bl okS k0 _)))
  intro X hX hX0 H hH
  conv in Fin.chk _ _ => cbv
  try simp only [zqs, Plain_rowsC, Plain_rowsW, zqx, AllP, zqw, upd, if_true]
  try simp only [hetaA hH]
  subst hH
  simp only [stdH, TlS']
  (repeat' (first | exact Shp_rowsT okS _ (fun _ => _) | assumption | exact True.intro | exact Eq.refl _ | (with_reducible refine And.intro ?_ ?_)))
noncomputable def e_raC : Entry := pureE 98 fun H a => match a with
  | [.agg [.lit (.int .i64 a0), .lit (.string a1), .lit (.int .i64 a2), .lit (.int .i64 a3), .lit (.int .i64 a4), .lit (.int .i64 a5), .lit (.int .i64 a6), .lit (.int .i64 a7), .lit (.int .i64 a8), .lit (.int .i64 a9), .lit (.int .i64 a10), .lit (.int .i64 a11), .lit (.int .i64 a12), .lit (.int .i64 a13), .lit (.int .i64 a14), .lit (.int .i64 a15), .lit (.int .i64 a16), .lit (.int .i64 a17)], .agg [.lit (.int .i64 b0), .lit (.string b1), .lit (.int .i64 b2), .lit (.int .i64 b3), .lit (.int .i64 b4), .lit (.int .i64 b5), .lit (.int .i64 b6), .lit (.int .i64 b7), .lit (.int .i64 b8), .lit (.int .i64 b9), .lit (.int .i64 b10), .lit (.int .i64 b11), .lit (.int .i64 b12), .lit (.int .i64 b13), .lit (.int .i64 b14), .lit (.int .i64 b15), .lit (.int .i64 b16), .lit (.int .i64 b17)], .rptr [.fn (.func 53) [] [.rptr [.vec 1 k0n k0f]]]] => some (.lit (.int .i64 (H Int fun _ => kyD (Tl rowS k0n k0f) (⟨a0, a1, a2, ⟨⟨a3, a4, a5, a6⟩, a7, a8, a9, ⟨a10, a11, a12, a13⟩, ⟨a14, a15, a16, a17⟩⟩⟩ : Grt) (⟨b0, b1, b2, ⟨⟨b3, b4, b5, b6⟩, b7, b8, b9, ⟨b10, b11, b12, b13⟩, ⟨b14, b15, b16, b17⟩⟩⟩ : Grt))), [H Prop fun _ => Shp rowS k0n k0f, H Prop fun _ => okA (⟨a0, a1, a2, ⟨⟨a3, a4, a5, a6⟩, a7, a8, a9, ⟨a10, a11, a12, a13⟩, ⟨a14, a15, a16, a17⟩⟩⟩ : Grt).arms = true, H Prop fun _ => okA (⟨b0, b1, b2, ⟨⟨b3, b4, b5, b6⟩, b7, b8, b9, ⟨b10, b11, b12, b13⟩, ⟨b14, b15, b16, b17⟩⟩⟩ : Grt).arms = true, H Prop fun _ => (Tl rowS k0n k0f).length ≤ 100000])
  | _ => none
theorem eok_raC : EntryOk Tryz.prog e_raC := pureM_ok (by unfold isBody; kernel_rfl) (by
  intro a r ob e hob
  split at e
  · rename_i a0 a1 a2 a3 a4 a5 a6 a7 a8 a9 a10 a11 a12 a13 a14 a15 a16 a17 b0 b1 b2 b3 b4 b5 b6 b7 b8 b9 b10 b11 b12 b13 b14 b15 b16 b17 k0n k0f
    simp only [zqt] at e
    obtain ⟨rfl, rfl⟩ := e
    exact ConN.args (.cons .rfl (.cons .rfl (.cons (.rptr (.cons (.fn .nil (.cons (.rptr (.cons (.toT okS rfl hob.1) .nil)) .nil)) .nil)) .nil))) (c_raC (⟨a0, a1, a2, ⟨⟨a3, a4, a5, a6⟩, a7, a8, a9, ⟨a10, a11, a12, a13⟩, ⟨a14, a15, a16, a17⟩⟩⟩ : Grt) (⟨b0, b1, b2, ⟨⟨b3, b4, b5, b6⟩, b7, b8, b9, ⟨b10, b11, b12, b13⟩, ⟨b14, b15, b16, b17⟩⟩⟩ : Grt) (Tl rowS k0n k0f) hob.2.1 hob.2.2.1 hob.2.2.2.1)
  · simp at e)
def okGA (g : Grt) : Prop := okA g.arms = true
theorem obW {f : List ByteArray} {j : Nat} {m : List Grt} {w : Int} (hv : ∀ q, q < m.length → okGA (m.getD q default)) (hj : j < m.length) (q0 : 0 < j → w = ((j - 1 : Nat) : Int)) (hf : f.length ≤ 100000) : (decide (0 < (j : Int)) = true → Shp rowS f.length (rowsS stdH fun _ => f)) ∧ (decide (0 < (j : Int)) = true → okA (m.getD (j : Int).toNat default).arms = true) ∧ (decide (0 < (j : Int)) = true → okA (m.getD w.toNat default).arms = true) ∧ (decide (0 < (j : Int)) = true → f.length ≤ 100000) := by
  have e : decide (0 < (j : Int)) = true → 0 < j := fun h => by simpa using h
  refine ⟨fun _ => Shp_S _ _, fun h => ?_, fun h => ?_, fun _ => hf⟩
  · rw [Int.toNat_natCast]
    exact hv j hj
  · rw [q0 (e h), Int.toNat_natCast]
    exact hv (j - 1) (by omega)
theorem c_isortW (l : List Grt) (a : Int) (b : Int) (cmp00 : List ByteArray) (h0 : l.length ≤ 2000000) (h1 : b = l.length) (h2 : a = 0 ∨ a = l.length) (h3 : ∀ x ∈ l, okGA x) (h4 : cmp00.length ≤ 100000) : ConN Tryz.prog 138 [.slc 0 0 18 (stdH Nat fun _ => l.length), .lit (.int .i64 a), .lit (.int .i64 b), .fn (.func 98) [] [.rptr [.fn (.func 53) [] [.rptr [.vec 1 (stdH Nat fun _ => (cmp00).length) (rowsS stdH fun _ => cmp00)]]]]] [(0, .rows 18 (stdH Nat fun _ => l.length) (rowsW stdH fun _ => l) 72)] 1 (.tup []) [] [(0, .rows 18 (stdH Nat fun _ => l.length) (rowsW stdH fun _ => if a = 0 then isr (gtK (kyG cmp00)) default l (l.length - 1) else l) 72)] := by
  have hB : Base Tryz.prog (tabΓ [e_raC]) tab := base_of tabOk (ents_cons eok_raC <| ents_nil)
  refine con_m (N := 53) hB (draw_ok hB mixed) Tryz.func138 rfl rfl (fun H => [.slc 0 0 18 (H Nat fun _ => l.length), .lit (.int .i64 a), .lit (.int .i64 b), .fn (.func 98) [] [.rptr [.fn (.func 53) [] [.rptr [.vec 1 (H Nat fun _ => (cmp00).length) (rowsS H fun _ => cmp00)]]]]]) (fun H => [(0, .rows 18 (H Nat fun _ => l.length) (rowsW H fun _ => l) 72)]) 1 (fun H => .tup []) (fun H => []) (fun H => [(0, .rows 18 (H Nat fun _ => l.length) (rowsW H fun _ => if a = 0 then isr (gtK (kyG cmp00)) default l (l.length - 1) else l) 72)]) 300 (by simp) (fun x hx => ?_) (fun i b hi => ?_) (fun i hi => ?_) (fun i b hi => ?_) ?_
  · simp only [zqu] at hx
    rcases hx with rfl | rfl | rfl | rfl
    · exact .slc (by omega)
    · exact .lit
    · exact .lit
    · exact (by
        refine .fn (fun c hc => by cases hc) ?_
        intro c hc
        simp only [zqu] at hc
        rcases hc with rfl
        · exact (by
        refine .rptr ?_
        intro c hc
        simp only [zqu] at hc
        rcases hc with rfl
        · exact (by
        refine .fn (fun c hc => by cases hc) ?_
        intro c hc
        simp only [zqu] at hc
        rcases hc with rfl
        · exact (by
        refine .rptr ?_
        intro c hc
        simp only [zqu] at hc
        rcases hc with rfl
        · exact vl_bl okS cmp00 _))))
  · have := lk_in hi
    simp only [zqu, Prod.mk.injEq] at this
    obtain ⟨rfl, rfl⟩ := this
    exact ⟨by omega, bT_bl okRW _ (fun _ => l) _, _, List.mem_cons_self⟩
  · obtain rfl : i = 0 := by omega
    exact ⟨_, rfl⟩
  · simp only [zqu, Prod.mk.injEq] at hi
    obtain ⟨rfl, rfl⟩ := hi
    exact ⟨_, rfl⟩
  intro X hX hX0 H hH
  conv in Fin.chk _ _ => cbv
  try simp only [zqs, Plain_rowsC, Plain_rowsW, zqx, AllP, zqw, upd, if_true]
  rcases h2 with rfl | h2
  · rw [if_pos rfl]
    refine loop_a hB (draw_ok hB mixed) hX hX0 hH false (ι := { i : Nat // i ≤ l.length - 1 }) 300 (fun i => [.r (H Nat fun _ => (isr (gtK (kyG cmp00)) default l i.1).length) (rowsW H fun _ => isr (gtK (kyG cmp00)) default l i.1), .i (H Int fun _ => ((i.1 : Nat) : Int) + 1)]) (fun i => l.length - i.1) (⟨0, by omega⟩) ?_ ?_
    · (conv in matchSt _ _ _ _ => cbv); simp only [AllG, AllP, and_true, hH, stdH, zql, ncast, zqe, zqy]
      (repeat' (first | with_reducible exact True.intro | rfl | exact Nat.le_refl _ | exact RowsEq.self okRW | exact RowsEq.ofT okRW rfl (Shp_zero _) rfl | exact RowsEq.snoc okRW rfl | exact RowsEq.self okS | exact RowsEq.ofT okS rfl (Shp_zero _) rfl | exact RowsEq.snoc okS rfl | exact RowsEq.more okS (Shp_S _ _) (Tl_S _) | exact RowsEq.self okI | exact RowsEq.ofT okI rfl (Shp_zero _) rfl | exact RowsEq.snoc okI rfl | exact RowsEq.more okI (Shp_I _ _) (Tl_I _) | exact RowsEq.self okI | exact RowsEq.self okRA | exact List.length_append | refine And.intro ?_ ?_ | trivial))
    · intro I hI i
      conv in Fin.chk _ _ => cbv
      try simp only [zqs, Plain_rowsC, Plain_rowsW, zqx, AllP, zqw, upd, if_true]
      obtain ⟨i, hi⟩ := i
      have hl := isr_len (gtK (kyG cmp00)) default l i
      refine ⟨fun k1 => ?_, fun k1 => ?_⟩
      · simp only [hH, stdH, zqz, ne_eq, zqy] at k1
        refine loop_a hB (draw_ok hB mixed) hX hX0 hH true (ι := { p : Nat × List _ // p.1 ≤ i + 1 ∧ p.2.length = l.length ∧ bub (gtK (kyG cmp00)) default p.1 p.2 = isr (gtK (kyG cmp00)) default l (i + 1) ∧ ∀ x ∈ p.2, okGA x }) 300 (fun p => [.r (H Nat fun _ => (p.1.2).length) (rowsW H fun _ => p.1.2), .i (H Int fun _ => (p.1.1 : Nat))]) (fun p => p.1.1) (⟨(i + 1, isr (gtK (kyG cmp00)) default l i), Nat.le_refl _, hl, rfl, fun x hx => h3 x (isr_mem (by omega) hx)⟩) ?_ ?_
        · (conv in matchSt _ _ _ _ => cbv); simp only [AllG, AllP, and_true, hH, stdH, zql, ncast, zqe, zqy]
          (repeat' (first | with_reducible exact True.intro | rfl | exact Nat.le_refl _ | exact RowsEq.self okRW | exact RowsEq.ofT okRW rfl (Shp_zero _) rfl | exact RowsEq.snoc okRW rfl | exact RowsEq.self okS | exact RowsEq.ofT okS rfl (Shp_zero _) rfl | exact RowsEq.snoc okS rfl | exact RowsEq.more okS (Shp_S _ _) (Tl_S _) | exact RowsEq.self okI | exact RowsEq.ofT okI rfl (Shp_zero _) rfl | exact RowsEq.snoc okI rfl | exact RowsEq.more okI (Shp_I _ _) (Tl_I _) | exact RowsEq.self okI | exact RowsEq.self okRA | exact List.length_append | refine And.intro ?_ ?_ | trivial))
        · intro J hJ p
          conv in Fin.chk _ _ => cbv
          try simp only [zqs, Plain_rowsC, Plain_rowsW, zqx, AllP, zqw, upd, if_true]
          obtain ⟨⟨j, m⟩, hj, hm, hbu, hmem⟩ := p
          dsimp only at hj hm hbu hmem
          have q0 : 0 < j → IntKind.i64.wrap ((j : Int) - 1) = ((j - 1 : Nat) : Int) := fun h => wsub h (by omega)
          have hv : ∀ q, q < m.length → okGA (m.getD q default) := fun q hq => hmem _ (getDm hq)
          refine ⟨?_, ?_, ?_, ?_, ?_, fun h2 => ?_, fun h2 => ?_⟩
          · try simp only [hH, stdH, zqz, ne_eq, zqy]
            omega
          · try simp only [hH, stdH, zqz, ne_eq, zqy]
            intro _
            exact ⟨by omega, rfl⟩
          · try simp only [hH, stdH, zqz, ne_eq, zqy]
            intro h
            rw [q0 (by omega)]
            omega
          · try simp only [hH, stdH, zqz, ne_eq, zqy]
            intro h
            rw [q0 (by omega)]
            exact ⟨by omega, rfl⟩
          · (subst hH; simp only [stdH, TlS']; exact obW (f := cmp00) hv (by omega) q0 h4)
          · have h3 : 0 < j ∧ (gtK (kyG cmp00)) (m.getD j default) (m.getD (j - 1) default) = true := by
              simp only [hH, stdH, zqz, ne_eq, zqy] at h2
              cases hj0 : decide (0 < (j : Int)) <;> simp only [hj0, cond_true, cond_false] at h2
              · cases h2
              · rw [decide_eq_true_eq] at hj0
                rw [q0 (by omega)] at h2
                refine ⟨by omega, ?_⟩
                (simp only [TlS', Int.toNat_natCast] at h2; exact (kyD_lt h4).symm.trans h2)
            obtain ⟨k, rfl⟩ : ∃ k, j = k + 1 := ⟨j - 1, by omega⟩
            have e1 := q0 h3.1
            rw [Nat.add_sub_cancel] at e1 h3
            have hb2 := bub_yes (lt := (gtK (kyG cmp00))) (d := default) (j := k) (l := m) h3.2
            refine ⟨?_, ?_, ?_, ?_, ?_, ?_, ?_, ?_, ⟨(k, swp default m (k + 1)), by dsimp only; omega, (swp_len _ _ _).trans hm, hb2.symm.trans hbu, fun x hx => hmem x (swp_mem (by omega) hx)⟩, Nat.lt_succ_self _, ?_⟩
            · try simp only [hH, stdH, zqz, ne_eq, zqy]
              rw [e1]
              omega
            · try simp only [hH, stdH, zqz, ne_eq, zqy]
              rw [e1]
              exact ⟨by omega, rfl⟩
            · try simp only [hH, stdH, zqz, ne_eq, zqy]
              omega
            · try simp only [hH, stdH, zqz, ne_eq, zqy]
              exact ⟨by omega, rfl⟩
            · try simp only [hH, stdH, zqz, ne_eq, zqy]
              omega
            · try simp only [hH, stdH, zqz, ne_eq, zqy]
              exact ⟨by omega, rfl⟩
            · try simp only [hH, stdH, zqz, ne_eq, zqy]
              rw [e1]
              omega
            · try simp only [hH, stdH, zqz, ne_eq, zqy]
              rw [e1]
              refine ⟨by omega, ?_⟩
              unfold put1
              cases Nat.beq (Int.toNat k) (k + 1) <;> rfl
            · rw [hJ]
              (conv in matchSt _ _ _ _ => cbv); simp only [AllG, AllP, and_true, hH, stdH, zql, ncast, zqe, zqy]
              rw [e1]
              simp only [Int.toNat_natCast]
              (repeat' (first | with_reducible exact True.intro | exact RowsEq.ofT okRW rfl (Shp_put1 (Shp_put1 (Shp_W _ _) rfl) rfl) (by rw [Tl_put1, Tl_put1, Tl_W]; rfl) | exact RowsEq.self okRW | exact RowsEq.self okS | exact RowsEq.self okI | refine And.intro ?_ ?_ | trivial))
          · have h3 : 0 < j → (gtK (kyG cmp00)) (m.getD j default) (m.getD (j - 1) default) = false := fun hj0 => by
              simp only [hH, stdH, zqz, ne_eq, zqy] at h2
              rw [decide_eq_true (show 0 < (j : Int) by omega), cond_true, q0 hj0] at h2
              (simp only [TlS', Int.toNat_natCast] at h2; exact (kyD_lt h4).symm.trans h2)
            have e2 : isr (gtK (kyG cmp00)) default l (i + 1) = m := by
              rw [← hbu]
              cases j with
              | zero => rfl
              | succ k => exact bub_no (by have := h3 (by omega); rw [Nat.add_sub_cancel] at this; exact this)
            rw [if_neg (by decide)]
            refine ⟨⟨i + 1, by omega⟩, by simp only; omega, ?_⟩
            rw [hI]
            (conv in matchSt _ _ _ _ => cbv); simp only [AllG, AllP, and_true, hH, stdH, zql, ncast, zqe, zqy]
            rw [e2]
            (repeat' (first | with_reducible exact True.intro | exact RowsEq.self okRW | exact RowsEq.self okS | exact RowsEq.self okI | (rw [wi] <;> omega) | refine And.intro ?_ ?_ | trivial))
      · simp only [hH, stdH, zqz, ne_eq, zqy] at k1 ⊢
        obtain rfl : i = l.length - 1 := by omega
        rw [hl]
        have := RowsEq.self okRW (L := isr (gtK (kyG cmp00)) default l (l.length - 1))
        rw [hl] at this
        exact this
  · refine loop_a hB (draw_ok hB mixed) hX hX0 hH false (ι := Unit) 300 (fun _ => [.r (H Nat fun _ => (l).length) (rowsW H fun _ => l), .i (H Int fun _ => a + 1)]) (fun _ => 0) (()) ?_ ?_
    · (conv in matchSt _ _ _ _ => cbv); simp only [AllG, AllP, and_true, hH, stdH, zql, ncast, zqe, zqy]
      (repeat' (first | with_reducible exact True.intro | rfl | exact Nat.le_refl _ | exact RowsEq.self okRW | exact RowsEq.ofT okRW rfl (Shp_zero _) rfl | exact RowsEq.snoc okRW rfl | exact RowsEq.self okS | exact RowsEq.ofT okS rfl (Shp_zero _) rfl | exact RowsEq.snoc okS rfl | exact RowsEq.more okS (Shp_S _ _) (Tl_S _) | exact RowsEq.self okI | exact RowsEq.self okRA | exact List.length_append | refine And.intro ?_ ?_ | trivial))
      all_goals (rw [h2, wi] <;> omega)
    · intro I hI i
      conv in Fin.chk _ _ => cbv
      try simp only [zqs, Plain_rowsC, Plain_rowsW, zqx, AllP, zqw, upd, if_true]
      refine ⟨fun k1 => ?_, fun k1 => ?_⟩
      · exfalso
        simp only [hH, stdH, zqz, ne_eq, zqy] at k1
        omega
      · try simp only [hH, stdH, zqz, ne_eq, zqy]
        by_cases ha : a = 0
        · have h0 : l.length = 0 := by omega
          have : l = [] := List.eq_nil_of_length_eq_zero h0
          subst this
          rw [if_pos ha]
          exact .self okRW
        · rw [if_neg ha]
          exact .self okRW
noncomputable def e_isortW : Entry := modE 138 18 72 fun H n g a => match a with
  | [.lit (.int .i64 a), .lit (.int .i64 b), .fn (.func 98) [] [.rptr [.fn (.func 53) [] [.rptr [.vec 1 cmp00n cmp00f]]]]] => some (.tup [], rowsW H fun _ => if a = 0 then isr (gtK (kyG (Tl rowS cmp00n cmp00f))) default (Tl rowW n g) ((Tl rowW n g).length - 1) else (Tl rowW n g), [H Prop fun _ => Shp rowW n g, H Prop fun _ => Shp rowS cmp00n cmp00f, H Prop fun _ => (Tl rowW n g).length ≤ 2000000, H Prop fun _ => b = (Tl rowW n g).length, H Prop fun _ => a = 0 ∨ a = (Tl rowW n g).length, H Prop fun _ => ∀ x ∈ (Tl rowW n g), okGA x, H Prop fun _ => (Tl rowS cmp00n cmp00f).length ≤ 100000])
  | _ => none
theorem eok_isortW : EntryOk Tryz.prog e_isortW := modE_ok (by unfold isBody; kernel_rfl) (by
  intro n g a r g' ob e hob
  split at e
  · rename_i a b cmp00n cmp00f
    simp only [zqt] at e
    obtain ⟨rfl, rfl, rfl⟩ := e
    have hs := hob.1
    have hl : (Tl rowW n g).length = n := Tl_len n g
    refine ⟨rowsW stdH fun _ => Tl rowW n g, fun j hj => ⟨?_, ?_⟩, ?_, fun x hx => ?_, ?_, fun j hj => ?_⟩
    · rw [hs.row j hj]; exact ((okRW).row (fun _ => Tl rowW n g) j).trans (by rw [Tl_getD hj])
    · exact rows_blx okRW _ j
    · have := c_isortW (Tl rowW n g) a b (Tl rowS cmp00n cmp00f) hob.2.2.1 hob.2.2.2.1 hob.2.2.2.2.1 hob.2.2.2.2.2.1 hob.2.2.2.2.2.2.1
      simp only [stdH, hl] at this ⊢
      exact ConN.args (.cons .rfl (.cons .rfl (.cons .rfl (.cons (.fn .nil (.cons (.rptr (.cons (.fn .nil (.cons (.rptr (.cons (.toT okS rfl hob.2.1) .nil)) .nil)) .nil)) .nil)) .nil)))) this
    · simp only [zqu] at hx
      rcases hx with rfl | rfl | rfl
      · exact .lit
      · exact .lit
      · exact (by
        refine .fn (fun c hc => by cases hc) ?_
        intro c hc
        simp only [zqu] at hc
        rcases hc with rfl
        · exact (by
        refine .rptr ?_
        intro c hc
        simp only [zqu] at hc
        rcases hc with rfl
        · exact (by
        refine .fn (fun c hc => by cases hc) ?_
        intro c hc
        simp only [zqu] at hc
        rcases hc with rfl
        · exact (by
        refine .rptr ?_
        intro c hc
        simp only [zqu] at hc
        rcases hc with rfl
        · exact (hob.2.1).bl okS _))))
    · first | exact .lit | exact .tup fun x h => (by cases h)
    · exact rows_blx okRW _ j
  · simp at e)
theorem c_stabW (l : List Grt) (z : Int) (cmp00 : List ByteArray) (h0 : l.length ≤ 20) (h1 : z = l.length) (h2 : ∀ x ∈ l, okGA x) (h3 : cmp00.length ≤ 100000) : ConN Tryz.prog 119 [.slc 0 0 18 (stdH Nat fun _ => l.length), .lit (.int .i64 z), .fn (.func 98) [] [.rptr [.fn (.func 53) [] [.rptr [.vec 1 (stdH Nat fun _ => (cmp00).length) (rowsS stdH fun _ => cmp00)]]]]] [(0, .rows 18 (stdH Nat fun _ => l.length) (rowsW stdH fun _ => l) 72)] 1 (.tup []) [] [(0, .rows 18 (stdH Nat fun _ => l.length) (rowsW stdH fun _ => isr (gtK (kyG cmp00)) default l (l.length - 1)) 72)] := by
  have hB : Base Tryz.prog (tabΓ [e_isortW]) tab := base_of tabOk (ents_cons eok_isortW <| ents_nil)
  refine con_m (N := 63) hB (draw_ok hB mixed) Tryz.func119 rfl rfl (fun H => [.slc 0 0 18 (H Nat fun _ => l.length), .lit (.int .i64 z), .fn (.func 98) [] [.rptr [.fn (.func 53) [] [.rptr [.vec 1 (H Nat fun _ => (cmp00).length) (rowsS H fun _ => cmp00)]]]]]) (fun H => [(0, .rows 18 (H Nat fun _ => l.length) (rowsW H fun _ => l) 72)]) 1 (fun H => .tup []) (fun H => []) (fun H => [(0, .rows 18 (H Nat fun _ => l.length) (rowsW H fun _ => isr (gtK (kyG cmp00)) default l (l.length - 1)) 72)]) 300 (by simp) (fun x hx => ?_) (fun i b hi => ?_) (fun i hi => ?_) (fun i b hi => ?_) ?_
  · simp only [zqu] at hx
    rcases hx with rfl | rfl | rfl
    · exact .slc (by omega)
    · exact .lit
    · exact (by
        refine .fn (fun c hc => by cases hc) ?_
        intro c hc
        simp only [zqu] at hc
        rcases hc with rfl
        · exact (by
        refine .rptr ?_
        intro c hc
        simp only [zqu] at hc
        rcases hc with rfl
        · exact (by
        refine .fn (fun c hc => by cases hc) ?_
        intro c hc
        simp only [zqu] at hc
        rcases hc with rfl
        · exact (by
        refine .rptr ?_
        intro c hc
        simp only [zqu] at hc
        rcases hc with rfl
        · exact vl_bl okS cmp00 _))))
  · have := lk_in hi
    simp only [zqu, Prod.mk.injEq] at this
    obtain ⟨rfl, rfl⟩ := this
    exact ⟨by omega, bT_bl okRW _ (fun _ => l) _, _, List.mem_cons_self⟩
  · obtain rfl : i = 0 := by omega
    exact ⟨_, rfl⟩
  · simp only [zqu, Prod.mk.injEq] at hi
    obtain ⟨rfl, rfl⟩ := hi
    exact ⟨_, rfl⟩
  intro X hX hX0 H hH
  conv in Fin.chk _ _ => cbv
  try simp only [zqs, Plain_rowsC, Plain_rowsW, zqx, AllP, zqw, upd, if_true]
  have hT : Tl rowW l.length (rowsW stdH fun _ => isr (gtK (kyG cmp00)) default l (l.length - 1)) = isr (gtK (kyG cmp00)) default l (l.length - 1) := by
    have := Tl_W (isr (gtK (kyG cmp00)) default l (l.length - 1))
    rw [isr_len] at this
    exact this
  refine loop_a hB (draw_ok hB mixed) hX hX0 hH false (ι := { p : Bool // p = true → l.length = 20 }) 300 (fun p => [.r (H Nat fun _ => (if p.1 = true then isr (gtK (kyG cmp00)) default l (l.length - 1) else l).length) (rowsW H fun _ => if p.1 = true then isr (gtK (kyG cmp00)) default l (l.length - 1) else l), .i (H Int fun _ => if p.1 = true then 20 else 0), .i (H Int fun _ => if p.1 = true then 40 else 20)]) (fun p => if p.1 = true then 0 else 1) (⟨false, by simp⟩) ?_ ?_
  · (conv in matchSt _ _ _ _ => cbv); simp only [AllG, AllP, and_true, hH, stdH, zql, ncast, zqe, zqy]
    (repeat' (first | with_reducible exact True.intro | rfl | exact Nat.le_refl _ | exact RowsEq.self okRW | exact RowsEq.ofT okRW rfl (Shp_zero _) rfl | exact RowsEq.snoc okRW rfl | exact RowsEq.self okS | exact RowsEq.ofT okS rfl (Shp_zero _) rfl | exact RowsEq.snoc okS rfl | exact RowsEq.more okS (Shp_S _ _) (Tl_S _) | exact RowsEq.self okI | exact RowsEq.self okRA | exact List.length_append | refine And.intro ?_ ?_ | trivial))
  · intro I hI p
    conv in Fin.chk _ _ => cbv
    try simp only [zqs, Plain_rowsC, Plain_rowsW, zqx, AllP, zqw, upd, if_true]
    obtain ⟨p, hp⟩ := p
    cases p with
    | false =>
      refine ⟨fun k1 => ⟨?_, ⟨true, ?_⟩, by simp, ?_⟩, fun k1 => ⟨?_, ?_⟩⟩
      · simp only [hH, stdH, Bool.false_eq_true, if_false, Tl_W, TlS', decide_eq_true_eq] at k1 ⊢
        refine ⟨trivial, Shp_W _ _, Shp_rowsT okS _ (fun _ => _), by omega, by omega, .inl trivial, h2, h3⟩
      · intro _
        simp only [hH, stdH, Bool.false_eq_true, if_false, decide_eq_true_eq] at k1
        omega
      · rw [hI]
        (conv in matchSt _ _ _ _ => cbv); simp only [AllG, AllP, and_true, hH, stdH, zql, ncast, zqe, zqy]
        have := RowsEq.self okRW (L := isr (gtK (kyG cmp00)) default l (l.length - 1))
        simp only [Bool.false_eq_true, if_false, if_true, Tl_W, TlS', isr_len] at this ⊢
        (repeat' (first | with_reducible exact True.intro | exact this | exact RowsEq.self okS | rfl | refine And.intro ?_ ?_ | trivial))
      · simp only [hH, stdH, Bool.false_eq_true, if_false, Tl_W, TlS', decide_eq_false_iff_not] at k1 ⊢
        refine ⟨trivial, Shp_W _ _, Shp_rowsT okS _ (fun _ => _), by omega, h1, .inl trivial, h2, h3⟩
      · refine loop_a hB (draw_ok hB mixed) hX hX0 hH false (ι := Unit) 300 (fun _ => [.r (H Nat fun _ => (isr (gtK (kyG cmp00)) default l (l.length - 1)).length) (rowsW H fun _ => isr (gtK (kyG cmp00)) default l (l.length - 1)), .i (H Int fun _ => 20), .i (H Int fun _ => if false = true then 20 else 0), .i (H Int fun _ => if false = true then 40 else 20)]) (fun _ => 0) (()) ?_ ?_
        · (conv in matchSt _ _ _ _ => cbv); simp only [AllG, AllP, and_true, hH, stdH, zql, ncast, zqe, zqy]
          have := RowsEq.self okRW (L := isr (gtK (kyG cmp00)) default l (l.length - 1))
          simp only [Bool.false_eq_true, if_false, if_true, Tl_W, Tl_S, isr_len] at this ⊢
          (repeat' (first | with_reducible exact True.intro | exact this | exact RowsEq.self okS | rfl | refine And.intro ?_ ?_ | trivial))
        · intro J hJ u
          conv in Fin.chk _ _ => cbv
          try simp only [zqs, Plain_rowsC, Plain_rowsW, zqx, AllP, zqw, upd, if_true]
          refine ⟨fun k2 => ?_, fun k2 => ?_⟩
          · exfalso
            simp only [hH, stdH, zqz, ne_eq, zqy] at k2
            omega
          · have := RowsEq.self okRW (L := isr (gtK (kyG cmp00)) default l (l.length - 1))
            simp only [hH, stdH, isr_len] at this ⊢
            exact this
    | true =>
      have h20 := hp rfl
      refine ⟨fun k1 => ?_, fun k1 => ⟨?_, ?_⟩⟩
      · exfalso
        simp only [hH, stdH, if_true, decide_eq_true_eq] at k1
        omega
      · simp only [hH, stdH, if_true, TlS'] at k1 ⊢
        rw [hT, isr_len]
        exact ⟨rfl, Shp_W _ _, Shp_rowsT okS _ (fun _ => _), by omega, h1, .inr (by omega), fun x hx => h2 x (isr_mem (by omega) hx), h3⟩
      · refine loop_a hB (draw_ok hB mixed) hX hX0 hH false (ι := Unit) 300 (fun _ => [.r (H Nat fun _ => (isr (gtK (kyG cmp00)) default l (l.length - 1)).length) (rowsW H fun _ => isr (gtK (kyG cmp00)) default l (l.length - 1)), .i (H Int fun _ => 20), .i (H Int fun _ => if true = true then 20 else 0), .i (H Int fun _ => if true = true then 40 else 20)]) (fun _ => 0) (()) ?_ ?_
        · (conv in matchSt _ _ _ _ => cbv); simp only [AllG, AllP, and_true, hH, stdH, zql, ncast, zqe, zqy]
          have := RowsEq.self okRW (L := isr (gtK (kyG cmp00)) default l (l.length - 1))
          simp only [Bool.false_eq_true, if_false, if_true, Tl_W, Tl_S, isr_len] at this ⊢
          (rw [if_neg (by decide), hT]; (repeat' (first | with_reducible exact True.intro | exact this | exact RowsEq.self okS | rfl | refine And.intro ?_ ?_ | trivial)))
        · intro J hJ u
          conv in Fin.chk _ _ => cbv
          try simp only [zqs, Plain_rowsC, Plain_rowsW, zqx, AllP, zqw, upd, if_true]
          refine ⟨fun k2 => ?_, fun k2 => ?_⟩
          · exfalso
            simp only [hH, stdH, zqz, ne_eq, zqy] at k2
            omega
          · have := RowsEq.self okRW (L := isr (gtK (kyG cmp00)) default l (l.length - 1))
            simp only [hH, stdH, isr_len] at this ⊢
            exact this
noncomputable def e_stabW : Entry := modE 119 18 72 fun H n g a => match a with
  | [.lit (.int .i64 z), .fn (.func 98) [] [.rptr [.fn (.func 53) [] [.rptr [.vec 1 cmp00n cmp00f]]]]] => some (.tup [], rowsW H fun _ => isr (gtK (kyG (Tl rowS cmp00n cmp00f))) default (Tl rowW n g) ((Tl rowW n g).length - 1), [H Prop fun _ => Shp rowW n g, H Prop fun _ => Shp rowS cmp00n cmp00f, H Prop fun _ => (Tl rowW n g).length ≤ 20, H Prop fun _ => z = (Tl rowW n g).length, H Prop fun _ => ∀ x ∈ (Tl rowW n g), okGA x, H Prop fun _ => (Tl rowS cmp00n cmp00f).length ≤ 100000])
  | _ => none
theorem eok_stabW : EntryOk Tryz.prog e_stabW := modE_ok (by unfold isBody; kernel_rfl) (by
  intro n g a r g' ob e hob
  split at e
  · rename_i z cmp00n cmp00f
    simp only [zqt] at e
    obtain ⟨rfl, rfl, rfl⟩ := e
    have hs := hob.1
    have hl : (Tl rowW n g).length = n := Tl_len n g
    refine ⟨rowsW stdH fun _ => Tl rowW n g, fun j hj => ⟨?_, ?_⟩, ?_, fun x hx => ?_, ?_, fun j hj => ?_⟩
    · rw [hs.row j hj]; exact ((okRW).row (fun _ => Tl rowW n g) j).trans (by rw [Tl_getD hj])
    · exact rows_blx okRW _ j
    · have := c_stabW (Tl rowW n g) z (Tl rowS cmp00n cmp00f) hob.2.2.1 hob.2.2.2.1 hob.2.2.2.2.1 hob.2.2.2.2.2.1
      simp only [stdH, hl] at this ⊢
      exact ConN.args (.cons .rfl (.cons .rfl (.cons (.fn .nil (.cons (.rptr (.cons (.fn .nil (.cons (.rptr (.cons (.toT okS rfl hob.2.1) .nil)) .nil)) .nil)) .nil)) .nil))) this
    · simp only [zqu] at hx
      rcases hx with rfl | rfl
      · exact .lit
      · exact (by
        refine .fn (fun c hc => by cases hc) ?_
        intro c hc
        simp only [zqu] at hc
        rcases hc with rfl
        · exact (by
        refine .rptr ?_
        intro c hc
        simp only [zqu] at hc
        rcases hc with rfl
        · exact (by
        refine .fn (fun c hc => by cases hc) ?_
        intro c hc
        simp only [zqu] at hc
        rcases hc with rfl
        · exact (by
        refine .rptr ?_
        intro c hc
        simp only [zqu] at hc
        rcases hc with rfl
        · exact (hob.2.1).bl okS _))))
    · first | exact .lit | exact .tup fun x h => (by cases h)
    · exact rows_blx okRW _ j
  · simp at e)
theorem c_sortW (l : List Grt) (cmp00 : List ByteArray) (h0 : l.length ≤ 20) (h1 : ∀ x ∈ l, okGA x) (h2 : cmp00.length ≤ 100000) : ConN Tryz.prog 97 [.slc 0 0 18 (stdH Nat fun _ => l.length), .fn (.func 98) [] [.rptr [.fn (.func 53) [] [.rptr [.vec 1 (stdH Nat fun _ => (cmp00).length) (rowsS stdH fun _ => cmp00)]]]]] [(0, .rows 18 (stdH Nat fun _ => l.length) (rowsW stdH fun _ => l) 72)] 1 (.tup []) [] [(0, .rows 18 (stdH Nat fun _ => l.length) (rowsW stdH fun _ => rkS cmp00 l) 72)] := by
  have hB : Base Tryz.prog (tabΓ [e_stabW]) tab := base_of tabOk (ents_cons eok_stabW <| ents_nil)
  refine con_m (N := 9) hB (draw_ok hB mixed) Tryz.func97 rfl rfl (fun H => [.slc 0 0 18 (H Nat fun _ => l.length), .fn (.func 98) [] [.rptr [.fn (.func 53) [] [.rptr [.vec 1 (H Nat fun _ => (cmp00).length) (rowsS H fun _ => cmp00)]]]]]) (fun H => [(0, .rows 18 (H Nat fun _ => l.length) (rowsW H fun _ => l) 72)]) 1 (fun H => .tup []) (fun H => []) (fun H => [(0, .rows 18 (H Nat fun _ => l.length) (rowsW H fun _ => rkS cmp00 l) 72)]) 300 (by simp) (fun x hx => ?_) (fun i b hi => ?_) (fun i hi => ?_) (fun i b hi => ?_) ?_
  · simp only [zqu] at hx
    rcases hx with rfl | rfl
    · exact .slc (by omega)
    · exact (by
        refine .fn (fun c hc => by cases hc) ?_
        intro c hc
        simp only [zqu] at hc
        rcases hc with rfl
        · exact (by
        refine .rptr ?_
        intro c hc
        simp only [zqu] at hc
        rcases hc with rfl
        · exact (by
        refine .fn (fun c hc => by cases hc) ?_
        intro c hc
        simp only [zqu] at hc
        rcases hc with rfl
        · exact (by
        refine .rptr ?_
        intro c hc
        simp only [zqu] at hc
        rcases hc with rfl
        · exact vl_bl okS cmp00 _))))
  · have := lk_in hi
    simp only [zqu, Prod.mk.injEq] at this
    obtain ⟨rfl, rfl⟩ := this
    exact ⟨by omega, bT_bl okRW _ (fun _ => l) _, _, List.mem_cons_self⟩
  · obtain rfl : i = 0 := by omega
    exact ⟨_, rfl⟩
  · simp only [zqu, Prod.mk.injEq] at hi
    obtain ⟨rfl, rfl⟩ := hi
    exact ⟨_, rfl⟩
  intro X hX hX0 H hH
  conv in Fin.chk _ _ => cbv
  try simp only [zqs, Plain_rowsC, Plain_rowsW, zqx, AllP, zqw, upd, if_true]
  subst hH
  simp only [stdH, Tl_W, TlS', rkS_srt]
  have := RowsEq.self okRW (L := rkS cmp00 l)
  rw [rkS_len] at this
  exact ⟨⟨trivial, Shp_W _ _, Shp_rowsT okS _ (fun _ => _), h0, trivial, h1, h2⟩, this⟩
noncomputable def e_sortW : Entry := modE 97 18 72 fun H n g a => match a with
  | [.fn (.func 98) [] [.rptr [.fn (.func 53) [] [.rptr [.vec 1 cmp00n cmp00f]]]]] => some (.tup [], rowsW H fun _ => rkS (Tl rowS cmp00n cmp00f) (Tl rowW n g), [H Prop fun _ => Shp rowW n g, H Prop fun _ => Shp rowS cmp00n cmp00f, H Prop fun _ => (Tl rowW n g).length ≤ 20, H Prop fun _ => ∀ x ∈ (Tl rowW n g), okGA x, H Prop fun _ => (Tl rowS cmp00n cmp00f).length ≤ 100000])
  | _ => none
theorem eok_sortW : EntryOk Tryz.prog e_sortW := modE_ok (by unfold isBody; kernel_rfl) (by
  intro n g a r g' ob e hob
  split at e
  · rename_i cmp00n cmp00f
    simp only [zqt] at e
    obtain ⟨rfl, rfl, rfl⟩ := e
    have hs := hob.1
    have hl : (Tl rowW n g).length = n := Tl_len n g
    refine ⟨rowsW stdH fun _ => Tl rowW n g, fun j hj => ⟨?_, ?_⟩, ?_, fun x hx => ?_, ?_, fun j hj => ?_⟩
    · rw [hs.row j hj]; exact ((okRW).row (fun _ => Tl rowW n g) j).trans (by rw [Tl_getD hj])
    · exact rows_blx okRW _ j
    · have := c_sortW (Tl rowW n g) (Tl rowS cmp00n cmp00f) hob.2.2.1 hob.2.2.2.1 hob.2.2.2.2.1
      simp only [stdH, hl] at this ⊢
      exact ConN.args (.cons .rfl (.cons (.fn .nil (.cons (.rptr (.cons (.fn .nil (.cons (.rptr (.cons (.toT okS rfl hob.2.1) .nil)) .nil)) .nil)) .nil)) .nil)) this
    · simp only [zqu] at hx
      rcases hx with rfl
      · exact (by
        refine .fn (fun c hc => by cases hc) ?_
        intro c hc
        simp only [zqu] at hc
        rcases hc with rfl
        · exact (by
        refine .rptr ?_
        intro c hc
        simp only [zqu] at hc
        rcases hc with rfl
        · exact (by
        refine .fn (fun c hc => by cases hc) ?_
        intro c hc
        simp only [zqu] at hc
        rcases hc with rfl
        · exact (by
        refine .rptr ?_
        intro c hc
        simp only [zqu] at hc
        rcases hc with rfl
        · exact (hob.2.1).bl okS _))))
    · first | exact .lit | exact .tup fun x h => (by cases h)
    · exact rows_blx okRW _ j
  · simp at e)

end Go.Proofs.YtcjjffmbhionmaaGreatDoor.AM

