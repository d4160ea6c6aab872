/- Lemmas and contracts (Spb); conditions: none. -/
import Derived.Test.YtmkniipdkanbbaaGreatDoorK04
import Derived.Test.YtmkniipdkanbbaaGreatDoorK15
import Derived.Test.YtmkniipdkanbbaaGreatDoorK19
set_option linter.unusedVariables false
set_option linter.unusedSimpArgs false
set_option maxRecDepth 100000
set_option maxHeartbeats 4000000
set_option cbv.maxSteps 3000000
namespace Go.Proofs.YtmkniipdkanbbaaGreatDoor.AM
/- The reference's parsers of groups, ordinaries, fields, arms; conditions: none. -/
def codB (g : Grp) : Int := (g.c - 1) * 24 + (g.k - 1) * 3 + g.a
theorem okBar_b {g : Grp} (h : okBar g = true) : (1 ≤ g.c ∧ g.c ≤ 6) ∧ (1 ≤ g.k ∧ g.k ≤ 8) ∧ (0 ≤ g.a ∧ g.a ≤ 2) ∧ g.t = 1 := by
  unfold okBar at h
  simp only [Bool.and_eq_true, decide_eq_true_eq] at h
  obtain ⟨hc, hk, ha, hb, _⟩ := okG_c h.1
  have := attL_len g.k
  exact ⟨hc, hk, ⟨ha, by omega⟩, h.2⟩
theorem codB_eq {z c : Grp} (h : okBar z = true) (hc : (1 ≤ c.c ∧ c.c ≤ 6) ∧ (1 ≤ c.k ∧ c.k ≤ 8) ∧ (0 ≤ c.a ∧ c.a ≤ 2) ∧ c.t = 1) (e : codB z = codB c) : z = c := by
  have hz := okBar_b h
  unfold codB at e
  obtain ⟨x, k, a, t⟩ := z
  obtain ⟨x', k', a', t'⟩ := c
  simp only at *
  obtain rfl : x = x' := by omega
  obtain rfl : k = k' := by omega
  obtain rfl : a = a' := by omega
  obtain rfl : t = t' := by omega
  rfl
def frmB (s : ByteArray) (n : Int) : Prop := ∀ z, okBar z = true → barT z = s → n ≤ codB z
theorem frmB_0 (s : ByteArray) : frmB s ((0 : Nat) * 24) := fun z hz _ => by have := okBar_b hz; unfold codB; omega
theorem frmB_k {s : ByteArray} {n m : Int} (h : frmB s n) : frmB s (n + ((0 : Nat) : Int) * m) := by rw [show n + ((0 : Nat) : Int) * m = n by simp]; exact h
theorem frmB_t {s : ByteArray} {n : Int} (h : frmB s n) : frmB s (n + ((0 : Nat) : Int)) := by rw [show n + ((0 : Nat) : Int) = n by simp]; exact h
theorem frmB_s {s : ByteArray} {n : Int} (h : frmB s n) {c : Grp} (hc : (1 ≤ c.c ∧ c.c ≤ 6) ∧ (1 ≤ c.k ∧ c.k ≤ 8) ∧ (0 ≤ c.a ∧ c.a ≤ 2) ∧ c.t = 1) (en : codB c = n) (hn : ¬ (okBar c = true ∧ barT c = s)) : frmB s (n + 1) := fun z hz e => by
  have h1 := h z hz e
  rcases Int.lt_or_eq_of_le h1 with h2 | h2
  · omega
  · exact absurd (codB_eq hz hc (by omega) ▸ ⟨hz, e⟩) hn
theorem condB {c : Grp} {s : ByteArray} (h : c.t = 1) : (bif okG c then (barT c).toList == s.toList else false) = decide (okBar c = true ∧ barT c = s) := by
  unfold okBar
  rw [beqT, h]
  cases h : okG c <;> simp
theorem c_l4Unbare (s : ByteArray)  : ConN Tryz.prog 111 [.lit (.string s)] [] 0 (.tup [aT rowG stdH fun _ => (uB s).getD zG, .lit (.bool (stdH Bool fun _ => (uB s).isSome))]) [] [] := by
  have hB : Base Tryz.prog (tabΓ [e_l4Group, e_l4Bare]) tab := base_of tabOk (ents_cons eok_l4Group <| ents_cons eok_l4Bare <| ents_nil)
  refine con_m (N := 34) hB (draw_ok hB mixed) Tryz.func111 rfl rfl (fun H => [.lit (.string s)]) (fun _ => []) 0 (fun H => .tup [aT rowG H fun _ => (uB s).getD zG, .lit (.bool (H Bool fun _ => (uB s).isSome))]) (fun H => []) (fun _ => []) 400 (by simp) (fun x hx => ?_) (by simp [lk]) (by omega) (by simp) ?_
  · simp only [zqu] at hx
    rcases hx with rfl
    · exact .lit
  intro X hX hX0 H hH
  conv in Fin.chk _ _ => cbv
  try simp only [zqs, Plain_rowsC, zqx, AllP, zqw, upd, if_true]
  refine loop_a hB (draw_ok hB mixed) hX hX0 hH false (ι := { r : Nat // r ≤ 6 ∧ frmB s ((r : Nat) * 24) }) 400 (fun r => [.b (H Bool fun _ => false), .i (H Int fun _ => ((r.1 : Nat) : Int) + 1), .i (H Int fun _ => 0), .i (H Int fun _ => 0), .i (H Int fun _ => 0), .i (H Int fun _ => 0)]) (fun r => 6 - r.1) (⟨0, by omega, frmB_0 s⟩) ?_ ?_
  · (conv in matchSt _ _ _ _ => cbv); simp only [AllG, AllP, and_true, hH, stdH, zql, ncast, zqe, zqy]
    (repeat' (first | with_reducible exact True.intro | rfl | omega | refine And.intro ?_ ?_ | trivial))
  · intro I hI r
    conv in Fin.chk _ _ => cbv
    try simp only [zqs, Plain_rowsC, zqx, AllP, zqw, upd, if_true]
    obtain ⟨r, hr, hqr⟩ := r
    refine ⟨fun h1 => ?_, fun h1 => ?_⟩
    · simp only [hH, stdH, zqz, ne_eq, zqy] at h1
      refine loop_a hB (draw_ok hB mixed) hX hX0 hH true (ι := { k : Nat // k ≤ 8 ∧ frmB s ((r : Nat) * 24 + (k : Nat) * 3) }) 400 (fun k => [.b (H Bool fun _ => false), .i (H Int fun _ => ((k.1 : Nat) : Int) + 1), .i (H Int fun _ => 0), .i (H Int fun _ => 0), .i (H Int fun _ => 0), .i (H Int fun _ => 0)]) (fun k => 8 - k.1) (⟨0, Nat.zero_le _, frmB_k hqr⟩) ?_ ?_
      · (conv in matchSt _ _ _ _ => cbv); simp only [AllG, AllP, and_true, hH, stdH, zql, ncast, zqe, zqy]
        (repeat' (first | with_reducible exact True.intro | rfl | omega | refine And.intro ?_ ?_ | trivial))
      · intro J hJ k
        conv in Fin.chk _ _ => cbv
        try simp only [zqs, Plain_rowsC, zqx, AllP, zqw, upd, if_true]
        obtain ⟨k, hk, hqk⟩ := k
        refine ⟨fun h2 => ?_, fun h2 => ?_⟩
        · simp only [hH, stdH, zqz, ne_eq, zqy] at h2
          refine loop_a hB (draw_ok hB mixed) hX hX0 hH true (ι := { a : Nat // a ≤ 3 ∧ frmB s ((r : Nat) * 24 + (k : Nat) * 3 + (a : Nat)) }) 400 (fun a => [.b (H Bool fun _ => false), .i (H Int fun _ => ((a.1 : Nat) : Int)), .i (H Int fun _ => 0), .i (H Int fun _ => 0), .i (H Int fun _ => 0), .i (H Int fun _ => 0)]) (fun a => 3 - a.1) (⟨0, Nat.zero_le _, frmB_t hqk⟩) ?_ ?_
          · (conv in matchSt _ _ _ _ => cbv); simp only [AllG, AllP, and_true, hH, stdH, zql, ncast, zqe, zqy]
            (repeat' (first | with_reducible exact True.intro | rfl | omega | refine And.intro ?_ ?_ | trivial))
          · intro K hK a
            conv in Fin.chk _ _ => cbv
            try simp only [zqs, Plain_rowsC, zqx, AllP, zqw, upd, if_true]
            obtain ⟨a, ha, hqa⟩ := a
            have eg : (inB ((r : Int) + 1) 1 6 && attF ((k : Int) + 1) (a : Nat) && inB 1 1 9) = okG ⟨(r : Int) + 1, (k : Int) + 1, (a : Nat), 1⟩ := rfl
            have eb : cntT ((r : Int) + 1) ((k : Int) + 1) ++ ((⟨⟨[32]⟩⟩ : ByteArray) ++ (kndT ((k : Int) + 1) ((r : Int) + 1) ++ attT ⟨(r : Int) + 1, (k : Int) + 1, (a : Nat), 1⟩)) = barT ⟨(r : Int) + 1, (k : Int) + 1, (a : Nat), 1⟩ := rfl
            refine ⟨fun h4 => ⟨?_, fun h5 => ?_, fun h5 => ?_⟩, fun h4 => ?_⟩
            · simp only [hH, stdH, eg]
              exact fun h => okG_T h
            · simp only [hH, stdH, eg, eb, condB, decide_eq_true_eq] at h5 ⊢
              rw [uB_iff.2 h5]
              exact ⟨rfl, rfl, rfl, rfl, rfl⟩
            · simp only [hH, stdH, zqz, ne_eq, zqy] at h4
              simp only [hH, stdH, eg, eb, condB, decide_eq_false_iff_not] at h5
              refine ⟨⟨a + 1, by omega, ?_⟩, by simp only; omega, ?_⟩
              · have := frmB_s hqa (c := ⟨(r : Int) + 1, (k : Int) + 1, (a : Nat), 1⟩) ⟨⟨by simp only; omega, by simp only; omega⟩, ⟨by simp only; omega, by simp only; omega⟩, ⟨by simp only; omega, by simp only; omega⟩, rfl⟩ (by unfold codB; simp only; omega) h5
                rw [show (r : Int) * 24 + (k : Int) * 3 + ((a + 1 : Nat) : Int) = (r : Int) * 24 + (k : Int) * 3 + (a : Int) + 1 by omega]
                exact this
              · rw [hK]
                (conv in matchSt _ _ _ _ => cbv); simp only [AllG, AllP, and_true, hH, stdH, zql, ncast, zqe, zqy]
                rw [w1 (by omega)]
                (repeat' (first | with_reducible exact True.intro | rfl | omega | refine And.intro ?_ ?_ | trivial))
            · simp only [hH, stdH, zqz, ne_eq, zqy] at h4
              obtain rfl : a = 3 := by omega
              rw [if_neg (by decide)]
              refine ⟨⟨k + 1, by omega, ?_⟩, by simp only; omega, ?_⟩
              · rw [show (r : Int) * 24 + ((k + 1 : Nat) : Int) * 3 = (r : Int) * 24 + (k : Int) * 3 + ((3 : Nat) : Int) by omega]
                exact hqa
              · rw [hJ]
                (conv in matchSt _ _ _ _ => cbv); simp only [AllG, AllP, and_true, hH, stdH, zql, ncast, zqe, zqy]
                rw [show IntKind.i64.wrap ((k : Int) + 1 + 1) = ((k + 1 : Nat) : Int) + 1 by rw [wi] <;> omega]
                (repeat' (first | with_reducible exact True.intro | rfl | omega | refine And.intro ?_ ?_ | trivial))
        · simp only [hH, stdH, zqz, ne_eq, zqy] at h2
          obtain rfl : k = 8 := by omega
          rw [if_neg (by decide)]
          refine ⟨⟨r + 1, by omega, ?_⟩, by simp only; omega, ?_⟩
          · rw [show ((r + 1 : Nat) : Int) * 24 = (r : Int) * 24 + ((8 : Nat) : Int) * 3 by omega]
            exact hqk
          · rw [hI]
            (conv in matchSt _ _ _ _ => cbv); simp only [AllG, AllP, and_true, hH, stdH, zql, ncast, zqe, zqy]
            rw [show IntKind.i64.wrap ((r : Int) + 1 + 1) = ((r + 1 : Nat) : Int) + 1 by rw [wi] <;> omega]
            (repeat' (first | with_reducible exact True.intro | rfl | omega | refine And.intro ?_ ?_ | trivial))
    · simp only [hH, stdH, zqz, ne_eq, zqy] at h1
      obtain rfl : r = 6 := by omega
      have : uB s = none := findO_none.2 fun z hz e => by have h3 := hqr z hz e; have h4 := okBar_b hz; unfold codB at h3; omega
      try simp only [hH, stdH, zqz, ne_eq, zqy]
      rw [this]
      exact ⟨rfl, rfl, rfl, rfl, rfl⟩
noncomputable def e_l4Unbare : Entry := pureE 111 fun H a => match a with
  | [.lit (.string s)] => some (.tup [aT rowG H fun _ => (uB s).getD zG, .lit (.bool (H Bool fun _ => (uB s).isSome))], [])
  | _ => none
theorem eok_l4Unbare : EntryOk Tryz.prog e_l4Unbare := pureM_ok (by unfold isBody; kernel_rfl) (by
  intro a r ob e hob
  split at e
  · rename_i s
    simp only [zqt] at e
    obtain ⟨rfl, rfl⟩ := e
    exact ConN.args (.cons .rfl .nil) (c_l4Unbare s )
  · simp at e)
def okUn (x : Od) : Bool := okO x && decide (x.t = 1)
theorem ordS_inj : ∀ x y : Od, okUn x = true → okUn y = true → ordS x.o x.l = ordS y.o y.l → x = y := fun x y hx hy e => by
  unfold okUn at hx hy
  simp only [Bool.and_eq_true, decide_eq_true_eq] at hx hy
  exact oT_inj x y hx.1 hy.1 (by unfold oT; rw [e, hx.2, hy.2])
noncomputable def uO (s : ByteArray) : Option Od := findO okUn (fun x => ordS x.o x.l) s
theorem uO_iff {s : ByteArray} {x : Od} : uO s = some x ↔ okUn x = true ∧ ordS x.o x.l = s := findO_iff ordS_inj
def codO (x : Od) : Int := (x.o - 1) * 5 + x.l
def frmO (s : ByteArray) (n : Int) : Prop := ∀ z, okUn z = true → ordS z.o z.l = s → n ≤ codO z
theorem okU_b {x : Od} (h : okUn x = true) : (1 ≤ x.o ∧ x.o ≤ 7) ∧ (0 ≤ x.l ∧ x.l ≤ 4) ∧ x.t = 1 := by
  unfold okUn at h
  simp only [Bool.and_eq_true, decide_eq_true_eq] at h
  have := okO_b h.1
  exact ⟨this.1, this.2.1, h.2⟩
theorem okU_of {o l : Int} (ho : 1 ≤ o ∧ o ≤ 7) (hl : 0 ≤ l ∧ l ≤ 4) : okUn ⟨o, l, 1⟩ = true := by
  unfold okUn okO inB; simp; omega
theorem frmO_0 (s : ByteArray) : frmO s ((0 : Nat) * 5) := fun z hz _ => by have := okU_b hz; unfold codO; omega
theorem frmO_t {s : ByteArray} {n : Int} (h : frmO s n) : frmO s (n + ((0 : Nat) : Int)) := by rw [show n + ((0 : Nat) : Int) = n by simp]; exact h
theorem frmO_s {s : ByteArray} {o l : Int} (ho : 1 ≤ o ∧ o ≤ 7) (hl : 0 ≤ l ∧ l ≤ 4) (h : frmO s ((o - 1) * 5 + l)) (hn : ¬ ordS o l = s) : frmO s ((o - 1) * 5 + l + 1) := fun z hz e => by
  have h1 := h z hz e
  have hb := okU_b hz
  rcases Int.lt_or_eq_of_le h1 with h2 | h2
  · omega
  · unfold codO at h2
    have e1 : z.o = o := by omega
    have e2 : z.l = l := by omega
    rw [e1, e2] at e
    exact absurd e hn
theorem c_l6Unord (s : ByteArray)  : ConN Tryz.prog 59 [.lit (.string s)] [] 0 (.tup [.lit (.int .i64 (stdH Int fun _ => ((uO s).getD zO).o)), .lit (.int .i64 (stdH Int fun _ => ((uO s).getD zO).l)), .lit (.bool (stdH Bool fun _ => (uO s).isSome))]) [] [] := by
  have hB : Base Tryz.prog (tabΓ [e_l6Ordinary]) tab := base_of tabOk (ents_cons eok_l6Ordinary <| ents_nil)
  refine con_m (N := 22) hB (draw_ok hB mixed) Tryz.func59 rfl rfl (fun H => [.lit (.string s)]) (fun _ => []) 0 (fun H => .tup [.lit (.int .i64 (H Int fun _ => ((uO s).getD zO).o)), .lit (.int .i64 (H Int fun _ => ((uO s).getD zO).l)), .lit (.bool (H Bool fun _ => (uO s).isSome))]) (fun H => []) (fun _ => []) 400 (by simp) (fun x hx => ?_) (by simp [lk]) (by omega) (by simp) ?_
  · simp only [zqu] at hx
    rcases hx with rfl
    · exact .lit
  intro X hX hX0 H hH
  conv in Fin.chk _ _ => cbv
  try simp only [zqs, Plain_rowsC, zqx, AllP, zqw, upd, if_true]
  refine loop_a hB (draw_ok hB mixed) hX hX0 hH false (ι := { r : Nat // r ≤ 7 ∧ frmO s ((r : Nat) * 5) }) 400 (fun r => [.i (H Int fun _ => 0), .i (H Int fun _ => 0), .b (H Bool fun _ => false), .i (H Int fun _ => ((r.1 : Nat) : Int) + 1)]) (fun r => 7 - r.1) (⟨0, by omega, frmO_0 s⟩) ?_ ?_
  · (conv in matchSt _ _ _ _ => cbv); simp only [AllG, AllP, and_true, hH, stdH, zql, ncast, zqe, zqy]
    (repeat' (first | with_reducible exact True.intro | rfl | omega | refine And.intro ?_ ?_ | trivial))
  · intro I hI r
    conv in Fin.chk _ _ => cbv
    try simp only [zqs, Plain_rowsC, zqx, AllP, zqw, upd, if_true]
    obtain ⟨r, hr, hqr⟩ := r
    refine ⟨fun h1 => ?_, fun h1 => ?_⟩
    · simp only [hH, stdH, zqz, ne_eq, zqy] at h1
      refine loop_a hB (draw_ok hB mixed) hX hX0 hH true (ι := { l : Nat // l ≤ 5 ∧ frmO s ((r : Nat) * 5 + (l : Nat)) }) 400 (fun l => [.i (H Int fun _ => 0), .i (H Int fun _ => 0), .b (H Bool fun _ => false), .i (H Int fun _ => ((l.1 : Nat) : Int))]) (fun l => 5 - l.1) (⟨0, Nat.zero_le _, frmO_t hqr⟩) ?_ ?_
      · (conv in matchSt _ _ _ _ => cbv); simp only [AllG, AllP, and_true, hH, stdH, zql, ncast, zqe, zqy]
        (repeat' (first | with_reducible exact True.intro | rfl | omega | refine And.intro ?_ ?_ | trivial))
      · intro J hJ l
        conv in Fin.chk _ _ => cbv
        try simp only [zqs, Plain_rowsC, zqx, AllP, zqw, upd, if_true]
        obtain ⟨l, hl, hql⟩ := l
        refine ⟨fun h4 => ⟨?_, fun h5 => ?_, fun h5 => ?_⟩, fun h4 => ?_⟩
        · simp only [hH, stdH, zqz, ne_eq, zqy] at h4
          try simp only [hH, stdH, zqz, ne_eq, zqy]
          omega
        · simp only [hH, stdH, zqz, ne_eq, zqy] at h4
          simp only [hH, stdH, beqT, decide_eq_true_eq] at h5 ⊢
          have hu : okUn ⟨(r : Int) + 1, (l : Int), 1⟩ = true := okU_of (by omega) (by omega)
          rw [(uO_iff (x := ⟨(r : Int) + 1, (l : Int), 1⟩)).2 ⟨hu, h5⟩]
          exact ⟨rfl, rfl, rfl⟩
        · simp only [hH, stdH, zqz, ne_eq, zqy] at h4
          simp only [hH, stdH, beqT, decide_eq_false_iff_not] at h5
          refine ⟨⟨l + 1, by omega, ?_⟩, by simp only; omega, ?_⟩
          · have := frmO_s (s := s) (o := (r : Int) + 1) (l := (l : Nat)) (by omega) (by omega) (by rw [show ((r : Int) + 1 - 1) * 5 + (l : Int) = (r : Int) * 5 + (l : Int) by omega]; exact hql) h5
            rw [show (r : Int) * 5 + ((l + 1 : Nat) : Int) = ((r : Int) + 1 - 1) * 5 + (l : Int) + 1 by omega]
            exact this
          · rw [hJ]
            (conv in matchSt _ _ _ _ => cbv); simp only [AllG, AllP, and_true, hH, stdH, zql, ncast, zqe, zqy]
            rw [w1 (by omega)]
            (repeat' (first | with_reducible exact True.intro | rfl | omega | refine And.intro ?_ ?_ | trivial))
        · simp only [hH, stdH, zqz, ne_eq, zqy] at h4
          obtain rfl : l = 5 := by omega
          rw [if_neg (by decide)]
          refine ⟨⟨r + 1, by omega, ?_⟩, by simp only; omega, ?_⟩
          · rw [show ((r + 1 : Nat) : Int) * 5 = (r : Int) * 5 + ((5 : Nat) : Int) by omega]
            exact hql
          · rw [hI]
            (conv in matchSt _ _ _ _ => cbv); simp only [AllG, AllP, and_true, hH, stdH, zql, ncast, zqe, zqy]
            rw [show IntKind.i64.wrap ((r : Int) + 1 + 1) = ((r + 1 : Nat) : Int) + 1 by rw [wi] <;> omega]
            (repeat' (first | with_reducible exact True.intro | rfl | omega | refine And.intro ?_ ?_ | trivial))
    · simp only [hH, stdH, zqz, ne_eq, zqy] at h1
      obtain rfl : r = 7 := by omega
      have : uO s = none := findO_none.2 fun z hz e => by have h3 := hqr z hz e; have h4 := okU_b hz; unfold codO at h3; omega
      try simp only [hH, stdH, zqz, ne_eq, zqy]
      rw [this]
      exact ⟨rfl, rfl, rfl⟩
noncomputable def e_l6Unord : Entry := pureE 59 fun H a => match a with
  | [.lit (.string s)] => some (.tup [.lit (.int .i64 (H Int fun _ => ((uO s).getD zO).o)), .lit (.int .i64 (H Int fun _ => ((uO s).getD zO).l)), .lit (.bool (H Bool fun _ => (uO s).isSome))], [])
  | _ => none
theorem eok_l6Unord : EntryOk Tryz.prog e_l6Unord := pureM_ok (by unfold isBody; kernel_rfl) (by
  intro a r ob e hob
  split at e
  · rename_i s
    simp only [zqt] at e
    obtain ⟨rfl, rfl⟩ := e
    exact ConN.args (.cons .rfl .nil) (c_l6Unord s )
  · simp at e)

end Go.Proofs.YtmkniipdkanbbaaGreatDoor.AM

