/- Lemmas and contracts (Rgs); conditions: none. -/
import Derived.Test.YtcjjffmbhionmaaGreatDoorK03
import Derived.Test.YtcjjffmbhionmaaGreatDoorK05
import Derived.Test.YtcjjffmbhionmaaGreatDoorK13
import Derived.Test.YtcjjffmbhionmaaGreatDoorK18
import Derived.Test.YtcjjffmbhionmaaGreatDoorK19
set_option linter.unusedVariables false
set_option linter.unusedSimpArgs false
set_option maxRecDepth 100000
set_option maxHeartbeats 4000000
set_option cbv.maxSteps 3000000
namespace Go.Proofs.YtcjjffmbhionmaaGreatDoor.AM
/- Registers of grants: names, grants; conditions: none. -/
theorem bq_iff {a b : ByteArray} : (a == b) = true ↔ a = b := by
  obtain ⟨a⟩ := a; obtain ⟨b⟩ := b
  rw [show ((⟨a⟩ : ByteArray) == ⟨b⟩) = (a == b) from rfl]
  simp
structure Grt where
  num : Int
  name : ByteArray
  year : Int
  arms : Arm
deriving Inhabited
def rowsW (H : Hold) (L : Unit → List Grt) (j : Nat) : List AV := [.lit (.int .i64 (H Int fun _ => ((L ()).getD j default).num)), .lit (.string (H ByteArray fun _ => ((L ()).getD j default).name)), .lit (.int .i64 (H Int fun _ => ((L ()).getD j default).year)), .lit (.int .i64 (H Int fun _ => ((L ()).getD j default).arms.f.d)), .lit (.int .i64 (H Int fun _ => ((L ()).getD j default).arms.f.l)), .lit (.int .i64 (H Int fun _ => ((L ()).getD j default).arms.f.p)), .lit (.int .i64 (H Int fun _ => ((L ()).getD j default).arms.f.q)), .lit (.int .i64 (H Int fun _ => ((L ()).getD j default).arms.o)), .lit (.int .i64 (H Int fun _ => ((L ()).getD j default).arms.l)), .lit (.int .i64 (H Int fun _ => ((L ()).getD j default).arms.t)), .lit (.int .i64 (H Int fun _ => ((L ()).getD j default).arms.n.c)), .lit (.int .i64 (H Int fun _ => ((L ()).getD j default).arms.n.k)), .lit (.int .i64 (H Int fun _ => ((L ()).getD j default).arms.n.a)), .lit (.int .i64 (H Int fun _ => ((L ()).getD j default).arms.n.t)), .lit (.int .i64 (H Int fun _ => ((L ()).getD j default).arms.r.c)), .lit (.int .i64 (H Int fun _ => ((L ()).getD j default).arms.r.k)), .lit (.int .i64 (H Int fun _ => ((L ()).getD j default).arms.r.a)), .lit (.int .i64 (H Int fun _ => ((L ()).getD j default).arms.r.t))]
def rowW : RowD Grt := ⟨18, default, fun H x => [.lit (.int .i64 (H Int fun _ => (x ()).num)), .lit (.string (H ByteArray fun _ => (x ()).name)), .lit (.int .i64 (H Int fun _ => (x ()).year)), .lit (.int .i64 (H Int fun _ => (x ()).arms.f.d)), .lit (.int .i64 (H Int fun _ => (x ()).arms.f.l)), .lit (.int .i64 (H Int fun _ => (x ()).arms.f.p)), .lit (.int .i64 (H Int fun _ => (x ()).arms.f.q)), .lit (.int .i64 (H Int fun _ => (x ()).arms.o)), .lit (.int .i64 (H Int fun _ => (x ()).arms.l)), .lit (.int .i64 (H Int fun _ => (x ()).arms.t)), .lit (.int .i64 (H Int fun _ => (x ()).arms.n.c)), .lit (.int .i64 (H Int fun _ => (x ()).arms.n.k)), .lit (.int .i64 (H Int fun _ => (x ()).arms.n.a)), .lit (.int .i64 (H Int fun _ => (x ()).arms.n.t)), .lit (.int .i64 (H Int fun _ => (x ()).arms.r.c)), .lit (.int .i64 (H Int fun _ => (x ()).arms.r.k)), .lit (.int .i64 (H Int fun _ => (x ()).arms.r.a)), .lit (.int .i64 (H Int fun _ => (x ()).arms.r.t))], fun l => match l with
  | [.lit (.int _ x0), .lit (.string x1), .lit (.int _ x2), .lit (.int _ x3), .lit (.int _ x4), .lit (.int _ x5), .lit (.int _ x6), .lit (.int _ x7), .lit (.int _ x8), .lit (.int _ x9), .lit (.int _ x10), .lit (.int _ x11), .lit (.int _ x12), .lit (.int _ x13), .lit (.int _ x14), .lit (.int _ x15), .lit (.int _ x16), .lit (.int _ x17)] => ⟨x0, x1, x2, ⟨⟨x3, x4, x5, x6⟩, x7, x8, x9, ⟨x10, x11, x12, x13⟩, ⟨x14, x15, x16, x17⟩⟩⟩
  | _ => default, rowsW⟩
theorem okRW : RowOk rowW := ⟨fun _ => rfl, fun x c hc => by simp only [rowW, zqu] at hc; rcases hc with rfl | rfl | rfl | rfl | rfl | rfl | rfl | rfl | rfl | rfl | rfl | rfl | rfl | rfl | rfl | rfl | rfl | rfl <;> (first | exact .lit ), fun _ => rfl, fun _ _ => rfl⟩
theorem Grt.eta (a : Grt) : (⟨a.num, a.name, a.year, ⟨⟨a.arms.f.d, a.arms.f.l, a.arms.f.p, a.arms.f.q⟩, a.arms.o, a.arms.l, a.arms.t, ⟨a.arms.n.c, a.arms.n.k, a.arms.n.a, a.arms.n.t⟩, ⟨a.arms.r.c, a.arms.r.k, a.arms.r.a, a.arms.r.t⟩⟩⟩ : Grt) = a := rfl
theorem Tl_W (L : List Grt) : Tl rowW L.length (rowsW stdH fun _ => L) = L := Tl_rowsT okRW L
theorem Shp_W (n : Nat) (L : List Grt) : Shp rowW n (rowsW stdH fun _ => L) := Shp_rowsT okRW n (fun _ => L)
theorem Plain_rowsW (n : Nat) (H : Hold) (L : Unit → List Grt) : Plain n (rowsW H L) = True := eq_true ⟨fun j _ x hx => by simp only [rowsW, zqu] at hx; rcases hx with rfl | rfl | rfl | rfl | rfl | rfl | rfl | rfl | rfl | rfl | rfl | rfl | rfl | rfl | rfl | rfl | rfl | rfl <;> rfl⟩
def eqrW (a b : Grt) : Bool := allT [fun _ => a.num == b.num, fun _ => a.name == b.name, fun _ => a.year == b.year, fun _ => a.arms.f.d == b.arms.f.d, fun _ => a.arms.f.l == b.arms.f.l, fun _ => a.arms.f.p == b.arms.f.p, fun _ => a.arms.f.q == b.arms.f.q, fun _ => a.arms.o == b.arms.o, fun _ => a.arms.l == b.arms.l, fun _ => a.arms.t == b.arms.t, fun _ => a.arms.n.c == b.arms.n.c, fun _ => a.arms.n.k == b.arms.n.k, fun _ => a.arms.n.a == b.arms.n.a, fun _ => a.arms.n.t == b.arms.n.t, fun _ => a.arms.r.c == b.arms.r.c, fun _ => a.arms.r.k == b.arms.r.k, fun _ => a.arms.r.a == b.arms.r.a, fun _ => a.arms.r.t == b.arms.r.t]
theorem eqrW_iff {a b : Grt} : eqrW a b = true ↔ a = b := by
  obtain ⟨a0, a1, a2, ⟨⟨a3, a4, a5, a6⟩, a7, a8, a9, ⟨a10, a11, a12, a13⟩, ⟨a14, a15, a16, a17⟩⟩⟩ := a; obtain ⟨b0, b1, b2, ⟨⟨b3, b4, b5, b6⟩, b7, b8, b9, ⟨b10, b11, b12, b13⟩, ⟨b14, b15, b16, b17⟩⟩⟩ := b
  simp [eqrW, allT, and_assoc, bq_iff]
instance : DecidableEq Grt := fun a b => decidable_of_iff (eqrW a b = true) eqrW_iff
structure Rgr where
  gs : List Grt
deriving Inhabited
def rowsJ (H : Hold) (L : Unit → List Rgr) (j : Nat) : List AV := [.vec 18 (H Nat fun _ => (((L ()).getD j default).gs).length) (rowsW H fun _ => ((L ()).getD j default).gs)]
def rowJ : RowD Rgr := ⟨1, default, fun H x => [.vec 18 (H Nat fun _ => ((x ()).gs).length) (rowsW H fun _ => (x ()).gs)], fun l => match l with
  | [.vec _ x0n x0f] => ⟨(Tl rowW x0n x0f)⟩
  | _ => default, rowsJ⟩
theorem okRJ : RowOk rowJ := ⟨fun _ => rfl, fun x c hc => by simp only [rowJ, zqu] at hc; rcases hc with rfl <;> (first | exact .lit | exact vT_bl okRW (fun _ => (x ()).gs) 0), fun x => (by show (⟨Tl rowW (x.gs).length (rowsT rowW stdH fun _ => x.gs)⟩ : Rgr) = x; rw [Tl_rowsT okRW]), fun _ _ => rfl⟩
theorem Rgr.eta (a : Rgr) : (⟨a.gs⟩ : Rgr) = a := rfl
def nmX (s : ByteArray) (i : Nat) : Bool := if i = 0 then decide (65 ≤ sByte s 0 ∧ sByte s 0 ≤ 90) else decide (97 ≤ sByte s i ∧ sByte s i ≤ 122)
def okNm (s : ByteArray) : Bool := decide (1 ≤ s.size ∧ s.size ≤ 12) && (List.range s.size).all (nmX s)
theorem okNm_all {s : ByteArray} (h : ∀ i, i < s.size → nmX s i = true) : okNm s = decide (1 ≤ s.size ∧ s.size ≤ 12) := by
  unfold okNm
  rw [List.all_eq_true.2 (fun i hi => h i (List.mem_range.1 hi)), Bool.and_true]
theorem okNm_bad {s : ByteArray} {i : Nat} (hi : i < s.size) (h : nmX s i = false) : okNm s = false := by
  unfold okNm
  cases e : (List.range s.size).all (nmX s) with
  | false => rw [Bool.and_false]
  | true =>
    have := List.all_eq_true.1 e i (List.mem_range.2 hi)
    rw [h] at this; cases this
theorem nm_c (s : ByteArray) (i : Nat) : (bif bif ((i : Int) == 0) then bif decide (sByte s i < 65) then true else decide (90 < sByte s i) else false then true else bif decide ((0 : Int) < i) then bif decide (sByte s i < 97) then true else decide (122 < sByte s i) else false) = !nmX s i := by
  unfold nmX
  rcases Nat.eq_zero_or_pos i with rfl | h
  · by_cases h1 : sByte s 0 < 65 <;> by_cases h2 : 90 < sByte s 0 <;> simp [h1, h2] <;> omega
  · rw [show ((i : Int) == 0) = false by rw [beq_eq_false_iff_ne]; omega, decide_eq_true (by omega : (0 : Int) < i), if_neg (by omega)]
    by_cases h1 : sByte s i < 97 <;> by_cases h2 : 122 < sByte s i <;> simp [h1, h2] <;> omega
theorem nm_0 (s : ByteArray) : (bif decide (sByte s 0 < 65) then true else decide (90 < sByte s 0)) = !nmX s 0 := by
  unfold nmX
  by_cases h1 : sByte s 0 < 65 <;> by_cases h2 : 90 < sByte s 0 <;> simp [h1, h2] <;> omega
theorem nm_1 (s : ByteArray) {i : Nat} (h : 1 ≤ i) : (bif decide (sByte s i < 97) then true else decide (122 < sByte s i)) = !nmX s i := by
  unfold nmX
  rw [if_neg (by omega)]
  by_cases h1 : sByte s i < 97 <;> by_cases h2 : 122 < sByte s i <;> simp [h1, h2] <;> omega
theorem c_isName (s : ByteArray) (h0 : s.size ≤ 2000000) : ConN Tryz.prog 70 [.lit (.string s)] [] 0 (.lit (.bool (stdH Bool fun _ => okNm s))) [] [] := by
  have hB : Base Tryz.prog (tabΓ [e_inside]) tab := base_of tabOk (ents_cons eok_inside <| ents_nil)
  refine con_m (N := 43) hB (draw_ok hB mixed) Tryz.func70 rfl rfl (fun H => [.lit (.string s)]) (fun _ => []) 0 (fun H => .lit (.bool (H Bool fun _ => okNm s))) (fun H => []) (fun _ => []) 100 (by simp) (fun x hx => ?_) (by simp [lk]) (by omega) (by simp) ?_
  · simp only [zqu] at hx
    rcases hx with rfl
    · exact .lit
  intro X hX hX0 H hH
  conv in Fin.chk _ _ => cbv
  try simp only [zqs, zqx, AllP, zqw, upd, if_true]
  refine loop_a hB (draw_ok hB mixed) hX hX0 hH false (ι := { i : Nat // i ≤ s.size ∧ ∀ j, j < i → nmX s j = true }) 100 (fun i => [.i (H Int fun _ => (i.1 : Nat))]) (fun i => s.size - i.1) (⟨0, by omega, by omega⟩) ?_ ?_
  · (conv in matchSt _ _ _ _ => cbv); simp only [AllG, AllP, and_true, hH, stdH, zql, ncast, zqe, zqy]
    all_goals (repeat' (with_reducible refine And.intro ?_ ?_)) <;> (first | exact Eq.refl _ | exact True.intro | exact Nat.le_refl _ | exact List.length_append | exact c.rqN)
  · intro I hI i
    conv in Fin.chk _ _ => cbv
    try simp only [zqs, zqx, AllP, zqw, upd, if_true]
    obtain ⟨i, hi, hj⟩ := i
    refine ⟨fun h1 => ⟨?_, ?_, ?_, ?_, fun h2 => ?_, fun h2 => ?_⟩, fun h1 => ?_⟩
    · simp only [hH, stdH, zqz, ne_eq, zqy] at h1 ⊢
      exact fun _ => by omega
    · simp only [hH, stdH, zqz, ne_eq, zqy] at h1 ⊢
      exact fun _ => by omega
    · simp only [hH, stdH, zqz, ne_eq, zqy] at h1 ⊢
      exact fun _ => by omega
    · simp only [hH, stdH, zqz, ne_eq, zqy] at h1 ⊢
      exact fun _ => by omega
    · simp only [hH, stdH, zqz, ne_eq, zqy] at h1
      simp only [hH, stdH, Int.toNat_natCast] at h2
      rw [nm_c, Bool.not_eq_true'] at h2
      try simp only [hH, stdH, zqz, ne_eq, zqy]
      exact okNm_bad (by omega) h2
    · simp only [hH, stdH, zqz, ne_eq, zqy] at h1
      simp only [hH, stdH, Int.toNat_natCast] at h2
      rw [nm_c, Bool.not_eq_false'] at h2
      refine ⟨⟨i + 1, by omega, fun j hj' => ?_⟩, by simp only; omega, ?_⟩
      · rcases Nat.lt_succ_iff_lt_or_eq.1 hj' with h | rfl
        · exact hj j h
        · exact h2
      · rw [hI]
        (conv in matchSt _ _ _ _ => cbv); simp only [AllG, AllP, and_true, hH, stdH, zql, ncast, zqe, zqy]
        rw [w1 (by omega)]
        all_goals (repeat' (with_reducible refine And.intro ?_ ?_)) <;> (first | exact Eq.refl _ | exact True.intro | exact Nat.le_refl _ | exact List.length_append | exact c.rqN)
    · simp only [hH, stdH, zqz, ne_eq, zqy] at h1
      try simp only [hH, stdH, zqz, ne_eq, zqy]
      rw [okNm_all fun j hj' => hj j (by omega)]
      unfold inB
      rw [decide_eq_decide]
      omega
noncomputable def e_isName : Entry := pureE 70 fun H a => match a with
  | [.lit (.string s)] => some (.lit (.bool (H Bool fun _ => okNm s)), [H Prop fun _ => s.size ≤ 2000000])
  | _ => none
theorem eok_isName : EntryOk Tryz.prog e_isName := pureM_ok (by unfold isBody; kernel_rfl) (by
  intro a r ob e hob
  split at e
  · rename_i s
    simp only [zqt] at e
    obtain ⟨rfl, rfl⟩ := e
    exact ConN.args (.cons .rfl .nil) (c_isName s hob.1)
  · simp at e)
theorem okNm_in {s : ByteArray} (h : okNm s = true) : (1 ≤ s.size ∧ s.size ≤ 12) ∧ ∀ i, i < s.size → nmX s i = true := by
  unfold okNm at h
  rw [Bool.and_eq_true, decide_eq_true_eq] at h
  exact ⟨h.1, fun i hi => List.all_eq_true.1 h.2 i (List.mem_range.2 hi)⟩
theorem nm_s {s : ByteArray} (h : (bif bif !inB ((s.size : Nat) : Int) 1 12 then true else decide (sByte s 0 < 65) then true else decide (90 < sByte s 0)) = true) : okNm s = false := by
  cases e : okNm s with
  | false => rfl
  | true =>
    exfalso
    obtain ⟨h1, h2⟩ := okNm_in e
    have h3 := nm_0 s
    rw [h2 0 (by omega)] at h3
    rw [show inB ((s.size : Nat) : Int) 1 12 = true from decide_eq_true (by omega)] at h
    simp only [Bool.not_true, cond_false] at h h3
    rw [h3] at h; cases h
theorem nm_t {s : ByteArray} (h : (bif bif !inB ((s.size : Nat) : Int) 1 12 then true else decide (sByte s 0 < 65) then true else decide (90 < sByte s 0)) = false) : (1 ≤ s.size ∧ s.size ≤ 12) ∧ nmX s 0 = true := by
  have h3 := nm_0 s
  cases e : inB ((s.size : Nat) : Int) 1 12 with
  | false => rw [e] at h; cases h
  | true =>
    rw [e] at h
    simp only [Bool.not_true, cond_false] at h
    rw [h] at h3
    unfold inB at e
    rw [decide_eq_true_eq] at e
    exact ⟨by omega, by cases hh : nmX s 0 with
      | true => rfl
      | false => rw [hh] at h3; cases h3⟩
theorem c_l16Name (s : ByteArray) (h0 : s.size ≤ 2000000) : ConN Tryz.prog 110 [.lit (.string s)] [] 0 (.lit (.bool (stdH Bool fun _ => okNm s))) [] [] := by
  have hB : Base Tryz.prog (tabΓ [e_l1In]) tab := base_of tabOk (ents_cons eok_l1In <| ents_nil)
  refine con_m (N := 34) hB (draw_ok hB mixed) Tryz.func110 rfl rfl (fun H => [.lit (.string s)]) (fun _ => []) 0 (fun H => .lit (.bool (H Bool fun _ => okNm s))) (fun H => []) (fun _ => []) 100 (by simp) (fun x hx => ?_) (by simp [lk]) (by omega) (by simp) ?_
  · simp only [zqu] at hx
    rcases hx with rfl
    · exact .lit
  intro X hX hX0 H hH
  conv in Fin.chk _ _ => cbv
  try simp only [zqs, zqx, AllP, zqw, upd, if_true]
  refine ⟨?_, ?_, fun h1 => ?_, fun h1 => ?_⟩
  · try simp only [hH, stdH, zqz, ne_eq, zqy]
    intro h
    unfold inB at h
    rw [decide_eq_true_eq] at h
    omega
  · try simp only [hH, stdH, zqz, ne_eq, zqy]
    intro h
    cases e : inB ((s.size : Nat) : Int) 1 12 with
    | false => rw [e] at h; cases h
    | true =>
      unfold inB at e
      rw [decide_eq_true_eq] at e
      omega
  · simp only [hH, stdH, Int.toNat_natCast] at h1
    try simp only [hH, stdH, zqz, ne_eq, zqy]
    exact nm_s h1
  · simp only [hH, stdH, Int.toNat_natCast] at h1
    obtain ⟨hs, h0⟩ := nm_t h1
    have g0 : 1 ≤ 1 ∧ 1 ≤ s.size ∧ ∀ j, j < 1 → nmX s j = true := ⟨by omega, by omega, fun j hj => by
      obtain rfl : j = 0 := by omega
      exact h0⟩
    refine loop_a hB (draw_ok hB mixed) hX hX0 hH false (ι := { i : Nat // 1 ≤ i ∧ i ≤ s.size ∧ ∀ j, j < i → nmX s j = true }) 100 (fun i => [.i (H Int fun _ => (i.1 : Nat))]) (fun i => s.size - i.1) (⟨1, g0⟩) ?_ ?_
    · (conv in matchSt _ _ _ _ => cbv); simp only [AllG, AllP, and_true, hH, stdH, zql, ncast, zqe, zqy]
      all_goals (repeat' (with_reducible refine And.intro ?_ ?_)) <;> (first | exact Eq.refl _ | exact True.intro | exact Nat.le_refl _ | exact List.length_append | exact c.rqN)
    · intro I hI i
      conv in Fin.chk _ _ => cbv
      try simp only [zqs, zqx, AllP, zqw, upd, if_true]
      obtain ⟨i, hi0, hi, hj⟩ := i
      refine ⟨fun h1 => ⟨?_, ?_, fun h2 => ?_, fun h2 => ?_⟩, fun h1 => ?_⟩
      · simp only [hH, stdH, zqz, ne_eq, zqy] at h1 ⊢
        omega
      · simp only [hH, stdH, zqz, ne_eq, zqy] at h1 ⊢
        exact fun _ => by omega
      · simp only [hH, stdH, zqz, ne_eq, zqy] at h1
        simp only [hH, stdH, Int.toNat_natCast] at h2
        rw [nm_1 s hi0, Bool.not_eq_true'] at h2
        try simp only [hH, stdH, zqz, ne_eq, zqy]
        exact okNm_bad (by omega) h2
      · simp only [hH, stdH, zqz, ne_eq, zqy] at h1
        simp only [hH, stdH, Int.toNat_natCast] at h2
        rw [nm_1 s hi0, Bool.not_eq_false'] at h2
        refine ⟨⟨i + 1, by omega, by omega, fun j hj' => ?_⟩, by simp only; omega, ?_⟩
        · rcases Nat.lt_succ_iff_lt_or_eq.1 hj' with h | rfl
          · exact hj j h
          · exact h2
        · rw [hI]
          (conv in matchSt _ _ _ _ => cbv); simp only [AllG, AllP, and_true, hH, stdH, zql, ncast, zqe, zqy]
          rw [w1 (by omega)]
          all_goals (repeat' (with_reducible refine And.intro ?_ ?_)) <;> (first | exact Eq.refl _ | exact True.intro | exact Nat.le_refl _ | exact List.length_append | exact c.rqN)
      · simp only [hH, stdH, zqz, ne_eq, zqy] at h1
        try simp only [hH, stdH, zqz, ne_eq, zqy]
        rw [okNm_all fun j hj' => hj j (by omega)]
        exact decide_eq_true hs
noncomputable def e_l16Name : Entry := pureE 110 fun H a => match a with
  | [.lit (.string s)] => some (.lit (.bool (H Bool fun _ => okNm s)), [H Prop fun _ => s.size ≤ 2000000])
  | _ => none
theorem eok_l16Name : EntryOk Tryz.prog e_l16Name := pureM_ok (by unfold isBody; kernel_rfl) (by
  intro a r ob e hob
  split at e
  · rename_i s
    simp only [zqt] at e
    obtain ⟨rfl, rfl⟩ := e
    exact ConN.args (.cons .rfl .nil) (c_l16Name s hob.1)
  · simp at e)

end Go.Proofs.YtcjjffmbhionmaaGreatDoor.AM

