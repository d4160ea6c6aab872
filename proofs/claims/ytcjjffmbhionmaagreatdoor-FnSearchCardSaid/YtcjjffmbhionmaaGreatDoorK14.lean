/- Lemmas and contracts (Ftp); conditions: none. -/
import Derived.Test.YtcjjffmbhionmaaGreatDoorK03
import Derived.Test.YtcjjffmbhionmaaGreatDoorK10
import Derived.Test.YtcjjffmbhionmaaGreatDoorK11
import Derived.Test.YtcjjffmbhionmaaGreatDoorK13
set_option linter.unusedVariables false
set_option linter.unusedSimpArgs false
set_option maxRecDepth 100000
set_option maxHeartbeats 4000000
set_option cbv.maxSteps 3000000
namespace Go.Proofs.YtcjjffmbhionmaaGreatDoor.AM
/- The features of arms; conditions: none. -/
theorem gB {g : Grp} (h : (noG g || okG g) = true) : (0 ≤ g.c ∧ g.c ≤ 6) ∧ (0 ≤ g.k ∧ g.k ≤ 8) ∧ (0 ≤ g.t ∧ g.t ≤ 9) := by
  rw [Bool.or_eq_true] at h
  rcases h with h | h
  · unfold noG at h
    simp only [Bool.and_eq_true, decide_eq_true_eq] at h
    omega
  · unfold okG attF inB at h
    simp only [Bool.and_eq_true, decide_eq_true_eq] at h
    have h1 := h.1.1
    have h2 := h.2
    have h3 := h.1.2
    refine ⟨by omega, ?_, by omega⟩
    repeat' split at h3
    all_goals first | (simp only [Bool.and_eq_true, decide_eq_true_eq] at h3; omega) | omega
structure ABd (a : Arm) : Prop where
  d : 0 ≤ a.f.d ∧ a.f.d ≤ 7
  fl : 0 ≤ a.f.l ∧ a.f.l ≤ 4
  o : 0 ≤ a.o ∧ a.o ≤ 7
  l : 0 ≤ a.l ∧ a.l ≤ 4
  nc : 0 ≤ a.n.c ∧ a.n.c ≤ 6
  rc : 0 ≤ a.r.c ∧ a.r.c ≤ 6
  nk : 0 ≤ a.n.k ∧ a.n.k ≤ 8
  rk : 0 ≤ a.r.k ∧ a.r.k ≤ 8
  t : ∀ x ∈ tinA a, 1 ≤ x ∧ x ≤ 9
theorem mem_nz {x y : Int} (h : x ∈ nz y) : x = y ∧ y ≠ 0 := by
  unfold nz at h
  split at h
  · cases h
  · rw [List.mem_singleton] at h
    rename_i q
    exact ⟨h, q⟩
theorem okA_bd {a : Arm} (h : okA a = true) : ABd a := by
  unfold okA okF inB at h
  simp only [Bool.and_eq_true, decide_eq_true_eq] at h
  obtain ⟨⟨⟨⟨⟨h1, h2⟩, h3⟩, h4⟩, h5⟩, h6⟩ := h
  have hr := gB h5
  have hn : ((0 ≤ a.n.c ∧ a.n.c ≤ 6) ∧ (0 ≤ a.n.k ∧ a.n.k ≤ 8) ∧ (0 ≤ a.n.t ∧ a.n.t ≤ 9)) ∧ (0 ≤ a.o ∧ a.o ≤ 7) ∧ (0 ≤ a.l ∧ a.l ≤ 4) ∧ (0 ≤ a.t ∧ a.t ≤ 9) := by
    split at h6
    · rename_i q
      simp only [Bool.and_eq_true, decide_eq_true_eq] at h6
      exact ⟨gB (by rw [h6.2]; rfl), by omega, by omega, by omega⟩
    · simp only [Bool.and_eq_true, decide_eq_true_eq] at h6
      exact ⟨gB h6.2, by omega, by omega, by omega⟩
  have hf : ∀ x ∈ tinF a.f, 1 ≤ x ∧ x ≤ 9 := fun x hx => by
    unfold tinF at hx
    split at h4
    · rename_i q
      rw [if_pos q, List.mem_singleton] at hx
      omega
    · rename_i q
      simp only [Bool.and_eq_true, decide_eq_true_eq] at h4
      rw [if_neg q] at hx
      simp only [zqu] at hx
      rcases hx with rfl | rfl <;> omega
  refine ⟨h1, h2, hn.2.1, hn.2.2.1, hn.1.1, hr.1, hn.1.2.1, hr.2.1, fun x hx => ?_⟩
  unfold tinA at hx
  simp only [List.mem_append] at hx
  rcases hx with ((hx | hx) | hx) | hx
  · exact hf x hx
  · obtain ⟨rfl, q⟩ := mem_nz hx
    omega
  · obtain ⟨rfl, q⟩ := mem_nz hx
    omega
  · obtain ⟨rfl, q⟩ := mem_nz hx
    omega
theorem tinA_len (a : Arm) : (tinA a).length ≤ 5 := by
  have h1 : (tinF a.f).length ≤ 2 := by unfold tinF; split <;> simp
  have h2 : ∀ x, (nz x).length ≤ 1 := fun x => by unfold nz; split <;> simp
  have := h2 a.t
  have := h2 a.n.t
  have := h2 a.r.t
  unfold tinA
  simp only [List.length_append]
  omega
def ftX (p : ByteArray) (x : Int) : ByteArray := p ++ numD x.toNat
def fcT : ByteArray := (⟨⟨[116]⟩⟩ : ByteArray)
def fcD : ByteArray := (⟨⟨[100]⟩⟩ : ByteArray)
def fcO : ByteArray := (⟨⟨[111]⟩⟩ : ByteArray)
def fcN : ByteArray := (⟨⟨[110]⟩⟩ : ByteArray)
def fcL : ByteArray := (⟨⟨[108]⟩⟩ : ByteArray)
def fcK : ByteArray := (⟨⟨[107]⟩⟩ : ByteArray)
def ftB (a : Arm) : List ByteArray := [ftX fcD a.f.d, ftX fcO a.o, ftX fcN (a.n.c + a.r.c)]
def ftT (a : Arm) (i : Nat) : List ByteArray := ((tinA a).take i).map (ftX fcT)
def ftL (a : Arm) (i : Nat) : List ByteArray := (([a.f.l, a.l].take i).filter fun x => decide (x ≠ 0)).map (ftX fcL)
def ftK (a : Arm) (i : Nat) : List ByteArray := (([a.n, a.r].take i).filter fun g => !noG g).map fun g => ftX fcK g.k
def ftU (a : Arm) : List ByteArray := ftB a ++ ftT a (tinA a).length ++ ftL a 2 ++ ftK a 2
def ftP (a : Arm) : List ByteArray := cmpL (srt (ftU a))
theorem c_charges (a : Arm) (h0 : (0 ≤ a.n.c ∧ a.n.c ≤ 6) ∧ (0 ≤ a.r.c ∧ a.r.c ≤ 6)) : ConN Tryz.prog 89 [aT rowA stdH fun _ => a] [] 0 (.lit (.int .i64 (stdH Int fun _ => a.n.c + a.r.c))) [] [] := by
  have hB : Base Tryz.prog (tabΓ []) tab := base_of tabOk (ents_nil)
  refine con_m (N := 10) hB (draw_ok hB mixed) Tryz.func89 rfl rfl (fun H => [aT rowA H fun _ => a]) (fun _ => []) 0 (fun H => .lit (.int .i64 (H Int fun _ => a.n.c + a.r.c))) (fun H => []) (fun _ => []) 60 (by simp) (fun x hx => ?_) (by simp [lk]) (by omega) (by simp) ?_
  · simp only [zqu] at hx
    rcases hx with rfl
    · exact aT_bl okRA _ _
  intro X hX hX0 H hH
  conv in Fin.chk _ _ => cbv
  try simp only [zqs, Plain_rowsC, zqx, AllP, zqw, upd, if_true]
  subst hH
  simp only [stdH]
  rw [wi (by omega) (by omega)]
noncomputable def e_charges : Entry := pureE 89 fun H a => match a with
  | [.agg [.lit (.int .i64 a0), .lit (.int .i64 a1), .lit (.int .i64 a2), .lit (.int .i64 a3), .lit (.int .i64 a4), .lit (.int .i64 a5), .lit (.int .i64 a6), .lit (.int .i64 a7), .lit (.int .i64 a8), .lit (.int .i64 a9), .lit (.int .i64 a10), .lit (.int .i64 a11), .lit (.int .i64 a12), .lit (.int .i64 a13), .lit (.int .i64 a14)]] => some (.lit (.int .i64 (H Int fun _ => (⟨⟨a0, a1, a2, a3⟩, a4, a5, a6, ⟨a7, a8, a9, a10⟩, ⟨a11, a12, a13, a14⟩⟩ : Arm).n.c + (⟨⟨a0, a1, a2, a3⟩, a4, a5, a6, ⟨a7, a8, a9, a10⟩, ⟨a11, a12, a13, a14⟩⟩ : Arm).r.c)), [H Prop fun _ => (0 ≤ (⟨⟨a0, a1, a2, a3⟩, a4, a5, a6, ⟨a7, a8, a9, a10⟩, ⟨a11, a12, a13, a14⟩⟩ : Arm).n.c ∧ (⟨⟨a0, a1, a2, a3⟩, a4, a5, a6, ⟨a7, a8, a9, a10⟩, ⟨a11, a12, a13, a14⟩⟩ : Arm).n.c ≤ 6) ∧ (0 ≤ (⟨⟨a0, a1, a2, a3⟩, a4, a5, a6, ⟨a7, a8, a9, a10⟩, ⟨a11, a12, a13, a14⟩⟩ : Arm).r.c ∧ (⟨⟨a0, a1, a2, a3⟩, a4, a5, a6, ⟨a7, a8, a9, a10⟩, ⟨a11, a12, a13, a14⟩⟩ : Arm).r.c ≤ 6)])
  | _ => none
theorem eok_charges : EntryOk Tryz.prog e_charges := pureM_ok (by unfold isBody; kernel_rfl) (by
  intro a r ob e hob
  split at e
  · rename_i a0 a1 a2 a3 a4 a5 a6 a7 a8 a9 a10 a11 a12 a13 a14
    simp only [zqt] at e
    obtain ⟨rfl, rfl⟩ := e
    exact ConN.args (.cons .rfl .nil) (c_charges (⟨⟨a0, a1, a2, a3⟩, a4, a5, a6, ⟨a7, a8, a9, a10⟩, ⟨a11, a12, a13, a14⟩⟩ : Arm) hob.1)
  · simp at e)
theorem ftT_s {a : Arm} {i : Nat} (h : i < (tinA a).length) : ftT a (i + 1) = ftT a i ++ [ftX fcT (lget (tinA a) i)] := by
  unfold lget
  unfold ftT
  rw [List.take_succ_eq_append_getElem h, List.map_append, List.map_cons, List.map_nil, List.getD_eq_getElem?_getD, List.getElem?_eq_getElem h, Option.getD_some]
theorem ftT_len (a : Arm) (i : Nat) : (ftT a i).length ≤ 5 := by
  have := tinA_len a
  unfold ftT
  rw [List.length_map, List.length_take]; omega
theorem ftL_len (a : Arm) (i : Nat) : (ftL a i).length ≤ 2 := by
  unfold ftL
  rw [List.length_map]
  exact Nat.le_trans (List.length_filter_le _ _) (by rw [List.length_take]; simp; omega)
theorem ftK_len (a : Arm) (i : Nat) : (ftK a i).length ≤ 2 := by
  unfold ftK
  rw [List.length_map]
  exact Nat.le_trans (List.length_filter_le _ _) (by rw [List.length_take]; simp; omega)
theorem lget_mem {l : List Int} {i : Nat} (h : i < l.length) : lget l i ∈ l := by
  unfold lget
  rw [List.getD_eq_getElem?_getD, List.getElem?_eq_getElem h, Option.getD_some]
  exact List.getElem_mem h
theorem tinA_pos (a : Arm) : 1 ≤ (tinA a).length := by
  have h1 : 1 ≤ (tinF a.f).length := by unfold tinF; split <;> simp
  unfold tinA
  simp only [List.length_append]
  omega
theorem RowsEq.selfNN (n : Nat) (L : List Int) : RowsEq 1 n (rowsN .i64 stdH fun _ => L) n (rowsN .i64 stdH fun _ => L) := ⟨rfl, fun j _ => ⟨rfl, rfl, fun x hx => by simp [rowsN] at hx; subst hx; exact .lit⟩⟩
theorem ftL_y {a : Arm} {k : Nat} (hk : k < 2) (h : ¬ [a.f.l, a.l].getD k 0 = 0) : ftL a (k + 1) = ftL a k ++ [ftX fcL ([a.f.l, a.l].getD k 0)] := by
  obtain rfl | rfl : k = 0 ∨ k = 1 := by omega
  · have h : ¬ a.f.l = 0 := h
    simp [ftL, h]
  · have h : ¬ a.l = 0 := h
    by_cases q : a.f.l = 0 <;> simp [ftL, q, h]
theorem ftL_n {a : Arm} {k : Nat} (hk : k < 2) (h : [a.f.l, a.l].getD k 0 = 0) : ftL a (k + 1) = ftL a k := by
  obtain rfl | rfl : k = 0 ∨ k = 1 := by omega
  · have h : a.f.l = 0 := h
    simp [ftL, h]
  · have h : a.l = 0 := h
    by_cases q : a.f.l = 0 <;> simp [ftL, q, h]
theorem ln_bd {a : Arm} (bd : ABd a) {k : Nat} (hk : k < 2) : 0 ≤ [a.f.l, a.l].getD k 0 ∧ [a.f.l, a.l].getD k 0 ≤ 4 := by
  obtain rfl | rfl : k = 0 ∨ k = 1 := by omega
  · exact bd.fl
  · exact bd.l
def rpl1 (t : Nat) (x : AV) : Env → Env
  | [] => []
  | (q, y) :: e => bif Nat.beq q t then (q, x) :: rpl1 t x e else (q, y) :: rpl1 t x e
theorem loop_d {P : Program} {Γ : Cons} {τ : Tab} {X : Ctx} {rs : List ResultVar} {As : Nat → St → Prop} (hB : Base P Γ τ) (hD : DrawOk P Γ τ) {c : Code} {k : List KI} {ctx : List (List KI)} {s : St} {N n0 : Nat} (hN : X.N = N) (h0 : X.n0 = n0) {H : Hold} (hH : H = stdH) (keep : List Nat) (t : Nat) (x : AV) {ι : Type} (n : Nat) (at' : ι → List Atom) (μ : ι → Nat) (i0 : ι) (hi : AllG (matchSt H n0 (mkI n0 true c (k :: ctx) rs ⟨rpl1 t x (flt keep s.env), s.heap, s.next⟩ (at' i0)) s))
    {n1 : Nat} {r : AV} {nw : List Blk} {u : Heap} (round : ∀ (I : ι → St), (∀ i, I i = mkI n0 true c (k :: ctx) rs ⟨rpl1 t x (flt keep s.env), s.heap, s.next⟩ (at' i)) → ∀ i, ((finish H Γ τ N n rs (k :: ctx) (arun H Γ τ N n [.code c] (mkI n0 true c (k :: ctx) rs ⟨rpl1 t x (flt keep s.env), s.heap, s.next⟩ (at' i)))).chk (matchEx H n1 r nw u)).satC P X τ rs (fun x hp => ∃ π, Exp π n1 r nw u x hp) (upd As (ctx.length + 1) (fun s' => ∃ j, μ j < μ i ∧ AllG (matchSt H n0 (I j) s')))) : (Fin.loop c (k :: ctx) s).satC P X τ rs (fun x hp => ∃ π, Exp π n1 r nw u x hp) As :=
  loop_m hB hD hN h0 hH n (fun i => mkI n0 true c (k :: ctx) rs ⟨rpl1 t x (flt keep s.env), s.heap, s.next⟩ (at' i)) μ i0 hi (round _ fun _ => rfl)
theorem TlSn {L : List ByteArray} {n : Nat} (h : L.length = n) : Tl rowS n (rowsS stdH fun _ => L) = L := by
  subst h
  exact Tl_rowsT okS L
theorem RowsEq.preS (L z : List ByteArray) : RowsEq 1 L.length (rowsS stdH fun _ => L) L.length (rowsS stdH fun _ => L ++ z) := ⟨rfl, fun j hj => ⟨by
  have : (L ++ z).getD j ByteArray.empty = L.getD j ByteArray.empty := by
    rw [List.getD_eq_getElem?_getD, List.getElem?_append_left hj, List.getD_eq_getElem?_getD]
  show [AV.lit (.string (L.getD j ByteArray.empty))] = [AV.lit (.string ((L ++ z).getD j ByteArray.empty))]
  rw [this], rfl, fun x hx => by simp [rowsS] at hx; subst hx; exact .lit⟩⟩
theorem RowsEq.litG2 (g q : Grp) : RowsEq 4 2 (rowsG stdH fun _ => [g, q]) 2 (rowsOf 4 [.lit (.int .i64 g.c), .lit (.int .i64 g.k), .lit (.int .i64 g.a), .lit (.int .i64 g.t), .lit (.int .i64 q.c), .lit (.int .i64 q.k), .lit (.int .i64 q.a), .lit (.int .i64 q.t)]) := ⟨rfl, fun j hj => by
  rcases (show j = 0 ∨ j = 1 by omega) with rfl | rfl <;> exact ⟨rfl, rfl, fun c hc => by simp [rowsG] at hc; rcases hc with rfl | rfl | rfl | rfl <;> exact .lit⟩⟩
theorem RowsEq.selfGG (n : Nat) (L : List Grp) : RowsEq 4 n (rowsG stdH fun _ => L) n (rowsG stdH fun _ => L) := ⟨rfl, fun j _ => ⟨rfl, rfl, fun c hc => by simp [rowsG] at hc; rcases hc with rfl | rfl | rfl | rfl <;> exact .lit⟩⟩
theorem noG_all (g : Grp) : (!allT [fun _ => g.c == 0, fun _ => g.k == 0, fun _ => g.a == 0, fun _ => g.t == 0]) = !noG g := by
  unfold noG
  simp only [allT, beqd]
  cases decide (g.c = 0) <;> cases decide (g.k = 0) <;> cases decide (g.a = 0) <;> cases decide (g.t = 0) <;> rfl
theorem ftK_y {a : Arm} {k : Nat} (hk : k < 2) (h : noG ([a.n, a.r].getD k default) = false) : ftK a (k + 1) = ftK a k ++ [ftX fcK ([a.n, a.r].getD k default).k] := by
  obtain rfl | rfl : k = 0 ∨ k = 1 := by omega
  · have h : noG a.n = false := h
    simp [ftK, h]
  · have h : noG a.r = false := h
    cases q : noG a.n <;> simp [ftK, q, h]
theorem ftK_n {a : Arm} {k : Nat} (hk : k < 2) (h : noG ([a.n, a.r].getD k default) = true) : ftK a (k + 1) = ftK a k := by
  obtain rfl | rfl : k = 0 ∨ k = 1 := by omega
  · have h : noG a.n = true := h
    simp [ftK, h]
  · have h : noG a.r = true := h
    cases q : noG a.n <;> simp [ftK, q, h]
theorem gk_bd {a : Arm} (bd : ABd a) {k : Nat} (hk : k < 2) : 0 ≤ ([a.n, a.r].getD k default).k ∧ ([a.n, a.r].getD k default).k ≤ 8 := by
  obtain rfl | rfl : k = 0 ∨ k = 1 := by omega
  · exact bd.nk
  · exact bd.rk
theorem ftU_len (a : Arm) : (ftU a).length ≤ 12 := by
  have h1 := ftT_len a (tinA a).length
  have h2 := ftL_len a 2
  have h3 := ftK_len a 2
  have h4 : (ftB a).length = 3 := rfl
  unfold ftU
  simp only [List.length_append]
  omega
theorem c_featuresA (a : Arm) (h0 : okA a = true) : ConN Tryz.prog 45 [aT rowA stdH fun _ => a] [] 0 (.vec 1 (stdH Nat fun _ => (ftP a).length) (rowsS stdH fun _ => ftP a)) [] [] := by
  have hB : Base Tryz.prog (tabΓ [e_itoaN, e_tinA, e_charges, e_sortS, e_cpcS]) tabO := base_of tabOkO (ents_cons eok_itoaN <| ents_cons eok_tinA <| ents_cons eok_charges <| ents_cons eok_sortS <| ents_cons eok_cpcS <| ents_nil)
  refine con_m (N := 83) hB (draw_ok hB mixed) Tryz.func45 rfl rfl (fun H => [aT rowA H fun _ => a]) (fun _ => []) 0 (fun H => .vec 1 (H Nat fun _ => (ftP a).length) (rowsS H fun _ => ftP a)) (fun H => []) (fun _ => []) 600 (by simp) (fun x hx => ?_) (by simp [lk]) (by omega) (by simp) ?_
  · simp only [zqu] at hx
    rcases hx with rfl
    · exact aT_bl okRA _ _
  intro X hX hX0 H hH
  conv in Fin.chk _ _ => cbv
  try simp only [zqs, Plain_rowsC, zqx, AllP, zqw, upd, if_true]
  have bd := okA_bd h0
  have tl := tinA_len a
  have b1 := bd.d
  have b2 := bd.o
  have b3 := bd.nc
  have b4 := bd.rc
  have z1 := numD_sz4 (i := a.f.d.toNat) (by omega)
  have z2 := numD_sz4 (i := a.o.toNat) (by omega)
  have z3 := numD_sz4 (i := (a.n.c + a.r.c).toNat) (by omega)
  simp only [hetaA hH]
  refine ⟨?_, ?_, ?_, ?_, ?_, ?_, ?_, ?_⟩
  · try simp only [hH, stdH, zqz, ne_eq, zqy]
    omega
  · simp only [hH, stdH, bsz, List.length_cons, List.length_nil]
    omega
  · try simp only [hH, stdH, zqz, ne_eq, zqy]
    omega
  · simp only [hH, stdH, bsz, List.length_cons, List.length_nil]
    omega
  · try simp only [hH, stdH, zqz, ne_eq, zqy]
    omega
  · try simp only [hH, stdH, zqz, ne_eq, zqy]
    omega
  · simp only [hH, stdH, bsz, List.length_cons, List.length_nil]
    omega
  refine loop_peel hB (draw_ok hB mixed) hX hH 600 ?_
  conv in Fin.chk _ _ => cbv
  try simp only [zqs, Plain_rowsC, zqx, AllP, zqw, upd, if_true]
  have tp := tinA_pos a
  refine ⟨fun h1 => ?_, fun h1 => ?_⟩
  · refine ⟨?_, ?_, ?_, ?_, ?_⟩
    · simp only [hH, stdH, zqz, ne_eq, zqy] at h1 ⊢
      omega
    · have := bd.t _ (lget_mem (l := tinA a) (i := 0) (by omega))
      simp only [hH, stdH, show Int.toNat 0 = 0 from rfl]
      omega
    · have := bd.t _ (lget_mem (l := tinA a) (i := 0) (by omega))
      have := numD_sz4 (i := (lget (tinA a) 0).toNat) (by omega)
      simp only [hH, stdH, show Int.toNat 0 = 0 from rfl, bsz, List.length_cons, List.length_nil]
      omega
    · try simp only [hH, stdH, zqz, ne_eq, zqy]
      omega
    have g0 : 1 ≤ 1 ∧ 1 ≤ (tinA a).length := ⟨Nat.le_refl _, tp⟩
    refine loopK_c hB (draw_ok hB mixed) hX hX0 hH [1, 2, 3, 25, 26, 27] (ι := { i : Nat // 1 ≤ i ∧ i ≤ (tinA a).length }) 600 (fun i => [.r (H Nat fun _ => (ftB a ++ ftT a i.1).length) (rowsS H fun _ => ftB a ++ ftT a i.1), .i (H Int fun _ => (i.1 : Nat))]) (fun i => (tinA a).length - i.1) (⟨1, g0⟩) ?_ ?_
    · (conv in matchSt _ _ _ _ => cbv); simp only [AllG, AllP, and_true, hH, stdH, zql, ncast, zqe, zqy]
      have e1 : ftT a 1 = [ftX fcT (lget (tinA a) 0)] := ftT_s (i := 0) (by omega)
      rw [e1]
      (repeat' (with_reducible refine And.intro ?_ ?_)) <;> (first | exact True.intro | exact Eq.refl _ | exact RowsEq.self okI | exact RowsEq.snocS (L := ftB a) (x := ftX fcT (lget (tinA a) 0)) rfl)
    · intro I hI i
      conv in Fin.chk _ _ => cbv
      try simp only [zqs, Plain_rowsC, zqx, AllP, zqw, upd, if_true]
      obtain ⟨i, hi0, hi⟩ := i
      have hB3 : (ftB a).length = 3 := rfl
      have hT5 := ftT_len a i
      have hLn : (ftB a ++ ftT a i).length = 3 + (ftT a i).length := by rw [List.length_append, hB3]
      refine ⟨fun h1 => ⟨?_, ?_, ?_, ⟨?_, ?_⟩, ?_⟩, fun h1 => ?_⟩
      · simp only [hH, stdH, zqz, ne_eq, zqy] at h1 ⊢
        omega
      · simp only [hH, stdH, zqz, ne_eq, zqy] at h1
        have := bd.t _ (lget_mem (l := tinA a) (i := i) (by omega))
        simp only [hH, stdH, Int.toNat_natCast]
        omega
      · simp only [hH, stdH, zqz, ne_eq, zqy] at h1
        have := bd.t _ (lget_mem (l := tinA a) (i := i) (by omega))
        have := numD_sz4 (i := (lget (tinA a) i).toNat) (by omega)
        simp only [hH, stdH, Int.toNat_natCast, bsz, List.length_cons, List.length_nil]
        omega
      · try simp only [hH, stdH, zqz, ne_eq, zqy]
      · simp only [hH, stdH, hLn]
        omega
      · simp only [hH, stdH, zqz, ne_eq, zqy] at h1
        refine ⟨⟨i + 1, by omega, by omega⟩, by simp only; omega, ?_⟩
        rw [hI]
        (conv in matchSt _ _ _ _ => cbv); simp only [AllG, AllP, and_true, hH, stdH, zql, ncast, zqe, zqy]
        simp only [Int.toNat_natCast]
        rw [w1 (by omega), ftT_s (by omega), ← List.append_assoc]
        (repeat' (with_reducible refine And.intro ?_ ?_)) <;> (first | exact True.intro | exact Eq.refl _ | exact RowsEq.self okI | exact RowsEq.snocS rfl | exact List.length_append)
      · simp only [hH, stdH, zqz, ne_eq, zqy] at h1
        obtain rfl : i = (tinA a).length := by omega
        refine loop_c hB (draw_ok hB mixed) hX hX0 hH [1, 2, 3, 43, 44, 45] (ι := { k : Nat // k ≤ 2 }) 600 (fun k => [.r (H Nat fun _ => (ftB a ++ ftT a (tinA a).length ++ ftL a k.1).length) (rowsS H fun _ => ftB a ++ ftT a (tinA a).length ++ ftL a k.1), .i (H Int fun _ => (k.1 : Nat))]) (fun k => 2 - k.1) (⟨0, Nat.zero_le _⟩) ?_ ?_
        · (conv in matchSt _ _ _ _ => cbv); simp only [AllG, AllP, and_true, hH, stdH, zql, ncast, zqe, zqy]
          have e1 : ftB a ++ ftT a (tinA a).length ++ ftL a 0 = ftB a ++ ftT a (tinA a).length := List.append_nil _
          rw [e1]
          (repeat' (with_reducible refine And.intro ?_ ?_)) <;> (first | exact True.intro | exact Eq.refl _ | exact RowsEq.selfNN _ _ | exact RowsEq.self okS)
        · intro I2 hI2 k
          conv in Fin.chk _ _ => cbv
          try simp only [zqs, Plain_rowsC, zqx, AllP, zqw, upd, if_true]
          obtain ⟨k, hk⟩ := k
          have hL2 := ftL_len a k
          have hLk : (ftB a ++ ftT a (tinA a).length ++ ftL a k).length = 3 + (ftT a (tinA a).length).length + (ftL a k).length := by rw [List.length_append, List.length_append, hB3]
          refine ⟨fun h1 => ⟨?_, fun h2 => ⟨?_, ?_, ⟨?_, ?_⟩, ?_⟩, fun h2 => ?_⟩, fun h1 => ?_⟩
          · simp only [hH, stdH, zqz, ne_eq, zqy] at h1 ⊢
            omega
          · simp only [hH, stdH, zqz, ne_eq, zqy] at h1
            have := ln_bd bd (k := k) (by omega)
            simp only [hH, stdH, Int.toNat_natCast]
            omega
          · simp only [hH, stdH, zqz, ne_eq, zqy] at h1
            have := ln_bd bd (k := k) (by omega)
            have := numD_sz4 (i := ([a.f.l, a.l].getD k 0).toNat) (by omega)
            simp only [hH, stdH, Int.toNat_natCast, bsz, List.length_cons, List.length_nil]
            omega
          · try simp only [hH, stdH, zqz, ne_eq, zqy]
          · simp only [hH, stdH, hLk]
            omega
          · simp only [hH, stdH, zqz, ne_eq, zqy] at h1
            simp only [hH, stdH, Int.toNat_natCast, bne_iff_ne, ne_eq] at h2
            refine ⟨⟨k + 1, by omega⟩, by simp only; omega, ?_⟩
            rw [hI2]
            (conv in matchSt _ _ _ _ => cbv); simp only [AllG, AllP, and_true, hH, stdH, zql, ncast, zqe, zqy]
            simp only [Int.toNat_natCast]
            rw [w1 (by omega), ftL_y (by omega) h2, ← List.append_assoc]
            (repeat' (with_reducible refine And.intro ?_ ?_)) <;> (first | exact True.intro | exact Eq.refl _ | exact RowsEq.selfNN _ _ | exact RowsEq.snocS rfl | exact List.length_append)
          · simp only [hH, stdH, zqz, ne_eq, zqy] at h1
            simp only [hH, stdH, Int.toNat_natCast, bne_eq_false_iff_eq] at h2
            refine ⟨⟨k + 1, by omega⟩, by simp only; omega, ?_⟩
            rw [hI2]
            (conv in matchSt _ _ _ _ => cbv); simp only [AllG, AllP, and_true, hH, stdH, zql, ncast, zqe, zqy]
            rw [w1 (by omega), ftL_n (by omega) h2]
            (repeat' (with_reducible refine And.intro ?_ ?_)) <;> (first | exact True.intro | exact Eq.refl _ | exact RowsEq.selfNN _ _ | exact RowsEq.self okS)
          · simp only [hH, stdH, zqz, ne_eq, zqy] at h1
            obtain rfl : k = 2 := by omega
            refine loop_d hB (draw_ok hB mixed) hX hX0 hH [1, 2, 3, 62, 63, 64] 62 (.vec 4 2 (rowsG H fun _ => [a.n, a.r])) (ι := { m : Nat // m ≤ 2 }) 600 (fun m => [.r (H Nat fun _ => (ftB a ++ ftT a (tinA a).length ++ ftL a 2 ++ ftK a m.1).length) (rowsS H fun _ => ftB a ++ ftT a (tinA a).length ++ ftL a 2 ++ ftK a m.1), .i (H Int fun _ => (m.1 : Nat))]) (fun m => 2 - m.1) (⟨0, Nat.zero_le _⟩) ?_ ?_
            · (conv in matchSt _ _ _ _ => cbv); simp only [AllG, AllP, and_true, hH, stdH, zql, ncast, zqe, zqy]
              have e1 : ftB a ++ ftT a (tinA a).length ++ ftL a 2 ++ ftK a 0 = ftB a ++ ftT a (tinA a).length ++ ftL a 2 := List.append_nil _
              rw [e1]
              (repeat' (with_reducible refine And.intro ?_ ?_)) <;> (first | exact True.intro | exact Eq.refl _ | exact RowsEq.litG2 _ _ | exact RowsEq.self okS)
            · intro I3 hI3 m
              conv in Fin.chk _ _ => cbv
              try simp only [zqs, Plain_rowsC, zqx, AllP, zqw, upd, if_true]
              obtain ⟨m, hm⟩ := m
              have hK2 := ftK_len a m
              have hKm : (ftB a ++ ftT a (tinA a).length ++ ftL a 2 ++ ftK a m).length = 3 + (ftT a (tinA a).length).length + (ftL a 2).length + (ftK a m).length := by rw [List.length_append, List.length_append, List.length_append, hB3]
              refine ⟨fun h1 => ⟨?_, fun h2 => ⟨?_, ?_, ⟨?_, ?_⟩, ?_⟩, fun h2 => ?_⟩, fun h1 => ?_⟩
              · simp only [hH, stdH, zqz, ne_eq, zqy] at h1 ⊢
                omega
              · simp only [hH, stdH, zqz, ne_eq, zqy] at h1
                have := gk_bd bd (k := m) (by omega)
                simp only [hH, stdH, Int.toNat_natCast]
                omega
              · simp only [hH, stdH, zqz, ne_eq, zqy] at h1
                have := gk_bd bd (k := m) (by omega)
                have := numD_sz4 (i := ([a.n, a.r].getD m default).k.toNat) (by omega)
                simp only [hH, stdH, Int.toNat_natCast, bsz, List.length_cons, List.length_nil]
                omega
              · try simp only [hH, stdH, zqz, ne_eq, zqy]
              · simp only [hH, stdH, hKm]
                omega
              · simp only [hH, stdH, zqz, ne_eq, zqy] at h1
                simp only [hH, stdH, Int.toNat_natCast, noG_all, Bool.not_eq_true'] at h2
                refine ⟨⟨m + 1, by omega⟩, by simp only; omega, ?_⟩
                rw [hI3]
                (conv in matchSt _ _ _ _ => cbv); simp only [AllG, AllP, and_true, hH, stdH, zql, ncast, zqe, zqy]
                simp only [Int.toNat_natCast]
                rw [w1 (by omega), ftK_y (by omega) h2, ← List.append_assoc]
                (repeat' (with_reducible refine And.intro ?_ ?_)) <;> (first | exact True.intro | exact Eq.refl _ | exact RowsEq.selfGG _ _ | exact RowsEq.snocS rfl | exact List.length_append)
              · simp only [hH, stdH, zqz, ne_eq, zqy] at h1
                simp only [hH, stdH, Int.toNat_natCast, noG_all, Bool.not_eq_false'] at h2
                refine ⟨⟨m + 1, by omega⟩, by simp only; omega, ?_⟩
                rw [hI3]
                (conv in matchSt _ _ _ _ => cbv); simp only [AllG, AllP, and_true, hH, stdH, zql, ncast, zqe, zqy]
                rw [w1 (by omega), ftK_n (by omega) h2]
                (repeat' (with_reducible refine And.intro ?_ ?_)) <;> (first | exact True.intro | exact Eq.refl _ | exact RowsEq.selfGG _ _ | exact RowsEq.self okS)
              · simp only [hH, stdH, zqz, ne_eq, zqy] at h1
                obtain rfl : m = 2 := by omega
                have hu := ftU_len a
                have hP : ftP a = cmpL (srt (ftU a)) := rfl
                have hU : ftB a ++ ftT a (tinA a).length ++ ftL a 2 ++ ftK a 2 = ftU a := rfl
                subst hH
                simp only [stdH, hU, TlSn (L := ftU a) rfl, TlSn (srt_len (ftU a)), hP]
                obtain ⟨z, hz⟩ := cmpR_eq (srt (ftU a))
                have hle := cmpL_le (srt (ftU a))
                have hsl := srt_len (ftU a)
                rw [srt_len] at hle
                rw [hz]
                (repeat' (with_reducible refine And.intro ?_ ?_)) <;> (first | exact True.intro | exact Eq.refl _ | exact Shp_rowsT okS _ (fun _ => _) | omega | exact RowsEq.preS _ _)
  · exfalso
    simp only [hH, stdH, zqz, ne_eq, zqy] at h1
    omega
noncomputable def e_featuresA : Entry := pureE 45 fun H a => match a with
  | [.agg [.lit (.int .i64 a0), .lit (.int .i64 a1), .lit (.int .i64 a2), .lit (.int .i64 a3), .lit (.int .i64 a4), .lit (.int .i64 a5), .lit (.int .i64 a6), .lit (.int .i64 a7), .lit (.int .i64 a8), .lit (.int .i64 a9), .lit (.int .i64 a10), .lit (.int .i64 a11), .lit (.int .i64 a12), .lit (.int .i64 a13), .lit (.int .i64 a14)]] => some (.vec 1 (H Nat fun _ => (ftP (⟨⟨a0, a1, a2, a3⟩, a4, a5, a6, ⟨a7, a8, a9, a10⟩, ⟨a11, a12, a13, a14⟩⟩ : Arm)).length) (rowsS H fun _ => ftP (⟨⟨a0, a1, a2, a3⟩, a4, a5, a6, ⟨a7, a8, a9, a10⟩, ⟨a11, a12, a13, a14⟩⟩ : Arm)), [H Prop fun _ => okA (⟨⟨a0, a1, a2, a3⟩, a4, a5, a6, ⟨a7, a8, a9, a10⟩, ⟨a11, a12, a13, a14⟩⟩ : Arm) = true])
  | _ => none
theorem eok_featuresA : EntryOk Tryz.prog e_featuresA := pureM_ok (by unfold isBody; kernel_rfl) (by
  intro a r ob e hob
  split at e
  · rename_i a0 a1 a2 a3 a4 a5 a6 a7 a8 a9 a10 a11 a12 a13 a14
    simp only [zqt] at e
    obtain ⟨rfl, rfl⟩ := e
    exact ConN.args (.cons .rfl .nil) (c_featuresA (⟨⟨a0, a1, a2, a3⟩, a4, a5, a6, ⟨a7, a8, a9, a10⟩, ⟨a11, a12, a13, a14⟩⟩ : Arm) hob.1)
  · simp at e)

end Go.Proofs.YtcjjffmbhionmaaGreatDoor.AM

