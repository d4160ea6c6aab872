import Derived.Test.YtdicfibonfjalaaDoorAmT
import Derived.Test.YtdicfibonfjalaaDoorPcr
import Derived.Test.YtdicfibonfjalaaDoorDrC
import Derived.Test.YtdicfibonfjalaaDoorSpo
set_option linter.unusedVariables false
set_option linter.unusedSimpArgs false
set_option maxRecDepth 100000
set_option maxHeartbeats 4000000
set_option cbv.maxSteps 3000000
namespace Go.Proofs.YtdicfibonfjalaaDoor.AM
/- Crests: draws, ranks raised, words of ranks and helmets; conditions: none. -/
theorem crsT_sz (z : Crs) : (crsT z).size ≤ 250 := by
  have h1 := crsS_sz z.r
  have h2 := afterS_sz (grpT (grpC z))
  have h3 := grpT_sz (grpC z)
  unfold crsT
  rw [ByteArray.size_append]; omega
def enc_DrawIsValidCrest (H : Hold) (y : Unit → Crs) : AV := .agg [.lit (.int .i64 (H Int fun _ => (((y ())).k))), .lit (.int .i64 (H Int fun _ => (((y ())).a))), .lit (.int .i64 (H Int fun _ => (((y ())).t))), .lit (.int .i64 (H Int fun _ => (((y ())).r)))]
theorem x_DrawIsValidCrest (c : Cd) : ∃ y : Crs, Con Tryd.prog 55 [codeAV c] [] (enc_DrawIsValidCrest stdH fun _ => y) [] ∧ Bl 0 (enc_DrawIsValidCrest stdH fun _ => y) ∧ (fun _ => True) y := by
  have hB : Base Tryd.prog (tabΓ [e_crest c]) tab := base_of tabOk (ents_cons (eok_crest c) <| ents_nil)
  refine df_ok (N := 9) hB (draw_ok hB mixed) Tryd.func55 rfl rfl _ _ _ 60 (by simp) ?_
  intro H hH
  conv in finish _ _ _ _ _ _ _ _ => cbv
  subst hH
  simp only [Fin.sat0, Fin.sat1, stdH, Option.some.injEq, AV.lit.injEq, AV.agg.injEq, AV.tup.injEq, List.cons.injEq, Value.bool.injEq, Value.int.injEq, AllP, and_true, true_and, eq_self, decide_eq_true_eq, decide_eq_false_iff_not, Bool.not_eq_true', Bool.not_eq_false', peta, ncast]
  have h : Bd 64 (0, 0) := ⟨by decide, by decide⟩
  exact ⟨h.mono, (F_crest c (0, 0)).1, .refl, by unfold enc_DrawIsValidCrest; (first | exact .lit | exact blq_ok 4 rfl)⟩
noncomputable def F_DrawIsValidCrest (c : Cd) : Crs := dfw Tryd.prog 55 enc_DrawIsValidCrest (fun _ => True) c
noncomputable def e_DrawIsValidCrest (c : Cd) : Entry := codeE 55 c fun H => enc_DrawIsValidCrest H fun _ => F_DrawIsValidCrest c
theorem eok_DrawIsValidCrest (c : Cd) : EntryOk Tryd.prog (e_DrawIsValidCrest c) := codeE_ok (by unfold isBody; kernel_rfl) (dfw_spec (x_DrawIsValidCrest c)).1
theorem p_DrawIsValidCrest (c : Cd) : (fun _ => True) (F_DrawIsValidCrest c) := (dfw_spec (x_DrawIsValidCrest c)).2.2
def enc_DrawCrestText (H : Hold) (y : Unit → Crs) : AV := .agg [.lit (.int .i64 (H Int fun _ => (((y ())).k))), .lit (.int .i64 (H Int fun _ => (((y ())).a))), .lit (.int .i64 (H Int fun _ => (((y ())).t))), .lit (.int .i64 (H Int fun _ => (((y ())).r)))]
theorem x_DrawCrestText (c : Cd) : ∃ y : Crs, Con Tryd.prog 18 [codeAV c] [] (enc_DrawCrestText stdH fun _ => y) [] ∧ Bl 0 (enc_DrawCrestText stdH fun _ => y) ∧ (fun _ => True) y := by
  have hB : Base Tryd.prog (tabΓ [e_DrawIsValidCrest c]) tab := base_of tabOk (ents_cons (eok_DrawIsValidCrest c) <| ents_nil)
  refine df_ok (N := 5) hB (draw_ok hB mixed) Tryd.func18 rfl rfl _ _ _ 60 (by simp) ?_
  intro H hH
  conv in finish _ _ _ _ _ _ _ _ => cbv
  subst hH
  simp only [Fin.sat0, Fin.sat1, stdH, Option.some.injEq, AV.lit.injEq, AV.agg.injEq, AV.tup.injEq, List.cons.injEq, Value.bool.injEq, Value.int.injEq, AllP, and_true, true_and, eq_self, decide_eq_true_eq, decide_eq_false_iff_not, Bool.not_eq_true', Bool.not_eq_false', peta, ncast]
  exact ⟨F_DrawIsValidCrest c, .refl, by unfold enc_DrawCrestText; (first | exact .lit | exact blq_ok 4 rfl)⟩
noncomputable def F_DrawCrestText (c : Cd) : Crs := dfw Tryd.prog 18 enc_DrawCrestText (fun _ => True) c
noncomputable def e_DrawCrestText (c : Cd) : Entry := codeE 18 c fun H => enc_DrawCrestText H fun _ => F_DrawCrestText c
theorem eok_DrawCrestText (c : Cd) : EntryOk Tryd.prog (e_DrawCrestText c) := codeE_ok (by unfold isBody; kernel_rfl) (dfw_spec (x_DrawCrestText c)).1
theorem p_DrawCrestText (c : Cd) : (fun _ => True) (F_DrawCrestText c) := (dfw_spec (x_DrawCrestText c)).2.2
def enc_DrawParseCrest (H : Hold) (y : Unit → ByteArray) : AV := .lit (.string (H ByteArray fun _ => ((y ()))))
theorem x_DrawParseCrest (c : Cd) : ∃ y : ByteArray, Con Tryd.prog 23 [codeAV c] [] (enc_DrawParseCrest stdH fun _ => y) [] ∧ Bl 0 (enc_DrawParseCrest stdH fun _ => y) ∧ (fun y => y.size ≤ 300) y := by
  have hB : Base Tryd.prog (tabΓ [e_crest c, e_crestTextS, e_one c, e_spoilt c]) tab := base_of tabOk (ents_cons (eok_crest c) <| ents_cons eok_crestTextS <| ents_cons (eok_one c) <| ents_cons (eok_spoilt c) <| ents_nil)
  refine df_ok (N := 21) hB (draw_ok hB mixed) Tryd.func23 rfl rfl _ _ _ 60 (by simp) ?_
  intro H hH
  conv in finish _ _ _ _ _ _ _ _ => cbv
  subst hH
  simp only [Fin.sat0, Fin.sat1, stdH, Option.some.injEq, AV.lit.injEq, AV.agg.injEq, AV.tup.injEq, List.cons.injEq, Value.bool.injEq, Value.int.injEq, AllP, and_true, true_and, eq_self, decide_eq_true_eq, decide_eq_false_iff_not, Bool.not_eq_true', Bool.not_eq_false', peta, ncast]
  have h : Bd 64 (0, 0) := ⟨by decide, by decide⟩
  have a1 := (p_crest c (0, 0) (Bd.mono (by assumption))).1; generalize F_crest c (0, 0) = y1 at *; have b1 : Bd 48 y1.2 := a1.bd (by assumption)
  have a2 := (p_one c 4 y1.2 (Bd.mono (by assumption))).1; generalize F_one c 4 y1.2 = y2 at *; have b2 : Bd 46 y2.2 := a2.bd (by assumption)
  have s1 := crsT_sz y1.1
  have s2 : (if okC y1.1 then crsT y1.1 else ByteArray.empty).size ≤ 250 := by
    split
    · exact s1
    · exact Nat.zero_le _
  obtain ⟨a3, q3⟩ := p_spoilt c (if okC y1.1 then crsT y1.1 else ByteArray.empty) (⟨⟨[110, 32, 97, 44]⟩⟩ : ByteArray) y2.2 b2.mono (by omega) (by decide) (by decide)
  exact ⟨h.mono, b1.mono, fun _ => ⟨⟨b2.mono, Nat.le_trans s2 (by decide), by decide, by decide⟩, _, .refl, by unfold enc_DrawParseCrest; exact .lit, Nat.le_trans q3 (by omega)⟩, fun _ => ⟨_, .refl, by unfold enc_DrawParseCrest; exact .lit, Nat.le_trans s2 (by decide)⟩⟩
noncomputable def F_DrawParseCrest (c : Cd) : ByteArray := dfw Tryd.prog 23 enc_DrawParseCrest (fun y => y.size ≤ 300) c
noncomputable def e_DrawParseCrest (c : Cd) : Entry := codeE 23 c fun H => enc_DrawParseCrest H fun _ => F_DrawParseCrest c
theorem eok_DrawParseCrest (c : Cd) : EntryOk Tryd.prog (e_DrawParseCrest c) := codeE_ok (by unfold isBody; kernel_rfl) (dfw_spec (x_DrawParseCrest c)).1
theorem p_DrawParseCrest (c : Cd) : (fun y => y.size ≤ 300) (F_DrawParseCrest c) := (dfw_spec (x_DrawParseCrest c)).2.2
structure CN where
  z : Crs
  n : Int
deriving Inhabited
def enc_DrawRaiseRank (H : Hold) (y : Unit → CN) : AV := .tup [.agg [.lit (.int .i64 (H Int fun _ => (((y ()).z).k))), .lit (.int .i64 (H Int fun _ => (((y ()).z).a))), .lit (.int .i64 (H Int fun _ => (((y ()).z).t))), .lit (.int .i64 (H Int fun _ => (((y ()).z).r)))], .lit (.int .i64 (H Int fun _ => ((y ()).n)))]
theorem x_DrawRaiseRank (c : Cd) : ∃ y : CN, Con Tryd.prog 25 [codeAV c] [] (enc_DrawRaiseRank stdH fun _ => y) [] ∧ Bl 0 (enc_DrawRaiseRank stdH fun _ => y) ∧ (fun y => -11 ≤ y.n ∧ y.n ≤ 10) y := by
  have hB : Base Tryd.prog (tabΓ [e_crest c, e_among c]) tab := base_of tabOk (ents_cons (eok_crest c) <| ents_cons (eok_among c) <| ents_nil)
  refine df_ok (N := 13) hB (draw_ok hB mixed) Tryd.func25 rfl rfl _ _ _ 90 (by simp) ?_
  intro H hH
  conv in finish _ _ _ _ _ _ _ _ => cbv
  subst hH
  simp only [Fin.sat0, Fin.sat1, stdH, Option.some.injEq, AV.lit.injEq, AV.agg.injEq, AV.tup.injEq, List.cons.injEq, Value.bool.injEq, Value.int.injEq, AllP, and_true, true_and, eq_self, decide_eq_true_eq, decide_eq_false_iff_not, Bool.not_eq_true', Bool.not_eq_false', peta, ncast]
  have h : Bd 64 (0, 0) := ⟨by decide, by decide⟩
  have a1 := (p_crest c (0, 0) (Bd.mono (by assumption))).1; generalize F_crest c (0, 0) = y1 at *; have b1 : Bd 48 y1.2 := a1.bd (by assumption)
  have q2 := p_amongL c [.lit (.int .i64 0), .lit (.int .i64 1), .lit (.int .i64 2), .lit (.int .i64 (-1)), .lit (.int .i64 (-2)), .lit (.int .i64 4), .lit (.int .i64 (-4)), .lit (.int .i64 10), .lit (.int .i64 (-11))] 9 y1.2 (by first | assumption | exact Bd.mono (by assumption)) rfl (by decide) (by decide); generalize F_among c 9 (ints (rowsOf 1 [.lit (.int .i64 0), .lit (.int .i64 1), .lit (.int .i64 2), .lit (.int .i64 (-1)), .lit (.int .i64 (-2)), .lit (.int .i64 4), .lit (.int .i64 (-4)), .lit (.int .i64 10), .lit (.int .i64 (-11))])) y1.2 = y2 at *; simp only [List.map_cons, List.map_nil, intOf, List.mem_cons, List.not_mem_nil, or_false] at q2; obtain ⟨a2, q2⟩ := q2
  refine ⟨h.mono, ⟨b1.mono, vrow_ok _ rfl (by decide), by decide, by decide⟩, ⟨y1.1, y2.1⟩, .refl, by unfold enc_DrawRaiseRank; (first | exact .lit | exact blq_ok 4 rfl), by show -11 ≤ y2.1; omega, by show y2.1 ≤ 10; omega⟩
noncomputable def F_DrawRaiseRank (c : Cd) : CN := dfw Tryd.prog 25 enc_DrawRaiseRank (fun y => -11 ≤ y.n ∧ y.n ≤ 10) c
noncomputable def e_DrawRaiseRank (c : Cd) : Entry := codeE 25 c fun H => enc_DrawRaiseRank H fun _ => F_DrawRaiseRank c
theorem eok_DrawRaiseRank (c : Cd) : EntryOk Tryd.prog (e_DrawRaiseRank c) := codeE_ok (by unfold isBody; kernel_rfl) (dfw_spec (x_DrawRaiseRank c)).1
theorem p_DrawRaiseRank (c : Cd) : (fun y => -11 ≤ y.n ∧ y.n ≤ 10) (F_DrawRaiseRank c) := (dfw_spec (x_DrawRaiseRank c)).2.2
def enc_DrawRankWord (H : Hold) (y : Unit → Int) : AV := .lit (.int .i64 (H Int fun _ => ((y ()))))
theorem x_DrawRankWord (c : Cd) : ∃ y : Int, Con Tryd.prog 28 [codeAV c] [] (enc_DrawRankWord stdH fun _ => y) [] ∧ Bl 0 (enc_DrawRankWord stdH fun _ => y) ∧ (fun y => -1 ≤ y ∧ y ≤ 6) y := by
  have hB : Base Tryd.prog (tabΓ [e_pick c]) tab := base_of tabOk (ents_cons (eok_pick c) <| ents_nil)
  refine df_ok (N := 10) hB (draw_ok hB mixed) Tryd.func28 rfl rfl _ _ _ 60 (by simp) ?_
  intro H hH
  conv in finish _ _ _ _ _ _ _ _ => cbv
  subst hH
  simp only [Fin.sat0, Fin.sat1, stdH, Option.some.injEq, AV.lit.injEq, AV.agg.injEq, AV.tup.injEq, List.cons.injEq, Value.bool.injEq, Value.int.injEq, AllP, and_true, true_and, eq_self, decide_eq_true_eq, decide_eq_false_iff_not, Bool.not_eq_true', Bool.not_eq_false', peta, ncast]
  have h : Bd 64 (0, 0) := ⟨by decide, by decide⟩
  obtain ⟨a1, m1, n1⟩ := p_pick c 8 (0, 0) h.mono
  have e : IntKind.i64.wrap ((F_pick c 8 (0, 0)).1 - 1) = (F_pick c 8 (0, 0)).1 - 1 := wi (by omega) (by omega)
  rw [e]
  exact ⟨h.mono, _, .refl, by unfold enc_DrawRankWord; exact .lit, by omega⟩
noncomputable def F_DrawRankWord (c : Cd) : Int := dfw Tryd.prog 28 enc_DrawRankWord (fun y => -1 ≤ y ∧ y ≤ 6) c
noncomputable def e_DrawRankWord (c : Cd) : Entry := codeE 28 c fun H => enc_DrawRankWord H fun _ => F_DrawRankWord c
theorem eok_DrawRankWord (c : Cd) : EntryOk Tryd.prog (e_DrawRankWord c) := codeE_ok (by unfold isBody; kernel_rfl) (dfw_spec (x_DrawRankWord c)).1
theorem p_DrawRankWord (c : Cd) : (fun y => -1 ≤ y ∧ y ≤ 6) (F_DrawRankWord c) := (dfw_spec (x_DrawRankWord c)).2.2
def raC (z : Crs) (n : Int) : Crs := ⟨z.k, z.a, z.t, IntKind.i64.wrap (z.r + n)⟩
def raOk (z : Crs) (n : Int) : Bool := okC z && (inB n (-5) 5 && inB (IntKind.i64.wrap (z.r + n)) 1 5)
theorem c_RaiseRank (z : Crs) (n : Int)  : ConN Tryd.prog 26 [aT rowC stdH fun _ => z, .lit (.int .i64 n)] [] 0 (.tup [aT rowC stdH fun _ => if raOk z n then raC z n else zC, .lit (.bool (stdH Bool fun _ => raOk z n))]) [] [] := by
  have hB : Base Tryd.prog (tabΓ [e_IsValidCrest, e_inside, e_isRank]) tab := base_of tabOk (ents_cons eok_IsValidCrest <| ents_cons eok_inside <| ents_cons eok_isRank <| ents_nil)
  refine con_m (N := 29) hB (draw_ok hB mixed) Tryd.func26 rfl rfl (fun H => [aT rowC H fun _ => z, .lit (.int .i64 n)]) (fun _ => []) 0 (fun H => .tup [aT rowC H fun _ => if raOk z n then raC z n else zC, .lit (.bool (H Bool fun _ => raOk z n))]) (fun H => []) (fun _ => []) 100 (by simp) (fun x hx => ?_) (by simp [lk]) (by omega) (by simp) ?_
  · simp only [List.mem_cons, List.not_mem_nil, or_false] at hx
    rcases hx with rfl | rfl
    · exact aT_bl okRC _ _
    · exact .lit
  intro X hX hX0 H hH
  conv in Fin.chk _ _ => cbv
  try simp only [Plain_rowsA, Plain_rowsB, Plain_rowsC, Plain_rowsF, Plain_rowsG, Plain_rowsI, Plain_rowsS, Plain_rowsU, Fin.satC_ret, Fin.satC_br, Fin.satC_need, Fin.satC_again, AllP, and_true, true_and, upd, List.length_nil, List.length_cons, Nat.zero_add, if_true, ncast, Int.ofNat_eq_natCast]
  subst hH
  simp only [stdH, Crs.eta]
  have e : (bif bif !okC z then true else !inB n (-5) 5 then true else !inB (IntKind.i64.wrap (z.r + n)) 1 5) = !raOk z n := by
    unfold raOk
    cases okC z <;> cases inB n (-5) 5 <;> cases inB (IntKind.i64.wrap (z.r + n)) 1 5 <;> rfl
  rw [e]
  cases raOk z n
  · exact ⟨fun _ => ⟨rfl, rfl, rfl, rfl, rfl⟩, fun h => (by cases h)⟩
  · exact ⟨fun h => (by cases h), fun _ => ⟨rfl, rfl, rfl, rfl, rfl⟩⟩
noncomputable def e_RaiseRank : Entry := pureE 26 fun H a => match a with
  | [.agg [.lit (.int .i64 z0), .lit (.int .i64 z1), .lit (.int .i64 z2), .lit (.int .i64 z3)], .lit (.int .i64 n)] => some (.tup [aT rowC H fun _ => if raOk (⟨z0, z1, z2, z3⟩ : Crs) n then raC (⟨z0, z1, z2, z3⟩ : Crs) n else zC, .lit (.bool (H Bool fun _ => raOk (⟨z0, z1, z2, z3⟩ : Crs) n))], [])
  | _ => none
theorem eok_RaiseRank : EntryOk Tryd.prog e_RaiseRank := pureM_ok (by unfold isBody; kernel_rfl) (by
  intro a r ob e hob
  split at e
  · rename_i z0 z1 z2 z3 n
    simp only [Option.some.injEq, Prod.mk.injEq] at e
    obtain ⟨rfl, rfl⟩ := e
    exact ConN.args (.cons .rfl (.cons .rfl .nil)) (c_RaiseRank (⟨z0, z1, z2, z3⟩ : Crs) n )
  · simp at e)
theorem c_RaiseRankS (z : Crs) (n : Int) (h0 : -100 ≤ n ∧ n ≤ 100) : ConN Tryd.prog 27 [aT rowC stdH fun _ => z, .lit (.int .i64 n)] [] 0 (.tup [aT rowC stdH fun _ => if raOk z n then raC z n else zC, .lit (.bool (stdH Bool fun _ => raOk z n))]) [] [] := by
  have hB : Base Tryd.prog (tabΓ [e_l22Good, e_l1In, e_l22Rank]) tab := base_of tabOk (ents_cons eok_l22Good <| ents_cons eok_l1In <| ents_cons eok_l22Rank <| ents_nil)
  refine con_m (N := 31) hB (draw_ok hB mixed) Tryd.func27 rfl rfl (fun H => [aT rowC H fun _ => z, .lit (.int .i64 n)]) (fun _ => []) 0 (fun H => .tup [aT rowC H fun _ => if raOk z n then raC z n else zC, .lit (.bool (H Bool fun _ => raOk z n))]) (fun H => []) (fun _ => []) 100 (by simp) (fun x hx => ?_) (by simp [lk]) (by omega) (by simp) ?_
  · simp only [List.mem_cons, List.not_mem_nil, or_false] at hx
    rcases hx with rfl | rfl
    · exact aT_bl okRC _ _
    · exact .lit
  intro X hX hX0 H hH
  conv in Fin.chk _ _ => cbv
  try simp only [Plain_rowsA, Plain_rowsB, Plain_rowsC, Plain_rowsF, Plain_rowsG, Plain_rowsI, Plain_rowsS, Plain_rowsU, Fin.satC_ret, Fin.satC_br, Fin.satC_need, Fin.satC_again, AllP, and_true, true_and, upd, List.length_nil, List.length_cons, Nat.zero_add, if_true, ncast, Int.ofNat_eq_natCast]
  subst hH
  simp only [stdH, Crs.eta]
  have e : (bif bif !okC z then true else !inB n (-10) 10 then true else !inB (IntKind.i64.wrap (z.r + n)) 1 5) = !raOk z n := by
    unfold raOk
    cases ho : okC z
    · rfl
    · have hb := (okC_G ho).2
      have ew : IntKind.i64.wrap (z.r + n) = z.r + n := wi (by omega) (by omega)
      rw [ew]
      have : (inB n (-10) 10 && inB (z.r + n) 1 5) = (inB n (-5) 5 && inB (z.r + n) 1 5) := by
        unfold inB
        rw [Bool.eq_iff_iff]
        simp only [Bool.and_eq_true, decide_eq_true_eq]
        omega
      simp only [Bool.true_and, ← this]
      cases inB n (-10) 10 <;> cases inB (z.r + n) 1 5 <;> rfl
  rw [e]
  cases raOk z n
  · exact ⟨fun _ => ⟨rfl, rfl, rfl, rfl, rfl⟩, fun h => (by cases h)⟩
  · exact ⟨fun h => (by cases h), fun _ => ⟨rfl, rfl, rfl, rfl, rfl⟩⟩
noncomputable def e_RaiseRankS : Entry := pureE 27 fun H a => match a with
  | [.agg [.lit (.int .i64 z0), .lit (.int .i64 z1), .lit (.int .i64 z2), .lit (.int .i64 z3)], .lit (.int .i64 n)] => some (.tup [aT rowC H fun _ => if raOk (⟨z0, z1, z2, z3⟩ : Crs) n then raC (⟨z0, z1, z2, z3⟩ : Crs) n else zC, .lit (.bool (H Bool fun _ => raOk (⟨z0, z1, z2, z3⟩ : Crs) n))], [H Prop fun _ => -100 ≤ n ∧ n ≤ 100])
  | _ => none
theorem eok_RaiseRankS : EntryOk Tryd.prog e_RaiseRankS := pureM_ok (by unfold isBody; kernel_rfl) (by
  intro a r ob e hob
  split at e
  · rename_i z0 z1 z2 z3 n
    simp only [Option.some.injEq, Prod.mk.injEq] at e
    obtain ⟨rfl, rfl⟩ := e
    exact ConN.args (.cons .rfl (.cons .rfl .nil)) (c_RaiseRankS (⟨z0, z1, z2, z3⟩ : Crs) n hob.1)
  · simp at e)
theorem c_RankWordI (n : Int)  : ConN Tryd.prog 29 [.lit (.int .i64 n)] [] 0 (.tup [.lit (.string (stdH ByteArray fun _ => if inB n 1 5 then wordOf rnkL n else ByteArray.empty)), .lit (.bool (stdH Bool fun _ => inB n 1 5))]) [] [] := by
  have hB : Base Tryd.prog (tabΓ [e_isRank, e_rankWd]) tab := base_of tabOk (ents_cons eok_isRank <| ents_cons eok_rankWd <| ents_nil)
  refine con_m (N := 9) hB (draw_ok hB mixed) Tryd.func29 rfl rfl (fun H => [.lit (.int .i64 n)]) (fun _ => []) 0 (fun H => .tup [.lit (.string (H ByteArray fun _ => if inB n 1 5 then wordOf rnkL n else ByteArray.empty)), .lit (.bool (H Bool fun _ => inB n 1 5))]) (fun H => []) (fun _ => []) 100 (by simp) (fun x hx => ?_) (by simp [lk]) (by omega) (by simp) ?_
  · simp only [List.mem_cons, List.not_mem_nil, or_false] at hx
    rcases hx with rfl
    · exact .lit
  intro X hX hX0 H hH
  conv in Fin.chk _ _ => cbv
  try simp only [Plain_rowsA, Plain_rowsB, Plain_rowsC, Plain_rowsF, Plain_rowsG, Plain_rowsI, Plain_rowsS, Plain_rowsU, Fin.satC_ret, Fin.satC_br, Fin.satC_need, Fin.satC_again, AllP, and_true, true_and, upd, List.length_nil, List.length_cons, Nat.zero_add, if_true, ncast, Int.ofNat_eq_natCast]
  subst hH
  simp only [stdH]
  cases h : inB n 1 5
  · exact ⟨fun _ => ⟨rfl, rfl⟩, fun h => (by cases h)⟩
  · exact ⟨fun h => (by cases h), fun _ => ⟨by unfold inB at h; simpa using h, rfl, rfl⟩⟩
noncomputable def e_RankWordI : Entry := pureE 29 fun H a => match a with
  | [.lit (.int .i64 n)] => some (.tup [.lit (.string (H ByteArray fun _ => if inB n 1 5 then wordOf rnkL n else ByteArray.empty)), .lit (.bool (H Bool fun _ => inB n 1 5))], [])
  | _ => none
theorem eok_RankWordI : EntryOk Tryd.prog e_RankWordI := pureM_ok (by unfold isBody; kernel_rfl) (by
  intro a r ob e hob
  split at e
  · rename_i n
    simp only [Option.some.injEq, Prod.mk.injEq] at e
    obtain ⟨rfl, rfl⟩ := e
    exact ConN.args (.cons .rfl .nil) (c_RankWordI n )
  · simp at e)
theorem c_RankWordS (n : Int)  : ConN Tryd.prog 31 [.lit (.int .i64 n)] [] 0 (.tup [.lit (.string (stdH ByteArray fun _ => if inB n 1 5 then wordOf rnkL n else ByteArray.empty)), .lit (.bool (stdH Bool fun _ => inB n 1 5))]) [] [] := by
  have hB : Base Tryd.prog (tabΓ [e_l22Rank, e_l22Words]) tab := base_of tabOk (ents_cons eok_l22Rank <| ents_cons eok_l22Words <| ents_nil)
  refine con_m (N := 11) hB (draw_ok hB mixed) Tryd.func31 rfl rfl (fun H => [.lit (.int .i64 n)]) (fun _ => []) 0 (fun H => .tup [.lit (.string (H ByteArray fun _ => if inB n 1 5 then wordOf rnkL n else ByteArray.empty)), .lit (.bool (H Bool fun _ => inB n 1 5))]) (fun H => []) (fun _ => []) 100 (by simp) (fun x hx => ?_) (by simp [lk]) (by omega) (by simp) ?_
  · simp only [List.mem_cons, List.not_mem_nil, or_false] at hx
    rcases hx with rfl
    · exact .lit
  intro X hX hX0 H hH
  conv in Fin.chk _ _ => cbv
  try simp only [Plain_rowsA, Plain_rowsB, Plain_rowsC, Plain_rowsF, Plain_rowsG, Plain_rowsI, Plain_rowsS, Plain_rowsU, Fin.satC_ret, Fin.satC_br, Fin.satC_need, Fin.satC_again, AllP, and_true, true_and, upd, List.length_nil, List.length_cons, Nat.zero_add, if_true, ncast, Int.ofNat_eq_natCast]
  subst hH
  simp only [stdH]
  cases h : inB n 1 5
  · exact ⟨fun _ => ⟨rfl, rfl⟩, fun h => (by cases h)⟩
  · have hn : 1 ≤ n ∧ n ≤ 5 := by unfold inB at h; simpa using h
    have l5 : rnkL.length = 5 := rfl
    rw [l5, wordE hn.1]
    exact ⟨fun h => (by cases h), fun _ => ⟨⟨by omega, by omega⟩, rfl, rfl⟩⟩
noncomputable def e_RankWordS : Entry := pureE 31 fun H a => match a with
  | [.lit (.int .i64 n)] => some (.tup [.lit (.string (H ByteArray fun _ => if inB n 1 5 then wordOf rnkL n else ByteArray.empty)), .lit (.bool (H Bool fun _ => inB n 1 5))], [])
  | _ => none
theorem eok_RankWordS : EntryOk Tryd.prog e_RankWordS := pureM_ok (by unfold isBody; kernel_rfl) (by
  intro a r ob e hob
  split at e
  · rename_i n
    simp only [Option.some.injEq, Prod.mk.injEq] at e
    obtain ⟨rfl, rfl⟩ := e
    exact ConN.args (.cons .rfl .nil) (c_RankWordS n )
  · simp at e)
def barL : List Int := [0, 0, 5, 7, 11]
def barH (n : Int) : Int := if inB n 1 5 then barL.getD (n - 1).toNat 0 else 0
theorem c_HelmI (n : Int)  : ConN Tryd.prog 30 [.lit (.int .i64 n)] [] 0 (.tup [.lit (.string (stdH ByteArray fun _ => if inB n 1 5 then wordOf hlmL n else ByteArray.empty)), .lit (.int .i64 (stdH Int fun _ => barH n)), .lit (.bool (stdH Bool fun _ => inB n 1 5))]) [] [] := by
  have hB : Base Tryd.prog (tabΓ [e_isRank, e_helm]) tabO := base_of tabOkO (ents_cons eok_isRank <| ents_cons eok_helm <| ents_nil)
  refine con_m (N := 15) hB (draw_ok hB mixed) Tryd.func30 rfl rfl (fun H => [.lit (.int .i64 n)]) (fun _ => []) 0 (fun H => .tup [.lit (.string (H ByteArray fun _ => if inB n 1 5 then wordOf hlmL n else ByteArray.empty)), .lit (.int .i64 (H Int fun _ => barH n)), .lit (.bool (H Bool fun _ => inB n 1 5))]) (fun H => []) (fun _ => []) 100 (by simp) (fun x hx => ?_) (by simp [lk]) (by omega) (by simp) ?_
  · simp only [List.mem_cons, List.not_mem_nil, or_false] at hx
    rcases hx with rfl
    · exact .lit
  intro X hX hX0 H hH
  conv in Fin.chk _ _ => cbv
  try simp only [Plain_rowsA, Plain_rowsB, Plain_rowsC, Plain_rowsF, Plain_rowsG, Plain_rowsI, Plain_rowsS, Plain_rowsU, Fin.satC_ret, Fin.satC_br, Fin.satC_need, Fin.satC_again, AllP, and_true, true_and, upd, List.length_nil, List.length_cons, Nat.zero_add, if_true, ncast, Int.ofNat_eq_natCast]
  subst hH
  simp only [stdH]
  unfold barH
  cases h : inB n 1 5
  · exact ⟨fun _ => ⟨rfl, rfl, rfl⟩, fun h => (by cases h)⟩
  · have hn : 1 ≤ n ∧ n ≤ 5 := by unfold inB at h; simpa using h
    have e : IntKind.i64.wrap (n - 1) = n - 1 := wi (by omega) (by omega)
    rw [e]
    exact ⟨fun h => (by cases h), fun _ => ⟨hn, ⟨by omega, by omega⟩, rfl, rfl, rfl⟩⟩
noncomputable def e_HelmI : Entry := pureE 30 fun H a => match a with
  | [.lit (.int .i64 n)] => some (.tup [.lit (.string (H ByteArray fun _ => if inB n 1 5 then wordOf hlmL n else ByteArray.empty)), .lit (.int .i64 (H Int fun _ => barH n)), .lit (.bool (H Bool fun _ => inB n 1 5))], [])
  | _ => none
theorem eok_HelmI : EntryOk Tryd.prog e_HelmI := pureM_ok (by unfold isBody; kernel_rfl) (by
  intro a r ob e hob
  split at e
  · rename_i n
    simp only [Option.some.injEq, Prod.mk.injEq] at e
    obtain ⟨rfl, rfl⟩ := e
    exact ConN.args (.cons .rfl .nil) (c_HelmI n )
  · simp at e)
theorem c_HelmS (n : Int)  : ConN Tryd.prog 32 [.lit (.int .i64 n)] [] 0 (.tup [.lit (.string (stdH ByteArray fun _ => if inB n 1 5 then wordOf hlmL n else ByteArray.empty)), .lit (.int .i64 (stdH Int fun _ => barH n)), .lit (.bool (stdH Bool fun _ => inB n 1 5))]) [] [] := by
  have hB : Base Tryd.prog (tabΓ [e_l22Rank, e_l22Helm]) tabO := base_of tabOkO (ents_cons eok_l22Rank <| ents_cons eok_l22Helm <| ents_nil)
  refine con_m (N := 18) hB (draw_ok hB mixed) Tryd.func32 rfl rfl (fun H => [.lit (.int .i64 n)]) (fun _ => []) 0 (fun H => .tup [.lit (.string (H ByteArray fun _ => if inB n 1 5 then wordOf hlmL n else ByteArray.empty)), .lit (.int .i64 (H Int fun _ => barH n)), .lit (.bool (H Bool fun _ => inB n 1 5))]) (fun H => []) (fun _ => []) 100 (by simp) (fun x hx => ?_) (by simp [lk]) (by omega) (by simp) ?_
  · simp only [List.mem_cons, List.not_mem_nil, or_false] at hx
    rcases hx with rfl
    · exact .lit
  intro X hX hX0 H hH
  conv in Fin.chk _ _ => cbv
  try simp only [Plain_rowsA, Plain_rowsB, Plain_rowsC, Plain_rowsF, Plain_rowsG, Plain_rowsI, Plain_rowsS, Plain_rowsU, Fin.satC_ret, Fin.satC_br, Fin.satC_need, Fin.satC_again, AllP, and_true, true_and, upd, List.length_nil, List.length_cons, Nat.zero_add, if_true, ncast, Int.ofNat_eq_natCast]
  subst hH
  simp only [stdH]
  unfold barH
  cases h : inB n 1 5
  · exact ⟨fun _ => ⟨rfl, rfl, rfl⟩, fun h => (by cases h)⟩
  · have hn : 1 ≤ n ∧ n ≤ 5 := by unfold inB at h; simpa using h
    have l5 : hlmL.length = 5 := rfl
    rw [l5, wordE hn.1]
    refine ⟨fun h => (by cases h), fun _ => ⟨⟨by omega, by omega⟩, ⟨by omega, by omega⟩, rfl, ?_, rfl⟩⟩
    rcases (by omega : n = 1 ∨ n = 2 ∨ n = 3 ∨ n = 4 ∨ n = 5) with rfl | rfl | rfl | rfl | rfl <;> rfl
noncomputable def e_HelmS : Entry := pureE 32 fun H a => match a with
  | [.lit (.int .i64 n)] => some (.tup [.lit (.string (H ByteArray fun _ => if inB n 1 5 then wordOf hlmL n else ByteArray.empty)), .lit (.int .i64 (H Int fun _ => barH n)), .lit (.bool (H Bool fun _ => inB n 1 5))], [])
  | _ => none
theorem eok_HelmS : EntryOk Tryd.prog e_HelmS := pureM_ok (by unfold isBody; kernel_rfl) (by
  intro a r ob e hob
  split at e
  · rename_i n
    simp only [Option.some.injEq, Prod.mk.injEq] at e
    obtain ⟨rfl, rfl⟩ := e
    exact ConN.args (.cons .rfl .nil) (c_HelmS n )
  · simp at e)

end Go.Proofs.YtdicfibonfjalaaDoor.AM
