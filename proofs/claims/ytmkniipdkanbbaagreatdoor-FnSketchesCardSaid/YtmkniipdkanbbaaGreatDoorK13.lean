/- Lemmas and contracts (Txt); conditions: none. -/
import Derived.Test.YtmkniipdkanbbaaGreatDoorK04
import Derived.Test.YtmkniipdkanbbaaGreatDoorK10
import Derived.Test.YtmkniipdkanbbaaGreatDoorK12
set_option linter.unusedVariables false
set_option linter.unusedSimpArgs false
set_option maxRecDepth 100000
set_option maxHeartbeats 4000000
set_option cbv.maxSteps 3000000
namespace Go.Proofs.YtmkniipdkanbbaaGreatDoor.AM
/- Words of tinctures, kinds, attitudes, numbers; texts of groups and crests; conditions: none. -/
def rowsC (H : Hold) (L : Unit → List Crs) (j : Nat) : List AV := [.lit (.int .i64 (H Int fun _ => ((L ()).getD j default).k)), .lit (.int .i64 (H Int fun _ => ((L ()).getD j default).a)), .lit (.int .i64 (H Int fun _ => ((L ()).getD j default).t)), .lit (.int .i64 (H Int fun _ => ((L ()).getD j default).r))]
theorem Crs.eta (a : Crs) : (⟨a.k, a.a, a.t, a.r⟩ : Crs) = a := rfl
theorem Plain_rowsC (n : Nat) (H : Hold) (L : Unit → List Crs) : Plain n (rowsC H L) = True := eq_true ⟨fun j _ x hx => by simp [rowsC] at hx; rcases hx with rfl | rfl | rfl | rfl <;> rfl⟩
def eqrC (a b : Crs) : Bool := allT [fun _ => a.k == b.k, fun _ => a.a == b.a, fun _ => a.t == b.t, fun _ => a.r == b.r]
theorem eqrC_iff {a b : Crs} : eqrC a b = true ↔ a = b := by
  obtain ⟨a0, a1, a2, a3⟩ := a; obtain ⟨b0, b1, b2, b3⟩ := b
  simp [eqrC, allT, and_assoc]
instance : DecidableEq Crs := fun a b => decidable_of_iff (eqrC a b = true) eqrC_iff
def tinL : List ByteArray := [(⟨⟨[103, 111, 108, 100]⟩⟩ : ByteArray), (⟨⟨[115, 105, 108, 118, 101, 114]⟩⟩ : ByteArray), (⟨⟨[114, 101, 100]⟩⟩ : ByteArray), (⟨⟨[98, 108, 117, 101]⟩⟩ : ByteArray), (⟨⟨[98, 108, 97, 99, 107]⟩⟩ : ByteArray), (⟨⟨[103, 114, 101, 101, 110]⟩⟩ : ByteArray), (⟨⟨[112, 117, 114, 112, 108, 101]⟩⟩ : ByteArray), (⟨⟨[101, 114, 109, 105, 110, 101]⟩⟩ : ByteArray), (⟨⟨[118, 97, 105, 114]⟩⟩ : ByteArray)]
def kndL : List ByteArray := [(⟨⟨[108, 105, 111, 110]⟩⟩ : ByteArray), (⟨⟨[101, 97, 103, 108, 101]⟩⟩ : ByteArray), (⟨⟨[102, 105, 115, 104]⟩⟩ : ByteArray), (⟨⟨[114, 111, 115, 101]⟩⟩ : ByteArray), (⟨⟨[115, 116, 97, 114]⟩⟩ : ByteArray), (⟨⟨[116, 111, 119, 101, 114]⟩⟩ : ByteArray), (⟨⟨[107, 101, 121]⟩⟩ : ByteArray), (⟨⟨[115, 119, 111, 114, 100]⟩⟩ : ByteArray)]
def cntL : List ByteArray := [(⟨⟨[97]⟩⟩ : ByteArray), (⟨⟨[116, 119, 111]⟩⟩ : ByteArray), (⟨⟨[116, 104, 114, 101, 101]⟩⟩ : ByteArray), (⟨⟨[102, 111, 117, 114]⟩⟩ : ByteArray), (⟨⟨[102, 105, 118, 101]⟩⟩ : ByteArray), (⟨⟨[115, 105, 120]⟩⟩ : ByteArray)]
def wordOf (l : List ByteArray) (x : Int) : ByteArray := l.getD (x - 1).toNat ByteArray.empty
def attL (k : Int) : List ByteArray := if k = 1 then [(⟨⟨[114, 97, 109, 112, 97, 110, 116]⟩⟩ : ByteArray), (⟨⟨[112, 97, 115, 115, 97, 110, 116]⟩⟩ : ByteArray)] else if k = 2 then [(⟨⟨[100, 105, 115, 112, 108, 97, 121, 101, 100]⟩⟩ : ByteArray), (⟨⟨[114, 105, 115, 105, 110, 103]⟩⟩ : ByteArray)] else if k = 3 then [(⟨⟨[115, 119, 105, 109, 109, 105, 110, 103]⟩⟩ : ByteArray), (⟨⟨[117, 112, 114, 105, 103, 104, 116]⟩⟩ : ByteArray)] else []
theorem getD_sz {l : List ByteArray} {m : Nat} (h : ∀ s ∈ l, s.size ≤ m) (i : Nat) : (l.getD i ByteArray.empty).size ≤ m := by
  rw [List.getD_eq_getElem?_getD]
  cases e : l[i]? with
  | none => exact Nat.zero_le _
  | some s => exact h s (List.mem_of_getElem? e)
theorem tinL_sz (x : Int) : (wordOf tinL x).size ≤ 20 := getD_sz (by decide) _
theorem kndL_sz (x : Int) : (wordOf kndL x).size ≤ 20 := getD_sz (by decide) _
theorem cntL_sz (x : Int) : (wordOf cntL x).size ≤ 20 := getD_sz (by decide) _
theorem attL_sz (k x : Int) : (wordOf (attL k) x).size ≤ 20 := getD_sz (by unfold attL; split <;> (try split) <;> (try split) <;> decide) _
theorem c_tinWords   : ConN Tryz.prog 158 [] [] 0 (.vec 1 (stdH Nat fun _ => (tinL).length) (rowsS stdH fun _ => tinL)) [] [] := by
  have hB : Base Tryz.prog (tabΓ []) tab := base_of tabOk (ents_nil)
  refine con_m (N := 2) hB (draw_ok hB mixed) Tryz.func158 rfl rfl (fun H => []) (fun _ => []) 0 (fun H => .vec 1 (H Nat fun _ => (tinL).length) (rowsS H fun _ => tinL)) (fun H => []) (fun _ => []) 60 (by simp) (fun x hx => ?_) (by simp [lk]) (by omega) (by simp) ?_
  · cases hx
  intro X hX hX0 H hH
  conv in Fin.chk _ _ => cbv
  try simp only [zqs, zqx, AllP, zqw, upd, if_true]
  subst hH
  exact .self okS
noncomputable def e_tinWords : Entry := pureE 158 fun H a => match a with
  | [] => some (.vec 1 (H Nat fun _ => (tinL).length) (rowsS H fun _ => tinL), [])
  | _ => none
theorem eok_tinWords : EntryOk Tryz.prog e_tinWords := pureM_ok (by unfold isBody; kernel_rfl) (by
  intro a r ob e hob
  split at e
  · simp only [zqt] at e
    obtain ⟨rfl, rfl⟩ := e
    exact ConN.args .nil (c_tinWords  )
  · simp at e)
theorem c_tincW (x : Int) (h0 : 1 ≤ x ∧ x ≤ 9) : ConN Tryz.prog 117 [.lit (.int .i64 x)] [] 0 (.lit (.string (stdH ByteArray fun _ => wordOf tinL x))) [] [] := by
  have hB : Base Tryz.prog (tabΓ [e_tinWords]) tab := base_of tabOk (ents_cons eok_tinWords <| ents_nil)
  refine con_m (N := 8) hB (draw_ok hB mixed) Tryz.func117 rfl rfl (fun H => [.lit (.int .i64 x)]) (fun _ => []) 0 (fun H => .lit (.string (H ByteArray fun _ => wordOf tinL x))) (fun H => []) (fun _ => []) 60 (by simp) (fun x hx => ?_) (by simp [lk]) (by omega) (by simp) ?_
  · simp only [zqu] at hx
    rcases hx with rfl
    · exact .lit
  intro X hX hX0 H hH
  conv in Fin.chk _ _ => cbv
  try simp only [zqs, zqx, AllP, zqw, upd, if_true]
  subst hH
  simp only [stdH]
  have e : IntKind.i64.wrap (x - 1) = x - 1 := wi (by omega) (by omega)
  rw [e]
  exact ⟨⟨by omega, by show x - 1 < (9 : Int); omega⟩, rfl⟩
noncomputable def e_tincW : Entry := pureE 117 fun H a => match a with
  | [.lit (.int .i64 x)] => some (.lit (.string (H ByteArray fun _ => wordOf tinL x)), [H Prop fun _ => 1 ≤ x ∧ x ≤ 9])
  | _ => none
theorem eok_tincW : EntryOk Tryz.prog e_tincW := pureM_ok (by unfold isBody; kernel_rfl) (by
  intro a r ob e hob
  split at e
  · rename_i x
    simp only [zqt] at e
    obtain ⟨rfl, rfl⟩ := e
    exact ConN.args (.cons .rfl .nil) (c_tincW x hob.1)
  · simp at e)
theorem c_l2Word (x : Int) (h0 : 1 ≤ x ∧ x ≤ 9) : ConN Tryz.prog 107 [.lit (.int .i64 x)] [] 0 (.lit (.string (stdH ByteArray fun _ => wordOf tinL x))) [] [] := by
  have hB : Base Tryz.prog (tabΓ []) tab := base_of tabOk (ents_nil)
  refine con_m (N := 8) hB (draw_ok hB mixed) Tryz.func107 rfl rfl (fun H => [.lit (.int .i64 x)]) (fun _ => []) 0 (fun H => .lit (.string (H ByteArray fun _ => wordOf tinL x))) (fun H => []) (fun _ => []) 60 (by simp) (fun x hx => ?_) (by simp [lk]) (by omega) (by simp) ?_
  · simp only [zqu] at hx
    rcases hx with rfl
    · exact .lit
  intro X hX hX0 H hH
  conv in Fin.chk _ _ => cbv
  try simp only [zqs, zqx, AllP, zqw, upd, if_true]
  subst hH
  simp only [stdH]
  have e : IntKind.i64.wrap (x - 1) = x - 1 := wi (by omega) (by omega)
  rw [e]
  exact ⟨⟨by omega, by show x - 1 < (9 : Int); omega⟩, rfl⟩
noncomputable def e_l2Word : Entry := pureE 107 fun H a => match a with
  | [.lit (.int .i64 x)] => some (.lit (.string (H ByteArray fun _ => wordOf tinL x)), [H Prop fun _ => 1 ≤ x ∧ x ≤ 9])
  | _ => none
theorem eok_l2Word : EntryOk Tryz.prog e_l2Word := pureM_ok (by unfold isBody; kernel_rfl) (by
  intro a r ob e hob
  split at e
  · rename_i x
    simp only [zqt] at e
    obtain ⟨rfl, rfl⟩ := e
    exact ConN.args (.cons .rfl .nil) (c_l2Word x hob.1)
  · simp at e)
theorem c_kndWords   : ConN Tryz.prog 160 [] [] 0 (.vec 1 (stdH Nat fun _ => (kndL).length) (rowsS stdH fun _ => kndL)) [] [] := by
  have hB : Base Tryz.prog (tabΓ []) tab := base_of tabOk (ents_nil)
  refine con_m (N := 2) hB (draw_ok hB mixed) Tryz.func160 rfl rfl (fun H => []) (fun _ => []) 0 (fun H => .vec 1 (H Nat fun _ => (kndL).length) (rowsS H fun _ => kndL)) (fun H => []) (fun _ => []) 60 (by simp) (fun x hx => ?_) (by simp [lk]) (by omega) (by simp) ?_
  · cases hx
  intro X hX hX0 H hH
  conv in Fin.chk _ _ => cbv
  try simp only [zqs, zqx, AllP, zqw, upd, if_true]
  subst hH
  exact .self okS
noncomputable def e_kndWords : Entry := pureE 160 fun H a => match a with
  | [] => some (.vec 1 (H Nat fun _ => (kndL).length) (rowsS H fun _ => kndL), [])
  | _ => none
theorem eok_kndWords : EntryOk Tryz.prog e_kndWords := pureM_ok (by unfold isBody; kernel_rfl) (by
  intro a r ob e hob
  split at e
  · simp only [zqt] at e
    obtain ⟨rfl, rfl⟩ := e
    exact ConN.args .nil (c_kndWords  )
  · simp at e)
def kndT (k c : Int) : ByteArray := if 1 < c ∧ ¬ k = 3 then wordOf kndL k ++ (⟨⟨[115]⟩⟩ : ByteArray) else wordOf kndL k
theorem kndT_sz (k c : Int) : (kndT k c).size ≤ 21 := by
  have := kndL_sz k
  unfold kndT
  split
  · rw [ByteArray.size_append]; exact Nat.add_le_add (d := 1) this (by decide)
  · omega
theorem bif_and (a b : Bool) : (bif a then b else false) = (a && b) := by cases a <;> rfl
theorem kndT_y {k c : Int} (h : (bif decide (1 < c) then k != 3 else false) = true) : kndT k c = wordOf kndL k ++ (⟨⟨[115]⟩⟩ : ByteArray) := by
  rw [bif_and] at h; simp at h; unfold kndT; rw [if_pos h]
theorem kndT_n {k c : Int} (h : (bif decide (1 < c) then k != 3 else false) = false) : kndT k c = wordOf kndL k := by
  rw [bif_and] at h; simp at h; unfold kndT; rw [if_neg (by omega)]
theorem c_kndW (k : Int) (c : Int) (h0 : 1 ≤ k ∧ k ≤ 8) : ConN Tryz.prog 126 [.lit (.int .i64 k), .lit (.int .i64 c)] [] 0 (.lit (.string (stdH ByteArray fun _ => kndT k c))) [] [] := by
  have hB : Base Tryz.prog (tabΓ [e_kndWords]) tab := base_of tabOk (ents_cons eok_kndWords <| ents_nil)
  refine con_m (N := 20) hB (draw_ok hB mixed) Tryz.func126 rfl rfl (fun H => [.lit (.int .i64 k), .lit (.int .i64 c)]) (fun _ => []) 0 (fun H => .lit (.string (H ByteArray fun _ => kndT k c))) (fun H => []) (fun _ => []) 90 (by simp) (fun x hx => ?_) (by simp [lk]) (by omega) (by simp) ?_
  · simp only [zqu] at hx
    rcases hx with rfl | rfl
    · exact .lit
    · exact .lit
  intro X hX hX0 H hH
  conv in Fin.chk _ _ => cbv
  try simp only [zqs, zqx, AllP, zqw, upd, if_true]
  subst hH
  simp only [stdH]
  have e : IntKind.i64.wrap (k - 1) = k - 1 := wi (by omega) (by omega)
  rw [e]
  have hs : (wordOf kndL k).size ≤ 20 := kndL_sz k
  refine ⟨⟨by omega, by show k - 1 < (8 : Int); omega⟩, fun h => ⟨?_, (kndT_y h).trans rfl⟩, fun h => (kndT_n h).trans rfl⟩
  show (wordOf kndL k).size + 1 ≤ _
  omega
noncomputable def e_kndW : Entry := pureE 126 fun H a => match a with
  | [.lit (.int .i64 k), .lit (.int .i64 c)] => some (.lit (.string (H ByteArray fun _ => kndT k c)), [H Prop fun _ => 1 ≤ k ∧ k ≤ 8])
  | _ => none
theorem eok_kndW : EntryOk Tryz.prog e_kndW := pureM_ok (by unfold isBody; kernel_rfl) (by
  intro a r ob e hob
  split at e
  · rename_i k c
    simp only [zqt] at e
    obtain ⟨rfl, rfl⟩ := e
    exact ConN.args (.cons .rfl (.cons .rfl .nil)) (c_kndW k c hob.1)
  · simp at e)
theorem c_l4Word (k : Int) (c : Int) (h0 : 1 ≤ k ∧ k ≤ 8) : ConN Tryz.prog 137 [.lit (.int .i64 k), .lit (.int .i64 c)] [] 0 (.lit (.string (stdH ByteArray fun _ => kndT k c))) [] [] := by
  have hB : Base Tryz.prog (tabΓ []) tab := base_of tabOk (ents_nil)
  refine con_m (N := 20) hB (draw_ok hB mixed) Tryz.func137 rfl rfl (fun H => [.lit (.int .i64 k), .lit (.int .i64 c)]) (fun _ => []) 0 (fun H => .lit (.string (H ByteArray fun _ => kndT k c))) (fun H => []) (fun _ => []) 90 (by simp) (fun x hx => ?_) (by simp [lk]) (by omega) (by simp) ?_
  · simp only [zqu] at hx
    rcases hx with rfl | rfl
    · exact .lit
    · exact .lit
  intro X hX hX0 H hH
  conv in Fin.chk _ _ => cbv
  try simp only [zqs, zqx, AllP, zqw, upd, if_true]
  subst hH
  simp only [stdH]
  have e : IntKind.i64.wrap (k - 1) = k - 1 := wi (by omega) (by omega)
  rw [e]
  have hs : (wordOf kndL k).size ≤ 20 := kndL_sz k
  refine ⟨⟨by omega, by show k - 1 < (8 : Int); omega⟩, fun h => ⟨?_, (kndT_y h).trans rfl⟩, fun h => (kndT_n h).trans rfl⟩
  show (wordOf kndL k).size + 1 ≤ _
  omega
noncomputable def e_l4Word : Entry := pureE 137 fun H a => match a with
  | [.lit (.int .i64 k), .lit (.int .i64 c)] => some (.lit (.string (H ByteArray fun _ => kndT k c)), [H Prop fun _ => 1 ≤ k ∧ k ≤ 8])
  | _ => none
theorem eok_l4Word : EntryOk Tryz.prog e_l4Word := pureM_ok (by unfold isBody; kernel_rfl) (by
  intro a r ob e hob
  split at e
  · rename_i k c
    simp only [zqt] at e
    obtain ⟨rfl, rfl⟩ := e
    exact ConN.args (.cons .rfl (.cons .rfl .nil)) (c_l4Word k c hob.1)
  · simp at e)
theorem c_attW (k : Int)  : ConN Tryz.prog 127 [.lit (.int .i64 k)] [] 0 (.vec 1 (stdH Nat fun _ => (attL k).length) (rowsS stdH fun _ => attL k)) [] [] := by
  have hB : Base Tryz.prog (tabΓ []) tab := base_of tabOk (ents_nil)
  refine con_m (N := 14) hB (draw_ok hB mixed) Tryz.func127 rfl rfl (fun H => [.lit (.int .i64 k)]) (fun _ => []) 0 (fun H => .vec 1 (H Nat fun _ => (attL k).length) (rowsS H fun _ => attL k)) (fun H => []) (fun _ => []) 90 (by simp) (fun x hx => ?_) (by simp [lk]) (by omega) (by simp) ?_
  · simp only [zqu] at hx
    rcases hx with rfl
    · exact .lit
  intro X hX hX0 H hH
  conv in Fin.chk _ _ => cbv
  try simp only [zqs, zqx, AllP, zqw, upd, if_true]
  subst hH
  simp only [stdH, beq_iff_eq, beq_eq_false_iff_ne, ne_eq]
  refine ⟨fun h => ?_, fun h1 => ⟨fun h => ?_, fun h2 => ⟨fun h => ?_, fun h3 => ?_⟩⟩⟩
  · subst h; exact .self okS
  · subst h; exact .self okS
  · subst h; exact .self okS
  · rw [show attL k = [] by unfold attL; rw [if_neg h1, if_neg h2, if_neg h3]]; exact .self okS
noncomputable def e_attW : Entry := pureE 127 fun H a => match a with
  | [.lit (.int .i64 k)] => some (.vec 1 (H Nat fun _ => (attL k).length) (rowsS H fun _ => attL k), [])
  | _ => none
theorem eok_attW : EntryOk Tryz.prog e_attW := pureM_ok (by unfold isBody; kernel_rfl) (by
  intro a r ob e hob
  split at e
  · rename_i k
    simp only [zqt] at e
    obtain ⟨rfl, rfl⟩ := e
    exact ConN.args (.cons .rfl .nil) (c_attW k )
  · simp at e)
theorem c_l4Att (k : Int)  : ConN Tryz.prog 138 [.lit (.int .i64 k)] [] 0 (.vec 1 (stdH Nat fun _ => (attL k).length) (rowsS stdH fun _ => attL k)) [] [] := by
  have hB : Base Tryz.prog (tabΓ []) tab := base_of tabOk (ents_nil)
  refine con_m (N := 14) hB (draw_ok hB mixed) Tryz.func138 rfl rfl (fun H => [.lit (.int .i64 k)]) (fun _ => []) 0 (fun H => .vec 1 (H Nat fun _ => (attL k).length) (rowsS H fun _ => attL k)) (fun H => []) (fun _ => []) 90 (by simp) (fun x hx => ?_) (by simp [lk]) (by omega) (by simp) ?_
  · simp only [zqu] at hx
    rcases hx with rfl
    · exact .lit
  intro X hX hX0 H hH
  conv in Fin.chk _ _ => cbv
  try simp only [zqs, zqx, AllP, zqw, upd, if_true]
  subst hH
  simp only [stdH, beq_iff_eq, beq_eq_false_iff_ne, ne_eq]
  refine ⟨fun h => ?_, fun h1 => ⟨fun h => ?_, fun h2 => ⟨fun h => ?_, fun h3 => ?_⟩⟩⟩
  · subst h; exact .self okS
  · subst h; exact .self okS
  · subst h; exact .self okS
  · rw [show attL k = [] by unfold attL; rw [if_neg h1, if_neg h2, if_neg h3]]; exact .self okS
noncomputable def e_l4Att : Entry := pureE 138 fun H a => match a with
  | [.lit (.int .i64 k)] => some (.vec 1 (H Nat fun _ => (attL k).length) (rowsS H fun _ => attL k), [])
  | _ => none
theorem eok_l4Att : EntryOk Tryz.prog e_l4Att := pureM_ok (by unfold isBody; kernel_rfl) (by
  intro a r ob e hob
  split at e
  · rename_i k
    simp only [zqt] at e
    obtain ⟨rfl, rfl⟩ := e
    exact ConN.args (.cons .rfl .nil) (c_l4Att k )
  · simp at e)
def cntT (c k : Int) : ByteArray := if c = 1 ∧ k = 2 then (⟨⟨[97, 110]⟩⟩ : ByteArray) else wordOf cntL c
theorem cntT_sz (c k : Int) : (cntT c k).size ≤ 20 := by
  unfold cntT; split
  · decide
  · exact cntL_sz c
theorem c_cntW (x : Int) (k : Int) (h0 : 1 ≤ x ∧ x ≤ 6) : ConN Tryz.prog 125 [.lit (.int .i64 x), .lit (.int .i64 k)] [] 0 (.lit (.string (stdH ByteArray fun _ => cntT x k))) [] [] := by
  have hB : Base Tryz.prog (tabΓ []) tab := base_of tabOk (ents_nil)
  refine con_m (N := 16) hB (draw_ok hB mixed) Tryz.func125 rfl rfl (fun H => [.lit (.int .i64 x), .lit (.int .i64 k)]) (fun _ => []) 0 (fun H => .lit (.string (H ByteArray fun _ => cntT x k))) (fun H => []) (fun _ => []) 90 (by simp) (fun x hx => ?_) (by simp [lk]) (by omega) (by simp) ?_
  · simp only [zqu] at hx
    rcases hx with rfl | rfl
    · exact .lit
    · exact .lit
  intro X hX hX0 H hH
  conv in Fin.chk _ _ => cbv
  try simp only [zqs, zqx, AllP, zqw, upd, if_true]
  subst hH
  simp only [stdH]
  have e : IntKind.i64.wrap (x - 1) = x - 1 := wi (by omega) (by omega)
  rw [e, bif_and]
  simp only [Bool.and_eq_true, Bool.and_eq_false_iff, zqf, zqh, ne_eq]
  refine ⟨fun h => ?_, fun h => ⟨⟨by omega, by show x - 1 < (6 : Int); omega⟩, ?_⟩⟩
  · unfold cntT; rw [if_pos h]
  · unfold cntT; rw [if_neg (by omega)]; rfl
noncomputable def e_cntW : Entry := pureE 125 fun H a => match a with
  | [.lit (.int .i64 x), .lit (.int .i64 k)] => some (.lit (.string (H ByteArray fun _ => cntT x k)), [H Prop fun _ => 1 ≤ x ∧ x ≤ 6])
  | _ => none
theorem eok_cntW : EntryOk Tryz.prog e_cntW := pureM_ok (by unfold isBody; kernel_rfl) (by
  intro a r ob e hob
  split at e
  · rename_i x k
    simp only [zqt] at e
    obtain ⟨rfl, rfl⟩ := e
    exact ConN.args (.cons .rfl (.cons .rfl .nil)) (c_cntW x k hob.1)
  · simp at e)
def okT (g : Grp) : Prop := (1 ≤ g.c ∧ g.c ≤ 6) ∧ (1 ≤ g.k ∧ g.k ≤ 8) ∧ g.a ≤ ((attL g.k).length : Nat) ∧ (1 ≤ g.t ∧ g.t ≤ 9)
def attT (g : Grp) : ByteArray := if 0 < g.a then (⟨⟨[32]⟩⟩ : ByteArray) ++ wordOf (attL g.k) g.a else ByteArray.empty
theorem attT_sz (g : Grp) : (attT g).size ≤ 21 := by
  have := attL_sz g.k g.a
  unfold attT; split
  · rw [ByteArray.size_append]; exact (Nat.add_le_add (a := 1) (by decide) this)
  · decide
def grpT (g : Grp) : ByteArray := cntT g.c g.k ++ ((⟨⟨[32]⟩⟩ : ByteArray) ++ (kndT g.k g.c ++ (attT g ++ ((⟨⟨[32]⟩⟩ : ByteArray) ++ wordOf tinL g.t))))
theorem grpT_sz (g : Grp) : (grpT g).size ≤ 100 := by
  have h1 := cntT_sz g.c g.k; have h2 := kndT_sz g.k g.c; have h3 := attT_sz g; have h4 := tinL_sz g.t
  have h5 : ((⟨⟨[32]⟩⟩ : ByteArray)).size = 1 := rfl
  unfold grpT
  simp only [ByteArray.size_append]
  omega
theorem bsz (l : List UInt8) : (ByteArray.mk (Array.mk l)).size = l.length := rfl
theorem attL_len (k : Int) : (attL k).length ≤ 2 := by unfold attL; split <;> (try split) <;> (try split) <;> decide
theorem attT_y {g : Grp} (h : 0 < g.a) : attT g = (⟨⟨[32]⟩⟩ : ByteArray) ++ wordOf (attL g.k) g.a := if_pos h
theorem attT_n {g : Grp} (h : ¬ 0 < g.a) : attT g = ByteArray.empty := if_neg h
theorem wordOf_eq (l : List ByteArray) (x : Int) : l.getD (x - 1).toNat ByteArray.empty = wordOf l x := rfl
theorem app_empty (a : ByteArray) : a ++ ByteArray.empty = a := by simp
theorem empty_app (a : ByteArray) : ByteArray.empty ++ a = a := by simp
theorem c_grpText (g : Grp) (h0 : okT g) : ConN Tryz.prog 131 [aT rowG stdH fun _ => g] [] 0 (.lit (.string (stdH ByteArray fun _ => grpT g))) [] [] := by
  have hB : Base Tryz.prog (tabΓ [e_cntW, e_kndW, e_attW, e_tincW]) tab := base_of tabOk (ents_cons eok_cntW <| ents_cons eok_kndW <| ents_cons eok_attW <| ents_cons eok_tincW <| ents_nil)
  refine con_m (N := 36) hB (draw_ok hB mixed) Tryz.func131 rfl rfl (fun H => [aT rowG H fun _ => g]) (fun _ => []) 0 (fun H => .lit (.string (H ByteArray fun _ => grpT g))) (fun H => []) (fun _ => []) 120 (by simp) (fun x hx => ?_) (by simp [lk]) (by omega) (by simp) ?_
  · simp only [zqu] at hx
    rcases hx with rfl
    · exact aT_bl okRG _ _
  intro X hX hX0 H hH
  conv in Fin.chk _ _ => cbv
  try simp only [zqs, zqx, AllP, zqw, upd, if_true]
  subst hH
  simp only [stdH, decide_eq_true_eq, decide_eq_false_iff_not]
  obtain ⟨hc, hk, ha, ht⟩ := h0
  have s1 := cntT_sz g.c g.k
  have s2 := kndT_sz g.k g.c
  have s3 := attL_sz g.k g.a
  have s4 := tinL_sz g.t
  have s5 := attL_len g.k
  have s6 := cntL_sz g.c
  by_cases hq : 0 < g.a
  · have e : IntKind.i64.wrap (g.a - 1) = g.a - 1 := wi (by omega) (by omega)
    simp only [e, wordOf_eq]
    repeat' (first | refine And.intro ?_ ?_ | intro _)
    all_goals first | assumption | omega | contradiction | (simp only [ByteArray.size_append, bsz, List.length_cons, List.length_nil]; omega) | ((try unfold grpT); simp only [attT_y hq, ByteArray.append_assoc])
  · try simp only [wordOf_eq]
    repeat' (first | refine And.intro ?_ ?_ | intro _)
    all_goals first | assumption | omega | contradiction | (simp only [ByteArray.size_append, bsz, List.length_cons, List.length_nil]; omega) | ((try unfold grpT); simp only [attT_n hq, ByteArray.append_assoc, app_empty, empty_app])
noncomputable def e_grpText : Entry := pureE 131 fun H a => match a with
  | [.agg [.lit (.int .i64 g0), .lit (.int .i64 g1), .lit (.int .i64 g2), .lit (.int .i64 g3)]] => some (.lit (.string (H ByteArray fun _ => grpT (⟨g0, g1, g2, g3⟩ : Grp))), [H Prop fun _ => okT (⟨g0, g1, g2, g3⟩ : Grp)])
  | _ => none
theorem eok_grpText : EntryOk Tryz.prog e_grpText := pureM_ok (by unfold isBody; kernel_rfl) (by
  intro a r ob e hob
  split at e
  · rename_i g0 g1 g2 g3
    simp only [zqt] at e
    obtain ⟨rfl, rfl⟩ := e
    exact ConN.args (.cons .rfl .nil) (c_grpText (⟨g0, g1, g2, g3⟩ : Grp) hob.1)
  · simp at e)
theorem cntT_y {c k : Int} (h : (bif c == 1 then k == 2 else false) = true) : cntT c k = (⟨⟨[97, 110]⟩⟩ : ByteArray) := by
  rw [bif_and] at h; simp at h; unfold cntT; rw [if_pos h]
theorem cntT_n {c k : Int} (h : (bif c == 1 then k == 2 else false) = false) : cntT c k = wordOf cntL c := by
  rw [bif_and] at h; unfold cntT; rw [if_neg (by rintro ⟨rfl, rfl⟩; simp at h)]
theorem c_l4Bare (g : Grp) (h0 : okT g) : ConN Tryz.prog 90 [aT rowG stdH fun _ => g] [] 0 (.lit (.string (stdH ByteArray fun _ => cntT g.c g.k ++ ((⟨⟨[32]⟩⟩ : ByteArray) ++ (kndT g.k g.c ++ attT g))))) [] [] := by
  have hB : Base Tryz.prog (tabΓ [e_l4Word, e_l4Att]) tab := base_of tabOk (ents_cons eok_l4Word <| ents_cons eok_l4Att <| ents_nil)
  refine con_m (N := 41) hB (draw_ok hB mixed) Tryz.func90 rfl rfl (fun H => [aT rowG H fun _ => g]) (fun _ => []) 0 (fun H => .lit (.string (H ByteArray fun _ => cntT g.c g.k ++ ((⟨⟨[32]⟩⟩ : ByteArray) ++ (kndT g.k g.c ++ attT g))))) (fun H => []) (fun _ => []) 120 (by simp) (fun x hx => ?_) (by simp [lk]) (by omega) (by simp) ?_
  · simp only [zqu] at hx
    rcases hx with rfl
    · exact aT_bl okRG _ _
  intro X hX hX0 H hH
  conv in Fin.chk _ _ => cbv
  try simp only [zqs, zqx, AllP, zqw, upd, if_true]
  subst hH
  simp only [stdH, decide_eq_true_eq, decide_eq_false_iff_not]
  have ec : IntKind.i64.wrap (g.c - 1) = g.c - 1 := by have := h0.1; exact wi (by omega) (by omega)
  rw [ec]
  refine ⟨⟨by have := h0.1; omega, by have := h0.1; show g.c - 1 < (6 : Int); omega⟩, fun h => ?_, fun h => ?_⟩
  · rw [cntT_y h]
    obtain ⟨hc, hk, ha, ht⟩ := h0
    have s1 := cntT_sz g.c g.k
    have s2 := kndT_sz g.k g.c
    have s3 := attL_sz g.k g.a
    have s4 := tinL_sz g.t
    have s5 := attL_len g.k
    have s6 := cntL_sz g.c
    by_cases hq : 0 < g.a
    · have e : IntKind.i64.wrap (g.a - 1) = g.a - 1 := wi (by omega) (by omega)
      simp only [e, wordOf_eq]
      repeat' (first | refine And.intro ?_ ?_ | intro _)
      all_goals first | assumption | omega | contradiction | (simp only [ByteArray.size_append, bsz, List.length_cons, List.length_nil]; omega) | ((try unfold grpT); simp only [attT_y hq, ByteArray.append_assoc])
    · try simp only [wordOf_eq]
      repeat' (first | refine And.intro ?_ ?_ | intro _)
      all_goals first | assumption | omega | contradiction | (simp only [ByteArray.size_append, bsz, List.length_cons, List.length_nil]; omega) | ((try unfold grpT); simp only [attT_n hq, ByteArray.append_assoc, app_empty, empty_app])
  · rw [cntT_n h]
    have hw : List.getD [(⟨⟨[97]⟩⟩ : ByteArray), (⟨⟨[116, 119, 111]⟩⟩ : ByteArray), (⟨⟨[116, 104, 114, 101, 101]⟩⟩ : ByteArray), (⟨⟨[102, 111, 117, 114]⟩⟩ : ByteArray), (⟨⟨[102, 105, 118, 101]⟩⟩ : ByteArray), (⟨⟨[115, 105, 120]⟩⟩ : ByteArray)] (g.c - 1).toNat ByteArray.empty = wordOf cntL g.c := rfl
    simp only [hw]
    obtain ⟨hc, hk, ha, ht⟩ := h0
    have s1 := cntT_sz g.c g.k
    have s2 := kndT_sz g.k g.c
    have s3 := attL_sz g.k g.a
    have s4 := tinL_sz g.t
    have s5 := attL_len g.k
    have s6 := cntL_sz g.c
    by_cases hq : 0 < g.a
    · have e : IntKind.i64.wrap (g.a - 1) = g.a - 1 := wi (by omega) (by omega)
      simp only [e, wordOf_eq]
      repeat' (first | refine And.intro ?_ ?_ | intro _)
      all_goals first | assumption | omega | contradiction | (simp only [ByteArray.size_append, bsz, List.length_cons, List.length_nil]; omega) | ((try unfold grpT); simp only [attT_y hq, ByteArray.append_assoc])
    · try simp only [wordOf_eq]
      repeat' (first | refine And.intro ?_ ?_ | intro _)
      all_goals first | assumption | omega | contradiction | (simp only [ByteArray.size_append, bsz, List.length_cons, List.length_nil]; omega) | ((try unfold grpT); simp only [attT_n hq, ByteArray.append_assoc, app_empty, empty_app])
noncomputable def e_l4Bare : Entry := pureE 90 fun H a => match a with
  | [.agg [.lit (.int .i64 g0), .lit (.int .i64 g1), .lit (.int .i64 g2), .lit (.int .i64 g3)]] => some (.lit (.string (H ByteArray fun _ => cntT (⟨g0, g1, g2, g3⟩ : Grp).c (⟨g0, g1, g2, g3⟩ : Grp).k ++ ((⟨⟨[32]⟩⟩ : ByteArray) ++ (kndT (⟨g0, g1, g2, g3⟩ : Grp).k (⟨g0, g1, g2, g3⟩ : Grp).c ++ attT (⟨g0, g1, g2, g3⟩ : Grp))))), [H Prop fun _ => okT (⟨g0, g1, g2, g3⟩ : Grp)])
  | _ => none
theorem eok_l4Bare : EntryOk Tryz.prog e_l4Bare := pureM_ok (by unfold isBody; kernel_rfl) (by
  intro a r ob e hob
  split at e
  · rename_i g0 g1 g2 g3
    simp only [zqt] at e
    obtain ⟨rfl, rfl⟩ := e
    exact ConN.args (.cons .rfl .nil) (c_l4Bare (⟨g0, g1, g2, g3⟩ : Grp) hob.1)
  · simp at e)
theorem wordE {l : List ByteArray} {r : Int} (h : 1 ≤ r) : (ByteArray.empty :: l).getD r.toNat ByteArray.empty = wordOf l r := by
  have e : r.toNat = (r - 1).toNat + 1 := by omega
  rw [e, List.getD_cons_succ]; rfl

end Go.Proofs.YtmkniipdkanbbaaGreatDoor.AM

