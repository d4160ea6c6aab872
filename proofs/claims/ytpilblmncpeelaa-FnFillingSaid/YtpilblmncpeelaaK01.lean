/- Lemmas and contracts (AmA); conditions: none. -/
import Derived.Test.YtpilblmncpeelaaProg
import GoSem.Core.Code
import Derived.Control
import Derived.Laws.Sem
import Derived.Deep.MidRow
import Derived.ChangeAgain
import Derived.Laws.StructEq
import Derived.WalkKit
import Derived.Laws.Cells
import Derived.Laws.BytesString
import Derived.Laws.Tables
import Derived.Great.BuildSlice
import Derived.Deep.AppendSrc
import Derived.Deep.Upon
import Derived.Laws.AppendOwn
import Derived.Laws.MakeOwn
import Derived.Laws.Slices
set_option linter.unusedVariables false
set_option linter.unusedSimpArgs false
set_option linter.unusedVariables false
set_option linter.unusedSimpArgs false
namespace Go.Proofs.Ytpilblmncpeelaa.AM

/-- A value as the machine sees it: a value of the model; a pointer into, a slice of, a block of its own (by the block's name); a pointer into one row of such a block (elm: cell o of row j, of k cells each); a slice that is only read, by its contents (ful: one with no room behind its end); a number known in full; a struct or array by its cells; a tuple; a function with what it captured. -/
inductive AV where
  | lit (v : Value)
  | ptr (id off : Nat)
  | slc (id off k len : Nat)
  | elm (id k j o : Nat)
  | vec (k n : Nat) (f : Nat → List AV)
  | ful (k n : Nat) (f : Nat → List AV)
  | num (n : Nat)
  | kb (b : Bool)
  | er (b : Bool)
  | rptr (l : List AV)
  | agg (l : List AV)
  | tup (l : List AV)
  | fn (f : Fn) (first caps : List AV)
/-- A block: its first cells; or its first n rows of k cells each. -/
inductive Blk where
  | cells (l : List AV) (elem : TypeId)
  | rows (k n : Nat) (f : Nat → List AV) (elem : TypeId)
/-- A block of which nothing is known: of a slice that has been appended to. -/
def Blk.dead : Blk → Bool
  | .cells [] _ => true
  | _ => false
/-- The kind of a cell. -/
inductive CK where
  | int | bool | str
/-- The kind of a type, as far as arithmetic and comparison ask. -/
inductive Kd where
  | int (k : IntKind)
  | bool
  | cells (ks : List CK)
  | str
  | ifc
  | other
/-- What is known of a type. -/
structure TI where
  size : Nat
  agg : Bool
  zero : List Value
  offs : List (Nat × Nat)
  elem : TypeId
  bytes : Nat
  kd : Kd
  st : Bool
  sl : Bool
abbrev Env := List (Nat × AV)
abbrev TEnv := List (Nat × (Nat × Bool) × AV)
abbrev Heap := List (Nat × Blk)
/-- The types; whether loops are walked round by round; which literals of slices are the call's own (0: none, 1: the empty ones, 2: all). -/
structure Tab where
  l : List (Nat × TI)
  u : Bool
  o : Nat
abbrev Hold := (α : Type) → (Unit → α) → α
abbrev stdH : Hold := fun _ f => f ()
structure St where
  env : Env
  heap : Heap
  next : Nat
def lk {α : Type} (d : Nat) : List (Nat × α) → Option α
  | [] => none
  | (k, v) :: r => bif Nat.beq k d then some v else lk d r
def pt {α : Type} (d : Nat) (v : α) : List (Nat × α) → List (Nat × α)
  | [] => [(d, v)]
  | (k, u) :: r => bif Nat.beq k d then (d, v) :: r else (k, u) :: pt d v r
def dl {α : Type} (d : Nat) : List (Nat × α) → List (Nat × α)
  | [] => []
  | (k, u) :: r => bif Nat.beq k d then dl d r else (k, u) :: dl d r
def pts {α : Type} : List (Nat × α) → List (Nat × α) → List (Nat × α)
  | [], h => h
  | (i, b) :: u, h => pts u (pt i b h)
def AV.cells : AV → List AV
  | .agg l => l
  | v => [v]
def mk : Bool → List AV → Option AV
  | true, l => some (.agg l)
  | false, [v] => some v
  | false, _ => none
/-- What an operation does: a value, new blocks (named one after the other from the state's next name on), the blocks that it looks at, those that it changes; and what must hold lest it panic. -/
inductive Eff where
  | mk (v : Option AV) (nb : List Blk) (rd : List Nat) (u : Heap) (ob : List Prop)
  | bad
/-- The contracts of the functions that are called, from the next name on: the value, the new blocks, the blocks looked at, the blocks changed, what must hold. -/
abbrev Cons := Hold → Nat → List AV → Heap → Nat → Option (AV × List Blk × List Nat × Heap × List Prop)

/-! ### Operations -/
def sameK (k k' : IntKind) : Bool := Nat.beq k.bits k'.bits && (match k.signed, k'.signed with | true, true => true | false, false => true | _, _ => false)
def bin (H : Hold) (op : BinOp) (x y : Value) : Option (Value × List Prop) :=
  match x, y with
  | .int k a, .int k' b => (match op with
    | .shr => some (.int k (H Int fun _ => a.fdiv (2 ^ (min b.toNat k.bits))), [H Prop fun _ => 0 ≤ b])
    | .shl => some (.int k (H Int fun _ => k.wrap (a * 2 ^ (min b.toNat k.bits))), [H Prop fun _ => 0 ≤ b])
    | _ => bif sameK k k' then (match op with
      | .add => some (.int k (H Int fun _ => k.wrap (a + b)), [])
      | .sub => some (.int k (H Int fun _ => k.wrap (a - b)), [])
      | .mul => some (.int k (H Int fun _ => k.wrap (a * b)), [])
      | .quo => some (.int k (H Int fun _ => k.wrap (a.tdiv b)), [H Prop fun _ => b ≠ 0])
      | .rem => some (.int k (H Int fun _ => a.tmod b), [H Prop fun _ => b ≠ 0])
      | .and => some (.int k (H Int fun _ => k.wrap (BitVec.ofInt k.bits a &&& BitVec.ofInt k.bits b).toNat), [])
      | .or => some (.int k (H Int fun _ => k.wrap (BitVec.ofInt k.bits a ||| BitVec.ofInt k.bits b).toNat), [])
      | .xor => some (.int k (H Int fun _ => k.wrap (BitVec.ofInt k.bits a ^^^ BitVec.ofInt k.bits b).toNat), [])
      | .andNot => some (.int k (H Int fun _ => k.wrap (BitVec.ofInt k.bits a &&& ~~~BitVec.ofInt k.bits b).toNat), [])
      | .eql => some (.bool (H Bool fun _ => a == b), [])
      | .neq => some (.bool (H Bool fun _ => a != b), [])
      | .lss => some (.bool (H Bool fun _ => decide (a < b)), [])
      | .leq => some (.bool (H Bool fun _ => decide (a ≤ b)), [])
      | .gtr => some (.bool (H Bool fun _ => decide (a > b)), [])
      | .geq => some (.bool (H Bool fun _ => decide (a ≥ b)), [])
      | _ => none) else none)
  | .string a, .string b => (match op with
    | .add => some (.string (H ByteArray fun _ => a ++ b), [H Prop fun _ => a.size + b.size ≤ 9223372036854775807])
    | .eql => some (.bool (H Bool fun _ => a.toList == b.toList), [])
    | .neq => some (.bool (H Bool fun _ => !(a.toList == b.toList)), [])
    | .lss => some (.bool (H Bool fun _ => Op.bytesLess a.toList b.toList), [])
    | .leq => some (.bool (H Bool fun _ => Op.bytesLess a.toList b.toList || a.toList == b.toList), [])
    | .gtr => some (.bool (H Bool fun _ => !(Op.bytesLess a.toList b.toList || a.toList == b.toList)), [])
    | .geq => some (.bool (H Bool fun _ => !Op.bytesLess a.toList b.toList), [])
    | _ => none)
  | _, _ => none
/-- Two structs of numbers, texts and truths. -/
def eqCells : List CK → List AV → List AV → Option (List (Unit → Bool))
  | [], [], [] => some []
  | .int :: c, .lit (.int k a) :: x, .lit (.int k' b) :: y => bif sameK k k' then (match eqCells c x y with | some l => some ((fun _ => a == b) :: l) | none => none) else none
  | .bool :: c, .lit (.bool a) :: x, .lit (.bool b) :: y => (match eqCells c x y with | some l => some ((fun _ => a == b) :: l) | none => none)
  | .str :: c, .lit (.string a) :: x, .lit (.string b) :: y => (match eqCells c x y with | some l => some ((fun _ => a == b) :: l) | none => none)
  | _, _, _ => none
def allT : List (Unit → Bool) → Bool
  | [] => true
  | f :: r => f () && allT r
def splice (cs : List AV) (n : List AV) : Nat → Option (List AV)
  | 0 => bif Nat.ble n.length cs.length then some (n ++ cs.drop n.length) else none
  | o + 1 => match cs with
    | [] => none
    | c :: r => match splice r n o with | some l => some (c :: l) | none => none
def pure1 (v : AV) : Eff := .mk (some v) [] [] [] []
def eOpt : Option AV → Eff
  | some v => pure1 v
  | none => .bad
def ePick (H : Hold) : Option AV → Option AV → Option AV → Eff
  | some (.lit (.bool c)), some (.lit (.bool a)), some (.lit (.bool b)) => pure1 (.lit (.bool (H Bool fun _ => bif c then a else b)))
  | some (.lit (.bool c)), none, some (.lit (.bool b)) => .mk (some (.lit (.bool b))) [] [] [] [H Prop fun _ => c = false]
  | some (.lit (.bool c)), some (.lit (.bool a)), none => .mk (some (.lit (.bool a))) [] [] [] [H Prop fun _ => c = true]
  | _, _, _ => .bad
def eAlloc (T n : Nat) : Option TI → Eff
  | some i => .mk (some (.ptr n 0)) [.cells (i.zero.map .lit) T] [] [] []
  | none => .bad
def notTup : AV → Bool
  | .tup _ => false
  | _ => true
def eBox (T n : Nat) : Option AV → Eff
  | some v => bif notTup v then .mk (some (.ptr n 0)) [.cells v.cells T] [] [] [] else .bad
  | none => .bad
/-- The parts of a literal, each pt at its place. -/
def fills (offs : Nat → Option (Nat × Nat)) : List (Nat × Option AV) → List AV → Option (List AV)
  | [], cs => some cs
  | (i, some v) :: r, cs => (match offs i with
    | some (o, sz) => bif Nat.beq v.cells.length sz && notTup v then (match splice cs v.cells o with | some cs => fills offs r cs | none => none) else none
    | none => none)
  | (_, none) :: _, _ => none
def eBuild (parts : List (Nat × Option AV)) : Option TI → Eff
  | some i => bif i.st then (match fills (fun j => i.offs[j]?) parts (i.zero.map .lit) with | some cs => pure1 (.agg cs) | none => .bad) else .bad
  | none => .bad
def rep {α : Type} (l : List α) : Nat → List α
  | 0 => []
  | n + 1 => l ++ rep l n
/-- The rows of a list of cells. -/
def rowsOf (k : Nat) (cs : List AV) (j : Nat) : List AV := (cs.drop (j * k)).take k
/-- Which literals are the call's own: 1 and 3 the empty ones, 2 all, 10 + e the empty ones but those of the element type e, 1000 + e all but the ones of the element type e that are not empty. -/
def ownLit (o e len : Nat) : Bool := match o with
  | 0 => false
  | 1 => Nat.beq len 0
  | 2 => true
  | o => bif Nat.ble 1000 o then Nat.beq len 0 || !Nat.beq e (o - 1000) else bif Nat.ble 10 o then Nat.beq len 0 && !Nat.beq e (o - 10) else Nat.beq len 0
def strs : List AV → Option (List ByteArray)
  | [] => some []
  | .lit (.string s) :: r => (match strs r with
    | some l => some (s :: l)
    | none => none)
  | _ => none
def rowsS (H : Hold) (L : Unit → List ByteArray) (j : Nat) : List AV := [.lit (.string (H ByteArray fun _ => (L ()).getD j ByteArray.empty))]
/-- The rows of a literal: of texts, told by their list. -/
def litRows (H : Hold) (k : Nat) (kd : Kd) (len : Nat) (cs : List AV) : Nat → List AV := match kd with
  | .str => bif Nat.beq k 1 && Nat.beq cs.length len then (match strs cs with
    | some L => rowsS H (fun _ => L)
    | none => rowsOf k cs) else rowsOf k cs
  | _ => rowsOf k cs
/-- A list of numbers of one kind. -/
def numsI (q : IntKind) : List AV → Option (List Int)
  | [] => some []
  | .lit (.int q' a) :: r => bif sameK q q' then (match numsI q r with
    | some l => some (a :: l)
    | none => none) else none
  | _ => none
def rowsN (q : IntKind) (H : Hold) (L : Unit → List Int) (j : Nat) : List AV := [.lit (.int q (H Int fun _ => (L ()).getD j 0))]
/-- A list of slices that are only read, of rows of one cell. -/
def vecs1 : List AV → Option (List (Nat × (Nat → List AV)))
  | [] => some []
  | .vec k n f :: r => bif Nat.beq k 1 then (match vecs1 r with
    | some l => some ((n, f) :: l)
    | none => none) else none
  | _ => none
def noV : Nat × (Nat → List AV) := (0, fun _ => [])
def rowsV (H : Hold) (L : Unit → List (Nat × (Nat → List AV))) (j : Nat) : List AV := [.vec 1 (H Nat fun _ => ((L ()).getD j noV).1) (H (Nat → List AV) fun _ => ((L ()).getD j noV).2)]
/-- The rows of a literal; where empty literals are the call's own: also of numbers and of slices told by their list. -/
def litRowsO (H : Hold) (o k : Nat) (kd : Kd) (len : Nat) (cs : List AV) : Nat → List AV := match o with
  | 0 => litRows H k kd len cs
  | _ + 1 => match kd with
    | .int q => bif Nat.beq k 1 && Nat.beq cs.length len then (match numsI q cs with
      | some L => rowsN q H (fun _ => L)
      | none => rowsOf k cs) else rowsOf k cs
    | .other => bif Nat.beq k 1 && Nat.beq cs.length len then (match vecs1 cs with
      | some L => rowsV H (fun _ => L)
      | none => rowsOf k cs) else rowsOf k cs
    | kd => litRows H k kd len cs
/-- A slice literal: it is only read, and has no room behind its end; or it is the call's own. -/
def eBuildSlice (H : Hold) (τ : Tab) (n len : Nat) (parts : List (Nat × Option AV)) : Option TI → Eff
  | some t => bif t.sl then (match lk t.elem τ.l with
    | some i => bif Nat.ble (len * i.size) 16777216 && (Nat.blt 0 i.size && Nat.beq i.zero.length i.size) then (match fills (fun j => some (j * i.size, i.size)) parts (rep (i.zero.map .lit) len) with
      | some cs => bif ownLit τ.o t.elem len then .mk (some (.slc n 0 i.size len)) [.rows i.size len (rowsOf i.size cs) t.elem] [] [] [] else .mk (some (.ful i.size len (litRowsO H τ.o i.size i.kd len cs))) [] [] [] []
      | none => .bad) else .bad
    | none => .bad) else .bad
  | none => .bad
def eLoadV (rd : List Nat) : Option AV → Eff
  | some v => .mk (some v) [] rd [] []
  | none => .bad
def eLoad2 (i off : Nat) : Option TI → Option Blk → Eff
  | some t, some (.cells l _) => bif Nat.ble (off + t.size) l.length then eLoadV [i] (mk t.agg ((l.drop off).take t.size)) else .bad
  | _, _ => .bad
def eLoadE (H : Hold) (i k j o : Nat) : Option TI → Option Blk → Eff
  | some t, some (.rows k' n f _) => bif Nat.beq k k' && (Nat.ble (o + t.size) k && Nat.blt 0 k) then (match mk t.agg (((f j).drop o).take t.size) with
    | some v => .mk (some v) [] [i] [] [H Prop fun _ => j < n ∧ (f j).length = k]
    | none => .bad) else .bad
  | _, _ => .bad
def eLoad (H : Hold) (t : Option TI) (h : Heap) : Option AV → Eff
  | some (.ptr i off) => eLoad2 i off t (lk i h)
  | some (.elm i k j o) => eLoadE H i k j o t (lk i h)
  | some (.rptr l) => (match t with | some t => bif Nat.ble t.size l.length then eLoadV [] (mk t.agg (l.take t.size)) else .bad | none => .bad)
  | _ => .bad
def eStore3 (i : Nat) (T : TypeId) : Option (List AV) → Eff
  | some cs => .mk none [] [i] [(i, .cells cs T)] []
  | none => .bad
def eStore2 (i off : Nat) (v : AV) : Option TI → Option Blk → Eff
  | some t, some (.cells l T) => bif Nat.beq v.cells.length t.size && (notTup v && Nat.blt 0 l.length) then eStore3 i T (splice l v.cells off) else .bad
  | _, _ => .bad
/-- The rows f, row j of them new. -/
def put1 {α : Type} (j : Nat) (row : α) (f : Nat → α) (q : Nat) : α := bif Nat.beq q j then row else f q
/-- The rows f, the cells cs put into row j from cell o on. -/
def put2 (j o : Nat) (cs : List AV) (f : Nat → List AV) (q : Nat) : List AV := bif Nat.beq q j then (match splice (f q) cs o with | some r => r | none => f q) else f q
def eStoreE (H : Hold) (i k j o : Nat) (v : AV) : Option TI → Option Blk → Eff
  | some t, some (.rows k' n f E) => bif Nat.beq k k' && (Nat.beq v.cells.length t.size && (notTup v && Nat.blt 0 k)) then
    (bif Nat.beq o 0 && Nat.beq t.size k then .mk none [] [i] [(i, .rows k n (put1 j v.cells f) E)] [H Prop fun _ => j < n ∧ (f j).length = k]
    else bif Nat.ble (o + t.size) k then .mk none [] [i] [(i, .rows k n (put2 j o v.cells f) E)] [H Prop fun _ => j < n ∧ (f j).length = k] else .bad) else .bad
  | _, _ => .bad
def eStore (H : Hold) (t : Option TI) (h : Heap) : Option AV → Option AV → Eff
  | some (.elm i k j o), some v => eStoreE H i k j o v t (lk i h)
  | some (.ptr i off), some v => eStore2 i off v t (lk i h)
  | _, _ => .bad
def eField2 (i off : Nat) : Option (Nat × Nat) → Eff
  | some (o, sz) => bif Nat.blt 0 sz then pure1 (.ptr i (off + o)) else .bad
  | none => .bad
def eFieldE (i k j o : Nat) : Option (Nat × Nat) → Eff
  | some (a, sz) => bif Nat.blt 0 sz then pure1 (.elm i k j (o + a)) else .bad
  | none => .bad
def eFieldR (l : List AV) : Option (Nat × Nat) → Eff
  | some (a, sz) => bif Nat.blt 0 sz then pure1 (.rptr (l.drop a)) else .bad
  | none => .bad
def eField (f : Nat) : Option TI → Option AV → Eff
  | some t, some (.rptr l) => eFieldR l t.offs[f]?
  | some t, some (.elm i k j o) => eFieldE i k j o t.offs[f]?
  | some t, some (.ptr i off) => eField2 i off t.offs[f]?
  | _, _ => .bad
def eNil : Option AV → Eff
  | some (.elm i k j o) => pure1 (.elm i k j o)
  | some (.ptr i off) => pure1 (.ptr i off)
  | some (.fn (.func f) a b) => pure1 (.fn (.func f) a b)
  | _ => .bad
def eBin2 : Option (Value × List Prop) → Eff
  | some (v, ob) => .mk (some (.lit v)) [] [] [] ob
  | none => .bad
def eEq (H : Hold) (op : BinOp) : Option (List (Unit → Bool)) → Eff
  | some l => (match op with
    | .eql => pure1 (.lit (.bool (H Bool fun _ => allT l)))
    | .neq => pure1 (.lit (.bool (H Bool fun _ => !allT l)))
    | _ => .bad)
  | none => .bad
def kdOf : Option TI → Kd
  | some t => t.kd
  | none => .other
def eBool (H : Hold) (op : BinOp) (a b : Bool) : Kd → Eff
  | .bool => (match op with
    | .eql => pure1 (.lit (.bool (H Bool fun _ => a == b)))
    | .neq => pure1 (.lit (.bool (H Bool fun _ => !(a == b))))
    | _ => .bad)
  | _ => .bad
def eBin (H : Hold) (op : BinOp) (kd : Kd) : Option AV → Option AV → Eff
  | some (.lit (.bool a)), some (.lit (.bool b)) => eBool H op a b kd
  | some (.lit a), some (.lit b) => eBin2 (bin H op a b)
  | some (.agg a), some (.agg b) => (match kd with
    | .cells ks => eEq H op (eqCells ks a b)
    | _ => .bad)
  | _, _ => .bad
/-- An error against nil. -/
def eErr (H : Hold) (op : BinOp) (kd : Kd) : Option AV → Option AV → Eff
  | some (.er b), some (.lit .nilIface) => (match kd with
    | .ifc => (match op with
      | .eql => pure1 (.lit (.bool (H Bool fun _ => b)))
      | .neq => pure1 (.lit (.bool (H Bool fun _ => !b)))
      | _ => .bad)
    | _ => .bad)
  | _, _ => .bad
def isNilC : Operand → Bool
  | .const .nilIface => true
  | _ => false
def eBinN (H : Hold) (op : BinOp) (kd : Kd) (n : Bool) (a b : Option AV) : Eff := match n with
  | true => eErr H op kd a b
  | false => eBin H op kd a b
def eUn (H : Hold) : UnOp → Option AV → Eff
  | .not, some (.lit (.bool b)) => pure1 (.lit (.bool (H Bool fun _ => !b)))
  | .neg, some (.lit (.int k a)) => pure1 (.lit (.int k (H Int fun _ => k.wrap (0 - a))))
  | _, _ => .bad
/-- A byte as a text. -/
def byteT (a : Int) : ByteArray := ByteArray.empty.push (UInt8.ofNat a.toNat)
def kdU8 : Kd → Bool
  | .int k => sameK k .u8
  | _ => false
def kdStr : Kd → Bool
  | .str => true
  | _ => false
/-- A slice of one byte as a text. -/
def eConvS (H : Hold) (l : List (Nat × TI)) (s : Option TI) (d : Kd) (n : Nat) (c : List AV) : Eff := match s, c with
  | some s, [.lit (.int k a)] => bif s.sl && kdStr d && kdU8 (kdOf (lk s.elem l)) && sameK k .u8 && Nat.beq n 1 then pure1 (.lit (.string (H ByteArray fun _ => byteT a))) else .bad
  | _, _ => .bad
def eConv (H : Hold) (l : List (Nat × TI)) (s : Option TI) (d : Kd) : Option AV → Eff
  | some (.lit (.int _ a)) => (match s, d with | some _, .int k => pure1 (.lit (.int k (H Int fun _ => k.wrap a))) | _, _ => .bad)
  | some (.vec k n f) => bif Nat.beq k 1 then eConvS H l s d n (f 0) else .bad
  | _ => .bad
def eExt (i : Nat) : Option AV → Eff
  | some (.tup l) => eOpt l[i]?
  | _ => .bad
def all? : List (Option AV) → Option (List AV)
  | [] => some []
  | some v :: r => (match all? r with | some l => some (v :: l) | none => none)
  | none :: _ => none
def eFunc (f : Fn) : Option (List AV) → Option (List AV) → Eff
  | some a, some b => pure1 (.fn f a b)
  | _, _ => .bad
def eCall3 : Option (AV × List Blk × List Nat × Heap × List Prop) → Eff
  | some (v, nb, rd, u, ob) => .mk (some v) nb rd u ob
  | none => .bad
/-- No names at all, seen by the eye. -/
def blq : Nat → AV → Bool
  | 0, _ => false
  | _ + 1, .lit _ => true
  | _ + 1, .num _ => true
  | _ + 1, .kb _ => true
  | _ + 1, .er _ => true
  | n + 1, .agg l => l.all (blq n)
  | n + 1, .tup l => l.all (blq n)
  | _ + 1, _ => false
/-- The arguments of a call, the call's own slices seen as slices that are only read. -/
def view (H : Hold) (h : Heap) : List AV → List AV × List Nat × List Prop
  | [] => ([], [], [])
  | x :: r => match view H h r with
    | (l, ids, ob) => match x with
      | .slc i 0 k n => (match lk i h with
        | some (.rows k' n' f _) => bif Nat.beq k k' && Nat.blt 0 k then (.vec k n f :: l, i :: ids, (H Prop fun _ => n' = n ∧ ∀ j, j < n → (f j).length = k) :: ob) else (.slc i 0 k n :: l, ids, ob)
        | _ => (.slc i 0 k n :: l, ids, ob))
      | x => (x :: l, ids, ob)
/-- No slices that are only read, seen by the eye. -/
def nvq : Nat → AV → Bool
  | 0, _ => false
  | _ + 1, .lit _ => true
  | _ + 1, .num _ => true
  | _ + 1, .kb _ => true
  | _ + 1, .er _ => true
  | _ + 1, .ptr _ _ => true
  | _ + 1, .slc _ _ _ _ => true
  | n + 1, .agg l => l.all (nvq n)
  | n + 1, .tup l => l.all (nvq n)
  | _ + 1, _ => false
/-- Rows that hold no slices that are only read. -/
structure Plain (n : Nat) (f : Nat → List AV) : Prop where
  row : ∀ j, j < n → ∀ x ∈ f j, nvq 4 x = true
def plainB (H : Hold) : List Blk → Option (List Prop)
  | [] => some []
  | .rows _ n f _ :: r => (match plainB H r with
    | some l => some ((H Prop fun _ => Plain n f) :: l)
    | none => none)
  | .cells l _ :: r => bif l.all (nvq 4) then plainB H r else none
def eLent (v : AV) (nb : List Blk) (ids : List Nat) (ob : List Prop) : Option (List Prop) → Eff
  | some l => bif nvq 4 v then .mk (some v) nb ids [] (ob ++ l) else .bad
  | none => .bad
/-- A list of values seen anew. -/
def viewL (F : AV → AV × List Nat × List Prop) : List AV → List AV × List Nat × List Prop
  | [] => ([], [], [])
  | x :: r => match F x with
    | (y, i, o) => match viewL F r with
      | (l, is, os) => (y :: l, i ++ is, o ++ os)
/-- A value of the call's own, lent: its slices, what its pointers lead to, what a function has captured. -/
def viewA (H : Hold) (h : Heap) : Nat → AV → AV × List Nat × List Prop
  | 0, x => (x, [], [])
  | d + 1, x => match x with
    | .slc i 0 k n => (match lk i h with
      | some (.rows k' n' f _) => bif Nat.beq k k' && Nat.blt 0 k then (.vec k n f, [i], [H Prop fun _ => n' = n ∧ ∀ j, j < n → (f j).length = k]) else (.slc i 0 k n, [], [])
      | _ => (.slc i 0 k n, [], []))
    | .ptr i 0 => (match lk i h with
      | some (.cells (c :: l) _) => (match viewL (viewA H h d) (c :: l) with
        | (l', ids, ob) => (.rptr l', i :: ids, ob))
      | _ => (.ptr i 0, [], []))
    | .fn f a b => (match viewL (viewA H h d) a with
      | (a', i1, o1) => match viewL (viewA H h d) b with
        | (b', i2, o2) => (.fn f a' b', i1 ++ i2, o1 ++ o2))
    | .agg l => (match viewL (viewA H h d) l with
      | (l', ids, ob) => (.agg l', ids, ob))
    | x => (x, [], [])
/-- Only what functions have captured. -/
def viewF (H : Hold) (h : Heap) (x : AV) : AV × List Nat × List Prop := match x with
  | .fn f a b => viewA H h 5 (.fn f a b)
  | x => (x, [], [])
def liveIn (h : Heap) (i : Nat) : Bool := match lk i h with
  | some b => !b.dead
  | none => false
def blksOf : Heap → List Blk
  | [] => []
  | (_, b) :: r => b :: blksOf r
def eLent2 (h : Heap) (v : AV) (nb : List Blk) (rd : List Nat) (u : Heap) (ids : List Nat) (ob : List Prop) : Option (List Prop) → Option (List Prop) → Eff
  | some l, some m => bif nvq 4 v && (ids.all (fun i => !rd.any (Nat.beq i)) && ((ids ++ rd).all (liveIn h))) then .mk (some v) nb (ids ++ rd) u (ob ++ (l ++ m)) else .bad
  | _, _ => .bad
/-- A call with what functions have captured lent, else with all lent. -/
def eCallW (H : Hold) (Γ : Cons) (h : Heap) (nx : Nat) (n : Nat) (l : List AV) : Eff := match viewL (viewF H h) l with
  | (l', ids, ob) => match Γ H n l' h nx with
    | some (v, nb, rd, u, ob') => eLent2 h v nb rd u ids (ob ++ ob') (plainB H nb) (plainB H (blksOf u))
    | none => match viewL (viewA H h 5) l with
      | (l', ids, ob) => match Γ H n l' h nx with
        | some (v, nb, rd, u, ob') => eLent2 h v nb rd u ids (ob ++ ob') (plainB H nb) (plainB H (blksOf u))
        | none => .bad
/-- A call; where no contract fits, the call's own slices are lent. -/
def eCallV (H : Hold) (Γ : Cons) (h : Heap) (nx : Nat) (n : Nat) (l : List AV) : Eff := match Γ H n l h nx with
  | some r => eCall3 (some r)
  | none => match view H h l with
    | (l', ids, ob) => match Γ H n l' h nx with
      | some (v, nb, [], [], ob') => eLent v nb ids (ob ++ ob') (plainB H nb)
      | some _ => .bad
      | none => eCallW H Γ h nx n l
def eCall (H : Hold) (Γ : Cons) (h : Heap) (nx : Nat) : Option (List AV) → Option AV → Eff
  | some l, some (.lit (.func (.func n) fi ca)) => (match fi.toList, ca.toList with | [], [] => eCallV H Γ h nx n l | _, _ => .bad)
  | some l, some (.fn (.func n) a b) => eCallV H Γ h nx n (a ++ l ++ b)
  | _, _ => .bad
def isStr : Kd → Bool
  | .str => true
  | _ => false
def eLen (H : Hold) (t : Option TI) (a : Option AV) : Eff := match t with
  | none => .bad
  | some t => match a with
    | some (.vec _ n _) => bif t.sl then pure1 (.lit (.int .i64 (H Int fun _ => (n : Nat)))) else .bad
    | some (.slc _ _ _ n) => bif t.sl then pure1 (.lit (.int .i64 (H Int fun _ => (n : Nat)))) else .bad
    | some (.lit (.slice _ n _)) => bif t.sl then pure1 (.lit (.int .i64 (H Int fun _ => (n : Nat)))) else .bad
    | some (.lit (.string s)) => bif isStr t.kd then pure1 (.lit (.int .i64 (H Int fun _ => (s.size : Nat)))) else .bad
    | _ => .bad
def eMM (H : Hold) (up : Bool) : Option AV → Option AV → Eff
  | some (.lit (.int k a)), some (.lit (.int _ b)) => (match up with
    | true => pure1 (.lit (.int k (H Int fun _ => if b > a then b else a)))
    | false => pure1 (.lit (.int k (H Int fun _ => if b < a then b else a))))
  | _, _ => .bad
/-- The address of an element of a slice that is only read. -/
def eIdx (H : Hold) (τ : Tab) (t : Option TI) (a i : Option AV) : Eff := match t with
  | none => .bad
  | some t => match lk t.elem τ.l with
    | none => .bad
    | some e => match a, i with
      | some (.vec k n f), some (.lit (.int _ i)) => bif t.sl && Nat.beq e.size k then .mk (some (.rptr (f (H Nat fun _ => i.toNat)))) [] [] [] [H Prop fun _ => 0 ≤ i ∧ i < (n : Nat)] else .bad
      | some (.slc id 0 k n), some (.lit (.int _ i)) => bif t.sl && Nat.beq e.size k then .mk (some (.elm id k (H Nat fun _ => i.toNat) 0)) [] [] [] [H Prop fun _ => 0 ≤ i ∧ i < (n : Nat)] else .bad
      | _, _ => .bad
def parts (e : List (Option AV)) : List Nat → List (Nat × Option AV)
  | [] => []
  | i :: r => match e with
    | [] => []
    | v :: e => (i, v) :: parts e r
/-- A new slice of zeros, of the call's own. -/
def eMake (H : Hold) (τ : Tab) (n0 : Nat) : Option TI → Option AV → Option AV → Eff
  | some t, some (.lit (.int _ a)), some (.lit (.int _ b)) => (match lk t.elem τ.l with
    | some i => bif t.sl && (Nat.blt 0 i.size && Nat.beq i.zero.length i.size) then .mk (some (.slc n0 0 i.size (H Nat fun _ => a.toNat))) [.rows i.size (H Nat fun _ => a.toNat) (fun _ => i.zero.map .lit) t.elem] [] [] [H Prop fun _ => b = a ∧ 0 ≤ a ∧ a ≤ 4611686018427387904 ∧ i.bytes * a ≤ 140737488355328] else .bad
    | none => .bad)
  | _, _, _ => .bad
/-- A byte of a text. -/
def sByte (s : ByteArray) (i : Nat) : Int := ((s.data.toList.getD i 0).toNat : Nat)
def eIndexS (H : Hold) : Option TI → Option AV → Option AV → Eff
  | some t, some (.lit (.string s)), some (.lit (.int _ i)) => bif isStr t.kd then .mk (some (.lit (.int .u8 (H Int fun _ => sByte s i.toNat)))) [] [] [] [H Prop fun _ => 0 ≤ i ∧ i < (s.size : Nat)] else .bad
  | _, _, _ => .bad
/-- The effect of an operation, 'g' giving its operands' values (plain ones). -/
def eff0 (H : Hold) (Γ : Cons) (τ : Tab) (g : Operand → Option AV) (h : Heap) (n : Nat) : Op → Eff
  | .move x => eOpt (g x)
  | .assign x => eOpt (g x)
  | .pick c a b => ePick H (g c) (g a) (g b)
  | .alloc T => eAlloc T n (lk T τ.l)
  | .box T x => eBox T n (g x)
  | .build T ps => eBuild (ps.toList.map fun p => (p.1, g p.2)) (lk T τ.l)
  | .buildSlice T len ps => eBuildSlice H τ n len (ps.toList.map fun p => (p.1, g p.2)) (lk T τ.l)
  | .load T x => eLoad H (lk T τ.l) h (g x)
  | .store T x y => eStore H (lk T τ.l) h (g x) (g y)
  | .fieldAddr T x f => eField f (lk T τ.l) (g x)
  | .nilCheck x => eNil (g x)
  | .binOp op T x y _ => eBinN H op (kdOf (lk T τ.l)) (isNilC y) (g x) (g y)
  | .unOp op _ x => eUn H op (g x)
  | .convert S D x => eConv H τ.l (lk S τ.l) (kdOf (lk D τ.l)) (g x)
  | .extract x i => eExt i (g x)
  | .makeFunc f a c => eFunc f (all? (a.toList.map g)) (all? (c.toList.map g))
  | .indexAddr T x i => eIdx H τ (lk T τ.l) (g x) (g i)
  | .makeSlice T x y => eMake H τ n (lk T τ.l) (g x) (g y)
  | .index T x i => eIndexS H (lk T τ.l) (g x) (g i)
  | .call c => (match c.callee with
    | .value f => eCall H Γ h n (all? (c.args.toList.map g)) (g f)
    | .builtin .len => (match c.args.toList, c.argTypes.toList with | [x], [T] => eLen H (lk T τ.l) (g x) | _, _ => .bad)
    | .builtin .max => (match c.args.toList with | [x, y] => eMM H true (g x) (g y) | _ => .bad)
    | .builtin .min => (match c.args.toList with | [x, y] => eMM H false (g x) (g y) | _ => .bad)
    | _ => .bad)
  | _ => .bad
/-- A value as most operations see it. -/
def nrm : Option AV → Option AV
  | some (.ful k n f) => some (.vec k n f)
  | some (.num n) => some (.lit (.int .i64 (Int.ofNat n)))
  | some (.kb b) => some (.lit (.bool b))
  | x => x
/-- The rows f, n of them, and those of g behind them. -/
def app {α : Type} (n : Nat) (f g : Nat → α) (j : Nat) : α := bif Nat.blt j n then f j else g (j - n)
/-- The address of an element: where the index is known, of that one. -/
def eIdx2 (H : Hold) (τ : Tab) (t : Option TI) (a : Option AV) : Option AV → Eff
  | some (.num j) => (match t with
    | none => .bad
    | some t => match lk t.elem τ.l with
      | none => .bad
      | some e => match a with
        | some (.vec k n f) => bif t.sl && Nat.beq e.size k then .mk (some (.rptr (f j))) [] [] [] [H Prop fun _ => j < n] else .bad
        | some (.slc id 0 k n) => bif t.sl && Nat.beq e.size k then .mk (some (.elm id k j 0)) [] [] [] [H Prop fun _ => j < n] else .bad
        | _ => .bad)
  | i => eIdx H τ t a i
def room (H : Hold) (n m by' : Nat) : Prop := H Prop fun _ => n + m ≤ 9223372036854775807 ∧ (n + m) * by' ≤ 140737488355328
/-- A slice is appended to: it is moved, or it is the call's own and grows; what it was is not known any more. -/
def eApp4 (H : Hold) (h : Heap) (n0 E k by' m : Nat) (g : Nat → List AV) : AV → Eff
  | .ful k' n f => bif Nat.beq k k' then .mk (some (.slc n0 0 k (H Nat fun _ => n + m))) [.rows k (H Nat fun _ => n + m) (app n f g) E] [] [] [H Prop fun _ => 0 < m, room H n m by'] else .bad
  | .lit (.slice none 0 0) => .mk (some (.slc n0 0 k m)) [.rows k m g E] [] [] [H Prop fun _ => 0 < m, room H 0 m by']
  | .slc i 0 k' n => bif Nat.beq k k' then (match lk i h with
    | some (.rows k'' n' f E') => bif Nat.beq k k'' && Nat.beq E E' then .mk (some (.slc n0 0 k (H Nat fun _ => n + m))) [.rows k (H Nat fun _ => n + m) (app n f g) E] [i] [(i, .cells [] E)] [H Prop fun _ => n' = n, room H n m by'] else .bad
    | _ => .bad) else .bad
  | _ => .bad
def eApp (H : Hold) (τ : Tab) (h : Heap) (n0 : Nat) (same : Bool) : Option TI → Option AV → Option AV → Eff
  | some t, some s, some (.vec k m g) => bif same && t.sl then (match lk t.elem τ.l with
    | some i => bif Nat.beq i.size k && (Nat.blt 0 i.size && Nat.beq i.zero.length i.size) then eApp4 H h n0 t.elem k i.bytes m g s else .bad
    | none => .bad) else .bad
  | _, _, _ => .bad
/-- A bound of a slice expression. -/
def bnd (g : Operand → Option AV) : Option Operand → Option (Option Int)
  | none => some none
  | some x => (match nrm (g x) with
    | some (.lit (.int _ i)) => some (some i)
    | _ => none)
def loOf : Option Int → Nat
  | none => 0
  | some i => i.toNat
def hiOf (n : Nat) : Option Int → Nat
  | none => n
  | some i => i.toNat
def okB (n : Nat) (lo hi : Option Int) : Prop := (match lo with | none => True | some i => 0 ≤ i) ∧ (match hi with | none => True | some i => 0 ≤ i) ∧ loOf lo ≤ hiOf n hi ∧ hiOf n hi ≤ n
def offOf (H : Hold) (k : Nat) : Option Int → Nat
  | none => 0
  | some i => H Nat fun _ => i.toNat * k
def eSlice (H : Hold) (τ : Tab) (t : Option TI) (lo hi : Option (Option Int)) (a : Option AV) : Eff := match lo, hi with
  | some lo, some hi => (match t with
    | none => .bad
    | some t => match a with
      | some (.vec k n f) => bif t.sl then (match lk t.elem τ.l with
        | some i => bif Nat.beq i.size k then .mk (some (.vec k (H Nat fun _ => hiOf n hi - loOf lo) (fun j => f (H Nat fun _ => loOf lo + j)))) [] [] [] [H Prop fun _ => okB n lo hi] else .bad
        | none => .bad) else .bad
      | some (.slc id 0 k n) => bif t.sl then (match lk t.elem τ.l with
        | some i => bif Nat.beq i.size k then .mk (some (.slc id (offOf H k lo) k (H Nat fun _ => hiOf n hi - loOf lo))) [] [] [] [H Prop fun _ => okB n lo hi] else .bad
        | none => .bad) else .bad
      | some (.lit (.string s)) => bif isStr t.kd then .mk (some (.lit (.string (H ByteArray fun _ => s.extract (loOf lo) (hiOf s.size hi))))) [] [] [] [H Prop fun _ => okB s.size lo hi] else .bad
      | _ => .bad)
  | _, _ => .bad
/-- Rows from the offset o on. -/
def dropR (o k : Nat) (f : Nat → List AV) (j : Nat) : List AV := f (o / k + j)
/-- An own slice that is appended, seen as one that is only read. -/
def srcV (H : Hold) (h : Heap) (i o k n : Nat) : Option (AV × List Prop) := match lk i h with
  | some (.rows k' n' f _) => bif Nat.beq k k' && Nat.blt 0 k then some (.vec k n (dropR o k f), [H Prop fun _ => o % k = 0 ∧ o / k + n ≤ n' ∧ ∀ j, j < n' → (f j).length = k]) else none
  | _ => none
/-- An own slice is appended to another. -/
def eAppS (H : Hold) (τ : Tab) (h : Heap) (n0 : Nat) (same : Bool) (t : Option TI) (s : Option AV) (i o k n : Nat) : Eff := match srcV H h i o k n with
  | some (y, ob1) => (match eApp H τ h n0 same t s (some y) with
    | .mk (some v) nb rd u ob => eLent2 h v nb rd u [i] (ob1 ++ ob) (plainB H nb) (plainB H (blksOf u))
    | _ => .bad)
  | none => .bad
def isApp : Callee → Bool
  | .builtin .append => true
  | _ => false
def isClr : Callee → Bool
  | .builtin .clear => true
  | _ => false
/-- An own slice of elements of one cell each is made zero: what it held is not known any more. -/
def eClr (H : Hold) (τ : Tab) (h : Heap) (t : Option TI) (a : Option AV) : Eff := match t with
  | none => .bad
  | some t => match a with
    | some (.slc i o k _) => bif t.sl then (match lk t.elem τ.l with
      | none => .bad
      | some e => bif Nat.beq e.zero.length 1 && Nat.beq k 1 then (match lk i h with
        | some (.rows k' n f E) => bif Nat.beq k' 1 then .mk none [] [i] [(i, .rows 1 o f E)] [H Prop fun _ => o ≤ n] else .bad
        | _ => .bad) else .bad) else .bad
    | _ => .bad
/-- The effect of an operation, 'g' giving its operands' values. -/
def effN (H : Hold) (Γ : Cons) (τ : Tab) (g : Operand → Option AV) (h : Heap) (n : Nat) (op : Op) : Eff := match op with
  | .move x => eOpt (g x)
  | .assign x => eOpt (g x)
  | .extract x i => eExt i (g x)
  | .indexAddr T x i => eIdx2 H τ (lk T τ.l) (nrm (g x)) (g i)
  | .slice T x lo hi none => eSlice H τ (lk T τ.l) (bnd g lo) (bnd g hi) (nrm (g x))
  | .call c => bif isApp c.callee then (match c.args.toList, c.argTypes.toList with
    | [x, y], [T, T'] => (match g y with
      | some (.slc i o k m) => eAppS H τ h n (Nat.beq T T') (lk T τ.l) (g x) i o k m
      | y => eApp H τ h n (Nat.beq T T') (lk T τ.l) (g x) (nrm y))
    | _, _ => .bad) else (bif isClr c.callee then (match c.args.toList, c.argTypes.toList with
    | [x], [T] => eClr H τ h (lk T τ.l) (g x)
    | _, _ => .bad) else eff0 H Γ τ (fun x => nrm (g x)) h n (.call c))
  | op => eff0 H Γ τ (fun x => nrm (g x)) h n op
/-- A constant that is a number. -/
def known : Operand → Option Nat
  | .const (.int .i64 (.ofNat n)) => some n
  | _ => none
def knownG (g : Operand → Option AV) (y : Operand) : Option AV := match known y with
  | some c => some (.num c)
  | none => g y
/-- Where loops are walked round by round: what is known in full of numbers and truths. -/
def eKn (τ : Tab) (g : Operand → Option AV) : Op → Option Eff
  | .move x => (match known x with
    | some n => some (pure1 (.num n))
    | none => none)
  | .binOp op _ x y _ => (match g x, knownG g y with
    | some (.num a), some (.num b) => (match op with
      | .add => bif Nat.ble (a + b) 1000000 then some (pure1 (.num (a + b))) else none
      | .lss => some (pure1 (.kb (Nat.blt a b)))
      | _ => none)
    | _, _ => none)
  | .call c => (match c.callee with
    | .builtin .len => (match c.args.toList, c.argTypes.toList with
      | [x], [T] => (match g x, lk T τ.l with
        | some (.ful _ n _), some t => bif t.sl then some (pure1 (.num n)) else none
        | _, _ => none)
      | _, _ => none)
    | _ => none)
  | _ => none
def effK (H : Hold) (Γ : Cons) (τ : Tab) (g : Operand → Option AV) (h : Heap) (n : Nat) (op : Op) : Eff := match τ.u with
  | true => (match eKn τ g op with
    | some e => e
    | none => effN H Γ τ g h n op)
  | false => effN H Γ τ g h n op
/-- Slices of the call's own in a slice of its own: it is told by its cells. -/
def nstApp (H : Hold) (i q : Nat) (x : AV) (n : Nat) (E by' : Nat) : Option Blk → Option Eff
  | some (.rows k' n' _ E') => bif Nat.beq k' 1 && (Nat.beq n' 0 && Nat.beq E E') then some (.mk (some (.slc n 0 1 1)) [.cells [x] E] [i] [(i, .cells [] E)] [H Prop fun _ => 0 = q, room H 0 1 by']) else none
  | some (.cells (c :: l) E') => bif Nat.beq E E' then some (.mk (some (.slc n 0 1 (l.length + 2))) [.cells (c :: (l ++ [x])) E] [i] [(i, .cells [] E)] [H Prop fun _ => l.length + 1 = q, room H (l.length + 1) 1 by']) else none
  | _ => none
/-- A slice or a pointer that is the call's own. -/
def isNm : AV → Bool
  | .slc _ _ _ _ => true
  | .ptr _ _ => true
  | _ => false
def nstApp2 (H : Hold) (τ : Tab) (h : Heap) (n : Nat) (t : Option TI) (x y : Option AV) : Option Eff := match x with
  | some (.slc i 0 kx q) => (match y with
    | some (.ful ky my f) => bif Nat.beq kx 1 && (Nat.beq ky 1 && Nat.beq my 1) then (match f 0 with
      | [x] => bif isNm x then (match t with
        | some t => (match lk t.elem τ.l with
          | some ti => bif t.sl && (Nat.beq ti.size 1 && Nat.beq ti.zero.length 1) then nstApp H i q x n t.elem ti.bytes (lk i h) else none
          | none => none)
        | none => none) else none
      | _ => none) else none
    | _ => none)
  | _ => none
def nstIdx (H : Hold) (τ : Tab) (h : Heap) (t : Option TI) (x y : Option AV) : Option Eff := match y with
  | some (.num j) => (match x with
    | some (.slc i 0 k q) => bif Nat.beq k 1 then (match t with
      | some t => (match lk t.elem τ.l with
        | some ti => bif t.sl && Nat.beq ti.size 1 then (match lk i h with
          | some (.cells _ _) => some (.mk (some (.ptr i j)) [] [] [] [H Prop fun _ => j < q])
          | _ => none) else none
        | none => none)
      | none => none) else none
    | _ => none)
  | _ => none
def nstLen (t : Option TI) (x : Option AV) : Option Eff := match x with
  | some (.slc _ _ k q) => bif Nat.beq k 1 then (match t with
    | some t => bif t.sl then some (pure1 (.num q)) else none
    | none => none) else none
  | _ => none
def eNst (H : Hold) (τ : Tab) (g : Operand → Option AV) (h : Heap) (n : Nat) : Op → Option Eff
  | .indexAddr T x i => nstIdx H τ h (lk T τ.l) (g x) (g i)
  | .assign x => (match τ.u with
    | true => (match known x with
      | some n => some (pure1 (.num n))
      | none => none)
    | false => none)
  | .call c => (match c.callee with
    | .builtin .len => (match c.args.toList, c.argTypes.toList with
      | [x], [T] => nstLen (lk T τ.l) (g x)
      | _, _ => none)
    | .builtin .append => (match c.args.toList, c.argTypes.toList with
      | [x, y], [T, T'] => bif Nat.beq T T' then nstApp2 H τ h n (lk T τ.l) (g x) (g y) else none
      | _, _ => none)
    | _ => none)
  | _ => none
def eff (H : Hold) (Γ : Cons) (τ : Tab) (g : Operand → Option AV) (h : Heap) (n : Nat) (op : Op) : Eff := match τ.o with
  | 4 => (match eNst H τ g h n op with
    | some e => e
    | none => effK H Γ τ g h n op)
  | _ => effK H Γ τ g h n op

/-! ### Regions -/
structure RS where
  env : Env
  te : TEnv
  heap : Heap
  next : Nat
inductive RT where
  | ok (s : RS) (fps : List (List Nat × List Nat))
  | split (b : Bool) (x y : RT)
  | need (p : List Prop) (x : RT)
  | bad
def ids (n : Nat) : List Blk → List Nat
  | [] => []
  | _ :: r => n :: ids (n + 1) r
def named (n : Nat) : List Blk → Heap
  | [] => []
  | b :: r => (n, b) :: named (n + 1) r
def keysOf : Heap → List Nat
  | [] => []
  | (i, _) :: r => i :: keysOf r
def sameG : Nat × Bool → Nat × Bool → Bool
  | (j, true), (i, true) => Nat.beq j i
  | (j, false), (i, false) => Nat.beq j i
  | _, _ => false
/-- An operand's value, for an operation under the guard G. -/
def ev (e : Env) (te : TEnv) (G : List (Nat × Bool)) : Operand → Option AV
  | .tmp t => (match lk t te with
    | some (g, v) => bif G.any (sameG g) then some v else none
    | none => lk t e)
  | .const v => bif v.oneCell' then some (.lit v) else none
  | .global g => some (.lit (.pointer (some ⟨g, 0, none⟩)))
  | .func f => some (.lit (.func (.func f) #[] #[]))
def delT (d : Nat) : TEnv → TEnv
  | [] => []
  | (k, (g, w), u) :: r => bif Nat.beq k d || Nat.beq g d then delT d r else (k, (g, w), u) :: delT d r
def setD (N : Nat) : Option Nat → AV → RS → Option RS
  | some d, v, s => bif Nat.blt d N then some ⟨pt d v s.env, delT d s.te, s.heap, s.next⟩ else none
  | none, _, s => some s
def setG (N : Nat) (g : Nat × Bool) : Option Nat → AV → RS → Option RS
  | some d, v, s => bif Nat.blt d N && !Nat.beq d g.1 then some ⟨dl d s.env, (d, g, v) :: delT d s.te, s.heap, s.next⟩ else none
  | none, _, s => some s
def skipD (N : Nat) : Option Nat → RS → Option RS
  | some d, s => bif Nat.blt d N then some ⟨dl d s.env, delT d s.te, s.heap, s.next⟩ else none
  | none, s => some s
def setO (N : Nat) (d : Option Nat) (v : Option AV) (s : RS) : Option RS := match v with
  | some v => setD N d v s
  | none => skipD N d s
def setGO (N : Nat) (g : Nat × Bool) (d : Option Nat) (v : Option AV) (s : RS) : Option RS := match v with
  | some v => setG N g d v s
  | none => skipD N d s
/-- An operation's effect under the guard G. -/
def effG (H : Hold) (Γ : Cons) (τ : Tab) (s : RS) (G : List (Nat × Bool)) (o : Op) : Eff :=
  match o with
  | .pick (.tmp c) a b => ePick H (ev s.env s.te G (.tmp c)) (ev s.env s.te ((c, true) :: G) a) (ev s.env s.te ((c, false) :: G) b)
  | .pick _ _ _ => .bad
  | o => eff H Γ τ (ev s.env s.te G) s.heap s.next o
def needs : List Prop → RT → RT
  | [], x => x
  | p, x => .need p x
def underB (H : Hold) (b want : Bool) : List Prop → List Prop
  | [] => []
  | p :: r => (H Prop fun _ => (b = want → p)) :: underB H b want r
def underC (H : Hold) : List (Bool × Bool) → List Prop → List Prop
  | [], ob => ob
  | (b, w) :: l, ob => underB H b w (underC H l ob)
def tmpsOf : List Operand → List Nat
  | [] => []
  | .tmp t :: r => t :: tmpsOf r
  | _ :: r => tmpsOf r
def gslot (ops : List Oper) (o : Oper) : List Nat := match o.guard with
  | some (g, _) => (match ops[g]? with
    | some q => q.dst.toList
    | none => [])
  | none => []
/-- The guards' slots, of the guards too. -/
def gsl : Nat → List Oper → Oper → List Nat
  | 0, _, _ => []
  | d + 1, ops, o => match o.guard with
    | some (g, _) => (match ops[g]? with
      | some q => q.dst.toList ++ gsl d ops q
      | none => [])
    | none => []
def gsl2 (ops : List Oper) (o : Oper) : List Nat := gsl 4 ops o
def looks (ops : List Oper) (o : Oper) : List Nat := tmpsOf o.op.operands.toList ++ (gslot ops o ++ gsl2 ops o)
/-- What is known of a slot, whether or not under a guard. -/
def gval (e : Env) (te : TEnv) (t : Nat) : Option AV := match lk t te with
  | some (_, v) => some v
  | none => lk t e
/-- The guards that hold where a guard is known: those that it stands under. -/
def chain (τ : Tab) (e : Env) (te : TEnv) (L : List Nat) : Nat → Nat → List (Bool × Bool)
  | 0, _ => []
  | d + 1, t => match τ.o with
    | 3 => (match lk t te with
      | some ((g, w), _) => bif L.any (Nat.beq g) then (match gval e te g with
        | some (.lit (.bool b)) => (b, w) :: chain τ e te L d g
        | _ => []) else []
      | none => [])
    | _ => []
def isNil {α : Type} : List α → Bool
  | [] => true
  | _ :: _ => false
def rgn (H : Hold) (Γ : Cons) (τ : Tab) (N : Nat) (ops : List Oper) : List Oper → RS → List (List Nat × List Nat) → RT
  | [], s, fp => .ok s fp
  | o :: r, s, fp => match o.guard with
    | none => (match effG H Γ τ s [] o.op with
      | .mk v nb rd u ob => (match setO N o.dst v ⟨s.env, s.te, named s.next nb ++ pts u s.heap, s.next + nb.length⟩ with
        | some s' => needs ob (rgn H Γ τ N ops r s' ((rd, ids s.next nb ++ keysOf u) :: fp))
        | none => .bad)
      | .bad => .bad)
    | some (j, want) => (match (ops[j]?).bind (·.dst) with
      | some gs => (match gval s.env s.te gs with
        | some (.lit (.bool b)) => (match effG H Γ τ s [(gs, want)] o.op with
          | .mk v nb rd u ob => (match isNil nb && isNil u with
            | true => (match setGO N (gs, want) o.dst v s with
              | some s' => needs (underC H (chain τ s.env s.te (looks ops o) 4 gs) (underB H b want ob)) (rgn H Γ τ N ops r s' ((rd, []) :: fp))
              | none => .bad)
            | false => (match lk gs s.te with
              | some _ => .bad
              | none => (match setO N o.dst v ⟨pt gs (.lit (.bool want)) s.env, s.te, named s.next nb ++ pts u s.heap, s.next + nb.length⟩ with
                | none => .bad
                | some s1 => (match skipD N o.dst ⟨pt gs (.lit (.bool (!want))) s.env, s.te, s.heap, s.next⟩ with
                  | none => .bad
                  | some s2 => (match want with
                    | true => .split b (needs ob (rgn H Γ τ N ops r s1 ((rd, ids s.next nb ++ keysOf u) :: fp))) (rgn H Γ τ N ops r s2 (([], []) :: fp))
                    | false => .split b (rgn H Γ τ N ops r s2 (([], []) :: fp)) (needs ob (rgn H Γ τ N ops r s1 ((rd, ids s.next nb ++ keysOf u) :: fp))))))))
          | .bad => (match lk gs s.te with
            | some _ => .bad
            | none => (match skipD N o.dst ⟨pt gs (.lit (.bool (!want))) s.env, s.te, s.heap, s.next⟩ with
              | some s' => needs [H Prop fun _ => b ≠ want] (rgn H Γ τ N ops r s' (([], []) :: fp))
              | none => .bad)))
        | _ => .bad)
      | none => .bad)

/-! ### Code -/
inductive KI where
  | code (c : Code)
  | blk (id : Nat)
  | lp (c : Code)
inductive Out where
  | done (e : Exit) (s : St)
  | br (b : Bool) (x y : Out)
  | need (p : List Prop) (x : Out)
  | loop (c : Code) (k : List KI) (s : St)
  | bad
def toBlk (id : Nat) : List KI → Option (List KI)
  | [] => none
  | .code _ :: k => toBlk id k
  | .lp _ :: k => toBlk id k
  | .blk j :: k => bif Nat.beq j id then some k else toBlk id k
def ofRT (f : RS → List (List Nat × List Nat) → Out) : RT → Out
  | .ok s fp => f s fp
  | .split b x y => .br b (ofRT f x) (ofRT f y)
  | .need p x => .need p (ofRT f x)
  | .bad => .bad
def union (a b : List Nat) : List Nat := match a with
  | [] => b
  | x :: a => bif b.any (Nat.beq x) then union a b else x :: union a b
def anc1 (acc : List (List Nat)) : List Edge → List Nat
  | [] => []
  | e :: r => bif Region.binds .any e then union (e.on :: acc.getD e.on []) (anc1 acc r) else anc1 acc r
def ancs : List Oper → List (List Nat) → List (List Nat)
  | [], acc => acc
  | o :: r, acc => ancs r (acc ++ [anc1 acc o.after.toList])
def hits (a b : List Nat) : Bool := a.any fun x => b.any (Nat.beq x)
/-- The places that an operation reads and writes: slots, and blocks. -/
structure Foot where
  rt : List Nat
  wt : List Nat
  rb : List Nat
  wb : List Nat
  gs : List Nat
def foot (ops : List Oper) (o : Oper) (fp : List Nat × List Nat) : Foot := ⟨looks ops o, o.dst.toList, fp.1, fp.2, gslot ops o⟩
def feet (ops : List Oper) : List Oper → List (List Nat × List Nat) → List Foot
  | o :: r, p :: fp => foot ops o p :: feet ops r fp
  | _, _ => []
def clash (a b : Foot) : Bool := hits a.wt b.rt || hits a.wt b.wt || hits a.rt b.wt || hits a.wb b.rb || hits a.wb b.wb || hits a.rb b.wb
def chk1 (f : Foot) (an : List Nat) (i : Nat) : List Foot → Bool
  | [] => true
  | g :: r => (!clash g f || an.any (Nat.beq i)) && !hits f.wt g.gs && chk1 f an (i + 1) r
def chkA (fs : List Foot) : List Foot → List (List Nat) → Nat → Bool
  | f :: r, a :: an, i => chk1 f a 0 (fs.take i) && chkA fs r an (i + 1)
  | _, _, _ => true
def edgeLt (i : Nat) : List Edge → Bool
  | [] => true
  | e :: r => (!Region.binds .any e || Nat.blt e.on i) && edgeLt i r
def edgesOk : List Oper → Nat → Bool
  | [], _ => true
  | o :: r, i => edgeLt i o.after.toList && edgesOk r (i + 1)
/-- Every two operations that touch one place are ordered. -/
def chk (ops : List Oper) (fp : List (List Nat × List Nat)) : Bool := edgesOk ops 0 && chkA (feet ops ops fp.reverse) (feet ops ops fp.reverse) (ancs ops []) 0
def drawOk (draw : Bool) (ops : List Oper) (fp : List (List Nat × List Nat)) : Bool := match draw with
  | false => true
  | true => chk ops fp
def arun (H : Hold) (Γ : Cons) (τ : Tab) (N : Nat) : Nat → List KI → St → Out
  | 0, _, _ => .bad
  | n + 1, k, s => match k with
    | [] => .done .normal s
    | .blk _ :: k => arun H Γ τ N n k s
    | .lp b :: k => arun H Γ τ N n (.code b :: .lp b :: k) s
    | .code c :: k => (match c with
      | .skip => arun H Γ τ N n k s
      | .seq a b => arun H Γ τ N n (.code a :: .code b :: k) s
      | .cond c a b => (match ev s.env [] [] c with
        | some (.lit (.bool t)) => .br t (arun H Γ τ N n (.code a :: k) s) (arun H Γ τ N n (.code b :: k) s)
        | some (.kb t) => (match t with
          | true => arun H Γ τ N n (.code a :: k) s
          | false => arun H Γ τ N n (.code b :: k) s)
        | _ => .bad)
      | .block id b => arun H Γ τ N n (.code b :: .blk id :: k) s
      | .region _ ops draw => ofRT (fun s fp => bif drawOk draw ops.toList fp then arun H Γ τ N n k ⟨s.env, s.heap, s.next⟩ else .bad) (rgn H Γ τ N ops.toList ops.toList ⟨s.env, [], s.heap, s.next⟩ [])
      | .exit id => (match toBlk id k with
        | some k => arun H Γ τ N n k s
        | none => .done (.exit id) s)
      | .ret => .done .ret s
      | .loop b => (match τ.u with
        | true => arun H Γ τ N n (.code b :: .lp b :: k) s
        | false => .loop b k s)
      | _ => .bad)
end Go.Proofs.Ytpilblmncpeelaa.AM

namespace Go.Proofs.Ytpilblmncpeelaa.AM

structure Cx where
  β : Nat → Nat
  ok : Nat → Prop
  ow : Nat → Prop
  w : World

inductive Rel (C : Cx) : AV → Value → Prop
  | lit {v : Value} (h : v.oneCell' = true) : Rel C (.lit v) v
  | ptr {i o : Nat} (h : C.ok i) : Rel C (.ptr i o) (.pointer (some ⟨C.β i, o, none⟩))
  | slc {i o k n cap : Nat} (h : C.ok i) (hn : n ≤ cap) (hm : cap ≤ maxLen) (hc : ∃ c T, C.w.heap[C.β i]? = some (.cells c T (0, 0)) ∧ o + cap * k ≤ c.size) :
      Rel C (.slc i o k n) (.slice (some ⟨C.β i, if cap = 0 then 0 else o, none⟩) n cap)
  | elm {i k j o : Nat} (h : C.ok i) : Rel C (.elm i k j o) (.pointer (some ⟨C.β i, j * k + o, none⟩))
  | vec {k n cap : Nat} {f : Nat → List AV} {A : Option Addr} (g : Nat → Nat → Value) (hn : n ≤ cap) (hm : cap ≤ maxLen) (hk : ∀ j, j < n → (f j).length = k)
      (hc : 0 < n → ∃ b o, A = some ⟨b, o, none⟩ ∧ ¬ C.ow b ∧ b < C.w.heap.size ∧ ∀ j c, j < n → c < k → C.w.cell? ⟨b, o + j * k + c, none⟩ = some (g j c))
      (h1 : ∀ j c : Nat, j < n → c < k → (g j c).oneCell' = true)
      (hr : ∀ (j c : Nat) (x : AV), j < n → (f j)[c]? = some x → Rel C x (g j c)) : Rel C (.vec k n f) (.slice A n cap)
  | ful {k n : Nat} {f : Nat → List AV} {A : Option Addr} (h : Rel C (.vec k n f) (.slice A n n)) : Rel C (.ful k n f) (.slice A n n)
  | num {n : Nat} : Rel C (.num n) (.int .i64 n)
  | kb {b : Bool} : Rel C (.kb b) (.bool b)
  | er {b : Bool} {v : Value} (h0 : v.oneCell' = true) (h1 : b = true → v = .nilIface) (h2 : b = false → ∃ te pe, v = .iface te pe) : Rel C (.er b) v
  | rptr {l : List AV} {b o : Nat} (g : Nat → Value) (hb : ¬ C.ow b) (hlt : b < C.w.heap.size) (hc : ∀ c, c < l.length → C.w.cell? ⟨b, o + c, none⟩ = some (g c)) (h1 : ∀ c, c < l.length → (g c).oneCell' = true)
      (hr : ∀ (c : Nat) (x : AV), l[c]? = some x → Rel C x (g c)) : Rel C (.rptr l) (.pointer (some ⟨b, o, none⟩))
  | agg {l : List AV} {vs : List Value} (hl : vs.length = l.length) (h1 : ∀ v ∈ vs, v.oneCell' = true) (hr : ∀ (c : Nat) (x : AV) (v : Value), l[c]? = some x → vs[c]? = some v → Rel C x v) : Rel C (.agg l) (.agg vs.toArray)
  | tup {l : List AV} {vs : List Value} (hl : vs.length = l.length) (hr : ∀ (c : Nat) (x : AV) (v : Value), l[c]? = some x → vs[c]? = some v → Rel C x v) : Rel C (.tup l) (.tuple vs.toArray)
  | fn {f : Fn} {l m : List AV} {vs us : List Value} (hl : vs.length = l.length) (hm : us.length = m.length) (hr : ∀ (c : Nat) (x : AV) (v : Value), l[c]? = some x → vs[c]? = some v → Rel C x v) (hq : ∀ (c : Nat) (x : AV) (v : Value), m[c]? = some x → us[c]? = some v → Rel C x v) :
      Rel C (.fn f l m) (.func f vs.toArray us.toArray)

/-- One list against another. -/
def LRel (C : Cx) (l : List AV) (vs : List Value) : Prop := vs.length = l.length ∧ ∀ (c : Nat) (x : AV) (v : Value), l[c]? = some x → vs[c]? = some v → Rel C x v

theorem LRel.nil (C : Cx) : LRel C [] [] := ⟨rfl, by simp⟩
theorem LRel.cons {C : Cx} {x : AV} {v : Value} {l : List AV} {vs : List Value} (h : Rel C x v) (r : LRel C l vs) : LRel C (x :: l) (v :: vs) := by
  refine ⟨by simp [r.1], fun c y u h1 h2 => ?_⟩
  cases c with
  | zero => simp at h1 h2; subst h1; subst h2; exact h
  | succ c => simp at h1 h2; exact r.2 c y u h1 h2
theorem LRel.append {C : Cx} {l m : List AV} {vs us : List Value} (h : LRel C l vs) (k : LRel C m us) : LRel C (l ++ m) (vs ++ us) := by
  refine ⟨by simp [h.1, k.1], fun c y u h1 h2 => ?_⟩
  rcases Nat.lt_or_ge c l.length with hc | hc
  · rw [List.getElem?_append_left hc] at h1
    rw [List.getElem?_append_left (by rw [h.1]; exact hc)] at h2
    exact h.2 c y u h1 h2
  · rw [List.getElem?_append_right hc] at h1
    rw [List.getElem?_append_right (by rw [h.1]; exact hc), h.1] at h2
    exact k.2 _ y u h1 h2
theorem LRel.get {C : Cx} {l : List AV} {vs : List Value} (h : LRel C l vs) {c : Nat} {x : AV} (hx : l[c]? = some x) : ∃ v, vs[c]? = some v ∧ Rel C x v := by
  have hc := (List.getElem?_eq_some_iff.1 hx).1
  have hv : c < vs.length := by rw [h.1]; exact hc
  exact ⟨vs[c], List.getElem?_eq_getElem hv, h.2 c x _ hx (List.getElem?_eq_getElem hv)⟩

/-- What lies at a cell of a block. -/
def Blk.at (b : Blk) (p : Nat) : Option AV := match b with
  | .cells l _ => l[p]?
  | .rows k n f _ => if p / k < n then (f (p / k))[p % k]? else none
def Blk.elem : Blk → TypeId
  | .cells _ T => T
  | .rows _ _ _ T => T
def BRel (C : Cx) (i : Nat) (b : Blk) : Prop := ∃ c, C.w.heap[C.β i]? = some (.cells c b.elem (0, 0)) ∧ ∀ p x, b.at p = some x → ∃ v, c[p]? = some v ∧ v.oneCell' = true ∧ Rel C x v

/-- From world to world: only the blocks 'wr' have turned, and kept their sizes. -/
structure WExt (w w' : World) (wr : Nat → Prop) : Prop where
  os : w'.os = w.os
  tape : w'.tape = w.tape
  output : w'.output = w.output
  size : w.heap.size ≤ w'.heap.size
  same : ∀ k, k < w.heap.size → ¬ wr k → w'.heap[k]? = w.heap[k]?
  shape : ∀ (k : Nat) (c : Array Value) (T : TypeId), w.heap[k]? = some (Obj.cells c T (0, 0)) → ∃ c' : Array Value, w'.heap[k]? = some (Obj.cells c' T (0, 0)) ∧ c'.size = c.size
structure Ext (C C' : Cx) (wr : Nat → Prop) : Prop where
  wx : WExt C.w C'.w wr
  wrow : ∀ k, wr k → C.ow k
  β : ∀ i, C.ok i → C'.β i = C.β i
  ok : ∀ i, C.ok i → C'.ok i
  ow : ∀ k, C'.ow k → C.ow k ∨ C.w.heap.size ≤ k

theorem WExt.refl (w : World) (wr : Nat → Prop) : WExt w w wr := ⟨rfl, rfl, rfl, Nat.le_refl _, fun _ _ _ => rfl, fun _ c _ h => ⟨c, h, rfl⟩⟩
theorem WExt.trans {a b c : World} {p q r : Nat → Prop} (h : WExt a b p) (k : WExt b c q) (hp : ∀ i, p i → r i) (hq : ∀ i, i < a.heap.size → q i → r i) : WExt a c r :=
  ⟨k.os.trans h.os, k.tape.trans h.tape, k.output.trans h.output, Nat.le_trans h.size k.size,
   fun i hi hn => (k.same i (Nat.lt_of_lt_of_le hi h.size) (fun x => hn (hq i hi x))).trans (h.same i hi (fun x => hn (hp i x))),
   fun i c T hc => by
    obtain ⟨c1, h1, e1⟩ := h.shape i c T hc
    obtain ⟨c2, h2, e2⟩ := k.shape i c1 T h1
    exact ⟨c2, h2, e2.trans e1⟩⟩
theorem cell_of_heap {w w' : World} {b : Nat} (h : w'.heap[b]? = w.heap[b]?) (o : Nat) : w'.cell? ⟨b, o, none⟩ = w.cell? ⟨b, o, none⟩ := by
  simp [World.cell?, h]
theorem WExt.cell {w w' : World} {wr : Nat → Prop} (h : WExt w w' wr) {b o : Nat} {v : Value} (hb : ¬ wr b) (hv : w.cell? ⟨b, o, none⟩ = some v) : w'.cell? ⟨b, o, none⟩ = some v := by
  rw [cell_of_heap (h.same b (World.block_lt_of_cell? w _ hv) hb), hv]

theorem Rel.mono {C C' : Cx} {wr : Nat → Prop} (e : Ext C C' wr) {x : AV} {v : Value} (h : Rel C x v) : Rel C' x v := by
  have keep : ∀ b, ¬ C.ow b → b < C.w.heap.size → ¬ C'.ow b := fun b h1 h2 h3 => (e.ow b h3).elim h1 (fun h => absurd h2 (by omega))
  induction h with
  | lit h => exact .lit h
  | ptr h => rw [← e.β _ h]; exact .ptr (e.ok _ h)
  | elm h => rw [← e.β _ h]; exact .elm (e.ok _ h)
  | slc h hn hm hc =>
    rw [← e.β _ h]
    obtain ⟨c, T, h1, h2⟩ := hc
    obtain ⟨c', h3, h4⟩ := e.wx.shape _ _ _ h1
    exact .slc (e.ok _ h) hn hm ⟨c', T, by rw [e.β _ h]; exact h3, by omega⟩
  | @vec k n cap f A g hn hm hk hc h1 hr ih =>
    refine .vec g hn hm hk (fun h0 => ?_) h1 ih
    obtain ⟨b, o, rfl, hb, hlt, hcell⟩ := hc h0
    exact ⟨b, o, rfl, keep b hb hlt, Nat.lt_of_lt_of_le hlt e.wx.size, fun j c hj hc' => e.wx.cell (fun x => hb (e.wrow _ x)) (hcell j c hj hc')⟩
  | ful h ih => exact .ful ih
  | num => exact .num
  | kb => exact .kb
  | er h0 h1 h2 => exact .er h0 h1 h2
  | rptr g hb hlt hc h1 hr ih => exact .rptr g (keep _ hb hlt) (Nat.lt_of_lt_of_le hlt e.wx.size) (fun c hc' => e.wx.cell (fun x => hb (e.wrow _ x)) (hc c hc')) h1 ih
  | agg hl h1 hr ih => exact .agg hl h1 ih
  | tup hl hr ih => exact .tup hl ih
  | fn hl hm hr hq ih1 ih2 => exact .fn hl hm ih1 ih2
theorem LRel.mono {C C' : Cx} {wr : Nat → Prop} (e : Ext C C' wr) {l : List AV} {vs : List Value} (h : LRel C l vs) : LRel C' l vs := ⟨h.1, fun c x v h1 h2 => (h.2 c x v h1 h2).mono e⟩
/-- A block that has not turned. -/
theorem BRel.mono {C C' : Cx} {wr : Nat → Prop} (e : Ext C C' wr) {i : Nat} {b : Blk} (hi : C.ok i) (hn : ¬ wr (C.β i)) (h : BRel C i b) : BRel C' i b := by
  obtain ⟨c, h1, h2⟩ := h
  have hlt : C.β i < C.w.heap.size := (Array.getElem?_eq_some_iff.1 h1).1
  refine ⟨c, by rw [e.β i hi, e.wx.same _ hlt hn, h1], fun p x hx => ?_⟩
  obtain ⟨v, h3, h4, h5⟩ := h2 p x hx
  exact ⟨v, h3, h4, h5.mono e⟩
theorem Ext.refl (C : Cx) (wr : Nat → Prop) (hw : ∀ k, wr k → C.ow k) : Ext C C wr := ⟨.refl _ _, hw, fun _ _ => rfl, fun _ h => h, fun _ h => .inl h⟩
/-! ### What the program's own variables hold -/
/-- The program whose variables are meant. -/
noncomputable abbrev PG : Program := Try.prog
/-- The tables of the library that a row lists. -/
def LDT : List (String × Array Value) := []
/-- The errors of the library that a row lists. -/
def LDE : List String := []
def isErr (v : Value) : Prop := v = .nilIface ∨ ∃ te pe, v = .iface te pe
structure Laid (w : World) : Prop where
  tab : ∀ x ∈ LDT, w.var? PG x.1 = some x.2
  err : ∀ n ∈ LDE, ∃ ev, w.var? PG n = some #[ev] ∧ isErr ev
/-- Such a variable, as it lies in the world. -/
def LaidAt (w : World) (n : String) (cs : Array Value) : Prop := ∃ g T f, PG.globalNamed n = some g ∧ g < PG.low ∧ w.heap[g]? = some (.cells cs T f)
theorem globalNamed_lt {P : Program} {n : String} {g : Nat} (h : P.globalNamed n = some g) : g < P.globals.size := by
  unfold Program.globalNamed at h
  split at h
  · rename_i l e
    injection h with h
    subst h
    have : l ∈ (List.range P.globals.size).filter fun g => (P.globals[g]?).any (·.name == n) := by rw [e]; exact List.mem_singleton.2 rfl
    exact List.mem_range.1 (List.mem_filter.1 this).1
  · cases h
/-- The world's own blocks stand as at a call's begin; the call's own blocks lie above them. -/
structure Glo (w : World) (ow : Nat → Prop) : Prop where
  shaped : w.ShapedOpen PG
  low : PG.low ≤ w.heap.size
  own : ∀ k, ow k → PG.low ≤ k ∧ ∃ c T, w.heap[k]? = some (.cells c T (0, 0))
  laid : (∀ x ∈ LDT, LaidAt w x.1 x.2) ∧ ∀ n ∈ LDE, ∃ ev, LaidAt w n #[ev] ∧ isErr ev
theorem Glo.lt {w : World} {ow : Nat → Prop} (h : Glo w ow) (k : Nat) (hk : ow k) : k < w.heap.size := by
  obtain ⟨_, c, T, e⟩ := h.own k hk
  exact (Array.getElem?_eq_some_iff.1 e).1
theorem Glo.sub {w : World} {ow ow' : Nat → Prop} (h : Glo w ow) (s : ∀ k, ow' k → ow k) : Glo w ow' := ⟨h.shaped, h.low, fun k hk => h.own k (s k hk), h.laid⟩
theorem Glo.ext {w w' : World} {wr ow ow' : Nat → Prop} (h : Glo w ow) (e : WExt w w' wr) (hw : ∀ k, wr k → ow k) (ho : ∀ k, ow' k → ow k ∨ (w.heap.size ≤ k ∧ ∃ c T, w'.heap[k]? = some (.cells c T (0, 0)))) : Glo w' ow' := by
  have same : ∀ k, k < PG.low → k < w.heap.size → w'.heap[k]? = w.heap[k]? := fun k hk hk' => e.same k hk' fun hr => by have := (h.own k (hw k hr)).1; omega
  have lt_of_some : ∀ {i : Nat} {o : Obj}, w.heap[i]? = some o → i < w.heap.size := fun ho => (Array.getElem?_eq_some_iff.1 ho).1
  have shape : ∀ (b : Nat) (x : TypeId × Nat), w.shape? b = some x → w'.shape? b = some x := fun b x hx => by
    unfold World.shape? at hx ⊢
    split at hx
    · rename_i c T fr hb
      by_cases hr : wr b
      · obtain ⟨_, c2, T2, e2⟩ := h.own b (hw b hr)
        rw [e2] at hb
        injection hb with hb
        injection hb with h1 h2 h3
        subst h1; subst h2; subst h3
        obtain ⟨c', e3, e4⟩ := e.shape b _ _ e2
        rw [e3]
        injection hx with hx
        subst hx; simp only [e4]
      · rw [e.same b (lt_of_some hb) hr, hb]; exact hx
    · cases hx
  refine ⟨⟨fun g zero t hg hz => ?_, fun k hk1 hk2 => ?_⟩, Nat.le_trans h.low e.size, fun k hk => ?_, fun x hx => ?_, fun n hn => ?_⟩
  · obtain ⟨cs, h1, h2, h3⟩ := h.shaped.1 g zero t hg hz
    have hlow : g < PG.low := by
      unfold Program.low
      rcases Nat.lt_or_ge g (begin PG (fun _ _ => 0) default).world.heap.size with h' | h'
      · exact h'
      · simp [Array.getElem?_eq_none h'] at hz
    exact ⟨cs, (same g hlow (lt_of_some h1)).trans h1, h2, fun hb => Row.ok_of_shape (fun b x => shape b x) (h3 hb)⟩
  · obtain ⟨o, o₀, h1, h2, h3⟩ := h.shaped.2 k hk1 hk2
    exact ⟨o, o₀, (same k hk2 (lt_of_some h1)).trans h1, h2, h3⟩
  · rcases ho k hk with ho | ⟨h1, h2⟩
    · obtain ⟨a, c, T, h1⟩ := h.own k ho
      obtain ⟨c', h2, _⟩ := e.shape k c T h1
      exact ⟨a, c', T, h2⟩
    · exact ⟨Nat.le_trans h.low h1, h2⟩
  · obtain ⟨g, T, f, h1, h2, h3⟩ := h.laid.1 x hx
    exact ⟨g, T, f, h1, h2, (same g h2 (lt_of_some h3)).trans h3⟩
  · obtain ⟨ev, ⟨g, T, f, h1, h2, h3⟩, h4⟩ := h.laid.2 n hn
    exact ⟨ev, ⟨g, T, f, h1, h2, (same g h2 (lt_of_some h3)).trans h3⟩, h4⟩
end Go.Proofs.Ytpilblmncpeelaa.AM

namespace Go.Proofs.Ytpilblmncpeelaa.AM
theorem sameK_eq {k k' : IntKind} (h : sameK k k' = true) : k = k' := by cases k <;> cases k' <;> simp_all [sameK, IntKind.bits, IntKind.signed]
def eq1 : CK → Value → Value → Option Bool
  | .int, .int k a, .int k' b => bif sameK k k' then some (a == b) else none
  | .bool, .bool a, .bool b => some (a == b)
  | .str, .string a, .string b => some (a == b)
  | _, _, _ => none
def eqV : List CK → List Value → List Value → Option Bool
  | [], [], [] => some true
  | c :: r, x :: a, y :: b => match eq1 c x y, eqV r a b with
    | some p, some q => some (p && q)
    | _, _ => none
  | _, _, _ => none
theorem eqV_cons {c : CK} {ks : List CK} {xs ys : List Value} {r : Bool} (h : eqV (c :: ks) xs ys = some r) : ∃ x a y b p q, xs = x :: a ∧ ys = y :: b ∧ eq1 c x y = some p ∧ eqV ks a b = some q ∧ r = (p && q) := by
  match xs, ys, h with
  | [], _, h => simp [eqV] at h
  | x :: a, [], h => simp [eqV] at h
  | x :: a, y :: b, h =>
    simp only [eqV] at h
    cases h1 : eq1 c x y with
    | none => simp [h1] at h
    | some p =>
      cases h2 : eqV ks a b with
      | none => simp [h1, h2] at h
      | some q => simp [h1, h2] at h; exact ⟨x, a, y, b, p, q, rfl, rfl, h1, h2, h.symm⟩
theorem eqV_split : ∀ (k1 k2 : List CK) (xs ys : List Value) (r : Bool), eqV (k1 ++ k2) xs ys = some r → ∃ p q, eqV k1 (xs.take k1.length) (ys.take k1.length) = some p ∧ eqV k2 (xs.drop k1.length) (ys.drop k1.length) = some q ∧ r = (p && q)
  | [], k2, xs, ys, r, h => ⟨true, r, rfl, h, by simp⟩
  | c :: k1, k2, xs, ys, r, h => by
    obtain ⟨x, a, y, b, p, q, rfl, rfl, h1, h2, rfl⟩ := eqV_cons h
    obtain ⟨p', q', e1, e2, rfl⟩ := eqV_split k1 k2 a b q h2
    exact ⟨p && p', q', by simp [eqV, h1, e1], by simpa using e2, by rw [Bool.and_assoc]⟩
theorem eqV_len : ∀ (ks : List CK) (xs ys : List Value) (r : Bool), eqV ks xs ys = some r → xs.length = ks.length ∧ ys.length = ks.length
  | [], xs, ys, r, h => by
    match xs, ys, h with
    | [], [], _ => exact ⟨rfl, rfl⟩
    | x :: a, _, h => simp [eqV] at h
    | [], y :: b, h => simp [eqV] at h
  | c :: ks, xs, ys, r, h => by
    obtain ⟨x, a, y, b, p, q, rfl, rfl, h1, h2, rfl⟩ := eqV_cons h
    obtain ⟨e1, e2⟩ := eqV_len ks a b q h2
    simp [e1, e2]
/-- The kinds of a type's cells, where its fields lie one behind the other. -/
def ckF (g : TypeId → Option (List CK)) : List Field → Nat → Option (List CK)
  | [], _ => some []
  | f :: r, o => bif f.name != "_" && f.offset == o then (match g f.type with
    | some a => (match ckF g r (o + a.length) with | some b => some (a ++ b) | none => none)
    | none => none) else none
def ckOf (P : Program) : Nat → TypeId → Option (List CK)
  | 0, _ => none
  | m + 1, t => match P.underlying t with
    | some (.int _) => bif P.cellsOf t == 1 then some [.int] else none
    | some .bool => bif P.cellsOf t == 1 then some [.bool] else none
    | some .string => bif P.cellsOf t == 1 then some [.str] else none
    | some (.struct fs) => bif !P.stoodInHeld t then (match ckF (ckOf P m) fs.toList 0 with
      | some ks => bif ks.length == P.cellsOf t && Nat.blt 0 ks.length then some ks else none
      | none => none) else none
    | _ => none
section
variable {P : Program}
def isStruct (P : Program) (t : TypeId) : Bool := match P.underlying t with
  | some (.struct _) => true
  | _ => false
def valOf (P : Program) (t : TypeId) (xs : List Value) : Value := if isStruct P t then .agg xs.toArray else xs.headD undef
theorem ck_under {m : Nat} {t : TypeId} {ks : List CK} (h : ckOf P (m + 1) t = some ks) :
    P.cellsOf t = ks.length ∧ 0 < ks.length ∧ ((isStruct P t = true ∧ ∃ fs, P.underlying t = some (.struct fs) ∧ P.stoodInHeld t = false ∧ ckF (ckOf P m) fs.toList 0 = some ks) ∨
    (isStruct P t = false ∧ ((∃ k, P.underlying t = some (.int k) ∧ ks = [.int]) ∨ (P.underlying t = some .bool ∧ ks = [.bool]) ∨ (P.underlying t = some .string ∧ ks = [.str])))) := by
  unfold ckOf at h
  unfold isStruct
  cases hu : P.underlying t with
  | none => simp [hu] at h
  | some d =>
    cases d <;> simp only [hu] at h <;> try (simp at h; done)
    case bool =>
      cases hc : P.cellsOf t == 1 <;> simp [hc] at h
      subst h; simp at hc; simp [hc]
    case int k =>
      cases hc : P.cellsOf t == 1 <;> simp [hc] at h
      subst h; simp at hc; simp [hc]
    case string =>
      cases hc : P.cellsOf t == 1 <;> simp [hc] at h
      subst h; simp at hc; simp [hc]
    case struct fs =>
      cases hs : P.stoodInHeld t with
      | true => simp [hs] at h
      | false =>
        cases hf : ckF (ckOf P m) fs.toList 0 with
        | none => simp [hs, hf] at h
        | some ks' =>
          simp only [hs, hf, Bool.not_false, cond_true] at h
          cases hc : (ks'.length == P.cellsOf t && Nat.blt 0 ks'.length) with
          | false => rw [hc] at h; simp at h
          | true =>
            rw [hc] at h
            simp only [cond_true, Option.some.injEq] at h
            subst h
            simp only [Bool.and_eq_true, beq_iff_eq] at hc
            exact ⟨hc.1.symm, by simpa using hc.2, .inl ⟨rfl, fs, rfl, rfl, hf⟩⟩
theorem run_info {t : TypeId} {k : Nat} (h : P.cellsOf t = k) (hk : 0 < k) (w : World) : (sizeOf t).run P w = .ok k w := by
  unfold Program.cellsOf at h
  cases hj : P.info? t with
  | none => simp [hj] at h; omega
  | some j => simp [hj] at h; simp [sizeOf, typeInfo, hj, h]
theorem run_part {m : Nat} {t : TypeId} {ks : List CK} (ht : ckOf P m t = some ks) (cs : List Value) (off : Nat) (hl : off + ks.length ≤ cs.length) (w : World) :
    (part t cs.toArray off).run P w = .ok (valOf P t ((cs.drop off).take ks.length)) w := by
  cases m with
  | zero => simp [ckOf] at ht
  | succ m =>
    obtain ⟨hc, hpos, h⟩ := ck_under ht
    have hs := run_info (P := P) hc hpos w
    rcases h with ⟨h1, fs, h2, _⟩ | ⟨h1, h3⟩
    · have ha : (isAgg t).run P w = .ok true w := by unfold isAgg; simp [run_underlying h2 w]
      unfold part valOf
      simp [ha, hs, h1]
    · have ha : (isAgg t).run P w = .ok false w := by
        unfold isAgg
        rcases h3 with ⟨k, h3, _⟩ | ⟨h3, _⟩ | ⟨h3, _⟩ <;> simp [run_underlying h3 w]
      have hlen : ks.length = 1 := by rcases h3 with ⟨k, _, rfl⟩ | ⟨_, rfl⟩ | ⟨_, rfl⟩ <;> rfl
      unfold part valOf
      have hlt : off < cs.length := by omega
      simp [ha, h1, hlen, List.getElem?_eq_getElem hlt]
      rw [List.drop_eq_getElem_cons hlt]; rfl
theorem eq_fields (d : Nat) (xs ys : List Value) (w : World) (g : TypeId → Option (List CK)) (hg : ∀ t ks, g t = some ks → 0 < ks.length ∧ (∀ (cs : List Value) (off : Nat), off + ks.length ≤ cs.length → (part t cs.toArray off).run P w = .ok (valOf P t ((cs.drop off).take ks.length)) w) ∧
      ∀ (a b : List Value) (r : Bool), eqV ks a b = some r → (Op.equalIn d t (valOf P t a) (valOf P t b)).run P w = .ok r w) :
    ∀ (fs : List Field) (o : Nat) (ks : List CK) (r : Bool), ckF g fs o = some ks → eqV ks (xs.drop o) (ys.drop o) = some r → (Op.eqFields d xs.toArray ys.toArray fs).run P w = .ok r w
  | [], o, ks, r, hf, he => by
    simp [ckF] at hf
    subst hf
    have := eqV_len _ _ _ _ he
    generalize xs.drop o = xo at *
    generalize ys.drop o = yo at *
    obtain rfl : xo = [] := List.eq_nil_of_length_eq_zero this.1
    obtain rfl : yo = [] := List.eq_nil_of_length_eq_zero this.2
    simp [eqV] at he
    subst he; rfl
  | f :: fs, o, ks, r, hf, he => by
    unfold ckF at hf
    cases hc : (f.name != "_" && f.offset == o) with
    | false => rw [hc] at hf; simp at hf
    | true =>
      rw [hc] at hf
      simp only [cond_true] at hf
      simp only [Bool.and_eq_true, bne_iff_ne, ne_eq, beq_iff_eq] at hc
      obtain ⟨hn, ho⟩ := hc
      cases h1 : g f.type with
      | none => simp [h1] at hf
      | some a =>
        cases h2 : ckF g fs (o + a.length) with
        | none => simp [h1, h2] at hf
        | some b =>
          simp [h1, h2] at hf
          subst hf
          obtain ⟨p, q, e1, e2, rfl⟩ := eqV_split a b _ _ r he
          obtain ⟨h0, hp, hq⟩ := hg f.type a h1
          have l1 := (eqV_len _ _ _ _ e1).1
          have l2 := (eqV_len _ _ _ _ e1).2
          simp at l1 l2
          · have ih := eq_fields d xs ys w g hg fs (o + a.length) b q h2 (by rw [← List.drop_drop, ← List.drop_drop]; exact e2)
            simp only [Op.eqFields, hn, ne_eq, not_false_eq_true, if_true, Sem.run_bind]
            rw [ho, hp xs o (by omega), Result.andThen_ok, hp ys o (by omega), Result.andThen_ok, hq _ _ p e1, Result.andThen_ok]
            cases p
            · simp
            · simpa using ih
theorem eq_deep (w : World) : ∀ (m d : Nat) (t : TypeId) (ks : List CK), ckOf P m t = some ks → ∀ (xs ys : List Value) (r : Bool), eqV ks xs ys = some r → (Op.equalIn (d + m) t (valOf P t xs) (valOf P t ys)).run P w = .ok r w
  | 0, d, t, ks, h, _, _, _, _ => by simp [ckOf] at h
  | m + 1, d, t, ks, h, xs, ys, r, he => by
    obtain ⟨hc, hpos, hk⟩ := ck_under h
    rcases hk with ⟨h1, fs, h2, h3, h4⟩ | ⟨h1, h3⟩
    · have hfs : P.fieldsOf t = fs := by unfold Program.fieldsOf; rw [h2]
      have := run_equalIn_struct (P := P) w (d + m) t xs.toArray ys.toArray (by rw [hfs]; exact h2) h3
      unfold valOf
      rw [if_pos h1, if_pos h1, show d + (m + 1) = d + m + 1 by omega, this, hfs]
      exact eq_fields (d + m) xs ys w (ckOf P m) (fun t' ks' hk' => ⟨by cases m with | zero => simp [ckOf] at hk' | succ m => exact (ck_under hk').2.1, fun cs off hl => run_part hk' cs off hl w, fun a b r' he' => eq_deep w m d t' ks' hk' a b r' he'⟩) fs.toList 0 ks r h4 (by simpa using he)
    · unfold valOf
      rw [h1]
      rcases h3 with ⟨k, h3, rfl⟩ | ⟨h3, rfl⟩ | ⟨h3, rfl⟩
      all_goals
        obtain ⟨x, a, y, b, p, q, rfl, rfl, e1, e2, rfl⟩ := eqV_cons he
        obtain ⟨l1, l2⟩ := eqV_len _ _ _ _ e2
        obtain rfl : a = [] := List.eq_nil_of_length_eq_zero l1
        obtain rfl : b = [] := List.eq_nil_of_length_eq_zero l2
        simp [eqV] at e2
        subst e2
        cases x <;> cases y <;> simp [eq1] at e1
      · rename_i k1 x k2 y
        cases hs : sameK k1 k2 with
        | false => simp [hs] at e1
        | true =>
          simp [hs] at e1
          have := sameK_eq hs
          subst this
          subst e1
          have := run_equalIn_int (P := P) w (d + m) t k1 k x y h3
          rw [Nat.add_assoc] at this
          simpa using this
      · subst e1
        rename_i b1 b2
        have := run_equalIn_bool' (P := P) w (d + m) t b1 b2 h3
        rw [Nat.add_assoc] at this
        simpa using this
      · subst e1
        rename_i b1 b2
        have := run_equalIn_string (P := P) w (d + m) t b1 b2 h3
        rw [Nat.add_assoc] at this
        simp only [List.headD_cons, if_neg Bool.false_ne_true, Bool.and_true]
        rw [this, ← beq_toListBytes]
end
end Go.Proofs.Ytpilblmncpeelaa.AM

namespace Go.Proofs.Ytpilblmncpeelaa.AM

/-! ### Types -/
def descOf (P : Program) : TypeDesc → Bool × List (Nat × Nat) × TypeId
  | .struct fs => (true, fs.toList.map (fun f => (f.offset, P.cellsOf f.type)), 0)
  | .array _ e => (true, [], e)
  | .slice e => (false, [], e)
  | _ => (false, [], 0)
/-- What the table says of a type is so. -/
def isIfc : TypeDesc → Bool
  | .interface _ => true
  | _ => false
structure TGood (P : Program) (T : Nat) (i : TI) : Prop where
  info : (P.info? T).map (fun j => (j.size, j.bytes, j.zero.map fun z => z.cells.toList)) = some (i.size, i.bytes, some i.zero)
  desc : (P.underlying T).map (descOf P) = some (i.agg, i.offs, i.elem)
  one : i.zero.all (·.oneCell') = true
  pos : i.offs.all (fun p => Nat.blt 0 p.2) = true
  st : isStruct P T = i.st
  sl : i.sl = true → P.underlying T = some (.slice i.elem)
  kd : match i.kd with
    | .int k => P.underlying T = some (.int k)
    | .bool => P.underlying T = some .bool
    | .cells ks => isStruct P T = true ∧ P.eqGuardType P.depth T = false ∧ ckOf P 6 T = some ks
    | .str => P.underlying T = some .string
    | .ifc => (P.underlying T).map isIfc = some true
    | .other => True
def TabOk (P : Program) (τ : Tab) : Prop := ∀ T i, lk T τ.l = some i → TGood P T i
section
variable {P : Program} {T : Nat} {i : TI}
theorem TGood.get (h : TGood P T i) : ∃ j z, P.info? T = some j ∧ j.size = i.size ∧ j.bytes = i.bytes ∧ j.zero = some z ∧ z.cells.toList = i.zero := by
  have h1 := h.info
  cases hj : P.info? T with
  | none => simp [hj] at h1
  | some j =>
    simp [hj] at h1
    obtain ⟨a, b, z, hz, hc⟩ := h1
    exact ⟨j, z, rfl, a, b, hz, hc⟩
theorem TGood.under (h : TGood P T i) : ∃ d, P.underlying T = some d ∧ descOf P d = (i.agg, i.offs, i.elem) := by
  have h1 := h.desc
  cases hj : P.underlying T with
  | none => simp [hj] at h1
  | some d => simp [hj] at h1; exact ⟨d, rfl, by rw [h1]⟩
theorem TGood.run_size (h : TGood P T i) (w : World) : (sizeOf T).run P w = .ok i.size w := by
  obtain ⟨j, z, h1, h2, _⟩ := h.get
  simp [sizeOf, typeInfo, h1, h2]
theorem TGood.run_agg (h : TGood P T i) (w : World) : (isAgg T).run P w = .ok i.agg w := by
  obtain ⟨d, h1, h2⟩ := h.under
  unfold isAgg
  rw [Sem.run_bind, run_underlying h1 w]
  cases d <;> simp [descOf] at h2 <;> simp [h2]
theorem TGood.run_zero (h : TGood P T i) (w : World) : ∃ z, (zeroValue T).run P w = .ok z w ∧ z.cells.toList = i.zero := by
  obtain ⟨j, z, h1, _, _, h4, h5⟩ := h.get
  exact ⟨z, by simp [zeroValue, typeInfo, h1, h4], h5⟩
end

/-! ### What an operation leaves -/
structure After (C : Cx) (n : Nat) (v : Option AV) (nb : List Blk) (u : Heap) (cv : Value) (w' : World) (C' : Cx) : Prop where
  w : C'.w = w'
  ext : Ext C C' (fun k => ∃ i b, (i, b) ∈ u ∧ C.β i = k)
  ok : ∀ i, C'.ok i ↔ C.ok i ∨ (n ≤ i ∧ i < n + nb.length)
  ow : ∀ k, C'.ow k ↔ C.ow k ∨ ∃ i, n ≤ i ∧ i < n + nb.length ∧ C'.β i = k
  new : ∀ i, n ≤ i → i < n + nb.length → C.w.heap.size ≤ C'.β i ∨ ∃ j, C.ok j ∧ C'.β i = C.β j ∧ (∃ b, (j, b) ∈ u) ∧ ∀ b, (j, b) ∈ u → b.dead = true
  inj : ∀ i j, n ≤ i → i < n + nb.length → n ≤ j → j < n + nb.length → C'.β i = C'.β j → i = j
  val : ∀ x, v = some x → Rel C' x cv
  nb : ∀ i b, (i, b) ∈ named n nb → BRel C' i b
  u : ∀ i b, (i, b) ∈ u → BRel C' i b

def Leaves (C : Cx) (n : Nat) (v : Option AV) (nb : List Blk) (u : Heap) (cv : Value) (w' : World) : Prop := ∃ C', After C n v nb u cv w' C'

theorem Leaves.same {C : Cx} {n : Nat} {v : Option AV} {cv : Value} (h : ∀ x, v = some x → Rel C x cv) : Leaves C n v [] [] cv C.w :=
  ⟨C, rfl, .refl _ _ (by simp), by simp; omega, by simp; omega, by simp; omega, by simp; omega, h, by simp [named], by simp⟩

/-- The operation yields a value, or nothing, or calls. -/
def Yld (P : Program) (o : Oper) (ρ : Operand → Value) (w : World) (R : Value → World → Prop) : Prop := match (execOp ρ o).run P w with
  | .ok (.value v) w' => R v w'
  | .ok .skip w' => R undef w'
  | .ok (.enter f args) w' => Calls P f args w' (fun e w'' => ∃ v, e = .returned v ∧ R v w'')
  | _ => False
section
variable {P : Program} {o : Oper} {ρ : Operand → Value} {w : World} {R : Value → World → Prop}
theorem Yld.value {v : Value} {w' : World} (h : (execOp ρ o).run P w = .ok (.value v) w') (hR : R v w') : Yld P o ρ w R := by unfold Yld; rw [h]; exact hR
theorem Yld.skip {w' : World} (h : (execOp ρ o).run P w = .ok .skip w') (hR : R undef w') : Yld P o ρ w R := by unfold Yld; rw [h]; exact hR
theorem Yld.enter {f : FuncId} {args : Array Value} (h : (execOp ρ o).run P w = .ok (.enter f args) w) (hR : Calls P f args w (fun e w'' => ∃ v, e = .returned v ∧ R v w'')) : Yld P o ρ w R := by unfold Yld; rw [h]; exact hR
theorem Yld.mono {R' : Value → World → Prop} (h : Yld P o ρ w R) (hr : ∀ v w', R v w' → R' v w') : Yld P o ρ w R' := by
  unfold Yld at *
  split <;> rename_i hx <;> simp only [hx] at h
  · exact hr _ _ h
  · exact hr _ _ h
  · exact h.mono fun e w'' ⟨v, h1, h2⟩ => ⟨v, h1, hr _ _ h2⟩
/-- From there to the kit's wp. -/
theorem Yld.wp {a : Act} {next : Act → World → Prop} {Q : Exit → Act → World → Prop} (h : Yld P o a.eval w fun v w' => next (a.put o.dst v) w') : o.wp P a w next Q := by
  unfold Oper.wp
  unfold Yld at h
  generalize (execOp a.eval o).run P w = r at *
  cases r with
  | ok n w' =>
    cases n <;> simp only [Oper.upon] at h ⊢
    case value v => exact h
    case skip => exact h
    case enter f args => exact h.mono fun e w'' ⟨v, h1, h2⟩ => by subst h1; exact h2
  | halt x w' => simp only at h
end

/-! ### New blocks -/
theorem heap_push_lt (w : World) (o : Obj) {k : Nat} (h : k < w.heap.size) : (w.alloc o).heap[k]? = w.heap[k]? := by
  show (w.heap.push o)[k]? = _
  rw [Array.getElem?_push, if_neg (by omega)]
theorem WExt.alloc (w : World) (o : Obj) (wr : Nat → Prop) : WExt w (w.alloc o) wr :=
  ⟨rfl, rfl, rfl, by show w.heap.size ≤ (w.heap.push o).size; simp, fun k hk _ => heap_push_lt w o hk, fun k c T h => ⟨c, by rw [heap_push_lt w o (Array.getElem?_eq_some_iff.1 h).1]; exact h, rfl⟩⟩
def Cx.new (C : Cx) (n : Nat) (o : Obj) : Cx := ⟨fun i => if i = n then C.w.heap.size else C.β i, fun i => C.ok i ∨ i = n, fun k => C.ow k ∨ k = C.w.heap.size, C.w.alloc o⟩
theorem Cx.new_ext {C : Cx} {n : Nat} (hn : ¬ C.ok n) (o : Obj) (wr : Nat → Prop) (hw : ∀ k, wr k → C.ow k) : Ext C (C.new n o) wr :=
  ⟨.alloc _ _ _, hw, fun i hi => by show (if i = n then _ else _) = _; rw [if_neg (by rintro rfl; exact hn hi)], fun i hi => .inl hi, fun k hk => hk.imp id (fun e => by omega)⟩
theorem Leaves.new {C : Cx} {n : Nat} (hn : ¬ C.ok n) {b : Blk} {vs : List Value} (h1 : ∀ v ∈ vs, v.oneCell' = true) (hr : ∀ p x, b.at p = some x → ∃ v, vs[p]? = some v ∧ Rel C x v) {x : AV} {cv : Value} (hx : Rel (C.new n (.cells vs.toArray b.elem)) x cv) :
    Leaves C n (some x) [b] [] cv (C.w.alloc (.cells vs.toArray b.elem)) := by
  have e := Cx.new_ext hn (.cells vs.toArray b.elem) (fun _ => False) (by simp)
  have hβ : (C.new n (.cells vs.toArray b.elem)).β n = C.w.heap.size := if_pos rfl
  refine ⟨C.new n (.cells vs.toArray b.elem), rfl, Cx.new_ext hn _ _ (by simp), fun i => ?_, fun k => ?_, fun i h h' => ?_, fun i j h h' k k' _ => ?_, fun y hy => by injection hy with hy; exact hy ▸ hx, fun i b' hb => ?_, by simp⟩
  · show C.ok i ∨ i = n ↔ _; simp; exact ⟨fun h => h.imp id (fun h => by omega), fun h => h.imp id (fun h => by omega)⟩
  · show C.ow k ∨ k = _ ↔ _
    constructor
    · rintro (h | h)
      · exact .inl h
      · exact .inr ⟨n, Nat.le_refl _, by simp, by rw [hβ, h]⟩
    · rintro (h | ⟨i, h1, h2, h3⟩)
      · exact .inl h
      · simp at h2
        obtain rfl : i = n := by omega
        exact .inr (by rw [← h3, hβ])
  · simp at h'
    obtain rfl : i = n := by omega
    rw [hβ]; exact .inl (Nat.le_refl _)
  · simp at h' k'; omega
  · simp [named] at hb
    obtain ⟨rfl, rfl⟩ := hb
    refine ⟨vs.toArray, ?_, fun p x hx => ?_⟩
    · rw [hβ]
      show (C.w.heap.push _)[C.w.heap.size]? = _
      simp
    · obtain ⟨v, h2, h3⟩ := hr p x hx
      exact ⟨v, by simpa using h2, h1 v (List.mem_of_getElem? h2), h3.mono e⟩
end Go.Proofs.Ytpilblmncpeelaa.AM

namespace Go.Proofs.Ytpilblmncpeelaa.AM
section
variable {P : Program} {o : Oper} {ρ : Operand → Value} {C : Cx} {n : Nat}

theorem LRel.of_lits {C : Cx} {vs : List Value} (h : vs.all (·.oneCell') = true) : LRel C (vs.map .lit) vs := by
  refine ⟨by simp, fun c x v h1 h2 => ?_⟩
  simp only [List.getElem?_map, h2, Option.map_some, Option.some.injEq] at h1
  subst h1
  exact .lit (List.all_eq_true.1 h v (List.mem_of_getElem? h2))
/-- The cells of a value that is no tuple. -/
theorem Rel.cells {C : Cx} {x : AV} {v : Value} (h : Rel C x v) (ht : ∀ l, x ≠ .tup l) : LRel C x.cells v.cells.toList ∧ ∀ u ∈ v.cells.toList, u.oneCell' = true := by
  cases h with
  | lit h => 
    have e : ∀ v : Value, v.oneCell' = true → v.cells.toList = [v] := fun v h => by cases v <;> simp_all [Value.oneCell', Value.cells]
    rw [e _ h]
    exact ⟨.cons (.lit h) (.nil _), by simpa using h⟩
  | ptr h => exact ⟨.cons (.ptr h) (.nil _), by simp [Value.cells, Value.oneCell']⟩
  | elm h => exact ⟨.cons (.elm h) (.nil _), by simp [Value.cells, Value.oneCell']⟩
  | slc h hn hm hc => exact ⟨.cons (.slc h hn hm hc) (.nil _), by simp [Value.cells, Value.oneCell']⟩
  | vec g hn hm hk hc h1 hr => exact ⟨.cons (.vec g hn hm hk hc h1 hr) (.nil _), by simp [Value.cells, Value.oneCell']⟩
  | ful h => exact ⟨.cons (.ful h) (.nil _), by simp [Value.cells, Value.oneCell']⟩
  | num => exact ⟨.cons .num (.nil _), by simp [Value.cells, Value.oneCell']⟩
  | kb => exact ⟨.cons .kb (.nil _), by simp [Value.cells, Value.oneCell']⟩
  | er h0 h1 h2 =>
    have e : ∀ v : Value, v.oneCell' = true → v.cells.toList = [v] := fun v h => by cases v <;> simp_all [Value.oneCell', Value.cells]
    rw [e _ h0]
    exact ⟨.cons (.er h0 h1 h2) (.nil _), by simpa using h0⟩
  | rptr g hb hlt hc h1 hr => exact ⟨.cons (.rptr g hb hlt hc h1 hr) (.nil _), by simp [Value.cells, Value.oneCell']⟩
  | agg hl h1 hr => exact ⟨⟨by simpa [AV.cells, Value.cells] using hl, by simpa [AV.cells, Value.cells] using hr⟩, by simpa [Value.cells] using h1⟩
  | tup hl hr => exact absurd rfl (ht _)
  | fn hl hm hr hq => exact ⟨.cons (.fn hl hm hr hq) (.nil _), by simp [Value.cells, Value.oneCell']⟩

theorem ok_move {x : Operand} {av : AV} (ho : o.op = .move x) (h : Rel C av (ρ x)) : Yld P o ρ C.w (Leaves C n (some av) [] []) :=
  .value (v := ρ x) (by unfold execOp; simp [ho]) (.same fun _ e => by injection e with e; exact e ▸ h)
theorem ok_assign {x : Operand} {av : AV} (ho : o.op = .assign x) (h : Rel C av (ρ x)) : Yld P o ρ C.w (Leaves C n (some av) [] []) :=
  .value (v := ρ x) (by unfold execOp; simp [ho]) (.same fun _ e => by injection e with e; exact e ▸ h)
theorem Rel.bool_inv {C : Cx} {b : Bool} {v : Value} (h : Rel C (.lit (.bool b)) v) : v = .bool b := by cases h; rfl
theorem Rel.lit_inv {C : Cx} {u v : Value} (h : Rel C (.lit u) v) : v = u ∧ u.oneCell' = true := by cases h; exact ⟨rfl, by assumption⟩
theorem ok_pick {c x y : Operand} {t a b : Bool} (ho : o.op = .pick c x y) (hc : ρ c = .bool t) (hx : t = true → ρ x = .bool a) (hy : t = false → ρ y = .bool b) :
    Yld P o ρ C.w (Leaves C n (some (.lit (.bool (bif t then a else b)))) [] []) := by
  refine .value (v := .bool (bif t then a else b)) ?_ (.same fun _ e => by injection e with e; exact e ▸ .lit rfl)
  unfold execOp
  cases t <;> simp [ho, hc, asBool, hx, hy]
theorem ok_alloc {T : Nat} {i : TI} (ho : o.op = .alloc T) (hT : TGood P T i) (hn : ¬ C.ok n) : Yld P o ρ C.w (Leaves C n (some (.ptr n 0)) [.cells (i.zero.map .lit) T] []) := by
  obtain ⟨z, hz, hc⟩ := hT.run_zero C.w
  have hl : LRel C (i.zero.map .lit) i.zero := .of_lits hT.one
  have := Leaves.new (cv := .pointer (some ⟨C.w.heap.size, 0, none⟩)) hn (b := .cells (i.zero.map .lit) T) (vs := i.zero) (x := .ptr n 0) (List.all_eq_true.1 hT.one) (fun p x hx => hl.get hx)
    (by have := @Rel.ptr (C.new n (.cells i.zero.toArray T)) n 0 (.inr rfl); rwa [show (C.new n (.cells i.zero.toArray T)).β n = C.w.heap.size from if_pos rfl] at this)
  refine .value ?_ this
  have e : z.cells = i.zero.toArray := by rw [← hc]
  unfold execOp
  simp only [ho, Instr.alloc]
  simp [hz, newVar, newRow, newObj, Sem.run, e, Blk.elem]
theorem ok_box {T : Nat} {x : Operand} {av : AV} (ho : o.op = .box T x) (h : Rel C av (ρ x)) (ht : ∀ l, av ≠ .tup l) (hn : ¬ C.ok n) : Yld P o ρ C.w (Leaves C n (some (.ptr n 0)) [.cells av.cells T] []) := by
  obtain ⟨hl, h1⟩ := h.cells ht
  have := Leaves.new (cv := .pointer (some ⟨C.w.heap.size, 0, none⟩)) hn (b := .cells av.cells T) (vs := (ρ x).cells.toList) (x := .ptr n 0) h1 (fun p x hx => hl.get hx)
    (by have := @Rel.ptr (C.new n (.cells (ρ x).cells.toList.toArray T)) n 0 (.inr rfl); rwa [show (C.new n (.cells (ρ x).cells.toList.toArray T)).β n = C.w.heap.size from if_pos rfl] at this)
  refine .value ?_ this
  unfold execOp
  simp only [ho, Instr.box]
  simp [newVar, newRow, newObj, Sem.run, Blk.elem]

/-! ### Loads -/
theorem mk_rel {C : Cx} {a : Bool} {l : List AV} {vs : List Value} {x : AV} (h : LRel C l vs) (h1 : ∀ v ∈ vs, v.oneCell' = true) (hx : mk a l = some x) :
    (a = true ∧ Rel C x (.agg vs.toArray)) ∨ (a = false ∧ ∃ v, vs = [v] ∧ Rel C x v) := by
  cases a with
  | true => simp only [mk, Option.some.injEq] at hx; subst hx; exact .inl ⟨rfl, .agg h.1 h1 h.2⟩
  | false =>
    match l, hx with
    | [y], hx =>
      simp only [mk, Option.some.injEq] at hx; subst hx
      obtain ⟨v, rfl⟩ : ∃ v, vs = [v] := by
        have := h.1
        match vs, this with
        | [v], _ => exact ⟨v, rfl⟩
      exact .inr ⟨rfl, v, rfl, h.2 0 y v rfl rfl⟩
theorem run_load_cells {T : Nat} {i : TI} (hT : TGood P T i) (w : World) (b off : Nat) (vs : List Value) (hl : vs.length = i.size) (hc : w.rangeAt b off vs) {x : AV} {l : List AV} (hlr : LRel C l vs) (h1 : ∀ v ∈ vs, v.oneCell' = true) (hx : mk i.agg l = some x) :
    ∃ cv, (Instr.loadAt T (.pointer (some ⟨b, off, none⟩))).run P w = .ok cv w ∧ Rel C x cv := by
  have hs := hT.run_size w
  have ha := hT.run_agg w
  rcases mk_rel hlr h1 hx with ⟨e, hr⟩ | ⟨e, v, rfl, hr⟩
  · rw [e] at ha
    refine ⟨_, ?_, hr⟩
    have hl' : (loadCells ⟨b, off, none⟩ vs.length).run P w = .ok vs.toArray w :=
      run_loadCells_list (P := P) w ⟨b, off, none⟩ vs (fun j v hv => by rw [Addr.add_mid]; exact hc j v hv)
    simp only [Instr.loadAt, Instr.sureAddr, loadVar]
    simp [Sem.run_bind, ha, hs, ← hl, hl']
  · rw [e] at ha
    refine ⟨v, ?_, hr⟩
    have hv : w.cell? ⟨b, off, none⟩ = some v := by simpa using hc 0 v rfl
    simp only [Instr.loadAt, Instr.sureAddr, loadVar]
    simp [Sem.run_bind, ha, load, Sem.run, hv]
theorem brel_range {C : Cx} {i : Nat} {l : List AV} {T : TypeId} (h : BRel C i (.cells l T)) {off m : Nat} (hm : off + m ≤ l.length) :
    ∃ vs : List Value, vs.length = m ∧ C.w.rangeAt (C.β i) off vs ∧ LRel C ((l.drop off).take m) vs ∧ ∀ v ∈ vs, v.oneCell' = true := by
  obtain ⟨c, h1, h2⟩ := h
  have hsz : l.length ≤ c.size := by
    rcases Nat.eq_zero_or_pos l.length with h0 | h0
    · omega
    · have hlt : l.length - 1 < l.length := by omega
      obtain ⟨v, hv, _⟩ := h2 (l.length - 1) l[l.length - 1] (List.getElem?_eq_getElem hlt)
      have := (Array.getElem?_eq_some_iff.1 hv).1
      omega
  have hget : ∀ j (hj : j < m), ∃ v, c[off + j]? = some v ∧ v.oneCell' = true ∧ Rel C (l[off + j]'(by omega)) v := fun j hj => h2 (off + j) _ (List.getElem?_eq_getElem (by omega))
  refine ⟨(c.toList.drop off).take m, by simp; omega, fun j v hv => ?_, ⟨by simp; omega, fun j x v hx hv => ?_⟩, fun v hv => ?_⟩
  · have hj : j < m := by have := (List.getElem?_eq_some_iff.1 hv).1; simp at this; omega
    rw [List.getElem?_take_of_lt hj, List.getElem?_drop] at hv
    simp only [World.cell?, h1]
    simpa using hv
  · have hj : j < m := by have := (List.getElem?_eq_some_iff.1 hv).1; simp at this; omega
    rw [List.getElem?_take_of_lt hj, List.getElem?_drop] at hv hx
    obtain ⟨u, hu, _, hr⟩ := h2 (off + j) x hx
    have : u = v := by
      have hv' : c[off + j]? = some v := by simpa using hv
      rw [hu] at hv'; injection hv'
    exact this ▸ hr
  · obtain ⟨j, hj⟩ := List.getElem?_of_mem hv
    have hjm : j < m := by have := (List.getElem?_eq_some_iff.1 hj).1; simp at this; omega
    rw [List.getElem?_take_of_lt hjm, List.getElem?_drop] at hj
    obtain ⟨u, hu, h3, _⟩ := hget j hjm
    have : u = v := by
      have hv' : c[off + j]? = some v := by simpa using hj
      rw [hu] at hv'; injection hv'
    exact this ▸ h3
theorem ok_load {T : Nat} {x : Operand} {t : TI} {i off : Nat} {l : List AV} {E : TypeId} {av : AV} (ho : o.op = .load T x) (hT : TGood P T t) (hx : Rel C (.ptr i off) (ρ x)) (hb : BRel C i (.cells l E)) (hm : off + t.size ≤ l.length)
    (hv : mk t.agg ((l.drop off).take t.size) = some av) : Yld P o ρ C.w (Leaves C n (some av) [] []) := by
  obtain ⟨vs, h1, h2, h3, h4⟩ := brel_range hb hm
  obtain ⟨cv, h5, h6⟩ := run_load_cells hT C.w (C.β i) off vs h1 h2 h3 h4 hv
  have hp : ρ x = .pointer (some ⟨C.β i, off, none⟩) := by generalize ρ x = q at hx; cases hx; rfl
  exact .value (v := cv) (by unfold execOp; simp [ho, hp, h5]) (.same fun _ e => by injection e with e; exact e ▸ h6)
theorem ok_loadR {T : Nat} {x : Operand} {t : TI} {l : List AV} {av : AV} (ho : o.op = .load T x) (hT : TGood P T t) (hx : Rel C (.rptr l) (ρ x)) (hm : t.size ≤ l.length)
    (hv : mk t.agg (l.take t.size) = some av) : Yld P o ρ C.w (Leaves C n (some av) [] []) := by
  generalize hq : ρ x = q at hx
  cases hx with
  | @rptr _ b off g hb hlt hc h1 hr =>
    have hlr : LRel C (l.take t.size) ((List.range t.size).map g) := by
      refine ⟨by simp; omega, fun c y v hy hv => ?_⟩
      have hcl : c < t.size := by have := (List.getElem?_eq_some_iff.1 hv).1; simpa using this
      rw [List.getElem?_take_of_lt hcl] at hy
      simp [hcl] at hv
      exact hv ▸ hr c y hy
    obtain ⟨cv, h5, h6⟩ := run_load_cells hT C.w b off ((List.range t.size).map g) (by simp) (fun j v hj => by
      have hcl : j < t.size := by have := (List.getElem?_eq_some_iff.1 hj).1; simpa using this
      simp [hcl] at hj
      rw [hc j (by omega), hj]) hlr (fun v hv => by
      obtain ⟨c, hc', rfl⟩ := List.mem_map.1 hv
      exact h1 c (by have := List.mem_range.1 hc'; omega)) hv
    exact .value (v := cv) (by unfold execOp; simp [ho, hq, h5]) (.same fun _ e => by injection e with e; exact e ▸ h6)
end
end Go.Proofs.Ytpilblmncpeelaa.AM

namespace Go.Proofs.Ytpilblmncpeelaa.AM

theorem heap_setCell (w : World) (b o : Nat) (v : Value) (k : Nat) : (w.setCell ⟨b, o, none⟩ v).heap[k]? = if k = b then (w.heap[b]?).map (fun | .cells c T fz => .cells (c.setIfInBounds o v) T fz | x => x) else w.heap[k]? := by
  simp only [World.setCell, Array.getElem?_modify]
  by_cases h : k = b
  · subst h
    simp only [if_true]
    cases w.heap[k]? with
    | none => rfl
    | some x => cases x <;> rfl
  · rw [if_neg (fun e => h e.symm), if_neg h]
theorem setCells_os (b : Nat) : ∀ (vs : List Value) (o : Nat) (w : World), (w.setCells b o vs).os = w.os ∧ (w.setCells b o vs).tape = w.tape ∧ (w.setCells b o vs).output = w.output ∧ (w.setCells b o vs).heap.size = w.heap.size
  | [], _, _ => ⟨rfl, rfl, rfl, rfl⟩
  | v :: r, o, w => by
    obtain ⟨h1, h2, h3, h4⟩ := setCells_os b r (o + 1) (w.setCell ⟨b, o, none⟩ v)
    exact ⟨h1, h2, h3, by rw [World.setCells, h4]; simp [World.setCell]⟩
theorem setCells_other (b : Nat) : ∀ (vs : List Value) (o : Nat) (w : World) (k : Nat), k ≠ b → (w.setCells b o vs).heap[k]? = w.heap[k]?
  | [], _, _, _, _ => rfl
  | v :: r, o, w, k, h => by rw [World.setCells, setCells_other b r _ _ k h, heap_setCell, if_neg h]
theorem setCells_same (b : Nat) (T : TypeId) (fz : Nat × Nat) : ∀ (vs : List Value) (o : Nat) (w : World) (c : Array Value), w.heap[b]? = some (.cells c T fz) → o + vs.length ≤ c.size →
    ∃ c', (w.setCells b o vs).heap[b]? = some (.cells c' T fz) ∧ c'.size = c.size ∧ ∀ p, c'[p]? = if o ≤ p ∧ p < o + vs.length then vs[p - o]? else c[p]?
  | [], o, w, c, h, _ => ⟨c, h, rfl, fun p => by simp; omega⟩
  | v :: r, o, w, c, h, hl => by
    simp only [List.length_cons] at hl
    have h1 : (w.setCell ⟨b, o, none⟩ v).heap[b]? = some (.cells (c.setIfInBounds o v) T fz) := by rw [heap_setCell, if_pos rfl, h]; rfl
    obtain ⟨c', h2, h3, h4⟩ := setCells_same b T fz r (o + 1) _ _ h1 (by simp; omega)
    refine ⟨c', h2, by rw [h3]; simp, fun p => ?_⟩
    rw [h4, Array.getElem?_setIfInBounds]
    simp only [List.length_cons]
    by_cases hp : o = p
    · subst hp
      simp
      have : o < c.size := by omega
      rw [if_neg (by omega)]
      simp [this]
    · by_cases hq : o + 1 ≤ p ∧ p < o + 1 + r.length
      · rw [if_pos hq, if_pos (by omega), show p - o = (p - (o + 1)) + 1 by omega]; rfl
      · rw [if_neg hq, if_neg hp, if_neg (by omega)]
theorem splice_spec : ∀ (o : Nat) (cs n r : List AV), splice cs n o = some r → r.length = cs.length ∧ o + n.length ≤ cs.length ∧ ∀ p, r[p]? = if o ≤ p ∧ p < o + n.length then n[p - o]? else cs[p]?
  | 0, cs, n, r, h => by
    unfold splice at h
    cases hb : Nat.ble n.length cs.length with
    | false => simp [hb] at h
    | true =>
      have hle := Nat.le_of_ble_eq_true hb
      simp [hb] at h
      subst h
      refine ⟨by simp; omega, by omega, fun p => ?_⟩
      by_cases hp : p < n.length
      · rw [List.getElem?_append_left hp, if_pos (by omega)]; rfl
      · rw [List.getElem?_append_right (by omega), if_neg (by omega), List.getElem?_drop]; congr 1; omega
  | o + 1, [], n, r, h => by simp [splice] at h
  | o + 1, c :: cs, n, r, h => by
    unfold splice at h
    cases hs : splice cs n o with
    | none => simp [hs] at h
    | some r' =>
      simp [hs] at h
      subst h
      obtain ⟨h1, h2, h3⟩ := splice_spec o cs n r' hs
      refine ⟨by simp [h1], by simp; omega, fun p => ?_⟩
      cases p with
      | zero => simp
      | succ p =>
        rw [List.getElem?_cons_succ, h3 p]
        by_cases hp : o ≤ p ∧ p < o + n.length
        · rw [if_pos hp, if_pos (by omega)]; congr 1; omega
        · rw [if_neg hp, if_neg (by omega)]; rfl
theorem notTup_ne {v : AV} (h : notTup v = true) : ∀ l, v ≠ .tup l := by rintro l rfl; simp [notTup] at h
section
variable {P : Program} {o : Oper} {ρ : Operand → Value} {C : Cx} {n : Nat}
theorem run_store_cells {T : Nat} {i : TI} (hT : TGood P T i) (w : World) (b off : Nat) (v : Value) (hl : v.cells.size = i.size) (ht : w.there b off v.cells.size) (h1 : ∀ u ∈ v.cells.toList, u.oneCell' = true) :
    (Instr.storeAt T (.pointer (some ⟨b, off, none⟩)) v).run P w = .ok () (w.setCells b off v.cells.toList) := by
  have hs := hT.run_size w
  have := run_storeCells_cells (P := P) b off v.cells.toList 0 w (fun j hj => by simpa using (ht j (by simpa using hj)).1) (fun j hj => by simpa using (ht j (by simpa using hj)).2) h1
  simp only [Nat.add_zero] at this
  simp only [Instr.storeAt, Instr.sureAddr, storeVar]
  simp [hs, hl, this]
theorem ok_store {T : Nat} {x y : Operand} {t : TI} {i off : Nat} {l cs : List AV} {E : TypeId} {av : AV} (ho : o.op = .store T x y) (hT : TGood P T t) (hx : Rel C (.ptr i off) (ρ x)) (hy : Rel C av (ρ y)) (htup : notTup av = true)
    (hb : BRel C i (.cells l E)) (hlen : av.cells.length = t.size) (hs : splice l av.cells off = some cs) (how : C.ow (C.β i)) : Yld P o ρ C.w (Leaves C n none [] [(i, .cells cs E)]) := by
  have hok : C.ok i := by generalize ρ x = q at hx; cases hx; assumption
  have hp : ρ x = .pointer (some ⟨C.β i, off, none⟩) := by generalize ρ x = q at hx; cases hx; rfl
  obtain ⟨hlr, h1⟩ := hy.cells (notTup_ne htup)
  obtain ⟨s1, s2, s3⟩ := splice_spec off l av.cells cs hs
  have hvl : (ρ y).cells.toList.length = av.cells.length := hlr.1
  have hvl' : (ρ y).cells.size = av.cells.length := by simpa using hvl
  obtain ⟨c, hc1, hc2⟩ := id hb
  have hsz : l.length ≤ c.size := by
    rcases Nat.eq_zero_or_pos l.length with h0 | h0
    · omega
    · have hlt : l.length - 1 < l.length := by omega
      obtain ⟨v, hv, _⟩ := hc2 (l.length - 1) l[l.length - 1] (List.getElem?_eq_getElem hlt)
      have := (Array.getElem?_eq_some_iff.1 hv).1
      omega
  have hthere : C.w.there (C.β i) off (ρ y).cells.size := fun j hj => by
    have hj' : off + j < c.size := by omega
    refine ⟨?_, ?_⟩
    · simp [World.cell?, hc1, hj']
    · simp [World.frozen?, hc1]
  have hrun := run_store_cells hT C.w (C.β i) off (ρ y) (by omega) hthere h1
  obtain ⟨c', k1, k2, k3⟩ := setCells_same (C.β i) E (0, 0) (ρ y).cells.toList off C.w c hc1 (by omega)
  obtain ⟨o1, o2, o3, o4⟩ := setCells_os (C.β i) (ρ y).cells.toList off C.w
  have hext : Ext C ⟨C.β, C.ok, C.ow, C.w.setCells (C.β i) off (ρ y).cells.toList⟩ (fun k => ∃ j b, (j, b) ∈ [(i, Blk.cells cs E)] ∧ C.β j = k) := by
    refine ⟨⟨o1, o2, o3, by rw [o4]; exact Nat.le_refl _, fun k hk hn => ?_, fun k d U hd => ?_⟩, ?_, fun _ _ => rfl, fun _ h => h, fun _ h => .inl h⟩
    · exact setCells_other _ _ _ _ k (fun e => hn ⟨i, _, List.mem_singleton.2 rfl, e.symm⟩)
    · by_cases hk : k = C.β i
      · subst hk
        rw [hc1] at hd
        injection hd with hd; injection hd with hd1 hd2
        subst hd1; subst hd2
        exact ⟨c', k1, k2⟩
      · exact ⟨d, by rw [show (Cx.mk C.β C.ok C.ow (C.w.setCells (C.β i) off (ρ y).cells.toList)).w = C.w.setCells (C.β i) off (ρ y).cells.toList from rfl, setCells_other _ _ _ _ k hk, hd], rfl⟩
    · rintro k ⟨j, b, hm, rfl⟩
      simp at hm
      rw [hm.1]; exact how
  refine .skip (w' := C.w.setCells (C.β i) off (ρ y).cells.toList) (by unfold execOp; simp [ho, hp, hrun]) ⟨_, rfl, hext, fun j => by simp; omega, fun k => by simp; omega, fun j h h' => by simp at h'; omega, fun j j' h h' => by simp at h'; omega, by simp, by simp [named], fun j b hm => ?_⟩
  simp at hm
  obtain ⟨rfl, rfl⟩ := hm
  refine ⟨c', k1, fun p x hx' => ?_⟩
  have hx2 : cs[p]? = some x := hx'
  rw [s3] at hx2
  rw [k3]
  by_cases hp' : off ≤ p ∧ p < off + av.cells.length
  · rw [if_pos hp'] at hx2
    rw [if_pos (by omega)]
    obtain ⟨v, hv, hr⟩ := hlr.get hx2
    exact ⟨v, hv, h1 v (List.mem_of_getElem? hv), hr.mono hext⟩
  · rw [if_neg hp'] at hx2
    rw [if_neg (by omega)]
    obtain ⟨v, hv, h3, hr⟩ := hc2 p x hx2
    exact ⟨v, hv, h3, hr.mono hext⟩
end
end Go.Proofs.Ytpilblmncpeelaa.AM

namespace Go.Proofs.Ytpilblmncpeelaa.AM
section
variable {P : Program} {o : Oper} {ρ : Operand → Value} {C : Cx} {n : Nat}
theorem Rel.ptr_inv {C : Cx} {i off : Nat} {v : Value} (h : Rel C (.ptr i off) v) : v = .pointer (some ⟨C.β i, off, none⟩) ∧ C.ok i := by cases h; exact ⟨rfl, by assumption⟩
theorem descOf_struct {P : Program} {d : TypeDesc} {a : Bool} {offs : List (Nat × Nat)} {E : TypeId} (h : descOf P d = (a, offs, E)) {f : Nat} {x : Nat × Nat} (hx : offs[f]? = some x) :
    ∃ fs fd, d = .struct fs ∧ fs[f]? = some fd ∧ fd.offset = x.1 ∧ P.cellsOf fd.type = x.2 := by
  cases d
  case struct fs =>
    simp [descOf] at h
    obtain ⟨_, h2, _⟩ := h
    subst h2
    rw [List.getElem?_map] at hx
    cases hf : fs.toList[f]? with
    | none => simp [hf] at hx
    | some fd => simp [hf] at hx; subst hx; exact ⟨fs, fd, rfl, by simpa using hf, rfl, rfl⟩
  all_goals
    simp [descOf] at h
    obtain ⟨_, h2, _⟩ := h
    subst h2
    simp at hx
theorem ok_field {T : Nat} {x : Operand} {f : Nat} {t : TI} {i off a sz : Nat} (ho : o.op = .fieldAddr T x f) (hT : TGood P T t) (hx : Rel C (.ptr i off) (ρ x)) (hf : t.offs[f]? = some (a, sz)) (hz : 0 < sz) :
    Yld P o ρ C.w (Leaves C n (some (.ptr i (off + a))) [] []) := by
  obtain ⟨hp, hok⟩ := hx.ptr_inv
  obtain ⟨d, h1, h2⟩ := hT.under
  obtain ⟨fs, fd, rfl, h3, h4, h5⟩ := descOf_struct h2 hf
  have hsz : ∃ j, P.info? fd.type = some j ∧ j.size = sz := by
    unfold Program.cellsOf at h5
    cases hj : P.info? fd.type with
    | none => simp [hj] at h5; omega
    | some j => simp [hj] at h5; exact ⟨j, rfl, h5⟩
  obtain ⟨j, h6, h7⟩ := hsz
  have hne : ¬ j.size = 0 := by omega
  refine .value (v := .pointer (some ⟨C.β i, off + a, none⟩)) ?_ (.same fun _ e => by injection e with e; exact e ▸ .ptr hok)
  unfold execOp
  have h4' : fd.offset = a := h4
  simp [ho, hp, Instr.fieldAt, run_underlying h1 C.w, h3, Instr.sureAddr, fieldPlace, sizeOf, typeInfo, h6, hne, h4', Addr.add_mid]
theorem ok_nil {x : Operand} {i off : Nat} (ho : o.op = .nilCheck x) (hx : Rel C (.ptr i off) (ρ x)) : Yld P o ρ C.w (Leaves C n (some (.ptr i off)) [] []) := by
  obtain ⟨hp, hok⟩ := hx.ptr_inv
  exact .value (v := .pointer (some ⟨C.β i, off, none⟩)) (by unfold execOp; simp [ho, hp]) (.same fun _ e => by injection e with e; exact e ▸ .ptr hok)
theorem ok_nilF {x : Operand} {f : Nat} {a b : List AV} (ho : o.op = .nilCheck x) (hx : Rel C (.fn (.func f) a b) (ρ x)) : Yld P o ρ C.w (Leaves C n (some (.fn (.func f) a b)) [] []) := by
  generalize hq : ρ x = q at hx
  cases id hx
  exact .value (by unfold execOp; simp [ho, hq]; rfl) (.same fun _ e => by injection e with e; exact e ▸ hx)
/-- All of them hold. -/
def AllP : List Prop → Prop
  | [] => True
  | p :: r => p ∧ AllP r
theorem eqGuard_ok {op : BinOp} {T : TypeId} {a b : Operand} {x y : Value} (hx : x ≠ .nilIface) (hx' : ∀ l, x ≠ .agg l) (w : World) : (eqGuard op T a b x y).run P w = .ok () w := by
  cases op <;> cases x <;> first | (exact absurd rfl hx) | (exact absurd rfl (hx' _)) | rfl | simp [eqGuard]
theorem bin_int {op : BinOp} {k : IntKind} {p q : Int} {r : Value} {ob : List Prop} (h : bin stdH op (.int k p) (.int k q) = some (r, ob)) (hob : AllP ob) (T : TypeId) (w : World) :
    (binOp op T (.int k p) (.int k q)).run P w = .ok r w ∧ r.oneCell' = true := by
  have hk : sameK k k = true := by cases k <;> rfl
  cases op <;> simp only [bin, hk, cond_true, Option.some.injEq, Prod.mk.injEq, reduceCtorEq] at h <;> obtain ⟨rfl, rfl⟩ := h <;> refine ⟨?_, rfl⟩ <;> simp only [AllP, stdH, and_true] at hob <;>
    simp [binOp, Op.intArith, Op.intDiv, Op.intBits, Op.intCmp, Op.shift, stdH] <;> first | (intro h0; exact absurd h0 hob) | (intro h0; omega)
theorem bin_shift {op : BinOp} {k k' : IntKind} {p q : Int} {r : Value} {ob : List Prop} (hop : op = .shl ∨ op = .shr) (h : bin stdH op (.int k p) (.int k' q) = some (r, ob)) (hob : AllP ob) (T : TypeId) (w : World) :
    (binOp op T (.int k p) (.int k' q)).run P w = .ok r w ∧ r.oneCell' = true := by
  rcases hop with rfl | rfl <;> simp only [bin, Option.some.injEq, Prod.mk.injEq] at h <;> obtain ⟨rfl, rfl⟩ := h <;> refine ⟨?_, rfl⟩ <;> simp only [AllP, stdH, and_true] at hob <;> simp [binOp, Op.shift, stdH] <;> (intro h0; omega)
theorem bin_lit {op : BinOp} {x y r : Value} {ob : List Prop} (h : bin stdH op x y = some (r, ob)) (hob : AllP ob) (T : TypeId) (a b : Operand) (w : World) :
    ((do eqGuard op T a b x y; binOp op T x y) : Sem Value).run P w = .ok r w ∧ r.oneCell' = true := by
  cases x <;> cases y <;> try (simp [bin] at h; done)
  case int.int k p k' q =>
    have hg := eqGuard_ok (P := P) (op := op) (T := T) (a := a) (b := b) (x := .int k p) (y := .int k' q) (by simp) (by simp) w
    rw [Sem.run_bind, hg, Result.andThen_ok]
    by_cases hs : op = .shl ∨ op = .shr
    · exact bin_shift hs h hob T w
    · cases hk : sameK k k' with
      | true => have := sameK_eq hk; subst this; exact bin_int h hob T w
      | false => cases op <;> simp [bin, hk] at h hs
  case string.string p q =>
    have hg := eqGuard_ok (P := P) (op := op) (T := T) (a := a) (b := b) (x := .string p) (y := .string q) (by simp) (by simp) w
    rw [Sem.run_bind, hg, Result.andThen_ok]
    cases op <;> simp only [bin, Option.some.injEq, Prod.mk.injEq, reduceCtorEq] at h <;> obtain ⟨rfl, rfl⟩ := h <;> refine ⟨?_, rfl⟩ <;> simp only [AllP, stdH, and_true] at hob
    · have hm : IntKind.i64.max = 9223372036854775807 := rfl
      simp [binOp, Op.stringOp, stdH, hm]
      omega
    · simp [binOp, Op.stringOp, stdH]
    · simp [binOp, Op.stringOp, stdH]
    · simp [binOp, Op.stringOp, stdH]
    · simp [binOp, Op.stringOp, stdH]
    · simp [binOp, Op.stringOp, stdH]
    · simp [binOp, Op.stringOp, stdH]
theorem ok_bin {op : BinOp} {T S : TypeId} {x y : Operand} {u v r : Value} {ob : List Prop} (ho : o.op = .binOp op T x y S) (hx : ρ x = u) (hy : ρ y = v) (h : bin stdH op u v = some (r, ob)) (hob : AllP ob) : Yld P o ρ C.w (Leaves C n (some (.lit r)) [] []) := by
  obtain ⟨h1, h2⟩ := bin_lit (P := P) h hob T x y C.w
  refine .value (v := r) ?_ (.same fun _ e => by injection e with e; exact e ▸ .lit h2)
  unfold execOp
  simp only [ho, hx, hy]
  rw [Sem.run_bind, h1, Result.andThen_ok]; rfl
theorem ok_bool {op : BinOp} {T S : TypeId} {x y : Operand} {a b r : Bool} (ho : o.op = .binOp op T x y S) (hx : ρ x = .bool a) (hy : ρ y = .bool b) (hT : P.underlying T = some .bool) (hr : (op = .eql ∧ r = (a == b)) ∨ (op = .neq ∧ r = !(a == b))) :
    Yld P o ρ C.w (Leaves C n (some (.lit (.bool r))) [] []) := by
  have hg := eqGuard_ok (P := P) (op := op) (T := T) (a := x) (b := y) (x := .bool a) (y := .bool b) (by simp) (by simp) C.w
  have he := run_equalIn_bool' (P := P) C.w 9999 T a b hT
  refine .value (v := .bool r) ?_ (.same fun _ e => by injection e with e; exact e ▸ .lit rfl)
  unfold execOp
  simp only [ho, hx, hy]
  rcases hr with ⟨rfl, rfl⟩ | ⟨rfl, rfl⟩ <;> simp [Sem.run_bind, hg, binOp, Op.equal, Op.maxDepth, he]
theorem run_nn {ms : Array (String × TypeId)} {T : TypeId} (hT : P.underlying T = some (.interface ms)) (d : Nat) (w : World) : (Op.equalIn (d + 1) T .nilIface .nilIface).run P w = .ok true w := by
  simp [Op.equalIn, run_underlying hT]
theorem run_in {ms : Array (String × TypeId)} {T t : TypeId} {v : Value} (hT : P.underlying T = some (.interface ms)) (d : Nat) (w : World) : (Op.equalIn (d + 1) T (.iface t v) .nilIface).run P w = .ok false w := by
  simp [Op.equalIn, run_underlying hT]
theorem ok_err {op : BinOp} {T S : TypeId} {x : Operand} {b r : Bool} (ho : o.op = .binOp op T x (.const .nilIface) S) (hx : Rel C (.er b) (ρ x)) (hy : ρ (.const .nilIface) = .nilIface) (hT : (P.underlying T).map isIfc = some true) (hr : (op = .eql ∧ r = b) ∨ (op = .neq ∧ r = !b)) :
    Yld P o ρ C.w (Leaves C n (some (.lit (.bool r))) [] []) := by
  obtain ⟨ms, hms⟩ : ∃ ms, P.underlying T = some (.interface ms) := by
    cases h : P.underlying T with
    | none => rw [h] at hT; cases hT
    | some d =>
      rw [h] at hT
      cases d <;> simp [isIfc] at hT
      exact ⟨_, rfl⟩
  refine .value (v := .bool r) ?_ (.same fun _ e => by injection e with e; exact e ▸ .lit rfl)
  unfold execOp
  simp only [ho, hy]
  generalize hv : ρ x = v at hx ⊢
  cases hx with
  | er h0 h1 h2 =>
    cases b with
    | true =>
      obtain rfl := h1 rfl
      have he := run_nn (P := P) hms 9999 C.w
      rcases hr with ⟨rfl, rfl⟩ | ⟨rfl, rfl⟩ <;> simp [Sem.run_bind, eqGuard, binOp, Op.equal, Op.maxDepth, he]
    | false =>
      obtain ⟨te, pe, rfl⟩ := h2 rfl
      have he := run_in (P := P) (t := te) (v := pe) hms 9999 C.w
      rcases hr with ⟨rfl, rfl⟩ | ⟨rfl, rfl⟩ <;> simp [Sem.run_bind, eqGuard, binOp, Op.equal, Op.maxDepth, he]
theorem eqCells_spec {C : Cx} : ∀ {ks : List CK} {l m : List AV} {fs : List (Unit → Bool)} {vs us : List Value}, eqCells ks l m = some fs → LRel C l vs → LRel C m us → eqV ks vs us = some (allT fs)
  | ks, l, m, fs, vs, us, h, h1, h2 => by
    induction ks generalizing l m fs vs us with
    | nil =>
      match l, m, h with
      | [], [], h =>
        simp [eqCells] at h; subst h
        obtain rfl : vs = [] := List.eq_nil_of_length_eq_zero h1.1
        obtain rfl : us = [] := List.eq_nil_of_length_eq_zero h2.1
        rfl
      | [], _ :: _, h => simp [eqCells] at h
      | _ :: _, _, h => simp [eqCells] at h
    | cons c ks ih =>
      match l, m, h with
      | [], _, h => cases c <;> simp [eqCells] at h
      | _ :: _, [], h => cases c <;> simp [eqCells] at h
      | x :: l, y :: m, h =>
        obtain ⟨v, vs, rfl⟩ : ∃ v r, vs = v :: r := by have := h1.1; match vs, this with | v :: r, _ => exact ⟨v, r, rfl⟩
        obtain ⟨u, us, rfl⟩ : ∃ v r, us = v :: r := by have := h2.1; match us, this with | v :: r, _ => exact ⟨v, r, rfl⟩
        have a1 : LRel C l vs := ⟨by have := h1.1; simpa using this, fun c x v e1 e2 => h1.2 (c + 1) x v (by simpa using e1) (by simpa using e2)⟩
        have a2 : LRel C m us := ⟨by have := h2.1; simpa using this, fun c x v e1 e2 => h2.2 (c + 1) x v (by simpa using e1) (by simpa using e2)⟩
        have r1 := h1.2 0 x v rfl rfl
        have r2 := h2.2 0 y u rfl rfl
        cases c <;> cases x <;> try (simp [eqCells] at h; done)
        all_goals rename_i p
        all_goals cases p <;> try (simp [eqCells] at h; done)
        all_goals cases y <;> try (simp [eqCells] at h; done)
        all_goals rename_i q
        all_goals cases q <;> try (simp [eqCells] at h; done)
        all_goals
          obtain ⟨rfl, -⟩ := r1.lit_inv
          obtain ⟨rfl, -⟩ := r2.lit_inv
          simp only [eqCells] at h
        · rename_i k1 n1 k2 n2
          cases hk : sameK k1 k2 with
          | false => simp [hk] at h
          | true =>
            cases hr : eqCells ks l m with
            | none => simp [hk, hr] at h
            | some fs' =>
              simp [hk, hr] at h
              subst h
              simp [eqV, eq1, hk, ih _ _ _ _ _ hr a1 a2, allT]
        all_goals
          cases hr : eqCells ks l m with
          | none => simp [hr] at h
          | some fs' =>
            simp [hr] at h
            subst h
            simp [eqV, eq1, ih _ _ _ _ _ hr a1 a2, allT]
theorem ok_eqA {op : BinOp} {T S : TypeId} {x y : Operand} {l m : List AV} {ks : List CK} {fs : List (Unit → Bool)} {r : Bool} (ho : o.op = .binOp op T x y S) (hx : Rel C (.agg l) (ρ x)) (hy : Rel C (.agg m) (ρ y))
    (hT : isStruct P T = true ∧ P.eqGuardType P.depth T = false ∧ ckOf P 6 T = some ks) (he : eqCells ks l m = some fs) (hr : (op = .eql ∧ r = allT fs) ∨ (op = .neq ∧ r = !allT fs)) :
    Yld P o ρ C.w (Leaves C n (some (.lit (.bool r))) [] []) := by
  obtain ⟨t1, t2, t3⟩ := hT
  generalize hq : ρ x = q at hx
  generalize hp : ρ y = p at hy
  cases hx with
  | @agg _ vs hl1 h1 r1 =>
  cases hy with
  | @agg _ us hl2 h2 r2 =>
    have hv := eqCells_spec he ⟨hl1, r1⟩ ⟨hl2, r2⟩
    have hd := eq_deep (P := P) C.w 6 9994 T ks t3 vs us _ hv
    unfold valOf at hd
    rw [if_pos t1, if_pos t1] at hd
    have hg : (eqGuard op T x y (.agg vs.toArray) (.agg us.toArray)).run P C.w = .ok () C.w := run_eqGuard_agg C.w op T x y vs.toArray us.toArray t2
    refine .value (v := .bool r) ?_ (.same fun _ e => by injection e with e; exact e ▸ .lit rfl)
    unfold execOp
    simp only [ho, hq, hp]
    rcases hr with ⟨rfl, rfl⟩ | ⟨rfl, rfl⟩ <;> simp [Sem.run_bind, hg, binOp, Op.equal, Op.maxDepth, hd]
theorem ok_not {T : TypeId} {x : Operand} {b : Bool} (ho : o.op = .unOp .not T x) (hx : ρ x = .bool b) : Yld P o ρ C.w (Leaves C n (some (.lit (.bool (!b)))) [] []) :=
  .value (v := .bool (!b)) (by unfold execOp; simp [ho, hx, Op.unary]) (.same fun _ e => by injection e with e; exact e ▸ .lit rfl)
theorem ok_neg {T : TypeId} {x : Operand} {k : IntKind} {a : Int} (ho : o.op = .unOp .neg T x) (hx : ρ x = .int k a) : Yld P o ρ C.w (Leaves C n (some (.lit (.int k (k.wrap (0 - a))))) [] []) :=
  .value (v := .int k (k.wrap (0 - a))) (by unfold execOp; simp [ho, hx, Op.unary, Op.intArith]) (.same fun _ e => by injection e with e; exact e ▸ .lit rfl)
theorem ok_conv {S D : TypeId} {x : Operand} {k k' : IntKind} {a : Int} (ho : o.op = .convert S D x) (hx : ρ x = .int k' a) (hS : ∃ d, P.underlying S = some d) (hD : P.underlying D = some (.int k)) : Yld P o ρ C.w (Leaves C n (some (.lit (.int k (k.wrap a)))) [] []) := by
  obtain ⟨d, hd⟩ := hS
  refine .value (v := .int k (k.wrap a)) ?_ (.same fun _ e => by injection e with e; exact e ▸ .lit rfl)
  unfold execOp
  simp [ho, hx, convert, run_underlying hd C.w, run_underlying hD C.w, Conv.intToInt]
theorem ok_convS {S D E : TypeId} {x : Operand} {f : Nat → List AV} {a : Int} (ho : o.op = .convert S D x) (hx : Rel C (.vec 1 1 f) (ρ x)) (hf : f 0 = [.lit (.int .u8 a)]) (hS : P.underlying S = some (.slice E)) (hE : P.underlying E = some (.int .u8)) (hD : P.underlying D = some .string) :
    Yld P o ρ C.w (Leaves C n (some (.lit (.string (byteT a)))) [] []) := by
  generalize hq : ρ x = v at hx
  cases hx with
  | @vec _ _ cap _ A g hn hm hk hc ho1 hr =>
    obtain ⟨b, off, rfl, hb, hlt, hcell⟩ := hc (by omega)
    have h0 : g 0 0 = .int .u8 a := (hr 0 0 (.lit (.int .u8 a)) (by omega) (by rw [hf]; rfl)).lit_inv.1
    have hl : C.w.cell? ⟨b, off, none⟩ = some (.int .u8 a) := by have := hcell 0 0 (by omega) (by omega); simpa [h0] using this
    have h1 : (loadCells ⟨b, off, none⟩ 1).run P C.w = .ok ([a].map (Value.int .u8)).toArray C.w :=
      run_loadCells_list (P := P) C.w ⟨b, off, none⟩ [.int .u8 a] (fun j v hv => by
        rw [Addr.add_mid]
        cases j with
        | zero => simp at hv; subst hv; simpa using hl
        | succ j => simp at hv)
    have h2 := run_bytesToString (P := P) C.w ⟨b, off, none⟩ 1 cap [a] h1
    refine .value (v := .string (byteT a)) ?_ (.same fun _ e => by injection e with e; exact e ▸ .lit rfl)
    unfold execOp
    have h3 := (run_convert_bytes_string (P := P) C.w S D E (some ⟨b, off, none⟩) 1 cap hS hE hD).trans h2
    simp only [ho, hq, Sem.run_bind, h3, Result.andThen_ok]
    rfl
theorem ok_ext {x : Operand} {i : Nat} {l : List AV} {av : AV} (ho : o.op = .extract x i) (hx : Rel C (.tup l) (ρ x)) (hi : l[i]? = some av) : Yld P o ρ C.w (Leaves C n (some av) [] []) := by
  generalize hq : ρ x = q at hx
  cases hx with
  | @tup _ vs hl hr =>
    obtain ⟨v, hv, hrel⟩ := LRel.get ⟨hl, hr⟩ hi
    refine .value (v := v) ?_ (.same fun _ e => by injection e with e; exact e ▸ hrel)
    unfold execOp
    simp [ho, hq, Instr.extract, hv]
theorem all?_spec {l : List (Option AV)} {r : List AV} (h : all? l = some r) : l = r.map some := by
  induction l generalizing r with
  | nil => simp [all?] at h; subst h; rfl
  | cons x l ih =>
    cases x with
    | none => simp [all?] at h
    | some v =>
      simp only [all?] at h
      cases hl : all? l with
      | none => simp [hl] at h
      | some r' => simp [hl] at h; subst h; simp [ih hl]
theorem ops_rel {g : Operand → Option AV} {xs : List Operand} {r : List AV} (hg : ∀ x ∈ xs, ∀ av, g x = some av → Rel C av (ρ x)) (h : all? (xs.map g) = some r) : LRel C r (xs.map ρ) := by
  have := all?_spec h
  clear h
  induction xs generalizing r with
  | nil => cases r <;> simp at this; exact .nil _
  | cons x xs ih =>
    cases r with
    | nil => simp at this
    | cons v r =>
      simp only [List.map_cons, List.cons.injEq] at this
      exact .cons (hg x (by simp) v this.1) (ih (fun y hy => hg y (by simp [hy])) this.2)
theorem ok_func {f : Fn} {a c : Array Operand} {l m : List AV} (ho : o.op = .makeFunc f a c) (hl : LRel C l (a.toList.map ρ)) (hm : LRel C m (c.toList.map ρ)) : Yld P o ρ C.w (Leaves C n (some (.fn f l m)) [] []) := by
  refine .value (v := .func f (a.map ρ) (c.map ρ)) ?_ (.same fun _ e => ?_)
  · unfold execOp; simp [ho, Instr.makeFunc]
  · injection e with e
    subst e
    have := Rel.fn (f := f) hl.1 hm.1 hl.2 hm.2
    simpa [← Array.toList_map] using this
theorem ok_len {x : Operand} {T : TypeId} {av : AV} {m : Nat} (ho : o.op = .call { callee := .builtin .len, args := #[x], argTypes := #[T] }) (hx : Rel C av (ρ x))
    (hm : (∃ k f, av = .vec k m f ∧ ∃ E, P.underlying T = some (.slice E)) ∨ (∃ i off k, av = .slc i off k m ∧ ∃ E, P.underlying T = some (.slice E)) ∨ (∃ s, av = .lit (.string s) ∧ m = s.size ∧ P.underlying T = some .string) ∨ (∃ a c, av = .lit (.slice a m c) ∧ ∃ E, P.underlying T = some (.slice E))) :
    Yld P o ρ C.w (Leaves C n (some (.lit (.int .i64 (m : Nat)))) [] []) := by
  refine .value (v := .int .i64 (m : Nat)) ?_ (.same fun _ e => by injection e with e; exact e ▸ .lit rfl)
  generalize hq : ρ x = q at hx
  unfold execOp
  rcases hm with ⟨k, f, rfl, E, hE⟩ | ⟨i, off, k, rfl, E, hE⟩ | ⟨s, rfl, rfl, hE⟩ | ⟨a, c, rfl, E, hE⟩ <;> cases hx <;>
    simp [ho, hq, resolve, invoke, builtin, Builtin.len_, run_underlying hE C.w, goInt]
theorem ok_index {x i : Operand} {T : TypeId} {s : ByteArray} {k : IntKind} {j : Int} (ho : o.op = .index T x i) (hx : ρ x = .string s) (hi : ρ i = .int k j) (hT : P.underlying T = some .string) (hj : 0 ≤ j ∧ j < (s.size : Nat)) :
    Yld P o ρ C.w (Leaves C n (some (.lit (.int .u8 (sByte s j.toNat)))) [] []) := by
  refine .value (v := .int .u8 (sByte s j.toNat)) ?_ (.same fun _ e => by injection e with e; exact e ▸ .lit rfl)
  unfold execOp
  have h1 := run_index_string (P := P) C.w T s k j hT
  rw [dif_pos hj] at h1
  have h2 : ((s[j.toNat]'(by omega)).toNat : Int) = sByte s j.toNat := by
    unfold sByte
    have hl : j.toNat < s.data.toList.length := by have : s.data.toList.length = s.size := rfl; omega
    rw [List.getD_eq_getElem?_getD, List.getElem?_eq_getElem hl]; rfl
  simp only [ho, hx, hi, Sem.run_bind, h1, Result.andThen_ok, h2]
  rfl
theorem ok_mm {c : Call} {x y : Operand} {up : Bool} {k k' : IntKind} {a b : Int} (ho : o.op = .call c) (hc : c.callee = .builtin (bif up then .max else .min)) (ha : c.args.toList = [x, y]) (hx : ρ x = .int k a) (hy : ρ y = .int k' b) :
    Yld P o ρ C.w (Leaves C n (some (.lit (.int k (bif up then if b > a then b else a else if b < a then b else a)))) [] []) := by
  refine .value (v := .int k (bif up then if b > a then b else a else if b < a then b else a)) ?_ (.same fun _ e => by injection e with e; exact e ▸ .lit rfl)
  unfold execOp
  cases up <;> simp only [cond_true, cond_false] at hc
  · simp [ho, resolve, invoke, builtin, hc, Builtin.min_, Builtin.min2, ha, hx, hy]
  · simp [ho, resolve, invoke, builtin, hc, Builtin.max_, Builtin.max2, ha, hx, hy]
theorem ok_idx {x i : Operand} {T : TypeId} {k m : Nat} {f : Nat → List AV} {q : IntKind} {j : Int} (ho : o.op = .indexAddr T x i) (hx : Rel C (.vec k m f) (ρ x)) (hi : ρ i = .int q j) (hT : ∃ E, P.underlying T = some (.slice E) ∧ ∀ w, (sizeOf E).run P w = .ok k w)
    (hj : 0 ≤ j ∧ j < (m : Nat)) : Yld P o ρ C.w (Leaves C n (some (.rptr (f j.toNat))) [] []) := by
  obtain ⟨E, h1, h2⟩ := hT
  generalize hq : ρ x = v at hx
  cases hx with
  | @vec _ _ cap _ A g hn hm hk hc ho1 hr =>
    obtain ⟨b, off, rfl, hb, hlt, hcell⟩ := hc (by omega)
    have hjn : j.toNat < m := by omega
    refine .value (v := .pointer (some ⟨b, off + j.toNat * k, none⟩)) ?_ (.same fun _ e => ?_)
    · unfold execOp
      have h3 := h2 C.w
      simp [ho, hq, hi, Instr.indexAt, asIntOf, run_underlying h1 C.w, hj, h3, Addr.add_mid]
    · injection e with e
      subst e
      have hkk := hk _ hjn
      exact .rptr (g j.toNat) hb hlt (fun c hc' => hcell _ c hjn (by omega)) (fun c hc' => ho1 _ c hjn (by omega)) (fun c y hy => hr _ c y hjn hy)
end
end Go.Proofs.Ytpilblmncpeelaa.AM

namespace Go.Proofs.Ytpilblmncpeelaa.AM
theorem zipset (off : Nat) : ∀ (l : List Value) (k : Nat) (a : Array Value), off + k + l.length ≤ a.size →
    ((l.zipIdx k).foldl (fun cs (c, j) => cs.setIfInBounds (off + j) c) a).size = a.size ∧ ∀ p, ((l.zipIdx k).foldl (fun cs (c, j) => cs.setIfInBounds (off + j) c) a)[p]? = if off + k ≤ p ∧ p < off + k + l.length then l[p - (off + k)]? else a[p]?
  | [], k, a, _ => ⟨rfl, fun p => by simp; omega⟩
  | v :: l, k, a, h => by
    simp only [List.length_cons] at h
    obtain ⟨h1, h2⟩ := zipset off l (k + 1) (a.setIfInBounds (off + k) v) (by simp; omega)
    simp only [List.zipIdx_cons, List.foldl_cons]
    refine ⟨by rw [h1]; simp, fun p => ?_⟩
    rw [h2, Array.getElem?_setIfInBounds]
    simp only [List.length_cons]
    by_cases hp : off + k = p
    · subst hp
      rw [if_neg (by omega), if_pos (by omega)]
      simp; omega
    · by_cases hq : off + (k + 1) ≤ p ∧ p < off + (k + 1) + l.length
      · rw [if_pos hq, if_pos (by omega), show p - (off + k) = (p - (off + (k + 1))) + 1 by omega]; rfl
      · rw [if_neg hq, if_neg hp, if_neg (by omega)]
theorem LRel.of_get {C : Cx} {l : List AV} {vs : List Value} (hl : vs.length = l.length) (h : ∀ (c : Nat) (x : AV), l[c]? = some x → ∃ v, vs[c]? = some v ∧ Rel C x v) : LRel C l vs :=
  ⟨hl, fun c x v hx hv => by obtain ⟨u, h1, h2⟩ := h c x hx; rw [hv] at h1; injection h1 with h1; exact h1 ▸ h2⟩
theorem fill_spec {C : Cx} {place : Nat → Option (Nat × Nat)} : ∀ (ps : List (Nat × Option AV)) (vs : List (Nat × Value)) (cs cs' : List AV) (a : Array Value), fills place ps cs = some cs' → LRel C cs a.toList → (∀ v ∈ a.toList, v.oneCell' = true) →
    vs.map (·.1) = ps.map (·.1) → (∀ (c i : Nat) (x : AV) (v : Value), ps[c]? = some (i, some x) → (vs[c]?).map (·.2) = some v → Rel C x v) →
    ∃ a', Instr.fill place a vs = some a' ∧ LRel C cs' a'.toList ∧ ∀ v ∈ a'.toList, v.oneCell' = true
  | [], vs, cs, cs', a, h, hr, h1, hm, _ => by
    simp at hm; subst hm
    simp [fills] at h; subst h
    exact ⟨a, rfl, hr, h1⟩
  | (i, none) :: ps, vs, cs, cs', a, h, hr, h1, hm, hv => by simp [fills] at h
  | (i, some x) :: ps, [], cs, cs', a, h, hr, h1, hm, hv => by simp at hm
  | (i, some x) :: ps, (j, v) :: vs, cs, cs', a, h, hr, h1, hm, hv => by
    simp only [List.map_cons, List.cons.injEq] at hm
    obtain ⟨rfl, hm⟩ := hm
    have hx : Rel C x v := hv 0 j x v rfl rfl
    simp only [fills] at h
    cases hp : place j with
    | none => simp [hp] at h
    | some os =>
      obtain ⟨off, sz⟩ := os
      simp only [hp] at h
      cases hc : (Nat.beq x.cells.length sz && notTup x) with
      | false => rw [hc] at h; simp at h
      | true =>
        rw [hc] at h
        simp only [cond_true] at h
        simp only [Bool.and_eq_true] at hc
        have hsz : x.cells.length = sz := Nat.eq_of_beq_eq_true hc.1
        obtain ⟨hl, h1'⟩ := hx.cells (notTup_ne hc.2)
        cases hs : splice cs x.cells off with
        | none => simp [hs] at h
        | some cs1 =>
          simp only [hs] at h
          obtain ⟨s1, s2, s3⟩ := splice_spec off cs x.cells cs1 hs
          have hvl : v.cells.toList.length = x.cells.length := hl.1
          have hvs : v.cells.size = x.cells.length := by simpa using hvl
          have hal : a.size = cs.length := by have := hr.1; simpa using this
          obtain ⟨z1, z2⟩ := zipset off v.cells.toList 0 a (by simp only [Nat.add_zero]; rw [hvl]; omega)
          have e : v.cells.zipIdx.foldl (fun cs (c, j) => cs.setIfInBounds (off + j) c) a = (v.cells.toList.zipIdx 0).foldl (fun cs (c, j) => cs.setIfInBounds (off + j) c) a := by
            rw [← Array.foldl_toList, Array.toList_zipIdx]
          rw [← e] at z1 z2
          generalize hA : v.cells.zipIdx.foldl (fun cs (c, j) => cs.setIfInBounds (off + j) c) a = A at z1 z2
          have hA' : ∀ (c : Nat) (x' : AV), cs1[c]? = some x' → ∃ u, A.toList[c]? = some u ∧ Rel C x' u := by
            intro c x' hc'
            rw [s3] at hc'
            rw [Array.getElem?_toList, z2]
            simp only [Nat.add_zero]
            by_cases hq : off ≤ c ∧ c < off + x.cells.length
            · rw [if_pos hq] at hc'
              rw [if_pos (by omega)]
              exact hl.get hc'
            · rw [if_neg hq] at hc'
              rw [if_neg (by omega)]
              obtain ⟨u, hu, hru⟩ := hr.get hc'
              exact ⟨u, by simpa using hu, hru⟩
          have hone : ∀ u ∈ A.toList, u.oneCell' = true := by
            intro u hu
            obtain ⟨c, hc'⟩ := List.getElem?_of_mem hu
            rw [Array.getElem?_toList, z2] at hc'
            simp only [Nat.add_zero] at hc'
            by_cases hq : off ≤ c ∧ c < off + v.cells.toList.length
            · rw [if_pos hq] at hc'; exact h1' u (List.mem_of_getElem? hc')
            · rw [if_neg hq] at hc'; exact h1 u (List.mem_of_getElem? (by simpa using hc'))
          have hLA : LRel C cs1 A.toList := .of_get (by simp; omega) hA'
          obtain ⟨a', f1, f2, f3⟩ := fill_spec ps vs cs1 cs' A h hLA hone hm (fun c i x' v' q1 q2 => hv (c + 1) i x' v' (by simpa using q1) (by simpa using q2))
          refine ⟨a', ?_, f2, f3⟩
          simp only [Instr.fill, hp]
          rw [if_neg (by simp; omega), hA]
          exact f1
theorem rep_get {α : Type} (l : List α) : ∀ (n p : Nat), (rep l n)[p]? = if p < n * l.length then l[p % l.length]? else none
  | 0, p => by simp [rep]
  | n + 1, p => by
    rw [rep]
    by_cases hp : p < l.length
    · rw [List.getElem?_append_left hp, if_pos (by rw [Nat.succ_mul]; omega), Nat.mod_eq_of_lt hp]
    · rw [List.getElem?_append_right (by omega), rep_get l n]
      have e : (p - l.length) % l.length = p % l.length := by
        conv => rhs; rw [show p = (p - l.length) + l.length by omega]
        rw [Nat.add_mod_right]
      rw [e, Nat.succ_mul]
      by_cases hq : p - l.length < n * l.length
      · rw [if_pos hq, if_pos (by omega)]
      · rw [if_neg hq, if_neg (by omega)]
section
variable {P : Program} {o : Oper} {ρ : Operand → Value} {C : Cx} {n : Nat}
theorem parts_rel {g : Operand → Option AV} (ps : Array (Nat × Operand)) (hg : ∀ x av, g x = some av → Rel C av (ρ x)) :
    ((ps.map fun (i, x) => (i, ρ x)).toList.map (·.1) = (ps.toList.map fun p => (p.1, g p.2)).map (·.1)) ∧
    (∀ (c i : Nat) (x : AV) (v : Value), (ps.toList.map fun p => (p.1, g p.2))[c]? = some (i, some x) → (((ps.map fun (i, x) => (i, ρ x)).toList)[c]?).map (·.2) = some v → Rel C x v) := by
  refine ⟨by simp [List.map_map, Function.comp_def], fun c i x v h1 h2 => ?_⟩
  simp only [Array.toList_map, List.getElem?_map] at h1 h2
  cases hp : ps.toList[c]? with
  | none => simp [hp] at h1
  | some p =>
    simp [hp] at h1 h2
    exact h2 ▸ hg p.2 x h1.2
theorem places_some : ∀ (l : List Field), (∀ f ∈ l, 0 < P.cellsOf f.type) → l.mapM (fun f => (P.info? f.type).map fun i => (f.offset, i.size)) = some (l.map fun f => (f.offset, P.cellsOf f.type))
  | [], _ => rfl
  | f :: l, h => by
    have h0 := h f (by simp)
    have ih := places_some l (fun g hg => h g (by simp [hg]))
    unfold Program.cellsOf at h0 ⊢
    cases hi : P.info? f.type with
    | none => simp [hi] at h0
    | some i =>
      simp only [List.mapM_cons, hi, Option.map_some, Option.bind_eq_bind, Option.bind_some]
      unfold Program.cellsOf at ih
      rw [ih]
      simp [hi]
theorem ok_build {T : Nat} {t : TI} {ps : Array (Nat × Operand)} {g : Operand → Option AV} {cs : List AV} (ho : o.op = .build T ps) (hT : TGood P T t) (hs : t.st = true) (hg : ∀ x av, g x = some av → Rel C av (ρ x))
    (hf : fills (fun j => t.offs[j]?) (ps.toList.map fun p => (p.1, g p.2)) (t.zero.map .lit) = some cs) : Yld P o ρ C.w (Leaves C n (some (.agg cs)) [] []) := by
  obtain ⟨z, hz, hzc⟩ := hT.run_zero C.w
  obtain ⟨d, h1, h2⟩ := hT.under
  obtain ⟨m1, m2⟩ := parts_rel (C := C) (ρ := ρ) ps hg
  have hd : ∃ fs, d = .struct fs := by have := hT.st; rw [hs] at this; unfold isStruct at this; rw [h1] at this; cases d <;> simp_all
  obtain ⟨fs, rfl⟩ := hd
  simp only [descOf, Prod.mk.injEq] at h2
  obtain ⟨_, h2, _⟩ := h2
  obtain ⟨a', f1, f2, f3⟩ := fill_spec (C := C) (place := fun j => t.offs[j]?) _ (ps.map fun (i, x) => (i, ρ x)).toList _ cs z.cells hf (by rw [hzc]; exact .of_lits hT.one) (by rw [hzc]; exact List.all_eq_true.1 hT.one) m1 m2
  refine .value (v := .agg a') ?_ (.same fun _ e => by injection e with e; subst e; have := Rel.agg f2.1 f3 f2.2; simpa using this)
  have hpos : ∀ f ∈ fs.toList, 0 < P.cellsOf f.type := fun f hf => by
    have := List.all_eq_true.1 hT.pos (f.offset, P.cellsOf f.type) (by rw [← h2]; exact List.mem_map.2 ⟨f, hf, rfl⟩)
    simpa using this
  obtain ⟨it, z', hit, _, _, hz', hzc'⟩ := hT.get
  have hzz : z' = z := by
    have : (zeroValue T).run P C.w = .ok z' C.w := by simp [zeroValue, typeInfo, hit, hz']
    rw [this] at hz; injection hz
  have hb : P.built T (ps.map fun (i, x) => (i, ρ x)).toList = some a' := by
    unfold Program.built
    simp only [hit, h1, hz', places_some fs.toList hpos, hzz]
    rw [← f1]
    congr 1
    funext j
    rw [← h2]; simp
  unfold execOp
  simp only [ho]
  rw [Sem.run_bind, run_build C.w T _ a' hb, Result.andThen_ok]; rfl
theorem ok_buildSlice0 {T : Nat} {t i : TI} (ho : o.op = .buildSlice T 0 #[]) (hE : TGood P t.elem i) (hsl : P.underlying T = some (.slice t.elem)) (_ : ∀ k, C.ow k → k < C.w.heap.size) (f : Nat → List AV) : Yld P o ρ C.w (Leaves C n (some (.ful i.size 0 f)) [] []) := by
  have hs := hE.run_size C.w
  have e : Ext C ⟨C.β, C.ok, C.ow, C.w.alloc (.cells #[] t.elem)⟩ (fun _ => False) := ⟨.alloc _ _ _, fun _ h => h.elim, fun _ _ => rfl, fun _ h => h, fun _ h => .inl h⟩
  refine .value (v := .slice (some ⟨C.w.heap.size, 0, none⟩) 0 0) (w' := C.w.alloc (.cells #[] t.elem)) ?_ ⟨⟨C.β, C.ok, C.ow, C.w.alloc (.cells #[] t.elem)⟩, rfl, ⟨e.wx.trans (.refl _ (fun _ => False)) (fun _ h => h.elim) (fun _ _ h => h.elim), by simp, fun _ _ => rfl, fun _ h => h, fun _ h => .inl h⟩, by simp; omega, by simp; omega, by simp; omega, by simp; omega, fun x hx => ?_, by simp [named], by simp⟩
  · unfold execOp
    have h0 : Array.range 0 = #[] := rfl
    simp [ho, Instr.buildSlice, run_underlying hsl C.w, hs, Instr.fill, newRow, h0]
  · injection hx with hx
    subst hx
    exact .ful (.vec (fun _ _ => undef) (Nat.le_refl _) (by simp [maxLen]) (by omega) (by omega) (by omega) (by omega))
theorem ok_buildSlice {T : Nat} {t i : TI} {len : Nat} {ps : Array (Nat × Operand)} {g : Operand → Option AV} {cs : List AV} (ho : o.op = .buildSlice T len ps) (hE : TGood P t.elem i) (hsl : P.underlying T = some (.slice t.elem)) (hg : ∀ x av, g x = some av → Rel C av (ρ x))
    (hb : len * i.size ≤ 16777216) (hp : 0 < i.size) (hlen : 0 < len) (hz0 : i.zero.length = i.size) (hlt : ∀ k, C.ow k → k < C.w.heap.size)
    (hf : fills (fun j => some (j * i.size, i.size)) (ps.toList.map fun p => (p.1, g p.2)) (rep (i.zero.map .lit) len) = some cs) : Yld P o ρ C.w (Leaves C n (some (.ful i.size len (rowsOf i.size cs))) [] []) := by
  obtain ⟨m1, m2⟩ := parts_rel (C := C) (ρ := ρ) ps hg
  obtain ⟨it, z, hit, his, _, hz, hzc⟩ := hE.get
  have hzs : z.cells.size = i.size := by rw [← hz0, ← hzc]; simp
  have hpos : 0 < len * i.size := Nat.mul_pos hlen hp
  generalize hA : (Array.range (len * i.size)).map (fun x => z.cells[x % z.cells.size]!) = A
  have hAs : A.size = len * i.size := by simp [← hA]
  have hAg : ∀ p, A[p]? = if p < len * i.size then z.cells[p % i.size]? else none := by
    intro p
    rw [← hA, Array.getElem?_map]
    by_cases hlt : p < len * i.size
    · have hm : p % i.size < z.cells.size := by rw [hzs]; exact Nat.mod_lt _ hp
      have hm' : p % z.cells.size < z.cells.size := Nat.mod_lt _ (by omega)
      rw [if_pos hlt, Array.getElem?_eq_getElem hm, Array.getElem?_eq_getElem (by simpa using hlt)]
      simp only [Array.getElem_range, Option.map_some]
      rw [getElem!_pos z.cells _ hm']
      simp [hzs]
    · simp [hlt]
  have hrl : ∀ m, (rep (i.zero.map AV.lit) m).length = m * i.size := by
    intro m
    induction m with
    | zero => simp [rep]
    | succ m ih => simp [rep, ih, hz0, Nat.succ_mul, Nat.add_comm]
  have hrel : LRel C (rep (i.zero.map .lit) len) A.toList := by
    refine .of_get (by simp [hAs, hrl]) fun c x hx => ?_
    rw [rep_get] at hx
    simp only [List.length_map, hz0] at hx
    rw [Array.getElem?_toList, hAg]
    by_cases hlt : c < len * i.size
    · rw [if_pos hlt] at hx ⊢
      obtain ⟨v, h1, h2⟩ := (LRel.of_lits (C := C) hE.one).get hx
      exact ⟨v, by rw [← Array.getElem?_toList, hzc]; exact h1, h2⟩
    · rw [if_neg hlt] at hx; simp at hx
  have hone : ∀ v ∈ A.toList, v.oneCell' = true := by
    intro v hv
    obtain ⟨c, hc⟩ := List.getElem?_of_mem hv
    rw [Array.getElem?_toList, hAg] at hc
    by_cases hlt : c < len * i.size
    · rw [if_pos hlt, ← Array.getElem?_toList, hzc] at hc
      exact List.all_eq_true.1 hE.one v (List.mem_of_getElem? hc)
    · rw [if_neg hlt] at hc; simp at hc
  obtain ⟨a', f1, f2, f3⟩ := fill_spec (C := C) (place := fun j => some (j * i.size, i.size)) _ (ps.map fun (i, x) => (i, ρ x)).toList _ cs A hf hrel hone m1 m2
  have hsz : a'.size = len * i.size := by
    have h1 := f2.1
    have h2 : ∀ (ps : List (Nat × Option AV)) (a b : List AV), fills (fun j => some (j * i.size, i.size)) ps a = some b → b.length = a.length := by
      intro ps
      induction ps with
      | nil => intro a b h; simp [fills] at h; rw [h]
      | cons p ps ih =>
        intro a b h
        obtain ⟨j, x⟩ := p
        cases x with
        | none => simp [fills] at h
        | some x =>
          simp only [fills] at h
          cases hc : (Nat.beq x.cells.length i.size && notTup x) with
          | false => rw [hc] at h; simp at h
          | true =>
            rw [hc] at h; simp only [cond_true] at h
            cases hs : splice a x.cells (j * i.size) with
            | none => simp [hs] at h
            | some a1 => simp only [hs] at h; rw [ih a1 b h, (splice_spec _ _ _ _ hs).1]
    have h3 := h2 _ _ _ hf
    rw [hrl] at h3
    simpa [h3] using h1
  have hcl : cs.length = len * i.size := by have := f2.1; simp [hsz] at this; omega
  have e : Ext C ⟨C.β, C.ok, C.ow, C.w.alloc (.cells a' t.elem)⟩ (fun _ => False) := ⟨.alloc _ _ _, fun _ h => h.elim, fun _ _ => rfl, fun _ h => h, fun _ h => .inl h⟩
  have hrow : ∀ j, j < len → ∀ c, c < i.size → j * i.size + c < len * i.size := fun j hj c hc => by
    have : (j + 1) * i.size ≤ len * i.size := Nat.mul_le_mul_right _ hj
    rw [Nat.succ_mul] at this; omega
  have hrg : ∀ (j c : Nat), c < i.size → (rowsOf i.size cs j)[c]? = cs[j * i.size + c]? := fun j c hc => by
    unfold rowsOf
    rw [List.getElem?_take_of_lt hc, List.getElem?_drop]
  have hlast : (C.w.alloc (.cells a' t.elem)).heap[C.w.heap.size]? = some (.cells a' t.elem (0, 0)) := by
    show (C.w.heap.push _)[C.w.heap.size]? = _
    simp
  have hval : Rel ⟨C.β, C.ok, C.ow, C.w.alloc (.cells a' t.elem)⟩ (.vec i.size len (rowsOf i.size cs)) (.slice (some ⟨C.w.heap.size, 0, none⟩) len len) := by
    refine .vec (fun j c => a'.getD (j * i.size + c) undef) (Nat.le_refl _) (by
        have : len ≤ len * i.size := Nat.le_mul_of_pos_right _ hp
        unfold maxLen; omega) (fun j hj => ?_) (fun _ => ⟨_, 0, rfl, fun h => ?_, by show _ < (C.w.heap.push _).size; simp, fun j c hj hc => ?_⟩) (fun j c hj hc => ?_) (fun j c x hj hx => ?_)
    · unfold rowsOf
      rw [List.length_take, List.length_drop, hcl]
      have := hrow j hj (i.size - 1) (by omega)
      omega
    · exact absurd (hlt _ h) (by omega)
    · have := hrow j hj c hc
      simp only [World.cell?, hlast, Nat.zero_add]
      simp [Array.getD, hsz, this]
    · have := hrow j hj c hc
      refine f3 _ ?_
      simp [Array.getD, hsz, this]
    · have hc : c < i.size := by
        have := (List.getElem?_eq_some_iff.1 hx).1
        unfold rowsOf at this
        rw [List.length_take] at this; omega
      have h9 := hrow j hj c hc
      rw [hrg j c hc] at hx
      obtain ⟨v, h1, h2⟩ := f2.get hx
      have : a'.getD (j * i.size + c) undef = v := by
        rw [Array.getElem?_toList] at h1
        rw [Array.getD_eq_getD_getElem?, h1]; rfl
      rw [this]
      exact h2.mono e
  have hnew : Leaves C n (some (.ful i.size len (rowsOf i.size cs))) [] [] (.slice (some ⟨C.w.heap.size, 0, none⟩) len len) (C.w.alloc (.cells a' t.elem)) :=
    ⟨⟨C.β, C.ok, C.ow, C.w.alloc (.cells a' t.elem)⟩, rfl, ⟨.alloc _ _ _, by simp, fun _ _ => rfl, fun _ h => h, fun _ h => .inl h⟩, by simp; omega, by simp; omega, by simp; omega, by simp; omega, fun x hx => by injection hx with hx; exact hx ▸ .ful hval, by simp [named], by simp⟩
  refine .value ?_ hnew
  have hr := run_buildSlice (P := P) C.w T t.elem len (ps.map fun (i, x) => (i, ρ x)) a' it z hsl hit hz (by rw [his]; omega) (by rw [his]; omega) (by rw [his, hA]; exact f1)
  unfold execOp
  simp only [ho]
  rw [Sem.run_bind, hr, Result.andThen_ok]
  simp
theorem run_bs {T : Nat} {t i : TI} {len : Nat} {ps : Array (Nat × Operand)} {g : Operand → Option AV} {cs : List AV} (ho : o.op = .buildSlice T len ps) (hE : TGood P t.elem i) (hsl : P.underlying T = some (.slice t.elem)) (hg : ∀ x av, g x = some av → Rel C av (ρ x))
    (hb : len * i.size ≤ 16777216) (hp : 0 < i.size) (hlen : 0 < len) (hz0 : i.zero.length = i.size)
    (hf : fills (fun j => some (j * i.size, i.size)) (ps.toList.map fun p => (p.1, g p.2)) (rep (i.zero.map .lit) len) = some cs) : ∃ a' : Array Value, (execOp ρ o).run P C.w = .ok (.value (.slice (some ⟨C.w.heap.size, 0, none⟩) len len)) (C.w.alloc (.cells a' t.elem)) ∧ LRel C cs a'.toList ∧ (∀ v ∈ a'.toList, v.oneCell' = true) ∧ a'.size = len * i.size := by
  obtain ⟨m1, m2⟩ := parts_rel (C := C) (ρ := ρ) ps hg
  have hpos : 0 < len * i.size := Nat.mul_pos hlen hp
  obtain ⟨it, z, hit, his, _, hz, hzc⟩ := hE.get
  have hzs : z.cells.size = i.size := by rw [← hz0, ← hzc]; simp
  generalize hA : (Array.range (len * i.size)).map (fun x => z.cells[x % z.cells.size]!) = A
  have hAs : A.size = len * i.size := by simp [← hA]
  have hAg : ∀ p, A[p]? = if p < len * i.size then z.cells[p % i.size]? else none := by
    intro p
    rw [← hA, Array.getElem?_map]
    by_cases hlt : p < len * i.size
    · have hm : p % i.size < z.cells.size := by rw [hzs]; exact Nat.mod_lt _ hp
      have hm' : p % z.cells.size < z.cells.size := Nat.mod_lt _ (by omega)
      rw [if_pos hlt, Array.getElem?_eq_getElem hm, Array.getElem?_eq_getElem (by simpa using hlt)]
      simp only [Array.getElem_range, Option.map_some]
      rw [getElem!_pos z.cells _ hm']
      simp [hzs]
    · simp [hlt]
  have hrl : ∀ m, (rep (i.zero.map AV.lit) m).length = m * i.size := by
    intro m
    induction m with
    | zero => simp [rep]
    | succ m ih => simp [rep, ih, hz0, Nat.succ_mul, Nat.add_comm]
  have hrel : LRel C (rep (i.zero.map .lit) len) A.toList := by
    refine .of_get (by simp [hAs, hrl]) fun c x hx => ?_
    rw [rep_get] at hx
    simp only [List.length_map, hz0] at hx
    rw [Array.getElem?_toList, hAg]
    by_cases hlt : c < len * i.size
    · rw [if_pos hlt] at hx ⊢
      obtain ⟨v, h1, h2⟩ := (LRel.of_lits (C := C) hE.one).get hx
      exact ⟨v, by rw [← Array.getElem?_toList, hzc]; exact h1, h2⟩
    · rw [if_neg hlt] at hx; simp at hx
  have hone : ∀ v ∈ A.toList, v.oneCell' = true := by
    intro v hv
    obtain ⟨c, hc⟩ := List.getElem?_of_mem hv
    rw [Array.getElem?_toList, hAg] at hc
    by_cases hlt : c < len * i.size
    · rw [if_pos hlt, ← Array.getElem?_toList, hzc] at hc
      exact List.all_eq_true.1 hE.one v (List.mem_of_getElem? hc)
    · rw [if_neg hlt] at hc; simp at hc
  obtain ⟨a', f1, f2, f3⟩ := fill_spec (C := C) (place := fun j => some (j * i.size, i.size)) _ (ps.map fun (i, x) => (i, ρ x)).toList _ cs A hf hrel hone m1 m2
  have hsz : a'.size = len * i.size := by
    have h1 := f2.1
    have h2 : ∀ (ps : List (Nat × Option AV)) (a b : List AV), fills (fun j => some (j * i.size, i.size)) ps a = some b → b.length = a.length := by
      intro ps
      induction ps with
      | nil => intro a b h; simp [fills] at h; rw [h]
      | cons p ps ih =>
        intro a b h
        obtain ⟨j, x⟩ := p
        cases x with
        | none => simp [fills] at h
        | some x =>
          simp only [fills] at h
          cases hc : (Nat.beq x.cells.length i.size && notTup x) with
          | false => rw [hc] at h; simp at h
          | true =>
            rw [hc] at h; simp only [cond_true] at h
            cases hs : splice a x.cells (j * i.size) with
            | none => simp [hs] at h
            | some a1 => simp only [hs] at h; rw [ih a1 b h, (splice_spec _ _ _ _ hs).1]
    have h3 := h2 _ _ _ hf
    rw [hrl] at h3
    simpa [h3] using h1
  refine ⟨a', ?_, f2, f3, hsz⟩
  have hr := run_buildSlice (P := P) C.w T t.elem len (ps.map fun (i, x) => (i, ρ x)) a' it z hsl hit hz (by rw [his]; omega) (by rw [his]; omega) (by rw [his, hA]; exact f1)
  unfold execOp
  simp only [ho]
  rw [Sem.run_bind, hr, Result.andThen_ok]
  simp
end
end Go.Proofs.Ytpilblmncpeelaa.AM

namespace Go.Proofs.Ytpilblmncpeelaa.AM
/-- The cells of m rows of k cells each. -/
def flat (m k : Nat) (g : Nat → Nat → Value) : List Value := (List.range (m * k)).map fun q => g (q / k) (q % k)
theorem flat_len (m k : Nat) (g : Nat → Nat → Value) : (flat m k g).length = m * k := by simp [flat]
theorem flat_get {m k : Nat} {g : Nat → Nat → Value} {q : Nat} (h : q < m * k) : (flat m k g)[q]? = some (g (q / k) (q % k)) := by simp [flat, h]
theorem row_lt {q m k : Nat} (h : q < m * k) : q / k < m ∧ q % k < k ∧ q / k * k + q % k = q := by
  have hk : 0 < k := by rcases Nat.eq_zero_or_pos k with h0 | h0; · subst h0; omega
                        · exact h0
  exact ⟨(Nat.div_lt_iff_lt_mul hk).2 h, Nat.mod_lt _ hk, by rw [Nat.mul_comm]; exact Nat.div_add_mod q k⟩
theorem flat_one {m k : Nat} {g : Nat → Nat → Value} (h1 : ∀ j c : Nat, j < m → c < k → (g j c).oneCell' = true) : ∀ u ∈ flat m k g, u.oneCell' = true := by
  intro u hu
  obtain ⟨q, hq, rfl⟩ := List.mem_map.1 hu
  obtain ⟨a, b, _⟩ := row_lt (List.mem_range.1 hq)
  exact h1 _ _ a b
theorem flat_cells {w : World} {m k b o : Nat} {g : Nat → Nat → Value} (h : ∀ j c, j < m → c < k → w.cell? ⟨b, o + j * k + c, none⟩ = some (g j c)) : ∀ j u, (flat m k g)[j]? = some u → w.cell? ((⟨b, o, none⟩ : Addr).add j) = some u := by
  intro j u hu
  have hj : j < m * k := by have := (List.getElem?_eq_some_iff.1 hu).1; rwa [flat_len] at this
  obtain ⟨a1, a2, a3⟩ := row_lt hj
  rw [flat_get hj] at hu
  injection hu with hu
  subst hu
  have := h _ _ a1 a2
  rw [Nat.add_assoc, a3] at this
  rw [Addr.add_mid]; exact this
/-- Rows behind rows. -/
theorem app_get {n m k : Nat} {f g : Nat → List AV} {E : TypeId} {p : Nat} {x : AV} (hk : 0 < k) (h : (Blk.rows k (n + m) (app n f g) E).at p = some x) :
    ((Blk.rows k n f E).at p = some x ∧ p < n * k) ∨ (n * k ≤ p ∧ (p - n * k) / k < m ∧ (g ((p - n * k) / k))[(p - n * k) % k]? = some x) := by
  simp only [Blk.at] at h ⊢
  split at h
  · rename_i hlt
    by_cases hn : p / k < n
    · left
      rw [if_pos hn]
      have : app n f g (p / k) = f (p / k) := by unfold app; rw [show Nat.blt (p / k) n = true by simpa using hn]; rfl
      rw [this] at h
      exact ⟨h, (Nat.div_lt_iff_lt_mul hk).1 hn⟩
    · right
      have hge : n * k ≤ p := by
        have := Nat.not_lt.1 hn
        exact Nat.le_trans (Nat.mul_le_mul_right k this) (by rw [Nat.mul_comm]; exact Nat.mul_div_le p k)
      have e1 : (p - n * k) / k = p / k - n := by rw [Nat.mul_comm, Nat.sub_mul_div]
      have e2 : (p - n * k) % k = p % k := by
        conv => rhs; rw [show p = (p - n * k) + n * k by omega]
        rw [Nat.add_mul_mod_self_right]
      have : app n f g (p / k) = g (p / k - n) := by unfold app; rw [show Nat.blt (p / k) n = false by rw [← Bool.not_eq_true]; simpa using hn]; rfl
      rw [this] at h
      exact ⟨hge, by rw [e1]; omega, by rw [e1, e2]; exact h⟩
  · cases h
section
variable {P : Program} {o : Oper} {ρ : Operand → Value} {C : Cx} {n0 : Nat}
theorem named_one {i n : Nat} {b b' : Blk} (h : (i, b) ∈ named n [b']) : i = n ∧ b = b' := by simp [named] at h; exact h
/-- A new row, made anew. -/
theorem Leaves.grown (hn : ¬ C.ok n0) {w1 : World} (h1 : w1.heap = C.w.heap) (h2 : w1.os = C.w.os) (h3 : w1.tape = C.w.tape) (h4 : w1.output = C.w.output) {b : Blk} {arr : Array Value} (hr : ∀ p x, b.at p = some x → ∃ v, arr[p]? = some v ∧ v.oneCell' = true ∧ Rel C x v)
    {u : Heap} (hu : ∀ i b, (i, b) ∈ u → C.ok i ∧ C.ow (C.β i) ∧ BRel C i b) (_ : ∀ i b, (i, b) ∈ u → b = .cells [] b.elem) {k n cap : Nat} (hnc : n ≤ cap) (hm : cap ≤ maxLen) (hsz : cap * k ≤ arr.size) :
    Leaves C n0 (some (.slc n0 0 k n)) [b] u (.slice (some ⟨C.w.heap.size, 0, none⟩) n cap) (w1.alloc (.cells arr b.elem)) := by
  let C' : Cx := ⟨fun i => if i = n0 then C.w.heap.size else C.β i, fun i => C.ok i ∨ i = n0, fun k => C.ow k ∨ k = C.w.heap.size, w1.alloc (.cells arr b.elem)⟩
  have hβ : C'.β n0 = C.w.heap.size := if_pos rfl
  have hβ' : ∀ i, C.ok i → C'.β i = C.β i := fun i hi => if_neg (by rintro rfl; exact hn hi)
  have hlast : C'.w.heap[C.w.heap.size]? = some (.cells arr b.elem (0, 0)) := by
    show (w1.heap.push _)[C.w.heap.size]? = _
    rw [h1]; simp
  have old : ∀ k, k < C.w.heap.size → C'.w.heap[k]? = C.w.heap[k]? := fun k hk => by
    show (w1.heap.push _)[k]? = _
    rw [h1, Array.getElem?_push, if_neg (by omega)]
  have wx : ∀ wr, WExt C.w C'.w wr := fun wr => ⟨h2, h3, h4, by show _ ≤ (w1.heap.push _).size; rw [h1]; simp, fun k hk _ => old k hk, fun k c T h => ⟨c, by rw [old k (Array.getElem?_eq_some_iff.1 h).1]; exact h, rfl⟩⟩
  have e : Ext C C' (fun _ => False) := ⟨wx _, fun _ h => h.elim, hβ', fun _ h => .inl h, fun k hk => hk.imp id (fun h => by omega)⟩
  refine ⟨C', rfl, ⟨wx _, ?_, hβ', fun _ h => .inl h, fun k hk => hk.imp id (fun h => by omega)⟩, fun i => ?_, fun k => ?_, fun i h h' => ?_, fun i j h h' k k' _ => ?_, fun y hy => ?_, fun i b' hb' => ?_, fun i b' hb' => ?_⟩
  · rintro k ⟨i, b', hi, rfl⟩; exact (hu i b' hi).2.1
  · show C.ok i ∨ i = n0 ↔ _; simp; exact ⟨fun h => h.imp id (fun h => by omega), fun h => h.imp id (fun h => by omega)⟩
  · show C.ow k ∨ k = _ ↔ _
    constructor
    · rintro (h | h)
      · exact .inl h
      · exact .inr ⟨n0, Nat.le_refl _, by simp, by rw [hβ, h]⟩
    · rintro (h | ⟨i, h1, h2, h3⟩)
      · exact .inl h
      · simp at h2
        obtain rfl : i = n0 := by omega
        exact .inr (by rw [← h3, hβ])
  · simp at h'
    obtain rfl : i = n0 := by omega
    rw [hβ]; exact .inl (Nat.le_refl _)
  · simp at h' k'; omega
  · injection hy with hy
    subst hy
    have := @Rel.slc C' n0 0 k n cap (.inr rfl) hnc hm ⟨arr, b.elem, by rw [hβ]; exact hlast, by omega⟩
    rwa [hβ, ite_self] at this
  · obtain ⟨rfl, rfl⟩ := named_one hb'
    refine ⟨arr, by rw [hβ]; exact hlast, fun p x hx => ?_⟩
    obtain ⟨v, a1, a2, a3⟩ := hr p x hx
    exact ⟨v, a1, a2, a3.mono e⟩
  · obtain ⟨a1, a2, a3⟩ := hu i b' hb'
    exact a3.mono e a1 (by simp)
/-- A literal that is the call's own. -/
theorem ok_buildO {T : Nat} {t i : TI} {len : Nat} {ps : Array (Nat × Operand)} {g : Operand → Option AV} {cs : List AV} (ho : o.op = .buildSlice T len ps) (hE : TGood P t.elem i) (hsl : P.underlying T = some (.slice t.elem)) (hg : ∀ x av, g x = some av → Rel C av (ρ x))
    (hb : len * i.size ≤ 16777216) (hp : 0 < i.size) (hlen : 0 < len) (hz0 : i.zero.length = i.size) (hn : ¬ C.ok n0)
    (hf : fills (fun j => some (j * i.size, i.size)) (ps.toList.map fun p => (p.1, g p.2)) (rep (i.zero.map .lit) len) = some cs) : Yld P o ρ C.w (Leaves C n0 (some (.slc n0 0 i.size len)) [.rows i.size len (rowsOf i.size cs) t.elem] []) := by
  obtain ⟨a', h1, h2, h3, h4⟩ := run_bs ho hE hsl hg hb hp hlen hz0 hf
  have hm : len ≤ maxLen := by
    have : len ≤ len * i.size := Nat.le_mul_of_pos_right _ hp
    unfold maxLen; omega
  refine .value h1 (Leaves.grown hn (w1 := C.w) rfl rfl rfl rfl (b := .rows i.size len (rowsOf i.size cs) t.elem) (arr := a') (u := []) (fun p x hx => ?_) (by simp) (by simp) (Nat.le_refl _) hm (by omega))
  simp only [Blk.at] at hx
  split at hx
  · have e : (rowsOf i.size cs (p / i.size))[p % i.size]? = cs[p]? := by
      unfold rowsOf
      rw [List.getElem?_take_of_lt (Nat.mod_lt _ hp), List.getElem?_drop, Nat.mul_comm, Nat.div_add_mod]
    rw [e] at hx
    obtain ⟨v, v1, v2⟩ := h2.get hx
    exact ⟨v, by simpa using v1, h3 v (List.mem_of_getElem? v1), v2⟩
  · cases hx
theorem ok_buildO0 {T : Nat} {t i : TI} (ho : o.op = .buildSlice T 0 #[]) (hE : TGood P t.elem i) (hsl : P.underlying T = some (.slice t.elem)) (hn : ¬ C.ok n0) (f : Nat → List AV) : Yld P o ρ C.w (Leaves C n0 (some (.slc n0 0 i.size 0)) [.rows i.size 0 f t.elem] []) := by
  have hs := hE.run_size C.w
  refine .value (v := .slice (some ⟨C.w.heap.size, 0, none⟩) 0 0) (w' := C.w.alloc (.cells #[] t.elem)) ?_ (Leaves.grown hn (w1 := C.w) rfl rfl rfl rfl (b := .rows i.size 0 f t.elem) (arr := #[]) (u := []) (fun p x hx => by simp [Blk.at] at hx) (by simp) (by simp) (Nat.le_refl _) (by simp [maxLen]) (by simp))
  unfold execOp
  have h0 : Array.range 0 = #[] := rfl
  simp [ho, Instr.buildSlice, run_underlying hsl C.w, hs, Instr.fill, newRow, h0]
/-- The cells of rows that are known, and what lies behind them. -/
theorem rows_list {k n m : Nat} {f g : Nat → List AV} {E : TypeId} {olds rest : List Value} {gv : Nat → Nat → Value} (hk : 0 < k) (hol : olds.length = n * k)
    (ho : ∀ p x, (Blk.rows k n f E).at p = some x → ∃ v, olds[p]? = some v ∧ v.oneCell' = true ∧ Rel C x v) (h1 : ∀ j c : Nat, j < m → c < k → (gv j c).oneCell' = true) (hg : ∀ (j c : Nat) (x : AV), j < m → (g j)[c]? = some x → Rel C x (gv j c)) (_ : ∀ j, j < m → (g j).length = k) :
    ∀ p x, (Blk.rows k (n + m) (app n f g) E).at p = some x → ∃ v, (olds ++ flat m k gv ++ rest)[p]? = some v ∧ v.oneCell' = true ∧ Rel C x v := by
  intro p x hx
  rcases app_get hk hx with ⟨h, hp⟩ | ⟨hge, hlt, h⟩
  · obtain ⟨v, a, b, c⟩ := ho p x h
    refine ⟨v, ?_, b, c⟩
    rw [List.append_assoc, List.getElem?_append_left (by rw [hol]; exact hp)]; exact a
  · have hc : (p - n * k) % k < k := Nat.mod_lt _ hk
    have hq : p - n * k < m * k := (Nat.div_lt_iff_lt_mul hk).1 hlt
    refine ⟨gv ((p - n * k) / k) ((p - n * k) % k), ?_, h1 _ _ hlt hc, hg _ _ x hlt h⟩
    rw [List.append_assoc, List.getElem?_append_right (by rw [hol]; exact hge), hol, List.getElem?_append_left (by rw [flat_len]; exact hq), flat_get hq]
/-- The slice has no room behind its end: a new row. -/
theorem ok_app_full {c : Call} {s y : Operand} {T E : TypeId} {ti : TI} {k n m : Nat} {f g : Nat → List AV} (ho : o.op = .call c) (hc : c.callee = .builtin .append) (ha : c.args = #[s, y]) (ht : c.argTypes = #[T, T]) (hT : P.underlying T = some (.slice E)) (hE : TGood P E ti)
    (hk : ti.size = k) (hk0 : 0 < k) (hz : ti.zero.length = k) (hs : Rel C (.ful k n f) (ρ s) ∨ (ρ s = .slice none 0 0 ∧ n = 0)) (hy : Rel C (.vec k m g) (ρ y)) (hm : 0 < m) (hroom : n + m ≤ 9223372036854775807 ∧ (n + m) * ti.bytes ≤ 140737488355328) (hn : ¬ C.ok n0) :
    Yld P o ρ C.w (Leaves C n0 (some (.slc n0 0 k (n + m))) [.rows k (n + m) (app n f g) E] []) := by
  obtain ⟨it, z, hit, his, hib, hz', hzc⟩ := hE.get
  have hzs : z.cells.size = k := by rw [← hz, ← hzc]; simp
  generalize hq : ρ y = yv at hy
  cases hy with
  | @vec _ _ cap _ A gv hn1 hm1 hk1 hc1 h11 hr1 =>
  obtain ⟨b, off, rfl, hb, hblt, hcell⟩ := hc1 hm
  have hsrc : Src P it.size T (.slice (some ⟨b, off, none⟩) m cap) m (flat m k gv) C.w := .ofSlice C.w hT _ m cap _ (by rw [flat_len, his, hk]) (flat_cells hcell) (flat_one h11)
  have hold : ∃ (base : Option Addr) (olds : List Value), ρ s = .slice base n n ∧ olds.length = n * k ∧ (Builtin.firstCells it.size n (.slice base n n)).run P C.w.drew = .ok olds.toArray C.w.drew ∧ ∀ p x, (Blk.rows k n f E).at p = some x → ∃ v, olds[p]? = some v ∧ v.oneCell' = true ∧ Rel C x v := by
    rcases hs with hs | ⟨hs, rfl⟩
    · generalize hsv : ρ s = sv at hs
      cases hs with
      | @ful _ _ _ A h =>
      cases h with
      | vec gs hn2 hm2 hk2 hc2 h12 hr2 =>
      refine ⟨A, flat n k gs, rfl, flat_len _ _ _, ?_, fun p x hx => ?_⟩
      · rcases Nat.eq_zero_or_pos n with h0 | h0
        · subst h0
          have : flat 0 k gs = [] := by simp [flat]
          rw [this]
          cases A with
          | none => exact run_firstCells_none C.w.drew it.size 0 0 0
          | some a => exact run_firstCells_some C.w.drew it.size 0 a 0 0 [] (by simp) (by simp)
        · obtain ⟨b2, o2, rfl, _, _, hcell2⟩ := hc2 h0
          exact run_firstCells_some C.w.drew it.size n _ n n _ (by rw [flat_len, his, hk]) (by simpa using flat_cells hcell2)
      · simp only [Blk.at] at hx
        split at hx
        · rename_i hlt
          have hp : p < n * k := (Nat.div_lt_iff_lt_mul hk0).1 hlt
          have hc := Nat.mod_lt p hk0
          exact ⟨gs (p / k) (p % k), flat_get hp, h12 _ _ hlt hc, hr2 _ _ x hlt hx⟩
        · cases hx
    · exact ⟨none, [], hs, by simp, run_firstCells_none C.w.drew it.size 0 0 0, fun p x hx => by simp [Blk.at] at hx⟩
  obtain ⟨base, olds, hsv, hol, hfc, hol2⟩ := hold
  have hr := run_append_grow_src (P := P) C.w T T o.type E it z hT hit hz' base n n olds hfc _ m _ hsrc (by omega) (by omega) (by rw [hib]; exact growslice_fits (by omega) hroom.2)
  have hge := grownCap_ge C.w (n + m) n E
  have hcm := grownCap_le_maxLen C.w (n + m) n E (by simp only [maxLen]; omega)
  refine .value (w' := _) ?_ (Leaves.grown hn (w1 := C.w.drew) rfl rfl rfl rfl (b := .rows k (n + m) (app n f g) E) (arr := (olds ++ flat m k gv).toArray ++ Builtin.zeroCells z.cells (grownCap C.w (n + m) n E - (n + m))) (u := []) (fun p x hx => ?_) (by simp) (by simp) hge hcm ?_)
  · unfold execOp
    simp [ho, resolve, invoke, builtin, hc, ha, ht, hsv, hq, hr, Blk.elem]
  · obtain ⟨v, a1, a2, a3⟩ := rows_list (C := C) (rest := (Builtin.zeroCells z.cells (grownCap C.w (n + m) n E - (n + m))).toList) hk0 hol hol2 h11 hr1 hk1 p x hx
    exact ⟨v, by rw [← Array.getElem?_toList]; simpa using a1, a2, a3⟩
  · simp only [Array.size_append, List.size_toArray, size_zeroCells, List.length_append, hol, flat_len, hzs, ← Nat.add_mul]
    exact Nat.mul_le_mul_right _ (by omega)
/-- A row that is the call's own, grown where it is: it has a new name. -/
theorem Leaves.inplace (hn : ¬ C.ok n0) {i : Nat} (hok : C.ok i) (how : C.ow (C.β i)) {E : TypeId} {cur arr : Array Value} (hcur : C.w.heap[C.β i]? = some (.cells cur E (0, 0))) {w' : World} (h2 : w'.os = C.w.os) (h3 : w'.tape = C.w.tape) (h4 : w'.output = C.w.output) (h5 : w'.heap.size = C.w.heap.size)
    (hw : w'.heap[C.β i]? = some (.cells arr E (0, 0))) (hoth : ∀ k, k ≠ C.β i → w'.heap[k]? = C.w.heap[k]?) (has : arr.size = cur.size) {b : Blk} (hbE : b.elem = E) (hr : ∀ p x, b.at p = some x → ∃ v, arr[p]? = some v ∧ v.oneCell' = true ∧ Rel C x v) {k n cap : Nat} (hnc : n ≤ cap) (hm : cap ≤ maxLen) (hsz : cap * k ≤ cur.size) :
    Leaves C n0 (some (.slc n0 0 k n)) [b] [(i, .cells [] E)] (.slice (some ⟨C.β i, 0, none⟩) n cap) w' := by
  subst hbE
  let C' : Cx := ⟨fun j => if j = n0 then C.β i else C.β j, fun j => C.ok j ∨ j = n0, C.ow, w'⟩
  have hβ : C'.β n0 = C.β i := if_pos rfl
  have hβ' : ∀ j, C.ok j → C'.β j = C.β j := fun j hj => if_neg (by rintro rfl; exact hn hj)
  have wx : WExt C.w C'.w (fun k => ∃ j b', (j, b') ∈ [(i, Blk.cells [] b.elem)] ∧ C.β j = k) := ⟨h2, h3, h4, by show _ ≤ w'.heap.size; omega, fun k _ hk => hoth k (fun e => hk ⟨i, Blk.cells [] b.elem, by simp, e.symm⟩), fun k c T h => by
    by_cases hki : k = C.β i
    · subst hki
      rw [hcur] at h
      injection h with h
      injection h with h1 h2
      subst h1; subst h2
      exact ⟨arr, hw, has⟩
    · exact ⟨c, by show w'.heap[k]? = _; rw [hoth k hki]; exact h, rfl⟩⟩
  have e : Ext C C' (fun k => ∃ j b', (j, b') ∈ [(i, Blk.cells [] b.elem)] ∧ C.β j = k) := ⟨wx, by rintro k ⟨j, b', hj, rfl⟩; simp at hj; rw [hj.1]; exact how, hβ', fun _ h => .inl h, fun k hk => .inl hk⟩
  refine ⟨C', rfl, e, fun j => ?_, fun k => ?_, fun j h h' => ?_, fun i j h h' k k' _ => ?_, fun y hy => ?_, fun j b' hb' => ?_, fun j b' hb' => ?_⟩
  · show C.ok j ∨ j = n0 ↔ _; simp; exact ⟨fun h => h.imp id (fun h => by omega), fun h => h.imp id (fun h => by omega)⟩
  · show C.ow k ↔ _
    constructor
    · exact .inl
    · rintro (h | ⟨j, h1, h2, h3⟩)
      · exact h
      · simp at h2
        obtain rfl : j = n0 := by omega
        rw [← h3, hβ]; exact how
  · simp at h'
    obtain rfl : j = n0 := by omega
    exact .inr ⟨i, hok, hβ, ⟨.cells [] b.elem, by simp⟩, fun b' hb' => by simp at hb'; rw [hb']; rfl⟩
  · simp at h' k'; omega
  · injection hy with hy
    subst hy
    have := @Rel.slc C' n0 0 k n cap (.inr rfl) hnc hm ⟨arr, b.elem, by rw [hβ]; exact hw, by omega⟩
    rwa [hβ, ite_self] at this
  · obtain ⟨rfl, rfl⟩ := named_one hb'
    refine ⟨arr, by rw [hβ]; exact hw, fun p x hx => ?_⟩
    obtain ⟨v, a1, a2, a3⟩ := hr p x hx
    exact ⟨v, a1, a2, a3.mono e⟩
  · simp at hb'
    obtain ⟨rfl, rfl⟩ := hb'
    exact ⟨arr, by rw [hβ' _ hok]; exact hw, fun p x hx => by simp [Blk.at] at hx⟩
theorem app_zero {α : Type} (f g : Nat → α) : app 0 f g = g := funext fun _ => rfl
/-- The slice is the call's own. -/
theorem ok_app_own {c : Call} {s y : Operand} {T E : TypeId} {ti : TI} {i k n m : Nat} {f g : Nat → List AV} (ho : o.op = .call c) (hc : c.callee = .builtin .append) (ha : c.args = #[s, y]) (ht : c.argTypes = #[T, T]) (hT : P.underlying T = some (.slice E)) (hE : TGood P E ti)
    (hk : ti.size = k) (hk0 : 0 < k) (hz : ti.zero.length = k) (hs : Rel C (.slc i 0 k n) (ρ s)) (hb : BRel C i (.rows k n f E)) (hok : C.ok i) (how : C.ow (C.β i)) (hy : Rel C (.vec k m g) (ρ y)) (hroom : n + m ≤ 9223372036854775807 ∧ (n + m) * ti.bytes ≤ 140737488355328) (hn : ¬ C.ok n0) :
    Yld P o ρ C.w (Leaves C n0 (some (.slc n0 0 k (n + m))) [.rows k (n + m) (app n f g) E] [(i, .cells [] E)]) := by
  obtain ⟨it, z, hit, his, hib, hz', hzc⟩ := hE.get
  have hzs : z.cells.size = k := by rw [← hz, ← hzc]; simp
  obtain ⟨cur, hcur, hcells⟩ := hb
  generalize hq : ρ y = yv at hy
  generalize hsv : ρ s = sv at hs
  cases hs with
  | @slc _ _ _ _ cap h1 h2 h3 h4 =>
  obtain ⟨cur', T', h5, h6⟩ := h4
  have hce : cur' = cur := by rw [hcur] at h5; injection h5 with h5; injection h5 with h5; exact h5.symm
  subst hce
  simp only [Nat.zero_add] at h6
  have hnk : n * k ≤ cap * k := Nat.mul_le_mul_right _ h2
  have hmem : ∀ i' b', (i', b') ∈ [(i, Blk.cells [] E)] → i' = i ∧ b' = .cells [] E := fun i' b' h => by simpa using h
  cases hy with
  | @vec _ _ capy _ A gv hn1 hm1 hk1 hc1 h11 hr1 =>
  have olds : ∀ p x, (Blk.rows k n f E).at p = some x → ∃ v, (cur'.toList.take (n * k))[p]? = some v ∧ v.oneCell' = true ∧ Rel C x v := fun p x hx => by
    have hp : p < n * k := by
      simp only [Blk.at] at hx
      split at hx
      · rename_i hlt; exact (Nat.div_lt_iff_lt_mul hk0).1 hlt
      · cases hx
    obtain ⟨v, a1, a2, a3⟩ := hcells p x hx
    exact ⟨v, by rw [List.getElem?_take_of_lt hp]; simpa using a1, a2, a3⟩
  have holen : (cur'.toList.take (n * k)).length = n * k := by simp; omega
  have sq : ∀ p x, (Blk.rows k (n + m) (app n f g) E).at p = some x → ∀ rest, ∃ v, (cur'.toList.take (n * k) ++ flat m k gv ++ rest)[p]? = some v ∧ v.oneCell' = true ∧ Rel C x v := fun p x hx rest => rows_list (C := C) hk0 holen olds h11 hr1 hk1 p x hx
  have hsrc : 0 < m → ∃ a, A = some a ∧ (∀ j u, (flat m k gv)[j]? = some u → C.w.cell? (a.add j) = some u) := fun hm => by
    obtain ⟨b, off, rfl, hb, hblt, hcell⟩ := hc1 hm
    exact ⟨_, rfl, flat_cells hcell⟩
  by_cases hfit : n + m ≤ cap
  · have hsz : n * k + m * k ≤ cur'.size := by rw [← Nat.add_mul]; exact Nat.le_trans (Nat.mul_le_mul_right _ hfit) h6
    rcases Nat.eq_zero_or_pos m with hm | hm
    · subst hm
      have hnil : Src P it.size T (.slice A 0 capy) 0 [] C.w := by
        cases A with
        | none => exact .ofNil C.w hT capy
        | some a => exact .ofSlice C.w hT a 0 capy [] (by simp) (by simp) (by simp)
      have hr := run_append_nothing (P := P) C.w T T o.type E it hT hit (some ⟨C.β i, 0, none⟩) n cap (by omega) _ hnil
      refine .value (w' := C.w) ?_ (Leaves.inplace hn hok how hcur rfl rfl rfl rfl hcur (fun _ _ => rfl) rfl (b := .rows k (n + 0) (app n f g) E) rfl (fun p x hx => ?_) (by omega) h3 h6)
      · unfold execOp
        simp [ho, resolve, invoke, builtin, hc, ha, ht, hsv, hq, hr]
      · obtain ⟨v, a1, a2, a3⟩ := sq p x hx (cur'.toList.drop (n * k))
        refine ⟨v, ?_, a2, a3⟩
        have : flat 0 k gv = [] := by simp [flat]
        rw [this, List.append_nil, List.take_append_drop] at a1
        simpa using a1
    · obtain ⟨a, rfl, hnews⟩ := hsrc hm
      have hr := run_append_room (P := P) C.w T o.type E it hT hit (C.β i) n cap cur' hcur a m capy (flat m k gv) (by rw [flat_len, his, hk]) hnews (flat_one h11) hfit (by rw [his, hk, flat_len]; exact hsz)
      rw [his, hk] at hr
      refine .value (w' := C.w.setRow (C.β i) (cur'.toList.take (n * k) ++ flat m k gv ++ cur'.toList.drop (n * k + (flat m k gv).length)).toArray) ?_ (Leaves.inplace (w' := C.w.setRow (C.β i) (cur'.toList.take (n * k) ++ flat m k gv ++ cur'.toList.drop (n * k + (flat m k gv).length)).toArray) hn hok how hcur rfl rfl rfl (by simp [World.setRow]) (setRow_heap C.w _ cur' _ E (0, 0) hcur) (fun k' hk' => setRow_other C.w _ k' _ hk') ?_ (b := .rows k (n + m) (app n f g) E) rfl (fun p x hx => ?_) hfit h3 h6)
      · unfold execOp
        simp [ho, resolve, invoke, builtin, hc, ha, ht, hsv, hq, hr]
      · simp only [List.size_toArray, List.length_append, List.length_take, List.length_drop, Array.length_toList, flat_len]
        omega
      · obtain ⟨v, a1, a2, a3⟩ := sq p x hx (cur'.toList.drop (n * k + (flat m k gv).length))
        exact ⟨v, by simpa using a1, a2, a3⟩
  · have hm : 0 < m := by omega
    obtain ⟨a, rfl, hnews⟩ := hsrc hm
    have hol : ∀ j v, (cur'.toList.take (n * k))[j]? = some v → C.w.cell? ((⟨C.β i, 0, none⟩ : Addr).add j) = some v := fun j v hv => by
      have hj : j < n * k := by have := (List.getElem?_eq_some_iff.1 hv).1; rwa [holen] at this
      rw [List.getElem?_take_of_lt hj] at hv
      rw [Addr.add_mid, Nat.zero_add, cell_of_row C.w (C.β i) _ cur' E (0, 0) hcur]
      simpa using hv
    have hr := run_append_grow (P := P) C.w T o.type E it z hT hit hz' ⟨C.β i, 0, none⟩ n cap (cur'.toList.take (n * k)) (by rw [holen, his, hk]) hol a m capy (flat m k gv) (by rw [flat_len, his, hk]) hnews (by omega) (by omega) (by rw [hib]; exact growslice_fits (by omega) hroom.2)
    have hge := grownCap_ge C.w (n + m) cap E
    have hcm := grownCap_le_maxLen C.w (n + m) cap E (by simp only [maxLen]; omega)
    refine .value ?_ (Leaves.grown hn (w1 := C.w.drew) rfl rfl rfl rfl (b := .rows k (n + m) (app n f g) E) (arr := ((cur'.toList.take (n * k)).toArray ++ (flat m k gv).toArray ++ Builtin.zeroCells z.cells (grownCap C.w (n + m) cap E - (n + m)))) (u := [(i, .cells [] E)]) (fun p x hx => ?_) (fun j b' hj => ?_) (fun j b' hj => ?_) hge hcm ?_)
    · unfold execOp
      simp [ho, resolve, invoke, builtin, hc, ha, ht, hsv, hq, hr, Blk.elem]
    · obtain ⟨v, a1, a2, a3⟩ := sq p x hx (Builtin.zeroCells z.cells (grownCap C.w (n + m) cap E - (n + m))).toList
      exact ⟨v, by rw [← Array.getElem?_toList]; simpa using a1, a2, a3⟩
    · obtain ⟨rfl, rfl⟩ := hmem j b' hj
      exact ⟨hok, how, cur', hcur, fun p x hx => by simp [Blk.at] at hx⟩
    · obtain ⟨rfl, rfl⟩ := hmem j b' hj
      rfl
    · simp only [Array.size_append, List.size_toArray, size_zeroCells, holen, flat_len, hzs, ← Nat.add_mul]
      exact Nat.mul_le_mul_right _ (by omega)
/-- What a bound of a slice expression is. -/
def BndIs (ρ : Operand → Value) : Option Operand → Option Int → Prop
  | none, none => True
  | some x, some i => ∃ q, ρ x = .int q i
  | _, _ => False
theorem bounds_run {lo hi : Option Operand} {a b : Option Int} (ha : BndIs ρ lo a) (hb : BndIs ρ hi b) {len cap : Nat} {sl : Bool} (hlc : len ≤ cap) (h : okB len a b) (w : World) :
    (Instr.sliceBounds sl len cap (lo.map ρ) (hi.map ρ) none).run P w = .ok (loOf a, hiOf len b, cap) w := by
  obtain ⟨h1, h2, h3, h4⟩ := h
  match lo, a, ha, hi, b, hb with
  | none, none, _, none, none, _ => simp [Instr.sliceBounds, loOf, hiOf]
  | none, none, _, some y, some j, ⟨q, hq⟩ =>
    simp only [hiOf, loOf] at h2 h3 h4
    simp [Instr.sliceBounds, loOf, hiOf, hq, run_sliceBound w q j cap _ h2 (by omega)]
  | some x, some i, ⟨p, hp⟩, none, none, _ =>
    simp only [hiOf, loOf] at h1 h3 h4
    simp [Instr.sliceBounds, loOf, hiOf, hp, run_sliceBound w p i len _ h1 (by omega)]
  | some x, some i, ⟨p, hp⟩, some y, some j, ⟨q, hq⟩ =>
    simp only [hiOf, loOf] at h1 h2 h3 h4
    simp [Instr.sliceBounds, loOf, hiOf, hp, hq, run_sliceBound w q j cap _ h2 (by omega), run_sliceBound w p i j.toNat _ h1 (by omega)]
theorem ok_slice {T : TypeId} {x : Operand} {lo hi : Option Operand} {a b : Option Int} {k n : Nat} {f : Nat → List AV} (ho : o.op = .slice T x lo hi none) (ha : BndIs ρ lo a) (hb : BndIs ρ hi b) (hx : Rel C (.vec k n f) (ρ x)) (hT : ∃ E, P.underlying T = some (.slice E) ∧ ∀ w, (sizeOf E).run P w = .ok k w) (h : okB n a b) :
    Yld P o ρ C.w (Leaves C n0 (some (.vec k (hiOf n b - loOf a) (fun j => f (loOf a + j)))) [] []) := by
  obtain ⟨E, h1, h2⟩ := hT
  generalize hq : ρ x = v at hx
  cases hx with
  | @vec _ _ cap _ A g hn hm hk hc ho1 hr =>
  have hbr := bounds_run (P := P) (sl := true) ha hb hn h C.w
  obtain ⟨b1, b2, b3, b4⟩ := h
  refine .value (v := .slice (if cap = loOf a then A else A.map (·.add (loOf a * k))) (hiOf n b - loOf a) (cap - loOf a)) ?_ (.same fun _ e => ?_)
  · unfold execOp
    have h3 := h2 C.w
    simp [ho, hq, Instr.sliceAt, Instr.slice, run_underlying h1 C.w, hbr, h3]
  · injection e with e
    subst e
    refine .vec (fun j c => g (loOf a + j) c) (by omega) (by omega) (fun j hj => hk _ (by omega)) (fun h0 => ?_) (fun j c hj hc' => ho1 _ _ (by omega) hc') (fun j c y hj hy => hr _ _ y (by omega) hy)
    obtain ⟨b', off, rfl, hb', hlt, hcell⟩ := hc (by omega)
    refine ⟨b', off + loOf a * k, by rw [if_neg (by omega)]; simp [Addr.add_mid], hb', hlt, fun j c hj hc' => ?_⟩
    have := hcell (loOf a + j) c (by omega) hc'
    rw [show off + loOf a * k + j * k + c = off + (loOf a + j) * k + c by rw [Nat.add_mul]; omega]
    exact this
theorem ok_sliceS {T : TypeId} {x : Operand} {lo hi : Option Operand} {a b : Option Int} {s : ByteArray} (ho : o.op = .slice T x lo hi none) (ha : BndIs ρ lo a) (hb : BndIs ρ hi b) (hx : ρ x = .string s) (hT : P.underlying T = some .string) (h : okB s.size a b) :
    Yld P o ρ C.w (Leaves C n0 (some (.lit (.string (s.extract (loOf a) (hiOf s.size b))))) [] []) := by
  have hbr := bounds_run (P := P) (sl := false) ha hb (Nat.le_refl _) h C.w
  refine .value (v := .string (s.extract (loOf a) (hiOf s.size b))) ?_ (.same fun _ e => by injection e with e; exact e ▸ .lit rfl)
  unfold execOp
  simp [ho, hx, Instr.sliceAt, Instr.slice, run_underlying hT C.w, hbr]
theorem ok_idxN {x i : Operand} {T : TypeId} {k m : Nat} {f : Nat → List AV} {j : Nat} (ho : o.op = .indexAddr T x i) (hx : Rel C (.vec k m f) (ρ x)) (hi : Rel C (.num j) (ρ i)) (hT : ∃ E, P.underlying T = some (.slice E) ∧ ∀ w, (sizeOf E).run P w = .ok k w)
    (hj : j < m) : Yld P o ρ C.w (Leaves C n0 (some (.rptr (f j))) [] []) := by
  generalize hq : ρ i = v at hi
  cases hi
  have := ok_idx (P := P) (o := o) (ρ := ρ) (C := C) (n := n0) (q := .i64) (j := (j : Int)) ho hx hq hT (by omega)
  simpa using this
theorem Rel.nrm {x : AV} {v : Value} (h : Rel C x v) : ∀ y, AM.nrm (some x) = some y → Rel C y v := by
  intro y hy
  cases h with
  | ful h => simp only [AM.nrm, Option.some.injEq] at hy; exact hy ▸ h
  | num => simp only [AM.nrm, Option.some.injEq] at hy; exact hy ▸ .lit rfl
  | kb => simp only [AM.nrm, Option.some.injEq] at hy; exact hy ▸ .lit rfl
  | er h0 h1 h2 => simp only [AM.nrm, Option.some.injEq] at hy; exact hy ▸ .er h0 h1 h2
  | lit h => simp only [AM.nrm, Option.some.injEq] at hy; exact hy ▸ .lit h
  | ptr h => simp only [AM.nrm, Option.some.injEq] at hy; exact hy ▸ .ptr h
  | elm h => simp only [AM.nrm, Option.some.injEq] at hy; exact hy ▸ .elm h
  | slc h hn hm hc => simp only [AM.nrm, Option.some.injEq] at hy; exact hy ▸ .slc h hn hm hc
  | vec g hn hm hk hc h1 hr => simp only [AM.nrm, Option.some.injEq] at hy; exact hy ▸ .vec g hn hm hk hc h1 hr
  | rptr g hb hlt hc h1 hr => simp only [AM.nrm, Option.some.injEq] at hy; exact hy ▸ .rptr g hb hlt hc h1 hr
  | agg hl h1 hr => simp only [AM.nrm, Option.some.injEq] at hy; exact hy ▸ .agg hl h1 hr
  | tup hl hr => simp only [AM.nrm, Option.some.injEq] at hy; exact hy ▸ .tup hl hr
  | fn hl hm hr hq => simp only [AM.nrm, Option.some.injEq] at hy; exact hy ▸ .fn hl hm hr hq
theorem nrm_rel {g : Operand → Option AV} (hg : ∀ x av, g x = some av → Rel C av (ρ x)) : ∀ x av, AM.nrm (g x) = some av → Rel C av (ρ x) := by
  intro x av h
  cases hx : g x with
  | none => rw [hx] at h; simp [AM.nrm] at h
  | some y => rw [hx] at h; exact (hg x y hx).nrm _ h
/-! ### Rows of a block of its own -/
theorem rows_at {k n : Nat} {f : Nat → List AV} {E : TypeId} {j q : Nat} (hj : j < n) (hq : q < k) : (Blk.rows k n f E).at (j * k + q) = (f j)[q]? := by
  have hk : 0 < k := by omega
  have e1 : (j * k + q) / k = j := by rw [Nat.add_comm, Nat.add_mul_div_right _ _ hk, Nat.div_eq_of_lt hq, Nat.zero_add]
  have e2 : (j * k + q) % k = q := by rw [Nat.add_comm, Nat.add_mul_mod_self_right, Nat.mod_eq_of_lt hq]
  simp only [Blk.at, e1, e2, hj, if_true]
theorem brow_range {i k n : Nat} {f : Nat → List AV} {E : TypeId} (h : BRel C i (.rows k n f E)) {j : Nat} (hj : j < n) (hl : (f j).length = k) {o m : Nat} (hm : o + m ≤ k) :
    ∃ vs : List Value, vs.length = m ∧ C.w.rangeAt (C.β i) (j * k + o) vs ∧ LRel C (((f j).drop o).take m) vs ∧ ∀ v ∈ vs, v.oneCell' = true := by
  obtain ⟨c, h1, h2⟩ := h
  have hget : ∀ q (hq : q < m), ∃ v, c[j * k + o + q]? = some v ∧ v.oneCell' = true ∧ Rel C ((f j)[o + q]'(by omega)) v := fun q hq => by
    have := h2 (j * k + (o + q)) _ (by rw [rows_at hj (by omega)]; exact List.getElem?_eq_getElem (by omega))
    rwa [← Nat.add_assoc] at this
  have hsz : ∀ q, q < m → j * k + o + q < c.size := fun q hq => by
    obtain ⟨v, hv, _⟩ := hget q hq
    exact (Array.getElem?_eq_some_iff.1 hv).1
  have hmin : m ≤ c.size - (j * k + o) := by
    rcases Nat.eq_zero_or_pos m with h0 | h0
    · omega
    · have := hsz (m - 1) (by omega); omega
  refine ⟨(c.toList.drop (j * k + o)).take m, by simp; omega, fun q v hv => ?_, ⟨by simp; omega, fun q x v hx hv => ?_⟩, fun v hv => ?_⟩
  · have hj' : q < m := by have := (List.getElem?_eq_some_iff.1 hv).1; simp at this; omega
    rw [List.getElem?_take_of_lt hj', List.getElem?_drop] at hv
    simp only [World.cell?, h1]
    simpa using hv
  · have hj' : q < m := by have := (List.getElem?_eq_some_iff.1 hv).1; simp at this; omega
    rw [List.getElem?_take_of_lt hj', List.getElem?_drop] at hv hx
    obtain ⟨u, hu, _, hr⟩ := hget q hj'
    have : u = v := by
      have hv' : c[j * k + o + q]? = some v := by simpa using hv
      rw [hu] at hv'; injection hv'
    subst this
    have e := (List.getElem?_eq_some_iff.1 hx).2
    exact e ▸ hr
  · obtain ⟨q, hq⟩ := List.getElem?_of_mem hv
    have hjm : q < m := by have := (List.getElem?_eq_some_iff.1 hq).1; simp at this; omega
    rw [List.getElem?_take_of_lt hjm, List.getElem?_drop] at hq
    obtain ⟨u, hu, h3, _⟩ := hget q hjm
    have : u = v := by
      have hv' : c[j * k + o + q]? = some v := by simpa using hq
      rw [hu] at hv'; injection hv'
    exact this ▸ h3
theorem ok_loadE {T : Nat} {x : Operand} {t : TI} {i k n j off : Nat} {f : Nat → List AV} {E : TypeId} {av : AV} (ho : o.op = .load T x) (hT : TGood P T t) (hx : Rel C (.elm i k j off) (ρ x)) (hb : BRel C i (.rows k n f E)) (hm : off + t.size ≤ k) (hj : j < n ∧ (f j).length = k)
    (hv : mk t.agg (((f j).drop off).take t.size) = some av) : Yld P o ρ C.w (Leaves C n0 (some av) [] []) := by
  obtain ⟨vs, h1, h2, h3, h4⟩ := brow_range hb hj.1 hj.2 hm
  obtain ⟨cv, h5, h6⟩ := run_load_cells hT C.w (C.β i) (j * k + off) vs h1 h2 h3 h4 hv
  have hp : ρ x = .pointer (some ⟨C.β i, j * k + off, none⟩) := by generalize ρ x = q at hx; cases hx; rfl
  exact .value (v := cv) (by unfold execOp; simp [ho, hp, h5]) (.same fun _ e => by injection e with e; exact e ▸ h6)
theorem Rel.elm_inv {C : Cx} {i k j off : Nat} {v : Value} (h : Rel C (.elm i k j off) v) : v = .pointer (some ⟨C.β i, j * k + off, none⟩) ∧ C.ok i := by cases h; exact ⟨rfl, by assumption⟩
theorem ok_fieldE {T : Nat} {x : Operand} {f : Nat} {t : TI} {i k j off a sz : Nat} (ho : o.op = .fieldAddr T x f) (hT : TGood P T t) (hx : Rel C (.elm i k j off) (ρ x)) (hf : t.offs[f]? = some (a, sz)) (hz : 0 < sz) :
    Yld P o ρ C.w (Leaves C n0 (some (.elm i k j (off + a))) [] []) := by
  obtain ⟨hp, hok⟩ := hx.elm_inv
  obtain ⟨d, h1, h2⟩ := hT.under
  obtain ⟨fs, fd, rfl, h3, h4, h5⟩ := descOf_struct h2 hf
  have hsz : ∃ j, P.info? fd.type = some j ∧ j.size = sz := by
    unfold Program.cellsOf at h5
    cases hj : P.info? fd.type with
    | none => simp [hj] at h5; omega
    | some j => simp [hj] at h5; exact ⟨j, rfl, h5⟩
  obtain ⟨j', h6, h7⟩ := hsz
  have hne : ¬ j'.size = 0 := by omega
  refine .value (v := .pointer (some ⟨C.β i, j * k + (off + a), none⟩)) ?_ (.same fun _ e => by injection e with e; exact e ▸ .elm hok)
  unfold execOp
  have h4' : fd.offset = a := h4
  simp [ho, hp, Instr.fieldAt, run_underlying h1 C.w, h3, Instr.sureAddr, fieldPlace, sizeOf, typeInfo, h6, hne, h4', Addr.add_mid, Nat.add_assoc]
theorem ok_fieldR {T : Nat} {x : Operand} {f : Nat} {t : TI} {l : List AV} {a sz : Nat} (ho : o.op = .fieldAddr T x f) (hT : TGood P T t) (hx : Rel C (.rptr l) (ρ x)) (hf : t.offs[f]? = some (a, sz)) (hz : 0 < sz) :
    Yld P o ρ C.w (Leaves C n0 (some (.rptr (l.drop a))) [] []) := by
  generalize hq : ρ x = q at hx
  cases hx with
  | @rptr _ b off g hb hlt hc h1' hr =>
  obtain ⟨d, h1, h2⟩ := hT.under
  obtain ⟨fs, fd, rfl, h3, h4, h5⟩ := descOf_struct h2 hf
  have hsz : ∃ j, P.info? fd.type = some j ∧ j.size = sz := by
    unfold Program.cellsOf at h5
    cases hj : P.info? fd.type with
    | none => simp [hj] at h5; omega
    | some j => simp [hj] at h5; exact ⟨j, rfl, h5⟩
  obtain ⟨j', h6, h7⟩ := hsz
  have hne : ¬ j'.size = 0 := by omega
  refine .value (v := .pointer (some ⟨b, off + a, none⟩)) ?_ (.same fun _ e => by
    injection e with e
    refine e ▸ .rptr (fun c => g (a + c)) hb hlt (fun c hc' => ?_) (fun c hc' => h1' _ (by simp at hc'; omega)) (fun c y hy => hr _ y (by rwa [List.getElem?_drop] at hy))
    have := hc (a + c) (by simp at hc'; omega)
    rwa [← Nat.add_assoc] at this)
  unfold execOp
  have h4' : fd.offset = a := h4
  simp [ho, hq, Instr.fieldAt, run_underlying h1 C.w, h3, Instr.sureAddr, fieldPlace, sizeOf, typeInfo, h6, hne, h4', Addr.add_mid]
/-- A new slice of zeros. -/
theorem ok_make {T : Nat} {t i : TI} {x y : Operand} {kl kc : IntKind} {a : Int} (ho : o.op = .makeSlice T x y) (hE : TGood P t.elem i) (hsl : P.underlying T = some (.slice t.elem)) (hx : ρ x = .int kl a) (hy : ρ y = .int kc a) (ha : 0 ≤ a) (ha2 : a ≤ 4611686018427387904) (hb : i.bytes * a ≤ 140737488355328) (hp : 0 < i.size) (hz0 : i.zero.length = i.size) (hn : ¬ C.ok n0) :
    Yld P o ρ C.w (Leaves C n0 (some (.slc n0 0 i.size a.toNat)) [.rows i.size a.toNat (fun _ => i.zero.map .lit) t.elem] []) := by
  obtain ⟨j, z, h1, h2, h3, h4, h5⟩ := hE.get
  have hzs : z.cells.size = i.size := by rw [← hz0, ← h5]; simp
  have hr := run_make (P := P) C.w T t.elem j z hsl h1 h4 kl kc a a ha (Int.le_refl _) (by rw [h3]; omega) (by omega)
  rw [h2] at hr
  refine .value (v := .slice (some ⟨C.w.heap.size, 0, none⟩) a.toNat a.toNat) (w' := C.w.alloc (.cells (madeCells z.cells (a.toNat * i.size)) t.elem)) (by unfold execOp; simp [ho, hx, hy, hr]) (Leaves.grown hn (w1 := C.w) rfl rfl rfl rfl (b := .rows i.size a.toNat (fun _ => i.zero.map .lit) t.elem) (arr := madeCells z.cells (a.toNat * i.size)) (u := []) (fun p x hx => ?_) (by simp) (by simp) (Nat.le_refl _) (by unfold maxLen; omega) (by simp [size_madeCells]))
  simp only [Blk.at] at hx
  split at hx
  · rename_i hlt
    have hlt' : p < a.toNat * i.size := (Nat.div_lt_iff_lt_mul hp).1 hlt
    have hm := Nat.mod_lt p hp
    rw [List.getElem?_map] at hx
    have hzl : i.zero[p % i.size]? = some (i.zero[p % i.size]'(by omega)) := List.getElem?_eq_getElem (by omega)
    rw [hzl] at hx
    injection hx with hx; subst hx
    have hone : (i.zero[p % i.size]'(by omega)).oneCell' = true := List.all_eq_true.1 hE.one _ (List.getElem_mem _)
    refine ⟨i.zero[p % i.size]'(by omega), ?_, hone, .lit hone⟩
    have e : z.cells[p % i.size]? = some (i.zero[p % i.size]'(by omega)) := by rw [← Array.getElem?_toList, h5]; exact hzl
    have e2 : z.cells[p % z.cells.size]! = i.zero[p % i.size]'(by omega) := by rw [hzs, getElem!_def, e]
    simp only [madeCells, Array.getElem?_map]
    rw [Array.getElem?_range, if_pos hlt', Option.map_some, e2]
  · cases hx
theorem ok_nilE {x : Operand} {i k j off : Nat} (ho : o.op = .nilCheck x) (hx : Rel C (.elm i k j off) (ρ x)) : Yld P o ρ C.w (Leaves C n0 (some (.elm i k j off)) [] []) := by
  obtain ⟨hp, hok⟩ := hx.elm_inv
  exact .value (v := .pointer (some ⟨C.β i, j * k + off, none⟩)) (by unfold execOp; simp [ho, hp]) (.same fun _ e => by injection e with e; exact e ▸ .elm hok)
theorem ok_idxE {x i : Operand} {T : TypeId} {id k m : Nat} {q : IntKind} {j : Int} (ho : o.op = .indexAddr T x i) (hx : Rel C (.slc id 0 k m) (ρ x)) (hi : ρ i = .int q j) (hT : ∃ E, P.underlying T = some (.slice E) ∧ ∀ w, (sizeOf E).run P w = .ok k w)
    (hj : 0 ≤ j ∧ j < (m : Nat)) : Yld P o ρ C.w (Leaves C n0 (some (.elm id k j.toNat 0)) [] []) := by
  obtain ⟨E, h1, h2⟩ := hT
  generalize hq : ρ x = v at hx
  cases hx with
  | @slc _ _ _ _ cap hok hn hm hc =>
    refine .value (v := .pointer (some ⟨C.β id, j.toNat * k + 0, none⟩)) ?_ (.same fun _ e => by injection e with e; exact e ▸ .elm hok)
    unfold execOp
    have h3 := h2 C.w
    simp [ho, hq, hi, Instr.indexAt, asIntOf, run_underlying h1 C.w, hj, h3, Addr.add_mid]
theorem ok_idxEN {x i : Operand} {T : TypeId} {id k m j : Nat} (ho : o.op = .indexAddr T x i) (hx : Rel C (.slc id 0 k m) (ρ x)) (hi : Rel C (.num j) (ρ i)) (hT : ∃ E, P.underlying T = some (.slice E) ∧ ∀ w, (sizeOf E).run P w = .ok k w)
    (hj : j < m) : Yld P o ρ C.w (Leaves C n0 (some (.elm id k j 0)) [] []) := by
  generalize hq : ρ i = v at hi
  cases hi
  have := ok_idxE (P := P) (o := o) (ρ := ρ) (C := C) (n0 := n0) (q := .i64) (j := (j : Int)) ho hx hq hT (by omega)
  simpa using this
theorem ok_sliceO {T : TypeId} {x : Operand} {lo hi : Option Operand} {a b : Option Int} {id k n : Nat} (ho : o.op = .slice T x lo hi none) (ha : BndIs ρ lo a) (hb : BndIs ρ hi b) (hx : Rel C (.slc id 0 k n) (ρ x)) (hT : ∃ E, P.underlying T = some (.slice E) ∧ ∀ w, (sizeOf E).run P w = .ok k w) (h : okB n a b) :
    Yld P o ρ C.w (Leaves C n0 (some (.slc id (loOf a * k) k (hiOf n b - loOf a))) [] []) := by
  obtain ⟨E, h1, h2⟩ := hT
  generalize hq : ρ x = v at hx
  cases hx with
  | @slc _ _ _ _ cap hok hn hm hc =>
  have hbr := bounds_run (P := P) (sl := true) ha hb hn h C.w
  obtain ⟨b1, b2, b3, b4⟩ := h
  refine .value (v := .slice (some ⟨C.β id, if cap - loOf a = 0 then 0 else loOf a * k, none⟩) (hiOf n b - loOf a) (cap - loOf a)) ?_ (.same fun _ e => ?_)
  · unfold execOp
    have h3 := h2 C.w
    by_cases hcap : cap = loOf a
    · subst hcap
      simp [ho, hq, Instr.sliceAt, Instr.slice, run_underlying h1 C.w, hbr, h3]
    · have hne : ¬ cap - loOf a = 0 := by omega
      simp [ho, hq, Instr.sliceAt, Instr.slice, run_underlying h1 C.w, hbr, h3, hcap, hne, Addr.add_mid]
  · injection e with e
    subst e
    obtain ⟨c, T', e1, e2⟩ := hc
    refine .slc hok (by omega) (by omega) ⟨c, T', e1, ?_⟩
    rw [← Nat.add_mul]
    have : loOf a + (cap - loOf a) = cap := by omega
    rw [this]; omega
theorem splice_some : ∀ (o : Nat) (cs n : List AV), o + n.length ≤ cs.length → ∃ r, splice cs n o = some r
  | 0, cs, n, h => ⟨_, by simp only [splice]; rw [show Nat.ble n.length cs.length = true by simpa using h]; rfl⟩
  | o + 1, [], n, h => by simp at h
  | o + 1, c :: r, n, h => by
    obtain ⟨l, hl⟩ := splice_some o r n (by simp only [List.length_cons] at h; omega)
    exact ⟨c :: l, by simp only [splice, hl]⟩
theorem ok_storeE {T : Nat} {x y : Operand} {t : TI} {i k n j off : Nat} {f : Nat → List AV} {row : List AV} {E : TypeId} {av : AV} (ho : o.op = .store T x y) (hT : TGood P T t) (hx : Rel C (.elm i k j off) (ρ x)) (hy : Rel C av (ρ y)) (htup : notTup av = true) (hk : 0 < k)
    (hb : BRel C i (.rows k n f E)) (hlen : av.cells.length = t.size) (hj : j < n ∧ (f j).length = k) (hs : splice (f j) av.cells off = some row) (how : C.ow (C.β i)) : Yld P o ρ C.w (Leaves C n0 none [] [(i, .rows k n (put1 j row f) E)]) := by
  have hok : C.ok i := by generalize ρ x = q at hx; cases hx; assumption
  have hp : ρ x = .pointer (some ⟨C.β i, j * k + off, none⟩) := by generalize ρ x = q at hx; cases hx; rfl
  obtain ⟨hlr, h1⟩ := hy.cells (notTup_ne htup)
  obtain ⟨s1, s2, s3⟩ := splice_spec off (f j) av.cells row hs
  have hvl : (ρ y).cells.toList.length = av.cells.length := hlr.1
  have hvl' : (ρ y).cells.size = av.cells.length := by simpa using hvl
  have hrng := brow_range hb hj.1 hj.2 (o := off) (m := av.cells.length) (by omega)
  obtain ⟨c, hc1, hc2⟩ := id hb
  have hsz : ∀ q, q < k → j * k + q < c.size := fun q hq => by
    obtain ⟨v, hv, _⟩ := hc2 (j * k + q) _ (by rw [rows_at hj.1 hq]; exact List.getElem?_eq_getElem (by omega))
    exact (Array.getElem?_eq_some_iff.1 hv).1
  have hall : j * k + k ≤ c.size := by have := hsz (k - 1) (by omega); omega
  have hthere : C.w.there (C.β i) (j * k + off) (ρ y).cells.size := fun q hq => by
    have hj' : j * k + off + q < c.size := by omega
    refine ⟨?_, ?_⟩
    · simp [World.cell?, hc1, hj']
    · simp [World.frozen?, hc1]
  have hrun := run_store_cells hT C.w (C.β i) (j * k + off) (ρ y) (by omega) hthere h1
  obtain ⟨c', k1, k2, k3⟩ := setCells_same (C.β i) E (0, 0) (ρ y).cells.toList (j * k + off) C.w c hc1 (by omega)
  obtain ⟨o1, o2, o3, o4⟩ := setCells_os (C.β i) (ρ y).cells.toList (j * k + off) C.w
  have hext : Ext C ⟨C.β, C.ok, C.ow, C.w.setCells (C.β i) (j * k + off) (ρ y).cells.toList⟩ (fun q => ∃ p b, (p, b) ∈ [(i, Blk.rows k n (put1 j row f) E)] ∧ C.β p = q) := by
    refine ⟨⟨o1, o2, o3, by rw [o4]; exact Nat.le_refl _, fun q hq hn => ?_, fun q d U hd => ?_⟩, ?_, fun _ _ => rfl, fun _ h => h, fun _ h => .inl h⟩
    · exact setCells_other _ _ _ _ q (fun e => hn ⟨i, _, List.mem_singleton.2 rfl, e.symm⟩)
    · by_cases hk : q = C.β i
      · subst hk
        rw [hc1] at hd
        injection hd with hd; injection hd with hd1 hd2
        subst hd1; subst hd2
        exact ⟨c', k1, k2⟩
      · exact ⟨d, by rw [show (Cx.mk C.β C.ok C.ow (C.w.setCells (C.β i) (j * k + off) (ρ y).cells.toList)).w = C.w.setCells (C.β i) (j * k + off) (ρ y).cells.toList from rfl, setCells_other _ _ _ _ q hk, hd], rfl⟩
    · rintro q ⟨p, b, hm, rfl⟩
      simp at hm
      rw [hm.1]; exact how
  refine .skip (w' := C.w.setCells (C.β i) (j * k + off) (ρ y).cells.toList) (by unfold execOp; simp [ho, hp, hrun]) ⟨_, rfl, hext, fun j => by simp; omega, fun k => by simp; omega, fun j h h' => by simp at h'; omega, fun j j' h h' => by simp at h'; omega, by simp, by simp [named], fun p b hm => ?_⟩
  simp at hm
  obtain ⟨rfl, rfl⟩ := hm
  refine ⟨c', k1, fun q x hx' => ?_⟩
  have hx2 : (if q / k < n then (put1 j row f (q / k))[q % k]? else none) = some x := hx'
  rw [k3]
  by_cases hjq : q / k = j
  · have hqe : q = j * k + q % k := by rw [← hjq, Nat.mul_comm]; exact (Nat.div_add_mod q k).symm
    have hqk : q % k < k := Nat.mod_lt _ hk
    have hput : put1 j row f (q / k) = row := by unfold put1; rw [hjq, show Nat.beq j j = true by simp]; rfl
    rw [if_pos (by omega), hput, s3] at hx2
    by_cases hp' : off ≤ q % k ∧ q % k < off + av.cells.length
    · rw [if_pos hp'] at hx2
      rw [if_pos (by omega)]
      obtain ⟨v, hv, hr⟩ := hlr.get hx2
      exact ⟨v, by rw [show q - (j * k + off) = q % k - off by omega]; exact hv, h1 v (List.mem_of_getElem? hv), hr.mono hext⟩
    · rw [if_neg hp'] at hx2
      rw [if_neg (by omega)]
      obtain ⟨v, hv, h3, hr⟩ := hc2 q x (by rw [hqe, rows_at hj.1 hqk]; exact hx2)
      exact ⟨v, hv, h3, hr.mono hext⟩
  · have hput : put1 j row f (q / k) = f (q / k) := by unfold put1; rw [show Nat.beq (q / k) j = false by rw [← Bool.not_eq_true]; simpa using hjq]; rfl
    rw [hput] at hx2
    have hout : ¬ (j * k + off ≤ q ∧ q < j * k + off + (ρ y).cells.toList.length) := by
      rintro ⟨a1, a2⟩
      apply hjq
      have : q < (j + 1) * k := by rw [Nat.add_mul]; omega
      have l1 : q / k < j + 1 := (Nat.div_lt_iff_lt_mul hk).2 this
      have l2 : j ≤ q / k := (Nat.le_div_iff_mul_le hk).2 (by omega)
      omega
    rw [if_neg hout]
    obtain ⟨v, hv, h3, hr⟩ := hc2 q x hx2
    exact ⟨v, hv, h3, hr.mono hext⟩
end
end Go.Proofs.Ytpilblmncpeelaa.AM

