/- An evaluator of calls over abstract memory, and that what it answers is what a call answers. Part 1. -/
import Derived.Orders
import Derived.KernelRfl
import Derived.Below
import Derived.Test.YthdnpikgnmdnnaaGreatDoorProg
import Derived.Laws.IdiomCopy
import Derived.Laws.Cells
import Derived.RowKit3
import Derived.Laws.Tables
import Derived.Laws.StructEq
import Derived.Laws.Strings
namespace Go.Proofs.YthdnpikgnmdnnaaGreatDoor.Ev
set_option linter.unusedSimpArgs false
set_option linter.unusedVariables false
set_option linter.unusedSectionVars false

/-- A map from numbers, as a tree. -/
inductive Tr (α : Type) where
  | nil
  | node (v : Option α) (l r : Tr α)
  deriving Inhabited

noncomputable def Tr.get {α : Type} (t : Tr α) (n : Nat) : Option α :=
  Tr.rec (motive := fun _ => Nat → Option α) (fun _ => none)
    (fun v _ _ gl gr n => Nat.rec (motive := fun _ => Option α) v (fun m _ => Bool.rec (motive := fun _ => Option α) (gr (Nat.div m (nat_lit 2))) (gl (Nat.div m (nat_lit 2))) (Nat.beq (Nat.mod m (nat_lit 2)) (nat_lit 0))) n) t n

noncomputable def Tr.put {α : Type} (k : Nat) (t : Tr α) (n : Nat) (x : Option α) : Tr α :=
  Nat.rec (motive := fun _ => Tr α → Nat → Tr α) (fun t _ => t)
    (fun _ ih t n =>
      Nat.rec (motive := fun _ => Tr α)
        (Tr.rec (motive := fun _ => Tr α) (.node x .nil .nil) (fun _ l r _ _ => .node x l r) t)
        (fun m _ => Bool.rec (motive := fun _ => Tr α)
          (Tr.rec (motive := fun _ => Tr α) (.node none .nil (ih .nil (Nat.div m (nat_lit 2)))) (fun v l r _ _ => .node v l (ih r (Nat.div m (nat_lit 2)))) t)
          (Tr.rec (motive := fun _ => Tr α) (.node none (ih .nil (Nat.div m (nat_lit 2))) .nil) (fun v l r _ _ => .node v (ih l (Nat.div m (nat_lit 2))) r) t)
          (Nat.beq (Nat.mod m (nat_lit 2)) (nat_lit 0))) n) k t n

noncomputable def Tr.set {α : Type} (t : Tr α) (n : Nat) (x : Option α) : Tr α := Tr.put (n + 1) t n x

noncomputable def Tr.ofList {α : Type} : List α → Nat → Tr α → Tr α
  | [], _, t => t
  | x :: xs, n, t => Tr.ofList xs (n + 1) (t.set n (some x))

/-- What an abstract block is. -/
inductive Ob where
  | cells (cs : List Value) (elem : TypeId) (ex fz : Bool)
  | map (es : List (Value × Value))
  /-- a map of which these are the first entries -/
  | pmap (es : List (Value × Value))
  | siter (s : ByteArray) (pos : Nat)
  /-- the record of a loop that ranges over a function: is a round on? -/
  | loop (t : Tr Value) (nt k : Nat) (busy : Bool)
  /-- the block for the deferred calls of such loops' rounds: none -/
  | dfr
  deriving Inhabited

structure En where
  ob : Ob
  fam : Nat
  deriving Inhabited

structure St where
  h : Tr En
  mem : Tr (List Nat)
  next : Nat
  wl : List Nat
  msk : List (Nat × Nat)
  deriving Inhabited

/-- Functions without a body. -/
inductive Ext where
  | count | indexByte | compare | same
  | noZero (elem : TypeId)

/-- Functions that are taken by a contract. -/
inductive Prim where
  | index

structure Tb where
  ty : Tr TypeInfo
  fn : Tr Func
  ext : Tr Ext
  prim : Tr Prim
  /-- structs that may be compared field by field -/
  cmp : Tr Unit
  n0 : Nat
  /-- calls that are taken from a table, or by a contract -/
  orc : Nat → List Value → St → Option (Value × St)
  /-- which new blocks stay when a call returns: mere hints -/
  keep : Tr (List Nat)
  /-- loops over functions: the variables, what assigns them, the body -/
  lp : Nat → Option (List Nat × (Code × Code))
  /-- methods of dynamic types, called through an interface -/
  meth : Nat → String → Option Nat
  /-- what operations come to at values of which too little is known to carry them out -/
  tk : Op → List Value → Option Value

/-- A frame: what the temporaries hold, what has been deferred. -/
structure Fr where
  t : Tr Value
  ds : List (Nat × List Value)

inductive Job where
  | code (c : Code) (nt : Nat) (fr : Fr)
  | call (f : Nat) (args : List Value)
  /-- a deferred call, above a panic or none -/
  | dcall (f : Nat) (args : List Value) (u : Option Value)
  | dcode (c : Code) (nt : Nat) (fr : Fr) (u : Option Value) (rec : Bool)

inductive Out where
  | norm (fr : Fr)
  | exit (id : Nat) (fr : Fr)
  | ret (fr : Fr)
  | pan (v : Value) (fr : Fr)
  | val (v : Value)
  | pans (v : Value)
  /-- a deferred piece of code has come so far; has it recovered? -/
  | dnorm (fr : Fr) (rec : Bool)
  | dexit (id : Nat) (fr : Fr) (rec : Bool)
  | dret (fr : Fr) (rec : Bool)

/-- An unknown capacity of cells of a size: from this number on. -/
noncomputable def UNK : Nat := 18446744073709551616

/-- The capacity of an empty slice of which nothing is known. -/
noncomputable def UNKE : Nat := 36893488147419103232

noncomputable def hidden (m : List (Nat × Nat)) (id : Nat) : Bool :=
  match m with
  | [] => false
  | (lo, hi) :: r => (Nat.ble lo id && Nat.blt id hi) || hidden r id

noncomputable def St.see (s : St) (id : Nat) : Option En := cond (hidden s.msk id) none (s.h.get id)

/-- A new block of a family of its own. -/
noncomputable def St.new (s : St) (o : Ob) : Nat × St := (s.next, { s with h := s.h.set s.next (some ⟨o, s.next⟩), next := s.next + 1 })

noncomputable def minN (a b : Nat) : Nat := cond (Nat.ble a b) a b

/-- A write to a block of a number: not below n0. -/
noncomputable def St.low (s : St) (n0 b : Nat) : Option St := cond (Nat.ble n0 b) (some { s with wl := b :: s.wl }) none

noncomputable def members (s : St) (fam : Nat) : List Nat := (s.mem.get fam).getD [fam]

/-- Forgets those of a list but one whose cells go beyond n. -/
noncomputable def poison (n0 n : Nat) (but : Nat) : List Nat → St → Option St
  | [], s => some s
  | id :: r, s =>
    cond (Nat.beq id but) (poison n0 n but r s)
    (match s.see id with
    | some ⟨.cells cs _ _ _, _⟩ => cond (Nat.blt n cs.length)
        (match St.low { s with h := s.h.set id none } n0 id with
         | some s => poison n0 n but r s
         | none => none) (poison n0 n but r s)
    | some _ => none
    | none => poison n0 n but r s)

noncomputable def setAt : List Value → Nat → List Value → Option (List Value)
  | cs, 0, vs => ov cs vs
  | [], _ + 1, _ => none
  | c :: cs, n + 1, vs => (setAt cs n vs).map (c :: ·)
where
  ov : List Value → List Value → Option (List Value)
  | cs, [] => some cs
  | [], _ :: _ => none
  | _ :: cs, v :: vs => (ov cs vs).map (v :: ·)

noncomputable def oneC : Value → Bool
  | .agg _ | .tuple _ => false
  | _ => true

/-- Stores cells. -/
noncomputable def St.store (n0 : Nat) (s : St) (b off : Nat) (vs : List Value) : Option St :=
  match vs with
  | [] => some s
  | _ =>
  match s.see b with
  | some ⟨.cells cs el ex false, fam⟩ =>
    match setAt cs off vs with
    | some cs' =>
      cond (vs.all oneC)
        (match poison n0 off b (members s fam) s with
         | some s => St.low { s with h := s.h.set b (some ⟨.cells cs' el ex false, fam⟩) } n0 b
         | none => none)
        none
    | none => none
  | _ => none

noncomputable def St.cellsAt (s : St) (b off n : Nat) : Option (List Value) :=
  match s.see b with
  | some ⟨.cells cs _ _ _, _⟩ => let l := (cs.drop off).take n; cond (Nat.beq l.length n) (some l) none
  | _ => none

noncomputable def closedV : Nat → Value → Bool
  | 0, _ => false
  | n + 1, v => match v with
    | .bool _ => true
    | .int _ _ => true
    | .string _ => true
    | .pointer a => a.isNone
    | .slice a l c => a.isNone && (Nat.beq l 0 && Nat.beq c 0)
    | .map a => a.isNone
    | .nilFunc => true
    | .nilIface => true
    | .func (.func _) a b => a.toList.isEmpty && b.toList.isEmpty
    | .iface _ v => closedV n v
    | .agg cs => cs.toList.all (closedV n)
    | .tuple cs => cs.toList.all (closedV n)
    | _ => false

noncomputable def operand (n0 : Nat) (t : Tr Value) : Operand → Option Value
  | .tmp i => t.get i
  | .const v => cond (closedV 40 v) (some v) none
  | .global g => cond (Nat.blt g n0) (some (.pointer (some ⟨g, 0, none⟩))) none
  | .func f => some (.func (.func f) #[] #[])

noncomputable def operands (n0 : Nat) (t : Tr Value) : List Operand → Option (List Value)
  | [] => some []
  | o :: r => match operand n0 t o with
    | some v => match operands n0 t r with
      | some vs => some (v :: vs)
      | none => none
    | none => none

noncomputable def Tb.und (T : Tb) (t : TypeId) : Option TypeDesc :=
  match T.ty.get t with
  | some i => match i.desc with
    | .named _ u => (T.ty.get u).map (·.desc)
    | d => some d
  | none => none

noncomputable def Tb.undId (T : Tb) (t : TypeId) : Option TypeId :=
  match T.ty.get t with
  | some i => match i.desc with
    | .named _ u => some u
    | _ => some t
  | none => none

noncomputable def Tb.size (T : Tb) (t : TypeId) : Option Nat := (T.ty.get t).map (·.size)
noncomputable def Tb.zero (T : Tb) (t : TypeId) : Option Value := (T.ty.get t).bind fun i => i.zero.bind fun z => cond (closedV 40 z) (some z) none
noncomputable def Tb.agg (T : Tb) (t : TypeId) : Option Bool :=
  match T.und t with
  | some (.struct _) | some (.array _ _) => some true
  | some _ => some false
  | none => none

noncomputable def vcells : Value → List Value
  | .agg cs => cs.toList
  | v => [v]

noncomputable def mkL (l : List Value) : Array Value := ⟨l⟩

noncomputable def part (T : Tb) (t : TypeId) (cs : List Value) (off : Nat) : Option Value :=
  match T.agg t, T.size t with
  | some true, some n => some (.agg (mkL ((cs.drop off).take n)))
  | some false, _ => cs[off]?
  | _, _ => none

noncomputable def splice (cells : List Value) (off : Nat) (vs : List Value) : Option (List Value) := setAt cells off vs

noncomputable def fillL (place : Nat → Option (Nat × Nat)) (cells : List Value) : List (Nat × Value) → Option (List Value)
  | [] => some cells
  | (i, v) :: r =>
    match place i with
    | some (off, size) =>
      let vs := vcells v
      cond (Nat.beq vs.length size) (match splice cells off vs with | some c => fillL place c r | none => none) none
    | none => none

noncomputable def parts (n0 : Nat) (t : Tr Value) : List (Nat × Operand) → Option (List (Nat × Value))
  | [] => some []
  | (i, o) :: r => match operand n0 t o with
    | some v => match parts n0 t r with
      | some vs => some ((i, v) :: vs)
      | none => none
    | none => none

noncomputable def beqL : List UInt8 → List UInt8 → Bool
  | [], [] => true
  | a :: x, b :: y => Nat.beq a.toNat b.toNat && beqL x y
  | _, _ => false

noncomputable def ltL : List UInt8 → List UInt8 → Bool
  | _, [] => false
  | [], _ :: _ => true
  | a :: x, b :: y => Nat.blt a.toNat b.toNat || (Nat.beq a.toNat b.toNat && ltL x y)

noncomputable def strOp (op : BinOp) (x y : List UInt8) : Option Value :=
  match op with
  | .add => cond (Nat.ble (x.length + y.length) 9223372036854775807) (some (.string ⟨⟨x ++ y⟩⟩)) none
  | .eql => some (.bool (beqL x y))
  | .neq => some (.bool (!beqL x y))
  | .lss => some (.bool (ltL x y))
  | .leq => some (.bool (ltL x y || beqL x y))
  | .gtr => some (.bool (!(ltL x y || beqL x y)))
  | .geq => some (.bool (!ltL x y))
  | _ => none

noncomputable def intOp (op : BinOp) (k : IntKind) (x y : Int) : Option Value :=
  match op with
  | .add => some (.int k (k.wrap (x + y)))
  | .sub => some (.int k (k.wrap (x - y)))
  | .mul => some (.int k (k.wrap (x * y)))
  | .quo => if y = 0 then none else some (.int k (k.wrap (x.tdiv y)))
  | .rem => if y = 0 then none else some (.int k (x.tmod y))
  | .and => some (.int k (k.wrap (BitVec.ofInt k.bits x &&& BitVec.ofInt k.bits y).toNat))
  | .or => some (.int k (k.wrap (BitVec.ofInt k.bits x ||| BitVec.ofInt k.bits y).toNat))
  | .xor => some (.int k (k.wrap (BitVec.ofInt k.bits x ^^^ BitVec.ofInt k.bits y).toNat))
  | .andNot => some (.int k (k.wrap (BitVec.ofInt k.bits x &&& ~~~ BitVec.ofInt k.bits y).toNat))
  | .eql => some (.bool (x == y))
  | .neq => some (.bool (x != y))
  | .lss => some (.bool (x < y))
  | .leq => some (.bool (x ≤ y))
  | .gtr => some (.bool (x > y))
  | .geq => some (.bool (x ≥ y))
  | _ => none

/-- Are two rows of fields equal? -/
noncomputable def eqF (T : Tb) (eq : TypeId → Value → Value → Option Bool) : List Field → List Value → List Value → Option Bool
  | [], _, _ => some true
  | f :: fs, xs, ys =>
    match part T f.type xs f.offset, part T f.type ys f.offset with
    | some a, some b => match eq f.type a b with
      | some true => eqF T eq fs xs ys
      | some false => some false
      | none => none
    | _, _ => none

/-- Are two values equal? Where memory need not be asked. -/
noncomputable def eqV (T : Tb) : Nat → TypeId → Value → Value → Option Bool
  | 0, _, _, _ => none
  | d + 1, t, x, y =>
    match T.und t, x, y with
    | some .bool, .bool a, .bool b => some (a == b)
    | some (.int _), .int k a, .int k' b => if k = k' then some (a == b) else none
    | some .string, .string a, .string b => some (beqL a.data.toList b.data.toList)
    | some (.pointer _), .pointer none, .pointer b => some b.isNone
    | some (.pointer _), .pointer _, .pointer none => some false
    | some (.pointer e), .pointer (some a), .pointer (some b) =>
      match T.size e with
      | some (_ + 1) => cond (Nat.beq a.block b.block) (some (Nat.beq a.off b.off)) none
      | _ => none
    | some (.interface _), .nilIface, .nilIface => some true
    | some (.interface _), .nilIface, .iface _ _ => some false
    | some (.interface _), .iface _ _, .nilIface => some false
    | some (.interface _), .iface tx vx, .iface ty vy =>
      if tx ≠ ty then some false else
      match T.ty.get tx with
      | some i => cond i.comparable (eqV T d tx vx vy) none
      | none => none
    | some (.struct fs), .agg xs, .agg ys => match T.cmp.get t with
      | some _ => eqF T (eqV T d) fs.toList xs.toList ys.toList
      | none => none
    | some (.slice _), .slice none _ _, .slice b _ _ => some b.isNone
    | some (.slice _), .slice _ _ _, .slice none _ _ => some false
    | some (.map _ _), .map none, .map b => some b.isNone
    | some (.map _ _), .map _, .map none => some false
    | some (.func _ _ _), .nilFunc, .nilFunc => some true
    | some (.func _ _ _), .nilFunc, .func _ _ _ => some false
    | some (.func _ _ _), .func _ _ _, .nilFunc => some false
    | _, _, _ => none
/-- Does the test for two nil values of an interface type let a comparison through? lit: one of the two is typed out. -/
noncomputable def guardV (T : Tb) (lit : Bool) (t : TypeId) (x y : Value) : Bool :=
  match x, y with
  | .nilIface, .nilIface => lit || (match T.und t with
    | some (.interface ms) => ms.toList.isEmpty
    | _ => false)
  | .agg _, .agg _ => (T.cmp.get t).isSome
  | .float _ _, _ => false
  | _, .float _ _ => false
  | _, _ => true

noncomputable def binV (T : Tb) (op : BinOp) (lit : Bool) (t : TypeId) (x y : Value) : Option Value :=
  match x, y with
  | .int k a, .int k' b =>
    match op with
    | .shl => if b < 0 then none else some (.int k (k.wrap (a * 2 ^ (min b.toNat k.bits))))
    | .shr => if b < 0 then none else some (.int k (a.fdiv (2 ^ (min b.toNat k.bits))))
    | _ => if k = k' then intOp op k a b else none
  | .string a, .string b => strOp op a.data.toList b.data.toList
  | .float _ _, _ => none
  | _, .float _ _ => none
  | .complex _ _ _, _ => none
  | x, y =>
    match op with
    | .eql => cond (guardV T lit t x y) ((eqV T 40 t x y).map Value.bool) none
    | .neq => cond (guardV T lit t x y) ((eqV T 40 t x y).map fun b => Value.bool (!b)) none
    | _ => none

noncomputable def isLit : Operand → Bool
  | .const _ => true
  | _ => false

noncomputable def unV (op : UnOp) (x : Value) : Option Value :=
  match op, x with
  | .neg, .int k n => some (.int k (k.wrap (0 - n)))
  | .xor, .int k n => some (.int k (k.wrap (BitVec.ofInt k.bits (if k.signed then -1 else k.max) ^^^ BitVec.ofInt k.bits n).toNat))
  | .not, .bool b => some (.bool !b)
  | _, _ => none

noncomputable def subL (l : List UInt8) (lo hi : Nat) : ByteArray := ⟨⟨(l.drop lo).take (hi - lo)⟩⟩

noncomputable def natOf (v : Value) : Option Nat :=
  match v with
  | .int _ (.ofNat n) => some n
  | _ => none

noncomputable def bytesOf (l : List UInt8) : List Value := l.map fun b => .int .u8 b.toNat

noncomputable def toBytes : List Value → Option (List UInt8)
  | [] => some []
  | .int .u8 (.ofNat n) :: r => cond (Nat.blt n 256) ((toBytes r).map (UInt8.ofNat n :: ·)) none
  | _ => none

/-- Equal keys, of kinds at which equal keys are the same. -/
noncomputable def plainKey : Value → Bool
  | .int _ _ | .string _ | .bool _ => true
  | _ => false

noncomputable def sameP : Value → Value → Bool
  | .int k a, .int j b => decide (k = j) && decide (a = b)
  | .string a, .string b => beqL a.data.toList b.data.toList
  | .bool a, .bool b => a == b
  | _, _ => false

noncomputable def sameL : List Value → List Value → Bool
  | [], [] => true
  | a :: x, b :: y => sameP a b && sameL x y
  | _, _ => false

/-- The same key, cell by cell. -/
noncomputable def sameK (a b : Value) : Bool :=
  match a with
  | .agg x => match b with
    | .agg y => sameL x.toList y.toList
    | _ => false
  | a => sameP a b

noncomputable def plainD : Option TypeDesc → Bool
  | some .bool => true
  | some (.int _) => true
  | some .string => true
  | _ => false

/-- May a value be a key? -/
noncomputable def checkK (T : Tb) (k : TypeId) (key : Value) : Bool :=
  match T.und k with
  | some (.struct fs) => match key with
    | .agg cs => fs.toList.all fun f => plainD (T.und f.type) && (part T f.type cs.toList f.offset).isSome
    | _ => false
  | d => plainD d && plainKey key

noncomputable def findKey (eq : Value → Value → Option Bool) (k : Value) : List (Value × Value) → Option (Option Value)
  | [] => some none
  | (k', v) :: r => match eq k k' with
    | some true => some (some v)
    | some false => findKey eq k r
    | none => none

noncomputable def putKey (eq : Value → Value → Option Bool) (k v : Value) : List (Value × Value) → Option (List (Value × Value))
  | [] => some [(k, v)]
  | (k', v') :: r => match eq k k' with
    | some true => cond (sameK k' k) (some ((k, v) :: r)) none
    | some false => (putKey eq k v r).map ((k', v') :: ·)
    | none => none

noncomputable def dropKey (eq : Value → Value → Option Bool) (k : Value) : List (Value × Value) → Option (List (Value × Value))
  | [] => some []
  | (k', v) :: r => match eq k k' with
    | some true => some r
    | some false => (dropKey eq k r).map ((k', v) :: ·)
    | none => none

noncomputable def reps : Nat → List Value → List Value
  | 0, _ => []
  | n + 1, z => z ++ reps n z

/-- A family that may be frozen from now on. -/
noncomputable def freeze (n0 : Nat) : List Nat → St → Option St
  | [], s => some s
  | id :: r, s =>
    match s.see id with
    | some ⟨.cells cs el ex _, fam⟩ =>
      match St.low { s with h := s.h.set id (some ⟨.cells cs el ex true, fam⟩) } n0 id with
      | some s => freeze n0 r s
      | none => none
    | some _ => none
    | none => freeze n0 r s

noncomputable def countL (c : UInt8) : List UInt8 → Nat
  | [] => 0
  | x :: r => cond (Nat.beq x.toNat c.toNat) (countL c r + 1) (countL c r)

noncomputable def indexL (c : UInt8) : List UInt8 → Nat → Int
  | [], _ => -1
  | x :: r, i => cond (Nat.beq x.toNat c.toNat) (.ofNat i) (indexL c r (i + 1))

noncomputable def preL : List UInt8 → List UInt8 → Bool
  | [], _ => true
  | _ :: _, [] => false
  | a :: x, b :: y => Nat.beq a.toNat b.toNat && preL x y

noncomputable def findL (s : List UInt8) : List UInt8 → Nat → Int
  | [], i => cond (preL s []) (.ofNat i) (-1)
  | x :: r, i => cond (preL s (x :: r)) (.ofNat i) (findL s r (i + 1))

noncomputable def extV (T : Tb) (st : St) (k : Ext) (args : List Value) : Option (Value × St) :=
  match k with
  | .noZero e => match args with
    | [.int .i64 (.ofNat n)] => match T.und e, T.size e with
      | some (.int .u8), some 1 => cond (Nat.ble n 1000000) (let r := st.new (.cells [] e false false); some (.slice (some ⟨r.1, 0, none⟩) n (UNK + 1), r.2)) none
      | _, _ => none
    | _ => none
  | .count => match args with
    | [.string s, .int .u8 c] => some (.int .i64 (countL (UInt8.ofNat c.toNat) s.data.toList), st)
    | _ => none
  | .indexByte => match args with
    | [.string s, .int .u8 c] => some (.int .i64 (indexL (UInt8.ofNat c.toNat) s.data.toList 0), st)
    | _ => none
  | .compare => match args with
    | [.string a, .string b] => some (.int .i64 (cond (ltL a.data.toList b.data.toList) (-1) (cond (ltL b.data.toList a.data.toList) 1 0)), st)
    | _ => none
  | .same => match args with
    | [x] => some (x, st)
    | _ => none

noncomputable def primV (k : Prim) (args : List Value) : Option Value :=
  match k, args with
  | .index, [.string a, .string b] => cond (Nat.blt a.data.toList.length 4294967281) (some (.int .i64 (findL b.data.toList a.data.toList 0))) none
  | _, _ => none

/-- Does an operation only look at its operands? -/
noncomputable def pureOp : Op → Bool
  | .move _ | .assign _ | .pick .. | .build .. | .nilCheck _ | .binOp .. | .unOp .. | .makeInterface .. | .makeFunc .. | .slice .. | .fieldAddr .. | .field .. | .indexAddr .. | .index .. | .extract .. => true
  | .call { callee := .builtin .min, .. } | .call { callee := .builtin .max, .. } => true
  | _ => false

section
variable (T : Tb)

abbrev Ans := Option (Value × St)

noncomputable def ret (st : St) (v : Option Value) : Ans := match v with | some v => some (v, st) | none => none
noncomputable def unit (s : Option St) : Ans := match s with | some s => some (.tuple #[], s) | none => none
noncomputable def ptrTo (b : Nat) : Value := .pointer (some ⟨b, 0, none⟩)

noncomputable def newA (st : St) (e : TypeId) (v : Value) : Ans :=
  let r := st.new (.cells (vcells v) e true false)
  some (ptrTo r.1, r.2)

noncomputable def allocA (st : St) (e : TypeId) : Ans := (T.zero e).bind fun z => newA st e z

noncomputable def placesL : List Field → Option (List (Nat × Nat))
  | [] => some []
  | f :: r => match T.size f.type, placesL r with
    | some n, some l => some ((f.offset, n) :: l)
    | _, _ => none

noncomputable def buildA (ty : TypeId) (vs : List (Nat × Value)) : Option Value :=
  match T.zero ty, T.und ty with
  | some z, some (.struct fs) =>
    match placesL T fs.toList with
    | some pl => (fillL (fun i => pl[i]?) (vcells z) vs).map fun l => .agg (mkL l)
    | none => none
  | some z, some (.array _ e) =>
    match T.size e with
    | some n => (fillL (fun i => some (i * n, n)) (vcells z) vs).map fun l => .agg (mkL l)
    | none => none
  | _, _ => none

noncomputable def buildSliceA (st : St) (ty : TypeId) (len : Nat) (vs : List (Nat × Value)) : Ans :=
  match T.und ty with
  | some (.slice e) =>
    match T.size e, T.zero e with
    | some n, some z =>
      cond (Nat.ble (len * n) 16777216 && (Nat.ble len 16777216 && Nat.beq (vcells z).length n))
        (match fillL (fun i => some (i * n, n)) (reps len (vcells z)) vs with
         | some l => let r := st.new (.cells l e true false); some (.slice (some ⟨r.1, 0, none⟩) len len, r.2)
         | none => none) none
    | _, _ => none
  | _ => none

noncomputable def loadA (st : St) (ty : TypeId) (x : Value) : Ans :=
  match x with
  | .pointer (some a) =>
    match T.agg ty, T.size ty with
    | some true, some n => ret st ((st.cellsAt a.block a.off n).map fun l => .agg (mkL l))
    | some false, some _ => match st.cellsAt a.block a.off 1 with
      | some [v] => some (v, st)
      | _ => none
    | _, _ => none
  | _ => none

noncomputable def storeA (st : St) (ty : TypeId) (x v : Value) : Ans :=
  match x with
  | .pointer (some a) =>
    match T.size ty with
    | some n => cond (Nat.beq (vcells v).length n) (unit (St.store T.n0 st a.block a.off (vcells v))) none
    | none => none
  | _ => none

noncomputable def ret1 (s : Option St) (v : Value) : Ans := match s with | some s => some (v, s) | none => none

noncomputable def nilCheckA (x : Value) : Option Value :=
  match x with
  | .pointer (some a) => some (.pointer (some a))
  | .func (.func f) a b => some (.func (.func f) a b)
  | .func (.yield l) a b => some (.func (.yield l) a b)
  | _ => none

noncomputable def convertA (st : St) (src dst : TypeId) (x : Value) : Ans :=
  match T.und src, T.und dst with
  | some (.int _), some (.int k) => match x with
    | .int _ n => some (.int k (k.wrap n), st)
    | _ => none
  | some (.int _), some .string => match x with
    | .int _ n => some (.string (Utf8.encode n), st)
    | _ => none
  | some .string, some .string => match x with
    | .string s => some (.string s, st)
    | _ => none
  | some .string, some (.slice e) => match x, T.und e with
    | .string s, some (.int .u8) =>
      let r := st.new (.cells (bytesOf s.data.toList) e false false)
      some (.slice (some ⟨r.1, 0, none⟩) s.data.toList.length (UNK + 1), r.2)
    | _, _ => none
  | some (.pointer ty), some .unsafePointer => match x with
    | .pointer none => some (.pointer none, st)
    | .pointer (some a) => match T.size ty, st.see a.block with
      | some (_ + 1), some ⟨.cells cs _ _ _, _⟩ => cond (Nat.blt a.off cs.length) (some (.pointer (some a), st)) none
      | _, _ => none
    | _ => none
  | some .unsafePointer, some (.pointer ty) => match x with
    | .pointer none => some (.pointer none, st)
    | .pointer (some a) => match T.undId ty, T.size ty, st.see a.block with
      | some u, some (m + 1), some ⟨.cells cs el true _, _⟩ =>
        match T.undId el, T.size el with
        | some u', some n => cond (Nat.beq u u' && (Nat.beq a.off 0 && (Nat.beq cs.length n && Nat.beq n (m + 1)))) (some (.pointer (some a), st)) none
        | _, _ => none
      | _, _, _ => none
    | _ => none
  | some (.slice e), some (.slice _) => match x, T.und e with
    | .slice (some a) n c, some (.int .u8) => match st.see a.block with
      | some ⟨.cells cs el ex fz, fam⟩ => cond (Nat.beq src dst && Nat.blt c UNKE) (ret1 (St.low { st with h := st.h.set a.block (some ⟨.cells cs el ex fz, fam⟩) } T.n0 a.block) (.slice (some a) n c)) none
      | _ => none
    | _, _ => none
  | some (.slice e), some .string => match x, T.und e with
    | .slice none _ _, some (.int .u8) => some (.string ⟨⟨[]⟩⟩, st)
    | .slice (some a) n _, some (.int .u8) => cond (Nat.beq n 0) (some (.string ⟨⟨[]⟩⟩, st)) (match (st.cellsAt a.block a.off n).bind toBytes with
      | some l => some (.string ⟨⟨l⟩⟩, st)
      | none => none)
    | _, _ => none
  | _, _ => none

noncomputable def ifaceA (ty : TypeId) (v : Value) : Option Value :=
  match T.und ty with
  | some (.interface _) => none
  | some _ => some (.iface ty v)
  | none => none

noncomputable def funcA (fn : Fn) (a b : List Value) : Option Value :=
  match fn with
  | .func f => some (.func (.func f) (mkL a) (mkL b))
  | _ => none

noncomputable def newMap (st : St) : Ans := let r := st.new (.map []); some (.map (some r.1), r.2)

noncomputable def makeMapA (st : St) (ty : TypeId) (x : Value) : Ans :=
  match T.und ty with
  | some (.map _ _) => match x with
    | .int _ _ => newMap st
    | _ => none
  | _ => none

noncomputable def makeSliceA (st : St) (ty : TypeId) (l c : Value) : Ans :=
  match T.und ty with
  | some (.slice e) => match natOf l, natOf c, T.size e, T.zero e with
    | some l, some c, some n, some z =>
      cond (Nat.ble l c && (Nat.ble c 100000 && (Nat.beq (vcells z).length n && Nat.ble ((T.ty.get e).elim 0 (·.bytes)) 1000000)))
        (let r := st.new (.cells (reps c (vcells z)) e true false); some (.slice (some ⟨r.1, 0, none⟩) l c, r.2)) none
    | _, _, _, _ => none
  | _ => none

/-- A bound of a slice expression: what is told, or what stands in its place. -/
noncomputable def bound (o : Option Value) (d : Nat) : Option Nat :=
  match o with
  | none => some d
  | some v => natOf v

noncomputable def sliceStr (l : List UInt8) (lo hi : Option Value) : Option Value :=
  match bound lo 0, bound hi l.length with
  | some a, some b => cond (Nat.ble a b && Nat.ble b l.length) (some (.string (subL l a b))) none
  | _, _ => none

noncomputable def sliceKnown (n : Nat) (a : Addr) (len cap : Nat) (lo hi mx : Option Value) : Option Value :=
  match bound lo 0, bound hi len, bound mx cap with
  | some l, some h, some m =>
    cond (Nat.ble l h && (Nat.ble h m && Nat.ble m cap)) (some (.slice (some (cond (Nat.beq m l) a ⟨a.block, a.off + l * n, none⟩)) (h - l) (m - l))) none
  | _, _, _ => none

noncomputable def sliceOpen (n : Nat) (a : Addr) (len u : Nat) (lo hi : Option Value) : Option Value :=
  match bound lo 0, bound hi len with
  | some l, some h => cond (Nat.beq u n && (Nat.ble n 1000000 && (Nat.ble l h && Nat.ble h len)))
      (some (cond (Nat.blt l len || Nat.beq l 0) (.slice (some ⟨a.block, a.off + l * n, none⟩) (h - l) (UNK + u)) (.slice (some ⟨0, 0, none⟩) 0 UNKE)))
      (cond (Nat.beq l 0 && (Nat.beq h 0 && (Nat.beq len 0 && Nat.beq u UNK))) (some (.slice (some ⟨0, 0, none⟩) 0 UNKE)) none)
  | _, _ => none

noncomputable def sliceShut (n : Nat) (a : Addr) (len : Nat) (lo hi : Option Value) (mx : Value) : Option Value :=
  match bound lo 0, bound hi len, natOf mx with
  | some l, some h, some m => cond (Nat.ble l h && (Nat.ble h m && (Nat.ble m len && ((Nat.blt l m || (Nat.beq l 0 && Nat.blt 0 len)) && Nat.blt m UNK)))) (some (.slice (some ⟨a.block, a.off + l * n, none⟩) (h - l) (m - l))) none
  | _, _, _ => none

noncomputable def sliceA (ty : TypeId) (x : Value) (lo hi mx : Option Value) : Option Value :=
  match T.und ty with
  | some .string => match x, mx with
    | .string s, none => sliceStr s.data.toList lo hi
    | _, _ => none
  | some (.slice e) => match T.size e with
    | some n => match x with
      | .slice none _ _ => cond (isSomeMax mx && hi.isNone) none (match bound lo 0, bound hi 0, bound mx 0 with
        | some l, some h, some m => cond (Nat.beq l 0 && (Nat.beq h 0 && Nat.beq m 0)) (some (.slice none 0 0)) none
        | _, _, _ => none)
      | .slice (some a) len cap =>
        cond (Nat.blt cap UNK) (cond (isSomeMax mx && hi.isNone) none (sliceKnown n a len cap lo hi mx))
          (match mx with
           | none => sliceOpen n a len (cap - UNK) lo hi
           | some m => cond hi.isNone none (sliceShut n a len lo hi m))
      | _ => none
    | none => none
  | _ => none
where isSomeMax (mx : Option Value) : Bool := mx.isSome

noncomputable def fieldAddrA (ty : TypeId) (x : Value) (f : Nat) : Option Value :=
  match T.und ty with
  | some (.struct fs) => match x with
    | .pointer (some a) => match fs.toList[f]? with
      | some fd => match T.size fd.type with
        | some (_ + 1) => some (.pointer (some ⟨a.block, a.off + fd.offset, none⟩))
        | _ => none
      | none => none
    | _ => none
  | _ => none

noncomputable def fieldA (ty : TypeId) (x : Value) (f : Nat) : Option Value :=
  match T.und ty with
  | some (.struct fs) => match x with
    | .agg cs => match fs.toList[f]? with
      | some fd => part T fd.type cs.toList fd.offset
      | none => none
    | _ => none
  | _ => none

noncomputable def indexAddrA (ty : TypeId) (x ix : Value) : Option Value :=
  match T.und ty with
  | some (.slice e) => match T.size e, natOf ix with
    | some n, some i => match x with
      | .slice (some a) len _ => cond (Nat.blt i len) (some (.pointer (some ⟨a.block, a.off + i * n, none⟩))) none
      | _ => none
    | _, _ => none
  | some (.array len e) => match T.size e, natOf ix with
    | some n, some i => match x with
      | .pointer (some a) => cond (Nat.blt i len) (some (.pointer (some ⟨a.block, a.off + i * n, none⟩))) none
      | _ => none
    | _, _ => none
  | _ => none

noncomputable def indexA (ty : TypeId) (x ix : Value) : Option Value :=
  match T.und ty with
  | some .string => match natOf ix with
    | some i => match x with
      | .string s => (s.data.toList[i]?).map fun b => .int .u8 b.toNat
      | _ => none
    | none => none
  | some (.array len e) => match T.size e, natOf ix with
    | some n, some i => match x with
      | .agg cs => cond (Nat.blt i len) (part T e cs.toList (i * n)) none
      | _ => none
    | _, _ => none
  | _ => none

noncomputable def entriesA (st : St) (m : Option Nat) : Option (List (Value × Value)) :=
  match m with
  | none => some []
  | some r => match st.see r with
    | some ⟨.map es, _⟩ => some es
    | _ => none

noncomputable def entriesP (st : St) (m : Option Nat) : Option (List (Value × Value)) :=
  match m with
  | none => none
  | some r => match st.see r with
    | some ⟨.pmap es, _⟩ => some es
    | _ => none

noncomputable def lookupA (st : St) (ty : TypeId) (x key : Value) (ok : Bool) : Option Value :=
  match T.und ty with
  | some (.map k e) => match T.und k, T.zero e with
    | some _, some z => match x with
      | .map m => match entriesA st m with
        | some es =>
          match cond (checkK T k key) (findKey (eqV T 40 k) key es) none with
          | some (some v) => some (cond ok (.tuple #[v, .bool true]) v)
          | some none => some (cond ok (.tuple #[z, .bool false]) z)
          | none => none
        | none => match entriesP st m with
          | some es =>
            match cond (checkK T k key) (findKey (eqV T 40 k) key es) none with
            | some (some v) => some (cond ok (.tuple #[v, .bool true]) v)
            | _ => none
          | none => none
      | _ => none
    | _, _ => none
  | _ => none

noncomputable def mapUpdateA (st : St) (ty : TypeId) (x key v : Value) : Ans :=
  match T.und ty with
  | some (.map k _) => match T.und k with
    | some _ => match x with
      | .map (some r) => match st.see r with
        | some ⟨.map es, fam⟩ =>
          match cond (checkK T k key) (putKey (eqV T 40 k) key v es) none with
          | some es' => unit (St.low { st with h := st.h.set r (some ⟨.map es', fam⟩) } T.n0 r)
          | none => none
        | _ => none
      | _ => none
    | none => none
  | _ => none

noncomputable def deleteA (st : St) (ty : TypeId) (x key : Value) : Ans :=
  match T.und ty with
  | some (.map k _) => match T.und k with
    | some _ => match x with
      | .map (some r) => match st.see r with
        | some ⟨.map es, fam⟩ =>
          match cond (checkK T k key) (dropKey (eqV T 40 k) key es) none with
          | some es' => unit (St.low { st with h := st.h.set r (some ⟨.map es', fam⟩) } T.n0 r)
          | none => none
        | _ => none
      | _ => none
    | none => none
  | _ => none

noncomputable def rangeA (st : St) (ty : TypeId) (x : Value) : Ans :=
  match T.und ty with
  | some .string => match x with
    | .string s => let r := st.new (.siter s 0); some (ptrTo r.1, r.2)
    | _ => none
  | _ => none

noncomputable def nextA (st : St) (x : Value) : Ans :=
  match x with
  | .pointer (some a) =>
    match st.see a.block with
    | some ⟨.siter s pos, fam⟩ =>
      cond (Nat.beq a.off 0)
      (cond (Nat.blt pos s.data.toList.length)
        (match St.low { st with h := st.h.set a.block (some ⟨.siter s (pos + (Utf8.decode s pos).2), fam⟩) } T.n0 a.block with
         | some st => some (.tuple #[.bool true, .int .i64 pos, .int .i32 (Utf8.decode s pos).1], st)
         | none => none)
        (some (.tuple #[.bool false], st))) none
    | _ => none
  | _ => none

noncomputable def assertV (x : Value) (ty : TypeId) (ok : Bool) : Option Value :=
  match x with
  | .iface t v => cond ok
      (match T.zero ty with
       | some z => some (cond (Nat.beq t ty) (.tuple #[v, .bool true]) (.tuple #[z, .bool false]))
       | none => none)
      (cond (Nat.beq t ty) (some v) none)
  | .nilIface => cond ok
      (match T.zero ty with
       | some z => some (.tuple #[z, .bool false])
       | none => none) none
  | _ => none

/-- A type assertion to a type that is no interface. -/
noncomputable def assertA (x : Value) (ty : TypeId) (ok : Bool) : Option Value :=
  match T.und ty with
  | some (.interface _) => none
  | some _ => assertV T x ty ok
  | none => none

noncomputable def extractA (x : Value) (i : Nat) : Option Value :=
  match x with
  | .tuple vs => vs.toList[i]?
  | _ => none

/-- What an append or a copy takes its cells from: the cells, and how many elements. -/
noncomputable def sourceA (st : St) (size : Nat) (x : Value) : Option (List Value × Nat) :=
  match x with
  | .slice none _ _ => some ([], 0)
  | .slice (some b) n _ => cond (Nat.beq n 0) (some ([], 0)) ((st.cellsAt b.block b.off (n * size)).map fun l => (l, n))
  | .string z => cond (Nat.beq size 1) (some (bytesOf z.data.toList, z.data.toList.length)) none
  | _ => none

/-- A new block that an append has made. -/
noncomputable def grownA (st : St) (elem size : Nat) (l : List Value) (n : Nat) : Ans :=
  let r := st.new (.cells l elem false false)
  some (.slice (some ⟨r.1, 0, none⟩) n (UNK + size), r.2)

/-- One more block of a family, beside one of it. -/
noncomputable def St.add (st : St) (n0 b : Nat) (o : Ob) (fam : Nat) : Option St :=
  St.low { st with h := st.h.set st.next (some ⟨o, fam⟩), next := st.next + 1, mem := st.mem.set fam (some (st.next :: members st fam)) } n0 b

noncomputable def appendOpen (st : St) (elem size : Nat) (a : Addr) (len n : Nat) (nw : List Value) : Ans :=
  match st.see a.block with
  | some ⟨.cells cs el _ false, fam⟩ =>
    cond (Nat.beq el elem && Nat.ble (len * size) cs.length)
      (match poison T.n0 (len * size) a.block (members st fam) st with
       | some st1 =>
         match St.low { st1 with h := st1.h.set a.block (some ⟨.cells (cs.take (len * size)) el false false, fam⟩) } T.n0 a.block with
         | some st2 =>
           match St.add st2 T.n0 a.block (.cells (cs.take (len * size) ++ nw) el false false) fam with
           | some st3 => some (.slice (some ⟨st2.next, 0, none⟩) (len + n) (UNK + size), st3)
           | none => none
         | none => none
       | none => none) none
  | _ => none

noncomputable def appendV (st : St) (elem size : Nat) (s : Value) (nw : List Value) (n : Nat) : Ans :=
  match s with
  | .slice none _ _ => cond (Nat.beq n 0) (some (s, st)) (cond (Nat.ble n 1000000) (grownA st elem size nw n) none)
  | .slice (some a) len cap =>
    cond (Nat.beq n 0) (cond (Nat.ble len cap) (some (s, st)) none)
    (cond (Nat.ble (len + n) 1000000)
    (cond (Nat.blt cap UNK)
      (cond (Nat.ble (len + n) cap)
        (ret1 (St.store T.n0 st a.block (a.off + len * size) nw) (.slice (some a) (len + n) cap))
        (match st.cellsAt a.block a.off (len * size) with
         | some old => grownA st elem size (old ++ nw) (len + n)
         | none => none))
      (cond (Nat.beq cap (UNK + size) && Nat.beq a.off 0) (appendOpen T st elem size a len n nw) none)) none)
  | _ => none

noncomputable def appendA (st : St) (sT : TypeId) (xT : Option TypeId) (s x : Value) : Ans :=
  match T.und sT, xT.bind T.und with
  | some (.slice elem), some xd =>
    match T.ty.get elem with
    | some i =>
      match i.zero with
      | some z =>
        cond (closedV 40 z && (Nat.beq (vcells z).length i.size && (Nat.ble 1 i.size && (Nat.ble i.size 1000000 && (Nat.ble i.bytes 1000000 && notInt xd)))))
        (match sourceA st i.size x with
         | some (nw, n) => cond (nw.all oneC && Nat.beq nw.length (n * i.size)) (appendV T st elem i.size s nw n) none
         | none => none) none
      | none => none
    | none => none
  | _, _ => none
where notInt : TypeDesc → Bool
  | .int _ => false
  | _ => true

noncomputable def copyA (st : St) (dT : TypeId) (d src : Value) : Ans :=
  match T.und dT with
  | some (.slice e) => match T.size e with
    | some n => match d with
      | .slice d dl _ =>
        match sourceN st n dl src with
        | some (l, k) => match d with
          | some a => ret1 (St.store T.n0 st a.block a.off l) (.int .i64 k)
          | none => some (.int .i64 k, st)
        | none => none
      | _ => none
    | none => none
  | _ => none
where sourceN (st : St) (n dl : Nat) (src : Value) : Option (List Value × Nat) :=
  match src with
  | .slice none _ _ => some ([], 0)
  | .slice (some a) m _ => cond (Nat.beq (minN m dl) 0) (some ([], 0)) ((st.cellsAt a.block a.off (minN m dl * n)).map fun l => (l, minN m dl))
  | .string z => cond (Nat.beq n 1) (some ((bytesOf z.data.toList).take (minN z.data.toList.length dl), minN z.data.toList.length dl)) none
  | _ => none

noncomputable def lenA (st : St) (ty : TypeId) (x : Value) : Option Value :=
  match T.und ty with
  | some .string => match x with
    | .string s => some (.int .i64 s.data.toList.length)
    | _ => none
  | some (.slice _) => match x with
    | .slice _ n _ => some (.int .i64 n)
    | _ => none
  | some (.map _ _) => match x with
    | .map m => (entriesA st m).map fun es => .int .i64 es.length
    | _ => none
  | _ => none

noncomputable def capA (ty : TypeId) (x : Value) : Option Value :=
  match T.und ty with
  | some (.slice _) => match x with
    | .slice _ _ n => cond (Nat.blt n UNK) (some (.int .i64 n)) none
    | _ => none
  | _ => none

noncomputable def stringDataA (x : Value) : Option Value :=
  match x with
  | .slice none _ _ => some (.pointer none)
  | .slice (some a) (_ + 1) (_ + 1) => some (.pointer (some a))
  | _ => none

noncomputable def unsafeStringA (st : St) (ts : List TypeId) (p n : Value) : Ans :=
  match ts, n with
  | [pT, _], .int .i64 (.ofNat 0) => match p with
    | .pointer _ => some (.string ⟨⟨[]⟩⟩, st)
    | _ => none
  | [pT, _], .int .i64 (.ofNat (n + 1)) => match p with
    | .pointer (some a) => unsafeAt st pT a (n + 1)
    | _ => none
  | _, _ => none
where unsafeAt (st : St) (pT : TypeId) (a : Addr) (n : Nat) : Ans :=
  match st.see a.block with
  | some ⟨.cells _ el _ _, fam⟩ => match (st.cellsAt a.block 0 n).bind toBytes with
    | some l => match T.und pT with
      | some (.pointer u) => match T.size u with
        | some m => cond (Nat.beq m 1 && (Nat.beq u el && (Nat.beq a.off 0 && Nat.ble n 1000000000)))
          (ret1 (freeze T.n0 (members st fam) st) (.string ⟨⟨l⟩⟩)) none
        | none => none
      | _ => none
    | none => none
  | _ => none

noncomputable def min2A (big : Bool) (x y : Value) : Option Value :=
  match x, y with
  | .int k x, .int j y => if k = j then some (.int k (cond big (if x < y then y else x) (if y < x then y else x))) else none
  | _, _ => none

noncomputable def builtinA (st : St) (b : Builtin) (ts : List TypeId) (args : List Value) : Ans :=
  match b with
  | .len => match ts, args with
    | t :: _, [x] => ret st (lenA T st t x)
    | _, _ => none
  | .cap => match ts, args with
    | t :: _, [x] => ret st (capA T t x)
    | _, _ => none
  | .append => match ts, args with
    | t :: r, [s, x] => appendA T st t r.head? s x
    | _, _ => none
  | .copy => match ts, args with
    | t :: _, [d, s] => copyA T st t d s
    | _, _ => none
  | .delete => match ts, args with
    | t :: _, [m, k] => deleteA T st t m k
    | _, _ => none
  | .min => match args with
    | [x, y] => ret st (min2A false x y)
    | _ => none
  | .max => match args with
    | [x, y] => ret st (min2A true x y)
    | _ => none
  | .unsafeSliceData => match args with
    | [x] => ret st (stringDataA x)
    | _ => none
  | .unsafeString => match args with
    | [p, n] => unsafeStringA T st ts p n
    | _ => none
  | _ => none

variable (call : Nat → List Value → St → Option (Out × St))

/-- What an operation comes to. -/
inductive Rs where
  | val (v : Value)
  | pan (v : Value)
  | dfr (f : Nat) (args : List Value)

noncomputable def vals (a : Ans) : Option (Rs × St) := match a with | some (v, st) => some (.val v, st) | none => none

noncomputable def callA (st : St) (f : Value) (args : List Value) : Option (Rs × St) :=
  match f with
  | .func (.func f) first cap =>
    match T.ext.get f with
    | some k => vals (extV T st k (first.toList ++ (args ++ cap.toList)))
    | none => match T.fn.get f with
      | some fn => cond (fn.body.isSome && Nat.blt f UNK) (match call f (first.toList ++ (args ++ cap.toList)) st with
        | some (.val v, st) => some (.val v, st)
        | some (.pans v, st) => some (.pan v, st)
        | _ => none) none
      | none => none
  | .func (.yield l) first cap => match call (UNK + l) (first.toList ++ (args ++ cap.toList)) st with
    | some (.val v, st) => some (.val v, st)
    | _ => none
  | _ => none

noncomputable def deferA (st : St) (f : Value) (args : List Value) : Option (Rs × St) :=
  match f with
  | .func (.func f) first cap => cond (Nat.blt f UNK) (some (.dfr f (first.toList ++ (args ++ cap.toList)), st)) none
  | _ => none

noncomputable def panicA (st : St) (x : Value) : Option (Rs × St) :=
  match x with
  | .iface t v => some (.pan (.iface t v), st)
  | _ => none

noncomputable def optV (t : Tr Value) (o : Option Operand) : Option (Option Value) :=
  match o with
  | none => some none
  | some o => (operand T.n0 t o).map some

noncomputable def evalOp (t : Tr Value) (o : Oper) (st : St) : Ans :=
  match o.op with
  | .move x => ret st (operand T.n0 t x)
  | .assign x => ret st (operand T.n0 t x)
  | .pick c a b => (operand T.n0 t c).bind fun c => (operand T.n0 t a).bind fun a => (operand T.n0 t b).bind fun b => match c with
    | .bool q => some (cond q a b, st)
    | _ => none
  | .alloc e => allocA T st e
  | .box e x => (operand T.n0 t x).bind fun v => newA st e v
  | .build ty ps => (parts T.n0 t ps.toList).bind fun vs => ret st (buildA T ty vs)
  | .buildSlice ty len ps => (parts T.n0 t ps.toList).bind fun vs => buildSliceA T st ty len vs
  | .load ty x => (operand T.n0 t x).bind fun v => loadA T st ty v
  | .store ty x y => (operand T.n0 t x).bind fun a => (operand T.n0 t y).bind fun v => storeA T st ty a v
  | .nilCheck x => (operand T.n0 t x).bind fun v => ret st (nilCheckA v)
  | .binOp op ty x y _ => (operand T.n0 t x).bind fun a => (operand T.n0 t y).bind fun b => ret st (binV T op (isLit x || isLit y) ty a b)
  | .unOp op _ x => (operand T.n0 t x).bind fun a => ret st (unV op a)
  | .convert src dst x => (operand T.n0 t x).bind fun a => convertA T st src dst a
  | .makeInterface ty x => (operand T.n0 t x).bind fun v => ret st (ifaceA T ty v)
  | .makeFunc fn first captured => (operands T.n0 t first.toList).bind fun a => (operands T.n0 t captured.toList).bind fun b => ret st (funcA fn a b)
  | .makeMap _ none => newMap st
  | .makeMap ty (some x) => (operand T.n0 t x).bind fun v => makeMapA T st ty v
  | .makeSlice ty l c => (operand T.n0 t l).bind fun l => (operand T.n0 t c).bind fun c => makeSliceA T st ty l c
  | .slice ty x lo hi mx => (operand T.n0 t x).bind fun v => (optV T t lo).bind fun lo => (optV T t hi).bind fun hi => (optV T t mx).bind fun mx => ret st (sliceA T ty v lo hi mx)
  | .fieldAddr ty x f => (operand T.n0 t x).bind fun v => ret st (fieldAddrA T ty v f)
  | .field ty x f => (operand T.n0 t x).bind fun v => ret st (fieldA T ty v f)
  | .indexAddr ty x ix => (operand T.n0 t x).bind fun v => (operand T.n0 t ix).bind fun i => ret st (indexAddrA T ty v i)
  | .index ty x ix => (operand T.n0 t x).bind fun v => (operand T.n0 t ix).bind fun i => ret st (indexA T ty v i)
  | .lookup ty x ix ok => (operand T.n0 t x).bind fun v => (operand T.n0 t ix).bind fun i => ret st (lookupA T st ty v i ok)
  | .mapUpdate ty x ix y => (operand T.n0 t x).bind fun m => (operand T.n0 t ix).bind fun k => (operand T.n0 t y).bind fun v => mapUpdateA T st ty m k v
  | .insert ty x ix y => (operand T.n0 t x).bind fun m => (operand T.n0 t ix).bind fun k => (operand T.n0 t y).bind fun v => mapUpdateA T st ty m k v
  | .range ty x => (operand T.n0 t x).bind fun v => rangeA T st ty v
  | .next x true => (operand T.n0 t x).bind fun v => nextA T st v
  | .extract x i => (operand T.n0 t x).bind fun v => ret st (extractA v i)
  | .typeAssert x _ ty ok => (operand T.n0 t x).bind fun v => ret st (assertA T v ty ok)
  | _ => none

noncomputable def evalAny (t : Tr Value) (o : Oper) (st : St) : Option (Rs × St) :=
  match o.op with
  | .call c =>
    (operands T.n0 t c.args.toList).bind fun args =>
      match c.callee with
      | .value f => (operand T.n0 t f).bind fun f => callA T call st f args
      | .invoke r m => (operand T.n0 t r).bind fun v => match v with
        | .iface ty v => (match T.meth ty m with
          | some g => callA T call st (.func (.func g) ⟨[v]⟩ ⟨[]⟩) args
          | none => none)
        | _ => none
      | .builtin b => vals (builtinA T st b c.argTypes.toList args)
  | .defer c =>
    (operands T.n0 t c.args.toList).bind fun args =>
      match c.callee with
      | .value f => (operand T.n0 t f).bind fun f => deferA st f args
      | _ => none
  | .panic x => (operand T.n0 t x).bind fun x => panicA st x
  | _ => vals (evalOp T t o st)

noncomputable def wantedA (ops : List Oper) (t : Tr Value) (o : Oper) : Option Bool :=
  match o.guard with
  | none => some true
  | some (j, want) => match (ops[j]?).bind (·.dst) with
    | some d => match t.get d with
      | some (.bool b) => some (b == want)
      | some (.float _ _) => none
      | some _ => some false
      | none => none
    | none => some false

noncomputable def putT (nt : Nat) (t : Tr Value) (dst : Option Nat) (v : Value) : Option (Tr Value) :=
  match dst with
  | none => some t
  | some d => cond (Nat.blt d nt) (some (t.set d (some v))) none

/-- What came of an operation, or of a row of them: the frame, or a panic. -/
abbrev Got := Option ((Fr × Option Value) × St)

noncomputable def putF (nt : Nat) (fr : Fr) (dst : Option Nat) (v : Value) (st : St) : Got :=
  match putT nt fr.t dst v with
  | some t => some ((⟨t, fr.ds⟩, none), st)
  | none => none

/-- What an operation comes to by the table for unknown values. -/
noncomputable def tokA (t : Tr Value) (o : Oper) (st : St) : Option (Rs × St) :=
  match operands T.n0 t o.op.operands.toList with
  | some vs => match T.tk o.op vs with
    | some v => some (.val v, st)
    | none => none
  | none => none

/-- What an operation comes to, by what is known of the temporaries. -/
noncomputable def runVal (ops : List Oper) (o : Oper) (t : Tr Value) (st : St) : Option (Rs × St) :=
  match wantedA ops t o with
  | some true => match evalAny T call t o st with
    | some x => some x
    | none => tokA T t o st
  | some false => some (.val (.tuple #[]), st)
  | none => none

noncomputable def runOp (ops : List Oper) (nt : Nat) (o : Oper) (fr : Fr) (st : St) : Got :=
  match runVal T call ops o fr.t st with
  | some (.val v, st) => putF nt fr o.dst v st
  | some (.pan v, st) => some ((fr, some v), st)
  | some (.dfr f args, st) => putF nt ⟨fr.t, (f, args) :: fr.ds⟩ o.dst (.tuple #[]) st
  | none => none

noncomputable def runOps (ops : List Oper) (nt : Nat) : List Oper → Fr → St → Got
  | [], fr, st => some ((fr, none), st)
  | o :: r, fr, st => match runOp T call ops nt o fr st with
    | some ((fr, none), st) => runOps ops nt r fr st
    | x => x

/-- What is known of an operation that has been carried out: its number, its destination, the temporaries that it asks, the bits of what stands before it; the blocks that it looks at (none: any); the old blocks that it has written; its new blocks' numbers. -/
structure Rec where
  i : Nat
  dst : Option Nat
  asks : List Nat
  rd : Option (List Nat)
  wr : List Nat
  lo : Nat
  hi : Nat

/-- The operations that must stand before an operation, as bits. -/
noncomputable def predsOf (o : Oper) (acc : List (Nat × Nat)) : Nat :=
  o.after.toList.foldl (fun s e => cond (Region.binds .any e) (s ||| (1 <<< e.on) ||| ((acc.lookup e.on).getD 0)) s) 0

noncomputable def blockOf (t : Tr Value) (x : Operand) : Option (List Nat) :=
  match operand T.n0 t x with
  | some (.pointer (some a)) => some [a.block]
  | some (.slice (some a) _ _) => some [a.block]
  | some (.map (some r)) => some [r]
  | _ => some []

noncomputable def insN (x : Nat) : List Nat → List Nat
  | [] => [x]
  | y :: r => cond (Nat.ble x y) (cond (Nat.beq x y) (y :: r) (x :: y :: r)) (y :: insN x r)

noncomputable def sortN : List Nat → List Nat
  | [] => []
  | x :: r => insN x (sortN r)

/-- The blocks that an operation looks at, if it looks at few. -/
noncomputable def readsOf (st : St) (t : Tr Value) (op : Op) : Option (List Nat) :=
  match op with
  | .store _ x _ => match operand T.n0 t x with
    | some (.pointer (some a)) => match st.see a.block with
      | some en => some (sortN (members st en.fam))
      | none => none
    | _ => none
  | .move _ | .assign _ | .pick .. | .build .. | .nilCheck _ | .binOp .. | .unOp .. | .makeInterface .. | .makeFunc .. | .slice .. | .fieldAddr .. | .field .. | .indexAddr .. | .index .. | .extract .. | .typeAssert .. => some []
  | .alloc _ | .box .. | .buildSlice .. | .makeMap .. | .makeSlice .. | .range .. => some []
  | .load _ x => blockOf T t x
  | .convert src dst x => match T.und src, T.und dst with
    | some (.int _), some (.int _) => some []
    | some (.int _), some .string => some []
    | some .string, some (.slice _) => some []
    | some (.slice _), some .string => blockOf T t x
    | _, _ => none
  | .lookup _ x _ _ => blockOf T t x
  | .call { callee := .builtin .min, .. } => some []
  | .call { callee := .builtin .max, .. } => some []
  | .call { callee := .builtin .len, args, .. } => match args.toList with
    | [x] => blockOf T t x
    | _ => none
  | _ => none

/-- Hides all numbers but some, which must be in order. -/
noncomputable def allBut (hi : Nat) : Nat → List Nat → List (Nat × Nat)
  | lo, [] => [(lo, hi)]
  | lo, b :: r => (lo, minN b hi) :: allBut hi (b + 1) r

noncomputable def memN (x : Nat) : List Nat → Bool
  | [] => false
  | y :: r => Nat.beq x y || memN x r

noncomputable def disj : List Nat → List Nat → Bool
  | [], _ => true
  | x :: r, l => !(memN x l) && disj r l

/-- May two operations stand in either order? -/
noncomputable def apart (rd1 : Option (List Nat)) (wr1 : List Nat) (rd2 : Option (List Nat)) (wr2 : List Nat) : Bool :=
  clear rd1 wr2 && clear rd2 wr1
where
  clear (rd : Option (List Nat)) (wr : List Nat) : Bool :=
    match wr with
    | [] => true
    | _ :: _ => match rd with
      | some l => disj l wr
      | none => false

/-- The temporaries that an operation asks. -/
noncomputable def asksOf (ops : List Oper) (o : Oper) : List Nat :=
  (o.op.operands.toList.filterMap fun | .tmp t => some t | _ => none) ++
  (match o.guard with
   | some (g, _) => match (ops[g]?).bind (·.dst) with
     | some d => [d]
     | none => []
   | none => [])

noncomputable def isDst (d : Nat) : List Rec → Bool
  | [] => false
  | x :: r => (match x.dst with | some e => Nat.beq d e | none => false) || isDst d r

/-- Of the temporaries those that an operation asks and that nothing beside it writes. -/
noncomputable def onlyT (t : Tr Value) (away : List Rec) : List Nat → Tr Value → Tr Value
  | [], th => th
  | d :: r, th => onlyT t away r (cond (isDst d away) th (th.set d (t.get d)))

/-- May an operation stand before another one that stands before it in the text? -/
noncomputable def freeOf (x : Rec) (dst : Option Nat) (rd : Option (List Nat)) (wr : List Nat) : Bool :=
  apart x.rd x.wr rd wr &&
  (match dst with
   | some d => !memN d x.asks && (match x.dst with | some e => !Nat.beq d e | none => true)
   | none => true)

noncomputable def backE (i : Nat) : List Edge → Bool
  | [] => true
  | e :: r => (!Region.binds .any e || Nat.blt e.on i) && backE i r

noncomputable def awayOf (pr : Nat) : List Rec → List Rec
  | [] => []
  | x :: r => cond (pr.testBit x.i) (awayOf pr r) (x :: awayOf pr r)

/-- Hides the new blocks of what stands beside. -/
noncomputable def hideOf : List Rec → List (Nat × Nat) → List (Nat × Nat)
  | [], m => m
  | x :: r, m => hideOf r (cond (Nat.beq x.lo x.hi) m ((x.lo, x.hi) :: m))

noncomputable def abOf (next : Nat) : Option (List Nat) → List (Nat × Nat)
  | some l => allBut next 0 l
  | none => []

noncomputable def joinM : List (Nat × Nat) → List (Nat × Nat) → List (Nat × Nat)
  | [], m => m
  | x :: r, m => x :: joinM r m

/-- Of the blocks written those that are old. -/
noncomputable def oldOf (next : Nat) : List Nat → List Nat
  | [] => []
  | b :: r => cond (Nat.blt b next) (b :: oldOf next r) (oldOf next r)

noncomputable def allFree : List Rec → Option Nat → Option (List Nat) → List Nat → Bool
  | [], _, _, _ => true
  | x :: r, dst, rd, wr => freeOf x dst rd wr && allFree r dst rd wr

/-- Is the whole family in sight of each block written? -/
noncomputable def inSight (st : St) (ab hide : List (Nat × Nat)) : List Nat → Bool
  | [] => true
  | b :: r => (match st.see b with
    | some en => !hidden hide en.fam && noneHid ab (members st en.fam)
    | none => false) && inSight st ab hide r
where
  noneHid (ab : List (Nat × Nat)) : List Nat → Bool
    | [] => true
    | m :: r => !hidden ab m && noneHid ab r

/-- A region whose order is drawn. -/
noncomputable def runDraw (ops : List Oper) (nt : Nat) (msk0 : List (Nat × Nat)) : Nat → List Oper → List (Nat × Nat) → List Rec → Fr → St → Option (Fr × St)
  | _, [], _, _, fr, st => some (fr, st)
  | i, o :: r, acc, rs, fr, st =>
    let pr := predsOf o acc
    let away := awayOf pr rs
    let asks := asksOf ops o
    let th := onlyT fr.t away asks .nil
    let rd := readsOf T st th o.op
    let hide := hideOf away msk0
    let ab := abOf st.next rd
    let st0 : St := { st with msk := joinM ab hide, wl := [] }
    match runVal T call ops o th st0 with
    | some (.val v, st1) =>
      let wr := oldOf st.next st1.wl
      cond (backE i o.after.toList && (allFree away o.dst rd wr && (inSight st0 ab hide wr && (wr.isEmpty || (rd.isNone || Nat.beq st.next st1.next)))))
        (match putT nt fr.t o.dst v with
         | some t => runDraw ops nt msk0 (i + 1) r ((i, pr) :: acc) (⟨i, o.dst, asks, rd, wr, st.next, st1.next⟩ :: rs) ⟨t, fr.ds⟩ { st1 with msk := msk0, wl := wr ++ st.wl }
         | none => none) none
    | _ => none
end

noncomputable def resultOf (T : Tb) (st : St) (t : Tr Value) (rs : List ResultVar) : Option Value :=
  match go rs with
  | some [v] => some v
  | some vs => some (.tuple (mkL vs))
  | none => none
where
  go : List ResultVar → Option (List Value)
  | [] => some []
  | .tmp i :: r => match t.get i with
    | some v => (go r).map (v :: ·)
    | none => none
  | .cell i ty :: r => match t.get i, T.agg ty, T.size ty with
    | some (.pointer (some a)), some true, some n => match st.cellsAt a.block a.off n with
      | some l => (go r).map (.agg (mkL l) :: ·)
      | none => none
    | some (.pointer (some a)), some false, _ => match st.cellsAt a.block a.off 1 with
      | some [v] => (go r).map (v :: ·)
      | _ => none
    | _, _, _ => none

noncomputable def initT : List Value → Nat → Tr Value → Tr Value
  | [], _, t => t
  | v :: r, i, t => initT r (i + 1) (t.set i (some v))

noncomputable def undefs : Nat → Nat → Tr Value → Tr Value
  | 0, _, t => t
  | n + 1, i, t => undefs n (i + 1) (t.set i (some (.tuple #[])))

/-- The end of a function: its results, when nothing is left of what it has deferred. -/
noncomputable def isRecover : Op → Bool
  | .call { callee := .builtin .recover, .. } => true
  | _ => false

noncomputable def hasRecover (ops : List Oper) : Bool := ops.any fun o => isRecover o.op

/-- A row of operations of a deferred call, recover among them. -/
noncomputable def runOpsD (T : Tb) (call : Nat → List Value → St → Option (Out × St)) (ops : List Oper) (nt : Nat) (u : Option Value) : List Oper → Fr → Bool → St → Option ((Fr × Bool) × St)
  | [], fr, b, st => some ((fr, b), st)
  | o :: r, fr, b, st =>
    match isRecover o.op, wantedA ops fr.t o with
    | true, some true =>
      match putF nt fr o.dst (match u, b with | some v, false => v | _, _ => .nilIface) st with
      | some ((fr, _), st) => runOpsD T call ops nt u r fr true st
      | none => none
    | _, _ => match runOp T (fun _ _ _ => none) ops nt o fr st with
      | some ((fr, none), st) => runOpsD T call ops nt u r fr b st
      | _ => none

/-- errors.As at a target of the error's own type, and at no error. -/
noncomputable def asA (n0 te tt : Nat) (args : List Value) (st : St) : Option (Value × St) :=
  match args with
  | [.nilIface, .iface t (.pointer (some _))] => cond (Nat.beq t tt) (some (.bool false, st)) none
  | [.iface e (.pointer (some p)), .iface t (.pointer (some a))] => cond (Nat.beq e te && Nat.beq t tt) (match St.store n0 st a.block a.off [.pointer (some p)] with
      | some s => some (.bool true, s)
      | none => none) none
  | _ => none

/-- errors.As at a target of a type of one whole number. -/
noncomputable def asV (n0 te tt : Nat) (args : List Value) (st : St) : Option (Value × St) :=
  match args with
  | [.nilIface, .iface t (.pointer (some _))] => cond (Nat.beq t tt) (some (.bool false, st)) none
  | [.iface e (.int k n), .iface t (.pointer (some a))] => cond (Nat.beq e te && Nat.beq t tt) (match St.store n0 st a.block a.off [.int k n] with
      | some s => some (.bool true, s)
      | none => none) none
  | _ => none

noncomputable def dedupN : List Nat → List Nat
  | [] => []
  | b :: r => cond (memN b r) (dedupN r) (b :: dedupN r)

/-- Blocks taken over from another heap. -/
noncomputable def takeH (h : Tr En) : List Nat → Tr En → Tr En
  | [], t => t
  | id :: r, t => match h.get id with
    | some en => takeH h r (t.set id (some en))
    | none => takeH h r (t.set id none)

noncomputable def onlyL (k : List Nat) : List Nat → List Nat
  | [] => []
  | i :: r => cond (memN i k) (i :: onlyL k r) (onlyL k r)

/-- A new family, those that stay. -/
noncomputable def famN (f : Nat) (l : List Nat) : List Nat := cond (memN f l) l (f :: l)

/-- Families taken over. -/
noncomputable def takeM (next : Nat) (s : St) (k : List Nat) : List Nat → Tr (List Nat) → Tr (List Nat)
  | [], m => m
  | id :: r, m => match s.h.get id with
    | some en => takeM next s k r (m.set en.fam (cond (Nat.blt en.fam next) (s.mem.get en.fam) (some (famN en.fam (onlyL k (members s en.fam))))))
    | none => takeM next s k r m

noncomputable def newOf (next : Nat) : List Nat → List Nat
  | [] => []
  | b :: r => cond (Nat.blt b next) (newOf next r) (b :: newOf next r)

/-- Forgets of a call's new blocks all but some. -/
noncomputable def trimTo (k : List Nat) (st s : St) : St :=
  let old := dedupN (oldOf st.next s.wl)
  { s with h := takeH s.h old (takeH s.h (newOf st.next k) st.h), mem := takeM st.next s (newOf st.next k) old (takeM st.next s (newOf st.next k) (newOf st.next k) st.mem), wl := old }

noncomputable def trim (T : Tb) (f : Nat) (st : St) (r : Option (Out × St)) : Option (Out × St) :=
  match r with
  | some (out, s) => match T.keep.get (Nat.add (Nat.mul st.next 1024) f) with
    | some k => some (out, trimTo k st s)
    | none => some (out, s)
  | none => none

noncomputable def isDefer : Op → Bool
  | .defer _ => true
  | _ => false

/-- Code without deferred calls and loops over functions. -/
noncomputable def calmC : Code → Bool
  | .region _ ops _ => ops.toList.all fun o => !isDefer o.op
  | .seq a b => calmC a && calmC b
  | .cond _ a b => calmC a && calmC b
  | .block _ a => calmC a
  | .loop a => calmC a
  | .skip | .label _ | .exit _ | .ret => true
  | _ => false

/-- The loop variables. -/
noncomputable def putArgs (nt : Nat) : List Nat → List Value → Tr Value → Option (Tr Value)
  | [], [], t => some t
  | d :: ds, v :: vs, t => cond (Nat.blt d nt) (putArgs nt ds vs (t.set d (some v))) none
  | _, _, _ => none

/-- A loop's record is marked as on or off. -/
noncomputable def markL (n0 l : Nat) (was now : Bool) (st : St) : Option St :=
  match st.see l with
  | some ⟨.loop t nt k b, fam⟩ => cond (b == was) (St.low { st with h := st.h.set l (some ⟨.loop t nt k now, fam⟩) } n0 l) none
  | _ => none

/-- A block of this kind is forgotten. -/
noncomputable def dropL (n0 l : Nat) (st : St) : Option St :=
  match st.see l with
  | some ⟨.loop _ _ _ false, _⟩ => St.low { st with h := st.h.set l none } n0 l
  | _ => none

noncomputable def dropD (n0 l : Nat) (st : St) : Option St :=
  match st.see l with
  | some ⟨.dfr, _⟩ => St.low { st with h := st.h.set l none } n0 l
  | _ => none

/-- One round. -/
noncomputable def roundA (T : Tb) (code : Code → Nat → Fr → St → Option (Out × St)) (l : Nat) (args : List Value) (st : St) : Option (Out × St) :=
  match st.see l with
  | some ⟨.loop t nt k false, _⟩ => match T.lp k with
    | some (ps, a, c) => match putArgs nt ps args t with
      | some t => match code a nt ⟨t, []⟩ st with
        | some (.norm fr, st) => match markL T.n0 l false true st with
          | some st => match code c nt fr st with
            | some (.norm _, st) => match markL T.n0 l true false st with
              | some st => some (.val (.bool true), st)
              | none => none
            | _ => none
          | none => none
        | _ => none
      | none => none
    | none => none
  | _ => none

/-- The number of the first region. -/
noncomputable def keyOf : Code → Nat
  | .region id _ _ => id + 1
  | .seq a b => match keyOf a with
    | 0 => keyOf b
    | n => n
  | .cond _ a b => match keyOf a with
    | 0 => keyOf b
    | n => n
  | .block _ a => keyOf a
  | .loop a => keyOf a
  | _ => 0

/-- A loop over a function. -/
noncomputable def rangeFn (T : Tb) (call : Nat → List Value → St → Option (Out × St)) (g : Operand) (a c : Code) (nt : Nat) (fr : Fr) (st : St) : Option (Out × St) :=
  cond (calmC a && calmC c)
  (match operand T.n0 fr.t g with
  | some (.func (.func f) first cap) => match T.fn.get f with
    | some fn => cond (fn.body.isSome && Nat.blt f UNK) (rangeOn T call f first.toList cap.toList (keyOf c) nt fr (st.new .dfr).1 (st.new .dfr).2) none
    | none => none
  | _ => none) none
where
  rangeOn (T : Tb) (call : Nat → List Value → St → Option (Out × St)) (f : Nat) (first cap : List Value) (k nt : Nat) (fr : Fr) (d : Nat) (st : St) : Option (Out × St) :=
    match call f (first ++ (.func (.yield (st.new (.loop fr.t nt k false)).1) (mkL []) (mkL []) :: cap)) (st.new (.loop fr.t nt k false)).2 with
    | some (.val _, s) => match dropL T.n0 st.next s with
      | some s => some (.norm ⟨fr.t, (UNK + d, []) :: fr.ds⟩, s)
      | none => none
    | _ => none

noncomputable def exec (T : Tb) : Nat → Job → St → Option (Out × St)
  | 0, _, _ => none
  | n + 1, .call f args, st =>
    cond (Nat.ble UNK f) (roundA T (fun c nt fr st => exec T n (.code c nt fr) st) (f - UNK) args st)
    (match T.orc f args st with
    | some (v, s) => some (.val v, s)
    | none =>
    match T.prim.get f with
    | some k => match primV k args with
      | some v => some (.val v, st)
      | none => none
    | none =>
    match T.fn.get f with
    | some fn => match fn.body with
      | some c =>
        cond (Nat.ble args.length fn.ntmps)
        (trim T f st (match exec T n (.code c fn.ntmps ⟨initT args 0 .nil, []⟩) st with
        | some (.norm fr, st) | some (.ret fr, st) => leave T (fun f args u st => exec T n (.dcall f args u) st) fn fr.t fr.ds none st
        | some (.pan v fr, st) => leave T (fun f args u st => exec T n (.dcall f args u) st) fn fr.t fr.ds (some v) st
        | _ => none)) none
      | none => none
    | none => none)
  | n + 1, .dcall f args u, st =>
    match T.fn.get f with
    | some fn => match fn.body with
      | some c =>
        cond (Nat.ble args.length fn.ntmps)
        (match exec T n (.dcode c fn.ntmps ⟨initT args 0 .nil, []⟩ u false) st with
        | some (.dnorm fr b, st) | some (.dret fr b, st) => match fr.ds, fn.results.toList with
          | [], [] => some (.dnorm fr b, st)
          | _, _ => none
        | _ => none) none
      | none => none
    | none => none
  | n + 1, .dcode c nt fr u b, st =>
    let call f args st := exec T n (.call f args) st
    match c with
    | .region _ ops false => cond (hasRecover ops.toList) (match runOpsD T call ops.toList nt u ops.toList fr b st with
      | some ((fr, b), st) => some (.dnorm fr b, st)
      | none => none)
      (match runOps T call ops.toList nt ops.toList fr st with
      | some ((fr, none), st) => some (.dnorm fr b, st)
      | _ => none)
    | .seq x y => match exec T n (.dcode x nt fr u b) st with
      | some (.dnorm fr b, st) => exec T n (.dcode y nt fr u b) st
      | r => r
    | .cond c x y => match operand T.n0 fr.t c with
      | some (.bool true) => exec T n (.dcode x nt fr u b) st
      | some (.bool false) => exec T n (.dcode y nt fr u b) st
      | _ => none
    | .block id x => match exec T n (.dcode x nt fr u b) st with
      | some (.dexit k fr b, st) => if k = id then some (.dnorm fr b, st) else some (.dexit k fr b, st)
      | r => r
    | .skip => some (.dnorm fr b, st)
    | .exit id => some (.dexit id fr b, st)
    | .ret => some (.dret fr b, st)
    | c => match exec T n (.code c nt fr) st with
      | some (.norm fr, st) => some (.dnorm fr b, st)
      | some (.ret fr, st) => some (.dret fr b, st)
      | some (.exit k fr, st) => some (.dexit k fr b, st)
      | _ => none
  | n + 1, .code c nt fr, st =>
    let call f args st := exec T n (.call f args) st
    match c with
    | .skip | .label _ => some (.norm fr, st)
    | .region _ ops false => match runOps T call ops.toList nt ops.toList fr st with
      | some ((fr, none), st) => some (.norm fr, st)
      | some ((fr, some v), st) => some (.pan v fr, st)
      | none => none
    | .region _ ops true => match runDraw T call ops.toList nt st.msk 0 ops.toList [] [] fr st with
      | some (fr, st) => some (.norm fr, st)
      | none => none
    | .seq a b => match exec T n (.code a nt fr) st with
      | some (.norm fr, st) => exec T n (.code b nt fr) st
      | r => r
    | .cond c a b => match operand T.n0 fr.t c with
      | some (.bool true) => exec T n (.code a nt fr) st
      | some (.bool false) => exec T n (.code b nt fr) st
      | _ => none
    | .block id a => match exec T n (.code a nt fr) st with
      | some (.exit k fr, st) => if k = id then some (.norm fr, st) else some (.exit k fr, st)
      | r => r
    | .loop a => match exec T n (.code a nt fr) st with
      | some (.norm fr, st) => exec T n (.code (.loop a) nt fr) st
      | r => r
    | .exit id => some (.exit id fr, st)
    | .ret => some (.ret fr, st)
    | .rangeFunc g _ a c => rangeFn T call g a c nt fr st
    | _ => none
where
  /-- The deferred calls one by one, then the results. -/
  leave (T : Tb) (dcall : Nat → List Value → Option Value → St → Option (Out × St)) (fn : Func) (t : Tr Value) : List (Nat × List Value) → Option Value → St → Option (Out × St)
  | [], none, st => match resultOf T st t fn.results.toList with
    | some v => some (.val v, st)
    | none => none
  | [], some v, st => some (.pans v, st)
  | (f, args) :: ds, u, st => cond (Nat.ble UNK f)
    (match dropD T.n0 (f - UNK) st with
    | some st => leave T dcall fn t ds u st
    | none => none)
    (match dcall f args u st with
    | some (.dnorm _ b, st) => leave T dcall fn t ds (cond b none u) st
    | _ => none)

noncomputable def tables (P : Program) (exts : Tr Ext) (prims : Tr Prim) (cmp : Tr Unit) : Tb := { ty := Tr.ofList P.types.toList 0 .nil, fn := Tr.ofList P.funcs.toList 0 .nil, ext := exts, prim := prims, cmp := cmp, n0 := P.globals.size, orc := fun _ _ _ => none, keep := .nil, lp := fun _ => none, meth := fun _ _ => none, tk := fun _ _ => none }

noncomputable def st0 (n : Nat) : St := { h := .nil, mem := .nil, next := n, wl := [], msk := [] }

end Go.Proofs.YthdnpikgnmdnnaaGreatDoor.Ev

namespace Go.Proofs.YthdnpikgnmdnnaaGreatDoor.Ev
set_option linter.unusedSimpArgs false
set_option linter.unusedVariables false
set_option linter.unusedSectionVars false
open Go.RowKit

/-! Trees -/

theorem Tr.get_zero {α : Type} (v : Option α) (l r : Tr α) : (Tr.node v l r).get 0 = v := rfl
theorem Tr.get_succ {α : Type} (v : Option α) (l r : Tr α) (n : Nat) : (Tr.node v l r).get (n + 1) = cond (Nat.beq (n % 2) 0) (l.get (n / 2)) (r.get (n / 2)) := by
  show Bool.rec (motive := fun _ => Option α) (r.get (n / 2)) (l.get (n / 2)) (Nat.beq (n % 2) 0) = _
  cases Nat.beq (n % 2) 0 <;> rfl
theorem Tr.put_nil0 {α : Type} (k : Nat) (x : Option α) : Tr.put (k + 1) (.nil : Tr α) 0 x = .node x .nil .nil := rfl
theorem Tr.put_node0 {α : Type} (k : Nat) (v x : Option α) (l r : Tr α) : Tr.put (k + 1) (.node v l r) 0 x = .node x l r := rfl
theorem Tr.put_nil {α : Type} (k n : Nat) (x : Option α) : Tr.put (k + 1) (.nil : Tr α) (n + 1) x = cond (Nat.beq (n % 2) 0) (.node none (Tr.put k .nil (n / 2) x) .nil) (.node none .nil (Tr.put k .nil (n / 2) x)) := by
  show Bool.rec (motive := fun _ => Tr α) (.node none .nil (Tr.put k .nil (n / 2) x)) (.node none (Tr.put k .nil (n / 2) x) .nil) (Nat.beq (n % 2) 0) = _
  cases Nat.beq (n % 2) 0 <;> rfl
theorem Tr.put_node {α : Type} (k n : Nat) (v x : Option α) (l r : Tr α) : Tr.put (k + 1) (.node v l r) (n + 1) x = cond (Nat.beq (n % 2) 0) (.node v (Tr.put k l (n / 2) x) r) (.node v l (Tr.put k r (n / 2) x)) := by
  show Bool.rec (motive := fun _ => Tr α) (.node v l (Tr.put k r (n / 2) x)) (.node v (Tr.put k l (n / 2) x) r) (Nat.beq (n % 2) 0) = _
  cases Nat.beq (n % 2) 0 <;> rfl

theorem Tr.get_put_same {α : Type} : ∀ (k : Nat) (t : Tr α) (n : Nat) (x : Option α), n < k → (Tr.put k t n x).get n = x
  | 0, _, _, _, h => by omega
  | k + 1, t, 0, x, h => by cases t <;> rfl
  | k + 1, t, n + 1, x, h => by
    cases t with
    | nil =>
      rw [Tr.put_nil]
      cases hb : Nat.beq (n % 2) 0 <;> simp only [cond_true, cond_false, Tr.get_succ, hb] <;> exact Tr.get_put_same k _ _ _ (by omega)
    | node v l r =>
      rw [Tr.put_node]
      cases hb : Nat.beq (n % 2) 0 <;> simp only [cond_true, cond_false, Tr.get_succ, hb] <;> exact Tr.get_put_same k _ _ _ (by omega)

theorem Tr.get_nil {α : Type} (n : Nat) : (Tr.nil : Tr α).get n = none := rfl

theorem half_ne {n m : Nat} (h : m ≠ n) (hb : Nat.beq (n % 2) 0 = Nat.beq (m % 2) 0) : m / 2 ≠ n / 2 := by
  intro e
  have h2 : n % 2 = m % 2 := by
    rcases Nat.mod_two_eq_zero_or_one n with a | a <;> rcases Nat.mod_two_eq_zero_or_one m with b | b <;> rw [a, b] at hb ⊢ <;> cases hb
  omega

theorem Tr.get_put_ne {α : Type} : ∀ (k : Nat) (t : Tr α) (n : Nat) (x : Option α) (m : Nat), m ≠ n → (Tr.put k t n x).get m = t.get m
  | 0, _, _, _, _, _ => rfl
  | k + 1, t, 0, x, m, h => by
    cases m with
    | zero => exact absurd rfl h
    | succ m => cases t with
      | nil => rw [Tr.put_nil0, Tr.get_succ]; cases Nat.beq (m % 2) 0 <;> rfl
      | node v l r => rw [Tr.put_node0, Tr.get_succ, Tr.get_succ]
  | k + 1, t, n + 1, x, m, h => by
    cases m with
    | zero => cases t with
      | nil => rw [Tr.put_nil]; cases Nat.beq (n % 2) 0 <;> rfl
      | node v l r => rw [Tr.put_node]; cases Nat.beq (n % 2) 0 <;> rfl
    | succ m =>
      have hmn : m ≠ n := by omega
      have key : Nat.beq (n % 2) 0 = Nat.beq (m % 2) 0 → m / 2 ≠ n / 2 := half_ne hmn
      cases t with
      | nil =>
        rw [Tr.put_nil]
        cases hb : Nat.beq (n % 2) 0 <;> simp only [cond_true, cond_false, Tr.get_succ] <;> cases hm : Nat.beq (m % 2) 0 <;> simp only [cond_true, cond_false]
        · rw [Tr.get_put_ne k _ _ _ _ (key (by rw [hb, hm]))]; rfl
        · rfl
        · rfl
        · rw [Tr.get_put_ne k _ _ _ _ (key (by rw [hb, hm]))]; rfl
      | node v l r =>
        rw [Tr.put_node]
        cases hb : Nat.beq (n % 2) 0 <;> simp only [cond_true, cond_false, Tr.get_succ] <;> cases hm : Nat.beq (m % 2) 0 <;> simp only [cond_true, cond_false]
        · exact Tr.get_put_ne k _ _ _ _ (key (by rw [hb, hm]))
        · exact Tr.get_put_ne k _ _ _ _ (key (by rw [hb, hm]))

theorem Tr.get_set {α : Type} (t : Tr α) (n : Nat) (x : Option α) (m : Nat) : (t.set n x).get m = if m = n then x else t.get m := by
  by_cases h : m = n
  · subst h; rw [if_pos rfl]; exact Tr.get_put_same _ _ _ _ (by omega)
  · rw [if_neg h]; exact Tr.get_put_ne _ _ _ _ _ h

theorem Tr.get_ofList {α : Type} : ∀ (l : List α) (k : Nat) (t : Tr α) (m : Nat), (Tr.ofList l k t).get m = if k ≤ m ∧ m < k + l.length then l[m - k]? else t.get m
  | [], k, t, m => by simp only [Tr.ofList, List.length_nil]; rw [if_neg (by omega)]
  | x :: xs, k, t, m => by
    rw [Tr.ofList, Tr.get_ofList xs (k + 1) _ m, Tr.get_set]
    by_cases h : m = k
    · subst h; rw [if_neg (by omega), if_pos rfl, if_pos ⟨Nat.le_refl _, by simp⟩]; simp
    · simp only [List.length_cons]
      by_cases h1 : k + 1 ≤ m ∧ m < k + 1 + xs.length
      · rw [if_pos h1, if_pos (by omega)]
        obtain ⟨d, hd⟩ : ∃ d, m - k = d + 1 := ⟨m - k - 1, by omega⟩
        rw [hd, show m - (k + 1) = d by omega]; simp
      · rw [if_neg h1, if_neg h, if_neg (by omega)]

/-! Values -/

/-- The loops over functions in a piece of code. -/
noncomputable def rfs : Code → List (List Nat × (Code × Code))
  | .seq a b => rfs a ++ rfs b
  | .cond _ a b => rfs a ++ rfs b
  | .block _ a => rfs a
  | .loop a => rfs a
  | .rangeFunc _ ps a c => [(ps.toList, (a, c))]
  | _ => []

noncomputable def rfsAt (P : Program) (f : Nat) : List (List Nat × (Code × Code)) := match P.funcs[f]? with
  | some fn => match fn.body with
    | some c => rfs c
    | none => []
  | none => []

noncomputable def findK : List (List Nat × (Code × Code)) → Nat → Option (List Nat × (Code × Code))
  | [], _ => none
  | x :: r, k => cond (Nat.beq (keyOf x.2.2) k) (some x) (findK r k)

noncomputable def apartK : List (List Nat × (Code × Code)) → Bool
  | [] => true
  | x :: r => (r.all fun y => !Nat.beq (keyOf x.2.2) (keyOf y.2.2)) && apartK r

theorem findK_ok : ∀ {l : List (List Nat × (Code × Code))}, apartK l = true → ∀ x ∈ l, findK l (keyOf x.2.2) = some x
  | [], _, x, hx => by cases hx
  | y :: r, h, x, hx => by
    simp only [apartK, Bool.and_eq_true] at h
    unfold findK
    rcases List.mem_cons.1 hx with rfl | hx
    · rw [Nat.beq_refl, cond_true]
    · have := List.all_eq_true.1 h.1 x hx
      cases hb : Nat.beq (keyOf y.2.2) (keyOf x.2.2) with
      | true => rw [hb] at this; cases this
      | false => rw [cond_false]; exact findK_ok h.2 x hx

/-- The loops over functions of the program at hand: their variables, what assigns them, their bodies. (A seat's own text puts its program here. No proof looks into it.) -/
noncomputable def LPF : List Nat := []
noncomputable def LPL : List (List Nat × (Code × Code)) := LPF.flatMap (rfsAt Go.Proofs.Tryz.prog)
noncomputable def LP : Nat → Option (List Nat × (Code × Code)) := findK LPL


/-- Where an abstract block lies: its block, and how many cells that has. -/
abbrev Ren := Nat → Option (Nat × Nat)

noncomputable def All2 {α β : Type} (R : α → β → Prop) (l : List α) (l' : List β) : Prop :=
  l.length = l'.length ∧ ∀ (i : Nat) a b, l[i]? = some a → l'[i]? = some b → R a b

/-- What unknown values of one cell stand for. -/
def TokT : Type := { f : Nat → Value // ∀ n, (f n).cells.toList = [f n] ∧ oneC (f n) = true }
abbrev Tok : Type := Inhabited TokT
noncomputable def Tok.val [Tok] (n : Nat) : Value := (default : TokT).1 n
theorem Tok.one [Tok] (n : Nat) : (Tok.val n).cells.toList = [Tok.val n] ∧ oneC (Tok.val n) = true := (default : TokT).2 n
variable [Tok]

inductive Rv (ι : Ren) : Value → Value → Prop where
  | bool (b : Bool) : Rv ι (.bool b) (.bool b)
  | tok (k : FloatKind) (n : Nat) : Rv ι (.float k n) (Tok.val n)
  | int (k : IntKind) (n : Int) : Rv ι (.int k n) (.int k n)
  | string (s : ByteArray) : Rv ι (.string s) (.string s)
  | nilp : Rv ι (.pointer none) (.pointer none)
  | ptr {b o c sz : Nat} (h : ι b = some (c, sz)) : Rv ι (.pointer (some ⟨b, o, none⟩)) (.pointer (some ⟨c, o, none⟩))
  | nils : Rv ι (.slice none 0 0) (.slice none 0 0)
  | slice {b o c sz len cap : Nat} (h : ι b = some (c, sz)) (hc : cap < UNK) : Rv ι (.slice (some ⟨b, o, none⟩) len cap) (.slice (some ⟨c, o, none⟩) len cap)
  | sliceU {b o c sz len cap u : Nat} (h : ι b = some (c, sz)) (hl : len ≤ cap) (hs : o + cap * u ≤ sz) : Rv ι (.slice (some ⟨b, o, none⟩) len (UNK + u)) (.slice (some ⟨c, o, none⟩) len cap)
  | sliceE {a : Addr} {cap : Nat} : Rv ι (.slice (some ⟨0, 0, none⟩) 0 UNKE) (.slice (some a) 0 cap)
  | nilm : Rv ι (.map none) (.map none)
  | map {b c sz : Nat} (h : ι b = some (c, sz)) : Rv ι (.map (some b)) (.map (some c))
  | nilf : Rv ι .nilFunc .nilFunc
  | func {f : Nat} {a a' c c' : Array Value} (h1 : a.toList.length = a'.toList.length) (h2 : ∀ (i : Nat) x y, a.toList[i]? = some x → a'.toList[i]? = some y → Rv ι x y)
      (h3 : c.toList.length = c'.toList.length) (h4 : ∀ (i : Nat) x y, c.toList[i]? = some x → c'.toList[i]? = some y → Rv ι x y) : Rv ι (.func (.func f) a c) (.func (.func f) a' c')
  | yld {l c sz : Nat} (h : ι l = some (c, sz)) : Rv ι (.func (.yield l) #[] #[]) (.func (.yield c) #[] #[])
  | nili : Rv ι .nilIface .nilIface
  | iface {t : Nat} {v v' : Value} (h : Rv ι v v') : Rv ι (.iface t v) (.iface t v')
  | agg {a a' : Array Value} (h1 : a.toList.length = a'.toList.length) (h2 : ∀ (i : Nat) x y, a.toList[i]? = some x → a'.toList[i]? = some y → Rv ι x y) : Rv ι (.agg a) (.agg a')
  | tuple {a a' : Array Value} (h1 : a.toList.length = a'.toList.length) (h2 : ∀ (i : Nat) x y, a.toList[i]? = some x → a'.toList[i]? = some y → Rv ι x y) : Rv ι (.tuple a) (.tuple a')

/-- The one goes on from the other. -/
noncomputable def Ren.le (ι ι' : Ren) : Prop := ∀ b x, ι b = some x → ι' b = some x

theorem Ren.le_refl (ι : Ren) : ι.le ι := fun _ _ h => h
theorem Ren.le_trans {a b c : Ren} (h : a.le b) (k : b.le c) : a.le c := fun i x e => k i x (h i x e)

theorem Rv.mono {ι ι' : Ren} (h : ι.le ι') {v v' : Value} (r : Rv ι v v') : Rv ι' v v' := by
  induction r with
  | bool b => exact .bool b
  | tok k n => exact .tok k n
  | int k n => exact .int k n
  | string s => exact .string s
  | nilp => exact .nilp
  | ptr e => exact .ptr (h _ _ e)
  | nils => exact .nils
  | slice e hc => exact .slice (h _ _ e) hc
  | sliceU e hl hs => exact .sliceU (h _ _ e) hl hs
  | sliceE => exact .sliceE
  | nilm => exact .nilm
  | map e => exact .map (h _ _ e)
  | nilf => exact .nilf
  | func h1 h2 h3 h4 i2 i4 => exact .func h1 (fun i x y a b => i2 i x y a b) h3 (fun i x y a b => i4 i x y a b)
  | yld e => exact .yld (h _ _ e)
  | nili => exact .nili
  | iface _ i => exact .iface i
  | agg h1 _ i2 => exact .agg h1 fun i x y a b => i2 i x y a b
  | tuple h1 _ i2 => exact .tuple h1 fun i x y a b => i2 i x y a b

theorem All2.mono {α β : Type} {R S : α → β → Prop} (h : ∀ a b, R a b → S a b) {l : List α} {l' : List β} (r : All2 R l l') : All2 S l l' :=
  ⟨r.1, fun i a b x y => h a b (r.2 i a b x y)⟩

theorem All2.nil {α β : Type} {R : α → β → Prop} : All2 R [] ([] : List β) := ⟨rfl, fun i a b h => by simp at h⟩

theorem All2.cons {α β : Type} {R : α → β → Prop} {a : α} {b : β} {l : List α} {l' : List β} (h : R a b) (r : All2 R l l') : All2 R (a :: l) (b :: l') := by
  refine ⟨by simp [r.1], fun i x y hx hy => ?_⟩
  cases i with
  | zero => simp at hx hy; subst hx; subst hy; exact h
  | succ i => simp at hx hy; exact r.2 i x y hx hy

theorem All2.cons_inv {α β : Type} {R : α → β → Prop} {a : α} {l : List α} {l' : List β} (r : All2 R (a :: l) l') : ∃ b l2, l' = b :: l2 ∧ R a b ∧ All2 R l l2 := by
  cases l' with
  | nil => exact absurd r.1 (by simp)
  | cons b l2 => exact ⟨b, l2, rfl, r.2 0 a b rfl rfl, by simpa using r.1, fun i x y hx hy => r.2 (i + 1) x y (by simpa using hx) (by simpa using hy)⟩

theorem All2.nil_inv {α β : Type} {R : α → β → Prop} {l' : List β} (r : All2 R ([] : List α) l') : l' = [] := by
  cases l' with
  | nil => rfl
  | cons b l2 => exact absurd r.1 (by simp)

theorem All2.append {α β : Type} {R : α → β → Prop} {a c : List α} {b d : List β} (h : All2 R a b) (k : All2 R c d) : All2 R (a ++ c) (b ++ d) := by
  refine ⟨by simp [h.1, k.1], fun i x y hx hy => ?_⟩
  by_cases hi : i < a.length
  · rw [List.getElem?_append_left hi] at hx
    rw [List.getElem?_append_left (by rw [← h.1]; exact hi)] at hy
    exact h.2 i x y hx hy
  · rw [List.getElem?_append_right (by omega)] at hx
    rw [List.getElem?_append_right (by rw [← h.1]; omega), ← h.1] at hy
    exact k.2 _ x y hx hy

theorem All2.drop {α β : Type} {R : α → β → Prop} {a : List α} {b : List β} (h : All2 R a b) (n : Nat) : All2 R (a.drop n) (b.drop n) :=
  ⟨by simp [h.1], fun i x y hx hy => h.2 (n + i) x y (by simpa using hx) (by simpa using hy)⟩

theorem All2.take {α β : Type} {R : α → β → Prop} {a : List α} {b : List β} (h : All2 R a b) (n : Nat) : All2 R (a.take n) (b.take n) := by
  refine ⟨by simp [h.1], fun i x y hx hy => ?_⟩
  rw [List.getElem?_take] at hx hy
  split at hx
  · rename_i hi; rw [if_pos hi] at hy; exact h.2 i x y hx hy
  · cases hx

theorem All2.get {α β : Type} {R : α → β → Prop} {a : List α} {b : List β} (h : All2 R a b) {i : Nat} {x : α} (hx : a[i]? = some x) : ∃ y, b[i]? = some y ∧ R x y := by
  have hi : i < a.length := by
    rcases Nat.lt_or_ge i a.length with hlt | hge
    · exact hlt
    · rw [List.getElem?_eq_none hge] at hx; cases hx
  have hb : i < b.length := by rw [← h.1]; exact hi
  exact ⟨b[i], List.getElem?_eq_getElem hb, h.2 i x _ hx (List.getElem?_eq_getElem hb)⟩

noncomputable def TR (ι : Ren) (t : Tr Value) (a : Array Value) : Prop := ∀ i v, t.get i = some v → ∃ v', a[i]? = some v' ∧ Rv ι v v'

theorem TR.mono {ι ι' : Ren} (h : ι.le ι') {t : Tr Value} {a : Array Value} (r : TR ι t a) : TR ι' t a := fun i v hv => let ⟨v', x, y⟩ := r i v hv; ⟨v', x, y.mono h⟩

theorem rv_agg {ι : Ren} {a a' : List Value} (h : All2 (Rv ι) a a') : Rv ι (.agg ⟨a⟩) (.agg ⟨a'⟩) := .agg h.1 h.2
theorem rv_tuple {ι : Ren} {a a' : List Value} (h : All2 (Rv ι) a a') : Rv ι (.tuple ⟨a⟩) (.tuple ⟨a'⟩) := .tuple h.1 h.2
theorem rv_undef {ι : Ren} : Rv ι (.tuple #[]) (.tuple #[]) := .tuple rfl fun i x y h => by simp at h

theorem all_get {p : Value → Bool} : ∀ {l : List Value}, l.all p = true → ∀ (i : Nat) x, l[i]? = some x → p x = true := by
  intro l h i x hx
  exact List.all_eq_true.1 h x (List.mem_of_getElem? hx)

theorem isEmpty_nil {α : Type} {a : Array α} (h : a.toList.isEmpty = true) : a = #[] := by
  cases a with | mk l => cases l with
    | nil => rfl
    | cons x xs => simp at h

theorem rv_closed (ι : Ren) : ∀ (n : Nat) (v : Value), closedV n v = true → Rv ι v v := by
  intro n
  induction n with
  | zero => intro v h; cases h
  | succ n ih =>
    intro v h
    cases v with
    | bool _ => exact .bool _
    | int _ _ => exact .int _ _
    | string _ => exact .string _
    | pointer a => cases a with
      | none => exact .nilp
      | some a => cases h
    | slice a l c => cases a with
      | none =>
        have h' : (Nat.beq l 0 && Nat.beq c 0) = true := h
        rw [Bool.and_eq_true] at h'
        rw [Nat.eq_of_beq_eq_true h'.1, Nat.eq_of_beq_eq_true h'.2]
        exact .nils
      | some a => cases h
    | map a => cases a with
      | none => exact .nilm
      | some a => cases h
    | nilFunc => exact .nilf
    | nilIface => exact .nili
    | func f a b => cases f with
      | func f =>
        have h' : (a.toList.isEmpty && b.toList.isEmpty) = true := h
        rw [Bool.and_eq_true] at h'
        rw [isEmpty_nil h'.1, isEmpty_nil h'.2]
        exact .func rfl (fun i x y h => by simp at h) rfl (fun i x y h => by simp at h)
      | _ => cases h
    | iface t v => exact .iface (ih _ h)
    | agg cs =>
      refine .agg rfl fun i x y hx hy => ?_
      rw [hx] at hy; cases hy; exact ih _ (all_get (l := cs.toList) h i x hx)
    | tuple cs =>
      refine .tuple rfl fun i x y hx hy => ?_
      rw [hx] at hy; cases hy; exact ih _ (all_get (l := cs.toList) h i x hx)
    | _ => cases h

theorem rv_cells {ι : Ren} {v v' : Value} (h : Rv ι v v') : All2 (Rv ι) (vcells v) v'.cells.toList := by
  cases h with
  | agg h1 h2 => exact ⟨h1, h2⟩
  | tok k n => rw [(Tok.one n).1]; exact All2.cons (.tok k n) All2.nil
  | _ => exact All2.cons (by first | assumption | (constructor; done) | (constructor <;> assumption)) All2.nil

theorem rv_oneC {ι : Ren} {v v' : Value} (h : Rv ι v v') : oneC v' = oneC v := by cases h <;> first | rfl | exact (Tok.one _).2

end Go.Proofs.YthdnpikgnmdnnaaGreatDoor.Ev

namespace Go.Proofs.YthdnpikgnmdnnaaGreatDoor.Ev
set_option linter.unusedSimpArgs false
set_option linter.unusedVariables false
set_option linter.unusedSectionVars false
variable [Tok]
open Go.RowKit

/-! Memory: what an abstract heap says of a world. -/

noncomputable def ObR (ι : Ren) (w : World) (c sz : Nat) : Ob → Prop
  | .cells cs el ex fz => ∃ arr fr, w.heap[c]? = some (.cells arr el fr) ∧ arr.size = sz ∧ cs.length ≤ sz ∧ (ex = true → cs.length = sz) ∧
      (∀ (i : Nat) v, cs[i]? = some v → ∃ v', arr.toList[i]? = some v' ∧ Rv ι v v') ∧ fr.1 ≤ fr.2 ∧ (fz = false → ∀ i, i < sz → ¬ (fr.1 ≤ i ∧ i < fr.2))
  | .map es => ∃ arr clock, w.heap[c]? = some (.map arr clock) ∧ All2 (fun e (m : MapEntry) => Rv ι e.1 m.key ∧ Rv ι e.2 m.val) es arr.toList
  | .pmap es => ∃ arr clock, w.heap[c]? = some (.map arr clock) ∧ ∃ l1 l2, arr.toList = l1 ++ l2 ∧ All2 (fun e (m : MapEntry) => Rv ι e.1 m.key ∧ Rv ι e.2 m.val) es l1
  | .siter s pos => w.heap[c]? = some (.stringIter s pos)
  | .loop t nt k busy => ∃ r ps, w.heap[c]? = some (.loop r) ∧ r.state = cond busy .busy .ready ∧ r.pending = none ∧ r.tmps.size = nt ∧ TR ι t r.tmps ∧
      LP k = some (ps, (r.assign, r.body)) ∧ r.params.toList = ps ∧ calmC r.assign = true ∧ calmC r.body = true
  | .dfr => w.heap[c]? = some (.deferred (some []))

noncomputable def isCells : Ob → Bool
  | .cells .. => true
  | _ => false

theorem ObR.mono {ι ι' : Ren} (h : ι.le ι') {w : World} {c sz : Nat} {o : Ob} (r : ObR ι w c sz o) : ObR ι' w c sz o := by
  cases o with
  | cells cs el ex fz =>
    obtain ⟨arr, fr, h1, h2, h3, h4, h5, h6⟩ := r
    exact ⟨arr, fr, h1, h2, h3, h4, fun i v hv => let ⟨v', a, b⟩ := h5 i v hv; ⟨v', a, b.mono h⟩, h6⟩
  | map es =>
    obtain ⟨arr, clock, h1, h2⟩ := r
    exact ⟨arr, clock, h1, h2.mono fun a b ⟨x, y⟩ => ⟨x.mono h, y.mono h⟩⟩
  | pmap es =>
    obtain ⟨arr, clock, h1, l1, l2, h2, h3⟩ := r
    exact ⟨arr, clock, h1, l1, l2, h2, h3.mono fun a b ⟨x, y⟩ => ⟨x.mono h, y.mono h⟩⟩
  | siter s pos => exact r
  | loop t nt k busy => obtain ⟨r, ps, h1, h2, h3, h4, h5, h6⟩ := r; exact ⟨r, ps, h1, h2, h3, h4, h5.mono h, h6⟩
  | dfr => exact r

theorem ObR.world {ι : Ren} {w w' : World} {c sz : Nat} {o : Ob} (h : w'.heap[c]? = w.heap[c]?) (r : ObR ι w c sz o) : ObR ι w' c sz o := by
  cases o with
  | cells cs el ex fz => obtain ⟨arr, fr, h1, h2⟩ := r; exact ⟨arr, fr, h.trans h1, h2⟩
  | map es => obtain ⟨arr, clock, h1, h2⟩ := r; exact ⟨arr, clock, h.trans h1, h2⟩
  | pmap es => obtain ⟨arr, clock, h1, h2⟩ := r; exact ⟨arr, clock, h.trans h1, h2⟩
  | siter s pos => exact h.trans r
  | loop t nt k busy => obtain ⟨r, ps, h1, h2⟩ := r; exact ⟨r, ps, h.trans h1, h2⟩
  | dfr => exact h.trans r

theorem ObR.lt {ι : Ren} {w : World} {c sz : Nat} {o : Ob} (r : ObR ι w c sz o) : c < w.heap.size := by
  have key : ∀ x, w.heap[c]? = some x → c < w.heap.size := fun x h => (Array.getElem?_eq_some_iff.1 h).1
  cases o with
  | cells cs el ex fz => obtain ⟨arr, fr, h1, h2⟩ := r; exact key _ h1
  | map es => obtain ⟨arr, clock, h1, h2⟩ := r; exact key _ h1
  | pmap es => obtain ⟨arr, clock, h1, h2⟩ := r; exact key _ h1
  | siter s pos => exact key _ r
  | loop t nt k busy => obtain ⟨r, ps, h1, h2⟩ := r; exact key _ h1
  | dfr => exact key _ r

abbrev View := Nat → Option En

/-- What a view of the abstract heap says of a world. -/
structure Inv (n0 base : Nat) (ι : Ren) (V : View) (w : World) : Prop where
  ob : ∀ id en, V id = some en → ∃ c sz, ι id = some (c, sz) ∧ ObR ι w c sz en.ob
  fam : ∀ i j ei ej c s s', V i = some ei → V j = some ej → ι i = some (c, s) → ι j = some (c, s') → ei.fam = ej.fam
  sep : ∀ id c s, n0 ≤ id → ι id = some (c, s) → base ≤ c
  glob : ∀ g, g < n0 → ∃ s, ι g = some (g, s)
  size : base ≤ w.heap.size

theorem Inv.less {n0 base : Nat} {ι : Ren} {V V' : View} {w : World} (h : Inv n0 base ι V w) (hv : ∀ id en, V' id = some en → V id = some en) : Inv n0 base ι V' w :=
  ⟨fun id en e => h.ob id en (hv id en e), fun i j ei ej c s s' a b => h.fam i j ei ej c s s' (hv _ _ a) (hv _ _ b), h.sep, h.glob, h.size⟩

theorem Inv.heap {n0 base : Nat} {ι : Ren} {V : View} {w w' : World} (h : Inv n0 base ι V w) (e : w'.heap = w.heap) : Inv n0 base ι V w' :=
  ⟨fun id en hv => let ⟨c, sz, a, b⟩ := h.ob id en hv; ⟨c, sz, a, b.world (by rw [e])⟩, h.fam, h.sep, h.glob, by rw [e]; exact h.size⟩

/-- What holds of the abstract heap itself. -/
structure Abs (T : Tb) (st : St) : Prop where
  lt : ∀ id en, st.h.get id = some en → id < st.next
  own : ∀ id en, st.h.get id = some en → id ∈ members st en.fam
  sole : ∀ id en, st.h.get id = some en → isCells en.ob = false → en.fam = id
  mem : ∀ f l, st.mem.get f = some l → f < st.next
  famlt : ∀ id en, st.h.get id = some en → en.fam < st.next
  msk : ∀ id, st.next ≤ id → hidden st.msk id = false
  n0 : T.n0 ≤ st.next
  wl : ∀ b, b ∈ st.wl → T.n0 ≤ b ∧ b < st.next

theorem see_get {st : St} {id : Nat} {en : En} (h : st.see id = some en) : st.h.get id = some en := by
  unfold St.see at h
  cases hh : hidden st.msk id
  · rw [hh] at h; exact h
  · rw [hh] at h; cases h

theorem see_eq {st : St} {id : Nat} (h : hidden st.msk id = false) : st.see id = st.h.get id := by unfold St.see; rw [h]; rfl
theorem see_hid {st : St} {id : Nat} (h : hidden st.msk id = true) : st.see id = none := by unfold St.see; rw [h]; rfl
theorem see_vis {st : St} {id : Nat} {en : En} (h : st.see id = some en) : hidden st.msk id = false := by
  cases hh : hidden st.msk id
  · rfl
  · rw [see_hid hh] at h; cases h

/-- One step of the abstract heap and of the world beside it. -/
structure Stp (T : Tb) (base : Nat) (st st' : St) (ι ι' : Ren) (w w' : World) : Prop where
  abs : Abs T st'
  inv : Inv T.n0 base ι' st'.see w'
  le : ι.le ι'
  dom : ∀ id, ι' id ≠ ι id → st.next ≤ id ∧ id < st'.next
  next : st.next ≤ st'.next
  msk : st'.msk = st.msk
  mem : ∀ f id, id ∈ members st f → id ∈ members st' f
  wl : ∀ b, b ∈ st.wl → b ∈ st'.wl
  old : ∀ id, id < st.next → st'.h.get id ≠ st.h.get id → id ∈ st'.wl
  hid : ∀ id, hidden st.msk id = true → st'.h.get id = st.h.get id
  fam : ∀ id en en', st.h.get id = some en → st'.h.get id = some en' → en'.fam = en.fam
  gone : ∀ id, id < st.next → st.h.get id = none → st'.h.get id = none
  newfam : ∀ id en, st.next ≤ id → st'.h.get id = some en → st.next ≤ en.fam ∨ ∃ b eb, b ∈ st'.wl ∧ b < st.next ∧ st.h.get b = some eb ∧ eb.fam = en.fam
  newid : ∀ id c z, st.next ≤ id → ι id = none → ι' id = some (c, z) → w.heap.size ≤ c ∨ ∃ b z', b ∈ st'.wl ∧ b < st.next ∧ ι b = some (c, z') ∧ ∀ en, st'.h.get id = some en → ∃ eb, st.h.get b = some eb ∧ eb.fam = en.fam
  frame : ∀ c, c < w.heap.size → (∀ b z, b ∈ st'.wl → ι' b ≠ some (c, z)) → w'.heap[c]? = w.heap[c]?
  os : w'.os = w.os
  tape : w'.tape = w.tape
  output : w'.output = w.output
  size : w.heap.size ≤ w'.heap.size

/-- Nothing at all, but draws. -/
theorem Stp.same {T : Tb} {base : Nat} {st : St} {ι : Ren} {w w' : World} (ha : Abs T st) (hi : Inv T.n0 base ι st.see w)
    (hh : w'.heap = w.heap) (ho : w'.os = w.os) (ht : w'.tape = w.tape) (hp : w'.output = w.output) : Stp T base st st ι ι w w' where
  abs := ha
  inv := hi.heap hh
  le := ι.le_refl
  dom := fun id h => absurd rfl h
  next := Nat.le_refl _
  msk := rfl
  mem := fun _ _ h => h
  wl := fun _ h => h
  old := fun id _ h => absurd rfl h
  hid := fun _ _ => rfl
  fam := fun id en en' a b => by rw [a] at b; cases b; rfl
  gone := fun id _ h => h
  newfam := fun id en a b => absurd (ha.lt id en b) (by omega)
  newid := fun id c z _ a b => by rw [a] at b; cases b
  frame := fun c _ _ => by rw [hh]
  os := ho
  tape := ht
  output := hp
  size := by rw [hh]; exact Nat.le_refl _

theorem Stp.refl {T : Tb} {base : Nat} {st : St} {ι : Ren} {w : World} (ha : Abs T st) (hi : Inv T.n0 base ι st.see w) : Stp T base st st ι ι w w := .same ha hi rfl rfl rfl rfl

theorem Stp.trans {T : Tb} {base : Nat} {a b c : St} {ι κ μ : Ren} {u v w : World} (h : Stp T base a b ι κ u v) (k : Stp T base b c κ μ v w)
    (ha : Abs T a) (hf : ∀ id, a.next ≤ id → id < c.next → ι id = none) : Stp T base a c ι μ u w where
  abs := k.abs
  inv := k.inv
  le := Ren.le_trans h.le k.le
  dom := fun id hne => by
    by_cases e : κ id = ι id
    · have := k.dom id (by rw [e]; exact hne); have := h.next; have := k.next; omega
    · have := h.dom id e; have := k.next; omega
  next := Nat.le_trans h.next k.next
  msk := k.msk.trans h.msk
  mem := fun f id x => k.mem f id (h.mem f id x)
  wl := fun b x => k.wl b (h.wl b x)
  old := fun id hlt hne => by
    by_cases e : b.h.get id = a.h.get id
    · exact k.old id (Nat.lt_of_lt_of_le hlt h.next) (by rw [e]; exact hne)
    · exact k.wl id (h.old id hlt e)
  hid := fun id x => (k.hid id (by rw [h.msk]; exact x)).trans (h.hid id x)
  fam := fun id en en' x y => by
    have hlt : id < b.next := Nat.lt_of_lt_of_le (ha.lt id en x) h.next
    cases hb : b.h.get id with
    | some eb => exact (k.fam id eb en' hb y).trans (h.fam id en eb x hb)
    | none => rw [k.gone id hlt hb] at y; cases y
  gone := fun id hlt hn => k.gone id (Nat.lt_of_lt_of_le hlt h.next) (h.gone id hlt hn)
  newfam := fun id en hge hen => by
    by_cases hlt : id < b.next
    · cases hb : b.h.get id with
      | some eb =>
        rw [k.fam id eb en hb hen]
        rcases h.newfam id eb hge hb with x | ⟨d, ed, hd, hl, x, y⟩
        · exact .inl x
        · exact .inr ⟨d, ed, k.wl d hd, hl, x, y⟩
      | none => rw [k.gone id hlt hb] at hen; cases hen
    · rcases k.newfam id en (by omega) hen with x | ⟨d, ed, hd, hl, x, y⟩
      · have := h.next; exact .inl (by omega)
      · by_cases hd2 : d < a.next
        · cases hb : a.h.get d with
          | none => rw [h.gone d hd2 hb] at x; cases x
          | some ea => exact .inr ⟨d, ea, hd, hd2, hb, by rw [← h.fam d ea ed hb x]; exact y⟩
        · rcases h.newfam d ed (by omega) x with z | ⟨d', ed', hd', hl', x', y'⟩
          · exact .inl (by rw [← y]; exact z)
          · exact .inr ⟨d', ed', k.wl d' hd', hl', x', y'.trans y⟩
  newid := fun id c' z hge hn hm => by
    cases hk : κ id with
    | some x =>
      have := k.le id x hk
      rw [hm] at this; cases this
      have hlt : id < b.next := (h.dom id (by rw [hk, hn]; simp)).2
      rcases h.newid id c' z hge hn hk with x | ⟨b', z', p, q, r, f⟩
      · exact .inl x
      · refine .inr ⟨b', z', k.wl _ p, q, r, fun en he => ?_⟩
        cases hb : b.h.get id with
        | none => rw [k.gone id hlt hb] at he; cases he
        | some eb => rw [k.fam id eb en hb he]; exact f eb hb
    | none =>
      by_cases hlt : id < b.next
      · have := k.dom id (by rw [hk, hm]; simp); omega
      · rcases k.newid id c' z (by omega) hk hm with x | ⟨d, z', p, q, r, f⟩
        · have := h.size; exact .inl (by omega)
        · by_cases hd2 : d < a.next
          · have e : κ d = ι d := by
              by_cases e : κ d = ι d
              · exact e
              · have := h.dom d e; omega
            refine .inr ⟨d, z', p, hd2, by rw [← e]; exact r, fun en he => ?_⟩
            obtain ⟨ed, h1, h2⟩ := f en he
            cases ha' : a.h.get d with
            | none => rw [h.gone d hd2 ha'] at h1; cases h1
            | some ea => exact ⟨ea, rfl, by rw [← h.fam d ea ed ha' h1]; exact h2⟩
          · have hid : ι d = none := hf d (by omega) (Nat.lt_of_lt_of_le q k.next)
            rcases h.newid d c' z' (by omega) hid r with x | ⟨b', z2, p', q', r', f'⟩
            · exact .inl x
            · refine .inr ⟨b', z2, k.wl _ p', q', r', fun en he => ?_⟩
              obtain ⟨ed, h1, h2⟩ := f en he
              obtain ⟨eb, h3, h4⟩ := f' ed h1
              exact ⟨eb, h3, h4.trans h2⟩
  frame := fun c' hc hw => by
    have h1 : v.heap[c']? = u.heap[c']? := h.frame c' hc fun b z hb e => hw b z (k.wl b hb) (k.le _ _ e)
    exact (k.frame c' (Nat.lt_of_lt_of_le hc h.size) hw).trans h1
  os := k.os.trans h.os
  tape := k.tape.trans h.tape
  output := k.output.trans h.output
  size := Nat.le_trans h.size k.size

end Go.Proofs.YthdnpikgnmdnnaaGreatDoor.Ev

namespace Go.Proofs.YthdnpikgnmdnnaaGreatDoor.Ev
set_option linter.unusedSimpArgs false
set_option linter.unusedVariables false
set_option linter.unusedSectionVars false
variable [Tok]
open Go.RowKit

/-! A new block -/

noncomputable def Ren.upd (ι : Ren) (id : Nat) (x : Nat × Nat) : Ren := fun i => if i = id then some x else ι i

theorem Ren.le_upd {ι : Ren} {id : Nat} {x : Nat × Nat} (h : ι id = none) : ι.le (ι.upd id x) := by
  intro b y hb
  unfold Ren.upd
  by_cases e : b = id
  · subst e; rw [h] at hb; cases hb
  · rw [if_neg e]; exact hb

theorem Ren.upd_self {ι : Ren} {id : Nat} {x : Nat × Nat} : (ι.upd id x) id = some x := by unfold Ren.upd; rw [if_pos rfl]
theorem Ren.upd_ne {ι : Ren} {id i : Nat} {x : Nat × Nat} (h : i ≠ id) : (ι.upd id x) i = ι i := by unfold Ren.upd; rw [if_neg h]

theorem push_old {w w' : World} {obj : Obj} (hw : w'.heap = w.heap.push obj) {c : Nat} (h : c < w.heap.size) : w'.heap[c]? = w.heap[c]? := by
  rw [hw, Array.getElem?_push, if_neg (by omega)]
theorem push_new {w w' : World} {obj : Obj} (hw : w'.heap = w.heap.push obj) : w'.heap[w.heap.size]? = some obj := by
  rw [hw, Array.getElem?_push, if_pos rfl]

theorem members_new (st : St) (o : Ob) (f : Nat) : members (st.new o).2 f = members st f := rfl

theorem new_get (st : St) (o : Ob) (id : Nat) : (st.new o).2.h.get id = if id = st.next then some ⟨o, st.next⟩ else st.h.get id := by
  show (st.h.set _ _).get id = _
  rw [Tr.get_set]

theorem members_fresh {T : Tb} {st : St} (ha : Abs T st) : members st st.next = [st.next] := by
  unfold members
  cases h : st.mem.get st.next with
  | none => rfl
  | some l => have := ha.mem _ _ h; omega

theorem step_at {T : Tb} {base : Nat} {st : St} {ι : Ren} {w w' : World} (ha : Abs T st) (hi : Inv T.n0 base ι st.see w) (o : Ob) (sz c0 : Nat)
    (hfr : ι st.next = none) (hw : ∀ c, c < w.heap.size → w'.heap[c]? = w.heap[c]?) (hc0 : w.heap.size ≤ c0) (hsz : w.heap.size ≤ w'.heap.size) (ho : w'.os = w.os) (ht : w'.tape = w.tape) (hp : w'.output = w.output)
    (hob : ObR ι w' c0 sz o) :
    Stp T base st (st.new o).2 ι (ι.upd st.next (c0, sz)) w w' := by
  have hle : ι.le (ι.upd st.next (c0, sz)) := Ren.le_upd hfr
  have hne : ∀ id en, st.h.get id = some en → id ≠ st.next := fun id en h e => by have := ha.lt id en h; omega
  have hsee : ∀ id en, (st.new o).2.see id = some en → (id = st.next ∧ en = ⟨o, st.next⟩) ∨ (id ≠ st.next ∧ st.see id = some en) := by
    intro id en h
    have hv := see_vis h
    have hg := see_get h
    rw [new_get] at hg
    by_cases e : id = st.next
    · rw [if_pos e] at hg; cases hg; exact .inl ⟨e, rfl⟩
    · rw [if_neg e] at hg; exact .inr ⟨e, by rw [see_eq (show hidden st.msk id = false from hv)]; exact hg⟩
  refine
    { abs := ⟨fun id en h => ?_, fun id en h => ?_, fun id en h hc => ?_, fun f l h => ?_, fun id en h => ?_, fun id h => ha.msk id (by have : (st.new o).2.next = st.next + 1 := rfl; omega), Nat.le_succ_of_le ha.n0, fun b hb => ⟨(ha.wl b hb).1, Nat.lt_succ_of_lt (ha.wl b hb).2⟩⟩
      inv := ⟨fun id en h => ?_, fun i j ei ej c s s' h1 h2 h3 h4 => ?_, fun id c s hn h => ?_, fun g hg => let ⟨z, hz⟩ := hi.glob g hg; ⟨z, hle _ _ hz⟩, ?_⟩
      le := hle
      dom := fun id h => ?_
      next := Nat.le_succ _
      msk := rfl
      mem := fun f id h => h
      wl := fun b h => h
      old := fun id hlt h => absurd (by rw [new_get, if_neg (by omega)]) h
      hid := fun id h => ?_
      fam := fun id en en' h1 h2 => ?_
      gone := fun id hlt h => by rw [new_get, if_neg (by omega)]; exact h
      newfam := fun id en hge h => ?_
      newid := fun id c z hge hn h => ?_
      frame := fun c hc _ => hw c hc
      os := ho, tape := ht, output := hp
      size := hsz }
  · rw [new_get] at h
    by_cases e : id = st.next
    · subst e; exact Nat.lt_succ_self _
    · rw [if_neg e] at h; exact Nat.lt_succ_of_lt (ha.lt _ _ h)
  · rw [new_get] at h
    rw [members_new]
    by_cases e : id = st.next
    · rw [if_pos e] at h; cases h; subst e; rw [members_fresh ha]; simp
    · rw [if_neg e] at h; exact ha.own _ _ h
  · rw [new_get] at h
    by_cases e : id = st.next
    · rw [if_pos e] at h; cases h; exact e.symm
    · rw [if_neg e] at h; exact ha.sole _ _ h hc
  · exact Nat.lt_succ_of_lt (ha.mem f l h)
  · rw [new_get] at h
    by_cases e : id = st.next
    · rw [if_pos e] at h; cases h; exact Nat.lt_succ_self _
    · rw [if_neg e] at h; exact Nat.lt_succ_of_lt (ha.famlt _ _ h)
  · rcases hsee id en h with ⟨rfl, rfl⟩ | ⟨hne', h⟩
    · exact ⟨_, _, Ren.upd_self, hob.mono hle⟩
    · obtain ⟨c, s, h1, h2⟩ := hi.ob id en h
      exact ⟨c, s, hle _ _ h1, (h2.world (hw _ h2.lt)).mono hle⟩
  · rcases hsee i ei h1 with ⟨rfl, rfl⟩ | ⟨n1, g1⟩ <;> rcases hsee j ej h2 with ⟨rfl, rfl⟩ | ⟨n2, g2⟩
    · rfl
    · rw [Ren.upd_self] at h3; cases h3
      rw [Ren.upd_ne n2] at h4
      obtain ⟨c, s, k1, k2⟩ := hi.ob j ej g2
      rw [k1] at h4; cases h4
      have := k2.lt; omega
    · rw [Ren.upd_self] at h4; cases h4
      rw [Ren.upd_ne n1] at h3
      obtain ⟨c, s, k1, k2⟩ := hi.ob i ei g1
      rw [k1] at h3; cases h3
      have := k2.lt; omega
    · rw [Ren.upd_ne n1] at h3; rw [Ren.upd_ne n2] at h4
      exact hi.fam i j ei ej c s s' g1 g2 h3 h4
  · by_cases e : id = st.next
    · subst e; rw [Ren.upd_self] at h; cases h; exact Nat.le_trans hi.size hc0
    · rw [Ren.upd_ne e] at h; exact hi.sep id c s hn h
  · exact Nat.le_trans hi.size hsz
  · by_cases e : id = st.next
    · subst e; exact ⟨Nat.le_refl _, Nat.lt_succ_self _⟩
    · exact absurd (Ren.upd_ne e) h
  · rw [new_get]
    by_cases e : id = st.next
    · subst e; rw [ha.msk _ (Nat.le_refl _)] at h; cases h
    · rw [if_neg e]
  · rw [new_get, if_neg (hne id en h1), h1] at h2; cases h2; rfl
  · rw [new_get] at h
    by_cases e : id = st.next
    · rw [if_pos e] at h; cases h; exact .inl (Nat.le_refl _)
    · rw [if_neg e] at h; have := ha.lt _ _ h; omega
  · by_cases e : id = st.next
    · subst e; rw [Ren.upd_self] at h; cases h; exact .inl hc0
    · rw [Ren.upd_ne e, hn] at h; cases h

theorem step_new {T : Tb} {base : Nat} {st : St} {ι : Ren} {w w' : World} (ha : Abs T st) (hi : Inv T.n0 base ι st.see w) (o : Ob) (obj : Obj) (sz : Nat)
    (hfr : ι st.next = none) (hw : w'.heap = w.heap.push obj) (ho : w'.os = w.os) (ht : w'.tape = w.tape) (hp : w'.output = w.output)
    (hob : ObR ι w' w.heap.size sz o) :
    Stp T base st (st.new o).2 ι (ι.upd st.next (w.heap.size, sz)) w w' :=
  step_at ha hi o sz w.heap.size hfr (fun _ h => push_old hw h) (Nat.le_refl _) (by rw [hw]; simp) ho ht hp hob

/-! Entries that are changed in place, or forgotten. -/

theorem low_some {T : Tb} {s s' : St} {b : Nat} (h : St.low s T.n0 b = some s') : T.n0 ≤ b ∧ s' = { s with wl := b :: s.wl } := by
  unfold St.low at h
  cases hb : Nat.ble T.n0 b
  · rw [hb] at h; cases h
  · rw [hb] at h; cases h; exact ⟨Nat.le_of_ble_eq_true hb, rfl⟩

/-- One entry is put (Some: of its own family; none: forgotten), the block is noted; the world may turn that block alone. -/
theorem step_put {T : Tb} {base : Nat} {st : St} {ι : Ren} {w w' : World} (ha : Abs T st) (hi : Inv T.n0 base ι st.see w) (b : Nat) (en : En) (x : Option En)
    (hb : st.see b = some en) (hn : T.n0 ≤ b) (hx : ∀ e, x = some e → e.fam = en.fam ∧ isCells e.ob = isCells en.ob)
    (c sz : Nat) (hι : ι b = some (c, sz)) (hfr : ∀ k, k ≠ c → w'.heap[k]? = w.heap[k]?)
    (hob : ∀ e, x = some e → ObR ι w' c sz e.ob)
    (hoth : ∀ i ei z, i ≠ b → st.see i = some ei → ι i = some (c, z) → ObR ι w' c z ei.ob)
    (ho : w'.os = w.os) (ht : w'.tape = w.tape) (hp : w'.output = w.output) (hs : w'.heap.size = w.heap.size) :
    Stp T base st { st with h := st.h.set b x, wl := b :: st.wl } ι ι w w' := by
  have hbg := see_get hb
  have hlt := ha.lt b en hbg
  have hg : ∀ id, (st.h.set b x).get id = if id = b then x else st.h.get id := fun id => Tr.get_set _ _ _ _
  have hsee : ∀ id e, St.see { st with h := st.h.set b x, wl := b :: st.wl } id = some e → (id = b ∧ x = some e) ∨ (id ≠ b ∧ st.see id = some e) := by
    intro id e h
    have hv := see_vis h
    have hgg := see_get h
    rw [show (St.h { st with h := st.h.set b x, wl := b :: st.wl }) = st.h.set b x from rfl, hg] at hgg
    by_cases e' : id = b
    · rw [if_pos e'] at hgg; exact .inl ⟨e', hgg⟩
    · rw [if_neg e'] at hgg; exact .inr ⟨e', by rw [see_eq (show hidden st.msk id = false from hv)]; exact hgg⟩
  refine
    { abs := ⟨fun id e h => ?_, fun id e h => ?_, fun id e h hc => ?_, ha.mem, fun id e h => ?_, ha.msk, ha.n0, fun y hy => ?_⟩
      inv := ⟨fun id e h => ?_, fun i j ei ej c' s s' h1 h2 h3 h4 => ?_, hi.sep, hi.glob, by rw [hs]; exact hi.size⟩
      le := ι.le_refl
      dom := fun id h => absurd rfl h
      next := Nat.le_refl _
      msk := rfl
      mem := fun f id h => h
      wl := fun y hy => List.mem_cons_of_mem _ hy
      old := fun id _ h => ?_
      hid := fun id h => ?_
      fam := fun id e e' h1 h2 => ?_
      gone := fun id _ h => ?_
      newfam := fun id e hge h => ?_
      newid := fun id c z _ hn' h => by rw [hn'] at h; cases h
      frame := fun k _ h => hfr k (fun e => h b sz (List.mem_cons_self ..) (by rw [e]; exact hι))
      os := ho, tape := ht, output := hp
      size := by rw [hs]; exact Nat.le_refl _ }
  · have h : (st.h.set b x).get id = some e := h
    rw [hg] at h
    by_cases e' : id = b
    · rw [e']; exact hlt
    · rw [if_neg e'] at h; exact ha.lt _ _ h
  · have h : (st.h.set b x).get id = some e := h
    rw [hg] at h
    show id ∈ members st e.fam
    by_cases e' : id = b
    · rw [if_pos e'] at h; rw [(hx e h).1, e']; exact ha.own b en hbg
    · rw [if_neg e'] at h; exact ha.own _ _ h
  · have h : (st.h.set b x).get id = some e := h
    rw [hg] at h
    by_cases e' : id = b
    · rw [if_pos e'] at h; rw [(hx e h).1, e']; exact ha.sole b en hbg (by rw [← (hx e h).2]; exact hc)
    · rw [if_neg e'] at h; exact ha.sole _ _ h hc
  · have h : (st.h.set b x).get id = some e := h
    rw [hg] at h
    by_cases e' : id = b
    · rw [if_pos e'] at h; rw [(hx e h).1]; exact ha.famlt b en hbg
    · rw [if_neg e'] at h; exact ha.famlt _ _ h
  · rcases List.mem_cons.1 hy with rfl | hy
    · exact ⟨hn, hlt⟩
    · exact ha.wl _ hy
  · rcases hsee id e h with ⟨rfl, hxe⟩ | ⟨hne, h⟩
    · exact ⟨c, sz, hι, hob e hxe⟩
    · obtain ⟨c', s, h1, h2⟩ := hi.ob id e h
      by_cases hc : c' = c
      · subst hc; exact ⟨_, s, h1, hoth id e s hne h h1⟩
      · exact ⟨c', s, h1, h2.world (hfr c' hc)⟩
  · have fam : ∀ i ei, St.see { st with h := st.h.set b x, wl := b :: st.wl } i = some ei → ∃ e0, st.see i = some e0 ∧ e0.fam = ei.fam := by
      intro i ei h
      rcases hsee i ei h with ⟨rfl, hxe⟩ | ⟨_, h⟩
      · exact ⟨en, hb, ((hx ei hxe).1).symm⟩
      · exact ⟨ei, h, rfl⟩
    obtain ⟨e1, g1, f1⟩ := fam i ei h1
    obtain ⟨e2, g2, f2⟩ := fam j ej h2
    rw [← f1, ← f2]
    exact hi.fam i j e1 e2 c' s s' g1 g2 h3 h4
  · have h : (st.h.set b x).get id ≠ st.h.get id := h
    rw [hg] at h
    by_cases e' : id = b
    · rw [e']; exact List.mem_cons_self ..
    · rw [if_neg e'] at h; exact absurd rfl h
  · show (st.h.set b x).get id = _
    rw [hg]
    by_cases e' : id = b
    · rw [e', see_vis hb] at h; cases h
    · rw [if_neg e']
  · have h2 : (st.h.set b x).get id = some e' := h2
    rw [hg] at h2
    by_cases e'' : id = b
    · rw [if_pos e''] at h2; rw [e'', hbg] at h1; cases h1; exact (hx _ h2).1
    · rw [if_neg e'', h1] at h2; cases h2; rfl
  · show (st.h.set b x).get id = _
    rw [hg]
    by_cases e' : id = b
    · rw [e', hbg] at h; cases h
    · rw [if_neg e']; exact h
  · have h : (st.h.set b x).get id = some e := h
    rw [hg] at h
    by_cases e' : id = b
    · have hge' : st.next ≤ id := hge
      omega
    · rw [if_neg e'] at h; have := ha.lt _ _ h; have hge' : st.next ≤ id := hge; omega


/-- A block that holds no cells is turned: nothing else lies there. -/
theorem step_solo {T : Tb} {base : Nat} {st : St} {ι : Ren} {w : World} (ha : Abs T st) (hi : Inv T.n0 base ι st.see w) {b : Nat} {en : En} (hb : st.see b = some en) (hnc : isCells en.ob = false) (hn : T.n0 ≤ b) (x : Option En)
    (hx : ∀ e, x = some e → e.fam = en.fam ∧ isCells e.ob = isCells en.ob) {c sz : Nat} (hι : ι b = some (c, sz)) (obj : Obj) (hob : ∀ e, x = some e → ObR ι { w with heap := w.heap.setIfInBounds c obj } c sz e.ob) :
    Stp T base st { st with h := st.h.set b x, wl := b :: st.wl } ι ι w { w with heap := w.heap.setIfInBounds c obj } := by
  obtain ⟨c', s', k1, q1⟩ := hi.ob b _ hb
  rw [hι] at k1; cases k1
  refine step_put ha hi b en x hb hn hx c sz hι (fun k hk => ?_) hob (fun i ei z hne h1 h2 => ?_) rfl rfl rfl (by simp)
  · show (w.heap.setIfInBounds c _)[k]? = _
    rw [Array.getElem?_setIfInBounds_ne (Ne.symm hk)]
  · exfalso
    have hf := hi.fam i b ei _ c z sz h1 hb h2 hι
    have hir := ha.sole b _ (see_get hb) hnc
    have hk : isCells ei.ob = false := by
      obtain ⟨c2, s2, k1, k2⟩ := hi.ob i ei h1
      rw [h2] at k1; cases k1
      cases hob : ei.ob with
      | cells cs el ex fz =>
        rw [hob] at k2
        obtain ⟨_, _, q', _⟩ := k2
        cases heb : en.ob with
        | cells cs el ex fz => rw [heb] at hnc; cases hnc
        | map es => rw [heb] at q1; obtain ⟨_, _, q, _⟩ := q1; rw [q] at q'; cases q'
        | pmap es => rw [heb] at q1; obtain ⟨_, _, q, _⟩ := q1; rw [q] at q'; cases q'
        | siter s p => rw [heb] at q1; have q1 : w.heap[c]? = _ := q1; rw [q1] at q'; cases q'
        | loop t nt k busy => rw [heb] at q1; obtain ⟨_, _, q, _⟩ := q1; rw [q] at q'; cases q'
        | dfr => rw [heb] at q1; have q1 : w.heap[c]? = _ := q1; rw [q1] at q'; cases q'
      | _ => rfl
    have := ha.sole i ei (see_get h1) hk
    omega

end Go.Proofs.YthdnpikgnmdnnaaGreatDoor.Ev

namespace Go.Proofs.YthdnpikgnmdnnaaGreatDoor.Ev
set_option linter.unusedSimpArgs false
set_option linter.unusedVariables false
set_option linter.unusedSectionVars false
variable [Tok]
open Go.RowKit

/-! Stores -/

theorem setAt_ov : ∀ (cs vs cs' : List Value), setAt.ov cs vs = some cs' → cs'.length = cs.length ∧ vs.length ≤ cs.length ∧ ∀ i : Nat, cs'[i]? = if i < vs.length then vs[i]? else cs[i]?
  | cs, [], cs', h => by
    simp only [setAt.ov] at h; cases h
    exact ⟨rfl, Nat.zero_le _, fun i => by simp⟩
  | [], v :: vs, cs', h => by cases h
  | c :: cs, v :: vs, cs', h => by
    simp only [setAt.ov] at h
    cases hr : setAt.ov cs vs with
    | none => rw [hr] at h; cases h
    | some r =>
      rw [hr] at h; cases h
      obtain ⟨h1, h2, h3⟩ := setAt_ov cs vs r hr
      refine ⟨by simp [h1], by simpa using h2, fun i => ?_⟩
      cases i with
      | zero => simp
      | succ i => simpa using h3 i

theorem setAt_some : ∀ (cs : List Value) (n : Nat) (vs cs' : List Value), setAt cs n vs = some cs' →
    cs'.length = cs.length ∧ n + vs.length ≤ cs.length ∧ ∀ i : Nat, cs'[i]? = if n ≤ i ∧ i < n + vs.length then vs[i - n]? else cs[i]?
  | cs, 0, vs, cs', h => by
    have h' : setAt.ov cs vs = some cs' := by cases cs <;> exact h
    obtain ⟨h1, h2, h3⟩ := setAt_ov cs vs cs' h'
    exact ⟨h1, by omega, fun i => by simpa using h3 i⟩
  | [], n + 1, vs, cs', h => by cases h
  | c :: cs, n + 1, vs, cs', h => by
    simp only [setAt] at h
    cases hr : setAt cs n vs with
    | none => rw [hr] at h; cases h
    | some r =>
      rw [hr] at h; cases h
      obtain ⟨h1, h2, h3⟩ := setAt_some cs n vs r hr
      refine ⟨by simp [h1], by simp; omega, fun i => ?_⟩
      cases i with
      | zero => rw [if_neg (by omega)]; rfl
      | succ i =>
        have := h3 i
        simp only [List.getElem?_cons_succ, this]
        by_cases hh : n ≤ i ∧ i < n + vs.length
        · rw [if_pos hh, if_pos (by omega), Nat.succ_sub_succ]
        · rw [if_neg hh, if_neg (by omega)]

theorem setCell_heap {w : World} {c : Nat} {arr : Array Value} {el : TypeId} {fr : Nat × Nat} (h : w.heap[c]? = some (.cells arr el fr)) (o : Nat) (v : Value) :
    (w.setCell ⟨c, o, none⟩ v).heap[c]? = some (.cells (arr.setIfInBounds o v) el fr) := by
  simp [World.setCell, Array.getElem?_modify, h]

theorem setCells_heap (c : Nat) (el : TypeId) (fr : Nat × Nat) : ∀ (vs : List Value) (o : Nat) (w : World) (arr : Array Value), w.heap[c]? = some (.cells arr el fr) → o + vs.length ≤ arr.size →
    ∃ arr' : Array Value, (w.setCells c o vs).heap[c]? = some (.cells arr' el fr) ∧ arr'.size = arr.size ∧ ∀ i : Nat, arr'.toList[i]? = if o ≤ i ∧ i < o + vs.length then vs[i - o]? else arr.toList[i]?
  | [], o, w, arr, h, hl => ⟨arr, h, rfl, fun i => by rw [if_neg (by simp only [List.length_nil]; omega)]⟩
  | v :: r, o, w, arr, h, hl => by
    simp only [List.length_cons] at hl
    obtain ⟨arr', h1, h2, h3⟩ := setCells_heap c el fr r (o + 1) (w.setCell ⟨c, o, none⟩ v) (arr.setIfInBounds o v) (setCell_heap h o v) (by simp; omega)
    refine ⟨arr', h1, by rw [h2]; simp, fun i => ?_⟩
    rw [h3 i, show (arr.setIfInBounds o v).toList = arr.toList.set o v by simp]
    simp only [List.length_cons]
    by_cases e : i = o
    · subst e
      rw [if_neg (by omega), if_pos (by omega), List.getElem?_set_self (by simp; omega), Nat.sub_self]
      rfl
    · by_cases hh : o + 1 ≤ i ∧ i < o + 1 + r.length
      · rw [if_pos hh, if_pos (by omega)]
        obtain ⟨d, hd⟩ : ∃ d, i - o = d + 1 := ⟨i - o - 1, by omega⟩
        rw [hd, show i - (o + 1) = d by omega]; rfl
      · rw [if_neg hh, if_neg (by omega), List.getElem?_set_ne (by omega)]

theorem setCells_ne (c : Nat) : ∀ (vs : List Value) (o : Nat) (w : World) (k : Nat), k ≠ c → (w.setCells c o vs).heap[k]? = w.heap[k]?
  | [], _, _, _, _ => rfl
  | v :: r, o, w, k, h => by rw [World.setCells, setCells_ne c r _ _ k h]; exact Below.heap_setCell _ _ _ _ h

theorem setCells_side (c : Nat) : ∀ (vs : List Value) (o : Nat) (w : World), (w.setCells c o vs).os = w.os ∧ (w.setCells c o vs).tape = w.tape ∧ (w.setCells c o vs).output = w.output ∧ (w.setCells c o vs).heap.size = w.heap.size
  | [], _, _ => ⟨rfl, rfl, rfl, rfl⟩
  | v :: r, o, w => by
    obtain ⟨h1, h2, h3, h4⟩ := setCells_side c r (o + 1) (w.setCell ⟨c, o, none⟩ v)
    exact ⟨h1, h2, h3, by rw [World.setCells, h4]; simp [World.setCell]⟩

/-- What poison leaves. -/
structure Pois (T : Tb) (base : Nat) (n but : Nat) (l : List Nat) (ι : Ren) (w : World) (st st1 : St) : Prop where
  stp : Stp T base st st1 ι ι w w
  keep : st1.h.get but = st.h.get but
  next : st1.next = st.next
  mems : st1.mem = st.mem
  ok : ∀ id, id ∈ l → id ≠ but → ∀ en, st1.see id = some en → ∃ cs el ex fz, en.ob = .cells cs el ex fz ∧ cs.length ≤ n
  less : ∀ id en, st1.see id = some en → st.see id = some en

theorem poison_ok {T : Tb} {base n but : Nat} {ι : Ren} {w : World} : ∀ (l : List Nat) (st st1 : St), Abs T st → Inv T.n0 base ι st.see w → poison T.n0 n but l st = some st1 → Pois T base n but l ι w st st1
  | [], st, st1, ha, hi, h => by
    simp only [poison] at h; cases h
    exact ⟨.refl ha hi, rfl, rfl, rfl, fun id h => by simp at h, fun _ _ h => h⟩
  | id :: r, st, st1, ha, hi, h => by
    simp only [poison] at h
    cases hb : Nat.beq id but with
    | true =>
      rw [hb] at h
      have he := Nat.eq_of_beq_eq_true hb
      obtain ⟨a, b, c, d, e, f⟩ := poison_ok r st st1 ha hi h
      exact ⟨a, b, c, d, fun x hx hne => by
        rcases List.mem_cons.1 hx with rfl | hx
        · exact absurd he hne
        · exact e x hx hne, f⟩
    | false =>
      rw [hb] at h
      simp only [cond_false] at h
      have hne : id ≠ but := fun e => by rw [e, Nat.beq_refl] at hb; cases hb
      cases hs : st.see id with
      | none =>
        rw [hs] at h
        obtain ⟨a, b, c, d, e, f⟩ := poison_ok r st st1 ha hi h
        exact ⟨a, b, c, d, fun x hx hne' en hen => by
          rcases List.mem_cons.1 hx with rfl | hx
          · have := f _ _ hen; rw [hs] at this; cases this
          · exact e x hx hne' en hen, f⟩
      | some en =>
        rw [hs] at h
        obtain ⟨ob, fam⟩ := en
        cases ob with
        | map es => cases h
        | pmap es => cases h
        | siter s p => cases h
        | loop t nt k busy => cases h
        | dfr => cases h
        | cells cs el ex fz =>
          simp only at h
          cases hl : Nat.blt n cs.length with
          | false =>
            rw [hl] at h
            obtain ⟨a, b, c, d, e, f⟩ := poison_ok r st st1 ha hi h
            exact ⟨a, b, c, d, fun x hx hne' en hen => by
              rcases List.mem_cons.1 hx with rfl | hx
              · have := f _ _ hen; rw [hs] at this; cases this
                have hlt : ¬ n < cs.length := fun hlt => by rw [show Nat.blt n cs.length = true from Nat.ble_eq_true_of_le hlt] at hl; cases hl
                exact ⟨cs, el, ex, fz, rfl, by omega⟩
              · exact e x hx hne' en hen, f⟩
          | true =>
            rw [hl] at h
            simp only [cond_true] at h
            cases hlow : St.low { st with h := st.h.set id none } T.n0 id with
            | none => rw [hlow] at h; cases h
            | some s2 =>
              rw [hlow] at h
              obtain ⟨hn0, rfl⟩ := low_some hlow
              obtain ⟨c, sz, hι, hob⟩ := hi.ob id _ hs
              have stp := step_put (w' := w) ha hi id _ none hs hn0 (fun e h => by cases h) c sz hι (fun _ _ => rfl) (fun e h => by cases h)
                (fun i ei z _ h1 h2 => by obtain ⟨c', s', k1, k2⟩ := hi.ob i ei h1; rw [k1] at h2; cases h2; exact k2) rfl rfl rfl rfl
              obtain ⟨a, b, c, d, e, f⟩ := poison_ok r _ st1 stp.abs stp.inv h
              have f' : ∀ x en, st1.see x = some en → st.see x = some en := fun x en hx => by
                have := f x en hx
                have hv := see_vis this
                have hg := see_get this
                rw [show (St.h { st with h := st.h.set id none, wl := id :: st.wl }) = st.h.set id none from rfl, Tr.get_set] at hg
                by_cases e' : x = id
                · rw [if_pos e'] at hg; cases hg
                · rw [if_neg e'] at hg; rw [see_eq (show hidden st.msk x = false from hv)]; exact hg
              refine ⟨stp.trans a ha (fun x h1 h2 => absurd h2 (by rw [c]; exact Nat.not_lt.2 h1)), b.trans ?_, c, d, fun x hx hne' en hen => ?_, f'⟩
              · show (st.h.set id none).get but = _
                rw [Tr.get_set, if_neg (Ne.symm hne)]
              · rcases List.mem_cons.1 hx with rfl | hx
                · have := f _ _ hen
                  have hg := see_get this
                  rw [show (St.h { st with h := st.h.set x none, wl := x :: st.wl }) = st.h.set x none from rfl, Tr.get_set, if_pos rfl] at hg
                  cases hg
                · exact e x hx hne' en hen

theorem oneC_conc {v : Value} (h : oneC v = true) : v.oneCell' = true := by cases v <;> first | rfl | cases h

/-- A store of cells. -/
theorem store_ok {T : Tb} {base : Nat} {st st' : St} {ι : Ren} {w : World} (ha : Abs T st) (hi : Inv T.n0 base ι st.see w) {b off c sz : Nat} {vs vs' : List Value}
    (h : St.store T.n0 st b off vs = some st') (hι : ι b = some (c, sz)) (hv : All2 (Rv ι) vs vs') :
    Stp T base st st' ι ι w (w.setCells c off vs') ∧ (∀ j, j < vs'.length → (w.cell? ⟨c, off + j, none⟩).isSome = true) ∧ (∀ j, j < vs'.length → w.frozen? ⟨c, off + j, none⟩ = false) ∧ (∀ v ∈ vs', v.oneCell' = true) ∧ st'.next = st.next := by
  cases vs with
  | nil =>
    simp only [St.store] at h; cases h
    obtain rfl := hv.nil_inv
    exact ⟨.refl ha hi, fun j h => by simp at h, fun j h => by simp at h, fun v h => by simp at h, rfl⟩
  | cons v0 vr =>
    generalize hvs : v0 :: vr = vs at h hv
    have h : (match st.see b with
      | some ⟨.cells cs el ex false, fam⟩ =>
        match setAt cs off vs with
        | some cs' =>
          cond (vs.all oneC)
            (match poison T.n0 off b (members st fam) st with
             | some s => St.low { s with h := s.h.set b (some ⟨.cells cs' el ex false, fam⟩) } T.n0 b
             | none => none)
            none
        | none => none
      | _ => none) = some st' := by subst hvs; exact h
    cases hs : st.see b with
    | none => rw [hs] at h; cases h
    | some en =>
      obtain ⟨ob, fam⟩ := en
      rw [hs] at h
      cases ob with
      | map es => cases h
      | pmap es => cases h
      | siter s p => cases h
      | loop t nt k busy => cases h
      | dfr => cases h
      | cells cs el ex fz =>
        cases fz with
        | true => cases h
        | false =>
          simp only at h
          cases hset : setAt cs off vs with
          | none => rw [hset] at h; cases h
          | some cs' =>
            rw [hset] at h
            simp only at h
            cases hone : vs.all oneC with
            | false => rw [hone] at h; cases h
            | true =>
              rw [hone] at h
              simp only [cond_true] at h
              cases hp : poison T.n0 off b (members st fam) st with
              | none => rw [hp] at h; cases h
              | some s1 =>
                rw [hp] at h
                obtain ⟨hn0, rfl⟩ := low_some h
                have P := poison_ok _ _ _ ha hi hp
                obtain ⟨l1, l2, l3⟩ := setAt_some _ _ _ _ hset
                have hvis := see_vis hs
                have hs1 : s1.see b = some ⟨.cells cs el ex false, fam⟩ := by
                  rw [see_eq (by rw [P.stp.msk]; exact hvis), P.keep]; exact see_get hs
                obtain ⟨c', s', k1, arr, fr, q1, q2, q3, q4, q5, q6, q7⟩ := hi.ob b _ hs
                rw [hι] at k1; cases k1
                have hlen := hv.1
                have hfit : off + vs'.length ≤ arr.size := by omega
                obtain ⟨arr', r1, r2, r3⟩ := setCells_heap c el fr vs' off w arr q1 hfit
                obtain ⟨o1, o2, o3, o4⟩ := setCells_side c vs' off w
                have stp := step_put (w' := w.setCells c off vs') P.stp.abs P.stp.inv b _ (some ⟨.cells cs' el ex false, fam⟩) hs1 hn0 (fun e h => by cases h; exact ⟨rfl, rfl⟩) c sz hι
                  (fun k hk => setCells_ne c vs' off w k hk)
                  (fun e h => by
                    cases h
                    refine ⟨arr', fr, r1, by rw [r2]; exact q2, by omega, fun hex => by rw [l1]; exact q4 hex, fun i v hv' => ?_, q6, q7⟩
                    rw [l3] at hv'
                    rw [r3]
                    by_cases hh : off ≤ i ∧ i < off + vs.length
                    · rw [if_pos hh] at hv'
                      rw [if_pos (by omega)]
                      exact hv.get hv'
                    · rw [if_neg hh] at hv'
                      rw [if_neg (by omega)]
                      exact q5 i v hv')
                  (fun i ei z hne h1 h2 => by
                    have h1' := P.less _ _ h1
                    have hfam : ei.fam = fam := by
                      have := hi.fam i b ei _ c z sz h1' hs h2 hι
                      exact this
                    have hmem : i ∈ members st fam := by rw [← hfam]; exact ha.own i ei (see_get h1')
                    obtain ⟨cs2, el2, ex2, fz2, e1, e2⟩ := P.ok i hmem hne ei h1
                    obtain ⟨c2, s2, k1, k2⟩ := hi.ob i ei h1'
                    rw [h2] at k1; cases k1
                    rw [e1] at k2 ⊢
                    obtain ⟨arr2, fr2, p1, p2, p3, p4, p5, p6, p7⟩ := k2
                    rw [q1] at p1; cases p1
                    refine ⟨arr', _, r1, by rw [r2]; exact p2, p3, p4, fun j v hj => ?_, p6, p7⟩
                    have hjl : j < cs2.length := by
                      rcases Nat.lt_or_ge j cs2.length with x | x
                      · exact x
                      · rw [List.getElem?_eq_none x] at hj; cases hj
                    rw [r3, if_neg (by omega)]
                    exact p5 j v hj) o1 o2 o3 o4
                refine ⟨P.stp.trans stp ha (fun x h1 h2 => absurd h2 (by have := P.next; show ¬ x < s1.next; omega)), fun j hj => ?_, fun j hj => ?_, fun v hv' => ?_, P.next⟩
                · have : off + j < arr.size := by omega
                  simp [World.cell?, q1, this]
                · have := q7 rfl (off + j) (by omega)
                  simp only [World.frozen?, q1]
                  simpa using this
                · obtain ⟨i, hi', rfl⟩ := List.mem_iff_getElem.1 hv'
                  have hil : i < vs.length := by omega
                  have hr := hv.2 i vs[i] vs'[i] (List.getElem?_eq_getElem hil) (List.getElem?_eq_getElem hi')
                  exact oneC_conc (by rw [rv_oneC hr]; exact List.all_eq_true.1 hone _ (List.getElem_mem hil))

end Go.Proofs.YthdnpikgnmdnnaaGreatDoor.Ev

namespace Go.Proofs.YthdnpikgnmdnnaaGreatDoor.Ev
set_option linter.unusedSimpArgs false
set_option linter.unusedVariables false
set_option linter.unusedSectionVars false
variable [Tok]
open Go.RowKit

/-- The tables are the program's. -/
structure TbOk (P : Program) (T : Tb) : Prop where
  ty : ∀ t i, T.ty.get t = some i → P.info? t = some i
  fn : ∀ f fn, T.fn.get f = some fn → P.funcs[f]? = some fn
  ng : ∀ f fn, T.fn.get f = some fn → (fn.name == "runtime.NumGoroutine") = false
  mixed : P.follows .mixedOrders = true

section
variable {P : Program} {T : Tb} (hT : TbOk P T)
include hT

theorem und_ok {t : TypeId} {d : TypeDesc} (h : T.und t = some d) : P.underlying t = some d := by
  unfold Tb.und at h
  unfold Program.underlying
  cases hi : T.ty.get t with
  | none => rw [hi] at h; cases h
  | some i =>
    rw [hi] at h
    rw [hT.ty t i hi]
    obtain ⟨desc, _, _, _, _, _, _, _, _, _⟩ := i
    cases desc <;> first
      | exact h
      | (rename_i n u
         cases hu : T.ty.get u with
         | none => simp only [hu] at h; cases h
         | some j => simp only [hu] at h; simp only [hT.ty u j hu]; exact h)

theorem run_und {t : TypeId} {d : TypeDesc} (h : T.und t = some d) (w : World) : (underlying t).run P w = .ok d w := run_underlying (und_ok hT h) w

theorem run_ti {t : TypeId} {i : TypeInfo} (h : T.ty.get t = some i) (w : World) : (typeInfo t).run P w = .ok i w := by
  simp [typeInfo, hT.ty t i h]

theorem size_ti {t : TypeId} {n : Nat} (h : T.size t = some n) : ∃ i, T.ty.get t = some i ∧ i.size = n := by
  unfold Tb.size at h
  cases hi : T.ty.get t with
  | none => rw [hi] at h; cases h
  | some i => rw [hi] at h; cases h; exact ⟨i, rfl, rfl⟩

theorem run_size {t : TypeId} {n : Nat} (h : T.size t = some n) (w : World) : (sizeOf t).run P w = .ok n w := by
  obtain ⟨i, hi, rfl⟩ := size_ti hT h
  simp [sizeOf, run_ti hT hi]

theorem run_zero {t : TypeId} {z : Value} (h : T.zero t = some z) (w : World) : (zeroValue t).run P w = .ok z w ∧ closedV 40 z = true := by
  unfold Tb.zero at h
  cases hi : T.ty.get t with
  | none => rw [hi] at h; cases h
  | some i =>
    rw [hi] at h
    simp only [Option.bind_some] at h
    cases hz : i.zero with
    | none => rw [hz] at h; cases h
    | some z' =>
      rw [hz] at h
      simp only [Option.bind_some] at h
      cases hc : closedV 40 z' with
      | false => rw [hc] at h; cases h
      | true => rw [hc] at h; cases h; exact ⟨by simp [zeroValue, run_ti hT hi, hz], hc⟩

theorem run_agg {t : TypeId} {b : Bool} (h : T.agg t = some b) (w : World) : (isAgg t).run P w = .ok b w := by
  unfold Tb.agg at h
  cases hu : T.und t with
  | none => rw [hu] at h; cases h
  | some d =>
    rw [hu] at h
    unfold isAgg
    cases d <;> simp [run_und hT hu] <;> cases h <;> rfl

end

/-! Addresses and cells -/

theorem addr_add (c o j : Nat) : (⟨c, o, none⟩ : Addr).add j = ⟨c, o + j, none⟩ := by
  unfold Addr.add
  by_cases h : j = 0
  · subst h; simp
  · rw [if_neg h]

/-- What is known of the temporaries. -/

theorem operand_ok {n0 base : Nat} {ι : Ren} {V : View} {w : World} (hi : Inv n0 base ι V w) {t : Tr Value} {a : Act} (ht : TR ι t a.tmps) {x : Operand} {v : Value} (h : operand n0 t x = some v) : Rv ι v (a.eval x) := by
  cases x with
  | tmp i =>
    obtain ⟨v', h1, h2⟩ := ht i v h
    simp only [Act.eval]
    rw [Array.getD_eq_getD_getElem?, h1]
    exact h2
  | const c =>
    simp only [operand] at h
    cases hc : closedV 40 c with
    | false => rw [hc] at h; cases h
    | true => rw [hc] at h; cases h; exact rv_closed ι _ _ hc
  | global g =>
    simp only [operand] at h
    cases hc : Nat.blt g n0 with
    | false => rw [hc] at h; cases h
    | true =>
      rw [hc] at h; cases h
      obtain ⟨s, hs⟩ := hi.glob g (Nat.le_of_ble_eq_true hc)
      exact .ptr hs
  | func f => cases h; exact .func rfl (fun i x y h => by simp at h) rfl (fun i x y h => by simp at h)

theorem operands_ok {n0 base : Nat} {ι : Ren} {V : View} {w : World} (hi : Inv n0 base ι V w) {t : Tr Value} {a : Act} (ht : TR ι t a.tmps) : ∀ {l : List Operand} {vs : List Value}, operands n0 t l = some vs → All2 (Rv ι) vs (l.map a.eval)
  | [], vs, h => by cases h; exact .nil
  | o :: r, vs, h => by
    simp only [operands] at h
    cases ho : operand n0 t o with
    | none => rw [ho] at h; cases h
    | some v =>
      rw [ho] at h
      cases hr : operands n0 t r with
      | none => rw [hr] at h; cases h
      | some l => rw [hr] at h; cases h; exact .cons (operand_ok hi ht ho) (operands_ok hi ht hr)

theorem parts_ok {n0 base : Nat} {ι : Ren} {V : View} {w : World} (hi : Inv n0 base ι V w) {t : Tr Value} {a : Act} (ht : TR ι t a.tmps) : ∀ {l : List (Nat × Operand)} {vs : List (Nat × Value)}, parts n0 t l = some vs → All2 (fun x y => x.1 = y.1 ∧ Rv ι x.2 y.2) vs (l.map fun x => (x.1, a.eval x.2))
  | [], vs, h => by cases h; exact .nil
  | (i, o) :: r, vs, h => by
    simp only [parts] at h
    cases ho : operand n0 t o with
    | none => rw [ho] at h; cases h
    | some v =>
      rw [ho] at h
      cases hr : parts n0 t r with
      | none => rw [hr] at h; cases h
      | some l => rw [hr] at h; cases h; exact .cons ⟨rfl, operand_ok hi ht ho⟩ (parts_ok hi ht hr)

theorem cellsAt_ok {n0 base : Nat} {ι : Ren} {st : St} {w : World} (hi : Inv n0 base ι st.see w) {b off n c sz : Nat} {l : List Value} (h : st.cellsAt b off n = some l) (hι : ι b = some (c, sz)) :
    ∃ l', All2 (Rv ι) l l' ∧ l'.length = n ∧ ∀ (j : Nat) v, l'[j]? = some v → w.cell? ⟨c, off + j, none⟩ = some v := by
  unfold St.cellsAt at h
  cases hs : st.see b with
  | none => rw [hs] at h; cases h
  | some en =>
    obtain ⟨ob, fam⟩ := en
    rw [hs] at h
    cases ob with
    | map es => cases h
    | pmap es => cases h
    | siter s p => cases h
    | loop t nt k busy => cases h
    | dfr => cases h
    | cells cs el ex fz =>
      simp only at h
      cases hb : Nat.beq ((cs.drop off).take n).length n with
      | false => rw [hb] at h; cases h
      | true =>
        rw [hb] at h; cases h
        obtain ⟨c', s', k1, arr, fr, q1, q2, q3, q4, q5, q6, q7⟩ := hi.ob b _ hs
        rw [hι] at k1; cases k1
        have hlen := Nat.eq_of_beq_eq_true hb
        have hfit : n = 0 ∨ off + n ≤ cs.length := by simp at hlen; omega
        refine ⟨(arr.toList.drop off).take n, ⟨by simp at hlen ⊢; omega, fun i x y hx hy => ?_⟩, by simp; omega, fun j v hv => ?_⟩
        · rw [List.getElem?_take] at hx hy
          by_cases hin : i < n
          · rw [if_pos hin] at hx hy
            rw [List.getElem?_drop] at hx hy
            obtain ⟨v', g1, g2⟩ := q5 _ _ hx
            rw [g1] at hy; cases hy; exact g2
          · rw [if_neg hin] at hx; cases hx
        · rw [List.getElem?_take] at hv
          by_cases hin : j < n
          · rw [if_pos hin, List.getElem?_drop] at hv
            simp [World.cell?, q1, ← hv]
          · rw [if_neg hin] at hv; cases hv

theorem run_cells {P : Program} {w : World} {c off n : Nat} {l : List Value} (hl : l.length = n) (h : ∀ (j : Nat) v, l[j]? = some v → w.cell? ⟨c, off + j, none⟩ = some v) :
    (loadCells ⟨c, off, none⟩ n).run P w = .ok l.toArray w := by
  subst hl
  exact run_loadCells_list w _ l fun j v hv => by rw [addr_add]; exact h j v hv

/-! Operations that look at memory and leave it. -/

section
variable {P : Program} {T : Tb} (hT : TbOk P T) {base : Nat} {ι : Ren} {st st' : St} {w : World}
include hT

theorem ptr_inv {ι : Ren} {a : Addr} {x' : Value} (h : Rv ι (.pointer (some a)) x') : ∃ b o c sz, a = ⟨b, o, none⟩ ∧ x' = .pointer (some ⟨c, o, none⟩) ∧ ι b = some (c, sz) := by
  cases h with
  | ptr h => exact ⟨_, _, _, _, rfl, rfl, h⟩

theorem loadA_ok (hi : Inv T.n0 base ι st.see w) {ty : TypeId} {x x' v : Value} (hx : Rv ι x x') (h : loadA T st ty x = some (v, st')) :
    st' = st ∧ ∃ v', (Instr.loadAt ty x').run P w = .ok v' w ∧ Rv ι v v' := by
  cases x with
  | pointer p =>
    cases p with
    | none => cases h
    | some a =>
      obtain ⟨b, o, c, sz, rfl, rfl, hb⟩ := ptr_inv hT hx
      simp only [loadA] at h
      cases hagg : T.agg ty with
      | none => rw [hagg] at h; cases h
      | some g =>
        rw [hagg] at h
        cases g with
        | true =>
          cases hsz : T.size ty with
          | none => rw [hsz] at h; cases h
          | some n =>
            rw [hsz] at h
            simp only at h
            cases hc : st.cellsAt b o n with
            | none => rw [hc] at h; cases h
            | some l =>
              rw [hc] at h
              simp only [ret, Option.map_some] at h
              cases h
              obtain ⟨l', h1, h2, h3⟩ := cellsAt_ok hi hc hb
              refine ⟨rfl, .agg l'.toArray, ?_, ?_⟩
              · simp [Instr.loadAt, Instr.sureAddr, loadVar, run_agg hT hagg, run_size hT hsz, run_cells h2 h3]
              · exact rv_agg h1
        | false =>
          cases hsz : T.size ty with
          | none => rw [hsz] at h; cases h
          | some n =>
            rw [hsz] at h
            simp only at h
            cases hc : st.cellsAt b o 1 with
            | none => rw [hc] at h; cases h
            | some l =>
              rw [hc] at h
              obtain ⟨l', h1, h2, h3⟩ := cellsAt_ok hi hc hb
              match l, h with
              | [u], h =>
                cases h
                obtain ⟨u', r, rfl, hu, hr⟩ := h1.cons_inv
                have h0 := h3 0 u' rfl
                refine ⟨rfl, u', ?_, hu⟩
                simp only [Nat.add_zero] at h0
                simp [Instr.loadAt, Instr.sureAddr, loadVar, run_agg hT hagg, h0]
  | _ => cases h

end
end Go.Proofs.YthdnpikgnmdnnaaGreatDoor.Ev

namespace Go.Proofs.YthdnpikgnmdnnaaGreatDoor.Ev
set_option linter.unusedSimpArgs false
set_option linter.unusedVariables false
set_option linter.unusedSectionVars false
variable [Tok]
open Go.RowKit
set_option linter.unusedSectionVars false

section
variable {P : Program} {T : Tb} (hT : TbOk P T) {base : Nat} {ι : Ren} {st st' : St} {w : World}
include hT

theorem storeA_ok (ha : Abs T st) (hi : Inv T.n0 base ι st.see w) {ty : TypeId} {x x' v v' u : Value} (hx : Rv ι x x') (hv : Rv ι v v') (h : storeA T st ty x v = some (u, st')) :
    u = .tuple #[] ∧ ∃ w', (Instr.storeAt ty x' v').run P w = .ok () w' ∧ Stp T base st st' ι ι w w' := by
  cases x with
  | pointer p =>
    cases p with
    | none => cases h
    | some a =>
      obtain ⟨b, o, c, sz, rfl, rfl, hb⟩ := ptr_inv hT hx
      simp only [storeA] at h
      cases hsz : T.size ty with
      | none => rw [hsz] at h; cases h
      | some n =>
        rw [hsz] at h
        simp only at h
        cases hbq : Nat.beq (vcells v).length n with
        | false => rw [hbq] at h; cases h
        | true =>
          rw [hbq] at h
          simp only [cond_true] at h
          cases hst : St.store T.n0 st b o (vcells v) with
          | none => rw [hst] at h; cases h
          | some s2 =>
            rw [hst] at h
            cases h
            have hc := rv_cells hv
            obtain ⟨stp, h1, h2, h3, _⟩ := store_ok ha hi hst hb hc
            refine ⟨rfl, _, ?_, stp⟩
            have hlen : v'.cells.size = n := by
              have := Nat.eq_of_beq_eq_true hbq
              have := hc.1
              simp only [Array.length_toList] at this
              omega
            have hrun := run_storeCells_cells (P := P) c o v'.cells.toList 0 w (by simpa using h1) (by simpa using h2) h3
            simp only [Nat.add_zero] at hrun
            simp only [Instr.storeAt, Instr.sureAddr, storeVar, Sem.run_bind, Sem.run_pure, Result.andThen_ok, run_size hT hsz, hlen, ne_eq, not_true_eq_false, if_false]
            simpa using hrun
  | _ => cases h

theorem newOb_ok {ι : Ren} {e : TypeId} {v v' : Value} (hv : Rv ι v v') {w w' : World} (hw : w'.heap = w.heap.push (.cells v'.cells e)) :
    ObR ι w' w.heap.size v'.cells.size (.cells (vcells v) e true false) := by
  have hc := rv_cells hv
  refine ⟨v'.cells, (0, 0), push_new hw, rfl, ?_, fun _ => ?_, fun i x hx => hc.get hx, Nat.le_refl _, fun _ i _ => by omega⟩
  · have := hc.1; simp only [Array.length_toList] at this; omega
  · have := hc.1; simp only [Array.length_toList] at this; omega

theorem newA_ok (ha : Abs T st) (hi : Inv T.n0 base ι st.see w) {e : TypeId} {v v' u : Value} (hv : Rv ι v v') (h : newA st e v = some (u, st')) (hfr : ∀ id, st.next ≤ id → id < st'.next → ι id = none) :
    ∃ w' ι' r, (newVar e v').run P w = .ok r w' ∧ Rv ι' u (.pointer (some r)) ∧ Stp T base st st' ι ι' w w' := by
  simp only [newA] at h
  cases h
  refine ⟨{ w with heap := w.heap.push (.cells v'.cells e) }, _, ⟨w.heap.size, 0, none⟩, rfl, ?_, step_new ha hi _ _ v'.cells.size (hfr _ (Nat.le_refl _) (Nat.lt_succ_self _)) rfl rfl rfl rfl (newOb_ok hT hv rfl)⟩
  exact .ptr Ren.upd_self

theorem allocA_ok (ha : Abs T st) (hi : Inv T.n0 base ι st.see w) {e : TypeId} {u : Value} (h : allocA T st e = some (u, st')) (hfr : ∀ id, st.next ≤ id → id < st'.next → ι id = none) :
    ∃ w' ι' v', (Instr.alloc e true (.tuple #[])).run P w = .ok v' w' ∧ Rv ι' u v' ∧ Stp T base st st' ι ι' w w' := by
  unfold allocA at h
  cases hz : T.zero e with
  | none => rw [hz] at h; cases h
  | some z =>
    rw [hz] at h
    obtain ⟨hrun, hc⟩ := run_zero hT hz w
    obtain ⟨w', ι', r, h1, h2, h3⟩ := newA_ok hT ha hi (rv_closed ι _ _ hc) h hfr
    exact ⟨w', ι', _, by simp [Instr.alloc, hrun, h1], h2, h3⟩

/-! Literals -/

theorem fold_at (off : Nat) : ∀ (vs : List Value) (k : Nat) (arr : Array Value), off + k + vs.length ≤ arr.size →
    ((vs.zipIdx k).foldl (fun (cs : Array Value) (x : Value × Nat) => cs.setIfInBounds (off + x.2) x.1) arr).size = arr.size ∧
    ∀ i : Nat, ((vs.zipIdx k).foldl (fun (cs : Array Value) (x : Value × Nat) => cs.setIfInBounds (off + x.2) x.1) arr).toList[i]? = if off + k ≤ i ∧ i < off + k + vs.length then vs[i - (off + k)]? else arr.toList[i]?
  | [], k, arr, _ => ⟨rfl, fun i => by rw [if_neg (by simp only [List.length_nil]; omega)]; rfl⟩
  | v :: r, k, arr, h => by
    simp only [List.length_cons] at h
    obtain ⟨h1, h2⟩ := fold_at off r (k + 1) (arr.setIfInBounds (off + k) v) (by simp; omega)
    simp only [List.zipIdx_cons, List.foldl_cons, List.length_cons]
    refine ⟨by rw [h1]; simp, fun i => ?_⟩
    rw [h2 i, show (arr.setIfInBounds (off + k) v).toList = arr.toList.set (off + k) v by simp]
    by_cases e : i = off + k
    · subst e
      rw [if_neg (by omega), if_pos (by omega), List.getElem?_set_self (by simp; omega), Nat.sub_self]
      rfl
    · by_cases hh : off + (k + 1) ≤ i ∧ i < off + (k + 1) + r.length
      · rw [if_pos hh, if_pos (by omega)]
        obtain ⟨d, hd⟩ : ∃ d, i - (off + k) = d + 1 := ⟨i - (off + k) - 1, by omega⟩
        rw [hd, show i - (off + (k + 1)) = d by omega]; rfl
      · rw [if_neg hh, if_neg (by omega), List.getElem?_set_ne (by omega)]

theorem fill_ok {ι : Ren} (place : Nat → Option (Nat × Nat)) : ∀ (vs vs' : List (Nat × Value)) (cs cs' : List Value) (arr : Array Value), All2 (fun x y => x.1 = y.1 ∧ Rv ι x.2 y.2) vs vs' → All2 (Rv ι) cs arr.toList →
    fillL place cs vs = some cs' → ∃ arr', Instr.fill place arr vs' = some arr' ∧ All2 (Rv ι) cs' arr'.toList
  | [], vs', cs, cs', arr, hv, hc, h => by
    obtain rfl := hv.nil_inv
    cases h
    exact ⟨arr, rfl, hc⟩
  | (i, v) :: r, vs', cs, cs', arr, hv, hc, h => by
    obtain ⟨⟨j, v'⟩, r', rfl, ⟨hij, hvv⟩, hr⟩ := hv.cons_inv
    simp only at hij hvv
    subst hij
    simp only [fillL] at h
    cases hp : place i with
    | none => rw [hp] at h; cases h
    | some os =>
      obtain ⟨off, size⟩ := os
      rw [hp] at h
      simp only at h
      cases hb : Nat.beq (vcells v).length size with
      | false => rw [hb] at h; cases h
      | true =>
        rw [hb] at h
        simp only [cond_true] at h
        cases hs : splice cs off (vcells v) with
        | none => rw [hs] at h; cases h
        | some c2 =>
          rw [hs] at h
          obtain ⟨l1, l2, l3⟩ := setAt_some _ _ _ _ hs
          have hcv := rv_cells hvv
          have hlv := hcv.1
          have hlc := hc.1
          have hsz := Nat.eq_of_beq_eq_true hb
          simp only [Array.length_toList] at hlv hlc
          obtain ⟨f1, f2⟩ := fold_at hT off v'.cells.toList 0 arr (by simp; omega)
          have hc2 : All2 (Rv ι) c2 ((v'.cells.toList.zipIdx 0).foldl (fun (cs : Array Value) (x : Value × Nat) => cs.setIfInBounds (off + x.2) x.1) arr).toList := by
            refine ⟨by rw [l1]; simp only [Array.length_toList]; omega, fun k x y hx hy => ?_⟩
            rw [l3] at hx
            rw [f2] at hy
            simp only [Nat.add_zero, Array.length_toList] at hy
            by_cases hh : off ≤ k ∧ k < off + (vcells v).length
            · rw [if_pos hh] at hx; rw [if_pos (by omega)] at hy; exact hcv.2 _ x y hx hy
            · rw [if_neg hh] at hx; rw [if_neg (by omega)] at hy; exact hc.2 _ x y hx hy
          obtain ⟨arr', g1, g2⟩ := fill_ok place r r' c2 cs' _ hr hc2 h
          refine ⟨arr', ?_, g2⟩
          simp only [Instr.fill, hp]
          rw [if_neg (by simp; omega)]
          rw [← g1]
          congr 1
          rw [← Array.foldl_toList]
          simp

theorem placesL_ok : ∀ {fs : List Field} {pl : List (Nat × Nat)}, placesL T fs = some pl → fs.mapM (fun f => (P.info? f.type).map fun i => (f.offset, i.size)) = some pl
  | [], pl, h => by cases h; rfl
  | f :: r, pl, h => by
    simp only [placesL] at h
    cases hs : T.size f.type with
    | none => rw [hs] at h; cases h
    | some n =>
      cases hr : placesL T r with
      | none => rw [hs, hr] at h; cases h
      | some l =>
        rw [hs, hr] at h
        cases h
        obtain ⟨i, hi, rfl⟩ := size_ti hT hs
        simp [List.mapM_cons, hT.ty _ _ hi, placesL_ok hr]

theorem zero_info {t : TypeId} {z : Value} (h : T.zero t = some z) : ∃ i, P.info? t = some i ∧ i.zero = some z ∧ closedV 40 z = true := by
  unfold Tb.zero at h
  cases hi : T.ty.get t with
  | none => rw [hi] at h; cases h
  | some i =>
    rw [hi] at h
    simp only [Option.bind_some] at h
    cases hz : i.zero with
    | none => rw [hz] at h; cases h
    | some z' =>
      rw [hz] at h
      simp only [Option.bind_some] at h
      cases hc : closedV 40 z' with
      | false => rw [hc] at h; cases h
      | true => rw [hc] at h; cases h; exact ⟨i, hT.ty _ _ hi, hz, hc⟩

theorem buildA_ok {ι : Ren} {ty : TypeId} {vs vs' : List (Nat × Value)} {v : Value} (hv : All2 (fun x y => x.1 = y.1 ∧ Rv ι x.2 y.2) vs vs') (h : buildA T ty vs = some v) (w : World) :
    ∃ v', (Instr.build ty vs'.toArray).run P w = .ok v' w ∧ Rv ι v v' := by
  unfold buildA at h
  cases hz : T.zero ty with
  | none => rw [hz] at h; cases h
  | some z =>
    obtain ⟨i, hi, hiz, hcl⟩ := zero_info hT hz
    have hzc := rv_cells (rv_closed ι _ _ hcl)
    cases hu : T.und ty with
    | none => rw [hz, hu] at h; cases h
    | some d =>
      rw [hz, hu] at h
      have hu' := und_ok hT hu
      cases d with
      | struct fs =>
        simp only at h
        cases hp : placesL T fs.toList with
        | none => rw [hp] at h; cases h
        | some pl =>
          rw [hp] at h
          simp only at h
          cases hf : fillL (fun i => pl[i]?) (vcells z) vs with
          | none => rw [hf] at h; cases h
          | some l =>
            rw [hf] at h; cases h
            obtain ⟨arr', g1, g2⟩ := fill_ok hT _ vs vs' _ l z.cells hv hzc hf
            refine ⟨.agg arr', run_build w ty _ arr' ?_, rv_agg g2⟩
            unfold Program.built
            rw [hi, hu']
            simp only [hiz, placesL_ok hT hp]
            simpa using g1
      | array n e =>
        simp only at h
        cases hs : T.size e with
        | none => rw [hs] at h; cases h
        | some m =>
          rw [hs] at h
          simp only at h
          cases hf : fillL (fun i => some (i * m, m)) (vcells z) vs with
          | none => rw [hf] at h; cases h
          | some l =>
            rw [hf] at h; cases h
            obtain ⟨arr', g1, g2⟩ := fill_ok hT _ vs vs' _ l z.cells hv hzc hf
            obtain ⟨ie, hie, rfl⟩ := size_ti hT hs
            refine ⟨.agg arr', run_build w ty _ arr' ?_, rv_agg g2⟩
            unfold Program.built
            rw [hi, hu']
            simp only [hiz, hT.ty _ _ hie]
            exact g1
      | _ => cases h

end
end Go.Proofs.YthdnpikgnmdnnaaGreatDoor.Ev

namespace Go.Proofs.YthdnpikgnmdnnaaGreatDoor.Ev
set_option linter.unusedSimpArgs false
set_option linter.unusedVariables false
set_option linter.unusedSectionVars false
variable [Tok]
open Go.RowKit
set_option linter.unusedSectionVars false

theorem beqL_ok : ∀ (x y : List UInt8), beqL x y = (x == y)
  | [], [] => rfl
  | [], _ :: _ => rfl
  | _ :: _, [] => rfl
  | a :: x, b :: y => by
    simp only [beqL, List.cons_beq_cons, beqL_ok x y]
    congr 1
    rw [Bool.eq_iff_iff]
    simp
    constructor
    · intro h; exact UInt8.toNat_inj.1 h
    · intro h; rw [h]

theorem ltL_ok : ∀ (x y : List UInt8), ltL x y = Op.bytesLess x y
  | _, [] => by cases ‹List UInt8› <;> rfl
  | [], _ :: _ => rfl
  | a :: x, b :: y => by
    simp only [ltL, Op.bytesLess, ltL_ok x y]
    congr 1
    · rw [Bool.eq_iff_iff]; simp [UInt8.lt_iff_toNat_lt]
    · congr 1
      rw [Bool.eq_iff_iff]
      simp
      constructor
      · intro h; exact UInt8.toNat_inj.1 h
      · intro h; rw [h]

section
variable {P : Program} {T : Tb} (hT : TbOk P T) {ι : Ren} (w : World)
include hT

theorem part_ok {t : TypeId} {cs : List Value} {arr : Array Value} {off : Nat} {v : Value} (hc : All2 (Rv ι) cs arr.toList) (h : part T t cs off = some v) :
    ∃ v', (Go.part t arr off).run P w = .ok v' w ∧ Rv ι v v' := by
  unfold part at h
  cases hg : T.agg t with
  | none => rw [hg] at h; cases h
  | some g =>
    cases hs : T.size t with
    | none => cases g <;> (rw [hg, hs] at h; first | cases h | skip)
              obtain ⟨y, hy, hr⟩ := hc.get h
              refine ⟨y, ?_, hr⟩
              have : arr[off]? = some y := by rw [← hy]; simp
              simp [Go.part, run_agg hT hg, this]
    | some n =>
      rw [hg, hs] at h
      cases g with
      | true =>
        cases h
        refine ⟨.agg (arr.extract off (off + n)), ?_, ?_⟩
        · simp [Go.part, run_agg hT hg, run_size hT hs]
        · have := (hc.drop off).take n
          have e : (arr.toList.drop off).take n = (arr.extract off (off + n)).toList := by simp [List.take_drop]
          rw [e] at this
          exact .agg this.1 this.2
      | false =>
        simp only at h
        obtain ⟨y, hy, hr⟩ := hc.get h
        refine ⟨y, ?_, hr⟩
        have : arr[off]? = some y := by rw [← hy]; simp
        simp [Go.part, run_agg hT hg, this]


theorem eqF_ok {eq : TypeId → Value → Value → Option Bool} {d : Nat} {xs ys : List Value} {xa ya : Array Value} (hx : All2 (Rv ι) xs xa.toList) (hy : All2 (Rv ι) ys ya.toList)
    (ih : ∀ t a b a' b' r, Rv ι a a' → Rv ι b b' → eq t a b = some r → (Op.equalIn d t a' b').run P w = .ok r w) : ∀ {fs : List Field} {b : Bool}, (∀ f ∈ fs, f.name ≠ "_") → eqF T eq fs xs ys = some b → (Op.eqFields d xa ya fs).run P w = .ok b w
  | [], b, _, h => by cases h; rfl
  | f :: fs, b, hn, h => by
    simp only [eqF] at h
    cases h1 : part T f.type xs f.offset with
    | none => rw [h1] at h; cases h
    | some p =>
      cases h2 : part T f.type ys f.offset with
      | none => rw [h1, h2] at h; cases h
      | some q =>
        rw [h1, h2] at h
        simp only at h
        obtain ⟨p', r1, s1⟩ := part_ok hT w hx h1
        obtain ⟨q', r2, s2⟩ := part_ok hT w hy h2
        simp only [Op.eqFields]
        rw [if_pos (hn f (List.mem_cons_self ..))]
        cases h3 : eq f.type p q with
        | none => rw [h3] at h; cases h
        | some c =>
          rw [h3] at h
          have h4 := ih _ _ _ _ _ _ s1 s2 h3
          cases c with
          | true =>
            have := eqF_ok hx hy ih (fun g hg => hn g (List.mem_cons_of_mem _ hg)) h
            simp [r1, r2, h4, this]
          | false => cases h; simp [r1, r2, h4]

end

/-- Structs that may be compared field by field. -/
noncomputable def CmpOk (P : Program) (T : Tb) : Prop := ∀ t u, T.cmp.get t = some u → P.stoodInHeld t = false ∧ P.eqGuardType P.depth t = false ∧ ∀ fs, P.underlying t = some (.struct fs) → ∀ f ∈ fs.toList, f.name ≠ "_"

section
variable {P : Program} {T : Tb} (hT : TbOk P T) (hC : CmpOk P T) {ι : Ren} (w : World)
include hT hC

set_option maxHeartbeats 1000000 in
theorem eqV_ok : ∀ (n m : Nat) (t : TypeId) (x y x' y' : Value) (b : Bool), n ≤ m → Rv ι x x' → Rv ι y y' → eqV T n t x y = some b → (Op.equalIn m t x' y').run P w = .ok b w := by
  intro n
  induction n with
  | zero => intro m t x y x' y' b _ _ _ h; cases h
  | succ n ih =>
    intro m t x y x' y' b hm hx hy h
    obtain ⟨m, rfl⟩ : ∃ k, m = k + 1 := ⟨m - 1, by omega⟩
    simp only [eqV] at h
    cases hu : T.und t with
    | none => rw [hu] at h; simp at h
    | some d =>
      rw [hu] at h
      have hu' := run_und hT hu
      cases d with
      | bool =>
        cases hx <;> cases hy <;> simp at h
        subst h; simp [Op.equalIn, hu']
      | int k0 =>
        cases hx <;> cases hy <;> simp at h
        obtain ⟨rfl, rfl⟩ := h
        simp [Op.equalIn, hu']
      | string =>
        cases hx <;> cases hy <;> simp at h
        subst h
        simp [Op.equalIn, hu', beqL_ok, beq_toListBytes, ByteArray.toList_eq]
      | pointer e =>
        cases hx <;> cases hy <;> simp at h <;> (try subst h) <;> (try (simp [Op.equalIn, hu']; done))
        rename_i b1 o1 c1 s1 e1 b2 o2 c2 s2 e2
        cases hs : T.size e with
        | none => rw [hs] at h; cases h
        | some k =>
          rw [hs] at h
          cases k with
          | zero => cases h
          | succ k =>
            simp only at h
            cases hb : Nat.beq b1 b2 with
            | false => rw [hb] at h; cases h
            | true =>
              rw [hb] at h; cases h
              have hbb := Nat.eq_of_beq_eq_true hb
              subst hbb
              rw [e1] at e2; cases e2
              have hq : ((⟨c1, o1, none⟩ : Addr) == ⟨c1, o2, none⟩) = Nat.beq o1 o2 := by
                rw [Bool.eq_iff_iff]; simp
              simp [Op.equalIn, hu', run_size hT hs, sameAddr, hq]
      | interface ms =>
        cases hx <;> cases hy <;> simp at h <;> (try subst h) <;> (try (simp [Op.equalIn, hu']; done))
        rename_i t1 v1 v1' r1 t2 v2 v2' r2
        by_cases ht : t1 = t2
        · subst ht
          simp only [not_true_eq_false, if_false] at h
          cases hi : T.ty.get t1 with
          | none => simp [hi] at h
          | some i =>
            simp only [hi] at h
            cases hc : i.comparable with
            | false => rw [hc] at h; simp at h
            | true =>
              rw [hc] at h
              simp at h
              simp [Op.equalIn, hu', run_ti hT hi, hc, ih m _ _ _ _ _ _ (by omega) r1 r2 h]
        · simp [ht] at h
          subst h
          simp [Op.equalIn, hu', ht]
      | struct fs =>
        cases hx <;> cases hy <;> simp at h
        rename_i a a' l1 g1 c c' l2 g2
        cases hk : T.cmp.get t with
        | none => rw [hk] at h; cases h
        | some u =>
          rw [hk] at h
          obtain ⟨k1, k2, k3⟩ := hC t u hk
          have k3 := k3 fs (und_ok hT hu)
          have hf : P.fieldsOf t = fs := by unfold Program.fieldsOf; rw [und_ok hT hu]
          rw [run_equalIn_struct w m t _ _ (by rw [hf]; exact und_ok hT hu) k1, hf]
          exact eqF_ok hT w ⟨l1, g1⟩ ⟨l2, g2⟩ (fun t a b a' b' r ra rb he => ih m t a b a' b' r (by omega) ra rb he) k3 h
      | slice e =>
        cases hx <;> cases hy <;> simp at h <;> (try subst h) <;> (try (simp [Op.equalIn, hu']; done))
      | map k e =>
        cases hx <;> cases hy <;> simp at h <;> (try subst h) <;> (try (simp [Op.equalIn, hu']; done))
      | func a b c =>
        cases hx <;> cases hy <;> simp at h <;> (try subst h) <;> (try (simp [Op.equalIn, hu']; done))
      | _ => simp at h

end
end Go.Proofs.YthdnpikgnmdnnaaGreatDoor.Ev
