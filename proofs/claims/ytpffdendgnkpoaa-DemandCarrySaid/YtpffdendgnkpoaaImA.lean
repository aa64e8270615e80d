/- An ideal memory machine, and how its states stand for the model's worlds. Nothing is claimed here of the given program. -/
import Derived.Calls
import Derived.Laws.Sem
import Derived.Laws.World
import Derived.Laws.Cells
import Derived.Laws.NewBlocks
import Derived.Below
namespace Go.IM
open Go

/-- Where an ideal block lies in the real memory: `ext` cells from `off` on of block `blk`; its elements have `esz` cells. -/
structure RB where
  blk : Nat
  off : Nat
  ext : Nat
  esz : Nat
  deriving Inhabited

abbrev Place := Nat → RB

def trA (ρ : Place) (a : Addr) : Addr := ⟨(ρ a.block).blk, (ρ a.block).off + a.off, a.spot⟩

/-- An ideal capacity: even (twice the capacity) is exact, odd says: up to the end of what belongs to the block. -/
def trCap (ρ : Place) (a : Addr) (c : Nat) : Nat := if c % 2 = 0 then c / 2 else ((ρ a.block).ext - a.off) / (ρ a.block).esz

def trV (ρ : Place) : Value → Value
  | .pointer (some a) => .pointer (some (trA ρ a))
  | .slice (some a) l c => .slice (some (trA ρ a)) l (trCap ρ a c)
  | .map (some r) => .map (some (ρ r).blk)
  | .func fn first cap => .func fn (first.map (trV ρ)) (cap.map (trV ρ))
  | .iface t v => .iface t (trV ρ v)
  | .agg cs => .agg (cs.map (trV ρ))
  | .tuple vs => .tuple (vs.map (trV ρ))
  | v => v

/-- Neither several cells nor several results. -/
def one1 : Value → Bool
  | .agg _ | .tuple _ => false
  | _ => true

def notTuple : Value → Bool
  | .tuple _ => false
  | _ => true

def okV (S : Nat → Prop) : Value → Prop
  | .pointer (some a) => S a.block ∧ a.spot = none
  | .slice (some a) _ _ => S a.block ∧ a.spot = none
  | .slice none l c => l = 0 ∧ c = 0
  | .map (some r) => S r
  | .chan _ => False
  | .func fn first cap => (∃ f, fn = .func f) ∧ (∀ v ∈ first, okV S v) ∧ (∀ v ∈ cap, okV S v)
  | .iface _ v => okV S v
  | .agg cs => ∀ v ∈ cs, okV S v ∧ one1 v = true
  | .tuple vs => ∀ v ∈ vs, okV S v
  | _ => True

end Go.IM

namespace Go.IM
open Go

/-- An object of the ideal memory. `ro`: it is never written; `lo`: 0, or how far its real row reaches is not known and its elements have `lo` cells. -/
inductive IObj where
  | cells (c : List Value) (ro : Bool) (lo : Nat)
  | map (es : List MapEntry) (clock : Nat)
  | dead
  deriving Inhabited

abbrev Heap := List IObj
abbrev Fr := List Value

inductive IEnd where
  | ret (v : Value)
  | pan (ch : List PanicEntry)
  deriving Inhabited

inductive IExit where
  | normal
  | exit (id : Nat)
  | ret
  | panic (ch : List PanicEntry)
  deriving Inhabited

inductive SlK where
  | str
  | arr (n esz : Nat)
  | sl (esz : Nat)
  deriving Inhabited

inductive LenK where
  | str
  | arr (n : Nat)
  | sl
  | map
  deriving Inhabited

/-- The kinds of the cells of a value without addresses. -/
inductive Leaf where
  | i
  | b
  | s
  deriving Inhabited, DecidableEq

/-- A map's keys: several cells, or one. -/
structure KeyK where
  ag : Bool
  ks : List Leaf
  deriving Inhabited

/-- How two values are compared. -/
inductive EqK where
  | bool
  | ptr
  | sli
  | map
  | fun_
  | ifc
  | flat (ks : List Leaf)
  deriving Inhabited

inductive IOp where
  | mov (x : Operand)
  | pick (c a b : Operand)
  | una (op : UnOp) (x : Operand)
  | bin (op : BinOp) (x y : Operand)
  | eq (k : EqK) (neq : Bool) (x y : Operand)
  | cnv (k : IntKind) (x : Operand)
  | s2b (x : Operand)
  | b2s (x : Operand)
  | new (z : List Value)
  | box (n : Nat) (x : Operand)
  | bld (z : List Value) (parts : List (Nat × Nat × Operand))
  | bsl (len : Nat) (z : List Value) (parts : List (Nat × Nat × Operand))
  | ld1 (a : Operand)
  | ldn (n : Nat) (a : Operand)
  | sto (n : Nat) (a x : Operand)
  | stk (n : Nat) (a x : Operand) (ks : List (Nat × Operand))
  | nck (x : Operand)
  | fad (off : Nat) (x : Operand)
  | ixa (n esz : Nat) (x i : Operand)
  | ixs (esz : Nat) (x i : Operand)
  | fld (off : Nat) (n : Option Nat) (x : Operand)
  | ixv (len esz : Nat) (n : Option Nat) (x i : Operand)
  | ixt (x i : Operand)
  | slc (k : SlK) (x : Operand) (lo hi mx : Option Operand)
  | mks (esz bytes : Nat) (z : List Value) (l c : Operand)
  | mki (t : TypeId) (x : Operand)
  | tas (t : TypeId) (zero : Value) (ok : Bool) (x : Operand)
  | ext (x : Operand) (i : Nat)
  | fun_ (fn : Fn) (first cap : List Operand)
  | len (k : LenK) (x : Operand)
  | cap (x : Operand)
  | app (esz bytes : Nat) (s x : Operand)
  | apz (esz bytes : Nat) (z : List Value) (s x : Operand)
  | msk (x : Operand)
  | cpy (esz : Nat) (d s : Operand)
  | clr (z : List Value) (x : Operand)
  | mnx (max : Bool) (xs : List Operand)
  | mkm
  | mkh (x : Operand)
  | lkp (kk : KeyK) (zero : Value) (ok : Bool) (m k : Operand)
  | mup (kk : KeyK) (m k x : Operand)
  | men (kk : KeyK) (zero : Value) (m k : Operand)
  | mes (m s x : Operand)
  | mdl (kk : KeyK) (m k : Operand)
  | reg (z : List Value)
  | regb (n : Nat) (x : Operand)
  | upd (o n : Nat) (t x : Operand)
  | apl (esz bytes n : Nat) (s x : Operand)
  | pan (x : Operand)
  | call (g : Operand) (args : List Operand)
  deriving Inhabited

structure IOper where
  dst : Option Nat
  guard : Option (Nat × Bool)
  quiet : Bool
  op : IOp
  deriving Inhabited

inductive ICode where
  | skip
  | ops (draw : Bool) (l : List IOper)
  | seq (a b : ICode)
  | cond (c : Operand) (a b : ICode)
  | block (id : Nat) (a : ICode)
  | loop (a : ICode)
  | exit (id : Nat)
  | ret
  deriving Inhabited

inductive IRes where
  | tmp (t : Nat)
  | cell (t : Nat)
  | agg (t n : Nat)
  | rega (t n : Nat)
  | reg1 (t : Nat)
  deriving Inhabited

structure IFn where
  ntmps : Nat
  results : List IRes
  code : ICode
  deriving Inhabited

def ev (f : Fr) : Operand → Value
  | .tmp t => f.getD t undef
  | .const v => v
  | .global g => .pointer (some ⟨g, 0, none⟩)
  | .func g => .func (.func g) #[] #[]

def bv (b : Bool) : Value := .bool b

/-- What a test between two ints or the like gives. -/
def icmp : BinOp → Int → Int → Option Bool
  | .eql, a, b => some (a == b)
  | .neq, a, b => some (a != b)
  | .lss, a, b => some (decide (a < b))
  | .leq, a, b => some (decide (a ≤ b))
  | .gtr, a, b => some (decide (a > b))
  | .geq, a, b => some (decide (a ≥ b))
  | _, _, _ => none

def ibits (k : IntKind) (op : BinOp) (x y : Int) : Option Value :=
  let a := BitVec.ofInt k.bits x
  let b := BitVec.ofInt k.bits y
  match op with
  | .and => some (.int k (k.wrap (a &&& b).toNat))
  | .or => some (.int k (k.wrap (a ||| b).toNat))
  | .xor => some (.int k (k.wrap (a ^^^ b).toNat))
  | .andNot => some (.int k (k.wrap (a &&& ~~~b).toNat))
  | _ => none

def ibin : BinOp → Value → Value → Option Value
  | .shl, .int k a, .int _ b => if b < 0 then none else some (.int k (k.wrap (a * 2 ^ min b.toNat k.bits)))
  | .shr, .int k a, .int _ b => if b < 0 then none else some (.int k (a.fdiv (2 ^ min b.toNat k.bits)))
  | op, .int k a, .int k' b =>
    if k = k' then
      match op with
      | .add => some (.int k (k.wrap (a + b)))
      | .sub => some (.int k (k.wrap (a - b)))
      | .mul => some (.int k (k.wrap (a * b)))
      | .quo => if b = 0 then none else some (.int k (k.wrap (a.tdiv b)))
      | .rem => if b = 0 then none else some (.int k (a.tmod b))
      | .and | .or | .xor | .andNot => ibits k op a b
      | _ => (icmp op a b).map bv
    else none
  | op, .string a, .string b =>
    match op with
    | .add => if a.size + b.size < 4611686018427387904 then some (.string (a ++ b)) else none
    | .eql => some (.bool (a.toList == b.toList))
    | .neq => some (.bool (a.toList != b.toList))
    | .lss => some (.bool (Op.bytesLess a.toList b.toList))
    | .leq => some (.bool (Op.bytesLess a.toList b.toList || a.toList == b.toList))
    | .gtr => some (.bool !(Op.bytesLess a.toList b.toList || a.toList == b.toList))
    | .geq => some (.bool !(Op.bytesLess a.toList b.toList))
    | _ => none
  | _, _, _ => none

def iuna : UnOp → Value → Option Value
  | .neg, .int k n => some (.int k (k.wrap (0 - n)))
  | .xor, .int k n => ibits k .xor (if k.signed then -1 else k.max) n
  | .not, .bool b => some (.bool !b)
  | _, _ => none

/-- Two cells that are scalars. -/
def seq1 : Leaf → Value → Value → Option Bool
  | .i, .int k a, .int k' b => if k = k' then some (a == b) else none
  | .b, .bool a, .bool b => some (a == b)
  | .s, .string a, .string b => some (a == b)
  | _, _, _ => none

def seqs : List Leaf → List Value → List Value → Option Bool
  | [], [], [] => some true
  | k :: ks, x :: xs, y :: ys =>
    match seq1 k x y, seqs ks xs ys with
    | some a, some b => some (a && b)
    | _, _ => none
  | _, _, _ => none

def ieq : EqK → Value → Value → Option Bool
  | .bool, .bool a, .bool b => some (a == b)
  | .ptr, .pointer none, .pointer b => some b.isNone
  | .ptr, .pointer (some _), .pointer none => some false
  | .sli, .slice none _ _, .slice b _ _ => some b.isNone
  | .sli, .slice (some _) _ _, .slice none _ _ => some false
  | .map, .map none, .map b => some b.isNone
  | .map, .map (some _), .map none => some false
  | .fun_, .nilFunc, .nilFunc => some true
  | .fun_, .nilFunc, .func _ _ _ => some false
  | .fun_, .func _ _ _, .nilFunc => some false
  | .ifc, .nilIface, .nilIface => some true
  | .ifc, .nilIface, .iface _ _ => some false
  | .ifc, .iface _ _, .nilIface => some false
  | .flat ks, .agg xs, .agg ys => seqs ks xs.toList ys.toList
  | _, _, _ => none

/-- The cells of a block. -/
def Heap.row (H : Heap) (b : Nat) : Option (List Value) :=
  match H[b]? with
  | some (.cells c _ _) => some c
  | _ => none

def Heap.wrow (H : Heap) (b : Nat) : Option (List Value × Nat) :=
  match H[b]? with
  | some (.cells c false lo) => some (c, lo)
  | _ => none

def Heap.mapAt (H : Heap) (b : Nat) : Option (List MapEntry × Nat) :=
  match H[b]? with
  | some (.map es k) => some (es, k)
  | _ => none

/-- `n` cells from place `o` on. -/
def cut (c : List Value) (o n : Nat) : Option (List Value) := if o + n ≤ c.length then some ((c.drop o).take n) else none

def lay (c : List Value) (o : Nat) (xs : List Value) : List Value := c.take o ++ xs ++ c.drop (o + xs.length)

def ifill : List Value → List (Nat × Nat × Value) → Option (List Value)
  | z, [] => some z
  | z, (o, n, v) :: rest => if v.cells.size = n ∧ o + n ≤ z.length ∧ notTuple v then ifill (lay z o v.cells.toList) rest else none

def int? : Value → Option Int
  | .int _ n => some n
  | _ => none

def byte? : Value → Option UInt8
  | .int .u8 n => some (UInt8.ofNat n.toNat)
  | _ => none

def bytes? : List Value → Option (List UInt8)
  | [] => some []
  | v :: vs => match byte? v, bytes? vs with
    | some b, some bs => some (b :: bs)
    | _, _ => none

/-- What a slice (or a string) holds, and how many elements. -/
def elems (H : Heap) (esz : Nat) : Value → Option (Nat × List Value)
  | .slice none _ _ => some (0, [])
  | .slice (some a) n _ => if n = 0 then some (0, []) else match H.row a.block with
    | some c => (cut c a.off (n * esz)).map fun xs => (n, xs)
    | none => none
  | .string s => if esz = 1 then some (s.size, s.data.toList.map fun b => .int .u8 b.toNat) else none
  | _ => none

def firsts (H : Heap) (esz n : Nat) : Value → Option (List Value)
  | .slice none _ _ => some []
  | .slice (some a) _ _ => if n = 0 then some [] else match H.row a.block with
    | some c => cut c a.off (n * esz)
    | none => none
  | .string s => if esz = 1 then some ((s.data.toList.map fun b => .int .u8 b.toNat).take n) else none
  | _ => none

def lenv : Value → Option Nat
  | .slice _ n _ => some n
  | .string s => some s.size
  | _ => none

/-- A bound of a slice expression. -/
def bnd (f : Fr) (x : Operand) (y : Nat) : Option Nat :=
  match int? (ev f x) with
  | some i => if 0 ≤ i ∧ i ≤ y then some i.toNat else none
  | none => none

def bnds (f : Fr) (len cap : Nat) (lo hi mx : Option Operand) : Option (Nat × Nat × Nat) :=
  match (match mx with | some v => bnd f v cap | none => some cap) with
  | none => none
  | some m =>
    match (match hi, mx with | some v, some _ => bnd f v m | some v, none => bnd f v cap | none, none => some len | none, some _ => none) with
    | none => none
    | some h =>
      match (match lo with | some v => bnd f v h | none => some 0) with
      | none => none
      | some l => some (l, h, m)

def islc (k : SlK) (v : Value) (f : Fr) (lo hi mx : Option Operand) (H : Heap) : Option (Value × Heap) :=
  match k, v with
  | .str, .string s =>
    if mx.isSome then none else
    match bnds f s.size s.size lo hi none with
    | some (l, h, _) => some (.string (s.extract l h), H)
    | none => none
  | .arr n esz, .pointer (some a) =>
    match bnds f n n lo hi mx with
    | some (l, h, m) => some (.slice (some (if m = l then a else a.add (l * esz))) (h - l) (2 * (m - l)), H)
    | none => none
  | .sl esz, .slice a n c =>
    if c % 2 = 0 then
      if c / 2 < n then none else
      match bnds f n (c / 2) lo hi mx with
      | some (l, h, m) => some (.slice (if m = l then a else a.map (·.add (l * esz))) (h - l) (2 * (m - l)), H)
      | none => none
    else
      match a with
      | some a =>
        match H.wrow a.block with
        | some (r, e) =>
          if e = esz ∧ 0 < esz ∧ a.off + n * esz ≤ r.length then
            match bnds f n n lo hi mx with
            | some (l, h, m) =>
              if mx.isSome then some (.slice (some (if m = l then a else a.add (l * esz))) (h - l) (2 * (m - l)), H)
              else if l = n ∧ 0 < l then some (.slice (some ⟨H.length, 0, none⟩) 0 1, H ++ [.dead])
              else some (.slice (some (a.add (l * esz))) (h - l) 1, H)
            | none => none
          else none
        | none => none
      | none => none
  | _, _ => none

/-- append: what the source holds is `xs`, `n` elements. -/
def iapp (esz bytes : Nat) (v : Value) (n : Nat) (xs : List Value) (H : Heap) : Option (Value × Heap) :=
  if xs.length = n * esz ∧ 0 < esz then
    match v with
    | .slice none _ _ =>
      if n = 0 then some (.slice none 0 0, H)
      else if n * bytes < 1099511627776 ∧ n < 1099511627776 then some (.slice (some ⟨H.length, 0, none⟩) n 1, H ++ [.cells xs false esz]) else none
    | .slice (some a) l c =>
      if c % 2 = 0 then
        if l + n ≤ c / 2 then
          if n = 0 then some (v, H) else
          match H.wrow a.block with
          | some (r, lo) => if a.off + (l + n) * esz ≤ r.length then some (.slice (some a) (l + n) c, H.set a.block (.cells (lay r (a.off + l * esz) xs) false lo)) else none
          | none => none
        else if (l + n) * bytes < 1099511627776 ∧ l + n < 1099511627776 then
          match elems H esz (.slice (some a) l c) with
          | some (_, old) => some (.slice (some ⟨H.length, 0, none⟩) (l + n) 1, H ++ [.cells (old ++ xs) false esz])
          | none => none
        else none
      else
        match H.wrow a.block with
        | some (r, e) =>
          if e = esz then
            match cut r a.off (l * esz) with
            | some old =>
              if n = 0 then some (.slice (some a) l 1, H)
              else if (l + n) * bytes < 1099511627776 ∧ l + n < 1099511627776 then
                some (.slice (some ⟨H.length, 0, none⟩) (l + n) 1, (H.set a.block .dead) ++ [.cells (old ++ xs) false esz])
              else none
            | none => none
          else none
        | none => none
    | _ => none
  else none

/-- Two keys, cell by cell. -/
def keyEq (kk : KeyK) (x y : Value) : Option Bool :=
  match kk.ag, x, y with
  | true, .agg xs, .agg ys => seqs kk.ks xs.toList ys.toList
  | false, x, y => match kk.ks with
    | [l] => seq1 l x y
    | _ => none
  | _, _, _ => none

/-- Is it a key of the kind? -/
def keyOk (kk : KeyK) (x : Value) : Bool := (keyEq kk x x).isSome

def find (kk : KeyK) : List MapEntry → Value → Option (Option Nat)
  | [], _ => some none
  | e :: es, k => match keyEq kk k e.key with
    | some true => some (some 0)
    | some false => match find kk es k with
      | some r => some (r.map (· + 1))
      | none => none
    | none => none

/-- The entry with a key. -/
def look (kk : KeyK) (es : List MapEntry) (k : Value) : Option (Option Nat) := if keyOk kk k then find kk es k else none

/-- A store of `n` cells leaves what lies at an address. -/
def apart (p : Addr) (n m : Nat) : Value → Prop
  | .pointer (some q) => p.block ≠ q.block ∨ p.off + n ≤ q.off ∨ q.off + m ≤ p.off
  | _ => True

instance (p : Addr) (n m : Nat) : (v : Value) → Decidable (apart p n m v)
  | .pointer (some q) => inferInstanceAs (Decidable (p.block ≠ q.block ∨ p.off + n ≤ q.off ∨ q.off + m ≤ p.off))
  | .pointer none | .bool _ | .int _ _ | .float _ _ | .complex _ _ _ | .string _ | .slice _ _ _ | .map _ | .chan _ | .func _ _ _ | .nilFunc | .iface _ _ | .nilIface | .agg _ | .tuple _ => isTrue trivial

/-- An operation: the value that it yields (nothing: `undef`), and the memory behind it. -/
def iop : IOp → Fr → Heap → Option (Value × Heap)
  | .mov x, f, H => some (ev f x, H)
  | .pick c a b, f, H => match ev f c with
    | .bool t => some (if t then ev f a else ev f b, H)
    | _ => none
  | .una op x, f, H => match iuna op (ev f x) with
    | some v => some (v, H)
    | none => none
  | .bin op x y, f, H => match ibin op (ev f x) (ev f y) with
    | some v => some (v, H)
    | none => none
  | .eq k neq x y, f, H => match ieq k (ev f x) (ev f y) with
    | some b => some (.bool (b != neq), H)
    | none => none
  | .cnv k x, f, H => match ev f x with
    | .int _ n => some (.int k (k.wrap n), H)
    | _ => none
  | .s2b x, f, H => match ev f x with
    | .string s => some (.slice (some ⟨H.length, 0, none⟩) s.size 1, H ++ [.cells (s.data.toList.map fun b => .int .u8 b.toNat) false 1])
    | _ => none
  | .b2s x, f, H => match ev f x with
    | .slice a n c => match elems H 1 (.slice a n c) with
      | some (_, xs) => match bytes? xs with
        | some bs => some (.string ⟨bs.toArray⟩, H)
        | none => none
      | none => none
    | _ => none
  | .new z, _, H => some (.pointer (some ⟨H.length, 0, none⟩), H ++ [.cells z false 0])
  | .box n x, f, H => if (ev f x).cells.size = n ∧ notTuple (ev f x) then some (.pointer (some ⟨H.length, 0, none⟩), H ++ [.cells (ev f x).cells.toList false 0]) else none
  | .bld z ps, f, H => match ifill z (ps.map fun (o, n, x) => (o, n, ev f x)) with
    | some c => some (.agg c.toArray, H)
    | none => none
  | .bsl n z ps, f, H => match ifill z (ps.map fun (o, n, x) => (o, n, ev f x)) with
    | some c => some (.slice (some ⟨H.length, 0, none⟩) n (2 * n), H ++ [.cells c false 0])
    | none => none
  | .ld1 a, f, H => match ev f a with
    | .pointer (some p) => match H.row p.block with
      | some c => match c[p.off]? with
        | some v => some (v, H)
        | none => none
      | none => none
    | _ => none
  | .ldn n a, f, H => match ev f a with
    | .pointer (some p) => match H.row p.block with
      | some c => match cut c p.off n with
        | some xs => some (.agg xs.toArray, H)
        | none => none
      | none => none
    | _ => none
  | .sto n a x, f, H => match ev f a with
    | .pointer (some p) => match H.wrow p.block with
      | some (c, lo) => if (ev f x).cells.size = n ∧ p.off + n ≤ c.length ∧ notTuple (ev f x) then some (undef, H.set p.block (.cells (lay c p.off (ev f x).cells.toList) false lo)) else none
      | none => none
    | _ => none
  | .stk n a x ks, f, H => match ev f a with
    | .pointer (some p) => match H.wrow p.block with
      | some (c, lo) => if ((ev f x).cells.size = n ∧ p.off + n ≤ c.length ∧ notTuple (ev f x)) ∧ ∀ k ∈ ks, apart p n k.1 (ev f k.2) then some (undef, H.set p.block (.cells (lay c p.off (ev f x).cells.toList) false lo)) else none
      | none => none
    | _ => none
  | .nck x, f, H => match ev f x with
    | .pointer (some a) => some (.pointer (some a), H)
    | .func (.func g) a b => some (.func (.func g) a b, H)
    | _ => none
  | .fad o x, f, H => match ev f x with
    | .pointer (some a) => some (.pointer (some (a.add o)), H)
    | _ => none
  | .ixa n esz x i, f, H => match ev f x, int? (ev f i) with
    | .pointer (some a), some i => if 0 ≤ i ∧ i < n then some (.pointer (some (a.add (i.toNat * esz))), H) else none
    | _, _ => none
  | .ixs esz x i, f, H => match ev f x, int? (ev f i) with
    | .slice (some a) n _, some i => if 0 ≤ i ∧ i < n then some (.pointer (some (a.add (i.toNat * esz))), H) else none
    | _, _ => none
  | .fld o n x, f, H => match ev f x with
    | .agg cs => match n with
      | some n => match cut cs.toList o n with
        | some xs => some (.agg xs.toArray, H)
        | none => none
      | none => match cs.toList[o]? with
        | some v => some (v, H)
        | none => none
    | _ => none
  | .ixv len esz n x i, f, H => match ev f x, int? (ev f i) with
    | .agg cs, some i => if 0 ≤ i ∧ i < len then
        match n with
        | some n => match cut cs.toList (i.toNat * esz) n with
          | some xs => some (.agg xs.toArray, H)
          | none => none
        | none => match cs.toList[i.toNat * esz]? with
          | some v => some (v, H)
          | none => none
      else none
    | _, _ => none
  | .ixt x i, f, H => match ev f x, int? (ev f i) with
    | .string s, some i => if 0 ≤ i then match s.data[i.toNat]? with
        | some b => some (.int .u8 b.toNat, H)
        | none => none
      else none
    | _, _ => none
  | .slc k x lo hi mx, f, H => islc k (ev f x) f lo hi mx H
  | .mks esz bytes z l c, f, H => match int? (ev f l), int? (ev f c) with
    | some l, some c => if 0 ≤ l ∧ l ≤ c ∧ c * bytes < 1099511627776 ∧ z.length = esz ∧ c < 4611686018427387904
        then some (.slice (some ⟨H.length, 0, none⟩) l.toNat (2 * c.toNat), H ++ [.cells ((List.replicate c.toNat z).flatten) false 0]) else none
    | _, _ => none
  | .mki t x, f, H => some (.iface t (ev f x), H)
  | .tas t zero ok x, f, H => match ev f x with
    | .iface u v => if u = t then some (if ok then .tuple #[v, .bool true] else v, H) else if ok then some (.tuple #[zero, .bool false], H) else none
    | .nilIface => if ok then some (.tuple #[zero, .bool false], H) else none
    | _ => none
  | .ext x i, f, H => match ev f x with
    | .tuple vs => match vs.toList[i]? with
      | some v => some (v, H)
      | none => none
    | _ => none
  | .fun_ fn first cap, f, H => some (.func fn (first.map (ev f)).toArray (cap.map (ev f)).toArray, H)
  | .len k x, f, H => match k, ev f x with
    | .str, .string s => some (.int .i64 s.size, H)
    | .arr n, _ => some (.int .i64 n, H)
    | .sl, .slice _ n _ => some (.int .i64 n, H)
    | .map, .map none => some (.int .i64 0, H)
    | .map, .map (some r) => match H.mapAt r with
      | some (es, _) => some (.int .i64 es.length, H)
      | none => none
    | _, _ => none
  | .cap x, f, H => match ev f x with
    | .slice _ _ c => if c % 2 = 0 then some (.int .i64 (c / 2 : Nat), H) else none
    | _ => none
  | .app esz bytes s x, f, H => match elems H esz (ev f x) with
    | some (n, xs) => iapp esz bytes (ev f s) n xs H
    | none => none
  | .apz esz bytes z s x, f, H => match int? (ev f x) with
    | some n => if 0 ≤ n ∧ n < 4611686018427387904 ∧ n * bytes < 1099511627776 then iapp esz bytes (ev f s) n.toNat ((List.replicate n.toNat z).flatten) H else none
    | none => none
  | .msk x, f, H => match ev f x with
    | .slice (some a) l c => match H.wrow a.block with
      | some _ => some (.slice (some a) l c, H)
      | none => none
    | _ => none
  | .cpy esz d s, f, H => match ev f d, lenv (ev f s) with
    | .slice none _ _, some _ => some (.int .i64 0, H)
    | .slice (some a) n _, some m =>
      match firsts H esz (min m n) (ev f s) with
      | some xs => if min m n = 0 then some (.int .i64 0, H) else
        match H.wrow a.block with
        | some (c, lo) => if xs.length = min m n * esz ∧ a.off + min m n * esz ≤ c.length then some (.int .i64 (min m n : Nat), H.set a.block (.cells (lay c a.off xs) false lo)) else none
        | none => none
      | none => none
    | _, _ => none
  | .clr z x, f, H => match ev f x with
    | .slice none _ _ => some (.tuple #[], H)
    | .slice (some a) n _ => if n = 0 then some (.tuple #[], H) else
      match H.wrow a.block with
      | some (c, lo) => if a.off + n * z.length ≤ c.length then some (.tuple #[], H.set a.block (.cells (lay c a.off ((List.replicate n z).flatten)) false lo)) else none
      | none => none
    | _ => none
  | .mnx mx xs, f, H => match xs.map (ev f) with
    | .int k a :: rest => match rest.mapM int? with
      | some l => some (.int k (l.foldl (fun m y => if mx then (if y > m then y else m) else (if y < m then y else m)) a), H)
      | none => none
    | _ => none
  | .mkm, _, H => some (.map (some H.length), H ++ [.map [] 0])
  | .mkh x, f, H => match ev f x with
    | .int _ _ => some (.map (some H.length), H ++ [.map [] 0])
    | _ => none
  | .lkp kk zero ok m k, f, H => match ev f m with
    | .map none => if keyOk kk (ev f k) then some (if ok then .tuple #[zero, .bool false] else zero, H) else none
    | .map (some r) => match H.mapAt r with
      | some (es, _) => match look kk es (ev f k) with
        | some (some i) => match es[i]? with
          | some e => some (if ok then .tuple #[e.val, .bool true] else e.val, H)
          | none => none
        | some none => some (if ok then .tuple #[zero, .bool false] else zero, H)
        | none => none
      | none => none
    | _ => none
  | .mup kk m k x, f, H => match ev f m with
    | .map (some r) => match H.mapAt r with
      | some (es, ck) => match look kk es (ev f k) with
        | some (some i) => some (undef, H.set r (.map (es.modify i fun e => { e with val := ev f x }) ck))
        | some none => some (undef, H.set r (.map (es ++ [{ key := ev f k, val := ev f x, born := ck }]) (ck + 1)))
        | none => none
      | none => none
    | _ => none
  | .men kk zero m k, f, H => match ev f m with
    | .map (some r) => match H.mapAt r with
      | some (es, ck) => match look kk es (ev f k) with
        | some (some i) => match es[i]? with
          | some e => some (.tuple #[e.val, .int .i64 e.born], H)
          | none => none
        | some none => some (.tuple #[zero, .int .i64 ck], H.set r (.map (es ++ [{ key := ev f k, val := zero, born := ck }]) (ck + 1)))
        | none => none
      | none => none
    | _ => none
  | .mes m s x, f, H => match ev f m, ev f s with
    | .map (some r), .int _ born => match H.mapAt r with
      | some (es, ck) => match es.findIdx? (fun e => (e.born : Int) == born) with
        | some i => some (undef, H.set r (.map (es.modify i fun e => { e with val := ev f x }) ck))
        | none => none
      | none => none
    | _, _ => none
  | .mdl kk m k, f, H => match ev f m with
    | .map none => if keyOk kk (ev f k) then some (.tuple #[], H) else none
    | .map (some r) => match H.mapAt r with
      | some (es, ck) => match look kk es (ev f k) with
        | some (some i) => some (.tuple #[], H.set r (.map (es.eraseIdx i) ck))
        | some none => some (.tuple #[], H)
        | none => none
      | none => none
    | _ => none
  | .reg z, _, H => some (.agg z.toArray, H)
  | .regb n x, f, H => if (ev f x).cells.size = n ∧ notTuple (ev f x) then some (.agg (ev f x).cells, H) else none
  | .upd o n t x, f, H => match ev f t with
    | .agg cs => if (ev f x).cells.size = n ∧ o + n ≤ cs.size ∧ notTuple (ev f x) then some (.agg (lay cs.toList o (ev f x).cells.toList).toArray, H) else none
    | _ => none
  | .apl esz bytes n s x, f, H => match ev f x with
    | .agg cs => if cs.size = n * esz ∧ 0 < n then iapp esz bytes (ev f s) n cs.toList H else none
    | _ => none
  | .pan _, _, _ => none
  | .call _ _, _, _ => none

abbrev CallFn := FuncId → List Value → Heap → Option (IEnd × Heap)

/-- Are the objects that were there left as they were? -/
def vsame : Nat → Value → Value → Bool
  | 0, _, _ => false
  | _ + 1, .bool a, .bool b => a == b
  | _ + 1, .int k a, .int k' b => k == k' && a == b
  | _ + 1, .string a, .string b => a == b
  | _ + 1, .pointer a, .pointer b => a == b
  | _ + 1, .slice a l c, .slice b l' c' => a == b && l == l' && c == c'
  | _ + 1, .map a, .map b => a == b
  | n + 1, .func g a b, .func g' a' b' => g == g' && a.size == a'.size && b.size == b'.size && (a.toList.zip a'.toList).all (fun p => vsame n p.1 p.2) && (b.toList.zip b'.toList).all (fun p => vsame n p.1 p.2)
  | _ + 1, .nilFunc, .nilFunc => true
  | n + 1, .iface t v, .iface t' v' => t == t' && vsame n v v'
  | _ + 1, .nilIface, .nilIface => true
  | n + 1, .agg a, .agg a' => a.size == a'.size && (a.toList.zip a'.toList).all (fun p => vsame n p.1 p.2)
  | n + 1, .tuple a, .tuple a' => a.size == a'.size && (a.toList.zip a'.toList).all (fun p => vsame n p.1 p.2)
  | _ + 1, _, _ => false

end Go.IM

namespace Go.IM
open Go

def nro : IObj → Bool
  | .cells _ ro _ => !ro
  | _ => true

/-- The second memory is the first, and more that can be written. -/
def Pre (H H' : Heap) : Prop := ∃ t, H' = H ++ t ∧ ∀ o ∈ t, nro o = true

/-- Has nothing that was there changed, and can all that is new be written? -/
noncomputable def unch (H H' : Heap) : Bool := @decide (Pre H H') (Classical.propDecidable _)

def put (d : Option Nat) (v : Value) (f : Fr) : Fr :=
  match d with
  | some d => f.set d v
  | none => f

def wants (g : Option (Nat × Bool)) (f : Fr) : Bool :=
  match g with
  | none => true
  | some (t, b) => match f.getD t undef with
    | .bool c => c == b
    | _ => false

noncomputable def evalOps (call : CallFn) (draw : Bool) : List IOper → Fr → Heap → Option (IExit × Fr × Heap)
  | [], f, H => some (.normal, f, H)
  | o :: os, f, H =>
    if wants o.guard f then
      match o.op with
      | .call g as =>
        match ev f g with
        | .func (.func F) first cap =>
          match call F (first.toList ++ as.map (ev f) ++ cap.toList) H with
          | some (.ret v, H') => if o.quiet && !unch H H' then none else evalOps call draw os (put o.dst v f) H'
          | some (.pan ch, H') => if draw then none else some (.panic ch, f, H')
          | none => none
        | _ => none
      | .pan x =>
        match ev f x with
        | .iface t v => if draw then none else some (.panic [{ v := .iface t v, recovered := false }], f, H)
        | _ => none
      | op =>
        match iop op f H with
        | some (v, H') => if o.quiet && !unch H H' then none else evalOps call draw os (put o.dst v f) H'
        | none => none
    else evalOps call draw os (put o.dst undef f) H

noncomputable def evalC (call : CallFn) : Nat → ICode → Fr → Heap → Option (IExit × Fr × Heap)
  | 0, _, _, _ => none
  | _ + 1, .skip, f, H => some (.normal, f, H)
  | _ + 1, .ops d l, f, H => evalOps call d l f H
  | n + 1, .seq a b, f, H =>
    match evalC call n a f H with
    | some (.normal, f', H') => evalC call n b f' H'
    | r => r
  | n + 1, .cond c a b, f, H =>
    match ev f c with
    | .bool t => if t then evalC call n a f H else evalC call n b f H
    | _ => none
  | n + 1, .block i a, f, H =>
    match evalC call n a f H with
    | some (.exit j, f', H') => some (if j = i then .normal else .exit j, f', H')
    | r => r
  | n + 1, .loop a, f, H =>
    match evalC call n a f H with
    | some (.normal, f', H') => evalC call n (.loop a) f' H'
    | r => r
  | _ + 1, .exit i, f, H => some (.exit i, f, H)
  | _ + 1, .ret, f, H => some (.ret, f, H)

def res1 (f : Fr) (H : Heap) : IRes → Option Value
  | .tmp t => some (f.getD t undef)
  | .cell t => match f.getD t undef with
    | .pointer (some p) => match H.row p.block with
      | some c => c[p.off]?
      | none => none
    | _ => none
  | .agg t n => match f.getD t undef with
    | .pointer (some p) => match H.row p.block with
      | some c => (cut c p.off n).map fun xs => .agg xs.toArray
      | none => none
    | _ => none
  | .rega t n => match f.getD t undef with
    | .agg cs => (cut cs.toList 0 n).map fun xs => .agg xs.toArray
    | _ => none
  | .reg1 t => match f.getD t undef with
    | .agg cs => cs.toList[0]?
    | _ => none

def resAll (f : Fr) (H : Heap) : List IRes → Option (List Value)
  | [] => some []
  | r :: rs => match res1 f H r, resAll f H rs with
    | some v, some vs => some (v :: vs)
    | _, _ => none

def one : List Value → Value
  | [v] => v
  | vs => .tuple vs.toArray

noncomputable def evalF (tab : FuncId → Option IFn) (hook : CallFn) : Nat → CallFn
  | 0, _, _, _ => none
  | n + 1, F, args, H =>
    match tab F with
    | none => hook F args H
    | some fn =>
      match evalC (evalF tab hook n) n fn.code (args ++ List.replicate (fn.ntmps - args.length) undef) H with
      | some (.normal, f, H') | some (.ret, f, H') => match resAll f H' fn.results with
        | some vs => some (.ret (one vs), H')
        | none => none
      | some (.panic ch, _, H') => some (.pan ch, H')
      | _ => none

end Go.IM

namespace Go.IM
open Go Go.RowKit

/-! ## Values -/

theorem trV_agree {S : Nat → Prop} {ρ ρ' : Place} (h : ∀ i, S i → ρ' i = ρ i) : ∀ v : Value, okV S v → trV ρ' v = trV ρ v
  | .bool _, _ | .int _ _, _ | .float _ _, _ | .complex _ _ _, _ | .string _, _ | .nilFunc, _ | .nilIface, _ | .chan _, _ => by simp [trV]
  | .pointer none, _ | .map none, _ | .slice none _ _, _ => by simp [trV]
  | .pointer (some a), hv => by simp only [okV] at hv; simp [trV, trA, h _ hv.1]
  | .slice (some a) l c, hv => by simp only [okV] at hv; simp [trV, trA, trCap, h _ hv.1]
  | .map (some r), hv => by simp only [okV] at hv; simp [trV, h _ hv]
  | .func fn a b, hv => by
    simp only [okV] at hv; simp only [trV]
    have h1 : a.map (trV ρ') = a.map (trV ρ) := by
      apply Array.map_congr_left; intro x hx; exact trV_agree h x (hv.2.1 x hx)
    have h2 : b.map (trV ρ') = b.map (trV ρ) := by
      apply Array.map_congr_left; intro x hx; exact trV_agree h x (hv.2.2 x hx)
    rw [h1, h2]
  | .iface t v, hv => by simp only [okV] at hv; simp only [trV]; rw [trV_agree h v hv]
  | .agg cs, hv => by
    simp only [okV] at hv; simp only [trV]
    have h1 : cs.map (trV ρ') = cs.map (trV ρ) := by
      apply Array.map_congr_left; intro x hx; exact trV_agree h x (hv x hx).1
    rw [h1]
  | .tuple cs, hv => by
    simp only [okV] at hv; simp only [trV]
    have h1 : cs.map (trV ρ') = cs.map (trV ρ) := by
      apply Array.map_congr_left; intro x hx; exact trV_agree h x (hv x hx)
    rw [h1]

theorem okV_mono {S S' : Nat → Prop} (h : ∀ i, S i → S' i) : ∀ v : Value, okV S v → okV S' v
  | .bool _, _ | .int _ _, _ | .float _ _, _ | .complex _ _ _, _ | .string _, _ | .nilFunc, _ | .nilIface, _ => by simp [okV]
  | .chan _, hv => by simp [okV] at hv
  | .pointer none, _ | .map none, _ => by simp [okV]
  | .slice none _ _, hv => by simpa [okV] using hv
  | .pointer (some a), hv => by simp only [okV] at *; exact ⟨h _ hv.1, hv.2⟩
  | .slice (some a) l c, hv => by simp only [okV] at *; exact ⟨h _ hv.1, hv.2⟩
  | .map (some r), hv => by simp only [okV] at *; exact h _ hv
  | .func fn a b, hv => by
    simp only [okV] at *
    exact ⟨hv.1, fun x hx => okV_mono h x (hv.2.1 x hx), fun x hx => okV_mono h x (hv.2.2 x hx)⟩
  | .iface t v, hv => by simp only [okV] at *; exact okV_mono h v hv
  | .agg cs, hv => by simp only [okV] at *; exact fun x hx => ⟨okV_mono h x (hv x hx).1, (hv x hx).2⟩
  | .tuple cs, hv => by simp only [okV] at *; exact fun x hx => okV_mono h x (hv x hx)

@[simp] theorem trV_undef (ρ : Place) : trV ρ undef = undef := by simp [undef, trV]
@[simp] theorem okV_undef (S : Nat → Prop) : okV S undef := by simp [undef, okV]

@[simp] theorem oneCell_trV (ρ : Place) (v : Value) : (trV ρ v).oneCell' = v.oneCell' := by
  cases v with
  | pointer a => cases a <;> simp [trV, Value.oneCell']
  | slice a _ _ => cases a <;> simp [trV, Value.oneCell']
  | map a => cases a <;> simp [trV, Value.oneCell']
  | _ => simp [trV, Value.oneCell']

@[simp] theorem cells_trV (ρ : Place) (v : Value) : (trV ρ v).cells = v.cells.map (trV ρ) := by
  cases v with
  | pointer a => cases a <;> simp [trV, Value.cells]
  | slice a _ _ => cases a <;> simp [trV, Value.cells]
  | map a => cases a <;> simp [trV, Value.cells]
  | _ => simp [trV, Value.cells]

@[simp] theorem one1_eq (v : Value) : one1 v = v.oneCell' := by cases v <;> rfl

theorem okV_cells {S : Nat → Prop} {v : Value} (h : okV S v) (hn : notTuple v = true) : ∀ x ∈ v.cells, okV S x ∧ x.oneCell' = true := by
  cases v with
  | agg cs => simpa [Value.cells, okV] using h
  | tuple vs => simp [notTuple] at hn
  | _ => simpa [Value.cells, Value.oneCell'] using h

/-! ## The relation between the two memories -/

def grow (S : Nat → Prop) (H H' : Heap) : Nat → Prop := fun i => S i ∨ (H.length ≤ i ∧ i < H'.length)

def wlive (H : Heap) (i : Nat) : Prop := (∃ c lo, H[i]? = some (.cells c false lo)) ∨ (∃ es k, H[i]? = some (.map es k))
def live (H : Heap) (i : Nat) : Prop := (∃ c ro lo, H[i]? = some (.cells c ro lo)) ∨ (∃ es k, H[i]? = some (.map es k))

def at_ (r : RB) (k : Nat) : Addr := ⟨r.blk, r.off + k, none⟩

/-- The row's frozen cells, if any, lie behind what belongs to the block. -/
def FzOk (w : World) (r : RB) : Prop := ∃ rc ty lo hi, w.heap[r.blk]? = some (.cells rc ty (lo, hi)) ∧ (lo = hi ∨ r.ext = 0 ∨ r.off + r.ext ≤ lo)

theorem FzOk.frozen {w : World} {r : RB} (h : FzOk w r) {k : Nat} (hk : k < r.ext) : w.frozen? (at_ r k) = false := by
  obtain ⟨rc, ty, lo, hi, h1, h2⟩ := h
  unfold World.frozen? at_
  rw [h1]
  simp only [Bool.and_eq_false_iff, decide_eq_false_iff_not]
  omega

structure CellsAt (base : Nat) (S : Nat → Prop) (ρ : Place) (i : Nat) (c : List Value) (ro : Bool) (lo : Nat) (w : World) : Prop where
  fit : c.length ≤ (ρ i).ext
  esz : lo ≠ 0 → (ρ i).esz = lo
  have_ : ∀ k, k < (ρ i).ext → ∃ v, w.cell? (at_ (ρ i) k) = some v
  val : ∀ k v, c[k]? = some v → w.cell? (at_ (ρ i) k) = some (trV ρ v) ∧ okV S v ∧ v.oneCell' = true
  lt : (ρ i).blk < w.heap.size
  wr : ro = false → base ≤ (ρ i).blk ∧ FzOk w (ρ i)

def trE (ρ : Place) (e : MapEntry) : MapEntry := { key := trV ρ e.key, val := trV ρ e.val, born := e.born }

structure MapAt (base : Nat) (S : Nat → Prop) (ρ : Place) (i : Nat) (es : List MapEntry) (k : Nat) (w : World) : Prop where
  low : base ≤ (ρ i).blk
  obj : w.heap[(ρ i).blk]? = some (.map (es.map (trE ρ)).toArray k)
  ok : ∀ e ∈ es, okV S e.key ∧ okV S e.val

structure HRel (base ng : Nat) (S : Nat → Prop) (ρ : Place) (H : Heap) (w : World) : Prop where
  low : base ≤ w.heap.size
  glob : ∀ g, g < ng → S g ∧ (ρ g).blk = g ∧ (ρ g).off = 0
  vis : ∀ i, S i → i < H.length
  cells : ∀ i c ro lo, S i → H[i]? = some (.cells c ro lo) → CellsAt base S ρ i c ro lo w
  maps : ∀ i es k, S i → H[i]? = some (.map es k) → MapAt base S ρ i es k w
  sep : ∀ i j, S i → S j → i ≠ j → wlive H i → live H j → (ρ i).blk ≠ (ρ j).blk

def Own (S : Nat → Prop) (ρ : Place) (H : Heap) (b : Nat) : Prop := ∃ i, S i ∧ wlive H i ∧ (ρ i).blk = b

structure Ext (S : Nat → Prop) (ρ : Place) (H : Heap) (w : World) (S' : Nat → Prop) (ρ' : Place) (H' : Heap) (w' : World) : Prop where
  sub : ∀ i, S i → S' i
  agree : ∀ i, S i → ρ' i = ρ i
  size : w.heap.size ≤ w'.heap.size
  own : ∀ b, b < w.heap.size → Own S' ρ' H' b → Own S ρ H b
  frame : ∀ b, b < w.heap.size → ¬ Own S ρ H b → w'.heap[b]? = w.heap[b]?
  os : w'.os = w.os
  tape : w'.tape = w.tape
  output : w'.output = w.output

theorem Ext.refl (S : Nat → Prop) (ρ : Place) (H : Heap) (w : World) : Ext S ρ H w S ρ H w :=
  ⟨fun _ h => h, fun _ _ => rfl, Nat.le_refl _, fun _ _ h => h, fun _ _ _ => rfl, rfl, rfl, rfl⟩

theorem Ext.trans {S S1 S2 : Nat → Prop} {ρ ρ1 ρ2 : Place} {H H1 H2 : Heap} {w w1 w2 : World} (h : Ext S ρ H w S1 ρ1 H1 w1) (k : Ext S1 ρ1 H1 w1 S2 ρ2 H2 w2) :
    Ext S ρ H w S2 ρ2 H2 w2 :=
  ⟨fun i hi => k.sub i (h.sub i hi), fun i hi => (k.agree i (h.sub i hi)).trans (h.agree i hi), Nat.le_trans h.size k.size,
    fun b hb ho => h.own b hb (k.own b (Nat.lt_of_lt_of_le hb h.size) ho),
    fun b hb ho => (k.frame b (Nat.lt_of_lt_of_le hb h.size) fun hc => ho (h.own b hb hc)).trans (h.frame b hb ho),
    k.os.trans h.os, k.tape.trans h.tape, k.output.trans h.output⟩

theorem live_of_wlive {H : Heap} {i : Nat} (h : wlive H i) : live H i := by
  rcases h with ⟨c, lo, h⟩ | ⟨es, k, h⟩
  · exact .inl ⟨c, false, lo, h⟩
  · exact .inr ⟨es, k, h⟩

theorem wlive_lt {H : Heap} {i : Nat} (h : wlive H i) : i < H.length := by
  rcases h with ⟨c, lo, h⟩ | ⟨es, k, h⟩ <;> exact (List.getElem?_eq_some_iff.1 h).1

theorem HRel.lt_of_wlive {base ng : Nat} {S : Nat → Prop} {ρ : Place} {H : Heap} {w : World} (h : HRel base ng S ρ H w) {i : Nat} (hi : S i) (hl : wlive H i) :
    base ≤ (ρ i).blk ∧ (ρ i).blk < w.heap.size := by
  rcases hl with ⟨c, lo, hl⟩ | ⟨es, k, hl⟩
  · have := h.cells i c false lo hi hl; exact ⟨(this.wr rfl).1, this.lt⟩
  · have := h.maps i es k hi hl; exact ⟨this.low, (Array.getElem?_eq_some_iff.1 this.obj).1⟩

theorem HRel.lt_of_live {base ng : Nat} {S : Nat → Prop} {ρ : Place} {H : Heap} {w : World} (h : HRel base ng S ρ H w) {i : Nat} (hi : S i) (hl : live H i) : (ρ i).blk < w.heap.size := by
  rcases hl with ⟨c, ro, lo, hl⟩ | ⟨es, k, hl⟩
  · exact (h.cells i c ro lo hi hl).lt
  · exact (Array.getElem?_eq_some_iff.1 (h.maps i es k hi hl).obj).1

/-- What the caller had before, below `base`, is as it was. -/
theorem Ext.below {base ng : Nat} {S S' : Nat → Prop} {ρ ρ' : Place} {H H' : Heap} {w w' : World} (h : HRel base ng S ρ H w) (e : Ext S ρ H w S' ρ' H' w') : Below base w w' :=
  ⟨e.os, e.tape, e.output, e.size, fun b hb => e.frame b (Nat.lt_of_lt_of_le hb h.low) fun ⟨i, hi, hl, hb'⟩ => by
    have := (h.lt_of_wlive hi hl).1; omega⟩

/-! ## Agreement of worlds outside of one block -/

theorem cell?_eq {w w' : World} {a : Addr} (h : w'.heap[a.block]? = w.heap[a.block]?) : w'.cell? a = w.cell? a := by
  unfold World.cell?; rw [h]

theorem frozen?_eq {w w' : World} {a : Addr} (h : w'.heap[a.block]? = w.heap[a.block]?) : w'.frozen? a = w.frozen? a := by
  unfold World.frozen?; rw [h]

theorem CellsAt.move {base : Nat} {S S' : Nat → Prop} {ρ ρ' : Place} {i : Nat} {c : List Value} {ro : Bool} {lo : Nat} {w w' : World} (h : CellsAt base S ρ i c ro lo w)
    (hS : ∀ j, S j → S' j) (hρ : ∀ j, S j → ρ' j = ρ j) (hi : S i) (hw : ∀ v, w.heap[(ρ i).blk]? = some v → w'.heap[(ρ i).blk]? = some v) (hsz : w.heap.size ≤ w'.heap.size) : CellsAt base S' ρ' i c ro lo w' := by
  have hr := hρ i hi
  have hc : ∀ k v, w.cell? (at_ (ρ i) k) = some v → w'.cell? (at_ (ρ i) k) = some v := by
    intro k v hk
    have hb : ∃ o, w.heap[(ρ i).blk]? = some o := by
      unfold World.cell? at hk
      cases ho : w.heap[(at_ (ρ i) k).block]? with
      | none => simp [ho] at hk
      | some o => exact ⟨o, ho⟩
    obtain ⟨o, ho⟩ := hb
    rw [cell?_eq (w := w) (w' := w') (by show w'.heap[(ρ i).blk]? = w.heap[(ρ i).blk]?; rw [ho, hw _ ho])]
    exact hk
  refine ⟨by rw [hr]; exact h.fit, by rw [hr]; exact h.esz, ?_, ?_, by rw [hr]; exact Nat.lt_of_lt_of_le h.lt hsz, ?_⟩
  · rw [hr]; intro k hk; obtain ⟨v, hv⟩ := h.have_ k hk; exact ⟨v, hc k v hv⟩
  · rw [hr]; intro k v hk
    obtain ⟨h1, h2, h3⟩ := h.val k v hk
    exact ⟨by rw [trV_agree hρ v h2]; exact hc k _ h1, okV_mono hS v h2, h3⟩
  · rw [hr]; intro hro
    obtain ⟨h1, rc, ty, lo, hi, h3, h4⟩ := h.wr hro
    exact ⟨h1, rc, ty, lo, hi, hw _ h3, h4⟩

theorem MapAt.move {base : Nat} {S S' : Nat → Prop} {ρ ρ' : Place} {i : Nat} {es : List MapEntry} {k : Nat} {w w' : World} (h : MapAt base S ρ i es k w)
    (hS : ∀ j, S j → S' j) (hρ : ∀ j, S j → ρ' j = ρ j) (hi : S i) (hw : ∀ v, w.heap[(ρ i).blk]? = some v → w'.heap[(ρ i).blk]? = some v) : MapAt base S' ρ' i es k w' := by
  have hr := hρ i hi
  refine ⟨by rw [hr]; exact h.low, ?_, fun e he => ⟨okV_mono hS _ (h.ok e he).1, okV_mono hS _ (h.ok e he).2⟩⟩
  rw [hr, hw _ h.obj]
  congr 3
  apply List.map_congr_left
  intro e he
  simp [trE, trV_agree hρ _ (h.ok e he).1, trV_agree hρ _ (h.ok e he).2]

/-- The relation speaks of no count of draws. -/
theorem HRel.drew {base ng : Nat} {S : Nat → Prop} {ρ : Place} {H : Heap} {w : World} (h : HRel base ng S ρ H w) : HRel base ng S ρ H w.drew :=
  ⟨h.low, h.glob, h.vis, fun i c ro lo hi hc => let k := h.cells i c ro lo hi hc; ⟨k.fit, k.esz, k.have_, k.val, k.lt, k.wr⟩, fun i es k hi hc => let m := h.maps i es k hi hc; ⟨m.low, m.obj, m.ok⟩, h.sep⟩

theorem Ext.drew (S : Nat → Prop) (ρ : Place) (H : Heap) (w : World) : Ext S ρ H w S ρ H w.drew :=
  ⟨fun _ h => h, fun _ _ => rfl, Nat.le_refl _, fun _ _ h => h, fun _ _ _ => rfl, rfl, rfl, rfl⟩

def upd (ρ : Place) (n : Nat) (r : RB) : Place := fun i => if i = n then r else ρ i
@[simp] theorem upd_same (ρ : Place) (n : Nat) (r : RB) : upd ρ n r n = r := by simp [upd]
theorem upd_ne (ρ : Place) {n i : Nat} (r : RB) (h : i ≠ n) : upd ρ n r i = ρ i := by simp [upd, h]

end Go.IM

namespace Go.IM
open Go Go.RowKit

variable {base ng : Nat} {S : Nat → Prop} {ρ : Place} {H H' : Heap} {w w' : World}

theorem grow_same (h : H'.length = H.length) : grow S H H' = S := by
  funext i; apply propext; unfold grow; constructor
  · rintro (hi | ⟨h1, h2⟩)
    · exact hi
    · omega
  · exact .inl

theorem grow_push (x : IObj) (i : Nat) : grow S H (H ++ [x]) i ↔ S i ∨ i = H.length := by
  unfold grow; simp only [List.length_append, List.length_singleton]
  constructor
  · rintro (h | h)
    · exact .inl h
    · exact .inr (by omega)
  · rintro (h | h)
    · exact .inl h
    · exact .inr (by omega)

theorem get_push_old {x : IObj} {i : Nat} (h : i < H.length) : (H ++ [x])[i]? = H[i]? := List.getElem?_append_left h
theorem get_push_new {x : IObj} : (H ++ [x])[H.length]? = some x := by simp

/-! ## A block is written -/

theorem HRel.modify (h : HRel base ng S ρ H w) {i : Nat} (hi : S i) {c0 c' : List Value} {lo : Nat} (hc : H[i]? = some (.cells c0 false lo))
    (hother : ∀ b, b ≠ (ρ i).blk → w'.heap[b]? = w.heap[b]?) (hsz : w'.heap.size = w.heap.size) (henv : w'.os = w.os ∧ w'.tape = w.tape ∧ w'.output = w.output)
    (hnew : CellsAt base S ρ i c' false lo w') : HRel base ng S ρ (H.set i (.cells c' false lo)) w' ∧ Ext S ρ H w S ρ (H.set i (.cells c' false lo)) w' := by
  have hlt : i < H.length := h.vis i hi
  have hwi : wlive H i := .inl ⟨c0, lo, hc⟩
  have hget : ∀ j, j ≠ i → (H.set i (.cells c' false lo))[j]? = H[j]? := fun j hj => List.getElem?_set_ne (Ne.symm hj)
  have hsame : (H.set i (.cells c' false lo))[i]? = some (.cells c' false lo) := by rw [List.getElem?_set_self hlt]
  have hwl : ∀ j, wlive (H.set i (.cells c' false lo)) j → wlive H j := by
    intro j hj
    by_cases e : j = i
    · subst e; exact hwi
    · unfold wlive at *; rwa [hget j e] at hj
  have hll : ∀ j, live (H.set i (.cells c' false lo)) j → live H j := by
    intro j hj
    by_cases e : j = i
    · subst e; exact live_of_wlive hwi
    · unfold live at *; rwa [hget j e] at hj
  refine ⟨⟨by rw [hsz]; exact h.low, h.glob, fun j hj => by simpa using h.vis j hj, ?_, ?_, fun j k hj hk hjk hl hl' => h.sep j k hj hk hjk (hwl j hl) (hll k hl')⟩,
    ⟨fun _ h => h, fun _ _ => rfl, by omega, fun b _ ⟨j, hj, hl, hb⟩ => ⟨j, hj, hwl j hl, hb⟩, fun b _ ho => hother b fun e => ho ⟨i, hi, hwi, e.symm⟩, henv.1, henv.2.1, henv.2.2⟩⟩
  · intro j c ro lo' hj hcj
    by_cases e : j = i
    · subst e; rw [hsame] at hcj; cases hcj; exact hnew
    · rw [hget j e] at hcj
      refine (h.cells j c ro lo' hj hcj).move (fun _ h => h) (fun _ _ => rfl) hj (fun v hv => ?_) (by omega)
      rw [hother _ (Ne.symm (h.sep i j hi hj (Ne.symm e) hwi (.inl ⟨c, ro, lo', hcj⟩)))]; exact hv
  · intro j es k hj hcj
    have e : j ≠ i := by rintro rfl; rw [hsame] at hcj; cases hcj
    rw [hget j e] at hcj
    refine (h.maps j es k hj hcj).move (fun _ h => h) (fun _ _ => rfl) hj (fun v hv => ?_)
    rw [hother _ (Ne.symm (h.sep i j hi hj (Ne.symm e) hwi (.inr ⟨es, k, hcj⟩)))]; exact hv

theorem HRel.modifyMap (h : HRel base ng S ρ H w) {i : Nat} (hi : S i) {es0 es : List MapEntry} {k0 k : Nat} (hc : H[i]? = some (.map es0 k0))
    (hother : ∀ b, b ≠ (ρ i).blk → w'.heap[b]? = w.heap[b]?) (hsz : w'.heap.size = w.heap.size) (henv : w'.os = w.os ∧ w'.tape = w.tape ∧ w'.output = w.output)
    (hnew : MapAt base S ρ i es k w') : HRel base ng S ρ (H.set i (.map es k)) w' ∧ Ext S ρ H w S ρ (H.set i (.map es k)) w' := by
  have hlt : i < H.length := h.vis i hi
  have hwi : wlive H i := .inr ⟨es0, k0, hc⟩
  have hget : ∀ j, j ≠ i → (H.set i (.map es k))[j]? = H[j]? := fun j hj => List.getElem?_set_ne (Ne.symm hj)
  have hsame : (H.set i (.map es k))[i]? = some (.map es k) := by rw [List.getElem?_set_self hlt]
  have hwl : ∀ j, wlive (H.set i (.map es k)) j → wlive H j := by
    intro j hj
    by_cases e : j = i
    · subst e; exact hwi
    · unfold wlive at *; rwa [hget j e] at hj
  have hll : ∀ j, live (H.set i (.map es k)) j → live H j := by
    intro j hj
    by_cases e : j = i
    · subst e; exact live_of_wlive hwi
    · unfold live at *; rwa [hget j e] at hj
  refine ⟨⟨by rw [hsz]; exact h.low, h.glob, fun j hj => by simpa using h.vis j hj, ?_, ?_, fun j k hj hk hjk hl hl' => h.sep j k hj hk hjk (hwl j hl) (hll k hl')⟩,
    ⟨fun _ h => h, fun _ _ => rfl, by omega, fun b _ ⟨j, hj, hl, hb⟩ => ⟨j, hj, hwl j hl, hb⟩, fun b _ ho => hother b fun e => ho ⟨i, hi, hwi, e.symm⟩, henv.1, henv.2.1, henv.2.2⟩⟩
  · intro j c ro lo' hj hcj
    have e : j ≠ i := by rintro rfl; rw [hsame] at hcj; cases hcj
    rw [hget j e] at hcj
    refine (h.cells j c ro lo' hj hcj).move (fun _ h => h) (fun _ _ => rfl) hj (fun v hv => ?_) (by omega)
    rw [hother _ (Ne.symm (h.sep i j hi hj (Ne.symm e) hwi (.inl ⟨c, ro, lo', hcj⟩)))]; exact hv
  · intro j es' k' hj hcj
    by_cases e : j = i
    · subst e; rw [hsame] at hcj; cases hcj; exact hnew
    · rw [hget j e] at hcj
      refine (h.maps j es' k' hj hcj).move (fun _ h => h) (fun _ _ => rfl) hj (fun v hv => ?_)
      rw [hother _ (Ne.symm (h.sep i j hi hj (Ne.symm e) hwi (.inr ⟨es', k', hcj⟩)))]; exact hv

/-! ## A block is given up -/

theorem HRel.kill (h : HRel base ng S ρ H w) (i : Nat) : HRel base ng S ρ (H.set i .dead) w ∧ (∀ j, wlive (H.set i .dead) j → wlive H j ∧ j ≠ i) ∧ (∀ j, live (H.set i .dead) j → live H j ∧ j ≠ i) := by
  have hget : ∀ j, j ≠ i → (H.set i .dead)[j]? = H[j]? := fun j hj => List.getElem?_set_ne (Ne.symm hj)
  have hdead : ∀ x, (H.set i .dead)[i]? = some x → x = .dead := by
    intro x hx
    rw [List.getElem?_set] at hx
    simp at hx
    exact hx.2.symm
  have hwl : ∀ j, wlive (H.set i .dead) j → wlive H j ∧ j ≠ i := by
    intro j hj
    by_cases e : j = i
    · subst e; rcases hj with ⟨c, lo, hj⟩ | ⟨es, k, hj⟩ <;> cases hdead _ hj
    · unfold wlive at *; rw [hget j e] at hj; exact ⟨hj, e⟩
  have hll : ∀ j, live (H.set i .dead) j → live H j ∧ j ≠ i := by
    intro j hj
    by_cases e : j = i
    · subst e; rcases hj with ⟨c, ro, lo, hj⟩ | ⟨es, k, hj⟩ <;> cases hdead _ hj
    · unfold live at *; rw [hget j e] at hj; exact ⟨hj, e⟩
  refine ⟨⟨h.low, h.glob, fun j hj => by simpa using h.vis j hj, ?_, ?_, fun j k hj hk hjk hl hl' => h.sep j k hj hk hjk (hwl j hl).1 (hll k hl').1⟩, hwl, hll⟩
  · intro j c ro lo hj hc
    have e : j ≠ i := by rintro rfl; cases hdead _ hc
    rw [hget j e] at hc; exact h.cells j c ro lo hj hc
  · intro j es k hj hc
    have e : j ≠ i := by rintro rfl; cases hdead _ hc
    rw [hget j e] at hc; exact h.maps j es k hj hc

/-! ## A new block -/

/-- `H0`: the memory before anything was given up for it. -/
theorem HRel.adopt {H0 : Heap} (h : HRel base ng S ρ H w) (hlen : H.length = H0.length) (hfrom : ∀ b, Own S ρ H b → Own S ρ H0 b) {c : List Value} {lo : Nat} {r : RB}
    (hfree : ∀ j, S j → live H j → (ρ j).blk ≠ r.blk) (hown : r.blk < w.heap.size → Own S ρ H0 r.blk)
    (hother : ∀ b, b ≠ r.blk → b < w.heap.size → w'.heap[b]? = w.heap[b]?) (hsz : w.heap.size ≤ w'.heap.size) (henv : w'.os = w.os ∧ w'.tape = w.tape ∧ w'.output = w.output)
    (hnew : CellsAt base S (upd ρ H.length r) H.length c false lo w') :
    HRel base ng (grow S H0 (H ++ [.cells c false lo])) (upd ρ H.length r) (H ++ [.cells c false lo]) w' ∧
      Ext S ρ H0 w (grow S H0 (H ++ [.cells c false lo])) (upd ρ H.length r) (H ++ [.cells c false lo]) w' := by
  have hg : ∀ i, grow S H0 (H ++ [.cells c false lo]) i ↔ S i ∨ i = H.length := by
    intro i; rw [← grow_push (.cells c false lo)]; unfold grow; rw [hlen]
  have hne : ∀ i, S i → i ≠ H.length := fun i hi e => by have := h.vis i hi; omega
  have hag : ∀ i, S i → upd ρ H.length r i = ρ i := fun i hi => upd_ne _ _ (hne i hi)
  have hsub : ∀ i, S i → grow S H0 (H ++ [.cells c false lo]) i := fun i hi => (hg i).2 (.inl hi)
  have hwl : ∀ j, S j → wlive (H ++ [.cells c false lo]) j → wlive H j := by
    intro j hj hl; unfold wlive at *; rwa [get_push_old (h.vis j hj)] at hl
  have hll : ∀ j, S j → live (H ++ [.cells c false lo]) j → live H j := by
    intro j hj hl; unfold live at *; rwa [get_push_old (h.vis j hj)] at hl
  have hw : ∀ j, S j → live H j → ∀ v, w.heap[(ρ j).blk]? = some v → w'.heap[(ρ j).blk]? = some v := by
    intro j hj hl v hv
    rw [hother _ (hfree j hj hl) (Array.getElem?_eq_some_iff.1 hv).1]; exact hv
  refine ⟨⟨Nat.le_trans h.low hsz, ?_, ?_, ?_, ?_, ?_⟩, ⟨hsub, hag, hsz, ?_, ?_, henv.1, henv.2.1, henv.2.2⟩⟩
  · intro g hg'
    obtain ⟨h1, h2, h3⟩ := h.glob g hg'
    exact ⟨hsub g h1, by rw [hag g h1]; exact h2, by rw [hag g h1]; exact h3⟩
  · intro i hi
    rcases (hg i).1 hi with hi | rfl
    · have := h.vis i hi; simp; omega
    · simp
  · intro i c' ro lo' hi hc
    rcases (hg i).1 hi with hi | rfl
    · rw [get_push_old (h.vis i hi)] at hc
      exact (h.cells i c' ro lo' hi hc).move hsub hag hi (hw i hi (.inl ⟨c', ro, lo', hc⟩)) hsz
    · rw [get_push_new] at hc; cases hc
      exact ⟨hnew.fit, hnew.esz, hnew.have_, fun k v hk => let ⟨a, b, d⟩ := hnew.val k v hk; ⟨a, okV_mono hsub v b, d⟩, hnew.lt, hnew.wr⟩
  · intro i es k hi hc
    rcases (hg i).1 hi with hi | rfl
    · rw [get_push_old (h.vis i hi)] at hc
      exact (h.maps i es k hi hc).move hsub hag hi (hw i hi (.inr ⟨es, k, hc⟩))
    · rw [get_push_new] at hc; cases hc
  · intro i j hi hj hij hl hl'
    rcases (hg i).1 hi with hi | rfl
    · rcases (hg j).1 hj with hj | rfl
      · rw [hag i hi, hag j hj]; exact h.sep i j hi hj hij (hwl i hi hl) (hll j hj hl')
      · rw [hag i hi, upd_same]; exact hfree i hi (live_of_wlive (hwl i hi hl))
    · rcases (hg j).1 hj with hj | rfl
      · rw [hag j hj, upd_same]; exact Ne.symm (hfree j hj (hll j hj hl'))
      · exact absurd rfl hij
  · rintro b hb ⟨i, hi, hl, hbi⟩
    rcases (hg i).1 hi with hi | rfl
    · rw [hag i hi] at hbi; exact hfrom b ⟨i, hi, hwl i hi hl, hbi⟩
    · rw [upd_same] at hbi; subst hbi; exact hown hb
  · intro b hb ho
    refine hother b (fun e => ?_) hb
    subst e; exact ho (hown hb)

theorem HRel.adoptMap (h : HRel base ng S ρ H w) {es : List MapEntry} {k : Nat} {r : RB} (hr : w.heap.size ≤ r.blk)
    (hother : ∀ b, b < w.heap.size → w'.heap[b]? = w.heap[b]?) (hsz : w.heap.size ≤ w'.heap.size) (henv : w'.os = w.os ∧ w'.tape = w.tape ∧ w'.output = w.output)
    (hnew : MapAt base S (upd ρ H.length r) H.length es k w') :
    HRel base ng (grow S H (H ++ [.map es k])) (upd ρ H.length r) (H ++ [.map es k]) w' ∧
      Ext S ρ H w (grow S H (H ++ [.map es k])) (upd ρ H.length r) (H ++ [.map es k]) w' := by
  have hg : ∀ i, grow S H (H ++ [.map es k]) i ↔ S i ∨ i = H.length := fun i => grow_push _ i
  have hne : ∀ i, S i → i ≠ H.length := fun i hi e => by have := h.vis i hi; omega
  have hag : ∀ i, S i → upd ρ H.length r i = ρ i := fun i hi => upd_ne _ _ (hne i hi)
  have hsub : ∀ i, S i → grow S H (H ++ [.map es k]) i := fun i hi => (hg i).2 (.inl hi)
  have hwl : ∀ j, S j → wlive (H ++ [.map es k]) j → wlive H j := by
    intro j hj hl; unfold wlive at *; rwa [get_push_old (h.vis j hj)] at hl
  have hll : ∀ j, S j → live (H ++ [.map es k]) j → live H j := by
    intro j hj hl; unfold live at *; rwa [get_push_old (h.vis j hj)] at hl
  have hblk : ∀ j, S j → live H j → (ρ j).blk ≠ r.blk := fun j hj hl e => by have := h.lt_of_live hj hl; omega
  have hw : ∀ j, S j → ∀ v, w.heap[(ρ j).blk]? = some v → w'.heap[(ρ j).blk]? = some v := by
    intro j hj v hv
    rw [hother _ (Array.getElem?_eq_some_iff.1 hv).1]; exact hv
  refine ⟨⟨Nat.le_trans h.low hsz, ?_, ?_, ?_, ?_, ?_⟩, ⟨hsub, hag, hsz, ?_, fun b hb _ => hother b hb, henv.1, henv.2.1, henv.2.2⟩⟩
  · intro g hg'
    obtain ⟨h1, h2, h3⟩ := h.glob g hg'
    exact ⟨hsub g h1, by rw [hag g h1]; exact h2, by rw [hag g h1]; exact h3⟩
  · intro i hi
    rcases (hg i).1 hi with hi | rfl
    · have := h.vis i hi; simp; omega
    · simp
  · intro i c' ro lo' hi hc
    rcases (hg i).1 hi with hi | rfl
    · rw [get_push_old (h.vis i hi)] at hc
      exact (h.cells i c' ro lo' hi hc).move hsub hag hi (hw i hi) hsz
    · rw [get_push_new] at hc; cases hc
  · intro i es' k' hi hc
    rcases (hg i).1 hi with hi | rfl
    · rw [get_push_old (h.vis i hi)] at hc
      exact (h.maps i es' k' hi hc).move hsub hag hi (hw i hi)
    · rw [get_push_new] at hc; cases hc
      exact ⟨hnew.low, hnew.obj, fun e he => ⟨okV_mono hsub _ (hnew.ok e he).1, okV_mono hsub _ (hnew.ok e he).2⟩⟩
  · intro i j hi hj hij hl hl'
    rcases (hg i).1 hi with hi | rfl
    · rcases (hg j).1 hj with hj | rfl
      · rw [hag i hi, hag j hj]; exact h.sep i j hi hj hij (hwl i hi hl) (hll j hj hl')
      · rw [hag i hi, upd_same]; exact hblk i hi (live_of_wlive (hwl i hi hl))
    · rcases (hg j).1 hj with hj | rfl
      · rw [hag j hj, upd_same]; exact Ne.symm (hblk j hj (hll j hj hl'))
      · exact absurd rfl hij
  · rintro b hb ⟨i, hi, hl, hbi⟩
    rcases (hg i).1 hi with hi | rfl
    · rw [hag i hi] at hbi; exact ⟨i, hi, hwl i hi hl, hbi⟩
    · rw [upd_same] at hbi; omega

end Go.IM

namespace Go.IM
open Go Go.RowKit

variable {P : Program}

theorem at_add (r : RB) (o k : Nat) : (at_ r o).add k = at_ r (o + k) := by
  unfold Addr.add at_
  split
  · rename_i h; subst h; rfl
  · simp [Nat.add_assoc]

theorem at_inj {r : RB} {j k : Nat} (h : at_ r j = at_ r k) : j = k := by simp [at_] at h; exact h

/-- `w'` is `w` with `xs` written from place `o` on. -/
structure Wrote (w w' : World) (r : RB) (o : Nat) (xs : List Value) : Prop where
  other : ∀ b, b ≠ r.blk → w'.heap[b]? = w.heap[b]?
  size : w'.heap.size = w.heap.size
  env : w'.os = w.os ∧ w'.tape = w.tape ∧ w'.output = w.output
  new : ∀ k x, xs[k]? = some x → w'.cell? (at_ r (o + k)) = some x
  old : ∀ k, (k < o ∨ o + xs.length ≤ k) → w'.cell? (at_ r k) = w.cell? (at_ r k)
  froz : ∀ (b : Nat) (rc : Array Value) (ty : TypeId) (fz : Nat × Nat), w.heap[b]? = some (Obj.cells rc ty fz) → ∃ rc' : Array Value, w'.heap[b]? = some (Obj.cells rc' ty fz)

theorem heap_setCell_ne (w : World) (a : Addr) (v : Value) (b : Nat) (h : b ≠ a.block) : (w.setCell a v).heap[b]? = w.heap[b]? := by
  unfold World.setCell
  simp only [Array.getElem?_modify]
  rw [if_neg (Ne.symm h)]

theorem setCell_fz {w : World} (a : Addr) (v : Value) {b : Nat} {rc : Array Value} {ty : TypeId} {fz : Nat × Nat} (h : w.heap[b]? = some (.cells rc ty fz)) :
    ∃ rc', (w.setCell a v).heap[b]? = some (.cells rc' ty fz) := by
  unfold World.setCell
  simp only [Array.getElem?_modify]
  split
  · rw [h]; exact ⟨_, rfl⟩
  · exact ⟨rc, h⟩

theorem run_storeAt (r : RB) (o : Nat) : ∀ (xs : List Value) (i : Nat) (w : World), (∀ k, k < xs.length → ∃ v, w.cell? (at_ r (o + i + k)) = some v) →
    (∀ k, k < xs.length → w.frozen? (at_ r (o + i + k)) = false) → (∀ x ∈ xs, x.oneCell' = true) →
    ∃ w', (storeCells (at_ r o) xs i).run P w = .ok () w' ∧ Wrote w w' r (o + i) xs
  | [], i, w, _, _, _ => ⟨w, rfl, fun _ _ => rfl, rfl, ⟨rfl, rfl, rfl⟩, by simp, fun _ _ => rfl, fun _ rc _ _ h => ⟨rc, h⟩⟩
  | x :: xs, i, w, hc, hf, hx => by
    obtain ⟨v, hv⟩ := hc 0 (by simp)
    have hz := hf 0 (by simp)
    simp only [Nat.add_zero] at hv hz
    have hrun : (store (at_ r (o + i)) x).run P w = .ok () (w.setCell (at_ r (o + i)) x) := by
      rw [run_store _ _ _ _ _ (hx x (by simp)), hv]; simp [hz]
    have hcell : ∀ k, k ≠ o + i → (w.setCell (at_ r (o + i)) x).cell? (at_ r k) = w.cell? (at_ r k) := by
      intro k hk
      exact World.cell?_setCell_other _ _ _ _ (by intro e; exact hk (at_inj e).symm)
    obtain ⟨w', h1, h2⟩ := run_storeAt r o xs (i + 1) (w.setCell (at_ r (o + i)) x)
      (fun k hk => by
        obtain ⟨u, hu⟩ := hc (k + 1) (by simpa using hk)
        exact ⟨u, by rw [hcell _ (by omega)]; rw [← hu]; congr 2; omega⟩)
      (fun k hk => by
        rw [World.frozen?_setCell]
        have := hf (k + 1) (by simpa using hk)
        rw [← this]; congr 2; omega)
      (fun y hy => hx y (by simp [hy]))
    refine ⟨w', ?_, ?_, ?_, ?_, ?_, ?_, ?_⟩
    · simp only [storeCells, Sem.run_bind, at_add, hrun, Result.andThen_ok]; exact h1
    · intro b hb; rw [h2.other b hb]; exact heap_setCell_ne _ _ _ _ (by simpa [at_] using hb)
    · rw [h2.size]; simp
    · exact h2.env
    · intro k y hk
      cases k with
      | zero =>
        simp at hk; subst hk
        rw [h2.old _ (.inl (by omega))]
        exact World.cell?_setCell_same _ _ _ hv
      | succ k =>
        have := h2.new k y (by simpa using hk)
        rw [← this]; congr 2; omega
    · intro k hk
      simp only [List.length_cons] at hk
      rw [h2.old k (by omega), hcell k (by omega)]
    · intro b rc ty fz hb
      obtain ⟨rc1, h1⟩ := setCell_fz (at_ r (o + i)) x hb
      exact h2.froz b rc1 ty fz h1

theorem run_loadAt (r : RB) (o : Nat) (w : World) (xs : List Value) (h : ∀ k v, xs[k]? = some v → w.cell? (at_ r (o + k)) = some v) :
    (loadCells (at_ r o) xs.length).run P w = .ok xs.toArray w := by
  have := run_loadCells_list (P := P) (w := w) (at_ r o) xs (fun j v hj => by rw [at_add]; exact h j v hj)
  simpa using this

/-! ## Lists -/

theorem length_lay {c : List Value} {o : Nat} {xs : List Value} (h : o + xs.length ≤ c.length) : (lay c o xs).length = c.length := by
  simp [lay]; omega

theorem get_lay {c : List Value} {o : Nat} {xs : List Value} (h : o + xs.length ≤ c.length) (k : Nat) :
    (lay c o xs)[k]? = if k < o then c[k]? else if k < o + xs.length then xs[k - o]? else c[k]? := by
  unfold lay
  by_cases h1 : k < o
  · rw [if_pos h1, List.append_assoc, List.getElem?_append_left (by simp; omega), List.getElem?_take_of_lt h1]
  · rw [if_neg h1]
    by_cases h2 : k < o + xs.length
    · rw [if_pos h2, List.append_assoc, List.getElem?_append_right (by simp; omega), List.getElem?_append_left (by simp; omega)]
      congr 1; simp; omega
    · rw [if_neg h2, List.append_assoc, List.getElem?_append_right (by simp; omega), List.getElem?_append_right (by simp; omega), List.getElem?_drop]
      congr 1; simp; omega

theorem cut_some {c : List Value} {o n : Nat} {xs : List Value} (h : cut c o n = some xs) : o + n ≤ c.length ∧ xs.length = n ∧ ∀ k v, xs[k]? = some v → c[o + k]? = some v := by
  unfold cut at h
  split at h
  · rename_i hle
    cases h
    refine ⟨hle, by simp; omega, fun k v hk => ?_⟩
    have hk' : k < n := by
      have := (List.getElem?_eq_some_iff.1 hk).1
      simp at this; omega
    rw [List.getElem?_take_of_lt hk', List.getElem?_drop] at hk
    exact hk
  · cases h

end Go.IM

namespace Go.IM
open Go Go.RowKit

/-! ## What the program says of its types -/

def szO (P : Program) (t : TypeId) : Option Nat := (P.info? t).map (·.size)
def byO (P : Program) (t : TypeId) : Option Nat := (P.info? t).map (·.bytes)
def zvO (P : Program) (t : TypeId) : Option Value := (P.info? t).bind (·.zero)
def agO (P : Program) (t : TypeId) : Option Bool := (P.underlying t).map fun
  | .struct _ | .array _ _ => true
  | _ => false

/-- No address stands in it. -/
def flat1 : Value → Bool
  | .bool _ | .int _ _ | .string _ | .nilFunc | .nilIface | .pointer none | .map none | .slice none 0 0 => true
  | _ => false

def flatV : Value → Bool
  | .agg cs => cs.toList.all flat1
  | v => flat1 v

theorem flat1_tr {v : Value} (h : flat1 v = true) (ρ : Place) (S : Nat → Prop) : trV ρ v = v ∧ okV S v ∧ v.oneCell' = true ∧ notTuple v = true := by
  cases v with
  | pointer a => cases a <;> simp_all [flat1, trV, okV, Value.oneCell', notTuple]
  | slice a l c =>
    cases a with
    | none =>
      cases l <;> cases c <;> simp_all [flat1, trV, okV, Value.oneCell', notTuple]
    | some a => simp [flat1] at h
  | map a => cases a <;> simp_all [flat1, trV, okV, Value.oneCell', notTuple]
  | _ => simp_all [flat1, trV, okV, Value.oneCell', notTuple]

theorem flatV_tr {v : Value} (h : flatV v = true) (ρ : Place) (S : Nat → Prop) : trV ρ v = v ∧ okV S v ∧ notTuple v = true := by
  cases v with
  | agg cs =>
    simp only [flatV, List.all_eq_true] at h
    refine ⟨?_, ?_, rfl⟩
    · simp only [trV]
      congr 1
      apply Array.ext (by simp)
      intro i h1 h2
      simp only [Array.getElem_map]
      exact (flat1_tr (h _ (Array.getElem_mem_toList h2)) ρ S).1
    · simp only [okV, one1_eq]
      intro x hx
      have := flat1_tr (h x (by simpa using hx)) ρ S
      exact ⟨this.2.1, this.2.2.1⟩
  | _ => have := flat1_tr (v := _) (by simpa [flatV] using h) ρ S; exact ⟨this.1, this.2.1, this.2.2.2⟩

variable {P : Program}

theorem und {t : TypeId} {d : TypeDesc} (h : P.underlying t = some d) (w : World) : (underlying t).run P w = .ok d w := by simp [underlying, h]
theorem szr {t : TypeId} {n : Nat} (h : szO P t = some n) (w : World) : (sizeOf t).run P w = .ok n w := by
  unfold szO at h; cases hi : P.info? t with
  | none => simp [hi] at h
  | some i => simp [hi] at h; simp [sizeOf, typeInfo, hi, h]
theorem byr {t : TypeId} {n : Nat} (h : byO P t = some n) (w : World) : ∃ i, (typeInfo t).run P w = .ok i w ∧ i.bytes = n := by
  unfold byO at h; cases hi : P.info? t with
  | none => simp [hi] at h
  | some i => simp [hi] at h; exact ⟨i, by simp [typeInfo, hi], h⟩
theorem zvr {t : TypeId} {v : Value} (h : zvO P t = some v) (w : World) : (zeroValue t).run P w = .ok v w := by
  unfold zvO at h; cases hi : P.info? t with
  | none => simp [hi] at h
  | some i => simp [hi] at h; simp [zeroValue, typeInfo, hi, h]
theorem agr {t : TypeId} {b : Bool} (h : agO P t = some b) (w : World) : (isAgg t).run P w = .ok b w := by
  unfold agO at h; cases hi : P.underlying t with
  | none => simp [hi] at h
  | some d =>
    simp only [hi, Option.map_some, Option.some.injEq] at h
    subst h
    simp only [isAgg, Sem.run_bind, und hi, Result.andThen_ok]
    cases d <;> rfl

/-! ## From the program's operations to instructions -/

def slO (P : Program) (t : TypeId) : Option TypeId := match P.underlying t with
  | some (.slice e) => some e
  | _ => none

def szPart (P : Program) (t : TypeId) : Option (Option Nat) := match agO P t, szO P t with
  | some true, some n => some (some n)
  | some false, some _ => some none
  | _, _ => none

/-- The kinds of the cells of the type's values, if all are ints, bools and strings, one behind the other. -/
def flatF (flatL : TypeId → Option (List Leaf)) : List Field → Nat → Option (List Leaf)
  | [], _ => some []
  | f :: fs, off => if f.name ≠ "_" ∧ f.offset = off then match flatL f.type with
      | some k => if k.length = 0 then none else match flatF flatL fs (off + k.length) with
        | some l => some (k ++ l)
        | none => none
      | none => none
    else none

def flatL (P : Program) : Nat → TypeId → Option (List Leaf)
  | 0, _ => none
  | n + 1, t => match P.underlying t with
    | none => none
    | some d => match szO P t with
      | none => none
      | some z => match d with
        | .int _ => if z = 1 then some [.i] else none
        | .bool => if z = 1 then some [.b] else none
        | .string => if z = 1 then some [.s] else none
        | .struct fs => if P.stoodInHeld t = true then none else match flatF (flatL P n) fs.toList 0 with
          | some k => if k.length = z then some k else none
          | none => none
        | .array len e => match flatL P n e with
          | some k => if k.length ≠ 0 ∧ len * k.length = z then some (List.replicate len k).flatten else none
          | none => none
        | _ => none

def keyO (P : Program) (t : TypeId) : Option KeyK := match agO P t, flatL P 20 t with
  | some a, some ks => some ⟨a, ks⟩
  | _, _ => none

def opdOk (ng : Nat) : Operand → Bool
  | .const v => flatV v
  | .global g => g < ng
  | _ => true

def placesS (P : Program) (fs : List Field) : List (Nat × Operand) → Option (List (Nat × Nat × Operand))
  | [] => some []
  | (i, x) :: r => match fs[i]? with
    | some f => match szO P f.type, placesS P fs r with
      | some n, some l => some ((f.offset, n, x) :: l)
      | _, _ => none
    | none => none

def placesA (n : Nat) (ps : List (Nat × Operand)) : List (Nat × Nat × Operand) := ps.map fun (i, x) => (i * n, n, x)

def zcO (P : Program) (t : TypeId) : Option (List Value) := match zvO P t with
  | some z => if flatV z && notTuple z then some z.cells.toList else none
  | none => none

def compCall (P : Program) (c : Call) : Option IOp :=
  match c.callee with
  | .value g => some (.call g c.args.toList)
  | .invoke _ _ => none
  | .builtin b =>
    match b, c.argTypes.toList, c.args.toList with
    | .len, [t], [x] => match P.underlying t with
      | some .string => some (.len .str x)
      | some (.array n _) => some (.len (.arr n) x)
      | some (.pointer a) => match P.underlying a with
        | some (.array n _) => some (.len (.arr n) x)
        | _ => none
      | some (.slice _) => some (.len .sl x)
      | some (.map _ _) => some (.len .map x)
      | _ => none
    | .cap, [t], [x] => match P.underlying t with
      | some (.slice _) => some (.cap x)
      | _ => none
    | .append, [t, u], [s, x] => match slO P t with
      | some e => match szO P e, byO P e, P.underlying u with
        | some n, some b, some (.int _) => match zcO P e with
          | some z => if z.length = n ∧ b < 1073741824 then some (.apz n b z s x) else none
          | none => none
        | some n, some b, some (.slice _) | some n, some b, some .string => match zvO P e with
          | some z => if z.cells.size = n ∧ b < 1073741824 then some (.app n b s x) else none
          | none => none
        | _, _, _ => none
      | none => none
    | .copy, [t, _], [d, s] => match slO P t with
      | some e => match szO P e with
        | some n => some (.cpy n d s)
        | none => none
      | none => none
    | .clear, [t], [x] => match slO P t with
      | some e => match zcO P e with
        | some z => some (.clr z x)
        | none => none
      | none => none
    | .min, _, xs => some (.mnx false xs)
    | .max, _, xs => some (.mnx true xs)
    | .delete, [t, _], [m, k] => match P.underlying t with
      | some (.map kt _) => (keyO P kt).map fun ks => .mdl ks m k
      | _ => none
    | _, _, _ => none

def isNilConst : Operand → Bool
  | .const _ => true
  | _ => false

def compEq (P : Program) (t : TypeId) (d : TypeDesc) (n : Bool) (x y : Operand) : Option IOp :=
  match d with
  | .bool => some (.eq .bool n x y)
  | .pointer _ => some (.eq .ptr n x y)
  | .slice _ => some (.eq .sli n x y)
  | .map _ _ => some (.eq .map n x y)
  | .func _ _ _ => some (.eq .fun_ n x y)
  | .interface _ => if isNilConst x || isNilConst y then some (.eq .ifc n x y) else none
  | .struct _ | .array _ _ => if P.eqGuardType P.depth t then none else (flatL P 20 t).map fun ks => .eq (.flat ks) n x y
  | _ => none

def compOp (P : Program) (o : Oper) : Option IOp :=
  match o.op with
  | .move x | .assign x => some (.mov x)
  | .pick c a b => some (.pick c a b)
  | .unOp op _ x => some (.una op x)
  | .binOp op t x y _ => match P.underlying t with
    | some (.int _) | some .string => some (.bin op x y)
    | some d =>
      match op with
      | .eql => compEq P t d false x y
      | .neq => compEq P t d true x y
      | _ => none
    | none => none
  | .convert s d x => match P.underlying s, P.underlying d with
    | some (.int _), some (.int k) => some (.cnv k x)
    | some .string, some .string => some (.slc .str x none none none)
    | some .string, some (.slice e) => match P.underlying e with
      | some (.int .u8) => some (.s2b x)
      | _ => none
    | some (.slice e), some .string => match P.underlying e with
      | some (.int .u8) => some (.b2s x)
      | _ => none
    | some (.slice _), some (.slice e) => match P.underlying e with
      | some (.int .u8) => if s = d then some (.msk x) else none
      | _ => none
    | _, _ => none
  | .alloc t => (zcO P t).map .new
  | .box t x => (szO P t).map fun n => .box n x
  | .build t ps => match P.underlying t, zcO P t with
    | some (.struct fs), some z => if fs.toList.all (fun f => (szO P f.type).isSome) then (placesS P fs.toList ps.toList).map (.bld z) else none
    | some (.array _ e), some z => (szO P e).map fun n => .bld z (placesA n ps.toList)
    | _, _ => none
  | .buildSlice t len ps => match slO P t with
    | some e => match szO P e, zcO P e with
      | some n, some z => if z.length = n ∧ len * n ≤ 16777216 then some (.bsl len ((List.replicate len z).flatten) (placesA n ps.toList)) else none
      | _, _ => none
    | none => none
  | .load t a => match agO P t, szO P t with
    | some true, some n => some (.ldn n a)
    | some false, some _ => some (.ld1 a)
    | _, _ => none
  | .store t a x => (szO P t).map fun n => .sto n a x
  | .nilCheck x => some (.nck x)
  | .fieldAddr t x i => match P.underlying t with
    | some (.struct fs) => match fs[i]? with
      | some f => match szO P f.type with
        | some n => if n = 0 then none else some (.fad f.offset x)
        | none => none
      | none => none
    | _ => none
  | .field t x i => match P.underlying t with
    | some (.struct fs) => match fs[i]? with
      | some f => (szPart P f.type).map fun n => .fld f.offset n x
      | none => none
    | _ => none
  | .indexAddr t x i => match P.underlying t with
    | some (.array len e) => (szO P e).map fun n => .ixa len n x i
    | some (.slice e) => (szO P e).map fun n => .ixs n x i
    | _ => none
  | .index t x i => match P.underlying t with
    | some (.array len e) => match szPart P e, szO P e with
      | some k, some n => some (.ixv len n k x i)
      | _, _ => none
    | some .string => some (.ixt x i)
    | _ => none
  | .slice t x lo hi mx => match P.underlying t with
    | some .string => some (.slc .str x lo hi mx)
    | some (.array n e) => (szO P e).map fun k => .slc (.arr n k) x lo hi mx
    | some (.slice e) => (szO P e).map fun k => .slc (.sl k) x lo hi mx
    | _ => none
  | .makeSlice t l c => match slO P t with
    | some e => match szO P e, byO P e, zcO P e with
      | some n, some b, some z => if z.length = n then some (.mks n b z l c) else none
      | _, _, _ => none
    | none => none
  | .makeInterface t x => match P.underlying t with
    | some (.interface _) => none
    | some _ => some (.mki t x)
    | none => none
  | .typeAssert x _ t ok => match P.underlying t with
    | some (.interface _) => none
    | some _ => match zvO P t with
      | some z => if flatV z then some (.tas t z ok x) else none
      | none => none
    | none => none
  | .extract x i => some (.ext x i)
  | .makeFunc (.func g) a b => some (.fun_ (.func g) a.toList b.toList)
  | .makeMap _ none => some .mkm
  | .makeMap t (some x) => match P.underlying t with
    | some (.map _ _) => some (.mkh x)
    | _ => none
  | .lookup t m k ok => match P.underlying t with
    | some (.map kt e) => match zvO P e with
      | some z => if flatV z then (keyO P kt).map fun ks => .lkp ks z ok m k else none
      | none => none
    | _ => none
  | .mapUpdate t m k x | .insert t m k x => match P.underlying t with
    | some (.map kt _) => (keyO P kt).map fun ks => .mup ks m k x
    | _ => none
  | .mapEntry t m k => match P.underlying t with
    | some (.map kt e) => match zvO P e with
      | some z => if flatV z then (keyO P kt).map fun ks => .men ks z m k else none
      | none => none
    | _ => none
  | .entryStore _ m s x => some (.mes m s x)
  | .panic x => some (.pan x)
  | .call c => compCall P c
  | _ => none

end Go.IM
