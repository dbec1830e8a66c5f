/- The operations of the abstract interpreter. -/
import Derived.Test.YtikebbklkiodlaaDoorAbA0
set_option linter.unusedSectionVars false
set_option linter.unusedSimpArgs false
set_option linter.unusedVariables false
namespace Go.Ab
variable [Marks]

abbrev Env := List (Nat × AV)
def Env.get : Env → Nat → Option AV
  | [], _ => none
  | (k, v) :: r, t => if Nat.beq k t then some v else Env.get r t
def Env.del (ρ : Env) (ts : List Nat) : Env := ρ.filter fun x => !ts.contains x.1

def ev (ρ : Env) : Opd → Option AV
  | .t n => ρ.get n
  | .c v => some v
def evs (ρ : Env) : List Opd → Option (List AV)
  | [] => some []
  | x :: r => match ev ρ x, evs ρ r with
    | some v, some vs => some (v :: vs)
    | _, _ => none

/-- lists of pure values -/
def allP : List AV → Option (List PV)
  | [] => some []
  | v :: r => match v with
    | .p v => match allP r with
      | some vs => some (v :: vs)
      | none => none
    | _ => none
def mkAgg (l : List AV) : AV := match allP l with
  | some ps => .p (.agg ps)
  | none => .agg l
def mkTup (l : List AV) : AV := match allP l with
  | some ps => .p (.tup ps)
  | none => .tup l
def mkCells (l : List AV) : Cells := match allP l with
  | some ps => .pv ps
  | none => .av l
def AV.cells : AV → List AV
  | .p (.agg cs) => cs.map .p
  | .agg cs => cs
  | v => [v]
/-- a value's cells, where an object is made of it -/
def AV.toCells : AV → Cells
  | .p (.agg cs) => .pv cs
  | .agg cs => .av cs
  | .p v => .pv [v]
  | v => .av [v]

/-- n cells from off on, as a value of a type that is an aggregate or not -/
def partP (agg : Bool) (n : Nat) (l : List PV) (off : Nat) : Option PV :=
  if agg then (if off + n ≤ l.length then some (.agg ((l.drop off).take n)) else none) else l[off]?
def partC (agg : Bool) (n : Nat) (c : Cells) (off : Nat) : Option AV :=
  match c with
  | .pv l => (partP agg n l off).map .p
  | .av l => if agg then (if off + n ≤ l.length then some (mkAgg ((l.drop off).take n)) else none) else l[off]?

/-- cells written over others -/
def splice {α : Type} (l : List α) (off : Nat) (new : List α) : List α := l.take off ++ new ++ l.drop (off + new.length)
def spliceC (c : Cells) (off : Nat) (new : Cells) : Cells :=
  match c, new with
  | .pv l, .pv m => .pv (splice l off m)
  | c, m => mkCells (splice c.toList off m.toList)
def takeC (c : Cells) (n : Nat) : Cells :=
  match c with
  | .pv l => .pv (l.take n)
  | .av l => .av (l.take n)
def dropC (c : Cells) (n : Nat) : Cells :=
  match c with
  | .pv l => .pv (l.drop n)
  | .av l => .av (l.drop n)
def catC (c d : Cells) : Cells :=
  match c, d with
  | .pv l, .pv m => .pv (l ++ m)
  | c, d => .av (c.toList ++ d.toList)

/-- may it be written into memory? -/
def AV.fit : AV → Bool
  | .dead => false
  | .tup _ => false
  | .p (.tup _) => false
  | .p .undef => false
  | _ => true

/-- parts filled in: (place, size, value) -/
def fillA (cells : List AV) : List (Nat × Nat × AV) → Option (List AV)
  | [] => some cells
  | (off, size, v) :: r =>
    if v.fit = true ∧ v.cells.length = size ∧ off + size ≤ cells.length then fillA (splice cells off v.cells) r else none

/-- how numbers with marks stand -/
def markCmp (i j : Nat) : Option Ordering := if i = j then some .eq else Marks.cmp i j
def ordBin (op : BinOp) (c : Ordering) : Option Bool :=
  match op with
  | .eql => some (c == .eq)
  | .neq => some (c != .eq)
  | .lss => some (c == .lt)
  | .leq => some (c != .gt)
  | .gtr => some (c == .gt)
  | .geq => some (c != .lt)
  | _ => none
def cmpA (op : BinOp) (i j : Nat) : Option Bool := match markCmp i j with
  | some c => ordBin op c
  | none => none
mutual
def eqP : EQ → PV → PV → Option Bool
  | .bool, .bool a, .bool b => some (a == b)
  | .int, .int k a, .int k' b => if k = k' then some (a == b) else none
  | .str, .str a, .str b => some (a == b)
  | .int, .isym i k, .isym j k' => if k = k' then cmpA .eql i j else none
  | .str, .ssym i, .ssym j => if i = j then some true else none
  | .struct fs, .agg xs, .agg ys => eqPs fs xs ys
  | _, _, _ => none
def eqPs : List (Nat × Bool × Nat × EQ) → List PV → List PV → Option Bool
  | [], _, _ => some true
  | (off, agg, n, e) :: r, xs, ys =>
    match partP agg n xs off, partP agg n ys off with
    | some x, some y => match eqP e x y with
      | some true => eqPs r xs ys
      | some false => some false
      | none => none
    | _, _ => none
end

def isNilA : NilK → AV → Option Bool
  | .iface, .p .nilif => some true
  | .iface, .p (.iface _ _) => some false
  | .iface, .iface _ _ => some false
  | .ptr, .p .nilptr => some true
  | .ptr, .ptr _ _ _ => some false
  | .ptr, .p (.vptr _) => some false
  | .fn, .p .nilfn => some true
  | .fn, .p (.fn _) => some false
  | .fn, .clo _ _ _ => some false
  | .slice, .nil0 => some true
  | .slice, .sl _ _ _ _ _ => some false
  | .slice, .p (.vsl (_ :: _) _) => some false
  | .map, .p .nilmap => some true
  | _, _ => none
def eqNil (k : NilK) (x y : AV) : Option Bool :=
  match isNilA k x, isNilA k y with
  | some true, some b => some b
  | some false, some true => some false
  | _, _ => none

def LIM : Nat := 4294967296

def intBin (op : BinOp) (k : IntKind) (a b : Int) : Option PV :=
  match op with
  | .add => some (.int k (k.wrap (a + b)))
  | .sub => some (.int k (k.wrap (a - b)))
  | .mul => some (.int k (k.wrap (a * b)))
  | .quo => if b = 0 then none else some (.int k (k.wrap (a.tdiv b)))
  | .rem => if b = 0 then none else some (.int k (a.tmod b))
  | .and => some (.int k (k.wrap (BitVec.ofInt k.bits a &&& BitVec.ofInt k.bits b).toNat))
  | .or => some (.int k (k.wrap (BitVec.ofInt k.bits a ||| BitVec.ofInt k.bits b).toNat))
  | .xor => some (.int k (k.wrap (BitVec.ofInt k.bits a ^^^ BitVec.ofInt k.bits b).toNat))
  | .andNot => some (.int k (k.wrap (BitVec.ofInt k.bits a &&& ~~~ BitVec.ofInt k.bits b).toNat))
  | .eql => some (.bool (a == b))
  | .neq => some (.bool (a != b))
  | .lss => some (.bool (a < b))
  | .leq => some (.bool (a ≤ b))
  | .gtr => some (.bool (a > b))
  | .geq => some (.bool (a ≥ b))
  | _ => none
def intShift (op : BinOp) (k : IntKind) (a b : Int) : Option PV :=
  if b < 0 then none else
  match op with
  | .shl => some (.int k (k.wrap (a * 2 ^ (min b.toNat k.bits))))
  | .shr => some (.int k (a.fdiv (2 ^ (min b.toNat k.bits))))
  | _ => none
def strBin (op : BinOp) (a b : List UInt8) : Option PV :=
  match op with
  | .add => if a.length + b.length ≤ LIM then some (.str (a ++ b)) else none
  | .eql => some (.bool (a == b))
  | .neq => some (.bool !(a == b))
  | .lss => some (.bool (Op.bytesLess a b))
  | .leq => some (.bool (Op.bytesLess a b || a == b))
  | .gtr => some (.bool !(Op.bytesLess a b || a == b))
  | .geq => some (.bool !(Op.bytesLess a b))
  | _ => none

def binA : Bin → AV → AV → Option AV
  | .plain op, .p (.int k a), .p (.int k' b) =>
    match op with
    | .shl | .shr => (intShift op k a b).map .p
    | _ => if k = k' then (intBin op k a b).map .p else none
  | .plain op, .p (.str a), .p (.str b) => (strBin op a b).map .p
  | .plain op, .p (.isym i k), .p (.isym j k') => if k = k' then (cmpA op i j).map fun r => .p (.bool r) else none
  | .plain op, .p (.isym i k), .p (.int k' c) => if k = k' then match Marks.lit i c with
    | some o => (ordBin op o).map fun r => .p (.bool r)
    | none => none
    else none
  | .eq neg e, .p a, .p b => (eqP e a b).map fun r => .p (.bool (r != neg))
  | .nil k neg, a, b => (eqNil k a b).map fun r => .p (.bool (r != neg))
  | _, _, _ => none

def unA : UnOp → AV → Option AV
  | .neg, .p (.int k n) => some (.p (.int k (k.wrap (0 - n))))
  | .xor, .p (.int k n) => (intBin .xor k (if k.signed then -1 else k.max) n).map .p
  | .not, .p (.bool b) => some (.p (.bool !b))
  | _, _ => none

/-- bounds of a slice expression: l, h -/
def boundA (m d : Nat) : Option AV → Option Nat
  | none => some d
  | some (.p (.int _ n)) => if 0 ≤ n ∧ n ≤ m then some n.toNat else none
  | _ => none
def boundsA (len : Nat) (lo hi : Option AV) : Option (Nat × Nat) :=
  match boundA len len hi with
  | some h => match boundA h 0 lo with
    | some l => some (l, h)
    | none => none
  | none => none

def sliceA (esz : Nat) (x : AV) (lo hi : Option AV) : Option AV :=
  match x with
  | .p (.str s) => match boundsA s.length lo hi with
    | some (l, h) => some (.p (.str ((s.drop l).take (h - l))))
    | none => none
  | .p (.vsl cells len) => match boundsA len lo hi with
    | some (l, h) => if l = h then some (.p (.vsl [] 0)) else if cells.length = len * esz then some (.p (.vsl ((cells.drop (l * esz)).take ((h - l) * esz)) (h - l))) else none
    | none => none
  | .sl id ver off len e => if e = esz then match boundsA len lo hi with
      | some (l, h) => if l = h ∧ l ≠ 0 then some (.p (.vsl [] 0)) else some (.sl id ver (off + l * esz) (h - l) esz)
      | none => none
    else none
  | .nil0 => match boundsA 0 lo hi with
    | some _ => some .nil0
    | none => none
  | .e0 => match boundsA 0 lo hi with
    | some _ => some .e0
    | none => none
  | _ => none

def lenA : AV → Option Nat
  | .p (.str s) => some s.length
  | .p (.vsl _ n) => some n
  | .sl _ _ _ n _ => some n
  | .nil0 => some 0
  | .e0 => some 0
  | _ => none

def idxA (esz : Nat) (x i : AV) : Option AV :=
  match x, i with
  | .p (.vsl cells len), .p (.int _ i) => if 0 ≤ i ∧ i < len then some (.p (.vptr (cells.drop (i.toNat * esz)))) else none
  | .sl id ver off len e, .p (.int _ i) => if e = esz ∧ 0 ≤ i ∧ i < len then some (.ptr id ver (off + i.toNat * esz)) else none
  | _, _ => none
def idxArrA (n esz : Nat) (x i : AV) : Option AV :=
  match x, i with
  | .p (.vptr cells), .p (.int _ i) => if 0 ≤ i ∧ i < n then some (.p (.vptr (cells.drop (i.toNat * esz)))) else none
  | .ptr id ver off, .p (.int _ i) => if 0 ≤ i ∧ i < n then some (.ptr id ver (off + i.toNat * esz)) else none
  | _, _ => none
def atStrA (x i : AV) : Option AV :=
  match x, i with
  | .p (.str s), .p (.int _ i) => if 0 ≤ i then (s[i.toNat]?).map fun b => .p (.int .u8 b.toNat) else none
  | _, _ => none
def atArrA (len esz : Nat) (agg : Bool) (x i : AV) : Option AV :=
  match i with
  | .p (.int _ i) => if 0 ≤ i ∧ i < len then
      match x with
      | .p (.agg cs) => (partP agg esz cs (i.toNat * esz)).map .p
      | .agg cs => partC agg esz (.av cs) (i.toNat * esz)
      | _ => none
    else none
  | _ => none

def extractA (x : AV) (i : Nat) : Option AV :=
  match x with
  | .p (.tup vs) => (vs[i]?).map .p
  | .tup vs => vs[i]?
  | _ => none

def assertA (t : Nat) (zero : AV) (ok : Bool) (x : AV) : Option AV :=
  match x with
  | .p (.iface t' v) => if t' = t then some (if ok then .p (.tup [v, .bool true]) else .p v) else if ok then some (mkTup [zero, .p (.bool false)]) else none
  | .iface t' v => if t' = t then some (if ok then mkTup [v, .p (.bool true)] else v) else if ok then some (mkTup [zero, .p (.bool false)]) else none
  | .p .nilif => if ok then some (mkTup [zero, .p (.bool false)]) else none
  | _ => none

def maxA (isMax : Bool) : AV → List AV → Option AV
  | x, [] => some x
  | .p (.int k x), .p (.int _ y) :: r => maxA isMax (.p (.int k (if isMax then (if y > x then y else x) else (if y < x then y else x)))) r
  | .p (.str x), .p (.str y) :: r => maxA isMax (.p (.str (if isMax then (if !(Op.bytesLess x y) then x else y) else (if Op.bytesLess x y || x == y then x else y)))) r
  | _, _ => none

def evParts (ρ : Env) : List (Nat × Nat × Opd) → Option (List (Nat × Nat × AV))
  | [] => some []
  | (o, s, x) :: r => match ev ρ x, evParts ρ r with
    | some v, some vs => some ((o, s, v) :: vs)
    | _, _ => none

def evO (ρ : Env) : Option Opd → Option (Option AV)
  | none => some none
  | some x => (ev ρ x).map some

/-- operations that ask for no memory -/
def pureOp (ρ : Env) : AOp → Option AV
  | .mv x => ev ρ x
  | .pick c a b => match ev ρ c with
    | some (.p (.bool b')) => if b' then ev ρ a else ev ρ b
    | _ => none
  | .build zero parts => match evParts ρ parts with
    | some ps => (fillA zero ps).map mkAgg
    | none => none
  | .nilCheck x => match ev ρ x with
    | some (.ptr i v o) => some (.ptr i v o)
    | some (.p (.vptr c)) => some (.p (.vptr c))
    | some (.clo f a b) => some (.clo f a b)
    | some (.p (.fn f)) => some (.p (.fn f))
    | some (.p (.iface t v)) => some (.p (.iface t v))
    | some (.iface t v) => some (.iface t v)
    | _ => none
  | .bin b x y => match ev ρ x, ev ρ y with
    | some u, some v => binA b u v
    | _, _ => none
  | .un u x => match ev ρ x with
    | some v => unA u v
    | none => none
  | .convInt k x => match ev ρ x with
    | some (.p (.int _ n)) => some (.p (.int k (k.wrap n)))
    | _ => none
  | .convStr x => match ev ρ x with
    | some (.p (.str s)) => some (.p (.str s))
    | _ => none
  | .convRune x => match ev ρ x with
    | some (.p (.int _ n)) => some (.p (.str (Utf8.encode n).data.toList))
    | _ => none
  | .mkIface t x => match ev ρ x with
    | some (.p v) => some (.p (.iface t v))
    | some v => some (.iface t v)
    | none => none
  | .mkFunc f first caps => match evs ρ first, evs ρ caps with
    | some [], some [] => some (.p (.fn f))
    | some a, some b => some (.clo f a b)
    | _, _ => none
  | .fieldAddr off x => match ev ρ x with
    | some (.ptr id ver o) => some (.ptr id ver (o + off))
    | some (.p (.vptr c)) => some (.p (.vptr (c.drop off)))
    | _ => none
  | .field off agg n x => match ev ρ x with
    | some (.p (.agg cs)) => (partP agg n cs off).map .p
    | some (.agg cs) => partC agg n (.av cs) off
    | _ => none
  | .idx esz x i => match ev ρ x, ev ρ i with
    | some u, some v => idxA esz u v
    | _, _ => none
  | .idxArr n esz x i => match ev ρ x, ev ρ i with
    | some u, some v => idxArrA n esz u v
    | _, _ => none
  | .atStr x i => match ev ρ x, ev ρ i with
    | some u, some v => atStrA u v
    | _, _ => none
  | .atArr len esz agg x i => match ev ρ x, ev ρ i with
    | some u, some v => atArrA len esz agg u v
    | _, _ => none
  | .sliceStr x lo hi => match ev ρ x, evO ρ lo, evO ρ hi with
    | some (.p (.str s)), some l, some h => sliceA 1 (.p (.str s)) l h
    | _, _, _ => none
  | .slice esz x lo hi => match ev ρ x, evO ρ lo, evO ρ hi with
    | some u, some l, some h => match u with
      | .p (.str _) => none
      | u => sliceA esz u l h
    | _, _, _ => none
  | .slice0 x lo hi mx => match ev ρ x, ev ρ lo, ev ρ hi, ev ρ mx with
    | some u, some (.p (.int _ 0)), some (.p (.int _ 0)), some (.p (.int _ 0)) => match u with
      | .p (.vsl _ _) => some .e0
      | .sl _ _ _ _ _ => some .e0
      | .nil0 => some .e0
      | .e0 => some .e0
      | _ => none
    | _, _, _, _ => none
  | .assert t zero ok x => match ev ρ x with
    | some v => assertA t zero ok v
    | none => none
  | .extract i x => match ev ρ x with
    | some v => extractA v i
    | none => none
  | .len str x => match ev ρ x with
    | some v => match v, str with
      | .p (.str s), true => some (.p (.int .i64 (s.length : Int)))
      | _, true => none
      | .p (.str _), false => none
      | v, false => match lenA v with
        | some n => some (.p (.int .i64 (n : Int)))
        | none => none
    | none => none
  | .lenC n => some (.p (.int .i64 n))
  | .sliceData x => match ev ρ x with
    | some .nil0 => some (.p .nilptr)
    | some (.sl id ver off (_ + 1) _) => some (.ptr id ver off)
    | _ => none
  | .minmax m xs => match evs ρ xs with
    | some (x :: r) => maxA m x r
    | _ => none
  | _ => none

def repCells (zero : List AV) (n : Nat) : List AV := (List.replicate n zero).flatten
def repZ (zero : List AV) (n : Nat) : Cells := match allP zero with
  | some [z] => .pv (List.replicate n z)
  | _ => mkCells (repCells zero n)

def pv1 : AV → Option PV
  | .p v => some v
  | .nil0 => some (.vsl [] 0)
  | .e0 => some (.vsl [] 0)
  | _ => none
def pvsOf : List AV → Option (List PV)
  | [] => some []
  | v :: r => match pv1 v, pvsOf r with
    | some p, some ps => some (p :: ps)
    | _, _ => none
/-- a slice that nobody writes: what lies in it -/
def valsOp (ρ : Env) : AOp → Option PV
  | .buildVals zero len _ parts => match evParts ρ parts with
    | some vs => match fillA (repCells zero len) vs with
      | some out => match pvsOf out with
        | some ps => some (.vsl ps len)
        | none => none
      | none => none
    | none => none
  | _ => none

/-- operations that make one object: it, and their value once it has its number -/
def allocOp (ρ : Env) : AOp → Option (Obj × (Nat → AV))
  | .alloc ty zero => some (.arr (mkCells zero) 0 0 (some ty), fun id => .ptr id 0 0)
  | .box n x => match ev ρ x with
    | some v => if v.fit = true ∧ v.toCells.len = n then some (.arr v.toCells 0 0 none, fun id => .ptr id 0 0) else none
    | none => none
  | .buildSlice zero len esz parts => match evParts ρ parts with
    | some ps => match fillA (repCells zero len) ps with
      | some cs => some (.arr (mkCells cs) 0 0 none, fun id => .sl id 0 0 len esz)
      | none => none
    | none => none
  | .strBytes x => match ev ρ x with
    | some (.p (.str s)) => if s.length ≤ LIM then some (.arr (.pv (s.map fun b => .int .u8 b.toNat)) 0 0 none, fun id => .sl id 0 0 s.length 1) else none
    | _ => none
  | .makeSlice zero esz l c => match ev ρ l, ev ρ c with
    | some (.p (.int _ l)), some (.p (.int _ c)) =>
      if 0 ≤ l ∧ l ≤ c ∧ c ≤ LIM then some (.arr (repZ zero c.toNat) 0 0 none, fun id => .sl id 0 0 l.toNat esz) else none
    | _, _ => none
  | .rangeStr x => match ev ρ x with
    | some (.p (.str s)) => some (.iter s 0, fun id => .ptr id 0 0)
    | _ => none
  | _ => none

/-- bytes that are below 256 -/
def bytesC : List PV → Option (List UInt8)
  | [] => some []
  | .int .u8 n :: r => if 0 ≤ n ∧ n < 256 then match bytesC r with
    | some l => some (UInt8.ofNat n.toNat :: l)
    | none => none
    else none
  | _ => none
def bytesOfP : List PV → Option (List UInt8)
  | [] => some []
  | .int .u8 n :: r => match bytesOfP r with
    | some l => some (UInt8.ofNat n.toNat :: l)
    | none => none
  | _ => none

/-- n elements that a value holds, as cells -/
def elemsA (σ : Heap) (esz : Nat) (x : AV) : Option (Nat × Cells) :=
  match x with
  | .p (.str s) => if esz = 1 then some (s.length, .pv (s.map fun b => .int .u8 b.toNat)) else none
  | .p (.vsl cells n) => if cells.length = n * esz then some (n, .pv cells) else none
  | .sl id ver off n e => if e = esz then match σ[id]? with
      | some (.arr c v _ _) => if v = ver ∧ off + n * esz ≤ c.len then some (n, takeC (dropC c off) (n * esz)) else none
      | _ => none
    else none
  | .nil0 => some (0, .pv [])
  | .e0 => some (0, .pv [])
  | _ => none

/-- operations that read -/
def readOp (ρ : Env) (σ : Heap) : AOp → Option AV
  | .load agg n x => match ev ρ x with
    | some (.ptr id ver off) => match σ[id]? with
      | some (.arr c v _ _) => if v = ver then partC agg n c off else none
      | _ => none
    | some (.p (.vptr cells)) => (partP agg n cells 0).map .p
    | _ => none
  | .sliceArr n esz x lo hi => match ev ρ x, evO ρ lo, evO ρ hi with
    | some (.ptr id ver off), some l, some h => match σ[id]? with
      | some (.arr c v _ _) => if v = ver ∧ off + n * esz ≤ c.len then match boundsA n l h with
          | some (l, h) => if l = h then some (.p (.vsl [] 0)) else some (.sl id ver (off + l * esz) (h - l) esz)
          | none => none
        else none
      | _ => none
    | _, _, _ => none
  | .bytesStr x => match ev ρ x with
    | some v => match v with
      | .p (.str _) => none
      | v => match elemsA σ 1 v with
        | some (_, .pv l) => (bytesOfP l).map fun s => .p (.str s)
        | _ => none
    | none => none
  | _ => none

def appendTo (σ : Heap) (ety esz : Nat) (s : AV) (n : Nat) (new : Cells) : Option (AV × Heap) :=
  match s with
  | .nil0 => if n = 0 then some (.nil0, σ) else if n ≤ LIM then some (.sl σ.length 0 0 n esz, σ ++ [.arr new 0 0 (some ety)]) else none
  | .e0 => if n = 0 then some (.e0, σ) else if n ≤ LIM then some (.sl σ.length 0 0 n esz, σ ++ [.arr new 0 0 (some ety)]) else none
  | .sl id ver off len e => match σ[id]? with
    | some (.arr c v wm ty) =>
      if e = esz ∧ v = ver ∧ off = 0 ∧ len * esz ≤ c.len ∧ wm ≤ len * esz ∧ len + n ≤ LIM then
        if n = 0 then some (.sl id ver off len e, σ)
        else some (.sl id (ver + 1) 0 (len + n) esz, σ.set id (.arr (catC (takeC c (len * esz)) new) (ver + 1) wm (if ty = some ety then some ety else none)))
      else none
    | _ => none
  | _ => none

/-- operations that write memory (calls apart) -/
def effOp (ρ : Env) (σ : Heap) : AOp → Option (AV × Heap)
  | .store n x v => match ev ρ x, ev ρ v with
    | some (.ptr id ver off), some v => match σ[id]? with
      | some (.arr c vr wm ty) =>
        if v.fit = true ∧ vr = ver ∧ v.toCells.len = n ∧ wm ≤ off ∧ off + n ≤ c.len then some (.p .undef, σ.set id (.arr (spliceC c off v.toCells) vr wm ty)) else none
      | _ => none
    | _, _ => none
  | .append ety esz _ s x => match ev ρ s, ev ρ x with
    | some s, some x => match elemsA σ esz x with
      | some (n, new) => appendTo σ ety esz s n new
      | none => none
    | _, _ => none
  | .appendZ ety esz zero s n => match ev ρ s, ev ρ n with
    | some s, some (.p (.int _ n)) => if 0 ≤ n ∧ n ≤ LIM then appendTo σ ety esz s n.toNat (repZ zero n.toNat) else none
    | _, _ => none
  | .copy esz d s => match ev ρ d, ev ρ s with
    | some d, some s => match elemsA σ esz s with
      | some (n, new) => match d with
        | .sl id ver off len e => match σ[id]? with
          | some (.arr c v wm ty) =>
            if e = esz ∧ v = ver ∧ wm ≤ off ∧ off + len * esz ≤ c.len then
              some (.p (.int .i64 (Nat.min n len)), σ.set id (.arr (spliceC c off (takeC new (Nat.min n len * esz))) v wm ty))
            else none
          | _ => none
        | _ => none
      | none => none
    | _, _ => none
  | .clear zero esz x => match ev ρ x with
    | some (.sl id ver off len e) => if len = 0 then some (.dead, σ) else match σ[id]? with
      | some (.arr c v wm ty) => if e = esz ∧ v = ver ∧ wm ≤ off ∧ off + len * esz ≤ c.len then some (.dead, σ.set id (.arr (spliceC c off (repZ zero len)) v wm ty)) else none
      | _ => none
    | some (.p (.vsl [] 0)) => some (.dead, σ)
    | _ => none
  | .unsafeStr ety p n => match ev ρ p, ev ρ n with
    | some (.p .nilptr), some (.p (.int .i64 0)) => some (.p (.str []), σ)
    | some (.ptr id ver 0), some (.p (.int .i64 n)) => match σ[id]? with
      | some (.arr (.pv l) v wm (some ty)) =>
        if ty = ety ∧ v = ver ∧ 0 < n ∧ n ≤ l.length ∧ l.length ≤ LIM then match bytesC (l.take n.toNat) with
          | some s => some (.p (.str s), σ.set id (.arr (.pv l) v (Nat.max wm n.toNat) (some ty)))
          | none => none
        else none
      | _ => none
    | _, _ => none
  | .nextStr x => match ev ρ x with
    | some (.ptr id 0 0) => match σ[id]? with
      | some (.iter s pos) =>
        if pos < s.length then
          let d := Utf8.decode ⟨s.toArray⟩ pos
          some (.p (.tup [.bool true, .int .i64 pos, .int .i32 d.1]), σ.set id (.iter s (pos + d.2)))
        else some (.p (.tup [.bool false]), σ)
      | _ => none
    | _ => none
  | _ => none

end Go.Ab
