/- Operations of the model turned into those of the abstract interpreter. -/
import Derived.Test.YtikebbklkiodlaaDoorAbA2
import Derived.Laws.Entries
set_option linter.unusedSectionVars false
set_option linter.unusedSimpArgs false
set_option linter.unusedVariables false
namespace Go.Ab
variable [Marks]

def constLeaf : Value → Option AV
  | .bool b => some (.p (.bool b))
  | .int k n => some (.p (.int k n))
  | .string s => some (.p (.str s.data.toList))
  | .pointer none => some (.p .nilptr)
  | .slice none 0 0 => some .nil0
  | .map none => some (.p .nilmap)
  | .nilFunc => some (.p .nilfn)
  | .nilIface => some (.p .nilif)
  | .func (.func f) x y => if x.size = 0 ∧ y.size = 0 then some (.p (.fn f)) else none
  | _ => none
def constLeaves : List Value → Option (List AV)
  | [] => some []
  | v :: r => match constLeaf v, constLeaves r with
    | some a, some l => some (a :: l)
    | _, _ => none
def constAV : Value → Option AV
  | .agg cs => (constLeaves cs.toList).map mkAgg
  | .iface t v => match constLeaf v with
    | some (.p x) => some (.p (.iface t x))
    | _ => none
  | .tuple x => if x.size = 0 then some (.p .undef) else none
  | v => constLeaf v
def cellsAV : Value → Option (List AV)
  | .agg cs => constLeaves cs.toList
  | v => (constLeaf v).map fun x => [x]

abbrev Globs := Nat → Option (List PV)
def cOpd (G : Globs) : Operand → Option Opd
  | .tmp t => some (.t t)
  | .const v => (constAV v).map .c
  | .global g => (G g).map fun l => .c (.p (.vptr l))
  | .func f => some (.c (.p (.fn f)))
def cOpds (G : Globs) : List Operand → Option (List Opd)
  | [] => some []
  | x :: r => match cOpd G x, cOpds G r with
    | some a, some l => some (a :: l)
    | _, _ => none
def cOpdO (G : Globs) : Option Operand → Option (Option Opd)
  | none => some none
  | some x => (cOpd G x).map some

def P_size (P : Program) (t : Nat) : Option Nat := (P.info? t).map (·.size)
def P_agg (P : Program) (t : Nat) : Option Bool := match P.underlying t with
  | some (.struct _) | some (.array _ _) => some true
  | some _ => some false
  | none => none
def P_zero (P : Program) (t : Nat) : Option (List AV) := match P.info? t with
  | some i => match i.zero with
    | some v => cellsAV v
    | none => none
  | none => none

/-- parts' places: of a struct's fields, of an array's or a slice's elements -/
def cParts (P : Program) (G : Globs) (place : Nat → Option (Nat × Nat)) : List (Nat × Operand) → Option (List (Nat × Nat × Opd))
  | [] => some []
  | (i, x) :: r => match place i, cOpd G x, cParts P G place r with
    | some (o, s), some y, some l => some ((o, s, y) :: l)
    | _, _, _ => none
def fieldPlaces (P : Program) : List Field → Option (List (Nat × Nat))
  | [] => some []
  | f :: r => match P_size P f.type, fieldPlaces P r with
    | some s, some l => some ((f.offset, s) :: l)
    | _, _ => none

mutual
def cEQ (P : Program) : Nat → Nat → Option EQ
  | 0, _ => none
  | d + 1, t => match P.underlying t with
    | some .bool => some .bool
    | some (.int _) => some .int
    | some .string => some .str
    | some (.struct fs) => if P.stoodInHeld t then none else (cEQs P d fs.toList).map .struct
    | _ => none
def cEQs (P : Program) : Nat → List Field → Option (List (Nat × Bool × Nat × EQ))
  | _, [] => some []
  | 0, _ :: _ => none
  | d + 1, f :: r =>
    if f.name = "_" then none else
    match P_size P f.type, P_agg P f.type, cEQ P d f.type, cEQs P d r with
    | some s, some a, some e, some l => some ((f.offset, a, s, e) :: l)
    | _, _, _, _ => none
end

def isNilOpd : Operand → Bool
  | .const .nilIface | .const (.pointer none) | .const .nilFunc | .const (.slice none 0 0) | .const (.map none) => true
  | _ => false

def cNil (k : NilK) (op : BinOp) (x y : Operand) : Option Bin :=
  if isNilOpd x || isNilOpd y then
    match op with
    | .eql => some (.nil k false)
    | .neq => some (.nil k true)
    | _ => none
  else none

def cBin (P : Program) (op : BinOp) (t : Nat) (x y : Operand) : Option Bin :=
  match P.underlying t with
  | some (.int _) => some (.plain op)
  | some .string => some (.plain op)
  | some .bool => match op with
    | .eql => some (.eq false .bool)
    | .neq => some (.eq true .bool)
    | _ => none
  | some (.struct _) => if P.eqGuardType P.depth t then none else
    match op with
    | .eql => (cEQ P 40 t).map (.eq false)
    | .neq => (cEQ P 40 t).map (.eq true)
    | _ => none
  | some (.interface _) => cNil .iface op x y
  | some (.pointer _) => cNil .ptr op x y
  | some (.func _ _ _) => cNil .fn op x y
  | some (.slice _) => cNil .slice op x y
  | some (.map _ _) => cNil .map op x y
  | _ => none

def isInt (P : Program) (t : Nat) : Bool := match P.underlying t with
  | some (.int _) => true
  | _ => false

/-- the element of a slice type: its cells, its bytes, its zero's cells -/
def P_elem (P : Program) (e : Nat) : Option (Nat × List AV) := match P.info? e with
  | some i => match i.zero with
    | some v => match cellsAV v with
      | some z => if 0 < i.size ∧ z.length = i.size ∧ i.bytes ≤ 4096 then some (i.size, z) else none
      | none => none
    | none => none
  | none => none

def cBuiltin (P : Program) (G : Globs) (b : Builtin) (tys : List Nat) (args : List Operand) : Option AOp :=
  match b, tys, args with
  | .len, [t], [x] => match P.underlying t with
    | some .string => (cOpd G x).map (.len true)
    | some (.slice _) => (cOpd G x).map (.len false)
    | some (.array n _) => some (.lenC n)
    | _ => none
  | .append, [t, u], [s, x] => match P.underlying t, P.underlying u with
    | some (.slice e), some d => match P_elem P e, cOpd G s, cOpd G x with
      | some (sz, z), some s, some x => match d with
        | .int _ => some (.appendZ e sz z s x)
        | .slice _ => some (.append e sz z s x)
        | .string => some (.append e sz z s x)
        | _ => none
      | _, _, _ => none
    | _, _ => none
  | .copy, [t, _], [d, s] => match P.underlying t with
    | some (.slice e) => match P_elem P e, cOpd G d, cOpd G s with
      | some (sz, _), some d, some s => some (.copy sz d s)
      | _, _, _ => none
    | _ => none
  | .clear, [t], [x] => match P.underlying t with
    | some (.slice e) => match P_elem P e, cOpd G x with
      | some (sz, z), some x => some (.clear z sz x)
      | _, _ => none
    | _ => none
  | .max, _, xs => (cOpds G xs).map (.minmax true)
  | .min, _, xs => (cOpds G xs).map (.minmax false)
  | .panic, _, [x] => (cOpd G x).map .panic
  | .recover, _, [] => some .recover
  | .unsafeSliceData, _, [x] => (cOpd G x).map .sliceData
  | .unsafeString, [t, _], [p, n] => match P.underlying t with
    | some (.pointer e) => if P.cellsOf e = 1 then match cOpd G p, cOpd G n with
      | some p, some n => some (.unsafeStr e p n)
      | _, _ => none else none
    | _ => none
  | _, _, _ => none

def cOp (P : Program) (G : Globs) : Op → Option AOp
  | .move x => (cOpd G x).map .mv
  | .assign x => (cOpd G x).map .mv
  | .pick c a b => match cOpd G c, cOpd G a, cOpd G b with
    | some c, some a, some b => some (.pick c a b)
    | _, _, _ => none
  | .alloc t => (P_zero P t).map (.alloc t)
  | .box t x => match P_size P t, cOpd G x with
    | some n, some x => some (.box n x)
    | _, _ => none
  | .build t parts => match P.underlying t, P_zero P t with
    | some (.struct fs), some z => match fieldPlaces P fs.toList with
      | some pl => (cParts P G (fun i => pl[i]?) parts.toList).map (.build z)
      | none => none
    | some (.array _ e), some z => match P_size P e with
      | some s => (cParts P G (fun i => some (i * s, s)) parts.toList).map (.build z)
      | none => none
    | _, _ => none
  | .buildSlice t len parts => match P.underlying t with
    | some (.slice e) => match P_elem P e with
      | some (s, z) => if len * s ≤ 16777216 then (cParts P G (fun i => some (i * s, s)) parts.toList).map (.buildSlice z len s) else none
      | none => none
    | _ => none
  | .load t x => match P_agg P t, P_size P t, cOpd G x with
    | some a, some n, some x => some (.load a n x)
    | _, _, _ => none
  | .store t x v => match P_size P t, cOpd G x, cOpd G v with
    | some n, some x, some v => some (.store n x v)
    | _, _, _ => none
  | .nilCheck x => (cOpd G x).map .nilCheck
  | .binOp op t x y _ => match cBin P op t x y, cOpd G x, cOpd G y with
    | some b, some x, some y => some (.bin b x y)
    | _, _, _ => none
  | .unOp u _ x => (cOpd G x).map (.un u)
  | .convert s d x => match P.underlying s, P.underlying d, cOpd G x with
    | some (.int _), some (.int k), some x => some (.convInt k x)
    | some (.int _), some .string, some x => some (.convRune x)
    | some .string, some .string, some x => some (.convStr x)
    | some .string, some (.slice e), some x => match P.underlying e, P_elem P e with
      | some (.int .u8), some (1, _) => some (.strBytes x)
      | _, _ => none
    | some (.slice e), some .string, some x => match P.underlying e with
      | some (.int .u8) => some (.bytesStr x)
      | _ => none
    | _, _, _ => none
  | .makeInterface t x => match P.underlying t with
    | some (.interface _) => none
    | some _ => (cOpd G x).map (.mkIface t)
    | none => none
  | .makeFunc (.func f) first caps => match cOpds G first.toList, cOpds G caps.toList with
    | some a, some b => some (.mkFunc f a b)
    | _, _ => none
  | .makeSlice t l c => match P.underlying t with
    | some (.slice e) => match P_elem P e, cOpd G l, cOpd G c with
      | some (s, z), some l, some c => some (.makeSlice z s l c)
      | _, _, _ => none
    | _ => none
  | .slice t x lo hi mx => match P.underlying t, mx with
    | some .string, none => match cOpd G x, cOpdO G lo, cOpdO G hi with
      | some x, some lo, some hi => some (.sliceStr x lo hi)
      | _, _, _ => none
    | some (.slice e), none => match P_size P e, cOpd G x, cOpdO G lo, cOpdO G hi with
      | some s, some x, some lo, some hi => some (.slice s x lo hi)
      | _, _, _, _ => none
    | some (.array n e), none => match P_size P e, cOpd G x, cOpdO G lo, cOpdO G hi with
      | some s, some x, some lo, some hi => some (.sliceArr n s x lo hi)
      | _, _, _, _ => none
    | some (.slice e), some m => match P_size P e, lo, hi with
      | some _, some lo, some hi => match cOpd G x, cOpd G lo, cOpd G hi, cOpd G m with
        | some x, some lo, some hi, some m => some (.slice0 x lo hi m)
        | _, _, _, _ => none
      | _, _, _ => none
    | _, _ => none
  | .fieldAddr t x f => match P.underlying t with
    | some (.struct fs) => match fs[f]? with
      | some fl => match P_size P fl.type, cOpd G x with
        | some s, some x => if s = 0 then none else some (.fieldAddr fl.offset x)
        | _, _ => none
      | none => none
    | _ => none
  | .field t x f => match P.underlying t with
    | some (.struct fs) => match fs[f]? with
      | some fl => match P_size P fl.type, P_agg P fl.type, cOpd G x with
        | some s, some a, some x => some (.field fl.offset a s x)
        | _, _, _ => none
      | none => none
    | _ => none
  | .indexAddr t x i => match P.underlying t with
    | some (.slice e) => match P_size P e, cOpd G x, cOpd G i with
      | some s, some x, some i => some (.idx s x i)
      | _, _, _ => none
    | some (.array n e) => match P_size P e, cOpd G x, cOpd G i with
      | some s, some x, some i => some (.idxArr n s x i)
      | _, _, _ => none
    | _ => none
  | .index t x i => match P.underlying t with
    | some .string => match cOpd G x, cOpd G i with
      | some x, some i => some (.atStr x i)
      | _, _ => none
    | some (.array n e) => match P_size P e, P_agg P e, cOpd G x, cOpd G i with
      | some s, some a, some x, some i => some (.atArr n s a x i)
      | _, _, _, _ => none
    | _ => none
  | .range t x => match P.underlying t with
    | some .string => (cOpd G x).map .rangeStr
    | _ => none
  | .next x true => (cOpd G x).map .nextStr
  | .typeAssert x _ t ok => match P.underlying t with
    | some (.interface _) => none
    | some _ => match P.info? t with
      | some i => match i.zero with
        | some z => match constAV z, cOpd G x with
          | some z, some x => some (.assert t z ok x)
          | _, _ => none
        | none => none
      | none => none
    | none => none
  | .extract x i => (cOpd G x).map (.extract i)
  | .panic x => (cOpd G x).map .panic
  | .call c => match c.callee with
    | .builtin b => cBuiltin P G b c.argTypes.toList c.args.toList
    | .value f => match cOpd G f, cOpds G c.args.toList with
      | some f, some args => some (.call f args)
      | _, _ => none
    | _ => none
  | .defer c => match c.callee with
    | .value f => match cOpd G f, cOpds G c.args.toList with
      | some f, some args => some (.defer f args)
      | _, _ => none
    | _ => none
  | _ => none

end Go.Ab
