/- The words of the abstract interpreter. -/
import Derived.Below
import Derived.Calls
import Derived.Recover
import Derived.Carry
set_option linter.unusedSectionVars false
set_option linter.unusedSimpArgs false
set_option linter.unusedVariables false

namespace Go.Ab

/-- pure values: slices and pointers into settled memory are what lies there -/
inductive PV where
  | bool (b : Bool) | int (k : IntKind) (n : Int) | str (s : List UInt8)
  | nilptr | nilmap | nilfn | nilif | undef
  | iface (t : Nat) (v : PV)
  | fn (f : Nat)
  | agg (cs : List PV) | tup (vs : List PV)
  | vsl (cells : List PV) (len : Nat)
  | vptr (cells : List PV)
  /-- a number or a text that has a mark: what it is stands in the marks' table -/
  | isym (t : Nat) (k : IntKind)
  | ssym (t : Nat)
  deriving Inhabited

/-- values: pure ones, and those that refer to the abstract heap -/
inductive AV where
  | p (v : PV)
  | dead
  | nil0
  | e0
  | ptr (id ver off : Nat)
  /-- what a loop over a function hands it: a call is a round -/
  | yld (id : Nat)
  | sl (id ver off len esz : Nat)
  | clo (f : Nat) (first caps : List AV)
  | iface (t : Nat) (v : AV)
  | agg (cs : List AV) | tup (vs : List AV)
  deriving Inhabited

inductive Opd where
  | t (n : Nat)
  | c (v : AV)
  deriving Inhabited
/-- how '==' goes -/
inductive EQ where
  | bool | int | str
  | struct (fs : List (Nat × Bool × Nat × EQ))
  deriving Inhabited

/-- '==' with nil -/
inductive NilK where
  | iface | ptr | fn | slice | map
  deriving Inhabited
inductive Bin where
  | plain (op : BinOp)
  | eq (neg : Bool) (e : EQ)
  | nil (k : NilK) (neg : Bool)
  deriving Inhabited
inductive AOp where
  -- these ask for no memory
  | mv (x : Opd)
  | pick (c a b : Opd)
  | build (zero : List AV) (parts : List (Nat × Nat × Opd))
  | nilCheck (x : Opd)
  | bin (b : Bin) (x y : Opd)
  | un (u : UnOp) (x : Opd)
  | convInt (k : IntKind) (x : Opd)
  | convStr (x : Opd)
  | convRune (x : Opd)
  | mkIface (t : Nat) (x : Opd)
  | mkFunc (f : Nat) (first caps : List Opd)
  | fieldAddr (off : Nat) (x : Opd)
  | field (off : Nat) (agg : Bool) (n : Nat) (x : Opd)
  | idx (esz : Nat) (x i : Opd)
  | idxArr (n esz : Nat) (x i : Opd)
  | atStr (x i : Opd)
  | atArr (len esz : Nat) (agg : Bool) (x i : Opd)
  | sliceStr (x : Opd) (lo hi : Option Opd)
  | slice (esz : Nat) (x : Opd) (lo hi : Option Opd)
  | slice0 (x lo hi mx : Opd)
  | assert (t : Nat) (zero : AV) (ok : Bool) (x : Opd)
  | extract (i : Nat) (x : Opd)
  | len (str : Bool) (x : Opd)
  | lenC (n : Nat)
  | minmax (isMax : Bool) (xs : List Opd)
  -- these make an object
  | alloc (ty : Nat) (zero : List AV)
  | box (n : Nat) (x : Opd)
  | buildSlice (zero : List AV) (len esz : Nat) (parts : List (Nat × Nat × Opd))
  | buildVals (zero : List AV) (len esz : Nat) (parts : List (Nat × Nat × Opd))
  | strBytes (x : Opd)
  | makeSlice (zero : List AV) (esz : Nat) (l c : Opd)
  | rangeStr (x : Opd)
  -- these read
  | sliceArr (n esz : Nat) (x : Opd) (lo hi : Option Opd)
  | load (agg : Bool) (n : Nat) (x : Opd)
  | bytesStr (x : Opd)
  | sliceData (x : Opd)
  -- these write
  | store (n : Nat) (x v : Opd)
  | append (ety esz : Nat) (zero : List AV) (s x : Opd)
  | appendZ (ety esz : Nat) (zero : List AV) (s n : Opd)
  | copy (esz : Nat) (d s : Opd)
  | clear (zero : List AV) (esz : Nat) (x : Opd)
  | nextStr (x : Opd)
  | unsafeStr (ety : Nat) (p n : Opd)
  | call (f : Opd) (args : List Opd)
  | defer (f : Opd) (args : List Opd)
  | panic (x : Opd)
  | recover
  deriving Inhabited

structure AOper where
  dst : Option Nat
  op : AOp
  guard : Option (Nat × Bool)
  deriving Inhabited

inductive ACode where
  | skip
  | bad
  | region (ops : List AOper)
  | draw (n : Nat) (anc : List Nat) (ops : List AOper)
  /-- operations in a row, slices made as ones that nobody writes -/
  | vals (ops : List AOper)
  | seq (a b : ACode)
  | cond (c : Opd) (thn els : ACode)
  | block (id : Nat) (body : ACode)
  | loop (live : Option (List Nat)) (body : ACode)
  /-- a loop over a function: the parameters, how they are assigned, a round, the function; which temporaries the rounds read -/
  | rng (ps : List Nat) (assign body : ACode) (g : Opd) (ts : List Nat)
  | exit (id : Nat)
  | ret
  deriving Inhabited

end Go.Ab
