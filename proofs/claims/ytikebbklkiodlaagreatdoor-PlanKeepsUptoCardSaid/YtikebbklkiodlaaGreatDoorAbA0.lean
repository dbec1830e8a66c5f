/- A0 -/
import Derived.Below
import Derived.Calls
import Derived.Recover
import Derived.Carry
set_option maxRecDepth 1000000
set_option linter.all false
namespace Go.Ab
inductive PV where
 | bool (b : Bool) | int (k : IntKind) (n : Int) | str (s : List UInt8)
 | nilptr | nilmap | nilfn | nilif | undef
 | iface (t : Nat) (v : PV)
 | fn (f : Nat)
 | agg (cs : List PV) | tup (vs : List PV)
 | vsl (cells : List PV) (len : Nat)
 | vptr (cells : List PV)
 | isym (t : Nat) (k : IntKind)
 | ssym (t : Nat)
 deriving Inhabited
inductive AV where
 | p (v : PV)
 | dead
 | nil0
 | e0
 | ptr (id ver off : Nat)
 | yld (id : Nat)
 | sl (id ver off len esz : Nat)
 | clo (f : Nat) (first caps : List AV)
 | iface (t : Nat) (v : AV)
 | agg (cs : List AV) | tup (vs : List AV)
 deriving Inhabited
inductive Opd where
 | t (n : Nat)
 | c (v : AV)
 deriving Inhabited
inductive EQ where
 | bool | int | str
 | struct (fs : List (Nat × Bool × Nat × EQ))
 deriving Inhabited
inductive NilK where
 | iface | ptr | fn | slice | map
 deriving Inhabited
inductive Bin where
 | plain (op : BinOp)
 | eq (neg : Bool) (e : EQ)
 | nil (k : NilK) (neg : Bool)
 deriving Inhabited
inductive AOp where
 | mv (x : Opd)
 | pick (c a b : Opd)
 | build (zero : List AV) (parts : List (Nat × Nat × Opd))
 | nilCheck (x : Opd)
 | bin (b : Bin) (x y : Opd)
 | un (u : UnOp) (x : Opd)
 | convInt (k : IntKind) (x : Opd)
 | convStr (x : Opd)
 | convRune (x : Opd)
 | mkIface (t : Nat) (x : Opd)
 | mkFunc (f : Nat) (first caps : List Opd)
 | fieldAddr (off : Nat) (x : Opd)
 | field (off : Nat) (agg : Bool) (n : Nat) (x : Opd)
 | idx (esz : Nat) (x i : Opd)
 | idxArr (n esz : Nat) (x i : Opd)
 | atStr (x i : Opd)
 | atArr (len esz : Nat) (agg : Bool) (x i : Opd)
 | sliceStr (x : Opd) (lo hi : Option Opd)
 | slice (esz : Nat) (x : Opd) (lo hi : Option Opd)
 | slice0 (x lo hi mx : Opd)
 | assert (t : Nat) (zero : AV) (ok : Bool) (x : Opd)
 | extract (i : Nat) (x : Opd)
 | len (str : Bool) (x : Opd)
 | lenC (n : Nat)
 | minmax (isMax : Bool) (xs : List Opd)
 | alloc (ty : Nat) (zero : List AV)
 | box (n : Nat) (x : Opd)
 | buildSlice (zero : List AV) (len esz : Nat) (parts : List (Nat × Nat × Opd))
 | buildVals (zero : List AV) (len esz : Nat) (parts : List (Nat × Nat × Opd))
 | strBytes (x : Opd)
 | makeSlice (zero : List AV) (esz : Nat) (l c : Opd)
 | rangeStr (x : Opd)
 | sliceArr (n esz : Nat) (x : Opd) (lo hi : Option Opd)
 | load (agg : Bool) (n : Nat) (x : Opd)
 | bytesStr (x : Opd)
 | sliceData (x : Opd)
 | store (n : Nat) (x v : Opd)
 | append (ety esz : Nat) (zero : List AV) (s x : Opd)
 | appendZ (ety esz : Nat) (zero : List AV) (s n : Opd)
 | copy (esz : Nat) (d s : Opd)
 | clear (zero : List AV) (esz : Nat) (x : Opd)
 | nextStr (x : Opd)
 | unsafeStr (ety : Nat) (p n : Opd)
 | call (f : Opd) (args : List Opd)
 | defer (f : Opd) (args : List Opd)
 | panic (x : Opd)
 | recover
 deriving Inhabited
structure AOper where
 dst : Option Nat
 op : AOp
 guard : Option (Nat × Bool)
 deriving Inhabited
abbrev Mk (a b : Nat) : AOper := ⟨some a, .mv (.t b), none⟩
abbrev Ml (a : Nat) (b : AOp) : AOper := ⟨some a, b, none⟩
abbrev Mm (a : Int) : Opd := .c (.p (.int .i64 a))
abbrev Mn (a b : Nat) : AOper := ⟨some a, .load false 1 (.t b), none⟩
abbrev Mo (a b c : Nat) : AOper := ⟨some a, .fieldAddr b (.t c), none⟩
inductive Q0 where
 | skip
 | bad
 | region (ops : List AOper)
 | draw (n : Nat) (anc : List Nat) (ops : List AOper)
 | vals (ops : List AOper)
 | seq (a b : Q0)
 | cond (c : Opd) (thn els : Q0)
 | block (id : Nat) (body : Q0)
 | loop (live : Option (List Nat)) (body : Q0)
 | rng (ps : List Nat) (assign body : Q0) (g : Opd) (ts : List Nat)
 | exit (id : Nat)
 | ret
 deriving Inhabited
end Go.Ab
