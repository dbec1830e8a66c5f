/- The words of the abstract interpreter. -/
import Derived.Below
import Derived.Calls
import Derived.Recover
import Derived.Carry
set_option linter.unusedSectionVars false
set_option linter.unusedSimpArgs false
set_option linter.unusedVariables false

namespace Go.Ab

/-- pure values: slices and pointers into settled memory are what lies there -/
inductive PV where
  | bool (b : Bool) | int (k : IntKind) (n : Int) | str (s : List UInt8)
  | nilptr | nilmap | nilfn | nilif | undef
  | iface (t : Nat) (v : PV)
  | fn (f : Nat)
  | agg (cs : List PV) | tup (vs : List PV)
  | vsl (cells : List PV) (len : Nat)
  | vptr (cells : List PV)
  /-- a number or a text that has a mark: what it is stands in the marks' table -/
  | isym (t : Nat) (k : IntKind)
  | ssym (t : Nat)
  deriving Inhabited

/-- values: pure ones, and those that refer to the abstract heap -/
inductive AV where
  | p (v : PV)
  | dead
  | nil0
  | e0
  | ptr (id ver off : Nat)
  /-- what a loop over a function hands it: a call is a round -/
  | yld (id : Nat)
  | sl (id ver off len esz : Nat)
  | clo (f : Nat) (first caps : List AV)
  | iface (t : Nat) (v : AV)
  | agg (cs : List AV) | tup (vs : List AV)
  deriving Inhabited

inductive Opd where
  | t (n : Nat)
  | c (v : AV)
  deriving Inhabited
/-- how '==' goes -/
inductive EQ where
  | bool | int | str
  | struct (fs : List (Nat × Bool × Nat × EQ))
  deriving Inhabited

/-- '==' with nil -/
inductive NilK where
  | iface | ptr | fn | slice | map
  deriving Inhabited
inductive Bin where
  | plain (op : BinOp)
  | eq (neg : Bool) (e : EQ)
  | nil (k : NilK) (neg : Bool)
  deriving Inhabited
inductive AOp where
  -- these ask for no memory
  | mv (x : Opd)
  | pick (c a b : Opd)
  | build (zero : List AV) (parts : List (Nat × Nat × Opd))
  | nilCheck (x : Opd)
  | bin (b : Bin) (x y : Opd)
  | un (u : UnOp) (x : Opd)
  | convInt (k : IntKind) (x : Opd)
  | convStr (x : Opd)
  | convRune (x : Opd)
  | mkIface (t : Nat) (x : Opd)
  | mkFunc (f : Nat) (first caps : List Opd)
  | fieldAddr (off : Nat) (x : Opd)
  | field (off : Nat) (agg : Bool) (n : Nat) (x : Opd)
  | idx (esz : Nat) (x i : Opd)
  | idxArr (n esz : Nat) (x i : Opd)
  | atStr (x i : Opd)
  | atArr (len esz : Nat) (agg : Bool) (x i : Opd)
  | sliceStr (x : Opd) (lo hi : Option Opd)
  | slice (esz : Nat) (x : Opd) (lo hi : Option Opd)
  | slice0 (x lo hi mx : Opd)
  | assert (t : Nat) (zero : AV) (ok : Bool) (x : Opd)
  | extract (i : Nat) (x : Opd)
  | len (str : Bool) (x : Opd)
  | lenC (n : Nat)
  | minmax (isMax : Bool) (xs : List Opd)
  -- these make an object
  | alloc (ty : Nat) (zero : List AV)
  | box (n : Nat) (x : Opd)
  | buildSlice (zero : List AV) (len esz : Nat) (parts : List (Nat × Nat × Opd))
  | buildVals (zero : List AV) (len esz : Nat) (parts : List (Nat × Nat × Opd))
  | strBytes (x : Opd)
  | makeSlice (zero : List AV) (esz : Nat) (l c : Opd)
  | rangeStr (x : Opd)
  -- these read
  | sliceArr (n esz : Nat) (x : Opd) (lo hi : Option Opd)
  | load (agg : Bool) (n : Nat) (x : Opd)
  | bytesStr (x : Opd)
  | sliceData (x : Opd)
  -- these write
  | store (n : Nat) (x v : Opd)
  | append (ety esz : Nat) (zero : List AV) (s x : Opd)
  | appendZ (ety esz : Nat) (zero : List AV) (s n : Opd)
  | copy (esz : Nat) (d s : Opd)
  | clear (zero : List AV) (esz : Nat) (x : Opd)
  | nextStr (x : Opd)
  | unsafeStr (ety : Nat) (p n : Opd)
  | call (f : Opd) (args : List Opd)
  | defer (f : Opd) (args : List Opd)
  | panic (x : Opd)
  | recover
  deriving Inhabited

structure AOper where
  dst : Option Nat
  op : AOp
  guard : Option (Nat × Bool)
  deriving Inhabited

inductive ACode where
  | skip
  | bad
  | region (ops : List AOper)
  | draw (n : Nat) (anc : List Nat) (ops : List AOper)
  /-- operations in a row, slices made as ones that nobody writes -/
  | vals (ops : List AOper)
  | seq (a b : ACode)
  | cond (c : Opd) (thn els : ACode)
  | block (id : Nat) (body : ACode)
  | loop (live : Option (List Nat)) (body : ACode)
  /-- a loop over a function: the parameters, how they are assigned, a round, the function; which temporaries the rounds read -/
  | rng (ps : List Nat) (assign body : ACode) (g : Opd) (ts : List Nat)
  | exit (id : Nat)
  | ret
  deriving Inhabited

end Go.Ab

/- Values of the abstract interpreter, and what they stand for in the model's memory. -/

namespace Go.Ab

/-- the value of one cell -/
def one : Value → Bool
  | .agg _ | .tuple _ => false
  | _ => true

/-- marks: what they stand for, and how numbers with marks stand -/
class Marks where
  int : Nat → IntKind → Option Int
  str : Nat → Option (List UInt8)
  cmp : Nat → Nat → Option Ordering
  ok : ∀ i j k n m c, int i k = some n → int j k = some m → cmp i j = some c → c = compare n m
  /-- how a number with a mark stands to one that is written; the rounds of loops over functions: parameters, how they are assigned, body; and what these are in the model, with the number of temporaries -/
  lit : Nat → Int → Option Ordering := fun _ _ => none
  litOk : ∀ i k n c o, int i k = some n → lit i c = some o → o = compare n c := by
    intro _ _ _ _ _ _ h
    cases h
  rnd : List Nat × ACode × ACode → Array Nat → Code → Code → Nat → Prop := fun _ _ _ _ _ => False
  /-- functions whose calls stay in the caller's own heap -/
  raw : Nat → Bool := fun _ => false
/-- no marks -/
instance noMarks : Marks where
  int := fun _ _ => none
  str := fun _ => none
  cmp := fun _ _ => none
  ok := fun _ _ _ _ _ _ h => by cases h

inductive Cells where
  | pv (l : List PV)
  | av (l : List AV)
  deriving Inhabited

def Cells.len : Cells → Nat
  | .pv l => l.length
  | .av l => l.length
def Cells.get? : Cells → Nat → Option AV
  | .pv l, i => (l[i]?).map .p
  | .av l, i => l[i]?
def Cells.toList : Cells → List AV
  | .pv l => l.map .p
  | .av l => l

/-- how a round left its loop -/
inductive Jmp where
  | exit (id : Nat)
  | ret
  deriving Inhabited
inductive LSt where
  | ready
  | busy
  | done (j : Jmp)
  | over
  deriving Inhabited
def Jmp.code : Jmp → Code
  | .exit id => .exit id
  | .ret => .ret
def LSt.is : LSt → LoopState → Option Code → Prop
  | .ready, s, p => s = .ready ∧ p = none
  | .busy, s, p => s = .busy ∧ p = none
  | .done j, s, p => s = .done ∧ p = some j.code
  | .over, s, _ => s = .exhausted

inductive Obj where
  | arr (c : Cells) (ver wm : Nat) (ty : Option Nat)
  | iter (s : List UInt8) (pos : Nat)
  /-- a loop over a function: its rounds, the temporaries that are known where it began -/
  | loop (k : List Nat × ACode × ACode) (ts : List Nat) (c : Cells) (st : LSt)
  /-- a block of the rounds' deferred calls: there are none -/
  | mark
  | none
  deriving Inhabited

def Obj.ver : Obj → Nat
  | .arr _ v _ _ => v
  | _ => 0

abbrev Heap := List Obj

variable [Marks]
section
variable (S : Nat → Nat → Prop) (w : World)
mutual
inductive RepP : PV → Value → Prop
  | bool (b : Bool) : RepP (.bool b) (.bool b)
  | int (k : IntKind) (n : Int) : RepP (.int k n) (.int k n)
  | str {l : List UInt8} {s : ByteArray} (h : s.data.toList = l) : RepP (.str l) (.string s)
  | nilptr : RepP .nilptr (.pointer none)
  | nilmap : RepP .nilmap (.map none)
  | nilfn : RepP .nilfn .nilFunc
  | nilif : RepP .nilif .nilIface
  | undef : RepP .undef (.tuple #[])
  | iface {t : Nat} {v : PV} {cv : Value} (h : RepP v cv) : RepP (.iface t v) (.iface t cv)
  | fn (f : Nat) : RepP (.fn f) (.func (.func f) #[] #[])
  | agg {cs : List PV} {cvs : Array Value} (h : RepPL cs cvs.toList) (h1 : ∀ c ∈ cvs.toList, one c = true) : RepP (.agg cs) (.agg cvs)
  | tup {cs : List PV} {cvs : Array Value} (h : RepPL cs cvs.toList) : RepP (.tup cs) (.tuple cvs)
  | vsl0 (cap : Nat) (a : Option Addr) : RepP (.vsl [] 0) (.slice a 0 cap)
  | vsl {cells : List PV} {n cap b o : Nat} (h : n ≤ cap) (hc : RepCells cells b o) : RepP (.vsl cells n) (.slice (some ⟨b, o, none⟩) n cap)
  | vptr {cells : List PV} {b o : Nat} (hc : RepCells cells b o) : RepP (.vptr cells) (.pointer (some ⟨b, o, none⟩))
  | isym {t : Nat} {k : IntKind} {n : Int} (h : Marks.int t k = some n) : RepP (.isym t k) (.int k n)
  | ssym {t : Nat} {l : List UInt8} {s : ByteArray} (h : Marks.str t = some l) (hs : s.data.toList = l) : RepP (.ssym t) (.string s)
inductive RepPL : List PV → List Value → Prop
  | nil : RepPL [] []
  | cons {v : PV} {vs : List PV} {c : Value} {cs : List Value} (h : RepP v c) (hs : RepPL vs cs) : RepPL (v :: vs) (c :: cs)
inductive RepCells : List PV → Nat → Nat → Prop
  | nil (b o : Nat) : RepCells [] b o
  | cons {v : PV} {vs : List PV} {c : Value} {b o : Nat} (hS : S b o) (hc : w.cell? ⟨b, o, none⟩ = some c) (h1 : one c = true) (h : RepP v c) (hs : RepCells vs b (o + 1)) : RepCells (v :: vs) b o
end

variable (μ : Nat → Nat → Option (Nat × Nat))
mutual
inductive Rep : AV → Value → Prop
  | p {v : PV} {cv : Value} (h : RepP S w v cv) : Rep (.p v) cv
  | dead (cv : Value) : Rep .dead cv
  | nil0 : Rep .nil0 (.slice none 0 0)
  | e0 (a : Option Addr) : Rep .e0 (.slice a 0 0)
  | ptr {id ver off b n : Nat} (h : μ id ver = some (b, n)) : Rep (.ptr id ver off) (.pointer (some ⟨b, off, none⟩))
  | yld {id b n : Nat} (h : μ id 0 = some (b, n)) : Rep (.yld id) (.func (.yield b) #[] #[])
  | sl {id ver off len esz b n cap : Nat} (h : μ id ver = some (b, n)) (hl : len ≤ cap) (hc : off + cap * esz ≤ n) : Rep (.sl id ver off len esz) (.slice (some ⟨b, off, none⟩) len cap)
  | clo {f : Nat} {first caps : List AV} {cf cc : Array Value} (hf : RepL first cf.toList) (hc : RepL caps cc.toList) : Rep (.clo f first caps) (.func (.func f) cf cc)
  | iface {t : Nat} {v : AV} {cv : Value} (h : Rep v cv) : Rep (.iface t v) (.iface t cv)
  | agg {cs : List AV} {cvs : Array Value} (h : RepL cs cvs.toList) (h1 : ∀ c ∈ cvs.toList, one c = true) : Rep (.agg cs) (.agg cvs)
  | tup {cs : List AV} {cvs : Array Value} (h : RepL cs cvs.toList) : Rep (.tup cs) (.tuple cvs)
inductive RepL : List AV → List Value → Prop
  | nil : RepL [] []
  | cons {v : AV} {vs : List AV} {c : Value} {cs : List Value} (h : Rep v c) (hs : RepL vs cs) : RepL (v :: vs) (c :: cs)
end
end

variable {S S' : Nat → Nat → Prop} {w w' : World} {μ μ' : Nat → Nat → Option (Nat × Nat)}

theorem RepPL.length {l : List PV} {cs : List Value} (h : RepPL S w l cs) : l.length = cs.length := by
  induction l generalizing cs with
  | nil => cases h; rfl
  | cons v vs ih => cases h with | cons h hs => simp [ih hs]
theorem RepPL.get {l : List PV} {cs : List Value} (h : RepPL S w l cs) {i : Nat} {v : PV} (hi : l[i]? = some v) : ∃ c, cs[i]? = some c ∧ RepP S w v c := by
  induction l generalizing cs i with
  | nil => simp at hi
  | cons x xs ih =>
    cases h with
    | cons h hs =>
      cases i with
      | zero => simp at hi; subst hi; exact ⟨_, rfl, h⟩
      | succ i => simp at hi; simpa using ih hs hi
theorem RepPL.of_get {l : List PV} {cs : List Value} (hl : l.length = cs.length) (h : ∀ (i : Nat) v c, l[i]? = some v → cs[i]? = some c → RepP S w v c) : RepPL S w l cs := by
  induction l generalizing cs with
  | nil => cases cs with | nil => exact .nil | cons => simp at hl
  | cons x xs ih =>
    cases cs with
    | nil => simp at hl
    | cons c cs => exact .cons (h 0 x c rfl rfl) (ih (by simpa using hl) fun i v c hv hc => h (i + 1) v c (by simpa using hv) (by simpa using hc))
theorem RepPL.drop {l : List PV} {cs : List Value} (h : RepPL S w l cs) (n : Nat) : RepPL S w (l.drop n) (cs.drop n) := by
  induction n generalizing l cs with
  | zero => simpa using h
  | succ n ih => cases h with
    | nil => simpa using RepPL.nil
    | cons h hs => simpa using ih hs
theorem RepPL.take {l : List PV} {cs : List Value} (h : RepPL S w l cs) (n : Nat) : RepPL S w (l.take n) (cs.take n) := by
  induction n generalizing l cs with
  | zero => simpa using RepPL.nil
  | succ n ih => cases h with
    | nil => simpa using RepPL.nil
    | cons h hs => simpa using RepPL.cons h (ih hs)
theorem RepPL.append {l l' : List PV} {cs cs' : List Value} (h : RepPL S w l cs) (h' : RepPL S w l' cs') : RepPL S w (l ++ l') (cs ++ cs') := by
  induction l generalizing cs with
  | nil => cases h; simpa using h'
  | cons v vs ih => cases h with | cons h hs => exact .cons h (ih hs)

theorem RepL.length {l : List AV} {cs : List Value} (h : RepL S w μ l cs) : l.length = cs.length := by
  induction l generalizing cs with
  | nil => cases h; rfl
  | cons v vs ih => cases h with | cons h hs => simp [ih hs]
theorem RepL.get {l : List AV} {cs : List Value} (h : RepL S w μ l cs) {i : Nat} {v : AV} (hi : l[i]? = some v) : ∃ c, cs[i]? = some c ∧ Rep S w μ v c := by
  induction l generalizing cs i with
  | nil => simp at hi
  | cons x xs ih =>
    cases h with
    | cons h hs =>
      cases i with
      | zero => simp at hi; subst hi; exact ⟨_, rfl, h⟩
      | succ i => simp at hi; simpa using ih hs hi
theorem RepL.of_get {l : List AV} {cs : List Value} (hl : l.length = cs.length) (h : ∀ (i : Nat) v c, l[i]? = some v → cs[i]? = some c → Rep S w μ v c) : RepL S w μ l cs := by
  induction l generalizing cs with
  | nil => cases cs with | nil => exact .nil | cons => simp at hl
  | cons x xs ih =>
    cases cs with
    | nil => simp at hl
    | cons c cs => exact .cons (h 0 x c rfl rfl) (ih (by simpa using hl) fun i v c hv hc => h (i + 1) v c (by simpa using hv) (by simpa using hc))
theorem RepL.append {l l' : List AV} {cs cs' : List Value} (h : RepL S w μ l cs) (h' : RepL S w μ l' cs') : RepL S w μ (l ++ l') (cs ++ cs') := by
  induction l generalizing cs with
  | nil => cases h; simpa using h'
  | cons v vs ih => cases h with | cons h hs => exact .cons h (ih hs)
theorem RepL.drop {l : List AV} {cs : List Value} (h : RepL S w μ l cs) (n : Nat) : RepL S w μ (l.drop n) (cs.drop n) := by
  induction n generalizing l cs with
  | zero => simpa using h
  | succ n ih => cases h with
    | nil => simpa using RepL.nil
    | cons h hs => simpa using ih hs
theorem RepL.take {l : List AV} {cs : List Value} (h : RepL S w μ l cs) (n : Nat) : RepL S w μ (l.take n) (cs.take n) := by
  induction n generalizing l cs with
  | zero => simpa using RepL.nil
  | succ n ih => cases h with
    | nil => simpa using RepL.nil
    | cons h hs => simpa using RepL.cons h (ih hs)
theorem RepL.of_pv {l : List PV} {cs : List Value} (h : RepPL S w l cs) : RepL S w μ (l.map .p) cs := by
  induction l generalizing cs with
  | nil => cases h; exact .nil
  | cons v vs ih => cases h with | cons h hs => exact .cons (.p h) (ih hs)
theorem RepL.to_pv {l : List PV} {cs : List Value} (h : RepL S w μ (l.map .p) cs) : RepPL S w l cs := by
  induction l generalizing cs with
  | nil => cases h; exact .nil
  | cons v vs ih =>
    cases h with
    | cons h hs => cases h with | p h => exact .cons h (ih hs)

theorem RepCells.get {l : List PV} {b o : Nat} (h : RepCells S w l b o) {i : Nat} {v : PV} (hi : l[i]? = some v) :
    S b (o + i) ∧ ∃ c, w.cell? ⟨b, o + i, none⟩ = some c ∧ one c = true ∧ RepP S w v c := by
  induction l generalizing o i with
  | nil => simp at hi
  | cons x xs ih =>
    cases h with
    | cons hS hc h1 h hs =>
      cases i with
      | zero => simp at hi; subst hi; exact ⟨by simpa using hS, _, by simpa using hc, h1, h⟩
      | succ i => simp at hi; have := ih hs hi; rwa [show o + 1 + i = o + (i + 1) from by omega] at this
theorem RepCells.of_get {l : List PV} {b o : Nat} (h : ∀ (i : Nat) v, l[i]? = some v → S b (o + i) ∧ ∃ c, w.cell? ⟨b, o + i, none⟩ = some c ∧ one c = true ∧ RepP S w v c) : RepCells S w l b o := by
  induction l generalizing o with
  | nil => exact .nil _ _
  | cons x xs ih =>
    obtain ⟨hS, c, hc, h1, hr⟩ := h 0 x rfl
    refine .cons (by simpa using hS) (by simpa using hc) h1 hr (ih fun i v hi => ?_)
    have := h (i + 1) v (by simpa using hi)
    rwa [show o + (i + 1) = o + 1 + i from by omega] at this
theorem RepCells.drop {l : List PV} {b o : Nat} (h : RepCells S w l b o) (n : Nat) : RepCells S w (l.drop n) b (o + n) := by
  refine .of_get fun i v hi => ?_
  rw [List.getElem?_drop] at hi
  have := h.get hi
  rwa [show o + (n + i) = o + n + i from by omega] at this
theorem RepCells.take {l : List PV} {b o : Nat} (h : RepCells S w l b o) (n : Nat) : RepCells S w (l.take n) b o := by
  refine .of_get fun i v hi => ?_
  rw [List.getElem?_take] at hi
  split at hi
  · exact h.get hi
  · simp at hi

theorem Rep.pv {v : PV} {c : Value} (h : Rep S w μ (.p v) c) : RepP S w v c := by cases h; assumption
theorem RepP.int_inv {k : IntKind} {n : Int} {c : Value} (h : RepP S w (.int k n) c) : c = .int k n := by cases h; rfl
theorem Rep.int {k : IntKind} {n : Int} {c : Value} (h : Rep S w μ (.p (.int k n)) c) : c = .int k n := h.pv.int_inv
theorem Rep.bool {b : Bool} {c : Value} (h : Rep S w μ (.p (.bool b)) c) : c = .bool b := by cases h.pv; rfl
theorem Rep.str {l : List UInt8} {c : Value} (h : Rep S w μ (.p (.str l)) c) : ∃ s : ByteArray, c = .string s ∧ s.data.toList = l := by
  cases h.pv; exact ⟨_, rfl, by assumption⟩
theorem Rep.aggP {l : List PV} {c : Value} (h : Rep S w μ (.p (.agg l)) c) : ∃ cs, c = .agg cs ∧ RepPL S w l cs.toList ∧ ∀ x ∈ cs.toList, one x = true := by
  cases h.pv; exact ⟨_, rfl, by assumption, by assumption⟩
theorem Rep.aggA {l : List AV} {c : Value} (h : Rep S w μ (.agg l) c) : ∃ cs, c = .agg cs ∧ RepL S w μ l cs.toList ∧ ∀ x ∈ cs.toList, one x = true := by
  cases h; exact ⟨_, rfl, by assumption, by assumption⟩
theorem Rep.tupP {l : List PV} {c : Value} (h : Rep S w μ (.p (.tup l)) c) : ∃ cs, c = .tuple cs ∧ RepPL S w l cs.toList := by
  cases h.pv; exact ⟨_, rfl, by assumption⟩
theorem Rep.tupA {l : List AV} {c : Value} (h : Rep S w μ (.tup l) c) : ∃ cs, c = .tuple cs ∧ RepL S w μ l cs.toList := by
  cases h; exact ⟨_, rfl, by assumption⟩
theorem Rep.vslP {cells : List PV} {n : Nat} {c : Value} (h : Rep S w μ (.p (.vsl cells n)) c) :
    ∃ a cap, c = .slice a n cap ∧ n ≤ cap ∧ ((cells = [] ∧ n = 0) ∨ ∃ b o, a = some ⟨b, o, none⟩ ∧ RepCells S w cells b o) := by
  cases h.pv with
  | vsl0 cap a => exact ⟨_, _, rfl, Nat.zero_le _, .inl ⟨rfl, rfl⟩⟩
  | vsl h1 hc => exact ⟨_, _, rfl, h1, .inr ⟨_, _, rfl, hc⟩⟩
theorem Rep.vptrP {cells : List PV} {c : Value} (h : Rep S w μ (.p (.vptr cells)) c) : ∃ b o, c = .pointer (some ⟨b, o, none⟩) ∧ RepCells S w cells b o := by
  cases h.pv; exact ⟨_, _, rfl, by assumption⟩
theorem Rep.ptrA {id ver off : Nat} {c : Value} (h : Rep S w μ (.ptr id ver off) c) : ∃ b n, μ id ver = some (b, n) ∧ c = .pointer (some ⟨b, off, none⟩) := by
  cases h; exact ⟨_, _, by assumption, rfl⟩
theorem Rep.nilptr_inv {c : Value} (h : Rep S w μ (.p .nilptr) c) : c = .pointer none := by cases h.pv; rfl
theorem Rep.nil0_inv {c : Value} (h : Rep S w μ .nil0 c) : c = .slice none 0 0 := by cases h; rfl
theorem Rep.slA {id ver off len esz : Nat} {c : Value} (h : Rep S w μ (.sl id ver off len esz) c) :
    ∃ b n cap, μ id ver = some (b, n) ∧ len ≤ cap ∧ off + cap * esz ≤ n ∧ c = .slice (some ⟨b, off, none⟩) len cap := by
  cases h; exact ⟨_, _, _, by assumption, by assumption, by assumption, rfl⟩

/- settled memory stays, and so does what is read of it -/
mutual
theorem RepP.mono (hS : ∀ b o, S b o → S' b o ∧ w'.cell? ⟨b, o, none⟩ = w.cell? ⟨b, o, none⟩) : ∀ {v : PV} {c : Value}, RepP S w v c → RepP S' w' v c
  | _, _, .bool b => .bool b
  | _, _, .int k n => .int k n
  | _, _, .str h => .str h
  | _, _, .nilptr => .nilptr
  | _, _, .nilmap => .nilmap
  | _, _, .nilfn => .nilfn
  | _, _, .nilif => .nilif
  | _, _, .undef => .undef
  | _, _, .iface h => .iface (RepP.mono hS h)
  | _, _, .fn f => .fn f
  | _, _, .agg h h1 => .agg (RepPL.mono hS h) h1
  | _, _, .tup h => .tup (RepPL.mono hS h)
  | _, _, .vsl0 n a => .vsl0 n a
  | _, _, .vsl h hc => .vsl h (RepCells.mono hS hc)
  | _, _, .vptr hc => .vptr (RepCells.mono hS hc)
  | _, _, .isym h => .isym h
  | _, _, .ssym h hs => .ssym h hs
theorem RepPL.mono (hS : ∀ b o, S b o → S' b o ∧ w'.cell? ⟨b, o, none⟩ = w.cell? ⟨b, o, none⟩) : ∀ {v : List PV} {c : List Value}, RepPL S w v c → RepPL S' w' v c
  | _, _, .nil => .nil
  | _, _, .cons h hs => .cons (RepP.mono hS h) (RepPL.mono hS hs)
theorem RepCells.mono (hS : ∀ b o, S b o → S' b o ∧ w'.cell? ⟨b, o, none⟩ = w.cell? ⟨b, o, none⟩) : ∀ {v : List PV} {b o : Nat}, RepCells S w v b o → RepCells S' w' v b o
  | _, _, _, .nil b o => .nil b o
  | _, _, _, .cons h1 h2 h3 h hs => .cons (hS _ _ h1).1 ((hS _ _ h1).2.trans h2) h3 (RepP.mono hS h) (RepCells.mono hS hs)
end

mutual
theorem Rep.mono (hS : ∀ b o, S b o → S' b o ∧ w'.cell? ⟨b, o, none⟩ = w.cell? ⟨b, o, none⟩) (hμ : ∀ id ver x, μ id ver = some x → μ' id ver = some x) :
    ∀ {v : AV} {c : Value}, Rep S w μ v c → Rep S' w' μ' v c
  | _, _, .p h => .p (h.mono hS)
  | _, _, .dead c => .dead c
  | _, _, .nil0 => .nil0
  | _, _, .e0 a => .e0 a
  | _, _, .ptr h => .ptr (hμ _ _ _ h)
  | _, _, .yld h => .yld (hμ _ _ _ h)
  | _, _, .sl h hl hc => .sl (hμ _ _ _ h) hl hc
  | _, _, .clo hf hc => .clo (RepL.mono hS hμ hf) (RepL.mono hS hμ hc)
  | _, _, .iface h => .iface (Rep.mono hS hμ h)
  | _, _, .agg h h1 => .agg (RepL.mono hS hμ h) h1
  | _, _, .tup h => .tup (RepL.mono hS hμ h)
theorem RepL.mono (hS : ∀ b o, S b o → S' b o ∧ w'.cell? ⟨b, o, none⟩ = w.cell? ⟨b, o, none⟩) (hμ : ∀ id ver x, μ id ver = some x → μ' id ver = some x) :
    ∀ {v : List AV} {c : List Value}, RepL S w μ v c → RepL S' w' μ' v c
  | _, _, .nil => .nil
  | _, _, .cons h hs => .cons (Rep.mono hS hμ h) (RepL.mono hS hμ hs)
end

/-- what is known of an object's memory -/
def ObjOK (S : Nat → Nat → Prop) (w : World) (μ : Nat → Nat → Option (Nat × Nat)) (id : Nat) : Obj → Prop
  | .arr c ver wm ty => ∃ b n, μ id ver = some (b, n) ∧ ∃ vs e lo hi, w.heap[b]? = some (.cells vs e (lo, hi)) ∧ vs.size = n ∧ c.len ≤ n ∧
      (∀ j v, c.get? j = some v → ∃ cv, vs[j]? = some cv ∧ one cv = true ∧ Rep S w μ v cv) ∧ (∀ j, wm ≤ j → j < n → ¬ S b j ∧ ¬ (lo ≤ j ∧ j < hi)) ∧ (∀ t, ty = some t → e = t ∧ (hi = lo ∨ hi ≤ wm))
  | .iter s pos => ∃ b n cs, μ id 0 = some (b, n) ∧ w.heap[b]? = some (.stringIter cs pos) ∧ cs.data.toList = s
  | .loop k ts c st => ∃ b n rec, μ id 0 = some (b, n) ∧ w.heap[b]? = some (.loop rec) ∧ st.is rec.state rec.pending ∧ Marks.rnd k rec.params rec.assign rec.body rec.tmps.size ∧
      (∀ j t v, ts[j]? = some t → c.get? j = some v → Rep S w μ v (rec.tmps.getD t undef))
  | .mark => ∃ b n, μ id 0 = some (b, n) ∧ w.heap[b]? = some (.deferred (some []))
  | .none => True

def Obj.live : Obj → Bool
  | .none => false
  | _ => true

/-- the blocks that the abstract heap owns -/
def Dom (μ : Nat → Nat → Option (Nat × Nat)) (σ : Heap) (b : Nat) : Prop :=
  ∃ id o n, σ[id]? = some o ∧ o.live = true ∧ μ id o.ver = some (b, n)

structure Good (μ : Nat → Nat → Option (Nat × Nat)) (S : Nat → Nat → Prop) (w : World) (σ : Heap) : Prop where
  obj : ∀ id o, σ[id]? = some o → ObjOK S w μ id o
  inj : ∀ id id' o o' b n n', σ[id]? = some o → σ[id']? = some o' → o.live = true → o'.live = true → μ id o.ver = some (b, n) → μ id' o'.ver = some (b, n') → id = id'
  old : ∀ id ver x, μ id ver = some x → ∃ o, σ[id]? = some o ∧ ver ≤ o.ver ∧ x.1 < w.heap.size
  sb : ∀ b o, S b o → b < w.heap.size

/-- what a step leaves alone -/
structure Frm (μ : Nat → Nat → Option (Nat × Nat)) (S : Nat → Nat → Prop) (w : World) (σ : Heap)
    (μ' : Nat → Nat → Option (Nat × Nat)) (S' : Nat → Nat → Prop) (w' : World) (σ' : Heap) : Prop where
  os : w'.os = w.os
  tape : w'.tape = w.tape
  output : w'.output = w.output
  size : w.heap.size ≤ w'.heap.size
  keepS : ∀ b o, S b o → S' b o ∧ w'.cell? ⟨b, o, none⟩ = w.cell? ⟨b, o, none⟩
  keepB : ∀ b, b < w.heap.size → ¬ Dom μ σ b → w'.heap[b]? = w.heap[b]?
  newS : ∀ b o, S' b o → S b o ∨ Dom μ σ b ∨ w.heap.size ≤ b
  newD : ∀ b, Dom μ' σ' b → Dom μ σ b ∨ w.heap.size ≤ b
  mu : ∀ id ver x, μ id ver = some x → μ' id ver = some x

end Go.Ab
