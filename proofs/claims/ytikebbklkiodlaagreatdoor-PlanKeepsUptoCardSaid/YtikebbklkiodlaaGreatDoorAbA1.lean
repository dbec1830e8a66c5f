/- A1 -/
import Derived.Test.YtikebbklkiodlaaGreatDoorAbA0
import Derived.Laws.Entries
import Derived.Laws.Slices
import Derived.Laws.Strings
set_option maxRecDepth 1000000
set_option linter.all false
namespace Go.Ab
def one : Value -> Bool
 | .agg _ | .tuple _ => false
 | _ => true
class Q4 where
 int : Nat -> IntKind -> Option Int
 str : Nat -> Option (List UInt8)
 cmp : Nat -> Nat -> Option Ordering
 ok : ∀ i j k n m c, int i k = some n -> int j k = some m -> cmp i j = some c -> c = compare n m
 lit : Nat -> Int -> Option Ordering := fun _ _ => none
 litOk : ∀ i k n c o, int i k = some n -> lit i c = some o -> o = compare n c := by
   intro _ _ _ _ _ _ h
   cases h
 rnd : List Nat × Q0 × Q0 -> Array Nat -> Code -> Code -> Nat -> Prop := fun _ _ _ _ _ => False
 raw : Nat -> Bool := fun _ => false
instance noMarks : Q4 where
 int := fun _ _ => none
 str := fun _ => none
 cmp := fun _ _ => none
 ok := fun _ _ _ _ _ _ h => by cases h
inductive Q1 where
 | pv (l : List PV)
 | av (l : List AV)
 deriving Inhabited
def Q1.len : Q1 -> Nat
 | .pv l => l.length
 | .av l => l.length
def Q1.get? : Q1 -> Nat -> Option AV
 | .pv l, i => (l[i]?).map .p
 | .av l, i => l[i]?
def Q1.toList : Q1 -> List AV
 | .pv l => l.map .p
 | .av l => l
inductive Jmp where
 | exit (id : Nat)
 | ret
 deriving Inhabited
inductive LSt where
 | ready
 | busy
 | done (j : Jmp)
 | over
 deriving Inhabited
def Jmp.code : Jmp -> Code
 | .exit id => .exit id
 | .ret => .ret
def LSt.is : LSt -> LoopState -> Option Code -> Prop
 | .ready, s, p => s = .ready /\ p = none
 | .busy, s, p => s = .busy /\ p = none
 | .done j, s, p => s = .done /\ p = some j.code
 | .over, s, _ => s = .exhausted
inductive Obj where
 | arr (c : Q1) (ver wm : Nat) (ty : Option Nat)
 | iter (s : List UInt8) (pos : Nat)
 | loop (k : List Nat × Q0 × Q0) (ts : List Nat) (c : Q1) (st : LSt)
 | mark
 | none
 deriving Inhabited
def Obj.ver : Obj -> Nat
 | .arr _ v _ _ => v
 | _ => 0
abbrev Heap := List Obj
variable [Q4]
section
variable (S : Nat -> Nat -> Prop) (w : World)
mutual
inductive RepP : PV -> Value -> Prop
 | bool (b : Bool) : RepP (.bool b) (.bool b)
 | int (k : IntKind) (n : Int) : RepP (.int k n) (.int k n)
 | str {l : List UInt8} {s : ByteArray} (h : s.data.toList = l) : RepP (.str l) (.string s)
 | nilptr : RepP .nilptr (.pointer none)
 | nilmap : RepP .nilmap (.map none)
 | nilfn : RepP .nilfn .nilFunc
 | nilif : RepP .nilif .nilIface
 | undef : RepP .undef (.tuple #[])
 | iface {t : Nat} {v : PV} {cv : Value} (h : RepP v cv) : RepP (.iface t v) (.iface t cv)
 | fn (f : Nat) : RepP (.fn f) (.func (.func f) #[] #[])
 | agg {cs : List PV} {cvs : Array Value} (h : RepPL cs cvs.toList) (h1 : ∀ c ∈ cvs.toList, one c = true) : RepP (.agg cs) (.agg cvs)
 | tup {cs : List PV} {cvs : Array Value} (h : RepPL cs cvs.toList) : RepP (.tup cs) (.tuple cvs)
 | vsl0 (cap : Nat) (a : Option Addr) : RepP (.vsl [] 0) (.slice a 0 cap)
 | vsl {cells : List PV} {n cap b o : Nat} (h : n <= cap) (hc : RepCells cells b o) : RepP (.vsl cells n) (.slice (some ⟨b, o, none⟩) n cap)
 | vptr {cells : List PV} {b o : Nat} (hc : RepCells cells b o) : RepP (.vptr cells) (.pointer (some ⟨b, o, none⟩))
 | isym {t : Nat} {k : IntKind} {n : Int} (h : Q4.int t k = some n) : RepP (.isym t k) (.int k n)
 | ssym {t : Nat} {l : List UInt8} {s : ByteArray} (h : Q4.str t = some l) (hs : s.data.toList = l) : RepP (.ssym t) (.string s)
inductive RepPL : List PV -> List Value -> Prop
 | nil : RepPL [] []
 | cons {v : PV} {vs : List PV} {c : Value} {cs : List Value} (h : RepP v c) (hs : RepPL vs cs) : RepPL (v :: vs) (c :: cs)
inductive RepCells : List PV -> Nat -> Nat -> Prop
 | nil (b o : Nat) : RepCells [] b o
 | cons {v : PV} {vs : List PV} {c : Value} {b o : Nat} (hS : S b o) (hc : w.cell? ⟨b, o, none⟩ = some c) (h1 : one c = true) (h : RepP v c) (hs : RepCells vs b (o + 1)) : RepCells (v :: vs) b o
end
variable (μ : Nat -> Nat -> Option (Nat × Nat))
mutual
inductive Rep : AV -> Value -> Prop
 | p {v : PV} {cv : Value} (h : RepP S w v cv) : Rep (.p v) cv
 | dead (cv : Value) : Rep .dead cv
 | nil0 : Rep .nil0 (.slice none 0 0)
 | e0 (a : Option Addr) : Rep .e0 (.slice a 0 0)
 | ptr {id ver off b n : Nat} (h : μ id ver = some (b, n)) : Rep (.ptr id ver off) (.pointer (some ⟨b, off, none⟩))
 | yld {id b n : Nat} (h : μ id 0 = some (b, n)) : Rep (.yld id) (.func (.yield b) #[] #[])
 | sl {id ver off len esz b n cap : Nat} (h : μ id ver = some (b, n)) (hl : len <= cap) (hc : off + cap * esz <= n) : Rep (.sl id ver off len esz) (.slice (some ⟨b, off, none⟩) len cap)
 | clo {f : Nat} {first caps : List AV} {cf cc : Array Value} (hf : RepL first cf.toList) (hc : RepL caps cc.toList) : Rep (.clo f first caps) (.func (.func f) cf cc)
 | iface {t : Nat} {v : AV} {cv : Value} (h : Rep v cv) : Rep (.iface t v) (.iface t cv)
 | agg {cs : List AV} {cvs : Array Value} (h : RepL cs cvs.toList) (h1 : ∀ c ∈ cvs.toList, one c = true) : Rep (.agg cs) (.agg cvs)
 | tup {cs : List AV} {cvs : Array Value} (h : RepL cs cvs.toList) : Rep (.tup cs) (.tuple cvs)
inductive RepL : List AV -> List Value -> Prop
 | nil : RepL [] []
 | cons {v : AV} {vs : List AV} {c : Value} {cs : List Value} (h : Rep v c) (hs : RepL vs cs) : RepL (v :: vs) (c :: cs)
end
end
variable {S S' : Nat -> Nat -> Prop} {w w' : World} {μ μ' : Nat -> Nat -> Option (Nat × Nat)}
theorem RepPL.length {l : List PV} {cs : List Value} (h : RepPL S w l cs) : l.length = cs.length := by
 induction l generalizing cs with
 | nil => cases h; rfl
 | cons v vs ih => cases h with | cons h hs => simp [ih hs]
theorem RepPL.get {l : List PV} {cs : List Value} (h : RepPL S w l cs) {i : Nat} {v : PV} (hi : l[i]? = some v) : ∃ c, cs[i]? = some c /\ RepP S w v c := by
 induction l generalizing cs i with
 | nil => simp at hi
 | cons x xs ih =>
   cases h with
   | cons h hs =>
     cases i with
     | zero => simp at hi; subst hi; exact ⟨_, rfl, h⟩
     | succ i => simp at hi; simpa using ih hs hi
theorem RepPL.of_get {l : List PV} {cs : List Value} (hl : l.length = cs.length) (h : ∀ (i : Nat) v c, l[i]? = some v -> cs[i]? = some c -> RepP S w v c) : RepPL S w l cs := by
 induction l generalizing cs with
 | nil => cases cs with | nil => exact .nil | cons => simp at hl
 | cons x xs ih =>
   cases cs with
   | nil => simp at hl
   | cons c cs => exact .cons (h 0 x c rfl rfl) (ih (by simpa using hl) fun i v c hv hc => h (i + 1) v c (by simpa using hv) (by simpa using hc))
theorem RepPL.drop {l : List PV} {cs : List Value} (h : RepPL S w l cs) (n : Nat) : RepPL S w (l.drop n) (cs.drop n) := by
 induction n generalizing l cs with
 | zero => simpa using h
 | succ n ih => cases h with
   | nil => simpa using RepPL.nil
   | cons h hs => simpa using ih hs
theorem RepPL.take {l : List PV} {cs : List Value} (h : RepPL S w l cs) (n : Nat) : RepPL S w (l.take n) (cs.take n) := by
 induction n generalizing l cs with
 | zero => simpa using RepPL.nil
 | succ n ih => cases h with
   | nil => simpa using RepPL.nil
   | cons h hs => simpa using RepPL.cons h (ih hs)
theorem RepPL.append {l l' : List PV} {cs cs' : List Value} (h : RepPL S w l cs) (h' : RepPL S w l' cs') : RepPL S w (l ++ l') (cs ++ cs') := by
 induction l generalizing cs with
 | nil => cases h; simpa using h'
 | cons v vs ih => cases h with | cons h hs => exact .cons h (ih hs)
theorem RepL.length {l : List AV} {cs : List Value} (h : RepL S w μ l cs) : l.length = cs.length := by
 induction l generalizing cs with
 | nil => cases h; rfl
 | cons v vs ih => cases h with | cons h hs => simp [ih hs]
theorem RepL.get {l : List AV} {cs : List Value} (h : RepL S w μ l cs) {i : Nat} {v : AV} (hi : l[i]? = some v) : ∃ c, cs[i]? = some c /\ Rep S w μ v c := by
 induction l generalizing cs i with
 | nil => simp at hi
 | cons x xs ih =>
   cases h with
   | cons h hs =>
     cases i with
     | zero => simp at hi; subst hi; exact ⟨_, rfl, h⟩
     | succ i => simp at hi; simpa using ih hs hi
theorem RepL.of_get {l : List AV} {cs : List Value} (hl : l.length = cs.length) (h : ∀ (i : Nat) v c, l[i]? = some v -> cs[i]? = some c -> Rep S w μ v c) : RepL S w μ l cs := by
 induction l generalizing cs with
 | nil => cases cs with | nil => exact .nil | cons => simp at hl
 | cons x xs ih =>
   cases cs with
   | nil => simp at hl
   | cons c cs => exact .cons (h 0 x c rfl rfl) (ih (by simpa using hl) fun i v c hv hc => h (i + 1) v c (by simpa using hv) (by simpa using hc))
theorem RepL.append {l l' : List AV} {cs cs' : List Value} (h : RepL S w μ l cs) (h' : RepL S w μ l' cs') : RepL S w μ (l ++ l') (cs ++ cs') := by
 induction l generalizing cs with
 | nil => cases h; simpa using h'
 | cons v vs ih => cases h with | cons h hs => exact .cons h (ih hs)
theorem RepL.drop {l : List AV} {cs : List Value} (h : RepL S w μ l cs) (n : Nat) : RepL S w μ (l.drop n) (cs.drop n) := by
 induction n generalizing l cs with
 | zero => simpa using h
 | succ n ih => cases h with
   | nil => simpa using RepL.nil
   | cons h hs => simpa using ih hs
theorem RepL.take {l : List AV} {cs : List Value} (h : RepL S w μ l cs) (n : Nat) : RepL S w μ (l.take n) (cs.take n) := by
 induction n generalizing l cs with
 | zero => simpa using RepL.nil
 | succ n ih => cases h with
   | nil => simpa using RepL.nil
   | cons h hs => simpa using RepL.cons h (ih hs)
theorem RepL.of_pv {l : List PV} {cs : List Value} (h : RepPL S w l cs) : RepL S w μ (l.map .p) cs := by
 induction l generalizing cs with
 | nil => cases h; exact .nil
 | cons v vs ih => cases h with | cons h hs => exact .cons (.p h) (ih hs)
theorem RepL.to_pv {l : List PV} {cs : List Value} (h : RepL S w μ (l.map .p) cs) : RepPL S w l cs := by
 induction l generalizing cs with
 | nil => cases h; exact .nil
 | cons v vs ih =>
   cases h with
   | cons h hs => cases h with | p h => exact .cons h (ih hs)
theorem RepCells.get {l : List PV} {b o : Nat} (h : RepCells S w l b o) {i : Nat} {v : PV} (hi : l[i]? = some v) :
   S b (o + i) /\ ∃ c, w.cell? ⟨b, o + i, none⟩ = some c /\ one c = true /\ RepP S w v c := by
 induction l generalizing o i with
 | nil => simp at hi
 | cons x xs ih =>
   cases h with
   | cons hS hc h1 h hs =>
     cases i with
     | zero => simp at hi; subst hi; exact ⟨by simpa using hS, _, by simpa using hc, h1, h⟩
     | succ i => simp at hi; have := ih hs hi; rwa [show o + 1 + i = o + (i + 1) from by omega] at this
theorem RepCells.of_get {l : List PV} {b o : Nat} (h : ∀ (i : Nat) v, l[i]? = some v -> S b (o + i) /\ ∃ c, w.cell? ⟨b, o + i, none⟩ = some c /\ one c = true /\ RepP S w v c) : RepCells S w l b o := by
 induction l generalizing o with
 | nil => exact .nil _ _
 | cons x xs ih =>
   obtain ⟨hS, c, hc, h1, hr⟩ := h 0 x rfl
   refine .cons (by simpa using hS) (by simpa using hc) h1 hr (ih fun i v hi => ?_)
   have := h (i + 1) v (by simpa using hi)
   rwa [show o + (i + 1) = o + 1 + i from by omega] at this
theorem RepCells.drop {l : List PV} {b o : Nat} (h : RepCells S w l b o) (n : Nat) : RepCells S w (l.drop n) b (o + n) := by
 refine .of_get fun i v hi => ?_
 rw [List.getElem?_drop] at hi
 have := h.get hi
 rwa [show o + (n + i) = o + n + i from by omega] at this
theorem RepCells.take {l : List PV} {b o : Nat} (h : RepCells S w l b o) (n : Nat) : RepCells S w (l.take n) b o := by
 refine .of_get fun i v hi => ?_
 rw [List.getElem?_take] at hi
 split at hi
 · exact h.get hi
 · simp at hi
theorem Rep.pv {v : PV} {c : Value} (h : Rep S w μ (.p v) c) : RepP S w v c := by cases h; assumption
theorem RepP.int_inv {k : IntKind} {n : Int} {c : Value} (h : RepP S w (.int k n) c) : c = .int k n := by cases h; rfl
theorem Rep.int {k : IntKind} {n : Int} {c : Value} (h : Rep S w μ (.p (.int k n)) c) : c = .int k n := h.pv.int_inv
theorem Rep.bool {b : Bool} {c : Value} (h : Rep S w μ (.p (.bool b)) c) : c = .bool b := by cases h.pv; rfl
theorem Rep.str {l : List UInt8} {c : Value} (h : Rep S w μ (.p (.str l)) c) : ∃ s : ByteArray, c = .string s /\ s.data.toList = l := by
 cases h.pv; exact ⟨_, rfl, by assumption⟩
theorem Rep.aggP {l : List PV} {c : Value} (h : Rep S w μ (.p (.agg l)) c) : ∃ cs, c = .agg cs /\ RepPL S w l cs.toList /\ ∀ x ∈ cs.toList, one x = true := by
 cases h.pv; exact ⟨_, rfl, by assumption, by assumption⟩
theorem Rep.aggA {l : List AV} {c : Value} (h : Rep S w μ (.agg l) c) : ∃ cs, c = .agg cs /\ RepL S w μ l cs.toList /\ ∀ x ∈ cs.toList, one x = true := by
 cases h; exact ⟨_, rfl, by assumption, by assumption⟩
theorem Rep.tupP {l : List PV} {c : Value} (h : Rep S w μ (.p (.tup l)) c) : ∃ cs, c = .tuple cs /\ RepPL S w l cs.toList := by
 cases h.pv; exact ⟨_, rfl, by assumption⟩
theorem Rep.tupA {l : List AV} {c : Value} (h : Rep S w μ (.tup l) c) : ∃ cs, c = .tuple cs /\ RepL S w μ l cs.toList := by
 cases h; exact ⟨_, rfl, by assumption⟩
theorem Rep.vslP {cells : List PV} {n : Nat} {c : Value} (h : Rep S w μ (.p (.vsl cells n)) c) :
   ∃ a cap, c = .slice a n cap /\ n <= cap /\ ((cells = [] /\ n = 0) ∨ ∃ b o, a = some ⟨b, o, none⟩ /\ RepCells S w cells b o) := by
 cases h.pv with
 | vsl0 cap a => exact ⟨_, _, rfl, Nat.zero_le _, .inl ⟨rfl, rfl⟩⟩
 | vsl h1 hc => exact ⟨_, _, rfl, h1, .inr ⟨_, _, rfl, hc⟩⟩
theorem Rep.vptrP {cells : List PV} {c : Value} (h : Rep S w μ (.p (.vptr cells)) c) : ∃ b o, c = .pointer (some ⟨b, o, none⟩) /\ RepCells S w cells b o := by
 cases h.pv; exact ⟨_, _, rfl, by assumption⟩
theorem Rep.ptrA {id ver off : Nat} {c : Value} (h : Rep S w μ (.ptr id ver off) c) : ∃ b n, μ id ver = some (b, n) /\ c = .pointer (some ⟨b, off, none⟩) := by
 cases h; exact ⟨_, _, by assumption, rfl⟩
theorem Rep.nilptr_inv {c : Value} (h : Rep S w μ (.p .nilptr) c) : c = .pointer none := by cases h.pv; rfl
theorem Rep.nil0_inv {c : Value} (h : Rep S w μ .nil0 c) : c = .slice none 0 0 := by cases h; rfl
theorem Rep.slA {id ver off len esz : Nat} {c : Value} (h : Rep S w μ (.sl id ver off len esz) c) :
   ∃ b n cap, μ id ver = some (b, n) /\ len <= cap /\ off + cap * esz <= n /\ c = .slice (some ⟨b, off, none⟩) len cap := by
 cases h; exact ⟨_, _, _, by assumption, by assumption, by assumption, rfl⟩
/- settled memory stays, and so does what is read of it -/
mutual
theorem RepP.mono (hS : ∀ b o, S b o -> S' b o /\ w'.cell? ⟨b, o, none⟩ = w.cell? ⟨b, o, none⟩) : ∀ {v : PV} {c : Value}, RepP S w v c -> RepP S' w' v c
 | _, _, .bool b => .bool b
 | _, _, .int k n => .int k n
 | _, _, .str h => .str h
 | _, _, .nilptr => .nilptr
 | _, _, .nilmap => .nilmap
 | _, _, .nilfn => .nilfn
 | _, _, .nilif => .nilif
 | _, _, .undef => .undef
 | _, _, .iface h => .iface (RepP.mono hS h)
 | _, _, .fn f => .fn f
 | _, _, .agg h h1 => .agg (RepPL.mono hS h) h1
 | _, _, .tup h => .tup (RepPL.mono hS h)
 | _, _, .vsl0 n a => .vsl0 n a
 | _, _, .vsl h hc => .vsl h (RepCells.mono hS hc)
 | _, _, .vptr hc => .vptr (RepCells.mono hS hc)
 | _, _, .isym h => .isym h
 | _, _, .ssym h hs => .ssym h hs
theorem RepPL.mono (hS : ∀ b o, S b o -> S' b o /\ w'.cell? ⟨b, o, none⟩ = w.cell? ⟨b, o, none⟩) : ∀ {v : List PV} {c : List Value}, RepPL S w v c -> RepPL S' w' v c
 | _, _, .nil => .nil
 | _, _, .cons h hs => .cons (RepP.mono hS h) (RepPL.mono hS hs)
theorem RepCells.mono (hS : ∀ b o, S b o -> S' b o /\ w'.cell? ⟨b, o, none⟩ = w.cell? ⟨b, o, none⟩) : ∀ {v : List PV} {b o : Nat}, RepCells S w v b o -> RepCells S' w' v b o
 | _, _, _, .nil b o => .nil b o
 | _, _, _, .cons h1 h2 h3 h hs => .cons (hS _ _ h1).1 ((hS _ _ h1).2.trans h2) h3 (RepP.mono hS h) (RepCells.mono hS hs)
end
mutual
theorem Rep.mono (hS : ∀ b o, S b o -> S' b o /\ w'.cell? ⟨b, o, none⟩ = w.cell? ⟨b, o, none⟩) (hμ : ∀ id ver x, μ id ver = some x -> μ' id ver = some x) :
   ∀ {v : AV} {c : Value}, Rep S w μ v c -> Rep S' w' μ' v c
 | _, _, .p h => .p (h.mono hS)
 | _, _, .dead c => .dead c
 | _, _, .nil0 => .nil0
 | _, _, .e0 a => .e0 a
 | _, _, .ptr h => .ptr (hμ _ _ _ h)
 | _, _, .yld h => .yld (hμ _ _ _ h)
 | _, _, .sl h hl hc => .sl (hμ _ _ _ h) hl hc
 | _, _, .clo hf hc => .clo (RepL.mono hS hμ hf) (RepL.mono hS hμ hc)
 | _, _, .iface h => .iface (Rep.mono hS hμ h)
 | _, _, .agg h h1 => .agg (RepL.mono hS hμ h) h1
 | _, _, .tup h => .tup (RepL.mono hS hμ h)
theorem RepL.mono (hS : ∀ b o, S b o -> S' b o /\ w'.cell? ⟨b, o, none⟩ = w.cell? ⟨b, o, none⟩) (hμ : ∀ id ver x, μ id ver = some x -> μ' id ver = some x) :
   ∀ {v : List AV} {c : List Value}, RepL S w μ v c -> RepL S' w' μ' v c
 | _, _, .nil => .nil
 | _, _, .cons h hs => .cons (Rep.mono hS hμ h) (RepL.mono hS hμ hs)
end
def ObjOK (S : Nat -> Nat -> Prop) (w : World) (μ : Nat -> Nat -> Option (Nat × Nat)) (id : Nat) : Obj -> Prop
 | .arr c ver wm ty => ∃ b n, μ id ver = some (b, n) /\ ∃ vs e lo hi, w.heap[b]? = some (.cells vs e (lo, hi)) /\ vs.size = n /\ c.len <= n /\
     (∀ j v, c.get? j = some v -> ∃ cv, vs[j]? = some cv /\ one cv = true /\ Rep S w μ v cv) /\ (∀ j, wm <= j -> j < n -> ¬ S b j /\ ¬ (lo <= j /\ j < hi)) /\ (∀ t, ty = some t -> e = t /\ (hi = lo ∨ hi <= wm))
 | .iter s pos => ∃ b n cs, μ id 0 = some (b, n) /\ w.heap[b]? = some (.stringIter cs pos) /\ cs.data.toList = s
 | .loop k ts c st => ∃ b n rec, μ id 0 = some (b, n) /\ w.heap[b]? = some (.loop rec) /\ st.is rec.state rec.pending /\ Q4.rnd k rec.params rec.assign rec.body rec.tmps.size /\
     (∀ j t v, ts[j]? = some t -> c.get? j = some v -> Rep S w μ v (rec.tmps.getD t undef))
 | .mark => ∃ b n, μ id 0 = some (b, n) /\ w.heap[b]? = some (.deferred (some []))
 | .none => True
def Obj.live : Obj -> Bool
 | .none => false
 | _ => true
def Dom (μ : Nat -> Nat -> Option (Nat × Nat)) (σ : Heap) (b : Nat) : Prop :=
 ∃ id o n, σ[id]? = some o /\ o.live = true /\ μ id o.ver = some (b, n)
structure Good (μ : Nat -> Nat -> Option (Nat × Nat)) (S : Nat -> Nat -> Prop) (w : World) (σ : Heap) : Prop where
 obj : ∀ id o, σ[id]? = some o -> ObjOK S w μ id o
 inj : ∀ id id' o o' b n n', σ[id]? = some o -> σ[id']? = some o' -> o.live = true -> o'.live = true -> μ id o.ver = some (b, n) -> μ id' o'.ver = some (b, n') -> id = id'
 old : ∀ id ver x, μ id ver = some x -> ∃ o, σ[id]? = some o /\ ver <= o.ver /\ x.1 < w.heap.size
 sb : ∀ b o, S b o -> b < w.heap.size
structure Frm (μ : Nat -> Nat -> Option (Nat × Nat)) (S : Nat -> Nat -> Prop) (w : World) (σ : Heap)
   (μ' : Nat -> Nat -> Option (Nat × Nat)) (S' : Nat -> Nat -> Prop) (w' : World) (σ' : Heap) : Prop where
 os : w'.os = w.os
 tape : w'.tape = w.tape
 output : w'.output = w.output
 size : w.heap.size <= w'.heap.size
 keepS : ∀ b o, S b o -> S' b o /\ w'.cell? ⟨b, o, none⟩ = w.cell? ⟨b, o, none⟩
 keepB : ∀ b, b < w.heap.size -> ¬ Dom μ σ b -> w'.heap[b]? = w.heap[b]?
 newS : ∀ b o, S' b o -> S b o ∨ Dom μ σ b ∨ w.heap.size <= b
 newD : ∀ b, Dom μ' σ' b -> Dom μ σ b ∨ w.heap.size <= b
 mu : ∀ id ver x, μ id ver = some x -> μ' id ver = some x
end Go.Ab
namespace Go.Ab
variable [Q4]
abbrev Env := List (Nat × AV)
def Env.get : Env -> Nat -> Option AV
 | [], _ => none
 | (k, v) :: r, t => if Nat.beq k t then some v else Env.get r t
def ev (M : Env) : Opd -> Option AV
 | .t n => M.get n
 | .c v => some v
def evs (M : Env) : List Opd -> Option (List AV)
 | [] => some []
 | x :: r => match ev M x, evs M r with
   | some v, some vs => some (v :: vs)
   | _, _ => none
def allP : List AV -> Option (List PV)
 | [] => some []
 | v :: r => match v with
   | .p v => match allP r with
     | some vs => some (v :: vs)
     | none => none
   | _ => none
def Qmq (l : List AV) : AV := match allP l with
 | some ps => .p (.agg ps)
 | none => .agg l
def Ur (l : List AV) : AV := match allP l with
 | some ps => .p (.tup ps)
 | none => .tup l
def Kp (l : List AV) : Q1 := match allP l with
 | some ps => .pv ps
 | none => .av l
def AV.cells : AV -> List AV
 | .p (.agg cs) => cs.map .p
 | .agg cs => cs
 | v => [v]
def AV.toCells : AV -> Q1
 | .p (.agg cs) => .pv cs
 | .agg cs => .av cs
 | .p v => .pv [v]
 | v => .av [v]
def yz (agg : Bool) (n : Nat) (l : List PV) (off : Nat) : Option PV :=
 if agg then (if off + n <= l.length then some (.agg ((l.drop off).take n)) else none) else l[off]?
def Qa2 (agg : Bool) (n : Nat) (c : Q1) (off : Nat) : Option AV :=
 match c with
 | .pv l => (yz agg n l off).map .p
 | .av l => if agg then (if off + n <= l.length then some (Qmq ((l.drop off).take n)) else none) else l[off]?
def N0 {α : Type} (l : List α) (off : Nat) (new : List α) : List α := l.take off ++ new ++ l.drop (off + new.length)
def O5 (c : Q1) (off : Nat) (new : Q1) : Q1 :=
 match c, new with
 | .pv l, .pv m => .pv (N0 l off m)
 | c, m => Kp (N0 c.toList off m.toList)
def Bu (c : Q1) (n : Nat) : Q1 :=
 match c with
 | .pv l => .pv (l.take n)
 | .av l => .av (l.take n)
def Fd (c : Q1) (n : Nat) : Q1 :=
 match c with
 | .pv l => .pv (l.drop n)
 | .av l => .av (l.drop n)
def catC (c d : Q1) : Q1 :=
 match c, d with
 | .pv l, .pv m => .pv (l ++ m)
 | c, d => .av (c.toList ++ d.toList)
def AV.fit : AV -> Bool
 | .dead => false
 | .tup _ => false
 | .p (.tup _) => false
 | .p .undef => false
 | _ => true
def Qe7 (cells : List AV) : List (Nat × Nat × AV) -> Option (List AV)
 | [] => some cells
 | (off, size, v) :: r =>
   if v.fit = true /\ v.cells.length = size /\ off + size <= cells.length then Qe7 (N0 cells off v.cells) r else none
def Qic (i j : Nat) : Option Ordering := if i = j then some .eq else Q4.cmp i j
def wo (op : BinOp) (c : Ordering) : Option Bool :=
 match op with
 | .eql => some (c == .eq)
 | .neq => some (c != .eq)
 | .lss => some (c == .lt)
 | .leq => some (c != .gt)
 | .gtr => some (c == .gt)
 | .geq => some (c != .lt)
 | _ => none
def cmpA (op : BinOp) (i j : Nat) : Option Bool := match Qic i j with
 | some c => wo op c
 | none => none
mutual
def eqP : EQ -> PV -> PV -> Option Bool
 | .bool, .bool a, .bool b => some (a == b)
 | .int, .int k a, .int k' b => if k = k' then some (a == b) else none
 | .str, .str a, .str b => some (a == b)
 | .int, .isym i k, .isym j k' => if k = k' then cmpA .eql i j else none
 | .str, .ssym i, .ssym j => if i = j then some true else none
 | .struct fs, .agg xs, .agg ys => eqPs fs xs ys
 | _, _, _ => none
def eqPs : List (Nat × Bool × Nat × EQ) -> List PV -> List PV -> Option Bool
 | [], _, _ => some true
 | (off, agg, n, e) :: r, xs, ys =>
   match yz agg n xs off, yz agg n ys off with
   | some x, some y => match eqP e x y with
     | some true => eqPs r xs ys
     | some false => some false
     | none => none
   | _, _ => none
end
def Qjr : NilK -> AV -> Option Bool
 | .iface, .p .nilif => some true
 | .iface, .p (.iface _ _) => some false
 | .iface, .iface _ _ => some false
 | .ptr, .p .nilptr => some true
 | .ptr, .ptr _ _ _ => some false
 | .ptr, .p (.vptr _) => some false
 | .fn, .p .nilfn => some true
 | .fn, .p (.fn _) => some false
 | .fn, .clo _ _ _ => some false
 | .slice, .nil0 => some true
 | .slice, .sl _ _ _ _ _ => some false
 | .slice, .p (.vsl (_ :: _) _) => some false
 | .map, .p .nilmap => some true
 | _, _ => none
def Qzs (k : NilK) (x y : AV) : Option Bool :=
 match Qjr k x, Qjr k y with
 | some true, some b => some b
 | some false, some true => some false
 | _, _ => none
def LIM : Nat := 4294967296
def Rl (op : BinOp) (k : IntKind) (a b : Int) : Option PV :=
 match op with
 | .add => some (.int k (k.wrap (a + b)))
 | .sub => some (.int k (k.wrap (a - b)))
 | .mul => some (.int k (k.wrap (a * b)))
 | .quo => if b = 0 then none else some (.int k (k.wrap (a.tdiv b)))
 | .rem => if b = 0 then none else some (.int k (a.tmod b))
 | .and => some (.int k (k.wrap (BitVec.ofInt k.bits a &&& BitVec.ofInt k.bits b).toNat))
 | .or => some (.int k (k.wrap (BitVec.ofInt k.bits a ||| BitVec.ofInt k.bits b).toNat))
 | .xor => some (.int k (k.wrap (BitVec.ofInt k.bits a ^^^ BitVec.ofInt k.bits b).toNat))
 | .andNot => some (.int k (k.wrap (BitVec.ofInt k.bits a &&& ~~~ BitVec.ofInt k.bits b).toNat))
 | .eql => some (.bool (a == b))
 | .neq => some (.bool (a != b))
 | .lss => some (.bool (a < b))
 | .leq => some (.bool (a <= b))
 | .gtr => some (.bool (a > b))
 | .geq => some (.bool (a ≥ b))
 | _ => none
def Xj (op : BinOp) (k : IntKind) (a b : Int) : Option PV :=
 if b < 0 then none else
 match op with
 | .shl => some (.int k (k.wrap (a * 2 ^ (min b.toNat k.bits))))
 | .shr => some (.int k (a.fdiv (2 ^ (min b.toNat k.bits))))
 | _ => none
def Y9 (op : BinOp) (a b : List UInt8) : Option PV :=
 match op with
 | .add => if a.length + b.length <= LIM then some (.str (a ++ b)) else none
 | .eql => some (.bool (a == b))
 | .neq => some (.bool !(a == b))
 | .lss => some (.bool (Op.bytesLess a b))
 | .leq => some (.bool (Op.bytesLess a b || a == b))
 | .gtr => some (.bool !(Op.bytesLess a b || a == b))
 | .geq => some (.bool !(Op.bytesLess a b))
 | _ => none
def binA : Bin -> AV -> AV -> Option AV
 | .plain op, .p (.int k a), .p (.int k' b) =>
   match op with
   | .shl | .shr => (Xj op k a b).map .p
   | _ => if k = k' then (Rl op k a b).map .p else none
 | .plain op, .p (.str a), .p (.str b) => (Y9 op a b).map .p
 | .plain op, .p (.isym i k), .p (.isym j k') => if k = k' then (cmpA op i j).map fun r => .p (.bool r) else none
 | .plain op, .p (.isym i k), .p (.int k' c) => if k = k' then match Q4.lit i c with
   | some o => (wo op o).map fun r => .p (.bool r)
   | none => none
   else none
 | .eq neg e, .p a, .p b => (eqP e a b).map fun r => .p (.bool (r != neg))
 | .nil k neg, a, b => (Qzs k a b).map fun r => .p (.bool (r != neg))
 | _, _, _ => none
def unA : UnOp -> AV -> Option AV
 | .neg, .p (.int k n) => some (.p (.int k (k.wrap (0 - n))))
 | .xor, .p (.int k n) => (Rl .xor k (if k.signed then -1 else k.max) n).map .p
 | .not, .p (.bool b) => some (.p (.bool !b))
 | _, _ => none
def Th (m d : Nat) : Option AV -> Option Nat
 | none => some d
 | some (.p (.int _ n)) => if 0 <= n /\ n <= m then some n.toNat else none
 | _ => none
def Iz (len : Nat) (lo hi : Option AV) : Option (Nat × Nat) :=
 match Th len len hi with
 | some h => match Th h 0 lo with
   | some l => some (l, h)
   | none => none
 | none => none
def Ks (esz : Nat) (x : AV) (lo hi : Option AV) : Option AV :=
 match x with
 | .p (.str s) => match Iz s.length lo hi with
   | some (l, h) => some (.p (.str ((s.drop l).take (h - l))))
   | none => none
 | .p (.vsl cells len) => match Iz len lo hi with
   | some (l, h) => if l = h then some (.p (.vsl [] 0)) else if cells.length = len * esz then some (.p (.vsl ((cells.drop (l * esz)).take ((h - l) * esz)) (h - l))) else none
   | none => none
 | .sl id ver off len e => if e = esz then match Iz len lo hi with
     | some (l, h) => if l = h /\ l ≠ 0 then some (.p (.vsl [] 0)) else some (.sl id ver (off + l * esz) (h - l) esz)
     | none => none
   else none
 | .nil0 => match Iz 0 lo hi with
   | some _ => some .nil0
   | none => none
 | .e0 => match Iz 0 lo hi with
   | some _ => some .e0
   | none => none
 | _ => none
def lenA : AV -> Option Nat
 | .p (.str s) => some s.length
 | .p (.vsl _ n) => some n
 | .sl _ _ _ n _ => some n
 | .nil0 => some 0
 | .e0 => some 0
 | _ => none
def idxA (esz : Nat) (x i : AV) : Option AV :=
 match x, i with
 | .p (.vsl cells len), .p (.int _ i) => if 0 <= i /\ i < len then some (.p (.vptr (cells.drop (i.toNat * esz)))) else none
 | .sl id ver off len e, .p (.int _ i) => if e = esz /\ 0 <= i /\ i < len then some (.ptr id ver (off + i.toNat * esz)) else none
 | _, _ => none
def Qif (n esz : Nat) (x i : AV) : Option AV :=
 match x, i with
 | .p (.vptr cells), .p (.int _ i) => if 0 <= i /\ i < n then some (.p (.vptr (cells.drop (i.toNat * esz)))) else none
 | .ptr id ver off, .p (.int _ i) => if 0 <= i /\ i < n then some (.ptr id ver (off + i.toNat * esz)) else none
 | _, _ => none
def Zt (x i : AV) : Option AV :=
 match x, i with
 | .p (.str s), .p (.int _ i) => if 0 <= i then (s[i.toNat]?).map fun b => .p (.int .u8 b.toNat) else none
 | _, _ => none
def Qqm (len esz : Nat) (agg : Bool) (x i : AV) : Option AV :=
 match i with
 | .p (.int _ i) => if 0 <= i /\ i < len then
     match x with
     | .p (.agg cs) => (yz agg esz cs (i.toNat * esz)).map .p
     | .agg cs => Qa2 agg esz (.av cs) (i.toNat * esz)
     | _ => none
   else none
 | _ => none
def Vb (x : AV) (i : Nat) : Option AV :=
 match x with
 | .p (.tup vs) => (vs[i]?).map .p
 | .tup vs => vs[i]?
 | _ => none
def Qjc (t : Nat) (zero : AV) (ok : Bool) (x : AV) : Option AV :=
 match x with
 | .p (.iface t' v) => if t' = t then some (if ok then .p (.tup [v, .bool true]) else .p v) else if ok then some (Ur [zero, .p (.bool false)]) else none
 | .iface t' v => if t' = t then some (if ok then Ur [v, .p (.bool true)] else v) else if ok then some (Ur [zero, .p (.bool false)]) else none
 | .p .nilif => if ok then some (Ur [zero, .p (.bool false)]) else none
 | _ => none
def maxA (isMax : Bool) : AV -> List AV -> Option AV
 | x, [] => some x
 | .p (.int k x), .p (.int _ y) :: r => maxA isMax (.p (.int k (if isMax then (if y > x then y else x) else (if y < x then y else x)))) r
 | .p (.str x), .p (.str y) :: r => maxA isMax (.p (.str (if isMax then (if !(Op.bytesLess x y) then x else y) else (if Op.bytesLess x y || x == y then x else y)))) r
 | _, _ => none
def Uw (M : Env) : List (Nat × Nat × Opd) -> Option (List (Nat × Nat × AV))
 | [] => some []
 | (o, s, x) :: r => match ev M x, Uw M r with
   | some v, some vs => some ((o, s, v) :: vs)
   | _, _ => none
def evO (M : Env) : Option Opd -> Option (Option AV)
 | none => some none
 | some x => (ev M x).map some
def G2 (M : Env) : AOp -> Option AV
 | .mv x => ev M x
 | .pick c a b => match ev M c with
   | some (.p (.bool b')) => if b' then ev M a else ev M b
   | _ => none
 | .build zero parts => match Uw M parts with
   | some ps => (Qe7 zero ps).map Qmq
   | none => none
 | .nilCheck x => match ev M x with
   | some (.ptr i v o) => some (.ptr i v o)
   | some (.p (.vptr c)) => some (.p (.vptr c))
   | some (.clo f a b) => some (.clo f a b)
   | some (.p (.fn f)) => some (.p (.fn f))
   | some (.p (.iface t v)) => some (.p (.iface t v))
   | some (.iface t v) => some (.iface t v)
   | _ => none
 | .bin b x y => match ev M x, ev M y with
   | some u, some v => binA b u v
   | _, _ => none
 | .un u x => match ev M x with
   | some v => unA u v
   | none => none
 | .convInt k x => match ev M x with
   | some (.p (.int _ n)) => some (.p (.int k (k.wrap n)))
   | _ => none
 | .convStr x => match ev M x with
   | some (.p (.str s)) => some (.p (.str s))
   | _ => none
 | .convRune x => match ev M x with
   | some (.p (.int _ n)) => some (.p (.str (Utf8.encode n).data.toList))
   | _ => none
 | .mkIface t x => match ev M x with
   | some (.p v) => some (.p (.iface t v))
   | some v => some (.iface t v)
   | none => none
 | .mkFunc f first caps => match evs M first, evs M caps with
   | some [], some [] => some (.p (.fn f))
   | some a, some b => some (.clo f a b)
   | _, _ => none
 | .fieldAddr off x => match ev M x with
   | some (.ptr id ver o) => some (.ptr id ver (o + off))
   | some (.p (.vptr c)) => some (.p (.vptr (c.drop off)))
   | _ => none
 | .field off agg n x => match ev M x with
   | some (.p (.agg cs)) => (yz agg n cs off).map .p
   | some (.agg cs) => Qa2 agg n (.av cs) off
   | _ => none
 | .idx esz x i => match ev M x, ev M i with
   | some u, some v => idxA esz u v
   | _, _ => none
 | .idxArr n esz x i => match ev M x, ev M i with
   | some u, some v => Qif n esz u v
   | _, _ => none
 | .atStr x i => match ev M x, ev M i with
   | some u, some v => Zt u v
   | _, _ => none
 | .atArr len esz agg x i => match ev M x, ev M i with
   | some u, some v => Qqm len esz agg u v
   | _, _ => none
 | .sliceStr x lo hi => match ev M x, evO M lo, evO M hi with
   | some (.p (.str s)), some l, some h => Ks 1 (.p (.str s)) l h
   | _, _, _ => none
 | .slice esz x lo hi => match ev M x, evO M lo, evO M hi with
   | some u, some l, some h => match u with
     | .p (.str _) => none
     | u => Ks esz u l h
   | _, _, _ => none
 | .slice0 x lo hi mx => match ev M x, ev M lo, ev M hi, ev M mx with
   | some u, some (.p (.int _ 0)), some (.p (.int _ 0)), some (.p (.int _ 0)) => match u with
     | .p (.vsl _ _) => some .e0
     | .sl _ _ _ _ _ => some .e0
     | .nil0 => some .e0
     | .e0 => some .e0
     | _ => none
   | _, _, _, _ => none
 | .assert t zero ok x => match ev M x with
   | some v => Qjc t zero ok v
   | none => none
 | .extract i x => match ev M x with
   | some v => Vb v i
   | none => none
 | .len str x => match ev M x with
   | some v => match v, str with
     | .p (.str s), true => some (.p (.int .i64 (s.length : Int)))
     | _, true => none
     | .p (.str _), false => none
     | v, false => match lenA v with
       | some n => some (.p (.int .i64 (n : Int)))
       | none => none
   | none => none
 | .lenC n => some (.p (.int .i64 n))
 | .sliceData x => match ev M x with
   | some .nil0 => some (.p .nilptr)
   | some (.sl id ver off (_ + 1) _) => some (.ptr id ver off)
   | _ => none
 | .minmax m xs => match evs M xs with
   | some (x :: r) => maxA m x r
   | _ => none
 | _ => none
def Zo (zero : List AV) (n : Nat) : List AV := (List.replicate n zero).flatten
def repZ (zero : List AV) (n : Nat) : Q1 := match allP zero with
 | some [z] => .pv (List.replicate n z)
 | _ => Kp (Zo zero n)
def pv1 : AV -> Option PV
 | .p v => some v
 | .nil0 => some (.vsl [] 0)
 | .e0 => some (.vsl [] 0)
 | _ => none
def Qpy : List AV -> Option (List PV)
 | [] => some []
 | v :: r => match pv1 v, Qpy r with
   | some p, some ps => some (p :: ps)
   | _, _ => none
def Ms (M : Env) : AOp -> Option PV
 | .buildVals zero len _ parts => match Uw M parts with
   | some vs => match Qe7 (Zo zero len) vs with
     | some out => match Qpy out with
       | some ps => some (.vsl ps len)
       | none => none
     | none => none
   | none => none
 | _ => none
def Jp (M : Env) : AOp -> Option (Obj × (Nat -> AV))
 | .alloc ty zero => some (.arr (Kp zero) 0 0 (some ty), fun id => .ptr id 0 0)
 | .box n x => match ev M x with
   | some v => if v.fit = true /\ v.toCells.len = n then some (.arr v.toCells 0 0 none, fun id => .ptr id 0 0) else none
   | none => none
 | .buildSlice zero len esz parts => match Uw M parts with
   | some ps => match Qe7 (Zo zero len) ps with
     | some cs => some (.arr (Kp cs) 0 0 none, fun id => .sl id 0 0 len esz)
     | none => none
   | none => none
 | .strBytes x => match ev M x with
   | some (.p (.str s)) => if s.length <= LIM then some (.arr (.pv (s.map fun b => .int .u8 b.toNat)) 0 0 none, fun id => .sl id 0 0 s.length 1) else none
   | _ => none
 | .makeSlice zero esz l c => match ev M l, ev M c with
   | some (.p (.int _ l)), some (.p (.int _ c)) =>
     if 0 <= l /\ l <= c /\ c <= LIM then some (.arr (repZ zero c.toNat) 0 0 none, fun id => .sl id 0 0 l.toNat esz) else none
   | _, _ => none
 | .rangeStr x => match ev M x with
   | some (.p (.str s)) => some (.iter s 0, fun id => .ptr id 0 0)
   | _ => none
 | _ => none
def Qcv : List PV -> Option (List UInt8)
 | [] => some []
 | .int .u8 n :: r => if 0 <= n /\ n < 256 then match Qcv r with
   | some l => some (UInt8.ofNat n.toNat :: l)
   | none => none
   else none
 | _ => none
def S6 : List PV -> Option (List UInt8)
 | [] => some []
 | .int .u8 n :: r => match S6 r with
   | some l => some (UInt8.ofNat n.toNat :: l)
   | none => none
 | _ => none
def Jk (σ : Heap) (esz : Nat) (x : AV) : Option (Nat × Q1) :=
 match x with
 | .p (.str s) => if esz = 1 then some (s.length, .pv (s.map fun b => .int .u8 b.toNat)) else none
 | .p (.vsl cells n) => if cells.length = n * esz then some (n, .pv cells) else none
 | .sl id ver off n e => if e = esz then match σ[id]? with
     | some (.arr c v _ _) => if v = ver /\ off + n * esz <= c.len then some (n, Bu (Fd c off) (n * esz)) else none
     | _ => none
   else none
 | .nil0 => some (0, .pv [])
 | .e0 => some (0, .pv [])
 | _ => none
def Gw (M : Env) (σ : Heap) : AOp -> Option AV
 | .load agg n x => match ev M x with
   | some (.ptr id ver off) => match σ[id]? with
     | some (.arr c v _ _) => if v = ver then Qa2 agg n c off else none
     | _ => none
   | some (.p (.vptr cells)) => (yz agg n cells 0).map .p
   | _ => none
 | .sliceArr n esz x lo hi => match ev M x, evO M lo, evO M hi with
   | some (.ptr id ver off), some l, some h => match σ[id]? with
     | some (.arr c v _ _) => if v = ver /\ off + n * esz <= c.len then match Iz n l h with
         | some (l, h) => if l = h then some (.p (.vsl [] 0)) else some (.sl id ver (off + l * esz) (h - l) esz)
         | none => none
       else none
     | _ => none
   | _, _, _ => none
 | .bytesStr x => match ev M x with
   | some v => match v with
     | .p (.str _) => none
     | v => match Jk σ 1 v with
       | some (_, .pv l) => (S6 l).map fun s => .p (.str s)
       | _ => none
   | none => none
 | _ => none
def Dm (σ : Heap) (ety esz : Nat) (s : AV) (n : Nat) (new : Q1) : Option (AV × Heap) :=
 match s with
 | .nil0 => if n = 0 then some (.nil0, σ) else if n <= LIM then some (.sl σ.length 0 0 n esz, σ ++ [.arr new 0 0 (some ety)]) else none
 | .e0 => if n = 0 then some (.e0, σ) else if n <= LIM then some (.sl σ.length 0 0 n esz, σ ++ [.arr new 0 0 (some ety)]) else none
 | .sl id ver off len e => match σ[id]? with
   | some (.arr c v wm ty) =>
     if e = esz /\ v = ver /\ off = 0 /\ len * esz <= c.len /\ wm <= len * esz /\ len + n <= LIM then
       if n = 0 then some (.sl id ver off len e, σ)
       else some (.sl id (ver + 1) 0 (len + n) esz, σ.set id (.arr (catC (Bu c (len * esz)) new) (ver + 1) wm (if ty = some ety then some ety else none)))
     else none
   | _ => none
 | _ => none
def Be (M : Env) (σ : Heap) : AOp -> Option (AV × Heap)
 | .store n x v => match ev M x, ev M v with
   | some (.ptr id ver off), some v => match σ[id]? with
     | some (.arr c vr wm ty) =>
       if v.fit = true /\ vr = ver /\ v.toCells.len = n /\ wm <= off /\ off + n <= c.len then some (.p .undef, σ.set id (.arr (O5 c off v.toCells) vr wm ty)) else none
     | _ => none
   | _, _ => none
 | .append ety esz _ s x => match ev M s, ev M x with
   | some s, some x => match Jk σ esz x with
     | some (n, new) => Dm σ ety esz s n new
     | none => none
   | _, _ => none
 | .appendZ ety esz zero s n => match ev M s, ev M n with
   | some s, some (.p (.int _ n)) => if 0 <= n /\ n <= LIM then Dm σ ety esz s n.toNat (repZ zero n.toNat) else none
   | _, _ => none
 | .copy esz d s => match ev M d, ev M s with
   | some d, some s => match Jk σ esz s with
     | some (n, new) => match d with
       | .sl id ver off len e => match σ[id]? with
         | some (.arr c v wm ty) =>
           if e = esz /\ v = ver /\ wm <= off /\ off + len * esz <= c.len then
             some (.p (.int .i64 (Nat.min n len)), σ.set id (.arr (O5 c off (Bu new (Nat.min n len * esz))) v wm ty))
           else none
         | _ => none
       | _ => none
     | none => none
   | _, _ => none
 | .clear zero esz x => match ev M x with
   | some (.sl id ver off len e) => if len = 0 then some (.dead, σ) else match σ[id]? with
     | some (.arr c v wm ty) => if e = esz /\ v = ver /\ wm <= off /\ off + len * esz <= c.len then some (.dead, σ.set id (.arr (O5 c off (repZ zero len)) v wm ty)) else none
     | _ => none
   | some (.p (.vsl [] 0)) => some (.dead, σ)
   | _ => none
 | .unsafeStr ety p n => match ev M p, ev M n with
   | some (.p .nilptr), some (.p (.int .i64 0)) => some (.p (.str []), σ)
   | some (.ptr id ver 0), some (.p (.int .i64 n)) => match σ[id]? with
     | some (.arr (.pv l) v wm (some ty)) =>
       if ty = ety /\ v = ver /\ 0 < n /\ n <= l.length /\ l.length <= LIM then match Qcv (l.take n.toNat) with
         | some s => some (.p (.str s), σ.set id (.arr (.pv l) v (Nat.max wm n.toNat) (some ty)))
         | none => none
       else none
     | _ => none
   | _, _ => none
 | .nextStr x => match ev M x with
   | some (.ptr id 0 0) => match σ[id]? with
     | some (.iter s pos) =>
       if pos < s.length then
         let d := Utf8.decode ⟨s.toArray⟩ pos
         some (.p (.tup [.bool true, .int .i64 pos, .int .i32 d.1]), σ.set id (.iter s (pos + d.2)))
       else some (.p (.tup [.bool false]), σ)
     | _ => none
   | _ => none
 | _ => none
end Go.Ab
namespace Go.Ab
variable [Q4]
def Se : Value -> Option AV
 | .bool b => some (.p (.bool b))
 | .int k n => some (.p (.int k n))
 | .string s => some (.p (.str s.data.toList))
 | .pointer none => some (.p .nilptr)
 | .slice none 0 0 => some .nil0
 | .map none => some (.p .nilmap)
 | .nilFunc => some (.p .nilfn)
 | .nilIface => some (.p .nilif)
 | .func (.func f) x y => if x.size = 0 /\ y.size = 0 then some (.p (.fn f)) else none
 | _ => none
def Nd : List Value -> Option (List AV)
 | [] => some []
 | v :: r => match Se v, Nd r with
   | some a, some l => some (a :: l)
   | _, _ => none
def Qfl : Value -> Option AV
 | .agg cs => (Nd cs.toList).map Qmq
 | .iface t v => match Se v with
   | some (.p x) => some (.p (.iface t x))
   | _ => none
 | .tuple x => if x.size = 0 then some (.p .undef) else none
 | v => Se v
def Qen : Value -> Option (List AV)
 | .agg cs => Nd cs.toList
 | v => (Se v).map fun x => [x]
abbrev Bx := Nat -> Option (List PV)
def cOpd (G : Bx) : Operand -> Option Opd
 | .tmp t => some (.t t)
 | .const v => (Qfl v).map .c
 | .global g => (G g).map fun l => .c (.p (.vptr l))
 | .func f => some (.c (.p (.fn f)))
def z9 (G : Bx) : List Operand -> Option (List Opd)
 | [] => some []
 | x :: r => match cOpd G x, z9 G r with
   | some a, some l => some (a :: l)
   | _, _ => none
def Qgj (G : Bx) : Option Operand -> Option (Option Opd)
 | none => some none
 | some x => (cOpd G x).map some
def wJ8 (P : Program) (t : Nat) : Option Nat := (P.info? t).map (·.size)
def yv (P : Program) (t : Nat) : Option Bool := match P.underlying t with
 | some (.struct _) | some (.array _ _) => some true
 | some _ => some false
 | none => none
def Qh4 (P : Program) (t : Nat) : Option (List AV) := match P.info? t with
 | some i => match i.zero with
   | some v => Qen v
   | none => none
 | none => none
def yd (P : Program) (G : Bx) (place : Nat -> Option (Nat × Nat)) : List (Nat × Operand) -> Option (List (Nat × Nat × Opd))
 | [] => some []
 | (i, x) :: r => match place i, cOpd G x, yd P G place r with
   | some (o, s), some y, some l => some ((o, s, y) :: l)
   | _, _, _ => none
def Sj (P : Program) : List Field -> Option (List (Nat × Nat))
 | [] => some []
 | f :: r => match wJ8 P f.type, Sj P r with
   | some s, some l => some ((f.offset, s) :: l)
   | _, _ => none
mutual
def cEQ (P : Program) : Nat -> Nat -> Option EQ
 | 0, _ => none
 | d + 1, t => match P.underlying t with
   | some .bool => some .bool
   | some (.int _) => some .int
   | some .string => some .str
   | some (.struct fs) => if P.stoodInHeld t then none else (cEQs P d fs.toList).map .struct
   | _ => none
def cEQs (P : Program) : Nat -> List Field -> Option (List (Nat × Bool × Nat × EQ))
 | _, [] => some []
 | 0, _ :: _ => none
 | d + 1, f :: r =>
   if f.name = "_" then none else
   match wJ8 P f.type, yv P f.type, cEQ P d f.type, cEQs P d r with
   | some s, some a, some e, some l => some ((f.offset, a, s, e) :: l)
   | _, _, _, _ => none
end
def O6 : Operand -> Bool
 | .const .nilIface | .const (.pointer none) | .const .nilFunc | .const (.slice none 0 0) | .const (.map none) => true
 | _ => false
def cNil (k : NilK) (op : BinOp) (x y : Operand) : Option Bin :=
 if O6 x || O6 y then
   match op with
   | .eql => some (.nil k false)
   | .neq => some (.nil k true)
   | _ => none
 else none
def cBin (P : Program) (op : BinOp) (t : Nat) (x y : Operand) : Option Bin :=
 match P.underlying t with
 | some (.int _) => some (.plain op)
 | some .string => some (.plain op)
 | some .bool => match op with
   | .eql => some (.eq false .bool)
   | .neq => some (.eq true .bool)
   | _ => none
 | some (.struct _) => if P.eqGuardType P.depth t then none else
   match op with
   | .eql => (cEQ P 40 t).map (.eq false)
   | .neq => (cEQ P 40 t).map (.eq true)
   | _ => none
 | some (.interface _) => cNil .iface op x y
 | some (.pointer _) => cNil .ptr op x y
 | some (.func _ _ _) => cNil .fn op x y
 | some (.slice _) => cNil .slice op x y
 | some (.map _ _) => cNil .map op x y
 | _ => none
def yf (P : Program) (e : Nat) : Option (Nat × List AV) := match P.info? e with
 | some i => match i.zero with
   | some v => match Qen v with
     | some z => if 0 < i.size /\ z.length = i.size /\ i.bytes <= 4096 then some (i.size, z) else none
     | none => none
   | none => none
 | none => none
def L2 (P : Program) (G : Bx) (b : Builtin) (tys : List Nat) (args : List Operand) : Option AOp :=
 match b, tys, args with
 | .len, [t], [x] => match P.underlying t with
   | some .string => (cOpd G x).map (.len true)
   | some (.slice _) => (cOpd G x).map (.len false)
   | some (.array n _) => some (.lenC n)
   | _ => none
 | .append, [t, u], [s, x] => match P.underlying t, P.underlying u with
   | some (.slice e), some d => match yf P e, cOpd G s, cOpd G x with
     | some (sz, z), some s, some x => match d with
       | .int _ => some (.appendZ e sz z s x)
       | .slice _ => some (.append e sz z s x)
       | .string => some (.append e sz z s x)
       | _ => none
     | _, _, _ => none
   | _, _ => none
 | .copy, [t, _], [d, s] => match P.underlying t with
   | some (.slice e) => match yf P e, cOpd G d, cOpd G s with
     | some (sz, _), some d, some s => some (.copy sz d s)
     | _, _, _ => none
   | _ => none
 | .clear, [t], [x] => match P.underlying t with
   | some (.slice e) => match yf P e, cOpd G x with
     | some (sz, z), some x => some (.clear z sz x)
     | _, _ => none
   | _ => none
 | .max, _, xs => (z9 G xs).map (.minmax true)
 | .min, _, xs => (z9 G xs).map (.minmax false)
 | .panic, _, [x] => (cOpd G x).map .panic
 | .recover, _, [] => some .recover
 | .unsafeSliceData, _, [x] => (cOpd G x).map .sliceData
 | .unsafeString, [t, _], [p, n] => match P.underlying t with
   | some (.pointer e) => if P.cellsOf e = 1 then match cOpd G p, cOpd G n with
     | some p, some n => some (.unsafeStr e p n)
     | _, _ => none else none
   | _ => none
 | _, _, _ => none
def cOp (P : Program) (G : Bx) : Op -> Option AOp
 | .move x => (cOpd G x).map .mv
 | .assign x => (cOpd G x).map .mv
 | .pick c a b => match cOpd G c, cOpd G a, cOpd G b with
   | some c, some a, some b => some (.pick c a b)
   | _, _, _ => none
 | .alloc t => (Qh4 P t).map (.alloc t)
 | .box t x => match wJ8 P t, cOpd G x with
   | some n, some x => some (.box n x)
   | _, _ => none
 | .build t parts => match P.underlying t, Qh4 P t with
   | some (.struct fs), some z => match Sj P fs.toList with
     | some pl => (yd P G (fun i => pl[i]?) parts.toList).map (.build z)
     | none => none
   | some (.array _ e), some z => match wJ8 P e with
     | some s => (yd P G (fun i => some (i * s, s)) parts.toList).map (.build z)
     | none => none
   | _, _ => none
 | .buildSlice t len parts => match P.underlying t with
   | some (.slice e) => match yf P e with
     | some (s, z) => if len * s <= 16777216 then (yd P G (fun i => some (i * s, s)) parts.toList).map (.buildSlice z len s) else none
     | none => none
   | _ => none
 | .load t x => match yv P t, wJ8 P t, cOpd G x with
   | some a, some n, some x => some (.load a n x)
   | _, _, _ => none
 | .store t x v => match wJ8 P t, cOpd G x, cOpd G v with
   | some n, some x, some v => some (.store n x v)
   | _, _, _ => none
 | .nilCheck x => (cOpd G x).map .nilCheck
 | .binOp op t x y _ => match cBin P op t x y, cOpd G x, cOpd G y with
   | some b, some x, some y => some (.bin b x y)
   | _, _, _ => none
 | .unOp u _ x => (cOpd G x).map (.un u)
 | .convert s d x => match P.underlying s, P.underlying d, cOpd G x with
   | some (.int _), some (.int k), some x => some (.convInt k x)
   | some (.int _), some .string, some x => some (.convRune x)
   | some .string, some .string, some x => some (.convStr x)
   | some .string, some (.slice e), some x => match P.underlying e, yf P e with
     | some (.int .u8), some (1, _) => some (.strBytes x)
     | _, _ => none
   | some (.slice e), some .string, some x => match P.underlying e with
     | some (.int .u8) => some (.bytesStr x)
     | _ => none
   | _, _, _ => none
 | .makeInterface t x => match P.underlying t with
   | some (.interface _) => none
   | some _ => (cOpd G x).map (.mkIface t)
   | none => none
 | .makeFunc (.func f) first caps => match z9 G first.toList, z9 G caps.toList with
   | some a, some b => some (.mkFunc f a b)
   | _, _ => none
 | .makeSlice t l c => match P.underlying t with
   | some (.slice e) => match yf P e, cOpd G l, cOpd G c with
     | some (s, z), some l, some c => some (.makeSlice z s l c)
     | _, _, _ => none
   | _ => none
 | .slice t x lo hi mx => match P.underlying t, mx with
   | some .string, none => match cOpd G x, Qgj G lo, Qgj G hi with
     | some x, some lo, some hi => some (.sliceStr x lo hi)
     | _, _, _ => none
   | some (.slice e), none => match wJ8 P e, cOpd G x, Qgj G lo, Qgj G hi with
     | some s, some x, some lo, some hi => some (.slice s x lo hi)
     | _, _, _, _ => none
   | some (.array n e), none => match wJ8 P e, cOpd G x, Qgj G lo, Qgj G hi with
     | some s, some x, some lo, some hi => some (.sliceArr n s x lo hi)
     | _, _, _, _ => none
   | some (.slice e), some m => match wJ8 P e, lo, hi with
     | some _, some lo, some hi => match cOpd G x, cOpd G lo, cOpd G hi, cOpd G m with
       | some x, some lo, some hi, some m => some (.slice0 x lo hi m)
       | _, _, _, _ => none
     | _, _, _ => none
   | _, _ => none
 | .fieldAddr t x f => match P.underlying t with
   | some (.struct fs) => match fs[f]? with
     | some fl => match wJ8 P fl.type, cOpd G x with
       | some s, some x => if s = 0 then none else some (.fieldAddr fl.offset x)
       | _, _ => none
     | none => none
   | _ => none
 | .field t x f => match P.underlying t with
   | some (.struct fs) => match fs[f]? with
     | some fl => match wJ8 P fl.type, yv P fl.type, cOpd G x with
       | some s, some a, some x => some (.field fl.offset a s x)
       | _, _, _ => none
     | none => none
   | _ => none
 | .indexAddr t x i => match P.underlying t with
   | some (.slice e) => match wJ8 P e, cOpd G x, cOpd G i with
     | some s, some x, some i => some (.idx s x i)
     | _, _, _ => none
   | some (.array n e) => match wJ8 P e, cOpd G x, cOpd G i with
     | some s, some x, some i => some (.idxArr n s x i)
     | _, _, _ => none
   | _ => none
 | .index t x i => match P.underlying t with
   | some .string => match cOpd G x, cOpd G i with
     | some x, some i => some (.atStr x i)
     | _, _ => none
   | some (.array n e) => match wJ8 P e, yv P e, cOpd G x, cOpd G i with
     | some s, some a, some x, some i => some (.atArr n s a x i)
     | _, _, _, _ => none
   | _ => none
 | .range t x => match P.underlying t with
   | some .string => (cOpd G x).map .rangeStr
   | _ => none
 | .next x true => (cOpd G x).map .nextStr
 | .typeAssert x _ t ok => match P.underlying t with
   | some (.interface _) => none
   | some _ => match P.info? t with
     | some i => match i.zero with
       | some z => match Qfl z, cOpd G x with
         | some z, some x => some (.assert t z ok x)
         | _, _ => none
       | none => none
     | none => none
   | none => none
 | .extract x i => (cOpd G x).map (.extract i)
 | .panic x => (cOpd G x).map .panic
 | .call c => match c.callee with
   | .builtin b => L2 P G b c.argTypes.toList c.args.toList
   | .value f => match cOpd G f, z9 G c.args.toList with
     | some f, some args => some (.call f args)
     | _, _ => none
   | _ => none
 | .defer c => match c.callee with
   | .value f => match cOpd G f, z9 G c.args.toList with
     | some f, some args => some (.defer f args)
     | _, _ => none
   | _ => none
 | _ => none
end Go.Ab
namespace Go.Ab
variable [Q4]
variable {S S' : Nat -> Nat -> Prop} {w w' : World} {μ μ' : Nat -> Nat -> Option (Nat × Nat)} {P : Program} {G : Bx}
def EnvOK (S : Nat -> Nat -> Prop) (w : World) (μ : Nat -> Nat -> Option (Nat × Nat)) (M : Env) (tmps : Array Value) : Prop :=
 ∀ t v, M.get t = some v -> Rep S w μ v (tmps.getD t undef)
def GlobOK (S : Nat -> Nat -> Prop) (w : World) (G : Bx) : Prop := ∀ g l, G g = some l -> RepCells S w l g 0 /\ S g l.length /\ w.cell? ⟨g, l.length, none⟩ = none
theorem Rw {c : Value} {v : AV} (h : Se c = some v) : Rep S w μ v c /\ one c = true := by
 unfold Se at h
 split at h <;> first
   | (obtain rfl := Option.some.inj h; exact ⟨by first | exact .nil0 | (refine .p ?_; exact .str rfl) | (refine .p ?_; constructor), rfl⟩)
   | cases h
   | (split at h
      · rename_i x y hxy
        obtain ⟨h1, h2⟩ := hxy
        obtain rfl := Option.some.inj h
        obtain rfl : x = #[] := by simpa using h1
        obtain rfl : y = #[] := by simpa using h2
        exact ⟨.p (.fn _), rfl⟩
      · cases h)
theorem V9 {cs : List Value} {vs : List AV} (h : Nd cs = some vs) : RepL S w μ vs cs /\ ∀ c ∈ cs, one c = true := by
 induction cs generalizing vs with
 | nil => simp [Nd] at h; subst h; exact ⟨.nil, by simp⟩
 | cons c r ih =>
   simp only [Nd] at h
   split at h
   · rename_i a l ha hl
     obtain rfl := Option.some.inj h
     obtain ⟨h1, h2⟩ := Rw (S := S) (w := w) (μ := μ) ha
     obtain ⟨h3, h4⟩ := ih hl
     exact ⟨.cons h1 h3, by intro x hx; cases hx with | head => exact h2 | tail _ hx => exact h4 x hx⟩
   · cases h
theorem wn {l : List AV} {ps : List PV} (h : allP l = some ps) : l = ps.map .p := by
 induction l generalizing ps with
 | nil => simp [allP] at h; subst h; rfl
 | cons v r ih =>
   simp only [allP] at h
   split at h
   · split at h
     · rename_i vs hv
       obtain rfl := Option.some.inj h
       simp [ih hv]
     · cases h
   · cases h
theorem za {l : List AV} {cs : Array Value} (h : RepL S w μ l cs.toList) (h1 : ∀ c ∈ cs.toList, one c = true) : Rep S w μ (Qmq l) (.agg cs) := by
 unfold Qmq
 split
 · rename_i ps hp
   rw [wn hp] at h
   exact .p (.agg h.to_pv h1)
 · exact .agg h h1
theorem Qb3 {l : List AV} {cs : Array Value} (h : RepL S w μ l cs.toList) : Rep S w μ (Ur l) (.tuple cs) := by
 unfold Ur
 split
 · rename_i ps hp
   rw [wn hp] at h
   exact .p (.tup h.to_pv)
 · exact .tup h
theorem Qcf {c : Value} {v : AV} (h : Qfl c = some v) : Rep S w μ v c := by
 unfold Qfl at h
 split at h
 · rename_i cs
   cases hl : Nd cs.toList with
   | none => rw [hl] at h; cases h
   | some l =>
     rw [hl] at h
     obtain rfl := Option.some.inj h
     obtain ⟨h1, h2⟩ := V9 (S := S) (w := w) (μ := μ) hl
     exact za h1 h2
 · rename_i t x
   split at h
   · rename_i y hy
     obtain rfl := Option.some.inj h
     have := (Rw (S := S) (w := w) (μ := μ) hy).1
     cases this with | p h => exact .p (.iface h)
   · cases h
 · split at h
   · rename_i x hx
     obtain rfl := Option.some.inj h
     obtain rfl : x = #[] := by simpa using hx
     exact .p .undef
   · cases h
 · exact (Rw h).1
theorem Qbo {c : Value} {l : List AV} (h : Qen c = some l) : RepL S w μ l c.cells.toList /\ ∀ x ∈ c.cells.toList, one x = true := by
 unfold Qen at h
 split at h
 · exact V9 h
 · rename_i x
   cases hl : Se c with
   | none => rw [hl] at h; cases h
   | some l =>
     rw [hl] at h
     obtain rfl := Option.some.inj h
     obtain ⟨h1, h2⟩ := Rw (S := S) (w := w) (μ := μ) hl
     have : c.cells = #[c] := by cases c <;> first | rfl | exact absurd rfl (x _)
     rw [this]
     exact ⟨.cons h1 .nil, by simpa using h2⟩
section
variable {M : Env} {a : Act} (hE : EnvOK S w μ M a.tmps) (hG : GlobOK S w G)
include hE hG
theorem Jn {o : Operand} {x : Opd} {v : AV} (hc : cOpd G o = some x) (hv : ev M x = some v) : Rep S w μ v (a.eval o) := by
 cases o with
 | tmp t => obtain rfl := Option.some.inj hc; exact hE t v hv
 | const c =>
   simp only [cOpd, Option.map_eq_some_iff] at hc
   obtain ⟨y, hy, rfl⟩ := hc
   obtain rfl := Option.some.inj hv
   exact Qcf hy
 | global g =>
   simp only [cOpd, Option.map_eq_some_iff] at hc
   obtain ⟨y, hy, rfl⟩ := hc
   obtain rfl := Option.some.inj hv
   exact .p (.vptr (hG g y hy).1)
 | func f => obtain rfl := Option.some.inj hc; obtain rfl := Option.some.inj hv; exact .p (.fn f)
theorem W6 {o : List Operand} {x : List Opd} {v : List AV} (hc : z9 G o = some x) (hv : evs M x = some v) : RepL S w μ v (o.map a.eval) := by
 induction o generalizing x v with
 | nil => obtain rfl := Option.some.inj hc; obtain rfl := Option.some.inj hv; exact .nil
 | cons y r ih =>
   simp only [z9] at hc
   split at hc
   · rename_i p l hp hl
     obtain rfl := Option.some.inj hc
     simp only [evs] at hv
     split at hv
     · rename_i u us hu hus
       obtain rfl := Option.some.inj hv
       exact .cons (Jn hE hG hp hu) (ih hl hus)
     · cases hv
   · cases hc
theorem jh {o : Option Operand} {x : Option Opd} {v : Option AV} (hc : Qgj G o = some x) (hv : evO M x = some v) :
   (v = none /\ o.map a.eval = none) ∨ ∃ u c, v = some u /\ o.map a.eval = some c /\ Rep S w μ u c := by
 cases o with
 | none => obtain rfl := Option.some.inj hc; obtain rfl := Option.some.inj hv; exact .inl ⟨rfl, rfl⟩
 | some y =>
   simp only [Qgj, Option.map_eq_some_iff] at hc
   obtain ⟨p, hp, rfl⟩ := hc
   simp only [evO, Option.map_eq_some_iff] at hv
   obtain ⟨u, hu, rfl⟩ := hv
   exact .inr ⟨u, _, rfl, rfl, Jn hE hG hp hu⟩
end
theorem I4 (s : ByteArray) : s.toList = s.data.toList := ByteArray.toList_eq s
theorem By (l : List AV) : (Kp l).toList = l := by
 unfold Kp
 split
 · rename_i ps hp; rw [wn hp]; rfl
 · rfl
theorem Q1.get?_toList (c : Q1) (i : Nat) : c.get? i = c.toList[i]? := by cases c <;> simp [Q1.get?, Q1.toList]
theorem Q1.len_toList (c : Q1) : c.len = c.toList.length := by cases c <;> simp [Q1.len, Q1.toList]
theorem No (c : Q1) (n : Nat) : (Bu c n).toList = c.toList.take n := by cases c <;> simp [Bu, Q1.toList]
theorem Qhp (c : Q1) (n : Nat) : (Fd c n).toList = c.toList.drop n := by cases c <;> simp [Fd, Q1.toList]
theorem qu (c d : Q1) : (catC c d).toList = c.toList ++ d.toList := by cases c <;> cases d <;> simp [catC, Q1.toList]
theorem X8 (c d : Q1) (off : Nat) : (O5 c off d).toList = N0 c.toList off d.toList := by
 cases c <;> cases d <;> first | exact By _ | simp [O5, Q1.toList, N0, List.map_take, List.map_drop]
theorem Pr (v : AV) : v.toCells.toList = v.cells := by
 unfold AV.toCells AV.cells
 split <;> simp [Q1.toList]
 split <;> simp_all
end Go.Ab
