/- Code: the interpreter, and that it says what the model does. -/
import Derived.Test.YtikebbklkiodlaaDoorAbA12
import Derived.Scope
import Derived.RangeFuncIn
import Derived.RangeFuncNested
import Derived.RangeFuncLeaves
set_option linter.unusedSectionVars false
set_option linter.unusedSimpArgs false
set_option linter.unusedVariables false
namespace Go.Ab
variable [Marks]
variable {S S' : Nat → Nat → Prop} {w w' w1 : World} {μ μ' : Nat → Nat → Option (Nat × Nat)} {P : Program} {G : Globs} {σ σ' : Heap}

inductive CRes where
  | ret (v : AV)
  | pan (v : AV)
  deriving Inhabited
abbrev Oracle := Nat → List AV → Heap → Option (CRes × Heap)

structure St where
  env : Env
  defers : List (Nat × List AV)
  heap : Heap
  deriving Inhabited

inductive AExit where
  | normal
  | exit (id : Nat)
  | ret
  | pan (v : AV)
  deriving Inhabited

def putE (ρ : Env) (dst : Option Nat) (v : AV) : Env := match dst with
  | some d => (d, v) :: ρ
  | none => ρ
def wantedA (g : Option (Nat × Bool)) (ρ : Env) : Option Bool := match g with
  | none => some true
  | some (d, want) => match ρ.get d with
    | some (.p (.bool b)) => some (b == want)
    | some (.p .undef) => some false
    | _ => none

def stepOp (ρ : Env) (σ : Heap) (op : AOp) : Option (AV × Heap) :=
  match pureOp ρ op with
  | some v => some (v, σ)
  | none => match allocOp ρ op with
    | some (ob, f) => some (f σ.length, σ ++ [ob])
    | none => match readOp ρ σ op with
      | some v => some (v, σ)
      | none => effOp ρ σ op

/-- a function value and its arguments: the function, all that it is handed -/
def dtarget (fv : AV) (args : List AV) : Option (Nat × List AV) := match fv with
  | .p (.fn f) => if 4294967294 ≤ f then none else some (f, args)
  | .clo f first caps => if 4294967294 ≤ f then none else some (f, first ++ args ++ caps)
  | _ => none
/-- the same, where a round may be called: rounds have a number of their own -/
def target (fv : AV) (args : List AV) : Option (Nat × List AV) := match fv with
  | .p (.fn f) => if 4294967294 ≤ f then none else some (f, args)
  | .clo f first caps => if 4294967294 ≤ f then none else some (f, first ++ args ++ caps)
  | .yld id => some (4294967295, .yld id :: args)
  | _ => none

def runOps (C : Oracle) : List AOper → St → Option (AExit × St)
  | [], st => some (.normal, st)
  | o :: r, st => match wantedA o.guard st.env with
    | none => none
    | some false => runOps C r { st with env := putE st.env o.dst (.p .undef) }
    | some true => match o.op with
      | .call f args => match ev st.env f, evs st.env args with
        | some fv, some as => match target fv as with
          | some (f, as) => match C f as st.heap with
            | some (.ret v, σ') => runOps C r { st with env := putE st.env o.dst v, heap := σ' }
            | some (.pan v, σ') => some (.pan v, { st with heap := σ' })
            | none => none
          | none => none
        | _, _ => none
      | .defer f args => match ev st.env f, evs st.env args with
        | some fv, some as => match dtarget fv as with
          | some d => runOps C r { st with env := putE st.env o.dst (.p .undef), defers := d :: st.defers }
          | none => none
        | _, _ => none
      | .panic x => match ev st.env x with
        | some (.p (.iface t v)) => some (.pan (.p (.iface t v)), st)
        | some (.iface t v) => some (.pan (.iface t v), st)
        | _ => none
      | op => match stepOp st.env st.heap op with
        | some (v, σ') => runOps C r { st with env := putE st.env o.dst v, heap := σ' }
        | none => none

mutual
def idsV : AV → List Nat
  | .p _ => []
  | .dead => []
  | .nil0 => []
  | .e0 => []
  | .ptr id _ _ => [id]
  | .yld id => [id]
  | .sl id _ _ _ _ => [id]
  | .clo _ a b => idsL a ++ idsL b
  | .iface _ v => idsV v
  | .agg cs => idsL cs
  | .tup vs => idsL vs
def idsL : List AV → List Nat
  | [] => []
  | v :: r => idsV v ++ idsL r
end
def idsO : Option Obj → List Nat
  | some (.arr (.av l) _ _ _) => idsL l
  | some (.loop _ _ (.av l) _) => idsL l
  | _ => []
def collect (σ : Heap) : Nat → List Nat → List Nat → List Nat
  | 0, _, acc => acc
  | _ + 1, [], acc => acc
  | n + 1, id :: r, acc => match acc.contains id with
    | true => collect σ n r acc
    | false => collect σ n (idsO σ[id]? ++ r) (acc ++ [id])
/-- the objects that a call may change -/
def touch (σ : Heap) (as : List AV) : List Nat := collect σ 100 (idsL as) []
/-- the objects that a call of f may change -/
def touchF (f : Nat) (σ : Heap) (as : List AV) : List Nat := match Marks.raw f with
  | true => List.range σ.length
  | false => touch σ as
theorem touchF_no {f : Nat} {σ : Heap} {as : List AV} {id : Nat} (hlt : id < σ.length) (h : id ∉ touchF f σ as) : Marks.raw f = false ∧ id ∉ touch σ as := by
  unfold touchF at h
  cases hr : Marks.raw f with
  | true => rw [hr] at h; exact absurd (List.mem_range.2 hlt) h
  | false => rw [hr] at h; exact ⟨rfl, h⟩

/- regions whose order the tape draws -/
def optO : Option Opd → List Opd
  | some x => [x]
  | none => []
def opds : AOp → List Opd
  | .mv x => [x]
  | .pick c a b => [c, a, b]
  | .build _ ps => ps.map fun p => p.2.2
  | .nilCheck x => [x]
  | .bin _ x y => [x, y]
  | .un _ x => [x]
  | .convInt _ x => [x]
  | .convStr x => [x]
  | .convRune x => [x]
  | .mkIface _ x => [x]
  | .mkFunc _ a b => a ++ b
  | .fieldAddr _ x => [x]
  | .field _ _ _ x => [x]
  | .idx _ x i => [x, i]
  | .idxArr _ _ x i => [x, i]
  | .atStr x i => [x, i]
  | .atArr _ _ _ x i => [x, i]
  | .sliceStr x a b => x :: (optO a ++ optO b)
  | .slice _ x a b => x :: (optO a ++ optO b)
  | .slice0 x a b c => [x, a, b, c]
  | .assert _ _ _ x => [x]
  | .extract _ x => [x]
  | .len _ x => [x]
  | .lenC _ => []
  | .minmax _ xs => xs
  | .alloc _ _ => []
  | .box _ x => [x]
  | .buildSlice _ _ _ ps => ps.map fun p => p.2.2
  | .buildVals _ _ _ ps => ps.map fun p => p.2.2
  | .strBytes x => [x]
  | .makeSlice _ _ l c => [l, c]
  | .rangeStr x => [x]
  | .sliceArr _ _ x a b => x :: (optO a ++ optO b)
  | .load _ _ x => [x]
  | .bytesStr x => [x]
  | .sliceData x => [x]
  | .store _ x v => [x, v]
  | .append _ _ _ s x => [s, x]
  | .appendZ _ _ _ s n => [s, n]
  | .copy _ d s => [d, s]
  | .clear _ _ x => [x]
  | .nextStr x => [x]
  | .unsafeStr _ p n => [p, n]
  | .call f as => f :: as
  | .defer f as => f :: as
  | .panic x => [x]
  | .recover => []
def tmpsOf : List Opd → List Nat
  | [] => []
  | .t n :: r => n :: tmpsOf r
  | _ :: r => tmpsOf r
def readsOf (o : AOper) : List Nat := (match o.guard with
  | some (d, _) => [d]
  | none => []) ++ tmpsOf (opds o.op)
/-- operations that may make or write an object, or call -/
def isE : AOp → Bool
  | .alloc _ _ | .box _ _ | .buildSlice _ _ _ _ | .strBytes _ | .makeSlice _ _ _ _ | .rangeStr _ | .store _ _ _ | .append _ _ _ _ _ | .appendZ _ _ _ _ _ | .unsafeStr _ _ _ | .copy _ _ _ | .clear _ _ _ | .nextStr _ | .call _ _ | .defer _ _ | .panic _ | .recover => true
  | _ => false

def refV : AV → List Nat
  | .ptr id _ _ => [id]
  | .sl id _ _ _ _ => [id]
  | _ => []
/-- the objects that an operation that writes writes -/
def wrIds (ρ : Env) (σ : Heap) : AOp → List Nat
  | .store _ x _ => match ev ρ x with
    | some v => refV v
    | none => []
  | .append _ _ _ s _ => match ev ρ s with
    | some v => refV v
    | none => []
  | .appendZ _ _ _ s _ => match ev ρ s with
    | some v => refV v
    | none => []
  | .copy _ d _ => match ev ρ d with
    | some v => refV v
    | none => []
  | .clear _ _ x => match ev ρ x with
    | some v => refV v
    | none => []
  | .nextStr x => match ev ρ x with
    | some v => refV v
    | none => []
  | .unsafeStr _ p _ => match ev ρ p with
    | some v => refV v
    | none => []
  | .call f args => match ev ρ f, evs ρ args with
    | some fv, some as => match target fv as with
      | some d => touchF d.1 σ d.2
      | none => []
    | _, _ => []
  | _ => []
def refOf (ρ : Env) : List Opd → Option Nat
  | [] => none
  | x :: r => match ev ρ x with
    | some v => match refV v with
      | [id] => some id
      | _ => refOf ρ r
    | none => refOf ρ r
def oneH (id : Nat) (ob : Obj) : Heap := List.replicate id .none ++ [ob]

/-- a run in the order of the text; which objects are read, and which written -/
structure Tr where
  st : St
  rds : List (Nat × Nat)
  wrs : List (Nat × Nat × List Nat)

def carry (ρ : Env) (dst : Option Nat) (ρ1 : Env) : Env := match dst with
  | some d => match ρ1.get d with
    | some v => (d, v) :: ρ
    | none => (d, .dead) :: ρ
  | none => ρ

def keepE (ρ : Env) : List Nat → Env
  | [] => []
  | t :: r => match ρ.get t with
    | some v => (t, v) :: keepE ρ r
    | none => keepE ρ r
def stillOp (ρ : Env) (σ : Heap) (op : AOp) : Option (AV × Option Nat) :=
  match pureOp ρ op with
  | some v => some (v, none)
  | none => match valsOp ρ op with
  | some v => some (.p v, none)
  | none => match refOf ρ (opds op) with
    | none => match readOp ρ [] op with
      | some v => some (v, none)
      | none => none
    | some id => match σ[id]? with
      | some ob => match readOp ρ (oneH id ob) op with
        | some v => some (v, some id)
        | none => none
      | none => none

def drawRun (C : Oracle) : Nat → List AOper → Tr → Option (Option (Nat × AV) × Tr)
  | _, [], s => some (none, s)
  | i, o :: r, s =>
    match wantedA o.guard (keepE s.st.env (readsOf o)) with
    | none => none
    | some false => drawRun C (i + 1) r { s with st := { s.st with env := putE s.st.env o.dst (.p .undef) } }
    | some true =>
      match isE o.op with
      | true => match runOps C [o] { s.st with env := keepE s.st.env (readsOf o) } with
        | some (.normal, st1) => drawRun C (i + 1) r ⟨{ st1 with env := carry s.st.env o.dst st1.env }, s.rds, (i, s.st.heap.length, wrIds (keepE s.st.env (readsOf o)) s.st.heap o.op) :: s.wrs⟩
        | some (.pan v, st1) => some (some (i, v), { s with st := st1 })
        | _ => none
      | false => match stillOp (keepE s.st.env (readsOf o)) s.st.heap o.op with
        | some (v, none) => drawRun C (i + 1) r { s with st := { s.st with env := putE s.st.env o.dst v } }
        | some (v, some id) => drawRun C (i + 1) r ⟨{ s.st with env := putE s.st.env o.dst v }, (i, id) :: s.rds, s.wrs⟩
        | none => none

def bef (anc : List Nat) (j i : Nat) : Bool := (anc.getD i 0).testBit j
/-- an object that is made without regard to the calls around it -/
def isFree (anc : List Nat) (aos : List AOper) (k : Nat) : Bool := match aos[k]? with
  | some ak => (match ak.op, ak.guard, ak.dst with
      | .alloc _ _, none, some _ => true
      | _, _, _ => false) && (List.range aos.length).any fun i => match aos[i]? with
        | some ai => isE ai.op && !(decide (i = k)) && !(if k < i then bef anc k i else bef anc i k)
        | none => false
  | none => false
/-- is a call or the like between the two? -/
def between (anc : List Nat) (aos : List AOper) (k i : Nat) : Bool := (List.range aos.length).any fun j => match aos[j]? with
  | some aj => decide (k < j) && isE aj.op && !(isFree anc aos j) && bef anc j i
  | none => false
def okRW (anc : List Nat) (aos : List AOper) (s : Tr) : Bool :=
  s.rds.all fun r => s.wrs.all fun x => (bef anc x.1 r.1 || bef anc r.1 x.1 || (decide (r.2 < x.2.1) && !x.2.2.contains r.2)) &&
    (!(decide (x.1 < r.1) && isFree anc aos x.1) || (decide (r.2 < x.2.1) && !x.2.2.contains r.2) || between anc aos x.1 r.1)
def lateOK (anc : List Nat) (n p : Nat) : Bool := (List.range n).all fun k => decide (k ≤ p) || bef anc p k
def dsts : List AOper → List Nat
  | [] => []
  | o :: r => match o.dst with
    | some d => d :: dsts r
    | none => dsts r
def dropE : Env → List Nat → Env
  | [], _ => []
  | (t, v) :: r, l => match l.contains t with
    | true => dropE r l
    | false => (t, v) :: dropE r l
def drawExec (C : Oracle) (n : Nat) (anc : List Nat) (ops : List AOper) (st : St) : Option (AExit × St) :=
  match drawRun C 0 ops ⟨st, [], []⟩ with
  | some (none, s) => if okRW anc ops s then some (.normal, s.st) else none
  | some (some (p, v), s) => if okRW anc ops s && lateOK anc n p then some (.pan v, { s.st with env := dropE st.env (dsts ops) }) else none
  | none => none

def St.keep (st : St) : Option (List Nat) → St
  | none => st
  | some l => { st with env := keepE st.env l }

def Jmp.ex : Jmp → AExit
  | .exit id => .exit id
  | .ret => .ret
def iter (f : St → Option (AExit × St)) (live : Option (List Nat)) : Nat → St → Option (AExit × St)
  | 0, _ => none
  | n + 1, st => match f (st.keep live) with
    | some (.normal, st') => iter f live n st'
    | r => r

def runVals (C : Oracle) : List AOper → St → Option (AExit × St)
  | [], st => some (.normal, st)
  | o :: r, st => match o.op with
    | .buildVals z l e ps => match wantedA o.guard st.env with
      | some true => match valsOp st.env (.buildVals z l e ps) with
        | some v => runVals C r { st with env := putE st.env o.dst (.p v) }
        | none => none
      | some false => runVals C r { st with env := putE st.env o.dst (.p .undef) }
      | none => none
    | _ => match runOps C [o] st with
      | some (.normal, st') => runVals C r st'
      | x => x
def exec (C : Oracle) (L : Nat) : ACode → St → Option (AExit × St)
  | .skip, st => some (.normal, st)
  | .bad, _ => none
  | .region ops, st => runOps C ops st
  | .draw n anc ops, st => drawExec C n anc ops st
  | .vals ops, st => runVals C ops st
  | .seq a b, st => match exec C L a st with
    | some (.normal, st') => exec C L b st'
    | r => r
  | .cond c a b, st => match ev st.env c with
    | some (.p (.bool t)) => match t with
      | true => exec C L a st
      | false => exec C L b st
    | _ => none
  | .block id b, st => match exec C L b st with
    | some (.exit id', st') => if id' = id then some (.normal, st') else some (.exit id', st')
    | r => r
  | .loop live b, st => iter (exec C L b) live L st
  | .exit id, st => some (.exit id, st)
  | .ret, st => some (.ret, st)
  | .rng ps a b g ts, st => match ev st.env g with
    | some gv => match dtarget gv [.yld (st.heap.length + 1)] with
      | some (f, as) =>
        match C f as (st.heap ++ [.mark, .loop (ps, a, b) ((keepE st.env ts).map (·.1)) (mkCells ((keepE st.env ts).map (·.2))) .ready]) with
        | some (.ret _, σ2) => match σ2[st.heap.length + 1]? with
          | some (.loop k ts' c .ready) => some (.normal, ⟨st.env, (4294967294, [.ptr st.heap.length 0 0]) :: st.defers, σ2.set (st.heap.length + 1) (.loop k ts' c .over)⟩)
          | some (.loop k ts' c (.done j)) => some (j.ex, ⟨st.env, (4294967294, [.ptr st.heap.length 0 0]) :: st.defers, σ2.set (st.heap.length + 1) (.loop k ts' c .over)⟩)
          | _ => none
        | _ => none
      | none => none
    | none => none

def dstOk (N : Nat) : Option Nat → Bool
  | some d => decide (d < N)
  | none => true

/-- the model's code turned -/
def cOper (P : Program) (G : Globs) (N : Nat) (ops : Array Oper) (o : Oper) : Option AOper :=
  match cOp P G o.op with
  | none => none
  | some ao =>
    if dstOk N o.dst = true then
      match o.guard with
      | none => some ⟨o.dst, ao, none⟩
      | some (j, want) => match (ops[j]?).bind (·.dst) with
        | some d => some ⟨o.dst, ao, some (d, want)⟩
        | none => none
    else none
def cOpers (P : Program) (G : Globs) (N : Nat) (ops : Array Oper) : List Oper → Option (List AOper)
  | [] => some []
  | o :: r => match cOper P G N ops o, cOpers P G N ops r with
    | some a, some l => some (a :: l)
    | _, _ => none
def direct (o : Oper) : List Nat := (o.after.toList.filter (Region.binds .any)).map (·.on)
def ancMask (l : List Nat) (acc : List Nat) : Nat := l.foldr (fun j s => s ||| 2 ^ j ||| acc.getD j 0) 0
def ancsOf : List Oper → List Nat → List Nat
  | [], acc => acc
  | o :: r, acc => ancsOf r (acc ++ [ancMask (direct o) acc])
/-- order enough: every order of the region reads and writes the same -/
def drawOK (anc : List Nat) (ops : List Oper) (aos : List AOper) : Bool :=
  (List.range aos.length).all fun i => match ops[i]?, aos[i]? with
    | some o, some ao => (direct o).all (fun j => decide (j < i)) && (List.range aos.length).all fun k => match aos[k]? with
      | some ak => decide (k = i) || (
          (match ak.dst with
            | some d => (match ao.dst with
              | some d' => !(Nat.beq d d')
              | none => true) && (!(readsOf ao).contains d || ((if k < i then bef anc k i else bef anc i k) && (!(isFree anc aos k) || (isE ao.op && !(isFree anc aos i)))))
            | none => true) &&
          (!(isE ao.op && isE ak.op) || (if k < i then bef anc k i else bef anc i k) || (if k < i then isFree anc aos i else isFree anc aos k)))
      | none => false
    | _, _ => false
/-- slices that are made are not written afterwards -/
def imOp : AOp → AOp
  | .buildSlice z l e ps => .buildVals z l e ps
  | op => op
def imO (o : AOper) : AOper := { o with op := imOp o.op }
/-- in this function slices that are made are not written -/
def flag : List (List Nat) → Bool
  | [4294967295] :: _ => true
  | _ => false
def cRegion (P : Program) (G : Globs) (N : Nat) (im : Bool) (ops : Array Oper) : Bool → ACode
  | false => match cOpers P G N ops ops.toList with
    | some l => if im then .vals (l.map imO) else .region l
    | none => .bad
  | true => match cOpers P G N ops ops.toList with
    | some l => if (P.follows .mixedOrders || !Region.departs ops) && drawOK (ancsOf ops.toList []) ops.toList l then .draw ops.size (ancsOf ops.toList []) l
      else if (P.follows .mixedOrders || !Region.departs ops) && drawOK (ancsOf ops.toList []) ops.toList (l.map imO) then .draw ops.size (ancsOf ops.toList []) (l.map imO) else .bad
    | none => .bad
/-- code of a round: no deferred calls, no loop over a function -/
def AOper.calm (o : AOper) : Bool := match o.op with
  | .defer _ _ => false
  | _ => true
def ACode.calm : ACode → Bool
  | .region ops => ops.all AOper.calm
  | .draw _ _ ops => ops.all AOper.calm
  | .vals ops => ops.all AOper.calm
  | .seq a b => a.calm && b.calm
  | .cond _ a b => a.calm && b.calm
  | .block _ b => b.calm
  | .loop _ b => b.calm
  | .rng _ _ _ _ _ => false
  | _ => true
def readsC : ACode → List Nat
  | .region ops => ops.flatMap readsOf
  | .draw _ _ ops => ops.flatMap readsOf
  | .vals ops => ops.flatMap readsOf
  | .seq a b => readsC a ++ readsC b
  | .cond c a b => tmpsOf [c] ++ (readsC a ++ readsC b)
  | .block _ b => readsC b
  | .loop _ b => readsC b
  | .rng _ a b g _ => tmpsOf [g] ++ (readsC a ++ readsC b)
  | _ => []
def once : List Nat → List Nat → List Nat
  | [], acc => acc
  | x :: r, acc => match acc.contains x with
    | true => once r acc
    | false => once r (x :: acc)
def cCode (P : Program) (G : Globs) (N : Nat) : Code → List (List Nat) → Option (ACode × List (List Nat))
  | .skip, h => some (.skip, h)
  | .label _, h => some (.skip, h)
  | .region _ ops dr, h => some (cRegion P G N (flag h) ops dr, h)
  | .seq a b, h => match cCode P G N a h with
    | some (x, h) => match cCode P G N b h with
      | some (y, h) => some (.seq x y, h)
      | none => none
    | none => none
  | .cond c a b, h => match cOpd G c, cCode P G N a h with
    | some c, some (x, h) => match cCode P G N b h with
      | some (y, h) => some (.cond c x y, h)
      | none => none
    | _, _ => none
  | .block id b, h => match cCode P G N b h with
    | some (x, h) => some (.block id x, h)
    | none => none
  | .loop b, h => match cCode P G N b (if flag h then h else h.tail) with
    | some (x, h') => some (.loop (if flag h then none else h.head?) x, h')
    | none => none
  | .scope b, h => cCode P G N b h
  | .exit id, h => some (.exit id, h)
  | .ret, h => some (.ret, h)
  | .goto _, h => some (.bad, h)
  | .refuse _, h => some (.bad, h)
  | .rangeFunc g ps a b, h => match cOpd G g, cCode P G N a h with
    | some g, some (x, h1) => match cCode P G N b h1 with
      | some (y, h2) => if x.calm && y.calm && ps.toList.all (· < N) then some (.rng ps.toList x y g (once (readsC x ++ readsC y) []), h2) else some (.bad, h2)
      | none => none
    | _, _ => none

def ResRep (S : Nat → Nat → Prop) (w : World) (μ : Nat → Nat → Option (Nat × Nat)) : CRes → Ending → Prop
  | .ret v, .returned c => Rep S w μ v c
  | .pan v, .panicked l => ∃ c, l = [{ v := c, recovered := false }] ∧ Rep S w μ v c
  | _, _ => False

/-- a call of what a loop over a function hands it, with it ahead of the arguments -/
def RoundC (P : Program) (cargs : Array Value) (w : World) (R : Ending → World → Prop) : Prop :=
  ∃ l as, cargs = #[.func (.yield l) #[] #[]] ++ as ∧ ∃ fn tmps assign body, (Instr.yield l as).run P w = .ok (.round l fn tmps assign body) w ∧ ∀ n, RoundIn Fence.wide n P l fn tmps assign body w R

/-- calls change what their arguments lead to alone -/
def Tame (C : Oracle) : Prop := ∀ f args (σ : Heap) r (σ' : Heap), C f args σ = some (r, σ') → ∀ id, id < σ.length → id ∉ touchF f σ args → σ'[id]? = σ[id]?
/-- an oracle tells what calls do -/
def OracleOK (P : Program) (G : Globs) (C : Oracle) : Prop :=
  ((∀ f args σ r σ', C f args σ = some (r, σ') → f ≠ 4294967295 → ∀ μ S w (cargs : Array Value), Good μ S w σ → GlobOK S w G → RepL S w μ args cargs.toList →
    (∃ fn c, P.funcs[f]? = some fn ∧ fn.body = some c ∧ fn.name ≠ "runtime.NumGoroutine") ∧
    Calls P f cargs w fun e w' => ∃ μ' S', Good μ' S' w' σ' ∧ Frm μ S w σ μ' S' w' σ' ∧ ResRep S' w' μ' r e) ∧
   (∀ args σ r σ', C 4294967295 args σ = some (r, σ') → ∀ μ S w (cargs : Array Value), Good μ S w σ → GlobOK S w G → RepL S w μ args cargs.toList →
    RoundC P cargs w fun e w' => ∃ μ' S', Good μ' S' w' σ' ∧ Frm μ S w σ μ' S' w' σ' ∧ ResRep S' w' μ' r e)) ∧ Tame C

def DefRep (S : Nat → Nat → Prop) (w : World) (μ : Nat → Nat → Option (Nat × Nat)) : List (Nat × List AV) → List Deferred → Prop
  | [], [] => True
  | (f, as) :: r, d :: ds => ((f ≠ 4294967294 ∧ ∃ caps, d.target = .fn (.func f) caps ∧ RepL S w μ as (d.args ++ caps).toList) ∨
      (f = 4294967294 ∧ d.args = #[] ∧ ∃ id b n, as = [.ptr id 0 0] ∧ μ id 0 = some (b, n) ∧ d.target = .collected b)) ∧ DefRep S w μ r ds
  | _, _ => False

structure StOK (G : Globs) (N : Nat) (μ : Nat → Nat → Option (Nat × Nat)) (S : Nat → Nat → Prop) (w : World) (st : St) (a : Act) : Prop where
  env : EnvOK S w μ st.env a.tmps
  glob : GlobOK S w G
  good : Good μ S w st.heap
  size : a.tmps.size = N
  defers : DefRep S w μ st.defers a.defers

theorem GlobOK.mono (h : GlobOK S w G) (hS : ∀ b o, S b o → S' b o ∧ w'.cell? ⟨b, o, none⟩ = w.cell? ⟨b, o, none⟩) : GlobOK S' w' G := fun g l hl =>
  ⟨(h g l hl).1.mono hS, (hS _ _ (h g l hl).2.1).1, by rw [(hS _ _ (h g l hl).2.1).2]; exact (h g l hl).2.2⟩
theorem EnvOK.mono {ρ : Env} {t : Array Value} (h : EnvOK S w μ ρ t) (hS : ∀ b o, S b o → S' b o ∧ w'.cell? ⟨b, o, none⟩ = w.cell? ⟨b, o, none⟩) (hμ : ∀ id ver x, μ id ver = some x → μ' id ver = some x) : EnvOK S' w' μ' ρ t :=
  fun k v hk => (h k v hk).mono hS hμ
theorem DefRep.mono (hS : ∀ b o, S b o → S' b o ∧ w'.cell? ⟨b, o, none⟩ = w.cell? ⟨b, o, none⟩) (hμ : ∀ id ver x, μ id ver = some x → μ' id ver = some x) :
    ∀ {l : List (Nat × List AV)} {ds : List Deferred}, DefRep S w μ l ds → DefRep S' w' μ' l ds
  | [], [], _ => trivial
  | (_, _) :: _, _ :: _, ⟨.inl ⟨h0, caps, h1, h2⟩, h3⟩ => ⟨.inl ⟨h0, caps, h1, h2.mono hS hμ⟩, DefRep.mono hS hμ h3⟩
  | (_, _) :: _, _ :: _, ⟨.inr ⟨h0, h1, id, b, n, h2, h4, h5⟩, h3⟩ => ⟨.inr ⟨h0, h1, id, b, n, h2, hμ _ _ _ h4, h5⟩, DefRep.mono hS hμ h3⟩

theorem Frm.trans {μ1 μ2 : Nat → Nat → Option (Nat × Nat)} {S1 S2 : Nat → Nat → Prop} {w2 : World} {σ1 σ2 : Heap} (h : Frm μ S w σ μ1 S1 w1 σ1) (k : Frm μ1 S1 w1 σ1 μ2 S2 w2 σ2) : Frm μ S w σ μ2 S2 w2 σ2 where
  os := k.os.trans h.os
  tape := k.tape.trans h.tape
  output := k.output.trans h.output
  size := Nat.le_trans h.size k.size
  keepS := fun b o hs => ⟨(k.keepS b o (h.keepS b o hs).1).1, (k.keepS b o (h.keepS b o hs).1).2.trans (h.keepS b o hs).2⟩
  keepB := fun b hb hd => by
    rw [k.keepB b (by have := h.size; omega) (fun hd1 => by rcases h.newD b hd1 with h1 | h1; exact hd h1; omega), h.keepB b hb hd]
  newS := fun b o hs => by
    rcases k.newS b o hs with h1 | h1 | h1
    · exact h.newS b o h1
    · rcases h.newD b h1 with h2 | h2
      · exact .inr (.inl h2)
      · exact .inr (.inr h2)
    · exact .inr (.inr (Nat.le_trans h.size h1))
  newD := fun b hd => by
    rcases k.newD b hd with h1 | h1
    · exact h.newD b h1
    · exact .inr (Nat.le_trans h.size h1)
  mu := fun id ver x hx => k.mu _ _ _ (h.mu _ _ _ hx)

theorem StOK.step {N : Nat} {st : St} {a : Act} {S1 : Nat → Nat → Prop} {μ1 : Nat → Nat → Option (Nat × Nat)} {σ1 : Heap} (h : StOK G N μ S w st a) (hg : Good μ1 S1 w1 σ1) (hf : Frm μ S w st.heap μ1 S1 w1 σ1) :
    StOK G N μ1 S1 w1 { st with heap := σ1 } a :=
  ⟨h.env.mono hf.keepS hf.mu, h.glob.mono hf.keepS, hg, h.size, h.defers.mono hf.keepS hf.mu⟩

theorem Env.get_cons (k : Nat) (v : AV) (r : Env) (t : Nat) : Env.get ((k, v) :: r) t = if k = t then some v else r.get t := by
  simp only [Env.get]
  by_cases h : k = t
  · subst h; simp
  · rw [if_neg h]
    have : Nat.beq k t = false := by
      cases hb : Nat.beq k t with
      | false => rfl
      | true => exact absurd (Nat.eq_of_beq_eq_true hb) h
    rw [this]
    simp

theorem StOK.put {N : Nat} {st : St} {a : Act} {dst : Option Nat} {v : AV} {c : Value} (h : StOK G N μ S w st a) (hd : dstOk N dst = true) (hv : Rep S w μ v c) :
    StOK G N μ S w { st with env := putE st.env dst v } (a.put dst c) := by
  cases dst with
  | none => exact ⟨h.env, h.glob, h.good, h.size, h.defers⟩
  | some d =>
    simp only [dstOk, decide_eq_true_eq] at hd
    refine ⟨?_, h.glob, h.good, ?_, h.defers⟩
    · intro t u ht
      simp only [putE, Env.get_cons] at ht
      have hsz := h.size
      by_cases hdt : d = t
      · subst hdt
        rw [if_pos rfl] at ht
        obtain rfl := Option.some.inj ht
        have : (a.put (some d) c).tmps.getD d undef = c := by
          simp [Act.put, hsz, hd]
        rw [this]; exact hv
      · rw [if_neg hdt] at ht
        have : (a.put (some d) c).tmps.getD t undef = a.tmps.getD t undef := by
          simp [Act.put, hdt]
        rw [this]; exact h.env t u ht
    · simp [Act.put, h.size]

theorem step_sound {N : Nat} {st : St} {a : Act} {o : Oper} {ao : AOp} {v : AV} (h : StOK G N μ S w st a) (hc : cOp P G o.op = some ao) (hv : stepOp st.env st.heap ao = some (v, σ')) :
    Acts P S w μ st.heap (execOp a.eval o) v σ' := by
  unfold stepOp at hv
  split at hv
  · rename_i u hu
    simp only [Option.some.injEq, Prod.mk.injEq] at hv
    obtain ⟨rfl, rfl⟩ := hv
    obtain ⟨c, h1, h2⟩ := pure_sound h.env h.glob hc hu w
    exact ⟨_, c, w, μ, h1, .value _, h.good, .refl _ _ _ _, h2⟩
  · split at hv
    · rename_i ob f hob
      simp only [Option.some.injEq, Prod.mk.injEq] at hv
      obtain ⟨rfl, rfl⟩ := hv
      obtain ⟨c, w1, n, h1, h2, h3, h4⟩ := alloc_sound h.env h.glob h.good hc hob
      exact ⟨_, c, w1, _, h1, .value _, h2, h3, h4⟩
    · split at hv
      · rename_i u hu
        simp only [Option.some.injEq, Prod.mk.injEq] at hv
        obtain ⟨rfl, rfl⟩ := hv
        obtain ⟨c, h1, h2⟩ := read_sound h.env h.glob h.good.obj hc hu
        exact ⟨_, c, w, μ, h1, .value _, h.good, .refl _ _ _ _, h2⟩
      · exact eff_sound h.env h.glob h.good hc hv

end Go.Ab
