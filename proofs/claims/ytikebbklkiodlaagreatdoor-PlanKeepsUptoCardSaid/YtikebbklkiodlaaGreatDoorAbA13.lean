/- A13 -/
import Derived.Test.YtikebbklkiodlaaGreatDoorAbA12
import Derived.Scope
import Derived.RangeFuncIn
import Derived.RangeFuncNested
import Derived.RangeFuncLeaves
set_option maxRecDepth 1000000
set_option linter.all false
namespace Go.Ab
variable [Q4]
variable {S S' : Nat -> Nat -> Prop} {w w' w1 : World} {μ μ' : Nat -> Nat -> Option (Nat × Nat)} {P : Program} {G : Bx} {σ σ' : Heap}
inductive CRes where
 | ret (v : AV)
 | pan (v : AV)
 deriving Inhabited
abbrev Zj := Nat -> List AV -> Heap -> Option (CRes × Heap)
structure St where
 env : Env
 defers : List (Nat × List AV)
 heap : Heap
 deriving Inhabited
inductive AExit where
 | normal
 | exit (id : Nat)
 | ret
 | pan (v : AV)
 deriving Inhabited
def putE (M : Env) (dst : Option Nat) (v : AV) : Env := match dst with
 | some d => (d, v) :: M
 | none => M
def Hv (g : Option (Nat × Bool)) (M : Env) : Option Bool := match g with
 | none => some true
 | some (d, want) => match M.get d with
   | some (.p (.bool b)) => some (b == want)
   | some (.p .undef) => some false
   | _ => none
def yk (M : Env) (σ : Heap) (op : AOp) : Option (AV × Heap) :=
 match G2 M op with
 | some v => some (v, σ)
 | none => match Jp M op with
   | some (ob, f) => some (f σ.length, σ ++ [ob])
   | none => match Gw M σ op with
     | some v => some (v, σ)
     | none => Be M σ op
def Wn (fv : AV) (args : List AV) : Option (Nat × List AV) := match fv with
 | .p (.fn f) => if 4294967294 <= f then none else some (f, args)
 | .clo f first caps => if 4294967294 <= f then none else some (f, first ++ args ++ caps)
 | _ => none
def target (fv : AV) (args : List AV) : Option (Nat × List AV) := match fv with
 | .p (.fn f) => if 4294967294 <= f then none else some (f, args)
 | .clo f first caps => if 4294967294 <= f then none else some (f, first ++ args ++ caps)
 | .yld id => some (4294967295, .yld id :: args)
 | _ => none
def Me (C : Zj) : List AOper -> St -> Option (AExit × St)
 | [], st => some (.normal, st)
 | o :: r, st => match Hv o.guard st.env with
   | none => none
   | some false => Me C r { st with env := putE st.env o.dst (.p .undef) }
   | some true => match o.op with
     | .call f args => match ev st.env f, evs st.env args with
       | some fv, some as => match target fv as with
         | some (f, as) => match C f as st.heap with
           | some (.ret v, σ') => Me C r { st with env := putE st.env o.dst v, heap := σ' }
           | some (.pan v, σ') => some (.pan v, { st with heap := σ' })
           | none => none
         | none => none
       | _, _ => none
     | .defer f args => match ev st.env f, evs st.env args with
       | some fv, some as => match Wn fv as with
         | some d => Me C r { st with env := putE st.env o.dst (.p .undef), defers := d :: st.defers }
         | none => none
       | _, _ => none
     | .panic x => match ev st.env x with
       | some (.p (.iface t v)) => some (.pan (.p (.iface t v)), st)
       | some (.iface t v) => some (.pan (.iface t v), st)
       | _ => none
     | op => match yk st.env st.heap op with
       | some (v, σ') => Me C r { st with env := putE st.env o.dst v, heap := σ' }
       | none => none
mutual
def idsV : AV -> List Nat
 | .p _ => []
 | .dead => []
 | .nil0 => []
 | .e0 => []
 | .ptr id _ _ => [id]
 | .yld id => [id]
 | .sl id _ _ _ _ => [id]
 | .clo _ a b => idsL a ++ idsL b
 | .iface _ v => idsV v
 | .agg cs => idsL cs
 | .tup vs => idsL vs
def idsL : List AV -> List Nat
 | [] => []
 | v :: r => idsV v ++ idsL r
end
def idsO : Option Obj -> List Nat
 | some (.arr (.av l) _ _ _) => idsL l
 | some (.loop _ _ (.av l) _) => idsL l
 | _ => []
def D9 (σ : Heap) : Nat -> List Nat -> List Nat -> List Nat
 | 0, _, acc => acc
 | _ + 1, [], acc => acc
 | n + 1, id :: r, acc => match acc.contains id with
   | true => D9 σ n r acc
   | false => D9 σ n (idsO σ[id]? ++ r) (acc ++ [id])
def Eo (σ : Heap) (as : List AV) : List Nat := D9 σ 100 (idsL as) []
def Oe (f : Nat) (σ : Heap) (as : List AV) : List Nat := match Q4.raw f with
 | true => List.range σ.length
 | false => Eo σ as
theorem Qos {f : Nat} {σ : Heap} {as : List AV} {id : Nat} (hlt : id < σ.length) (h : id ∉ Oe f σ as) : Q4.raw f = false /\ id ∉ Eo σ as := by
 unfold Oe at h
 cases hr : Q4.raw f with
 | true => rw [hr] at h; exact absurd (List.mem_range.2 hlt) h
 | false => rw [hr] at h; exact ⟨rfl, h⟩
/- regions whose Qcn the tape draws -/
def optO : Option Opd -> List Opd
 | some x => [x]
 | none => []
def opds : AOp -> List Opd
 | .mv x => [x]
 | .pick c a b => [c, a, b]
 | .build _ ps => ps.map fun p => p.2.2
 | .nilCheck x => [x]
 | .bin _ x y => [x, y]
 | .un _ x => [x]
 | .convInt _ x => [x]
 | .convStr x => [x]
 | .convRune x => [x]
 | .mkIface _ x => [x]
 | .mkFunc _ a b => a ++ b
 | .fieldAddr _ x => [x]
 | .field _ _ _ x => [x]
 | .idx _ x i => [x, i]
 | .idxArr _ _ x i => [x, i]
 | .atStr x i => [x, i]
 | .atArr _ _ _ x i => [x, i]
 | .sliceStr x a b => x :: (optO a ++ optO b)
 | .slice _ x a b => x :: (optO a ++ optO b)
 | .slice0 x a b c => [x, a, b, c]
 | .assert _ _ _ x => [x]
 | .extract _ x => [x]
 | .len _ x => [x]
 | .lenC _ => []
 | .minmax _ xs => xs
 | .alloc _ _ => []
 | .box _ x => [x]
 | .buildSlice _ _ _ ps => ps.map fun p => p.2.2
 | .buildVals _ _ _ ps => ps.map fun p => p.2.2
 | .strBytes x => [x]
 | .makeSlice _ _ l c => [l, c]
 | .rangeStr x => [x]
 | .sliceArr _ _ x a b => x :: (optO a ++ optO b)
 | .load _ _ x => [x]
 | .bytesStr x => [x]
 | .sliceData x => [x]
 | .store _ x v => [x, v]
 | .append _ _ _ s x => [s, x]
 | .appendZ _ _ _ s n => [s, n]
 | .copy _ d s => [d, s]
 | .clear _ _ x => [x]
 | .nextStr x => [x]
 | .unsafeStr _ p n => [p, n]
 | .call f as => f :: as
 | .defer f as => f :: as
 | .panic x => [x]
 | .recover => []
def Qc0 : List Opd -> List Nat
 | [] => []
 | .t n :: r => n :: Qc0 r
 | _ :: r => Qc0 r
def Yw (o : AOper) : List Nat := (match o.guard with
 | some (d, _) => [d]
 | none => []) ++ Qc0 (opds o.op)
def isE : AOp -> Bool
 | .alloc _ _ | .box _ _ | .buildSlice _ _ _ _ | .strBytes _ | .makeSlice _ _ _ _ | .rangeStr _ | .store _ _ _ | .append _ _ _ _ _ | .appendZ _ _ _ _ _ | .unsafeStr _ _ _ | .copy _ _ _ | .clear _ _ _ | .nextStr _ | .call _ _ | .defer _ _ | .panic _ | .recover => true
 | _ => false
def refV : AV -> List Nat
 | .ptr id _ _ => [id]
 | .sl id _ _ _ _ => [id]
 | _ => []
def Nz (M : Env) (σ : Heap) : AOp -> List Nat
 | .store _ x _ => match ev M x with
   | some v => refV v
   | none => []
 | .append _ _ _ s _ => match ev M s with
   | some v => refV v
   | none => []
 | .appendZ _ _ _ s _ => match ev M s with
   | some v => refV v
   | none => []
 | .copy _ d _ => match ev M d with
   | some v => refV v
   | none => []
 | .clear _ _ x => match ev M x with
   | some v => refV v
   | none => []
 | .nextStr x => match ev M x with
   | some v => refV v
   | none => []
 | .unsafeStr _ p _ => match ev M p with
   | some v => refV v
   | none => []
 | .call f args => match ev M f, evs M args with
   | some fv, some as => match target fv as with
     | some d => Oe d.1 σ d.2
     | none => []
   | _, _ => []
 | _ => []
def V3 (M : Env) : List Opd -> Option Nat
 | [] => none
 | x :: r => match ev M x with
   | some v => match refV v with
     | [id] => some id
     | _ => V3 M r
   | none => V3 M r
def oneH (id : Nat) (ob : Obj) : Heap := List.replicate id .none ++ [ob]
structure Tr where
 st : St
 rds : List (Nat × Nat)
 wrs : List (Nat × Nat × List Nat)
def Sp (M : Env) (dst : Option Nat) (M1 : Env) : Env := match dst with
 | some d => match M1.get d with
   | some v => (d, v) :: M
   | none => (d, .dead) :: M
 | none => M
def B4 (M : Env) : List Nat -> Env
 | [] => []
 | t :: r => match M.get t with
   | some v => (t, v) :: B4 M r
   | none => B4 M r
def Fj (M : Env) (σ : Heap) (op : AOp) : Option (AV × Option Nat) :=
 match G2 M op with
 | some v => some (v, none)
 | none => match Ms M op with
 | some v => some (.p v, none)
 | none => match V3 M (opds op) with
   | none => match Gw M [] op with
     | some v => some (v, none)
     | none => none
   | some id => match σ[id]? with
     | some ob => match Gw M (oneH id ob) op with
       | some v => some (v, some id)
       | none => none
     | none => none
def Zy (C : Zj) : Nat -> List AOper -> Tr -> Option (Option (Nat × AV) × Tr)
 | _, [], s => some (none, s)
 | i, o :: r, s =>
   match Hv o.guard (B4 s.st.env (Yw o)) with
   | none => none
   | some false => Zy C (i + 1) r { s with st := { s.st with env := putE s.st.env o.dst (.p .undef) } }
   | some true =>
     match isE o.op with
     | true => match Me C [o] { s.st with env := B4 s.st.env (Yw o) } with
       | some (.normal, st1) => Zy C (i + 1) r ⟨{ st1 with env := Sp s.st.env o.dst st1.env }, s.rds, (i, s.st.heap.length, Nz (B4 s.st.env (Yw o)) s.st.heap o.op) :: s.wrs⟩
       | some (.pan v, st1) => some (some (i, v), { s with st := st1 })
       | _ => none
     | false => match Fj (B4 s.st.env (Yw o)) s.st.heap o.op with
       | some (v, none) => Zy C (i + 1) r { s with st := { s.st with env := putE s.st.env o.dst v } }
       | some (v, some id) => Zy C (i + 1) r ⟨{ s.st with env := putE s.st.env o.dst v }, (i, id) :: s.rds, s.wrs⟩
       | none => none
def bef (anc : List Nat) (j i : Nat) : Bool := (anc.getD i 0).testBit j
def F5 (anc : List Nat) (aos : List AOper) (k : Nat) : Bool := match aos[k]? with
 | some ak => (match ak.op, ak.guard, ak.dst with
     | .alloc _ _, none, some _ => true
     | _, _, _ => false) && (List.range aos.length).any fun i => match aos[i]? with
       | some ai => isE ai.op && !(decide (i = k)) && !(if k < i then bef anc k i else bef anc i k)
       | none => false
 | none => false
def jj (anc : List Nat) (aos : List AOper) (k i : Nat) : Bool := (List.range aos.length).any fun j => match aos[j]? with
 | some aj => decide (k < j) && isE aj.op && !(F5 anc aos j) && bef anc j i
 | none => false
def okRW (anc : List Nat) (aos : List AOper) (s : Tr) : Bool :=
 s.rds.all fun r => s.wrs.all fun x => (bef anc x.1 r.1 || bef anc r.1 x.1 || (decide (r.2 < x.2.1) && !x.2.2.contains r.2)) &&
   (!(decide (x.1 < r.1) && F5 anc aos x.1) || (decide (r.2 < x.2.1) && !x.2.2.contains r.2) || jj anc aos x.1 r.1)
def Qvm (anc : List Nat) (n p : Nat) : Bool := (List.range n).all fun k => decide (k <= p) || bef anc p k
def dsts : List AOper -> List Nat
 | [] => []
 | o :: r => match o.dst with
   | some d => d :: dsts r
   | none => dsts r
def Qig : Env -> List Nat -> Env
 | [], _ => []
 | (t, v) :: r, l => match l.contains t with
   | true => Qig r l
   | false => (t, v) :: Qig r l
def xh (C : Zj) (n : Nat) (anc : List Nat) (ops : List AOper) (st : St) : Option (AExit × St) :=
 match Zy C 0 ops ⟨st, [], []⟩ with
 | some (none, s) => if okRW anc ops s then some (.normal, s.st) else none
 | some (some (p, v), s) => if okRW anc ops s && Qvm anc n p then some (.pan v, { s.st with env := Qig st.env (dsts ops) }) else none
 | none => none
def St.keep (st : St) : Option (List Nat) -> St
 | none => st
 | some l => { st with env := B4 st.env l }
def Jmp.ex : Jmp -> AExit
 | .exit id => .exit id
 | .ret => .ret
def iter (f : St -> Option (AExit × St)) (live : Option (List Nat)) : Nat -> St -> Option (AExit × St)
 | 0, _ => none
 | n + 1, st => match f (st.keep live) with
   | some (.normal, st') => iter f live n st'
   | r => r
def U0 (C : Zj) : List AOper -> St -> Option (AExit × St)
 | [], st => some (.normal, st)
 | o :: r, st => match o.op with
   | .buildVals z l e ps => match Hv o.guard st.env with
     | some true => match Ms st.env (.buildVals z l e ps) with
       | some v => U0 C r { st with env := putE st.env o.dst (.p v) }
       | none => none
     | some false => U0 C r { st with env := putE st.env o.dst (.p .undef) }
     | none => none
   | _ => match Me C [o] st with
     | some (.normal, st') => U0 C r st'
     | x => x
def exec (C : Zj) (L : Nat) : Q0 -> St -> Option (AExit × St)
 | .skip, st => some (.normal, st)
 | .bad, _ => none
 | .region ops, st => Me C ops st
 | .draw n anc ops, st => xh C n anc ops st
 | .vals ops, st => U0 C ops st
 | .seq a b, st => match exec C L a st with
   | some (.normal, st') => exec C L b st'
   | r => r
 | .cond c a b, st => match ev st.env c with
   | some (.p (.bool t)) => match t with
     | true => exec C L a st
     | false => exec C L b st
   | _ => none
 | .block id b, st => match exec C L b st with
   | some (.exit id', st') => if id' = id then some (.normal, st') else some (.exit id', st')
   | r => r
 | .loop live b, st => iter (exec C L b) live L st
 | .exit id, st => some (.exit id, st)
 | .ret, st => some (.ret, st)
 | .rng ps a b g ts, st => match ev st.env g with
   | some gv => match Wn gv [.yld (st.heap.length + 1)] with
     | some (f, as) =>
       match C f as (st.heap ++ [.mark, .loop (ps, a, b) ((B4 st.env ts).map (·.1)) (Kp ((B4 st.env ts).map (·.2))) .ready]) with
       | some (.ret _, σ2) => match σ2[st.heap.length + 1]? with
         | some (.loop k ts' c .ready) => some (.normal, ⟨st.env, (4294967294, [.ptr st.heap.length 0 0]) :: st.defers, σ2.set (st.heap.length + 1) (.loop k ts' c .over)⟩)
         | some (.loop k ts' c (.done j)) => some (j.ex, ⟨st.env, (4294967294, [.ptr st.heap.length 0 0]) :: st.defers, σ2.set (st.heap.length + 1) (.loop k ts' c .over)⟩)
         | _ => none
       | _ => none
     | none => none
   | none => none
def Qcj (N : Nat) : Option Nat -> Bool
 | some d => decide (d < N)
 | none => true
def Qcl (P : Program) (G : Bx) (N : Nat) (ops : Array Oper) (o : Oper) : Option AOper :=
 match cOp P G o.op with
 | none => none
 | some ao =>
   if Qcj N o.dst = true then
     match o.guard with
     | none => some ⟨o.dst, ao, none⟩
     | some (j, want) => match (ops[j]?).bind (·.dst) with
       | some d => some ⟨o.dst, ao, some (d, want)⟩
       | none => none
   else none
def yp (P : Program) (G : Bx) (N : Nat) (ops : Array Oper) : List Oper -> Option (List AOper)
 | [] => some []
 | o :: r => match Qcl P G N ops o, yp P G N ops r with
   | some a, some l => some (a :: l)
   | _, _ => none
def Ui (o : Oper) : List Nat := (o.after.toList.filter (Region.binds .any)).map (·.on)
def qk (l : List Nat) (acc : List Nat) : Nat := l.foldr (fun j s => s ||| 2 ^ j ||| acc.getD j 0) 0
def Ip : List Oper -> List Nat -> List Nat
 | [], acc => acc
 | o :: r, acc => Ip r (acc ++ [qk (Ui o) acc])
def Qha (anc : List Nat) (ops : List Oper) (aos : List AOper) : Bool :=
 (List.range aos.length).all fun i => match ops[i]?, aos[i]? with
   | some o, some ao => (Ui o).all (fun j => decide (j < i)) && (List.range aos.length).all fun k => match aos[k]? with
     | some ak => decide (k = i) || (
         (match ak.dst with
           | some d => (match ao.dst with
             | some d' => !(Nat.beq d d')
             | none => true) && (!(Yw ao).contains d || ((if k < i then bef anc k i else bef anc i k) && (!(F5 anc aos k) || (isE ao.op && !(F5 anc aos i)))))
           | none => true) &&
         (!(isE ao.op && isE ak.op) || (if k < i then bef anc k i else bef anc i k) || (if k < i then F5 anc aos i else F5 anc aos k)))
     | none => false
   | _, _ => false
def imOp : AOp -> AOp
 | .buildSlice z l e ps => .buildVals z l e ps
 | op => op
def imO (o : AOper) : AOper := { o with op := imOp o.op }
def flag : List (List Nat) -> Bool
 | [4294967295] :: _ => true
 | _ => false
def qh (P : Program) (G : Bx) (N : Nat) (im : Bool) (ops : Array Oper) : Bool -> Q0
 | false => match yp P G N ops ops.toList with
   | some l => if im then .vals (l.map imO) else .region l
   | none => .bad
 | true => match yp P G N ops ops.toList with
   | some l => if (P.follows .mixedOrders || !Region.departs ops) && Qha (Ip ops.toList []) ops.toList l then .draw ops.size (Ip ops.toList []) l
     else if (P.follows .mixedOrders || !Region.departs ops) && Qha (Ip ops.toList []) ops.toList (l.map imO) then .draw ops.size (Ip ops.toList []) (l.map imO) else .bad
   | none => .bad
def AOper.calm (o : AOper) : Bool := match o.op with
 | .defer _ _ => false
 | _ => true
def Q0.calm : Q0 -> Bool
 | .region ops => ops.all AOper.calm
 | .draw _ _ ops => ops.all AOper.calm
 | .vals ops => ops.all AOper.calm
 | .seq a b => a.calm && b.calm
 | .cond _ a b => a.calm && b.calm
 | .block _ b => b.calm
 | .loop _ b => b.calm
 | .rng _ _ _ _ _ => false
 | _ => true
def Ro : Q0 -> List Nat
 | .region ops => ops.flatMap Yw
 | .draw _ _ ops => ops.flatMap Yw
 | .vals ops => ops.flatMap Yw
 | .seq a b => Ro a ++ Ro b
 | .cond c a b => Qc0 [c] ++ (Ro a ++ Ro b)
 | .block _ b => Ro b
 | .loop _ b => Ro b
 | .rng _ a b g _ => Qc0 [g] ++ (Ro a ++ Ro b)
 | _ => []
def once : List Nat -> List Nat -> List Nat
 | [], acc => acc
 | x :: r, acc => match acc.contains x with
   | true => once r acc
   | false => once r (x :: acc)
def Og (P : Program) (G : Bx) (N : Nat) : Code -> List (List Nat) -> Option (Q0 × List (List Nat))
 | .skip, h => some (.skip, h)
 | .label _, h => some (.skip, h)
 | .region _ ops dr, h => some (qh P G N (flag h) ops dr, h)
 | .seq a b, h => match Og P G N a h with
   | some (x, h) => match Og P G N b h with
     | some (y, h) => some (.seq x y, h)
     | none => none
   | none => none
 | .cond c a b, h => match cOpd G c, Og P G N a h with
   | some c, some (x, h) => match Og P G N b h with
     | some (y, h) => some (.cond c x y, h)
     | none => none
   | _, _ => none
 | .block id b, h => match Og P G N b h with
   | some (x, h) => some (.block id x, h)
   | none => none
 | .loop b, h => match Og P G N b (if flag h then h else h.tail) with
   | some (x, h') => some (.loop (if flag h then none else h.head?) x, h')
   | none => none
 | .scope b, h => Og P G N b h
 | .exit id, h => some (.exit id, h)
 | .ret, h => some (.ret, h)
 | .goto _, h => some (.bad, h)
 | .refuse _, h => some (.bad, h)
 | .rangeFunc g ps a b, h => match cOpd G g, Og P G N a h with
   | some g, some (x, h1) => match Og P G N b h1 with
     | some (y, h2) => if x.calm && y.calm && ps.toList.all (· < N) then some (.rng ps.toList x y g (once (Ro x ++ Ro y) []), h2) else some (.bad, h2)
     | none => none
   | _, _ => none
def S7 (S : Nat -> Nat -> Prop) (w : World) (μ : Nat -> Nat -> Option (Nat × Nat)) : CRes -> Ending -> Prop
 | .ret v, .returned c => Rep S w μ v c
 | .pan v, .panicked l => ∃ c, l = [{ v := c, recovered := false }] /\ Rep S w μ v c
 | _, _ => False
def Qqd (P : Program) (cargs : Array Value) (w : World) (R : Ending -> World -> Prop) : Prop :=
 ∃ l as, cargs = #[.func (.yield l) #[] #[]] ++ as /\ ∃ fn tmps assign body, (Instr.yield l as).run P w = .ok (.round l fn tmps assign body) w /\ ∀ n, RoundIn Fence.wide n P l fn tmps assign body w R
def Tame (C : Zj) : Prop := ∀ f args (σ : Heap) r (σ' : Heap), C f args σ = some (r, σ') -> ∀ id, id < σ.length -> id ∉ Oe f σ args -> σ'[id]? = σ[id]?
def Pf (P : Program) (G : Bx) (C : Zj) : Prop :=
 ((∀ f args σ r σ', C f args σ = some (r, σ') -> f ≠ 4294967295 -> ∀ μ S w (cargs : Array Value), Good μ S w σ -> GlobOK S w G -> RepL S w μ args cargs.toList ->
   (∃ fn c, P.funcs[f]? = some fn /\ fn.body = some c /\ fn.name ≠ "runtime.NumGoroutine") /\
   Calls P f cargs w fun e w' => ∃ μ' S', Good μ' S' w' σ' /\ Frm μ S w σ μ' S' w' σ' /\ S7 S' w' μ' r e) /\
  (∀ args σ r σ', C 4294967295 args σ = some (r, σ') -> ∀ μ S w (cargs : Array Value), Good μ S w σ -> GlobOK S w G -> RepL S w μ args cargs.toList ->
   Qqd P cargs w fun e w' => ∃ μ' S', Good μ' S' w' σ' /\ Frm μ S w σ μ' S' w' σ' /\ S7 S' w' μ' r e)) /\ Tame C
def DefRep (S : Nat -> Nat -> Prop) (w : World) (μ : Nat -> Nat -> Option (Nat × Nat)) : List (Nat × List AV) -> List Deferred -> Prop
 | [], [] => True
 | (f, as) :: r, d :: ds => ((f ≠ 4294967294 /\ ∃ caps, d.target = .fn (.func f) caps /\ RepL S w μ as (d.args ++ caps).toList) ∨
     (f = 4294967294 /\ d.args = #[] /\ ∃ id b n, as = [.ptr id 0 0] /\ μ id 0 = some (b, n) /\ d.target = .collected b)) /\ DefRep S w μ r ds
 | _, _ => False
structure StOK (G : Bx) (N : Nat) (μ : Nat -> Nat -> Option (Nat × Nat)) (S : Nat -> Nat -> Prop) (w : World) (st : St) (a : Act) : Prop where
 env : EnvOK S w μ st.env a.tmps
 glob : GlobOK S w G
 good : Good μ S w st.heap
 size : a.tmps.size = N
 defers : DefRep S w μ st.defers a.defers
theorem GlobOK.mono (h : GlobOK S w G) (hS : ∀ b o, S b o -> S' b o /\ w'.cell? ⟨b, o, none⟩ = w.cell? ⟨b, o, none⟩) : GlobOK S' w' G := fun g l hl =>
 ⟨(h g l hl).1.mono hS, (hS _ _ (h g l hl).2.1).1, by rw [(hS _ _ (h g l hl).2.1).2]; exact (h g l hl).2.2⟩
theorem EnvOK.mono {M : Env} {t : Array Value} (h : EnvOK S w μ M t) (hS : ∀ b o, S b o -> S' b o /\ w'.cell? ⟨b, o, none⟩ = w.cell? ⟨b, o, none⟩) (hμ : ∀ id ver x, μ id ver = some x -> μ' id ver = some x) : EnvOK S' w' μ' M t :=
 fun k v hk => (h k v hk).mono hS hμ
theorem DefRep.mono (hS : ∀ b o, S b o -> S' b o /\ w'.cell? ⟨b, o, none⟩ = w.cell? ⟨b, o, none⟩) (hμ : ∀ id ver x, μ id ver = some x -> μ' id ver = some x) :
   ∀ {l : List (Nat × List AV)} {ds : List Deferred}, DefRep S w μ l ds -> DefRep S' w' μ' l ds
 | [], [], _ => trivial
 | (_, _) :: _, _ :: _, ⟨.inl ⟨h0, caps, h1, h2⟩, h3⟩ => ⟨.inl ⟨h0, caps, h1, h2.mono hS hμ⟩, DefRep.mono hS hμ h3⟩
 | (_, _) :: _, _ :: _, ⟨.inr ⟨h0, h1, id, b, n, h2, h4, h5⟩, h3⟩ => ⟨.inr ⟨h0, h1, id, b, n, h2, hμ _ _ _ h4, h5⟩, DefRep.mono hS hμ h3⟩
theorem Frm.trans {μ1 μ2 : Nat -> Nat -> Option (Nat × Nat)} {S1 S2 : Nat -> Nat -> Prop} {w2 : World} {σ1 σ2 : Heap} (h : Frm μ S w σ μ1 S1 w1 σ1) (k : Frm μ1 S1 w1 σ1 μ2 S2 w2 σ2) : Frm μ S w σ μ2 S2 w2 σ2 where
 os := k.os.trans h.os
 tape := k.tape.trans h.tape
 output := k.output.trans h.output
 size := Nat.le_trans h.size k.size
 keepS := fun b o hs => ⟨(k.keepS b o (h.keepS b o hs).1).1, (k.keepS b o (h.keepS b o hs).1).2.trans (h.keepS b o hs).2⟩
 keepB := fun b hb hd => by
   rw [k.keepB b (by have := h.size; omega) (fun hd1 => by rcases h.newD b hd1 with h1 | h1; exact hd h1; omega), h.keepB b hb hd]
 newS := fun b o hs => by
   rcases k.newS b o hs with h1 | h1 | h1
   · exact h.newS b o h1
   · rcases h.newD b h1 with h2 | h2
     · exact .inr (.inl h2)
     · exact .inr (.inr h2)
   · exact .inr (.inr (Nat.le_trans h.size h1))
 newD := fun b hd => by
   rcases k.newD b hd with h1 | h1
   · exact h.newD b h1
   · exact .inr (Nat.le_trans h.size h1)
 mu := fun id ver x hx => k.mu _ _ _ (h.mu _ _ _ hx)
theorem StOK.step {N : Nat} {st : St} {a : Act} {S1 : Nat -> Nat -> Prop} {μ1 : Nat -> Nat -> Option (Nat × Nat)} {σ1 : Heap} (h : StOK G N μ S w st a) (hg : Good μ1 S1 w1 σ1) (hf : Frm μ S w st.heap μ1 S1 w1 σ1) :
   StOK G N μ1 S1 w1 { st with heap := σ1 } a :=
 ⟨h.env.mono hf.keepS hf.mu, h.glob.mono hf.keepS, hg, h.size, h.defers.mono hf.keepS hf.mu⟩
theorem Env.get_cons (k : Nat) (v : AV) (r : Env) (t : Nat) : Env.get ((k, v) :: r) t = if k = t then some v else r.get t := by
 simp only [Env.get]
 by_cases h : k = t
 · subst h; simp
 · rw [if_neg h]
   have : Nat.beq k t = false := by
     cases hb : Nat.beq k t with
     | false => rfl
     | true => exact absurd (Nat.eq_of_beq_eq_true hb) h
   rw [this]
   simp
theorem StOK.put {N : Nat} {st : St} {a : Act} {dst : Option Nat} {v : AV} {c : Value} (h : StOK G N μ S w st a) (hd : Qcj N dst = true) (hv : Rep S w μ v c) :
   StOK G N μ S w { st with env := putE st.env dst v } (a.put dst c) := by
 cases dst with
 | none => exact ⟨h.env, h.glob, h.good, h.size, h.defers⟩
 | some d =>
   simp only [Qcj, decide_eq_true_eq] at hd
   refine ⟨?_, h.glob, h.good, ?_, h.defers⟩
   · intro t u ht
     simp only [putE, Env.get_cons] at ht
     have hsz := h.size
     by_cases hdt : d = t
     · subst hdt
       rw [if_pos rfl] at ht
       obtain rfl := Option.some.inj ht
       have : (a.put (some d) c).tmps.getD d undef = c := by
         simp [Act.put, hsz, hd]
       rw [this]; exact hv
     · rw [if_neg hdt] at ht
       have : (a.put (some d) c).tmps.getD t undef = a.tmps.getD t undef := by
         simp [Act.put, hdt]
       rw [this]; exact h.env t u ht
   · simp [Act.put, h.size]
theorem Qmy {N : Nat} {st : St} {a : Act} {o : Oper} {ao : AOp} {v : AV} (h : StOK G N μ S w st a) (hc : cOp P G o.op = some ao) (hv : yk st.env st.heap ao = some (v, σ')) :
   Acts P S w μ st.heap (execOp a.eval o) v σ' := by
 unfold yk at hv
 split at hv
 · rename_i u hu
   simp only [Option.some.injEq, Prod.mk.injEq] at hv
   obtain ⟨rfl, rfl⟩ := hv
   obtain ⟨c, h1, h2⟩ := Qcp h.env h.glob hc hu w
   exact ⟨_, c, w, μ, h1, .value _, h.good, .refl _ _ _ _, h2⟩
 · split at hv
   · rename_i ob f hob
     simp only [Option.some.injEq, Prod.mk.injEq] at hv
     obtain ⟨rfl, rfl⟩ := hv
     obtain ⟨c, w1, n, h1, h2, h3, h4⟩ := Qi1 h.env h.glob h.good hc hob
     exact ⟨_, c, w1, _, h1, .value _, h2, h3, h4⟩
   · split at hv
     · rename_i u hu
       simp only [Option.some.injEq, Prod.mk.injEq] at hv
       obtain ⟨rfl, rfl⟩ := hv
       obtain ⟨c, h1, h2⟩ := jv h.env h.glob h.good.obj hc hu
       exact ⟨_, c, w, μ, h1, .value _, h.good, .refl _ _ _ _, h2⟩
     · exact Qow h.env h.glob h.good hc hv
end Go.Ab
namespace Go.Ab
variable [Q4]
variable {S S' : Nat -> Nat -> Prop} {w w' w1 : World} {μ μ' : Nat -> Nat -> Option (Nat × Nat)} {P : Program} {G : Bx} {σ σ' : Heap}
def ExOK (S : Nat -> Nat -> Prop) (w : World) (μ : Nat -> Nat -> Option (Nat × Nat)) : AExit -> Exit -> Prop
 | .normal, .normal => True
 | .exit id, .exit id' => id = id'
 | .ret, .ret => True
 | .pan v, .panic l => ∃ c, l = [{ v := c, recovered := false }] /\ Rep S w μ v c
 | _, _ => False
def Post (G : Bx) (N : Nat) (μ : Nat -> Nat -> Option (Nat × Nat)) (S : Nat -> Nat -> Prop) (w : World) (σ : Heap) (ex : AExit) (st' : St) (e : Exit) (a' : Act) (w' : World) : Prop :=
 ∃ μ' S', ExOK S' w' μ' ex e /\ StOK G N μ' S' w' st' a' /\ Frm μ S w σ μ' S' w' st'.heap
theorem Post.trans {N : Nat} {μ1 : Nat -> Nat -> Option (Nat × Nat)} {S1 : Nat -> Nat -> Prop} {σ1 : Heap} {ex : AExit} {st' : St} {e : Exit} {a' : Act} {w2 : World}
   (hf : Frm μ S w σ μ1 S1 w1 σ1) (h : Post G N μ1 S1 w1 σ1 ex st' e a' w2) : Post G N μ S w σ ex st' e a' w2 := by
 obtain ⟨μ2, S2, h1, h2, h3⟩ := h
 exact ⟨μ2, S2, h1, h2, hf.trans h3⟩
theorem Wb {N : Nat} {ops : Array Oper} {o : Oper} {ao : AOper} {M : Env} {tmps : Array Value} {b : Bool} (hE : EnvOK S w μ M tmps) (hc : Qcl P G N ops o = some ao) (hw : Hv ao.guard M = some b) :
   Region.wanted o (yielded ops tmps) = b := by
 unfold Qcl at hc
 split at hc
 · cases hc
 · split at hc
   · split at hc
     · rename_i hg
       obtain rfl := Option.some.inj hc
       simp only [Hv, Option.some.injEq] at hw
       subst hw
       simp [Region.wanted, hg]
     · rename_i j want hg
       split at hc
       · rename_i d hd
         obtain rfl := Option.some.inj hc
         simp only [Hv] at hw
         split at hw
         · rename_i t ht
           obtain rfl := Option.some.inj hw
           have hr := (hE d _ ht).bool
           have : tmps[d]? = some (.bool t) := by
             rw [Array.getD_eq_getD_getElem?] at hr
             cases h : tmps[d]? with
             | none => rw [h] at hr; simp [undef] at hr
             | some x => rw [h] at hr; simpa using hr
           simp only [Region.wanted, hg, yielded, hd, Option.bind_some, this]
           cases t <;> cases want <;> rfl
         · rename_i ht
           obtain rfl := Option.some.inj hw
           have hr := hE d _ ht
           have hy : yielded ops tmps j = none := by
             simp only [yielded, hd, Option.bind_some]
             cases h : tmps[d]? with
             | none => rfl
             | some x =>
               rw [Array.getD_eq_getD_getElem?, h] at hr
               simp only [Option.getD_some] at hr
               cases hr with | p hr => cases hr; rfl
           simp [Region.wanted, hg, hy]
         · cases hw
       · cases hc
   · cases hc
theorem xz {N : Nat} {ops : Array Oper} {o : Oper} {ao : AOper} (hc : Qcl P G N ops o = some ao) :
   cOp P G o.op = some ao.op /\ ao.dst = o.dst /\ Qcj N o.dst = true := by
 unfold Qcl at hc
 split at hc
 · cases hc
 · rename_i a ha
   split at hc
   · rename_i hd
     split at hc
     · obtain rfl := Option.some.inj hc
       exact ⟨ha, rfl, hd⟩
     · split at hc
       · obtain rfl := Option.some.inj hc
         exact ⟨ha, rfl, hd⟩
       · cases hc
   · cases hc
theorem qq {fv : AV} {as as' : List AV} {f : Nat} {cf : Value} {cas : Array Value} (h : Wn fv as = some (f, as')) (hf : Rep S w μ fv cf) (ha : RepL S w μ as cas.toList) :
   f < 4294967294 /\ ∃ d caps, (∀ w', (Deferred.ofValue cf cas).run P w' = .ok d w') /\ d.target = .fn (.func f) caps /\ RepL S w μ as' (d.args ++ caps).toList := by
 unfold Wn at h
 split at h
 · split at h
   · cases h
   · rename_i hne
     simp only [Option.some.injEq, Prod.mk.injEq] at h
     obtain ⟨rfl, rfl⟩ := h
     cases hf.pv
     exact ⟨by omega, { target := .fn (.func _) #[], args := cas }, #[], fun w' => by simp [Deferred.ofValue], rfl, by simpa using ha⟩
 · split at h
   · cases h
   · rename_i hne
     simp only [Option.some.injEq, Prod.mk.injEq] at h
     obtain ⟨rfl, rfl⟩ := h
     cases hf with
     | clo h1 h2 =>
       rename_i cf cc
       refine ⟨by omega, { target := .fn (.func _) cc, args := cf ++ cas }, cc, fun w' => by simp [Deferred.ofValue], rfl, ?_⟩
       simpa using (h1.append ha).append h2
 · cases h
theorem Qhn {fv : AV} {as as' : List AV} {f : Nat} (h : target fv as = some (f, as')) : (f ≠ 4294967295 /\ Wn fv as = some (f, as')) ∨ (f = 4294967295 /\ ∃ id, fv = .yld id /\ as' = .yld id :: as) := by
 unfold target at h
 split at h
 · split at h
   · cases h
   · rename_i hne
     have h' := h
     simp only [Option.some.injEq, Prod.mk.injEq] at h
     obtain ⟨rfl, rfl⟩ := h
     exact .inl ⟨by omega, by simp only [Wn]; rw [if_neg hne]⟩
 · split at h
   · cases h
   · rename_i hne
     simp only [Option.some.injEq, Prod.mk.injEq] at h
     obtain ⟨rfl, rfl⟩ := h
     exact .inl ⟨by omega, by simp only [Wn]; rw [if_neg hne]⟩
 · simp only [Option.some.injEq, Prod.mk.injEq] at h
   obtain ⟨rfl, rfl⟩ := h
   exact .inr ⟨rfl, _, rfl, rfl⟩
 · cases h
abbrev FR (r : Option Nat) : Fence := { Fence.wide with round := r }
theorem Qe1 {r : Option Nat} {n : Nat} {f : FuncId} {args : Array Value} {R : Ending -> World -> Prop} (h : Calls P f args w R) : CallsIn (FR r) n P f args w R := (callsIn_wide (n := n)).2 h
theorem Qte {r : Option Nat} {n l : Nat} {f : FuncId} {tmps : Array Value} {a b : Code} {R : Ending -> World -> Prop} (h : RoundIn Fence.wide n P l f tmps a b w R) : RoundIn (FR r) n P l f tmps a b w R := h
theorem Qb6 {r : Option Nat} {p : Prop} : (FR r).depth.isSome = true -> p := fun h => by simp [FR, Fence.wide] at h
theorem wx {f : Nat} {caps args : Array Value} {fn : Func} {c : Code} (hf : P.funcs[f]? = some fn) (hb : fn.body = some c) (hn : fn.name ≠ "runtime.NumGoroutine") (w' : World) :
   (invoke (.fn (.func f) caps) args).run P w' = .ok (.enter f (args ++ caps)) w' := by
 have : (fn.name == "runtime.NumGoroutine") = false := by simpa using hn
 simp only [invoke, callFunc, Sem.run_bind, run_program, Result.andThen_ok]
 rw [hf]
 simp [this, hb]
theorem Qtd {op : Op} {f : Opd} {args : List Opd} (hc : cOp P G op = some (.call f args)) : ∃ c fo, op = .call c /\ c.callee = .value fo /\ cOpd G fo = some f /\ z9 G c.args.toList = some args := by
 cases op with
 | call c =>
   obtain ⟨callee, as, tys⟩ := c
   cases callee with
   | value g =>
     simp only [cOp] at hc
     split at hc
     · rename_i h1 h2
       cases hc
       exact ⟨_, g, rfl, rfl, h1, h2⟩
     · cases hc
   | builtin b =>
     simp only [cOp] at hc
     unfold L2 at hc
     split at hc
     · split at hc
       · simp at hc
       · simp at hc
       · cases hc
       · cases hc
     · split at hc
       · split at hc
         · split at hc <;> cases hc
         · cases hc
       · cases hc
     · split at hc
       · split at hc
         · cases hc
         · cases hc
       · cases hc
     · split at hc
       · split at hc
         · cases hc
         · cases hc
       · cases hc
     · simp at hc
     · simp at hc
     · simp at hc
     · cases hc
     · simp at hc
     · split at hc
       · split at hc
         · split at hc <;> cases hc
         · cases hc
       · cases hc
     · cases hc
   | invoke r m => simp [cOp] at hc
 | move x => simp [cOp] at hc
 | assign x => simp [cOp] at hc
 | pick c x y =>
   simp only [cOp] at hc
   split at hc
   · cases hc
   · cases hc
 | alloc t => simp [cOp] at hc
 | box t x =>
   simp only [cOp] at hc
   split at hc
   · cases hc
   · cases hc
 | build t parts =>
   simp only [cOp] at hc
   split at hc
   · split at hc
     · simp at hc
     · cases hc
   · split at hc
     · simp at hc
     · cases hc
   · cases hc
 | buildSlice t len parts =>
   simp only [cOp] at hc
   split at hc
   · split at hc
     · split at hc
       · simp at hc
       · cases hc
     · cases hc
   · cases hc
 | load t x =>
   simp only [cOp] at hc
   split at hc
   · cases hc
   · cases hc
 | store t x y =>
   simp only [cOp] at hc
   split at hc
   · cases hc
   · cases hc
 | nilCheck x => simp [cOp] at hc
 | binOp op t x y yt =>
   simp only [cOp] at hc
   split at hc
   · cases hc
   · cases hc
 | unOp u t x => simp [cOp] at hc
 | convert s d x =>
   simp only [cOp] at hc
   split at hc
   · cases hc
   · cases hc
   · cases hc
   · split at hc
     · cases hc
     · cases hc
   · split at hc
     · cases hc
     · cases hc
   · cases hc
 | sliceToArrayPointer d x => simp [cOp] at hc
 | makeInterface t x =>
   simp only [cOp] at hc
   split at hc
   · cases hc
   · simp at hc
   · cases hc
 | makeFunc f first caps =>
   cases f with
   | func f =>
     simp only [cOp] at hc
     split at hc
     · cases hc
     · cases hc
   | _ => simp [cOp] at hc
 | makeMap t r => simp [cOp] at hc
 | makeChan t s => simp [cOp] at hc
 | makeSlice t l c =>
   simp only [cOp] at hc
   split at hc
   · split at hc
     · cases hc
     · cases hc
   · cases hc
 | slice t x lo hi mx =>
   simp only [cOp] at hc
   split at hc
   · split at hc
     · cases hc
     · cases hc
   · split at hc
     · cases hc
     · cases hc
   · split at hc
     · cases hc
     · cases hc
   · split at hc
     · split at hc
       · cases hc
       · cases hc
     · cases hc
   · cases hc
 | fieldAddr t x f =>
   simp only [cOp] at hc
   split at hc
   · split at hc
     · split at hc
       · split at hc
         · cases hc
         · cases hc
       · cases hc
     · cases hc
   · cases hc
 | field t x f =>
   simp only [cOp] at hc
   split at hc
   · split at hc
     · split at hc
       · cases hc
       · cases hc
     · cases hc
   · cases hc
 | indexAddr t x i =>
   simp only [cOp] at hc
   split at hc
   · split at hc
     · cases hc
     · cases hc
   · split at hc
     · cases hc
     · cases hc
   · cases hc
 | index t x i =>
   simp only [cOp] at hc
   split at hc
   · split at hc
     · cases hc
     · cases hc
   · split at hc
     · cases hc
     · cases hc
   · cases hc
 | range t x =>
   simp only [cOp] at hc
   split at hc
   · simp at hc
   · cases hc
 | next x s =>
   cases s with
   | true => simp [cOp] at hc
   | false => simp [cOp] at hc
 | typeAssert x xt t ok =>
   simp only [cOp] at hc
   split at hc
   · cases hc
   · split at hc
     · split at hc
       · split at hc
         · cases hc
         · cases hc
       · cases hc
     · cases hc
   · cases hc
 | extract x i => simp [cOp] at hc
 | panic x => simp [cOp] at hc
 | defer c =>
   obtain ⟨callee, args, tys⟩ := c
   cases callee with
   | value f =>
     simp only [cOp] at hc
     split at hc
     · cases hc
     · cases hc
   | _ => simp [cOp] at hc
 | _ => simp [cOp] at hc
theorem Qnq {op : Op} {f : Opd} {args : List Opd} (hc : cOp P G op = some (.defer f args)) : ∃ c fo, op = .defer c /\ c.callee = .value fo /\ cOpd G fo = some f /\ z9 G c.args.toList = some args := by
 cases op with
 | defer c =>
   obtain ⟨callee, as, tys⟩ := c
   cases callee with
   | value g =>
     simp only [cOp] at hc
     split at hc
     · rename_i h1 h2
       cases hc
       exact ⟨_, g, rfl, rfl, h1, h2⟩
     · cases hc
   | _ => simp [cOp] at hc
 | call c =>
   obtain ⟨callee, as, tys⟩ := c
   cases callee with
   | value g =>
     simp only [cOp] at hc
     split at hc
     · cases hc
     · cases hc
   | builtin b =>
     simp only [cOp] at hc
     unfold L2 at hc
     split at hc
     · split at hc
       · simp at hc
       · simp at hc
       · cases hc
       · cases hc
     · split at hc
       · split at hc
         · split at hc <;> cases hc
         · cases hc
       · cases hc
     · split at hc
       · split at hc
         · cases hc
         · cases hc
       · cases hc
     · split at hc
       · split at hc
         · cases hc
         · cases hc
       · cases hc
     · simp at hc
     · simp at hc
     · simp at hc
     · cases hc
     · simp at hc
     · split at hc
       · split at hc
         · split at hc <;> cases hc
         · cases hc
       · cases hc
     · cases hc
   | invoke r m => simp [cOp] at hc
 | move x => simp [cOp] at hc
 | assign x => simp [cOp] at hc
 | pick c x y =>
   simp only [cOp] at hc
   split at hc
   · cases hc
   · cases hc
 | alloc t => simp [cOp] at hc
 | box t x =>
   simp only [cOp] at hc
   split at hc
   · cases hc
   · cases hc
 | build t parts =>
   simp only [cOp] at hc
   split at hc
   · split at hc
     · simp at hc
     · cases hc
   · split at hc
     · simp at hc
     · cases hc
   · cases hc
 | buildSlice t len parts =>
   simp only [cOp] at hc
   split at hc
   · split at hc
     · split at hc
       · simp at hc
       · cases hc
     · cases hc
   · cases hc
 | load t x =>
   simp only [cOp] at hc
   split at hc
   · cases hc
   · cases hc
 | store t x y =>
   simp only [cOp] at hc
   split at hc
   · cases hc
   · cases hc
 | nilCheck x => simp [cOp] at hc
 | binOp op t x y yt =>
   simp only [cOp] at hc
   split at hc
   · cases hc
   · cases hc
 | unOp u t x => simp [cOp] at hc
 | convert s d x =>
   simp only [cOp] at hc
   split at hc
   · cases hc
   · cases hc
   · cases hc
   · split at hc
     · cases hc
     · cases hc
   · split at hc
     · cases hc
     · cases hc
   · cases hc
 | sliceToArrayPointer d x => simp [cOp] at hc
 | makeInterface t x =>
   simp only [cOp] at hc
   split at hc
   · cases hc
   · simp at hc
   · cases hc
 | makeFunc f first caps =>
   cases f with
   | func f =>
     simp only [cOp] at hc
     split at hc
     · cases hc
     · cases hc
   | _ => simp [cOp] at hc
 | makeMap t r => simp [cOp] at hc
 | makeChan t s => simp [cOp] at hc
 | makeSlice t l c =>
   simp only [cOp] at hc
   split at hc
   · split at hc
     · cases hc
     · cases hc
   · cases hc
 | slice t x lo hi mx =>
   simp only [cOp] at hc
   split at hc
   · split at hc
     · cases hc
     · cases hc
   · split at hc
     · cases hc
     · cases hc
   · split at hc
     · cases hc
     · cases hc
   · split at hc
     · split at hc
       · cases hc
       · cases hc
     · cases hc
   · cases hc
 | fieldAddr t x f =>
   simp only [cOp] at hc
   split at hc
   · split at hc
     · split at hc
       · split at hc
         · cases hc
         · cases hc
       · cases hc
     · cases hc
   · cases hc
 | field t x f =>
   simp only [cOp] at hc
   split at hc
   · split at hc
     · split at hc
       · cases hc
       · cases hc
     · cases hc
   · cases hc
 | indexAddr t x i =>
   simp only [cOp] at hc
   split at hc
   · split at hc
     · cases hc
     · cases hc
   · split at hc
     · cases hc
     · cases hc
   · cases hc
 | index t x i =>
   simp only [cOp] at hc
   split at hc
   · split at hc
     · cases hc
     · cases hc
   · split at hc
     · cases hc
     · cases hc
   · cases hc
 | range t x =>
   simp only [cOp] at hc
   split at hc
   · simp at hc
   · cases hc
 | next x s =>
   cases s with
   | true => simp [cOp] at hc
   | false => simp [cOp] at hc
 | typeAssert x xt t ok =>
   simp only [cOp] at hc
   split at hc
   · cases hc
   · split at hc
     · split at hc
       · split at hc
         · cases hc
         · cases hc
       · cases hc
     · cases hc
   · cases hc
 | extract x i => simp [cOp] at hc
 | panic x => simp [cOp] at hc
 | _ => simp [cOp] at hc
theorem Qqi {o : Oper} {x : Opd} (hc : cOp P G o.op = some (.panic x)) (a : Act) (w : World) : ∃ xo, cOpd G xo = some x /\ ∀ t y, a.eval xo = .iface t y -> (execOp a.eval o).run P w = .halt (.panic (.iface t y)) w := by
 obtain ⟨dst, op, oty, pos, after, guard⟩ := o
 simp only at hc
 cases op with
 | panic y =>
   simp only [cOp, Option.map_eq_some_iff] at hc
   obtain ⟨z, hz, hc⟩ := hc
   cases hc
   refine ⟨y, hz, fun t v h => ?_⟩
   simp [execOp, h, Instr.panic, goPanic, Sem.run]
 | call c =>
   obtain ⟨callee, as, tys⟩ := c
   cases callee with
   | value g =>
     simp only [cOp] at hc
     split at hc
     · cases hc
     · cases hc
   | builtin b =>
     obtain ⟨as⟩ := as
     obtain ⟨tys⟩ := tys
     simp only [cOp] at hc
     unfold L2 at hc
     split at hc
     · split at hc
       · simp at hc
       · simp at hc
       · cases hc
       · cases hc
     · split at hc
       · split at hc
         · split at hc <;> cases hc
         · cases hc
       · cases hc
     · split at hc
       · split at hc
         · cases hc
         · cases hc
       · cases hc
     · split at hc
       · split at hc
         · cases hc
         · cases hc
       · cases hc
     · simp at hc
     · simp at hc
     · rename_i y
       simp only [Option.map_eq_some_iff] at hc
       obtain ⟨z, hz, hc⟩ := hc
       cases hc
       refine ⟨y, hz, fun t v h => ?_⟩
       simp [execOp, resolve, invoke, builtin, h, Instr.panic, goPanic, Sem.run]
     · cases hc
     · simp at hc
     · split at hc
       · split at hc
         · split at hc <;> cases hc
         · cases hc
       · cases hc
     · cases hc
   | invoke r m => simp [cOp] at hc
 | move x => simp [cOp] at hc
 | assign x => simp [cOp] at hc
 | pick c x y =>
   simp only [cOp] at hc
   split at hc
   · cases hc
   · cases hc
 | alloc t => simp [cOp] at hc
 | box t x =>
   simp only [cOp] at hc
   split at hc
   · cases hc
   · cases hc
 | build t parts =>
   simp only [cOp] at hc
   split at hc
   · split at hc
     · simp at hc
     · cases hc
   · split at hc
     · simp at hc
     · cases hc
   · cases hc
 | buildSlice t len parts =>
   simp only [cOp] at hc
   split at hc
   · split at hc
     · split at hc
       · simp at hc
       · cases hc
     · cases hc
   · cases hc
 | load t x =>
   simp only [cOp] at hc
   split at hc
   · cases hc
   · cases hc
 | store t x y =>
   simp only [cOp] at hc
   split at hc
   · cases hc
   · cases hc
 | nilCheck x => simp [cOp] at hc
 | binOp op t x y yt =>
   simp only [cOp] at hc
   split at hc
   · cases hc
   · cases hc
 | unOp u t x => simp [cOp] at hc
 | convert s d x =>
   simp only [cOp] at hc
   split at hc
   · cases hc
   · cases hc
   · cases hc
   · split at hc
     · cases hc
     · cases hc
   · split at hc
     · cases hc
     · cases hc
   · cases hc
 | sliceToArrayPointer d x => simp [cOp] at hc
 | makeInterface t x =>
   simp only [cOp] at hc
   split at hc
   · cases hc
   · simp at hc
   · cases hc
 | makeFunc f first caps =>
   cases f with
   | func f =>
     simp only [cOp] at hc
     split at hc
     · cases hc
     · cases hc
   | _ => simp [cOp] at hc
 | makeMap t r => simp [cOp] at hc
 | makeChan t s => simp [cOp] at hc
 | makeSlice t l c =>
   simp only [cOp] at hc
   split at hc
   · split at hc
     · cases hc
     · cases hc
   · cases hc
 | slice t x lo hi mx =>
   simp only [cOp] at hc
   split at hc
   · split at hc
     · cases hc
     · cases hc
   · split at hc
     · cases hc
     · cases hc
   · split at hc
     · cases hc
     · cases hc
   · split at hc
     · split at hc
       · cases hc
       · cases hc
     · cases hc
   · cases hc
 | fieldAddr t x f =>
   simp only [cOp] at hc
   split at hc
   · split at hc
     · split at hc
       · split at hc
         · cases hc
         · cases hc
       · cases hc
     · cases hc
   · cases hc
 | field t x f =>
   simp only [cOp] at hc
   split at hc
   · split at hc
     · split at hc
       · cases hc
       · cases hc
     · cases hc
   · cases hc
 | indexAddr t x i =>
   simp only [cOp] at hc
   split at hc
   · split at hc
     · cases hc
     · cases hc
   · split at hc
     · cases hc
     · cases hc
   · cases hc
 | index t x i =>
   simp only [cOp] at hc
   split at hc
   · split at hc
     · cases hc
     · cases hc
   · split at hc
     · cases hc
     · cases hc
   · cases hc
 | range t x =>
   simp only [cOp] at hc
   split at hc
   · simp at hc
   · cases hc
 | next x s =>
   cases s with
   | true => simp [cOp] at hc
   | false => simp [cOp] at hc
 | typeAssert x xt t ok =>
   simp only [cOp] at hc
   split at hc
   · cases hc
   · split at hc
     · split at hc
       · split at hc
         · cases hc
         · cases hc
       · cases hc
     · cases hc
   · cases hc
 | extract x i => simp [cOp] at hc
 | defer c =>
   obtain ⟨callee, args, tys⟩ := c
   cases callee with
   | value f =>
     simp only [cOp] at hc
     split at hc
     · cases hc
     · cases hc
   | _ => simp [cOp] at hc
 | _ => simp [cOp] at hc
theorem yq {F : Fence} {n : Nat} {ops : Array Oper} {Q Q' : Exit -> Act -> World -> Prop} (hq : ∀ e a w, Q e a w -> Q' e a w) : ∀ (l : List Nat) (a : Act) (w : World), wpOpsIn F n P ops Q l a w -> wpOpsIn F n P ops Q' l a w := by
 intro l
 induction l with
 | nil => intro a w h; exact hq _ _ _ h
 | cons i rest ih =>
   intro a w h
   simp only [wpOpsIn] at h ⊢
   split
   · rename_i ho
     simp only [ho] at h
     exact ih _ _ h
   · rename_i o ho
     simp only [ho] at h
     split
     · rename_i hw
       rw [if_pos hw] at h
       refine ⟨h.1, ?_⟩
       have h := h.2
       generalize (o.semAt F.round a.eval).run P w = r at *
       cases r with
       | ok x w' =>
         cases x <;> simp only [Oper.uponIn] at h ⊢ <;>
           first
             | exact ih _ _ h
             | exact ⟨h.1, CallsIn.mono h.2 (fun e w'' he => by
                 cases e with
                 | returned v => exact ih _ _ he
                 | panicked ch => exact hq _ _ _ he
                 | outgrown => exact let ⟨a0, w0, h0⟩ := he; ⟨a0, w0, hq _ _ _ h0⟩)⟩
             | exact ⟨h.1, RowsIn.mono h.2 (fun _ _ he => ih _ _ he)⟩
             | exact ⟨h.1, RoundIn.mono h.2 (fun e w'' he => by
                 cases e with
                 | returned v => exact ih _ _ he
                 | panicked ch => exact hq _ _ _ he
                 | outgrown => exact let ⟨a0, w0, h0⟩ := he; ⟨a0, w0, hq _ _ _ h0⟩)⟩
       | halt x w' => cases x <;> simp only [Oper.uponIn] at h ⊢ <;> first | exact h.elim | exact hq _ _ _ h
     · rename_i hw
       rw [if_neg hw] at h
       exact ⟨h.1, ih _ _ h.2⟩
theorem j8 {o : Oper} {ao : AOp} {c : Call} (h : cOp P G o.op = some ao) (ho : o.op = .defer c) : ∃ f as, ao = .defer f as := by
 rw [ho] at h
 obtain ⟨callee, args, tys⟩ := c
 cases callee <;> simp only [cOp] at h <;> first
   | cases h
   | (split at h
      · obtain rfl := Option.some.inj h; exact ⟨_, _, rfl⟩
      · cases h)
theorem Qkv {r : Option Nat} {o : Oper} {ao : AOper} (h : cOp P G o.op = some ao.op) (hc : r = none ∨ ao.calm = true) (M : Operand -> Value) : o.semAt r M = execOp M o := by
 rcases hc with rfl | hc
 · rfl
 · refine Oper.semAt_eq _ _ _ fun c ho => ?_
   obtain ⟨f, as, hd⟩ := j8 h ho
   simp [AOper.calm, hd] at hc
theorem S9 {r : Option Nat} {n : Nat} {N : Nat} {C : Zj} (hC : Pf P G C) {ops : Array Oper} :
   ∀ (l : List Nat) (os : List AOper), (r = none ∨ os.all AOper.calm = true) -> (∀ (k i : Nat), l[k]? = some i -> ∃ o ao, ops[i]? = some o /\ os[k]? = some ao /\ Qcl P G N ops o = some ao) -> os.length = l.length ->
     ∀ (st : St) (ex : AExit) (st' : St), Me C os st = some (ex, st') -> ∀ (a : Act) (w : World) (μ : Nat -> Nat -> Option (Nat × Nat)) (S : Nat -> Nat -> Prop), StOK G N μ S w st a ->
       wpOpsIn (FR r) n P ops (Post G N μ S w st.heap ex st') l a w := by
 intro l
 induction l with
 | nil =>
   intro os _ _ hlen st ex st' h a w μ S hst
   cases os with
   | cons => simp at hlen
   | nil =>
     simp only [Me, Option.some.injEq, Prod.mk.injEq] at h
     obtain ⟨rfl, rfl⟩ := h
     exact ⟨μ, S, trivial, hst, .refl _ _ _ _⟩
 | cons i rest ih =>
   intro os hcalm hops hlen st ex st' h a w μ S hst
   cases os with
   | nil => simp at hlen
   | cons ao os =>
     obtain ⟨o, ao', ho, hao, hc⟩ := hops 0 i rfl
     simp only [List.getElem?_cons_zero, Option.some.injEq] at hao
     subst hao
     obtain ⟨hcop, hdst, hdN⟩ := xz hc
     have hcalm1 : r = none ∨ ao.calm = true := hcalm.imp id fun h => by simp only [List.all_cons, Bool.and_eq_true] at h; exact h.1
     have hcalm2 : r = none ∨ os.all AOper.calm = true := hcalm.imp id fun h => by simp only [List.all_cons, Bool.and_eq_true] at h; exact h.2
     have hsem : o.semAt (FR r).round a.eval = execOp a.eval o := Qkv hcop hcalm1 a.eval
     have ih' := ih os hcalm2 (fun k i hk => hops (k + 1) i hk) (by simpa using hlen)
     have wmono : ∀ {μ1 : Nat -> Nat -> Option (Nat × Nat)} {S1 : Nat -> Nat -> Prop} {w1 : World} {st1 : St} {a1 : Act}, Frm μ S w st.heap μ1 S1 w1 st1.heap -> StOK G N μ1 S1 w1 st1 a1 -> Me C os st1 = some (ex, st') ->
         wpOpsIn (FR r) n P ops (Post G N μ S w st.heap ex st') rest a1 w1 := by
       intro μ1 S1 w1 st1 a1 hf hst1 h1
       have := ih' st1 ex st' h1 a1 w1 μ1 S1 hst1
       exact yq (fun e a' w' hp => hp.trans hf) _ _ _ this
     simp only [wpOpsIn, ho]
     simp only [Me] at h
     split at h
     · cases h
     · rename_i hw
       rw [if_neg (by rw [Wb hst.env hc hw]; simp)]
       refine ⟨fun _ _ => trivial, ?_⟩
       refine wmono (st1 := { st with env := putE st.env ao.dst (.p .undef) }) (.refl _ _ _ _) ?_ h
       rw [hdst]
       exact hst.put hdN (.p .undef)
     · rename_i hw
       rw [if_pos (Wb hst.env hc hw)]
       unfold Oper.wpIn
       rw [hsem]
       refine ⟨fun _ _ => trivial, ?_⟩
       split at h
       · -- a call
         rename_i f args hop
         split at h
         · rename_i fv as e1 e2
           split at h
           · rename_i f' as' ht
             have hcall : ∃ c fo, o.op = .call c /\ c.callee = .value fo /\ cOpd G fo = some f /\ z9 G c.args.toList = some args := by
               rw [hop] at hcop
               exact Qtd hcop
             obtain ⟨c, fo, ho1, ho2, ho3, ho4⟩ := hcall
             have r1 := Jn hst.env hst.glob ho3 e1
             have r2 := W6 hst.env hst.glob ho4 e2
             rcases Qhn ht with ⟨hfn, ht⟩ | ⟨rfl, yid, rfl, rfl⟩
             · skip
               obtain ⟨hfl, d, caps, k1, k2, k3⟩ := qq (P := P) (cas := c.args.map a.eval) ht r1 (by simpa using r2)
               split at h
               · rename_i v σ1 hcr
                 obtain ⟨⟨fn, cd, q1, q2, q3⟩, hcalls⟩ := hC.1.1 _ _ _ _ _ hcr hfn μ S w (d.args ++ caps) hst.good hst.glob k3
                 have hrun : (execOp a.eval o).run P w = .ok (.enter f' (d.args ++ caps)) w := by
                   simp only [execOp, ho1, resolve, ho2, Sem.run_bind, k1, Result.andThen_ok]
                   rw [k2, wx q1 q2 q3]
                 simp only [hrun, Oper.uponIn_enter]
                 refine ⟨Qb6, Qe1 ?_⟩
                 refine hcalls.mono fun e w1 ⟨μ1, S1, g1, g2, g3⟩ => ?_
                 cases e with
                 | returned cv =>
                   refine wmono (st1 := { st with env := putE st.env ao.dst v, heap := σ1 }) g2 ?_ h
                   rw [hdst]
                   exact (hst.step g1 g2).put hdN g3
                 | panicked ch => exact g3.elim
                 | outgrown => exact g3.elim
               · rename_i v σ1 hcr
                 obtain ⟨⟨fn, cd, q1, q2, q3⟩, hcalls⟩ := hC.1.1 _ _ _ _ _ hcr hfn μ S w (d.args ++ caps) hst.good hst.glob k3
                 have hrun : (execOp a.eval o).run P w = .ok (.enter f' (d.args ++ caps)) w := by
                   simp only [execOp, ho1, resolve, ho2, Sem.run_bind, k1, Result.andThen_ok]
                   rw [k2, wx q1 q2 q3]
                 simp only [hrun, Oper.uponIn_enter]
                 refine ⟨Qb6, Qe1 ?_⟩
                 simp only [Option.some.injEq, Prod.mk.injEq] at h
                 obtain ⟨rfl, rfl⟩ := h
                 refine hcalls.mono fun e w1 ⟨μ1, S1, g1, g2, g3⟩ => ?_
                 cases e with
                 | returned cv => exact g3.elim
                 | panicked ch => exact ⟨μ1, S1, g3, hst.step g1 g2, g2⟩
                 | outgrown => exact g3.elim
               · cases h
             · have hrunC : ∀ res σ1, C 4294967295 (.yld yid :: as) st.heap = some (res, σ1) -> ∃ l fn tmps assign body, (execOp a.eval o).run P w = .ok (.round l fn tmps assign body) w /\
                   RoundIn (FR r) (n - 1) P l fn tmps assign body w fun e w' => ∃ μ' S', Good μ' S' w' σ1 /\ Frm μ S w st.heap μ' S' w' σ1 /\ S7 S' w' μ' res e := by
                 intro res σ1 hcr
                 generalize hcf : a.eval fo = cf at r1
                 obtain ⟨l, as2, e3, fn, tmps, assign, body, hy, hR⟩ := hC.1.2 _ _ _ _ hcr μ S w (#[cf] ++ c.args.map a.eval) hst.good hst.glob (by simpa using RepL.cons r1 (by simpa using r2))
                 have e4 : cf = .func (.yield l) #[] #[] /\ c.args.map a.eval = as2 := by
                   have := congrArg Array.toList e3
                   simp at this
                   exact ⟨this.1, by rw [<- Array.toList_inj]; simpa using this.2⟩
                 obtain ⟨e5, rfl⟩ := e4
                 refine ⟨l, fn, tmps, assign, body, ?_, Qte (hR _)⟩
                 subst e5
                 simp only [execOp, ho1, resolve, ho2, hcf, Sem.run_bind, Deferred.ofValue, Sem.run_pure, Result.andThen_ok, invoke]
                 simpa using hy
               split at h
               · rename_i v σ1 hcr
                 obtain ⟨l, fn, tmps, assign, body, hrun, hR⟩ := hrunC _ _ hcr
                 simp only [hrun, Oper.uponIn_round]
                 refine ⟨Qb6, hR.mono fun e w1 ⟨μ1, S1, g1, g2, g3⟩ => ?_⟩
                 cases e with
                 | returned cv =>
                   refine wmono (st1 := { st with env := putE st.env ao.dst v, heap := σ1 }) g2 ?_ h
                   rw [hdst]
                   exact (hst.step g1 g2).put hdN g3
                 | panicked ch => exact g3.elim
                 | outgrown => exact g3.elim
               · rename_i v σ1 hcr
                 obtain ⟨l, fn, tmps, assign, body, hrun, hR⟩ := hrunC _ _ hcr
                 simp only [hrun, Oper.uponIn_round]
                 simp only [Option.some.injEq, Prod.mk.injEq] at h
                 obtain ⟨rfl, rfl⟩ := h
                 refine ⟨Qb6, hR.mono fun e w1 ⟨μ1, S1, g1, g2, g3⟩ => ?_⟩
                 cases e with
                 | returned cv => exact g3.elim
                 | panicked ch => exact ⟨μ1, S1, g3, hst.step g1 g2, g2⟩
                 | outgrown => exact g3.elim
               · cases h
           · cases h
         · cases h
       · -- a deferred call
         rename_i f args hop
         split at h
         · rename_i fv as e1 e2
           split at h
           · rename_i dd ht
             obtain ⟨f', as'⟩ := dd
             have hcall : ∃ c fo, o.op = .defer c /\ c.callee = .value fo /\ cOpd G fo = some f /\ z9 G c.args.toList = some args := by
               rw [hop] at hcop
               exact Qnq hcop
             obtain ⟨c, fo, ho1, ho2, ho3, ho4⟩ := hcall
             have r1 := Jn hst.env hst.glob ho3 e1
             have r2 := W6 hst.env hst.glob ho4 e2
             obtain ⟨hfl, d, caps, k1, k2, k3⟩ := qq (P := P) (cas := c.args.map a.eval) ht r1 (by simpa using r2)
             have hrun : (execOp a.eval o).run P w = .ok (.defer d) w := by
               simp only [execOp, ho1, resolve, ho2, Sem.run_bind, k1, Result.andThen_ok, Sem.run_pure]
             simp only [hrun, Oper.uponIn_defer]
             refine wmono (st1 := { st with env := putE st.env ao.dst (.p .undef), defers := (f', as') :: st.defers }) (.refl _ _ _ _) ?_ h
             rw [hdst]
             have h2 : StOK G N μ S w { st with defers := (f', as') :: st.defers } { a with defers := d :: a.defers } := ⟨hst.env, hst.glob, hst.good, hst.size, ⟨.inl ⟨by omega, caps, k2, k3⟩, hst.defers⟩⟩
             exact h2.put hdN (.p .undef)
           · cases h
         · cases h
       · -- a panic
         rename_i x hop
         have hpan : ∃ xo, cOpd G xo = some x /\ ∀ t y, a.eval xo = .iface t y -> (execOp a.eval o).run P w = .halt (.panic (.iface t y)) w := by
           rw [hop] at hcop
           exact Qqi hcop a w
         obtain ⟨xo, hxo, hrun⟩ := hpan
         split at h
         · rename_i t v hev
           simp only [Option.some.injEq, Prod.mk.injEq] at h
           obtain ⟨rfl, rfl⟩ := h
           have hr := Jn hst.env hst.glob hxo hev
           generalize hcv : a.eval xo = cv at hr
           have hr2 := hr
           cases hr with
           | p hr => cases hr; simp only [hrun _ _ hcv, Oper.uponIn_panic]; exact ⟨μ, S, ⟨_, rfl, hr2⟩, hst, .refl _ _ _ _⟩
         · rename_i t v hev
           simp only [Option.some.injEq, Prod.mk.injEq] at h
           obtain ⟨rfl, rfl⟩ := h
           have hr := Jn hst.env hst.glob hxo hev
           generalize hcv : a.eval xo = cv at hr
           have hr2 := hr
           cases hr
           simp only [hrun _ _ hcv, Oper.uponIn_panic]
           exact ⟨μ, S, ⟨_, rfl, hr2⟩, hst, .refl _ _ _ _⟩
         · cases h
       · -- the others
         split at h
         · rename_i v σ1 hstep
           obtain ⟨nx, c, w1, μ1, r1, r2, r3, r4, r5⟩ := Qmy hst hcop hstep
           have hput : StOK G N μ1 S w1 { st with env := putE st.env ao.dst v, heap := σ1 } (a.put o.dst c) := by
             rw [hdst]
             exact (hst.step r3 r4).put hdN r5
           cases r2 with
           | value c =>
             simp only [r1, Oper.uponIn_value]
             exact wmono (st1 := { st with env := putE st.env ao.dst v, heap := σ1 }) r4 hput h
           | skip =>
             simp only [r1, Oper.uponIn_skip]
             exact wmono (st1 := { st with env := putE st.env ao.dst v, heap := σ1 }) r4 hput h
         · cases h
end Go.Ab
