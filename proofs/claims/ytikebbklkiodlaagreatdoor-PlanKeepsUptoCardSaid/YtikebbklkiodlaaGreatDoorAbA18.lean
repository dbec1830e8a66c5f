/- A18 -/
import Derived.Test.YtikebbklkiodlaaGreatDoorAbA15
set_option maxRecDepth 1000000
set_option linter.all false
namespace Go.Ab
variable [Q4]
variable {S S' : Nat -> Nat -> Prop} {w w' w1 : World} {μ μ' : Nat -> Nat -> Option (Nat × Nat)} {P : Program} {G : Bx} {σ σ' : Heap}
theorem Qbb {N : Nat} {ops : Array Oper} {Q : Exit -> Act -> List Frame -> World -> Prop} {cs : List Frame} {M' : Env} :
   ∀ (l : List Nat) (r : List Oper) (ms : List (Nat × Opd)) (M : Env) (a : Act), (∀ (k i : Nat), l[k]? = some i -> ∃ o, ops[i]? = some o /\ r[k]? = some o) -> r.length = l.length ->
     Qdg G N r = some ms -> Qo7 ms M = some M' -> StOK G N μ S w ⟨M, [], σ⟩ a -> (∀ a', StOK G N μ S w ⟨M', [], σ⟩ a' -> Q .normal a' cs w) -> wpOpsS P ops Q l a cs w
 | [], r, ms, M, a, hl, hlen, hc, hm, hst, hq => by
   cases r with
   | cons => simp at hlen
   | nil =>
     simp only [Qdg, Option.some.injEq] at hc
     subst hc
     simp only [Qo7, Option.some.injEq] at hm
     subst hm
     exact hq a hst
 | i :: l, [], ms, M, a, hl, hlen, hc, hm, hst, hq => by simp at hlen
 | i :: l, o :: r, ms, M, a, hl, hlen, hc, hm, hst, hq => by
   obtain ⟨o', h1, h2⟩ := hl 0 i rfl
   simp only [List.getElem?_cons_zero, Option.some.injEq] at h2
   subst h2
   have main : ∀ (d : Nat) (x : Operand) (ms' : List (Nat × Opd)), o.dst = some d -> o.guard = none -> (execOp a.eval o).run P w = .ok (.value (a.eval x)) w -> Qdg G N r = some ms' ->
       (if d < N then (cOpd G x).map fun y => (d, y) :: ms' else none) = some ms -> wpOpsS P ops Q (i :: l) a cs w := by
     intro d x ms' hd hg hx hms hi
     split at hi
     · rename_i hdN
       simp only [Option.map_eq_some_iff] at hi
       obtain ⟨y, hy, rfl⟩ := hi
       simp only [Qo7] at hm
       split at hm
       · rename_i v hv
         have hrep := Jn hst.env hst.glob hy hv
         have hst' := hst.put (dst := some d) (by simpa [Qcj] using hdN) hrep
         simp only [wpOpsS, h1, Region.wanted, hg, if_true, hx, Oper.upon, hd]
         exact Qbb l r ms' _ _ (fun k j hk => by
           obtain ⟨o2, q1, q2⟩ := hl (k + 1) j (by simpa using hk)
           exact ⟨o2, q1, by simpa using q2⟩) (by simpa using hlen) hms hm hst' hq
       · cases hm
     · cases hi
   simp only [Qdg] at hc
   split at hc
   · rename_i hop hd hg hms
     exact main _ _ _ hd hg (by simp [execOp, hop]) hms hc
   · rename_i hop hd hg hms
     exact main _ _ _ hd hg (by simp [execOp, hop]) hms hc
   · cases hc
theorem Qmp {m : Option AV} {u : FrameMode} (hu : ModeRep S w μ m u) (c₀ : Frame) (cs : List Frame) (h0 : c₀.mode = u) :
   (∃ cv u', recoverD (c₀ :: cs) = some (cv, { c₀ with mode := u' } :: cs) /\ settle u' = .returning /\ Rep S w μ (m.getD (.p .nilif)) cv) ∨
   (recoverD (c₀ :: cs) = none /\ settle u = .returning /\ m = none) := by
 cases m <;> cases u <;> first | exact hu.elim | skip
 · exact .inr ⟨by simp [recoverD, h0], rfl, rfl⟩
 · obtain ⟨c, rfl, hr⟩ := hu
   exact .inl ⟨c, .panicking [{ v := c, recovered := true }], by simp only [recoverD, h0], rfl, hr⟩
theorem Qpe {C : Zj} (hM : Vr P G) (hC : Pf P G C) {L : Nat} {hints : List (List Nat)} {f : Nat} {fn : Func} {rf : RFunc} {args : List AV} {m m' : Option AV}
   (hf : P.funcs[f]? = some fn) (hc : cRec P G hints fn = some rf) (hn : args.length <= rf.ntmps) (h : Qp6 C L rf args σ m = some (m', σ'))
   {cargs : Array Value} {u : FrameMode} (hg : Good μ S w σ) (hG : GlobOK S w G) (ha : RepL S w μ args cargs.toList) (hu : ModeRep S w μ m u) :
   Qb4 P f /\ CallsD P f cargs u w fun e u' w' => (∃ v, e = .returned v) /\ ∃ μ' S', Good μ' S' w' σ' /\ Frm μ S w σ μ' S' w' σ' /\ ModeRep S' w' μ' m' (settle u') := by
 unfold cRec at hc
 split at hc
 · cases hc
 rename_i hne
 rw [not_or] at hne
 obtain ⟨hname, hres⟩ := hne
 have hres : fn.results.size = 0 := by simpa using hres
 split at hc
 · rename_i i ops rest hb
   split at hc
   · rename_i o r hops
     split at hc
     · rename_i hrec
       simp only [Bool.and_eq_true] at hrec
       obtain ⟨hrec, hguard⟩ := hrec
       split at hc
       · rename_i d ms ac h' hd hms hcc
         split at hc
         · rename_i hdN
           obtain rfl := Option.some.inj hc
           refine ⟨⟨fn, _, hf, hb, hname⟩, callsD_of_wpS hf hb fun c₀ cs h0 => ?_⟩
           have hst := Qeg (N := fn.ntmps) hg hG ha hn
           have hsz : ops.size = (o :: r).length := by rw [<- hops]; simp
           have hget : ∀ k, ops[k]? = (o :: r)[k]? := fun k => by rw [<- hops, Array.getElem?_toList]
           have hrange : List.range ops.size = 0 :: (List.range' 1 r.length) := by
             rw [hsz, List.length_cons, List.range_eq_range', List.range'_succ]
           refine wpS_seq (wpS_region ?_)
           rw [hrange]
           have hx : ∀ ev, (execOp ev o).run P w = .ok .recover w := by
             intro ev
             unfold Qgf at hrec
             split at hrec
             · rename_i c hop
               split at hrec
               · rename_i hcal
                 simp only [beq_iff_eq] at hrec
                 simp [execOp, hop, resolve, hcal, invoke, builtin]
               · cases hrec
             · cases hrec
           have hgd : o.guard = none := by simpa using hguard
           unfold Qp6 at h
           split at h
           · rename_i M hmv
             have after : ∀ (cv : Value) (u' : FrameMode), settle u' = .returning -> Rep S w μ (m.getD (.p .nilif)) cv ->
                 wpOpsS P ops (Exit.thenS (rest.wpS P (bodyPostS P fn c₀ cs fun e u' w' => (∃ v, e = .returned v) /\ ∃ μ' S', Good μ' S' w' σ' /\ Frm μ S w σ μ' S' w' σ' /\ ModeRep S' w' μ' m' (settle u'))) (bodyPostS P fn c₀ cs fun e u' w' => (∃ v, e = .returned v) /\ ∃ μ' S', Good μ' S' w' σ' /\ Frm μ S w σ μ' S' w' σ' /\ ModeRep S' w' μ' m' (settle u'))) (List.range' 1 r.length) (Act.put { tmps := cargs ++ Array.replicate (fn.ntmps - cargs.size) undef, defers := [] } (some d) cv) ({ c₀ with mode := u' } :: cs) w := by
               intro cv u' hset hrep
               refine Qbb (G := G) (N := fn.ntmps) (μ := μ) (S := S) (σ := σ) (M' := M) _ r ms _ _ ?_ (by simp) hms hmv (hst.put (dst := some d) (by simpa [Qcj] using hdN) hrep) ?_
               · intro k j hk
                 have hlt : k < r.length := by
                   have := (List.getElem?_eq_some_iff.1 hk).1
                   simpa using this
                 rw [List.getElem?_range' hlt] at hk
                 obtain rfl := Option.some.inj hk
                 refine ⟨r[k], ?_, by simp [hlt]⟩
                 rw [hget, show 1 + 1 * k = k + 1 from by omega, List.getElem?_cons_succ]
                 simp [hlt]
               · intro a' hst'
                 refine wpS_of_wp ?_
                 have fin : ∀ (st : St) μ1 S1 w1 (a1 : Act), StOK G fn.ntmps μ1 S1 w1 st a1 -> Frm μ S w σ μ1 S1 w1 st.heap -> (if st.defers.isEmpty = true then some ((none : Option AV), st.heap) else none) = some (m', σ') ->
                     a1.defers = [] /\ ∃ u'', ({ c₀ with mode := u' } :: cs) = { c₀ with mode := u'' } :: cs /\ ∃ v, (results fn a1.tmps).run P w1 = .ok v w1 /\ ((∃ v', Ending.returned v = .returned v') /\ ∃ μ' S', Good μ' S' w1 σ' /\ Frm μ S w σ μ' S' w1 σ' /\ ModeRep S' w1 μ' m' (settle u'')) := by
                   intro st μ1 S1 w1 a1 hs hfr hi
                   split at hi
                   · rename_i he
                     simp only [Option.some.injEq, Prod.mk.injEq] at hi
                     obtain ⟨rfl, rfl⟩ := hi
                     simp only [List.isEmpty_iff] at he
                     have hdf := hs.defers
                     rw [he] at hdf
                     cases hds : a1.defers with
                     | cons => rw [hds] at hdf; exact hdf.elim
                     | nil =>
                       have hr0 : Qck P fn.ntmps fn.results.toList = some [] := by
                         have : fn.results = #[] := Array.size_eq_zero_iff.1 hres
                         rw [this]; rfl
                       obtain ⟨cv, k1, _⟩ := Rv hr0 hs.env hs.good (vs := []) (by rfl)
                       exact ⟨rfl, u', rfl, cv, k1, ⟨cv, rfl⟩, μ1, S1, hs.good, hfr, by rw [hset]; trivial⟩
                   · cases hi
                 simp only at h
                 split at h
                 · rename_i st hex
                   refine Code.wp_mono (fun e a1 w1 ⟨μ1, S1, p1, p2, p3⟩ => ?_) (wpIn_wide.1 (Nk (r := none) (n := 0) hM hC L rest hints h' ac hcc (.inl rfl) _ _ _ hex _ w μ S hst'))
                   cases e <;> first | exact p1.elim | skip
                   exact fin _ _ _ _ _ p2 p3 h
                 · rename_i st hex
                   refine Code.wp_mono (fun e a1 w1 ⟨μ1, S1, p1, p2, p3⟩ => ?_) (wpIn_wide.1 (Nk (r := none) (n := 0) hM hC L rest hints h' ac hcc (.inl rfl) _ _ _ hex _ w μ S hst'))
                   cases e <;> first | exact p1.elim | skip
                   exact fin _ _ _ _ _ p2 p3 h
                 · cases h
             have hget0 : ops[0]? = some o := by rw [hget]; rfl
             have hw0 : ∀ y, Region.wanted o y = true := fun y => by simp [Region.wanted, hgd]
             rw [wpOpsS]
             simp only [hget0, hw0, if_true]
             rw [hx]
             simp only [hd]
             rcases Qmp hu c₀ cs h0 with ⟨cv, u', q1, q2, q3⟩ | ⟨q1, q2, rfl⟩
             · rw [q1]
               exact after cv u' q2 q3
             · rw [q1]
               have := after .nilIface u q2 (.p .nilif)
               have hc0 : ({ c₀ with mode := u } : Frame) = c₀ := by subst h0; rfl
               rw [hc0] at this
               exact this
           · cases h
         · cases hc
       · cases hc
     · cases hc
   · cases hc
 · cases hc
end Go.Ab
namespace Go.Ab
variable [Q4]
variable {S S' : Nat -> Nat -> Prop} {w w' w1 : World} {μ μ' μ2 : Nat -> Nat -> Option (Nat × Nat)} {P : Program} {G : Bx} {σ σ' : Heap}
mutual
def renV (g : Nat -> Nat -> Option (Nat × Nat)) : AV -> AV
 | .p v => .p v
 | .dead => .dead
 | .nil0 => .nil0
 | .e0 => .e0
 | .ptr id ver off => match g id ver with
   | some (i, v) => .ptr i v off
   | none => .dead
 | .yld id => match g id 0 with
   | some (i, 0) => .yld i
   | _ => .dead
 | .sl id ver off len esz => match g id ver with
   | some (i, v) => .sl i v off len esz
   | none => .dead
 | .clo f a b => .clo f (renL g a) (renL g b)
 | .iface t v => .iface t (renV g v)
 | .agg cs => .agg (renL g cs)
 | .tup vs => .tup (renL g vs)
def renL (g : Nat -> Nat -> Option (Nat × Nat)) : List AV -> List AV
 | [] => []
 | v :: r => renV g v :: renL g r
end
def renC (g : Nat -> Nat -> Option (Nat × Nat)) : Q1 -> Q1
 | .pv l => .pv l
 | .av l => .av (renL g l)
theorem Qk5 {g : Nat -> Nat -> Option (Nat × Nat)} : ∀ {l : List AV} {i : Nat}, (renL g l)[i]? = (l[i]?).map (renV g)
 | [], i => by simp [renL]
 | v :: r, 0 => by simp [renL]
 | v :: r, i + 1 => by simp [renL, Qk5 (l := r)]
theorem Qa7 {g : Nat -> Nat -> Option (Nat × Nat)} : ∀ {l : List AV}, (renL g l).length = l.length
 | [] => rfl
 | v :: r => by simp [renL, Qa7 (l := r)]
theorem Qmg {g : Nat -> Nat -> Option (Nat × Nat)} {c : Q1} : (renC g c).len = c.len := by
 cases c <;> simp [renC, Q1.len, Qa7]
theorem xg {g : Nat -> Nat -> Option (Nat × Nat)} {c : Q1} {i : Nat} {v : AV} (h : (renC g c).get? i = some v) : ∃ u, c.get? i = some u /\ v = renV g u := by
 cases c with
 | pv l =>
   simp only [renC, Q1.get?, Option.map_eq_some_iff] at h ⊢
   obtain ⟨x, hx, rfl⟩ := h
   exact ⟨.p x, ⟨x, hx, rfl⟩, rfl⟩
 | av l =>
   simp only [renC, Q1.get?, Qk5, Option.map_eq_some_iff] at h ⊢
   obtain ⟨x, hx, rfl⟩ := h
   exact ⟨x, hx, rfl⟩
section
variable {g : Nat -> Nat -> Option (Nat × Nat)}
mutual
theorem Tc (hg : ∀ id ver x i v, μ id ver = some x -> g id ver = some (i, v) -> μ' i v = some x) : ∀ {v : AV} {c : Value}, Rep S w μ v c -> Rep S w μ' (renV g v) c
 | _, _, .p h => .p h
 | _, _, .dead c => .dead c
 | _, _, .nil0 => .nil0
 | _, _, .e0 a => .e0 a
 | .ptr id ver off, _, .ptr h => by
   simp only [renV]
   split
   · rename_i i v hi
     exact .ptr (hg _ _ _ _ _ h hi)
   · exact .dead _
 | .yld id, _, .yld h => by
   simp only [renV]
   split
   · rename_i i hi
     exact .yld (hg _ _ _ _ _ h hi)
   · exact .dead _
 | .sl id ver off len esz, _, .sl h hl hc => by
   simp only [renV]
   split
   · rename_i i v hi
     exact .sl (hg _ _ _ _ _ h hi) hl hc
   · exact .dead _
 | _, _, .clo hf hc => .clo (Xp hg hf) (Xp hg hc)
 | _, _, .iface h => .iface (Tc hg h)
 | _, _, .agg h h1 => .agg (Xp hg h) h1
 | _, _, .tup h => .tup (Xp hg h)
theorem Xp (hg : ∀ id ver x i v, μ id ver = some x -> g id ver = some (i, v) -> μ' i v = some x) : ∀ {v : List AV} {c : List Value}, RepL S w μ v c -> RepL S w μ' (renL g v) c
 | _, _, .nil => .nil
 | _, _, .cons h hs => .cons (Tc hg h) (Xp hg hs)
end
end
def Rt : List (Nat × Nat) -> Nat -> Nat -> Option (Nat × Nat)
 | [], _, _ => none
 | (id, b) :: r, k, x => match Nat.beq id x with
   | true => some (k, b)
   | false => Rt r (k + 1) x
theorem Nj : ∀ {L : List (Nat × Nat)} {k x i b : Nat}, Rt L k x = some (i, b) -> k <= i /\ L[i - k]? = some (x, b)
 | [], _, _, _, _, h => by simp [Rt] at h
 | (id, b') :: r, k, x, i, b, h => by
   simp only [Rt] at h
   split at h
   · rename_i he
     have he := Nat.eq_of_beq_eq_true he
     simp only [Option.some.injEq, Prod.mk.injEq] at h
     obtain ⟨rfl, rfl⟩ := h
     subst he
     simp
   · obtain ⟨h1, h2⟩ := Nj h
     refine ⟨by omega, ?_⟩
     rw [show i - k = (i - (k + 1)) + 1 from by omega, List.getElem?_cons_succ]
     exact h2
theorem R3 : ∀ {L : List (Nat × Nat)} {k x : Nat}, Rt L k x = none -> ∀ (i b : Nat), L[i]? ≠ some (x, b)
 | [], _, _, _, i, b => by simp
 | (id, b') :: r, k, x, h, i, b => by
   simp only [Rt] at h
   split at h
   · cases h
   · rename_i he
     cases i with
     | zero =>
       intro h2
       simp only [List.getElem?_cons_zero, Option.some.injEq, Prod.mk.injEq] at h2
       rw [h2.1, Nat.beq_refl] at he
       cases he
     | succ i => simpa using R3 h i b
def Uniq (L : List (Nat × Nat)) : Prop := ∀ (i j x b b' : Nat), L[i]? = some (x, b) -> L[j]? = some (x, b') -> i = j
theorem Qcy {L : List (Nat × Nat)} (hu : Uniq L) {i x b : Nat} (h : L[i]? = some (x, b)) : Rt L 0 x = some (i, b) := by
 cases hp : Rt L 0 x with
 | none => exact absurd h (R3 hp i b)
 | some y =>
   obtain ⟨j, b'⟩ := y
   obtain ⟨_, h2⟩ := Nj hp
   rw [Nat.sub_zero] at h2
   have := hu _ _ _ _ _ h h2
   subst this
   rw [h] at h2
   cases h2
   rfl
def uniq : List (Nat × Nat) -> Bool
 | [] => true
 | (x, _) :: r => (match Rt r 0 x with
   | some _ => false
   | none => true) && uniq r
theorem Qa6 : ∀ {L : List (Nat × Nat)}, uniq L = true -> Uniq L
 | [], _ => fun i j x b b' h => by simp at h
 | (y, b0) :: r, h => by
   simp only [uniq, Bool.and_eq_true] at h
   obtain ⟨h1, h2⟩ := h
   have hn : Rt r 0 y = none := by
     cases hp : Rt r 0 y with
     | none => rfl
     | some z => rw [hp] at h1; cases h1
   intro i j x b b' hi hj
   cases i with
   | zero =>
     cases j with
     | zero => rfl
     | succ j =>
       simp only [List.getElem?_cons_zero, Option.some.injEq, Prod.mk.injEq] at hi
       obtain ⟨rfl, rfl⟩ := hi
       exact absurd (by simpa using hj) (R3 hn j b')
   | succ i =>
     cases j with
     | zero =>
       simp only [List.getElem?_cons_zero, Option.some.injEq, Prod.mk.injEq] at hj
       obtain ⟨rfl, rfl⟩ := hj
       exact absurd (by simpa using hi) (R3 hn i b)
     | succ j => rw [Qa6 h2 i j x b b' (by simpa using hi) (by simpa using hj)]
def fwd (L : List (Nat × Nat)) (id ver : Nat) : Option (Nat × Nat) := match Rt L 0 id with
 | some (i, b) => if b <= ver then some (i, ver - b) else none
 | none => none
def shO (g : Nat -> Nat -> Option (Nat × Nat)) (b : Nat) : Obj -> Obj
 | .arr c ver wm ty => if b <= ver then .arr (renC g c) (ver - b) wm ty else .none
 | .iter s pos => if b = 0 then .iter s pos else .none
 | .loop k ts c st => if b = 0 then .loop k ts (renC g c) st else .none
 | .mark => if b = 0 then .mark else .none
 | .none => .none
def Kn (L : List (Nat × Nat)) (σ : Heap) : Heap := L.map fun x => match σ[x.1]? with
 | some o => shO (fwd L) x.2 o
 | none => .none
def shMu (L : List (Nat × Nat)) (μ : Nat -> Nat -> Option (Nat × Nat)) (i ver : Nat) : Option (Nat × Nat) := match L[i]? with
 | some (id, b) => μ id (b + ver)
 | none => none
theorem Qnz {L : List (Nat × Nat)} {id ver i v : Nat} {x : Nat × Nat} (h : μ id ver = some x) (hf : fwd L id ver = some (i, v)) : shMu L μ i v = some x := by
 unfold fwd at hf
 split at hf
 · rename_i i' b hp
   split at hf
   · rename_i hb
     simp only [Option.some.injEq, Prod.mk.injEq] at hf
     obtain ⟨rfl, rfl⟩ := hf
     obtain ⟨_, h2⟩ := Nj hp
     rw [Nat.sub_zero] at h2
     simp only [shMu, h2]
     rw [show b + (ver - b) = ver from by omega]
     exact h
   · cases hf
 · cases hf
theorem Qcx {L : List (Nat × Nat)} {i : Nat} {o : Obj} (h : (Kn L σ)[i]? = some o) :
   ∃ id b, L[i]? = some (id, b) /\ ((∃ o0, σ[id]? = some o0 /\ o = shO (fwd L) b o0) ∨ (σ[id]? = none /\ o = .none)) := by
 unfold Kn at h
 rw [List.getElem?_map, Option.map_eq_some_iff] at h
 obtain ⟨⟨id, b⟩, h1, h2⟩ := h
 refine ⟨id, b, h1, ?_⟩
 simp only at h2
 split at h2
 · rename_i o0 ho; exact .inl ⟨o0, ho, h2.symm⟩
 · rename_i ho; exact .inr ⟨ho, h2.symm⟩
theorem Qw8 {g : Nat -> Nat -> Option (Nat × Nat)} {b : Nat} {o : Obj} (h : (shO g b o).live = true) : b + (shO g b o).ver = o.ver := by
 cases o with
 | arr c ver wm ty =>
   simp only [shO] at h ⊢
   split
   · rename_i hb; simp only [Obj.ver]; omega
   · rename_i hb; rw [if_neg hb] at h; cases h
 | iter s pos =>
   simp only [shO] at h ⊢
   split
   · rename_i hb; simp [Obj.ver, hb]
   · rename_i hb; rw [if_neg hb] at h; cases h
 | loop k ts c st =>
   simp only [shO] at h ⊢
   split
   · rename_i hb; simp [Obj.ver, hb]
   · rename_i hb; rw [if_neg hb] at h; cases h
 | mark =>
   simp only [shO] at h ⊢
   split
   · rename_i hb; simp [Obj.ver, hb]
   · rename_i hb; rw [if_neg hb] at h; cases h
 | none => cases h
theorem Qse {g : Nat -> Nat -> Option (Nat × Nat)} {b : Nat} {o : Obj} (h : (shO g b o).live = true) : o.live = true := by
 cases o <;> first | rfl | cases h
theorem Xf {L : List (Nat × Nat)} {i : Nat} {o : Obj} {b n : Nat} (h1 : (Kn L σ)[i]? = some o) (h2 : o.live = true) (h3 : shMu L μ i o.ver = some (b, n)) :
   ∃ id v o0, L[i]? = some (id, v) /\ σ[id]? = some o0 /\ o0.live = true /\ μ id o0.ver = some (b, n) /\ o = shO (fwd L) v o0 := by
 obtain ⟨id, v, hL, h | ⟨_, rfl⟩⟩ := Qcx h1
 · obtain ⟨o0, ho, rfl⟩ := h
   simp only [shMu, hL] at h3
   rw [Qw8 h2] at h3
   exact ⟨id, v, o0, hL, ho, Qse h2, h3, rfl⟩
 · cases h2
theorem Qb8 {L : List (Nat × Nat)} (hu : Uniq L) (hg : Good μ S w σ) : Good (shMu L μ) S w (Kn L σ) := by
 have hfw : ∀ id ver x i v, μ id ver = some x -> fwd L id ver = some (i, v) -> shMu L μ i v = some x := fun _ _ _ _ _ h1 h2 => Qnz h1 h2
 refine ⟨?_, ?_, ?_, hg.sb⟩
 · intro i o ho
   obtain ⟨id, b, hL, h | ⟨_, rfl⟩⟩ := Qcx ho
   · obtain ⟨o0, ho0, rfl⟩ := h
     have hob := hg.obj id o0 ho0
     cases o0 with
     | arr c ver wm ty =>
       simp only [shO]
       split
       · rename_i hb
         obtain ⟨bb, n, k1, vs, e, lo, hi, k2, k3, k4, k5, k6, k7⟩ := hob
         refine ⟨bb, n, ?_, vs, e, lo, hi, k2, k3, by rw [Qmg]; exact k4, ?_, k6, k7⟩
         · simp only [shMu, hL]
           rw [show b + (ver - b) = ver from by omega]
           exact k1
         · intro j v hv
           obtain ⟨u, hu, rfl⟩ := xg hv
           obtain ⟨cv, q1, q2, q3⟩ := k5 j u hu
           exact ⟨cv, q1, q2, Tc hfw q3⟩
       · trivial
     | iter s pos =>
       simp only [shO]
       split
       · rename_i hb
         subst hb
         obtain ⟨bb, n, cs, k1, k2, k3⟩ := hob
         exact ⟨bb, n, cs, by simp only [shMu, hL]; exact k1, k2, k3⟩
       · trivial
     | loop k ts c st =>
       simp only [shO]
       split
       · rename_i hb
         subst hb
         obtain ⟨bb, n, rec, k1, k2, k3, k4, k5⟩ := hob
         refine ⟨bb, n, rec, by simp only [shMu, hL]; exact k1, k2, k3, k4, fun j t v ht hv => ?_⟩
         obtain ⟨u, hu, rfl⟩ := xg hv
         exact Tc hfw (k5 j t u ht hu)
       · trivial
     | mark =>
       simp only [shO]
       split
       · rename_i hb
         subst hb
         obtain ⟨bb, n, k1, k2⟩ := hob
         exact ⟨bb, n, by simp only [shMu, hL]; exact k1, k2⟩
       · trivial
     | none => trivial
   · trivial
 · intro i j o o' b n n' h1 h2 l1 l2 m1 m2
   obtain ⟨id, v, o0, a1, a2, a3, a4, _⟩ := Xf h1 l1 m1
   obtain ⟨id', v', o0', b1, b2, b3, b4, _⟩ := Xf h2 l2 m2
   have := hg.inj _ _ _ _ _ _ _ a2 b2 a3 b3 a4 b4
   subst this
   exact hu _ _ _ _ _ a1 b1
 · intro i ver x h
   unfold shMu at h
   split at h
   · rename_i id b hL
     obtain ⟨o, ho, hv, hx⟩ := hg.old _ _ _ h
     refine ⟨shO (fwd L) b o, ?_, ?_, hx⟩
     · unfold Kn
       rw [List.getElem?_map, hL]
       simp only [Option.map_some, ho]
     · cases o with
       | arr c ver' wm ty => simp only [Obj.ver] at hv; simp only [shO]; rw [if_pos (by omega)]; simp only [Obj.ver]; omega
       | iter s pos => simp only [Obj.ver] at hv; simp only [shO]; rw [if_pos (by omega)]; simp only [Obj.ver]; omega
       | loop k ts c st => simp only [Obj.ver] at hv; simp only [shO]; rw [if_pos (by omega)]; simp only [Obj.ver]; omega
       | mark => simp only [Obj.ver] at hv; simp only [shO]; rw [if_pos (by omega)]; simp only [Obj.ver]; omega
       | none => simp only [Obj.ver] at hv; simp only [shO, Obj.ver]; omega
   · cases h
end Go.Ab
namespace Go.Ab
variable [Q4]
variable {S S' : Nat -> Nat -> Prop} {w w' w1 : World} {μ μ' μ2 : Nat -> Nat -> Option (Nat × Nat)} {P : Program} {G : Bx} {σ σ' : Heap}
def bwd (L : List (Nat × Nat)) (n : Nat) (i ver : Nat) : Option (Nat × Nat) := match L[i]? with
 | some (id, b) => some (id, b + ver)
 | none => some (n + (i - L.length), ver)
def bkO (g : Nat -> Nat -> Option (Nat × Nat)) (b : Nat) : Obj -> Obj
 | .arr c ver wm ty => .arr (renC g c) (b + ver) wm ty
 | .iter s pos => .iter s pos
 | .loop k ts c st => .loop k ts (renC g c) st
 | .mark => .mark
 | .none => .none
def Nc (g : Nat -> Nat -> Option (Nat × Nat)) : List (Nat × Nat) -> Heap -> Heap -> Heap
 | (id, b) :: r, o :: os, σ => Nc g r os (σ.set id (bkO g b o))
 | _, _, σ => σ
def Uc (L : List (Nat × Nat)) (σ σr : Heap) : Heap :=
 Nc (bwd L σ.length) L σr σ ++ (σr.drop L.length).map (bkO (bwd L σ.length) 0)
def zr : List (Nat × Nat) -> Heap -> Bool
 | [], _ => true
 | (_, b) :: r, o :: os => (match o with
   | .arr _ _ _ _ => true
   | _ => Nat.beq b 0) && zr r os
 | _ :: _, [] => false
def inOK (L : List (Nat × Nat)) (n : Nat) : Bool := L.all fun x => decide (x.1 < n)
def mgMu (L : List (Nat × Nat)) (n : Nat) (μ μr : Nat -> Nat -> Option (Nat × Nat)) (id ver : Nat) : Option (Nat × Nat) := match Rt L 0 id with
 | some (i, b) => if b <= ver then μr i (ver - b) else μ id ver
 | none => if id < n then μ id ver else μr (id - n + L.length) ver
theorem Pb {g : Nat -> Nat -> Option (Nat × Nat)} : ∀ {L : List (Nat × Nat)} {σr σ : Heap}, (Nc g L σr σ).length = σ.length
 | [], _, _ => by simp [Nc]
 | _ :: _, [], _ => by simp [Nc]
 | (id, b) :: r, o :: os, σ => by simp [Nc, Pb (L := r)]
theorem N5 {g : Nat -> Nat -> Option (Nat × Nat)} : ∀ {L : List (Nat × Nat)} {σr σ : Heap} {id : Nat}, (∀ (i b : Nat), L[i]? ≠ some (id, b)) -> (Nc g L σr σ)[id]? = σ[id]?
 | [], _, _, _, _ => by simp [Nc]
 | _ :: _, [], _, _, _ => by simp [Nc]
 | (x, b) :: r, o :: os, σ, id, h => by
   have hx : x ≠ id := fun e => h 0 b (by simp [e])
   rw [Nc, N5 (L := r) (fun i b' => by simpa using h (i + 1) b'), List.getElem?_set_ne hx]
theorem ja {g : Nat -> Nat -> Option (Nat × Nat)} : ∀ {L : List (Nat × Nat)} {σr σ : Heap} {i id b : Nat} {o : Obj}, Uniq L -> L[i]? = some (id, b) -> σr[i]? = some o -> id < σ.length -> (Nc g L σr σ)[id]? = some (bkO g b o)
 | [], _, _, _, _, _, _, _, h, _, _ => by simp at h
 | _ :: _, [], _, _, _, _, _, _, _, h, _ => by simp at h
 | (x, b') :: r, o' :: os, σ, 0, id, b, o, hu, h1, h2, hlt => by
   simp only [List.getElem?_cons_zero, Option.some.injEq, Prod.mk.injEq] at h1 h2
   obtain ⟨rfl, rfl⟩ := h1
   subst h2
   rw [Nc, N5 (L := r) (fun i b2 h3 => by have := hu 0 (i + 1) x b' b2 rfl (by simpa using h3); omega)]
   simp [hlt]
 | (x, b') :: r, o' :: os, σ, i + 1, id, b, o, hu, h1, h2, hlt => by
   rw [Nc]
   exact ja (L := r) (fun i j y c c' hi hj => by have := hu (i + 1) (j + 1) y c c' (by simpa using hi) (by simpa using hj); omega) (by simpa using h1) (by simpa using h2) (by simpa using hlt)
theorem Oz : ∀ {L : List (Nat × Nat)} {σr : Heap}, zr L σr = true -> L.length <= σr.length /\ ∀ (i id b : Nat) (o : Obj), L[i]? = some (id, b) -> σr[i]? = some o -> (∃ c v wm ty, o = .arr c v wm ty) ∨ b = 0
 | [], _, _ => ⟨Nat.zero_le _, fun i id b o h => by simp at h⟩
 | _ :: _, [], h => by simp [zr] at h
 | (x, b') :: r, o' :: os, h => by
   simp only [zr, Bool.and_eq_true] at h
   obtain ⟨h1, h2⟩ := h
   obtain ⟨k1, k2⟩ := Oz h2
   refine ⟨by simp; omega, fun i id b o hi ho => ?_⟩
   cases i with
   | zero =>
     simp only [List.getElem?_cons_zero, Option.some.injEq, Prod.mk.injEq] at hi ho
     obtain ⟨rfl, rfl⟩ := hi
     subst ho
     cases o' with
     | arr c v wm ty => exact .inl ⟨c, v, wm, ty, rfl⟩
     | iter s p => exact .inr (Nat.eq_of_beq_eq_true h1)
     | loop k ts c st => exact .inr (Nat.eq_of_beq_eq_true h1)
     | mark => exact .inr (Nat.eq_of_beq_eq_true h1)
     | none => exact .inr (Nat.eq_of_beq_eq_true h1)
   | succ i => exact k2 i id b o (by simpa using hi) (by simpa using ho)
theorem Qkk {g : Nat -> Nat -> Option (Nat × Nat)} {b : Nat} {o : Obj} : (bkO g b o).live = o.live := by cases o <;> rfl
section
variable {L : List (Nat × Nat)} {μr : Nat -> Nat -> Option (Nat × Nat)} {σr : Heap}
theorem Qg0 (hu : Uniq L) (hin : inOK L σ.length = true) (hback : zr L σr = true) {id : Nat} {o : Obj} (h : (Uc L σ σr)[id]? = some o) :
   (∃ i b o0, L[i]? = some (id, b) /\ id < σ.length /\ σr[i]? = some o0 /\ o = bkO (bwd L σ.length) b o0 /\ Rt L 0 id = some (i, b)) ∨
   (Rt L 0 id = none /\ id < σ.length /\ σ[id]? = some o) ∨
   (Rt L 0 id = none /\ σ.length <= id /\ ∃ o0, σr[id - σ.length + L.length]? = some o0 /\ o = bkO (bwd L σ.length) 0 o0) := by
 have hL : ∀ (i id b : Nat), L[i]? = some (id, b) -> id < σ.length := by
   intro i id b hi
   simp only [inOK, List.all_eq_true, decide_eq_true_eq] at hin
   exact hin _ (List.mem_of_getElem? hi)
 unfold Uc at h
 rw [List.getElem?_append, Pb] at h
 split at h
 · rename_i hlt
   cases hp : Rt L 0 id with
   | none =>
     rw [N5 (R3 hp)] at h
     exact .inr (.inl ⟨rfl, hlt, h⟩)
   | some y =>
     obtain ⟨i, b⟩ := y
     obtain ⟨_, hi⟩ := Nj hp
     rw [Nat.sub_zero] at hi
     have hil : i < σr.length := Nat.lt_of_lt_of_le (List.getElem?_eq_some_iff.1 hi).1 (Oz hback).1
     rw [ja hu hi (o := σr[i]) (by simp [hil]) hlt] at h
     exact .inl ⟨i, b, σr[i], hi, hlt, by simp [hil], (Option.some.inj h).symm, rfl⟩
 · rename_i hge
   have hp : Rt L 0 id = none := by
     cases hp : Rt L 0 id with
     | none => rfl
     | some y =>
       obtain ⟨i, b⟩ := y
       obtain ⟨_, hi⟩ := Nj hp
       rw [Nat.sub_zero] at hi
       exact absurd (hL i id b hi) hge
   rw [List.getElem?_map, List.getElem?_drop, Option.map_eq_some_iff] at h
   obtain ⟨o0, h1, h2⟩ := h
   exact .inr (.inr ⟨hp, by omega, o0, by rw [Nat.add_comm]; exact h1, h2.symm⟩)
theorem Qu7 (hu : Uniq L) (hin : inOK L σ.length = true) {i ver id v : Nat} {x : Nat × Nat} (h : μr i ver = some x) (hb : bwd L σ.length i ver = some (id, v)) : mgMu L σ.length μ μr id v = some x := by
 have hL : ∀ (i id b : Nat), L[i]? = some (id, b) -> id < σ.length := by
   intro i id b hi
   simp only [inOK, List.all_eq_true, decide_eq_true_eq] at hin
   exact hin _ (List.mem_of_getElem? hi)
 unfold bwd at hb
 split at hb
 · rename_i id' b hi
   simp only [Option.some.injEq, Prod.mk.injEq] at hb
   obtain ⟨rfl, rfl⟩ := hb
   simp only [mgMu, Qcy hu hi]
   rw [if_pos (by omega), show b + ver - b = ver from by omega]
   exact h
 · rename_i hi
   simp only [Option.some.injEq, Prod.mk.injEq] at hb
   obtain ⟨rfl, rfl⟩ := hb
   have hle : L.length <= i := by rw [List.getElem?_eq_none_iff] at hi; exact hi
   have hp : Rt L 0 (σ.length + (i - L.length)) = none := by
     cases hp : Rt L 0 (σ.length + (i - L.length)) with
     | none => rfl
     | some y =>
       obtain ⟨j, b⟩ := y
       obtain ⟨_, hj⟩ := Nj hp
       rw [Nat.sub_zero] at hj
       have := hL j _ b hj
       omega
   simp only [mgMu, hp]
   rw [if_neg (by omega), show σ.length + (i - L.length) - σ.length + L.length = i from by omega]
   exact h
theorem Qaw (hu : Uniq L) (hin : inOK L σ.length = true) (hback : zr L σr = true) {id b n : Nat} {o : Obj} (h : (Uc L σ σr)[id]? = some o) (hl : o.live = true) (hm : mgMu L σ.length μ μr id o.ver = some (b, n)) :
   (∃ i o0, σr[i]? = some o0 /\ o0.live = true /\ μr i o0.ver = some (b, n) /\ ((∃ v, L[i]? = some (id, v)) ∨ (L.length <= i /\ id = σ.length + (i - L.length)))) ∨
   (Rt L 0 id = none /\ id < σ.length /\ σ[id]? = some o /\ μ id o.ver = some (b, n)) := by
 rcases Qg0 hu hin hback h with ⟨i, v, o0, h1, h2, h3, rfl, hp⟩ | ⟨hp, h2, h3⟩ | ⟨hp, h2, o0, h3, rfl⟩
 · left
   rw [Qkk] at hl
   refine ⟨i, o0, h3, hl, ?_, .inl ⟨v, h1⟩⟩
   simp only [mgMu, hp] at hm
   have hver : (bkO (bwd L σ.length) v o0).ver = v + o0.ver := by
     rcases (Oz hback).2 i id v o0 h1 h3 with ⟨c, vr, wm, ty, rfl⟩ | rfl
     · rfl
     · cases o0 <;> simp [bkO, Obj.ver]
   rw [hver, if_pos (by omega), show v + o0.ver - v = o0.ver from by omega] at hm
   exact hm
 · right
   simp only [mgMu, hp, if_pos h2] at hm
   exact ⟨hp, h2, h3, hm⟩
 · left
   rw [Qkk] at hl
   have hge : ¬ id < σ.length := by omega
   simp only [mgMu, hp, if_neg hge] at hm
   have hver : (bkO (bwd L σ.length) 0 o0).ver = o0.ver := by cases o0 <;> simp [bkO, Obj.ver]
   rw [hver] at hm
   exact ⟨_, o0, h3, hl, hm, .inr ⟨by omega, by omega⟩⟩
theorem Qja (hu : Uniq L) (hin : inOK L σ.length = true) (hback : zr L σr = true) (hg : Good μ S w σ) (hgr : Good μr S' w' σr) (hfr : Frm (shMu L μ) S w (Kn L σ) μr S' w' σr) :
   Good (mgMu L σ.length μ μr) S' w' (Uc L σ σr) /\ Frm μ S w σ (mgMu L σ.length μ μr) S' w' (Uc L σ σr) := by
 have hbw : ∀ i ver x id v, μr i ver = some x -> bwd L σ.length i ver = some (id, v) -> mgMu L σ.length μ μr id v = some x := fun _ _ _ _ _ h1 h2 => Qu7 hu hin h1 h2
 have hL : ∀ (i id b : Nat), L[i]? = some (id, b) -> id < σ.length := by
   intro i id b hi
   simp only [inOK, List.all_eq_true, decide_eq_true_eq] at hin
   exact hin _ (List.mem_of_getElem? hi)
 have hdomr : ∀ b, Dom (shMu L μ) (Kn L σ) b -> ∃ (id v : Nat) (o0 : Obj) (n : Nat), Rt L 0 id ≠ none /\ L[v]? ≠ none /\ σ[id]? = some o0 /\ o0.live = true /\ μ id o0.ver = some (b, n) := by
   intro b ⟨i, o, n, h1, h2, h3⟩
   obtain ⟨id, v, o0, k1, k2, k3, k4, _⟩ := Xf h1 h2 h3
   exact ⟨id, i, o0, n, by rw [Qcy hu k1]; simp, by rw [k1]; simp, k2, k3, k4⟩
 have hmu : ∀ id ver x, μ id ver = some x -> mgMu L σ.length μ μr id ver = some x := by
   intro id ver x h
   unfold mgMu
   split
   · rename_i i b hp
     split
     · rename_i hb
       obtain ⟨_, hi⟩ := Nj hp
       rw [Nat.sub_zero] at hi
       refine hfr.mu _ _ _ ?_
       simp only [shMu, hi]
       rw [show b + (ver - b) = ver from by omega]
       exact h
     · exact h
   · obtain ⟨o, ho, _⟩ := hg.old _ _ _ h
     rw [if_pos (List.getElem?_eq_some_iff.1 ho).1]
     exact h
 have apart : ∀ (id b n : Nat) (o : Obj), Rt L 0 id = none -> σ[id]? = some o -> o.live = true -> μ id o.ver = some (b, n) -> b < w.heap.size /\ ¬ Dom (shMu L μ) (Kn L σ) b := by
   intro id b n o hp ho hl hm
   refine ⟨by obtain ⟨_, _, _, hx⟩ := hg.old _ _ _ hm; exact hx, fun hd => ?_⟩
   obtain ⟨id', _, o', n', k1, _, k2, k3, k4⟩ := hdomr b hd
   have := hg.inj _ _ _ _ _ _ _ ho k2 hl k3 hm k4
   subst this
   exact k1 hp
 have newdom : ∀ b, (∃ i o0 n, σr[i]? = some o0 /\ o0.live = true /\ μr i o0.ver = some (b, n)) -> Dom (shMu L μ) (Kn L σ) b ∨ w.heap.size <= b := fun b ⟨i, o0, n, k1, k2, k3⟩ => hfr.newD b ⟨i, o0, n, k1, k2, k3⟩
 have objr : ∀ (i id b : Nat) (o0 : Obj), σr[i]? = some o0 -> (∀ ver x, μr i ver = some x -> mgMu L σ.length μ μr id (b + ver) = some x) -> ((∃ c v wm ty, o0 = .arr c v wm ty) ∨ b = 0) -> ObjOK S' w' (mgMu L σ.length μ μr) id (bkO (bwd L σ.length) b o0) := by
   intro i id b o0 h0 hv hk
   have hob := hgr.obj i o0 h0
   cases o0 with
   | arr c ver wm ty =>
     obtain ⟨bb, n, k1, vs, e, lo, hi, k2, k3, k4, k5, k6, k7⟩ := hob
     refine ⟨bb, n, hv _ _ k1, vs, e, lo, hi, k2, k3, by rw [Qmg]; exact k4, ?_, k6, k7⟩
     intro j v hj
     obtain ⟨u, hu', rfl⟩ := xg hj
     obtain ⟨cv, q1, q2, q3⟩ := k5 j u hu'
     exact ⟨cv, q1, q2, Tc hbw q3⟩
   | iter s pos =>
     rcases hk with ⟨c, v, wm, ty, h⟩ | rfl
     · cases h
     · obtain ⟨bb, n, cs, k1, k2, k3⟩ := hob
       have := hv _ _ k1
       exact ⟨bb, n, cs, by simpa using this, k2, k3⟩
   | loop k ts c st =>
     rcases hk with ⟨c, v, wm, ty, h⟩ | rfl
     · cases h
     · obtain ⟨bb, n, rec, k1, k2, k3, k4, k5⟩ := hob
       have := hv _ _ k1
       refine ⟨bb, n, rec, by simpa using this, k2, k3, k4, fun j t v ht hj => ?_⟩
       obtain ⟨u, hu', rfl⟩ := xg hj
       exact Tc hbw (k5 j t u ht hu')
   | mark =>
     rcases hk with ⟨c, v, wm, ty, h⟩ | rfl
     · cases h
     · obtain ⟨bb, n, k1, k2⟩ := hob
       have := hv _ _ k1
       exact ⟨bb, n, by simpa using this, k2⟩
   | none => trivial
 constructor
 · refine ⟨?_, ?_, ?_, hgr.sb⟩
   · intro id o ho
     rcases Qg0 hu hin hback ho with ⟨i, v, o0, h1, h2, h3, rfl, hp⟩ | ⟨hp, h2, h3⟩ | ⟨hp, h2, o0, h3, rfl⟩
     · refine objr i id v o0 h3 (fun ver x hx => ?_) ((Oz hback).2 i id v o0 h1 h3)
       simp only [mgMu, hp]
       rw [if_pos (by omega), show v + ver - v = ver from by omega]
       exact hx
     · have hob := hg.obj id o h3
       cases o with
       | arr c ver wm ty =>
         obtain ⟨bb, n, k1, vs, e, lo, hi, k2, k3, k4, k5, k6, k7⟩ := hob
         obtain ⟨a1, a2⟩ := apart id bb n _ hp h3 rfl k1
         refine ⟨bb, n, hmu _ _ _ k1, vs, e, lo, hi, by rw [hfr.keepB bb a1 a2]; exact k2, k3, k4, ?_, ?_, k7⟩
         · intro j v hj
           obtain ⟨cv, q1, q2, q3⟩ := k5 j v hj
           exact ⟨cv, q1, q2, q3.mono hfr.keepS hmu⟩
         · intro j hj1 hj2
           obtain ⟨q1, q2⟩ := k6 j hj1 hj2
           refine ⟨fun hs => ?_, q2⟩
           rcases hfr.newS bb j hs with h | h | h
           · exact q1 h
           · exact a2 h
           · omega
       | iter s pos =>
         obtain ⟨bb, n, cs, k1, k2, k3⟩ := hob
         obtain ⟨a1, a2⟩ := apart id bb n _ hp h3 rfl k1
         exact ⟨bb, n, cs, hmu _ _ _ k1, by rw [hfr.keepB bb a1 a2]; exact k2, k3⟩
       | loop k ts c st =>
         obtain ⟨bb, n, rec, k1, k2, k3, k4, k5⟩ := hob
         obtain ⟨a1, a2⟩ := apart id bb n _ hp h3 rfl k1
         exact ⟨bb, n, rec, hmu _ _ _ k1, by rw [hfr.keepB bb a1 a2]; exact k2, k3, k4, fun j t v ht hj => (k5 j t v ht hj).mono hfr.keepS hmu⟩
       | mark =>
         obtain ⟨bb, n, k1, k2⟩ := hob
         obtain ⟨a1, a2⟩ := apart id bb n _ hp h3 rfl k1
         exact ⟨bb, n, hmu _ _ _ k1, by rw [hfr.keepB bb a1 a2]; exact k2⟩
       | none => trivial
     · refine objr _ id 0 o0 h3 (fun ver x hx => ?_) (.inr rfl)
       have hge : ¬ id < σ.length := by omega
       simp only [mgMu, hp, if_neg hge, Nat.zero_add]
       exact hx
   · intro id id' o o' b n n' h1 h2 l1 l2 m1 m2
     rcases Qaw hu hin hback h1 l1 m1 with ⟨i, o0, a1, a2, a3, a4⟩ | ⟨p1, p2, p3, p4⟩ <;> rcases Qaw hu hin hback h2 l2 m2 with ⟨i', o0', b1, b2, b3, b4⟩ | ⟨q1, q2, q3, q4⟩
     · have := hgr.inj _ _ _ _ _ _ _ a1 b1 a2 b2 a3 b3
       subst this
       rcases a4 with ⟨v, a4⟩ | ⟨a4, rfl⟩ <;> rcases b4 with ⟨v', b4⟩ | ⟨b4, rfl⟩
       · rw [a4] at b4; cases b4; rfl
       · have := (List.getElem?_eq_some_iff.1 a4).1; omega
       · have := (List.getElem?_eq_some_iff.1 b4).1; omega
       · rfl
     · obtain ⟨c1, c2⟩ := apart id' b n' o' q1 q3 l2 q4
       rcases newdom b ⟨i, o0, n, a1, a2, a3⟩ with h | h
       · exact absurd h c2
       · omega
     · obtain ⟨c1, c2⟩ := apart id b n o p1 p3 l1 p4
       rcases newdom b ⟨i', o0', n', b1, b2, b3⟩ with h | h
       · exact absurd h c2
       · omega
     · exact hg.inj _ _ _ _ _ _ _ p3 q3 l1 l2 p4 q4
   · intro id ver x h
     have lenp : (Nc (bwd L σ.length) L σr σ).length = σ.length := Pb
     unfold mgMu at h
     split at h
     · rename_i i b hp
       obtain ⟨_, hi⟩ := Nj hp
       rw [Nat.sub_zero] at hi
       have hlt := hL i id b hi
       have hil : i < σr.length := Nat.lt_of_lt_of_le (List.getElem?_eq_some_iff.1 hi).1 (Oz hback).1
       have hat := ja (g := bwd L σ.length) hu hi (List.getElem?_eq_getElem hil) hlt
       have hval : (Uc L σ σr)[id]? = some (bkO (bwd L σ.length) b σr[i]) := by
         unfold Uc
         rw [List.getElem?_append_left (by rw [lenp]; exact hlt)]
         exact hat
       refine ⟨_, hval, ?_⟩
       have hver : (bkO (bwd L σ.length) b σr[i]).ver = b + σr[i].ver := by
         rcases (Oz hback).2 i id b σr[i] hi (by simp [hil]) with ⟨c, vr, wm, ty, he⟩ | rfl
         · rw [he]; rfl
         · cases σr[i] <;> simp [bkO, Obj.ver]
       rw [hver]
       split at h
       · obtain ⟨o, ho, hv, hx⟩ := hgr.old _ _ _ h
         have : o = σr[i] := by rw [List.getElem?_eq_getElem hil] at ho; exact (Option.some.inj ho).symm
         subst this
         exact ⟨by omega, hx⟩
       · obtain ⟨_, _, _, hx⟩ := hg.old _ _ _ h
         exact ⟨by omega, Nat.lt_of_lt_of_le hx hfr.size⟩
     · rename_i hp
       split at h
       · rename_i hlt
         obtain ⟨o, ho, hv, hx⟩ := hg.old _ _ _ h
         refine ⟨o, ?_, hv, Nat.lt_of_lt_of_le hx hfr.size⟩
         unfold Uc
         rw [List.getElem?_append_left (by rw [lenp]; exact hlt), N5 (R3 hp)]
         exact ho
       · rename_i hge
         obtain ⟨o, ho, hv, hx⟩ := hgr.old _ _ _ h
         refine ⟨bkO (bwd L σ.length) 0 o, ?_, ?_, hx⟩
         · unfold Uc
           rw [List.getElem?_append_right (by rw [lenp]; omega), lenp, List.getElem?_map, List.getElem?_drop, Nat.add_comm, ho]
           rfl
         · cases o <;> simpa [bkO, Obj.ver] using hv
 · refine ⟨hfr.os, hfr.tape, hfr.output, hfr.size, hfr.keepS, ?_, ?_, ?_, hmu⟩
   · intro b hb hd
     refine hfr.keepB b hb fun hdr => hd ?_
     obtain ⟨id, _, o0, n, _, _, k2, k3, k4⟩ := hdomr b hdr
     exact ⟨id, o0, n, k2, k3, k4⟩
   · intro b o hs
     rcases hfr.newS b o hs with h | h | h
     · exact .inl h
     · obtain ⟨id, _, o0, n, _, _, k2, k3, k4⟩ := hdomr b h
       exact .inr (.inl ⟨id, o0, n, k2, k3, k4⟩)
     · exact .inr (.inr h)
   · intro b ⟨id, o, n, h1, h2, h3⟩
     rcases Qaw hu hin hback h1 h2 h3 with ⟨i, o0, a1, a2, a3, _⟩ | ⟨_, _, p3, p4⟩
     · rcases newdom b ⟨i, o0, n, a1, a2, a3⟩ with h | h
       · obtain ⟨id, _, o0, n, _, _, k2, k3, k4⟩ := hdomr b h
         exact .inl ⟨id, o0, n, k2, k3, k4⟩
       · exact .inr h
     · exact .inl ⟨id, o, n, p3, h2, p4⟩
end
end Go.Ab
