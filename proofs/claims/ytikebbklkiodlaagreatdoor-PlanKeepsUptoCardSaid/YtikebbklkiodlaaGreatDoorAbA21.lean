/- A21 -/
import Derived.Test.YtikebbklkiodlaaGreatDoorAbA18
import Derived.ChangeSame
import Derived.Deep.Strs
import Derived.FnData
import Derived.OpenShut
import Derived.WalkKit
import Derived.ProofKit
import Derived.Deep.DeepHandedRow
import Derived.Deep.DeepWitnessRowRef
import Derived.Lay
import Derived.MakeChecks
set_option maxRecDepth 1000000
set_option linter.all false
namespace Go.Ab
variable [Q4]
variable {S S' : Nat -> Nat -> Prop} {w w' w1 : World} {μ μ' μ2 : Nat -> Nat -> Option (Nat × Nat)} {P : Program} {G : Bx} {σ σ' : Heap}
def frzs (f : Heap -> AV -> Option (PV × Heap)) : Heap -> List AV -> Option (List PV × Heap)
 | σ, [] => some ([], σ)
 | σ, v :: r => match f σ v with
   | some (p, σ1) => match frzs f σ1 r with
     | some (ps, σ2) => some (p :: ps, σ2)
     | none => none
   | none => none
def frz (tl : List Nat) : Nat -> Heap -> AV -> Option (PV × Heap)
 | 0, _, _ => none
 | d + 1, σ, v => match v with
   | .p v => some (v, σ)
   | .nil0 => some (.vsl [] 0, σ)
   | .e0 => some (.vsl [] 0, σ)
   | .sl id ver off len esz => match σ[id]? with
     | some (.arr c vr wm ty) =>
       if vr = ver /\ off + len * esz <= c.len /\ tl.contains id = true then match c with
         | .pv l => some (.vsl ((l.drop off).take (len * esz)) len, σ.set id (.arr (.pv l) ver (Nat.max wm (off + len * esz)) ty))
         | .av l => match frzs (frz tl d) σ ((l.drop off).take (len * esz)) with
           | some (ps, σ1) => match σ1[id]? with
             | some (.arr c1 v1 w1 ty1) => if v1 = ver /\ off + len * esz <= c1.len then some (.vsl ps len, σ1.set id (.arr (O5 c1 off (.pv ps)) ver (Nat.max w1 (off + len * esz)) ty1)) else none
             | _ => none
           | none => none
       else none
     | _ => none
   | .agg cs => match frzs (frz tl d) σ cs with
     | some (ps, σ1) => some (.agg ps, σ1)
     | none => none
   | .tup cs => match frzs (frz tl d) σ cs with
     | some (ps, σ1) => some (.tup ps, σ1)
     | none => none
   | .iface t v => match frz tl d σ v with
     | some (p, σ1) => some (.iface t p, σ1)
     | none => none
   | .ptr id ver off => match σ[id]? with
     | some (.arr c vr _ _) => if vr = ver /\ off <= c.len then match frz tl d σ (.sl id ver off (c.len - off) 1) with
         | some (.vsl cells _, σ1) => some (.vptr cells, σ1)
         | _ => none
       else none
     | _ => none
   | _ => none
theorem Qc9 {id b n off m ver wm : Nat} {c c' : Q1} {vs : Array Value} {e : TypeId} {fz : Nat × Nat} (hg : Good μ S w σ) {ty : Option Nat} (hid : σ[id]? = some (.arr c ver wm ty)) (hb : μ id ver = some (b, n))
   (hh : w.heap[b]? = some (.cells vs e fz)) (hlen : c'.len <= n) (_hin : off + m <= n)
   (hc : ∀ j v, c'.get? j = some v -> ∃ cv, vs[j]? = some cv /\ one cv = true /\ Rep (fun x j => S x j ∨ (x = b /\ off <= j /\ j < off + m)) w μ v cv) :
   Good μ (fun x j => S x j ∨ (x = b /\ off <= j /\ j < off + m)) w (σ.set id (.arr c' ver (Nat.max wm (off + m)) ty)) /\
   Frm μ S w σ μ (fun x j => S x j ∨ (x = b /\ off <= j /\ j < off + m)) w (σ.set id (.arr c' ver (Nat.max wm (off + m)) ty)) := by
 have hidl : id < σ.length := (List.getElem?_eq_some_iff.1 hid).1
 have hget : ∀ (i : Nat) (x : Obj), (σ.set id (.arr c' ver (Nat.max wm (off + m)) ty))[i]? = some x -> (i = id /\ x = .arr c' ver (Nat.max wm (off + m)) ty) ∨ (i ≠ id /\ σ[i]? = some x) := by
   intro i x h
   by_cases he : id = i
   · subst he
     rw [List.getElem?_set_self hidl] at h
     exact .inl ⟨rfl, (Option.some.inj h).symm⟩
   · rw [List.getElem?_set_ne he] at h
     exact .inr ⟨Ne.symm he, h⟩
 have hmono : ∀ (x o : Nat), S x o -> (S x o ∨ (x = b /\ off <= o /\ o < off + m)) /\ w.cell? ⟨x, o, none⟩ = w.cell? ⟨x, o, none⟩ := fun x o h => ⟨.inl h, rfl⟩
 have back : ∀ (i : Nat) (x : Obj), (σ.set id (.arr c' ver (Nat.max wm (off + m)) ty))[i]? = some x -> ∃ x0, σ[i]? = some x0 /\ x0.ver = x.ver /\ x0.live = x.live := by
   intro i x h
   rcases hget i x h with ⟨rfl, rfl⟩ | ⟨_, h⟩
   · exact ⟨_, hid, rfl, rfl⟩
   · exact ⟨x, h, rfl, rfl⟩
 have hbl : b < w.heap.size := by obtain ⟨_, _, _, hx⟩ := hg.old _ _ _ hb; exact hx
 constructor
 · refine ⟨?_, ?_, ?_, ?_⟩
   · intro i x h
     rcases hget i x h with ⟨rfl, rfl⟩ | ⟨hne, h⟩
     · obtain ⟨b', n', k1, vs', e', lo, hi, k2, k3, k4, k5, k6, k7⟩ := hg.obj _ _ hid
       rw [hb] at k1
       cases k1
       rw [hh] at k2
       cases k2
       refine ⟨b, n, hb, vs, e, lo, hi, hh, k3, hlen, hc, ?_, fun t ht => ⟨(k7 t ht).1, (k7 t ht).2.imp id (fun h => Nat.le_trans h (Nat.le_max_left ..))⟩⟩
       intro j hj1 hj2
       have h1 : wm <= j := Nat.le_trans (Nat.le_max_left ..) hj1
       have h2 : off + m <= j := Nat.le_trans (Nat.le_max_right ..) hj1
       obtain ⟨q1, q2⟩ := k6 j h1 hj2
       refine ⟨fun hs => ?_, q2⟩
       rcases hs with hs | ⟨_, _, hs⟩
       · exact q1 hs
       · omega
     · have hob := hg.obj i x h
       cases x with
       | arr c2 v2 wm2 ty2 =>
         obtain ⟨b', n', k1, vs', e', lo, hi, k2, k3, k4, k5, k6, k7⟩ := hob
         refine ⟨b', n', k1, vs', e', lo, hi, k2, k3, k4, ?_, ?_, k7⟩
         · intro j v hj
           obtain ⟨cv, q1, q2, q3⟩ := k5 j v hj
           exact ⟨cv, q1, q2, q3.mono hmono (fun _ _ _ h => h)⟩
         · intro j hj1 hj2
           obtain ⟨q1, q2⟩ := k6 j hj1 hj2
           refine ⟨fun hs => ?_, q2⟩
           rcases hs with hs | ⟨rfl, _⟩
           · exact q1 hs
           · exact hne (hg.inj _ _ _ _ _ _ _ h hid rfl rfl k1 hb)
       | iter s pos => exact hob
       | loop k ts c st =>
         obtain ⟨bb, n', rec, k1, k2, k3, k4, k5⟩ := hob
         exact ⟨bb, n', rec, k1, k2, k3, k4, fun j t v ht hj => (k5 j t v ht hj).mono hmono (fun _ _ _ h => h)⟩
       | mark => exact hob
       | none => trivial
   · intro i i' o o' bb n1 n2 h1 h2 l1 l2 m1 m2
     obtain ⟨x, a1, a2, a3⟩ := back i o h1
     obtain ⟨x', c1, c2, c3⟩ := back i' o' h2
     exact hg.inj _ _ _ _ _ _ _ a1 c1 (a3.trans l1) (c3.trans l2) (by rw [a2]; exact m1) (by rw [c2]; exact m2)
   · intro i v x h
     obtain ⟨o, ho, hv, hx⟩ := hg.old _ _ _ h
     by_cases he : id = i
     · subst he
       rw [hid] at ho
       cases ho
       exact ⟨_, List.getElem?_set_self hidl, hv, hx⟩
     · exact ⟨o, by rw [List.getElem?_set_ne he]; exact ho, hv, hx⟩
   · intro x o hs
     rcases hs with hs | ⟨rfl, _⟩
     · exact hg.sb x o hs
     · exact hbl
 · refine ⟨rfl, rfl, rfl, Nat.le_refl _, hmono, fun _ _ _ => rfl, ?_, ?_, fun _ _ _ h => h⟩
   · intro x o hs
     rcases hs with hs | ⟨rfl, _⟩
     · exact .inl hs
     · exact .inr (.inl ⟨id, _, n, hid, rfl, hb⟩)
   · intro x ⟨i, o, n', h1, h2, h3⟩
     obtain ⟨x0, a1, a2, a3⟩ := back i o h1
     exact .inl ⟨i, x0, n', a1, a3.trans h2, by rw [a2]; exact h3⟩
def FrzOK (f : Heap -> AV -> Option (PV × Heap)) (w : World) : Prop := ∀ σ v p σ', f σ v = some (p, σ') -> ∀ μ S, Good μ S w σ -> ∀ c, Rep S w μ v c ->
 ∃ S', Good μ S' w σ' /\ Frm μ S w σ μ S' w σ' /\ RepP S' w p c
theorem Xt {f : Heap -> AV -> Option (PV × Heap)} (hf : FrzOK f w) : ∀ (l : List AV) (σ : Heap) (ps : List PV) (σ' : Heap), frzs f σ l = some (ps, σ') -> ∀ μ S, Good μ S w σ -> ∀ cs, RepL S w μ l cs ->
   ∃ S', Good μ S' w σ' /\ Frm μ S w σ μ S' w σ' /\ RepPL S' w ps cs
 | [], σ, ps, σ', h, μ, S, hg, cs, hr => by
   simp only [frzs, Option.some.injEq, Prod.mk.injEq] at h
   obtain ⟨rfl, rfl⟩ := h
   cases hr
   exact ⟨S, hg, .refl _ _ _ _, .nil⟩
 | v :: r, σ, ps, σ', h, μ, S, hg, cs, hr => by
   simp only [frzs] at h
   split at h
   · rename_i p σ1 h1
     split at h
     · rename_i ps' σ2 h2
       simp only [Option.some.injEq, Prod.mk.injEq] at h
       obtain ⟨rfl, rfl⟩ := h
       cases hr with
       | cons hv hs =>
         obtain ⟨S1, g1, f1, r1⟩ := hf _ _ _ _ h1 μ S hg _ hv
         obtain ⟨S2, g2, f2, r2⟩ := Xt hf r σ1 _ _ h2 μ S1 g1 _ (hs.mono f1.keepS f1.mu)
         exact ⟨S2, g2, f1.trans f2, .cons (r1.mono f2.keepS) r2⟩
     · cases h
   · cases h
theorem Qcb {ps : List PV} {cs : List Value} {b off : Nat} {vs : Array Value} {e : TypeId} {fz : Nat × Nat} (hh : w.heap[b]? = some (.cells vs e fz)) (h : RepPL S w ps cs)
   (hcs : ∀ (j : Nat) c, cs[j]? = some c -> vs[off + j]? = some c /\ one c = true) (hS : ∀ j, j < ps.length -> S b (off + j)) : RepCells S w ps b off := by
 induction ps generalizing cs off with
 | nil => exact .nil b off
 | cons p r ih =>
   cases h with
   | cons hp hs =>
     rename_i c cs'
     obtain ⟨h1, h2⟩ := hcs 0 c rfl
     refine .cons (hS 0 (by simp)) ?_ h2 hp (ih hs (fun j c' hj => ?_) (fun j hj => ?_))
     · rw [Sk hh]; simpa using h1
     · have := hcs (j + 1) c' (by simpa using hj)
       rwa [show off + (j + 1) = off + 1 + j from by omega] at this
     · have := hS (j + 1) (by simp; omega)
       rwa [show off + (j + 1) = off + 1 + j from by omega] at this
theorem RepPL.length_eq : ∀ {ps : List PV} {cs : List Value}, RepPL S w ps cs -> ps.length = cs.length
 | _, _, .nil => rfl
 | _, _, .cons _ hs => by simp [RepPL.length_eq hs]
theorem RepPL.toL : ∀ {ps : List PV} {cs : List Value}, RepPL S w ps cs -> RepL S w μ (ps.map .p) cs
 | _, _, .nil => .nil
 | _, _, .cons h hs => .cons (.p h) hs.toL
theorem RepL.toP : ∀ {ps : List PV} {cs : List Value}, RepL S w μ (ps.map .p) cs -> RepPL S w ps cs
 | [], _, .nil => .nil
 | _ :: _, _, .cons h hs => by cases h with | p h => exact .cons h hs.toP
theorem Qaq {tl : List Nat} : ∀ n, FrzOK (frz tl n) w
 | 0 => fun σ v p σ' h => by simp [frz] at h
 | d + 1 => by
   have ih := Qaq (tl := tl) d
   intro σ v p σ' h μ S hg cv hr
   cases v with
   | p v =>
     simp only [frz, Option.some.injEq, Prod.mk.injEq] at h
     obtain ⟨rfl, rfl⟩ := h
     cases hr with | p hr => exact ⟨S, hg, .refl _ _ _ _, hr⟩
   | dead => simp [frz] at h
   | nil0 =>
     simp only [frz, Option.some.injEq, Prod.mk.injEq] at h
     obtain ⟨rfl, rfl⟩ := h
     cases hr
     exact ⟨S, hg, .refl _ _ _ _, .vsl0 _ _⟩
   | e0 =>
     simp only [frz, Option.some.injEq, Prod.mk.injEq] at h
     obtain ⟨rfl, rfl⟩ := h
     cases hr
     exact ⟨S, hg, .refl _ _ _ _, .vsl0 _ _⟩
   | ptr id ver off =>
     simp only [frz] at h
     split at h
     · rename_i c vr wm ty0 hob
       split at h
       · rename_i hck
         obtain ⟨rfl, hle⟩ := hck
         split at h
         · rename_i cells len σ1 h1
           simp only [Option.some.injEq, Prod.mk.injEq] at h
           obtain ⟨rfl, rfl⟩ := h
           obtain ⟨b, n, hm, rfl⟩ := hr.ptrA
           obtain ⟨b', n', vs, et, lo, hi, k1, k2, k3, k4, k5, k6, k7⟩ := (hg.obj id _ hob).cells
           rw [hm] at k1
           cases k1
           obtain ⟨S1, g1, f1, r1⟩ := ih _ _ _ _ h1 μ S hg _ (.sl (cap := c.len - off) hm (Nat.le_refl _) (by omega))
           refine ⟨S1, g1, f1, ?_⟩
           generalize c.len - off = q at r1
           cases r1 with
           | vsl0 => exact .vptr (.nil _ _)
           | vsl _ hc => exact .vptr hc
         · cases h
       · cases h
     · cases h
   | yld => simp [frz] at h
   | clo => simp [frz] at h
   | iface t v =>
     simp only [frz] at h
     split at h
     · rename_i p' σ1 h1
       simp only [Option.some.injEq, Prod.mk.injEq] at h
       obtain ⟨rfl, rfl⟩ := h
       cases hr with
       | iface hr =>
         obtain ⟨S1, g1, f1, r1⟩ := ih _ _ _ _ h1 μ S hg _ hr
         exact ⟨S1, g1, f1, .iface r1⟩
     · cases h
   | agg cs =>
     simp only [frz] at h
     split at h
     · rename_i ps σ1 h1
       simp only [Option.some.injEq, Prod.mk.injEq] at h
       obtain ⟨rfl, rfl⟩ := h
       cases hr with
       | agg hr h1' =>
         obtain ⟨S1, g1, f1, r1⟩ := Xt ih cs σ ps σ1 h1 μ S hg _ hr
         exact ⟨S1, g1, f1, .agg r1 h1'⟩
     · cases h
   | tup cs =>
     simp only [frz] at h
     split at h
     · rename_i ps σ1 h1
       simp only [Option.some.injEq, Prod.mk.injEq] at h
       obtain ⟨rfl, rfl⟩ := h
       cases hr with
       | tup hr =>
         obtain ⟨S1, g1, f1, r1⟩ := Xt ih cs σ ps σ1 h1 μ S hg _ hr
         exact ⟨S1, g1, f1, .tup r1⟩
     · cases h
   | sl id ver off len esz =>
     obtain ⟨b, n, cap, hm, hlc, hcn, rfl⟩ := hr.slA
     simp only [frz] at h
     split at h
     · rename_i c vr wm ty0 hob
       split at h
       · rename_i hck
         obtain ⟨rfl, hle, _⟩ := hck
         obtain ⟨b', n', vs, et, lo, hi, k1, k2, k3, k4, k5, k6, k7⟩ := (hg.obj id _ hob).cells
         rw [hm] at k1
         cases k1
         have hle' : off + len * esz <= n := Nat.le_trans hle k4
         split at h
         · rename_i l
           simp only [Option.some.injEq, Prod.mk.injEq] at h
           obtain ⟨rfl, rfl⟩ := h
           obtain ⟨_, _, j1, vs', _, _, _, j2, _, _, j5, _⟩ := hg.obj id _ hob
           rw [hm] at j1
           cases j1
           rw [k2] at j2
           cases j2
           obtain ⟨g1, f1⟩ := Qc9 (c' := .pv l) (off := off) (m := len * esz) hg hob hm k2 k4 hle' (fun j v hj => by
             obtain ⟨cv, q1, q2, q3⟩ := j5 j v hj
             exact ⟨cv, q1, q2, q3.mono (fun _ _ h => ⟨.inl h, rfl⟩) (fun _ _ _ h => h)⟩)
           refine ⟨_, g1, f1, .vsl hlc ?_⟩
           have hpl : RepPL S w l (vs.toList.take l.length) := (show RepL S w μ (l.map .p) _ from k5).toP
           have hmono := RepPL.mono (S' := fun x j => S x j ∨ (x = b /\ off <= j /\ j < off + len * esz)) (w' := w) (fun _ _ h => ⟨.inl h, rfl⟩) hpl
           have hsub : RepPL (fun x j => S x j ∨ (x = b /\ off <= j /\ j < off + len * esz)) w ((l.drop off).take (len * esz)) (((vs.toList.take l.length).drop off).take (len * esz)) := by
             have hl2 : RepL (fun x j => S x j ∨ (x = b /\ off <= j /\ j < off + len * esz)) w μ (l.map .p) (vs.toList.take l.length) := hmono.toL
             refine RepL.toP (μ := μ) ?_
             rw [List.map_take, List.map_drop]
             exact (hl2.drop off).take (len * esz)
           refine Qcb k2 hsub (fun j c hj => ?_) (fun j hj => ?_)
           · rw [List.getElem?_take] at hj
             split at hj
             · rw [List.getElem?_drop, List.getElem?_take] at hj
               split at hj
               · rename_i hlt
                 refine ⟨by simpa using hj, k6 c (List.mem_of_getElem? (i := off + j) ?_)⟩
                 rw [List.getElem?_take, if_pos (by simpa [Q1.len] using hlt)]
                 exact hj
               · cases hj
             · cases hj
           · simp at hj
             exact .inr ⟨rfl, by omega, by omega⟩
         · rename_i l
           split at h
           · rename_i ps σ1 hfz
             split at h
             · rename_i c1 v1 w1' ty1 hob1
               split at h
               · rename_i hck
                 obtain ⟨rfl, hle1⟩ := hck
                 simp only [Option.some.injEq, Prod.mk.injEq] at h
                 obtain ⟨rfl, rfl⟩ := h
                 have hsubr : RepL S w μ ((l.drop off).take (len * esz)) (((vs.toList.take l.length).drop off).take (len * esz)) := by
                   have : RepL S w μ l (vs.toList.take l.length) := k5
                   exact (this.drop off).take (len * esz)
                 obtain ⟨S1, g1, f1, r1⟩ := Xt ih _ _ _ _ hfz μ S hg _ hsubr
                 obtain ⟨_, _, j1, vs', _, _, _, j2, j3, j4, j5, _⟩ := g1.obj id _ hob1
                 rw [hm] at j1
                 cases j1
                 rw [k2] at j2
                 cases j2
                 have hplen : ps.length = len * esz := by
                   rw [r1.length_eq]
                   simp [Q1.len] at hle k4
                   have hvl : vs.toList.length = vs.size := Array.length_toList
                   simp
                   omega
                 have hcells : ∀ (j : Nat) c, (((vs.toList.take l.length).drop off).take (len * esz))[j]? = some c -> vs[off + j]? = some c /\ one c = true := by
                   intro j c hj
                   rw [List.getElem?_take] at hj
                   split at hj
                   · rw [List.getElem?_drop, List.getElem?_take] at hj
                     split at hj
                     · rename_i hlt
                       refine ⟨by simpa using hj, k6 c (List.mem_of_getElem? (i := off + j) ?_)⟩
                       rw [List.getElem?_take, if_pos (by simpa [Q1.len] using hlt)]
                       exact hj
                     · cases hj
                   · cases hj
                 have hdl : (Q1.pv ps).len = len * esz := hplen
                 obtain ⟨g2, f2⟩ := Qc9 (c' := O5 c1 off (.pv ps)) (off := off) (m := len * esz) g1 hob1 hm k2 (by rw [Uy (by rw [hdl]; exact hle1)]; exact j4) hle' (fun j v hj => by
                   have hmm := fun {v : AV} {c : Value} (h : Rep S1 w μ v c) => h.mono (S' := fun x j => S1 x j ∨ (x = b /\ off <= j /\ j < off + len * esz)) (w' := w) (μ' := μ) (fun _ _ h => ⟨.inl h, rfl⟩) (fun _ _ _ h => h)
                   rcases Vu (by rw [hdl]; exact hle1) hj with ⟨_, h⟩ | ⟨q1, q2, h⟩ | ⟨_, h⟩
                   · obtain ⟨cv, p1, p2, p3⟩ := j5 j v h
                     exact ⟨cv, p1, p2, hmm p3⟩
                   · have hl2 : RepL S1 w μ (ps.map .p) _ := r1.toL
                     obtain ⟨cv, p1, p2⟩ := hl2.get h
                     obtain ⟨p3, p4⟩ := hcells (j - off) cv p1
                     rw [show off + (j - off) = j from by omega] at p3
                     exact ⟨cv, p3, p4, hmm p2⟩
                   · obtain ⟨cv, p1, p2, p3⟩ := j5 j v h
                     exact ⟨cv, p1, p2, hmm p3⟩)
                 refine ⟨_, g2, f1.trans f2, .vsl hlc ?_⟩
                 have hmono := RepPL.mono (S' := fun x j => S1 x j ∨ (x = b /\ off <= j /\ j < off + len * esz)) (w' := w) (fun _ _ h => ⟨.inl h, rfl⟩) r1
                 refine Qcb k2 hmono hcells (fun j hj => ?_)
                 rw [hplen] at hj
                 exact .inr ⟨rfl, by omega, by omega⟩
               · cases h
             · cases h
           · cases h
       · cases h
     · cases h
theorem Qd6 {f : Heap -> AV -> Option (PV × Heap)} {id : Nat} (hf : ∀ (σ : Heap) v p (σ' : Heap), f σ v = some (p, σ') -> σ'.length = σ.length /\ σ'[id]? = σ[id]?) :
   ∀ (l : List AV) (σ : Heap) (ps : List PV) (σ' : Heap), frzs f σ l = some (ps, σ') -> σ'.length = σ.length /\ σ'[id]? = σ[id]?
 | [], σ, ps, σ', h => by
   simp only [frzs, Option.some.injEq, Prod.mk.injEq] at h
   rw [<- h.2]; exact ⟨rfl, rfl⟩
 | v :: r, σ, ps, σ', h => by
   simp only [frzs] at h
   split at h
   · rename_i p σ1 h1
     split at h
     · rename_i ps' σ2 h2
       simp only [Option.some.injEq, Prod.mk.injEq] at h
       rw [<- h.2]
       obtain ⟨a1, a2⟩ := hf _ _ _ _ h1
       obtain ⟨b1, b2⟩ := Qd6 hf r σ1 _ _ h2
       exact ⟨b1.trans a1, b2.trans a2⟩
     · cases h
   · cases h
theorem Qvo {tl : List Nat} {id : Nat} (hid : id ∉ tl) : ∀ (n : Nat) (σ : Heap) v p (σ' : Heap), frz tl n σ v = some (p, σ') -> σ'.length = σ.length /\ σ'[id]? = σ[id]?
 | 0, σ, v, p, σ', h => by simp [frz] at h
 | d + 1, σ, v, p, σ', h => by
   have ih := Qvo hid d
   cases v with
   | p v => simp only [frz, Option.some.injEq, Prod.mk.injEq] at h; rw [<- h.2]; exact ⟨rfl, rfl⟩
   | dead => simp [frz] at h
   | nil0 => simp only [frz, Option.some.injEq, Prod.mk.injEq] at h; rw [<- h.2]; exact ⟨rfl, rfl⟩
   | e0 => simp only [frz, Option.some.injEq, Prod.mk.injEq] at h; rw [<- h.2]; exact ⟨rfl, rfl⟩
   | ptr id' ver off =>
     simp only [frz] at h
     split at h
     · split at h
       · split at h
         · rename_i h1
           simp only [Option.some.injEq, Prod.mk.injEq] at h
           rw [<- h.2]; exact ih _ _ _ _ h1
         · cases h
       · cases h
     · cases h
   | yld => simp [frz] at h
   | clo => simp [frz] at h
   | iface t v =>
     simp only [frz] at h
     split at h
     · rename_i h1
       simp only [Option.some.injEq, Prod.mk.injEq] at h
       rw [<- h.2]; exact ih _ _ _ _ h1
     · cases h
   | agg cs =>
     simp only [frz] at h
     split at h
     · rename_i h1
       simp only [Option.some.injEq, Prod.mk.injEq] at h
       rw [<- h.2]; exact Qd6 ih _ _ _ _ h1
     · cases h
   | tup cs =>
     simp only [frz] at h
     split at h
     · rename_i h1
       simp only [Option.some.injEq, Prod.mk.injEq] at h
       rw [<- h.2]; exact Qd6 ih _ _ _ _ h1
     · cases h
   | sl id' ver off len esz =>
     simp only [frz] at h
     split at h
     · split at h
       · rename_i hck
         have hne : id' ≠ id := fun e => hid (by subst e; simpa using hck.2.2)
         split at h
         · simp only [Option.some.injEq, Prod.mk.injEq] at h
           rw [<- h.2]
           exact ⟨by simp, by rw [List.getElem?_set_ne hne]⟩
         · split at h
           · rename_i ps σ1 h1
             obtain ⟨a1, a2⟩ := Qd6 ih _ _ _ _ h1
             split at h
             · split at h
               · simp only [Option.some.injEq, Prod.mk.injEq] at h
                 rw [<- h.2]
                 exact ⟨by simp [a1], by rw [List.getElem?_set_ne hne, a2]⟩
               · cases h
             · cases h
           · cases h
       · cases h
     · cases h
end Go.Ab
namespace Go.Ab
variable [Q4]
variable {S S' : Nat -> Nat -> Prop} {w w' w1 : World} {μ μ' μ2 : Nat -> Nat -> Option (Nat × Nat)} {P : Program} {G : Bx} {σ σ' : Heap}
def frzA (tl : List Nat) (d : Nat) : Heap -> List AV -> List AV × Heap
 | σ, [] => ([], σ)
 | σ, v :: r => match frz tl d σ v with
   | some (p, σ1) => match frzA tl d σ1 r with
     | (l, σ2) => (.p p :: l, σ2)
   | none => match frzA tl d σ r with
     | (l, σ2) => (v :: l, σ2)
theorem jn {tl : List Nat} {d : Nat} : ∀ (l : List AV) (σ : Heap) μ S, Good μ S w σ -> ∀ cs, RepL S w μ l cs -> ∃ S', Good μ S' w (frzA tl d σ l).2 /\ Frm μ S w σ μ S' w (frzA tl d σ l).2 /\ RepL S' w μ (frzA tl d σ l).1 cs
 | [], σ, μ, S, hg, cs, hr => ⟨S, hg, .refl _ _ _ _, hr⟩
 | v :: r, σ, μ, S, hg, cs, hr => by
   cases hr with
   | cons hv hs =>
     simp only [frzA]
     split
     · rename_i p σ1 h1
       obtain ⟨S1, g1, f1, r1⟩ := Qaq d _ _ _ _ h1 μ S hg _ hv
       obtain ⟨S2, g2, f2, r2⟩ := jn (tl := tl) (d := d) r σ1 μ S1 g1 _ (hs.mono f1.keepS f1.mu)
       exact ⟨S2, g2, f1.trans f2, .cons (.p (r1.mono f2.keepS)) r2⟩
     · obtain ⟨S2, g2, f2, r2⟩ := jn (tl := tl) (d := d) r σ μ S hg _ hs
       exact ⟨S2, g2, f2, .cons (hv.mono f2.keepS f2.mu) r2⟩
def versO (σ : Heap) (id : Nat) : Nat := match σ[id]? with
 | some o => o.ver
 | none => 0
def Qkx (σ : Heap) (ids : List Nat) : List (Nat × Nat) := ids.map fun id => (id, versO σ id)
def Qs1 (k : Nat) : List (Nat × Nat) := (List.range k).map fun i => (i, 0)
def renR (g : Nat -> Nat -> Option (Nat × Nat)) : CRes -> CRes
 | .ret v => .ret (renV g v)
 | .pan v => .pan (renV g v)
def Quv : CRes -> List Nat
 | .ret v => idsV v
 | .pan v => idsV v
def outL (k : Nat) (r : CRes) (σr : Heap) : List (Nat × Nat) :=
 Qs1 k ++ Qkx σr ((D9 σr 100 (List.range k ++ Quv r) []).filter fun id => !(Nat.blt id k))
def j6 (g : List AV -> Heap -> Option (CRes × Heap)) (as : List AV) (σ : Heap) (L : List (Nat × Nat)) : Option (CRes × Heap) :=
 match uniq L && inOK L σ.length with
 | true => match g (renL (fwd L) as) (Kn L σ) with
   | some (r, σr) => match uniq (outL L.length r σr) && zr L (Kn (outL L.length r σr) σr) with
     | true => some (renR (bwd L σ.length) (renR (fwd (outL L.length r σr)) r), Uc L σ (Kn (outL L.length r σr) σr))
     | false => none
   | none => none
 | false => none
def y8 (g : List AV -> Heap -> Option (CRes × Heap)) (fz : Bool) (as : List AV) (σ : Heap) : Option (CRes × Heap) :=
 match (match fz with
   | true => frzA (Eo σ as) 9 σ as
   | false => (as, σ)) with
 | (as1, σ1) => match (Eo σ1 as1).all fun x => (Eo σ as).contains x with
   | true => j6 g as1 σ1 (Qkx σ1 (Eo σ1 as1))
   | false => none
def MonoK (K : Array Value -> World -> (Ending -> World -> Prop) -> Prop) : Prop := ∀ (cargs : Array Value) (w : World) (R R' : Ending -> World -> Prop), (∀ e w', R e w' -> R' e w') -> K cargs w R -> K cargs w R'
def RawK (K : Array Value -> World -> (Ending -> World -> Prop) -> Prop) (G : Bx) (g : List AV -> Heap -> Option (CRes × Heap)) : Prop :=
 ∀ args σ r σ', g args σ = some (r, σ') -> ∀ μ S w (cargs : Array Value), Good μ S w σ -> GlobOK S w G -> RepL S w μ args cargs.toList ->
   K cargs w fun e w' => ∃ μ' S', Good μ' S' w' σ' /\ Frm μ S w σ μ' S' w' σ' /\ S7 S' w' μ' r e
def Qfy (P : Program) (G : Bx) (f : Nat) (g : List AV -> Heap -> Option (CRes × Heap)) : Prop :=
 ∀ args σ r σ', g args σ = some (r, σ') -> ∀ μ S w (cargs : Array Value), Good μ S w σ -> GlobOK S w G -> RepL S w μ args cargs.toList ->
   Qb4 P f /\ Calls P f cargs w fun e w' => ∃ μ' S', Good μ' S' w' σ' /\ Frm μ S w σ μ' S' w' σ' /\ S7 S' w' μ' r e
theorem Ql7 {g : Nat -> Nat -> Option (Nat × Nat)} (hg : ∀ id ver x i v, μ id ver = some x -> g id ver = some (i, v) -> μ' i v = some x) {r : CRes} {e : Ending} (h : S7 S w μ r e) : S7 S w μ' (renR g r) e := by
 cases r <;> cases e <;> first | exact h.elim | skip
 · exact Tc hg h
 · obtain ⟨c, h1, h2⟩ := h
   exact ⟨c, h1, Tc hg h2⟩
theorem Qnt {k i : Nat} (h : i < k) : (Qs1 k)[i]? = some (i, 0) := by
 unfold Qs1
 rw [List.getElem?_map, List.getElem?_range h]
 rfl
theorem Qu4 {K : Array Value -> World -> (Ending -> World -> Prop) -> Prop} (hK : MonoK K) {g : List AV -> Heap -> Option (CRes × Heap)} (hgo : RawK K G g) {as : List AV} {L : List (Nat × Nat)} {r : CRes} (h : j6 g as σ L = some (r, σ'))
   {cargs : Array Value} (hg : Good μ S w σ) (hG : GlobOK S w G) (ha : RepL S w μ as cargs.toList) :
   K cargs w fun e w' => ∃ μ' S', Good μ' S' w' σ' /\ Frm μ S w σ μ' S' w' σ' /\ S7 S' w' μ' r e := by
 unfold j6 at h
 split at h
 · rename_i hck
   simp only [Bool.and_eq_true] at hck
   have hu := Qa6 hck.1
   split at h
   · rename_i r1 σr hr
     split at h
     · rename_i hck2
       simp only [Bool.and_eq_true] at hck2
       have hu2 := Qa6 hck2.1
       simp only [Option.some.injEq, Prod.mk.injEq] at h
       obtain ⟨rfl, rfl⟩ := h
       have hcalls := hgo _ _ _ _ hr (shMu L μ) S w cargs (Qb8 hu hg) hG (Xp (fun _ _ _ _ _ h1 h2 => Qnz h1 h2) ha)
       refine hK _ _ _ _ (fun e w' ⟨μr, S', g1, f1, r1'⟩ => ?_) hcalls
       have g2 := Qb8 hu2 g1
       have f2 : Frm (shMu L μ) S w (Kn L σ) (shMu (outL L.length r1 σr) μr) S' w' (Kn (outL L.length r1 σr) σr) := by
         have hdom : ∀ b, Dom (shMu (outL L.length r1 σr) μr) (Kn (outL L.length r1 σr) σr) b -> Dom μr σr b := by
           intro b ⟨i, o, n, h1, h2, h3⟩
           obtain ⟨id, v, o0, _, k2, k3, k4, _⟩ := Xf h1 h2 h3
           exact ⟨id, o0, n, k2, k3, k4⟩
         refine ⟨f1.os, f1.tape, f1.output, f1.size, f1.keepS, f1.keepB, f1.newS, fun b hb => f1.newD b (hdom b hb), fun i ver x hx => ?_⟩
         have hi : i < L.length := by
           unfold shMu at hx
           split at hx
           · rename_i hL; exact (List.getElem?_eq_some_iff.1 hL).1
           · cases hx
         have h1 := f1.mu _ _ _ hx
         unfold shMu
         have h2 : (outL L.length r1 σr)[i]? = some (i, 0) := by
           unfold outL
           rw [List.getElem?_append_left (by simpa [Qs1] using hi)]
           exact Qnt hi
         rw [h2]
         simp only [Nat.zero_add]
         exact h1
       obtain ⟨g3, f3⟩ := Qja hu hck.2 hck2.2 hg g2 f2
       refine ⟨_, S', g3, f3, ?_⟩
       refine Ql7 (fun i ver x id v h1 h2 => Qu7 hu hck.2 h1 h2) ?_
       exact Ql7 (fun _ _ _ _ _ h1 h2 => Qnz h1 h2) r1'
     · cases h
   · cases h
 · cases h
theorem wrapK {K : Array Value -> World -> (Ending -> World -> Prop) -> Prop} (hK : MonoK K) {g : List AV -> Heap -> Option (CRes × Heap)} (hgo : RawK K G g) {fz : Bool} : RawK K G (y8 g fz) := by
 intro args σ r σ' h μ S w cargs hg hG ha
 unfold y8 at h
 cases fz with
 | false =>
   simp only at h
   split at h
   · exact Qu4 hK hgo h hg hG ha
   · cases h
 | true =>
   simp only at h
   split at h
   case h_2 => cases h
   obtain ⟨S1, g1, f1, r1⟩ := jn (tl := Eo σ args) (d := 9) args σ μ S hg _ ha
   have hcalls := Qu4 hK hgo h g1 (hG.mono f1.keepS) r1
   exact hK _ _ _ _ (fun e w' ⟨μ', S', k1, k2, k3⟩ => ⟨μ', S', k1, f1.trans k2, k3⟩) hcalls
theorem z2 {f : Nat} {g : List AV -> Heap -> Option (CRes × Heap)} (hgo : Qfy P G f g) {fz : Bool} : Qfy P G f (y8 g fz) :=
 wrapK (K := fun cargs w R => Qb4 P f /\ Calls P f cargs w R) (fun _ _ _ _ h ⟨h1, h2⟩ => ⟨h1, h2.mono h⟩) hgo
theorem Qip {tl : List Nat} {d id : Nat} (hid : id ∉ tl) : ∀ (l : List AV) (σ : Heap), (frzA tl d σ l).2.length = σ.length /\ (frzA tl d σ l).2[id]? = σ[id]?
 | [], σ => ⟨rfl, rfl⟩
 | v :: r, σ => by
   simp only [frzA]
   split
   · rename_i p σ1 h1
     obtain ⟨a1, a2⟩ := Qvo hid _ _ _ _ _ h1
     obtain ⟨b1, b2⟩ := Qip (d := d) hid r σ1
     exact ⟨b1.trans a1, b2.trans a2⟩
   · exact Qip (d := d) hid r σ
theorem Qud {g : List AV -> Heap -> Option (CRes × Heap)} {as : List AV} {L : List (Nat × Nat)} {r : CRes} (h : j6 g as σ L = some (r, σ')) {id : Nat} (hlt : id < σ.length) (hid : ∀ (i b : Nat), L[i]? ≠ some (id, b)) : σ'[id]? = σ[id]? := by
 unfold j6 at h
 split at h
 · split at h
   · split at h
     · simp only [Option.some.injEq, Prod.mk.injEq] at h
       rw [<- h.2]
       unfold Uc
       rw [List.getElem?_append_left (by rw [Pb]; exact hlt), N5 hid]
     · cases h
   · cases h
 · cases h
theorem Qfo {g : List AV -> Heap -> Option (CRes × Heap)} {fz : Bool} {as : List AV} {r : CRes} (h : y8 g fz as σ = some (r, σ')) {id : Nat} (hlt : id < σ.length) (hid : id ∉ Eo σ as) : σ'[id]? = σ[id]? := by
 have key : ∀ (as1 : List AV) (σ1 : Heap), (match (Eo σ1 as1).all fun x => (Eo σ as).contains x with
     | true => j6 g as1 σ1 (Qkx σ1 (Eo σ1 as1))
     | false => none) = some (r, σ') -> id < σ1.length -> σ'[id]? = σ1[id]? := by
   intro as1 σ1 h hlt1
   split at h
   · rename_i hall
     refine Qud h hlt1 fun i b hi => hid ?_
     have hm := List.mem_of_getElem? hi
     unfold Qkx at hm
     obtain ⟨x, hx, he⟩ := List.mem_map.1 hm
     simp only [Prod.mk.injEq] at he
     obtain ⟨rfl, _⟩ := he
     simp only [List.all_eq_true] at hall
     simpa using hall x hx
   · cases h
 unfold y8 at h
 cases fz with
 | false => exact key as σ h hlt
 | true =>
   obtain ⟨a1, a2⟩ := Qip (d := 9) hid as σ
   exact (key _ _ h (by rw [a1]; exact hlt)).trans a2
def Wk : List Nat -> List AV -> Env -> Env
 | p :: ps, v :: vs, M => Wk ps vs ((p, v) :: M)
 | _, _, M => M
def zipE : List Nat -> List AV -> Env
 | t :: ts, v :: vs => (t, v) :: zipE ts vs
 | _, _ => []
def endR (id : Nat) (ex : AExit) (σ : Heap) : Option (CRes × Heap) :=
 match σ[id]? with
   | some (.loop k ts c .busy) => match ex with
     | .normal => some (.ret (.p (.bool true)), σ.set id (.loop k ts c .ready))
     | .ret => some (.ret (.p (.bool false)), σ.set id (.loop k ts c (.done .ret)))
     | .exit i => some (.ret (.p (.bool false)), σ.set id (.loop k ts c (.done (.exit i))))
     | .pan _ => none
   | _ => none
def Xs (C : Zj) (L : Nat) (as : List AV) (σ : Heap) : Option (CRes × Heap) := match as with
 | .yld id :: args => match σ[id]? with
   | some (.loop (ps, xa, xb) ts c .ready) => match Nat.beq ps.length args.length with
     | true => match exec C L xa ⟨Wk ps args (zipE ts c.toList), [], σ⟩ with
       | some (.normal, st1) => match st1.heap[id]? with
         | some (.loop k1 ts1 c1 .ready) => match exec C L xb ⟨st1.env, st1.defers, st1.heap.set id (.loop k1 ts1 c1 .busy)⟩ with
           | some (ex, st2) => endR id ex st2.heap
           | none => none
         | _ => none
       | _ => none
     | false => none
   | _ => none
 | _ => none
theorem Qla : ∀ {ts : List Nat} {vs : List AV} {t : Nat} {v : AV}, (zipE ts vs).get t = some v -> ∃ j : Nat, ts[j]? = some t /\ vs[j]? = some v
 | [], _, t, v, h => by simp [zipE, Env.get] at h
 | _ :: _, [], t, v, h => by simp [zipE, Env.get] at h
 | x :: ts, u :: vs, t, v, h => by
   simp only [zipE, Env.get_cons] at h
   split at h
   · rename_i he
     subst he
     exact ⟨0, rfl, by simpa using h⟩
   · obtain ⟨j, h1, h2⟩ := Qla h
     exact ⟨j + 1, by simpa using h1, by simpa using h2⟩
theorem Qnn {N : Nat} : ∀ (ps : List Nat) (vs : List AV) (cs : List Value) (M : Env) (tmps : Array Value), ps.all (· < N) = true -> ps.length = vs.length -> RepL S w μ vs cs -> tmps.size = N -> EnvOK S w μ M tmps ->
   EnvOK S w μ (Wk ps vs M) ((ps.zip cs).foldl (fun t (p, v) => t.setIfInBounds p v) tmps) /\ ((ps.zip cs).foldl (fun t (p, v) => t.setIfInBounds p v) tmps).size = N
 | [], [], cs, M, tmps, _, _, hr, hs, hE => ⟨by simpa [Wk] using hE, by simpa using hs⟩
 | [], _ :: _, _, _, _, _, h, _, _, _ => by simp at h
 | _ :: _, [], _, _, _, _, h, _, _, _ => by simp at h
 | p :: ps, v :: vs, cs, M, tmps, hp, hl, hr, hs, hE => by
   cases hr with
   | cons h1 h2 =>
     rename_i c cs
     simp only [List.all_cons, Bool.and_eq_true, decide_eq_true_eq] at hp
     simp only [List.zip_cons_cons, List.foldl_cons, Wk]
     refine Qnn ps vs cs _ _ hp.2 (by simpa using hl) h2 (by simpa using hs) ?_
     intro t u ht
     rw [Env.get_cons] at ht
     split at ht
     · rename_i he
       subst he
       obtain rfl := Option.some.inj ht
       have : (tmps.setIfInBounds p c).getD p undef = c := by simp [hs, hp.1]
       rw [this]; exact h1
     · rename_i hne
       have : (tmps.setIfInBounds p c).getD t undef = tmps.getD t undef := by simp [hne]
       rw [this]; exact hE t u ht
theorem Qym (ps : Array Nat) (as : Array Value) (tmps : Array Value) : (ps.zip as).foldl (fun t (p, v) => t.setIfInBounds p v) tmps = (ps.toList.zip as.toList).foldl (fun t (p, v) => t.setIfInBounds p v) tmps := by
 rw [<- Array.foldl_toList, Array.toList_zip]
theorem Qbi {C : Zj} (hM : Vr P G) (hC : Pf P G C) {L : Nat} : RawK (Qqd P) G (Xs C L) := by
 intro args σ r σ' h μ S w cargs hg hG ha
 unfold Xs at h
 split at h
 case h_2 => cases h
 rename_i id args
 split at h
 case h_2 => cases h
 rename_i ps xa xb ts c hob
 split at h
 case h_2 => cases h
 rename_i hlen
 have hlen := Nat.eq_of_beq_eq_true hlen
 obtain ⟨cl⟩ := cargs
 simp only at ha
 cases ha with
 | cons hy ha =>
   rename_i c0 cs
   cases hy with
   | yld hmu =>
     rename_i b nb
     obtain ⟨b', n', rec, q1, q2, q3, q4, q5⟩ := hg.obj id _ hob
     rw [hmu] at q1
     cases q1
     obtain ⟨e1, e2, e3, e4, h1, h2, h3, h4, e5, e6⟩ := (hM _ _ _ _ _).1 q4
     simp only at e1 e3 e4 e5 e6
     have hsz : cs.toArray.size = rec.params.size := by
       have := ha.length
       have h6 : rec.params.size = ps.length := by rw [<- e1]; simp
       simp; omega
     refine ⟨b, cs.toArray, by simp, rec.fn, _, rec.assign, rec.body, run_yield q2 hsz, fun n => roundIn_of_wpIn trivial ?_⟩
     rw [Qym, e1]
     have hE0 : EnvOK S w μ (zipE ts c.toList) rec.tmps := by
       intro t v ht
       obtain ⟨j, k1, k2⟩ := Qla ht
       exact q5 j t v k1 (by rw [Q1.get?_toList]; exact k2)
     obtain ⟨hE1, hs1⟩ := Qnn ps args cs (zipE ts c.toList) rec.tmps (by rw [<- e1]; exact e2) hlen ha rfl hE0
     split at h
     case h_2 => cases h
     rename_i st1 hx1
     have hst0 : StOK G rec.tmps.size μ S w ⟨Wk ps args (zipE ts c.toList), [], σ⟩ { tmps := (ps.zip cs).foldl (fun t (p, v) => t.setIfInBounds p v) rec.tmps, defers := [] } := ⟨hE1, hG, hg, hs1, trivial⟩
     refine wpIn_mono (Nk (r := some b) (n := n) hM hC L _ _ _ _ e5 (.inr e3) _ _ _ hx1 _ w μ S hst0) fun e a1 w1 ⟨μ1, S1, p1, p2, p3⟩ => ?_
     cases e <;> first | exact p1.elim | skip
     simp only [Exit.then]
     split at h
     case h_2 => cases h
     rename_i k1 ts1 c1 hob1
     have hmu1 := p3.mu _ _ _ hmu
     obtain ⟨b1, n1, rec1, t1, t2, t3, t4, t5⟩ := p2.good.obj id _ hob1
     rw [hmu1] at t1
     cases t1
     obtain ⟨g2, f2⟩ := zk (st' := .busy) p2.good hob1 hmu1 t2 .busy rec1.pending ⟨rfl, t3.2⟩
     refine ⟨_, run_beginRound t2 t3.1, ?_⟩
     split at h
     case h_2 => cases h
     rename_i ex st2 hx2
     have hst2 := p2.step g2 f2
     refine wpIn_mono (Nk (r := some b) (n := n) hM hC L _ _ _ _ e6 (.inr e4) _ _ _ hx2 a1 _ μ1 S1 hst2) fun e a2 w2 ⟨μ2, S2, p4, p5, p6⟩ => ?_
     have f12 := (p3.trans f2).trans p6
     unfold endR at h
     split at h
     case h_2 => cases h
     rename_i k2 ts2 c2 hob2
     have hmu2 := f12.mu _ _ _ hmu
     obtain ⟨b2, n2, rec2, u1, u2, u3, u4, u5⟩ := p5.good.obj id _ hob2
     rw [hmu2] at u1
     cases u1
     cases ex with
     | pan v => cases h
     | normal =>
       cases e <;> first | exact p4.elim | skip
       simp only [Option.some.injEq, Prod.mk.injEq] at h
       obtain ⟨rfl, rfl⟩ := h
       obtain ⟨g3, f3⟩ := zk (st' := .ready) p5.good hob2 hmu2 u2 .ready none ⟨rfl, rfl⟩
       exact ⟨_, _, run_endRound none u2, μ2, S2, g3, f12.trans f3, .p (.bool _)⟩
     | ret =>
       cases e <;> first | exact p4.elim | skip
       simp only [Option.some.injEq, Prod.mk.injEq] at h
       obtain ⟨rfl, rfl⟩ := h
       obtain ⟨g3, f3⟩ := zk (st' := .done .ret) p5.good hob2 hmu2 u2 .done (some .ret) ⟨rfl, rfl⟩
       exact ⟨_, _, run_endRound (some .ret) u2, μ2, S2, g3, f12.trans f3, .p (.bool _)⟩
     | exit i =>
       cases e <;> first | exact p4.elim | skip
       obtain rfl := p4
       simp only [Option.some.injEq, Prod.mk.injEq] at h
       obtain ⟨rfl, rfl⟩ := h
       obtain ⟨g3, f3⟩ := zk (st' := .done (.exit i)) p5.good hob2 hmu2 u2 .done (some (.exit i)) ⟨rfl, rfl⟩
       exact ⟨_, _, run_endRound (some (.exit i)) u2, μ2, S2, g3, f12.trans f3, .p (.bool _)⟩
inductive FImpl where
 | rnd
 | raw (af : Q2)
 | ans (af : Q2)
 | code (af : Q2) (fz : Bool)
 | rcv (rf : RFunc)
 | ext (o : List AV -> Heap -> Option (CRes × Heap)) (fz : Bool)
abbrev Ld := Nat -> Option FImpl
def N2 (C : Zj) (D : Yo) (L : Nat) (af : Q2) (as : List AV) (σ : Heap) : Option (CRes × Heap) :=
 match fits af as with
 | true => Z8 C D L af as σ
 | false => none
def Qh5 (g : List AV -> Heap -> Option (CRes × Heap)) (as : List AV) (σ : Heap) : Option (CRes × Heap) := match g as σ with
 | some (.ret v, σ1) => match frz (List.range σ1.length) 9 σ1 v with
   | some (p, σ2) => some (.ret (.p p), σ2)
   | none => none
 | r => r
theorem Qgl {f : Nat} {g : List AV -> Heap -> Option (CRes × Heap)} (hgo : Qfy P G f g) : Qfy P G f (Qh5 g) := by
 intro args σ r σ' h μ S w cargs hg hG ha
 unfold Qh5 at h
 split at h
 · rename_i v σ1 h1
   split at h
   · rename_i p σ2 h2
     simp only [Option.some.injEq, Prod.mk.injEq] at h
     obtain ⟨rfl, rfl⟩ := h
     obtain ⟨he, hc⟩ := hgo _ _ _ _ h1 μ S w cargs hg hG ha
     refine ⟨he, hc.mono fun e w' ⟨μ', S', g1, f1, r1⟩ => ?_⟩
     cases e with
     | returned c =>
       have r1 : Rep S' w' μ' v c := r1
       obtain ⟨S2, g2, f2, r2⟩ := Qaq 9 _ _ _ _ h2 μ' S' g1 _ r1
       exact ⟨μ', S2, g2, f1.trans f2, .p r2⟩
     | panicked ch => exact r1.elim
     | outgrown => exact r1.elim
   · cases h
 · exact hgo _ _ _ _ h μ S w cargs hg hG ha
def w6 (T : Ld) (C : Zj) (D : Yo) (L : Nat) (f : Nat) (as : List AV) (σ : Heap) : Option (CRes × Heap) :=
 match T f with
 | some (.code af fz) => y8 (N2 C D L af) fz as σ
 | some (.ext o fz) => y8 o fz as σ
 | some .rnd => match Q4.raw 4294967295 with
   | true => Xs C L as σ
   | false => y8 (Xs C L) false as σ
 | some (.raw af) => N2 C D L af as σ
 | some (.ans af) => y8 (Qh5 (N2 C D L af)) true as σ
 | _ => none
def defT (T : Ld) (C : Zj) (L : Nat) (f : Nat) (as : List AV) (σ : Heap) (m : Option AV) : Option (Option AV × Heap) :=
 match T f with
 | some (.code af _) => match fits af as with
   | true => Qoq C L af as σ m
   | false => none
 | some (.rcv rf) => match decide (as.length <= rf.ntmps) with
   | true => Qp6 C L rf as σ m
   | false => none
 | _ => none
def cAt (T : Ld) (L : Nat) : Nat -> Zj × Yo
 | 0 => (fun _ _ _ => none, fun _ _ _ _ => none)
 | n + 1 => (w6 T (cAt T L n).1 (cAt T L n).2 L, defT T (cAt T L n).1 L)
def RowOK (P : Program) (G : Bx) (f : Nat) : FImpl -> Prop
 | .code af _ => f ≠ 4294967295 /\ ∃ fn hints, P.funcs[f]? = some fn /\ Yh P G hints fn = some af
 | .rcv rf => ∃ fn hints, P.funcs[f]? = some fn /\ cRec P G hints fn = some rf
 | .ext o _ => f ≠ 4294967295 /\ Qfy P G f o
 | .rnd => f = 4294967295
 | .ans af => f ≠ 4294967295 /\ ∃ fn hints, P.funcs[f]? = some fn /\ Yh P G hints fn = some af
 | .raw af => f ≠ 4294967295 /\ Q4.raw f = true /\ ∃ fn hints, P.funcs[f]? = some fn /\ Yh P G hints fn = some af
def Wx (P : Program) (G : Bx) (T : Ld) : Prop := ∀ f i, T f = some i -> RowOK P G f i
theorem Qa5 {T : Ld} (hM : Vr P G) (hT : Wx P G T) (L : Nat) : ∀ n, Pf P G (cAt T L n).1 /\ Qao P G (cAt T L n).2
 | 0 => ⟨⟨⟨fun _ _ _ _ _ h => by simp [cAt] at h, fun _ _ _ _ h => by simp [cAt] at h⟩, fun _ _ _ _ _ h => by simp [cAt] at h⟩, fun _ _ _ _ _ _ h => by simp [cAt] at h⟩
 | n + 1 => by
   obtain ⟨hC, hD⟩ := Qa5 hM hT L n
   refine ⟨⟨⟨?_, ?_⟩, ?_⟩, ?_⟩
   · intro f args σ r σ' h hfn
     simp only [cAt, w6] at h
     split at h
     · rename_i af fz hf
       obtain ⟨_, fn, hints, h1, h2⟩ := hT f _ hf
       refine z2 (g := N2 (cAt T L n).1 (cAt T L n).2 L af) ?_ args σ r σ' h
       intro args σ r σ' h μ S w cargs hg hG ha
       unfold N2 at h
       split at h
       · rename_i hfit
         exact jq hM hC hD h1 h2 hfit h hg hG ha
       · cases h
     · rename_i o fz hf
       have : Qfy P G f o := (hT f _ hf).2
       exact z2 this args σ r σ' h
     · rename_i hf
       exact absurd (hT f _ hf) hfn
     · rename_i af hf
       obtain ⟨_, _, fn, hints, h1, h2⟩ := hT f _ hf
       unfold N2 at h
       split at h
       · rename_i hfit
         exact fun μ S w cargs hg hG ha => jq hM hC hD h1 h2 hfit h hg hG ha
       · cases h
     · rename_i af hf
       obtain ⟨_, fn, hints, h1, h2⟩ := hT f _ hf
       refine z2 (g := Qh5 (N2 (cAt T L n).1 (cAt T L n).2 L af)) (Qgl ?_) args σ r σ' h
       intro args σ r σ' h μ S w cargs hg hG ha
       unfold N2 at h
       split at h
       · rename_i hfit
         exact jq hM hC hD h1 h2 hfit h hg hG ha
       · cases h
     · cases h
   · intro args σ r σ' h
     simp only [cAt, w6] at h
     split at h
     · rename_i af fz hf
       exact absurd rfl (hT _ _ hf).1
     · rename_i o fz hf
       exact absurd rfl (hT _ _ hf).1
     · split at h
       · exact Qbi hM hC args σ r σ' h
       · exact wrapK (K := Qqd P) (fun _ _ _ _ hm ⟨l, as, e, fn, tm, x, y, hr, hR⟩ => ⟨l, as, e, fn, tm, x, y, hr, fun n => (hR n).mono hm⟩) (Qbi hM hC) args σ r σ' h
     · rename_i af hf
       exact absurd rfl (hT _ _ hf).1
     · rename_i af hf
       exact absurd rfl (hT _ _ hf).1
     · cases h
   · intro f args σ r σ' h id hlt hid
     obtain ⟨hnr, hidt⟩ := Qos hlt hid
     simp only [cAt, w6] at h
     split at h
     · exact Qfo h hlt hidt
     · exact Qfo h hlt hidt
     · rename_i hf
       have hf : f = 4294967295 := hT f _ hf
       subst hf
       rw [hnr] at h
       exact Qfo h hlt hidt
     · rename_i af hf
       have := (hT f _ hf).2.1
       rw [hnr] at this
       cases this
     · exact Qfo h hlt hidt
     · cases h
   · intro f args σ m m' σ' h μ S w cargs u hg hG ha hu
     simp only [cAt, defT] at h
     split at h
     · rename_i af fz hf
       obtain ⟨_, fn, hints, h1, h2⟩ := hT f _ hf
       split at h
       · rename_i hfit
         exact Qo3 hM hC h1 h2 hfit h hg hG ha hu
       · cases h
     · rename_i rf hf
       obtain ⟨fn, hints, h1, h2⟩ := hT f _ hf
       split at h
       · rename_i hfit
         exact Qpe hM hC h1 h2 (by simpa using hfit) h hg hG ha hu
       · cases h
     · cases h
end Go.Ab
namespace Go.Ab
variable [Q4]
open Go.RowKit
variable {S S' : Nat -> Nat -> Prop} {w w' w1 : World} {μ μ' μ2 : Nat -> Nat -> Option (Nat × Nat)} {P : Program} {G : Bx} {σ σ' : Heap}
def extP (g : List PV -> Option PV) (as : List AV) (σ : Heap) : Option (CRes × Heap) :=
 match allP as with
 | some ps => match g ps with
   | some v => some (.ret (.p v), σ)
   | none => none
 | none => none
theorem Qqx : ∀ {as : List AV} {ps : List PV}, allP as = some ps -> as = ps.map .p
 | [], ps, h => by simp [allP] at h; subst h; rfl
 | v :: r, ps, h => by
   cases v <;> simp only [allP] at h <;> first | cases h | skip
   split at h
   · rename_i l hl
     obtain rfl := Option.some.inj h
     rw [Qqx hl]; rfl
   · cases h
theorem Qdh {f : Nat} {g : List PV -> Option PV} (hE : Qb4 P f)
   (h : ∀ ps v, g ps = some v -> ∀ S w (cargs : Array Value), GlobOK S w G -> RepPL S w ps cargs.toList ->
     Calls P f cargs w fun e w' => (∃ c, e = .returned c /\ ∀ S w', RepP S w' v c) /\ Below w.heap.size w w') : Qfy P G f (extP g) := by
 intro args σ r σ' hr μ S w cargs hg hG ha
 unfold extP at hr
 split at hr
 · rename_i ps hps
   split at hr
   · rename_i v hv
     simp only [Option.some.injEq, Prod.mk.injEq] at hr
     obtain ⟨rfl, rfl⟩ := hr
     rw [Qqx hps] at ha
     refine ⟨hE, (h ps v hv S w cargs hG ha.toP).mono fun e w' ⟨⟨c, he, hrep⟩, hb⟩ => ?_⟩
     obtain ⟨g1, f1⟩ := ju hg hb
     exact ⟨μ, S, g1, f1, by rw [he]; exact .p (hrep S w')⟩
   · cases hr
 · cases hr
def Ex (w : World) (b _o : Nat) : Prop := b < w.heap.size
theorem Ex.lt {b o : Nat} (h : Ex w b o) : b < w.heap.size := h
theorem Qy4 {b o : Nat} {c : Value} (h : w.cell? ⟨b, o, none⟩ = some c) : Ex w b o := by
 unfold World.cell? at h
 cases hb : w.heap[b]? with
 | none => rw [hb] at h; simp at h
 | some x => exact (Array.getElem?_eq_some_iff.1 hb).1
theorem Qna : Good (fun _ _ => none) (Ex w) w [] where
 obj := fun id o h => by simp at h
 inj := fun id id' o o' b n n' h => by simp at h
 old := fun id ver x h => by cases h
 sb := fun b o h => Ex.lt h
structure Kept (w w' : World) : Prop where
 os : w'.os = w.os
 tape : w'.tape = w.tape
 output : w'.output = w.output
 size : w.heap.size <= w'.heap.size
 blk : ∀ b, b < w.heap.size -> w'.heap[b]? = w.heap[b]?
theorem Qx8 (h : Frm (fun _ _ => none) (Ex w) w [] μ' S' w' σ') : Kept w w' :=
 ⟨h.os, h.tape, h.output, h.size, fun b hb => h.keepB b hb (fun ⟨id, o, n, h1, _⟩ => by simp at h1)⟩
theorem Kept.below (h : Kept w w') : Below w.heap.size w w' := ⟨h.os, h.tape, h.output, h.size, h.blk⟩
theorem Kept.but (h : Kept w w') (may : MemPlace -> Prop) : w.keptBut w' may := by
 refine ⟨h.os, h.output, fun i hi => ?_⟩
 rw [h.blk i hi]
 cases w.heap[i]? with
 | none => rfl
 | some o => cases o <;> simp
theorem Kept.frozen (h : Kept w w') (a : Addr) (ha : a.block < w.heap.size) : w'.frozen? a = w.frozen? a := by
 unfold World.frozen?
 rw [h.blk _ ha]
theorem Kept.cell (h : Kept w w') {a : Addr} (ha : a.block < w.heap.size) : w'.cell? a = w.cell? a := by
 unfold World.cell?
 rw [h.blk _ ha]
theorem Qqy {T : Ld} (hM : Vr P G) (hT : Wx P G T) {L n f : Nat} {args : List AV} (hfn : f ≠ 4294967295) (hrun : (cAt T L n).1 f args [] = some (.ret (.p (.bool true)), σ')) {cargs : Array Value}
   (hG : GlobOK (Ex w) w G) (ha : RepL (Ex w) w (fun _ _ => none) args cargs.toList) : Calls P f cargs w fun e w' => e = .returned (.bool true) /\ Kept w w' := by
 obtain ⟨_, hc⟩ := (Qa5 hM hT L n).1.1.1 f args [] _ _ hrun hfn (fun _ _ => none) (Ex w) w cargs Qna hG ha
 refine hc.mono fun e w' ⟨μ', S', g, f, r⟩ => ?_
 cases e with
 | returned c =>
   have r : Rep S' w' μ' (.p (.bool true)) c := r
   exact ⟨by rw [r.bool], Qx8 f⟩
 | panicked ch => exact r.elim
 | outgrown => exact r.elim
end Go.Ab
namespace Go.Ab
variable [Q4]
variable {σ σ' σr : Heap}
theorem Qa3 {tl : List Nat} {d : Nat} : ∀ (ps : List PV) (σ : Heap), frzA tl (d + 1) σ (ps.map .p) = (ps.map .p, σ)
 | [], σ => rfl
 | p :: r, σ => by simp only [List.map_cons, frzA, frz, Qa3 r σ]
theorem Qgb : ∀ (ps : List PV), idsL (ps.map .p) = []
 | [] => rfl
 | p :: r => by simp only [List.map_cons, idsL, idsV, Qgb r, List.append_nil]
theorem Qgg {g : Nat -> Nat -> Option (Nat × Nat)} : ∀ (ps : List PV), renL g (ps.map .p) = ps.map .p
 | [] => rfl
 | p :: r => by simp only [List.map_cons, renL, renV, Qgg r]
theorem z1 (ps : List PV) (σ : Heap) : Eo σ (ps.map .p) = [] := by
 unfold Eo
 rw [Qgb]
 rfl
theorem Qc1 {g : List AV -> Heap -> Option (CRes × Heap)} {ps : List PV} {v : PV} (h : g (ps.map .p) [] = some (.ret (.p v), σr)) (σ : Heap) :
   j6 g (ps.map .p) σ [] = some (.ret (.p v), σ) := by
 unfold j6
 have h1 : (uniq [] && inOK [] σ.length) = true := rfl
 have h2 : Kn [] σ = [] := rfl
 have h3 : outL ([] : List (Nat × Nat)).length (.ret (.p v)) σr = [] := rfl
 simp only [h1, h2, Qgg, h, h3]
 have h4 : (uniq [] && zr [] (Kn [] σr)) = true := rfl
 simp only [h4, renR, renV]
 have h5 : Kn [] σr = [] := rfl
 rw [h5]
 have h6 : Uc [] σ [] = σ := by simp [Uc, Nc]
 rw [h6]
theorem Qay {g : List AV -> Heap -> Option (CRes × Heap)} {fz : Bool} {ps : List PV} {v : PV} (h : g (ps.map .p) [] = some (.ret (.p v), σr)) (σ : Heap) :
   y8 g fz (ps.map .p) σ = some (.ret (.p v), σ) := by
 unfold y8
 cases fz with
 | false =>
   simp only [z1, List.all_nil]
   exact Qc1 h σ
 | true =>
   simp only [Qa3, z1, List.all_nil]
   exact Qc1 h σ
theorem Qpd {T : Ld} {L n f : Nat} {af : Q2} {fz : Bool} {ps : List PV} {v : PV} (hT : T f = some (.code af fz)) (hf : fits af (ps.map .p) = true)
   (h : Z8 (cAt T L n).1 (cAt T L n).2 L af (ps.map .p) [] = some (.ret (.p v), σr)) (σ : Heap) : (cAt T L (n + 1)).1 f (ps.map .p) σ = some (.ret (.p v), σ) := by
 simp only [cAt, w6, hT]
 exact Qay (by unfold N2; rw [hf]; exact h) σ
def ansV : Option (CRes × Heap) -> Option PV
 | some (.ret (.p v), _) => some v
 | _ => none
theorem ans_of {x : Option (CRes × Heap)} {v : PV} (h : ansV x = some v) : ∃ σr, x = some (.ret (.p v), σr) := by
 unfold ansV at h
 split at h
 · rename_i u σr
   obtain rfl := Option.some.inj h
   exact ⟨σr, rfl⟩
 · cases h
theorem Z7 {T : Ld} {L n f : Nat} {af : Q2} {fz : Bool} {ps : List PV} {v : PV} (hT : T f = some (.code af fz)) (hf : fits af (ps.map .p) = true)
   (h : ansV (Z8 (cAt T L n).1 (cAt T L n).2 L af (ps.map .p) []) = some v) (σ : Heap) : (cAt T L (n + 1)).1 f (ps.map .p) σ = some (.ret (.p v), σ) := by
 obtain ⟨σr, h⟩ := ans_of h
 exact Qpd hT hf h σ
end Go.Ab
namespace Go.Ab
variable [Q4]
open Go Go.Ab Go.ChangeShapes Go.WideShapes Go.RowKit Go.Deep
theorem Wd {w : World} {b : Nat} : ∀ (ps : List PV) (o : Nat), (∀ (j : Nat) v, ps[j]? = some v -> ∃ c, w.cell? ⟨b, o + j, none⟩ = some c /\ one c = true /\ RepP (Ex w) w v c) -> RepCells (Ex w) w ps b o
 | [], o, _ => .nil b o
 | p :: r, o, h => by
   obtain ⟨c, h1, h2, h3⟩ := h 0 p rfl
   refine .cons (Qy4 h1) h1 h2 h3 (Wd r (o + 1) fun j v hj => ?_)
   have := h (j + 1) v (by simpa using hj)
   rwa [show o + (j + 1) = o + 1 + j from by omega] at this
theorem Qua {P : Program} {W : World} {n : String} {g : Nat} {cs : Array Value} {l : List PV} (h1 : P.globalNamed n = some g) (h3 : W.var? P n = some cs) (hlen : cs.size = l.length) (hne : 0 < l.length)
   (hc : ∀ (j : Nat) v, l[j]? = some v -> ∃ c, cs[j]? = some c /\ one c = true /\ RepP (Ex W) W v c) : RepCells (Ex W) W l g 0 /\ Ex W g l.length /\ W.cell? ⟨g, l.length, none⟩ = none := by
 have hcell : ∀ (j : Nat) v, l[j]? = some v -> ∃ c, W.cell? ⟨g, 0 + j, none⟩ = some c /\ one c = true /\ RepP (Ex W) W v c := by
   intro j v hj
   obtain ⟨c, k1, k2, k3⟩ := hc j v hj
   exact ⟨c, by rw [Nat.zero_add, World.var?_cell h1 h3 j]; exact k1, k2, k3⟩
 refine ⟨Wd _ _ hcell, ?_, ?_⟩
 · obtain ⟨c, k1, _⟩ := hcell 0 l[0] (by simp)
   exact Ex.lt (Qy4 k1)
 · rw [World.var?_cell h1 h3]
   simp [hlen]
theorem Qso {α : Type} {l : List α} (h : l.length = 3) : ∃ a b c, l = [a, b, c] := by
 cases l with
 | nil => cases h
 | cons a l => cases l with
   | nil => cases h
   | cons b l => cases l with
     | nil => cases h
     | cons c l => cases l with
       | nil => exact ⟨a, b, c, rfl⟩
       | cons d l => simp at h
theorem Qqf {P : Program} {w : World} {n : String} {d : DataW Unit} : ∀ {l : List (String × DataW Unit)} {ps : List MemPlace}, DataW.LaidVars P w l ps -> (n, d) ∈ l ->
   ∃ (g : Nat) (t : TypeId) (cs : Array Value) (fuel : Nat) (p : List MemPlace), P.globalNamed n = some g /\ (P.globals[g]?).map (·.type) = some t /\ w.var? P n = some cs /\ DataW.trod (fun _ => ()) P w 0 (fun _ => true) false fuel t cs.toList = some (d, p)
 | [], _, _, hm => by cases hm
 | (n', d') :: r, ps, h, hm => by
   obtain ⟨g, t, cs, fuel, p, q, h1, h2, h3, h4, h5, _⟩ := h
   rcases List.mem_cons.1 hm with he | hm
   · cases he
     exact ⟨g, t, cs, fuel, p, h1, h2, h3, h4⟩
   · exact Qqf h5 hm
theorem Qgx {H : Type} {enc : TypeId × Value -> H} {P : Program} {f : Func} {s : ChangeSpec} {apart fresh handsOn again : Bool} {W W' : World} {args : Array Value} {v : Value} {ds gs : List (DataW H)} {before pa pv : List MemPlace}
   (hW : DataW.Whole enc P f.params.toList s.vars apart W args.toList ds gs before)
   (hres : ∀ (b : Nat) (sp : Nat -> Bool) (hd : Bool), DataW.TrodAll enc P W' b sp hd f.resultTypes.toList (v.resultList f.resultTypes.size) (s.fn H (ds ++ gs)).results [])
   (hargs : ∀ sp : Nat -> Bool, (∀ p ∈ before, sp p.block = true) -> DataW.TrodAll enc P W' 0 sp true f.params.toList args.toList (s.fn H (ds ++ gs)).args pa)
   (hvars : ∀ sp : Nat -> Bool, (∀ p ∈ before, sp p.block = true) -> DataW.TrodVars enc P W' sp s.vars (s.fn H (ds ++ gs)).vars pv)
   (hps : before = pa ++ pv) (hk : Kept W W')
   (hok : ∀ (j : Nat) (t : TypeId) (r : Value), f.resultTypes[j]? = some t -> (v.resultList f.resultTypes.size)[j]? = some r -> Value.okWide P W' .any 0 t r) :
   s.post enc P f apart fresh handsOn again W args v W' := by
 have hlt := hW.lt
 have hold : ∀ p ∈ before, (fun b => decide (b < W.heap.size)) p.block = true := fun p hp => by simpa using hlt p hp
 refine ⟨ds, gs, before, [], pa, pv, hW, hres _ _ _, hargs _ hold, hvars _ hold, World.keptBut_mono (fun p hp => ⟨hp, ?_⟩) (hk.but (· ∈ before)), fun _ => ?_⟩
 · rw [hps, List.mem_append] at hp
   exact Or.inr hp
 · obtain ⟨_, _, _, _, _, hz, hn⟩ := hW
   refine ⟨hok, _, _, ([] ++ pa) ++ pv, ⟨[] ++ pa, pv, trodAll_append (hargs _ (fun _ _ => rfl)) (hres _ _ _), hvars _ (fun _ _ => rfl), rfl, ?_, ?_⟩, ?_⟩
   · intro b off hp
     have hmem : MemPlace.cell b off ∈ before := by rw [hps]; simpa using hp
     rw [hk.frozen _ (show b < W.heap.size from hlt _ hmem)]
     exact hz b off hmem
   · intro ha
     have := hn ha
     rw [hps] at this
     simpa using this
   · intro p hp _
     rw [hps]
     simpa using hp
end Go.Ab
