/- Freezing: what an argument leads to becomes a pure value, its memory is settled. -/
import Derived.Test.YtikebbklkiodlaaDoorAbA20
set_option linter.unusedSectionVars false
set_option linter.unusedSimpArgs false
set_option linter.unusedVariables false
namespace Go.Ab
variable [Marks]
variable {S S' : Nat → Nat → Prop} {w w' w1 : World} {μ μ' μ2 : Nat → Nat → Option (Nat × Nat)} {P : Program} {G : Globs} {σ σ' : Heap}

def frzs (f : Heap → AV → Option (PV × Heap)) : Heap → List AV → Option (List PV × Heap)
  | σ, [] => some ([], σ)
  | σ, v :: r => match f σ v with
    | some (p, σ1) => match frzs f σ1 r with
      | some (ps, σ2) => some (p :: ps, σ2)
      | none => none
    | none => none
def frz (tl : List Nat) : Nat → Heap → AV → Option (PV × Heap)
  | 0, _, _ => none
  | d + 1, σ, v => match v with
    | .p v => some (v, σ)
    | .nil0 => some (.vsl [] 0, σ)
    | .e0 => some (.vsl [] 0, σ)
    | .sl id ver off len esz => match σ[id]? with
      | some (.arr c vr wm ty) =>
        if vr = ver ∧ off + len * esz ≤ c.len ∧ tl.contains id = true then match c with
          | .pv l => some (.vsl ((l.drop off).take (len * esz)) len, σ.set id (.arr (.pv l) ver (Nat.max wm (off + len * esz)) ty))
          | .av l => match frzs (frz tl d) σ ((l.drop off).take (len * esz)) with
            | some (ps, σ1) => match σ1[id]? with
              | some (.arr c1 v1 w1 ty1) => if v1 = ver ∧ off + len * esz ≤ c1.len then some (.vsl ps len, σ1.set id (.arr (spliceC c1 off (.pv ps)) ver (Nat.max w1 (off + len * esz)) ty1)) else none
              | _ => none
            | none => none
        else none
      | _ => none
    | .agg cs => match frzs (frz tl d) σ cs with
      | some (ps, σ1) => some (.agg ps, σ1)
      | none => none
    | .tup cs => match frzs (frz tl d) σ cs with
      | some (ps, σ1) => some (.tup ps, σ1)
      | none => none
    | .iface t v => match frz tl d σ v with
      | some (p, σ1) => some (.iface t p, σ1)
      | none => none
    | _ => none

theorem freeze_set {id b n off m ver wm : Nat} {c c' : Cells} {vs : Array Value} {e : TypeId} {fz : Nat × Nat} (hg : Good μ S w σ) {ty : Option Nat} (hid : σ[id]? = some (.arr c ver wm ty)) (hb : μ id ver = some (b, n))
    (hh : w.heap[b]? = some (.cells vs e fz)) (hlen : c'.len ≤ n) (_hin : off + m ≤ n)
    (hc : ∀ j v, c'.get? j = some v → ∃ cv, vs[j]? = some cv ∧ one cv = true ∧ Rep (fun x j => S x j ∨ (x = b ∧ off ≤ j ∧ j < off + m)) w μ v cv) :
    Good μ (fun x j => S x j ∨ (x = b ∧ off ≤ j ∧ j < off + m)) w (σ.set id (.arr c' ver (Nat.max wm (off + m)) ty)) ∧
    Frm μ S w σ μ (fun x j => S x j ∨ (x = b ∧ off ≤ j ∧ j < off + m)) w (σ.set id (.arr c' ver (Nat.max wm (off + m)) ty)) := by
  have hidl : id < σ.length := (List.getElem?_eq_some_iff.1 hid).1
  have hget : ∀ (i : Nat) (x : Obj), (σ.set id (.arr c' ver (Nat.max wm (off + m)) ty))[i]? = some x → (i = id ∧ x = .arr c' ver (Nat.max wm (off + m)) ty) ∨ (i ≠ id ∧ σ[i]? = some x) := by
    intro i x h
    by_cases he : id = i
    · subst he
      rw [List.getElem?_set_self hidl] at h
      exact .inl ⟨rfl, (Option.some.inj h).symm⟩
    · rw [List.getElem?_set_ne he] at h
      exact .inr ⟨Ne.symm he, h⟩
  have hmono : ∀ (x o : Nat), S x o → (S x o ∨ (x = b ∧ off ≤ o ∧ o < off + m)) ∧ w.cell? ⟨x, o, none⟩ = w.cell? ⟨x, o, none⟩ := fun x o h => ⟨.inl h, rfl⟩
  have back : ∀ (i : Nat) (x : Obj), (σ.set id (.arr c' ver (Nat.max wm (off + m)) ty))[i]? = some x → ∃ x0, σ[i]? = some x0 ∧ x0.ver = x.ver ∧ x0.live = x.live := by
    intro i x h
    rcases hget i x h with ⟨rfl, rfl⟩ | ⟨_, h⟩
    · exact ⟨_, hid, rfl, rfl⟩
    · exact ⟨x, h, rfl, rfl⟩
  have hbl : b < w.heap.size := by obtain ⟨_, _, _, hx⟩ := hg.old _ _ _ hb; exact hx
  constructor
  · refine ⟨?_, ?_, ?_, ?_⟩
    · intro i x h
      rcases hget i x h with ⟨rfl, rfl⟩ | ⟨hne, h⟩
      · obtain ⟨b', n', k1, vs', e', lo, hi, k2, k3, k4, k5, k6, k7⟩ := hg.obj _ _ hid
        rw [hb] at k1
        cases k1
        rw [hh] at k2
        cases k2
        refine ⟨b, n, hb, vs, e, lo, hi, hh, k3, hlen, hc, ?_, fun t ht => ⟨(k7 t ht).1, (k7 t ht).2.imp id (fun h => Nat.le_trans h (Nat.le_max_left ..))⟩⟩
        intro j hj1 hj2
        have h1 : wm ≤ j := Nat.le_trans (Nat.le_max_left ..) hj1
        have h2 : off + m ≤ j := Nat.le_trans (Nat.le_max_right ..) hj1
        obtain ⟨q1, q2⟩ := k6 j h1 hj2
        refine ⟨fun hs => ?_, q2⟩
        rcases hs with hs | ⟨_, _, hs⟩
        · exact q1 hs
        · omega
      · have hob := hg.obj i x h
        cases x with
        | arr c2 v2 wm2 ty2 =>
          obtain ⟨b', n', k1, vs', e', lo, hi, k2, k3, k4, k5, k6, k7⟩ := hob
          refine ⟨b', n', k1, vs', e', lo, hi, k2, k3, k4, ?_, ?_, k7⟩
          · intro j v hj
            obtain ⟨cv, q1, q2, q3⟩ := k5 j v hj
            exact ⟨cv, q1, q2, q3.mono hmono (fun _ _ _ h => h)⟩
          · intro j hj1 hj2
            obtain ⟨q1, q2⟩ := k6 j hj1 hj2
            refine ⟨fun hs => ?_, q2⟩
            rcases hs with hs | ⟨rfl, _⟩
            · exact q1 hs
            · exact hne (hg.inj _ _ _ _ _ _ _ h hid rfl rfl k1 hb)
        | iter s pos => exact hob
        | loop k ts c st =>
          obtain ⟨bb, n', rec, k1, k2, k3, k4, k5⟩ := hob
          exact ⟨bb, n', rec, k1, k2, k3, k4, fun j t v ht hj => (k5 j t v ht hj).mono hmono (fun _ _ _ h => h)⟩
        | mark => exact hob
        | none => trivial
    · intro i i' o o' bb n1 n2 h1 h2 l1 l2 m1 m2
      obtain ⟨x, a1, a2, a3⟩ := back i o h1
      obtain ⟨x', c1, c2, c3⟩ := back i' o' h2
      exact hg.inj _ _ _ _ _ _ _ a1 c1 (a3.trans l1) (c3.trans l2) (by rw [a2]; exact m1) (by rw [c2]; exact m2)
    · intro i v x h
      obtain ⟨o, ho, hv, hx⟩ := hg.old _ _ _ h
      by_cases he : id = i
      · subst he
        rw [hid] at ho
        cases ho
        exact ⟨_, List.getElem?_set_self hidl, hv, hx⟩
      · exact ⟨o, by rw [List.getElem?_set_ne he]; exact ho, hv, hx⟩
    · intro x o hs
      rcases hs with hs | ⟨rfl, _⟩
      · exact hg.sb x o hs
      · exact hbl
  · refine ⟨rfl, rfl, rfl, Nat.le_refl _, hmono, fun _ _ _ => rfl, ?_, ?_, fun _ _ _ h => h⟩
    · intro x o hs
      rcases hs with hs | ⟨rfl, _⟩
      · exact .inl hs
      · exact .inr (.inl ⟨id, _, n, hid, rfl, hb⟩)
    · intro x ⟨i, o, n', h1, h2, h3⟩
      obtain ⟨x0, a1, a2, a3⟩ := back i o h1
      exact .inl ⟨i, x0, n', a1, a3.trans h2, by rw [a2]; exact h3⟩

def FrzOK (f : Heap → AV → Option (PV × Heap)) (w : World) : Prop := ∀ σ v p σ', f σ v = some (p, σ') → ∀ μ S, Good μ S w σ → ∀ c, Rep S w μ v c →
  ∃ S', Good μ S' w σ' ∧ Frm μ S w σ μ S' w σ' ∧ RepP S' w p c
theorem frzs_sound {f : Heap → AV → Option (PV × Heap)} (hf : FrzOK f w) : ∀ (l : List AV) (σ : Heap) (ps : List PV) (σ' : Heap), frzs f σ l = some (ps, σ') → ∀ μ S, Good μ S w σ → ∀ cs, RepL S w μ l cs →
    ∃ S', Good μ S' w σ' ∧ Frm μ S w σ μ S' w σ' ∧ RepPL S' w ps cs
  | [], σ, ps, σ', h, μ, S, hg, cs, hr => by
    simp only [frzs, Option.some.injEq, Prod.mk.injEq] at h
    obtain ⟨rfl, rfl⟩ := h
    cases hr
    exact ⟨S, hg, .refl _ _ _ _, .nil⟩
  | v :: r, σ, ps, σ', h, μ, S, hg, cs, hr => by
    simp only [frzs] at h
    split at h
    · rename_i p σ1 h1
      split at h
      · rename_i ps' σ2 h2
        simp only [Option.some.injEq, Prod.mk.injEq] at h
        obtain ⟨rfl, rfl⟩ := h
        cases hr with
        | cons hv hs =>
          obtain ⟨S1, g1, f1, r1⟩ := hf _ _ _ _ h1 μ S hg _ hv
          obtain ⟨S2, g2, f2, r2⟩ := frzs_sound hf r σ1 _ _ h2 μ S1 g1 _ (hs.mono f1.keepS f1.mu)
          exact ⟨S2, g2, f1.trans f2, .cons (r1.mono f2.keepS) r2⟩
      · cases h
    · cases h

theorem repCells_of {ps : List PV} {cs : List Value} {b off : Nat} {vs : Array Value} {e : TypeId} {fz : Nat × Nat} (hh : w.heap[b]? = some (.cells vs e fz)) (h : RepPL S w ps cs)
    (hcs : ∀ (j : Nat) c, cs[j]? = some c → vs[off + j]? = some c ∧ one c = true) (hS : ∀ j, j < ps.length → S b (off + j)) : RepCells S w ps b off := by
  induction ps generalizing cs off with
  | nil => exact .nil b off
  | cons p r ih =>
    cases h with
    | cons hp hs =>
      rename_i c cs'
      obtain ⟨h1, h2⟩ := hcs 0 c rfl
      refine .cons (hS 0 (by simp)) ?_ h2 hp (ih hs (fun j c' hj => ?_) (fun j hj => ?_))
      · rw [cell_in hh]; simpa using h1
      · have := hcs (j + 1) c' (by simpa using hj)
        rwa [show off + (j + 1) = off + 1 + j from by omega] at this
      · have := hS (j + 1) (by simp; omega)
        rwa [show off + (j + 1) = off + 1 + j from by omega] at this

theorem RepPL.length_eq : ∀ {ps : List PV} {cs : List Value}, RepPL S w ps cs → ps.length = cs.length
  | _, _, .nil => rfl
  | _, _, .cons _ hs => by simp [RepPL.length_eq hs]
theorem RepPL.toL : ∀ {ps : List PV} {cs : List Value}, RepPL S w ps cs → RepL S w μ (ps.map .p) cs
  | _, _, .nil => .nil
  | _, _, .cons h hs => .cons (.p h) hs.toL
theorem RepL.toP : ∀ {ps : List PV} {cs : List Value}, RepL S w μ (ps.map .p) cs → RepPL S w ps cs
  | [], _, .nil => .nil
  | _ :: _, _, .cons h hs => by cases h with | p h => exact .cons h hs.toP

theorem frz_sound {tl : List Nat} : ∀ n, FrzOK (frz tl n) w
  | 0 => fun σ v p σ' h => by simp [frz] at h
  | d + 1 => by
    have ih := frz_sound (tl := tl) d
    intro σ v p σ' h μ S hg cv hr
    cases v with
    | p v =>
      simp only [frz, Option.some.injEq, Prod.mk.injEq] at h
      obtain ⟨rfl, rfl⟩ := h
      cases hr with | p hr => exact ⟨S, hg, .refl _ _ _ _, hr⟩
    | dead => simp [frz] at h
    | nil0 =>
      simp only [frz, Option.some.injEq, Prod.mk.injEq] at h
      obtain ⟨rfl, rfl⟩ := h
      cases hr
      exact ⟨S, hg, .refl _ _ _ _, .vsl0 _ _⟩
    | e0 =>
      simp only [frz, Option.some.injEq, Prod.mk.injEq] at h
      obtain ⟨rfl, rfl⟩ := h
      cases hr
      exact ⟨S, hg, .refl _ _ _ _, .vsl0 _ _⟩
    | ptr => simp [frz] at h
    | yld => simp [frz] at h
    | clo => simp [frz] at h
    | iface t v =>
      simp only [frz] at h
      split at h
      · rename_i p' σ1 h1
        simp only [Option.some.injEq, Prod.mk.injEq] at h
        obtain ⟨rfl, rfl⟩ := h
        cases hr with
        | iface hr =>
          obtain ⟨S1, g1, f1, r1⟩ := ih _ _ _ _ h1 μ S hg _ hr
          exact ⟨S1, g1, f1, .iface r1⟩
      · cases h
    | agg cs =>
      simp only [frz] at h
      split at h
      · rename_i ps σ1 h1
        simp only [Option.some.injEq, Prod.mk.injEq] at h
        obtain ⟨rfl, rfl⟩ := h
        cases hr with
        | agg hr h1' =>
          obtain ⟨S1, g1, f1, r1⟩ := frzs_sound ih cs σ ps σ1 h1 μ S hg _ hr
          exact ⟨S1, g1, f1, .agg r1 h1'⟩
      · cases h
    | tup cs =>
      simp only [frz] at h
      split at h
      · rename_i ps σ1 h1
        simp only [Option.some.injEq, Prod.mk.injEq] at h
        obtain ⟨rfl, rfl⟩ := h
        cases hr with
        | tup hr =>
          obtain ⟨S1, g1, f1, r1⟩ := frzs_sound ih cs σ ps σ1 h1 μ S hg _ hr
          exact ⟨S1, g1, f1, .tup r1⟩
      · cases h
    | sl id ver off len esz =>
      obtain ⟨b, n, cap, hm, hlc, hcn, rfl⟩ := hr.slA
      simp only [frz] at h
      split at h
      · rename_i c vr wm ty0 hob
        split at h
        · rename_i hck
          obtain ⟨rfl, hle, _⟩ := hck
          obtain ⟨b', n', vs, et, lo, hi, k1, k2, k3, k4, k5, k6, k7⟩ := (hg.obj id _ hob).cells
          rw [hm] at k1
          cases k1
          have hle' : off + len * esz ≤ n := Nat.le_trans hle k4
          split at h
          · rename_i l
            simp only [Option.some.injEq, Prod.mk.injEq] at h
            obtain ⟨rfl, rfl⟩ := h
            obtain ⟨_, _, j1, vs', _, _, _, j2, _, _, j5, _⟩ := hg.obj id _ hob
            rw [hm] at j1
            cases j1
            rw [k2] at j2
            cases j2
            obtain ⟨g1, f1⟩ := freeze_set (c' := .pv l) (off := off) (m := len * esz) hg hob hm k2 k4 hle' (fun j v hj => by
              obtain ⟨cv, q1, q2, q3⟩ := j5 j v hj
              exact ⟨cv, q1, q2, q3.mono (fun _ _ h => ⟨.inl h, rfl⟩) (fun _ _ _ h => h)⟩)
            refine ⟨_, g1, f1, .vsl hlc ?_⟩
            have hpl : RepPL S w l (vs.toList.take l.length) := (show RepL S w μ (l.map .p) _ from k5).toP
            have hmono := RepPL.mono (S' := fun x j => S x j ∨ (x = b ∧ off ≤ j ∧ j < off + len * esz)) (w' := w) (fun _ _ h => ⟨.inl h, rfl⟩) hpl
            have hsub : RepPL (fun x j => S x j ∨ (x = b ∧ off ≤ j ∧ j < off + len * esz)) w ((l.drop off).take (len * esz)) (((vs.toList.take l.length).drop off).take (len * esz)) := by
              have hl2 : RepL (fun x j => S x j ∨ (x = b ∧ off ≤ j ∧ j < off + len * esz)) w μ (l.map .p) (vs.toList.take l.length) := hmono.toL
              refine RepL.toP (μ := μ) ?_
              rw [List.map_take, List.map_drop]
              exact (hl2.drop off).take (len * esz)
            refine repCells_of k2 hsub (fun j c hj => ?_) (fun j hj => ?_)
            · rw [List.getElem?_take] at hj
              split at hj
              · rw [List.getElem?_drop, List.getElem?_take] at hj
                split at hj
                · rename_i hlt
                  refine ⟨by simpa using hj, k6 c (List.mem_of_getElem? (i := off + j) ?_)⟩
                  rw [List.getElem?_take, if_pos (by simpa [Cells.len] using hlt)]
                  exact hj
                · cases hj
              · cases hj
            · simp at hj
              exact .inr ⟨rfl, by omega, by omega⟩
          · rename_i l
            split at h
            · rename_i ps σ1 hfz
              split at h
              · rename_i c1 v1 w1' ty1 hob1
                split at h
                · rename_i hck
                  obtain ⟨rfl, hle1⟩ := hck
                  simp only [Option.some.injEq, Prod.mk.injEq] at h
                  obtain ⟨rfl, rfl⟩ := h
                  have hsubr : RepL S w μ ((l.drop off).take (len * esz)) (((vs.toList.take l.length).drop off).take (len * esz)) := by
                    have : RepL S w μ l (vs.toList.take l.length) := k5
                    exact (this.drop off).take (len * esz)
                  obtain ⟨S1, g1, f1, r1⟩ := frzs_sound ih _ _ _ _ hfz μ S hg _ hsubr
                  obtain ⟨_, _, j1, vs', _, _, _, j2, j3, j4, j5, _⟩ := g1.obj id _ hob1
                  rw [hm] at j1
                  cases j1
                  rw [k2] at j2
                  cases j2
                  have hplen : ps.length = len * esz := by
                    rw [r1.length_eq]
                    simp [Cells.len] at hle k4
                    have hvl : vs.toList.length = vs.size := Array.length_toList
                    simp
                    omega
                  have hcells : ∀ (j : Nat) c, (((vs.toList.take l.length).drop off).take (len * esz))[j]? = some c → vs[off + j]? = some c ∧ one c = true := by
                    intro j c hj
                    rw [List.getElem?_take] at hj
                    split at hj
                    · rw [List.getElem?_drop, List.getElem?_take] at hj
                      split at hj
                      · rename_i hlt
                        refine ⟨by simpa using hj, k6 c (List.mem_of_getElem? (i := off + j) ?_)⟩
                        rw [List.getElem?_take, if_pos (by simpa [Cells.len] using hlt)]
                        exact hj
                      · cases hj
                    · cases hj
                  have hdl : (Cells.pv ps).len = len * esz := hplen
                  obtain ⟨g2, f2⟩ := freeze_set (c' := spliceC c1 off (.pv ps)) (off := off) (m := len * esz) g1 hob1 hm k2 (by rw [spliceC_len (by rw [hdl]; exact hle1)]; exact j4) hle' (fun j v hj => by
                    have hmm := fun {v : AV} {c : Value} (h : Rep S1 w μ v c) => h.mono (S' := fun x j => S1 x j ∨ (x = b ∧ off ≤ j ∧ j < off + len * esz)) (w' := w) (μ' := μ) (fun _ _ h => ⟨.inl h, rfl⟩) (fun _ _ _ h => h)
                    rcases spliceC_get (by rw [hdl]; exact hle1) hj with ⟨_, h⟩ | ⟨q1, q2, h⟩ | ⟨_, h⟩
                    · obtain ⟨cv, p1, p2, p3⟩ := j5 j v h
                      exact ⟨cv, p1, p2, hmm p3⟩
                    · have hl2 : RepL S1 w μ (ps.map .p) _ := r1.toL
                      obtain ⟨cv, p1, p2⟩ := hl2.get h
                      obtain ⟨p3, p4⟩ := hcells (j - off) cv p1
                      rw [show off + (j - off) = j from by omega] at p3
                      exact ⟨cv, p3, p4, hmm p2⟩
                    · obtain ⟨cv, p1, p2, p3⟩ := j5 j v h
                      exact ⟨cv, p1, p2, hmm p3⟩)
                  refine ⟨_, g2, f1.trans f2, .vsl hlc ?_⟩
                  have hmono := RepPL.mono (S' := fun x j => S1 x j ∨ (x = b ∧ off ≤ j ∧ j < off + len * esz)) (w' := w) (fun _ _ h => ⟨.inl h, rfl⟩) r1
                  refine repCells_of k2 hmono hcells (fun j hj => ?_)
                  rw [hplen] at hj
                  exact .inr ⟨rfl, by omega, by omega⟩
                · cases h
              · cases h
            · cases h
        · cases h
      · cases h

theorem frzs_wr {f : Heap → AV → Option (PV × Heap)} {id : Nat} (hf : ∀ (σ : Heap) v p (σ' : Heap), f σ v = some (p, σ') → σ'.length = σ.length ∧ σ'[id]? = σ[id]?) :
    ∀ (l : List AV) (σ : Heap) (ps : List PV) (σ' : Heap), frzs f σ l = some (ps, σ') → σ'.length = σ.length ∧ σ'[id]? = σ[id]?
  | [], σ, ps, σ', h => by
    simp only [frzs, Option.some.injEq, Prod.mk.injEq] at h
    rw [← h.2]; exact ⟨rfl, rfl⟩
  | v :: r, σ, ps, σ', h => by
    simp only [frzs] at h
    split at h
    · rename_i p σ1 h1
      split at h
      · rename_i ps' σ2 h2
        simp only [Option.some.injEq, Prod.mk.injEq] at h
        rw [← h.2]
        obtain ⟨a1, a2⟩ := hf _ _ _ _ h1
        obtain ⟨b1, b2⟩ := frzs_wr hf r σ1 _ _ h2
        exact ⟨b1.trans a1, b2.trans a2⟩
      · cases h
    · cases h

theorem frz_wr {tl : List Nat} {id : Nat} (hid : id ∉ tl) : ∀ (n : Nat) (σ : Heap) v p (σ' : Heap), frz tl n σ v = some (p, σ') → σ'.length = σ.length ∧ σ'[id]? = σ[id]?
  | 0, σ, v, p, σ', h => by simp [frz] at h
  | d + 1, σ, v, p, σ', h => by
    have ih := frz_wr hid d
    cases v with
    | p v => simp only [frz, Option.some.injEq, Prod.mk.injEq] at h; rw [← h.2]; exact ⟨rfl, rfl⟩
    | dead => simp [frz] at h
    | nil0 => simp only [frz, Option.some.injEq, Prod.mk.injEq] at h; rw [← h.2]; exact ⟨rfl, rfl⟩
    | e0 => simp only [frz, Option.some.injEq, Prod.mk.injEq] at h; rw [← h.2]; exact ⟨rfl, rfl⟩
    | ptr => simp [frz] at h
    | yld => simp [frz] at h
    | clo => simp [frz] at h
    | iface t v =>
      simp only [frz] at h
      split at h
      · rename_i h1
        simp only [Option.some.injEq, Prod.mk.injEq] at h
        rw [← h.2]; exact ih _ _ _ _ h1
      · cases h
    | agg cs =>
      simp only [frz] at h
      split at h
      · rename_i h1
        simp only [Option.some.injEq, Prod.mk.injEq] at h
        rw [← h.2]; exact frzs_wr ih _ _ _ _ h1
      · cases h
    | tup cs =>
      simp only [frz] at h
      split at h
      · rename_i h1
        simp only [Option.some.injEq, Prod.mk.injEq] at h
        rw [← h.2]; exact frzs_wr ih _ _ _ _ h1
      · cases h
    | sl id' ver off len esz =>
      simp only [frz] at h
      split at h
      · split at h
        · rename_i hck
          have hne : id' ≠ id := fun e => hid (by subst e; simpa using hck.2.2)
          split at h
          · simp only [Option.some.injEq, Prod.mk.injEq] at h
            rw [← h.2]
            exact ⟨by simp, by rw [List.getElem?_set_ne hne]⟩
          · split at h
            · rename_i ps σ1 h1
              obtain ⟨a1, a2⟩ := frzs_wr ih _ _ _ _ h1
              split at h
              · split at h
                · simp only [Option.some.injEq, Prod.mk.injEq] at h
                  rw [← h.2]
                  exact ⟨by simp [a1], by rw [List.getElem?_set_ne hne, a2]⟩
                · cases h
              · cases h
            · cases h
        · cases h
      · cases h

end Go.Ab
