/- A call's own heap: what its arguments lead to, numbered anew. -/
import Derived.Test.YtikebbklkiodlaaDoorAbA18
set_option linter.unusedSectionVars false
set_option linter.unusedSimpArgs false
set_option linter.unusedVariables false
namespace Go.Ab
variable [Marks]
variable {S S' : Nat → Nat → Prop} {w w' w1 : World} {μ μ' μ2 : Nat → Nat → Option (Nat × Nat)} {P : Program} {G : Globs} {σ σ' : Heap}

mutual
def renV (g : Nat → Nat → Option (Nat × Nat)) : AV → AV
  | .p v => .p v
  | .dead => .dead
  | .nil0 => .nil0
  | .e0 => .e0
  | .ptr id ver off => match g id ver with
    | some (i, v) => .ptr i v off
    | none => .dead
  | .yld id => match g id 0 with
    | some (i, 0) => .yld i
    | _ => .dead
  | .sl id ver off len esz => match g id ver with
    | some (i, v) => .sl i v off len esz
    | none => .dead
  | .clo f a b => .clo f (renL g a) (renL g b)
  | .iface t v => .iface t (renV g v)
  | .agg cs => .agg (renL g cs)
  | .tup vs => .tup (renL g vs)
def renL (g : Nat → Nat → Option (Nat × Nat)) : List AV → List AV
  | [] => []
  | v :: r => renV g v :: renL g r
end
def renC (g : Nat → Nat → Option (Nat × Nat)) : Cells → Cells
  | .pv l => .pv l
  | .av l => .av (renL g l)

theorem renL_get {g : Nat → Nat → Option (Nat × Nat)} : ∀ {l : List AV} {i : Nat}, (renL g l)[i]? = (l[i]?).map (renV g)
  | [], i => by simp [renL]
  | v :: r, 0 => by simp [renL]
  | v :: r, i + 1 => by simp [renL, renL_get (l := r)]
theorem renL_length {g : Nat → Nat → Option (Nat × Nat)} : ∀ {l : List AV}, (renL g l).length = l.length
  | [] => rfl
  | v :: r => by simp [renL, renL_length (l := r)]
theorem renC_len {g : Nat → Nat → Option (Nat × Nat)} {c : Cells} : (renC g c).len = c.len := by
  cases c <;> simp [renC, Cells.len, renL_length]
theorem renC_get {g : Nat → Nat → Option (Nat × Nat)} {c : Cells} {i : Nat} {v : AV} (h : (renC g c).get? i = some v) : ∃ u, c.get? i = some u ∧ v = renV g u := by
  cases c with
  | pv l =>
    simp only [renC, Cells.get?, Option.map_eq_some_iff] at h ⊢
    obtain ⟨x, hx, rfl⟩ := h
    exact ⟨.p x, ⟨x, hx, rfl⟩, rfl⟩
  | av l =>
    simp only [renC, Cells.get?, renL_get, Option.map_eq_some_iff] at h ⊢
    obtain ⟨x, hx, rfl⟩ := h
    exact ⟨x, hx, rfl⟩

section
variable {g : Nat → Nat → Option (Nat × Nat)}
mutual
theorem renV_rep (hg : ∀ id ver x i v, μ id ver = some x → g id ver = some (i, v) → μ' i v = some x) : ∀ {v : AV} {c : Value}, Rep S w μ v c → Rep S w μ' (renV g v) c
  | _, _, .p h => .p h
  | _, _, .dead c => .dead c
  | _, _, .nil0 => .nil0
  | _, _, .e0 a => .e0 a
  | .ptr id ver off, _, .ptr h => by
    simp only [renV]
    split
    · rename_i i v hi
      exact .ptr (hg _ _ _ _ _ h hi)
    · exact .dead _
  | .yld id, _, .yld h => by
    simp only [renV]
    split
    · rename_i i hi
      exact .yld (hg _ _ _ _ _ h hi)
    · exact .dead _
  | .sl id ver off len esz, _, .sl h hl hc => by
    simp only [renV]
    split
    · rename_i i v hi
      exact .sl (hg _ _ _ _ _ h hi) hl hc
    · exact .dead _
  | _, _, .clo hf hc => .clo (renL_rep hg hf) (renL_rep hg hc)
  | _, _, .iface h => .iface (renV_rep hg h)
  | _, _, .agg h h1 => .agg (renL_rep hg h) h1
  | _, _, .tup h => .tup (renL_rep hg h)
theorem renL_rep (hg : ∀ id ver x i v, μ id ver = some x → g id ver = some (i, v) → μ' i v = some x) : ∀ {v : List AV} {c : List Value}, RepL S w μ v c → RepL S w μ' (renL g v) c
  | _, _, .nil => .nil
  | _, _, .cons h hs => .cons (renV_rep hg h) (renL_rep hg hs)
end
end

/-- where an object lies in a list of objects and versions -/
def posOf : List (Nat × Nat) → Nat → Nat → Option (Nat × Nat)
  | [], _, _ => none
  | (id, b) :: r, k, x => match Nat.beq id x with
    | true => some (k, b)
    | false => posOf r (k + 1) x
theorem posOf_spec : ∀ {L : List (Nat × Nat)} {k x i b : Nat}, posOf L k x = some (i, b) → k ≤ i ∧ L[i - k]? = some (x, b)
  | [], _, _, _, _, h => by simp [posOf] at h
  | (id, b') :: r, k, x, i, b, h => by
    simp only [posOf] at h
    split at h
    · rename_i he
      have he := Nat.eq_of_beq_eq_true he
      simp only [Option.some.injEq, Prod.mk.injEq] at h
      obtain ⟨rfl, rfl⟩ := h
      subst he
      simp
    · obtain ⟨h1, h2⟩ := posOf_spec h
      refine ⟨by omega, ?_⟩
      rw [show i - k = (i - (k + 1)) + 1 from by omega, List.getElem?_cons_succ]
      exact h2
theorem posOf_none : ∀ {L : List (Nat × Nat)} {k x : Nat}, posOf L k x = none → ∀ (i b : Nat), L[i]? ≠ some (x, b)
  | [], _, _, _, i, b => by simp
  | (id, b') :: r, k, x, h, i, b => by
    simp only [posOf] at h
    split at h
    · cases h
    · rename_i he
      cases i with
      | zero =>
        intro h2
        simp only [List.getElem?_cons_zero, Option.some.injEq, Prod.mk.injEq] at h2
        rw [h2.1, Nat.beq_refl] at he
        cases he
      | succ i => simpa using posOf_none h i b

def Uniq (L : List (Nat × Nat)) : Prop := ∀ (i j x b b' : Nat), L[i]? = some (x, b) → L[j]? = some (x, b') → i = j
theorem posOf_uniq {L : List (Nat × Nat)} (hu : Uniq L) {i x b : Nat} (h : L[i]? = some (x, b)) : posOf L 0 x = some (i, b) := by
  cases hp : posOf L 0 x with
  | none => exact absurd h (posOf_none hp i b)
  | some y =>
    obtain ⟨j, b'⟩ := y
    obtain ⟨_, h2⟩ := posOf_spec hp
    rw [Nat.sub_zero] at h2
    have := hu _ _ _ _ _ h h2
    subst this
    rw [h] at h2
    cases h2
    rfl
def uniq : List (Nat × Nat) → Bool
  | [] => true
  | (x, _) :: r => (match posOf r 0 x with
    | some _ => false
    | none => true) && uniq r
theorem uniq_spec : ∀ {L : List (Nat × Nat)}, uniq L = true → Uniq L
  | [], _ => fun i j x b b' h => by simp at h
  | (y, b0) :: r, h => by
    simp only [uniq, Bool.and_eq_true] at h
    obtain ⟨h1, h2⟩ := h
    have hn : posOf r 0 y = none := by
      cases hp : posOf r 0 y with
      | none => rfl
      | some z => rw [hp] at h1; cases h1
    intro i j x b b' hi hj
    cases i with
    | zero =>
      cases j with
      | zero => rfl
      | succ j =>
        simp only [List.getElem?_cons_zero, Option.some.injEq, Prod.mk.injEq] at hi
        obtain ⟨rfl, rfl⟩ := hi
        exact absurd (by simpa using hj) (posOf_none hn j b')
    | succ i =>
      cases j with
      | zero =>
        simp only [List.getElem?_cons_zero, Option.some.injEq, Prod.mk.injEq] at hj
        obtain ⟨rfl, rfl⟩ := hj
        exact absurd (by simpa using hi) (posOf_none hn i b)
      | succ j => rw [uniq_spec h2 i j x b b' (by simpa using hi) (by simpa using hj)]

/-- the new number of an object's version -/
def fwd (L : List (Nat × Nat)) (id ver : Nat) : Option (Nat × Nat) := match posOf L 0 id with
  | some (i, b) => if b ≤ ver then some (i, ver - b) else none
  | none => none
def shO (g : Nat → Nat → Option (Nat × Nat)) (b : Nat) : Obj → Obj
  | .arr c ver wm ty => if b ≤ ver then .arr (renC g c) (ver - b) wm ty else .none
  | .iter s pos => if b = 0 then .iter s pos else .none
  | .loop k ts c st => if b = 0 then .loop k ts (renC g c) st else .none
  | .mark => if b = 0 then .mark else .none
  | .none => .none
def shrinkH (L : List (Nat × Nat)) (σ : Heap) : Heap := L.map fun x => match σ[x.1]? with
  | some o => shO (fwd L) x.2 o
  | none => .none
def shMu (L : List (Nat × Nat)) (μ : Nat → Nat → Option (Nat × Nat)) (i ver : Nat) : Option (Nat × Nat) := match L[i]? with
  | some (id, b) => μ id (b + ver)
  | none => none

theorem fwd_mu {L : List (Nat × Nat)} {id ver i v : Nat} {x : Nat × Nat} (h : μ id ver = some x) (hf : fwd L id ver = some (i, v)) : shMu L μ i v = some x := by
  unfold fwd at hf
  split at hf
  · rename_i i' b hp
    split at hf
    · rename_i hb
      simp only [Option.some.injEq, Prod.mk.injEq] at hf
      obtain ⟨rfl, rfl⟩ := hf
      obtain ⟨_, h2⟩ := posOf_spec hp
      rw [Nat.sub_zero] at h2
      simp only [shMu, h2]
      rw [show b + (ver - b) = ver from by omega]
      exact h
    · cases hf
  · cases hf

theorem shrink_get {L : List (Nat × Nat)} {i : Nat} {o : Obj} (h : (shrinkH L σ)[i]? = some o) :
    ∃ id b, L[i]? = some (id, b) ∧ ((∃ o0, σ[id]? = some o0 ∧ o = shO (fwd L) b o0) ∨ (σ[id]? = none ∧ o = .none)) := by
  unfold shrinkH at h
  rw [List.getElem?_map, Option.map_eq_some_iff] at h
  obtain ⟨⟨id, b⟩, h1, h2⟩ := h
  refine ⟨id, b, h1, ?_⟩
  simp only at h2
  split at h2
  · rename_i o0 ho; exact .inl ⟨o0, ho, h2.symm⟩
  · rename_i ho; exact .inr ⟨ho, h2.symm⟩

theorem shO_ver {g : Nat → Nat → Option (Nat × Nat)} {b : Nat} {o : Obj} (h : (shO g b o).live = true) : b + (shO g b o).ver = o.ver := by
  cases o with
  | arr c ver wm ty =>
    simp only [shO] at h ⊢
    split
    · rename_i hb; simp only [Obj.ver]; omega
    · rename_i hb; rw [if_neg hb] at h; cases h
  | iter s pos =>
    simp only [shO] at h ⊢
    split
    · rename_i hb; simp [Obj.ver, hb]
    · rename_i hb; rw [if_neg hb] at h; cases h
  | loop k ts c st =>
    simp only [shO] at h ⊢
    split
    · rename_i hb; simp [Obj.ver, hb]
    · rename_i hb; rw [if_neg hb] at h; cases h
  | mark =>
    simp only [shO] at h ⊢
    split
    · rename_i hb; simp [Obj.ver, hb]
    · rename_i hb; rw [if_neg hb] at h; cases h
  | none => cases h

theorem shO_live {g : Nat → Nat → Option (Nat × Nat)} {b : Nat} {o : Obj} (h : (shO g b o).live = true) : o.live = true := by
  cases o <;> first | rfl | cases h

theorem shrink_dom {L : List (Nat × Nat)} {i : Nat} {o : Obj} {b n : Nat} (h1 : (shrinkH L σ)[i]? = some o) (h2 : o.live = true) (h3 : shMu L μ i o.ver = some (b, n)) :
    ∃ id v o0, L[i]? = some (id, v) ∧ σ[id]? = some o0 ∧ o0.live = true ∧ μ id o0.ver = some (b, n) ∧ o = shO (fwd L) v o0 := by
  obtain ⟨id, v, hL, h | ⟨_, rfl⟩⟩ := shrink_get h1
  · obtain ⟨o0, ho, rfl⟩ := h
    simp only [shMu, hL] at h3
    rw [shO_ver h2] at h3
    exact ⟨id, v, o0, hL, ho, shO_live h2, h3, rfl⟩
  · cases h2

theorem shrink_good {L : List (Nat × Nat)} (hu : Uniq L) (hg : Good μ S w σ) : Good (shMu L μ) S w (shrinkH L σ) := by
  have hfw : ∀ id ver x i v, μ id ver = some x → fwd L id ver = some (i, v) → shMu L μ i v = some x := fun _ _ _ _ _ h1 h2 => fwd_mu h1 h2
  refine ⟨?_, ?_, ?_, hg.sb⟩
  · intro i o ho
    obtain ⟨id, b, hL, h | ⟨_, rfl⟩⟩ := shrink_get ho
    · obtain ⟨o0, ho0, rfl⟩ := h
      have hob := hg.obj id o0 ho0
      cases o0 with
      | arr c ver wm ty =>
        simp only [shO]
        split
        · rename_i hb
          obtain ⟨bb, n, k1, vs, e, lo, hi, k2, k3, k4, k5, k6, k7⟩ := hob
          refine ⟨bb, n, ?_, vs, e, lo, hi, k2, k3, by rw [renC_len]; exact k4, ?_, k6, k7⟩
          · simp only [shMu, hL]
            rw [show b + (ver - b) = ver from by omega]
            exact k1
          · intro j v hv
            obtain ⟨u, hu, rfl⟩ := renC_get hv
            obtain ⟨cv, q1, q2, q3⟩ := k5 j u hu
            exact ⟨cv, q1, q2, renV_rep hfw q3⟩
        · trivial
      | iter s pos =>
        simp only [shO]
        split
        · rename_i hb
          subst hb
          obtain ⟨bb, n, cs, k1, k2, k3⟩ := hob
          exact ⟨bb, n, cs, by simp only [shMu, hL]; exact k1, k2, k3⟩
        · trivial
      | loop k ts c st =>
        simp only [shO]
        split
        · rename_i hb
          subst hb
          obtain ⟨bb, n, rec, k1, k2, k3, k4, k5⟩ := hob
          refine ⟨bb, n, rec, by simp only [shMu, hL]; exact k1, k2, k3, k4, fun j t v ht hv => ?_⟩
          obtain ⟨u, hu, rfl⟩ := renC_get hv
          exact renV_rep hfw (k5 j t u ht hu)
        · trivial
      | mark =>
        simp only [shO]
        split
        · rename_i hb
          subst hb
          obtain ⟨bb, n, k1, k2⟩ := hob
          exact ⟨bb, n, by simp only [shMu, hL]; exact k1, k2⟩
        · trivial
      | none => trivial
    · trivial
  · intro i j o o' b n n' h1 h2 l1 l2 m1 m2
    obtain ⟨id, v, o0, a1, a2, a3, a4, _⟩ := shrink_dom h1 l1 m1
    obtain ⟨id', v', o0', b1, b2, b3, b4, _⟩ := shrink_dom h2 l2 m2
    have := hg.inj _ _ _ _ _ _ _ a2 b2 a3 b3 a4 b4
    subst this
    exact hu _ _ _ _ _ a1 b1
  · intro i ver x h
    unfold shMu at h
    split at h
    · rename_i id b hL
      obtain ⟨o, ho, hv, hx⟩ := hg.old _ _ _ h
      refine ⟨shO (fwd L) b o, ?_, ?_, hx⟩
      · unfold shrinkH
        rw [List.getElem?_map, hL]
        simp only [Option.map_some, ho]
      · cases o with
        | arr c ver' wm ty => simp only [Obj.ver] at hv; simp only [shO]; rw [if_pos (by omega)]; simp only [Obj.ver]; omega
        | iter s pos => simp only [Obj.ver] at hv; simp only [shO]; rw [if_pos (by omega)]; simp only [Obj.ver]; omega
        | loop k ts c st => simp only [Obj.ver] at hv; simp only [shO]; rw [if_pos (by omega)]; simp only [Obj.ver]; omega
        | mark => simp only [Obj.ver] at hv; simp only [shO]; rw [if_pos (by omega)]; simp only [Obj.ver]; omega
        | none => simp only [Obj.ver] at hv; simp only [shO, Obj.ver]; omega
    · cases h

end Go.Ab
