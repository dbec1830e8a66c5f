/- A call's own heap is put back into the caller's. -/
import Derived.Test.YtikebbklkiodlaaDoorAbA19
set_option linter.unusedSectionVars false
set_option linter.unusedSimpArgs false
set_option linter.unusedVariables false
namespace Go.Ab
variable [Marks]
variable {S S' : Nat → Nat → Prop} {w w' w1 : World} {μ μ' μ2 : Nat → Nat → Option (Nat × Nat)} {P : Program} {G : Globs} {σ σ' : Heap}

/-- the caller's number of a version of the call's own heap: the k first objects are the caller's, n is how many the caller has -/
def bwd (L : List (Nat × Nat)) (n : Nat) (i ver : Nat) : Option (Nat × Nat) := match L[i]? with
  | some (id, b) => some (id, b + ver)
  | none => some (n + (i - L.length), ver)
def bkO (g : Nat → Nat → Option (Nat × Nat)) (b : Nat) : Obj → Obj
  | .arr c ver wm ty => .arr (renC g c) (b + ver) wm ty
  | .iter s pos => .iter s pos
  | .loop k ts c st => .loop k ts (renC g c) st
  | .mark => .mark
  | .none => .none
def putBack (g : Nat → Nat → Option (Nat × Nat)) : List (Nat × Nat) → Heap → Heap → Heap
  | (id, b) :: r, o :: os, σ => putBack g r os (σ.set id (bkO g b o))
  | _, _, σ => σ
def mergeH (L : List (Nat × Nat)) (σ σr : Heap) : Heap :=
  putBack (bwd L σ.length) L σr σ ++ (σr.drop L.length).map (bkO (bwd L σ.length) 0)
/-- what must hold of the call's heap that it can be put back -/
def backOK : List (Nat × Nat) → Heap → Bool
  | [], _ => true
  | (_, b) :: r, o :: os => (match o with
    | .arr _ _ _ _ => true
    | _ => Nat.beq b 0) && backOK r os
  | _ :: _, [] => false
def inOK (L : List (Nat × Nat)) (n : Nat) : Bool := L.all fun x => decide (x.1 < n)
def mgMu (L : List (Nat × Nat)) (n : Nat) (μ μr : Nat → Nat → Option (Nat × Nat)) (id ver : Nat) : Option (Nat × Nat) := match posOf L 0 id with
  | some (i, b) => if b ≤ ver then μr i (ver - b) else μ id ver
  | none => if id < n then μ id ver else μr (id - n + L.length) ver

theorem putBack_length {g : Nat → Nat → Option (Nat × Nat)} : ∀ {L : List (Nat × Nat)} {σr σ : Heap}, (putBack g L σr σ).length = σ.length
  | [], _, _ => by simp [putBack]
  | _ :: _, [], _ => by simp [putBack]
  | (id, b) :: r, o :: os, σ => by simp [putBack, putBack_length (L := r)]
theorem putBack_other {g : Nat → Nat → Option (Nat × Nat)} : ∀ {L : List (Nat × Nat)} {σr σ : Heap} {id : Nat}, (∀ (i b : Nat), L[i]? ≠ some (id, b)) → (putBack g L σr σ)[id]? = σ[id]?
  | [], _, _, _, _ => by simp [putBack]
  | _ :: _, [], _, _, _ => by simp [putBack]
  | (x, b) :: r, o :: os, σ, id, h => by
    have hx : x ≠ id := fun e => h 0 b (by simp [e])
    rw [putBack, putBack_other (L := r) (fun i b' => by simpa using h (i + 1) b'), List.getElem?_set_ne hx]
theorem putBack_at {g : Nat → Nat → Option (Nat × Nat)} : ∀ {L : List (Nat × Nat)} {σr σ : Heap} {i id b : Nat} {o : Obj}, Uniq L → L[i]? = some (id, b) → σr[i]? = some o → id < σ.length → (putBack g L σr σ)[id]? = some (bkO g b o)
  | [], _, _, _, _, _, _, _, h, _, _ => by simp at h
  | _ :: _, [], _, _, _, _, _, _, _, h, _ => by simp at h
  | (x, b') :: r, o' :: os, σ, 0, id, b, o, hu, h1, h2, hlt => by
    simp only [List.getElem?_cons_zero, Option.some.injEq, Prod.mk.injEq] at h1 h2
    obtain ⟨rfl, rfl⟩ := h1
    subst h2
    rw [putBack, putBack_other (L := r) (fun i b2 h3 => by have := hu 0 (i + 1) x b' b2 rfl (by simpa using h3); omega)]
    simp [hlt]
  | (x, b') :: r, o' :: os, σ, i + 1, id, b, o, hu, h1, h2, hlt => by
    rw [putBack]
    exact putBack_at (L := r) (fun i j y c c' hi hj => by have := hu (i + 1) (j + 1) y c c' (by simpa using hi) (by simpa using hj); omega) (by simpa using h1) (by simpa using h2) (by simpa using hlt)
theorem backOK_spec : ∀ {L : List (Nat × Nat)} {σr : Heap}, backOK L σr = true → L.length ≤ σr.length ∧ ∀ (i id b : Nat) (o : Obj), L[i]? = some (id, b) → σr[i]? = some o → (∃ c v wm ty, o = .arr c v wm ty) ∨ b = 0
  | [], _, _ => ⟨Nat.zero_le _, fun i id b o h => by simp at h⟩
  | _ :: _, [], h => by simp [backOK] at h
  | (x, b') :: r, o' :: os, h => by
    simp only [backOK, Bool.and_eq_true] at h
    obtain ⟨h1, h2⟩ := h
    obtain ⟨k1, k2⟩ := backOK_spec h2
    refine ⟨by simp; omega, fun i id b o hi ho => ?_⟩
    cases i with
    | zero =>
      simp only [List.getElem?_cons_zero, Option.some.injEq, Prod.mk.injEq] at hi ho
      obtain ⟨rfl, rfl⟩ := hi
      subst ho
      cases o' with
      | arr c v wm ty => exact .inl ⟨c, v, wm, ty, rfl⟩
      | iter s p => exact .inr (Nat.eq_of_beq_eq_true h1)
      | loop k ts c st => exact .inr (Nat.eq_of_beq_eq_true h1)
      | mark => exact .inr (Nat.eq_of_beq_eq_true h1)
      | none => exact .inr (Nat.eq_of_beq_eq_true h1)
    | succ i => exact k2 i id b o (by simpa using hi) (by simpa using ho)

theorem bkO_live {g : Nat → Nat → Option (Nat × Nat)} {b : Nat} {o : Obj} : (bkO g b o).live = o.live := by cases o <;> rfl

section
variable {L : List (Nat × Nat)} {μr : Nat → Nat → Option (Nat × Nat)} {σr : Heap}

/-- an object of the merged heap -/
theorem merge_get (hu : Uniq L) (hin : inOK L σ.length = true) (hback : backOK L σr = true) {id : Nat} {o : Obj} (h : (mergeH L σ σr)[id]? = some o) :
    (∃ i b o0, L[i]? = some (id, b) ∧ id < σ.length ∧ σr[i]? = some o0 ∧ o = bkO (bwd L σ.length) b o0 ∧ posOf L 0 id = some (i, b)) ∨
    (posOf L 0 id = none ∧ id < σ.length ∧ σ[id]? = some o) ∨
    (posOf L 0 id = none ∧ σ.length ≤ id ∧ ∃ o0, σr[id - σ.length + L.length]? = some o0 ∧ o = bkO (bwd L σ.length) 0 o0) := by
  have hL : ∀ (i id b : Nat), L[i]? = some (id, b) → id < σ.length := by
    intro i id b hi
    simp only [inOK, List.all_eq_true, decide_eq_true_eq] at hin
    exact hin _ (List.mem_of_getElem? hi)
  unfold mergeH at h
  rw [List.getElem?_append, putBack_length] at h
  split at h
  · rename_i hlt
    cases hp : posOf L 0 id with
    | none =>
      rw [putBack_other (posOf_none hp)] at h
      exact .inr (.inl ⟨rfl, hlt, h⟩)
    | some y =>
      obtain ⟨i, b⟩ := y
      obtain ⟨_, hi⟩ := posOf_spec hp
      rw [Nat.sub_zero] at hi
      have hil : i < σr.length := Nat.lt_of_lt_of_le (List.getElem?_eq_some_iff.1 hi).1 (backOK_spec hback).1
      rw [putBack_at hu hi (o := σr[i]) (by simp [hil]) hlt] at h
      exact .inl ⟨i, b, σr[i], hi, hlt, by simp [hil], (Option.some.inj h).symm, rfl⟩
  · rename_i hge
    have hp : posOf L 0 id = none := by
      cases hp : posOf L 0 id with
      | none => rfl
      | some y =>
        obtain ⟨i, b⟩ := y
        obtain ⟨_, hi⟩ := posOf_spec hp
        rw [Nat.sub_zero] at hi
        exact absurd (hL i id b hi) hge
    rw [List.getElem?_map, List.getElem?_drop, Option.map_eq_some_iff] at h
    obtain ⟨o0, h1, h2⟩ := h
    exact .inr (.inr ⟨hp, by omega, o0, by rw [Nat.add_comm]; exact h1, h2.symm⟩)

theorem bwd_mu (hu : Uniq L) (hin : inOK L σ.length = true) {i ver id v : Nat} {x : Nat × Nat} (h : μr i ver = some x) (hb : bwd L σ.length i ver = some (id, v)) : mgMu L σ.length μ μr id v = some x := by
  have hL : ∀ (i id b : Nat), L[i]? = some (id, b) → id < σ.length := by
    intro i id b hi
    simp only [inOK, List.all_eq_true, decide_eq_true_eq] at hin
    exact hin _ (List.mem_of_getElem? hi)
  unfold bwd at hb
  split at hb
  · rename_i id' b hi
    simp only [Option.some.injEq, Prod.mk.injEq] at hb
    obtain ⟨rfl, rfl⟩ := hb
    simp only [mgMu, posOf_uniq hu hi]
    rw [if_pos (by omega), show b + ver - b = ver from by omega]
    exact h
  · rename_i hi
    simp only [Option.some.injEq, Prod.mk.injEq] at hb
    obtain ⟨rfl, rfl⟩ := hb
    have hle : L.length ≤ i := by rw [List.getElem?_eq_none_iff] at hi; exact hi
    have hp : posOf L 0 (σ.length + (i - L.length)) = none := by
      cases hp : posOf L 0 (σ.length + (i - L.length)) with
      | none => rfl
      | some y =>
        obtain ⟨j, b⟩ := y
        obtain ⟨_, hj⟩ := posOf_spec hp
        rw [Nat.sub_zero] at hj
        have := hL j _ b hj
        omega
    simp only [mgMu, hp]
    rw [if_neg (by omega), show σ.length + (i - L.length) - σ.length + L.length = i from by omega]
    exact h

/-- a live object of the merged heap and its block: the call's, or the caller's -/
theorem merge_dom (hu : Uniq L) (hin : inOK L σ.length = true) (hback : backOK L σr = true) {id b n : Nat} {o : Obj} (h : (mergeH L σ σr)[id]? = some o) (hl : o.live = true) (hm : mgMu L σ.length μ μr id o.ver = some (b, n)) :
    (∃ i o0, σr[i]? = some o0 ∧ o0.live = true ∧ μr i o0.ver = some (b, n) ∧ ((∃ v, L[i]? = some (id, v)) ∨ (L.length ≤ i ∧ id = σ.length + (i - L.length)))) ∨
    (posOf L 0 id = none ∧ id < σ.length ∧ σ[id]? = some o ∧ μ id o.ver = some (b, n)) := by
  rcases merge_get hu hin hback h with ⟨i, v, o0, h1, h2, h3, rfl, hp⟩ | ⟨hp, h2, h3⟩ | ⟨hp, h2, o0, h3, rfl⟩
  · left
    rw [bkO_live] at hl
    refine ⟨i, o0, h3, hl, ?_, .inl ⟨v, h1⟩⟩
    simp only [mgMu, hp] at hm
    have hver : (bkO (bwd L σ.length) v o0).ver = v + o0.ver := by
      rcases (backOK_spec hback).2 i id v o0 h1 h3 with ⟨c, vr, wm, ty, rfl⟩ | rfl
      · rfl
      · cases o0 <;> simp [bkO, Obj.ver]
    rw [hver, if_pos (by omega), show v + o0.ver - v = o0.ver from by omega] at hm
    exact hm
  · right
    simp only [mgMu, hp, if_pos h2] at hm
    exact ⟨hp, h2, h3, hm⟩
  · left
    rw [bkO_live] at hl
    have hge : ¬ id < σ.length := by omega
    simp only [mgMu, hp, if_neg hge] at hm
    have hver : (bkO (bwd L σ.length) 0 o0).ver = o0.ver := by cases o0 <;> simp [bkO, Obj.ver]
    rw [hver] at hm
    exact ⟨_, o0, h3, hl, hm, .inr ⟨by omega, by omega⟩⟩

theorem merge_sound (hu : Uniq L) (hin : inOK L σ.length = true) (hback : backOK L σr = true) (hg : Good μ S w σ) (hgr : Good μr S' w' σr) (hfr : Frm (shMu L μ) S w (shrinkH L σ) μr S' w' σr) :
    Good (mgMu L σ.length μ μr) S' w' (mergeH L σ σr) ∧ Frm μ S w σ (mgMu L σ.length μ μr) S' w' (mergeH L σ σr) := by
  have hbw : ∀ i ver x id v, μr i ver = some x → bwd L σ.length i ver = some (id, v) → mgMu L σ.length μ μr id v = some x := fun _ _ _ _ _ h1 h2 => bwd_mu hu hin h1 h2
  have hL : ∀ (i id b : Nat), L[i]? = some (id, b) → id < σ.length := by
    intro i id b hi
    simp only [inOK, List.all_eq_true, decide_eq_true_eq] at hin
    exact hin _ (List.mem_of_getElem? hi)
  have hdomr : ∀ b, Dom (shMu L μ) (shrinkH L σ) b → ∃ (id v : Nat) (o0 : Obj) (n : Nat), posOf L 0 id ≠ none ∧ L[v]? ≠ none ∧ σ[id]? = some o0 ∧ o0.live = true ∧ μ id o0.ver = some (b, n) := by
    intro b ⟨i, o, n, h1, h2, h3⟩
    obtain ⟨id, v, o0, k1, k2, k3, k4, _⟩ := shrink_dom h1 h2 h3
    exact ⟨id, i, o0, n, by rw [posOf_uniq hu k1]; simp, by rw [k1]; simp, k2, k3, k4⟩
  have hmu : ∀ id ver x, μ id ver = some x → mgMu L σ.length μ μr id ver = some x := by
    intro id ver x h
    unfold mgMu
    split
    · rename_i i b hp
      split
      · rename_i hb
        obtain ⟨_, hi⟩ := posOf_spec hp
        rw [Nat.sub_zero] at hi
        refine hfr.mu _ _ _ ?_
        simp only [shMu, hi]
        rw [show b + (ver - b) = ver from by omega]
        exact h
      · exact h
    · obtain ⟨o, ho, _⟩ := hg.old _ _ _ h
      rw [if_pos (List.getElem?_eq_some_iff.1 ho).1]
      exact h
  -- blocks of objects that the call does not see
  have apart : ∀ (id b n : Nat) (o : Obj), posOf L 0 id = none → σ[id]? = some o → o.live = true → μ id o.ver = some (b, n) → b < w.heap.size ∧ ¬ Dom (shMu L μ) (shrinkH L σ) b := by
    intro id b n o hp ho hl hm
    refine ⟨by obtain ⟨_, _, _, hx⟩ := hg.old _ _ _ hm; exact hx, fun hd => ?_⟩
    obtain ⟨id', _, o', n', k1, _, k2, k3, k4⟩ := hdomr b hd
    have := hg.inj _ _ _ _ _ _ _ ho k2 hl k3 hm k4
    subst this
    exact k1 hp
  have newdom : ∀ b, (∃ i o0 n, σr[i]? = some o0 ∧ o0.live = true ∧ μr i o0.ver = some (b, n)) → Dom (shMu L μ) (shrinkH L σ) b ∨ w.heap.size ≤ b := fun b ⟨i, o0, n, k1, k2, k3⟩ => hfr.newD b ⟨i, o0, n, k1, k2, k3⟩
  have objr : ∀ (i id b : Nat) (o0 : Obj), σr[i]? = some o0 → (∀ ver x, μr i ver = some x → mgMu L σ.length μ μr id (b + ver) = some x) → ((∃ c v wm ty, o0 = .arr c v wm ty) ∨ b = 0) → ObjOK S' w' (mgMu L σ.length μ μr) id (bkO (bwd L σ.length) b o0) := by
    intro i id b o0 h0 hv hk
    have hob := hgr.obj i o0 h0
    cases o0 with
    | arr c ver wm ty =>
      obtain ⟨bb, n, k1, vs, e, lo, hi, k2, k3, k4, k5, k6, k7⟩ := hob
      refine ⟨bb, n, hv _ _ k1, vs, e, lo, hi, k2, k3, by rw [renC_len]; exact k4, ?_, k6, k7⟩
      intro j v hj
      obtain ⟨u, hu', rfl⟩ := renC_get hj
      obtain ⟨cv, q1, q2, q3⟩ := k5 j u hu'
      exact ⟨cv, q1, q2, renV_rep hbw q3⟩
    | iter s pos =>
      rcases hk with ⟨c, v, wm, ty, h⟩ | rfl
      · cases h
      · obtain ⟨bb, n, cs, k1, k2, k3⟩ := hob
        have := hv _ _ k1
        exact ⟨bb, n, cs, by simpa using this, k2, k3⟩
    | loop k ts c st =>
      rcases hk with ⟨c, v, wm, ty, h⟩ | rfl
      · cases h
      · obtain ⟨bb, n, rec, k1, k2, k3, k4, k5⟩ := hob
        have := hv _ _ k1
        refine ⟨bb, n, rec, by simpa using this, k2, k3, k4, fun j t v ht hj => ?_⟩
        obtain ⟨u, hu', rfl⟩ := renC_get hj
        exact renV_rep hbw (k5 j t u ht hu')
    | mark =>
      rcases hk with ⟨c, v, wm, ty, h⟩ | rfl
      · cases h
      · obtain ⟨bb, n, k1, k2⟩ := hob
        have := hv _ _ k1
        exact ⟨bb, n, by simpa using this, k2⟩
    | none => trivial
  constructor
  · refine ⟨?_, ?_, ?_, hgr.sb⟩
    · intro id o ho
      rcases merge_get hu hin hback ho with ⟨i, v, o0, h1, h2, h3, rfl, hp⟩ | ⟨hp, h2, h3⟩ | ⟨hp, h2, o0, h3, rfl⟩
      · refine objr i id v o0 h3 (fun ver x hx => ?_) ((backOK_spec hback).2 i id v o0 h1 h3)
        simp only [mgMu, hp]
        rw [if_pos (by omega), show v + ver - v = ver from by omega]
        exact hx
      · have hob := hg.obj id o h3
        cases o with
        | arr c ver wm ty =>
          obtain ⟨bb, n, k1, vs, e, lo, hi, k2, k3, k4, k5, k6, k7⟩ := hob
          obtain ⟨a1, a2⟩ := apart id bb n _ hp h3 rfl k1
          refine ⟨bb, n, hmu _ _ _ k1, vs, e, lo, hi, by rw [hfr.keepB bb a1 a2]; exact k2, k3, k4, ?_, ?_, k7⟩
          · intro j v hj
            obtain ⟨cv, q1, q2, q3⟩ := k5 j v hj
            exact ⟨cv, q1, q2, q3.mono hfr.keepS hmu⟩
          · intro j hj1 hj2
            obtain ⟨q1, q2⟩ := k6 j hj1 hj2
            refine ⟨fun hs => ?_, q2⟩
            rcases hfr.newS bb j hs with h | h | h
            · exact q1 h
            · exact a2 h
            · omega
        | iter s pos =>
          obtain ⟨bb, n, cs, k1, k2, k3⟩ := hob
          obtain ⟨a1, a2⟩ := apart id bb n _ hp h3 rfl k1
          exact ⟨bb, n, cs, hmu _ _ _ k1, by rw [hfr.keepB bb a1 a2]; exact k2, k3⟩
        | loop k ts c st =>
          obtain ⟨bb, n, rec, k1, k2, k3, k4, k5⟩ := hob
          obtain ⟨a1, a2⟩ := apart id bb n _ hp h3 rfl k1
          exact ⟨bb, n, rec, hmu _ _ _ k1, by rw [hfr.keepB bb a1 a2]; exact k2, k3, k4, fun j t v ht hj => (k5 j t v ht hj).mono hfr.keepS hmu⟩
        | mark =>
          obtain ⟨bb, n, k1, k2⟩ := hob
          obtain ⟨a1, a2⟩ := apart id bb n _ hp h3 rfl k1
          exact ⟨bb, n, hmu _ _ _ k1, by rw [hfr.keepB bb a1 a2]; exact k2⟩
        | none => trivial
      · refine objr _ id 0 o0 h3 (fun ver x hx => ?_) (.inr rfl)
        have hge : ¬ id < σ.length := by omega
        simp only [mgMu, hp, if_neg hge, Nat.zero_add]
        exact hx
    · intro id id' o o' b n n' h1 h2 l1 l2 m1 m2
      rcases merge_dom hu hin hback h1 l1 m1 with ⟨i, o0, a1, a2, a3, a4⟩ | ⟨p1, p2, p3, p4⟩ <;> rcases merge_dom hu hin hback h2 l2 m2 with ⟨i', o0', b1, b2, b3, b4⟩ | ⟨q1, q2, q3, q4⟩
      · have := hgr.inj _ _ _ _ _ _ _ a1 b1 a2 b2 a3 b3
        subst this
        rcases a4 with ⟨v, a4⟩ | ⟨a4, rfl⟩ <;> rcases b4 with ⟨v', b4⟩ | ⟨b4, rfl⟩
        · rw [a4] at b4; cases b4; rfl
        · have := (List.getElem?_eq_some_iff.1 a4).1; omega
        · have := (List.getElem?_eq_some_iff.1 b4).1; omega
        · rfl
      · obtain ⟨c1, c2⟩ := apart id' b n' o' q1 q3 l2 q4
        rcases newdom b ⟨i, o0, n, a1, a2, a3⟩ with h | h
        · exact absurd h c2
        · omega
      · obtain ⟨c1, c2⟩ := apart id b n o p1 p3 l1 p4
        rcases newdom b ⟨i', o0', n', b1, b2, b3⟩ with h | h
        · exact absurd h c2
        · omega
      · exact hg.inj _ _ _ _ _ _ _ p3 q3 l1 l2 p4 q4
    · intro id ver x h
      have lenp : (putBack (bwd L σ.length) L σr σ).length = σ.length := putBack_length
      unfold mgMu at h
      split at h
      · rename_i i b hp
        obtain ⟨_, hi⟩ := posOf_spec hp
        rw [Nat.sub_zero] at hi
        have hlt := hL i id b hi
        have hil : i < σr.length := Nat.lt_of_lt_of_le (List.getElem?_eq_some_iff.1 hi).1 (backOK_spec hback).1
        have hat := putBack_at (g := bwd L σ.length) hu hi (List.getElem?_eq_getElem hil) hlt
        have hval : (mergeH L σ σr)[id]? = some (bkO (bwd L σ.length) b σr[i]) := by
          unfold mergeH
          rw [List.getElem?_append_left (by rw [lenp]; exact hlt)]
          exact hat
        refine ⟨_, hval, ?_⟩
        have hver : (bkO (bwd L σ.length) b σr[i]).ver = b + σr[i].ver := by
          rcases (backOK_spec hback).2 i id b σr[i] hi (by simp [hil]) with ⟨c, vr, wm, ty, he⟩ | rfl
          · rw [he]; rfl
          · cases σr[i] <;> simp [bkO, Obj.ver]
        rw [hver]
        split at h
        · obtain ⟨o, ho, hv, hx⟩ := hgr.old _ _ _ h
          have : o = σr[i] := by rw [List.getElem?_eq_getElem hil] at ho; exact (Option.some.inj ho).symm
          subst this
          exact ⟨by omega, hx⟩
        · obtain ⟨_, _, _, hx⟩ := hg.old _ _ _ h
          exact ⟨by omega, Nat.lt_of_lt_of_le hx hfr.size⟩
      · rename_i hp
        split at h
        · rename_i hlt
          obtain ⟨o, ho, hv, hx⟩ := hg.old _ _ _ h
          refine ⟨o, ?_, hv, Nat.lt_of_lt_of_le hx hfr.size⟩
          unfold mergeH
          rw [List.getElem?_append_left (by rw [lenp]; exact hlt), putBack_other (posOf_none hp)]
          exact ho
        · rename_i hge
          obtain ⟨o, ho, hv, hx⟩ := hgr.old _ _ _ h
          refine ⟨bkO (bwd L σ.length) 0 o, ?_, ?_, hx⟩
          · unfold mergeH
            rw [List.getElem?_append_right (by rw [lenp]; omega), lenp, List.getElem?_map, List.getElem?_drop, Nat.add_comm, ho]
            rfl
          · cases o <;> simpa [bkO, Obj.ver] using hv
  · refine ⟨hfr.os, hfr.tape, hfr.output, hfr.size, hfr.keepS, ?_, ?_, ?_, hmu⟩
    · intro b hb hd
      refine hfr.keepB b hb fun hdr => hd ?_
      obtain ⟨id, _, o0, n, _, _, k2, k3, k4⟩ := hdomr b hdr
      exact ⟨id, o0, n, k2, k3, k4⟩
    · intro b o hs
      rcases hfr.newS b o hs with h | h | h
      · exact .inl h
      · obtain ⟨id, _, o0, n, _, _, k2, k3, k4⟩ := hdomr b h
        exact .inr (.inl ⟨id, o0, n, k2, k3, k4⟩)
      · exact .inr (.inr h)
    · intro b ⟨id, o, n, h1, h2, h3⟩
      rcases merge_dom hu hin hback h1 h2 h3 with ⟨i, o0, a1, a2, a3, _⟩ | ⟨_, _, p3, p4⟩
      · rcases newdom b ⟨i, o0, n, a1, a2, a3⟩ with h | h
        · obtain ⟨id, _, o0, n, _, _, k2, k3, k4⟩ := hdomr b h
          exact .inl ⟨id, o0, n, k2, k3, k4⟩
        · exact .inr h
      · exact .inl ⟨id, o, n, p3, h2, p4⟩

end
end Go.Ab
