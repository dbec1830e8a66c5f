/- PlanTurned: the plain law: what a condition says of a key is the same, turned and said twice (no program in sight). Words are lists of bytes; what a value's code is, and what is above one, is left open. -/
set_option linter.unusedSectionVars false
set_option linter.unusedSimpArgs false
set_option linter.unusedVariables false
namespace Go.Ab.Turn
abbrev Word := List UInt8
/-- a tree -/
inductive T where
  | mk (op s : Word) (n : Int) (l : List T)
def T.op : T → Word
  | .mk op _ _ _ => op
def T.s : T → Word
  | .mk _ s _ _ => s
def T.n : T → Int
  | .mk _ _ n _ => n
def T.l : T → List T
  | .mk _ _ _ l => l
abbrev wAnd : Word := [97, 110, 100]
abbrev wSlot : Word := [115, 108, 111, 116]
abbrev wEq : Word := [61]
abbrev wLt : Word := [60]
abbrev wLe : Word := [60, 61]
abbrev wGt : Word := [62]
abbrev wGe : Word := [62, 61]
/-- a comparison's sign, turned around -/
def flip (w : Word) : Word := if w = wLt then wGt else if w = wLe then wGe else if w = wGt then wLt else if w = wGe then wLe else w
def isCmp (w : Word) : Bool := w == wEq || w == wLt || w == wLe || w == wGt || w == wGe
theorem flip_other {w : Word} (h : isCmp w = false) : flip w = w := by
  simp [isCmp] at h
  obtain ⟨⟨⟨⟨_, h2⟩, h3⟩, h4⟩, h5⟩ := h
  simp [flip, h2, h3, h4, h5]
theorem flip_cmp {w : Word} (h : isCmp w = true) : flip (flip w) = w ∧ isCmp (flip w) = true := by
  simp [isCmp] at h
  rcases h with (((rfl | rfl) | rfl) | rfl) | rfl <;> decide
theorem flip_is (v : Word) (hv : isCmp v = false) (w : Word) : flip w = v ↔ w = v := by
  cases h : isCmp w with
  | false => rw [flip_other h]
  | true =>
    constructor
    · intro e
      have := (flip_cmp h).2
      rw [e, hv] at this
      cases this
    · intro e
      rw [e, hv] at h
      cases h
mutual
/-- a condition's clauses -/
def clauses : T → List T
  | .mk op s n l => if op = wAnd ∧ l.length = 2 then clausesL l else [.mk op s n l]
def clausesL : List T → List T
  | [] => []
  | t :: r => clauses t ++ clausesL r
end
mutual
/-- the tree, turned -/
def trn : T → T
  | .mk op s n l => .mk (if l.length = 2 then flip op else op) s n (if l.length = 2 ∧ isCmp op = true then (trnL l).reverse else trnL l)
def trnL : List T → List T
  | [] => []
  | t :: r => trn t :: trnL r
end
theorem trnL_len : ∀ l : List T, (trnL l).length = l.length
  | [] => rfl
  | t :: r => by simp [trnL, trnL_len r]
theorem trn_op_is (v : Word) (hv : isCmp v = false) (t : T) : (trn t).op = v ↔ t.op = v := by
  cases t with
  | mk op s n l =>
    simp only [trn, T.op]
    split
    · exact flip_is v hv op
    · exact Iff.rfl
theorem trn_n (t : T) : (trn t).n = t.n := by cases t; simp [trn, T.n]
theorem trn_s (t : T) : (trn t).s = t.s := by cases t; simp [trn, T.s]
/-- a value that is told by a tree -/
inductive Lit where
  | num (n : Int) | text (s : Word) | bool (n : Int)
  deriving DecidableEq
abbrev wNum : Word := [110, 117, 109]
abbrev wText : Word := [116, 101, 120, 116]
abbrev wBool : Word := [98, 111, 111, 108]
abbrev wNeg : Word := [110, 101, 103]
/-- what a number turns to with a sign ahead -/
def negI (n : Int) : Int := if n = -9223372036854775808 then n else -n
def lit (t : T) : Option Lit :=
  if t.op = wNum then some (.num t.n) else if t.op = wText then some (.text t.s) else if t.op = wBool then some (.bool t.n)
  else if t.op = wNeg then (match t.l with
    | [z] => if z.op = wNum then some (.num (negI z.n)) else none
    | _ => none)
  else none
theorem trn_one (op s : Word) (n : Int) (z : T) : (trn (.mk op s n [z])).l = [trn z] := by
  simp [trn, trnL, T.l]
theorem lit_trn (t : T) : lit (trn t) = lit t := by
  unfold lit
  have h1 := trn_op_is wNum rfl t
  have h2 := trn_op_is wText rfl t
  have h3 := trn_op_is wBool rfl t
  have h4 := trn_op_is wNeg rfl t
  simp only [h1, h2, h3, h4, trn_n, trn_s]
  have h5 : (match (trn t).l with
    | [z] => if z.op = wNum then some (Lit.num (negI z.n)) else none
    | _ => none) = (match t.l with
    | [z] => if z.op = wNum then some (Lit.num (negI z.n)) else none
    | _ => none) := by
    cases t with
    | mk op s n l =>
      match l with
      | [] => simp [trn, trnL, T.l]
      | [z] =>
        rw [trn_one]
        simp only [T.l]
        have hz := trn_op_is wNum rfl z
        simp only [hz, trn_n]
      | [a, b] =>
        have : (trn (.mk op s n [a, b])).l = [trn a, trn b] ∨ (trn (.mk op s n [a, b])).l = [trn b, trn a] := by
          simp only [trn, trnL, T.l]
          split
          · exact .inr rfl
          · exact .inl rfl
        rcases this with h | h <;> rw [h] <;> rfl
      | a :: b :: c :: r =>
        have : (trn (.mk op s n (a :: b :: c :: r))).l = trn a :: trn b :: trn c :: trnL r := by
          simp [trn, trnL, T.l]
        rw [this]
        rfl
  rw [h5]
/-- what a clause says of a column: which columns there are, and of what kinds, is left open -/
structure Cl where
  col : Nat
  op : Word
  v : Lit
def read (sl : Int → Lit → Option Nat) (t : T) : Option Cl := match t with
  | .mk op _ _ [x, y] => if isCmp op = true then (
      if x.op = wSlot then (match lit y with
        | some v => (sl x.n v).map fun c => ⟨c, op, v⟩
        | none => none)
      else if y.op = wSlot then (match lit x with
        | some v => (sl y.n v).map fun c => ⟨c, flip op, v⟩
        | none => none)
      else none) else none
  | _ => none
theorem lit_slot {t : T} (h : t.op = wSlot) : lit t = none := by
  unfold lit
  rw [h]
  simp
theorem read_trn (sl : Int → Lit → Option Nat) (t : T) : read sl (trn t) = read sl t := by
  cases t with
  | mk op s n l =>
    match l with
    | [] => simp [trn, trnL, read]
    | [z] => simp [trn, trnL, read]
    | [x, y] =>
      cases hc : isCmp op with
      | false =>
        have e : trn (.mk op s n [x, y]) = .mk op s n [trn x, trn y] := by simp [trn, trnL, hc, flip_other hc]
        rw [e]
        simp [read, hc]
      | true =>
        obtain ⟨f1, f2⟩ := flip_cmp hc
        have e : trn (.mk op s n [x, y]) = .mk (flip op) s n [trn y, trn x] := by simp [trn, trnL, hc]
        rw [e]
        have hx := trn_op_is wSlot rfl x
        have hy := trn_op_is wSlot rfl y
        simp only [read, f2, if_true, hc, hx, hy, lit_trn, trn_n, f1]
        by_cases hxs : x.op = wSlot
        · by_cases hys : y.op = wSlot
          · simp only [hxs, hys, if_true, lit_slot hxs, lit_slot hys]
          · simp only [hxs, hys, if_true, if_false]
        · by_cases hys : y.op = wSlot
          · simp only [hxs, hys, if_true, if_false]
          · simp only [hxs, hys, if_false]
    | a :: b :: c :: r => simp [trn, trnL, read]
mutual
theorem said_trn (sl : Int → Lit → Option Nat) : ∀ t : T, (clauses (trn t)).filterMap (read sl) = (clauses t).filterMap (read sl)
  | .mk op s n l => by
    by_cases h : op = wAnd ∧ l.length = 2
    · obtain ⟨rfl, hl⟩ := h
      have e : trn (.mk wAnd s n l) = .mk wAnd s n (trnL l) := by
        have h1 : isCmp wAnd = false := rfl
        have h2 : flip wAnd = wAnd := by decide
        simp [trn, hl, h1, h2]
      rw [e]
      unfold clauses
      rw [if_pos ⟨rfl, by rw [trnL_len]; exact hl⟩, if_pos ⟨rfl, hl⟩]
      exact said_trnL sl l
    · have e1 : clauses (.mk op s n l) = [.mk op s n l] := by
        unfold clauses
        rw [if_neg h]
      have e2 : clauses (trn (.mk op s n l)) = [trn (.mk op s n l)] := by
        have h3 : ¬ ((trn (.mk op s n l)).op = wAnd ∧ (trn (.mk op s n l)).l.length = 2) := by
          rintro ⟨h4, h5⟩
          refine h ⟨(trn_op_is wAnd rfl (.mk op s n l)).1 h4, ?_⟩
          simp only [trn, T.l] at h5
          split at h5
          · rw [List.length_reverse, trnL_len] at h5; exact h5
          · rw [trnL_len] at h5; exact h5
        generalize trn (.mk op s n l) = u at *
        cases u with
        | mk o' s' n' l' =>
          unfold clauses
          exact if_neg h3
      rw [e1, e2]
      simp only [List.filterMap_cons, List.filterMap_nil, read_trn]
theorem said_trnL (sl : Int → Lit → Option Nat) : ∀ l : List T, (clausesL (trnL l)).filterMap (read sl) = (clausesL l).filterMap (read sl)
  | [] => rfl
  | t :: r => by
    simp only [trnL, clausesL, List.filterMap_append]
    rw [said_trn sl t, said_trnL sl r]
end
/-- and of it with itself -/
theorem said_twice (sl : Int → Lit → Option Nat) (s : Word) (n : Int) (t : T) : (clauses (.mk wAnd s n [t, t])).filterMap (read sl) = (clauses t).filterMap (read sl) ++ (clauses t).filterMap (read sl) := by
  have e : clauses (.mk wAnd s n [t, t]) = clauses t ++ (clauses t ++ []) := by
    conv => lhs; unfold clauses
    rw [if_pos ⟨rfl, rfl⟩]
    rfl
  rw [e, List.append_nil, List.filterMap_append]
end Go.Ab.Turn

/- PlanTurned: the plain law: the path of clauses that are said twice is the path of the clauses (no program in sight). What a value's code is, and what is above one, is left open. -/
namespace Go.Ab.Turn
/-- how two codes stand -/
def le : Word → Word → Bool
  | [], _ => true
  | _ :: _, [] => false
  | a :: x, b :: y => if a < b then true else if b < a then false else le x y
theorem le_refl : ∀ x : Word, le x x = true
  | [] => rfl
  | a :: x => by
    unfold le
    have h : ¬ a < a := UInt8.lt_irrefl a
    simp [h, le_refl x]
theorem le_total : ∀ x y : Word, le x y = false → le y x = true
  | [], y, h => by simp [le] at h
  | a :: x, [], h => rfl
  | a :: x, b :: y, h => by
    unfold le at h ⊢
    by_cases h1 : a < b
    · simp [h1] at h
    · by_cases h2 : b < a
      · simp [h2]
      · simp only [h1, h2, if_false] at h ⊢
        exact le_total x y h
theorem le_trans : ∀ x y z : Word, le x y = true → le y z = true → le x z = true
  | [], y, z, _, _ => by simp [le]
  | a :: x, [], z, h, _ => by simp [le] at h
  | a :: x, b :: y, [], _, h => by simp [le] at h
  | a :: x, b :: y, c :: z, h, k => by
    unfold le at h k ⊢
    by_cases h1 : a < b
    · by_cases h2 : b < c
      · simp [UInt8.lt_trans h1 h2]
      · by_cases h3 : c < b
        · simp [h2, h3] at k
        · have : b = c := UInt8.le_antisymm (UInt8.not_lt.1 h3) (UInt8.not_lt.1 h2)
          subst this
          simp [h1]
    · by_cases h2 : b < a
      · simp [h1, h2] at h
      · have : a = b := UInt8.le_antisymm (UInt8.not_lt.1 h2) (UInt8.not_lt.1 h1)
        subst this
        simp only [h1, if_false] at h
        by_cases h3 : a < c
        · simp [h3]
        · by_cases h4 : c < a
          · simp [h3, h4] at k
          · simp only [h3, h4, if_false] at k ⊢
            exact le_trans x y z h k
def maxW (x y : Word) : Word := if le x y = true then y else x
def minW (x y : Word) : Word := if le x y = true then x else y
/-- the bounds so far: the lowest, the highest, whether there are any -/
structure Bd where
  lo : Word
  hi : Word
  some : Bool
section
variable (enc above : Lit → Word) (col : Nat)
def stepBd (p : Bd) (c : Cl) : Bd :=
  if c.col ≠ col ∨ c.op = wEq then p
  else if c.op = wGt ∨ c.op = wGe then ⟨maxW p.lo (enc c.v), p.hi, true⟩
  else ⟨p.lo, minW p.hi (above c.v), true⟩
/-- the bounds take a clause in -/
def holdsBd (p : Bd) (c : Cl) : Prop := (c.col ≠ col ∨ c.op = wEq) ∨ (p.some = true ∧ if c.op = wGt ∨ c.op = wGe then le (enc c.v) p.lo = true else le p.hi (above c.v) = true)
theorem maxW_le1 (x y : Word) : le x (maxW x y) = true := by
  unfold maxW
  split
  · assumption
  · exact le_refl x
theorem maxW_le2 (x y : Word) : le y (maxW x y) = true := by
  unfold maxW
  split
  · exact le_refl y
  · rename_i h
    exact le_total x y (by simpa using h)
theorem minW_le1 (x y : Word) : le (minW x y) x = true := by
  unfold minW
  split
  · exact le_refl x
  · rename_i h
    exact le_total x y (by simpa using h)
theorem minW_le2 (x y : Word) : le (minW x y) y = true := by
  unfold minW
  split
  · assumption
  · exact le_refl y
theorem le_anti : ∀ x y : Word, le x y = true → le y x = true → x = y
  | [], [], _, _ => rfl
  | [], _ :: _, _, k => by simp [le] at k
  | _ :: _, [], h, _ => by simp [le] at h
  | a :: x, b :: y, h, k => by
    unfold le at h k
    by_cases h1 : a < b
    · have h2 : ¬ b < a := UInt8.lt_asymm h1
      simp [h1, h2] at k
    · by_cases h2 : b < a
      · simp [h1, h2] at h
      · have : a = b := UInt8.le_antisymm (UInt8.not_lt.1 h2) (UInt8.not_lt.1 h1)
        subst this
        simp only [h1, if_false] at h k
        rw [le_anti x y h k]
theorem step_holds (p : Bd) (c : Cl) : holdsBd enc above col (stepBd enc above col p c) c := by
  unfold holdsBd stepBd
  by_cases h : c.col ≠ col ∨ c.op = wEq
  · exact .inl h
  · refine .inr ?_
    rw [if_neg h]
    by_cases h2 : c.op = wGt ∨ c.op = wGe
    · simp only [if_pos h2]
      exact ⟨trivial, maxW_le2 _ _⟩
    · simp only [if_neg h2]
      exact ⟨trivial, minW_le2 _ _⟩
theorem step_keeps (p : Bd) (c d : Cl) (h : holdsBd enc above col p c) : holdsBd enc above col (stepBd enc above col p d) c := by
  rcases h with h | ⟨h1, h2⟩
  · exact .inl h
  · refine .inr ?_
    unfold stepBd
    by_cases hd : d.col ≠ col ∨ d.op = wEq
    · rw [if_pos hd]; exact ⟨h1, h2⟩
    · rw [if_neg hd]
      by_cases hd2 : d.op = wGt ∨ d.op = wGe
      · rw [if_pos hd2]
        refine ⟨rfl, ?_⟩
        by_cases hc : c.op = wGt ∨ c.op = wGe
        · rw [if_pos hc] at h2 ⊢
          exact le_trans _ _ _ h2 (maxW_le1 _ _)
        · rw [if_neg hc] at h2 ⊢
          exact h2
      · rw [if_neg hd2]
        refine ⟨rfl, ?_⟩
        by_cases hc : c.op = wGt ∨ c.op = wGe
        · rw [if_pos hc] at h2 ⊢
          exact h2
        · rw [if_neg hc] at h2 ⊢
          exact le_trans _ _ _ (minW_le1 _ _) h2
theorem step_same (p : Bd) (c : Cl) (h : holdsBd enc above col p c) : stepBd enc above col p c = p := by
  unfold stepBd
  rcases h with h | ⟨h1, h2⟩
  · rw [if_pos h]
  · by_cases hd : c.col ≠ col ∨ c.op = wEq
    · rw [if_pos hd]
    · rw [if_neg hd]
      by_cases hc : c.op = wGt ∨ c.op = wGe
      · rw [if_pos hc] at h2 ⊢
        have : maxW p.lo (enc c.v) = p.lo := by
          unfold maxW
          split
          · rename_i h3
            exact le_anti _ _ h2 h3
          · rfl
        rw [this, ← h1]
      · rw [if_neg hc] at h2 ⊢
        have : minW p.hi (above c.v) = p.hi := by
          unfold minW
          rw [if_pos h2]
        rw [this, ← h1]
theorem fold_keeps : ∀ (l : List Cl) (p : Bd) (c : Cl), holdsBd enc above col p c → holdsBd enc above col (l.foldl (stepBd enc above col) p) c
  | [], p, c, h => h
  | d :: l, p, c, h => by
    rw [List.foldl_cons]
    exact fold_keeps l _ c (step_keeps enc above col p c d h)
theorem fold_holds : ∀ (l : List Cl) (p : Bd), ∀ c ∈ l, holdsBd enc above col (l.foldl (stepBd enc above col) p) c
  | [], p, c, h => by cases h
  | d :: l, p, c, h => by
    rw [List.foldl_cons]
    rcases List.mem_cons.1 h with rfl | h
    · exact fold_keeps enc above col l _ _ (step_holds enc above col p _)
    · exact fold_holds l _ c h
theorem fold_same : ∀ (l : List Cl) (p : Bd), (∀ c ∈ l, holdsBd enc above col p c) → l.foldl (stepBd enc above col) p = p
  | [], p, _ => rfl
  | d :: l, p, h => by
    rw [List.foldl_cons, step_same enc above col p d (h d (List.mem_cons_self ..))]
    exact fold_same l p (fun c hc => h c (List.mem_cons_of_mem _ hc))
/-- bounds of what is said twice -/
theorem bounds_twice (l : List Cl) (p : Bd) : (l ++ l).foldl (stepBd enc above col) p = l.foldl (stepBd enc above col) p := by
  rw [List.foldl_append]
  exact fold_same enc above col l _ (fold_holds enc above col l p)
end
/-- the values that stand fast ahead -/
def fixedOf : List Nat → List Cl → List Lit
  | [], _ => []
  | c :: ks, l => match l.find? fun x => x.col == c && x.op == wEq with
    | none => []
    | some x => x.v :: fixedOf ks l
theorem find_twice (l : List Cl) (p : Cl → Bool) : (l ++ l).find? p = l.find? p := by
  rw [List.find?_append]
  cases l.find? p <;> rfl
theorem fixed_twice : ∀ (ks : List Nat) (l : List Cl), fixedOf ks (l ++ l) = fixedOf ks l
  | [], l => rfl
  | c :: ks, l => by
    unfold fixedOf
    rw [find_twice]
    cases l.find? _ with
    | none => rfl
    | some x => simp only [fixed_twice ks l]
end Go.Ab.Turn
