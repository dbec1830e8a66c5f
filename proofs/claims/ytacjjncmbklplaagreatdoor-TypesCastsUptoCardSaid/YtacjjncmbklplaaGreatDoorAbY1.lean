/- TypesCasts: the plain law: the number of a word, as the document reads it (below nought, step by step) and as it is (no program in sight). -/
import Derived.Lib.ParseIntB
set_option linter.unusedSectionVars false
set_option linter.unusedSimpArgs false
set_option linter.unusedVariables false
namespace Go.Ab.Cast
/-- a row of figures behind a number -/
def val (ds : List Nat) (a : Nat) : Nat := ds.foldl (fun a d => a * 10 + d) a
theorem val_cons (d : Nat) (r : List Nat) (a : Nat) : val (d :: r) a = val r (a * 10 + d) := rfl
theorem val_le : ∀ (ds : List Nat) (a : Nat), a ≤ val ds a
  | [], a => Nat.le_refl _
  | d :: r, a => by
    rw [val_cons]
    have := val_le r (a * 10 + d)
    omega
/-- as the document reads it: each step may leave the numbers that are -/
def docF : List Nat → Int → Option Int
  | [], n => some n
  | d :: r, n => if n * 10 < -9223372036854775808 then none else if n * 10 - (d : Int) < -9223372036854775808 then none else docF r (n * 10 - (d : Int))
theorem docF_spec : ∀ (ds : List Nat) (a : Nat), a ≤ 9223372036854775808 → docF ds (-(a : Int)) = if val ds a ≤ 9223372036854775808 then some (-(val ds a : Int)) else none
  | [], a, h => by
    have e : val [] a = a := rfl
    rw [e, if_pos h]
    rfl
  | d :: r, a, h => by
    have hle := val_le r (a * 10 + d)
    rw [val_cons]
    unfold docF
    by_cases h1 : -(a : Int) * 10 < -9223372036854775808
    · rw [if_pos h1, if_neg (by omega)]
    · rw [if_neg h1]
      by_cases h2 : -(a : Int) * 10 - (d : Int) < -9223372036854775808
      · rw [if_pos h2, if_neg (by omega)]
      · rw [if_neg h2]
        have e : -(a : Int) * 10 - (d : Int) = -((a * 10 + d : Nat) : Int) := by omega
        rw [e]
        exact docF_spec r (a * 10 + d) (by omega)
/-- the document's number of a word: its figures, and whether a minus stands ahead -/
def docN (minus : Bool) (ds : List Nat) : Option Int := match docF ds 0 with
  | none => none
  | some n => if minus = true then some n else if n = -9223372036854775808 then none else some (-n)
/-- the number itself, where it has room -/
def numN (minus : Bool) (ds : List Nat) : Option Int :=
  if minus = true then (if val ds 0 ≤ 9223372036854775808 then some (-(val ds 0 : Int)) else none)
  else (if val ds 0 < 9223372036854775808 then some (val ds 0 : Int) else none)
theorem docN_eq (minus : Bool) (ds : List Nat) : docN minus ds = numN minus ds := by
  have h := docF_spec ds 0 (by omega)
  have h0 : -((0 : Nat) : Int) = 0 := by omega
  rw [h0] at h
  unfold docN numN
  rw [h]
  generalize val ds 0 = v at *
  by_cases hv : v ≤ 9223372036854775808
  · simp only [if_pos hv]
    cases minus with
    | true => rfl
    | false =>
      by_cases h1 : v < 9223372036854775808
      · rw [if_neg (by decide), if_neg (by omega), if_neg (by decide), if_pos h1]
        congr 1
        omega
      · rw [if_neg (by decide), if_pos (by omega), if_neg (by decide), if_neg h1]
  · simp only [if_neg hv]
    cases minus with
    | true => rfl
    | false => rw [if_neg (by decide), if_neg (by omega)]
/-- the figures of a number, from below (as the document writes them) -/
def figs : Nat → Nat → List Nat
  | 0, _ => []
  | f + 1, n => (if n / 10 = 0 then [] else figs f (n / 10)) ++ [n % 10]
theorem val_app (a b : List Nat) (k : Nat) : val (a ++ b) k = val b (val a k) := by simp [val, List.foldl_append]
theorem figs_val : ∀ (f n : Nat), n < 10 ^ f → val (figs f n) 0 = n
  | 0, n, h => by
    have : n = 0 := by simpa using h
    subst this
    rfl
  | f + 1, n, h => by
    unfold figs
    rw [val_app]
    have h10 : n / 10 < 10 ^ f := by
      rw [Nat.pow_succ] at h
      omega
    by_cases hz : n / 10 = 0
    · rw [if_pos hz]
      simp [val]
      omega
    · rw [if_neg hz, figs_val f (n / 10) h10]
      simp [val]
      omega
end Go.Ab.Cast

/- TypesCasts: the plain law: what strconv.ParseInt makes of a word of figures is what the document reads. -/
namespace Go.Ab.Cast
open Go.Lib
/-- a figure's number -/
def dig (c : UInt8) : Nat := c.toNat - 48
def figure (c : UInt8) : Prop := 48 ≤ c.toNat ∧ c.toNat ≤ 57
theorem parseUintM_figures : ∀ (r : List UInt8) (acc : Nat), (∀ c ∈ r, figure c) → acc ≤ 18446744073709551615 →
    parseUintM 18446744073709551615 acc r = if val (r.map dig) acc ≤ 18446744073709551615 then .ok (val (r.map dig) acc) else .range
  | [], acc, _, h => by
    have e : val (([] : List UInt8).map dig) acc = acc := rfl
    rw [e, if_pos h]
    rfl
  | c :: r, acc, hd, h => by
    have hc := hd c (List.mem_cons_self ..)
    have hr := fun c hc => hd c (List.mem_cons_of_mem _ hc)
    have hle := val_le (r.map dig) (acc * 10 + dig c)
    have e : val ((c :: r).map dig) acc = val (r.map dig) (acc * 10 + dig c) := rfl
    rw [e]
    unfold parseUintM
    have hc1 : 48 ≤ c.toNat ∧ c.toNat ≤ 57 := hc
    rw [if_pos hc1]
    by_cases h1 : 1844674407370955162 ≤ acc
    · rw [if_pos h1, if_neg (by omega)]
    · rw [if_neg h1]
      by_cases h2 : 18446744073709551615 < acc * 10 + (c.toNat - 48)
      · rw [if_pos h2, if_neg (by unfold dig at *; omega)]
      · rw [if_neg h2]
        exact parseUintM_figures r (acc * 10 + (c.toNat - 48)) hr (by omega)
/-- of a word's figures, with or without a sign -/
theorem parse_figures (minus : Bool) (r : List UInt8) (hr : r ≠ []) (hd : ∀ c ∈ r, figure c) (w : List UInt8)
    (hw : (minus = true ∧ w = 45 :: r) ∨ (minus = false ∧ (w = 43 :: r ∨ w = r))) :
    parseIntB 64 w = match numN minus (r.map dig) with
      | some v => .ok v
      | none => .range := by
  have hM : (2 : Nat) ^ 64 - 1 = 18446744073709551615 := by decide
  have h63 : (2 : Nat) ^ (64 - 1) = 9223372036854775808 := by decide
  have hu : parseUintB 64 r = if val (r.map dig) 0 ≤ 18446744073709551615 then .ok (val (r.map dig) 0) else .range := by
    unfold parseUintB
    rw [if_neg hr, hM]
    exact parseUintM_figures r 0 hd (by omega)
  unfold numN
  generalize val (r.map dig) 0 = v at *
  have key : ∀ neg : Prop, ∀ _ : Decidable neg, (match parseUintB 64 r with
      | .syntax => NumEnd.syntax
      | .range => .range
      | .ok u => if ¬ neg ∧ 2 ^ (64 - 1) ≤ u then .range else if neg ∧ 2 ^ (64 - 1) < u then .range else .ok (if neg then -(u : Int) else u)) =
      if neg then (if v ≤ 9223372036854775808 then NumEnd.ok (-(v : Int)) else .range) else (if v < 9223372036854775808 then .ok (v : Int) else .range) := by
    intro neg _
    rw [hu]
    by_cases hv : v ≤ 18446744073709551615
    · rw [if_pos hv]
      simp only [h63]
      by_cases hn : neg
      · simp only [hn, not_true, false_and, if_false, true_and, if_true]
        by_cases h1 : v ≤ 9223372036854775808
        · rw [if_neg (by omega), if_pos h1]
        · rw [if_pos (by omega), if_neg h1]
      · simp only [hn, not_false_eq_true, true_and, false_and, if_false]
        by_cases h1 : v < 9223372036854775808
        · rw [if_neg (by omega), if_pos h1]
        · rw [if_pos (by omega), if_neg h1]
    · rw [if_neg hv]
      by_cases hn : neg
      · simp only [hn, if_true]
        rw [if_neg (by omega)]
      · simp only [hn, if_false]
        rw [if_neg (by omega)]
  rcases hw with ⟨rfl, rfl⟩ | ⟨rfl, rfl | rfl⟩
  · have h := key ((45 : UInt8).toNat = 45) inferInstance
    unfold parseIntB
    simp only [if_true]
    simp only [show ((45 : UInt8).toNat = 43 ∨ (45 : UInt8).toNat = 45) = True from by simp, if_true]
    refine Eq.trans h ?_
    simp only [show ((45 : UInt8).toNat = 45) = True from by simp, if_true]
    by_cases h1 : v ≤ 9223372036854775808
    · rw [if_pos h1, if_pos h1]
    · rw [if_neg h1, if_neg h1]
  · have h := key ((43 : UInt8).toNat = 45) inferInstance
    unfold parseIntB
    simp only [show ((43 : UInt8).toNat = 43 ∨ (43 : UInt8).toNat = 45) = True from by simp, if_true]
    refine Eq.trans h ?_
    simp only [show ((43 : UInt8).toNat = 45) = False from by simp, if_false, Bool.false_eq_true]
    by_cases h1 : v < 9223372036854775808
    · rw [if_pos h1, if_pos h1]
    · rw [if_neg h1, if_neg h1]
  · cases w with
    | nil => exact absurd rfl hr
    | cons c t =>
      have hc := hd c (List.mem_cons_self ..)
      have n1 : ¬ (c.toNat = 43 ∨ c.toNat = 45) := by unfold figure at hc; omega
      have n2 : ¬ c.toNat = 45 := by unfold figure at hc; omega
      have h := key (c.toNat = 45) inferInstance
      unfold parseIntB
      simp only [if_neg n1]
      refine Eq.trans h ?_
      simp only [if_neg n2, Bool.false_eq_true, if_false]
      by_cases h1 : v < 9223372036854775808
      · rw [if_pos h1, if_pos h1]
      · rw [if_neg h1, if_neg h1]
end Go.Ab.Cast
