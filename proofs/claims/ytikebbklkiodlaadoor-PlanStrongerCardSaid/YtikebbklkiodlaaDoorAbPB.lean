/- PlanLocks: the run. -/
import Derived.Test.YtikebbklkiodlaaDoorAbPA
set_option linter.unusedSectionVars false
set_option linter.unusedSimpArgs false
set_option linter.unusedVariables false
set_option maxRecDepth 1000000
namespace Go.Ab.Plan
open Go Go.Ab Go.Proofs
/-- how the level stands to what is written: 1: below nothing, 2: above two -/
def lits (s t : Nat) (c : Int) : Option Ordering := match t with
  | 0 => match s with
    | 1 => if 0 ≤ c then some .lt else none
    | 2 => if c ≤ 2 then some .gt else none
    | _ => none
  | _ => none
def LitsOK (s : Nat) (n : Int) : Prop := (s = 1 → n < 0) ∧ (s = 2 → 2 < n)
/-- a level that is none of the first three, and texts, whatever they are -/
noncomputable abbrev mkM (n : Int) (l : List (List UInt8)) (s : Nat) (h : LitsOK s n) : Marks where
  int := fun t k => if t = 0 ∧ k = .i64 then some n else none
  str := fun t => l[t]?
  cmp := fun _ _ => none
  ok := fun _ _ _ _ _ _ _ _ h => by cases h
  lit := lits s
  litOk := by
    intro i k m c o h1 h2
    have h1 : (if i = 0 ∧ k = .i64 then some n else none) = some m := h1
    have hn : m = n := by
      by_cases hk : i = 0 ∧ k = .i64
      · rw [if_pos hk] at h1; exact (Option.some.inj h1).symm
      · rw [if_neg hk] at h1; cases h1
    subst hn
    unfold lits at h2
    split at h2
    · split at h2
      · split at h2
        · obtain rfl := Option.some.inj h2
          have := h.1 rfl
          exact (Int.compare_eq_lt.2 (by omega)).symm
        · cases h2
      · split at h2
        · obtain rfl := Option.some.inj h2
          have := h.2 rfl
          exact (Int.compare_eq_gt.2 (by omega)).symm
        · cases h2
      · cases h2
    · cases h2
  rnd := RoundIs Tryd.prog G
theorem mkM_ok (n : Int) (l : List (List UInt8)) (s : Nat) (h : LitsOK s n) : @RoundsOf (mkM n l s h) Tryd.prog G := fun _ _ _ _ _ => Iff.rfl
section
variable (n : Int) (l : List (List UInt8))
theorem locks_1 (h : LitsOK 1 n) (a b c : Bool) : isT ((@cAt (mkM n l 1 h) TP 400 40).1 3 [.p (.agg [.isym 0 .i64, .ssym 0, .bool a, .ssym 1, .ssym 2, .bool b, .bool c])] []) = true := by
  cases a <;> cases b <;> cases c <;> kernel_rfl
theorem locks_2 (h : LitsOK 2 n) (a b c : Bool) : isT ((@cAt (mkM n l 2 h) TP 400 40).1 3 [.p (.agg [.isym 0 .i64, .ssym 0, .bool a, .ssym 1, .ssym 2, .bool b, .bool c])] []) = true := by
  cases a <;> cases b <;> cases c <;> kernel_rfl
theorem locks_c0 (h : LitsOK 0 n) (a b c : Bool) : isT ((@cAt (mkM n l 0 h) TP 400 40).1 3 [.p (.agg [.int .i64 0, .ssym 0, .bool a, .ssym 1, .ssym 2, .bool b, .bool c])] []) = true := by
  cases a <;> cases b <;> cases c <;> kernel_rfl
theorem locks_c1 (h : LitsOK 0 n) (a b c : Bool) : isT ((@cAt (mkM n l 0 h) TP 400 40).1 3 [.p (.agg [.int .i64 1, .ssym 0, .bool a, .ssym 1, .ssym 2, .bool b, .bool c])] []) = true := by
  cases a <;> cases b <;> cases c <;> kernel_rfl
theorem locks_c2 (h : LitsOK 0 n) (a b c : Bool) : isT ((@cAt (mkM n l 0 h) TP 400 40).1 3 [.p (.agg [.int .i64 2, .ssym 0, .bool a, .ssym 1, .ssym 2, .bool b, .bool c])] []) = true := by
  cases a <;> cases b <;> cases c <;> kernel_rfl
end
end Go.Ab.Plan
