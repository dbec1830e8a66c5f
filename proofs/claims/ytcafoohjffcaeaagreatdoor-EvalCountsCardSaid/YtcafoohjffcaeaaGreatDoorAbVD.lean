/- EvalCounts: the plain law: the least, the greatest, the unlike (no program in sight). -/
import Derived.Test.YtcafoohjffcaeaaGreatDoorAbK1
set_option linter.unusedSectionVars false
set_option linter.unusedSimpArgs false
set_option linter.unusedVariables false
namespace Go.Ab.Key
theorem cmpL_trans : ∀ {a b c : List UInt8}, cmpL a b ≠ .gt → cmpL b c ≠ .gt → cmpL a c ≠ .gt
  | [], _, [], _, _ => by simp [cmpL]
  | [], _, _ :: _, _, _ => by simp [cmpL]
  | _ :: _, [], _, h, _ => by simp [cmpL] at h
  | _ :: _, _ :: _, [], _, h => by simp [cmpL] at h
  | x :: a, y :: b, z :: c, h, k => by
    rw [cmpL_cons] at h k ⊢
    by_cases h1 : x < y
    · by_cases h2 : y < z
      · simp [UInt8.lt_trans h1 h2]
      · by_cases h3 : z < y
        · simp [h2, h3] at k
        · have : y = z := UInt8.le_antisymm (UInt8.not_lt.1 h3) (UInt8.not_lt.1 h2)
          subst this
          simp [h1]
    · by_cases h2 : y < x
      · simp [h1, h2] at h
      · have : x = y := UInt8.le_antisymm (UInt8.not_lt.1 h2) (UInt8.not_lt.1 h1)
        subst this
        simp only [h1, if_false] at h
        by_cases h3 : x < z
        · simp [h3]
        · by_cases h4 : z < x
          · simp [h3, h4] at k
          · simp only [h3, h4, if_false] at k ⊢
            exact cmpL_trans h k
theorem cmpL_swap : ∀ a b : List UInt8, cmpL b a = (cmpL a b).swap
  | [], [] => rfl
  | [], _ :: _ => rfl
  | _ :: _, [] => rfl
  | x :: a, y :: b => by
    rw [cmpL_cons, cmpL_cons]
    by_cases h1 : x < y
    · have h2 : ¬ y < x := UInt8.lt_asymm h1
      simp [h1, h2]
    · by_cases h2 : y < x
      · simp [h1, h2]
      · simp [h1, h2, cmpL_swap a b]
theorem ordV_swap (a b : V) : ordV b a = (ordV a b).swap := by
  cases a with
  | null => cases b <;> rfl
  | num x => cases b with
    | num y => simp only [ordV]; exact (Int.compare_swap x y).symm
    | _ => rfl
  | text s => cases b with
    | text t => exact cmpL_swap _ _
    | _ => rfl
  | bool x => cases b with
    | bool y => cases x <;> cases y <;> rfl
    | _ => rfl
theorem ordV_trans {a b c : V} (h : ordV a b ≠ .gt) (k : ordV b c ≠ .gt) : ordV a c ≠ .gt := by
  cases a <;> cases b <;> cases c <;> first
    | exact cmpL_trans h k
    | (simp only [ordV, rank] at h k ⊢; first | exact absurd rfl h | exact absurd rfl k | exact h | exact k | decide)
    | (rename_i x y z; simp only [ordV, ne_eq, Int.compare_eq_gt, Int.not_lt] at h k ⊢; omega)
    | (rename_i x y z; revert h k; cases x <;> cases y <;> cases z <;> decide)
theorem ordV_self (v : V) : ordV v v = .eq := by
  have h := ordV_swap v v
  cases ho : ordV v v <;> rw [ho] at h <;> first | rfl | cases h
/-- the least of a list -/
def least (x : List V) (m : V) : V := x.foldl (fun m a => if ordV a m = .lt then a else m) m
theorem least_spec : ∀ (x : List V) (m : V), (least x m = m ∨ least x m ∈ x) ∧ ordV (least x m) m ≠ .gt ∧ ∀ a ∈ x, ordV (least x m) a ≠ .gt
  | [], m => ⟨.inl rfl, by simp [least, ordV_self], fun a h => by simp at h⟩
  | b :: x, m => by
    have hl : least (b :: x) m = least x (if ordV b m = .lt then b else m) := rfl
    rw [hl]
    by_cases h : ordV b m = .lt
    · rw [if_pos h]
      obtain ⟨h1, h2, h3⟩ := least_spec x b
      refine ⟨.inr ?_, ordV_trans h2 (by rw [h]; decide), fun a ha => ?_⟩
      · rcases h1 with h1 | h1
        · rw [h1]; exact List.mem_cons_self ..
        · exact List.mem_cons_of_mem _ h1
      · rcases List.mem_cons.1 ha with rfl | ha
        · exact h2
        · exact h3 a ha
    · rw [if_neg h]
      obtain ⟨h1, h2, h3⟩ := least_spec x m
      have hmb : ordV m b ≠ .gt := by
        rw [ordV_swap b m]
        cases ho : ordV b m <;> simp [Ordering.swap]
        exact h ho
      refine ⟨?_, h2, fun a ha => ?_⟩
      · rcases h1 with h1 | h1
        · exact .inl h1
        · exact .inr (List.mem_cons_of_mem _ h1)
      · rcases List.mem_cons.1 ha with rfl | ha
        · exact ordV_trans h2 hmb
        · exact h3 a ha
end Go.Ab.Key
