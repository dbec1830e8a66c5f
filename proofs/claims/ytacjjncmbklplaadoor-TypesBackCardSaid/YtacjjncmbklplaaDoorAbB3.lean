/- The laws on columns' values: kinds of types, ranges. -/
import Derived.Test.YtacjjncmbklplaaDoorAbB2
set_option maxRecDepth 1000000
namespace Go.Ab.Back
open Go Go.Ab
/-- the kind that a type has -/
def kindZ (b s : Int) : Int :=
  if (b = 1 ∨ b = 2 ∨ b = 3) ∧ s = 0 then 1 else if (b = 4 ∨ b = 5) ∧ 1 ≤ s ∧ s ≤ 100 then 2 else if b = 6 ∧ s = 0 then 3 else 0
theorem kind_cases (b s : Int) : (wrong b s ∧ kindZ b s = 0) ∨ ((b = 1 ∨ b = 2 ∨ b = 3) ∧ s = 0 ∧ kindZ b s = 1) ∨ ((b = 4 ∨ b = 5) ∧ 1 ≤ s ∧ s ≤ 100 ∧ kindZ b s = 2) ∨ (b = 6 ∧ s = 0 ∧ kindZ b s = 3) := by
  unfold kindZ wrong
  by_cases h1 : (b = 1 ∨ b = 2 ∨ b = 3) ∧ s = 0
  · rw [if_pos h1]; exact .inr (.inl ⟨h1.1, h1.2, rfl⟩)
  · rw [if_neg h1]
    by_cases h2 : (b = 4 ∨ b = 5) ∧ 1 ≤ s ∧ s ≤ 100
    · rw [if_pos h2]; exact .inr (.inr (.inl ⟨h2.1, h2.2.1, h2.2.2, rfl⟩))
    · rw [if_neg h2]
      by_cases h3 : b = 6 ∧ s = 0
      · rw [if_pos h3]; exact .inr (.inr (.inr ⟨h3.1, h3.2, rfl⟩))
      · rw [if_neg h3]; exact .inl ⟨by omega, rfl⟩

theorem wrong8 (b s : Int) (h : wrong b s) (L m : Nat) (σ : Heap) : (cAt TB L (m + 1)).1 21 [.p (ty b s)] σ = some (.ret (.p (.bool false)), σ) := by
  refine call_ans (ps := [ty b s]) (n := m) (af := lit8) (fz := true) rfl (by kernel_rfl) ?_ σ
  generalize (cAt TB L m).1 = C
  generalize (cAt TB L m).2 = D
  unfold ty
  rcases h with h | h | ⟨rfl | rfl | rfl | rfl, h⟩ | ⟨rfl | rfl, h | h⟩
  · simp [runFunc, lit8, params, exec, runOps, wantedA, stepOp, pureOp, allocOp, readOp, ev, Env.get_cons, putE, binA, intBin, AV.fit, AV.toCells, partC, partP, Cells.len, h]
    show _ = _
    kernel_rfl
  · have h1 : ¬ b < 1 := by omega
    simp [runFunc, lit8, params, exec, runOps, wantedA, stepOp, pureOp, allocOp, readOp, ev, Env.get_cons, putE, binA, intBin, AV.fit, AV.toCells, partC, partP, Cells.len, h, h1]
    show _ = _
    kernel_rfl
  · have hs : (s == 0) = false := by simp [h]
    simp [runFunc, lit8, params, exec, runOps, wantedA, stepOp, pureOp, allocOp, readOp, ev, Env.get_cons, putE, binA, intBin, AV.fit, AV.toCells, partC, partP, Cells.len, idxArrA, hs, -beq_eq_false_iff_ne]
    try rw [hs]
    show _ = _
    kernel_rfl
  · have hs : (s == 0) = false := by simp [h]
    simp [runFunc, lit8, params, exec, runOps, wantedA, stepOp, pureOp, allocOp, readOp, ev, Env.get_cons, putE, binA, intBin, AV.fit, AV.toCells, partC, partP, Cells.len, idxArrA, hs, -beq_eq_false_iff_ne]
    try rw [hs]
    show _ = _
    kernel_rfl
  · have hs : (s == 0) = false := by simp [h]
    simp [runFunc, lit8, params, exec, runOps, wantedA, stepOp, pureOp, allocOp, readOp, ev, Env.get_cons, putE, binA, intBin, AV.fit, AV.toCells, partC, partP, Cells.len, idxArrA, hs, -beq_eq_false_iff_ne]
    try rw [hs]
    show _ = _
    kernel_rfl
  · have hs : (s == 0) = false := by simp [h]
    simp [runFunc, lit8, params, exec, runOps, wantedA, stepOp, pureOp, allocOp, readOp, ev, Env.get_cons, putE, binA, intBin, AV.fit, AV.toCells, partC, partP, Cells.len, idxArrA, hs, -beq_eq_false_iff_ne]
    try rw [hs]
    show _ = _
    kernel_rfl
  · have h1 : ¬ 1 ≤ s := by omega
    simp [runFunc, lit8, params, exec, runOps, wantedA, stepOp, pureOp, allocOp, readOp, ev, Env.get_cons, putE, binA, intBin, AV.fit, AV.toCells, partC, partP, Cells.len, idxArrA, h1]
    show _ = _
    kernel_rfl
  · have h1 : 1 ≤ s := by omega
    have h2 : ¬ s ≤ 100 := by omega
    simp [runFunc, lit8, params, exec, runOps, wantedA, stepOp, pureOp, allocOp, readOp, ev, Env.get_cons, putE, binA, intBin, AV.fit, AV.toCells, partC, partP, Cells.len, idxArrA, h1, h2]
    show _ = _
    kernel_rfl
  · have h1 : ¬ 1 ≤ s := by omega
    simp [runFunc, lit8, params, exec, runOps, wantedA, stepOp, pureOp, allocOp, readOp, ev, Env.get_cons, putE, binA, intBin, AV.fit, AV.toCells, partC, partP, Cells.len, idxArrA, h1]
    show _ = _
    kernel_rfl
  · have h1 : 1 ≤ s := by omega
    have h2 : ¬ s ≤ 100 := by omega
    simp [runFunc, lit8, params, exec, runOps, wantedA, stepOp, pureOp, allocOp, readOp, ev, Env.get_cons, putE, binA, intBin, AV.fit, AV.toCells, partC, partP, Cells.len, idxArrA, h1, h2]
    show _ = _
    kernel_rfl

theorem right8 (b s : Int) (h : (b = 1 ∧ s = 0) ∨ (b = 2 ∧ s = 0) ∨ (b = 3 ∧ s = 0) ∨ (b = 6 ∧ s = 0) ∨ (b = 4 ∧ 1 ≤ s ∧ s ≤ 100) ∨ (b = 5 ∧ 1 ≤ s ∧ s ≤ 100)) (L m : Nat) (σ : Heap) : (cAt TB L (m + 1)).1 21 [.p (ty b s)] σ = some (.ret (.p (.bool true)), σ) := by
  refine call_ans (ps := [ty b s]) (n := m) (af := lit8) (fz := true) rfl (by kernel_rfl) ?_ σ
  generalize (cAt TB L m).1 = C
  generalize (cAt TB L m).2 = D
  unfold ty
  rcases h with ⟨rfl, rfl⟩ | ⟨rfl, rfl⟩ | ⟨rfl, rfl⟩ | ⟨rfl, rfl⟩ | ⟨rfl, h1, h2⟩ | ⟨rfl, h1, h2⟩
  · kernel_rfl
  · kernel_rfl
  · kernel_rfl
  · kernel_rfl
  · simp [runFunc, lit8, params, exec, runOps, wantedA, stepOp, pureOp, allocOp, readOp, ev, Env.get_cons, putE, binA, intBin, AV.fit, AV.toCells, partC, partP, Cells.len, idxArrA, h1, h2]
    show _ = _
    kernel_rfl
  · simp [runFunc, lit8, params, exec, runOps, wantedA, stepOp, pureOp, allocOp, readOp, ev, Env.get_cons, putE, binA, intBin, AV.fit, AV.toCells, partC, partP, Cells.len, idxArrA, h1, h2]
    show _ = _
    kernel_rfl
theorem kind12 (b s : Int) (L m : Nat) (σ : Heap) : (cAt TB L (m + 2)).1 11 [.p (ty b s)] σ = some (.ret (.p (.int .i64 (kindZ b s))), σ) := by
  refine call_ans (ps := [ty b s]) (n := m + 1) (af := lit12) (fz := true) rfl (by kernel_rfl) ?_ σ
  have hw := wrong8 b s
  have hr := right8 b s
  have hw := fun h => hw h L m
  have hr := fun h => hr h L m
  generalize (cAt TB L (m + 1)).1 = C at hw hr ⊢
  generalize (cAt TB L (m + 1)).2 = D
  unfold ty at hw hr ⊢
  rcases kind_cases b s with ⟨h, k⟩ | ⟨rfl | rfl | rfl, rfl, k⟩ | ⟨rfl | rfl, h1, h2, k⟩ | ⟨rfl, rfl, k⟩ <;> rw [k]
  · have hw := hw h
    simp [runFunc, lit12, params, exec, runOps, wantedA, stepOp, pureOp, allocOp, readOp, ev, evs, Env.get_cons, putE, unA, AV.fit, AV.toCells, partC, partP, Cells.len, target, hw]
    show _ = _
    kernel_rfl
  all_goals
    have hr := hr (by omega)
    simp [runFunc, lit12, params, exec, runOps, wantedA, stepOp, pureOp, allocOp, readOp, effOp, ev, evs, Env.get_cons, putE, unA, AV.fit, AV.toCells, partC, partP, Cells.len, target, hr]
    show _ = _
    kernel_rfl
end Go.Ab.Back
