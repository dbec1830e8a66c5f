/- The law TypesNames: types that may not be. -/
import Derived.Test.YtacjjncmbklplaaGreatDoorAbN2
set_option maxRecDepth 1000000
namespace Go.Ab.Names
open Go Go.Ab
/-- a type may not be -/
def wrong (b s : Int) : Prop := b < 1 ∨ 6 < b ∨ ((b = 1 ∨ b = 2 ∨ b = 3 ∨ b = 6) ∧ s ≠ 0) ∨ ((b = 4 ∨ b = 5) ∧ (s < 1 ∨ 100 < s))
theorem right8 (b s : Int) (h : wrong b s) (m : Nat) (σ : Heap) : (cAt T 100 (m + 1)).1 8 [.p (ty b s)] σ = some (.ret (.p (.bool false)), σ) := by
  refine call_ans (ps := [ty b s]) (n := m) (af := lit8) (fz := true) rfl (by kernel_rfl) ?_ σ
  generalize (cAt T 100 m).1 = C
  generalize (cAt T 100 m).2 = D
  unfold ty
  rcases h with h | h | ⟨rfl | rfl | rfl | rfl, h⟩ | ⟨rfl | rfl, h | h⟩
  · simp [runFunc, lit8, params, exec, runOps, wantedA, stepOp, pureOp, allocOp, readOp, ev, Env.get_cons, putE, binA, intBin, AV.fit, AV.toCells, partC, partP, Cells.len, h]
    show _ = _
    kernel_rfl
  · have h1 : ¬ b < 1 := by omega
    simp [runFunc, lit8, params, exec, runOps, wantedA, stepOp, pureOp, allocOp, readOp, ev, Env.get_cons, putE, binA, intBin, AV.fit, AV.toCells, partC, partP, Cells.len, h, h1]
    show _ = _
    kernel_rfl
  · have hs : (s == 0) = false := by simp [h]
    simp [runFunc, lit8, params, exec, runOps, wantedA, stepOp, pureOp, allocOp, readOp, ev, Env.get_cons, putE, binA, intBin, AV.fit, AV.toCells, partC, partP, Cells.len, idxArrA, hs, -beq_eq_false_iff_ne]
    try rw [hs]
    show _ = _
    kernel_rfl
  · have hs : (s == 0) = false := by simp [h]
    simp [runFunc, lit8, params, exec, runOps, wantedA, stepOp, pureOp, allocOp, readOp, ev, Env.get_cons, putE, binA, intBin, AV.fit, AV.toCells, partC, partP, Cells.len, idxArrA, hs, -beq_eq_false_iff_ne]
    try rw [hs]
    show _ = _
    kernel_rfl
  · have hs : (s == 0) = false := by simp [h]
    simp [runFunc, lit8, params, exec, runOps, wantedA, stepOp, pureOp, allocOp, readOp, ev, Env.get_cons, putE, binA, intBin, AV.fit, AV.toCells, partC, partP, Cells.len, idxArrA, hs, -beq_eq_false_iff_ne]
    try rw [hs]
    show _ = _
    kernel_rfl
  · have hs : (s == 0) = false := by simp [h]
    simp [runFunc, lit8, params, exec, runOps, wantedA, stepOp, pureOp, allocOp, readOp, ev, Env.get_cons, putE, binA, intBin, AV.fit, AV.toCells, partC, partP, Cells.len, idxArrA, hs, -beq_eq_false_iff_ne]
    try rw [hs]
    show _ = _
    kernel_rfl
  · have h1 : ¬ 1 ≤ s := by omega
    simp [runFunc, lit8, params, exec, runOps, wantedA, stepOp, pureOp, allocOp, readOp, ev, Env.get_cons, putE, binA, intBin, AV.fit, AV.toCells, partC, partP, Cells.len, idxArrA, h1]
    show _ = _
    kernel_rfl
  · have h1 : 1 ≤ s := by omega
    have h2 : ¬ s ≤ 100 := by omega
    simp [runFunc, lit8, params, exec, runOps, wantedA, stepOp, pureOp, allocOp, readOp, ev, Env.get_cons, putE, binA, intBin, AV.fit, AV.toCells, partC, partP, Cells.len, idxArrA, h1, h2]
    show _ = _
    kernel_rfl
  · have h1 : ¬ 1 ≤ s := by omega
    simp [runFunc, lit8, params, exec, runOps, wantedA, stepOp, pureOp, allocOp, readOp, ev, Env.get_cons, putE, binA, intBin, AV.fit, AV.toCells, partC, partP, Cells.len, idxArrA, h1]
    show _ = _
    kernel_rfl
  · have h1 : 1 ≤ s := by omega
    have h2 : ¬ s ≤ 100 := by omega
    simp [runFunc, lit8, params, exec, runOps, wantedA, stepOp, pureOp, allocOp, readOp, ev, Env.get_cons, putE, binA, intBin, AV.fit, AV.toCells, partC, partP, Cells.len, idxArrA, h1, h2]
    show _ = _
    kernel_rfl

theorem right9 (b s : Int) (h : wrong b s) (m : Nat) (σ : Heap) : (cAt T 100 (m + 1)).1 9 [.p (ty b s)] σ = some (.ret (.p (.bool false)), σ) := by
  refine call_ans (ps := [ty b s]) (n := m) (af := lit9) (fz := true) rfl (by kernel_rfl) ?_ σ
  generalize (cAt T 100 m).1 = C
  generalize (cAt T 100 m).2 = D
  unfold ty
  rcases h with h | h | ⟨rfl | rfl | rfl | rfl, h⟩ | ⟨rfl | rfl, h | h⟩
  · have n1 : (b == 1) = false := by simp; omega
    have n2 : (b == 2) = false := by simp; omega
    have n3 : (b == 3) = false := by simp; omega
    have n4 : (b == 4) = false := by simp; omega
    have n5 : (b == 5) = false := by simp; omega
    have n6 : (b == 6) = false := by simp; omega
    simp [runFunc, lit9, params, exec, runOps, wantedA, stepOp, pureOp, allocOp, readOp, ev, Env.get_cons, putE, binA, intBin, AV.fit, AV.toCells, partC, partP, Cells.len, n1, n2, n3, n4, n5, n6, -beq_eq_false_iff_ne]
    show _ = _
    kernel_rfl
  · have n1 : (b == 1) = false := by simp; omega
    have n2 : (b == 2) = false := by simp; omega
    have n3 : (b == 3) = false := by simp; omega
    have n4 : (b == 4) = false := by simp; omega
    have n5 : (b == 5) = false := by simp; omega
    have n6 : (b == 6) = false := by simp; omega
    simp [runFunc, lit9, params, exec, runOps, wantedA, stepOp, pureOp, allocOp, readOp, ev, Env.get_cons, putE, binA, intBin, AV.fit, AV.toCells, partC, partP, Cells.len, n1, n2, n3, n4, n5, n6, -beq_eq_false_iff_ne]
    show _ = _
    kernel_rfl
  · have hs : (s == 0) = false := by simp [h]
    simp [runFunc, lit9, params, exec, runOps, wantedA, stepOp, pureOp, allocOp, readOp, ev, Env.get_cons, putE, binA, intBin, AV.fit, AV.toCells, partC, partP, Cells.len, hs, -beq_eq_false_iff_ne]
    try rw [hs]
    show _ = _
    kernel_rfl
  · have hs : (s == 0) = false := by simp [h]
    simp [runFunc, lit9, params, exec, runOps, wantedA, stepOp, pureOp, allocOp, readOp, ev, Env.get_cons, putE, binA, intBin, AV.fit, AV.toCells, partC, partP, Cells.len, hs, -beq_eq_false_iff_ne]
    try rw [hs]
    show _ = _
    kernel_rfl
  · have hs : (s == 0) = false := by simp [h]
    simp [runFunc, lit9, params, exec, runOps, wantedA, stepOp, pureOp, allocOp, readOp, ev, Env.get_cons, putE, binA, intBin, AV.fit, AV.toCells, partC, partP, Cells.len, hs, -beq_eq_false_iff_ne]
    try rw [hs]
    show _ = _
    kernel_rfl
  · have hs : (s == 0) = false := by simp [h]
    simp [runFunc, lit9, params, exec, runOps, wantedA, stepOp, pureOp, allocOp, readOp, ev, Env.get_cons, putE, binA, intBin, AV.fit, AV.toCells, partC, partP, Cells.len, hs, -beq_eq_false_iff_ne]
    try rw [hs]
    show _ = _
    kernel_rfl
  · have h1 : ¬ 1 ≤ s := by omega
    simp [runFunc, lit9, params, exec, runOps, wantedA, stepOp, pureOp, allocOp, readOp, ev, Env.get_cons, putE, binA, intBin, AV.fit, AV.toCells, partC, partP, Cells.len, h1]
    show _ = _
    kernel_rfl
  · have h1 : 1 ≤ s := by omega
    have h2 : ¬ s ≤ 100 := by omega
    simp [runFunc, lit9, params, exec, runOps, wantedA, stepOp, pureOp, allocOp, readOp, ev, Env.get_cons, putE, binA, intBin, AV.fit, AV.toCells, partC, partP, Cells.len, h1, h2]
    show _ = _
    kernel_rfl
  · have h1 : ¬ 1 ≤ s := by omega
    simp [runFunc, lit9, params, exec, runOps, wantedA, stepOp, pureOp, allocOp, readOp, ev, Env.get_cons, putE, binA, intBin, AV.fit, AV.toCells, partC, partP, Cells.len, h1]
    show _ = _
    kernel_rfl
  · have h1 : 1 ≤ s := by omega
    have h2 : ¬ s ≤ 100 := by omega
    simp [runFunc, lit9, params, exec, runOps, wantedA, stepOp, pureOp, allocOp, readOp, ev, Env.get_cons, putE, binA, intBin, AV.fit, AV.toCells, partC, partP, Cells.len, h1, h2]
    show _ = _
    kernel_rfl

end Go.Ab.Names
