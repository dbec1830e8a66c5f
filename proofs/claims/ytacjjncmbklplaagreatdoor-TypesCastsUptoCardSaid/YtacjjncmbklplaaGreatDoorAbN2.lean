/- The law TypesNames, where its parts agree. -/
import Derived.Test.YtacjjncmbklplaaGreatDoorAbN1
set_option linter.unusedSectionVars false
set_option linter.unusedSimpArgs false
set_option linter.unusedVariables false
set_option maxRecDepth 1000000
namespace Go.Ab.Names
open Go Go.Ab
theorem law3 (C : Oracle) (D : DOracle) (b s : Int) (r : Bool) (l : List UInt8) (k : Int)
    (h7 : ∀ σ, C 7 [] σ = some (.ret (.p (.bool true)), σ))
    (h8 : ∀ σ, C 8 [.p (.agg [.int .i64 b, .int .i64 s])] σ = some (.ret (.p (.bool r)), σ)) (h9 : ∀ σ, C 9 [.p (.agg [.int .i64 b, .int .i64 s])] σ = some (.ret (.p (.bool r)), σ))
    (h10 : ∀ σ, C 10 [.p (.agg [.int .i64 b, .int .i64 s])] σ = some (.ret (.p (.str l)), σ)) (h11 : ∀ σ, C 11 [.p (.agg [.int .i64 b, .int .i64 s])] σ = some (.ret (.p (.str l)), σ))
    (h12 : ∀ σ, C 12 [.p (.agg [.int .i64 b, .int .i64 s])] σ = some (.ret (.p (.int .i64 k)), σ)) (h13 : ∀ σ, C 13 [.p (.agg [.int .i64 b, .int .i64 s])] σ = some (.ret (.p (.int .i64 k)), σ)) :
    ansV (runFunc C D 100 lit3 [.p (.int .i64 b), .p (.int .i64 s)] []) = some (.bool true) := by
  simp only [runFunc, lit3]
  rw [seqN (a := .region _) (by simp [params, exec, runOps, wantedA, stepOp, pureOp, ev, putE]; rfl)]
  rw [seqN (a := .region _) (by simp [exec, runOps, wantedA, stepOp, pureOp, allocOp, readOp, effOp, ev, Env.get_cons, putE, AV.fit, AV.toCells, mkCells, allP, mkAgg, Cells.len, evParts, fillA, splice, spliceC, AV.cells]; rfl)]
  rw [seqN (a := .draw _ _ _) (by
    unfold exec drawExec
    rw [drawE (by simp [wantedA]) rfl (by simp [keepE, readsOf, opds, tmpsOf, runOps, wantedA, ev, evs, target, putE, h7]; rfl)]
    simp only [carry, Env.get_cons, reduceIte, Nat.reduceAdd]
    rw [drawS (v := .p (.bool true)) (by simp [wantedA]) rfl (by simp [keepE, readsOf, opds, tmpsOf, stillOp, pureOp, ev, Env.get_cons])]
    simp only [putE, Nat.reduceAdd]
    rw [drawR (v := .p (.agg [.int .i64 b, .int .i64 s])) (id := 0) (by simp [wantedA, keepE, readsOf, opds, tmpsOf, Env.get_cons]) rfl (by simp [keepE, readsOf, opds, tmpsOf, stillOp, pureOp, refOf, refV, ev, Env.get_cons, readOp, oneH, partC, partP])]
    simp only [putE, Nat.reduceAdd]
    rw [drawE (by simp [wantedA, keepE, readsOf, opds, tmpsOf, Env.get_cons]) rfl (by simp [keepE, readsOf, opds, tmpsOf, runOps, wantedA, ev, evs, target, Env.get_cons, putE, h8]; rfl)]
    simp only [carry, Env.get_cons, reduceIte, Nat.reduceEqDiff, Nat.reduceAdd]
    rw [drawR (v := .p (.agg [.int .i64 b, .int .i64 s])) (id := 0) (by simp [wantedA, keepE, readsOf, opds, tmpsOf, Env.get_cons]) rfl (by simp [keepE, readsOf, opds, tmpsOf, stillOp, pureOp, refOf, refV, ev, Env.get_cons, readOp, oneH, partC, partP])]
    simp only [putE, Nat.reduceAdd]
    rw [drawE (by simp [wantedA, keepE, readsOf, opds, tmpsOf, Env.get_cons]) rfl (by simp [keepE, readsOf, opds, tmpsOf, runOps, wantedA, ev, evs, target, Env.get_cons, putE, h9]; rfl)]
    simp only [carry, Env.get_cons, reduceIte, Nat.reduceEqDiff, Nat.reduceAdd]
    rw [drawS (v := .p (.bool true)) (by simp [wantedA, keepE, readsOf, opds, tmpsOf, Env.get_cons]) rfl (by simp [keepE, readsOf, opds, tmpsOf, stillOp, pureOp, ev, Env.get_cons, binA, eqP])]
    simp only [putE, Nat.reduceAdd]
    rw [drawS (v := .p (.bool true)) (by simp [wantedA]) rfl (by simp [keepE, readsOf, opds, tmpsOf, stillOp, pureOp, ev, Env.get_cons])]
    simp only [putE, Nat.reduceAdd]
    rw [drawS (v := .p (.bool true)) (by simp [wantedA]) rfl (by simp [keepE, readsOf, opds, tmpsOf, stillOp, pureOp, ev, Env.get_cons])]
    simp only [putE, Nat.reduceAdd]
    rw [drawR (v := .p (.agg [.int .i64 b, .int .i64 s])) (id := 0) (by simp [wantedA, keepE, readsOf, opds, tmpsOf, Env.get_cons]) rfl (by simp [keepE, readsOf, opds, tmpsOf, stillOp, pureOp, refOf, refV, ev, Env.get_cons, readOp, oneH, partC, partP])]
    simp only [putE, Nat.reduceAdd]
    rw [drawE (by simp [wantedA, keepE, readsOf, opds, tmpsOf, Env.get_cons]) rfl (by simp [keepE, readsOf, opds, tmpsOf, runOps, wantedA, ev, evs, target, Env.get_cons, putE, h10]; rfl)]
    simp only [carry, Env.get_cons, reduceIte, Nat.reduceEqDiff, Nat.reduceAdd]
    rw [drawR (v := .p (.agg [.int .i64 b, .int .i64 s])) (id := 0) (by simp [wantedA, keepE, readsOf, opds, tmpsOf, Env.get_cons]) rfl (by simp [keepE, readsOf, opds, tmpsOf, stillOp, pureOp, refOf, refV, ev, Env.get_cons, readOp, oneH, partC, partP])]
    simp only [putE, Nat.reduceAdd]
    rw [drawE (by simp [wantedA, keepE, readsOf, opds, tmpsOf, Env.get_cons]) rfl (by simp [keepE, readsOf, opds, tmpsOf, runOps, wantedA, ev, evs, target, Env.get_cons, putE, h11]; rfl)]
    simp only [carry, Env.get_cons, reduceIte, Nat.reduceEqDiff, Nat.reduceAdd]
    rw [drawS (v := .p (.bool true)) (by simp [wantedA, keepE, readsOf, opds, tmpsOf, Env.get_cons]) rfl (by simp [keepE, readsOf, opds, tmpsOf, stillOp, pureOp, ev, Env.get_cons, binA, strBin])]
    simp only [putE, Nat.reduceAdd]
    rw [drawS (v := .p (.bool true)) (by simp [wantedA]) rfl (by simp [keepE, readsOf, opds, tmpsOf, stillOp, pureOp, ev, Env.get_cons])]
    simp only [putE, Nat.reduceAdd]
    rw [drawS (v := .p (.bool true)) (by simp [wantedA]) rfl (by simp [keepE, readsOf, opds, tmpsOf, stillOp, pureOp, ev, Env.get_cons])]
    simp only [putE, Nat.reduceAdd]
    rw [drawR (v := .p (.agg [.int .i64 b, .int .i64 s])) (id := 0) (by simp [wantedA, keepE, readsOf, opds, tmpsOf, Env.get_cons]) rfl (by simp [keepE, readsOf, opds, tmpsOf, stillOp, pureOp, refOf, refV, ev, Env.get_cons, readOp, oneH, partC, partP])]
    simp only [putE, Nat.reduceAdd]
    rw [drawE (by simp [wantedA, keepE, readsOf, opds, tmpsOf, Env.get_cons]) rfl (by simp [keepE, readsOf, opds, tmpsOf, runOps, wantedA, ev, evs, target, Env.get_cons, putE, h12]; rfl)]
    simp only [carry, Env.get_cons, reduceIte, Nat.reduceEqDiff, Nat.reduceAdd]
    rw [drawR (v := .p (.agg [.int .i64 b, .int .i64 s])) (id := 0) (by simp [wantedA, keepE, readsOf, opds, tmpsOf, Env.get_cons]) rfl (by simp [keepE, readsOf, opds, tmpsOf, stillOp, pureOp, refOf, refV, ev, Env.get_cons, readOp, oneH, partC, partP])]
    simp only [putE, Nat.reduceAdd]
    rw [drawE (by simp [wantedA, keepE, readsOf, opds, tmpsOf, Env.get_cons]) rfl (by simp [keepE, readsOf, opds, tmpsOf, runOps, wantedA, ev, evs, target, Env.get_cons, putE, h13]; rfl)]
    simp only [carry, Env.get_cons, reduceIte, Nat.reduceEqDiff, Nat.reduceAdd]
    rw [drawS (v := .p (.bool true)) (by simp [wantedA, keepE, readsOf, opds, tmpsOf, Env.get_cons]) rfl (by simp [keepE, readsOf, opds, tmpsOf, stillOp, pureOp, ev, Env.get_cons, binA, intBin])]
    simp only [putE, Nat.reduceAdd]
    rw [drawS (v := .p (.bool true)) (by simp [wantedA]) rfl (by simp [keepE, readsOf, opds, tmpsOf, stillOp, pureOp, ev, Env.get_cons])]
    simp only [putE, Nat.reduceAdd]
    rw [drawS (v := .p (.bool true)) (by simp [wantedA]) rfl (by simp [keepE, readsOf, opds, tmpsOf, stillOp, pureOp, ev, Env.get_cons])]
    simp only [putE, Nat.reduceAdd]
    simp only [drawRun]
    refine if_pos ?_
    show _ = _
    kernel_rfl)]
  show _ = _
  kernel_rfl

end Go.Ab.Names

/- The law TypesNames: types that may not be. -/
set_option maxRecDepth 1000000
namespace Go.Ab.Names
open Go Go.Ab
/-- a type may not be -/
def wrong (b s : Int) : Prop := b < 1 ∨ 6 < b ∨ ((b = 1 ∨ b = 2 ∨ b = 3 ∨ b = 6) ∧ s ≠ 0) ∨ ((b = 4 ∨ b = 5) ∧ (s < 1 ∨ 100 < s))
theorem right8 (b s : Int) (h : wrong b s) (m : Nat) (σ : Heap) : (cAt T 100 (m + 1)).1 8 [.p (ty b s)] σ = some (.ret (.p (.bool false)), σ) := by
  refine call_ans (ps := [ty b s]) (n := m) (af := lit8) (fz := true) rfl (by kernel_rfl) ?_ σ
  generalize (cAt T 100 m).1 = C
  generalize (cAt T 100 m).2 = D
  unfold ty
  rcases h with h | h | ⟨rfl | rfl | rfl | rfl, h⟩ | ⟨rfl | rfl, h | h⟩
  · simp [runFunc, lit8, params, exec, runOps, wantedA, stepOp, pureOp, allocOp, readOp, ev, Env.get_cons, putE, binA, intBin, AV.fit, AV.toCells, partC, partP, Cells.len, h]
    show _ = _
    kernel_rfl
  · have h1 : ¬ b < 1 := by omega
    simp [runFunc, lit8, params, exec, runOps, wantedA, stepOp, pureOp, allocOp, readOp, ev, Env.get_cons, putE, binA, intBin, AV.fit, AV.toCells, partC, partP, Cells.len, h, h1]
    show _ = _
    kernel_rfl
  · have hs : (s == 0) = false := by simp [h]
    simp [runFunc, lit8, params, exec, runOps, wantedA, stepOp, pureOp, allocOp, readOp, ev, Env.get_cons, putE, binA, intBin, AV.fit, AV.toCells, partC, partP, Cells.len, idxArrA, hs, -beq_eq_false_iff_ne]
    try rw [hs]
    show _ = _
    kernel_rfl
  · have hs : (s == 0) = false := by simp [h]
    simp [runFunc, lit8, params, exec, runOps, wantedA, stepOp, pureOp, allocOp, readOp, ev, Env.get_cons, putE, binA, intBin, AV.fit, AV.toCells, partC, partP, Cells.len, idxArrA, hs, -beq_eq_false_iff_ne]
    try rw [hs]
    show _ = _
    kernel_rfl
  · have hs : (s == 0) = false := by simp [h]
    simp [runFunc, lit8, params, exec, runOps, wantedA, stepOp, pureOp, allocOp, readOp, ev, Env.get_cons, putE, binA, intBin, AV.fit, AV.toCells, partC, partP, Cells.len, idxArrA, hs, -beq_eq_false_iff_ne]
    try rw [hs]
    show _ = _
    kernel_rfl
  · have hs : (s == 0) = false := by simp [h]
    simp [runFunc, lit8, params, exec, runOps, wantedA, stepOp, pureOp, allocOp, readOp, ev, Env.get_cons, putE, binA, intBin, AV.fit, AV.toCells, partC, partP, Cells.len, idxArrA, hs, -beq_eq_false_iff_ne]
    try rw [hs]
    show _ = _
    kernel_rfl
  · have h1 : ¬ 1 ≤ s := by omega
    simp [runFunc, lit8, params, exec, runOps, wantedA, stepOp, pureOp, allocOp, readOp, ev, Env.get_cons, putE, binA, intBin, AV.fit, AV.toCells, partC, partP, Cells.len, idxArrA, h1]
    show _ = _
    kernel_rfl
  · have h1 : 1 ≤ s := by omega
    have h2 : ¬ s ≤ 100 := by omega
    simp [runFunc, lit8, params, exec, runOps, wantedA, stepOp, pureOp, allocOp, readOp, ev, Env.get_cons, putE, binA, intBin, AV.fit, AV.toCells, partC, partP, Cells.len, idxArrA, h1, h2]
    show _ = _
    kernel_rfl
  · have h1 : ¬ 1 ≤ s := by omega
    simp [runFunc, lit8, params, exec, runOps, wantedA, stepOp, pureOp, allocOp, readOp, ev, Env.get_cons, putE, binA, intBin, AV.fit, AV.toCells, partC, partP, Cells.len, idxArrA, h1]
    show _ = _
    kernel_rfl
  · have h1 : 1 ≤ s := by omega
    have h2 : ¬ s ≤ 100 := by omega
    simp [runFunc, lit8, params, exec, runOps, wantedA, stepOp, pureOp, allocOp, readOp, ev, Env.get_cons, putE, binA, intBin, AV.fit, AV.toCells, partC, partP, Cells.len, idxArrA, h1, h2]
    show _ = _
    kernel_rfl

theorem right9 (b s : Int) (h : wrong b s) (m : Nat) (σ : Heap) : (cAt T 100 (m + 1)).1 9 [.p (ty b s)] σ = some (.ret (.p (.bool false)), σ) := by
  refine call_ans (ps := [ty b s]) (n := m) (af := lit9) (fz := true) rfl (by kernel_rfl) ?_ σ
  generalize (cAt T 100 m).1 = C
  generalize (cAt T 100 m).2 = D
  unfold ty
  rcases h with h | h | ⟨rfl | rfl | rfl | rfl, h⟩ | ⟨rfl | rfl, h | h⟩
  · have n1 : (b == 1) = false := by simp; omega
    have n2 : (b == 2) = false := by simp; omega
    have n3 : (b == 3) = false := by simp; omega
    have n4 : (b == 4) = false := by simp; omega
    have n5 : (b == 5) = false := by simp; omega
    have n6 : (b == 6) = false := by simp; omega
    simp [runFunc, lit9, params, exec, runOps, wantedA, stepOp, pureOp, allocOp, readOp, ev, Env.get_cons, putE, binA, intBin, AV.fit, AV.toCells, partC, partP, Cells.len, n1, n2, n3, n4, n5, n6, -beq_eq_false_iff_ne]
    show _ = _
    kernel_rfl
  · have n1 : (b == 1) = false := by simp; omega
    have n2 : (b == 2) = false := by simp; omega
    have n3 : (b == 3) = false := by simp; omega
    have n4 : (b == 4) = false := by simp; omega
    have n5 : (b == 5) = false := by simp; omega
    have n6 : (b == 6) = false := by simp; omega
    simp [runFunc, lit9, params, exec, runOps, wantedA, stepOp, pureOp, allocOp, readOp, ev, Env.get_cons, putE, binA, intBin, AV.fit, AV.toCells, partC, partP, Cells.len, n1, n2, n3, n4, n5, n6, -beq_eq_false_iff_ne]
    show _ = _
    kernel_rfl
  · have hs : (s == 0) = false := by simp [h]
    simp [runFunc, lit9, params, exec, runOps, wantedA, stepOp, pureOp, allocOp, readOp, ev, Env.get_cons, putE, binA, intBin, AV.fit, AV.toCells, partC, partP, Cells.len, hs, -beq_eq_false_iff_ne]
    try rw [hs]
    show _ = _
    kernel_rfl
  · have hs : (s == 0) = false := by simp [h]
    simp [runFunc, lit9, params, exec, runOps, wantedA, stepOp, pureOp, allocOp, readOp, ev, Env.get_cons, putE, binA, intBin, AV.fit, AV.toCells, partC, partP, Cells.len, hs, -beq_eq_false_iff_ne]
    try rw [hs]
    show _ = _
    kernel_rfl
  · have hs : (s == 0) = false := by simp [h]
    simp [runFunc, lit9, params, exec, runOps, wantedA, stepOp, pureOp, allocOp, readOp, ev, Env.get_cons, putE, binA, intBin, AV.fit, AV.toCells, partC, partP, Cells.len, hs, -beq_eq_false_iff_ne]
    try rw [hs]
    show _ = _
    kernel_rfl
  · have hs : (s == 0) = false := by simp [h]
    simp [runFunc, lit9, params, exec, runOps, wantedA, stepOp, pureOp, allocOp, readOp, ev, Env.get_cons, putE, binA, intBin, AV.fit, AV.toCells, partC, partP, Cells.len, hs, -beq_eq_false_iff_ne]
    try rw [hs]
    show _ = _
    kernel_rfl
  · have h1 : ¬ 1 ≤ s := by omega
    simp [runFunc, lit9, params, exec, runOps, wantedA, stepOp, pureOp, allocOp, readOp, ev, Env.get_cons, putE, binA, intBin, AV.fit, AV.toCells, partC, partP, Cells.len, h1]
    show _ = _
    kernel_rfl
  · have h1 : 1 ≤ s := by omega
    have h2 : ¬ s ≤ 100 := by omega
    simp [runFunc, lit9, params, exec, runOps, wantedA, stepOp, pureOp, allocOp, readOp, ev, Env.get_cons, putE, binA, intBin, AV.fit, AV.toCells, partC, partP, Cells.len, h1, h2]
    show _ = _
    kernel_rfl
  · have h1 : ¬ 1 ≤ s := by omega
    simp [runFunc, lit9, params, exec, runOps, wantedA, stepOp, pureOp, allocOp, readOp, ev, Env.get_cons, putE, binA, intBin, AV.fit, AV.toCells, partC, partP, Cells.len, h1]
    show _ = _
    kernel_rfl
  · have h1 : 1 ≤ s := by omega
    have h2 : ¬ s ≤ 100 := by omega
    simp [runFunc, lit9, params, exec, runOps, wantedA, stepOp, pureOp, allocOp, readOp, ev, Env.get_cons, putE, binA, intBin, AV.fit, AV.toCells, partC, partP, Cells.len, h1, h2]
    show _ = _
    kernel_rfl

end Go.Ab.Names
