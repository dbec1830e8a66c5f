/- The law TypesAssigns, where its parts agree. -/
import Derived.Test.YtacjjncmbklplaaGreatDoorAbS11
set_option maxRecDepth 1000000
namespace Go.Ab.Cols
open Go Go.Ab Go.Ab.Names
theorem law4 (C : Oracle) (D : DOracle) (L : Nat) (b s : Int) (r0 r1 r2 r3 v0 v1 v2 v3 : PV) (a n : Int) (x e : List UInt8) (t : Bool)
    (h7 : ∀ σ, C 7 [] σ = some (.ret (.p (.bool true)), σ)) (h15 : ∀ σ, C 15 [.p (.agg [r0, r1, r2, r3])] σ = some (.ret (.p (.agg [v0, v1, v2, v3])), σ))
    (h14 : ∀ σ, C 14 [.p (.agg [v0, v1, v2, v3]), .p (.agg [.int .i64 b, .int .i64 s])] σ = some (.ret (.p (.tup [.agg [.int .i64 a, .int .i64 n, .str x, .bool t], .str e])), σ)) (h16 : ∀ σ, C 16 [.p (.agg [v0, v1, v2, v3]), .p (.agg [.int .i64 b, .int .i64 s])] σ = some (.ret (.p (.tup [.agg [.int .i64 a, .int .i64 n, .str x, .bool t], .str e])), σ)) :
    ansV (runFunc C D L lit4 [.p (.agg [r0, r1, r2, r3]), .p (.int .i64 b), .p (.int .i64 s)] []) = some (.bool true) := by
  simp only [runFunc, lit4]
  rw [seqN (a := .region _) (by simp [params, exec, runOps, wantedA, stepOp, pureOp, allocOp, ev, Env.get_cons, putE, AV.fit, AV.toCells, Cells.len]; rfl)]
  rw [seqN (a := .region _) (by simp [exec, runOps, wantedA, stepOp, pureOp, allocOp, readOp, effOp, ev, Env.get_cons, putE, AV.fit, AV.toCells, mkCells, allP, mkAgg, Cells.len, evParts, fillA, splice, spliceC, AV.cells]; rfl)]
  rw [seqN (a := .draw _ _ _) (by
    unfold exec drawExec
    rw [drawR (v := .p (.agg [r0, r1, r2, r3])) (id := 0) (by simp [wantedA]) rfl (by simp [keepE, readsOf, opds, tmpsOf, stillOp, pureOp, refOf, refV, ev, Env.get_cons, readOp, oneH, partC, partP])]
    simp only [putE, Nat.reduceAdd]
    rw [drawE (by simp [wantedA]) rfl (by simp [keepE, readsOf, opds, tmpsOf, runOps, wantedA, ev, evs, target, Env.get_cons, putE, h15]; rfl)]
    simp only [carry, Env.get_cons, reduceIte, Nat.reduceEqDiff, Nat.reduceAdd]
    rw [drawR (v := .p (.agg [.int .i64 b, .int .i64 s])) (id := 1) (by simp [wantedA]) rfl (by simp [keepE, readsOf, opds, tmpsOf, stillOp, pureOp, refOf, refV, ev, Env.get_cons, readOp, oneH, partC, partP])]
    simp only [putE, Nat.reduceAdd]
    rw [drawE (by simp [wantedA]) rfl (by simp [keepE, readsOf, opds, tmpsOf, runOps, wantedA, ev, evs, target, Env.get_cons, putE, h14]; rfl)]
    simp only [carry, Env.get_cons, reduceIte, Nat.reduceEqDiff, Nat.reduceAdd]
    rw [drawS (v := .p (.tup [.agg [.int .i64 a, .int .i64 n, .str x, .bool t], .str e])) (by simp [wantedA]) rfl (by simp [keepE, readsOf, opds, tmpsOf, stillOp, pureOp, ev, Env.get_cons])]
    simp only [putE, Nat.reduceAdd]
    rw [drawS (v := .p (.agg [.int .i64 a, .int .i64 n, .str x, .bool t])) (by simp [wantedA]) rfl (by simp [keepE, readsOf, opds, tmpsOf, stillOp, pureOp, ev, Env.get_cons, extractA])]
    simp only [putE, Nat.reduceAdd]
    rw [drawS (v := .p (.str e)) (by simp [wantedA]) rfl (by simp [keepE, readsOf, opds, tmpsOf, stillOp, pureOp, ev, Env.get_cons, extractA])]
    simp only [putE, Nat.reduceAdd]
    rw [drawE (by simp [wantedA]) rfl (by simp [keepE, readsOf, opds, tmpsOf, runOps, wantedA, stepOp, pureOp, allocOp, putE, mkCells, allP]; rfl)]
    simp only [carry, Env.get_cons, reduceIte, Nat.reduceAdd]
    rw [drawE (by simp [wantedA]) rfl (by simp [keepE, readsOf, opds, tmpsOf, runOps, wantedA, stepOp, pureOp, allocOp, readOp, effOp, ev, Env.get_cons, putE, AV.fit, AV.toCells, Cells.len, splice, spliceC]; rfl)]
    simp only [carry, Nat.reduceAdd]
    rw [drawS (v := .p (.str e)) (by simp [wantedA]) rfl (by simp [keepE, readsOf, opds, tmpsOf, stillOp, pureOp, ev, Env.get_cons])]
    simp only [putE, Nat.reduceAdd]
    simp only [drawRun]
    refine if_pos ?_
    show _ = _
    kernel_rfl)]
  rw [seqN (a := .draw _ _ _) (by
    unfold exec drawExec
    rw [drawR (v := .p (.agg [r0, r1, r2, r3])) (id := 0) (by simp [wantedA]) rfl (by simp [keepE, readsOf, opds, tmpsOf, stillOp, pureOp, refOf, refV, ev, Env.get_cons, readOp, oneH, partC, partP])]
    simp only [putE, Nat.reduceAdd]
    rw [drawE (by simp [wantedA]) rfl (by simp [keepE, readsOf, opds, tmpsOf, runOps, wantedA, ev, evs, target, Env.get_cons, putE, h15]; rfl)]
    simp only [carry, Env.get_cons, reduceIte, Nat.reduceEqDiff, Nat.reduceAdd]
    rw [drawR (v := .p (.agg [.int .i64 b, .int .i64 s])) (id := 1) (by simp [wantedA]) rfl (by simp [keepE, readsOf, opds, tmpsOf, stillOp, pureOp, refOf, refV, ev, Env.get_cons, readOp, oneH, partC, partP])]
    simp only [putE, Nat.reduceAdd]
    rw [drawE (by simp [wantedA]) rfl (by simp [keepE, readsOf, opds, tmpsOf, runOps, wantedA, ev, evs, target, Env.get_cons, putE, h16]; rfl)]
    simp only [carry, Env.get_cons, reduceIte, Nat.reduceEqDiff, Nat.reduceAdd]
    rw [drawS (v := .p (.tup [.agg [.int .i64 a, .int .i64 n, .str x, .bool t], .str e])) (by simp [wantedA]) rfl (by simp [keepE, readsOf, opds, tmpsOf, stillOp, pureOp, ev, Env.get_cons])]
    simp only [putE, Nat.reduceAdd]
    rw [drawS (v := .p (.agg [.int .i64 a, .int .i64 n, .str x, .bool t])) (by simp [wantedA]) rfl (by simp [keepE, readsOf, opds, tmpsOf, stillOp, pureOp, ev, Env.get_cons, extractA])]
    simp only [putE, Nat.reduceAdd]
    rw [drawS (v := .p (.str e)) (by simp [wantedA]) rfl (by simp [keepE, readsOf, opds, tmpsOf, stillOp, pureOp, ev, Env.get_cons, extractA])]
    simp only [putE, Nat.reduceAdd]
    rw [drawE (by simp [wantedA]) rfl (by simp [keepE, readsOf, opds, tmpsOf, runOps, wantedA, stepOp, pureOp, allocOp, putE, mkCells, allP]; rfl)]
    simp only [carry, Env.get_cons, reduceIte, Nat.reduceAdd]
    rw [drawE (by simp [wantedA]) rfl (by simp [keepE, readsOf, opds, tmpsOf, runOps, wantedA, stepOp, pureOp, allocOp, readOp, effOp, ev, Env.get_cons, putE, AV.fit, AV.toCells, Cells.len, splice, spliceC]; rfl)]
    simp only [carry, Nat.reduceAdd]
    rw [drawS (v := .p (.str e)) (by simp [wantedA]) rfl (by simp [keepE, readsOf, opds, tmpsOf, stillOp, pureOp, ev, Env.get_cons])]
    simp only [putE, Nat.reduceAdd]
    simp only [drawRun]
    refine if_pos ?_
    show _ = _
    kernel_rfl)]
  rw [seqN (a := .region _) (by simp [exec, runOps, wantedA, stepOp, pureOp, allocOp, readOp, ev, evs, Env.get_cons, putE, target, partC, partP, binA, eqP, eqPs, strBin, h7]; rfl)]
  show _ = _
  kernel_rfl

end Go.Ab.Cols
