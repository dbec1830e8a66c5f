/- The law TypesNames, where its parts agree. -/
import Derived.Test.YtacjjncmbklplaaGreatDoorAbN1
set_option maxRecDepth 1000000
namespace Go.Ab.Names
open Go Go.Ab
theorem law3 (C : Oracle) (D : DOracle) (b s : Int) (r : Bool) (l : List UInt8) (k : Int)
    (h7 : ∀ σ, C 7 [] σ = some (.ret (.p (.bool true)), σ))
    (h8 : ∀ σ, C 8 [.p (.agg [.int .i64 b, .int .i64 s])] σ = some (.ret (.p (.bool r)), σ)) (h9 : ∀ σ, C 9 [.p (.agg [.int .i64 b, .int .i64 s])] σ = some (.ret (.p (.bool r)), σ))
    (h10 : ∀ σ, C 10 [.p (.agg [.int .i64 b, .int .i64 s])] σ = some (.ret (.p (.str l)), σ)) (h11 : ∀ σ, C 11 [.p (.agg [.int .i64 b, .int .i64 s])] σ = some (.ret (.p (.str l)), σ))
    (h12 : ∀ σ, C 12 [.p (.agg [.int .i64 b, .int .i64 s])] σ = some (.ret (.p (.int .i64 k)), σ)) (h13 : ∀ σ, C 13 [.p (.agg [.int .i64 b, .int .i64 s])] σ = some (.ret (.p (.int .i64 k)), σ)) :
    ansV (runFunc C D 100 lit3 [.p (.int .i64 b), .p (.int .i64 s)] []) = some (.bool true) := by
  simp only [runFunc, lit3]
  rw [seqN (a := .region _) (by simp [params, exec, runOps, wantedA, stepOp, pureOp, ev, putE]; rfl)]
  rw [seqN (a := .region _) (by simp [exec, runOps, wantedA, stepOp, pureOp, allocOp, readOp, effOp, ev, Env.get_cons, putE, AV.fit, AV.toCells, mkCells, allP, mkAgg, Cells.len, evParts, fillA, splice, spliceC, AV.cells]; rfl)]
  rw [seqN (a := .draw _ _ _) (by
    unfold exec drawExec
    rw [drawE (by simp [wantedA]) rfl (by simp [keepE, readsOf, opds, tmpsOf, runOps, wantedA, ev, evs, target, putE, h7]; rfl)]
    simp only [carry, Env.get_cons, reduceIte, Nat.reduceAdd]
    rw [drawS (v := .p (.bool true)) (by simp [wantedA]) rfl (by simp [keepE, readsOf, opds, tmpsOf, stillOp, pureOp, ev, Env.get_cons])]
    simp only [putE, Nat.reduceAdd]
    rw [drawR (v := .p (.agg [.int .i64 b, .int .i64 s])) (id := 0) (by simp [wantedA, keepE, readsOf, opds, tmpsOf, Env.get_cons]) rfl (by simp [keepE, readsOf, opds, tmpsOf, stillOp, pureOp, refOf, refV, ev, Env.get_cons, readOp, oneH, partC, partP])]
    simp only [putE, Nat.reduceAdd]
    rw [drawE (by simp [wantedA, keepE, readsOf, opds, tmpsOf, Env.get_cons]) rfl (by simp [keepE, readsOf, opds, tmpsOf, runOps, wantedA, ev, evs, target, Env.get_cons, putE, h8]; rfl)]
    simp only [carry, Env.get_cons, reduceIte, Nat.reduceEqDiff, Nat.reduceAdd]
    rw [drawR (v := .p (.agg [.int .i64 b, .int .i64 s])) (id := 0) (by simp [wantedA, keepE, readsOf, opds, tmpsOf, Env.get_cons]) rfl (by simp [keepE, readsOf, opds, tmpsOf, stillOp, pureOp, refOf, refV, ev, Env.get_cons, readOp, oneH, partC, partP])]
    simp only [putE, Nat.reduceAdd]
    rw [drawE (by simp [wantedA, keepE, readsOf, opds, tmpsOf, Env.get_cons]) rfl (by simp [keepE, readsOf, opds, tmpsOf, runOps, wantedA, ev, evs, target, Env.get_cons, putE, h9]; rfl)]
    simp only [carry, Env.get_cons, reduceIte, Nat.reduceEqDiff, Nat.reduceAdd]
    rw [drawS (v := .p (.bool true)) (by simp [wantedA, keepE, readsOf, opds, tmpsOf, Env.get_cons]) rfl (by simp [keepE, readsOf, opds, tmpsOf, stillOp, pureOp, ev, Env.get_cons, binA, eqP])]
    simp only [putE, Nat.reduceAdd]
    rw [drawS (v := .p (.bool true)) (by simp [wantedA]) rfl (by simp [keepE, readsOf, opds, tmpsOf, stillOp, pureOp, ev, Env.get_cons])]
    simp only [putE, Nat.reduceAdd]
    rw [drawS (v := .p (.bool true)) (by simp [wantedA]) rfl (by simp [keepE, readsOf, opds, tmpsOf, stillOp, pureOp, ev, Env.get_cons])]
    simp only [putE, Nat.reduceAdd]
    rw [drawR (v := .p (.agg [.int .i64 b, .int .i64 s])) (id := 0) (by simp [wantedA, keepE, readsOf, opds, tmpsOf, Env.get_cons]) rfl (by simp [keepE, readsOf, opds, tmpsOf, stillOp, pureOp, refOf, refV, ev, Env.get_cons, readOp, oneH, partC, partP])]
    simp only [putE, Nat.reduceAdd]
    rw [drawE (by simp [wantedA, keepE, readsOf, opds, tmpsOf, Env.get_cons]) rfl (by simp [keepE, readsOf, opds, tmpsOf, runOps, wantedA, ev, evs, target, Env.get_cons, putE, h10]; rfl)]
    simp only [carry, Env.get_cons, reduceIte, Nat.reduceEqDiff, Nat.reduceAdd]
    rw [drawR (v := .p (.agg [.int .i64 b, .int .i64 s])) (id := 0) (by simp [wantedA, keepE, readsOf, opds, tmpsOf, Env.get_cons]) rfl (by simp [keepE, readsOf, opds, tmpsOf, stillOp, pureOp, refOf, refV, ev, Env.get_cons, readOp, oneH, partC, partP])]
    simp only [putE, Nat.reduceAdd]
    rw [drawE (by simp [wantedA, keepE, readsOf, opds, tmpsOf, Env.get_cons]) rfl (by simp [keepE, readsOf, opds, tmpsOf, runOps, wantedA, ev, evs, target, Env.get_cons, putE, h11]; rfl)]
    simp only [carry, Env.get_cons, reduceIte, Nat.reduceEqDiff, Nat.reduceAdd]
    rw [drawS (v := .p (.bool true)) (by simp [wantedA, keepE, readsOf, opds, tmpsOf, Env.get_cons]) rfl (by simp [keepE, readsOf, opds, tmpsOf, stillOp, pureOp, ev, Env.get_cons, binA, strBin])]
    simp only [putE, Nat.reduceAdd]
    rw [drawS (v := .p (.bool true)) (by simp [wantedA]) rfl (by simp [keepE, readsOf, opds, tmpsOf, stillOp, pureOp, ev, Env.get_cons])]
    simp only [putE, Nat.reduceAdd]
    rw [drawS (v := .p (.bool true)) (by simp [wantedA]) rfl (by simp [keepE, readsOf, opds, tmpsOf, stillOp, pureOp, ev, Env.get_cons])]
    simp only [putE, Nat.reduceAdd]
    rw [drawR (v := .p (.agg [.int .i64 b, .int .i64 s])) (id := 0) (by simp [wantedA, keepE, readsOf, opds, tmpsOf, Env.get_cons]) rfl (by simp [keepE, readsOf, opds, tmpsOf, stillOp, pureOp, refOf, refV, ev, Env.get_cons, readOp, oneH, partC, partP])]
    simp only [putE, Nat.reduceAdd]
    rw [drawE (by simp [wantedA, keepE, readsOf, opds, tmpsOf, Env.get_cons]) rfl (by simp [keepE, readsOf, opds, tmpsOf, runOps, wantedA, ev, evs, target, Env.get_cons, putE, h12]; rfl)]
    simp only [carry, Env.get_cons, reduceIte, Nat.reduceEqDiff, Nat.reduceAdd]
    rw [drawR (v := .p (.agg [.int .i64 b, .int .i64 s])) (id := 0) (by simp [wantedA, keepE, readsOf, opds, tmpsOf, Env.get_cons]) rfl (by simp [keepE, readsOf, opds, tmpsOf, stillOp, pureOp, refOf, refV, ev, Env.get_cons, readOp, oneH, partC, partP])]
    simp only [putE, Nat.reduceAdd]
    rw [drawE (by simp [wantedA, keepE, readsOf, opds, tmpsOf, Env.get_cons]) rfl (by simp [keepE, readsOf, opds, tmpsOf, runOps, wantedA, ev, evs, target, Env.get_cons, putE, h13]; rfl)]
    simp only [carry, Env.get_cons, reduceIte, Nat.reduceEqDiff, Nat.reduceAdd]
    rw [drawS (v := .p (.bool true)) (by simp [wantedA, keepE, readsOf, opds, tmpsOf, Env.get_cons]) rfl (by simp [keepE, readsOf, opds, tmpsOf, stillOp, pureOp, ev, Env.get_cons, binA, intBin])]
    simp only [putE, Nat.reduceAdd]
    rw [drawS (v := .p (.bool true)) (by simp [wantedA]) rfl (by simp [keepE, readsOf, opds, tmpsOf, stillOp, pureOp, ev, Env.get_cons])]
    simp only [putE, Nat.reduceAdd]
    rw [drawS (v := .p (.bool true)) (by simp [wantedA]) rfl (by simp [keepE, readsOf, opds, tmpsOf, stillOp, pureOp, ev, Env.get_cons])]
    simp only [putE, Nat.reduceAdd]
    simp only [drawRun]
    refine if_pos ?_
    show _ = _
    kernel_rfl)]
  show _ = _
  kernel_rfl

end Go.Ab.Names
