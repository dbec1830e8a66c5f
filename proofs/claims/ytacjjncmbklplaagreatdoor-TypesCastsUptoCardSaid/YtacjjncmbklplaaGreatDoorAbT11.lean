/- TypesCasts: what a value comes to, by the program. -/
import Derived.Test.YtacjjncmbklplaaGreatDoorAbT9
set_option linter.unusedSectionVars false
set_option linter.unusedSimpArgs false
set_option linter.unusedVariables false
set_option maxRecDepth 1000000
namespace Go.Ab.Cols
open Go Go.Ab Go.Ab.Names
section
variable (C : Oracle) (D : DOracle) (L : Nat) (b sz n : Int) (s : List UInt8) (t : Bool)
theorem p17_short (h12 : ∀ σ, C 12 [.p (ty b sz)] σ = some (.ret (.p (.int .i64 2)), σ)) (hle : (s.length : Int) ≤ sz) (k m : Int) (y : List UInt8) (v : Bool) (e : List UInt8) (h26 : ∀ σ, C 26 [.p (.str s), .p (ty b sz)] σ = some (.ret (.p (.tup [val k m y v, .str e])), σ)) : ansV (runFunc C D L lit17 [.p (val 2 n s t), .p (ty b sz)] []) = some (.tup [val k m y v, .str e]) := by
  have hn : ¬ sz < (s.length : Int) := by omega
  unfold ty val at *
  rw [runFunc_eq, front17_eq]
  unfold front17
  rw [seqN (a := .region _) (by simp [params, exec, runOps, wantedA, stepOp, pureOp, allocOp, ev, Env.get_cons, putE, AV.fit, AV.toCells, mkCells, allP, Cells.len]; rfl)]
  rw [seqN (a := .region _) (by simp [exec, runOps, wantedA, stepOp, pureOp, allocOp, readOp, ev, evs, Env.get_cons, putE, partC, partP, target, h12]; rfl)]
  rw [seqR (a := .block _ _) (blockR (by
    unfold blk17
    rw [seqN (a := .region _) (by simp [exec, runOps, wantedA, stepOp, pureOp, ev, Env.get_cons, putE, binA, intBin]; rfl)]
    rw [condF (by simp [ev, Env.get_cons])]
    rw [seqN (a := .region _) (by simp [exec, runOps, wantedA, stepOp, pureOp, allocOp, readOp, ev, Env.get_cons, putE, binA, intBin, partC, partP]; rfl)]
    rw [condT (by simp [ev, Env.get_cons])]
    rw [seqN (a := .draw _ _ _) (by
      unfold exec drawExec
      rw [drawS (v := .ptr 0 0 2) (by simp [wantedA]) rfl (by simp [keepE, readsOf, opds, tmpsOf, stillOp, pureOp, ev, Env.get_cons])]
      simp only [putE, Nat.reduceAdd]
      rw [drawR (v := .p (.str s)) (id := 0) (by simp [wantedA]) rfl (by simp [keepE, readsOf, opds, tmpsOf, stillOp, pureOp, refOf, refV, ev, Env.get_cons, readOp, oneH, partC, partP])]
      simp only [putE, Nat.reduceAdd]
      rw [drawS (v := .ptr 0 0 2) (by simp [wantedA]) rfl (by simp [keepE, readsOf, opds, tmpsOf, stillOp, pureOp, ev, Env.get_cons])]
      simp only [putE, Nat.reduceAdd]
      rw [drawR (v := .p (.str s)) (id := 0) (by simp [wantedA]) rfl (by simp [keepE, readsOf, opds, tmpsOf, stillOp, pureOp, refOf, refV, ev, Env.get_cons, readOp, oneH, partC, partP])]
      simp only [putE, Nat.reduceAdd]
      rw [drawS (v := .p (.int .i64 (s.length : Int))) (by simp [wantedA]) rfl (by simp [keepE, readsOf, opds, tmpsOf, stillOp, pureOp, ev, Env.get_cons])]
      simp only [putE, Nat.reduceAdd]
      rw [drawS (v := .ptr 1 0 1) (by simp [wantedA]) rfl (by simp [keepE, readsOf, opds, tmpsOf, stillOp, pureOp, ev, Env.get_cons])]
      simp only [putE, Nat.reduceAdd]
      rw [drawR (v := .p (.int .i64 sz)) (id := 1) (by simp [wantedA]) rfl (by simp [keepE, readsOf, opds, tmpsOf, stillOp, pureOp, refOf, refV, ev, Env.get_cons, readOp, oneH, partC, partP])]
      simp only [putE, Nat.reduceAdd]
      rw [drawS (v := .p (.int .i64 (s.length : Int))) (by simp [wantedA]) rfl (by simp [keepE, readsOf, opds, tmpsOf, stillOp, pureOp, ev, Env.get_cons, evs, maxA, hn])]
      simp only [putE, Nat.reduceAdd]
      rw [drawS (v := .p (.str s)) (by simp [wantedA]) rfl (by simp [keepE, readsOf, opds, tmpsOf, stillOp, pureOp, ev, Env.get_cons, evO, optO, sliceA, boundsA, boundA])]
      simp only [putE, Nat.reduceAdd]
      rw [drawR (v := .p (.agg [.int .i64 b, .int .i64 sz])) (id := 1) (by simp [wantedA]) rfl (by simp [keepE, readsOf, opds, tmpsOf, stillOp, pureOp, refOf, refV, ev, Env.get_cons, readOp, oneH, partC, partP])]
      simp only [putE, Nat.reduceAdd]
      rw [drawE (by simp [wantedA]) rfl (by simp [keepE, readsOf, opds, tmpsOf, runOps, wantedA, ev, evs, target, Env.get_cons, putE, h26]; rfl)]
      simp only [carry, Env.get_cons, reduceIte, Nat.reduceEqDiff, Nat.reduceAdd]
      rw [drawS (v := .p (.agg [.int .i64 k, .int .i64 m, .str y, .bool v])) (by simp [wantedA]) rfl (by simp [keepE, readsOf, opds, tmpsOf, stillOp, pureOp, ev, Env.get_cons, extractA])]
      simp only [putE, Nat.reduceAdd]
      rw [drawS (v := .p (.str e)) (by simp [wantedA]) rfl (by simp [keepE, readsOf, opds, tmpsOf, stillOp, pureOp, ev, Env.get_cons, extractA])]
      simp only [putE, Nat.reduceAdd]
      rw [drawE (by simp [wantedA]) rfl (by simp [keepE, readsOf, opds, tmpsOf, runOps, wantedA, stepOp, pureOp, allocOp, readOp, effOp, ev, Env.get_cons, putE, AV.fit, AV.toCells, Cells.len, splice, spliceC]; rfl)]
      simp only [carry, Nat.reduceAdd]
      rw [drawS (v := .p (.str e)) (by simp [wantedA]) rfl (by simp [keepE, readsOf, opds, tmpsOf, stillOp, pureOp, ev, Env.get_cons])]
      simp only [putE, Nat.reduceAdd]
      simp only [drawRun]
      refine if_pos ?_
      show _ = _
      kernel_rfl)]
    simp only [exec]
    rfl))]
  show _ = _
  kernel_rfl
theorem p17_long (h12 : ∀ σ, C 12 [.p (ty b sz)] σ = some (.ret (.p (.int .i64 2)), σ)) (hlt : sz < (s.length : Int)) (h0 : 0 ≤ sz) (k m : Int) (y : List UInt8) (v : Bool) (e : List UInt8) (h26 : ∀ σ, C 26 [.p (.str (s.take sz.toNat)), .p (ty b sz)] σ = some (.ret (.p (.tup [val k m y v, .str e])), σ)) : ansV (runFunc C D L lit17 [.p (val 2 n s t), .p (ty b sz)] []) = some (.tup [val k m y v, .str e]) := by
  have hl : sz ≤ (s.length : Int) := by omega
  unfold ty val at *
  rw [runFunc_eq, front17_eq]
  unfold front17
  rw [seqN (a := .region _) (by simp [params, exec, runOps, wantedA, stepOp, pureOp, allocOp, ev, Env.get_cons, putE, AV.fit, AV.toCells, mkCells, allP, Cells.len]; rfl)]
  rw [seqN (a := .region _) (by simp [exec, runOps, wantedA, stepOp, pureOp, allocOp, readOp, ev, evs, Env.get_cons, putE, partC, partP, target, h12]; rfl)]
  rw [seqR (a := .block _ _) (blockR (by
    unfold blk17
    rw [seqN (a := .region _) (by simp [exec, runOps, wantedA, stepOp, pureOp, ev, Env.get_cons, putE, binA, intBin]; rfl)]
    rw [condF (by simp [ev, Env.get_cons])]
    rw [seqN (a := .region _) (by simp [exec, runOps, wantedA, stepOp, pureOp, allocOp, readOp, ev, Env.get_cons, putE, binA, intBin, partC, partP]; rfl)]
    rw [condT (by simp [ev, Env.get_cons])]
    rw [seqN (a := .draw _ _ _) (by
      unfold exec drawExec
      rw [drawS (v := .ptr 0 0 2) (by simp [wantedA]) rfl (by simp [keepE, readsOf, opds, tmpsOf, stillOp, pureOp, ev, Env.get_cons])]
      simp only [putE, Nat.reduceAdd]
      rw [drawR (v := .p (.str s)) (id := 0) (by simp [wantedA]) rfl (by simp [keepE, readsOf, opds, tmpsOf, stillOp, pureOp, refOf, refV, ev, Env.get_cons, readOp, oneH, partC, partP])]
      simp only [putE, Nat.reduceAdd]
      rw [drawS (v := .ptr 0 0 2) (by simp [wantedA]) rfl (by simp [keepE, readsOf, opds, tmpsOf, stillOp, pureOp, ev, Env.get_cons])]
      simp only [putE, Nat.reduceAdd]
      rw [drawR (v := .p (.str s)) (id := 0) (by simp [wantedA]) rfl (by simp [keepE, readsOf, opds, tmpsOf, stillOp, pureOp, refOf, refV, ev, Env.get_cons, readOp, oneH, partC, partP])]
      simp only [putE, Nat.reduceAdd]
      rw [drawS (v := .p (.int .i64 (s.length : Int))) (by simp [wantedA]) rfl (by simp [keepE, readsOf, opds, tmpsOf, stillOp, pureOp, ev, Env.get_cons])]
      simp only [putE, Nat.reduceAdd]
      rw [drawS (v := .ptr 1 0 1) (by simp [wantedA]) rfl (by simp [keepE, readsOf, opds, tmpsOf, stillOp, pureOp, ev, Env.get_cons])]
      simp only [putE, Nat.reduceAdd]
      rw [drawR (v := .p (.int .i64 sz)) (id := 1) (by simp [wantedA]) rfl (by simp [keepE, readsOf, opds, tmpsOf, stillOp, pureOp, refOf, refV, ev, Env.get_cons, readOp, oneH, partC, partP])]
      simp only [putE, Nat.reduceAdd]
      rw [drawS (v := .p (.int .i64 sz)) (by simp [wantedA]) rfl (by simp [keepE, readsOf, opds, tmpsOf, stillOp, pureOp, ev, Env.get_cons, evs, maxA, hlt])]
      simp only [putE, Nat.reduceAdd]
      rw [drawS (v := .p (.str (s.take sz.toNat))) (by simp [wantedA]) rfl (by simp [keepE, readsOf, opds, tmpsOf, stillOp, pureOp, ev, Env.get_cons, evO, optO, sliceA, boundsA, boundA, h0, hl])]
      simp only [putE, Nat.reduceAdd]
      rw [drawR (v := .p (.agg [.int .i64 b, .int .i64 sz])) (id := 1) (by simp [wantedA]) rfl (by simp [keepE, readsOf, opds, tmpsOf, stillOp, pureOp, refOf, refV, ev, Env.get_cons, readOp, oneH, partC, partP])]
      simp only [putE, Nat.reduceAdd]
      rw [drawE (by simp [wantedA]) rfl (by simp [keepE, readsOf, opds, tmpsOf, runOps, wantedA, ev, evs, target, Env.get_cons, putE, h26]; rfl)]
      simp only [carry, Env.get_cons, reduceIte, Nat.reduceEqDiff, Nat.reduceAdd]
      rw [drawS (v := .p (.agg [.int .i64 k, .int .i64 m, .str y, .bool v])) (by simp [wantedA]) rfl (by simp [keepE, readsOf, opds, tmpsOf, stillOp, pureOp, ev, Env.get_cons, extractA])]
      simp only [putE, Nat.reduceAdd]
      rw [drawS (v := .p (.str e)) (by simp [wantedA]) rfl (by simp [keepE, readsOf, opds, tmpsOf, stillOp, pureOp, ev, Env.get_cons, extractA])]
      simp only [putE, Nat.reduceAdd]
      rw [drawE (by simp [wantedA]) rfl (by simp [keepE, readsOf, opds, tmpsOf, runOps, wantedA, stepOp, pureOp, allocOp, readOp, effOp, ev, Env.get_cons, putE, AV.fit, AV.toCells, Cells.len, splice, spliceC]; rfl)]
      simp only [carry, Nat.reduceAdd]
      rw [drawS (v := .p (.str e)) (by simp [wantedA]) rfl (by simp [keepE, readsOf, opds, tmpsOf, stillOp, pureOp, ev, Env.get_cons])]
      simp only [putE, Nat.reduceAdd]
      simp only [drawRun]
      refine if_pos ?_
      show _ = _
      kernel_rfl)]
    simp only [exec]
    rfl))]
  show _ = _
  kernel_rfl
theorem p17_num (h12 : ∀ σ, C 12 [.p (ty b sz)] σ = some (.ret (.p (.int .i64 2)), σ)) (u : List UInt8) (h13 : ∀ σ, C 31 [.p (.int .i64 n), .p (.int .i64 10)] σ = some (.ret (.p (.str u)), σ)) (k m : Int) (y : List UInt8) (v : Bool) (e : List UInt8) (h26 : ∀ σ, C 26 [.p (.str u), .p (ty b sz)] σ = some (.ret (.p (.tup [val k m y v, .str e])), σ)) : ansV (runFunc C D L lit17 [.p (val 1 n s t), .p (ty b sz)] []) = some (.tup [val k m y v, .str e]) := by
  unfold ty val at *
  rw [runFunc_eq, front17_eq]
  unfold front17
  rw [seqN (a := .region _) (by simp [params, exec, runOps, wantedA, stepOp, pureOp, allocOp, ev, Env.get_cons, putE, AV.fit, AV.toCells, mkCells, allP, Cells.len]; rfl)]
  rw [seqN (a := .region _) (by simp [exec, runOps, wantedA, stepOp, pureOp, allocOp, readOp, ev, evs, Env.get_cons, putE, partC, partP, target, h12]; rfl)]
  rw [seqR (a := .block _ _) (blockR (by
    unfold blk17
    rw [seqN (a := .region _) (by simp [exec, runOps, wantedA, stepOp, pureOp, ev, Env.get_cons, putE, binA, intBin]; rfl)]
    rw [condF (by simp [ev, Env.get_cons])]
    rw [seqN (a := .region _) (by simp [exec, runOps, wantedA, stepOp, pureOp, allocOp, readOp, ev, Env.get_cons, putE, binA, intBin, partC, partP]; rfl)]
    rw [condF (by simp [ev, Env.get_cons])]
    rw [seqN (a := .region _) (by simp [exec, runOps, wantedA, stepOp, pureOp, allocOp, readOp, ev, Env.get_cons, putE, binA, intBin, partC, partP]; rfl)]
    rw [condF (by simp [ev, Env.get_cons])]
    rw [seqN (a := .region _) (by simp [exec, runOps, wantedA, stepOp, pureOp, allocOp, readOp, ev, Env.get_cons, putE, binA, intBin, partC, partP]; rfl)]
    rw [condT (by simp [ev, Env.get_cons])]
    rw [seqN (a := .draw _ _ _) (by
      unfold exec drawExec
      rw [drawS (v := .ptr 0 0 1) (by simp [wantedA]) rfl (by simp [keepE, readsOf, opds, tmpsOf, stillOp, pureOp, ev, Env.get_cons])]
      simp only [putE, Nat.reduceAdd]
      rw [drawR (v := .p (.int .i64 n)) (id := 0) (by simp [wantedA]) rfl (by simp [keepE, readsOf, opds, tmpsOf, stillOp, pureOp, refOf, refV, ev, Env.get_cons, readOp, oneH, partC, partP])]
      simp only [putE, Nat.reduceAdd]
      rw [drawE (by simp [wantedA]) rfl (by simp [keepE, readsOf, opds, tmpsOf, runOps, wantedA, ev, evs, target, Env.get_cons, putE, h13]; rfl)]
      simp only [carry, Env.get_cons, reduceIte, Nat.reduceEqDiff, Nat.reduceAdd]
      rw [drawR (v := .p (.agg [.int .i64 b, .int .i64 sz])) (id := 1) (by simp [wantedA]) rfl (by simp [keepE, readsOf, opds, tmpsOf, stillOp, pureOp, refOf, refV, ev, Env.get_cons, readOp, oneH, partC, partP])]
      simp only [putE, Nat.reduceAdd]
      rw [drawE (by simp [wantedA]) rfl (by simp [keepE, readsOf, opds, tmpsOf, runOps, wantedA, ev, evs, target, Env.get_cons, putE, h26]; rfl)]
      simp only [carry, Env.get_cons, reduceIte, Nat.reduceEqDiff, Nat.reduceAdd]
      rw [drawS (v := .p (.agg [.int .i64 k, .int .i64 m, .str y, .bool v])) (by simp [wantedA]) rfl (by simp [keepE, readsOf, opds, tmpsOf, stillOp, pureOp, ev, Env.get_cons, extractA])]
      simp only [putE, Nat.reduceAdd]
      rw [drawS (v := .p (.str e)) (by simp [wantedA]) rfl (by simp [keepE, readsOf, opds, tmpsOf, stillOp, pureOp, ev, Env.get_cons, extractA])]
      simp only [putE, Nat.reduceAdd]
      rw [drawE (by simp [wantedA]) rfl (by simp [keepE, readsOf, opds, tmpsOf, runOps, wantedA, stepOp, pureOp, allocOp, readOp, effOp, ev, Env.get_cons, putE, AV.fit, AV.toCells, Cells.len, splice, spliceC]; rfl)]
      simp only [carry, Nat.reduceAdd]
      rw [drawS (v := .p (.str e)) (by simp [wantedA]) rfl (by simp [keepE, readsOf, opds, tmpsOf, stillOp, pureOp, ev, Env.get_cons])]
      simp only [putE, Nat.reduceAdd]
      simp only [drawRun]
      refine if_pos ?_
      show _ = _
      kernel_rfl)]
    simp only [exec]
    rfl))]
  show _ = _
  kernel_rfl
theorem p17_true (h12 : ∀ σ, C 12 [.p (ty b sz)] σ = some (.ret (.p (.int .i64 2)), σ)) (k m : Int) (y : List UInt8) (v : Bool) (e : List UInt8) (h26 : ∀ σ, C 26 [.p (.str [84, 82, 85, 69]), .p (ty b sz)] σ = some (.ret (.p (.tup [val k m y v, .str e])), σ)) : ansV (runFunc C D L lit17 [.p (val 3 n s true), .p (ty b sz)] []) = some (.tup [val k m y v, .str e]) := by
  unfold ty val at *
  rw [runFunc_eq, front17_eq]
  unfold front17
  rw [seqN (a := .region _) (by simp [params, exec, runOps, wantedA, stepOp, pureOp, allocOp, ev, Env.get_cons, putE, AV.fit, AV.toCells, mkCells, allP, Cells.len]; rfl)]
  rw [seqN (a := .region _) (by simp [exec, runOps, wantedA, stepOp, pureOp, allocOp, readOp, ev, evs, Env.get_cons, putE, partC, partP, target, h12]; rfl)]
  rw [seqR (a := .block _ _) (by simp [blk17, exec, runOps, wantedA, stepOp, pureOp, allocOp, readOp, effOp, ev, evs, Env.get_cons, putE, binA, intBin, AV.fit, AV.toCells, partC, partP, Cells.len, target, extractA, spliceC, splice, h26]; rfl)]
  show _ = _
  kernel_rfl
theorem p17_false (h12 : ∀ σ, C 12 [.p (ty b sz)] σ = some (.ret (.p (.int .i64 2)), σ)) (k m : Int) (y : List UInt8) (v : Bool) (e : List UInt8) (h26 : ∀ σ, C 26 [.p (.str [70, 65, 76, 83, 69]), .p (ty b sz)] σ = some (.ret (.p (.tup [val k m y v, .str e])), σ)) : ansV (runFunc C D L lit17 [.p (val 3 n s false), .p (ty b sz)] []) = some (.tup [val k m y v, .str e]) := by
  unfold ty val at *
  rw [runFunc_eq, front17_eq]
  unfold front17
  rw [seqN (a := .region _) (by simp [params, exec, runOps, wantedA, stepOp, pureOp, allocOp, ev, Env.get_cons, putE, AV.fit, AV.toCells, mkCells, allP, Cells.len]; rfl)]
  rw [seqN (a := .region _) (by simp [exec, runOps, wantedA, stepOp, pureOp, allocOp, readOp, ev, evs, Env.get_cons, putE, partC, partP, target, h12]; rfl)]
  rw [seqR (a := .block _ _) (by simp [blk17, exec, runOps, wantedA, stepOp, pureOp, allocOp, readOp, effOp, ev, evs, Env.get_cons, putE, binA, intBin, AV.fit, AV.toCells, partC, partP, Cells.len, target, extractA, spliceC, splice, h26]; rfl)]
  show _ = _
  kernel_rfl
theorem p17_none (h12 : ∀ σ, C 12 [.p (ty b sz)] σ = some (.ret (.p (.int .i64 0)), σ)) (k : Int) : ansV (runFunc C D L lit17 [.p (val k n s t), .p (ty b sz)] []) = some (.tup [null, mism]) := by
  unfold ty val at *
  rw [runFunc_eq, front17_eq]
  unfold front17
  rw [seqN (a := .region _) (by simp [params, exec, runOps, wantedA, stepOp, pureOp, allocOp, ev, Env.get_cons, putE, AV.fit, AV.toCells, mkCells, allP, Cells.len]; rfl)]
  rw [seqN (a := .region _) (by simp [exec, runOps, wantedA, stepOp, pureOp, allocOp, readOp, ev, evs, Env.get_cons, putE, partC, partP, target, h12]; rfl)]
  rw [seqR (a := .block _ _) (by simp [blk17, exec, runOps, wantedA, stepOp, pureOp, allocOp, readOp, effOp, ev, evs, evO, Env.get_cons, putE, binA, intBin, unA, AV.fit, AV.toCells, partC, partP, mkCells, allP, mkAgg, Cells.len, target, evParts, fillA, AV.cells, splice, spliceC, finA, leaveA, resA, resV, ansV]; rfl)]
  simp [finX, evParts, fillA, AV.cells, splice, spliceC, finA, leaveA, resA, resV, ansV, lit17, Env.get_cons, partC, partP, Cells.len, allP, mkTup, null, val, mism]
theorem p17_assign_0_1 (h12 : ∀ σ, C 12 [.p (ty b sz)] σ = some (.ret (.p (.int .i64 1)), σ)) (a m : Int) (y e : List UInt8) (v : Bool) (h14 : ∀ σ, C 14 [.p (val 0 n s t), .p (ty b sz)] σ = some (.ret (.p (.tup [val a m y v, .str e])), σ)) : ansV (runFunc C D L lit17 [.p (val 0 n s t), .p (ty b sz)] []) = some (.tup [val a m y v, .str e]) := by
  unfold ty val at *
  rw [runFunc_eq, front17_eq]
  unfold front17
  rw [seqN (a := .region _) (by simp [params, exec, runOps, wantedA, stepOp, pureOp, allocOp, ev, Env.get_cons, putE, AV.fit, AV.toCells, mkCells, allP, Cells.len]; rfl)]
  rw [seqN (a := .region _) (by simp [exec, runOps, wantedA, stepOp, pureOp, allocOp, readOp, ev, evs, Env.get_cons, putE, partC, partP, target, h12]; rfl)]
  rw [seqR (a := .block _ _) (by simp [blk17, exec, runOps, wantedA, stepOp, pureOp, allocOp, readOp, effOp, ev, evs, evO, Env.get_cons, putE, binA, intBin, unA, AV.fit, AV.toCells, partC, partP, mkCells, allP, mkAgg, Cells.len, target, extractA, spliceC, splice, h14]; rfl)]
  show _ = _
  kernel_rfl
theorem p17_assign_0_2 (h12 : ∀ σ, C 12 [.p (ty b sz)] σ = some (.ret (.p (.int .i64 2)), σ)) (a m : Int) (y e : List UInt8) (v : Bool) (h14 : ∀ σ, C 14 [.p (val 0 n s t), .p (ty b sz)] σ = some (.ret (.p (.tup [val a m y v, .str e])), σ)) : ansV (runFunc C D L lit17 [.p (val 0 n s t), .p (ty b sz)] []) = some (.tup [val a m y v, .str e]) := by
  unfold ty val at *
  rw [runFunc_eq, front17_eq]
  unfold front17
  rw [seqN (a := .region _) (by simp [params, exec, runOps, wantedA, stepOp, pureOp, allocOp, ev, Env.get_cons, putE, AV.fit, AV.toCells, mkCells, allP, Cells.len]; rfl)]
  rw [seqN (a := .region _) (by simp [exec, runOps, wantedA, stepOp, pureOp, allocOp, readOp, ev, evs, Env.get_cons, putE, partC, partP, target, h12]; rfl)]
  rw [seqR (a := .block _ _) (by simp [blk17, exec, runOps, wantedA, stepOp, pureOp, allocOp, readOp, effOp, ev, evs, evO, Env.get_cons, putE, binA, intBin, unA, AV.fit, AV.toCells, partC, partP, mkCells, allP, mkAgg, Cells.len, target, extractA, spliceC, splice, h14]; rfl)]
  show _ = _
  kernel_rfl
theorem p17_assign_0_3 (h12 : ∀ σ, C 12 [.p (ty b sz)] σ = some (.ret (.p (.int .i64 3)), σ)) (a m : Int) (y e : List UInt8) (v : Bool) (h14 : ∀ σ, C 14 [.p (val 0 n s t), .p (ty b sz)] σ = some (.ret (.p (.tup [val a m y v, .str e])), σ)) : ansV (runFunc C D L lit17 [.p (val 0 n s t), .p (ty b sz)] []) = some (.tup [val a m y v, .str e]) := by
  unfold ty val at *
  rw [runFunc_eq, front17_eq]
  unfold front17
  rw [seqN (a := .region _) (by simp [params, exec, runOps, wantedA, stepOp, pureOp, allocOp, ev, Env.get_cons, putE, AV.fit, AV.toCells, mkCells, allP, Cells.len]; rfl)]
  rw [seqN (a := .region _) (by simp [exec, runOps, wantedA, stepOp, pureOp, allocOp, readOp, ev, evs, Env.get_cons, putE, partC, partP, target, h12]; rfl)]
  rw [seqR (a := .block _ _) (by simp [blk17, exec, runOps, wantedA, stepOp, pureOp, allocOp, readOp, effOp, ev, evs, evO, Env.get_cons, putE, binA, intBin, unA, AV.fit, AV.toCells, partC, partP, mkCells, allP, mkAgg, Cells.len, target, extractA, spliceC, splice, h14]; rfl)]
  show _ = _
  kernel_rfl
theorem p17_assign_1_1 (h12 : ∀ σ, C 12 [.p (ty b sz)] σ = some (.ret (.p (.int .i64 1)), σ)) (a m : Int) (y e : List UInt8) (v : Bool) (h14 : ∀ σ, C 14 [.p (val 1 n s t), .p (ty b sz)] σ = some (.ret (.p (.tup [val a m y v, .str e])), σ)) : ansV (runFunc C D L lit17 [.p (val 1 n s t), .p (ty b sz)] []) = some (.tup [val a m y v, .str e]) := by
  unfold ty val at *
  rw [runFunc_eq, front17_eq]
  unfold front17
  rw [seqN (a := .region _) (by simp [params, exec, runOps, wantedA, stepOp, pureOp, allocOp, ev, Env.get_cons, putE, AV.fit, AV.toCells, mkCells, allP, Cells.len]; rfl)]
  rw [seqN (a := .region _) (by simp [exec, runOps, wantedA, stepOp, pureOp, allocOp, readOp, ev, evs, Env.get_cons, putE, partC, partP, target, h12]; rfl)]
  rw [seqR (a := .block _ _) (by simp [blk17, exec, runOps, wantedA, stepOp, pureOp, allocOp, readOp, effOp, ev, evs, evO, Env.get_cons, putE, binA, intBin, unA, AV.fit, AV.toCells, partC, partP, mkCells, allP, mkAgg, Cells.len, target, extractA, spliceC, splice, h14]; rfl)]
  show _ = _
  kernel_rfl
theorem p17_assign_3_3 (h12 : ∀ σ, C 12 [.p (ty b sz)] σ = some (.ret (.p (.int .i64 3)), σ)) (a m : Int) (y e : List UInt8) (v : Bool) (h14 : ∀ σ, C 14 [.p (val 3 n s t), .p (ty b sz)] σ = some (.ret (.p (.tup [val a m y v, .str e])), σ)) : ansV (runFunc C D L lit17 [.p (val 3 n s t), .p (ty b sz)] []) = some (.tup [val a m y v, .str e]) := by
  unfold ty val at *
  rw [runFunc_eq, front17_eq]
  unfold front17
  rw [seqN (a := .region _) (by simp [params, exec, runOps, wantedA, stepOp, pureOp, allocOp, ev, Env.get_cons, putE, AV.fit, AV.toCells, mkCells, allP, Cells.len]; rfl)]
  rw [seqN (a := .region _) (by simp [exec, runOps, wantedA, stepOp, pureOp, allocOp, readOp, ev, evs, Env.get_cons, putE, partC, partP, target, h12]; rfl)]
  rw [seqR (a := .block _ _) (by simp [blk17, exec, runOps, wantedA, stepOp, pureOp, allocOp, readOp, effOp, ev, evs, evO, Env.get_cons, putE, binA, intBin, unA, AV.fit, AV.toCells, partC, partP, mkCells, allP, mkAgg, Cells.len, target, extractA, spliceC, splice, h14]; rfl)]
  show _ = _
  kernel_rfl
theorem p17_other_1_3 (h12 : ∀ σ, C 12 [.p (ty b sz)] σ = some (.ret (.p (.int .i64 3)), σ)) : ansV (runFunc C D L lit17 [.p (val 1 n s t), .p (ty b sz)] []) = some (.tup [null, mism]) := by
  unfold ty val at *
  rw [runFunc_eq, front17_eq]
  unfold front17
  rw [seqN (a := .region _) (by simp [params, exec, runOps, wantedA, stepOp, pureOp, allocOp, ev, Env.get_cons, putE, AV.fit, AV.toCells, mkCells, allP, Cells.len]; rfl)]
  rw [seqN (a := .region _) (by simp [exec, runOps, wantedA, stepOp, pureOp, allocOp, readOp, ev, evs, Env.get_cons, putE, partC, partP, target, h12]; rfl)]
  rw [seqR (a := .block _ _) (by simp [blk17, exec, runOps, wantedA, stepOp, pureOp, allocOp, readOp, effOp, ev, evs, evO, Env.get_cons, putE, binA, intBin, unA, AV.fit, AV.toCells, partC, partP, mkCells, allP, mkAgg, Cells.len, target, evParts, fillA, AV.cells, splice, spliceC, finA, leaveA, resA, resV, ansV]; rfl)]
  simp [finX, evParts, fillA, AV.cells, splice, spliceC, finA, leaveA, resA, resV, ansV, lit17, Env.get_cons, partC, partP, Cells.len, allP, mkTup, null, val, mism]
theorem p17_other_3_1 (h12 : ∀ σ, C 12 [.p (ty b sz)] σ = some (.ret (.p (.int .i64 1)), σ)) : ansV (runFunc C D L lit17 [.p (val 3 n s t), .p (ty b sz)] []) = some (.tup [null, mism]) := by
  unfold ty val at *
  rw [runFunc_eq, front17_eq]
  unfold front17
  rw [seqN (a := .region _) (by simp [params, exec, runOps, wantedA, stepOp, pureOp, allocOp, ev, Env.get_cons, putE, AV.fit, AV.toCells, mkCells, allP, Cells.len]; rfl)]
  rw [seqN (a := .region _) (by simp [exec, runOps, wantedA, stepOp, pureOp, allocOp, readOp, ev, evs, Env.get_cons, putE, partC, partP, target, h12]; rfl)]
  rw [seqR (a := .block _ _) (by simp [blk17, exec, runOps, wantedA, stepOp, pureOp, allocOp, readOp, effOp, ev, evs, evO, Env.get_cons, putE, binA, intBin, unA, AV.fit, AV.toCells, partC, partP, mkCells, allP, mkAgg, Cells.len, target, evParts, fillA, AV.cells, splice, spliceC, finA, leaveA, resA, resV, ansV]; rfl)]
  simp [finX, evParts, fillA, AV.cells, splice, spliceC, finA, leaveA, resA, resV, ansV, lit17, Env.get_cons, partC, partP, Cells.len, allP, mkTup, null, val, mism]
theorem p17_number (h12 : ∀ σ, C 12 [.p (ty b sz)] σ = some (.ret (.p (.int .i64 1)), σ)) (u y e : List UInt8) (a m : Int) (v : Bool) (h25 : ∀ σ, C 25 [.p (.str s), .p (.str [32])] σ = some (.ret (.p (.str u)), σ)) (h33 : ∀ σ, C 33 [.p (.str u), .p (ty b sz)] σ = some (.ret (.p (.tup [val a m y v, .str e])), σ)) :
    ansV (runFunc C D L lit17 [.p (val 2 n s t), .p (ty b sz)] []) = some (.tup [val a m y v, .str e]) := by
  unfold ty val at *
  rw [runFunc_eq, front17_eq]
  unfold front17
  rw [seqN (a := .region _) (by simp [params, exec, runOps, wantedA, stepOp, pureOp, allocOp, ev, Env.get_cons, putE, AV.fit, AV.toCells, mkCells, allP, Cells.len]; rfl)]
  rw [seqN (a := .region _) (by simp [exec, runOps, wantedA, stepOp, pureOp, allocOp, readOp, ev, evs, Env.get_cons, putE, partC, partP, target, h12]; rfl)]
  rw [seqN (a := .block _ _) (by simp [blk17, exec, runOps, wantedA, stepOp, pureOp, allocOp, readOp, effOp, ev, evs, evO, Env.get_cons, putE, binA, intBin, unA, AV.fit, AV.toCells, partC, partP, mkCells, allP, mkAgg, Cells.len, target]; rfl)]
  unfold tail17
  rw [seqN (a := .region _) (by simp [exec, runOps, wantedA, stepOp, pureOp, allocOp, readOp, effOp, ev, evs, evO, Env.get_cons, putE, binA, intBin, unA, AV.fit, AV.toCells, partC, partP, mkCells, allP, mkAgg, Cells.len, target, h25]; rfl)]
  rw [seqN (a := .seq (.region _) (.cond _ _ _)) (by simp [exec, runOps, wantedA, stepOp, pureOp, allocOp, readOp, effOp, ev, evs, evO, Env.get_cons, putE, binA, intBin, unA, AV.fit, AV.toCells, partC, partP, mkCells, allP, mkAgg, Cells.len, target]; rfl)]
  rw [seqN (a := .region _) (by simp [exec, runOps, wantedA, stepOp, pureOp, allocOp, readOp, effOp, ev, evs, evO, Env.get_cons, putE, binA, intBin, unA, AV.fit, AV.toCells, partC, partP, mkCells, allP, mkAgg, Cells.len, target, extractA, spliceC, splice, h33]; rfl)]
  show _ = _
  kernel_rfl
theorem p17_word_true (h12 : ∀ σ, C 12 [.p (ty b sz)] σ = some (.ret (.p (.int .i64 3)), σ)) (u : List UInt8)  (h25 : ∀ σ, C 25 [.p (.str s), .p (.str [32])] σ = some (.ret (.p (.str u)), σ)) (h32 : ∀ σ, C 32 [.p (.str u)] σ = some (.ret (.p (.str [116, 114, 117, 101])), σ)) :
    ansV (runFunc C D L lit17 [.p (val 2 n s t), .p (ty b sz)] []) = some (.tup [val 3 0 [] true, done]) := by
  unfold ty val at *
  rw [runFunc_eq, front17_eq]
  unfold front17
  rw [seqN (a := .region _) (by simp [params, exec, runOps, wantedA, stepOp, pureOp, allocOp, ev, Env.get_cons, putE, AV.fit, AV.toCells, mkCells, allP, Cells.len]; rfl)]
  rw [seqN (a := .region _) (by simp [exec, runOps, wantedA, stepOp, pureOp, allocOp, readOp, ev, evs, Env.get_cons, putE, partC, partP, target, h12]; rfl)]
  rw [seqN (a := .block _ _) (by simp [blk17, exec, runOps, wantedA, stepOp, pureOp, allocOp, readOp, effOp, ev, evs, evO, Env.get_cons, putE, binA, intBin, unA, AV.fit, AV.toCells, partC, partP, mkCells, allP, mkAgg, Cells.len, target]; rfl)]
  unfold tail17
  rw [seqN (a := .region _) (by simp [exec, runOps, wantedA, stepOp, pureOp, allocOp, readOp, effOp, ev, evs, evO, Env.get_cons, putE, binA, intBin, unA, AV.fit, AV.toCells, partC, partP, mkCells, allP, mkAgg, Cells.len, target, h25]; rfl)]
  rw [seqR (a := .seq (.region _) (.cond _ _ _)) (by simp [exec, runOps, wantedA, stepOp, pureOp, allocOp, readOp, effOp, ev, evs, evO, Env.get_cons, putE, binA, intBin, unA, AV.fit, AV.toCells, partC, partP, mkCells, allP, mkAgg, Cells.len, target, strBin, evParts, fillA, spliceC, splice, AV.cells, h32]; rfl)]
  show _ = _
  kernel_rfl
theorem p17_word_false (h12 : ∀ σ, C 12 [.p (ty b sz)] σ = some (.ret (.p (.int .i64 3)), σ)) (u : List UInt8)  (h25 : ∀ σ, C 25 [.p (.str s), .p (.str [32])] σ = some (.ret (.p (.str u)), σ)) (h32 : ∀ σ, C 32 [.p (.str u)] σ = some (.ret (.p (.str [102, 97, 108, 115, 101])), σ)) :
    ansV (runFunc C D L lit17 [.p (val 2 n s t), .p (ty b sz)] []) = some (.tup [val 3 0 [] false, done]) := by
  unfold ty val at *
  rw [runFunc_eq, front17_eq]
  unfold front17
  rw [seqN (a := .region _) (by simp [params, exec, runOps, wantedA, stepOp, pureOp, allocOp, ev, Env.get_cons, putE, AV.fit, AV.toCells, mkCells, allP, Cells.len]; rfl)]
  rw [seqN (a := .region _) (by simp [exec, runOps, wantedA, stepOp, pureOp, allocOp, readOp, ev, evs, Env.get_cons, putE, partC, partP, target, h12]; rfl)]
  rw [seqN (a := .block _ _) (by simp [blk17, exec, runOps, wantedA, stepOp, pureOp, allocOp, readOp, effOp, ev, evs, evO, Env.get_cons, putE, binA, intBin, unA, AV.fit, AV.toCells, partC, partP, mkCells, allP, mkAgg, Cells.len, target]; rfl)]
  unfold tail17
  rw [seqN (a := .region _) (by simp [exec, runOps, wantedA, stepOp, pureOp, allocOp, readOp, effOp, ev, evs, evO, Env.get_cons, putE, binA, intBin, unA, AV.fit, AV.toCells, partC, partP, mkCells, allP, mkAgg, Cells.len, target, h25]; rfl)]
  rw [seqR (a := .seq (.region _) (.cond _ _ _)) (by simp [exec, runOps, wantedA, stepOp, pureOp, allocOp, readOp, effOp, ev, evs, evO, Env.get_cons, putE, binA, intBin, unA, AV.fit, AV.toCells, partC, partP, mkCells, allP, mkAgg, Cells.len, target, strBin, evParts, fillA, spliceC, splice, AV.cells, h32]; rfl)]
  show _ = _
  kernel_rfl
theorem p17_word_bad (h12 : ∀ σ, C 12 [.p (ty b sz)] σ = some (.ret (.p (.int .i64 3)), σ)) (u w : List UInt8) (b1 : (w == [116, 114, 117, 101]) = false) (b2 : (w == [102, 97, 108, 115, 101]) = false) (h25 : ∀ σ, C 25 [.p (.str s), .p (.str [32])] σ = some (.ret (.p (.str u)), σ)) (h32 : ∀ σ, C 32 [.p (.str u)] σ = some (.ret (.p (.str w)), σ)) :
    ansV (runFunc C D L lit17 [.p (val 2 n s t), .p (ty b sz)] []) = some (.tup [nullV, .str [50, 50, 48, 49, 56]]) := by
  unfold ty val at *
  rw [runFunc_eq, front17_eq]
  unfold front17
  rw [seqN (a := .region _) (by simp [params, exec, runOps, wantedA, stepOp, pureOp, allocOp, ev, Env.get_cons, putE, AV.fit, AV.toCells, mkCells, allP, Cells.len]; rfl)]
  rw [seqN (a := .region _) (by simp [exec, runOps, wantedA, stepOp, pureOp, allocOp, readOp, ev, evs, Env.get_cons, putE, partC, partP, target, h12]; rfl)]
  rw [seqN (a := .block _ _) (by simp [blk17, exec, runOps, wantedA, stepOp, pureOp, allocOp, readOp, effOp, ev, evs, evO, Env.get_cons, putE, binA, intBin, unA, AV.fit, AV.toCells, partC, partP, mkCells, allP, mkAgg, Cells.len, target]; rfl)]
  unfold tail17
  rw [seqN (a := .region _) (by simp [exec, runOps, wantedA, stepOp, pureOp, allocOp, readOp, effOp, ev, evs, evO, Env.get_cons, putE, binA, intBin, unA, AV.fit, AV.toCells, partC, partP, mkCells, allP, mkAgg, Cells.len, target, h25]; rfl)]
  rw [seqR (a := .seq (.region _) (.cond _ _ _)) (by simp [exec, runOps, wantedA, stepOp, pureOp, allocOp, readOp, effOp, ev, evs, evO, Env.get_cons, putE, binA, intBin, unA, AV.fit, AV.toCells, partC, partP, mkCells, allP, mkAgg, Cells.len, target, strBin, evParts, fillA, spliceC, splice, AV.cells, h32, b1, b2]; rfl)]
  show _ = _
  kernel_rfl
end
end Go.Ab.Cols

/- TypesCasts: what a value comes to: the program and the document alike. -/
set_option maxRecDepth 1000000
namespace Go.Ab.Cols
open Go Go.Ab Go.Ab.Names
theorem itoa31 (n : Int) (h1 : -9223372036854775808 ≤ n) (h2 : n ≤ 9223372036854775807) (L m : Nat) (σ : Heap) : (cAt TC L (m + 1)).1 31 [.p (.int .i64 n), .p (.int .i64 10)] σ = some (.ret (.p (.str (Lib.itoa n))), σ) := by
  refine call_ext (ps := [.int .i64 n, .int .i64 10]) (g := itoaO) (fz := true) rfl ?_ σ
  exact if_pos ⟨rfl, rfl, rfl, h1, h2⟩
theorem num33 (b : Int) (hb : b = 1 ∨ b = 2 ∨ b = 3) (s : List UInt8) (h : s.length ≤ 1048576) (L m : Nat) (σ : Heap) : (cAt TC L (m + 1)).1 33 [.p (.str s), .p (ty b 0)] σ = some (.ret (.p (.tup (numZ b s))), σ) := by
  refine call_ext (ps := [.str s, ty b 0]) (g := numO) (fz := true) rfl ?_ σ
  exact if_pos ⟨rfl, rfl, hb, rfl, h⟩
theorem padR26 (b sz : Int) (hb : b = 4 ∨ b = 5) (hz : sz ≤ 100) (u : List UInt8) (L m : Nat) (σ : Heap) : (cAt TC L (m + 2)).1 26 [.p (.str u), .p (ty b sz)] σ = some (.ret (.p (.tup (padR b sz u))), σ) := by
  unfold padR
  by_cases h : (u.length : Int) ≤ sz
  · rw [if_pos h]; exact pad26 b sz hb u h hz L m σ
  · rw [if_neg h]; exact long26 b sz u (by omega) L m σ
/-- an answer: a value and a state -/
def IsAns (l : List PV) : Prop := ∃ (a m : Int) (y e : List UInt8) (v : Bool), l = [val a m y v, .str e]
theorem padR_ans (b sz : Int) (u : List UInt8) : IsAns (padR b sz u) := by
  unfold padR
  split
  · exact ⟨_, _, _, _, _, rfl⟩
  · exact ⟨_, _, _, _, _, rfl⟩
theorem numZ_ans (b : Int) (s : List UInt8) : IsAns (numZ b s) := by
  unfold numZ
  split
  · exact ⟨_, _, _, _, _, rfl⟩
  · split
    · exact ⟨_, _, _, _, _, rfl⟩
    · split
      · exact ⟨_, _, _, _, _, rfl⟩
      · exact ⟨_, _, _, _, _, rfl⟩
theorem truthZ_ans (s : List UInt8) : IsAns (truthZ s) := by
  unfold truthZ
  split
  · exact ⟨_, _, _, _, _, rfl⟩
  · split
    · exact ⟨_, _, _, _, _, rfl⟩
    · exact ⟨_, _, _, _, _, rfl⟩
theorem assignZ_ans (b sz k n : Int) (s : List UInt8) (t : Bool) : IsAns (assignZ b sz k n s t) := by
  unfold assignZ
  repeat (first | exact ⟨_, _, _, _, _, rfl⟩ | split)
theorem trimB_le (s : List UInt8) : (Lib.trimB s 32).length ≤ s.length := by
  have h := rtrim_le s
  have h2 : (Lib.trimB s 32).length ≤ (rtrim s).length := (List.dropWhile_sublist (fun x : UInt8 => x == 32) (l := rtrim s)).length_le
  omega
theorem cast17 (b sz k n : Int) (s : List UInt8) (t : Bool) (hv : isVal k n s t) (h1 : -9223372036854775808 ≤ n) (h2 : n ≤ 9223372036854775807) (hs : s.length ≤ 1048576) (L m : Nat) (hL : 1048580 ≤ L) (σ : Heap) :
    (cAt TC L (m + 5)).1 17 [.p (val k n s t), .p (ty b sz)] σ = some (.ret (.p (.tup (castZ b sz k n s t))), σ) := by
  refine call_ans (ps := [val k n s t, ty b sz]) (n := m + 4) (af := lit17) (fz := true) rfl (by kernel_rfl) ?_ σ
  have h12 := kind12 b sz L (m + 2)
  have h14 := assign14 b sz k n s t hv h1 h2 (by omega) L m
  have h26 := fun hb hz u => padR26 b sz hb hz u L (m + 2)
  have h31 := itoa31 n h1 h2 L (m + 3)
  have h25 := trim25 s (by omega) L (m + 3)
  have hle := trimB_le s
  have h33 := fun hb => num33 b hb (Lib.trimB s 32) (by omega) L (m + 3)
  have h32 := lower32 (Lib.trimB s 32) (by omega) L (m + 3) hL
  generalize (cAt TC L (m + 4)).1 = C at h12 h14 h26 h31 h25 h33 h32 ⊢
  generalize (cAt TC L (m + 4)).2 = D
  show ansV (runFunc C D L lit17 [.p (val k n s t), .p (ty b sz)] []) = _
  obtain ⟨aa, am, ay, ae, av, ha⟩ := assignZ_ans b sz k n s t
  unfold castZ
  rcases kind_cases b sz with ⟨_, hk⟩ | ⟨hb, rfl, hk⟩ | ⟨hb, z1, z2, hk⟩ | ⟨rfl, rfl, hk⟩ <;> rw [hk] at h12 ⊢
  · rw [if_pos rfl]
    exact p17_none C D L b sz n s t h12 k
  · rw [if_neg (by decide)]
    rcases hv with ⟨rfl, rfl, rfl, rfl⟩ | ⟨rfl, rfl, rfl⟩ | ⟨rfl, rfl, rfl⟩ | ⟨rfl, rfl, rfl⟩
    · rw [if_pos rfl]
      have e : assignZ b 0 0 0 [] false = [null, done] := by unfold assignZ; rw [hk]; rfl
      rw [e] at h14
      exact p17_assign_0_1 C D L b 0 0 [] false h12 0 0 [] _ false h14
    · rw [if_neg (by decide), if_neg (by decide), if_pos rfl, ha]
      rw [ha] at h14
      exact p17_assign_1_1 C D L b 0 n [] false h12 aa am ay ae av h14
    · rw [if_neg (by decide), if_neg (by decide), if_neg (by decide), if_neg (by decide), if_neg (by decide)]
      obtain ⟨a, q, y, e, v, hz⟩ := numZ_ans b (Lib.trimB s 32)
      have h33 := h33 hb
      rw [hz] at h33 ⊢
      exact p17_number C D L b 0 0 s false h12 _ y e a q v h25 h33
    · rw [if_neg (by decide), if_neg (by decide), if_neg (by decide), if_pos (by decide)]
      exact p17_other_3_1 C D L b 0 0 [] t h12
  · rw [if_neg (by decide)]
    have h26 := h26 hb z2
    rcases hv with ⟨rfl, rfl, rfl, rfl⟩ | ⟨rfl, rfl, rfl⟩ | ⟨rfl, rfl, rfl⟩ | ⟨rfl, rfl, rfl⟩
    · rw [if_pos rfl]
      have e : assignZ b sz 0 0 [] false = [null, done] := by unfold assignZ; rw [hk]; rfl
      rw [e] at h14
      exact p17_assign_0_2 C D L b sz 0 [] false h12 0 0 [] _ false h14
    · rw [if_neg (by decide), if_pos rfl, if_neg (by decide), if_pos rfl]
      have h26 := h26 (Lib.itoa n)
      obtain ⟨a, q, y, e, v, hz⟩ := padR_ans b sz (Lib.itoa n)
      rw [hz] at h26 ⊢
      exact p17_num C D L b sz n [] false h12 _ h31 a q y v e h26
    · rw [if_neg (by decide), if_pos rfl, if_pos rfl]
      by_cases hl : (s.length : Int) ≤ sz
      · have h26 := h26 s
        have e : s.take sz.toNat = s := List.take_of_length_le (by omega)
        rw [e]
        unfold padR at h26
        rw [if_pos hl] at h26
        exact p17_short C D L b sz 0 s false h12 hl 2 0 _ false _ h26
      · have h26 := h26 (s.take sz.toNat)
        unfold padR at h26
        rw [if_pos (by rw [List.length_take]; omega)] at h26
        exact p17_long C D L b sz 0 s false h12 (by omega) (by omega) 2 0 _ false _ h26
    · rw [if_neg (by decide), if_pos rfl, if_neg (by decide), if_neg (by decide)]
      have h26 := h26 (truthT t)
      obtain ⟨a, q, y, e, v, hz⟩ := padR_ans b sz (truthT t)
      rw [hz] at h26 ⊢
      cases t
      · exact p17_false C D L b sz 0 [] h12 a q y v e h26
      · exact p17_true C D L b sz 0 [] h12 a q y v e h26
  · rw [if_neg (by decide)]
    rcases hv with ⟨rfl, rfl, rfl, rfl⟩ | ⟨rfl, rfl, rfl⟩ | ⟨rfl, rfl, rfl⟩ | ⟨rfl, rfl, rfl⟩
    · rw [if_pos rfl]
      have e : assignZ 6 0 0 0 [] false = [null, done] := by unfold assignZ; rw [hk]; rfl
      rw [e] at h14
      exact p17_assign_0_3 C D L 6 0 0 [] false h12 0 0 [] _ false h14
    · rw [if_neg (by decide), if_neg (by decide), if_neg (by decide), if_pos (by decide)]
      exact p17_other_1_3 C D L 6 0 n [] false h12
    · rw [if_neg (by decide), if_neg (by decide), if_neg (by decide), if_neg (by decide), if_pos rfl]
      unfold truthZ
      generalize Cast.lowP (Lib.trimB s 32) = w at h32 ⊢
      by_cases w1 : w = [116, 114, 117, 101]
      · rw [if_pos w1]
        subst w1
        exact p17_word_true C D L 6 0 0 s false h12 _ h25 h32
      · rw [if_neg w1]
        by_cases w2 : w = [102, 97, 108, 115, 101]
        · rw [if_pos w2]
          subst w2
          exact p17_word_false C D L 6 0 0 s false h12 _ h25 h32
        · rw [if_neg w2]
          exact p17_word_bad C D L 6 0 0 s false h12 _ w (by simpa using w1) (by simpa using w2) h25 h32
    · rw [if_neg (by decide), if_neg (by decide), if_pos rfl, ha]
      rw [ha] at h14
      exact p17_assign_3_3 C D L 6 0 0 [] t h12 aa am ay ae av h14
theorem cast18 (b sz k n : Int) (s : List UInt8) (t : Bool) (hv : isVal k n s t) (h1 : -9223372036854775808 ≤ n) (h2 : n ≤ 9223372036854775807) (hs : s.length ≤ 1048576) (L m : Nat) (hL : 1048580 ≤ L) (σ : Heap) :
    (cAt TC (L + 102) (m + 6)).1 18 [.p (val k n s t), .p (ty b sz)] σ = some (.ret (.p (.tup (castZ b sz k n s t))), σ) := by
  refine call_ans (ps := [val k n s t, ty b sz]) (n := m + 5) (af := lit18) (fz := true) rfl (by kernel_rfl) ?_ σ
  have h13 := kind13 b sz (L + 102) (m + 3)
  have h16 := assign16 b sz k n s t hv (by omega) L (m + 1) (by omega)
  have h30 := fun hb (u : List UInt8) (hz : sz ≤ 100) => padded30 b sz hb hz u L (m + 3)
  have h23 := digits23 n h1 h2 (L + 102) (m + 3) (by omega)
  have h35 := trimmed35 s (L + 102) (m + 3) (by omega) (by omega)
  have hle := trimB_le s
  have h34 := fun hb => number34 b hb (Lib.trimB s 32) (by omega) (L + 102) (m + 1) (by omega)
  have h36 := truth36 (Lib.trimB s 32) (by omega) (L + 102) (m + 4) (by omega)
  generalize (cAt TC (L + 102) (m + 5)).1 = C at h13 h16 h30 h23 h35 h34 h36 ⊢
  generalize (cAt TC (L + 102) (m + 5)).2 = D
  generalize L + 102 = L
  show ansV (runFunc C D L lit18 [.p (val k n s t), .p (ty b sz)] []) = _
  obtain ⟨aa, am, ay, ae, av, ha⟩ := assignZ_ans b sz k n s t
  unfold castZ
  rcases kind_cases b sz with ⟨_, hk⟩ | ⟨hb, rfl, hk⟩ | ⟨hb, z1, z2, hk⟩ | ⟨rfl, rfl, hk⟩ <;> rw [hk] at h13 ⊢
  · rw [if_pos rfl]
    exact d18_none C D L b sz k n s t h13
  · rw [if_neg (by decide)]
    rcases hv with ⟨rfl, rfl, rfl, rfl⟩ | ⟨rfl, rfl, rfl⟩ | ⟨rfl, rfl, rfl⟩ | ⟨rfl, rfl, rfl⟩
    · rw [if_pos rfl]
      have e : assignZ b 0 0 0 [] false = [null, done] := by unfold assignZ; rw [hk]; rfl
      rw [e] at h16
      exact d18_assign_0_1 C D L b 0 0 [] false h13 0 0 [] _ false h16
    · rw [if_neg (by decide), if_neg (by decide), if_pos rfl, ha]
      rw [ha] at h16
      exact d18_assign_1_1 C D L b 0 n [] false h13 aa am ay ae av h16
    · rw [if_neg (by decide), if_neg (by decide), if_neg (by decide), if_neg (by decide), if_neg (by decide)]
      obtain ⟨a, q, y, e, v, hz⟩ := numZ_ans b (Lib.trimB s 32)
      have h34 := h34 hb
      rw [hz] at h34 ⊢
      exact d18_number C D L b 0 0 s false h13 _ y e a q v h35 h34
    · rw [if_neg (by decide), if_neg (by decide), if_neg (by decide), if_pos (by decide)]
      exact d18_other_3_1 C D L b 0 0 [] t h13
  · rw [if_neg (by decide)]
    have h30 := fun u => h30 hb u z2
    rcases hv with ⟨rfl, rfl, rfl, rfl⟩ | ⟨rfl, rfl, rfl⟩ | ⟨rfl, rfl, rfl⟩ | ⟨rfl, rfl, rfl⟩
    · rw [if_pos rfl]
      have e : assignZ b sz 0 0 [] false = [null, done] := by unfold assignZ; rw [hk]; rfl
      rw [e] at h16
      exact d18_assign_0_2 C D L b sz 0 [] false h13 0 0 [] _ false h16
    · rw [if_neg (by decide), if_pos rfl, if_neg (by decide), if_pos rfl]
      unfold padR
      by_cases hl : ((Lib.itoa n).length : Int) ≤ sz
      · rw [if_pos hl]
        exact d18_num_fit C D L b sz n [] false h13 _ h23 (by omega) _ (h30 _)
      · rw [if_neg hl]
        exact d18_num_long C D L b sz n [] false h13 _ h23 (by omega)
    · rw [if_neg (by decide), if_pos rfl, if_pos rfl]
      exact d18_text C D L b sz 0 s false h13 _ _ (by omega) rfl (h30 _)
    · rw [if_neg (by decide), if_pos rfl, if_neg (by decide), if_neg (by decide)]
      unfold padR
      cases t
      · by_cases hl : ((truthT false).length : Int) ≤ sz
        · rw [if_pos hl]
          exact d18_false_fit C D L b sz 0 [] h13 _ h23 (by simp [truthT] at hl; omega) _ (h30 _)
        · rw [if_neg hl]
          exact d18_false_long C D L b sz 0 [] h13 _ h23 (by simp [truthT] at hl; omega)
      · by_cases hl : ((truthT true).length : Int) ≤ sz
        · rw [if_pos hl]
          exact d18_true_fit C D L b sz 0 [] h13 _ h23 (by simp [truthT] at hl; omega) _ (h30 _)
        · rw [if_neg hl]
          exact d18_true_long C D L b sz 0 [] h13 _ h23 (by simp [truthT] at hl; omega)
  · rw [if_neg (by decide)]
    rcases hv with ⟨rfl, rfl, rfl, rfl⟩ | ⟨rfl, rfl, rfl⟩ | ⟨rfl, rfl, rfl⟩ | ⟨rfl, rfl, rfl⟩
    · rw [if_pos rfl]
      have e : assignZ 6 0 0 0 [] false = [null, done] := by unfold assignZ; rw [hk]; rfl
      rw [e] at h16
      exact d18_assign_0_3 C D L 6 0 0 [] false h13 0 0 [] _ false h16
    · rw [if_neg (by decide), if_neg (by decide), if_neg (by decide), if_pos (by decide)]
      exact d18_other_1_3 C D L 6 0 n [] false h13
    · rw [if_neg (by decide), if_neg (by decide), if_neg (by decide), if_neg (by decide), if_pos rfl]
      obtain ⟨a, q, y, e, v, hz⟩ := truthZ_ans (Lib.trimB s 32)
      rw [hz] at h36 ⊢
      exact d18_word C D L 6 0 0 s false h13 _ y e a q v h35 h36
    · rw [if_neg (by decide), if_neg (by decide), if_pos rfl, ha]
      rw [ha] at h16
      exact d18_assign_3_3 C D L 6 0 0 [] t h13 aa am ay ae av h16
end Go.Ab.Cols

/- The law TypesCasts, where its parts agree. -/
set_option maxRecDepth 1000000
namespace Go.Ab.Cols
open Go Go.Ab Go.Ab.Names
theorem law5 (C : Oracle) (D : DOracle) (L : Nat) (b s : Int) (r0 r1 r2 r3 v0 v1 v2 v3 : PV) (a n : Int) (x e : List UInt8) (t : Bool)
    (h7 : ∀ σ, C 7 [] σ = some (.ret (.p (.bool true)), σ)) (h15 : ∀ σ, C 15 [.p (.agg [r0, r1, r2, r3])] σ = some (.ret (.p (.agg [v0, v1, v2, v3])), σ))
    (h14 : ∀ σ, C 17 [.p (.agg [v0, v1, v2, v3]), .p (.agg [.int .i64 b, .int .i64 s])] σ = some (.ret (.p (.tup [.agg [.int .i64 a, .int .i64 n, .str x, .bool t], .str e])), σ)) (h16 : ∀ σ, C 18 [.p (.agg [v0, v1, v2, v3]), .p (.agg [.int .i64 b, .int .i64 s])] σ = some (.ret (.p (.tup [.agg [.int .i64 a, .int .i64 n, .str x, .bool t], .str e])), σ)) :
    ansV (runFunc C D L lit5 [.p (.agg [r0, r1, r2, r3]), .p (.int .i64 b), .p (.int .i64 s)] []) = some (.bool true) := by
  simp only [runFunc, lit5]
  rw [seqN (a := .region _) (by simp [params, exec, runOps, wantedA, stepOp, pureOp, allocOp, ev, Env.get_cons, putE, AV.fit, AV.toCells, Cells.len]; rfl)]
  rw [seqN (a := .region _) (by simp [exec, runOps, wantedA, stepOp, pureOp, allocOp, readOp, effOp, ev, Env.get_cons, putE, AV.fit, AV.toCells, mkCells, allP, mkAgg, Cells.len, evParts, fillA, splice, spliceC, AV.cells]; rfl)]
  rw [seqN (a := .draw _ _ _) (by
    unfold exec drawExec
    rw [drawR (v := .p (.agg [r0, r1, r2, r3])) (id := 0) (by simp [wantedA]) rfl (by simp [keepE, readsOf, opds, tmpsOf, stillOp, pureOp, refOf, refV, ev, Env.get_cons, readOp, oneH, partC, partP])]
    simp only [putE, Nat.reduceAdd]
    rw [drawE (by simp [wantedA]) rfl (by simp [keepE, readsOf, opds, tmpsOf, runOps, wantedA, ev, evs, target, Env.get_cons, putE, h15]; rfl)]
    simp only [carry, Env.get_cons, reduceIte, Nat.reduceEqDiff, Nat.reduceAdd]
    rw [drawR (v := .p (.agg [.int .i64 b, .int .i64 s])) (id := 1) (by simp [wantedA]) rfl (by simp [keepE, readsOf, opds, tmpsOf, stillOp, pureOp, refOf, refV, ev, Env.get_cons, readOp, oneH, partC, partP])]
    simp only [putE, Nat.reduceAdd]
    rw [drawE (by simp [wantedA]) rfl (by simp [keepE, readsOf, opds, tmpsOf, runOps, wantedA, ev, evs, target, Env.get_cons, putE, h14]; rfl)]
    simp only [carry, Env.get_cons, reduceIte, Nat.reduceEqDiff, Nat.reduceAdd]
    rw [drawS (v := .p (.tup [.agg [.int .i64 a, .int .i64 n, .str x, .bool t], .str e])) (by simp [wantedA]) rfl (by simp [keepE, readsOf, opds, tmpsOf, stillOp, pureOp, ev, Env.get_cons])]
    simp only [putE, Nat.reduceAdd]
    rw [drawS (v := .p (.agg [.int .i64 a, .int .i64 n, .str x, .bool t])) (by simp [wantedA]) rfl (by simp [keepE, readsOf, opds, tmpsOf, stillOp, pureOp, ev, Env.get_cons, extractA])]
    simp only [putE, Nat.reduceAdd]
    rw [drawS (v := .p (.str e)) (by simp [wantedA]) rfl (by simp [keepE, readsOf, opds, tmpsOf, stillOp, pureOp, ev, Env.get_cons, extractA])]
    simp only [putE, Nat.reduceAdd]
    rw [drawE (by simp [wantedA]) rfl (by simp [keepE, readsOf, opds, tmpsOf, runOps, wantedA, stepOp, pureOp, allocOp, putE, mkCells, allP]; rfl)]
    simp only [carry, Env.get_cons, reduceIte, Nat.reduceAdd]
    rw [drawE (by simp [wantedA]) rfl (by simp [keepE, readsOf, opds, tmpsOf, runOps, wantedA, stepOp, pureOp, allocOp, readOp, effOp, ev, Env.get_cons, putE, AV.fit, AV.toCells, Cells.len, splice, spliceC]; rfl)]
    simp only [carry, Nat.reduceAdd]
    rw [drawS (v := .p (.str e)) (by simp [wantedA]) rfl (by simp [keepE, readsOf, opds, tmpsOf, stillOp, pureOp, ev, Env.get_cons])]
    simp only [putE, Nat.reduceAdd]
    simp only [drawRun]
    refine if_pos ?_
    show _ = _
    kernel_rfl)]
  rw [seqN (a := .draw _ _ _) (by
    unfold exec drawExec
    rw [drawR (v := .p (.agg [r0, r1, r2, r3])) (id := 0) (by simp [wantedA]) rfl (by simp [keepE, readsOf, opds, tmpsOf, stillOp, pureOp, refOf, refV, ev, Env.get_cons, readOp, oneH, partC, partP])]
    simp only [putE, Nat.reduceAdd]
    rw [drawE (by simp [wantedA]) rfl (by simp [keepE, readsOf, opds, tmpsOf, runOps, wantedA, ev, evs, target, Env.get_cons, putE, h15]; rfl)]
    simp only [carry, Env.get_cons, reduceIte, Nat.reduceEqDiff, Nat.reduceAdd]
    rw [drawR (v := .p (.agg [.int .i64 b, .int .i64 s])) (id := 1) (by simp [wantedA]) rfl (by simp [keepE, readsOf, opds, tmpsOf, stillOp, pureOp, refOf, refV, ev, Env.get_cons, readOp, oneH, partC, partP])]
    simp only [putE, Nat.reduceAdd]
    rw [drawE (by simp [wantedA]) rfl (by simp [keepE, readsOf, opds, tmpsOf, runOps, wantedA, ev, evs, target, Env.get_cons, putE, h16]; rfl)]
    simp only [carry, Env.get_cons, reduceIte, Nat.reduceEqDiff, Nat.reduceAdd]
    rw [drawS (v := .p (.tup [.agg [.int .i64 a, .int .i64 n, .str x, .bool t], .str e])) (by simp [wantedA]) rfl (by simp [keepE, readsOf, opds, tmpsOf, stillOp, pureOp, ev, Env.get_cons])]
    simp only [putE, Nat.reduceAdd]
    rw [drawS (v := .p (.agg [.int .i64 a, .int .i64 n, .str x, .bool t])) (by simp [wantedA]) rfl (by simp [keepE, readsOf, opds, tmpsOf, stillOp, pureOp, ev, Env.get_cons, extractA])]
    simp only [putE, Nat.reduceAdd]
    rw [drawS (v := .p (.str e)) (by simp [wantedA]) rfl (by simp [keepE, readsOf, opds, tmpsOf, stillOp, pureOp, ev, Env.get_cons, extractA])]
    simp only [putE, Nat.reduceAdd]
    rw [drawE (by simp [wantedA]) rfl (by simp [keepE, readsOf, opds, tmpsOf, runOps, wantedA, stepOp, pureOp, allocOp, putE, mkCells, allP]; rfl)]
    simp only [carry, Env.get_cons, reduceIte, Nat.reduceAdd]
    rw [drawE (by simp [wantedA]) rfl (by simp [keepE, readsOf, opds, tmpsOf, runOps, wantedA, stepOp, pureOp, allocOp, readOp, effOp, ev, Env.get_cons, putE, AV.fit, AV.toCells, Cells.len, splice, spliceC]; rfl)]
    simp only [carry, Nat.reduceAdd]
    rw [drawS (v := .p (.str e)) (by simp [wantedA]) rfl (by simp [keepE, readsOf, opds, tmpsOf, stillOp, pureOp, ev, Env.get_cons])]
    simp only [putE, Nat.reduceAdd]
    simp only [drawRun]
    refine if_pos ?_
    show _ = _
    kernel_rfl)]
  rw [seqN (a := .region _) (by simp [exec, runOps, wantedA, stepOp, pureOp, allocOp, readOp, ev, evs, Env.get_cons, putE, target, partC, partP, binA, eqP, eqPs, strBin, h7]; rfl)]
  show _ = _
  kernel_rfl

end Go.Ab.Cols
