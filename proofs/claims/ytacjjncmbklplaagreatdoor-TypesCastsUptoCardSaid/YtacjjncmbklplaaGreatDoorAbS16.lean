/- The laws on columns' values: a cast to the own type. -/
import Derived.Test.YtacjjncmbklplaaGreatDoorAbS10
set_option linter.unusedSectionVars false
set_option linter.unusedSimpArgs false
set_option linter.unusedVariables false
set_option maxRecDepth 1000000
namespace Go.Ab.Cols
open Go Go.Ab Go.Ab.Names
theorem condT {C : Oracle} {L : Nat} {c : Opd} {a b : ACode} {st : St} (h : ev st.env c = some (.p (.bool true))) : exec C L (.cond c a b) st = exec C L a st := by
  simp only [exec, h]
theorem condF {C : Oracle} {L : Nat} {c : Opd} {a b : ACode} {st : St} (h : ev st.env c = some (.p (.bool false))) : exec C L (.cond c a b) st = exec C L b st := by
  simp only [exec, h]
theorem blockR {C : Oracle} {L id : Nat} {b : ACode} {st st1 : St} (h : exec C L b st = some (.ret, st1)) : exec C L (.block id b) st = some (.ret, st1) := by
  simp only [exec, h]
def tail17 : ACode := ((ACode.region [{ dst := some 84, op := AOp.fieldAddr 2 (Opd.t 2), guard := none }, { dst := some 85, op := AOp.load false 1 (Opd.t 84), guard := none }, { dst := some 86, op := AOp.call (Opd.c (AV.p (PV.fn 25))) [Opd.t 85, Opd.c (AV.p (PV.str [32]))], guard := none }, { dst := some 7, op := AOp.mv (Opd.t 86), guard := none }]).seq (((ACode.region [{ dst := some 87, op := AOp.mv (Opd.t 6), guard := none }, { dst := some 88, op := AOp.bin (Bin.plain BinOp.eql) (Opd.t 87) (Opd.c (AV.p (PV.int IntKind.i64 (3)))), guard := none }]).seq (ACode.cond (Opd.t 88) ((ACode.region [{ dst := some 89, op := AOp.mv (Opd.t 7), guard := none }, { dst := some 90, op := AOp.call (Opd.c (AV.p (PV.fn 32))) [Opd.t 89], guard := none }, { dst := some 8, op := AOp.mv (Opd.t 90), guard := none }]).seq (((ACode.region [{ dst := some 91, op := AOp.mv (Opd.t 8), guard := none }, { dst := some 92, op := AOp.bin (Bin.plain BinOp.neq) (Opd.t 91) (Opd.c (AV.p (PV.str [116, 114, 117, 101]))), guard := none }, { dst := some 93, op := AOp.mv (Opd.t 92), guard := none }, { dst := some 94, op := AOp.mv (Opd.t 8), guard := some (93, true) }, { dst := some 95, op := AOp.bin (Bin.plain BinOp.neq) (Opd.t 94) (Opd.c (AV.p (PV.str [102, 97, 108, 115, 101]))), guard := some (93, true) }, { dst := some 96, op := AOp.pick (Opd.t 93) (Opd.t 95) (Opd.c (AV.p (PV.bool false))), guard := none }]).seq (ACode.cond (Opd.t 96) ((ACode.region [{ dst := some 97, op := AOp.build [AV.p (PV.int IntKind.i64 (0)), AV.p (PV.int IntKind.i64 (0)), AV.p (PV.str []), AV.p (PV.bool false)] [], guard := none }, { dst := none, op := AOp.store 4 (Opd.t 4) (Opd.t 97), guard := none }, { dst := some 5, op := AOp.mv (Opd.c (AV.p (PV.str [50, 50, 48, 49, 56]))), guard := none }]).seq ACode.ret) ACode.skip)).seq ((ACode.region [{ dst := some 98, op := AOp.mv (Opd.t 8), guard := none }, { dst := some 99, op := AOp.bin (Bin.plain BinOp.eql) (Opd.t 98) (Opd.c (AV.p (PV.str [116, 114, 117, 101]))), guard := none }, { dst := some 100, op := AOp.build [AV.p (PV.int IntKind.i64 (0)), AV.p (PV.int IntKind.i64 (0)), AV.p (PV.str []), AV.p (PV.bool false)] [(0, 1, Opd.c (AV.p (PV.int IntKind.i64 (3)))), (3, 1, Opd.t 99)], guard := none }, { dst := none, op := AOp.store 4 (Opd.t 4) (Opd.t 100), guard := none }, { dst := some 5, op := AOp.mv (Opd.c (AV.p (PV.str [48, 48, 48, 48, 48]))), guard := none }]).seq ACode.ret))) ACode.skip)).seq ((ACode.region [{ dst := some 101, op := AOp.mv (Opd.t 7), guard := none }, { dst := some 102, op := AOp.load true 2 (Opd.t 3), guard := none }, { dst := some 103, op := AOp.call (Opd.c (AV.p (PV.fn 33))) [Opd.t 101, Opd.t 102], guard := none }, { dst := some 104, op := AOp.extract 0 (Opd.t 103), guard := none }, { dst := some 105, op := AOp.extract 1 (Opd.t 103), guard := none }, { dst := none, op := AOp.store 4 (Opd.t 4) (Opd.t 104), guard := none }, { dst := some 5, op := AOp.mv (Opd.t 105), guard := none }]).seq ACode.ret)))
def blk17 : ACode := ((ACode.region [{ dst := some 12, op := AOp.mv (Opd.t 6), guard := none }, { dst := some 13, op := AOp.bin (Bin.plain BinOp.eql) (Opd.t 12) (Opd.c (AV.p (PV.int IntKind.i64 (0)))), guard := none }, { dst := some 11, op := AOp.mv (Opd.t 13), guard := none }]).seq (ACode.cond (Opd.t 11) ((ACode.region [{ dst := some 14, op := AOp.build [AV.p (PV.int IntKind.i64 (0)), AV.p (PV.int IntKind.i64 (0)), AV.p (PV.str []), AV.p (PV.bool false)] [], guard := none }, { dst := none, op := AOp.store 4 (Opd.t 4) (Opd.t 14), guard := none }, { dst := some 5, op := AOp.mv (Opd.c (AV.p (PV.str [52, 50, 56, 48, 52]))), guard := none }]).seq ACode.ret) ((ACode.region [{ dst := some 16, op := AOp.fieldAddr 0 (Opd.t 2), guard := none }, { dst := some 17, op := AOp.load false 1 (Opd.t 16), guard := none }, { dst := some 18, op := AOp.bin (Bin.plain BinOp.eql) (Opd.t 17) (Opd.c (AV.p (PV.int IntKind.i64 (2)))), guard := none }, { dst := some 19, op := AOp.mv (Opd.t 18), guard := none }, { dst := some 20, op := AOp.mv (Opd.t 6), guard := some (19, true) }, { dst := some 21, op := AOp.bin (Bin.plain BinOp.eql) (Opd.t 20) (Opd.c (AV.p (PV.int IntKind.i64 (2)))), guard := some (19, true) }, { dst := some 22, op := AOp.pick (Opd.t 19) (Opd.t 21) (Opd.c (AV.p (PV.bool false))), guard := none }, { dst := some 15, op := AOp.mv (Opd.t 22), guard := none }]).seq (ACode.cond (Opd.t 15) ((ACode.draw 15 [0, 1, 0, 4, 12, 0, 32, 124, 255, 0, 1023, 2047, 2047, 8191, 16383] [{ dst := some 23, op := AOp.fieldAddr 2 (Opd.t 2), guard := none }, { dst := some 24, op := AOp.load false 1 (Opd.t 23), guard := none }, { dst := some 25, op := AOp.fieldAddr 2 (Opd.t 2), guard := none }, { dst := some 26, op := AOp.load false 1 (Opd.t 25), guard := none }, { dst := some 27, op := AOp.len true (Opd.t 26), guard := none }, { dst := some 28, op := AOp.fieldAddr 1 (Opd.t 3), guard := none }, { dst := some 29, op := AOp.load false 1 (Opd.t 28), guard := none }, { dst := some 30, op := AOp.minmax false [Opd.t 27, Opd.t 29], guard := none }, { dst := some 31, op := AOp.sliceStr (Opd.t 24) none (some (Opd.t 30)), guard := none }, { dst := some 32, op := AOp.load true 2 (Opd.t 3), guard := none }, { dst := some 33, op := AOp.call (Opd.c (AV.p (PV.fn 26))) [Opd.t 31, Opd.t 32], guard := none }, { dst := some 34, op := AOp.extract 0 (Opd.t 33), guard := none }, { dst := some 35, op := AOp.extract 1 (Opd.t 33), guard := none }, { dst := none, op := AOp.store 4 (Opd.t 4) (Opd.t 34), guard := none }, { dst := some 5, op := AOp.mv (Opd.t 35), guard := none }]).seq ACode.ret) ((ACode.region [{ dst := some 37, op := AOp.fieldAddr 0 (Opd.t 2), guard := none }, { dst := some 38, op := AOp.load false 1 (Opd.t 37), guard := none }, { dst := some 39, op := AOp.bin (Bin.plain BinOp.eql) (Opd.t 38) (Opd.c (AV.p (PV.int IntKind.i64 (0)))), guard := none }, { dst := some 40, op := AOp.mv (Opd.t 39), guard := none }, { dst := some 41, op := AOp.fieldAddr 0 (Opd.t 2), guard := some (40, false) }, { dst := some 42, op := AOp.load false 1 (Opd.t 41), guard := some (40, false) }, { dst := some 43, op := AOp.mv (Opd.t 6), guard := some (40, false) }, { dst := some 44, op := AOp.bin (Bin.plain BinOp.eql) (Opd.t 42) (Opd.t 43), guard := some (40, false) }, { dst := some 45, op := AOp.pick (Opd.t 40) (Opd.c (AV.p (PV.bool true))) (Opd.t 44), guard := none }, { dst := some 36, op := AOp.mv (Opd.t 45), guard := none }]).seq (ACode.cond (Opd.t 36) ((ACode.region [{ dst := some 46, op := AOp.load true 4 (Opd.t 2), guard := none }, { dst := some 47, op := AOp.load true 2 (Opd.t 3), guard := none }, { dst := some 48, op := AOp.call (Opd.c (AV.p (PV.fn 14))) [Opd.t 46, Opd.t 47], guard := none }, { dst := some 49, op := AOp.extract 0 (Opd.t 48), guard := none }, { dst := some 50, op := AOp.extract 1 (Opd.t 48), guard := none }, { dst := none, op := AOp.store 4 (Opd.t 4) (Opd.t 49), guard := none }, { dst := some 5, op := AOp.mv (Opd.t 50), guard := none }]).seq ACode.ret) ((ACode.region [{ dst := some 52, op := AOp.mv (Opd.t 6), guard := none }, { dst := some 53, op := AOp.bin (Bin.plain BinOp.eql) (Opd.t 52) (Opd.c (AV.p (PV.int IntKind.i64 (2)))), guard := none }, { dst := some 54, op := AOp.mv (Opd.t 53), guard := none }, { dst := some 55, op := AOp.fieldAddr 0 (Opd.t 2), guard := some (54, true) }, { dst := some 56, op := AOp.load false 1 (Opd.t 55), guard := some (54, true) }, { dst := some 57, op := AOp.bin (Bin.plain BinOp.eql) (Opd.t 56) (Opd.c (AV.p (PV.int IntKind.i64 (1)))), guard := some (54, true) }, { dst := some 58, op := AOp.pick (Opd.t 54) (Opd.t 57) (Opd.c (AV.p (PV.bool false))), guard := none }, { dst := some 51, op := AOp.mv (Opd.t 58), guard := none }]).seq (ACode.cond (Opd.t 51) ((ACode.draw 9 [0, 1, 3, 0, 15, 31, 31, 127, 255] [{ dst := some 59, op := AOp.fieldAddr 1 (Opd.t 2), guard := none }, { dst := some 60, op := AOp.load false 1 (Opd.t 59), guard := none }, { dst := some 61, op := AOp.call (Opd.c (AV.p (PV.fn 31))) [Opd.t 60, Opd.c (AV.p (PV.int IntKind.i64 (10)))], guard := none }, { dst := some 62, op := AOp.load true 2 (Opd.t 3), guard := none }, { dst := some 63, op := AOp.call (Opd.c (AV.p (PV.fn 26))) [Opd.t 61, Opd.t 62], guard := none }, { dst := some 64, op := AOp.extract 0 (Opd.t 63), guard := none }, { dst := some 65, op := AOp.extract 1 (Opd.t 63), guard := none }, { dst := none, op := AOp.store 4 (Opd.t 4) (Opd.t 64), guard := none }, { dst := some 5, op := AOp.mv (Opd.t 65), guard := none }]).seq ACode.ret) ((ACode.region [{ dst := some 67, op := AOp.mv (Opd.t 6), guard := none }, { dst := some 68, op := AOp.bin (Bin.plain BinOp.eql) (Opd.t 67) (Opd.c (AV.p (PV.int IntKind.i64 (2)))), guard := none }, { dst := some 66, op := AOp.mv (Opd.t 68), guard := none }]).seq (ACode.cond (Opd.t 66) (((ACode.region [{ dst := some 69, op := AOp.fieldAddr 3 (Opd.t 2), guard := none }, { dst := some 70, op := AOp.load false 1 (Opd.t 69), guard := none }]).seq (ACode.cond (Opd.t 70) ((ACode.region [{ dst := some 71, op := AOp.load true 2 (Opd.t 3), guard := none }, { dst := some 72, op := AOp.call (Opd.c (AV.p (PV.fn 26))) [Opd.c (AV.p (PV.str [84, 82, 85, 69])), Opd.t 71], guard := none }, { dst := some 73, op := AOp.extract 0 (Opd.t 72), guard := none }, { dst := some 74, op := AOp.extract 1 (Opd.t 72), guard := none }, { dst := none, op := AOp.store 4 (Opd.t 4) (Opd.t 73), guard := none }, { dst := some 5, op := AOp.mv (Opd.t 74), guard := none }]).seq ACode.ret) ACode.skip)).seq ((ACode.region [{ dst := some 75, op := AOp.load true 2 (Opd.t 3), guard := none }, { dst := some 76, op := AOp.call (Opd.c (AV.p (PV.fn 26))) [Opd.c (AV.p (PV.str [70, 65, 76, 83, 69])), Opd.t 75], guard := none }, { dst := some 77, op := AOp.extract 0 (Opd.t 76), guard := none }, { dst := some 78, op := AOp.extract 1 (Opd.t 76), guard := none }, { dst := none, op := AOp.store 4 (Opd.t 4) (Opd.t 77), guard := none }, { dst := some 5, op := AOp.mv (Opd.t 78), guard := none }]).seq ACode.ret)) ((ACode.region [{ dst := some 80, op := AOp.fieldAddr 0 (Opd.t 2), guard := none }, { dst := some 81, op := AOp.load false 1 (Opd.t 80), guard := none }, { dst := some 82, op := AOp.bin (Bin.plain BinOp.neq) (Opd.t 81) (Opd.c (AV.p (PV.int IntKind.i64 (2)))), guard := none }, { dst := some 79, op := AOp.mv (Opd.t 82), guard := none }]).seq (ACode.cond (Opd.t 79) ((ACode.region [{ dst := some 83, op := AOp.build [AV.p (PV.int IntKind.i64 (0)), AV.p (PV.int IntKind.i64 (0)), AV.p (PV.str []), AV.p (PV.bool false)] [], guard := none }, { dst := none, op := AOp.store 4 (Opd.t 4) (Opd.t 83), guard := none }, { dst := some 5, op := AOp.mv (Opd.c (AV.p (PV.str [52, 50, 56, 48, 52]))), guard := none }]).seq ACode.ret) ACode.skip))))))))))))
def front17 : ACode := (ACode.region [{ dst := some 2, op := AOp.box 4 (Opd.t 0), guard := none }, { dst := some 3, op := AOp.box 2 (Opd.t 1), guard := none }, { dst := some 4, op := AOp.alloc [AV.p (PV.int IntKind.i64 (0)), AV.p (PV.int IntKind.i64 (0)), AV.p (PV.str []), AV.p (PV.bool false)], guard := none }, { dst := some 5, op := AOp.mv (Opd.c (AV.p (PV.str []))), guard := none }]).seq ((ACode.region [{ dst := some 9, op := AOp.load true 2 (Opd.t 3), guard := none }, { dst := some 10, op := AOp.call (Opd.c (AV.p (PV.fn 12))) [Opd.t 9], guard := none }, { dst := some 6, op := AOp.mv (Opd.t 10), guard := none }]).seq ((ACode.block 0 blk17).seq tail17))
theorem front17_eq : lit17.body = front17 := rfl
section
variable (C : Oracle) (D : DOracle) (L : Nat) (b sz n : Int) (s : List UInt8) (t : Bool)
theorem c17_10 (h12 : ∀ σ, C 12 [.p (ty b sz)] σ = some (.ret (.p (.int .i64 1)), σ)) (h14 : ∀ σ, C 14 [.p (val 0 n s t), .p (ty b sz)] σ = some (.ret (.p (.tup [val 0 n s t, done])), σ)) : ansV (runFunc C D L lit17 [.p (val 0 n s t), .p (ty b sz)] []) = some (.tup [val 0 n s t, done]) := by
    unfold ty val at *
    rw [runFunc_eq, front17_eq]
    unfold front17
    rw [seqN (a := .region _) (by simp [params, exec, runOps, wantedA, stepOp, pureOp, allocOp, ev, Env.get_cons, putE, AV.fit, AV.toCells, mkCells, allP, Cells.len]; rfl)]
    rw [seqN (a := .region _) (by simp [exec, runOps, wantedA, stepOp, pureOp, allocOp, readOp, ev, evs, Env.get_cons, putE, partC, partP, target, h12]; rfl)]
    rw [seqR (a := .block _ _) (by simp [blk17, extractA, spliceC, splice, exec, runOps, wantedA, stepOp, pureOp, allocOp, readOp, effOp, ev, evs, Env.get_cons, putE, binA, intBin, AV.fit, AV.toCells, partC, partP, Cells.len, target, h14]; rfl)]
    show _ = _
    kernel_rfl
theorem c17_20 (h12 : ∀ σ, C 12 [.p (ty b sz)] σ = some (.ret (.p (.int .i64 2)), σ)) (h14 : ∀ σ, C 14 [.p (val 0 n s t), .p (ty b sz)] σ = some (.ret (.p (.tup [val 0 n s t, done])), σ)) : ansV (runFunc C D L lit17 [.p (val 0 n s t), .p (ty b sz)] []) = some (.tup [val 0 n s t, done]) := by
    unfold ty val at *
    rw [runFunc_eq, front17_eq]
    unfold front17
    rw [seqN (a := .region _) (by simp [params, exec, runOps, wantedA, stepOp, pureOp, allocOp, ev, Env.get_cons, putE, AV.fit, AV.toCells, mkCells, allP, Cells.len]; rfl)]
    rw [seqN (a := .region _) (by simp [exec, runOps, wantedA, stepOp, pureOp, allocOp, readOp, ev, evs, Env.get_cons, putE, partC, partP, target, h12]; rfl)]
    rw [seqR (a := .block _ _) (by simp [blk17, extractA, spliceC, splice, exec, runOps, wantedA, stepOp, pureOp, allocOp, readOp, effOp, ev, evs, Env.get_cons, putE, binA, intBin, AV.fit, AV.toCells, partC, partP, Cells.len, target, h14]; rfl)]
    show _ = _
    kernel_rfl
theorem c17_30 (h12 : ∀ σ, C 12 [.p (ty b sz)] σ = some (.ret (.p (.int .i64 3)), σ)) (h14 : ∀ σ, C 14 [.p (val 0 n s t), .p (ty b sz)] σ = some (.ret (.p (.tup [val 0 n s t, done])), σ)) : ansV (runFunc C D L lit17 [.p (val 0 n s t), .p (ty b sz)] []) = some (.tup [val 0 n s t, done]) := by
    unfold ty val at *
    rw [runFunc_eq, front17_eq]
    unfold front17
    rw [seqN (a := .region _) (by simp [params, exec, runOps, wantedA, stepOp, pureOp, allocOp, ev, Env.get_cons, putE, AV.fit, AV.toCells, mkCells, allP, Cells.len]; rfl)]
    rw [seqN (a := .region _) (by simp [exec, runOps, wantedA, stepOp, pureOp, allocOp, readOp, ev, evs, Env.get_cons, putE, partC, partP, target, h12]; rfl)]
    rw [seqR (a := .block _ _) (by simp [blk17, extractA, spliceC, splice, exec, runOps, wantedA, stepOp, pureOp, allocOp, readOp, effOp, ev, evs, Env.get_cons, putE, binA, intBin, AV.fit, AV.toCells, partC, partP, Cells.len, target, h14]; rfl)]
    show _ = _
    kernel_rfl
theorem c17_11 (h12 : ∀ σ, C 12 [.p (ty b sz)] σ = some (.ret (.p (.int .i64 1)), σ)) (h14 : ∀ σ, C 14 [.p (val 1 n s t), .p (ty b sz)] σ = some (.ret (.p (.tup [val 1 n s t, done])), σ)) : ansV (runFunc C D L lit17 [.p (val 1 n s t), .p (ty b sz)] []) = some (.tup [val 1 n s t, done]) := by
    unfold ty val at *
    rw [runFunc_eq, front17_eq]
    unfold front17
    rw [seqN (a := .region _) (by simp [params, exec, runOps, wantedA, stepOp, pureOp, allocOp, ev, Env.get_cons, putE, AV.fit, AV.toCells, mkCells, allP, Cells.len]; rfl)]
    rw [seqN (a := .region _) (by simp [exec, runOps, wantedA, stepOp, pureOp, allocOp, readOp, ev, evs, Env.get_cons, putE, partC, partP, target, h12]; rfl)]
    rw [seqR (a := .block _ _) (by simp [blk17, extractA, spliceC, splice, exec, runOps, wantedA, stepOp, pureOp, allocOp, readOp, effOp, ev, evs, Env.get_cons, putE, binA, intBin, AV.fit, AV.toCells, partC, partP, Cells.len, target, h14]; rfl)]
    show _ = _
    kernel_rfl
theorem c17_33 (h12 : ∀ σ, C 12 [.p (ty b sz)] σ = some (.ret (.p (.int .i64 3)), σ)) (h14 : ∀ σ, C 14 [.p (val 3 n s t), .p (ty b sz)] σ = some (.ret (.p (.tup [val 3 n s t, done])), σ)) : ansV (runFunc C D L lit17 [.p (val 3 n s t), .p (ty b sz)] []) = some (.tup [val 3 n s t, done]) := by
    unfold ty val at *
    rw [runFunc_eq, front17_eq]
    unfold front17
    rw [seqN (a := .region _) (by simp [params, exec, runOps, wantedA, stepOp, pureOp, allocOp, ev, Env.get_cons, putE, AV.fit, AV.toCells, mkCells, allP, Cells.len]; rfl)]
    rw [seqN (a := .region _) (by simp [exec, runOps, wantedA, stepOp, pureOp, allocOp, readOp, ev, evs, Env.get_cons, putE, partC, partP, target, h12]; rfl)]
    rw [seqR (a := .block _ _) (by simp [blk17, extractA, spliceC, splice, exec, runOps, wantedA, stepOp, pureOp, allocOp, readOp, effOp, ev, evs, Env.get_cons, putE, binA, intBin, AV.fit, AV.toCells, partC, partP, Cells.len, target, h14]; rfl)]
    show _ = _
    kernel_rfl
theorem c17_text (h12 : ∀ σ, C 12 [.p (ty b sz)] σ = some (.ret (.p (.int .i64 2)), σ)) (hle : (s.length : Int) ≤ sz) (h26 : ∀ σ, C 26 [.p (.str s), .p (ty b sz)] σ = some (.ret (.p (.tup [val 2 0 s false, done])), σ)) : ansV (runFunc C D L lit17 [.p (val 2 n s t), .p (ty b sz)] []) = some (.tup [val 2 0 s false, done]) := by
    have hn : ¬ sz < (s.length : Int) := by omega
    unfold ty val at *
    rw [runFunc_eq, front17_eq]
    unfold front17
    rw [seqN (a := .region _) (by simp [params, exec, runOps, wantedA, stepOp, pureOp, allocOp, ev, Env.get_cons, putE, AV.fit, AV.toCells, mkCells, allP, Cells.len]; rfl)]
    rw [seqN (a := .region _) (by simp [exec, runOps, wantedA, stepOp, pureOp, allocOp, readOp, ev, evs, Env.get_cons, putE, partC, partP, target, h12]; rfl)]
    rw [seqR (a := .block _ _) (blockR (by
      unfold blk17
      rw [seqN (a := .region _) (by simp [exec, runOps, wantedA, stepOp, pureOp, ev, Env.get_cons, putE, binA, intBin]; rfl)]
      rw [condF (by simp [ev, Env.get_cons])]
      rw [seqN (a := .region _) (by simp [exec, runOps, wantedA, stepOp, pureOp, allocOp, readOp, ev, Env.get_cons, putE, binA, intBin, partC, partP]; rfl)]
      rw [condT (by simp [ev, Env.get_cons])]
      rw [seqN (a := .draw _ _ _) (by
        unfold exec drawExec
        rw [drawS (v := .ptr 0 0 2) (by simp [wantedA]) rfl (by simp [keepE, readsOf, opds, tmpsOf, stillOp, pureOp, ev, Env.get_cons])]
        simp only [putE, Nat.reduceAdd]
        rw [drawR (v := .p (.str s)) (id := 0) (by simp [wantedA]) rfl (by simp [keepE, readsOf, opds, tmpsOf, stillOp, pureOp, refOf, refV, ev, Env.get_cons, readOp, oneH, partC, partP])]
        simp only [putE, Nat.reduceAdd]
        rw [drawS (v := .ptr 0 0 2) (by simp [wantedA]) rfl (by simp [keepE, readsOf, opds, tmpsOf, stillOp, pureOp, ev, Env.get_cons])]
        simp only [putE, Nat.reduceAdd]
        rw [drawR (v := .p (.str s)) (id := 0) (by simp [wantedA]) rfl (by simp [keepE, readsOf, opds, tmpsOf, stillOp, pureOp, refOf, refV, ev, Env.get_cons, readOp, oneH, partC, partP])]
        simp only [putE, Nat.reduceAdd]
        rw [drawS (v := .p (.int .i64 (s.length : Int))) (by simp [wantedA]) rfl (by simp [keepE, readsOf, opds, tmpsOf, stillOp, pureOp, ev, Env.get_cons])]
        simp only [putE, Nat.reduceAdd]
        rw [drawS (v := .ptr 1 0 1) (by simp [wantedA]) rfl (by simp [keepE, readsOf, opds, tmpsOf, stillOp, pureOp, ev, Env.get_cons])]
        simp only [putE, Nat.reduceAdd]
        rw [drawR (v := .p (.int .i64 sz)) (id := 1) (by simp [wantedA]) rfl (by simp [keepE, readsOf, opds, tmpsOf, stillOp, pureOp, refOf, refV, ev, Env.get_cons, readOp, oneH, partC, partP])]
        simp only [putE, Nat.reduceAdd]
        rw [drawS (v := .p (.int .i64 (s.length : Int))) (by simp [wantedA]) rfl (by simp [keepE, readsOf, opds, tmpsOf, stillOp, pureOp, ev, Env.get_cons, evs, maxA, hn])]
        simp only [putE, Nat.reduceAdd]
        rw [drawS (v := .p (.str s)) (by simp [wantedA]) rfl (by simp [keepE, readsOf, opds, tmpsOf, stillOp, pureOp, ev, Env.get_cons, evO, optO, sliceA, boundsA, boundA])]
        simp only [putE, Nat.reduceAdd]
        rw [drawR (v := .p (.agg [.int .i64 b, .int .i64 sz])) (id := 1) (by simp [wantedA]) rfl (by simp [keepE, readsOf, opds, tmpsOf, stillOp, pureOp, refOf, refV, ev, Env.get_cons, readOp, oneH, partC, partP])]
        simp only [putE, Nat.reduceAdd]
        rw [drawE (by simp [wantedA]) rfl (by simp [keepE, readsOf, opds, tmpsOf, runOps, wantedA, ev, evs, target, Env.get_cons, putE, h26]; rfl)]
        simp only [carry, Env.get_cons, reduceIte, Nat.reduceEqDiff, Nat.reduceAdd]
        rw [drawS (v := .p (.agg [.int .i64 2, .int .i64 0, .str s, .bool false])) (by simp [wantedA]) rfl (by simp [keepE, readsOf, opds, tmpsOf, stillOp, pureOp, ev, Env.get_cons, extractA])]
        simp only [putE, Nat.reduceAdd]
        rw [drawS (v := .p done) (by simp [wantedA]) rfl (by simp [keepE, readsOf, opds, tmpsOf, stillOp, pureOp, ev, Env.get_cons, extractA])]
        simp only [putE, Nat.reduceAdd]
        rw [drawE (by simp [wantedA]) rfl (by simp [keepE, readsOf, opds, tmpsOf, runOps, wantedA, stepOp, pureOp, allocOp, readOp, effOp, ev, Env.get_cons, putE, AV.fit, AV.toCells, Cells.len, splice, spliceC]; rfl)]
        simp only [carry, Nat.reduceAdd]
        rw [drawS (v := .p done) (by simp [wantedA]) rfl (by simp [keepE, readsOf, opds, tmpsOf, stillOp, pureOp, ev, Env.get_cons])]
        simp only [putE, Nat.reduceAdd]
        simp only [drawRun]
        refine if_pos ?_
        show _ = _
        kernel_rfl)]
      simp only [exec]
      rfl))]
    show _ = _
    kernel_rfl
end

end Go.Ab.Cols
