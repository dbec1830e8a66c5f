/- The laws on columns' values: what a column takes, by the document. -/
import Derived.Test.YtacjjncmbklplaaGreatDoorAbS8
set_option linter.unusedSectionVars false
set_option linter.unusedSimpArgs false
set_option linter.unusedVariables false
set_option maxRecDepth 1000000
namespace Go.Ab.Cols
open Go Go.Ab Go.Ab.Names
/-- a call's end -/
def finX (D : DOracle) (af : AFunc) : Option (AExit × St) → Option (CRes × Heap)
  | some (.pan v, st) => finA D af st (some v)
  | some (.normal, st) => finA D af st none
  | some (.ret, st) => finA D af st none
  | _ => none
theorem runFunc_eq (C : Oracle) (D : DOracle) (L : Nat) (af : AFunc) (args : List AV) (σ : Heap) : runFunc C D L af args σ = finX D af (exec C L af.body ⟨params 0 args, [], σ⟩) := rfl
theorem seqR {C : Oracle} {L : Nat} {a b : ACode} {st st1 : St} (h : exec C L a st = some (.ret, st1)) : exec C L (.seq a b) st = some (.ret, st1) := by
  simp only [exec, h]
def tail16 : ACode := (ACode.block 1 (ACode.loop none (((ACode.region [{ dst := some 43, op := AOp.mv (Opd.t 8), guard := none }, { dst := some 44, op := AOp.len true (Opd.t 43), guard := none }, { dst := some 45, op := AOp.fieldAddr 1 (Opd.t 3), guard := none }, { dst := some 46, op := AOp.load false 1 (Opd.t 45), guard := none }, { dst := some 47, op := AOp.bin (Bin.plain BinOp.gtr) (Opd.t 44) (Opd.t 46), guard := none }, { dst := some 48, op := AOp.mv (Opd.t 47), guard := none }, { dst := some 49, op := AOp.mv (Opd.t 8), guard := some (48, true) }, { dst := some 50, op := AOp.mv (Opd.t 8), guard := some (48, true) }, { dst := some 51, op := AOp.len true (Opd.t 50), guard := some (48, true) }, { dst := some 52, op := AOp.bin (Bin.plain BinOp.sub) (Opd.t 51) (Opd.c (AV.p (PV.int IntKind.i64 (1)))), guard := some (48, true) }, { dst := some 53, op := AOp.atStr (Opd.t 49) (Opd.t 52), guard := some (48, true) }, { dst := some 54, op := AOp.bin (Bin.plain BinOp.eql) (Opd.t 53) (Opd.c (AV.p (PV.int IntKind.u8 (32)))), guard := some (48, true) }, { dst := some 55, op := AOp.pick (Opd.t 48) (Opd.t 54) (Opd.c (AV.p (PV.bool false))), guard := none }]).seq (ACode.cond (Opd.t 55) ACode.skip (ACode.exit 1))).seq (ACode.block 2 (ACode.region [{ dst := some 56, op := AOp.mv (Opd.t 8), guard := none }, { dst := some 57, op := AOp.mv (Opd.t 8), guard := none }, { dst := some 58, op := AOp.len true (Opd.t 57), guard := none }, { dst := some 59, op := AOp.bin (Bin.plain BinOp.sub) (Opd.t 58) (Opd.c (AV.p (PV.int IntKind.i64 (1)))), guard := none }, { dst := some 60, op := AOp.sliceStr (Opd.t 56) none (some (Opd.t 59)), guard := none }, { dst := some 8, op := AOp.mv (Opd.t 60), guard := none }]))))).seq (((ACode.region [{ dst := some 61, op := AOp.mv (Opd.t 8), guard := none }, { dst := some 62, op := AOp.len true (Opd.t 61), guard := none }, { dst := some 63, op := AOp.fieldAddr 1 (Opd.t 3), guard := none }, { dst := some 64, op := AOp.load false 1 (Opd.t 63), guard := none }, { dst := some 65, op := AOp.bin (Bin.plain BinOp.gtr) (Opd.t 62) (Opd.t 64), guard := none }]).seq (ACode.cond (Opd.t 65) ((ACode.region [{ dst := some 66, op := AOp.build [AV.p (PV.int IntKind.i64 (0)), AV.p (PV.int IntKind.i64 (0)), AV.p (PV.str []), AV.p (PV.bool false)] [], guard := none }, { dst := none, op := AOp.store 4 (Opd.t 4) (Opd.t 66), guard := none }, { dst := some 5, op := AOp.mv (Opd.c (AV.p (PV.str [50, 50, 48, 48, 49]))), guard := none }]).seq ACode.ret) ACode.skip)).seq ((ACode.region [{ dst := some 67, op := AOp.mv (Opd.t 8), guard := none }, { dst := some 68, op := AOp.load true 2 (Opd.t 3), guard := none }, { dst := some 69, op := AOp.call (Opd.c (AV.p (PV.fn 30))) [Opd.t 67, Opd.t 68], guard := none }, { dst := none, op := AOp.store 4 (Opd.t 4) (Opd.t 69), guard := none }, { dst := some 5, op := AOp.mv (Opd.c (AV.p (PV.str [48, 48, 48, 48, 48]))), guard := none }]).seq ACode.ret))
def front16 : ACode := (ACode.region [{ dst := some 2, op := AOp.box 4 (Opd.t 0), guard := none }, { dst := some 3, op := AOp.box 2 (Opd.t 1), guard := none }, { dst := some 4, op := AOp.alloc [AV.p (PV.int IntKind.i64 (0)), AV.p (PV.int IntKind.i64 (0)), AV.p (PV.str []), AV.p (PV.bool false)], guard := none }, { dst := some 5, op := AOp.mv (Opd.c (AV.p (PV.str []))), guard := none }]).seq ((ACode.region [{ dst := some 9, op := AOp.load true 2 (Opd.t 3), guard := none }, { dst := some 10, op := AOp.call (Opd.c (AV.p (PV.fn 13))) [Opd.t 9], guard := none }, { dst := some 6, op := AOp.mv (Opd.t 10), guard := none }]).seq ((ACode.block 0 ((ACode.region [{ dst := some 12, op := AOp.mv (Opd.t 6), guard := none }, { dst := some 13, op := AOp.bin (Bin.plain BinOp.eql) (Opd.t 12) (Opd.c (AV.p (PV.int IntKind.i64 (0)))), guard := none }, { dst := some 11, op := AOp.mv (Opd.t 13), guard := none }]).seq (ACode.cond (Opd.t 11) ((ACode.region [{ dst := some 14, op := AOp.build [AV.p (PV.int IntKind.i64 (0)), AV.p (PV.int IntKind.i64 (0)), AV.p (PV.str []), AV.p (PV.bool false)] [], guard := none }, { dst := none, op := AOp.store 4 (Opd.t 4) (Opd.t 14), guard := none }, { dst := some 5, op := AOp.mv (Opd.c (AV.p (PV.str [52, 50, 56, 48, 52]))), guard := none }]).seq ACode.ret) ((ACode.region [{ dst := some 16, op := AOp.fieldAddr 0 (Opd.t 2), guard := none }, { dst := some 17, op := AOp.load false 1 (Opd.t 16), guard := none }, { dst := some 18, op := AOp.bin (Bin.plain BinOp.eql) (Opd.t 17) (Opd.c (AV.p (PV.int IntKind.i64 (0)))), guard := none }, { dst := some 15, op := AOp.mv (Opd.t 18), guard := none }]).seq (ACode.cond (Opd.t 15) ((ACode.region [{ dst := some 19, op := AOp.build [AV.p (PV.int IntKind.i64 (0)), AV.p (PV.int IntKind.i64 (0)), AV.p (PV.str []), AV.p (PV.bool false)] [], guard := none }, { dst := none, op := AOp.store 4 (Opd.t 4) (Opd.t 19), guard := none }, { dst := some 5, op := AOp.mv (Opd.c (AV.p (PV.str [48, 48, 48, 48, 48]))), guard := none }]).seq ACode.ret) ((ACode.region [{ dst := some 21, op := AOp.fieldAddr 0 (Opd.t 2), guard := none }, { dst := some 22, op := AOp.load false 1 (Opd.t 21), guard := none }, { dst := some 23, op := AOp.mv (Opd.t 6), guard := none }, { dst := some 24, op := AOp.bin (Bin.plain BinOp.neq) (Opd.t 22) (Opd.t 23), guard := none }, { dst := some 20, op := AOp.mv (Opd.t 24), guard := none }]).seq (ACode.cond (Opd.t 20) ((ACode.region [{ dst := some 25, op := AOp.build [AV.p (PV.int IntKind.i64 (0)), AV.p (PV.int IntKind.i64 (0)), AV.p (PV.str []), AV.p (PV.bool false)] [], guard := none }, { dst := none, op := AOp.store 4 (Opd.t 4) (Opd.t 25), guard := none }, { dst := some 5, op := AOp.mv (Opd.c (AV.p (PV.str [52, 50, 56, 48, 52]))), guard := none }]).seq ACode.ret) ((ACode.region [{ dst := some 27, op := AOp.mv (Opd.t 6), guard := none }, { dst := some 28, op := AOp.bin (Bin.plain BinOp.eql) (Opd.t 27) (Opd.c (AV.p (PV.int IntKind.i64 (1)))), guard := none }, { dst := some 26, op := AOp.mv (Opd.t 28), guard := none }]).seq (ACode.cond (Opd.t 26) ((ACode.region [{ dst := some 29, op := AOp.fieldAddr 1 (Opd.t 2), guard := none }, { dst := some 30, op := AOp.load false 1 (Opd.t 29), guard := none }, { dst := some 31, op := AOp.load true 2 (Opd.t 3), guard := none }, { dst := some 32, op := AOp.call (Opd.c (AV.p (PV.fn 29))) [Opd.t 30, Opd.t 31], guard := none }, { dst := some 7, op := AOp.mv (Opd.t 32), guard := none }]).seq (((ACode.region [{ dst := some 33, op := AOp.mv (Opd.t 7), guard := none }, { dst := some 34, op := AOp.un UnOp.not (Opd.t 33), guard := none }]).seq (ACode.cond (Opd.t 34) ((ACode.region [{ dst := some 35, op := AOp.build [AV.p (PV.int IntKind.i64 (0)), AV.p (PV.int IntKind.i64 (0)), AV.p (PV.str []), AV.p (PV.bool false)] [], guard := none }, { dst := none, op := AOp.store 4 (Opd.t 4) (Opd.t 35), guard := none }, { dst := some 5, op := AOp.mv (Opd.c (AV.p (PV.str [50, 50, 48, 48, 51]))), guard := none }]).seq ACode.ret) ACode.skip)).seq ((ACode.region [{ dst := some 36, op := AOp.load true 4 (Opd.t 2), guard := none }, { dst := none, op := AOp.store 4 (Opd.t 4) (Opd.t 36), guard := none }, { dst := some 5, op := AOp.mv (Opd.c (AV.p (PV.str [48, 48, 48, 48, 48]))), guard := none }]).seq ACode.ret))) ((ACode.region [{ dst := some 38, op := AOp.mv (Opd.t 6), guard := none }, { dst := some 39, op := AOp.bin (Bin.plain BinOp.eql) (Opd.t 38) (Opd.c (AV.p (PV.int IntKind.i64 (3)))), guard := none }, { dst := some 37, op := AOp.mv (Opd.t 39), guard := none }]).seq (ACode.cond (Opd.t 37) ((ACode.region [{ dst := some 40, op := AOp.load true 4 (Opd.t 2), guard := none }, { dst := none, op := AOp.store 4 (Opd.t 4) (Opd.t 40), guard := none }, { dst := some 5, op := AOp.mv (Opd.c (AV.p (PV.str [48, 48, 48, 48, 48]))), guard := none }]).seq ACode.ret) ACode.skip))))))))))).seq ((ACode.region [{ dst := some 41, op := AOp.fieldAddr 2 (Opd.t 2), guard := none }, { dst := some 42, op := AOp.load false 1 (Opd.t 41), guard := none }, { dst := some 8, op := AOp.mv (Opd.t 42), guard := none }]).seq tail16)))
theorem front16_eq : lit16.body = front16 := rfl
section
variable (C : Oracle) (D : DOracle) (L : Nat) (b sz k n : Int) (s : List UInt8) (t : Bool)
theorem a16_none (h12 : ∀ σ, C 13 [.p (ty b sz)] σ = some (.ret (.p (.int .i64 0)), σ)) : ansV (runFunc C D L lit16 [.p (val k n s t), .p (ty b sz)] []) = some (.tup [null, mism]) := by
    unfold ty val at *
    rw [runFunc_eq, front16_eq]
    unfold front16
    rw [seqN (a := .region _) (by simp [params, exec, runOps, wantedA, stepOp, pureOp, allocOp, ev, Env.get_cons, putE, AV.fit, AV.toCells, mkCells, allP, Cells.len]; rfl)]
    rw [seqN (a := .region _) (by simp [exec, runOps, wantedA, stepOp, pureOp, allocOp, readOp, ev, evs, Env.get_cons, putE, partC, partP, target, h12]; rfl)]
    rw [seqR (a := .block _ _) (by simp [evParts, fillA, exec, runOps, wantedA, stepOp, pureOp, allocOp, readOp, effOp, ev, Env.get_cons, putE, binA, intBin, AV.fit, AV.toCells, allP, mkAgg, Cells.len]; rfl)]
    show _ = _
    kernel_rfl
theorem a16_null1 (h12 : ∀ σ, C 13 [.p (ty b sz)] σ = some (.ret (.p (.int .i64 1)), σ)) : ansV (runFunc C D L lit16 [.p (val 0 n s t), .p (ty b sz)] []) = some (.tup [null, done]) := by
    unfold ty val at *
    rw [runFunc_eq, front16_eq]
    unfold front16
    rw [seqN (a := .region _) (by simp [params, exec, runOps, wantedA, stepOp, pureOp, allocOp, ev, Env.get_cons, putE, AV.fit, AV.toCells, mkCells, allP, Cells.len]; rfl)]
    rw [seqN (a := .region _) (by simp [exec, runOps, wantedA, stepOp, pureOp, allocOp, readOp, ev, evs, Env.get_cons, putE, partC, partP, target, h12]; rfl)]
    rw [seqR (a := .block _ _) (by simp [evParts, fillA, exec, runOps, wantedA, stepOp, pureOp, allocOp, readOp, effOp, ev, Env.get_cons, putE, binA, intBin, AV.fit, AV.toCells, partC, partP, allP, mkAgg, Cells.len]; rfl)]
    show _ = _
    kernel_rfl
theorem a16_other1 (h12 : ∀ σ, C 13 [.p (ty b sz)] σ = some (.ret (.p (.int .i64 1)), σ)) (h0 : k ≠ 0) (hk : k ≠ 1) : ansV (runFunc C D L lit16 [.p (val k n s t), .p (ty b sz)] []) = some (.tup [null, mism]) := by
    have e0 : (k == 0) = false := by simp [h0]
    have ek : (k != 1) = true := by simp [hk]
    unfold ty val at *
    rw [runFunc_eq, front16_eq]
    unfold front16
    rw [seqN (a := .region _) (by simp [params, exec, runOps, wantedA, stepOp, pureOp, allocOp, ev, Env.get_cons, putE, AV.fit, AV.toCells, mkCells, allP, Cells.len]; rfl)]
    rw [seqN (a := .region _) (by simp [exec, runOps, wantedA, stepOp, pureOp, allocOp, readOp, ev, evs, Env.get_cons, putE, partC, partP, target, h12, -beq_eq_false_iff_ne, -bne_iff_ne, -beq_iff_eq]; rfl)]
    rw [seqR (a := .block _ _) (by simp [evParts, fillA, exec, runOps, wantedA, stepOp, pureOp, allocOp, readOp, effOp, ev, Env.get_cons, putE, binA, intBin, AV.fit, AV.toCells, partC, partP, allP, mkAgg, Cells.len, e0, ek, -beq_eq_false_iff_ne, -bne_iff_ne, -beq_iff_eq]; rfl)]
    show _ = _
    kernel_rfl
theorem a16_null2 (h12 : ∀ σ, C 13 [.p (ty b sz)] σ = some (.ret (.p (.int .i64 2)), σ)) : ansV (runFunc C D L lit16 [.p (val 0 n s t), .p (ty b sz)] []) = some (.tup [null, done]) := by
    unfold ty val at *
    rw [runFunc_eq, front16_eq]
    unfold front16
    rw [seqN (a := .region _) (by simp [params, exec, runOps, wantedA, stepOp, pureOp, allocOp, ev, Env.get_cons, putE, AV.fit, AV.toCells, mkCells, allP, Cells.len]; rfl)]
    rw [seqN (a := .region _) (by simp [exec, runOps, wantedA, stepOp, pureOp, allocOp, readOp, ev, evs, Env.get_cons, putE, partC, partP, target, h12]; rfl)]
    rw [seqR (a := .block _ _) (by simp [evParts, fillA, exec, runOps, wantedA, stepOp, pureOp, allocOp, readOp, effOp, ev, Env.get_cons, putE, binA, intBin, AV.fit, AV.toCells, partC, partP, allP, mkAgg, Cells.len]; rfl)]
    show _ = _
    kernel_rfl
theorem a16_other2 (h12 : ∀ σ, C 13 [.p (ty b sz)] σ = some (.ret (.p (.int .i64 2)), σ)) (h0 : k ≠ 0) (hk : k ≠ 2) : ansV (runFunc C D L lit16 [.p (val k n s t), .p (ty b sz)] []) = some (.tup [null, mism]) := by
    have e0 : (k == 0) = false := by simp [h0]
    have ek : (k != 2) = true := by simp [hk]
    unfold ty val at *
    rw [runFunc_eq, front16_eq]
    unfold front16
    rw [seqN (a := .region _) (by simp [params, exec, runOps, wantedA, stepOp, pureOp, allocOp, ev, Env.get_cons, putE, AV.fit, AV.toCells, mkCells, allP, Cells.len]; rfl)]
    rw [seqN (a := .region _) (by simp [exec, runOps, wantedA, stepOp, pureOp, allocOp, readOp, ev, evs, Env.get_cons, putE, partC, partP, target, h12, -beq_eq_false_iff_ne, -bne_iff_ne, -beq_iff_eq]; rfl)]
    rw [seqR (a := .block _ _) (by simp [evParts, fillA, exec, runOps, wantedA, stepOp, pureOp, allocOp, readOp, effOp, ev, Env.get_cons, putE, binA, intBin, AV.fit, AV.toCells, partC, partP, allP, mkAgg, Cells.len, e0, ek, -beq_eq_false_iff_ne, -bne_iff_ne, -beq_iff_eq]; rfl)]
    show _ = _
    kernel_rfl
theorem a16_null3 (h12 : ∀ σ, C 13 [.p (ty b sz)] σ = some (.ret (.p (.int .i64 3)), σ)) : ansV (runFunc C D L lit16 [.p (val 0 n s t), .p (ty b sz)] []) = some (.tup [null, done]) := by
    unfold ty val at *
    rw [runFunc_eq, front16_eq]
    unfold front16
    rw [seqN (a := .region _) (by simp [params, exec, runOps, wantedA, stepOp, pureOp, allocOp, ev, Env.get_cons, putE, AV.fit, AV.toCells, mkCells, allP, Cells.len]; rfl)]
    rw [seqN (a := .region _) (by simp [exec, runOps, wantedA, stepOp, pureOp, allocOp, readOp, ev, evs, Env.get_cons, putE, partC, partP, target, h12]; rfl)]
    rw [seqR (a := .block _ _) (by simp [evParts, fillA, exec, runOps, wantedA, stepOp, pureOp, allocOp, readOp, effOp, ev, Env.get_cons, putE, binA, intBin, AV.fit, AV.toCells, partC, partP, allP, mkAgg, Cells.len]; rfl)]
    show _ = _
    kernel_rfl
theorem a16_other3 (h12 : ∀ σ, C 13 [.p (ty b sz)] σ = some (.ret (.p (.int .i64 3)), σ)) (h0 : k ≠ 0) (hk : k ≠ 3) : ansV (runFunc C D L lit16 [.p (val k n s t), .p (ty b sz)] []) = some (.tup [null, mism]) := by
    have e0 : (k == 0) = false := by simp [h0]
    have ek : (k != 3) = true := by simp [hk]
    unfold ty val at *
    rw [runFunc_eq, front16_eq]
    unfold front16
    rw [seqN (a := .region _) (by simp [params, exec, runOps, wantedA, stepOp, pureOp, allocOp, ev, Env.get_cons, putE, AV.fit, AV.toCells, mkCells, allP, Cells.len]; rfl)]
    rw [seqN (a := .region _) (by simp [exec, runOps, wantedA, stepOp, pureOp, allocOp, readOp, ev, evs, Env.get_cons, putE, partC, partP, target, h12, -beq_eq_false_iff_ne, -bne_iff_ne, -beq_iff_eq]; rfl)]
    rw [seqR (a := .block _ _) (by simp [evParts, fillA, exec, runOps, wantedA, stepOp, pureOp, allocOp, readOp, effOp, ev, Env.get_cons, putE, binA, intBin, AV.fit, AV.toCells, partC, partP, allP, mkAgg, Cells.len, e0, ek, -beq_eq_false_iff_ne, -bne_iff_ne, -beq_iff_eq]; rfl)]
    show _ = _
    kernel_rfl
theorem a16_bool (h12 : ∀ σ, C 13 [.p (ty b sz)] σ = some (.ret (.p (.int .i64 3)), σ)) : ansV (runFunc C D L lit16 [.p (val 3 n s t), .p (ty b sz)] []) = some (.tup [val 3 n s t, done]) := by
    unfold ty val at *
    rw [runFunc_eq, front16_eq]
    unfold front16
    rw [seqN (a := .region _) (by simp [params, exec, runOps, wantedA, stepOp, pureOp, allocOp, ev, Env.get_cons, putE, AV.fit, AV.toCells, mkCells, allP, Cells.len]; rfl)]
    rw [seqN (a := .region _) (by simp [exec, runOps, wantedA, stepOp, pureOp, allocOp, readOp, ev, evs, Env.get_cons, putE, partC, partP, target, h12]; rfl)]
    rw [seqR (a := .block _ _) (by simp [exec, runOps, wantedA, stepOp, pureOp, allocOp, readOp, effOp, ev, Env.get_cons, putE, binA, intBin, AV.fit, AV.toCells, partC, partP, Cells.len]; rfl)]
    show _ = _
    kernel_rfl
theorem a16_num_true (h12 : ∀ σ, C 13 [.p (ty b sz)] σ = some (.ret (.p (.int .i64 1)), σ)) (h24 : ∀ σ, C 29 [.p (.int .i64 n), .p (ty b sz)] σ = some (.ret (.p (.bool true)), σ)) : ansV (runFunc C D L lit16 [.p (val 1 n s t), .p (ty b sz)] []) = some (.tup [val 1 n s t, done]) := by
    unfold ty val at *
    rw [runFunc_eq, front16_eq]
    unfold front16
    rw [seqN (a := .region _) (by simp [params, exec, runOps, wantedA, stepOp, pureOp, allocOp, ev, Env.get_cons, putE, AV.fit, AV.toCells, mkCells, allP, Cells.len]; rfl)]
    rw [seqN (a := .region _) (by simp [exec, runOps, wantedA, stepOp, pureOp, allocOp, readOp, ev, evs, Env.get_cons, putE, partC, partP, target, h12]; rfl)]
    rw [seqR (a := .block _ _) (by simp [unA, exec, runOps, wantedA, stepOp, pureOp, allocOp, readOp, effOp, ev, evs, Env.get_cons, putE, binA, intBin, AV.fit, AV.toCells, partC, partP, Cells.len, target, h24]; rfl)]
    show _ = _
    kernel_rfl
theorem a16_num_false (h12 : ∀ σ, C 13 [.p (ty b sz)] σ = some (.ret (.p (.int .i64 1)), σ)) (h24 : ∀ σ, C 29 [.p (.int .i64 n), .p (ty b sz)] σ = some (.ret (.p (.bool false)), σ)) : ansV (runFunc C D L lit16 [.p (val 1 n s t), .p (ty b sz)] []) = some (.tup [null, outOf]) := by
    unfold ty val at *
    rw [runFunc_eq, front16_eq]
    unfold front16
    rw [seqN (a := .region _) (by simp [params, exec, runOps, wantedA, stepOp, pureOp, allocOp, ev, Env.get_cons, putE, AV.fit, AV.toCells, mkCells, allP, Cells.len]; rfl)]
    rw [seqN (a := .region _) (by simp [exec, runOps, wantedA, stepOp, pureOp, allocOp, readOp, ev, evs, Env.get_cons, putE, partC, partP, target, h12]; rfl)]
    rw [seqR (a := .block _ _) (by simp [unA, evParts, fillA, exec, runOps, wantedA, stepOp, pureOp, allocOp, readOp, effOp, ev, evs, Env.get_cons, putE, binA, intBin, AV.fit, AV.toCells, partC, partP, allP, mkAgg, Cells.len, target, h24]; rfl)]
    show _ = _
    kernel_rfl
abbrev Z4 : Obj := Obj.arr (Cells.pv [.int .i64 0, .int .i64 0, .str [], .bool false]) 0 0
theorem tail16_eq : tail16 = .seq (.block 1 (.loop none body16)) (((ACode.region [{ dst := some 61, op := AOp.mv (Opd.t 8), guard := none }, { dst := some 62, op := AOp.len true (Opd.t 61), guard := none }, { dst := some 63, op := AOp.fieldAddr 1 (Opd.t 3), guard := none }, { dst := some 64, op := AOp.load false 1 (Opd.t 63), guard := none }, { dst := some 65, op := AOp.bin (Bin.plain BinOp.gtr) (Opd.t 62) (Opd.t 64), guard := none }]).seq (ACode.cond (Opd.t 65) ((ACode.region [{ dst := some 66, op := AOp.build [AV.p (PV.int IntKind.i64 (0)), AV.p (PV.int IntKind.i64 (0)), AV.p (PV.str []), AV.p (PV.bool false)] [], guard := none }, { dst := none, op := AOp.store 4 (Opd.t 4) (Opd.t 66), guard := none }, { dst := some 5, op := AOp.mv (Opd.c (AV.p (PV.str [50, 50, 48, 48, 49]))), guard := none }]).seq ACode.ret) ACode.skip)).seq ((ACode.region [{ dst := some 67, op := AOp.mv (Opd.t 8), guard := none }, { dst := some 68, op := AOp.load true 2 (Opd.t 3), guard := none }, { dst := some 69, op := AOp.call (Opd.c (AV.p (PV.fn 30))) [Opd.t 67, Opd.t 68], guard := none }, { dst := none, op := AOp.store 4 (Opd.t 4) (Opd.t 69), guard := none }, { dst := some 5, op := AOp.mv (Opd.c (AV.p (PV.str [48, 48, 48, 48, 48]))), guard := none }]).seq ACode.ret)) := rfl
theorem tail16_fits (X : Obj) (ρ : Env) (hL : s.length < L) (hs : s.length ≤ 9223372036854775807) (hz : 0 ≤ sz) (h8 : ρ.get 8 = some (.p (.str s))) (h3 : ρ.get 3 = some (.ptr 1 0 0)) (h4 : ρ.get 4 = some (.ptr 2 0 0)) (v : List UInt8) (hv : ∀ u, Left sz s u → u = v) (hvl : (v.length : Int) ≤ sz) (p : List UInt8)
    (h30 : ∀ σ, C 30 [.p (.str v), .p (ty b sz)] σ = some (.ret (.p (val 2 0 p false)), σ)) : ansV (finX D lit16 (exec C L tail16 ⟨ρ, [], hp16 b sz X Z4⟩)) = some (.tup [val 2 0 p false, done]) := by
    obtain ⟨ρ', u, e, g8, g3, g4, hu⟩ := loop16 C L b sz hz X Z4 s.length L s ρ (Nat.le_refl _) hL hs h8 h3
    obtain rfl := hv u hu
    have e2 : exec C L (.block 1 (.loop none body16)) ⟨ρ, [], hp16 b sz X Z4⟩ = some (.normal, ⟨ρ', [], hp16 b sz X Z4⟩) := by simp only [exec, e, if_true]
    rw [tail16_eq, seqN e2]
    rw [h4] at g4
    have hn : ¬ sz < (u.length : Int) := by omega
    unfold ty val at *
    simp [exec, runOps, wantedA, stepOp, pureOp, allocOp, readOp, effOp, ev, evs, Env.get_cons, putE, binA, intBin, AV.fit, AV.toCells, partC, partP, allP, Cells.len, target, g8, g3, g4, hn, h30, finX, finA, leaveA, resA, resV, lit16, ansV, spliceC, splice, mkTup]
    rfl
theorem tail16_long (X : Obj) (ρ : Env) (hL : s.length < L) (hs : s.length ≤ 9223372036854775807) (hz : 0 ≤ sz) (h8 : ρ.get 8 = some (.p (.str s))) (h3 : ρ.get 3 = some (.ptr 1 0 0)) (h4 : ρ.get 4 = some (.ptr 2 0 0)) (hv : ∀ u, Left sz s u → sz < (u.length : Int)) :
    ansV (finX D lit16 (exec C L tail16 ⟨ρ, [], hp16 b sz X Z4⟩)) = some (.tup [null, tooLong]) := by
    obtain ⟨ρ', u, e, g8, g3, g4, hu⟩ := loop16 C L b sz hz X Z4 s.length L s ρ (Nat.le_refl _) hL hs h8 h3
    have hn := hv u hu
    have e2 : exec C L (.block 1 (.loop none body16)) ⟨ρ, [], hp16 b sz X Z4⟩ = some (.normal, ⟨ρ', [], hp16 b sz X Z4⟩) := by simp only [exec, e, if_true]
    rw [tail16_eq, seqN e2]
    rw [h4] at g4
    simp [exec, runOps, wantedA, stepOp, pureOp, allocOp, readOp, effOp, ev, Env.get_cons, putE, binA, intBin, AV.fit, AV.toCells, partC, partP, allP, mkAgg, Cells.len, evParts, fillA, g8, g3, g4, hn, finX, finA, leaveA, resA, resV, lit16, ansV, spliceC, splice, mkTup, null, val, tooLong]
theorem a16_text (h12 : ∀ σ, C 13 [.p (ty b sz)] σ = some (.ret (.p (.int .i64 2)), σ)) (r : List PV) (ht : ∀ X ρ, ρ.get 8 = some (.p (.str s)) → ρ.get 3 = some (.ptr 1 0 0) → ρ.get 4 = some (.ptr 2 0 0) → ansV (finX D lit16 (exec C L tail16 ⟨ρ, [], hp16 b sz X Z4⟩)) = some (.tup r)) :
    ansV (runFunc C D L lit16 [.p (val 2 n s t), .p (ty b sz)] []) = some (.tup r) := by
    unfold ty val at *
    rw [runFunc_eq, front16_eq]
    unfold front16
    rw [seqN (a := .region _) (by simp [params, exec, runOps, wantedA, stepOp, pureOp, allocOp, ev, Env.get_cons, putE, AV.fit, AV.toCells, mkCells, allP, Cells.len]; rfl)]
    rw [seqN (a := .region _) (by simp [exec, runOps, wantedA, stepOp, pureOp, allocOp, readOp, ev, evs, Env.get_cons, putE, partC, partP, target, h12]; rfl)]
    rw [seqN (a := .block _ _) (by simp [exec, runOps, wantedA, stepOp, pureOp, allocOp, readOp, ev, Env.get_cons, putE, binA, intBin, partC, partP]; rfl)]
    rw [seqN (a := .region _) (by simp [exec, runOps, wantedA, stepOp, pureOp, allocOp, readOp, ev, Env.get_cons, putE, partC, partP]; rfl)]
    exact ht _ _ rfl rfl rfl
end

end Go.Ab.Cols

/- The laws on columns' values: what a column takes, by the document: all cases. -/
set_option maxRecDepth 1000000
namespace Go.Ab.Cols
open Go Go.Ab Go.Ab.Names
theorem assign16 (b sz k n : Int) (s : List UInt8) (t : Bool) (hv : isVal k n s t) (hs : s.length ≤ 9223372036854775807) (L m : Nat) (hL : s.length < L + 102) (σ : Heap) :
    (cAt TC (L + 102) (m + 4)).1 16 [.p (val k n s t), .p (ty b sz)] σ = some (.ret (.p (.tup (assignZ b sz k n s t))), σ) := by
  refine call_ans (ps := [val k n s t, ty b sz]) (n := m + 3) (af := lit16) (fz := true) rfl (by kernel_rfl) ?_ σ
  have h13 := kind13 b sz (L + 102) (m + 1)
  have h29 := fun hb r hr => fits29 b hb n r hr (L + 102) (m + 2)
  have h30 := fun hb (u : List UInt8) (hz : sz ≤ 100) => padded30 b sz hb hz u L (m + 1)
  generalize (cAt TC (L + 102) (m + 3)).1 = C at h13 h29 h30 ⊢
  generalize (cAt TC (L + 102) (m + 3)).2 = D
  unfold assignZ
  rcases kind_cases b sz with ⟨_, hk⟩ | ⟨hb, rfl, hk⟩ | ⟨hb, z1, z2, hk⟩ | ⟨rfl, rfl, hk⟩ <;> rw [hk] at h13 ⊢
  · exact a16_none C D (L + 102) b sz k n s t h13
  · rw [if_neg (by decide)]
    rcases hv with ⟨rfl, rfl, rfl, rfl⟩ | ⟨rfl, rfl, rfl⟩ | ⟨rfl, rfl, rfl⟩ | ⟨rfl, rfl, rfl⟩
    · exact a16_null1 C D (L + 102) b 0 0 _ _ h13
    · rw [if_neg (by decide), if_neg (by decide), if_pos rfl]
      cases hr : inR b n
      · exact a16_num_false C D (L + 102) b 0 n _ _ h13 (h29 hb false hr)
      · exact a16_num_true C D (L + 102) b 0 n _ _ h13 (h29 hb true hr)
    · exact a16_other1 C D (L + 102) b 0 2 0 _ _ h13 (by decide) (by decide)
    · exact a16_other1 C D (L + 102) b 0 3 0 _ _ h13 (by decide) (by decide)
  · rw [if_neg (by decide)]
    rcases hv with ⟨rfl, rfl, rfl, rfl⟩ | ⟨rfl, rfl, rfl⟩ | ⟨rfl, rfl, rfl⟩ | ⟨rfl, rfl, rfl⟩
    · exact a16_null2 C D (L + 102) b sz 0 _ _ h13
    · exact a16_other2 C D (L + 102) b sz 1 n _ _ h13 (by decide) (by decide)
    · rw [if_neg (by decide), if_neg (by decide), if_neg (by decide), if_pos rfl]
      by_cases hle : (s.length : Int) ≤ sz
      · rw [if_pos hle]
        refine a16_text C D (L + 102) b sz 0 s _ h13 _ fun X ρ h8 h3 h4 => ?_
        exact tail16_fits C D (L + 102) b sz s X ρ hL hs (by omega) h8 h3 h4 s (fun u hu => hu.1 hle) hle _ (h30 hb s z2)
      · rw [if_neg hle]
        by_cases htr : Lib.trimB (s.drop sz.toNat) 32 = []
        · rw [if_pos htr]
          refine a16_text C D (L + 102) b sz 0 s _ h13 _ fun X ρ h8 h3 h4 => ?_
          have hp := h30 hb (s.take sz.toNat) z2
          rw [padB_full b sz _ (by rw [List.length_take]; omega)] at hp
          exact tail16_fits C D (L + 102) b sz s X ρ hL hs (by omega) h8 h3 h4 (s.take sz.toNat) (fun u hu => hu.2.1 (by omega) htr) (by rw [List.length_take]; omega) _ hp
        · rw [if_neg htr]
          refine a16_text C D (L + 102) b sz 0 s _ h13 _ fun X ρ h8 h3 h4 => ?_
          exact tail16_long C D (L + 102) b sz s X ρ hL hs (by omega) h8 h3 h4 (fun u hu => hu.2.2 (by omega) htr)
    · exact a16_other2 C D (L + 102) b sz 3 0 _ _ h13 (by decide) (by decide)
  · rw [if_neg (by decide)]
    rcases hv with ⟨rfl, rfl, rfl, rfl⟩ | ⟨rfl, rfl, rfl⟩ | ⟨rfl, rfl, rfl⟩ | ⟨rfl, rfl, rfl⟩
    · exact a16_null3 C D (L + 102) 6 0 0 _ _ h13
    · exact a16_other3 C D (L + 102) 6 0 1 n _ _ h13 (by decide) (by decide)
    · exact a16_other3 C D (L + 102) 6 0 2 0 _ _ h13 (by decide) (by decide)
    · exact a16_bool C D (L + 102) 6 0 0 _ t h13

end Go.Ab.Cols

/- The law TypesAssigns, where its parts agree. -/
set_option maxRecDepth 1000000
namespace Go.Ab.Cols
open Go Go.Ab Go.Ab.Names
theorem law4 (C : Oracle) (D : DOracle) (L : Nat) (b s : Int) (r0 r1 r2 r3 v0 v1 v2 v3 : PV) (a n : Int) (x e : List UInt8) (t : Bool)
    (h7 : ∀ σ, C 7 [] σ = some (.ret (.p (.bool true)), σ)) (h15 : ∀ σ, C 15 [.p (.agg [r0, r1, r2, r3])] σ = some (.ret (.p (.agg [v0, v1, v2, v3])), σ))
    (h14 : ∀ σ, C 14 [.p (.agg [v0, v1, v2, v3]), .p (.agg [.int .i64 b, .int .i64 s])] σ = some (.ret (.p (.tup [.agg [.int .i64 a, .int .i64 n, .str x, .bool t], .str e])), σ)) (h16 : ∀ σ, C 16 [.p (.agg [v0, v1, v2, v3]), .p (.agg [.int .i64 b, .int .i64 s])] σ = some (.ret (.p (.tup [.agg [.int .i64 a, .int .i64 n, .str x, .bool t], .str e])), σ)) :
    ansV (runFunc C D L lit4 [.p (.agg [r0, r1, r2, r3]), .p (.int .i64 b), .p (.int .i64 s)] []) = some (.bool true) := by
  simp only [runFunc, lit4]
  rw [seqN (a := .region _) (by simp [params, exec, runOps, wantedA, stepOp, pureOp, allocOp, ev, Env.get_cons, putE, AV.fit, AV.toCells, Cells.len]; rfl)]
  rw [seqN (a := .region _) (by simp [exec, runOps, wantedA, stepOp, pureOp, allocOp, readOp, effOp, ev, Env.get_cons, putE, AV.fit, AV.toCells, mkCells, allP, mkAgg, Cells.len, evParts, fillA, splice, spliceC, AV.cells]; rfl)]
  rw [seqN (a := .draw _ _ _) (by
    unfold exec drawExec
    rw [drawR (v := .p (.agg [r0, r1, r2, r3])) (id := 0) (by simp [wantedA]) rfl (by simp [keepE, readsOf, opds, tmpsOf, stillOp, pureOp, refOf, refV, ev, Env.get_cons, readOp, oneH, partC, partP])]
    simp only [putE, Nat.reduceAdd]
    rw [drawE (by simp [wantedA]) rfl (by simp [keepE, readsOf, opds, tmpsOf, runOps, wantedA, ev, evs, target, Env.get_cons, putE, h15]; rfl)]
    simp only [carry, Env.get_cons, reduceIte, Nat.reduceEqDiff, Nat.reduceAdd]
    rw [drawR (v := .p (.agg [.int .i64 b, .int .i64 s])) (id := 1) (by simp [wantedA]) rfl (by simp [keepE, readsOf, opds, tmpsOf, stillOp, pureOp, refOf, refV, ev, Env.get_cons, readOp, oneH, partC, partP])]
    simp only [putE, Nat.reduceAdd]
    rw [drawE (by simp [wantedA]) rfl (by simp [keepE, readsOf, opds, tmpsOf, runOps, wantedA, ev, evs, target, Env.get_cons, putE, h14]; rfl)]
    simp only [carry, Env.get_cons, reduceIte, Nat.reduceEqDiff, Nat.reduceAdd]
    rw [drawS (v := .p (.tup [.agg [.int .i64 a, .int .i64 n, .str x, .bool t], .str e])) (by simp [wantedA]) rfl (by simp [keepE, readsOf, opds, tmpsOf, stillOp, pureOp, ev, Env.get_cons])]
    simp only [putE, Nat.reduceAdd]
    rw [drawS (v := .p (.agg [.int .i64 a, .int .i64 n, .str x, .bool t])) (by simp [wantedA]) rfl (by simp [keepE, readsOf, opds, tmpsOf, stillOp, pureOp, ev, Env.get_cons, extractA])]
    simp only [putE, Nat.reduceAdd]
    rw [drawS (v := .p (.str e)) (by simp [wantedA]) rfl (by simp [keepE, readsOf, opds, tmpsOf, stillOp, pureOp, ev, Env.get_cons, extractA])]
    simp only [putE, Nat.reduceAdd]
    rw [drawE (by simp [wantedA]) rfl (by simp [keepE, readsOf, opds, tmpsOf, runOps, wantedA, stepOp, pureOp, allocOp, putE, mkCells, allP]; rfl)]
    simp only [carry, Env.get_cons, reduceIte, Nat.reduceAdd]
    rw [drawE (by simp [wantedA]) rfl (by simp [keepE, readsOf, opds, tmpsOf, runOps, wantedA, stepOp, pureOp, allocOp, readOp, effOp, ev, Env.get_cons, putE, AV.fit, AV.toCells, Cells.len, splice, spliceC]; rfl)]
    simp only [carry, Nat.reduceAdd]
    rw [drawS (v := .p (.str e)) (by simp [wantedA]) rfl (by simp [keepE, readsOf, opds, tmpsOf, stillOp, pureOp, ev, Env.get_cons])]
    simp only [putE, Nat.reduceAdd]
    simp only [drawRun]
    refine if_pos ?_
    show _ = _
    kernel_rfl)]
  rw [seqN (a := .draw _ _ _) (by
    unfold exec drawExec
    rw [drawR (v := .p (.agg [r0, r1, r2, r3])) (id := 0) (by simp [wantedA]) rfl (by simp [keepE, readsOf, opds, tmpsOf, stillOp, pureOp, refOf, refV, ev, Env.get_cons, readOp, oneH, partC, partP])]
    simp only [putE, Nat.reduceAdd]
    rw [drawE (by simp [wantedA]) rfl (by simp [keepE, readsOf, opds, tmpsOf, runOps, wantedA, ev, evs, target, Env.get_cons, putE, h15]; rfl)]
    simp only [carry, Env.get_cons, reduceIte, Nat.reduceEqDiff, Nat.reduceAdd]
    rw [drawR (v := .p (.agg [.int .i64 b, .int .i64 s])) (id := 1) (by simp [wantedA]) rfl (by simp [keepE, readsOf, opds, tmpsOf, stillOp, pureOp, refOf, refV, ev, Env.get_cons, readOp, oneH, partC, partP])]
    simp only [putE, Nat.reduceAdd]
    rw [drawE (by simp [wantedA]) rfl (by simp [keepE, readsOf, opds, tmpsOf, runOps, wantedA, ev, evs, target, Env.get_cons, putE, h16]; rfl)]
    simp only [carry, Env.get_cons, reduceIte, Nat.reduceEqDiff, Nat.reduceAdd]
    rw [drawS (v := .p (.tup [.agg [.int .i64 a, .int .i64 n, .str x, .bool t], .str e])) (by simp [wantedA]) rfl (by simp [keepE, readsOf, opds, tmpsOf, stillOp, pureOp, ev, Env.get_cons])]
    simp only [putE, Nat.reduceAdd]
    rw [drawS (v := .p (.agg [.int .i64 a, .int .i64 n, .str x, .bool t])) (by simp [wantedA]) rfl (by simp [keepE, readsOf, opds, tmpsOf, stillOp, pureOp, ev, Env.get_cons, extractA])]
    simp only [putE, Nat.reduceAdd]
    rw [drawS (v := .p (.str e)) (by simp [wantedA]) rfl (by simp [keepE, readsOf, opds, tmpsOf, stillOp, pureOp, ev, Env.get_cons, extractA])]
    simp only [putE, Nat.reduceAdd]
    rw [drawE (by simp [wantedA]) rfl (by simp [keepE, readsOf, opds, tmpsOf, runOps, wantedA, stepOp, pureOp, allocOp, putE, mkCells, allP]; rfl)]
    simp only [carry, Env.get_cons, reduceIte, Nat.reduceAdd]
    rw [drawE (by simp [wantedA]) rfl (by simp [keepE, readsOf, opds, tmpsOf, runOps, wantedA, stepOp, pureOp, allocOp, readOp, effOp, ev, Env.get_cons, putE, AV.fit, AV.toCells, Cells.len, splice, spliceC]; rfl)]
    simp only [carry, Nat.reduceAdd]
    rw [drawS (v := .p (.str e)) (by simp [wantedA]) rfl (by simp [keepE, readsOf, opds, tmpsOf, stillOp, pureOp, ev, Env.get_cons])]
    simp only [putE, Nat.reduceAdd]
    simp only [drawRun]
    refine if_pos ?_
    show _ = _
    kernel_rfl)]
  rw [seqN (a := .region _) (by simp [exec, runOps, wantedA, stepOp, pureOp, allocOp, readOp, ev, evs, Env.get_cons, putE, target, partC, partP, binA, eqP, eqPs, strBin, h7]; rfl)]
  show _ = _
  kernel_rfl

end Go.Ab.Cols
