/- The laws of keys: how values and lists of values stand. -/
import Derived.Test.YtafjhlangdcefaaDoorAbK5
set_option linter.unusedSectionVars false
set_option linter.unusedSimpArgs false
set_option linter.unusedVariables false
set_option maxRecDepth 1000000
namespace Go.Ab.Key
open Go Go.Ab Go.Proofs
variable [Marks]
def lit36 : AFunc := { ntmps := 20, results := [ARes.tmp 2], body := (ACode.region [{ dst := some 2, op := AOp.mv (Opd.c (AV.p (PV.str []))), guard := none }]).seq ((ACode.region [{ dst := some 4, op := AOp.mv (Opd.t 0), guard := none }, { dst := some 5, op := AOp.len true (Opd.t 4), guard := none }, { dst := some 3, op := AOp.mv (Opd.t 5), guard := none }]).seq ((ACode.block 0 (ACode.loop none (((ACode.region [{ dst := some 6, op := AOp.mv (Opd.t 3), guard := none }, { dst := some 7, op := AOp.bin (Bin.plain BinOp.gtr) (Opd.t 6) (Opd.c (AV.p (PV.int IntKind.i64 (0)))), guard := none }, { dst := some 8, op := AOp.mv (Opd.t 7), guard := none }, { dst := some 9, op := AOp.mv (Opd.t 0), guard := some (8, true) }, { dst := some 10, op := AOp.mv (Opd.t 3), guard := some (8, true) }, { dst := some 11, op := AOp.bin (Bin.plain BinOp.sub) (Opd.t 10) (Opd.c (AV.p (PV.int IntKind.i64 (1)))), guard := some (8, true) }, { dst := some 12, op := AOp.atStr (Opd.t 9) (Opd.t 11), guard := some (8, true) }, { dst := some 13, op := AOp.bin (Bin.plain BinOp.eql) (Opd.t 12) (Opd.c (AV.p (PV.int IntKind.u8 (32)))), guard := some (8, true) }, { dst := some 14, op := AOp.pick (Opd.t 8) (Opd.t 13) (Opd.c (AV.p (PV.bool false))), guard := none }]).seq (ACode.cond (Opd.t 14) ACode.skip (ACode.exit 0))).seq (ACode.block 1 (ACode.region [{ dst := some 15, op := AOp.mv (Opd.t 3), guard := none }, { dst := some 16, op := AOp.bin (Bin.plain BinOp.sub) (Opd.t 15) (Opd.c (AV.p (PV.int IntKind.i64 (1)))), guard := none }, { dst := some 3, op := AOp.mv (Opd.t 16), guard := none }]))))).seq ((ACode.region [{ dst := some 17, op := AOp.mv (Opd.t 0), guard := none }, { dst := some 18, op := AOp.mv (Opd.t 3), guard := none }, { dst := some 19, op := AOp.sliceStr (Opd.t 17) none (some (Opd.t 18)), guard := none }, { dst := some 2, op := AOp.mv (Opd.t 19), guard := none }]).seq ACode.ret))) }
def lit35 : AFunc := { ntmps := 7, results := [ARes.tmp 4], body := (ACode.region [{ dst := some 4, op := AOp.mv (Opd.c (AV.p (PV.int IntKind.i64 (0)))), guard := none }]).seq (((ACode.region [{ dst := some 5, op := AOp.mv (Opd.t 0), guard := none }]).seq (ACode.cond (Opd.t 5) ((ACode.region [{ dst := some 4, op := AOp.mv (Opd.c (AV.p (PV.int IntKind.i64 ((-1))))), guard := none }]).seq ACode.ret) ACode.skip)).seq (((ACode.region [{ dst := some 6, op := AOp.mv (Opd.t 1), guard := none }]).seq (ACode.cond (Opd.t 6) ((ACode.region [{ dst := some 4, op := AOp.mv (Opd.c (AV.p (PV.int IntKind.i64 (0)))), guard := none }]).seq ACode.ret) ACode.skip)).seq ((ACode.region [{ dst := some 4, op := AOp.mv (Opd.c (AV.p (PV.int IntKind.i64 (1)))), guard := none }]).seq ACode.ret))) }
def lit20 : AFunc := { ntmps := 63, results := [ARes.tmp 4], body := (ACode.region [{ dst := some 2, op := AOp.box 4 (Opd.t 0), guard := none }, { dst := some 3, op := AOp.box 4 (Opd.t 1), guard := none }, { dst := some 4, op := AOp.mv (Opd.c (AV.p (PV.int IntKind.i64 (0)))), guard := none }]).seq (((ACode.region [{ dst := some 7, op := AOp.fieldAddr 0 (Opd.t 2), guard := none }, { dst := some 8, op := AOp.load false 1 (Opd.t 7), guard := none }, { dst := some 9, op := AOp.fieldAddr 0 (Opd.t 3), guard := none }, { dst := some 10, op := AOp.load false 1 (Opd.t 9), guard := none }, { dst := some 11, op := AOp.bin (Bin.plain BinOp.neq) (Opd.t 8) (Opd.t 10), guard := none }]).seq (ACode.cond (Opd.t 11) ((ACode.region [{ dst := some 12, op := AOp.fieldAddr 0 (Opd.t 2), guard := none }, { dst := some 13, op := AOp.load false 1 (Opd.t 12), guard := none }, { dst := some 14, op := AOp.fieldAddr 0 (Opd.t 3), guard := none }, { dst := some 15, op := AOp.load false 1 (Opd.t 14), guard := none }, { dst := some 16, op := AOp.bin (Bin.plain BinOp.lss) (Opd.t 13) (Opd.t 15), guard := none }, { dst := some 17, op := AOp.call (Opd.c (AV.p (PV.fn 35))) [Opd.t 16, Opd.c (AV.p (PV.bool false))], guard := none }, { dst := some 4, op := AOp.mv (Opd.t 17), guard := none }]).seq ACode.ret) ACode.skip)).seq (((ACode.region [{ dst := some 18, op := AOp.fieldAddr 0 (Opd.t 2), guard := none }, { dst := some 19, op := AOp.load false 1 (Opd.t 18), guard := none }]).seq (ACode.block 0 ((ACode.region [{ dst := some 21, op := AOp.bin (Bin.plain BinOp.eql) (Opd.t 19) (Opd.c (AV.p (PV.int IntKind.i64 (1)))), guard := none }, { dst := some 20, op := AOp.mv (Opd.t 21), guard := none }]).seq (ACode.cond (Opd.t 20) ((ACode.region [{ dst := some 22, op := AOp.fieldAddr 1 (Opd.t 2), guard := none }, { dst := some 23, op := AOp.load false 1 (Opd.t 22), guard := none }, { dst := some 24, op := AOp.fieldAddr 1 (Opd.t 3), guard := none }, { dst := some 25, op := AOp.load false 1 (Opd.t 24), guard := none }, { dst := some 26, op := AOp.bin (Bin.plain BinOp.lss) (Opd.t 23) (Opd.t 25), guard := none }, { dst := some 27, op := AOp.fieldAddr 1 (Opd.t 2), guard := none }, { dst := some 28, op := AOp.load false 1 (Opd.t 27), guard := none }, { dst := some 29, op := AOp.fieldAddr 1 (Opd.t 3), guard := none }, { dst := some 30, op := AOp.load false 1 (Opd.t 29), guard := none }, { dst := some 31, op := AOp.bin (Bin.plain BinOp.eql) (Opd.t 28) (Opd.t 30), guard := none }, { dst := some 32, op := AOp.call (Opd.c (AV.p (PV.fn 35))) [Opd.t 26, Opd.t 31], guard := none }, { dst := some 4, op := AOp.mv (Opd.t 32), guard := none }]).seq ACode.ret) ((ACode.region [{ dst := some 34, op := AOp.bin (Bin.plain BinOp.eql) (Opd.t 19) (Opd.c (AV.p (PV.int IntKind.i64 (2)))), guard := none }, { dst := some 33, op := AOp.mv (Opd.t 34), guard := none }]).seq (ACode.cond (Opd.t 33) ((ACode.region [{ dst := some 35, op := AOp.fieldAddr 2 (Opd.t 2), guard := none }, { dst := some 36, op := AOp.load false 1 (Opd.t 35), guard := none }, { dst := some 37, op := AOp.call (Opd.c (AV.p (PV.fn 36))) [Opd.t 36], guard := none }, { dst := some 5, op := AOp.mv (Opd.t 37), guard := none }]).seq ((ACode.region [{ dst := some 38, op := AOp.fieldAddr 2 (Opd.t 3), guard := none }, { dst := some 39, op := AOp.load false 1 (Opd.t 38), guard := none }, { dst := some 40, op := AOp.call (Opd.c (AV.p (PV.fn 36))) [Opd.t 39], guard := none }, { dst := some 6, op := AOp.mv (Opd.t 40), guard := none }]).seq ((ACode.region [{ dst := some 41, op := AOp.mv (Opd.t 5), guard := none }, { dst := some 42, op := AOp.mv (Opd.t 6), guard := none }, { dst := some 43, op := AOp.bin (Bin.plain BinOp.lss) (Opd.t 41) (Opd.t 42), guard := none }, { dst := some 44, op := AOp.mv (Opd.t 5), guard := none }, { dst := some 45, op := AOp.mv (Opd.t 6), guard := none }, { dst := some 46, op := AOp.bin (Bin.plain BinOp.eql) (Opd.t 44) (Opd.t 45), guard := none }, { dst := some 47, op := AOp.call (Opd.c (AV.p (PV.fn 35))) [Opd.t 43, Opd.t 46], guard := none }, { dst := some 4, op := AOp.mv (Opd.t 47), guard := none }]).seq ACode.ret))) ((ACode.region [{ dst := some 49, op := AOp.bin (Bin.plain BinOp.eql) (Opd.t 19) (Opd.c (AV.p (PV.int IntKind.i64 (3)))), guard := none }, { dst := some 48, op := AOp.mv (Opd.t 49), guard := none }]).seq (ACode.cond (Opd.t 48) ((ACode.region [{ dst := some 50, op := AOp.fieldAddr 3 (Opd.t 2), guard := none }, { dst := some 51, op := AOp.load false 1 (Opd.t 50), guard := none }, { dst := some 52, op := AOp.un UnOp.not (Opd.t 51), guard := none }, { dst := some 53, op := AOp.mv (Opd.t 52), guard := none }, { dst := some 54, op := AOp.fieldAddr 3 (Opd.t 3), guard := some (53, true) }, { dst := some 55, op := AOp.load false 1 (Opd.t 54), guard := some (53, true) }, { dst := some 56, op := AOp.pick (Opd.t 53) (Opd.t 55) (Opd.c (AV.p (PV.bool false))), guard := none }, { dst := some 57, op := AOp.fieldAddr 3 (Opd.t 2), guard := none }, { dst := some 58, op := AOp.load false 1 (Opd.t 57), guard := none }, { dst := some 59, op := AOp.fieldAddr 3 (Opd.t 3), guard := none }, { dst := some 60, op := AOp.load false 1 (Opd.t 59), guard := none }, { dst := some 61, op := AOp.bin (Bin.eq false EQ.bool) (Opd.t 58) (Opd.t 60), guard := none }, { dst := some 62, op := AOp.call (Opd.c (AV.p (PV.fn 35))) [Opd.t 56, Opd.t 61], guard := none }, { dst := some 4, op := AOp.mv (Opd.t 62), guard := none }]).seq ACode.ret) ACode.skip)))))))).seq ((ACode.region [{ dst := some 4, op := AOp.mv (Opd.c (AV.p (PV.int IntKind.i64 (0)))), guard := none }]).seq ACode.ret))) }
def lit10 : AFunc := { ntmps := 43, results := [ARes.tmp 4], body := (ACode.region [{ dst := some 4, op := AOp.mv (Opd.c (AV.p (PV.int IntKind.i64 (0)))), guard := none }]).seq (((ACode.region [{ dst := some 5, op := AOp.mv (Opd.c (AV.p (PV.int IntKind.i64 (0)))), guard := none }]).seq (ACode.block 0 (ACode.loop none (((ACode.region [{ dst := some 7, op := AOp.mv (Opd.t 5), guard := none }, { dst := some 8, op := AOp.mv (Opd.t 0), guard := none }, { dst := some 9, op := AOp.len false (Opd.t 8), guard := none }, { dst := some 10, op := AOp.bin (Bin.plain BinOp.lss) (Opd.t 7) (Opd.t 9), guard := none }, { dst := some 11, op := AOp.mv (Opd.t 10), guard := none }, { dst := some 12, op := AOp.mv (Opd.t 5), guard := some (11, true) }, { dst := some 13, op := AOp.mv (Opd.t 1), guard := some (11, true) }, { dst := some 14, op := AOp.len false (Opd.t 13), guard := some (11, true) }, { dst := some 15, op := AOp.bin (Bin.plain BinOp.lss) (Opd.t 12) (Opd.t 14), guard := some (11, true) }, { dst := some 16, op := AOp.pick (Opd.t 11) (Opd.t 15) (Opd.c (AV.p (PV.bool false))), guard := none }]).seq (ACode.cond (Opd.t 16) ACode.skip (ACode.exit 0))).seq ((ACode.block 1 ((ACode.draw 10 [0, 0, 3, 7, 0, 0, 48, 112, 255, 511] [{ dst := some 19, op := AOp.mv (Opd.t 0), guard := none }, { dst := some 20, op := AOp.mv (Opd.t 5), guard := none }, { dst := some 21, op := AOp.idx 4 (Opd.t 19) (Opd.t 20), guard := none }, { dst := some 22, op := AOp.load true 4 (Opd.t 21), guard := none }, { dst := some 23, op := AOp.mv (Opd.t 1), guard := none }, { dst := some 24, op := AOp.mv (Opd.t 5), guard := none }, { dst := some 25, op := AOp.idx 4 (Opd.t 23) (Opd.t 24), guard := none }, { dst := some 26, op := AOp.load true 4 (Opd.t 25), guard := none }, { dst := some 27, op := AOp.call (Opd.c (AV.p (PV.fn 20))) [Opd.t 22, Opd.t 26], guard := none }, { dst := some 6, op := AOp.mv (Opd.t 27), guard := none }]).seq ((ACode.region [{ dst := some 28, op := AOp.mv (Opd.t 6), guard := none }, { dst := some 29, op := AOp.bin (Bin.plain BinOp.neq) (Opd.t 28) (Opd.c (AV.p (PV.int IntKind.i64 (0)))), guard := none }]).seq (ACode.cond (Opd.t 29) ((ACode.region [{ dst := some 30, op := AOp.mv (Opd.t 6), guard := none }, { dst := some 4, op := AOp.mv (Opd.t 30), guard := none }]).seq ACode.ret) ACode.skip)))).seq (ACode.region [{ dst := some 17, op := AOp.mv (Opd.t 5), guard := none }, { dst := some 18, op := AOp.bin (Bin.plain BinOp.add) (Opd.t 17) (Opd.c (AV.p (PV.int IntKind.i64 (1)))), guard := none }, { dst := some 5, op := AOp.mv (Opd.t 18), guard := none }])))))).seq ((ACode.block 2 ((ACode.region [{ dst := some 32, op := AOp.mv (Opd.t 0), guard := none }, { dst := some 33, op := AOp.len false (Opd.t 32), guard := none }, { dst := some 34, op := AOp.mv (Opd.t 1), guard := none }, { dst := some 35, op := AOp.len false (Opd.t 34), guard := none }, { dst := some 36, op := AOp.bin (Bin.plain BinOp.lss) (Opd.t 33) (Opd.t 35), guard := none }, { dst := some 31, op := AOp.mv (Opd.t 36), guard := none }]).seq (ACode.cond (Opd.t 31) ((ACode.region [{ dst := some 4, op := AOp.mv (Opd.c (AV.p (PV.int IntKind.i64 ((-1))))), guard := none }]).seq ACode.ret) ((ACode.region [{ dst := some 38, op := AOp.mv (Opd.t 0), guard := none }, { dst := some 39, op := AOp.len false (Opd.t 38), guard := none }, { dst := some 40, op := AOp.mv (Opd.t 1), guard := none }, { dst := some 41, op := AOp.len false (Opd.t 40), guard := none }, { dst := some 42, op := AOp.bin (Bin.plain BinOp.gtr) (Opd.t 39) (Opd.t 41), guard := none }, { dst := some 37, op := AOp.mv (Opd.t 42), guard := none }]).seq (ACode.cond (Opd.t 37) ((ACode.region [{ dst := some 4, op := AOp.mv (Opd.c (AV.p (PV.int IntKind.i64 (1)))), guard := none }]).seq ACode.ret) ACode.skip))))).seq ((ACode.region [{ dst := some 4, op := AOp.mv (Opd.c (AV.p (PV.int IntKind.i64 (0)))), guard := none }]).seq ACode.ret))) }
def body36 : ACode := (((ACode.region [{ dst := some 6, op := AOp.mv (Opd.t 3), guard := none }, { dst := some 7, op := AOp.bin (Bin.plain BinOp.gtr) (Opd.t 6) (Opd.c (AV.p (PV.int IntKind.i64 (0)))), guard := none }, { dst := some 8, op := AOp.mv (Opd.t 7), guard := none }, { dst := some 9, op := AOp.mv (Opd.t 0), guard := some (8, true) }, { dst := some 10, op := AOp.mv (Opd.t 3), guard := some (8, true) }, { dst := some 11, op := AOp.bin (Bin.plain BinOp.sub) (Opd.t 10) (Opd.c (AV.p (PV.int IntKind.i64 (1)))), guard := some (8, true) }, { dst := some 12, op := AOp.atStr (Opd.t 9) (Opd.t 11), guard := some (8, true) }, { dst := some 13, op := AOp.bin (Bin.plain BinOp.eql) (Opd.t 12) (Opd.c (AV.p (PV.int IntKind.u8 (32)))), guard := some (8, true) }, { dst := some 14, op := AOp.pick (Opd.t 8) (Opd.t 13) (Opd.c (AV.p (PV.bool false))), guard := none }]).seq (ACode.cond (Opd.t 14) ACode.skip (ACode.exit 0))).seq (ACode.block 1 (ACode.region [{ dst := some 15, op := AOp.mv (Opd.t 3), guard := none }, { dst := some 16, op := AOp.bin (Bin.plain BinOp.sub) (Opd.t 15) (Opd.c (AV.p (PV.int IntKind.i64 (1)))), guard := none }, { dst := some 3, op := AOp.mv (Opd.t 16), guard := none }])))
theorem lit36_eq : lit36.body = (ACode.region [{ dst := some 2, op := AOp.mv (Opd.c (AV.p (PV.str []))), guard := none }]).seq ((ACode.region [{ dst := some 4, op := AOp.mv (Opd.t 0), guard := none }, { dst := some 5, op := AOp.len true (Opd.t 4), guard := none }, { dst := some 3, op := AOp.mv (Opd.t 5), guard := none }]).seq ((ACode.block 0 (ACode.loop none body36)).seq ((ACode.region [{ dst := some 17, op := AOp.mv (Opd.t 0), guard := none }, { dst := some 18, op := AOp.mv (Opd.t 3), guard := none }, { dst := some 19, op := AOp.sliceStr (Opd.t 17) none (some (Opd.t 18)), guard := none }, { dst := some 2, op := AOp.mv (Opd.t 19), guard := none }]).seq ACode.ret))) := rfl
def body10 : ACode := (((ACode.region [{ dst := some 7, op := AOp.mv (Opd.t 5), guard := none }, { dst := some 8, op := AOp.mv (Opd.t 0), guard := none }, { dst := some 9, op := AOp.len false (Opd.t 8), guard := none }, { dst := some 10, op := AOp.bin (Bin.plain BinOp.lss) (Opd.t 7) (Opd.t 9), guard := none }, { dst := some 11, op := AOp.mv (Opd.t 10), guard := none }, { dst := some 12, op := AOp.mv (Opd.t 5), guard := some (11, true) }, { dst := some 13, op := AOp.mv (Opd.t 1), guard := some (11, true) }, { dst := some 14, op := AOp.len false (Opd.t 13), guard := some (11, true) }, { dst := some 15, op := AOp.bin (Bin.plain BinOp.lss) (Opd.t 12) (Opd.t 14), guard := some (11, true) }, { dst := some 16, op := AOp.pick (Opd.t 11) (Opd.t 15) (Opd.c (AV.p (PV.bool false))), guard := none }]).seq (ACode.cond (Opd.t 16) ACode.skip (ACode.exit 0))).seq ((ACode.block 1 ((ACode.draw 10 [0, 0, 3, 7, 0, 0, 48, 112, 255, 511] [{ dst := some 19, op := AOp.mv (Opd.t 0), guard := none }, { dst := some 20, op := AOp.mv (Opd.t 5), guard := none }, { dst := some 21, op := AOp.idx 4 (Opd.t 19) (Opd.t 20), guard := none }, { dst := some 22, op := AOp.load true 4 (Opd.t 21), guard := none }, { dst := some 23, op := AOp.mv (Opd.t 1), guard := none }, { dst := some 24, op := AOp.mv (Opd.t 5), guard := none }, { dst := some 25, op := AOp.idx 4 (Opd.t 23) (Opd.t 24), guard := none }, { dst := some 26, op := AOp.load true 4 (Opd.t 25), guard := none }, { dst := some 27, op := AOp.call (Opd.c (AV.p (PV.fn 20))) [Opd.t 22, Opd.t 26], guard := none }, { dst := some 6, op := AOp.mv (Opd.t 27), guard := none }]).seq ((ACode.region [{ dst := some 28, op := AOp.mv (Opd.t 6), guard := none }, { dst := some 29, op := AOp.bin (Bin.plain BinOp.neq) (Opd.t 28) (Opd.c (AV.p (PV.int IntKind.i64 (0)))), guard := none }]).seq (ACode.cond (Opd.t 29) ((ACode.region [{ dst := some 30, op := AOp.mv (Opd.t 6), guard := none }, { dst := some 4, op := AOp.mv (Opd.t 30), guard := none }]).seq ACode.ret) ACode.skip)))).seq (ACode.region [{ dst := some 17, op := AOp.mv (Opd.t 5), guard := none }, { dst := some 18, op := AOp.bin (Bin.plain BinOp.add) (Opd.t 17) (Opd.c (AV.p (PV.int IntKind.i64 (1)))), guard := none }, { dst := some 5, op := AOp.mv (Opd.t 18), guard := none }])))
theorem lit10_eq : lit10.body = (ACode.region [{ dst := some 4, op := AOp.mv (Opd.c (AV.p (PV.int IntKind.i64 (0)))), guard := none }]).seq (((ACode.region [{ dst := some 5, op := AOp.mv (Opd.c (AV.p (PV.int IntKind.i64 (0)))), guard := none }]).seq (ACode.block 0 (ACode.loop none body10))).seq ((ACode.block 2 ((ACode.region [{ dst := some 32, op := AOp.mv (Opd.t 0), guard := none }, { dst := some 33, op := AOp.len false (Opd.t 32), guard := none }, { dst := some 34, op := AOp.mv (Opd.t 1), guard := none }, { dst := some 35, op := AOp.len false (Opd.t 34), guard := none }, { dst := some 36, op := AOp.bin (Bin.plain BinOp.lss) (Opd.t 33) (Opd.t 35), guard := none }, { dst := some 31, op := AOp.mv (Opd.t 36), guard := none }]).seq (ACode.cond (Opd.t 31) ((ACode.region [{ dst := some 4, op := AOp.mv (Opd.c (AV.p (PV.int IntKind.i64 ((-1))))), guard := none }]).seq ACode.ret) ((ACode.region [{ dst := some 38, op := AOp.mv (Opd.t 0), guard := none }, { dst := some 39, op := AOp.len false (Opd.t 38), guard := none }, { dst := some 40, op := AOp.mv (Opd.t 1), guard := none }, { dst := some 41, op := AOp.len false (Opd.t 40), guard := none }, { dst := some 42, op := AOp.bin (Bin.plain BinOp.gtr) (Opd.t 39) (Opd.t 41), guard := none }, { dst := some 37, op := AOp.mv (Opd.t 42), guard := none }]).seq (ACode.cond (Opd.t 37) ((ACode.region [{ dst := some 4, op := AOp.mv (Opd.c (AV.p (PV.int IntKind.i64 (1)))), guard := none }]).seq ACode.ret) ACode.skip))))).seq ((ACode.region [{ dst := some 4, op := AOp.mv (Opd.c (AV.p (PV.int IntKind.i64 (0)))), guard := none }]).seq ACode.ret))) := rfl
theorem trim_snoc (l : List UInt8) (c : UInt8) : trimB (l ++ [c]) = if c = 32 then trimB l else l ++ [c] := by
  by_cases h : c = 32 <;> simp [Lib.trimRightB, h]
def ordI : Ordering → Int
  | .lt => -1
  | .eq => 0
  | .gt => 1
section
variable (C : Oracle) (L : Nat) (s : List UInt8) (ρ : Env) (σ : Heap) (n : Nat)
theorem stop36 (h0 : ρ.get 0 = some (.p (.str s))) (h3 : ρ.get 3 = some (.p (.int .i64 (n : Int)))) (hn : n ≤ s.length) (hm : s.length ≤ 9223372036854775807) (hs : n = 0 ∨ ∃ c, s[n - 1]? = some c ∧ c ≠ 32) :
    ∃ ρ' : Env, exec C L body36 ⟨ρ, [], σ⟩ = some (.exit 0, ⟨ρ', [], σ⟩) ∧ ρ'.get 0 = some (.p (.str s)) ∧ ρ'.get 3 = some (.p (.int .i64 (n : Int))) := by
  rcases Nat.eq_zero_or_pos n with h | h
  · subst h
    exact ⟨_, by simp [body36, exec, runOps, wantedA, stepOp, pureOp, allocOp, readOp, effOp, ev, evs, evO, Env.get_cons, putE, binA, intBin, unA, AV.fit, AV.toCells, partC, partP, mkCells, allP, mkAgg, Cells.len, target, h0, h3]; rfl, by simp [Env.get_cons, h0], by simp [Env.get_cons, h3]⟩
  · obtain ⟨c, hc, hne⟩ := hs.resolve_left (by omega)
    have hp : (n : Int) > 0 := by omega
    have e1 : IntKind.i64.wrap ((n : Int) - 1) = (n : Int) - 1 := wrap_id _ (by omega) (by omega)
    have hge : (1 : Int) ≤ (n : Int) := by omega
    have ht : ((n : Int) - 1).toNat = n - 1 := by omega
    have hcn : ((c.toNat : Int) == 32) = false := by
      rw [beq_eq_false_iff_ne]
      intro hh
      exact hne (UInt8.toNat_inj.1 (by simpa using Int.ofNat.inj hh))
    exact ⟨_, by simp [body36, exec, runOps, wantedA, stepOp, pureOp, allocOp, readOp, effOp, ev, evs, evO, Env.get_cons, putE, binA, intBin, unA, AV.fit, AV.toCells, partC, partP, mkCells, allP, mkAgg, Cells.len, target, atStrA, h0, h3, hp, h, e1, hge, ht, hc, hcn]; rfl, by simp [Env.get_cons, h0], by simp [Env.get_cons, h3]⟩
theorem go36 (h0 : ρ.get 0 = some (.p (.str s))) (h3 : ρ.get 3 = some (.p (.int .i64 (n : Int)))) (hp0 : 0 < n) (hm : s.length ≤ 9223372036854775807) (hn : n ≤ s.length) (hc : s[n - 1]? = some 32) :
    ∃ ρ' : Env, exec C L body36 ⟨ρ, [], σ⟩ = some (.normal, ⟨ρ', [], σ⟩) ∧ ρ'.get 0 = some (.p (.str s)) ∧ ρ'.get 3 = some (.p (.int .i64 ((n : Int) - 1))) := by
  have hp : (n : Int) > 0 := by omega
  have e1 : IntKind.i64.wrap ((n : Int) - 1) = (n : Int) - 1 := wrap_id _ (by omega) (by omega)
  have hge : (1 : Int) ≤ (n : Int) := by omega
  have ht : ((n : Int) - 1).toNat = n - 1 := by omega
  exact ⟨_, by simp [body36, exec, runOps, wantedA, stepOp, pureOp, allocOp, readOp, effOp, ev, evs, evO, Env.get_cons, putE, binA, intBin, unA, AV.fit, AV.toCells, partC, partP, mkCells, allP, mkAgg, Cells.len, target, atStrA, h0, h3, hp, hp0, e1, hge, ht, hc]; rfl, by simp [Env.get_cons, h0], by simp [Env.get_cons]⟩
end
theorem loop36 (C : Oracle) (L : Nat) (s : List UInt8) (σ : Heap) (hm : s.length ≤ 9223372036854775807) : ∀ (n f : Nat) (ρ : Env), n < f → n ≤ s.length → ρ.get 0 = some (.p (.str s)) → ρ.get 3 = some (.p (.int .i64 (n : Int))) → trimB (s.take n) = trimB s →
    ∃ (ρ' : Env) (k : Nat), iter (exec C L body36) none f ⟨ρ, [], σ⟩ = some (.exit 0, ⟨ρ', [], σ⟩) ∧ ρ'.get 0 = some (.p (.str s)) ∧ ρ'.get 3 = some (.p (.int .i64 (k : Int))) ∧ k ≤ s.length ∧ s.take k = trimB s
  | n, f, ρ, hf, hn, h0, h3, ht => by
    obtain ⟨f, rfl⟩ : ∃ m, f = m + 1 := ⟨f - 1, by omega⟩
    by_cases hs : n = 0 ∨ ∃ c, s[n - 1]? = some c ∧ c ≠ 32
    · obtain ⟨ρ', e, g0, g3⟩ := stop36 C L s ρ σ n h0 h3 hn hm hs
      refine ⟨ρ', n, by simp only [iter, St.keep, e], g0, g3, hn, ?_⟩
      rw [← ht]
      rcases Nat.eq_zero_or_pos n with h | h
      · subst h; rfl
      · obtain ⟨c, hc, hne⟩ := hs.resolve_left (by omega)
        obtain ⟨j, rfl⟩ : ∃ j, n = j + 1 := ⟨n - 1, by omega⟩
        rw [Nat.add_sub_cancel] at hc
        rw [List.take_add_one, hc]
        simp only [Option.toList_some]
        rw [trim_snoc, if_neg hne]
    · have hp : 0 < n := by omega
      obtain ⟨j, rfl⟩ : ∃ j, n = j + 1 := ⟨n - 1, by omega⟩
      have hlt : j < s.length := by omega
      have hc : s[j + 1 - 1]? = some 32 := by
        rw [Nat.add_sub_cancel, List.getElem?_eq_getElem hlt]
        by_cases h : s[j] = 32
        · rw [h]
        · exact absurd (.inr ⟨s[j], by rw [Nat.add_sub_cancel, List.getElem?_eq_getElem hlt], h⟩) hs
      obtain ⟨ρ1, e, g0, g3⟩ := go36 C L s ρ σ (j + 1) h0 h3 hp hm hn hc
      rw [Nat.add_sub_cancel] at hc
      have ht' : trimB (s.take j) = trimB s := by
        rw [← ht, List.take_add_one, hc]
        simp only [Option.toList_some]
        rw [trim_snoc, if_pos rfl]
      obtain ⟨ρ', k, e', q⟩ := loop36 C L s σ hm j f ρ1 (by omega) (by omega) g0 (by rw [g3]; congr 3; omega) ht'
      exact ⟨ρ', k, by simp only [iter, St.keep, e]; exact e', q⟩
section
variable (m : Int) (L n : Nat)
theorem q36 : TE (G 0 m) 36 = some (.code lit36 true) := by kernel_rfl
theorem q35 : TE (G 0 m) 35 = some (.code lit35 true) := by kernel_rfl
theorem q20 : TE (G 0 m) 20 = some (.code lit20 true) := by kernel_rfl
theorem q10 : TE (G 0 m) 10 = some (.code lit10 true) := by kernel_rfl
theorem words36 (s : List UInt8) (hs : s.length < L) (hm : s.length ≤ 9223372036854775807) (σ : Heap) : (cAt (TE (G 0 m)) L (n + 1)).1 36 [.p (.str s)] σ = some (.ret (.p (.str (trimB s))), σ) := by
  refine call_ans (ps := [.str s]) (q36 m) (by kernel_rfl) ?_ σ
  generalize (cAt (TE (G 0 m)) L n).1 = C
  generalize (cAt (TE (G 0 m)) L n).2 = D
  obtain ⟨ρ', k, e, g0, g3, hk, ht⟩ := loop36 C L s [] hm s.length L [(3, .p (.int .i64 (s.length : Int))), (5, .p (.int .i64 (s.length : Int))), (4, .p (.str s)), (2, .p (.str [])), (0, .p (.str s))] hs (Nat.le_refl _) rfl rfl (by rw [List.take_length])
  rw [runFunc_eq, lit36_eq]
  rw [seqN (a := .region _) (by simp [params, exec, runOps, wantedA, stepOp, pureOp, allocOp, readOp, effOp, ev, evs, evO, Env.get_cons, putE, binA, intBin, unA, AV.fit, AV.toCells, partC, partP, mkCells, allP, mkAgg, Cells.len, target]; rfl), seqN (a := .region _) (by simp [exec, runOps, wantedA, stepOp, pureOp, allocOp, readOp, effOp, ev, evs, evO, Env.get_cons, putE, binA, intBin, unA, AV.fit, AV.toCells, partC, partP, mkCells, allP, mkAgg, Cells.len, target]; rfl)]
  have e2 : exec C L (.block 0 (.loop none body36)) ⟨[(3, .p (.int .i64 (s.length : Int))), (5, .p (.int .i64 (s.length : Int))), (4, .p (.str s)), (2, .p (.str [])), (0, .p (.str s))], [], []⟩ = some (.normal, ⟨ρ', [], []⟩) := by
    simp only [exec, e, if_true]
  rw [seqN e2]
  have hk1 : (0 : Int) ≤ (k : Int) := by omega
  have hk2 : (k : Int) ≤ (s.length : Int) := by omega
  simp [exec, runOps, wantedA, stepOp, pureOp, allocOp, readOp, effOp, ev, evs, evO, Env.get_cons, putE, binA, intBin, unA, AV.fit, AV.toCells, partC, partP, mkCells, allP, mkAgg, Cells.len, target, evParts, fillA, AV.cells, splice, spliceC, finA, leaveA, resA, resV, ansV, sliceA, boundsA, boundA, finX, g0, g3, hk, lit36, ht]
theorem three35 (x y : Bool) (σ : Heap) : (cAt (TE (G 0 m)) L (n + 1)).1 35 [.p (.bool x), .p (.bool y)] σ = some (.ret (.p (.int .i64 (if x then -1 else if y then 0 else 1))), σ) := by
  cases x <;> cases y <;> exact call_ans (ps := [.bool _, .bool _]) (q35 m) (by kernel_rfl) (by kernel_rfl) σ
theorem less_cmp : ∀ (x y : List UInt8), Op.bytesLess x y = (cmpL x y == .lt)
  | [], [] => rfl
  | [], _ :: _ => rfl
  | _ :: _, [] => rfl
  | a :: x, b :: y => by
    have ih := less_cmp x y
    simp only [Op.bytesLess, cmpL_cons]
    by_cases h1 : a < b
    · simp [h1]
    · by_cases h2 : b < a
      · have : (a == b) = false := beq_eq_false_iff_ne.2 (fun h => UInt8.lt_irrefl b (h ▸ h2))
        simp [h1, h2, this]
      · have : a = b := UInt8.le_antisymm (UInt8.not_lt.1 h2) (UInt8.not_lt.1 h1)
        subst this
        simp [h1, ih]
theorem eq_cmp (x y : List UInt8) : (x == y) = (cmpL x y == .eq) := by
  rw [Bool.eq_iff_iff]
  simp [cmpL_eq]
theorem order20 (a b : V) (ha : ∀ s, a = .text s → s.length < L ∧ s.length ≤ 9223372036854775807) (hb : ∀ s, b = .text s → s.length < L ∧ s.length ≤ 9223372036854775807) (σ : Heap) :
    (cAt (TE (G 0 m)) L (n + 2)).1 20 [.p (.agg (vc a)), .p (.agg (vc b))] σ = some (.ret (.p (.int .i64 (ordI (ordV a b)))), σ) := by
  refine call_ans (ps := [.agg (vc a), .agg (vc b)]) (n := n + 1) (q20 m) (by kernel_rfl) ?_ σ
  have e35 := three35 m L n
  have e36 := words36 m L n
  generalize (cAt (TE (G 0 m)) L (n + 1)).1 = C at *
  generalize (cAt (TE (G 0 m)) L (n + 1)).2 = D
  cases a with
  | null => cases b <;> simp [lit20, vc, runFunc, params, exec, runOps, wantedA, stepOp, pureOp, allocOp, readOp, effOp, ev, evs, evO, Env.get_cons, putE, binA, intBin, unA, AV.fit, AV.toCells, partC, partP, mkCells, allP, mkAgg, Cells.len, target, evParts, fillA, AV.cells, splice, spliceC, finA, leaveA, resA, resV, ansV, e35, ordV, rank] <;> rfl
  | num x =>
    cases b with
    | num y =>
      simp [lit20, vc, runFunc, params, exec, runOps, wantedA, stepOp, pureOp, allocOp, readOp, effOp, ev, evs, evO, Env.get_cons, putE, binA, intBin, unA, AV.fit, AV.toCells, partC, partP, mkCells, allP, mkAgg, Cells.len, target, evParts, fillA, AV.cells, splice, spliceC, finA, leaveA, resA, resV, ansV, e35, ordV]
      rcases Int.lt_trichotomy x y with h | h | h
      · rw [Int.compare_eq_lt.2 h]; simp [h, ordI]
      · subst h; simp [ordI]
      · have h1 : ¬ x < y := by omega
        have h2 : x ≠ y := by omega
        rw [Int.compare_eq_gt.2 h]; simp [h1, h2, ordI]
    | _ => simp [lit20, vc, runFunc, params, exec, runOps, wantedA, stepOp, pureOp, allocOp, readOp, effOp, ev, evs, evO, Env.get_cons, putE, binA, intBin, unA, AV.fit, AV.toCells, partC, partP, mkCells, allP, mkAgg, Cells.len, target, evParts, fillA, AV.cells, splice, spliceC, finA, leaveA, resA, resV, ansV, e35, ordV, rank] <;> rfl
  | text s =>
    cases b with
    | text t =>
      have e1 := e36 s (ha s rfl).1 (ha s rfl).2
      have e2 := e36 t (hb t rfl).1 (hb t rfl).2
      simp [lit20, vc, runFunc, params, exec, runOps, wantedA, stepOp, pureOp, allocOp, readOp, effOp, ev, evs, evO, Env.get_cons, putE, binA, intBin, unA, AV.fit, AV.toCells, partC, partP, mkCells, allP, mkAgg, Cells.len, target, evParts, fillA, AV.cells, splice, spliceC, finA, leaveA, resA, resV, ansV, strBin, e35, e1, e2, ordV]
      rw [less_cmp]
      have h2 : (trimB s = trimB t) ↔ cmpL (trimB s) (trimB t) = .eq := cmpL_eq.symm
      cases h : cmpL (trimB s) (trimB t) <;> simp [h2, h, ordI]
    | _ => simp [lit20, vc, runFunc, params, exec, runOps, wantedA, stepOp, pureOp, allocOp, readOp, effOp, ev, evs, evO, Env.get_cons, putE, binA, intBin, unA, AV.fit, AV.toCells, partC, partP, mkCells, allP, mkAgg, Cells.len, target, evParts, fillA, AV.cells, splice, spliceC, finA, leaveA, resA, resV, ansV, e35, ordV, rank] <;> rfl
  | bool x =>
    cases b with
    | bool y => cases x <;> cases y <;> simp [lit20, vc, runFunc, params, exec, runOps, wantedA, stepOp, pureOp, allocOp, readOp, effOp, ev, evs, evO, Env.get_cons, putE, binA, intBin, unA, AV.fit, AV.toCells, partC, partP, mkCells, allP, mkAgg, Cells.len, target, evParts, fillA, AV.cells, splice, spliceC, finA, leaveA, resA, resV, ansV, eqP, e35, ordV] <;> rfl
    | _ => simp [lit20, vc, runFunc, params, exec, runOps, wantedA, stepOp, pureOp, allocOp, readOp, effOp, ev, evs, evO, Env.get_cons, putE, binA, intBin, unA, AV.fit, AV.toCells, partC, partP, mkCells, allP, mkAgg, Cells.len, target, evParts, fillA, AV.cells, splice, spliceC, finA, leaveA, resA, resV, ansV, e35, ordV, rank] <;> rfl
end
end Go.Ab.Key

/- The laws of keys: how lists of values stand. -/
set_option maxRecDepth 1000000
namespace Go.Ab.Key
open Go Go.Ab Go.Proofs
variable [Marks]
theorem flat_v (l : List V) (i : Nat) (v : V) (h : l[i]? = some v) : ((vcs l).drop (i * 4)).take 4 = vc v := flat_at vc vc_len l i v h
section
variable (C : Oracle) (L : Nat) (x y : List V) (ρ : Env) (i : Nat)
theorem stop10 (h0 : ρ.get 0 = some (.p (.vsl (vcs x) x.length))) (h1 : ρ.get 1 = some (.p (.vsl (vcs y) y.length))) (h5 : ρ.get 5 = some (.p (.int .i64 (i : Int)))) (hs : x.length ≤ i ∨ y.length ≤ i) :
    ∃ ρ' : Env, exec C L body10 ⟨ρ, [], []⟩ = some (.exit 0, ⟨ρ', [], []⟩) ∧ ρ'.get 0 = some (.p (.vsl (vcs x) x.length)) ∧ ρ'.get 1 = some (.p (.vsl (vcs y) y.length)) := by
  by_cases hi : (i : Int) < (x.length : Int)
  · have hj : ¬ (i : Int) < (y.length : Int) := by omega
    exact ⟨_, by simp [body10, exec, runOps, wantedA, stepOp, pureOp, allocOp, readOp, effOp, ev, evs, evO, Env.get_cons, putE, binA, intBin, unA, AV.fit, AV.toCells, partC, partP, mkCells, allP, mkAgg, Cells.len, target, lenA, h0, h1, h5, hi, hj]; rfl, by simp [Env.get_cons, h0], by simp [Env.get_cons, h1]⟩
  · exact ⟨_, by simp [body10, exec, runOps, wantedA, stepOp, pureOp, allocOp, readOp, effOp, ev, evs, evO, Env.get_cons, putE, binA, intBin, unA, AV.fit, AV.toCells, partC, partP, mkCells, allP, mkAgg, Cells.len, target, lenA, h0, h1, h5, hi]; rfl, by simp [Env.get_cons, h0], by simp [Env.get_cons, h1]⟩
theorem go10 (a b : V) (h0 : ρ.get 0 = some (.p (.vsl (vcs x) x.length))) (h1 : ρ.get 1 = some (.p (.vsl (vcs y) y.length))) (h5 : ρ.get 5 = some (.p (.int .i64 (i : Int)))) (hx : x[i]? = some a) (hy : y[i]? = some b) (hm : x.length ≤ 9223372036854775807)
    (hC : ∀ σ, C 20 [.p (.agg (vc a)), .p (.agg (vc b))] σ = some (.ret (.p (.int .i64 (ordI (ordV a b)))), σ)) :
    ∃ ρ' : Env, exec C L body10 ⟨ρ, [], []⟩ = some (if ordV a b = .eq then .normal else .ret, ⟨ρ', [], []⟩) ∧ (ordV a b = .eq → ρ'.get 0 = some (.p (.vsl (vcs x) x.length)) ∧ ρ'.get 1 = some (.p (.vsl (vcs y) y.length)) ∧ ρ'.get 5 = some (.p (.int .i64 ((i : Int) + 1)))) ∧
      (ordV a b ≠ .eq → ρ'.get 4 = some (.p (.int .i64 (ordI (ordV a b))))) := by
  have hi : i < x.length := (List.getElem?_eq_some_iff.1 hx).1
  have hj : i < y.length := (List.getElem?_eq_some_iff.1 hy).1
  have hi' : (i : Int) < (x.length : Int) := by omega
  have hj' : (i : Int) < (y.length : Int) := by omega
  have d1 := flat_v x i a hx
  have d2 := flat_v y i b hy
  have d3 : 4 ≤ (vcs x).length - i * 4 := by rw [vcs_len]; omega
  have d4 : 4 ≤ (vcs y).length - i * 4 := by rw [vcs_len]; omega
  have e1 : IntKind.i64.wrap ((i : Int) + 1) = (i : Int) + 1 := wrap_id _ (by omega) (by omega)
  cases ho : ordV a b with
  | eq =>
    rw [ho] at hC
    refine ⟨_, by simp [body10, exec, runOps, wantedA, stepOp, pureOp, allocOp, readOp, effOp, ev, evs, evO, Env.get_cons, putE, binA, intBin, unA, AV.fit, AV.toCells, partC, partP, mkCells, allP, mkAgg, Cells.len, target, lenA, idxA, drawExec, drawRun, keepE, readsOf, opds, tmpsOf, stillOp, valsOp, refOf, refV, isE, carry, wrIds, okRW, h0, h1, h5, hi, hj, hi', hj', d1, d2, d3, d4, e1, hC, ordI]; rfl, ?_, ?_⟩
    · simp [Env.get_cons, h0, h1]
    · simp
  | lt =>
    rw [ho] at hC
    refine ⟨_, by simp [body10, exec, runOps, wantedA, stepOp, pureOp, allocOp, readOp, effOp, ev, evs, evO, Env.get_cons, putE, binA, intBin, unA, AV.fit, AV.toCells, partC, partP, mkCells, allP, mkAgg, Cells.len, target, lenA, idxA, drawExec, drawRun, keepE, readsOf, opds, tmpsOf, stillOp, valsOp, refOf, refV, isE, carry, wrIds, okRW, h0, h1, h5, hi, hj, hi', hj', d1, d2, d3, d4, e1, hC, ordI]; rfl, ?_, ?_⟩
    · simp
    · simp [Env.get_cons, ordI]
  | gt =>
    rw [ho] at hC
    refine ⟨_, by simp [body10, exec, runOps, wantedA, stepOp, pureOp, allocOp, readOp, effOp, ev, evs, evO, Env.get_cons, putE, binA, intBin, unA, AV.fit, AV.toCells, partC, partP, mkCells, allP, mkAgg, Cells.len, target, lenA, idxA, drawExec, drawRun, keepE, readsOf, opds, tmpsOf, stillOp, valsOp, refOf, refV, isE, carry, wrIds, okRW, h0, h1, h5, hi, hj, hi', hj', d1, d2, d3, d4, e1, hC, ordI]; rfl, ?_, ?_⟩
    · simp
    · simp [Env.get_cons, ordI]
end
theorem ordL_cons {x y : List V} {i : Nat} {a b : V} (hx : x[i]? = some a) (hy : y[i]? = some b) : ordL (x.drop i) (y.drop i) = (ordV a b).then (ordL (x.drop (i + 1)) (y.drop (i + 1))) := by
  obtain ⟨h1, rfl⟩ := List.getElem?_eq_some_iff.1 hx
  obtain ⟨h2, rfl⟩ := List.getElem?_eq_some_iff.1 hy
  rw [List.drop_eq_getElem_cons h1, List.drop_eq_getElem_cons h2]
  rfl
theorem ordL_end {x y : List V} {i : Nat} (hi : i ≤ x.length) (hj : i ≤ y.length) (hs : x.length ≤ i ∨ y.length ≤ i) : ordL (x.drop i) (y.drop i) = compare x.length y.length := by
  have hx : (x.drop i).length = x.length - i := List.length_drop
  have hy : (y.drop i).length = y.length - i := List.length_drop
  cases h1 : x.drop i with
  | nil =>
    rw [h1] at hx
    simp at hx
    cases h2 : y.drop i with
    | nil =>
      rw [h2] at hy
      simp at hy
      rw [Nat.compare_eq_eq.2 (by omega)]; rfl
    | cons b t =>
      rw [h2] at hy
      simp at hy
      rw [Nat.compare_eq_lt.2 (by omega)]; rfl
  | cons a s =>
    rw [h1] at hx
    simp at hx
    cases h2 : y.drop i with
    | nil =>
      rw [h2] at hy
      simp at hy
      rw [Nat.compare_eq_gt.2 (by omega)]; rfl
    | cons b t =>
      rw [h2] at hy
      simp at hy
      omega
theorem loop10 (C : Oracle) (L : Nat) (x y : List V) (hm : x.length ≤ 9223372036854775807) (hC : ∀ a ∈ x, ∀ b ∈ y, ∀ σ, C 20 [.p (.agg (vc a)), .p (.agg (vc b))] σ = some (.ret (.p (.int .i64 (ordI (ordV a b)))), σ)) :
    ∀ (d f i : Nat) (ρ : Env), x.length - i ≤ d → d < f → i ≤ x.length → i ≤ y.length → ρ.get 0 = some (.p (.vsl (vcs x) x.length)) → ρ.get 1 = some (.p (.vsl (vcs y) y.length)) → ρ.get 5 = some (.p (.int .i64 (i : Int))) → ordL x y = ordL (x.drop i) (y.drop i) →
    ∃ (e : AExit) (ρ' : Env), iter (exec C L body10) none f ⟨ρ, [], []⟩ = some (e, ⟨ρ', [], []⟩) ∧
      ((e = .exit 0 ∧ ρ'.get 0 = some (.p (.vsl (vcs x) x.length)) ∧ ρ'.get 1 = some (.p (.vsl (vcs y) y.length)) ∧ ordL x y = compare x.length y.length) ∨ (e = .ret ∧ ρ'.get 4 = some (.p (.int .i64 (ordI (ordL x y))))))
  | d, f, i, ρ, hd, hf, hi, hj, h0, h1, h5, ho => by
    obtain ⟨f, rfl⟩ : ∃ m, f = m + 1 := ⟨f - 1, by omega⟩
    by_cases hs : x.length ≤ i ∨ y.length ≤ i
    · obtain ⟨ρ', e, g0, g1⟩ := stop10 C L x y ρ i h0 h1 h5 hs
      exact ⟨.exit 0, ρ', by simp only [iter, St.keep, e], .inl ⟨rfl, g0, g1, by rw [ho, ordL_end hi hj hs]⟩⟩
    · have hx : i < x.length := by omega
      have hy : i < y.length := by omega
      have ex : x[i]? = some x[i] := List.getElem?_eq_getElem hx
      have ey : y[i]? = some y[i] := List.getElem?_eq_getElem hy
      obtain ⟨ρ1, e, g, g'⟩ := go10 C L x y ρ i x[i] y[i] h0 h1 h5 ex ey hm (hC _ (List.getElem_mem hx) _ (List.getElem_mem hy))
      rw [ordL_cons ex ey] at ho
      by_cases hv : ordV x[i] y[i] = .eq
      · rw [if_pos hv] at e
        obtain ⟨g0, g1, g5⟩ := g hv
        rw [hv] at ho
        obtain ⟨d, rfl⟩ : ∃ m, d = m + 1 := ⟨d - 1, by omega⟩
        obtain ⟨e', ρ', q1, q2⟩ := loop10 C L x y hm hC d f (i + 1) ρ1 (by omega) (by omega) (by omega) (by omega) g0 g1 (by rw [g5]; rfl) ho
        exact ⟨e', ρ', by simp only [iter, St.keep, e]; exact q1, q2⟩
      · rw [if_neg hv] at e
        refine ⟨.ret, ρ1, by simp only [iter, St.keep, e], .inr ⟨rfl, ?_⟩⟩
        rw [g' hv, ho]
        cases h : ordV x[i] y[i] <;> first | rfl | exact absurd h hv
section
variable (m : Int) (L n : Nat)
theorem order10 (x y : List V) (hL : x.length < L) (hm : x.length ≤ 9223372036854775807) (hx : ∀ s, V.text s ∈ x → s.length < L ∧ s.length ≤ 9223372036854775807) (hy : ∀ s, V.text s ∈ y → s.length < L ∧ s.length ≤ 9223372036854775807) (σ : Heap) :
    (cAt (TE (G 0 m)) L (n + 3)).1 10 [.p (.vsl (vcs x) x.length), .p (.vsl (vcs y) y.length)] σ = some (.ret (.p (.int .i64 (ordI (ordL x y)))), σ) := by
  refine call_ans (ps := [.vsl (vcs x) x.length, .vsl (vcs y) y.length]) (n := n + 2) (q10 m) (by kernel_rfl) ?_ σ
  have hC : ∀ a ∈ x, ∀ b ∈ y, ∀ σ, (cAt (TE (G 0 m)) L (n + 2)).1 20 [.p (.agg (vc a)), .p (.agg (vc b))] σ = some (.ret (.p (.int .i64 (ordI (ordV a b)))), σ) := fun a ha b hb σ =>
    order20 m L n a b (fun s hs => hx s (hs ▸ ha)) (fun s hs => hy s (hs ▸ hb)) σ
  generalize (cAt (TE (G 0 m)) L (n + 2)).1 = C at hC ⊢
  generalize (cAt (TE (G 0 m)) L (n + 2)).2 = D
  obtain ⟨e, ρ', q, h⟩ := loop10 C L x y hm hC x.length L 0 [(5, .p (.int .i64 0)), (4, .p (.int .i64 0)), (0, .p (.vsl (vcs x) x.length)), (1, .p (.vsl (vcs y) y.length))] (by omega) hL (by omega) (by omega) rfl rfl rfl rfl
  rw [runFunc_eq, lit10_eq]
  rw [seqN (a := .region _) (by simp [params, exec, runOps, wantedA, stepOp, pureOp, allocOp, readOp, effOp, ev, evs, evO, Env.get_cons, putE, binA, intBin, unA, AV.fit, AV.toCells, partC, partP, mkCells, allP, mkAgg, Cells.len, target]; rfl)]
  rcases h with ⟨rfl, g0, g1, ho⟩ | ⟨rfl, g4⟩
  · have e3 : exec C L (.seq (.region [{ dst := some 5, op := AOp.mv (Opd.c (AV.p (PV.int IntKind.i64 (0)))), guard := none }]) (.block 0 (.loop none body10))) ⟨[(4, .p (.int .i64 0)), (0, .p (.vsl (vcs x) x.length)), (1, .p (.vsl (vcs y) y.length))], [], []⟩ = some (.normal, ⟨ρ', [], []⟩) := by
      rw [seqN (a := .region _) (by simp [exec, runOps, wantedA, stepOp, pureOp, allocOp, readOp, effOp, ev, evs, evO, Env.get_cons, putE, binA, intBin, unA, AV.fit, AV.toCells, partC, partP, mkCells, allP, mkAgg, Cells.len, target]; rfl)]
      simp only [exec, q, if_true]
    rw [seqN e3, ho]
    rcases Nat.lt_trichotomy x.length y.length with h | h | h
    · have hi : (x.length : Int) < (y.length : Int) := by omega
      rw [Nat.compare_eq_lt.2 h]
      simp [exec, runOps, wantedA, stepOp, pureOp, allocOp, readOp, effOp, ev, evs, evO, Env.get_cons, putE, binA, intBin, unA, AV.fit, AV.toCells, partC, partP, mkCells, allP, mkAgg, Cells.len, target, evParts, fillA, AV.cells, splice, spliceC, finA, leaveA, resA, resV, ansV, lenA, finX, g0, g1, lit10, h, hi, ordI]
    · have h1 : ¬ x.length < y.length := by omega
      have h2 : ¬ y.length < x.length := by omega
      rw [Nat.compare_eq_eq.2 h]
      simp [exec, runOps, wantedA, stepOp, pureOp, allocOp, readOp, effOp, ev, evs, evO, Env.get_cons, putE, binA, intBin, unA, AV.fit, AV.toCells, partC, partP, mkCells, allP, mkAgg, Cells.len, target, evParts, fillA, AV.cells, splice, spliceC, finA, leaveA, resA, resV, ansV, lenA, finX, g0, g1, lit10, h1, h2, ordI]
    · have h1 : ¬ x.length < y.length := by omega
      rw [Nat.compare_eq_gt.2 h]
      simp [exec, runOps, wantedA, stepOp, pureOp, allocOp, readOp, effOp, ev, evs, evO, Env.get_cons, putE, binA, intBin, unA, AV.fit, AV.toCells, partC, partP, mkCells, allP, mkAgg, Cells.len, target, evParts, fillA, AV.cells, splice, spliceC, finA, leaveA, resA, resV, ansV, lenA, finX, g0, g1, lit10, h1, h, ordI]
  · have e3 : exec C L (.seq (.region [{ dst := some 5, op := AOp.mv (Opd.c (AV.p (PV.int IntKind.i64 (0)))), guard := none }]) (.block 0 (.loop none body10))) ⟨[(4, .p (.int .i64 0)), (0, .p (.vsl (vcs x) x.length)), (1, .p (.vsl (vcs y) y.length))], [], []⟩ = some (.ret, ⟨ρ', [], []⟩) := by
      rw [seqN (a := .region _) (by simp [exec, runOps, wantedA, stepOp, pureOp, allocOp, readOp, effOp, ev, evs, evO, Env.get_cons, putE, binA, intBin, unA, AV.fit, AV.toCells, partC, partP, mkCells, allP, mkAgg, Cells.len, target]; rfl)]
      simp only [exec, q]
    rw [seqR e3]
    simp [exec, runOps, wantedA, stepOp, pureOp, allocOp, readOp, effOp, ev, evs, evO, Env.get_cons, putE, binA, intBin, unA, AV.fit, AV.toCells, partC, partP, mkCells, allP, mkAgg, Cells.len, target, evParts, fillA, AV.cells, splice, spliceC, finA, leaveA, resA, resV, ansV, finX, g4, lit10]
end
end Go.Ab.Key
