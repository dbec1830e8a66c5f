/- The laws of keys: Decode's loop, case by case. -/
import Derived.Test.YtafjhlangdcefaaDoorAbKH
set_option linter.unusedSectionVars false
set_option linter.unusedSimpArgs false
set_option linter.unusedVariables false
set_option maxRecDepth 1000000
namespace Go.Ab.Key
open Go Go.Ab Go.Proofs
variable [Marks]
def lit12 : AFunc := { ntmps := 70, results := [ARes.cell 2 false 1, ARes.cell 3 false 1], body := (ACode.region [{ dst := some 1, op := AOp.box 1 (Opd.t 0), guard := none }, { dst := some 2, op := AOp.alloc 24 [AV.nil0], guard := none }, { dst := some 3, op := AOp.alloc 30 [AV.p (PV.int IntKind.i64 (0))], guard := none }]).seq ((ACode.region [{ dst := some 9, op := AOp.mkFunc 22 [] [Opd.t 2, Opd.t 3], guard := none }, { dst := none, op := AOp.defer (Opd.t 9) [], guard := none }]).seq ((ACode.region [{ dst := some 10, op := AOp.mkFunc 23 [] [Opd.t 1], guard := none }, { dst := some 4, op := AOp.mv (Opd.t 10), guard := none }]).seq ((ACode.block 0 (ACode.loop none (((ACode.region [{ dst := some 11, op := AOp.load false 1 (Opd.t 1), guard := none }, { dst := some 12, op := AOp.bin (Bin.plain BinOp.neq) (Opd.t 11) (Opd.c (AV.p (PV.str []))), guard := none }]).seq (ACode.cond (Opd.t 12) ACode.skip (ACode.exit 0))).seq (ACode.block 1 ((ACode.region [{ dst := some 13, op := AOp.mv (Opd.t 4), guard := none }, { dst := some 14, op := AOp.call (Opd.t 13) [Opd.c (AV.p (PV.int IntKind.i64 (1)))], guard := none }, { dst := some 15, op := AOp.atStr (Opd.t 14) (Opd.c (AV.p (PV.int IntKind.i64 (0)))), guard := none }]).seq (ACode.block 2 ((ACode.region [{ dst := some 19, op := AOp.bin (Bin.plain BinOp.eql) (Opd.t 15) (Opd.c (AV.p (PV.int IntKind.u8 (1)))), guard := none }, { dst := some 18, op := AOp.mv (Opd.t 19), guard := none }]).seq (ACode.cond (Opd.t 18) (ACode.region [{ dst := some 20, op := AOp.load false 1 (Opd.t 2), guard := none }, { dst := some 21, op := AOp.build [AV.p (PV.int IntKind.i64 (0)), AV.p (PV.int IntKind.i64 (0)), AV.p (PV.str []), AV.p (PV.bool false)] [], guard := none }, { dst := some 22, op := AOp.buildSlice [AV.p (PV.int IntKind.i64 (0)), AV.p (PV.int IntKind.i64 (0)), AV.p (PV.str []), AV.p (PV.bool false)] 1 4 [(0, 4, Opd.t 21)], guard := none }, { dst := some 23, op := AOp.append 39 4 [AV.p (PV.int IntKind.i64 (0)), AV.p (PV.int IntKind.i64 (0)), AV.p (PV.str []), AV.p (PV.bool false)] (Opd.t 20) (Opd.t 22), guard := none }, { dst := none, op := AOp.store 1 (Opd.t 2) (Opd.t 23), guard := none }]) ((ACode.region [{ dst := some 25, op := AOp.bin (Bin.plain BinOp.eql) (Opd.t 15) (Opd.c (AV.p (PV.int IntKind.u8 (2)))), guard := none }, { dst := some 24, op := AOp.mv (Opd.t 25), guard := none }]).seq (ACode.cond (Opd.t 24) ((ACode.region [{ dst := some 5, op := AOp.mv (Opd.c (AV.p (PV.int IntKind.u64 (0)))), guard := none }]).seq (((ACode.region [{ dst := some 26, op := AOp.mv (Opd.t 4), guard := none }, { dst := some 27, op := AOp.call (Opd.t 26) [Opd.c (AV.p (PV.int IntKind.i64 (8)))], guard := none }, { dst := some 28, op := AOp.strBytes (Opd.t 27), guard := none }, { dst := some 29, op := AOp.len false (Opd.t 28), guard := none }, { dst := some 30, op := AOp.mv (Opd.c (AV.p (PV.int IntKind.i64 (0)))), guard := none }]).seq (ACode.block 3 (ACode.loop none ((ACode.region [{ dst := some 31, op := AOp.bin (Bin.plain BinOp.lss) (Opd.t 30) (Opd.t 29), guard := none }]).seq ((ACode.cond (Opd.t 31) ACode.skip (ACode.exit 3)).seq ((ACode.block 4 ((ACode.region [{ dst := some 32, op := AOp.idx 1 (Opd.t 28) (Opd.t 30), guard := none }, { dst := some 33, op := AOp.load false 1 (Opd.t 32), guard := none }, { dst := some 7, op := AOp.mv (Opd.t 33), guard := none }]).seq (ACode.region [{ dst := some 34, op := AOp.mv (Opd.t 5), guard := none }, { dst := some 35, op := AOp.bin (Bin.plain BinOp.shl) (Opd.t 34) (Opd.c (AV.p (PV.int IntKind.u64 (8)))), guard := none }, { dst := some 36, op := AOp.mv (Opd.t 7), guard := none }, { dst := some 37, op := AOp.convInt IntKind.u64 (Opd.t 36), guard := none }, { dst := some 38, op := AOp.bin (Bin.plain BinOp.or) (Opd.t 35) (Opd.t 37), guard := none }, { dst := some 5, op := AOp.mv (Opd.t 38), guard := none }]))).seq (ACode.region [{ dst := some 39, op := AOp.bin (Bin.plain BinOp.add) (Opd.t 30) (Opd.c (AV.p (PV.int IntKind.i64 (1)))), guard := none }, { dst := some 30, op := AOp.mv (Opd.t 39), guard := none }]))))))).seq (ACode.draw 8 [0, 0, 2, 6, 14, 30, 63, 127] [{ dst := some 40, op := AOp.load false 1 (Opd.t 2), guard := none }, { dst := some 41, op := AOp.mv (Opd.t 5), guard := none }, { dst := some 42, op := AOp.bin (Bin.plain BinOp.xor) (Opd.t 41) (Opd.c (AV.p (PV.int IntKind.u64 (9223372036854775808)))), guard := none }, { dst := some 43, op := AOp.convInt IntKind.i64 (Opd.t 42), guard := none }, { dst := some 44, op := AOp.call (Opd.c (AV.p (PV.fn 24))) [Opd.t 43], guard := none }, { dst := some 45, op := AOp.buildSlice [AV.p (PV.int IntKind.i64 (0)), AV.p (PV.int IntKind.i64 (0)), AV.p (PV.str []), AV.p (PV.bool false)] 1 4 [(0, 4, Opd.t 44)], guard := none }, { dst := some 46, op := AOp.append 39 4 [AV.p (PV.int IntKind.i64 (0)), AV.p (PV.int IntKind.i64 (0)), AV.p (PV.str []), AV.p (PV.bool false)] (Opd.t 40) (Opd.t 45), guard := none }, { dst := none, op := AOp.store 1 (Opd.t 2) (Opd.t 46), guard := none }]))) ((ACode.region [{ dst := some 48, op := AOp.bin (Bin.plain BinOp.eql) (Opd.t 15) (Opd.c (AV.p (PV.int IntKind.u8 (3)))), guard := none }, { dst := some 47, op := AOp.mv (Opd.t 48), guard := none }]).seq (ACode.cond (Opd.t 47) (ACode.draw 6 [0, 0, 2, 6, 15, 31] [{ dst := some 49, op := AOp.load false 1 (Opd.t 2), guard := none }, { dst := some 50, op := AOp.mv (Opd.t 4), guard := none }, { dst := some 51, op := AOp.call (Opd.c (AV.p (PV.fn 25))) [Opd.t 50], guard := none }, { dst := some 52, op := AOp.buildSlice [AV.p (PV.int IntKind.i64 (0)), AV.p (PV.int IntKind.i64 (0)), AV.p (PV.str []), AV.p (PV.bool false)] 1 4 [(0, 4, Opd.t 51)], guard := none }, { dst := some 53, op := AOp.append 39 4 [AV.p (PV.int IntKind.i64 (0)), AV.p (PV.int IntKind.i64 (0)), AV.p (PV.str []), AV.p (PV.bool false)] (Opd.t 49) (Opd.t 52), guard := none }, { dst := none, op := AOp.store 1 (Opd.t 2) (Opd.t 53), guard := none }]) ((ACode.region [{ dst := some 55, op := AOp.bin (Bin.plain BinOp.eql) (Opd.t 15) (Opd.c (AV.p (PV.int IntKind.u8 (4)))), guard := none }, { dst := some 54, op := AOp.mv (Opd.t 55), guard := none }]).seq (ACode.cond (Opd.t 54) ((ACode.region [{ dst := some 56, op := AOp.mv (Opd.t 4), guard := none }, { dst := some 57, op := AOp.call (Opd.t 56) [Opd.c (AV.p (PV.int IntKind.i64 (1)))], guard := none }, { dst := some 58, op := AOp.atStr (Opd.t 57) (Opd.c (AV.p (PV.int IntKind.i64 (0)))), guard := none }, { dst := some 8, op := AOp.mv (Opd.t 58), guard := none }]).seq (((ACode.region [{ dst := some 59, op := AOp.mv (Opd.t 8), guard := none }, { dst := some 60, op := AOp.bin (Bin.plain BinOp.gtr) (Opd.t 59) (Opd.c (AV.p (PV.int IntKind.u8 (1)))), guard := none }]).seq (ACode.cond (Opd.t 60) (ACode.region [{ dst := some 61, op := AOp.build [] [], guard := none }, { dst := some 62, op := AOp.mkIface 50 (Opd.t 61), guard := none }, { dst := none, op := AOp.panic (Opd.t 62), guard := none }]) ACode.skip)).seq (ACode.region [{ dst := some 63, op := AOp.load false 1 (Opd.t 2), guard := none }, { dst := some 64, op := AOp.mv (Opd.t 8), guard := none }, { dst := some 65, op := AOp.bin (Bin.plain BinOp.eql) (Opd.t 64) (Opd.c (AV.p (PV.int IntKind.u8 (1)))), guard := none }, { dst := some 66, op := AOp.build [AV.p (PV.int IntKind.i64 (0)), AV.p (PV.int IntKind.i64 (0)), AV.p (PV.str []), AV.p (PV.bool false)] [(0, 1, Opd.c (AV.p (PV.int IntKind.i64 (3)))), (3, 1, Opd.t 65)], guard := none }, { dst := some 67, op := AOp.buildSlice [AV.p (PV.int IntKind.i64 (0)), AV.p (PV.int IntKind.i64 (0)), AV.p (PV.str []), AV.p (PV.bool false)] 1 4 [(0, 4, Opd.t 66)], guard := none }, { dst := some 68, op := AOp.append 39 4 [AV.p (PV.int IntKind.i64 (0)), AV.p (PV.int IntKind.i64 (0)), AV.p (PV.str []), AV.p (PV.bool false)] (Opd.t 63) (Opd.t 67), guard := none }, { dst := none, op := AOp.store 1 (Opd.t 2) (Opd.t 68), guard := none }]))) (ACode.region [{ dst := some 16, op := AOp.build [] [], guard := none }, { dst := some 17, op := AOp.mkIface 50 (Opd.t 16), guard := none }, { dst := none, op := AOp.panic (Opd.t 17), guard := none }]))))))))))))))).seq ((ACode.region [{ dst := some 69, op := AOp.load false 1 (Opd.t 2), guard := none }, { dst := none, op := AOp.store 1 (Opd.t 2) (Opd.t 69), guard := none }, { dst := none, op := AOp.store 1 (Opd.t 3) (Opd.c (AV.p (PV.int IntKind.i64 (0)))), guard := none }]).seq ACode.ret)))) }
def body12n : ACode := ((ACode.region [{ dst := some 31, op := AOp.bin (Bin.plain BinOp.lss) (Opd.t 30) (Opd.t 29), guard := none }]).seq ((ACode.cond (Opd.t 31) ACode.skip (ACode.exit 3)).seq ((ACode.block 4 ((ACode.region [{ dst := some 32, op := AOp.idx 1 (Opd.t 28) (Opd.t 30), guard := none }, { dst := some 33, op := AOp.load false 1 (Opd.t 32), guard := none }, { dst := some 7, op := AOp.mv (Opd.t 33), guard := none }]).seq (ACode.region [{ dst := some 34, op := AOp.mv (Opd.t 5), guard := none }, { dst := some 35, op := AOp.bin (Bin.plain BinOp.shl) (Opd.t 34) (Opd.c (AV.p (PV.int IntKind.u64 (8)))), guard := none }, { dst := some 36, op := AOp.mv (Opd.t 7), guard := none }, { dst := some 37, op := AOp.convInt IntKind.u64 (Opd.t 36), guard := none }, { dst := some 38, op := AOp.bin (Bin.plain BinOp.or) (Opd.t 35) (Opd.t 37), guard := none }, { dst := some 5, op := AOp.mv (Opd.t 38), guard := none }]))).seq (ACode.region [{ dst := some 39, op := AOp.bin (Bin.plain BinOp.add) (Opd.t 30) (Opd.c (AV.p (PV.int IntKind.i64 (1)))), guard := none }, { dst := some 30, op := AOp.mv (Opd.t 39), guard := none }]))))
def body12 : ACode := (((ACode.region [{ dst := some 11, op := AOp.load false 1 (Opd.t 1), guard := none }, { dst := some 12, op := AOp.bin (Bin.plain BinOp.neq) (Opd.t 11) (Opd.c (AV.p (PV.str []))), guard := none }]).seq (ACode.cond (Opd.t 12) ACode.skip (ACode.exit 0))).seq (ACode.block 1 ((ACode.region [{ dst := some 13, op := AOp.mv (Opd.t 4), guard := none }, { dst := some 14, op := AOp.call (Opd.t 13) [Opd.c (AV.p (PV.int IntKind.i64 (1)))], guard := none }, { dst := some 15, op := AOp.atStr (Opd.t 14) (Opd.c (AV.p (PV.int IntKind.i64 (0)))), guard := none }]).seq (ACode.block 2 ((ACode.region [{ dst := some 19, op := AOp.bin (Bin.plain BinOp.eql) (Opd.t 15) (Opd.c (AV.p (PV.int IntKind.u8 (1)))), guard := none }, { dst := some 18, op := AOp.mv (Opd.t 19), guard := none }]).seq (ACode.cond (Opd.t 18) (ACode.region [{ dst := some 20, op := AOp.load false 1 (Opd.t 2), guard := none }, { dst := some 21, op := AOp.build [AV.p (PV.int IntKind.i64 (0)), AV.p (PV.int IntKind.i64 (0)), AV.p (PV.str []), AV.p (PV.bool false)] [], guard := none }, { dst := some 22, op := AOp.buildSlice [AV.p (PV.int IntKind.i64 (0)), AV.p (PV.int IntKind.i64 (0)), AV.p (PV.str []), AV.p (PV.bool false)] 1 4 [(0, 4, Opd.t 21)], guard := none }, { dst := some 23, op := AOp.append 39 4 [AV.p (PV.int IntKind.i64 (0)), AV.p (PV.int IntKind.i64 (0)), AV.p (PV.str []), AV.p (PV.bool false)] (Opd.t 20) (Opd.t 22), guard := none }, { dst := none, op := AOp.store 1 (Opd.t 2) (Opd.t 23), guard := none }]) ((ACode.region [{ dst := some 25, op := AOp.bin (Bin.plain BinOp.eql) (Opd.t 15) (Opd.c (AV.p (PV.int IntKind.u8 (2)))), guard := none }, { dst := some 24, op := AOp.mv (Opd.t 25), guard := none }]).seq (ACode.cond (Opd.t 24) ((ACode.region [{ dst := some 5, op := AOp.mv (Opd.c (AV.p (PV.int IntKind.u64 (0)))), guard := none }]).seq (((ACode.region [{ dst := some 26, op := AOp.mv (Opd.t 4), guard := none }, { dst := some 27, op := AOp.call (Opd.t 26) [Opd.c (AV.p (PV.int IntKind.i64 (8)))], guard := none }, { dst := some 28, op := AOp.strBytes (Opd.t 27), guard := none }, { dst := some 29, op := AOp.len false (Opd.t 28), guard := none }, { dst := some 30, op := AOp.mv (Opd.c (AV.p (PV.int IntKind.i64 (0)))), guard := none }]).seq (ACode.block 3 (ACode.loop none body12n))).seq (ACode.draw 8 [0, 0, 2, 6, 14, 30, 63, 127] [{ dst := some 40, op := AOp.load false 1 (Opd.t 2), guard := none }, { dst := some 41, op := AOp.mv (Opd.t 5), guard := none }, { dst := some 42, op := AOp.bin (Bin.plain BinOp.xor) (Opd.t 41) (Opd.c (AV.p (PV.int IntKind.u64 (9223372036854775808)))), guard := none }, { dst := some 43, op := AOp.convInt IntKind.i64 (Opd.t 42), guard := none }, { dst := some 44, op := AOp.call (Opd.c (AV.p (PV.fn 24))) [Opd.t 43], guard := none }, { dst := some 45, op := AOp.buildSlice [AV.p (PV.int IntKind.i64 (0)), AV.p (PV.int IntKind.i64 (0)), AV.p (PV.str []), AV.p (PV.bool false)] 1 4 [(0, 4, Opd.t 44)], guard := none }, { dst := some 46, op := AOp.append 39 4 [AV.p (PV.int IntKind.i64 (0)), AV.p (PV.int IntKind.i64 (0)), AV.p (PV.str []), AV.p (PV.bool false)] (Opd.t 40) (Opd.t 45), guard := none }, { dst := none, op := AOp.store 1 (Opd.t 2) (Opd.t 46), guard := none }]))) ((ACode.region [{ dst := some 48, op := AOp.bin (Bin.plain BinOp.eql) (Opd.t 15) (Opd.c (AV.p (PV.int IntKind.u8 (3)))), guard := none }, { dst := some 47, op := AOp.mv (Opd.t 48), guard := none }]).seq (ACode.cond (Opd.t 47) (ACode.draw 6 [0, 0, 2, 6, 15, 31] [{ dst := some 49, op := AOp.load false 1 (Opd.t 2), guard := none }, { dst := some 50, op := AOp.mv (Opd.t 4), guard := none }, { dst := some 51, op := AOp.call (Opd.c (AV.p (PV.fn 25))) [Opd.t 50], guard := none }, { dst := some 52, op := AOp.buildSlice [AV.p (PV.int IntKind.i64 (0)), AV.p (PV.int IntKind.i64 (0)), AV.p (PV.str []), AV.p (PV.bool false)] 1 4 [(0, 4, Opd.t 51)], guard := none }, { dst := some 53, op := AOp.append 39 4 [AV.p (PV.int IntKind.i64 (0)), AV.p (PV.int IntKind.i64 (0)), AV.p (PV.str []), AV.p (PV.bool false)] (Opd.t 49) (Opd.t 52), guard := none }, { dst := none, op := AOp.store 1 (Opd.t 2) (Opd.t 53), guard := none }]) ((ACode.region [{ dst := some 55, op := AOp.bin (Bin.plain BinOp.eql) (Opd.t 15) (Opd.c (AV.p (PV.int IntKind.u8 (4)))), guard := none }, { dst := some 54, op := AOp.mv (Opd.t 55), guard := none }]).seq (ACode.cond (Opd.t 54) ((ACode.region [{ dst := some 56, op := AOp.mv (Opd.t 4), guard := none }, { dst := some 57, op := AOp.call (Opd.t 56) [Opd.c (AV.p (PV.int IntKind.i64 (1)))], guard := none }, { dst := some 58, op := AOp.atStr (Opd.t 57) (Opd.c (AV.p (PV.int IntKind.i64 (0)))), guard := none }, { dst := some 8, op := AOp.mv (Opd.t 58), guard := none }]).seq (((ACode.region [{ dst := some 59, op := AOp.mv (Opd.t 8), guard := none }, { dst := some 60, op := AOp.bin (Bin.plain BinOp.gtr) (Opd.t 59) (Opd.c (AV.p (PV.int IntKind.u8 (1)))), guard := none }]).seq (ACode.cond (Opd.t 60) (ACode.region [{ dst := some 61, op := AOp.build [] [], guard := none }, { dst := some 62, op := AOp.mkIface 50 (Opd.t 61), guard := none }, { dst := none, op := AOp.panic (Opd.t 62), guard := none }]) ACode.skip)).seq (ACode.region [{ dst := some 63, op := AOp.load false 1 (Opd.t 2), guard := none }, { dst := some 64, op := AOp.mv (Opd.t 8), guard := none }, { dst := some 65, op := AOp.bin (Bin.plain BinOp.eql) (Opd.t 64) (Opd.c (AV.p (PV.int IntKind.u8 (1)))), guard := none }, { dst := some 66, op := AOp.build [AV.p (PV.int IntKind.i64 (0)), AV.p (PV.int IntKind.i64 (0)), AV.p (PV.str []), AV.p (PV.bool false)] [(0, 1, Opd.c (AV.p (PV.int IntKind.i64 (3)))), (3, 1, Opd.t 65)], guard := none }, { dst := some 67, op := AOp.buildSlice [AV.p (PV.int IntKind.i64 (0)), AV.p (PV.int IntKind.i64 (0)), AV.p (PV.str []), AV.p (PV.bool false)] 1 4 [(0, 4, Opd.t 66)], guard := none }, { dst := some 68, op := AOp.append 39 4 [AV.p (PV.int IntKind.i64 (0)), AV.p (PV.int IntKind.i64 (0)), AV.p (PV.str []), AV.p (PV.bool false)] (Opd.t 63) (Opd.t 67), guard := none }, { dst := none, op := AOp.store 1 (Opd.t 2) (Opd.t 68), guard := none }]))) (ACode.region [{ dst := some 16, op := AOp.build [] [], guard := none }, { dst := some 17, op := AOp.mkIface 50 (Opd.t 16), guard := none }, { dst := none, op := AOp.panic (Opd.t 17), guard := none }])))))))))))))
theorem lit12_eq : lit12.body = (ACode.region [{ dst := some 1, op := AOp.box 1 (Opd.t 0), guard := none }, { dst := some 2, op := AOp.alloc 24 [AV.nil0], guard := none }, { dst := some 3, op := AOp.alloc 30 [AV.p (PV.int IntKind.i64 (0))], guard := none }]).seq ((ACode.region [{ dst := some 9, op := AOp.mkFunc 22 [] [Opd.t 2, Opd.t 3], guard := none }, { dst := none, op := AOp.defer (Opd.t 9) [], guard := none }]).seq ((ACode.region [{ dst := some 10, op := AOp.mkFunc 23 [] [Opd.t 1], guard := none }, { dst := some 4, op := AOp.mv (Opd.t 10), guard := none }]).seq ((ACode.block 0 (ACode.loop none body12)).seq ((ACode.region [{ dst := some 69, op := AOp.load false 1 (Opd.t 2), guard := none }, { dst := none, op := AOp.store 1 (Opd.t 2) (Opd.t 69), guard := none }, { dst := none, op := AOp.store 1 (Opd.t 3) (Opd.c (AV.p (PV.int IntKind.i64 (0)))), guard := none }]).seq ACode.ret)))) := rfl
/-- the slice of values that Decode lets grow, behind three objects -/
def VB (rest : Heap) (b : AV) (l : List V) : Prop := (b = .nil0 ∧ l = []) ∨ l ≠ [] ∧ ∃ id ver, b = .sl (id + 3) ver 0 l.length 4 ∧ rest[id]? = some (.arr (.pv (vcs l)) ver 0 (some 39))
theorem VB.push {rest : Heap} {b : AV} {l : List V} (h : VB rest b l) (τ : Heap) : VB (rest ++ τ) b l := by
  rcases h with h | ⟨hne, id, ver, hb, ho⟩
  · exact .inl h
  · exact .inr ⟨hne, id, ver, hb, by rw [List.getElem?_append_left (List.getElem?_eq_some_iff.1 ho).1]; exact ho⟩
theorem VB.append {rest : Heap} {b : AV} {l : List V} (h : VB rest b l) (v : V) (hl : l.length + 1 ≤ LIM) (o0 o1 o2 : Obj) :
    ∃ id ver rest', appendTo (o0 :: o1 :: o2 :: rest) 39 4 b 1 (.pv (vc v)) = some (.sl (id + 3) ver 0 (l.length + 1) 4, o0 :: o1 :: o2 :: rest') ∧ VB rest' (.sl (id + 3) ver 0 (l.length + 1) 4) (l ++ [v]) := by
  have hL : LIM = 4294967296 := rfl
  rcases h with ⟨rfl, rfl⟩ | ⟨hne, id, ver, rfl, ho⟩
  · refine ⟨rest.length, 0, rest ++ [.arr (.pv (vc v)) 0 0 (some 39)], ?_, .inr ⟨by simp, rest.length, 0, rfl, ?_⟩⟩
    · simp [appendTo, hL]
    · simp [vcs]
  · have hid : id < rest.length := (List.getElem?_eq_some_iff.1 ho).1
    have hv := vcs_len l
    have ht : (vcs l).take (l.length * 4) = vcs l := List.take_of_length_le (by omega)
    refine ⟨id, ver + 1, rest.set id (.arr (.pv (vcs l ++ vc v)) (ver + 1) 0 (some 39)), ?_, .inr ⟨by simp, id, ver + 1, by simp, ?_⟩⟩
    · simp [appendTo, ho, Cells.len, hv, hl, takeC, catC, ht]
    · rw [List.getElem?_set_self hid, vcs_snoc]
/-- the loop's state -/
structure At12 (ρ : Env) : Prop where
  t1 : ρ.get 1 = some (.ptr 0 0 0)
  t2 : ρ.get 2 = some (.ptr 1 0 0)
  t3 : ρ.get 3 = some (.ptr 2 0 0)
  t4 : ρ.get 4 = some (.clo 23 [] [.ptr 0 0 0])
abbrev rcell (b : AV) : Obj := .arr (.av [b]) 0 0 (some 24)
abbrev ecell (k : Int) : Obj := .arr (.pv [.int .i64 k]) 0 0 (some 30)
structure C12 (C : Oracle) (L : Nat) (ty : Option Nat) : Prop where
  take : ∀ (σ : Heap) (s : List UInt8) (k : Nat), C 23 [.p (.int .i64 (k : Int)), .ptr 0 0 0] (box ty s :: σ) = some (takeR s k, box ty (takeS s k) :: σ)
  words : ∀ (σ : Heap) (s : List UInt8), s.length < L → s.length ≤ LIM → C 25 [.clo 23 [] [.ptr 0 0 0]] (box ty s :: σ) = some ((words s []).1, box ty (words s []).2 :: σ)
  num : ∀ (x : Int) σ, C 24 [.p (.int .i64 x)] σ = some (.ret (.p (.agg (vc (.num x)))), σ)
theorem words_text : ∀ (s acc : List UInt8), (words s acc).1 = bad ∨ ∃ t, (words s acc).1 = .ret (.p (.agg (vc (.text t))))
  | [], _ => .inl rfl
  | [c], acc => by unfold words; split <;> exact .inl rfl
  | c :: d :: s, acc => by
    unfold words
    split
    · split
      · split
        · exact .inl rfl
        · exact .inr ⟨_, rfl⟩
      · split
        · exact words_text s _
        · exact .inl rfl
    · exact words_text (d :: s) _
theorem byte_ne {c k : UInt8} (h : c ≠ k) : ((c.toNat : Int) == (k.toNat : Int)) = false := by
  have : c.toNat ≠ k.toNat := fun e => h (UInt8.toNat_inj.1 e)
  simp
  omega
section
variable (C : Oracle) (L : Nat) (ty : Option Nat) (ρ : Env) (ds : List (Nat × List AV)) (rest : Heap) (b : AV) (l : List V)
theorem stop12 (h : At12 ρ) : ∃ ρ', exec C L body12 ⟨ρ, ds, box ty [] :: rcell b :: ecell 0 :: rest⟩ = some (.exit 0, ⟨ρ', ds, box ty [] :: rcell b :: ecell 0 :: rest⟩) ∧ At12 ρ' :=
  ⟨_, by simp [body12, exec, runOps, wantedA, stepOp, pureOp, allocOp, readOp, effOp, ev, evs, evO, Env.get_cons, putE, binA, intBin, unA, AV.fit, AV.toCells, partC, partP, mkCells, allP, mkAgg, Cells.len, target, h.t1, strBin]; rfl, ⟨by simp [Env.get_cons, h.t1], by simp [Env.get_cons, h.t2], by simp [Env.get_cons, h.t3], by simp [Env.get_cons, h.t4]⟩⟩
variable (hC : C12 C L ty)
include hC
theorem take1 (σ : Heap) (c : UInt8) (s : List UInt8) : C 23 [.p (.int .i64 1), .ptr 0 0 0] (box ty (c :: s) :: σ) = some (.ret (.p (.str [c])), box ty s :: σ) := by
  have := hC.take σ (c :: s) 1
  simpa [takeR, takeS] using this
theorem take0 (σ : Heap) : C 23 [.p (.int .i64 1), .ptr 0 0 0] (box ty [] :: σ) = some (bad, box ty [] :: σ) := by
  have := hC.take σ [] 1
  simpa [takeR, takeS] using this
theorem go12_null (s : List UInt8) (h : At12 ρ) (hv : VB rest b l) (hl : l.length + 1 ≤ LIM) :
    ∃ ρ' rest' b', exec C L body12 ⟨ρ, ds, box ty (1 :: s) :: rcell b :: ecell 0 :: rest⟩ = some (.normal, ⟨ρ', ds, box ty s :: rcell b' :: ecell 0 :: rest'⟩) ∧ At12 ρ' ∧ VB rest' b' (l ++ [.null]) := by
  have e1 := take1 C L ty hC (rcell b :: ecell 0 :: rest) 1 s
  obtain ⟨id, ver, rest', hA, hv'⟩ := (hv.push [.arr (.pv (vc .null)) 0 0 none]).append .null hl (box ty s) (rcell b) (ecell 0)
  simp only [vc] at hA
  exact ⟨_, rest', _, by simp [body12, exec, runOps, wantedA, stepOp, pureOp, allocOp, readOp, effOp, ev, evs, evO, Env.get_cons, putE, binA, intBin, unA, AV.fit, AV.toCells, partC, partP, mkCells, allP, mkAgg, Cells.len, target, evParts, fillA, AV.cells, splice, spliceC, finA, leaveA, resA, resV, ansV, repCells, elemsA, takeC, dropC, atStrA, h.t1, h.t2, h.t4, e1, strBin, hA, Cells.toList]; rfl, ⟨by simp [Env.get_cons, h.t1], by simp [Env.get_cons, h.t2], by simp [Env.get_cons, h.t3], by simp [Env.get_cons, h.t4]⟩, hv'⟩
abbrev badP : AV := .p (.iface 50 (.agg []))
theorem go12_bool (c : UInt8) (s : List UInt8) (h : At12 ρ) (hv : VB rest b l) (hl : l.length + 1 ≤ LIM) (hc : c = 0 ∨ c = 1) :
    ∃ ρ' rest' b', exec C L body12 ⟨ρ, ds, box ty (4 :: c :: s) :: rcell b :: ecell 0 :: rest⟩ = some (.normal, ⟨ρ', ds, box ty s :: rcell b' :: ecell 0 :: rest'⟩) ∧ At12 ρ' ∧ VB rest' b' (l ++ [.bool (c == 1)]) := by
  have e1 := take1 C L ty hC (rcell b :: ecell 0 :: rest) 4 (c :: s)
  have e2 := take1 C L ty hC (rcell b :: ecell 0 :: rest) c s
  obtain ⟨id, ver, rest', hA, hv'⟩ := (hv.push [.arr (.pv (vc (.bool (c == 1)))) 0 0 none]).append (.bool (c == 1)) hl (box ty s) (rcell b) (ecell 0)
  simp only [vc] at hA
  rcases hc with rfl | rfl
  · exact ⟨_, rest', _, by simp [body12, exec, runOps, wantedA, stepOp, pureOp, allocOp, readOp, effOp, ev, evs, evO, Env.get_cons, putE, binA, intBin, unA, AV.fit, AV.toCells, partC, partP, mkCells, allP, mkAgg, Cells.len, target, evParts, fillA, AV.cells, splice, spliceC, finA, leaveA, resA, resV, ansV, repCells, elemsA, takeC, dropC, atStrA, h.t1, h.t2, h.t4, e1, e2, strBin]; simp at hA; simp [hA, Cells.toList, allP]; rfl, ⟨by simp [Env.get_cons, h.t1], by simp [Env.get_cons, h.t2], by simp [Env.get_cons, h.t3], by simp [Env.get_cons, h.t4]⟩, hv'⟩
  · exact ⟨_, rest', _, by simp [body12, exec, runOps, wantedA, stepOp, pureOp, allocOp, readOp, effOp, ev, evs, evO, Env.get_cons, putE, binA, intBin, unA, AV.fit, AV.toCells, partC, partP, mkCells, allP, mkAgg, Cells.len, target, evParts, fillA, AV.cells, splice, spliceC, finA, leaveA, resA, resV, ansV, repCells, elemsA, takeC, dropC, atStrA, h.t1, h.t2, h.t4, e1, e2, strBin]; simp at hA; simp [hA, Cells.toList, allP]; rfl, ⟨by simp [Env.get_cons, h.t1], by simp [Env.get_cons, h.t2], by simp [Env.get_cons, h.t3], by simp [Env.get_cons, h.t4]⟩, hv'⟩
theorem go12_bbig (c : UInt8) (s : List UInt8) (h : At12 ρ) (hc : 1 < c.toNat) :
    ∃ ρ', exec C L body12 ⟨ρ, ds, box ty (4 :: c :: s) :: rcell b :: ecell 0 :: rest⟩ = some (.pan badP, ⟨ρ', ds, box ty s :: rcell b :: ecell 0 :: rest⟩) ∧ At12 ρ' := by
  have e1 := take1 C L ty hC (rcell b :: ecell 0 :: rest) 4 (c :: s)
  have e2 := take1 C L ty hC (rcell b :: ecell 0 :: rest) c s
  have d1 : decide ((1 : Int) < (c.toNat : Int)) = true := decide_eq_true (by omega)
  exact ⟨_, by simp [body12, exec, runOps, wantedA, stepOp, pureOp, allocOp, readOp, effOp, ev, evs, evO, Env.get_cons, putE, binA, intBin, unA, AV.fit, AV.toCells, partC, partP, mkCells, allP, mkAgg, Cells.len, target, evParts, fillA, AV.cells, splice, spliceC, finA, leaveA, resA, resV, ansV, atStrA, h.t1, h.t2, h.t4, e1, e2, strBin, d1]; rfl, ⟨by simp [Env.get_cons, h.t1], by simp [Env.get_cons, h.t2], by simp [Env.get_cons, h.t3], by simp [Env.get_cons, h.t4]⟩⟩
theorem go12_bempty (h : At12 ρ) :
    ∃ ρ', exec C L body12 ⟨ρ, ds, box ty [4] :: rcell b :: ecell 0 :: rest⟩ = some (.pan badP, ⟨ρ', ds, box ty [] :: rcell b :: ecell 0 :: rest⟩) ∧ At12 ρ' := by
  have e1 := take1 C L ty hC (rcell b :: ecell 0 :: rest) 4 []
  have e2 := take0 C L ty hC (rcell b :: ecell 0 :: rest)
  exact ⟨_, by simp [body12, exec, runOps, wantedA, stepOp, pureOp, allocOp, readOp, effOp, ev, evs, evO, Env.get_cons, putE, binA, intBin, unA, AV.fit, AV.toCells, partC, partP, mkCells, allP, mkAgg, Cells.len, target, evParts, fillA, AV.cells, splice, spliceC, finA, leaveA, resA, resV, ansV, atStrA, h.t1, h.t2, h.t4, e1, e2, strBin]; rfl, ⟨by simp [Env.get_cons, h.t1], by simp [Env.get_cons, h.t2], by simp [Env.get_cons, h.t3], by simp [Env.get_cons, h.t4]⟩⟩
theorem go12_bad (c : UInt8) (s : List UInt8) (h : At12 ρ) (h1 : c ≠ 1) (h2 : c ≠ 2) (h3 : c ≠ 3) (h4 : c ≠ 4) :
    ∃ ρ', exec C L body12 ⟨ρ, ds, box ty (c :: s) :: rcell b :: ecell 0 :: rest⟩ = some (.pan badP, ⟨ρ', ds, box ty s :: rcell b :: ecell 0 :: rest⟩) ∧ At12 ρ' := by
  have e1 := take1 C L ty hC (rcell b :: ecell 0 :: rest) c s
  have d1 : ((c.toNat : Int) == 1) = false := byte_ne h1
  have d2 : ((c.toNat : Int) == 2) = false := byte_ne h2
  have d3 : ((c.toNat : Int) == 3) = false := byte_ne h3
  have d4 : ((c.toNat : Int) == 4) = false := byte_ne h4
  exact ⟨_, by simp [body12, exec, runOps, wantedA, stepOp, pureOp, allocOp, readOp, effOp, ev, evs, evO, Env.get_cons, putE, binA, intBin, unA, AV.fit, AV.toCells, partC, partP, mkCells, allP, mkAgg, Cells.len, target, evParts, fillA, AV.cells, splice, spliceC, finA, leaveA, resA, resV, ansV, atStrA, h.t1, h.t2, h.t4, e1, strBin, d1, d2, d3, d4]; rfl, ⟨by simp [Env.get_cons, h.t1], by simp [Env.get_cons, h.t2], by simp [Env.get_cons, h.t3], by simp [Env.get_cons, h.t4]⟩⟩
theorem go12_nshort (s : List UInt8) (h : At12 ρ) (hs : s.length < 8) :
    ∃ ρ', exec C L body12 ⟨ρ, ds, box ty (2 :: s) :: rcell b :: ecell 0 :: rest⟩ = some (.pan badP, ⟨ρ', ds, box ty s :: rcell b :: ecell 0 :: rest⟩) ∧ At12 ρ' := by
  have e1 := take1 C L ty hC (rcell b :: ecell 0 :: rest) 2 s
  have e2 : C 23 [.p (.int .i64 8), .ptr 0 0 0] (box ty s :: rcell b :: ecell 0 :: rest) = some (bad, box ty s :: rcell b :: ecell 0 :: rest) := by
    have := hC.take (rcell b :: ecell 0 :: rest) s 8
    have h8 : ¬ 8 ≤ s.length := by omega
    simpa [takeR, takeS, h8] using this
  exact ⟨_, by simp [body12, exec, runOps, wantedA, stepOp, pureOp, allocOp, readOp, effOp, ev, evs, evO, Env.get_cons, putE, binA, intBin, unA, AV.fit, AV.toCells, partC, partP, mkCells, allP, mkAgg, Cells.len, target, evParts, fillA, AV.cells, splice, spliceC, finA, leaveA, resA, resV, ansV, atStrA, h.t1, h.t2, h.t4, e1, e2, strBin]; rfl, ⟨by simp [Env.get_cons, h.t1], by simp [Env.get_cons, h.t2], by simp [Env.get_cons, h.t3], by simp [Env.get_cons, h.t4]⟩⟩
theorem go12_text (s t : List UInt8) (h : At12 ρ) (hv : VB rest b l) (hl : l.length + 1 ≤ LIM) (hs : s.length < L) (hs' : s.length ≤ LIM) (hw : (words s []).1 = .ret (.p (.agg (vc (.text t))))) :
    ∃ ρ' rest' b', exec C L body12 ⟨ρ, ds, box ty (3 :: s) :: rcell b :: ecell 0 :: rest⟩ = some (.normal, ⟨ρ', ds, box ty (words s []).2 :: rcell b' :: ecell 0 :: rest'⟩) ∧ At12 ρ' ∧ VB rest' b' (l ++ [.text t]) := by
  have e1 := take1 C L ty hC (rcell b :: ecell 0 :: rest) 3 s
  have e2 := hC.words (rcell b :: ecell 0 :: rest) s hs hs'
  rw [hw] at e2
  generalize (words s []).2 = s' at *
  obtain ⟨id, ver, rest', hA, hv'⟩ := (hv.push [.arr (.pv (vc (.text t))) 0 0 none]).append (.text t) hl (box ty s') (rcell b) (ecell 0)
  simp only [vc] at hA e2
  exact ⟨_, rest', _, by simp [body12, exec, runOps, wantedA, stepOp, pureOp, allocOp, readOp, effOp, ev, evs, evO, Env.get_cons, putE, binA, intBin, unA, AV.fit, AV.toCells, partC, partP, mkCells, allP, mkAgg, Cells.len, target, evParts, fillA, AV.cells, splice, spliceC, finA, leaveA, resA, resV, ansV, repCells, elemsA, takeC, dropC, atStrA, h.t1, h.t2, h.t4, e1, e2, strBin, hA, Cells.toList, drawExec, drawRun, stillOp, keepE, readsOf, isE, opds, tmpsOf, carry, refOf, refV, valsOp, oneH, wrIds, okRW, bef, isFree, between, touch, collect, idsL, idsV, idsO]; rfl, ⟨by simp [Env.get_cons, h.t1], by simp [Env.get_cons, h.t2], by simp [Env.get_cons, h.t3], by simp [Env.get_cons, h.t4]⟩, hv'⟩
end
end Go.Ab.Key

/- The laws of keys: Decode's loop: numbers; broken texts. -/
set_option maxRecDepth 1000000
namespace Go.Ab.Key
open Go Go.Ab Go.Proofs
/-- bytes as a number, the greatest first -/
def val (l : List UInt8) : Nat := l.foldl (fun a b => a * 256 + b.toNat) 0
theorem val_snoc (l : List UInt8) (c : UInt8) : val (l ++ [c]) = val l * 256 + c.toNat := by simp [val]
theorem val_lt_rev : ∀ l : List UInt8, val l.reverse < 256 ^ l.length
  | [] => by decide
  | c :: l => by
    have ih := val_lt_rev l
    have h := c.toNat_lt
    rw [List.reverse_cons, val_snoc, List.length_cons, Nat.pow_succ]
    omega
theorem val_lt (l : List UInt8) : val l < 256 ^ l.length := by
  have := val_lt_rev l.reverse
  simpa using this
theorem or_byte (w c : Nat) (hw : w < 72057594037927936) (hc : c < 256) : IntKind.u64.wrap ((BitVec.ofInt 64 ((w : Int) * 256) ||| BitVec.ofInt 64 (c : Int)).toNat : Int) = ((w * 256 + c : Nat) : Int) := by
  rw [BitVec.toNat_or, BitVec.toNat_ofInt, BitVec.toNat_ofInt]
  have e1 : (((w : Int) * 256) % ((2 ^ 64 : Nat) : Int)).toNat = w <<< 8 := by
    rw [Int.emod_eq_of_lt (by omega) (by omega), Nat.shiftLeft_eq]
    omega
  have e2 : ((c : Int) % ((2 ^ 64 : Nat) : Int)).toNat = c := by
    rw [Int.emod_eq_of_lt (by omega) (by omega)]
    omega
  rw [e1, e2, ← Nat.shiftLeft_add_eq_or_of_lt (by omega : c < 2 ^ 8), Nat.shiftLeft_eq, wrap_u64 _ (by omega) (by omega)]
/-- the number of a code -/
def numOf (w : Nat) : Int := (w : Int) - 9223372036854775808
theorem xor_num (w : Nat) (h : w < 18446744073709551616) : IntKind.i64.wrap (IntKind.u64.wrap ((BitVec.ofInt 64 (w : Int) ^^^ BitVec.ofInt 64 9223372036854775808).toNat : Int)) = numOf w := by
  rw [BitVec.toNat_xor, BitVec.toNat_ofInt, BitVec.toNat_ofInt]
  have e2 : ((9223372036854775808 : Int) % ((2 ^ 64 : Nat) : Int)).toNat = 2 ^ 63 := by decide
  have e1 : ((w : Int) % ((2 ^ 64 : Nat) : Int)).toNat = w := by
    rw [Int.emod_eq_of_lt (by omega) (by omega)]
    omega
  rw [e1, e2]
  unfold numOf
  by_cases hw : w < 9223372036854775808
  · rw [xor_low w (by omega), wrap_u64 _ (by omega) (by omega)]
    simp only [IntKind.wrap, IntKind.bits, IntKind.signed]
    simp
    omega
  · obtain ⟨r, rfl⟩ : ∃ r, w = 2 ^ 63 + r := ⟨w - 2 ^ 63, by omega⟩
    rw [xor_high r (by omega), wrap_u64 _ (by omega) (by omega), wrap_id _ (by omega) (by omega)]
    omega
variable [Marks]
section
variable (C : Oracle) (L : Nat) (ρ : Env) (ds : List (Nat × List AV)) (σ : Heap)
/-- the inner loop's state -/
structure At12n (ρ : Env) (id i w : Nat) : Prop where
  at12 : At12 ρ
  t28 : ρ.get 28 = some (.sl id 0 0 8 1)
  t29 : ρ.get 29 = some (.p (.int .i64 8))
  t30 : ρ.get 30 = some (.p (.int .i64 (i : Int)))
  t5 : ρ.get 5 = some (.p (.int .u64 (w : Int)))
theorem stop12n (id w : Nat) (h : At12n ρ id 8 w) : ∃ ρ', exec C L body12n ⟨ρ, ds, σ⟩ = some (.exit 3, ⟨ρ', ds, σ⟩) ∧ At12n ρ' id 8 w :=
  ⟨_, by simp [body12n, exec, runOps, wantedA, stepOp, pureOp, allocOp, readOp, effOp, ev, evs, evO, Env.get_cons, putE, binA, intBin, unA, AV.fit, AV.toCells, partC, partP, mkCells, allP, mkAgg, Cells.len, target, h.t29, h.t30]; rfl, ⟨⟨by simp [Env.get_cons, h.at12.t1], by simp [Env.get_cons, h.at12.t2], by simp [Env.get_cons, h.at12.t3], by simp [Env.get_cons, h.at12.t4]⟩, by simp [Env.get_cons, h.t28], by simp [Env.get_cons, h.t29], by simp [Env.get_cons, h.t30], by simp [Env.get_cons, h.t5]⟩⟩
theorem go12n (id i w : Nat) (h : At12n ρ id i w) (bs : List UInt8) (ho : σ[id]? = some (.arr (.pv (bp bs)) 0 0 none)) (hn : bs.length = 8) (hi : i < 8) (c : UInt8) (hc : bs[i]? = some c) (hw : w < 72057594037927936) :
    ∃ ρ', exec C L body12n ⟨ρ, ds, σ⟩ = some (.normal, ⟨ρ', ds, σ⟩) ∧ At12n ρ' id (i + 1) (w * 256 + c.toNat) := by
  have h1 : (i : Int) < 8 := by omega
  have hb := bp_len bs
  have hg : (bp bs)[i]? = some (.int .u8 c.toNat) := by simp [bp, hc]
  have h2 : i < (bp bs).length := by omega
  have e1 : IntKind.i64.wrap ((i : Int) + 1) = (i : Int) + 1 := wrap_id _ (by omega) (by omega)
  have e2 : IntKind.u64.wrap ((w : Int) * 256) = (w : Int) * 256 := wrap_u64 _ (by omega) (by omega)
  have e3 : IntKind.u64.wrap (c.toNat : Int) = (c.toNat : Int) := wrap_u64 _ (by omega) (by have := c.toNat_lt; omega)
  have hx : intBin .or .u64 ((w : Int) * 256) (c.toNat : Int) = some (.int .u64 ((w * 256 + c.toNat : Nat) : Int)) := congrArg (fun z => some (PV.int .u64 z)) (or_byte w c.toNat hw c.toNat_lt)
  refine ⟨_, by simp [body12n, exec, runOps, wantedA, stepOp, pureOp, allocOp, readOp, effOp, ev, evs, evO, Env.get_cons, putE, binA, intBin, unA, AV.fit, AV.toCells, partC, partP, mkCells, allP, mkAgg, Cells.len, target, evParts, fillA, AV.cells, splice, spliceC, finA, leaveA, resA, resV, ansV, idxA, intShift, IntKind.bits, h.t28, h.t29, h.t30, h.t5, ho, h1, hg, e1, e2, e3, ↓hx]; rfl, ⟨⟨by simp [Env.get_cons, h.at12.t1], by simp [Env.get_cons, h.at12.t2], by simp [Env.get_cons, h.at12.t3], by simp [Env.get_cons, h.at12.t4]⟩, by simp [Env.get_cons, h.t28], by simp [Env.get_cons, h.t29], by simp [Env.get_cons], by simp [Env.get_cons]⟩⟩
theorem loop12n (bs : List UInt8) (id : Nat) (ho : σ[id]? = some (.arr (.pv (bp bs)) 0 0 none)) (hn : bs.length = 8) : ∀ (d i f : Nat) (ρ : Env), i + d = 8 → d < f → At12n ρ id i (val (bs.take i)) →
    ∃ ρ', iter (exec C L body12n) none f ⟨ρ, ds, σ⟩ = some (.exit 3, ⟨ρ', ds, σ⟩) ∧ At12n ρ' id 8 (val bs)
  | 0, i, f, ρ, hd, hf, h => by
    obtain ⟨f, rfl⟩ : ∃ m, f = m + 1 := ⟨f - 1, by omega⟩
    obtain rfl : i = 8 := by omega
    rw [List.take_of_length_le (by omega)] at h
    obtain ⟨ρ', e, h'⟩ := stop12n C L ρ ds σ id _ h
    exact ⟨ρ', by simp only [iter, St.keep, e], h'⟩
  | d + 1, i, f, ρ, hd, hf, h => by
    obtain ⟨f, rfl⟩ : ∃ m, f = m + 1 := ⟨f - 1, by omega⟩
    have hi : i < bs.length := by omega
    have hc : bs[i]? = some bs[i] := List.getElem?_eq_getElem hi
    have hv : val (bs.take i) < 72057594037927936 := by
      have h1 := val_lt (bs.take i)
      rw [List.length_take, Nat.min_eq_left (by omega)] at h1
      have h2 : 256 ^ i ≤ 256 ^ 7 := Nat.pow_le_pow_right (by decide) (by omega)
      omega
    obtain ⟨ρ1, e, h1⟩ := go12n C L ρ ds σ id i _ h bs ho hn (by omega) _ hc hv
    rw [← val_snoc, show bs.take i ++ [bs[i]] = bs.take (i + 1) from by rw [List.take_add_one, hc]; rfl] at h1
    obtain ⟨ρ', e', h'⟩ := loop12n bs id ho hn d (i + 1) f ρ1 (by omega) (by omega) h1
    exact ⟨ρ', by simp only [iter, St.keep, e]; exact e', h'⟩
end
theorem dropE_get : ∀ (ρ : Env) (l : List Nat) (t : Nat), l.contains t = false → (dropE ρ l).get t = ρ.get t
  | [], _, _, _ => rfl
  | (u, v) :: ρ, l, t, h => by
    have ih := dropE_get ρ l t h
    simp only [dropE]
    split
    · rename_i hu
      rw [ih, Env.get_cons, if_neg]
      intro e
      subst e
      rw [hu] at h
      cases h
    · simp only [Env.get_cons, ih]
section
variable (C : Oracle) (L : Nat) (ty : Option Nat) (ρ : Env) (ds : List (Nat × List AV)) (rest : Heap) (b : AV) (l : List V)
variable (hC : C12 C L ty)
include hC
theorem go12_tbad (s : List UInt8) (h : At12 ρ) (hs : s.length < L) (hs' : s.length ≤ LIM) (hw : (words s []).1 = bad) :
    ∃ ρ', exec C L body12 ⟨ρ, ds, box ty (3 :: s) :: rcell b :: ecell 0 :: rest⟩ = some (.pan badP, ⟨ρ', ds, box ty (words s []).2 :: rcell b :: ecell 0 :: rest⟩) ∧ At12 ρ' := by
  have e1 := take1 C L ty hC (rcell b :: ecell 0 :: rest) 3 s
  have e2 := hC.words (rcell b :: ecell 0 :: rest) s hs hs'
  rw [hw] at e2
  generalize (words s []).2 = s' at *
  have hlate : lateOK [0, 0, 2, 6, 15, 31] 6 2 = true := by kernel_rfl
  exact ⟨_, by simp [body12, exec, runOps, wantedA, stepOp, pureOp, allocOp, readOp, effOp, ev, evs, evO, Env.get_cons, putE, binA, intBin, unA, AV.fit, AV.toCells, partC, partP, mkCells, allP, mkAgg, Cells.len, target, evParts, fillA, AV.cells, splice, spliceC, finA, leaveA, resA, resV, ansV, atStrA, h.t1, h.t2, h.t4, e1, e2, strBin, Cells.toList, drawExec, drawRun, stillOp, keepE, readsOf, isE, opds, tmpsOf, carry, refOf, refV, valsOp, oneH, wrIds, okRW, bef, isFree, between, touch, collect, idsL, idsV, idsO, hlate]; rfl, ⟨by simp [dropE_get, dsts, Env.get_cons, h.t1], by simp [dropE_get, dsts, Env.get_cons, h.t2], by simp [dropE_get, dsts, Env.get_cons, h.t3], by simp [dropE_get, dsts, Env.get_cons, h.t4]⟩⟩
/-- what the number's region does -/
theorem go12_num (bs s : List UInt8) (hbs : bs.length = 8) (h : At12 ρ) (hv : VB rest b l) (hl : l.length + 1 ≤ LIM) (hL : 8 < L) :
    ∃ ρ' rest' b', exec C L body12 ⟨ρ, ds, box ty (2 :: (bs ++ s)) :: rcell b :: ecell 0 :: rest⟩ = some (.normal, ⟨ρ', ds, box ty s :: rcell b' :: ecell 0 :: rest'⟩) ∧ At12 ρ' ∧ VB rest' b' (l ++ [.num (numOf (val bs))]) := by
  have hLm : LIM = 4294967296 := rfl
  have e1 := take1 C L ty hC (rcell b :: ecell 0 :: rest) 2 (bs ++ s)
  have e2 : C 23 [.p (.int .i64 8), .ptr 0 0 0] (box ty (bs ++ s) :: rcell b :: ecell 0 :: rest) = some (.ret (.p (.str bs)), box ty s :: rcell b :: ecell 0 :: rest) := by
    have := hC.take (rcell b :: ecell 0 :: rest) (bs ++ s) 8
    have h8 : 8 ≤ (bs ++ s).length := by simp; omega
    simp only [takeR, takeS, if_pos h8] at this
    rw [show (8 : Nat) = bs.length from hbs.symm, List.take_left, List.drop_left, hbs] at this
    exact this
  have hval : val bs < 18446744073709551616 := by
    have := val_lt bs
    rw [hbs] at this
    exact this
  have e3 := hC.num (numOf (val bs))
  obtain ⟨x, hx, e4⟩ : ∃ x, intBin .xor .u64 (val bs : Int) 9223372036854775808 = some (.int .u64 x) ∧ IntKind.i64.wrap x = numOf (val bs) := ⟨_, rfl, xor_num (val bs) hval⟩
  have h8 : 8 ≤ LIM := by decide
  obtain ⟨σ4, h4⟩ : ∃ σ4, σ4 = box ty s :: rcell b :: ecell 0 :: (rest ++ [.arr (.pv (bp bs)) 0 0 none]) := ⟨_, rfl⟩
  have ho4 : σ4[rest.length + 1 + 1 + 1]? = some (.arr (.pv (bp bs)) 0 0 none) := by rw [h4]; simp
  obtain ⟨F, hF⟩ : ∃ F : Env → Env, ∀ ρ, At12n ρ (rest.length + 1 + 1 + 1) 0 0 → iter (exec C L body12n) none L ⟨ρ, ds, σ4⟩ = some (.exit 3, ⟨F ρ, ds, σ4⟩) ∧ At12n (F ρ) (rest.length + 1 + 1 + 1) 8 (val bs) := by
    have hl := fun ρ (hρ : At12n ρ (rest.length + 1 + 1 + 1) 0 0) => loop12n C L ds σ4 bs (rest.length + 1 + 1 + 1) ho4 hbs 8 0 L ρ rfl hL (by simpa [val] using hρ)
    refine ⟨fun ρ => open Classical in if hρ : At12n ρ (rest.length + 1 + 1 + 1) 0 0 then (hl ρ hρ).choose else ρ, fun ρ hρ => ?_⟩
    simp only [dif_pos hρ]
    exact (hl ρ hρ).choose_spec
  have hF1 := fun ρ t1 t2 t3 t4 t28 t29 t30 t5 => (hF ρ ⟨⟨t1, t2, t3, t4⟩, t28, t29, t30, t5⟩).1
  have g1 := fun ρ t1 t2 t3 t4 t28 t29 t30 t5 => (hF ρ ⟨⟨t1, t2, t3, t4⟩, t28, t29, t30, t5⟩).2.at12.t1
  have g2 := fun ρ t1 t2 t3 t4 t28 t29 t30 t5 => (hF ρ ⟨⟨t1, t2, t3, t4⟩, t28, t29, t30, t5⟩).2.at12.t2
  have g3 := fun ρ t1 t2 t3 t4 t28 t29 t30 t5 => (hF ρ ⟨⟨t1, t2, t3, t4⟩, t28, t29, t30, t5⟩).2.at12.t3
  have g4 := fun ρ t1 t2 t3 t4 t28 t29 t30 t5 => (hF ρ ⟨⟨t1, t2, t3, t4⟩, t28, t29, t30, t5⟩).2.at12.t4
  have g5 := fun ρ t1 t2 t3 t4 t28 t29 t30 t5 => (hF ρ ⟨⟨t1, t2, t3, t4⟩, t28, t29, t30, t5⟩).2.t5
  subst h4
  simp only [Int.natCast_zero] at hF1 g1 g2 g3 g4 g5
  obtain ⟨id, ver, rest', hA, hv'⟩ := ((hv.push [.arr (.pv (bp bs)) 0 0 none]).push [.arr (.pv (vc (.num (numOf (val bs))))) 0 0 none]).append (.num (numOf (val bs))) hl (box ty s) (rcell b) (ecell 0)
  simp only [vc, List.append_assoc, List.cons_append, List.nil_append] at hA e3
  have hget : ∀ x y : Obj, (rest ++ [x, y])[rest.length + 1]? = some y := fun x y => by simp
  have hbl : bs.length ≤ LIM := by omega
  have hbp : (List.map (fun b : UInt8 => PV.int .u8 (b.toNat : Int)) bs) = bp bs := rfl
  refine ⟨_, rest', _, by simp [body12, exec, runOps, wantedA, stepOp, pureOp, allocOp, readOp, effOp, ev, evs, evO, Env.get_cons, putE, binA, intBin, unA, AV.fit, AV.toCells, partC, partP, mkCells, allP, mkAgg, Cells.len, target, evParts, fillA, AV.cells, splice, spliceC, finA, leaveA, resA, resV, ansV, repCells, elemsA, takeC, dropC, atStrA, h.t1, h.t2, h.t3, h.t4, e1, e2, strBin, hbl, hbp, h8, hF1, g1, g2, g5, lenA, hbs, ↓hx, e4, e3, hA, hget, Cells.toList, drawExec, drawRun, stillOp, keepE, readsOf, isE, opds, tmpsOf, carry, refOf, refV, valsOp, oneH, wrIds, okRW, bef, isFree, between, touch, collect, idsL, idsV, idsO]; rfl, ⟨?_, ?_, ?_, ?_⟩, hv'⟩
  · simp [Env.get_cons, g1, h.t1, h.t2, h.t3, h.t4]
  · simp [Env.get_cons, g2, h.t1, h.t2, h.t3, h.t4]
  · simp [Env.get_cons, g3, h.t1, h.t2, h.t3, h.t4]
  · simp [Env.get_cons, g4, h.t1, h.t2, h.t3, h.t4]
end
end Go.Ab.Key
