/- The law TypesNames: the table of functions, and the closed cases. -/
import Derived.Test.YtacjjncmbklplaaGreatDoorAbA24
import Derived.Test.YtacjjncmbklplaaGreatDoorProg
import Derived.KernelRfl
set_option linter.unusedSectionVars false
set_option linter.unusedSimpArgs false
set_option linter.unusedVariables false
set_option maxRecDepth 1000000
namespace Go.Ab.Names
open Go Go.Ab
def row (s : List UInt8) (k b : Int) : List PV := [.str s, .int .i64 k, .int .i64 b]
def basesG : List PV := row [] 0 0 ++ row [115,109,97,108,108,105,110,116] 1 16 ++ row [105,110,116,101,103,101,114] 1 32 ++ row [98,105,103,105,110,116] 1 64 ++ row [99,104,97,114] 2 0 ++ row [118,97,114,99,104,97,114] 2 0 ++ row [98,111,111,108,101,97,110] 3 0
def powG : List PV := (List.range 20).map fun i => .int .u64 ((10 ^ i : Nat) : Int)
def G : Globs := fun g => match g with
  | 0 => some basesG
  | 1 => some [.iface 158 (.vptr [])]
  | 3 => some powG
  | _ => none
def lit3 : AFunc := { ntmps := 31, results := [ARes.tmp 4], body := (ACode.region [{ dst := some 4, op := AOp.mv (Opd.c (AV.p (PV.bool false))), guard := none }]).seq ((ACode.region [{ dst := some 6, op := AOp.mv (Opd.t 0), guard := none }, { dst := some 7, op := AOp.mv (Opd.t 1), guard := none }, { dst := some 8, op := AOp.build [AV.p (PV.int IntKind.i64 (0)), AV.p (PV.int IntKind.i64 (0))] [(0, 1, Opd.t 6), (1, 1, Opd.t 7)], guard := none }, { dst := some 5, op := AOp.alloc [AV.p (PV.int IntKind.i64 (0)), AV.p (PV.int IntKind.i64 (0))], guard := none }, { dst := none, op := AOp.store 2 (Opd.t 5) (Opd.t 8), guard := none }]).seq ((ACode.draw 23 [0, 1, 3, 7, 3, 31, 63, 127, 255, 511, 1023, 511, 4095, 8191, 16383, 32767, 65535, 131071, 65535, 524287, 1048575, 2097151, 4194303] [{ dst := some 9, op := AOp.call (Opd.c (AV.p (PV.fn 7))) [], guard := none }, { dst := some 10, op := AOp.mv (Opd.t 9), guard := none }, { dst := some 11, op := AOp.load true 2 (Opd.t 5), guard := some (10, true) }, { dst := some 12, op := AOp.call (Opd.c (AV.p (PV.fn 8))) [Opd.t 11], guard := some (10, true) }, { dst := some 13, op := AOp.load true 2 (Opd.t 5), guard := some (10, true) }, { dst := some 14, op := AOp.call (Opd.c (AV.p (PV.fn 9))) [Opd.t 13], guard := some (10, true) }, { dst := some 15, op := AOp.bin (Bin.eq false EQ.bool) (Opd.t 12) (Opd.t 14), guard := some (10, true) }, { dst := some 16, op := AOp.pick (Opd.t 10) (Opd.t 15) (Opd.c (AV.p (PV.bool false))), guard := none }, { dst := some 17, op := AOp.mv (Opd.t 16), guard := none }, { dst := some 18, op := AOp.load true 2 (Opd.t 5), guard := some (17, true) }, { dst := some 19, op := AOp.call (Opd.c (AV.p (PV.fn 10))) [Opd.t 18], guard := some (17, true) }, { dst := some 20, op := AOp.load true 2 (Opd.t 5), guard := some (17, true) }, { dst := some 21, op := AOp.call (Opd.c (AV.p (PV.fn 11))) [Opd.t 20], guard := some (17, true) }, { dst := some 22, op := AOp.bin (Bin.plain BinOp.eql) (Opd.t 19) (Opd.t 21), guard := some (17, true) }, { dst := some 23, op := AOp.pick (Opd.t 17) (Opd.t 22) (Opd.c (AV.p (PV.bool false))), guard := none }, { dst := some 24, op := AOp.mv (Opd.t 23), guard := none }, { dst := some 25, op := AOp.load true 2 (Opd.t 5), guard := some (24, true) }, { dst := some 26, op := AOp.call (Opd.c (AV.p (PV.fn 12))) [Opd.t 25], guard := some (24, true) }, { dst := some 27, op := AOp.load true 2 (Opd.t 5), guard := some (24, true) }, { dst := some 28, op := AOp.call (Opd.c (AV.p (PV.fn 13))) [Opd.t 27], guard := some (24, true) }, { dst := some 29, op := AOp.bin (Bin.plain BinOp.eql) (Opd.t 26) (Opd.t 28), guard := some (24, true) }, { dst := some 30, op := AOp.pick (Opd.t 24) (Opd.t 29) (Opd.c (AV.p (PV.bool false))), guard := none }, { dst := some 4, op := AOp.mv (Opd.t 30), guard := none }]).seq ACode.ret)) }
def lit8 : AFunc := { ntmps := 30, results := [ARes.tmp 2], body := (ACode.region [{ dst := some 1, op := AOp.box 2 (Opd.t 0), guard := none }, { dst := some 2, op := AOp.mv (Opd.c (AV.p (PV.bool false))), guard := none }]).seq ((ACode.block 0 ((ACode.region [{ dst := some 4, op := AOp.fieldAddr 0 (Opd.t 1), guard := none }, { dst := some 5, op := AOp.load false 1 (Opd.t 4), guard := none }, { dst := some 6, op := AOp.bin (Bin.plain BinOp.lss) (Opd.t 5) (Opd.c (AV.p (PV.int IntKind.i64 (1)))), guard := none }, { dst := some 7, op := AOp.mv (Opd.t 6), guard := none }, { dst := some 8, op := AOp.fieldAddr 0 (Opd.t 1), guard := some (7, false) }, { dst := some 9, op := AOp.load false 1 (Opd.t 8), guard := some (7, false) }, { dst := some 10, op := AOp.bin (Bin.plain BinOp.gtr) (Opd.t 9) (Opd.c (AV.p (PV.int IntKind.i64 (6)))), guard := some (7, false) }, { dst := some 11, op := AOp.pick (Opd.t 7) (Opd.c (AV.p (PV.bool true))) (Opd.t 10), guard := none }, { dst := some 3, op := AOp.mv (Opd.t 11), guard := none }]).seq (ACode.cond (Opd.t 3) ((ACode.region [{ dst := some 2, op := AOp.mv (Opd.c (AV.p (PV.bool false))), guard := none }]).seq ACode.ret) ((ACode.region [{ dst := some 13, op := AOp.fieldAddr 0 (Opd.t 1), guard := none }, { dst := some 14, op := AOp.load false 1 (Opd.t 13), guard := none }, { dst := some 15, op := AOp.idxArr 7 3 (Opd.c (AV.p (PV.vptr [PV.str [], PV.int IntKind.i64 (0), PV.int IntKind.i64 (0), PV.str [115, 109, 97, 108, 108, 105, 110, 116], PV.int IntKind.i64 (1), PV.int IntKind.i64 (16), PV.str [105, 110, 116, 101, 103, 101, 114], PV.int IntKind.i64 (1), PV.int IntKind.i64 (32), PV.str [98, 105, 103, 105, 110, 116], PV.int IntKind.i64 (1), PV.int IntKind.i64 (64), PV.str [99, 104, 97, 114], PV.int IntKind.i64 (2), PV.int IntKind.i64 (0), PV.str [118, 97, 114, 99, 104, 97, 114], PV.int IntKind.i64 (2), PV.int IntKind.i64 (0), PV.str [98, 111, 111, 108, 101, 97, 110], PV.int IntKind.i64 (3), PV.int IntKind.i64 (0)]))) (Opd.t 14), guard := none }, { dst := some 16, op := AOp.fieldAddr 1 (Opd.t 15), guard := none }, { dst := some 17, op := AOp.load false 1 (Opd.t 16), guard := none }, { dst := some 18, op := AOp.bin (Bin.plain BinOp.eql) (Opd.t 17) (Opd.c (AV.p (PV.int IntKind.i64 (2)))), guard := none }, { dst := some 12, op := AOp.mv (Opd.t 18), guard := none }]).seq (ACode.cond (Opd.t 12) ((ACode.region [{ dst := some 19, op := AOp.fieldAddr 1 (Opd.t 1), guard := none }, { dst := some 20, op := AOp.load false 1 (Opd.t 19), guard := none }, { dst := some 21, op := AOp.bin (Bin.plain BinOp.geq) (Opd.t 20) (Opd.c (AV.p (PV.int IntKind.i64 (1)))), guard := none }, { dst := some 22, op := AOp.mv (Opd.t 21), guard := none }, { dst := some 23, op := AOp.fieldAddr 1 (Opd.t 1), guard := some (22, true) }, { dst := some 24, op := AOp.load false 1 (Opd.t 23), guard := some (22, true) }, { dst := some 25, op := AOp.bin (Bin.plain BinOp.leq) (Opd.t 24) (Opd.c (AV.p (PV.int IntKind.i64 (100)))), guard := some (22, true) }, { dst := some 26, op := AOp.pick (Opd.t 22) (Opd.t 25) (Opd.c (AV.p (PV.bool false))), guard := none }, { dst := some 2, op := AOp.mv (Opd.t 26), guard := none }]).seq ACode.ret) ACode.skip))))).seq ((ACode.region [{ dst := some 27, op := AOp.fieldAddr 1 (Opd.t 1), guard := none }, { dst := some 28, op := AOp.load false 1 (Opd.t 27), guard := none }, { dst := some 29, op := AOp.bin (Bin.plain BinOp.eql) (Opd.t 28) (Opd.c (AV.p (PV.int IntKind.i64 (0)))), guard := none }, { dst := some 2, op := AOp.mv (Opd.t 29), guard := none }]).seq ACode.ret)) }
def lit9 : AFunc := { ntmps := 24, results := [ARes.tmp 2], body := (ACode.region [{ dst := some 1, op := AOp.box 2 (Opd.t 0), guard := none }, { dst := some 2, op := AOp.mv (Opd.c (AV.p (PV.bool false))), guard := none }]).seq (((ACode.region [{ dst := some 3, op := AOp.fieldAddr 0 (Opd.t 1), guard := none }, { dst := some 4, op := AOp.load false 1 (Opd.t 3), guard := none }]).seq (ACode.block 0 (((ACode.region [{ dst := some 6, op := AOp.bin (Bin.plain BinOp.eql) (Opd.t 4) (Opd.c (AV.p (PV.int IntKind.i64 (1)))), guard := none }, { dst := some 5, op := AOp.mv (Opd.t 6), guard := none }]).seq (ACode.cond (Opd.t 5) ACode.skip ((ACode.region [{ dst := some 7, op := AOp.bin (Bin.plain BinOp.eql) (Opd.t 4) (Opd.c (AV.p (PV.int IntKind.i64 (2)))), guard := none }, { dst := some 5, op := AOp.mv (Opd.t 7), guard := none }]).seq (ACode.cond (Opd.t 5) ACode.skip ((ACode.region [{ dst := some 8, op := AOp.bin (Bin.plain BinOp.eql) (Opd.t 4) (Opd.c (AV.p (PV.int IntKind.i64 (3)))), guard := none }, { dst := some 5, op := AOp.mv (Opd.t 8), guard := none }]).seq (ACode.cond (Opd.t 5) ACode.skip (ACode.region [{ dst := some 9, op := AOp.bin (Bin.plain BinOp.eql) (Opd.t 4) (Opd.c (AV.p (PV.int IntKind.i64 (6)))), guard := none }, { dst := some 5, op := AOp.mv (Opd.t 9), guard := none }]))))))).seq (ACode.cond (Opd.t 5) ((ACode.region [{ dst := some 10, op := AOp.fieldAddr 1 (Opd.t 1), guard := none }, { dst := some 11, op := AOp.load false 1 (Opd.t 10), guard := none }, { dst := some 12, op := AOp.bin (Bin.plain BinOp.eql) (Opd.t 11) (Opd.c (AV.p (PV.int IntKind.i64 (0)))), guard := none }, { dst := some 2, op := AOp.mv (Opd.t 12), guard := none }]).seq ACode.ret) (((ACode.region [{ dst := some 14, op := AOp.bin (Bin.plain BinOp.eql) (Opd.t 4) (Opd.c (AV.p (PV.int IntKind.i64 (4)))), guard := none }, { dst := some 13, op := AOp.mv (Opd.t 14), guard := none }]).seq (ACode.cond (Opd.t 13) ACode.skip (ACode.region [{ dst := some 15, op := AOp.bin (Bin.plain BinOp.eql) (Opd.t 4) (Opd.c (AV.p (PV.int IntKind.i64 (5)))), guard := none }, { dst := some 13, op := AOp.mv (Opd.t 15), guard := none }]))).seq (ACode.cond (Opd.t 13) ((ACode.region [{ dst := some 16, op := AOp.fieldAddr 1 (Opd.t 1), guard := none }, { dst := some 17, op := AOp.load false 1 (Opd.t 16), guard := none }, { dst := some 18, op := AOp.bin (Bin.plain BinOp.geq) (Opd.t 17) (Opd.c (AV.p (PV.int IntKind.i64 (1)))), guard := none }, { dst := some 19, op := AOp.mv (Opd.t 18), guard := none }, { dst := some 20, op := AOp.fieldAddr 1 (Opd.t 1), guard := some (19, true) }, { dst := some 21, op := AOp.load false 1 (Opd.t 20), guard := some (19, true) }, { dst := some 22, op := AOp.bin (Bin.plain BinOp.leq) (Opd.t 21) (Opd.c (AV.p (PV.int IntKind.i64 (100)))), guard := some (19, true) }, { dst := some 23, op := AOp.pick (Opd.t 19) (Opd.t 22) (Opd.c (AV.p (PV.bool false))), guard := none }, { dst := some 2, op := AOp.mv (Opd.t 23), guard := none }]).seq ACode.ret) ACode.skip)))))).seq ((ACode.region [{ dst := some 2, op := AOp.mv (Opd.c (AV.p (PV.bool false))), guard := none }]).seq ACode.ret)) }
def lit10 : AFunc := { ntmps := 27, results := [ARes.tmp 2], body := (ACode.region [{ dst := some 1, op := AOp.box 2 (Opd.t 0), guard := none }, { dst := some 2, op := AOp.mv (Opd.c (AV.p (PV.str []))), guard := none }]).seq ((ACode.block 0 ((ACode.region [{ dst := some 4, op := AOp.load true 2 (Opd.t 1), guard := none }, { dst := some 5, op := AOp.call (Opd.c (AV.p (PV.fn 8))) [Opd.t 4], guard := none }, { dst := some 6, op := AOp.un UnOp.not (Opd.t 5), guard := none }, { dst := some 3, op := AOp.mv (Opd.t 6), guard := none }]).seq (ACode.cond (Opd.t 3) ((ACode.region [{ dst := some 2, op := AOp.mv (Opd.c (AV.p (PV.str []))), guard := none }]).seq ACode.ret) ((ACode.region [{ dst := some 8, op := AOp.fieldAddr 1 (Opd.t 1), guard := none }, { dst := some 9, op := AOp.load false 1 (Opd.t 8), guard := none }, { dst := some 10, op := AOp.bin (Bin.plain BinOp.gtr) (Opd.t 9) (Opd.c (AV.p (PV.int IntKind.i64 (0)))), guard := none }, { dst := some 7, op := AOp.mv (Opd.t 10), guard := none }]).seq (ACode.cond (Opd.t 7) ((ACode.draw 12 [0, 1, 3, 7, 15, 31, 0, 64, 192, 511, 1023, 2047] [{ dst := some 11, op := AOp.fieldAddr 0 (Opd.t 1), guard := none }, { dst := some 12, op := AOp.load false 1 (Opd.t 11), guard := none }, { dst := some 13, op := AOp.idxArr 7 3 (Opd.c (AV.p (PV.vptr [PV.str [], PV.int IntKind.i64 (0), PV.int IntKind.i64 (0), PV.str [115, 109, 97, 108, 108, 105, 110, 116], PV.int IntKind.i64 (1), PV.int IntKind.i64 (16), PV.str [105, 110, 116, 101, 103, 101, 114], PV.int IntKind.i64 (1), PV.int IntKind.i64 (32), PV.str [98, 105, 103, 105, 110, 116], PV.int IntKind.i64 (1), PV.int IntKind.i64 (64), PV.str [99, 104, 97, 114], PV.int IntKind.i64 (2), PV.int IntKind.i64 (0), PV.str [118, 97, 114, 99, 104, 97, 114], PV.int IntKind.i64 (2), PV.int IntKind.i64 (0), PV.str [98, 111, 111, 108, 101, 97, 110], PV.int IntKind.i64 (3), PV.int IntKind.i64 (0)]))) (Opd.t 12), guard := none }, { dst := some 14, op := AOp.fieldAddr 0 (Opd.t 13), guard := none }, { dst := some 15, op := AOp.load false 1 (Opd.t 14), guard := none }, { dst := some 16, op := AOp.bin (Bin.plain BinOp.add) (Opd.t 15) (Opd.c (AV.p (PV.str [40]))), guard := none }, { dst := some 17, op := AOp.fieldAddr 1 (Opd.t 1), guard := none }, { dst := some 18, op := AOp.load false 1 (Opd.t 17), guard := none }, { dst := some 19, op := AOp.call (Opd.c (AV.p (PV.fn 22))) [Opd.t 18], guard := none }, { dst := some 20, op := AOp.bin (Bin.plain BinOp.add) (Opd.t 16) (Opd.t 19), guard := none }, { dst := some 21, op := AOp.bin (Bin.plain BinOp.add) (Opd.t 20) (Opd.c (AV.p (PV.str [41]))), guard := none }, { dst := some 2, op := AOp.mv (Opd.t 21), guard := none }]).seq ACode.ret) ACode.skip))))).seq ((ACode.region [{ dst := some 22, op := AOp.fieldAddr 0 (Opd.t 1), guard := none }, { dst := some 23, op := AOp.load false 1 (Opd.t 22), guard := none }, { dst := some 24, op := AOp.idxArr 7 3 (Opd.c (AV.p (PV.vptr [PV.str [], PV.int IntKind.i64 (0), PV.int IntKind.i64 (0), PV.str [115, 109, 97, 108, 108, 105, 110, 116], PV.int IntKind.i64 (1), PV.int IntKind.i64 (16), PV.str [105, 110, 116, 101, 103, 101, 114], PV.int IntKind.i64 (1), PV.int IntKind.i64 (32), PV.str [98, 105, 103, 105, 110, 116], PV.int IntKind.i64 (1), PV.int IntKind.i64 (64), PV.str [99, 104, 97, 114], PV.int IntKind.i64 (2), PV.int IntKind.i64 (0), PV.str [118, 97, 114, 99, 104, 97, 114], PV.int IntKind.i64 (2), PV.int IntKind.i64 (0), PV.str [98, 111, 111, 108, 101, 97, 110], PV.int IntKind.i64 (3), PV.int IntKind.i64 (0)]))) (Opd.t 23), guard := none }, { dst := some 25, op := AOp.fieldAddr 0 (Opd.t 24), guard := none }, { dst := some 26, op := AOp.load false 1 (Opd.t 25), guard := none }, { dst := some 2, op := AOp.mv (Opd.t 26), guard := none }]).seq ACode.ret)) }
def lit11 : AFunc := { ntmps := 23, results := [ARes.tmp 2], body := (ACode.region [{ dst := some 1, op := AOp.box 2 (Opd.t 0), guard := none }, { dst := some 2, op := AOp.mv (Opd.c (AV.p (PV.str []))), guard := none }]).seq ((ACode.region [{ dst := some 5, op := AOp.load true 2 (Opd.t 1), guard := none }, { dst := some 6, op := AOp.call (Opd.c (AV.p (PV.fn 9))) [Opd.t 5], guard := none }, { dst := some 3, op := AOp.mv (Opd.t 6), guard := none }]).seq (((ACode.region [{ dst := some 7, op := AOp.mv (Opd.t 3), guard := none }, { dst := some 8, op := AOp.un UnOp.not (Opd.t 7), guard := none }]).seq (ACode.cond (Opd.t 8) ((ACode.region [{ dst := some 2, op := AOp.mv (Opd.c (AV.p (PV.str []))), guard := none }]).seq ACode.ret) ACode.skip)).seq ((ACode.region [{ dst := some 9, op := AOp.fieldAddr 1 (Opd.t 1), guard := none }, { dst := some 10, op := AOp.load false 1 (Opd.t 9), guard := none }, { dst := some 11, op := AOp.call (Opd.c (AV.p (PV.fn 23))) [Opd.t 10], guard := none }, { dst := some 12, op := AOp.bin (Bin.plain BinOp.add) (Opd.c (AV.p (PV.str [40]))) (Opd.t 11), guard := none }, { dst := some 13, op := AOp.bin (Bin.plain BinOp.add) (Opd.t 12) (Opd.c (AV.p (PV.str [41]))), guard := none }, { dst := some 4, op := AOp.mv (Opd.t 13), guard := none }]).seq ((ACode.region [{ dst := some 14, op := AOp.mv (Opd.t 4), guard := none }, { dst := some 15, op := AOp.bin (Bin.plain BinOp.add) (Opd.c (AV.p (PV.str [99, 104, 97, 114]))) (Opd.t 14), guard := none }, { dst := some 16, op := AOp.mv (Opd.t 4), guard := none }, { dst := some 17, op := AOp.bin (Bin.plain BinOp.add) (Opd.c (AV.p (PV.str [118, 97, 114, 99, 104, 97, 114]))) (Opd.t 16), guard := none }, { dst := some 18, op := AOp.buildSlice [AV.p (PV.str [])] 7 1 [(0, 1, Opd.c (AV.p (PV.str []))), (1, 1, Opd.c (AV.p (PV.str [115, 109, 97, 108, 108, 105, 110, 116]))), (2, 1, Opd.c (AV.p (PV.str [105, 110, 116, 101, 103, 101, 114]))), (3, 1, Opd.c (AV.p (PV.str [98, 105, 103, 105, 110, 116]))), (4, 1, Opd.t 15), (5, 1, Opd.t 17), (6, 1, Opd.c (AV.p (PV.str [98, 111, 111, 108, 101, 97, 110])))], guard := none }, { dst := some 19, op := AOp.fieldAddr 0 (Opd.t 1), guard := none }, { dst := some 20, op := AOp.load false 1 (Opd.t 19), guard := none }, { dst := some 21, op := AOp.idx 1 (Opd.t 18) (Opd.t 20), guard := none }, { dst := some 22, op := AOp.load false 1 (Opd.t 21), guard := none }, { dst := some 2, op := AOp.mv (Opd.t 22), guard := none }]).seq ACode.ret)))) }
def lit12 : AFunc := { ntmps := 11, results := [ARes.tmp 2], body := (ACode.region [{ dst := some 1, op := AOp.box 2 (Opd.t 0), guard := none }, { dst := some 2, op := AOp.mv (Opd.c (AV.p (PV.int IntKind.i64 (0)))), guard := none }]).seq (((ACode.region [{ dst := some 3, op := AOp.load true 2 (Opd.t 1), guard := none }, { dst := some 4, op := AOp.call (Opd.c (AV.p (PV.fn 8))) [Opd.t 3], guard := none }, { dst := some 5, op := AOp.un UnOp.not (Opd.t 4), guard := none }]).seq (ACode.cond (Opd.t 5) ((ACode.region [{ dst := some 2, op := AOp.mv (Opd.c (AV.p (PV.int IntKind.i64 (0)))), guard := none }]).seq ACode.ret) ACode.skip)).seq ((ACode.region [{ dst := some 6, op := AOp.fieldAddr 0 (Opd.t 1), guard := none }, { dst := some 7, op := AOp.load false 1 (Opd.t 6), guard := none }, { dst := some 8, op := AOp.idxArr 7 3 (Opd.c (AV.p (PV.vptr [PV.str [], PV.int IntKind.i64 (0), PV.int IntKind.i64 (0), PV.str [115, 109, 97, 108, 108, 105, 110, 116], PV.int IntKind.i64 (1), PV.int IntKind.i64 (16), PV.str [105, 110, 116, 101, 103, 101, 114], PV.int IntKind.i64 (1), PV.int IntKind.i64 (32), PV.str [98, 105, 103, 105, 110, 116], PV.int IntKind.i64 (1), PV.int IntKind.i64 (64), PV.str [99, 104, 97, 114], PV.int IntKind.i64 (2), PV.int IntKind.i64 (0), PV.str [118, 97, 114, 99, 104, 97, 114], PV.int IntKind.i64 (2), PV.int IntKind.i64 (0), PV.str [98, 111, 111, 108, 101, 97, 110], PV.int IntKind.i64 (3), PV.int IntKind.i64 (0)]))) (Opd.t 7), guard := none }, { dst := some 9, op := AOp.fieldAddr 1 (Opd.t 8), guard := none }, { dst := some 10, op := AOp.load false 1 (Opd.t 9), guard := none }, { dst := some 2, op := AOp.mv (Opd.t 10), guard := none }]).seq ACode.ret)) }
def lit13 : AFunc := { ntmps := 15, results := [ARes.tmp 2], body := (ACode.region [{ dst := some 1, op := AOp.box 2 (Opd.t 0), guard := none }, { dst := some 2, op := AOp.mv (Opd.c (AV.p (PV.int IntKind.i64 (0)))), guard := none }]).seq ((ACode.region [{ dst := some 4, op := AOp.load true 2 (Opd.t 1), guard := none }, { dst := some 5, op := AOp.call (Opd.c (AV.p (PV.fn 9))) [Opd.t 4], guard := none }, { dst := some 3, op := AOp.mv (Opd.t 5), guard := none }]).seq (((ACode.region [{ dst := some 6, op := AOp.mv (Opd.t 3), guard := none }, { dst := some 7, op := AOp.un UnOp.not (Opd.t 6), guard := none }]).seq (ACode.cond (Opd.t 7) ((ACode.region [{ dst := some 2, op := AOp.mv (Opd.c (AV.p (PV.int IntKind.i64 (0)))), guard := none }]).seq ACode.ret) ACode.skip)).seq (((ACode.region [{ dst := some 8, op := AOp.fieldAddr 0 (Opd.t 1), guard := none }, { dst := some 9, op := AOp.load false 1 (Opd.t 8), guard := none }]).seq (ACode.block 0 (((ACode.region [{ dst := some 11, op := AOp.bin (Bin.plain BinOp.eql) (Opd.t 9) (Opd.c (AV.p (PV.int IntKind.i64 (4)))), guard := none }, { dst := some 10, op := AOp.mv (Opd.t 11), guard := none }]).seq (ACode.cond (Opd.t 10) ACode.skip (ACode.region [{ dst := some 12, op := AOp.bin (Bin.plain BinOp.eql) (Opd.t 9) (Opd.c (AV.p (PV.int IntKind.i64 (5)))), guard := none }, { dst := some 10, op := AOp.mv (Opd.t 12), guard := none }]))).seq (ACode.cond (Opd.t 10) ((ACode.region [{ dst := some 2, op := AOp.mv (Opd.c (AV.p (PV.int IntKind.i64 (2)))), guard := none }]).seq ACode.ret) ((ACode.region [{ dst := some 14, op := AOp.bin (Bin.plain BinOp.eql) (Opd.t 9) (Opd.c (AV.p (PV.int IntKind.i64 (6)))), guard := none }, { dst := some 13, op := AOp.mv (Opd.t 14), guard := none }]).seq (ACode.cond (Opd.t 13) ((ACode.region [{ dst := some 2, op := AOp.mv (Opd.c (AV.p (PV.int IntKind.i64 (3)))), guard := none }]).seq ACode.ret) ACode.skip)))))).seq ((ACode.region [{ dst := some 2, op := AOp.mv (Opd.c (AV.p (PV.int IntKind.i64 (1)))), guard := none }]).seq ACode.ret)))) }
def afOf (o : Option AFunc) : AFunc := match o with
  | some a => a
  | none => ⟨0, [], .bad⟩
noncomputable def af7 : AFunc := afOf (cFunc Go.Proofs.Tryz.prog G [] Go.Proofs.Tryz.f7)
noncomputable def af14 : AFunc := afOf (cFunc Go.Proofs.Tryz.prog G [] Go.Proofs.Tryz.f14)
noncomputable def af17 : AFunc := afOf (cFunc Go.Proofs.Tryz.prog G [] Go.Proofs.Tryz.f17)
noncomputable def af21 : AFunc := afOf (cFunc Go.Proofs.Tryz.prog G [] Go.Proofs.Tryz.f21)
noncomputable def af22 : AFunc := afOf (cFunc Go.Proofs.Tryz.prog G [] Go.Proofs.Tryz.f22)
noncomputable def af23 : AFunc := afOf (cFunc Go.Proofs.Tryz.prog G [] Go.Proofs.Tryz.f23)
noncomputable def af24 : AFunc := afOf (cFunc Go.Proofs.Tryz.prog G [] Go.Proofs.Tryz.f24)
noncomputable def af25 : AFunc := afOf (cFunc Go.Proofs.Tryz.prog G [] Go.Proofs.Tryz.f25)
noncomputable def af26 : AFunc := afOf (cFunc Go.Proofs.Tryz.prog G [] Go.Proofs.Tryz.f26)
noncomputable def af28 : AFunc := afOf (cFunc Go.Proofs.Tryz.prog G [] Go.Proofs.Tryz.f28)
noncomputable def af32 : AFunc := afOf (cFunc Go.Proofs.Tryz.prog G [] Go.Proofs.Tryz.f32)
noncomputable def af33 : AFunc := afOf (cFunc Go.Proofs.Tryz.prog G [] Go.Proofs.Tryz.f33)
noncomputable def af37 : AFunc := afOf (cFunc Go.Proofs.Tryz.prog G [] Go.Proofs.Tryz.f37)
noncomputable def af38 : AFunc := afOf (cFunc Go.Proofs.Tryz.prog G [] Go.Proofs.Tryz.f38)
noncomputable def af43 : AFunc := afOf (cFunc Go.Proofs.Tryz.prog G [] Go.Proofs.Tryz.f43)
noncomputable def af44 : AFunc := afOf (cFunc Go.Proofs.Tryz.prog G [] Go.Proofs.Tryz.f44)
noncomputable def af45 : AFunc := afOf (cFunc Go.Proofs.Tryz.prog G [] Go.Proofs.Tryz.f45)
noncomputable def af46 : AFunc := afOf (cFunc Go.Proofs.Tryz.prog G [] Go.Proofs.Tryz.f46)
noncomputable def af52 : AFunc := afOf (cFunc Go.Proofs.Tryz.prog G [] Go.Proofs.Tryz.f52)
noncomputable def af53 : AFunc := afOf (cFunc Go.Proofs.Tryz.prog G [] Go.Proofs.Tryz.f53)
noncomputable def af31 : AFunc := afOf (cFunc Go.Proofs.Tryz.prog G [] Go.Proofs.Tryz.f31)
noncomputable def af74 : AFunc := afOf (cFunc Go.Proofs.Tryz.prog G [] Go.Proofs.Tryz.f74)
noncomputable def af75 : AFunc := afOf (cFunc Go.Proofs.Tryz.prog G [] Go.Proofs.Tryz.f75)
noncomputable def af76 : AFunc := afOf (cFunc Go.Proofs.Tryz.prog G [] Go.Proofs.Tryz.f76)
noncomputable def af77 : AFunc := afOf (cFunc Go.Proofs.Tryz.prog G [] Go.Proofs.Tryz.f77)
noncomputable def af94 : AFunc := afOf (cFunc Go.Proofs.Tryz.prog G [] Go.Proofs.Tryz.f94)
noncomputable def af95 : AFunc := afOf (cFunc Go.Proofs.Tryz.prog G [] Go.Proofs.Tryz.f95)
noncomputable def af96 : AFunc := afOf (cFunc Go.Proofs.Tryz.prog G [] Go.Proofs.Tryz.f96)
noncomputable def af97 : AFunc := afOf (cFunc Go.Proofs.Tryz.prog G [] Go.Proofs.Tryz.f97)
noncomputable def af98 : AFunc := afOf (cFunc Go.Proofs.Tryz.prog G [] Go.Proofs.Tryz.f98)
noncomputable def T (f : Nat) : Option FImpl := match f with
  | 3 => some (.code lit3 true)
  | 7 => some (.code af7 true)
  | 8 => some (.code lit8 true)
  | 9 => some (.code lit9 true)
  | 10 => some (.code lit10 true)
  | 11 => some (.code lit11 true)
  | 12 => some (.code lit12 true)
  | 13 => some (.code lit13 true)
  | 14 => some (.code af14 true)
  | 17 => some (.code af17 true)
  | 21 => some (.code af21 true)
  | 22 => some (.code af22 true)
  | 23 => some (.code af23 true)
  | 24 => some (.code af24 true)
  | 25 => some (.code af25 true)
  | 26 => some (.code af26 true)
  | 28 => some (.code af28 true)
  | 31 => some (.code af31 true)
  | 32 => some (.code af32 true)
  | 33 => some (.code af33 true)
  | 37 => some (.code af37 true)
  | 38 => some (.code af38 true)
  | 43 => some (.code af43 true)
  | 44 => some (.code af44 true)
  | 45 => some (.code af45 true)
  | 46 => some (.code af46 true)
  | 52 => some (.code af52 true)
  | 53 => some (.code af53 true)
  | 74 => some (.code af74 true)
  | 75 => some (.code af75 true)
  | 76 => some (.code af76 false)
  | 77 => some (.code af77 false)
  | 94 => some (.code af94 true)
  | 95 => some (.code af95 true)
  | 96 => some (.code af96 true)
  | 97 => some (.code af97 true)
  | 98 => some (.code af98 true)
  | _ => none
theorem c3 : cFunc Go.Proofs.Tryz.prog G [] Go.Proofs.Tryz.f3 = some lit3 := by kernel_rfl
theorem c8 : cFunc Go.Proofs.Tryz.prog G [] Go.Proofs.Tryz.f8 = some lit8 := by kernel_rfl
theorem c9 : cFunc Go.Proofs.Tryz.prog G [] Go.Proofs.Tryz.f9 = some lit9 := by kernel_rfl
theorem c10 : cFunc Go.Proofs.Tryz.prog G [] Go.Proofs.Tryz.f10 = some lit10 := by kernel_rfl
theorem c11 : cFunc Go.Proofs.Tryz.prog G [] Go.Proofs.Tryz.f11 = some lit11 := by kernel_rfl
theorem c12 : cFunc Go.Proofs.Tryz.prog G [] Go.Proofs.Tryz.f12 = some lit12 := by kernel_rfl
theorem c13 : cFunc Go.Proofs.Tryz.prog G [] Go.Proofs.Tryz.f13 = some lit13 := by kernel_rfl
theorem c7 : cFunc Go.Proofs.Tryz.prog G [] Go.Proofs.Tryz.f7 = some af7 := by kernel_rfl
theorem c14 : cFunc Go.Proofs.Tryz.prog G [] Go.Proofs.Tryz.f14 = some af14 := by kernel_rfl
theorem c17 : cFunc Go.Proofs.Tryz.prog G [] Go.Proofs.Tryz.f17 = some af17 := by kernel_rfl
theorem c21 : cFunc Go.Proofs.Tryz.prog G [] Go.Proofs.Tryz.f21 = some af21 := by kernel_rfl
theorem c22 : cFunc Go.Proofs.Tryz.prog G [] Go.Proofs.Tryz.f22 = some af22 := by kernel_rfl
theorem c23 : cFunc Go.Proofs.Tryz.prog G [] Go.Proofs.Tryz.f23 = some af23 := by kernel_rfl
theorem c24 : cFunc Go.Proofs.Tryz.prog G [] Go.Proofs.Tryz.f24 = some af24 := by kernel_rfl
theorem c25 : cFunc Go.Proofs.Tryz.prog G [] Go.Proofs.Tryz.f25 = some af25 := by kernel_rfl
theorem c26 : cFunc Go.Proofs.Tryz.prog G [] Go.Proofs.Tryz.f26 = some af26 := by kernel_rfl
theorem c28 : cFunc Go.Proofs.Tryz.prog G [] Go.Proofs.Tryz.f28 = some af28 := by kernel_rfl
theorem c32 : cFunc Go.Proofs.Tryz.prog G [] Go.Proofs.Tryz.f32 = some af32 := by kernel_rfl
theorem c33 : cFunc Go.Proofs.Tryz.prog G [] Go.Proofs.Tryz.f33 = some af33 := by kernel_rfl
theorem c37 : cFunc Go.Proofs.Tryz.prog G [] Go.Proofs.Tryz.f37 = some af37 := by kernel_rfl
theorem c38 : cFunc Go.Proofs.Tryz.prog G [] Go.Proofs.Tryz.f38 = some af38 := by kernel_rfl
theorem c43 : cFunc Go.Proofs.Tryz.prog G [] Go.Proofs.Tryz.f43 = some af43 := by kernel_rfl
theorem c44 : cFunc Go.Proofs.Tryz.prog G [] Go.Proofs.Tryz.f44 = some af44 := by kernel_rfl
theorem c45 : cFunc Go.Proofs.Tryz.prog G [] Go.Proofs.Tryz.f45 = some af45 := by kernel_rfl
theorem c46 : cFunc Go.Proofs.Tryz.prog G [] Go.Proofs.Tryz.f46 = some af46 := by kernel_rfl
theorem c52 : cFunc Go.Proofs.Tryz.prog G [] Go.Proofs.Tryz.f52 = some af52 := by kernel_rfl
theorem c53 : cFunc Go.Proofs.Tryz.prog G [] Go.Proofs.Tryz.f53 = some af53 := by kernel_rfl
theorem c31 : cFunc Go.Proofs.Tryz.prog G [] Go.Proofs.Tryz.f31 = some af31 := by kernel_rfl
theorem c74 : cFunc Go.Proofs.Tryz.prog G [] Go.Proofs.Tryz.f74 = some af74 := by kernel_rfl
theorem c75 : cFunc Go.Proofs.Tryz.prog G [] Go.Proofs.Tryz.f75 = some af75 := by kernel_rfl
theorem c76 : cFunc Go.Proofs.Tryz.prog G [] Go.Proofs.Tryz.f76 = some af76 := by kernel_rfl
theorem c77 : cFunc Go.Proofs.Tryz.prog G [] Go.Proofs.Tryz.f77 = some af77 := by kernel_rfl
theorem c94 : cFunc Go.Proofs.Tryz.prog G [] Go.Proofs.Tryz.f94 = some af94 := by kernel_rfl
theorem c95 : cFunc Go.Proofs.Tryz.prog G [] Go.Proofs.Tryz.f95 = some af95 := by kernel_rfl
theorem c96 : cFunc Go.Proofs.Tryz.prog G [] Go.Proofs.Tryz.f96 = some af96 := by kernel_rfl
theorem c97 : cFunc Go.Proofs.Tryz.prog G [] Go.Proofs.Tryz.f97 = some af97 := by kernel_rfl
theorem c98 : cFunc Go.Proofs.Tryz.prog G [] Go.Proofs.Tryz.f98 = some af98 := by kernel_rfl
def ty (b s : Int) : PV := .agg [.int .i64 b, .int .i64 s]
def isTrue : Option (CRes × Heap) → Bool
  | some (.ret (.p (.bool b)), _) => b
  | _ => false
theorem true_of {x : Option (CRes × Heap)} (h : isTrue x = true) : ansV x = some (.bool true) := by
  unfold isTrue at h
  split at h
  · subst h; rfl
  · cases h
/-- what a type may be -/
def pairs : List (Int × Int) := [(1, 0), (2, 0), (3, 0), (6, 0)] ++ (List.range 100).map (fun (i : Nat) => ((4 : Int), (i : Int) + 1)) ++ (List.range 100).map (fun (i : Nat) => ((5 : Int), (i : Int) + 1))
theorem seqN {C : Oracle} {L : Nat} {a b : ACode} {st st1 : St} (h : exec C L a st = some (.normal, st1)) : exec C L (.seq a b) st = exec C L b st1 := by
  simp only [exec, h]
theorem drawE {C : Oracle} {i : Nat} {o : AOper} {r : List AOper} {s : Tr} {st1 : St} (hw : wantedA o.guard (keepE s.st.env (readsOf o)) = some true) (hE : isE o.op = true)
    (h : runOps C [o] { s.st with env := keepE s.st.env (readsOf o) } = some (.normal, st1)) :
    drawRun C i (o :: r) s = drawRun C (i + 1) r ⟨{ st1 with env := carry s.st.env o.dst st1.env }, s.rds, (i, s.st.heap.length, wrIds (keepE s.st.env (readsOf o)) s.st.heap o.op) :: s.wrs⟩ := by
  simp only [drawRun, hw, hE, h]
theorem drawS {C : Oracle} {i : Nat} {o : AOper} {r : List AOper} {s : Tr} {v : AV} (hw : wantedA o.guard (keepE s.st.env (readsOf o)) = some true) (hE : isE o.op = false)
    (h : stillOp (keepE s.st.env (readsOf o)) s.st.heap o.op = some (v, none)) :
    drawRun C i (o :: r) s = drawRun C (i + 1) r { s with st := { s.st with env := putE s.st.env o.dst v } } := by
  simp only [drawRun, hw, hE, h]
theorem drawR {C : Oracle} {i id : Nat} {o : AOper} {r : List AOper} {s : Tr} {v : AV} (hw : wantedA o.guard (keepE s.st.env (readsOf o)) = some true) (hE : isE o.op = false)
    (h : stillOp (keepE s.st.env (readsOf o)) s.st.heap o.op = some (v, some id)) :
    drawRun C i (o :: r) s = drawRun C (i + 1) r ⟨{ s.st with env := putE s.st.env o.dst v }, (i, id) :: s.rds, s.wrs⟩ := by
  simp only [drawRun, hw, hE, h]

end Go.Ab.Names
