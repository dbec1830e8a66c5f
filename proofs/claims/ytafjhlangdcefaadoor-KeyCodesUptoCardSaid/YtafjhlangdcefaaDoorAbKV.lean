/- The laws of keys: the document's Encode. -/
import Derived.Test.YtafjhlangdcefaaDoorAbKN
set_option linter.unusedSectionVars false
set_option linter.unusedSimpArgs false
set_option linter.unusedVariables false
set_option maxRecDepth 1000000
namespace Go.Ab.Key
open Go Go.Ab Go.Proofs
variable [Marks]
def lit27 : AFunc := { ntmps := 62, results := [ARes.tmp 2], body := (ACode.region [{ dst := some 1, op := AOp.box 4 (Opd.t 0), guard := none }, { dst := some 2, op := AOp.mv (Opd.c (AV.p (PV.str []))), guard := none }]).seq (((ACode.region [{ dst := some 9, op := AOp.fieldAddr 0 (Opd.t 1), guard := none }, { dst := some 10, op := AOp.load false 1 (Opd.t 9), guard := none }]).seq (ACode.block 0 ((ACode.region [{ dst := some 12, op := AOp.bin (Bin.plain BinOp.eql) (Opd.t 10) (Opd.c (AV.p (PV.int IntKind.i64 (1)))), guard := none }, { dst := some 11, op := AOp.mv (Opd.t 12), guard := none }]).seq (ACode.cond (Opd.t 11) ((ACode.region [{ dst := some 13, op := AOp.fieldAddr 1 (Opd.t 1), guard := none }, { dst := some 14, op := AOp.load false 1 (Opd.t 13), guard := none }, { dst := some 15, op := AOp.convInt IntKind.u64 (Opd.t 14), guard := none }, { dst := some 16, op := AOp.bin (Bin.plain BinOp.add) (Opd.t 15) (Opd.c (AV.p (PV.int IntKind.u64 (9223372036854775808)))), guard := none }, { dst := some 3, op := AOp.mv (Opd.t 16), guard := none }]).seq ((ACode.region [{ dst := some 4, op := AOp.mv (Opd.c (AV.p (PV.str [2]))), guard := none }]).seq (((ACode.region [{ dst := some 5, op := AOp.mv (Opd.c (AV.p (PV.int IntKind.i64 (7)))), guard := none }]).seq (ACode.block 1 (ACode.loop none (((ACode.region [{ dst := some 17, op := AOp.mv (Opd.t 5), guard := none }, { dst := some 18, op := AOp.bin (Bin.plain BinOp.geq) (Opd.t 17) (Opd.c (AV.p (PV.int IntKind.i64 (0)))), guard := none }]).seq (ACode.cond (Opd.t 18) ACode.skip (ACode.exit 1))).seq ((ACode.block 2 (ACode.region [{ dst := some 21, op := AOp.mv (Opd.t 4), guard := none }, { dst := some 22, op := AOp.mv (Opd.t 3), guard := none }, { dst := some 23, op := AOp.mv (Opd.t 5), guard := none }, { dst := some 24, op := AOp.convInt IntKind.u64 (Opd.t 23), guard := none }, { dst := some 25, op := AOp.bin (Bin.plain BinOp.mul) (Opd.c (AV.p (PV.int IntKind.u64 (8)))) (Opd.t 24), guard := none }, { dst := some 26, op := AOp.bin (Bin.plain BinOp.shr) (Opd.t 22) (Opd.t 25), guard := none }, { dst := some 27, op := AOp.convInt IntKind.u8 (Opd.t 26), guard := none }, { dst := some 28, op := AOp.buildSlice [AV.p (PV.int IntKind.u8 (0))] 1 1 [(0, 1, Opd.t 27)], guard := none }, { dst := some 29, op := AOp.bytesStr (Opd.t 28), guard := none }, { dst := some 30, op := AOp.bin (Bin.plain BinOp.add) (Opd.t 21) (Opd.t 29), guard := none }, { dst := some 4, op := AOp.mv (Opd.t 30), guard := none }])).seq (ACode.region [{ dst := some 19, op := AOp.mv (Opd.t 5), guard := none }, { dst := some 20, op := AOp.bin (Bin.plain BinOp.sub) (Opd.t 19) (Opd.c (AV.p (PV.int IntKind.i64 (1)))), guard := none }, { dst := some 5, op := AOp.mv (Opd.t 20), guard := none }])))))).seq ((ACode.region [{ dst := some 31, op := AOp.mv (Opd.t 4), guard := none }, { dst := some 2, op := AOp.mv (Opd.t 31), guard := none }]).seq ACode.ret)))) ((ACode.region [{ dst := some 33, op := AOp.bin (Bin.plain BinOp.eql) (Opd.t 10) (Opd.c (AV.p (PV.int IntKind.i64 (2)))), guard := none }, { dst := some 32, op := AOp.mv (Opd.t 33), guard := none }]).seq (ACode.cond (Opd.t 32) ((ACode.region [{ dst := some 34, op := AOp.fieldAddr 2 (Opd.t 1), guard := none }, { dst := some 35, op := AOp.load false 1 (Opd.t 34), guard := none }, { dst := some 36, op := AOp.call (Opd.c (AV.p (PV.fn 36))) [Opd.t 35], guard := none }, { dst := some 6, op := AOp.mv (Opd.t 36), guard := none }]).seq ((ACode.region [{ dst := some 7, op := AOp.mv (Opd.c (AV.p (PV.str [3]))), guard := none }]).seq (((ACode.region [{ dst := some 8, op := AOp.mv (Opd.c (AV.p (PV.int IntKind.i64 (0)))), guard := none }]).seq (ACode.block 3 (ACode.loop none (((ACode.region [{ dst := some 37, op := AOp.mv (Opd.t 8), guard := none }, { dst := some 38, op := AOp.mv (Opd.t 6), guard := none }, { dst := some 39, op := AOp.len true (Opd.t 38), guard := none }, { dst := some 40, op := AOp.bin (Bin.plain BinOp.lss) (Opd.t 37) (Opd.t 39), guard := none }]).seq (ACode.cond (Opd.t 40) ACode.skip (ACode.exit 3))).seq ((ACode.block 4 ((ACode.region [{ dst := some 43, op := AOp.mv (Opd.t 7), guard := none }, { dst := some 44, op := AOp.mv (Opd.t 6), guard := none }, { dst := some 45, op := AOp.mv (Opd.t 8), guard := none }, { dst := some 46, op := AOp.mv (Opd.t 8), guard := none }, { dst := some 47, op := AOp.bin (Bin.plain BinOp.add) (Opd.t 46) (Opd.c (AV.p (PV.int IntKind.i64 (1)))), guard := none }, { dst := some 48, op := AOp.sliceStr (Opd.t 44) (some (Opd.t 45)) (some (Opd.t 47)), guard := none }, { dst := some 49, op := AOp.bin (Bin.plain BinOp.add) (Opd.t 43) (Opd.t 48), guard := none }, { dst := some 7, op := AOp.mv (Opd.t 49), guard := none }]).seq ((ACode.region [{ dst := some 50, op := AOp.mv (Opd.t 6), guard := none }, { dst := some 51, op := AOp.mv (Opd.t 8), guard := none }, { dst := some 52, op := AOp.atStr (Opd.t 50) (Opd.t 51), guard := none }, { dst := some 53, op := AOp.bin (Bin.plain BinOp.eql) (Opd.t 52) (Opd.c (AV.p (PV.int IntKind.u8 (0)))), guard := none }]).seq (ACode.cond (Opd.t 53) (ACode.region [{ dst := some 54, op := AOp.mv (Opd.t 7), guard := none }, { dst := some 55, op := AOp.bin (Bin.plain BinOp.add) (Opd.t 54) (Opd.c (AV.p (PV.str [255]))), guard := none }, { dst := some 7, op := AOp.mv (Opd.t 55), guard := none }]) ACode.skip)))).seq (ACode.region [{ dst := some 41, op := AOp.mv (Opd.t 8), guard := none }, { dst := some 42, op := AOp.bin (Bin.plain BinOp.add) (Opd.t 41) (Opd.c (AV.p (PV.int IntKind.i64 (1)))), guard := none }, { dst := some 8, op := AOp.mv (Opd.t 42), guard := none }])))))).seq ((ACode.region [{ dst := some 56, op := AOp.mv (Opd.t 7), guard := none }, { dst := some 57, op := AOp.bin (Bin.plain BinOp.add) (Opd.t 56) (Opd.c (AV.p (PV.str [0, 0]))), guard := none }, { dst := some 2, op := AOp.mv (Opd.t 57), guard := none }]).seq ACode.ret)))) ((ACode.region [{ dst := some 59, op := AOp.bin (Bin.plain BinOp.eql) (Opd.t 10) (Opd.c (AV.p (PV.int IntKind.i64 (3)))), guard := none }, { dst := some 58, op := AOp.mv (Opd.t 59), guard := none }]).seq (ACode.cond (Opd.t 58) (((ACode.region [{ dst := some 60, op := AOp.fieldAddr 3 (Opd.t 1), guard := none }, { dst := some 61, op := AOp.load false 1 (Opd.t 60), guard := none }]).seq (ACode.cond (Opd.t 61) ((ACode.region [{ dst := some 2, op := AOp.mv (Opd.c (AV.p (PV.str [4, 1]))), guard := none }]).seq ACode.ret) ACode.skip)).seq ((ACode.region [{ dst := some 2, op := AOp.mv (Opd.c (AV.p (PV.str [4, 0]))), guard := none }]).seq ACode.ret)) ACode.skip)))))))).seq ((ACode.region [{ dst := some 2, op := AOp.mv (Opd.c (AV.p (PV.str [1]))), guard := none }]).seq ACode.ret)) }
def lit15 : AFunc := { ntmps := 19, results := [ARes.tmp 2], body := (ACode.region [{ dst := some 2, op := AOp.mv (Opd.c (AV.p (PV.str []))), guard := none }]).seq ((ACode.region [{ dst := some 3, op := AOp.mv (Opd.c (AV.p (PV.str []))), guard := none }]).seq (((ACode.region [{ dst := some 4, op := AOp.mv (Opd.c (AV.p (PV.int IntKind.i64 (0)))), guard := none }]).seq (ACode.block 0 (ACode.loop none (((ACode.region [{ dst := some 5, op := AOp.mv (Opd.t 4), guard := none }, { dst := some 6, op := AOp.mv (Opd.t 0), guard := none }, { dst := some 7, op := AOp.len false (Opd.t 6), guard := none }, { dst := some 8, op := AOp.bin (Bin.plain BinOp.lss) (Opd.t 5) (Opd.t 7), guard := none }]).seq (ACode.cond (Opd.t 8) ACode.skip (ACode.exit 0))).seq ((ACode.block 1 (ACode.region [{ dst := some 11, op := AOp.mv (Opd.t 3), guard := none }, { dst := some 12, op := AOp.mv (Opd.t 0), guard := none }, { dst := some 13, op := AOp.mv (Opd.t 4), guard := none }, { dst := some 14, op := AOp.idx 4 (Opd.t 12) (Opd.t 13), guard := none }, { dst := some 15, op := AOp.load true 4 (Opd.t 14), guard := none }, { dst := some 16, op := AOp.call (Opd.c (AV.p (PV.fn 27))) [Opd.t 15], guard := none }, { dst := some 17, op := AOp.bin (Bin.plain BinOp.add) (Opd.t 11) (Opd.t 16), guard := none }, { dst := some 3, op := AOp.mv (Opd.t 17), guard := none }])).seq (ACode.region [{ dst := some 9, op := AOp.mv (Opd.t 4), guard := none }, { dst := some 10, op := AOp.bin (Bin.plain BinOp.add) (Opd.t 9) (Opd.c (AV.p (PV.int IntKind.i64 (1)))), guard := none }, { dst := some 4, op := AOp.mv (Opd.t 10), guard := none }])))))).seq ((ACode.region [{ dst := some 18, op := AOp.mv (Opd.t 3), guard := none }, { dst := some 2, op := AOp.mv (Opd.t 18), guard := none }]).seq ACode.ret))) }
def body15 : ACode := (((ACode.region [{ dst := some 5, op := AOp.mv (Opd.t 4), guard := none }, { dst := some 6, op := AOp.mv (Opd.t 0), guard := none }, { dst := some 7, op := AOp.len false (Opd.t 6), guard := none }, { dst := some 8, op := AOp.bin (Bin.plain BinOp.lss) (Opd.t 5) (Opd.t 7), guard := none }]).seq (ACode.cond (Opd.t 8) ACode.skip (ACode.exit 0))).seq ((ACode.block 1 (ACode.region [{ dst := some 11, op := AOp.mv (Opd.t 3), guard := none }, { dst := some 12, op := AOp.mv (Opd.t 0), guard := none }, { dst := some 13, op := AOp.mv (Opd.t 4), guard := none }, { dst := some 14, op := AOp.idx 4 (Opd.t 12) (Opd.t 13), guard := none }, { dst := some 15, op := AOp.load true 4 (Opd.t 14), guard := none }, { dst := some 16, op := AOp.call (Opd.c (AV.p (PV.fn 27))) [Opd.t 15], guard := none }, { dst := some 17, op := AOp.bin (Bin.plain BinOp.add) (Opd.t 11) (Opd.t 16), guard := none }, { dst := some 3, op := AOp.mv (Opd.t 17), guard := none }])).seq (ACode.region [{ dst := some 9, op := AOp.mv (Opd.t 4), guard := none }, { dst := some 10, op := AOp.bin (Bin.plain BinOp.add) (Opd.t 9) (Opd.c (AV.p (PV.int IntKind.i64 (1)))), guard := none }, { dst := some 4, op := AOp.mv (Opd.t 10), guard := none }])))
theorem lit15_eq : lit15.body = (ACode.region [{ dst := some 2, op := AOp.mv (Opd.c (AV.p (PV.str []))), guard := none }]).seq ((ACode.region [{ dst := some 3, op := AOp.mv (Opd.c (AV.p (PV.str []))), guard := none }]).seq (((ACode.region [{ dst := some 4, op := AOp.mv (Opd.c (AV.p (PV.int IntKind.i64 (0)))), guard := none }]).seq (ACode.block 0 (ACode.loop none body15))).seq ((ACode.region [{ dst := some 18, op := AOp.mv (Opd.t 3), guard := none }, { dst := some 2, op := AOp.mv (Opd.t 18), guard := none }]).seq ACode.ret))) := rfl
/-- the loop over a number's bytes -/
def body27n : ACode := (((ACode.region [{ dst := some 17, op := AOp.mv (Opd.t 5), guard := none }, { dst := some 18, op := AOp.bin (Bin.plain BinOp.geq) (Opd.t 17) (Opd.c (AV.p (PV.int IntKind.i64 (0)))), guard := none }]).seq (ACode.cond (Opd.t 18) ACode.skip (ACode.exit 1))).seq ((ACode.block 2 (ACode.region [{ dst := some 21, op := AOp.mv (Opd.t 4), guard := none }, { dst := some 22, op := AOp.mv (Opd.t 3), guard := none }, { dst := some 23, op := AOp.mv (Opd.t 5), guard := none }, { dst := some 24, op := AOp.convInt IntKind.u64 (Opd.t 23), guard := none }, { dst := some 25, op := AOp.bin (Bin.plain BinOp.mul) (Opd.c (AV.p (PV.int IntKind.u64 (8)))) (Opd.t 24), guard := none }, { dst := some 26, op := AOp.bin (Bin.plain BinOp.shr) (Opd.t 22) (Opd.t 25), guard := none }, { dst := some 27, op := AOp.convInt IntKind.u8 (Opd.t 26), guard := none }, { dst := some 28, op := AOp.buildSlice [AV.p (PV.int IntKind.u8 (0))] 1 1 [(0, 1, Opd.t 27)], guard := none }, { dst := some 29, op := AOp.bytesStr (Opd.t 28), guard := none }, { dst := some 30, op := AOp.bin (Bin.plain BinOp.add) (Opd.t 21) (Opd.t 29), guard := none }, { dst := some 4, op := AOp.mv (Opd.t 30), guard := none }])).seq (ACode.region [{ dst := some 19, op := AOp.mv (Opd.t 5), guard := none }, { dst := some 20, op := AOp.bin (Bin.plain BinOp.sub) (Opd.t 19) (Opd.c (AV.p (PV.int IntKind.i64 (1)))), guard := none }, { dst := some 5, op := AOp.mv (Opd.t 20), guard := none }])))
/-- the loop over the letters of a text -/
def body27t : ACode := (((ACode.region [{ dst := some 37, op := AOp.mv (Opd.t 8), guard := none }, { dst := some 38, op := AOp.mv (Opd.t 6), guard := none }, { dst := some 39, op := AOp.len true (Opd.t 38), guard := none }, { dst := some 40, op := AOp.bin (Bin.plain BinOp.lss) (Opd.t 37) (Opd.t 39), guard := none }]).seq (ACode.cond (Opd.t 40) ACode.skip (ACode.exit 3))).seq ((ACode.block 4 ((ACode.region [{ dst := some 43, op := AOp.mv (Opd.t 7), guard := none }, { dst := some 44, op := AOp.mv (Opd.t 6), guard := none }, { dst := some 45, op := AOp.mv (Opd.t 8), guard := none }, { dst := some 46, op := AOp.mv (Opd.t 8), guard := none }, { dst := some 47, op := AOp.bin (Bin.plain BinOp.add) (Opd.t 46) (Opd.c (AV.p (PV.int IntKind.i64 (1)))), guard := none }, { dst := some 48, op := AOp.sliceStr (Opd.t 44) (some (Opd.t 45)) (some (Opd.t 47)), guard := none }, { dst := some 49, op := AOp.bin (Bin.plain BinOp.add) (Opd.t 43) (Opd.t 48), guard := none }, { dst := some 7, op := AOp.mv (Opd.t 49), guard := none }]).seq ((ACode.region [{ dst := some 50, op := AOp.mv (Opd.t 6), guard := none }, { dst := some 51, op := AOp.mv (Opd.t 8), guard := none }, { dst := some 52, op := AOp.atStr (Opd.t 50) (Opd.t 51), guard := none }, { dst := some 53, op := AOp.bin (Bin.plain BinOp.eql) (Opd.t 52) (Opd.c (AV.p (PV.int IntKind.u8 (0)))), guard := none }]).seq (ACode.cond (Opd.t 53) (ACode.region [{ dst := some 54, op := AOp.mv (Opd.t 7), guard := none }, { dst := some 55, op := AOp.bin (Bin.plain BinOp.add) (Opd.t 54) (Opd.c (AV.p (PV.str [255]))), guard := none }, { dst := some 7, op := AOp.mv (Opd.t 55), guard := none }]) ACode.skip)))).seq (ACode.region [{ dst := some 41, op := AOp.mv (Opd.t 8), guard := none }, { dst := some 42, op := AOp.bin (Bin.plain BinOp.add) (Opd.t 41) (Opd.c (AV.p (PV.int IntKind.i64 (1)))), guard := none }, { dst := some 8, op := AOp.mv (Opd.t 42), guard := none }])))
theorem lit27_eq : lit27.body = (ACode.region [{ dst := some 1, op := AOp.box 4 (Opd.t 0), guard := none }, { dst := some 2, op := AOp.mv (Opd.c (AV.p (PV.str []))), guard := none }]).seq (((ACode.region [{ dst := some 9, op := AOp.fieldAddr 0 (Opd.t 1), guard := none }, { dst := some 10, op := AOp.load false 1 (Opd.t 9), guard := none }]).seq (ACode.block 0 ((ACode.region [{ dst := some 12, op := AOp.bin (Bin.plain BinOp.eql) (Opd.t 10) (Opd.c (AV.p (PV.int IntKind.i64 (1)))), guard := none }, { dst := some 11, op := AOp.mv (Opd.t 12), guard := none }]).seq (ACode.cond (Opd.t 11) ((ACode.region [{ dst := some 13, op := AOp.fieldAddr 1 (Opd.t 1), guard := none }, { dst := some 14, op := AOp.load false 1 (Opd.t 13), guard := none }, { dst := some 15, op := AOp.convInt IntKind.u64 (Opd.t 14), guard := none }, { dst := some 16, op := AOp.bin (Bin.plain BinOp.add) (Opd.t 15) (Opd.c (AV.p (PV.int IntKind.u64 (9223372036854775808)))), guard := none }, { dst := some 3, op := AOp.mv (Opd.t 16), guard := none }]).seq ((ACode.region [{ dst := some 4, op := AOp.mv (Opd.c (AV.p (PV.str [2]))), guard := none }]).seq (((ACode.region [{ dst := some 5, op := AOp.mv (Opd.c (AV.p (PV.int IntKind.i64 (7)))), guard := none }]).seq (ACode.block 1 (ACode.loop none body27n))).seq ((ACode.region [{ dst := some 31, op := AOp.mv (Opd.t 4), guard := none }, { dst := some 2, op := AOp.mv (Opd.t 31), guard := none }]).seq ACode.ret)))) ((ACode.region [{ dst := some 33, op := AOp.bin (Bin.plain BinOp.eql) (Opd.t 10) (Opd.c (AV.p (PV.int IntKind.i64 (2)))), guard := none }, { dst := some 32, op := AOp.mv (Opd.t 33), guard := none }]).seq (ACode.cond (Opd.t 32) ((ACode.region [{ dst := some 34, op := AOp.fieldAddr 2 (Opd.t 1), guard := none }, { dst := some 35, op := AOp.load false 1 (Opd.t 34), guard := none }, { dst := some 36, op := AOp.call (Opd.c (AV.p (PV.fn 36))) [Opd.t 35], guard := none }, { dst := some 6, op := AOp.mv (Opd.t 36), guard := none }]).seq ((ACode.region [{ dst := some 7, op := AOp.mv (Opd.c (AV.p (PV.str [3]))), guard := none }]).seq (((ACode.region [{ dst := some 8, op := AOp.mv (Opd.c (AV.p (PV.int IntKind.i64 (0)))), guard := none }]).seq (ACode.block 3 (ACode.loop none body27t))).seq ((ACode.region [{ dst := some 56, op := AOp.mv (Opd.t 7), guard := none }, { dst := some 57, op := AOp.bin (Bin.plain BinOp.add) (Opd.t 56) (Opd.c (AV.p (PV.str [0, 0]))), guard := none }, { dst := some 2, op := AOp.mv (Opd.t 57), guard := none }]).seq ACode.ret)))) ((ACode.region [{ dst := some 59, op := AOp.bin (Bin.plain BinOp.eql) (Opd.t 10) (Opd.c (AV.p (PV.int IntKind.i64 (3)))), guard := none }, { dst := some 58, op := AOp.mv (Opd.t 59), guard := none }]).seq (ACode.cond (Opd.t 58) (((ACode.region [{ dst := some 60, op := AOp.fieldAddr 3 (Opd.t 1), guard := none }, { dst := some 61, op := AOp.load false 1 (Opd.t 60), guard := none }]).seq (ACode.cond (Opd.t 61) ((ACode.region [{ dst := some 2, op := AOp.mv (Opd.c (AV.p (PV.str [4, 1]))), guard := none }]).seq ACode.ret) ACode.skip)).seq ((ACode.region [{ dst := some 2, op := AOp.mv (Opd.c (AV.p (PV.str [4, 0]))), guard := none }]).seq ACode.ret)) ACode.skip)))))))).seq ((ACode.region [{ dst := some 2, op := AOp.mv (Opd.c (AV.p (PV.str [1]))), guard := none }]).seq ACode.ret)) := rfl
section
variable (C : Oracle) (L : Nat) (ρ : Env) (σ : Heap)
/-- the loop's state -/
structure At27n (ρ : Env) (u : Nat) (j : Nat) (l : List UInt8) : Prop where
  t3 : ρ.get 3 = some (.p (.int .u64 (u : Int)))
  t4 : ρ.get 4 = some (.p (.str l))
  t5 : ρ.get 5 = some (.p (.int .i64 ((j : Int) - 1)))
theorem stop27n (u : Nat) (l : List UInt8) (h : At27n ρ u 0 l) : ∃ ρ', exec C L body27n ⟨ρ, [], σ⟩ = some (.exit 1, ⟨ρ', [], σ⟩) ∧ ρ'.get 4 = some (.p (.str l)) :=
  ⟨_, by simp [body27n, exec, runOps, wantedA, stepOp, pureOp, allocOp, readOp, effOp, ev, evs, evO, Env.get_cons, putE, binA, intBin, unA, AV.fit, AV.toCells, partC, partP, mkCells, allP, mkAgg, Cells.len, target, h.t5]; rfl, by simp [Env.get_cons, h.t4]⟩
theorem go27n (u j : Nat) (l : List UInt8) (h : At27n ρ u (j + 1) l) (hj : j < 8) (hl : l.length + 1 ≤ LIM) :
    ∃ ρ' τ, exec C L body27n ⟨ρ, [], σ⟩ = some (.normal, ⟨ρ', [], σ ++ τ⟩) ∧ At27n ρ' u j (l ++ [UInt8.ofNat (u / 256 ^ j % 256)]) := by
  have h5 := h.t5
  rw [show ((j + 1 : Nat) : Int) - 1 = (j : Int) from by omega] at h5
  have hge : (0 : Int) ≤ (j : Int) := by omega
  have e0 : IntKind.u64.wrap (j : Int) = (j : Int) := wrap_u64 _ (by omega) (by omega)
  have e1 : IntKind.u64.wrap (8 * (j : Int)) = 8 * (j : Int) := wrap_u64 _ (by omega) (by omega)
  have e5 : IntKind.i64.wrap ((j : Int) - 1) = (j : Int) - 1 := wrap_id _ (by omega) (by omega)
  have hp : ¬ (8 * (j : Int)) < 0 := by omega
  have hmin : min (8 * (j : Int)).toNat 64 = 8 * j := by omega
  have hb8 : (UInt8.ofNat (u / 256 ^ j % 256)).toNat = u / 256 ^ j % 256 := UInt8.toNat_ofNat_of_lt' (Nat.mod_lt _ (by decide))
  have hx : intShift .shr .u64 (u : Int) (8 * (j : Int)) = some (.int .u64 ((u / 256 ^ j : Nat) : Int)) := by
    have e2 : (u : Int).fdiv (2 ^ (8 * j)) = ((u / 256 ^ j : Nat) : Int) := by
      rw [show ((2 : Int) ^ (8 * j)) = (((256 ^ j : Nat)) : Int) from by rw [← two_pow8]; simp]
      rw [Int.fdiv_eq_ediv_of_nonneg _ (Int.natCast_nonneg _)]
      rfl
    simp only [intShift, hp, if_false, IntKind.bits, hmin, e2]
  have e3 : IntKind.u8.wrap ((u / 256 ^ j : Nat) : Int) = (((UInt8.ofNat (u / 256 ^ j % 256)).toNat : Nat) : Int) := by
    rw [wrap_u8 _ (Int.natCast_nonneg _), hb8, Int.natCast_emod]
    rfl
  generalize u / 256 ^ j = q at *
  generalize UInt8.ofNat (q % 256) = c at *
  have hby := bytes_bp [c]
  simp only [bp, List.map_cons, List.map_nil] at hby
  exact ⟨_, _, by simp [body27n, exec, runOps, wantedA, stepOp, pureOp, allocOp, readOp, effOp, ev, evs, evO, Env.get_cons, putE, binA, intBin, unA, AV.fit, AV.toCells, partC, partP, mkCells, allP, mkAgg, Cells.len, target, evParts, fillA, AV.cells, splice, spliceC, finA, leaveA, resA, resV, ansV, repCells, elemsA, takeC, dropC, strBin, h.t3, h.t4, h5, hge, e0, e1, ↓hx, e3, e5, hby, hl]; exact ⟨rfl, rfl⟩, ⟨by simp [Env.get_cons, h.t3], by simp [Env.get_cons], by simp [Env.get_cons]⟩⟩
theorem loop27n (u : Nat) : ∀ (j f : Nat) (ρ : Env) (σ : Heap) (l : List UInt8), j < f → j ≤ 8 → At27n ρ u j l → l.length + j ≤ LIM →
    ∃ ρ' σ', iter (exec C L body27n) none f ⟨ρ, [], σ⟩ = some (.exit 1, ⟨ρ', [], σ'⟩) ∧ ρ'.get 4 = some (.p (.str (l ++ be j (u % 256 ^ j))))
  | 0, f, ρ, σ, l, hf, _, h, hl => by
    obtain ⟨f, rfl⟩ : ∃ m, f = m + 1 := ⟨f - 1, by omega⟩
    obtain ⟨ρ', e, g4⟩ := stop27n C L ρ σ u l h
    exact ⟨ρ', σ, by simp only [iter, St.keep, e], by simpa [be] using g4⟩
  | j + 1, f, ρ, σ, l, hf, hj, h, hl => by
    obtain ⟨f, rfl⟩ : ∃ m, f = m + 1 := ⟨f - 1, by omega⟩
    obtain ⟨ρ1, τ, e, h1⟩ := go27n C L ρ σ u j l h (by omega) (by omega)
    obtain ⟨ρ', σ', e', g4⟩ := loop27n u j f ρ1 _ _ (by omega) (by omega) h1 (by simp; omega)
    refine ⟨ρ', σ', by simp only [iter, St.keep, e]; exact e', ?_⟩
    rw [g4, be_step]
    simp
/-- the loop's state over a text's letters -/
structure At27t (ρ : Env) (w : List UInt8) (i : Nat) (l : List UInt8) : Prop where
  t6 : ρ.get 6 = some (.p (.str w))
  t7 : ρ.get 7 = some (.p (.str l))
  t8 : ρ.get 8 = some (.p (.int .i64 (i : Int)))
theorem stop27t (w l : List UInt8) (h : At27t ρ w w.length l) : ∃ ρ', exec C L body27t ⟨ρ, [], σ⟩ = some (.exit 3, ⟨ρ', [], σ⟩) ∧ ρ'.get 7 = some (.p (.str l)) :=
  ⟨_, by simp [body27t, exec, runOps, wantedA, stepOp, pureOp, allocOp, readOp, effOp, ev, evs, evO, Env.get_cons, putE, binA, intBin, unA, AV.fit, AV.toCells, partC, partP, mkCells, allP, mkAgg, Cells.len, target, lenA, h.t6, h.t8]; rfl, by simp [Env.get_cons, h.t7]⟩
theorem go27t (w l : List UInt8) (i : Nat) (c : UInt8) (hc : w[i]? = some c) (h : At27t ρ w i l) (hm : w.length ≤ 16777216) (hl : l.length + 2 ≤ LIM) :
    ∃ ρ', exec C L body27t ⟨ρ, [], σ⟩ = some (.normal, ⟨ρ', [], σ⟩) ∧ At27t ρ' w (i + 1) (l ++ esc [c]) := by
  have hi : i < w.length := (List.getElem?_eq_some_iff.1 hc).1
  have hcg : w[i] = c := by rw [List.getElem?_eq_getElem hi] at hc; exact Option.some.inj hc
  have hi' : (i : Int) < (w.length : Int) := by omega
  have e1 : IntKind.i64.wrap ((i : Int) + 1) = (i : Int) + 1 := wrap_id _ (by omega) (by omega)
  have h1 : (0 : Int) ≤ (i : Int) + 1 := by omega
  have h2 : (i : Int) ≤ (i : Int) + 1 := by omega
  have h3 : (i : Int) + 1 ≤ (w.length : Int) := by omega
  have h4 : ((i : Int) + 1).toNat = i + 1 := by omega
  have h5 : (w.drop i).take 1 = [c] := by
    rw [List.drop_eq_getElem_cons hi]
    simp [hcg]
  have h6 : i + 1 - i = 1 := by omega
  have hl1 : l.length + 1 ≤ LIM := by omega
  by_cases h0 : c = 0
  · subst h0
    refine ⟨_, by simp [body27t, exec, runOps, wantedA, stepOp, pureOp, allocOp, readOp, effOp, ev, evs, evO, Env.get_cons, putE, binA, intBin, unA, AV.fit, AV.toCells, partC, partP, mkCells, allP, mkAgg, Cells.len, target, evParts, fillA, AV.cells, splice, spliceC, finA, leaveA, resA, resV, ansV, lenA, atStrA, strBin, sliceA, boundsA, boundA, h.t6, h.t7, h.t8, hi, hi', e1, h1, h2, h3, h4, h5, h6, hcg, hl, hl1]; rfl, ⟨by simp [Env.get_cons, h.t6], by simp [Env.get_cons, esc], by simp [Env.get_cons]⟩⟩
  · have d0 : ((c.toNat : Int) == 0) = false := byte_ne h0
    refine ⟨_, by simp [body27t, exec, runOps, wantedA, stepOp, pureOp, allocOp, readOp, effOp, ev, evs, evO, Env.get_cons, putE, binA, intBin, unA, AV.fit, AV.toCells, partC, partP, mkCells, allP, mkAgg, Cells.len, target, evParts, fillA, AV.cells, splice, spliceC, finA, leaveA, resA, resV, ansV, lenA, atStrA, strBin, sliceA, boundsA, boundA, h.t6, h.t7, h.t8, hi, hi', e1, h1, h2, h3, h4, h5, h6, hcg, hl, hl1, d0]; rfl, ⟨by simp [Env.get_cons, h.t6], by simp [Env.get_cons, esc, h0], by simp [Env.get_cons]⟩⟩
theorem esc_app : ∀ s t : List UInt8, esc (s ++ t) = esc s ++ esc t
  | [], t => rfl
  | c :: s, t => by
    have ih := esc_app s t
    by_cases h : c = 0 <;> simp [esc, h, ih]
theorem loop27t (w : List UInt8) (hm : w.length ≤ 16777216) : ∀ (d i f : Nat) (ρ : Env) (l : List UInt8), i + d = w.length → d < f → At27t ρ w i l → l.length + 2 * d ≤ LIM →
    ∃ ρ', iter (exec C L body27t) none f ⟨ρ, [], σ⟩ = some (.exit 3, ⟨ρ', [], σ⟩) ∧ ρ'.get 7 = some (.p (.str (l ++ esc (w.drop i))))
  | 0, i, f, ρ, l, hd, hf, h, hl => by
    obtain ⟨f, rfl⟩ : ∃ m, f = m + 1 := ⟨f - 1, by omega⟩
    obtain rfl : i = w.length := by omega
    obtain ⟨ρ', e, g7⟩ := stop27t C L ρ σ w l h
    exact ⟨ρ', by simp only [iter, St.keep, e], by simpa [esc] using g7⟩
  | d + 1, i, f, ρ, l, hd, hf, h, hl => by
    obtain ⟨f, rfl⟩ : ∃ m, f = m + 1 := ⟨f - 1, by omega⟩
    have hi : i < w.length := by omega
    obtain ⟨ρ1, e, h1⟩ := go27t C L ρ σ w l i w[i] (List.getElem?_eq_getElem hi) h hm (by omega)
    have hel : (esc [w[i]]).length ≤ 2 := esc_len [w[i]]
    obtain ⟨ρ', e', g7⟩ := loop27t w hm d (i + 1) f ρ1 _ (by omega) (by omega) h1 (by rw [List.length_append]; omega)
    refine ⟨ρ', by simp only [iter, St.keep, e]; exact e', ?_⟩
    rw [g7, List.drop_eq_getElem_cons hi, List.append_assoc, ← esc_app]
    rfl
end
end Go.Ab.Key

/- The laws of keys: what the document's Encode answers. -/
set_option maxRecDepth 1000000
namespace Go.Ab.Key
open Go Go.Ab Go.Proofs
theorem add_off (n : Int) (h : inR n) : IntKind.u64.wrap (IntKind.u64.wrap n + 9223372036854775808) = (off n : Int) := by
  unfold inR at h
  have ho : (off n : Int) = n + 9223372036854775808 := by unfold off; omega
  rw [ho]
  by_cases hn : 0 ≤ n
  · rw [wrap_u64 n hn (by omega), wrap_u64 _ (by omega) (by omega)]
  · rw [wrap_u64_neg n (by omega) (by omega)]
    simp only [IntKind.wrap, IntKind.bits, IntKind.signed]
    simp
    omega
variable [Marks]
theorem run27_num (C : Oracle) (D : DOracle) (L : Nat) (n : Int) (hn : inR n) (hL : 8 < L) : ansV (runFunc C D L lit27 [.p (.agg (vc (.num n)))] []) = some (.str (enc1 (.num n))) := by
  have hLm : LIM = 4294967296 := rfl
  have e1 := add_off n hn
  obtain ⟨F, H, hF⟩ : ∃ (F : Env → Heap → Env) (H : Env → Heap → Heap), ∀ ρ σ, At27n ρ (off n) 8 [2] → iter (exec C L body27n) none L ⟨ρ, [], σ⟩ = some (.exit 1, ⟨F ρ σ, [], H ρ σ⟩) ∧ (F ρ σ).get 4 = some (.p (.str (2 :: be 8 (off n)))) := by
    have hl : ∀ ρ σ, At27n ρ (off n) 8 [2] → ∃ x : Env × Heap, iter (exec C L body27n) none L ⟨ρ, [], σ⟩ = some (.exit 1, ⟨x.1, [], x.2⟩) ∧ x.1.get 4 = some (.p (.str (2 :: be 8 (off n)))) := fun ρ σ h => by
      obtain ⟨ρ', σ', e, g⟩ := loop27n C L (off n) 8 L ρ σ [2] hL (Nat.le_refl _) h (by decide)
      rw [Nat.mod_eq_of_lt (off_lt' hn)] at g
      exact ⟨(ρ', σ'), e, g⟩
    refine ⟨fun ρ σ => open Classical in if h : At27n ρ (off n) 8 [2] then (hl ρ σ h).choose.1 else ρ, fun ρ σ => open Classical in if h : At27n ρ (off n) 8 [2] then (hl ρ σ h).choose.2 else σ, fun ρ σ h => ?_⟩
    simp only [dif_pos h]
    exact (hl ρ σ h).choose_spec
  have hF1 := fun ρ σ t3 t4 (t5 : ρ.get 5 = some (.p (.int .i64 7))) => (hF ρ σ ⟨t3, t4, t5⟩).1
  have hF2 := fun ρ σ t3 t4 (t5 : ρ.get 5 = some (.p (.int .i64 7))) => (hF ρ σ ⟨t3, t4, t5⟩).2
  rw [runFunc_eq, lit27_eq]
  simp [lit27, params, vc, exec, runOps, wantedA, stepOp, pureOp, allocOp, readOp, effOp, ev, evs, evO, Env.get_cons, putE, binA, intBin, unA, AV.fit, AV.toCells, partC, partP, mkCells, allP, mkAgg, Cells.len, target, evParts, fillA, AV.cells, splice, spliceC, finA, leaveA, resA, resV, ansV, finX, e1, hF1, hF2, enc1]
theorem run27_text (C : Oracle) (D : DOracle) (L : Nat) (s : List UInt8) (hs : s.length ≤ 16777216) (hL : s.length < L) (hC : ∀ σ, C 36 [.p (.str s)] σ = some (.ret (.p (.str (trimB s))), σ)) : ansV (runFunc C D L lit27 [.p (.agg (vc (.text s)))] []) = some (.str (enc1 (.text s))) := by
  have hLm : LIM = 4294967296 := rfl
  have htl := trim_len s
  have hel := esc_len (trimB s)
  obtain ⟨F, hF⟩ : ∃ F : Env → Heap → Env, ∀ ρ σ, At27t ρ (trimB s) 0 [3] → iter (exec C L body27t) none L ⟨ρ, [], σ⟩ = some (.exit 3, ⟨F ρ σ, [], σ⟩) ∧ (F ρ σ).get 7 = some (.p (.str (3 :: esc (trimB s)))) := by
    have hl : ∀ ρ σ, At27t ρ (trimB s) 0 [3] → ∃ x : Env, iter (exec C L body27t) none L ⟨ρ, [], σ⟩ = some (.exit 3, ⟨x, [], σ⟩) ∧ x.get 7 = some (.p (.str (3 :: esc (trimB s)))) := fun ρ σ h => by
      obtain ⟨ρ', e, g⟩ := loop27t C L σ (trimB s) (by omega) (trimB s).length 0 L ρ [3] (by omega) (by omega) h (by simp; omega)
      exact ⟨ρ', e, g⟩
    refine ⟨fun ρ σ => open Classical in if h : At27t ρ (trimB s) 0 [3] then (hl ρ σ h).choose else ρ, fun ρ σ h => ?_⟩
    simp only [dif_pos h]
    exact (hl ρ σ h).choose_spec
  have hF1 := fun ρ σ t6 t7 (t8 : ρ.get 8 = some (.p (.int .i64 0))) => (hF ρ σ ⟨t6, t7, t8⟩).1
  have hF2 := fun ρ σ t6 t7 (t8 : ρ.get 8 = some (.p (.int .i64 0))) => (hF ρ σ ⟨t6, t7, t8⟩).2
  have hl2 : (esc (trimB s)).length + 1 + 2 ≤ LIM := by omega
  rw [runFunc_eq, lit27_eq]
  simp [lit27, params, vc, exec, runOps, wantedA, stepOp, pureOp, allocOp, readOp, effOp, ev, evs, evO, Env.get_cons, putE, binA, intBin, unA, AV.fit, AV.toCells, partC, partP, mkCells, allP, mkAgg, Cells.len, target, evParts, fillA, AV.cells, splice, spliceC, finA, leaveA, resA, resV, ansV, finX, strBin, hC, hF1, hF2, hl2, enc1]
section
variable (m : Int) (L n : Nat)
theorem q27 : TE (G 0 m) 27 = some (.code lit27 true) := by kernel_rfl
theorem q15 : TE (G 0 m) 15 = some (.code lit15 true) := by kernel_rfl
theorem one27 (v : V) (hok : v.ok) (hw : wt v ≤ 16777216) (hL : wt v < L) (hL8 : 8 < L) (σ : Heap) : (cAt (TE (G 0 m)) L (n + 2)).1 27 [.p (.agg (vc v))] σ = some (.ret (.p (.str (enc1 v))), σ) := by
  refine call_ans (ps := [.agg (vc v)]) (n := n + 1) (q27 m) rfl ?_ σ
  cases v with
  | null => kernel_rfl
  | num k => exact run27_num _ _ L k hok hL8
  | text s =>
    simp only [wt] at hw hL
    exact run27_text _ _ L s (by omega) (by omega) fun σ => words36 m L n s (by omega) (by omega) σ
  | bool b => cases b <;> kernel_rfl
end
section
variable (C : Oracle) (L : Nat) (x : List V) (ρ : Env) (σ : Heap)
/-- the loop's state -/
structure At15 (ρ : Env) (i : Nat) (l : List UInt8) : Prop where
  t0 : ρ.get 0 = some (.p (.vsl (vcs x) x.length))
  t3 : ρ.get 3 = some (.p (.str l))
  t4 : ρ.get 4 = some (.p (.int .i64 (i : Int)))
theorem stop15 (l : List UInt8) (h : At15 x ρ x.length l) : ∃ ρ', exec C L body15 ⟨ρ, [], σ⟩ = some (.exit 0, ⟨ρ', [], σ⟩) ∧ ρ'.get 3 = some (.p (.str l)) :=
  ⟨_, by simp [body15, exec, runOps, wantedA, stepOp, pureOp, allocOp, readOp, effOp, ev, evs, evO, Env.get_cons, putE, binA, intBin, unA, AV.fit, AV.toCells, partC, partP, mkCells, allP, mkAgg, Cells.len, target, lenA, h.t0, h.t4]; rfl, by simp [Env.get_cons, h.t3]⟩
theorem go15 (l : List UInt8) (i : Nat) (v : V) (hv : x[i]? = some v) (hm : x.length ≤ 9223372036854775807) (h : At15 x ρ i l) (hl : l.length + (enc1 v).length ≤ LIM) (hC : ∀ σ, C 27 [.p (.agg (vc v))] σ = some (.ret (.p (.str (enc1 v))), σ)) :
    ∃ ρ', exec C L body15 ⟨ρ, [], σ⟩ = some (.normal, ⟨ρ', [], σ⟩) ∧ At15 x ρ' (i + 1) (l ++ enc1 v) := by
  have hi : i < x.length := (List.getElem?_eq_some_iff.1 hv).1
  have hi' : (i : Int) < (x.length : Int) := by omega
  have d1 := flat_v x i _ hv
  have d3 : 4 ≤ (vcs x).length - i * 4 := by rw [vcs_len]; omega
  have e1 : IntKind.i64.wrap ((i : Int) + 1) = (i : Int) + 1 := wrap_id _ (by omega) (by omega)
  exact ⟨_, by simp [body15, exec, runOps, wantedA, stepOp, pureOp, allocOp, readOp, effOp, ev, evs, evO, Env.get_cons, putE, binA, intBin, unA, AV.fit, AV.toCells, partC, partP, mkCells, allP, mkAgg, Cells.len, target, evParts, fillA, AV.cells, splice, spliceC, finA, leaveA, resA, resV, ansV, lenA, idxA, strBin, h.t0, h.t3, h.t4, hi, hi', d1, d3, e1, hC, hl]; rfl, ⟨by simp [Env.get_cons, h.t0], by simp [Env.get_cons], by simp [Env.get_cons]⟩⟩
theorem loop15 (hm : x.length ≤ 9223372036854775807) (hw : wts x ≤ LIM) (hC : ∀ v ∈ x, ∀ σ, C 27 [.p (.agg (vc v))] σ = some (.ret (.p (.str (enc1 v))), σ)) : ∀ (d i f : Nat) (ρ : Env), i + d = x.length → d < f → At15 x ρ i (encL (x.take i)) →
    ∃ ρ', iter (exec C L body15) none f ⟨ρ, [], σ⟩ = some (.exit 0, ⟨ρ', [], σ⟩) ∧ ρ'.get 3 = some (.p (.str (encL x)))
  | 0, i, f, ρ, hd, hf, h => by
    obtain ⟨f, rfl⟩ : ∃ m, f = m + 1 := ⟨f - 1, by omega⟩
    obtain rfl : i = x.length := by omega
    rw [List.take_length] at h
    obtain ⟨ρ', e, g⟩ := stop15 C L x ρ σ _ h
    exact ⟨ρ', by simp only [iter, St.keep, e], g⟩
  | d + 1, i, f, ρ, hd, hf, h => by
    obtain ⟨f, rfl⟩ : ∃ m, f = m + 1 := ⟨f - 1, by omega⟩
    have hi : i < x.length := by omega
    have ex : x[i]? = some x[i] := List.getElem?_eq_getElem hi
    have hsn : x.take (i + 1) = x.take i ++ [x[i]] := by rw [List.take_add_one, ex]; rfl
    have hlen : (encL (x.take i)).length + (enc1 x[i]).length ≤ LIM := by
      have h1 := encL_len (x.take i)
      have h2 := wts_take x (i + 1)
      have h3 := enc1_len x[i]
      rw [hsn, wts_snoc] at h2
      omega
    obtain ⟨ρ1, e, h1⟩ := go15 C L x ρ σ _ i x[i] ex hm h hlen (hC _ (List.getElem_mem hi))
    rw [← encL_snoc, ← hsn] at h1
    obtain ⟨ρ', e', g⟩ := loop15 hm hw hC d (i + 1) f ρ1 (by omega) (by omega) h1
    exact ⟨ρ', by simp only [iter, St.keep, e]; exact e', g⟩
end
section
variable (m : Int) (L n : Nat)
theorem encode15 (x : List V) (hL : x.length + 8 < L) (hm : x.length ≤ 9223372036854775807) (hok : ∀ v ∈ x, v.ok) (hw : wts x ≤ 16777216) (hwL : wts x < L) (σ : Heap) :
    (cAt (TE (G 0 m)) L (n + 3)).1 15 [.p (.vsl (vcs x) x.length)] σ = some (.ret (.p (.str (encL x))), σ) := by
  refine call_ans (ps := [.vsl (vcs x) x.length]) (n := n + 2) (q15 m) rfl ?_ σ
  have hwv : ∀ v ∈ x, wt v ≤ wts x := fun v hv => by
    obtain ⟨i, hi⟩ := List.mem_iff_getElem?.1 hv
    have h2 := wts_take x (i + 1)
    rw [List.take_add_one, hi] at h2
    simp only [Option.toList_some, wts_snoc] at h2
    omega
  have hLm : LIM = 4294967296 := rfl
  have hC : ∀ v ∈ x, ∀ σ, (cAt (TE (G 0 m)) L (n + 2)).1 27 [.p (.agg (vc v))] σ = some (.ret (.p (.str (enc1 v))), σ) := fun v hv σ => one27 m L n v (hok v hv) (by have := hwv v hv; omega) (by have := hwv v hv; omega) (by omega) σ
  generalize (cAt (TE (G 0 m)) L (n + 2)).1 = C at hC ⊢
  generalize (cAt (TE (G 0 m)) L (n + 2)).2 = D
  obtain ⟨ρ', e, g3⟩ := loop15 C L x [] hm (by omega) hC x.length 0 L [(4, .p (.int .i64 0)), (3, .p (.str [])), (2, .p (.str [])), (0, .p (.vsl (vcs x) x.length))] (by omega) (by omega) ⟨rfl, rfl, rfl⟩
  rw [runFunc_eq, lit15_eq]
  rw [seqN (a := .region _) (by simp [params, exec, runOps, wantedA, stepOp, pureOp, allocOp, readOp, effOp, ev, evs, evO, Env.get_cons, putE, binA, intBin, unA, AV.fit, AV.toCells, partC, partP, mkCells, allP, mkAgg, Cells.len, target]; rfl), seqN (a := .region _) (by simp [exec, runOps, wantedA, stepOp, pureOp, allocOp, readOp, effOp, ev, evs, evO, Env.get_cons, putE, binA, intBin, unA, AV.fit, AV.toCells, partC, partP, mkCells, allP, mkAgg, Cells.len, target]; rfl)]
  have e3 : exec C L (.seq (.region [{ dst := some 4, op := AOp.mv (Opd.c (AV.p (PV.int IntKind.i64 (0)))), guard := none }]) (.block 0 (.loop none body15))) ⟨[(3, .p (.str [])), (2, .p (.str [])), (0, .p (.vsl (vcs x) x.length))], [], []⟩ = some (.normal, ⟨ρ', [], []⟩) := by
    rw [seqN (a := .region _) (by simp [exec, runOps, wantedA, stepOp, pureOp, allocOp, readOp, effOp, ev, evs, evO, Env.get_cons, putE, binA, intBin, unA, AV.fit, AV.toCells, partC, partP, mkCells, allP, mkAgg, Cells.len, target]; rfl)]
    simp only [exec, e, if_true]
  rw [seqN e3]
  simp [lit15, exec, runOps, wantedA, stepOp, pureOp, allocOp, readOp, effOp, ev, evs, evO, Env.get_cons, putE, binA, intBin, unA, AV.fit, AV.toCells, partC, partP, mkCells, allP, mkAgg, Cells.len, target, evParts, fillA, AV.cells, splice, spliceC, finA, leaveA, resA, resV, ansV, finX, g3]
theorem encode15_at (x : List V) (hL : x.length + 8 < L) (hm : x.length ≤ 9223372036854775807) (hok : ∀ v ∈ x, v.ok) (hw : wts x ≤ 16777216) (hwL : wts x < L) {v : AV} {σ : Heap} (h : SlAt σ v x) :
    ∃ σ', (cAt (TE (G 0 m)) L (n + 3)).1 15 [v] σ = some (.ret (.p (.str (encL x))), σ') ∧ Keeps σ σ' := by
  obtain ⟨σ1, e, hk⟩ := frz_one h (touch_one h)
  refine ⟨σ1, ?_, hk⟩
  rw [cAt_frz (ps := [.vsl (vcs x) x.length]) (σ1 := σ1) (q15 m) (by simp only [frzA, e]; rfl)]
  exact encode15 m L n x hL hm hok hw hwL σ1
end
end Go.Ab.Key
