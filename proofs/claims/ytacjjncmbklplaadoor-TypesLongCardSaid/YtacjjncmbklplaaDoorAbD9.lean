/- The law TypesLong, where its parts agree. -/
import Derived.Test.YtacjjncmbklplaaDoorAbD8
set_option maxRecDepth 1000000
namespace Go.Ab.Long
open Go Go.Ab
def sizeZ (z : Int) : Int := if z < 0 then -(z + 1) else z
/-- how long a raw size says -/
def lenZ (z : Int) : Int := 1 + sizeZ z % 100
theorem lenZ_of (z : Int) : 1 ≤ lenZ z ∧ lenZ z ≤ 100 := by unfold lenZ; omega
/-- why a text has room -/
def Room (fixed : Bool) (sz k : Int) (s e : List UInt8) : Prop :=
  ((e == [48, 48, 48, 48, 48]) = false) ∨ (e = [48, 48, 48, 48, 48] ∧ k = 0) ∨ (e = [48, 48, 48, 48, 48] ∧ (k == 0) = false ∧ (s.length : Int) = sz) ∨
  (e = [48, 48, 48, 48, 48] ∧ (k == 0) = false ∧ ((s.length : Int) == sz) = false ∧ fixed = false ∧ (s.length : Int) < sz)
def ops8 : List AOper := [{ dst := some 39, op := AOp.mv (Opd.t 9), guard := none }, { dst := some 40, op := AOp.bin (Bin.plain BinOp.neq) (Opd.t 39) (Opd.c (AV.p (PV.str [48, 48, 48, 48, 48]))), guard := none }, { dst := some 41, op := AOp.mv (Opd.t 40), guard := none }, { dst := some 42, op := AOp.fieldAddr 0 (Opd.t 8), guard := some (41, false) }, { dst := some 43, op := AOp.load false 1 (Opd.t 42), guard := some (41, false) }, { dst := some 44, op := AOp.bin (Bin.plain BinOp.eql) (Opd.t 43) (Opd.c (AV.p (PV.int IntKind.i64 (0)))), guard := some (41, false) }, { dst := some 45, op := AOp.pick (Opd.t 41) (Opd.c (AV.p (PV.bool true))) (Opd.t 44), guard := none }, { dst := some 46, op := AOp.mv (Opd.t 45), guard := none }, { dst := some 47, op := AOp.fieldAddr 2 (Opd.t 8), guard := some (46, false) }, { dst := some 48, op := AOp.load false 1 (Opd.t 47), guard := some (46, false) }, { dst := some 49, op := AOp.len true (Opd.t 48), guard := some (46, false) }, { dst := some 50, op := AOp.fieldAddr 1 (Opd.t 7), guard := some (46, false) }, { dst := some 51, op := AOp.load false 1 (Opd.t 50), guard := some (46, false) }, { dst := some 52, op := AOp.bin (Bin.plain BinOp.eql) (Opd.t 49) (Opd.t 51), guard := some (46, false) }, { dst := some 53, op := AOp.pick (Opd.t 46) (Opd.c (AV.p (PV.bool true))) (Opd.t 52), guard := none }, { dst := some 54, op := AOp.mv (Opd.t 53), guard := none }, { dst := some 55, op := AOp.mv (Opd.t 2), guard := some (54, false) }, { dst := some 56, op := AOp.un UnOp.not (Opd.t 55), guard := some (54, false) }, { dst := some 57, op := AOp.mv (Opd.t 56), guard := some (54, false) }, { dst := some 58, op := AOp.fieldAddr 2 (Opd.t 8), guard := some (57, true) }, { dst := some 59, op := AOp.load false 1 (Opd.t 58), guard := some (57, true) }, { dst := some 60, op := AOp.len true (Opd.t 59), guard := some (57, true) }, { dst := some 61, op := AOp.fieldAddr 1 (Opd.t 7), guard := some (57, true) }, { dst := some 62, op := AOp.load false 1 (Opd.t 61), guard := some (57, true) }, { dst := some 63, op := AOp.bin (Bin.plain BinOp.lss) (Opd.t 60) (Opd.t 62), guard := some (57, true) }, { dst := some 64, op := AOp.pick (Opd.t 57) (Opd.t 63) (Opd.c (AV.p (PV.bool false))), guard := some (54, false) }, { dst := some 65, op := AOp.pick (Opd.t 54) (Opd.c (AV.p (PV.bool true))) (Opd.t 64), guard := none }, { dst := some 12, op := AOp.mv (Opd.t 65), guard := none }]
def ops9 : List AOper := [{ dst := some 66, op := AOp.mv (Opd.t 11), guard := none }, { dst := some 67, op := AOp.bin (Bin.plain BinOp.neq) (Opd.t 66) (Opd.c (AV.p (PV.str [48, 48, 48, 48, 48]))), guard := none }, { dst := some 68, op := AOp.mv (Opd.t 67), guard := none }, { dst := some 69, op := AOp.fieldAddr 0 (Opd.t 10), guard := some (68, false) }, { dst := some 70, op := AOp.load false 1 (Opd.t 69), guard := some (68, false) }, { dst := some 71, op := AOp.bin (Bin.plain BinOp.eql) (Opd.t 70) (Opd.c (AV.p (PV.int IntKind.i64 (0)))), guard := some (68, false) }, { dst := some 72, op := AOp.pick (Opd.t 68) (Opd.c (AV.p (PV.bool true))) (Opd.t 71), guard := none }, { dst := some 73, op := AOp.mv (Opd.t 72), guard := none }, { dst := some 74, op := AOp.fieldAddr 2 (Opd.t 10), guard := some (73, false) }, { dst := some 75, op := AOp.load false 1 (Opd.t 74), guard := some (73, false) }, { dst := some 76, op := AOp.len true (Opd.t 75), guard := some (73, false) }, { dst := some 77, op := AOp.fieldAddr 1 (Opd.t 7), guard := some (73, false) }, { dst := some 78, op := AOp.load false 1 (Opd.t 77), guard := some (73, false) }, { dst := some 79, op := AOp.bin (Bin.plain BinOp.eql) (Opd.t 76) (Opd.t 78), guard := some (73, false) }, { dst := some 80, op := AOp.pick (Opd.t 73) (Opd.c (AV.p (PV.bool true))) (Opd.t 79), guard := none }, { dst := some 81, op := AOp.mv (Opd.t 80), guard := none }, { dst := some 82, op := AOp.mv (Opd.t 2), guard := some (81, false) }, { dst := some 83, op := AOp.un UnOp.not (Opd.t 82), guard := some (81, false) }, { dst := some 84, op := AOp.mv (Opd.t 83), guard := some (81, false) }, { dst := some 85, op := AOp.fieldAddr 2 (Opd.t 10), guard := some (84, true) }, { dst := some 86, op := AOp.load false 1 (Opd.t 85), guard := some (84, true) }, { dst := some 87, op := AOp.len true (Opd.t 86), guard := some (84, true) }, { dst := some 88, op := AOp.fieldAddr 1 (Opd.t 7), guard := some (84, true) }, { dst := some 89, op := AOp.load false 1 (Opd.t 88), guard := some (84, true) }, { dst := some 90, op := AOp.bin (Bin.plain BinOp.lss) (Opd.t 87) (Opd.t 89), guard := some (84, true) }, { dst := some 91, op := AOp.pick (Opd.t 84) (Opd.t 90) (Opd.c (AV.p (PV.bool false))), guard := some (81, false) }, { dst := some 92, op := AOp.pick (Opd.t 81) (Opd.c (AV.p (PV.bool true))) (Opd.t 91), guard := none }, { dst := some 13, op := AOp.mv (Opd.t 92), guard := none }]
def ops10 : List AOper := [{ dst := some 93, op := AOp.call (Opd.c (AV.p (PV.fn 8))) [], guard := none }, { dst := some 94, op := AOp.mv (Opd.t 93), guard := none }, { dst := some 95, op := AOp.mv (Opd.t 12), guard := some (94, true) }, { dst := some 96, op := AOp.pick (Opd.t 94) (Opd.t 95) (Opd.c (AV.p (PV.bool false))), guard := none }, { dst := some 97, op := AOp.mv (Opd.t 96), guard := none }, { dst := some 98, op := AOp.mv (Opd.t 13), guard := some (97, true) }, { dst := some 99, op := AOp.pick (Opd.t 97) (Opd.t 98) (Opd.c (AV.p (PV.bool false))), guard := none }, { dst := some 100, op := AOp.mv (Opd.t 99), guard := none }, { dst := some 101, op := AOp.mv (Opd.t 9), guard := some (100, true) }, { dst := some 102, op := AOp.bin (Bin.plain BinOp.neq) (Opd.t 101) (Opd.c (AV.p (PV.str [48, 48, 48, 48, 48]))), guard := some (100, true) }, { dst := some 103, op := AOp.mv (Opd.t 102), guard := some (100, true) }, { dst := some 104, op := AOp.mv (Opd.t 11), guard := some (103, false) }, { dst := some 105, op := AOp.bin (Bin.plain BinOp.eql) (Opd.t 104) (Opd.c (AV.p (PV.str [48, 48, 48, 48, 48]))), guard := some (103, false) }, { dst := some 106, op := AOp.mv (Opd.t 105), guard := some (103, false) }, { dst := some 107, op := AOp.load true 4 (Opd.t 10), guard := some (106, true) }, { dst := some 108, op := AOp.load true 4 (Opd.t 8), guard := some (106, true) }, { dst := some 109, op := AOp.bin (Bin.eq false (EQ.struct [(0, false, 1, EQ.int), (1, false, 1, EQ.int), (2, false, 1, EQ.str), (3, false, 1, EQ.bool)])) (Opd.t 107) (Opd.t 108), guard := some (106, true) }, { dst := some 110, op := AOp.pick (Opd.t 106) (Opd.t 109) (Opd.c (AV.p (PV.bool false))), guard := some (103, false) }, { dst := some 111, op := AOp.pick (Opd.t 103) (Opd.c (AV.p (PV.bool true))) (Opd.t 110), guard := some (100, true) }, { dst := some 112, op := AOp.pick (Opd.t 100) (Opd.t 111) (Opd.c (AV.p (PV.bool false))), guard := none }, { dst := some 6, op := AOp.mv (Opd.t 112), guard := none }]
def tail5 : ACode := (ACode.region ops8).seq ((ACode.region ops9).seq ((ACode.region ops10).seq ACode.ret))
def front5 : ACode := (ACode.region [{ dst := some 3, op := AOp.box 4 (Opd.t 0), guard := none }, { dst := some 6, op := AOp.mv (Opd.c (AV.p (PV.bool false))), guard := none }]).seq (((ACode.region [{ dst := some 14, op := AOp.mv (Opd.t 1), guard := none }, { dst := some 15, op := AOp.bin (Bin.plain BinOp.lss) (Opd.t 14) (Opd.c (AV.p (PV.int IntKind.i64 (0)))), guard := none }]).seq (ACode.cond (Opd.t 15) (ACode.region [{ dst := some 16, op := AOp.mv (Opd.t 1), guard := none }, { dst := some 17, op := AOp.bin (Bin.plain BinOp.add) (Opd.t 16) (Opd.c (AV.p (PV.int IntKind.i64 (1)))), guard := none }, { dst := some 18, op := AOp.un UnOp.neg (Opd.t 17), guard := none }, { dst := some 1, op := AOp.mv (Opd.t 18), guard := none }]) ACode.skip)).seq ((ACode.region [{ dst := some 19, op := AOp.mv (Opd.t 1), guard := none }, { dst := some 20, op := AOp.bin (Bin.plain BinOp.rem) (Opd.t 19) (Opd.c (AV.p (PV.int IntKind.i64 (100)))), guard := none }, { dst := some 21, op := AOp.bin (Bin.plain BinOp.add) (Opd.c (AV.p (PV.int IntKind.i64 (1)))) (Opd.t 20), guard := none }, { dst := some 22, op := AOp.build [AV.p (PV.int IntKind.i64 (0)), AV.p (PV.int IntKind.i64 (0))] [(0, 1, Opd.c (AV.p (PV.int IntKind.i64 (5)))), (1, 1, Opd.t 21)], guard := none }, { dst := some 7, op := AOp.alloc [AV.p (PV.int IntKind.i64 (0)), AV.p (PV.int IntKind.i64 (0))], guard := none }, { dst := none, op := AOp.store 2 (Opd.t 7) (Opd.t 22), guard := none }]).seq (((ACode.region [{ dst := some 23, op := AOp.mv (Opd.t 2), guard := none }]).seq (ACode.cond (Opd.t 23) (ACode.region [{ dst := some 24, op := AOp.fieldAddr 0 (Opd.t 7), guard := none }, { dst := none, op := AOp.store 1 (Opd.t 24) (Opd.c (AV.p (PV.int IntKind.i64 (4)))), guard := none }]) ACode.skip)).seq ((ACode.draw 10 [0, 1, 0, 7, 15, 31, 31, 0, 191, 511] [{ dst := some 26, op := AOp.load true 4 (Opd.t 3), guard := none }, { dst := some 27, op := AOp.call (Opd.c (AV.p (PV.fn 10))) [Opd.t 26], guard := none }, { dst := some 28, op := AOp.load true 2 (Opd.t 7), guard := none }, { dst := some 29, op := AOp.call (Opd.c (AV.p (PV.fn 9))) [Opd.t 27, Opd.t 28], guard := none }, { dst := some 25, op := AOp.mv (Opd.t 29), guard := none }, { dst := some 30, op := AOp.extract 0 (Opd.t 25), guard := none }, { dst := some 31, op := AOp.extract 1 (Opd.t 25), guard := none }, { dst := some 8, op := AOp.alloc [AV.p (PV.int IntKind.i64 (0)), AV.p (PV.int IntKind.i64 (0)), AV.p (PV.str []), AV.p (PV.bool false)], guard := none }, { dst := none, op := AOp.store 4 (Opd.t 8) (Opd.t 30), guard := none }, { dst := some 9, op := AOp.mv (Opd.t 31), guard := none }]).seq ((ACode.draw 10 [0, 1, 0, 7, 15, 31, 31, 0, 191, 511] [{ dst := some 33, op := AOp.load true 4 (Opd.t 3), guard := none }, { dst := some 34, op := AOp.call (Opd.c (AV.p (PV.fn 10))) [Opd.t 33], guard := none }, { dst := some 35, op := AOp.load true 2 (Opd.t 7), guard := none }, { dst := some 36, op := AOp.call (Opd.c (AV.p (PV.fn 6))) [Opd.t 34, Opd.t 35], guard := none }, { dst := some 32, op := AOp.mv (Opd.t 36), guard := none }, { dst := some 37, op := AOp.extract 0 (Opd.t 32), guard := none }, { dst := some 38, op := AOp.extract 1 (Opd.t 32), guard := none }, { dst := some 10, op := AOp.alloc [AV.p (PV.int IntKind.i64 (0)), AV.p (PV.int IntKind.i64 (0)), AV.p (PV.str []), AV.p (PV.bool false)], guard := none }, { dst := none, op := AOp.store 4 (Opd.t 10) (Opd.t 37), guard := none }, { dst := some 11, op := AOp.mv (Opd.t 38), guard := none }]).seq (tail5))))))
theorem front5_eq : lit5.body = front5 := rfl
abbrev hp5 (R : List PV) (b sz k1 n1 : Int) (s1 : List UInt8) (t1 : Bool) (k2 n2 : Int) (s2 : List UInt8) (t2 : Bool) : Heap :=
  [Obj.arr (Cells.pv R) 0 0, Obj.arr (Cells.pv [.int .i64 b, .int .i64 sz]) 0 0, Obj.arr (Cells.pv [.int .i64 k1, .int .i64 n1, .str s1, .bool t1]) 0 0, Obj.arr (Cells.pv [.int .i64 k2, .int .i64 n2, .str s2, .bool t2]) 0 0]
section
variable (C : Oracle) (D : DOracle) (L : Nat) (R : List PV) (b sz k1 n1 : Int) (s1 : List UInt8) (t1 : Bool) (k2 n2 : Int) (s2 : List UInt8) (t2 : Bool) (ρ : Env)
theorem one (fixed : Bool) (e : List UInt8) (hr : Room fixed sz k1 s1 e) (g2 : ρ.get 2 = some (.p (.bool fixed))) (g7 : ρ.get 7 = some (.ptr 1 0 0)) (gp : ρ.get 8 = some (.ptr 2 0 0)) (ge : ρ.get 9 = some (.p (.str e))) :
    ∃ ρ' : Env, exec C L (.region ops8) ⟨ρ, [], (hp5 R b sz k1 n1 s1 t1 k2 n2 s2 t2)⟩ = some (.normal, ⟨ρ', [], (hp5 R b sz k1 n1 s1 t1 k2 n2 s2 t2)⟩) ∧ ρ'.get 12 = some (.p (.bool true)) ∧ ρ'.get 2 = ρ.get 2 ∧ ρ'.get 7 = ρ.get 7 ∧ ρ'.get 8 = ρ.get 8 ∧ ρ'.get 9 = ρ.get 9 ∧ ρ'.get 10 = ρ.get 10 ∧ ρ'.get 11 = ρ.get 11 := by
  unfold Room at hr
  rcases hr with a1 | ⟨rfl, a1⟩ | ⟨rfl, a1, a2⟩ | ⟨rfl, a1, a2, rfl, a4⟩
  · refine ⟨_, by simp [ops8, exec, runOps, wantedA, stepOp, pureOp, ev, Env.get_cons, putE, binA, strBin, ge, -beq_eq_false_iff_ne, -beq_iff_eq, a1]; rfl, ?_, ?_, ?_, ?_, ?_, ?_, ?_⟩
    all_goals simp [Env.get_cons]
  · refine ⟨_, by simp [ops8, exec, runOps, wantedA, stepOp, pureOp, allocOp, readOp, ev, Env.get_cons, putE, binA, intBin, strBin, partC, partP, gp, ge, -beq_eq_false_iff_ne, -beq_iff_eq, a1]; rfl, ?_, ?_, ?_, ?_, ?_, ?_, ?_⟩
    all_goals simp [Env.get_cons]
  · refine ⟨_, by simp [ops8, exec, runOps, wantedA, stepOp, pureOp, allocOp, readOp, ev, Env.get_cons, putE, binA, intBin, strBin, partC, partP, g7, gp, ge, -beq_eq_false_iff_ne, -beq_iff_eq, a1, a2]; rfl, ?_, ?_, ?_, ?_, ?_, ?_, ?_⟩
    all_goals simp [Env.get_cons]
  · refine ⟨_, by simp [ops8, exec, runOps, wantedA, stepOp, pureOp, allocOp, readOp, ev, Env.get_cons, putE, binA, intBin, strBin, unA, partC, partP, g2, g7, gp, ge, -beq_eq_false_iff_ne, -beq_iff_eq, a1, a2, a4]; rfl, ?_, ?_, ?_, ?_, ?_, ?_, ?_⟩
    all_goals simp [Env.get_cons]
theorem two (fixed : Bool) (e : List UInt8) (hr : Room fixed sz k2 s2 e) (g2 : ρ.get 2 = some (.p (.bool fixed))) (g7 : ρ.get 7 = some (.ptr 1 0 0)) (gp : ρ.get 10 = some (.ptr 3 0 0)) (ge : ρ.get 11 = some (.p (.str e))) :
    ∃ ρ' : Env, exec C L (.region ops9) ⟨ρ, [], (hp5 R b sz k1 n1 s1 t1 k2 n2 s2 t2)⟩ = some (.normal, ⟨ρ', [], (hp5 R b sz k1 n1 s1 t1 k2 n2 s2 t2)⟩) ∧ ρ'.get 13 = some (.p (.bool true)) ∧ ρ'.get 8 = ρ.get 8 ∧ ρ'.get 9 = ρ.get 9 ∧ ρ'.get 10 = ρ.get 10 ∧ ρ'.get 11 = ρ.get 11 ∧ ρ'.get 12 = ρ.get 12 := by
  unfold Room at hr
  rcases hr with a1 | ⟨rfl, a1⟩ | ⟨rfl, a1, a2⟩ | ⟨rfl, a1, a2, rfl, a4⟩
  · refine ⟨_, by simp [ops9, exec, runOps, wantedA, stepOp, pureOp, ev, Env.get_cons, putE, binA, strBin, ge, -beq_eq_false_iff_ne, -beq_iff_eq, a1]; rfl, ?_, ?_, ?_, ?_, ?_, ?_⟩
    all_goals simp [Env.get_cons]
  · refine ⟨_, by simp [ops9, exec, runOps, wantedA, stepOp, pureOp, allocOp, readOp, ev, Env.get_cons, putE, binA, intBin, strBin, partC, partP, gp, ge, -beq_eq_false_iff_ne, -beq_iff_eq, a1]; rfl, ?_, ?_, ?_, ?_, ?_, ?_⟩
    all_goals simp [Env.get_cons]
  · refine ⟨_, by simp [ops9, exec, runOps, wantedA, stepOp, pureOp, allocOp, readOp, ev, Env.get_cons, putE, binA, intBin, strBin, partC, partP, g7, gp, ge, -beq_eq_false_iff_ne, -beq_iff_eq, a1, a2]; rfl, ?_, ?_, ?_, ?_, ?_, ?_⟩
    all_goals simp [Env.get_cons]
  · refine ⟨_, by simp [ops9, exec, runOps, wantedA, stepOp, pureOp, allocOp, readOp, ev, Env.get_cons, putE, binA, intBin, strBin, unA, partC, partP, g2, g7, gp, ge, -beq_eq_false_iff_ne, -beq_iff_eq, a1, a2, a4]; rfl, ?_, ?_, ?_, ?_, ?_, ?_⟩
    all_goals simp [Env.get_cons]
theorem fin_bad (e1 _e2 : List UInt8) (a1 : (e1 == [48, 48, 48, 48, 48]) = false) (h8 : ∀ σ, C 8 [] σ = some (.ret (.p (.bool true)), σ)) (g9 : ρ.get 9 = some (.p (.str e1))) (g12 : ρ.get 12 = some (.p (.bool true))) (g13 : ρ.get 13 = some (.p (.bool true))) :
    ansV (finX D lit5 (exec C L (.seq (.region ops10) .ret) ⟨ρ, [], (hp5 R b sz k1 n1 s1 t1 k2 n2 s2 t2)⟩)) = some (.bool true) := by
  rw [seqN (a := .region _) (by simp [ops10, exec, runOps, wantedA, stepOp, pureOp, ev, evs, Env.get_cons, putE, binA, strBin, target, g9, g12, g13, h8, -beq_eq_false_iff_ne, -beq_iff_eq, a1]; rfl)]
  show _ = _
  kernel_rfl
theorem fin_good (h8 : ∀ σ, C 8 [] σ = some (.ret (.p (.bool true)), σ)) (g8 : ρ.get 8 = some (.ptr 2 0 0)) (g10 : ρ.get 10 = some (.ptr 3 0 0)) (g9 : ρ.get 9 = some (.p (.str [48, 48, 48, 48, 48]))) (g11 : ρ.get 11 = some (.p (.str [48, 48, 48, 48, 48]))) (g12 : ρ.get 12 = some (.p (.bool true))) (g13 : ρ.get 13 = some (.p (.bool true))) :
    ansV (finX D lit5 (exec C L (.seq (.region ops10) .ret) ⟨ρ, [], hp5 R b sz k1 n1 s1 t1 k1 n1 s1 t1⟩)) = some (.bool true) := by
  rw [seqN (a := .region _) (by simp [ops10, exec, runOps, wantedA, stepOp, pureOp, allocOp, readOp, ev, evs, Env.get_cons, putE, binA, strBin, partC, partP, target, eqP, eqPs, g8, g9, g10, g11, g12, g13, h8]; rfl)]
  show _ = _
  kernel_rfl
theorem tail5_ok (fixed : Bool) (e1 e2 : List UInt8) (h8 : ∀ σ, C 8 [] σ = some (.ret (.p (.bool true)), σ)) (hv : Room fixed sz k1 s1 e1) (hw : Room fixed sz k2 s2 e2)
    (hf : ((e1 == [48, 48, 48, 48, 48]) = false) ∨ (e1 = [48, 48, 48, 48, 48] ∧ e2 = [48, 48, 48, 48, 48] ∧ k2 = k1 ∧ n2 = n1 ∧ s2 = s1 ∧ t2 = t1))
    (g2 : ρ.get 2 = some (.p (.bool fixed))) (g7 : ρ.get 7 = some (.ptr 1 0 0)) (g8 : ρ.get 8 = some (.ptr 2 0 0)) (g9 : ρ.get 9 = some (.p (.str e1))) (g10 : ρ.get 10 = some (.ptr 3 0 0)) (g11 : ρ.get 11 = some (.p (.str e2))) :
    ansV (finX D lit5 (exec C L tail5 ⟨ρ, [], (hp5 R b sz k1 n1 s1 t1 k2 n2 s2 t2)⟩)) = some (.bool true) := by
  obtain ⟨ρ1, x1, y12, y2, y7, y8, y9, y10, y11⟩ := one C L R b sz k1 n1 s1 t1 k2 n2 s2 t2 ρ fixed e1 hv g2 g7 g8 g9
  obtain ⟨ρ2, x2, z13, z8, z9, z10, z11, z12⟩ := two C L R b sz k1 n1 s1 t1 k2 n2 s2 t2 ρ1 fixed e2 hw (y2.trans g2) (y7.trans g7) (y10.trans g10) (y11.trans g11)
  unfold tail5
  rw [seqN x1, seqN x2]
  rcases hf with a1 | ⟨rfl, rfl, rfl, rfl, rfl, rfl⟩
  · exact fin_bad C D L R b sz k1 n1 s1 t1 k2 n2 s2 t2 ρ2 e1 e2 a1 h8 (z9.trans (y9.trans g9)) (z12.trans y12) z13
  · exact fin_good C D L R b sz _ _ _ _ ρ2 h8 (z8.trans (y8.trans g8)) (z10.trans (y10.trans g10)) (z9.trans (y9.trans g9)) (z11.trans (y11.trans g11)) (z12.trans y12) z13
end
theorem law5_true (C : Oracle) (D : DOracle) (L : Nat) (z sz : Int) (hz1 : -9223372036854775808 ≤ z) (hz2 : z ≤ 9223372036854775807) (hsz : lenZ z = sz) (r0 r1 r2 r3 v0 v1 v2 v3 : PV)
    (k1 n1 : Int) (s1 : List UInt8) (t1 : Bool) (e1 : List UInt8) (k2 n2 : Int) (s2 : List UInt8) (t2 : Bool) (e2 : List UInt8)
    (h8 : ∀ σ, C 8 [] σ = some (.ret (.p (.bool true)), σ)) (h10 : ∀ σ, C 10 [.p (.agg [r0, r1, r2, r3])] σ = some (.ret (.p (.agg [v0, v1, v2, v3])), σ))
    (h9 : ∀ σ, C 9 [.p (.agg [v0, v1, v2, v3]), .p (.agg [.int .i64 4, .int .i64 sz])] σ = some (.ret (.p (.tup [.agg [.int .i64 k1, .int .i64 n1, .str s1, .bool t1], .str e1])), σ)) (h6 : ∀ σ, C 6 [.p (.agg [v0, v1, v2, v3]), .p (.agg [.int .i64 4, .int .i64 sz])] σ = some (.ret (.p (.tup [.agg [.int .i64 k2, .int .i64 n2, .str s2, .bool t2], .str e2])), σ))
    (hv : Room true sz k1 s1 e1) (hw : Room true sz k2 s2 e2) (hf : ((e1 == [48, 48, 48, 48, 48]) = false) ∨ (e1 = [48, 48, 48, 48, 48] ∧ e2 = [48, 48, 48, 48, 48] ∧ k2 = k1 ∧ n2 = n1 ∧ s2 = s1 ∧ t2 = t1)) :
    ansV (runFunc C D L lit5 [.p (.agg [r0, r1, r2, r3]), .p (.int .i64 z), .p (.bool true)] []) = some (.bool true) := by
  have q3 : IntKind.i64.wrap (1 + (sizeZ z).tmod 100) = sz := by
    have : (sizeZ z).tmod 100 = sizeZ z % 100 := Int.tmod_eq_emod_of_nonneg (by unfold sizeZ; split <;> omega)
    rw [this, ← hsz]
    exact wrap_id _ (by have := lenZ_of z; unfold lenZ at this; omega) (by have := lenZ_of z; unfold lenZ at this; omega)
  rw [runFunc_eq, front5_eq]
  unfold front5
  rw [seqN (a := .region _) (by simp [params, exec, runOps, wantedA, stepOp, pureOp, allocOp, ev, Env.get_cons, putE, AV.fit, AV.toCells, Cells.len]; rfl)]
  have step : ∃ ρ : Env, exec C L (.seq (.region [{ dst := some 14, op := AOp.mv (Opd.t 1), guard := none }, { dst := some 15, op := AOp.bin (Bin.plain BinOp.lss) (Opd.t 14) (Opd.c (AV.p (PV.int IntKind.i64 (0)))), guard := none }]) (.cond (Opd.t 15) (.region [{ dst := some 16, op := AOp.mv (Opd.t 1), guard := none }, { dst := some 17, op := AOp.bin (Bin.plain BinOp.add) (Opd.t 16) (Opd.c (AV.p (PV.int IntKind.i64 (1)))), guard := none }, { dst := some 18, op := AOp.un UnOp.neg (Opd.t 17), guard := none }, { dst := some 1, op := AOp.mv (Opd.t 18), guard := none }]) .skip))
      ⟨[(6, .p (.bool false)), (3, .ptr 0 0 0), (0, .p (.agg [r0, r1, r2, r3])), (1, .p (.int .i64 z)), (2, .p (.bool true))], [], [Obj.arr (Cells.pv [r0, r1, r2, r3]) 0 0]⟩ = some (.normal, ⟨ρ, [], [Obj.arr (Cells.pv [r0, r1, r2, r3]) 0 0]⟩) ∧
      ρ.get 1 = some (.p (.int .i64 (sizeZ z))) ∧ ρ.get 2 = some (.p (.bool true)) ∧ ρ.get 3 = some (.ptr 0 0 0) := by
    unfold sizeZ
    by_cases h : z < 0
    · have q1 : IntKind.i64.wrap (z + 1) = z + 1 := wrap_id _ (by omega) (by omega)
      have q2 : IntKind.i64.wrap (-(z + 1)) = -(z + 1) := wrap_id _ (by omega) (by omega)
      refine ⟨_, by simp [exec, runOps, wantedA, stepOp, pureOp, ev, Env.get_cons, putE, binA, intBin, unA, h, q1, q2]; rfl, ?_, ?_, ?_⟩
      all_goals simp [Env.get_cons, h]
    · refine ⟨_, by simp [exec, runOps, wantedA, stepOp, pureOp, ev, Env.get_cons, putE, binA, intBin, h]; rfl, ?_, ?_, ?_⟩
      all_goals simp [Env.get_cons, h]
  obtain ⟨ρ, he, g1, g2, g3⟩ := step
  erw [seqN he]
  rw [seqN (a := .region _) (by simp [exec, runOps, wantedA, stepOp, pureOp, allocOp, readOp, effOp, ev, Env.get_cons, putE, binA, intBin, AV.fit, AV.toCells, mkCells, allP, mkAgg, Cells.len, evParts, fillA, spliceC, splice, AV.cells, g1, q3]; rfl)]
  rw [seqN (a := .seq (.region _) (.cond _ _ _)) (by simp [exec, runOps, wantedA, stepOp, pureOp, allocOp, readOp, effOp, ev, Env.get_cons, putE, AV.fit, AV.toCells, Cells.len, spliceC, splice, g2]; rfl)]
  rw [seqN (a := .draw _ _ _) (by
    unfold exec drawExec
    rw [drawR (v := .p (.agg [r0, r1, r2, r3])) (id := 0) (by simp [wantedA]) rfl (by simp [keepE, readsOf, opds, tmpsOf, stillOp, pureOp, refOf, refV, ev, Env.get_cons, g3, readOp, oneH, partC, partP])]
    simp only [putE, Nat.reduceAdd]
    rw [drawE (by simp [wantedA]) rfl (by simp [keepE, readsOf, opds, tmpsOf, runOps, wantedA, ev, evs, target, Env.get_cons, putE, h10]; rfl)]
    simp only [carry, Env.get_cons, reduceIte, Nat.reduceEqDiff, Nat.reduceAdd]
    rw [drawR (v := .p (.agg [.int .i64 4, .int .i64 sz])) (id := 1) (by simp [wantedA]) rfl (by simp [keepE, readsOf, opds, tmpsOf, stillOp, pureOp, refOf, refV, ev, Env.get_cons, readOp, oneH, partC, partP])]
    simp only [putE, Nat.reduceAdd]
    rw [drawE (by simp [wantedA]) rfl (by simp [keepE, readsOf, opds, tmpsOf, runOps, wantedA, ev, evs, target, Env.get_cons, putE, h9]; rfl)]
    simp only [carry, Env.get_cons, reduceIte, Nat.reduceEqDiff, Nat.reduceAdd]
    rw [drawS (v := .p (.tup [.agg [.int .i64 k1, .int .i64 n1, .str s1, .bool t1], .str e1])) (by simp [wantedA]) rfl (by simp [keepE, readsOf, opds, tmpsOf, stillOp, pureOp, ev, Env.get_cons])]
    simp only [putE, Nat.reduceAdd]
    rw [drawS (v := .p (.agg [.int .i64 k1, .int .i64 n1, .str s1, .bool t1])) (by simp [wantedA]) rfl (by simp [keepE, readsOf, opds, tmpsOf, stillOp, pureOp, ev, Env.get_cons, extractA])]
    simp only [putE, Nat.reduceAdd]
    rw [drawS (v := .p (.str e1)) (by simp [wantedA]) rfl (by simp [keepE, readsOf, opds, tmpsOf, stillOp, pureOp, ev, Env.get_cons, extractA])]
    simp only [putE, Nat.reduceAdd]
    rw [drawE (by simp [wantedA]) rfl (by simp [keepE, readsOf, opds, tmpsOf, runOps, wantedA, stepOp, pureOp, allocOp, putE, mkCells, allP]; rfl)]
    simp only [carry, Env.get_cons, reduceIte, Nat.reduceAdd]
    rw [drawE (by simp [wantedA]) rfl (by simp [keepE, readsOf, opds, tmpsOf, runOps, wantedA, stepOp, pureOp, allocOp, readOp, effOp, ev, Env.get_cons, putE, AV.fit, AV.toCells, Cells.len, splice, spliceC]; rfl)]
    simp only [carry, Nat.reduceAdd]
    rw [drawS (v := .p (.str e1)) (by simp [wantedA]) rfl (by simp [keepE, readsOf, opds, tmpsOf, stillOp, pureOp, ev, Env.get_cons])]
    simp only [putE, Nat.reduceAdd]
    simp only [drawRun]
    refine if_pos ?_
    show _ = _
    kernel_rfl)]
  rw [seqN (a := .draw _ _ _) (by
    unfold exec drawExec
    rw [drawR (v := .p (.agg [r0, r1, r2, r3])) (id := 0) (by simp [wantedA]) rfl (by simp [keepE, readsOf, opds, tmpsOf, stillOp, pureOp, refOf, refV, ev, Env.get_cons, g3, readOp, oneH, partC, partP])]
    simp only [putE, Nat.reduceAdd]
    rw [drawE (by simp [wantedA]) rfl (by simp [keepE, readsOf, opds, tmpsOf, runOps, wantedA, ev, evs, target, Env.get_cons, putE, h10]; rfl)]
    simp only [carry, Env.get_cons, reduceIte, Nat.reduceEqDiff, Nat.reduceAdd]
    rw [drawR (v := .p (.agg [.int .i64 4, .int .i64 sz])) (id := 1) (by simp [wantedA]) rfl (by simp [keepE, readsOf, opds, tmpsOf, stillOp, pureOp, refOf, refV, ev, Env.get_cons, readOp, oneH, partC, partP])]
    simp only [putE, Nat.reduceAdd]
    rw [drawE (by simp [wantedA]) rfl (by simp [keepE, readsOf, opds, tmpsOf, runOps, wantedA, ev, evs, target, Env.get_cons, putE, h6]; rfl)]
    simp only [carry, Env.get_cons, reduceIte, Nat.reduceEqDiff, Nat.reduceAdd]
    rw [drawS (v := .p (.tup [.agg [.int .i64 k2, .int .i64 n2, .str s2, .bool t2], .str e2])) (by simp [wantedA]) rfl (by simp [keepE, readsOf, opds, tmpsOf, stillOp, pureOp, ev, Env.get_cons])]
    simp only [putE, Nat.reduceAdd]
    rw [drawS (v := .p (.agg [.int .i64 k2, .int .i64 n2, .str s2, .bool t2])) (by simp [wantedA]) rfl (by simp [keepE, readsOf, opds, tmpsOf, stillOp, pureOp, ev, Env.get_cons, extractA])]
    simp only [putE, Nat.reduceAdd]
    rw [drawS (v := .p (.str e2)) (by simp [wantedA]) rfl (by simp [keepE, readsOf, opds, tmpsOf, stillOp, pureOp, ev, Env.get_cons, extractA])]
    simp only [putE, Nat.reduceAdd]
    rw [drawE (by simp [wantedA]) rfl (by simp [keepE, readsOf, opds, tmpsOf, runOps, wantedA, stepOp, pureOp, allocOp, putE, mkCells, allP]; rfl)]
    simp only [carry, Env.get_cons, reduceIte, Nat.reduceAdd]
    rw [drawE (by simp [wantedA]) rfl (by simp [keepE, readsOf, opds, tmpsOf, runOps, wantedA, stepOp, pureOp, allocOp, readOp, effOp, ev, Env.get_cons, putE, AV.fit, AV.toCells, Cells.len, splice, spliceC]; rfl)]
    simp only [carry, Nat.reduceAdd]
    rw [drawS (v := .p (.str e2)) (by simp [wantedA]) rfl (by simp [keepE, readsOf, opds, tmpsOf, stillOp, pureOp, ev, Env.get_cons])]
    simp only [putE, Nat.reduceAdd]
    simp only [drawRun]
    refine if_pos ?_
    show _ = _
    kernel_rfl)]
  exact tail5_ok C D L [r0, r1, r2, r3] 4 sz k1 n1 s1 t1 k2 n2 s2 t2 _ true e1 e2 h8 hv hw hf (by simp [Env.get_cons, g2]) (by simp [Env.get_cons]) (by simp [Env.get_cons]) (by simp [Env.get_cons]) (by simp [Env.get_cons]) (by simp [Env.get_cons])
theorem law5_false (C : Oracle) (D : DOracle) (L : Nat) (z sz : Int) (hz1 : -9223372036854775808 ≤ z) (hz2 : z ≤ 9223372036854775807) (hsz : lenZ z = sz) (r0 r1 r2 r3 v0 v1 v2 v3 : PV)
    (k1 n1 : Int) (s1 : List UInt8) (t1 : Bool) (e1 : List UInt8) (k2 n2 : Int) (s2 : List UInt8) (t2 : Bool) (e2 : List UInt8)
    (h8 : ∀ σ, C 8 [] σ = some (.ret (.p (.bool true)), σ)) (h10 : ∀ σ, C 10 [.p (.agg [r0, r1, r2, r3])] σ = some (.ret (.p (.agg [v0, v1, v2, v3])), σ))
    (h9 : ∀ σ, C 9 [.p (.agg [v0, v1, v2, v3]), .p (.agg [.int .i64 5, .int .i64 sz])] σ = some (.ret (.p (.tup [.agg [.int .i64 k1, .int .i64 n1, .str s1, .bool t1], .str e1])), σ)) (h6 : ∀ σ, C 6 [.p (.agg [v0, v1, v2, v3]), .p (.agg [.int .i64 5, .int .i64 sz])] σ = some (.ret (.p (.tup [.agg [.int .i64 k2, .int .i64 n2, .str s2, .bool t2], .str e2])), σ))
    (hv : Room false sz k1 s1 e1) (hw : Room false sz k2 s2 e2) (hf : ((e1 == [48, 48, 48, 48, 48]) = false) ∨ (e1 = [48, 48, 48, 48, 48] ∧ e2 = [48, 48, 48, 48, 48] ∧ k2 = k1 ∧ n2 = n1 ∧ s2 = s1 ∧ t2 = t1)) :
    ansV (runFunc C D L lit5 [.p (.agg [r0, r1, r2, r3]), .p (.int .i64 z), .p (.bool false)] []) = some (.bool true) := by
  have q3 : IntKind.i64.wrap (1 + (sizeZ z).tmod 100) = sz := by
    have : (sizeZ z).tmod 100 = sizeZ z % 100 := Int.tmod_eq_emod_of_nonneg (by unfold sizeZ; split <;> omega)
    rw [this, ← hsz]
    exact wrap_id _ (by have := lenZ_of z; unfold lenZ at this; omega) (by have := lenZ_of z; unfold lenZ at this; omega)
  rw [runFunc_eq, front5_eq]
  unfold front5
  rw [seqN (a := .region _) (by simp [params, exec, runOps, wantedA, stepOp, pureOp, allocOp, ev, Env.get_cons, putE, AV.fit, AV.toCells, Cells.len]; rfl)]
  have step : ∃ ρ : Env, exec C L (.seq (.region [{ dst := some 14, op := AOp.mv (Opd.t 1), guard := none }, { dst := some 15, op := AOp.bin (Bin.plain BinOp.lss) (Opd.t 14) (Opd.c (AV.p (PV.int IntKind.i64 (0)))), guard := none }]) (.cond (Opd.t 15) (.region [{ dst := some 16, op := AOp.mv (Opd.t 1), guard := none }, { dst := some 17, op := AOp.bin (Bin.plain BinOp.add) (Opd.t 16) (Opd.c (AV.p (PV.int IntKind.i64 (1)))), guard := none }, { dst := some 18, op := AOp.un UnOp.neg (Opd.t 17), guard := none }, { dst := some 1, op := AOp.mv (Opd.t 18), guard := none }]) .skip))
      ⟨[(6, .p (.bool false)), (3, .ptr 0 0 0), (0, .p (.agg [r0, r1, r2, r3])), (1, .p (.int .i64 z)), (2, .p (.bool false))], [], [Obj.arr (Cells.pv [r0, r1, r2, r3]) 0 0]⟩ = some (.normal, ⟨ρ, [], [Obj.arr (Cells.pv [r0, r1, r2, r3]) 0 0]⟩) ∧
      ρ.get 1 = some (.p (.int .i64 (sizeZ z))) ∧ ρ.get 2 = some (.p (.bool false)) ∧ ρ.get 3 = some (.ptr 0 0 0) := by
    unfold sizeZ
    by_cases h : z < 0
    · have q1 : IntKind.i64.wrap (z + 1) = z + 1 := wrap_id _ (by omega) (by omega)
      have q2 : IntKind.i64.wrap (-(z + 1)) = -(z + 1) := wrap_id _ (by omega) (by omega)
      refine ⟨_, by simp [exec, runOps, wantedA, stepOp, pureOp, ev, Env.get_cons, putE, binA, intBin, unA, h, q1, q2]; rfl, ?_, ?_, ?_⟩
      all_goals simp [Env.get_cons, h]
    · refine ⟨_, by simp [exec, runOps, wantedA, stepOp, pureOp, ev, Env.get_cons, putE, binA, intBin, h]; rfl, ?_, ?_, ?_⟩
      all_goals simp [Env.get_cons, h]
  obtain ⟨ρ, he, g1, g2, g3⟩ := step
  erw [seqN he]
  rw [seqN (a := .region _) (by simp [exec, runOps, wantedA, stepOp, pureOp, allocOp, readOp, effOp, ev, Env.get_cons, putE, binA, intBin, AV.fit, AV.toCells, mkCells, allP, mkAgg, Cells.len, evParts, fillA, spliceC, splice, AV.cells, g1, q3]; rfl)]
  rw [seqN (a := .seq (.region _) (.cond _ _ _)) (by simp [exec, runOps, wantedA, stepOp, pureOp, ev, Env.get_cons, putE, g2]; rfl)]
  rw [seqN (a := .draw _ _ _) (by
    unfold exec drawExec
    rw [drawR (v := .p (.agg [r0, r1, r2, r3])) (id := 0) (by simp [wantedA]) rfl (by simp [keepE, readsOf, opds, tmpsOf, stillOp, pureOp, refOf, refV, ev, Env.get_cons, g3, readOp, oneH, partC, partP])]
    simp only [putE, Nat.reduceAdd]
    rw [drawE (by simp [wantedA]) rfl (by simp [keepE, readsOf, opds, tmpsOf, runOps, wantedA, ev, evs, target, Env.get_cons, putE, h10]; rfl)]
    simp only [carry, Env.get_cons, reduceIte, Nat.reduceEqDiff, Nat.reduceAdd]
    rw [drawR (v := .p (.agg [.int .i64 5, .int .i64 sz])) (id := 1) (by simp [wantedA]) rfl (by simp [keepE, readsOf, opds, tmpsOf, stillOp, pureOp, refOf, refV, ev, Env.get_cons, readOp, oneH, partC, partP])]
    simp only [putE, Nat.reduceAdd]
    rw [drawE (by simp [wantedA]) rfl (by simp [keepE, readsOf, opds, tmpsOf, runOps, wantedA, ev, evs, target, Env.get_cons, putE, h9]; rfl)]
    simp only [carry, Env.get_cons, reduceIte, Nat.reduceEqDiff, Nat.reduceAdd]
    rw [drawS (v := .p (.tup [.agg [.int .i64 k1, .int .i64 n1, .str s1, .bool t1], .str e1])) (by simp [wantedA]) rfl (by simp [keepE, readsOf, opds, tmpsOf, stillOp, pureOp, ev, Env.get_cons])]
    simp only [putE, Nat.reduceAdd]
    rw [drawS (v := .p (.agg [.int .i64 k1, .int .i64 n1, .str s1, .bool t1])) (by simp [wantedA]) rfl (by simp [keepE, readsOf, opds, tmpsOf, stillOp, pureOp, ev, Env.get_cons, extractA])]
    simp only [putE, Nat.reduceAdd]
    rw [drawS (v := .p (.str e1)) (by simp [wantedA]) rfl (by simp [keepE, readsOf, opds, tmpsOf, stillOp, pureOp, ev, Env.get_cons, extractA])]
    simp only [putE, Nat.reduceAdd]
    rw [drawE (by simp [wantedA]) rfl (by simp [keepE, readsOf, opds, tmpsOf, runOps, wantedA, stepOp, pureOp, allocOp, putE, mkCells, allP]; rfl)]
    simp only [carry, Env.get_cons, reduceIte, Nat.reduceAdd]
    rw [drawE (by simp [wantedA]) rfl (by simp [keepE, readsOf, opds, tmpsOf, runOps, wantedA, stepOp, pureOp, allocOp, readOp, effOp, ev, Env.get_cons, putE, AV.fit, AV.toCells, Cells.len, splice, spliceC]; rfl)]
    simp only [carry, Nat.reduceAdd]
    rw [drawS (v := .p (.str e1)) (by simp [wantedA]) rfl (by simp [keepE, readsOf, opds, tmpsOf, stillOp, pureOp, ev, Env.get_cons])]
    simp only [putE, Nat.reduceAdd]
    simp only [drawRun]
    refine if_pos ?_
    show _ = _
    kernel_rfl)]
  rw [seqN (a := .draw _ _ _) (by
    unfold exec drawExec
    rw [drawR (v := .p (.agg [r0, r1, r2, r3])) (id := 0) (by simp [wantedA]) rfl (by simp [keepE, readsOf, opds, tmpsOf, stillOp, pureOp, refOf, refV, ev, Env.get_cons, g3, readOp, oneH, partC, partP])]
    simp only [putE, Nat.reduceAdd]
    rw [drawE (by simp [wantedA]) rfl (by simp [keepE, readsOf, opds, tmpsOf, runOps, wantedA, ev, evs, target, Env.get_cons, putE, h10]; rfl)]
    simp only [carry, Env.get_cons, reduceIte, Nat.reduceEqDiff, Nat.reduceAdd]
    rw [drawR (v := .p (.agg [.int .i64 5, .int .i64 sz])) (id := 1) (by simp [wantedA]) rfl (by simp [keepE, readsOf, opds, tmpsOf, stillOp, pureOp, refOf, refV, ev, Env.get_cons, readOp, oneH, partC, partP])]
    simp only [putE, Nat.reduceAdd]
    rw [drawE (by simp [wantedA]) rfl (by simp [keepE, readsOf, opds, tmpsOf, runOps, wantedA, ev, evs, target, Env.get_cons, putE, h6]; rfl)]
    simp only [carry, Env.get_cons, reduceIte, Nat.reduceEqDiff, Nat.reduceAdd]
    rw [drawS (v := .p (.tup [.agg [.int .i64 k2, .int .i64 n2, .str s2, .bool t2], .str e2])) (by simp [wantedA]) rfl (by simp [keepE, readsOf, opds, tmpsOf, stillOp, pureOp, ev, Env.get_cons])]
    simp only [putE, Nat.reduceAdd]
    rw [drawS (v := .p (.agg [.int .i64 k2, .int .i64 n2, .str s2, .bool t2])) (by simp [wantedA]) rfl (by simp [keepE, readsOf, opds, tmpsOf, stillOp, pureOp, ev, Env.get_cons, extractA])]
    simp only [putE, Nat.reduceAdd]
    rw [drawS (v := .p (.str e2)) (by simp [wantedA]) rfl (by simp [keepE, readsOf, opds, tmpsOf, stillOp, pureOp, ev, Env.get_cons, extractA])]
    simp only [putE, Nat.reduceAdd]
    rw [drawE (by simp [wantedA]) rfl (by simp [keepE, readsOf, opds, tmpsOf, runOps, wantedA, stepOp, pureOp, allocOp, putE, mkCells, allP]; rfl)]
    simp only [carry, Env.get_cons, reduceIte, Nat.reduceAdd]
    rw [drawE (by simp [wantedA]) rfl (by simp [keepE, readsOf, opds, tmpsOf, runOps, wantedA, stepOp, pureOp, allocOp, readOp, effOp, ev, Env.get_cons, putE, AV.fit, AV.toCells, Cells.len, splice, spliceC]; rfl)]
    simp only [carry, Nat.reduceAdd]
    rw [drawS (v := .p (.str e2)) (by simp [wantedA]) rfl (by simp [keepE, readsOf, opds, tmpsOf, stillOp, pureOp, ev, Env.get_cons])]
    simp only [putE, Nat.reduceAdd]
    simp only [drawRun]
    refine if_pos ?_
    show _ = _
    kernel_rfl)]
  exact tail5_ok C D L [r0, r1, r2, r3] 5 sz k1 n1 s1 t1 k2 n2 s2 t2 _ false e1 e2 h8 hv hw hf (by simp [Env.get_cons, g2]) (by simp [Env.get_cons]) (by simp [Env.get_cons]) (by simp [Env.get_cons]) (by simp [Env.get_cons]) (by simp [Env.get_cons])

end Go.Ab.Long
