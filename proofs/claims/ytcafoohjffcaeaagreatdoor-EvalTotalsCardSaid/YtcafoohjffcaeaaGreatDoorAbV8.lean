/- EvalCounts: slices.MinFunc and slices.MaxFunc. -/
import Derived.Test.YtcafoohjffcaeaaGreatDoorAbV6
set_option linter.unusedSectionVars false
set_option linter.unusedSimpArgs false
set_option linter.unusedVariables false
set_option maxRecDepth 1000000
namespace Go.Ab.Cnt
open Go Go.Ab Go.Ab.Key Go.Proofs
variable [Marks]
def lit29 : AFunc := { ntmps := 33, results := [ARes.cell 4 true 4], body := (ACode.region [{ dst := some 4, op := AOp.alloc 30 [AV.p (PV.int IntKind.i64 (0)), AV.p (PV.int IntKind.i64 (0)), AV.p (PV.str []), AV.p (PV.bool false)], guard := none }]).seq (((ACode.region [{ dst := some 7, op := AOp.mv (Opd.t 0), guard := none }, { dst := some 8, op := AOp.len false (Opd.t 7), guard := none }, { dst := some 9, op := AOp.bin (Bin.plain BinOp.lss) (Opd.t 8) (Opd.c (AV.p (PV.int IntKind.i64 (1)))), guard := none }]).seq (ACode.cond (Opd.t 9) (ACode.region [{ dst := some 10, op := AOp.mkIface 9 (Opd.c (AV.p (PV.str [115, 108, 105, 99, 101, 115, 46, 77, 105, 110, 70, 117, 110, 99, 58, 32, 101, 109, 112, 116, 121, 32, 108, 105, 115, 116]))), guard := none }, { dst := none, op := AOp.panic (Opd.t 10), guard := none }]) ACode.skip)).seq ((ACode.region [{ dst := some 11, op := AOp.mv (Opd.t 0), guard := none }, { dst := some 12, op := AOp.idx 4 (Opd.t 11) (Opd.c (AV.p (PV.int IntKind.i64 (0)))), guard := none }, { dst := some 13, op := AOp.load true 4 (Opd.t 12), guard := none }, { dst := some 5, op := AOp.alloc 30 [AV.p (PV.int IntKind.i64 (0)), AV.p (PV.int IntKind.i64 (0)), AV.p (PV.str []), AV.p (PV.bool false)], guard := none }, { dst := none, op := AOp.store 4 (Opd.t 5) (Opd.t 13), guard := none }]).seq (((ACode.region [{ dst := some 6, op := AOp.mv (Opd.c (AV.p (PV.int IntKind.i64 (1)))), guard := none }]).seq (ACode.block 0 (ACode.loop none (((ACode.region [{ dst := some 14, op := AOp.mv (Opd.t 6), guard := none }, { dst := some 15, op := AOp.mv (Opd.t 0), guard := none }, { dst := some 16, op := AOp.len false (Opd.t 15), guard := none }, { dst := some 17, op := AOp.bin (Bin.plain BinOp.lss) (Opd.t 14) (Opd.t 16), guard := none }]).seq (ACode.cond (Opd.t 17) ACode.skip (ACode.exit 0))).seq ((ACode.block 1 ((ACode.draw 8 [0, 0, 0, 6, 14, 0, 63, 127] [{ dst := some 20, op := AOp.mv (Opd.t 1), guard := none }, { dst := some 21, op := AOp.mv (Opd.t 0), guard := none }, { dst := some 22, op := AOp.mv (Opd.t 6), guard := none }, { dst := some 23, op := AOp.idx 4 (Opd.t 21) (Opd.t 22), guard := none }, { dst := some 24, op := AOp.load true 4 (Opd.t 23), guard := none }, { dst := some 25, op := AOp.load true 4 (Opd.t 5), guard := none }, { dst := some 26, op := AOp.call (Opd.t 20) [Opd.t 24, Opd.t 25], guard := none }, { dst := some 27, op := AOp.bin (Bin.plain BinOp.lss) (Opd.t 26) (Opd.c (AV.p (PV.int IntKind.i64 (0)))), guard := none }]).seq (ACode.cond (Opd.t 27) (ACode.region [{ dst := some 28, op := AOp.mv (Opd.t 0), guard := none }, { dst := some 29, op := AOp.mv (Opd.t 6), guard := none }, { dst := some 30, op := AOp.idx 4 (Opd.t 28) (Opd.t 29), guard := none }, { dst := some 31, op := AOp.load true 4 (Opd.t 30), guard := none }, { dst := none, op := AOp.store 4 (Opd.t 5) (Opd.t 31), guard := none }]) ACode.skip))).seq (ACode.region [{ dst := some 18, op := AOp.mv (Opd.t 6), guard := none }, { dst := some 19, op := AOp.bin (Bin.plain BinOp.add) (Opd.t 18) (Opd.c (AV.p (PV.int IntKind.i64 (1)))), guard := none }, { dst := some 6, op := AOp.mv (Opd.t 19), guard := none }])))))).seq ((ACode.region [{ dst := some 32, op := AOp.load true 4 (Opd.t 5), guard := none }, { dst := none, op := AOp.store 4 (Opd.t 4) (Opd.t 32), guard := none }]).seq ACode.ret)))) }
def body29 : ACode := (((ACode.region [{ dst := some 14, op := AOp.mv (Opd.t 6), guard := none }, { dst := some 15, op := AOp.mv (Opd.t 0), guard := none }, { dst := some 16, op := AOp.len false (Opd.t 15), guard := none }, { dst := some 17, op := AOp.bin (Bin.plain BinOp.lss) (Opd.t 14) (Opd.t 16), guard := none }]).seq (ACode.cond (Opd.t 17) ACode.skip (ACode.exit 0))).seq ((ACode.block 1 ((ACode.draw 8 [0, 0, 0, 6, 14, 0, 63, 127] [{ dst := some 20, op := AOp.mv (Opd.t 1), guard := none }, { dst := some 21, op := AOp.mv (Opd.t 0), guard := none }, { dst := some 22, op := AOp.mv (Opd.t 6), guard := none }, { dst := some 23, op := AOp.idx 4 (Opd.t 21) (Opd.t 22), guard := none }, { dst := some 24, op := AOp.load true 4 (Opd.t 23), guard := none }, { dst := some 25, op := AOp.load true 4 (Opd.t 5), guard := none }, { dst := some 26, op := AOp.call (Opd.t 20) [Opd.t 24, Opd.t 25], guard := none }, { dst := some 27, op := AOp.bin (Bin.plain BinOp.lss) (Opd.t 26) (Opd.c (AV.p (PV.int IntKind.i64 (0)))), guard := none }]).seq (ACode.cond (Opd.t 27) (ACode.region [{ dst := some 28, op := AOp.mv (Opd.t 0), guard := none }, { dst := some 29, op := AOp.mv (Opd.t 6), guard := none }, { dst := some 30, op := AOp.idx 4 (Opd.t 28) (Opd.t 29), guard := none }, { dst := some 31, op := AOp.load true 4 (Opd.t 30), guard := none }, { dst := none, op := AOp.store 4 (Opd.t 5) (Opd.t 31), guard := none }]) ACode.skip))).seq (ACode.region [{ dst := some 18, op := AOp.mv (Opd.t 6), guard := none }, { dst := some 19, op := AOp.bin (Bin.plain BinOp.add) (Opd.t 18) (Opd.c (AV.p (PV.int IntKind.i64 (1)))), guard := none }, { dst := some 6, op := AOp.mv (Opd.t 19), guard := none }])))
theorem lit29_eq : lit29.body = (ACode.region [{ dst := some 4, op := AOp.alloc 30 [AV.p (PV.int IntKind.i64 (0)), AV.p (PV.int IntKind.i64 (0)), AV.p (PV.str []), AV.p (PV.bool false)], guard := none }]).seq (((ACode.region [{ dst := some 7, op := AOp.mv (Opd.t 0), guard := none }, { dst := some 8, op := AOp.len false (Opd.t 7), guard := none }, { dst := some 9, op := AOp.bin (Bin.plain BinOp.lss) (Opd.t 8) (Opd.c (AV.p (PV.int IntKind.i64 (1)))), guard := none }]).seq (ACode.cond (Opd.t 9) (ACode.region [{ dst := some 10, op := AOp.mkIface 9 (Opd.c (AV.p (PV.str [115, 108, 105, 99, 101, 115, 46, 77, 105, 110, 70, 117, 110, 99, 58, 32, 101, 109, 112, 116, 121, 32, 108, 105, 115, 116]))), guard := none }, { dst := none, op := AOp.panic (Opd.t 10), guard := none }]) ACode.skip)).seq ((ACode.region [{ dst := some 11, op := AOp.mv (Opd.t 0), guard := none }, { dst := some 12, op := AOp.idx 4 (Opd.t 11) (Opd.c (AV.p (PV.int IntKind.i64 (0)))), guard := none }, { dst := some 13, op := AOp.load true 4 (Opd.t 12), guard := none }, { dst := some 5, op := AOp.alloc 30 [AV.p (PV.int IntKind.i64 (0)), AV.p (PV.int IntKind.i64 (0)), AV.p (PV.str []), AV.p (PV.bool false)], guard := none }, { dst := none, op := AOp.store 4 (Opd.t 5) (Opd.t 13), guard := none }]).seq (((ACode.region [{ dst := some 6, op := AOp.mv (Opd.c (AV.p (PV.int IntKind.i64 (1)))), guard := none }]).seq (ACode.block 0 (ACode.loop none body29))).seq ((ACode.region [{ dst := some 32, op := AOp.load true 4 (Opd.t 5), guard := none }, { dst := none, op := AOp.store 4 (Opd.t 4) (Opd.t 32), guard := none }]).seq ACode.ret)))) := rfl
section
variable (C : Oracle) (L : Nat) (x : List V) (m : V) (ρ : Env) (o0 : Obj) (ty : Option Nat)
/-- the loop's state -/
structure At29 (ρ : Env) (i : Nat) : Prop where
  t0 : ρ.get 0 = some (.p (.vsl (vcs x) x.length))
  t1 : ρ.get 1 = some (.p (.fn 24))
  t4 : ρ.get 4 = some (.ptr 0 0 0)
  t5 : ρ.get 5 = some (.ptr 1 0 0)
  t6 : ρ.get 6 = some (.p (.int .i64 (i : Int)))
theorem stop29 (σ : Heap) (h : At29 x ρ x.length) : ∃ ρ', exec C L body29 ⟨ρ, [], σ⟩ = some (.exit 0, ⟨ρ', [], σ⟩) ∧ At29 x ρ' x.length :=
  ⟨_, by simp [body29, exec, runOps, wantedA, stepOp, pureOp, allocOp, readOp, effOp, ev, evs, evO, Env.get_cons, putE, binA, intBin, unA, AV.fit, AV.toCells, partC, partP, mkCells, allP, mkAgg, Cells.len, target, lenA, h.t0, h.t6]; rfl, ⟨by simp [Env.get_cons, h.t0], by simp [Env.get_cons, h.t1], by simp [Env.get_cons, h.t4], by simp [Env.get_cons, h.t5], by simp [Env.get_cons, h.t6]⟩⟩
theorem go29 (i : Nat) (v : V) (hv : x[i]? = some v) (hm : x.length ≤ 9223372036854775807) (h : At29 x ρ i) (hC : ∀ σ, C 24 [.p (.agg (vc v)), .p (.agg (vc m))] σ = some (.ret (.p (.int .i64 (ordI (ordV v m)))), σ)) :
    ∃ ρ', exec C L body29 ⟨ρ, [], [o0, .arr (.pv (vc m)) 0 0 ty]⟩ = some (.normal, ⟨ρ', [], [o0, .arr (.pv (vc (if ordV v m = .lt then v else m))) 0 0 ty]⟩) ∧ At29 x ρ' (i + 1) := by
  have hi : i < x.length := (List.getElem?_eq_some_iff.1 hv).1
  have hi' : (i : Int) < (x.length : Int) := by omega
  have d1 := flat_v x i _ hv
  have d3 : 4 ≤ (vcs x).length - i * 4 := by rw [vcs_len]; omega
  have e1 : IntKind.i64.wrap ((i : Int) + 1) = (i : Int) + 1 := wrap_id _ (by omega) (by omega)
  have hv4 := vc_len v
  have hm4 := vc_len m
  have ho : ∀ o : Ordering, (decide (ordI o < 0) = true) ↔ o = .lt := fun o => by cases o <;> simp [ordI]
  have hb := ho (ordV v m)
  generalize hcv : vc v = cv at *
  generalize hcm : vc m = cm at *
  obtain ⟨x0, x1, x2, x3, rfl⟩ : ∃ x0 x1 x2 x3, cv = [x0, x1, x2, x3] := by
    match cv, hv4 with
    | [x0, x1, x2, x3], _ => exact ⟨x0, x1, x2, x3, rfl⟩
  obtain ⟨y0, y1, y2, y3, rfl⟩ : ∃ y0 y1 y2 y3, cm = [y0, y1, y2, y3] := by
    match cm, hm4 with
    | [y0, y1, y2, y3], _ => exact ⟨y0, y1, y2, y3, rfl⟩
  by_cases hlt : ordV v m = .lt
  · have hd := hb.2 hlt
    rw [if_pos hlt, hcv]
    exact ⟨_, by simp only [hlt] at hC hd; simp [body29, exec, runOps, wantedA, stepOp, pureOp, allocOp, readOp, effOp, ev, evs, evO, Env.get_cons, putE, binA, intBin, unA, AV.fit, AV.toCells, partC, partP, mkCells, allP, mkAgg, Cells.len, target, evParts, fillA, AV.cells, splice, spliceC, finA, leaveA, resA, resV, ansV, lenA, idxA, h.t0, h.t1, h.t4, h.t5, h.t6, hi, hi', d1, d3, e1, hC, ordI, drawExec, drawRun, stillOp, keepE, readsOf, isE, opds, tmpsOf, carry, refOf, refV, valsOp, oneH, wrIds, okRW, bef, isFree, between, touch, collect, idsL, idsV, idsO]; rfl, ⟨by simp [Env.get_cons, h.t0], by simp [Env.get_cons, h.t1], by simp [Env.get_cons, h.t4], by simp [Env.get_cons, h.t5], by simp [Env.get_cons]⟩⟩
  · rw [if_neg hlt, hcm]
    cases hq : ordV v m <;> rw [hq] at hC hlt <;> first
      | exact absurd rfl hlt
      | exact ⟨_, by simp [body29, exec, runOps, wantedA, stepOp, pureOp, allocOp, readOp, effOp, ev, evs, evO, Env.get_cons, putE, binA, intBin, unA, AV.fit, AV.toCells, partC, partP, mkCells, allP, mkAgg, Cells.len, target, evParts, fillA, AV.cells, splice, spliceC, finA, leaveA, resA, resV, ansV, lenA, idxA, h.t0, h.t1, h.t4, h.t5, h.t6, hi, hi', d1, d3, e1, hC, ordI, drawExec, drawRun, stillOp, keepE, readsOf, isE, opds, tmpsOf, carry, refOf, refV, valsOp, oneH, wrIds, okRW, bef, isFree, between, touch, collect, idsL, idsV, idsO]; rfl, ⟨by simp [Env.get_cons, h.t0], by simp [Env.get_cons, h.t1], by simp [Env.get_cons, h.t4], by simp [Env.get_cons, h.t5], by simp [Env.get_cons]⟩⟩
end
def lit30 : AFunc := { ntmps := 33, results := [ARes.cell 4 true 4], body := (ACode.region [{ dst := some 4, op := AOp.alloc 30 [AV.p (PV.int IntKind.i64 (0)), AV.p (PV.int IntKind.i64 (0)), AV.p (PV.str []), AV.p (PV.bool false)], guard := none }]).seq (((ACode.region [{ dst := some 7, op := AOp.mv (Opd.t 0), guard := none }, { dst := some 8, op := AOp.len false (Opd.t 7), guard := none }, { dst := some 9, op := AOp.bin (Bin.plain BinOp.lss) (Opd.t 8) (Opd.c (AV.p (PV.int IntKind.i64 (1)))), guard := none }]).seq (ACode.cond (Opd.t 9) (ACode.region [{ dst := some 10, op := AOp.mkIface 9 (Opd.c (AV.p (PV.str [115, 108, 105, 99, 101, 115, 46, 77, 97, 120, 70, 117, 110, 99, 58, 32, 101, 109, 112, 116, 121, 32, 108, 105, 115, 116]))), guard := none }, { dst := none, op := AOp.panic (Opd.t 10), guard := none }]) ACode.skip)).seq ((ACode.region [{ dst := some 11, op := AOp.mv (Opd.t 0), guard := none }, { dst := some 12, op := AOp.idx 4 (Opd.t 11) (Opd.c (AV.p (PV.int IntKind.i64 (0)))), guard := none }, { dst := some 13, op := AOp.load true 4 (Opd.t 12), guard := none }, { dst := some 5, op := AOp.alloc 30 [AV.p (PV.int IntKind.i64 (0)), AV.p (PV.int IntKind.i64 (0)), AV.p (PV.str []), AV.p (PV.bool false)], guard := none }, { dst := none, op := AOp.store 4 (Opd.t 5) (Opd.t 13), guard := none }]).seq (((ACode.region [{ dst := some 6, op := AOp.mv (Opd.c (AV.p (PV.int IntKind.i64 (1)))), guard := none }]).seq (ACode.block 0 (ACode.loop none (((ACode.region [{ dst := some 14, op := AOp.mv (Opd.t 6), guard := none }, { dst := some 15, op := AOp.mv (Opd.t 0), guard := none }, { dst := some 16, op := AOp.len false (Opd.t 15), guard := none }, { dst := some 17, op := AOp.bin (Bin.plain BinOp.lss) (Opd.t 14) (Opd.t 16), guard := none }]).seq (ACode.cond (Opd.t 17) ACode.skip (ACode.exit 0))).seq ((ACode.block 1 ((ACode.draw 8 [0, 0, 0, 6, 14, 0, 63, 127] [{ dst := some 20, op := AOp.mv (Opd.t 1), guard := none }, { dst := some 21, op := AOp.mv (Opd.t 0), guard := none }, { dst := some 22, op := AOp.mv (Opd.t 6), guard := none }, { dst := some 23, op := AOp.idx 4 (Opd.t 21) (Opd.t 22), guard := none }, { dst := some 24, op := AOp.load true 4 (Opd.t 23), guard := none }, { dst := some 25, op := AOp.load true 4 (Opd.t 5), guard := none }, { dst := some 26, op := AOp.call (Opd.t 20) [Opd.t 24, Opd.t 25], guard := none }, { dst := some 27, op := AOp.bin (Bin.plain BinOp.gtr) (Opd.t 26) (Opd.c (AV.p (PV.int IntKind.i64 (0)))), guard := none }]).seq (ACode.cond (Opd.t 27) (ACode.region [{ dst := some 28, op := AOp.mv (Opd.t 0), guard := none }, { dst := some 29, op := AOp.mv (Opd.t 6), guard := none }, { dst := some 30, op := AOp.idx 4 (Opd.t 28) (Opd.t 29), guard := none }, { dst := some 31, op := AOp.load true 4 (Opd.t 30), guard := none }, { dst := none, op := AOp.store 4 (Opd.t 5) (Opd.t 31), guard := none }]) ACode.skip))).seq (ACode.region [{ dst := some 18, op := AOp.mv (Opd.t 6), guard := none }, { dst := some 19, op := AOp.bin (Bin.plain BinOp.add) (Opd.t 18) (Opd.c (AV.p (PV.int IntKind.i64 (1)))), guard := none }, { dst := some 6, op := AOp.mv (Opd.t 19), guard := none }])))))).seq ((ACode.region [{ dst := some 32, op := AOp.load true 4 (Opd.t 5), guard := none }, { dst := none, op := AOp.store 4 (Opd.t 4) (Opd.t 32), guard := none }]).seq ACode.ret)))) }
def body30 : ACode := (((ACode.region [{ dst := some 14, op := AOp.mv (Opd.t 6), guard := none }, { dst := some 15, op := AOp.mv (Opd.t 0), guard := none }, { dst := some 16, op := AOp.len false (Opd.t 15), guard := none }, { dst := some 17, op := AOp.bin (Bin.plain BinOp.lss) (Opd.t 14) (Opd.t 16), guard := none }]).seq (ACode.cond (Opd.t 17) ACode.skip (ACode.exit 0))).seq ((ACode.block 1 ((ACode.draw 8 [0, 0, 0, 6, 14, 0, 63, 127] [{ dst := some 20, op := AOp.mv (Opd.t 1), guard := none }, { dst := some 21, op := AOp.mv (Opd.t 0), guard := none }, { dst := some 22, op := AOp.mv (Opd.t 6), guard := none }, { dst := some 23, op := AOp.idx 4 (Opd.t 21) (Opd.t 22), guard := none }, { dst := some 24, op := AOp.load true 4 (Opd.t 23), guard := none }, { dst := some 25, op := AOp.load true 4 (Opd.t 5), guard := none }, { dst := some 26, op := AOp.call (Opd.t 20) [Opd.t 24, Opd.t 25], guard := none }, { dst := some 27, op := AOp.bin (Bin.plain BinOp.gtr) (Opd.t 26) (Opd.c (AV.p (PV.int IntKind.i64 (0)))), guard := none }]).seq (ACode.cond (Opd.t 27) (ACode.region [{ dst := some 28, op := AOp.mv (Opd.t 0), guard := none }, { dst := some 29, op := AOp.mv (Opd.t 6), guard := none }, { dst := some 30, op := AOp.idx 4 (Opd.t 28) (Opd.t 29), guard := none }, { dst := some 31, op := AOp.load true 4 (Opd.t 30), guard := none }, { dst := none, op := AOp.store 4 (Opd.t 5) (Opd.t 31), guard := none }]) ACode.skip))).seq (ACode.region [{ dst := some 18, op := AOp.mv (Opd.t 6), guard := none }, { dst := some 19, op := AOp.bin (Bin.plain BinOp.add) (Opd.t 18) (Opd.c (AV.p (PV.int IntKind.i64 (1)))), guard := none }, { dst := some 6, op := AOp.mv (Opd.t 19), guard := none }])))
theorem lit30_eq : lit30.body = (ACode.region [{ dst := some 4, op := AOp.alloc 30 [AV.p (PV.int IntKind.i64 (0)), AV.p (PV.int IntKind.i64 (0)), AV.p (PV.str []), AV.p (PV.bool false)], guard := none }]).seq (((ACode.region [{ dst := some 7, op := AOp.mv (Opd.t 0), guard := none }, { dst := some 8, op := AOp.len false (Opd.t 7), guard := none }, { dst := some 9, op := AOp.bin (Bin.plain BinOp.lss) (Opd.t 8) (Opd.c (AV.p (PV.int IntKind.i64 (1)))), guard := none }]).seq (ACode.cond (Opd.t 9) (ACode.region [{ dst := some 10, op := AOp.mkIface 9 (Opd.c (AV.p (PV.str [115, 108, 105, 99, 101, 115, 46, 77, 97, 120, 70, 117, 110, 99, 58, 32, 101, 109, 112, 116, 121, 32, 108, 105, 115, 116]))), guard := none }, { dst := none, op := AOp.panic (Opd.t 10), guard := none }]) ACode.skip)).seq ((ACode.region [{ dst := some 11, op := AOp.mv (Opd.t 0), guard := none }, { dst := some 12, op := AOp.idx 4 (Opd.t 11) (Opd.c (AV.p (PV.int IntKind.i64 (0)))), guard := none }, { dst := some 13, op := AOp.load true 4 (Opd.t 12), guard := none }, { dst := some 5, op := AOp.alloc 30 [AV.p (PV.int IntKind.i64 (0)), AV.p (PV.int IntKind.i64 (0)), AV.p (PV.str []), AV.p (PV.bool false)], guard := none }, { dst := none, op := AOp.store 4 (Opd.t 5) (Opd.t 13), guard := none }]).seq (((ACode.region [{ dst := some 6, op := AOp.mv (Opd.c (AV.p (PV.int IntKind.i64 (1)))), guard := none }]).seq (ACode.block 0 (ACode.loop none body30))).seq ((ACode.region [{ dst := some 32, op := AOp.load true 4 (Opd.t 5), guard := none }, { dst := none, op := AOp.store 4 (Opd.t 4) (Opd.t 32), guard := none }]).seq ACode.ret)))) := rfl
section
variable (C : Oracle) (L : Nat) (x : List V) (m : V) (ρ : Env) (o0 : Obj) (ty : Option Nat)
/-- the loop's state -/
structure At30 (ρ : Env) (i : Nat) : Prop where
  t0 : ρ.get 0 = some (.p (.vsl (vcs x) x.length))
  t1 : ρ.get 1 = some (.p (.fn 24))
  t4 : ρ.get 4 = some (.ptr 0 0 0)
  t5 : ρ.get 5 = some (.ptr 1 0 0)
  t6 : ρ.get 6 = some (.p (.int .i64 (i : Int)))
theorem stop30 (σ : Heap) (h : At30 x ρ x.length) : ∃ ρ', exec C L body30 ⟨ρ, [], σ⟩ = some (.exit 0, ⟨ρ', [], σ⟩) ∧ At30 x ρ' x.length :=
  ⟨_, by simp [body30, exec, runOps, wantedA, stepOp, pureOp, allocOp, readOp, effOp, ev, evs, evO, Env.get_cons, putE, binA, intBin, unA, AV.fit, AV.toCells, partC, partP, mkCells, allP, mkAgg, Cells.len, target, lenA, h.t0, h.t6]; rfl, ⟨by simp [Env.get_cons, h.t0], by simp [Env.get_cons, h.t1], by simp [Env.get_cons, h.t4], by simp [Env.get_cons, h.t5], by simp [Env.get_cons, h.t6]⟩⟩
theorem go30 (i : Nat) (v : V) (hv : x[i]? = some v) (hm : x.length ≤ 9223372036854775807) (h : At30 x ρ i) (hC : ∀ σ, C 24 [.p (.agg (vc v)), .p (.agg (vc m))] σ = some (.ret (.p (.int .i64 (ordI (ordV v m)))), σ)) :
    ∃ ρ', exec C L body30 ⟨ρ, [], [o0, .arr (.pv (vc m)) 0 0 ty]⟩ = some (.normal, ⟨ρ', [], [o0, .arr (.pv (vc (if ordV v m = .gt then v else m))) 0 0 ty]⟩) ∧ At30 x ρ' (i + 1) := by
  have hi : i < x.length := (List.getElem?_eq_some_iff.1 hv).1
  have hi' : (i : Int) < (x.length : Int) := by omega
  have d1 := flat_v x i _ hv
  have d3 : 4 ≤ (vcs x).length - i * 4 := by rw [vcs_len]; omega
  have e1 : IntKind.i64.wrap ((i : Int) + 1) = (i : Int) + 1 := wrap_id _ (by omega) (by omega)
  have hv4 := vc_len v
  have hm4 := vc_len m
  have ho : ∀ o : Ordering, (decide (0 < ordI o) = true) ↔ o = .gt := fun o => by cases o <;> simp [ordI]
  have hb := ho (ordV v m)
  generalize hcv : vc v = cv at *
  generalize hcm : vc m = cm at *
  obtain ⟨x0, x1, x2, x3, rfl⟩ : ∃ x0 x1 x2 x3, cv = [x0, x1, x2, x3] := by
    match cv, hv4 with
    | [x0, x1, x2, x3], _ => exact ⟨x0, x1, x2, x3, rfl⟩
  obtain ⟨y0, y1, y2, y3, rfl⟩ : ∃ y0 y1 y2 y3, cm = [y0, y1, y2, y3] := by
    match cm, hm4 with
    | [y0, y1, y2, y3], _ => exact ⟨y0, y1, y2, y3, rfl⟩
  by_cases hlt : ordV v m = .gt
  · have hd := hb.2 hlt
    rw [if_pos hlt, hcv]
    exact ⟨_, by simp only [hlt] at hC hd; simp [body30, exec, runOps, wantedA, stepOp, pureOp, allocOp, readOp, effOp, ev, evs, evO, Env.get_cons, putE, binA, intBin, unA, AV.fit, AV.toCells, partC, partP, mkCells, allP, mkAgg, Cells.len, target, evParts, fillA, AV.cells, splice, spliceC, finA, leaveA, resA, resV, ansV, lenA, idxA, h.t0, h.t1, h.t4, h.t5, h.t6, hi, hi', d1, d3, e1, hC, ordI, drawExec, drawRun, stillOp, keepE, readsOf, isE, opds, tmpsOf, carry, refOf, refV, valsOp, oneH, wrIds, okRW, bef, isFree, between, touch, collect, idsL, idsV, idsO]; rfl, ⟨by simp [Env.get_cons, h.t0], by simp [Env.get_cons, h.t1], by simp [Env.get_cons, h.t4], by simp [Env.get_cons, h.t5], by simp [Env.get_cons]⟩⟩
  · rw [if_neg hlt, hcm]
    cases hq : ordV v m <;> rw [hq] at hC hlt <;> first
      | exact absurd rfl hlt
      | exact ⟨_, by simp [body30, exec, runOps, wantedA, stepOp, pureOp, allocOp, readOp, effOp, ev, evs, evO, Env.get_cons, putE, binA, intBin, unA, AV.fit, AV.toCells, partC, partP, mkCells, allP, mkAgg, Cells.len, target, evParts, fillA, AV.cells, splice, spliceC, finA, leaveA, resA, resV, ansV, lenA, idxA, h.t0, h.t1, h.t4, h.t5, h.t6, hi, hi', d1, d3, e1, hC, ordI, drawExec, drawRun, stillOp, keepE, readsOf, isE, opds, tmpsOf, carry, refOf, refV, valsOp, oneH, wrIds, okRW, bef, isFree, between, touch, collect, idsL, idsV, idsO]; rfl, ⟨by simp [Env.get_cons, h.t0], by simp [Env.get_cons, h.t1], by simp [Env.get_cons, h.t4], by simp [Env.get_cons, h.t5], by simp [Env.get_cons]⟩⟩
end
end Go.Ab.Cnt

/- EvalCounts: what slices.MinFunc and slices.MaxFunc answer. -/
set_option maxRecDepth 1000000
namespace Go.Ab.Cnt
open Go Go.Ab Go.Ab.Key Go.Proofs
variable [Marks]
/-- the lt-most of a list -/
def pick29 (x : List V) (m : V) : V := x.foldl (fun m a => if ordV a m = .lt then a else m) m
theorem loop29 (C : Oracle) (L : Nat) (x : List V) (o0 : Obj) (ty : Option Nat) (hm : x.length ≤ 9223372036854775807) (P : V → Prop) (hP : ∀ v ∈ x, P v) (hC : ∀ a b : V, P a → P b → ∀ σ, C 24 [.p (.agg (vc a)), .p (.agg (vc b))] σ = some (.ret (.p (.int .i64 (ordI (ordV a b)))), σ)) :
    ∀ (d i f : Nat) (ρ : Env) (m : V), i + d = x.length → d < f → P m → At29 x ρ i →
    ∃ ρ', iter (exec C L body29) none f ⟨ρ, [], [o0, .arr (.pv (vc m)) 0 0 ty]⟩ = some (.exit 0, ⟨ρ', [], [o0, .arr (.pv (vc (pick29 (x.drop i) m))) 0 0 ty]⟩) ∧ At29 x ρ' x.length
  | 0, i, f, ρ, m, hd, hf, hPm, h => by
    obtain ⟨f, rfl⟩ : ∃ m, f = m + 1 := ⟨f - 1, by omega⟩
    obtain rfl : i = x.length := by omega
    obtain ⟨ρ', e, h'⟩ := stop29 C L x ρ [o0, .arr (.pv (vc m)) 0 0 ty] h
    refine ⟨ρ', ?_, h'⟩
    rw [List.drop_length]
    simp only [iter, St.keep, e, pick29, List.foldl_nil]
  | d + 1, i, f, ρ, m, hd, hf, hPm, h => by
    obtain ⟨f, rfl⟩ : ∃ m, f = m + 1 := ⟨f - 1, by omega⟩
    have hi : i < x.length := by omega
    have hdr : x.drop i = x[i] :: x.drop (i + 1) := List.drop_eq_getElem_cons hi
    have hPi := hP _ (List.getElem_mem hi)
    obtain ⟨ρ1, e, h1⟩ := go29 C L x m ρ o0 ty i x[i] (List.getElem?_eq_getElem hi) hm h (hC _ _ hPi hPm)
    obtain ⟨ρ', e', h'⟩ := loop29 C L x o0 ty hm P hP hC d (i + 1) f ρ1 (if ordV x[i] m = .lt then x[i] else m) (by omega) (by omega) (by split <;> assumption) h1
    refine ⟨ρ', ?_, h'⟩
    rw [hdr]
    simp only [iter, St.keep, e]
    exact e'
section
variable (L n : Nat)
theorem q29 : TC 29 = some (.code lit29 true) := by kernel_rfl
theorem most29 (v : V) (r : List V) (hL : r.length + 1 < L) (hm : r.length + 1 ≤ 9223372036854775807) (ht : ∀ s, V.text s ∈ v :: r → s.length ≤ maxLen) (σ : Heap) :
    (cAt TC L (n + 4)).1 29 [.p (.vsl (vcs (v :: r)) (r.length + 1)), .p (.fn 24)] σ = some (.ret (.p (.agg (vc (pick29 r v)))), σ) := by
  refine call_ans (ps := [.vsl (vcs (v :: r)) (r.length + 1), .fn 24]) (n := n + 3) q29 rfl ?_ σ
  have hC : ∀ a b : V, (∀ s, a = .text s → s.length ≤ maxLen) → (∀ s, b = .text s → s.length ≤ maxLen) → ∀ σ, (cAt TC L (n + 3)).1 24 [.p (.agg (vc a)), .p (.agg (vc b))] σ = some (.ret (.p (.int .i64 (ordI (ordV a b)))), σ) := fun a b ha hb σ => order24 L n a b ha hb σ
  generalize (cAt TC L (n + 3)).1 = C at *
  generalize (cAt TC L (n + 3)).2 = D
  obtain ⟨F, hF⟩ : ∃ F : Env → Obj → Option Nat → Env, ∀ ρ o0 ty, At29 (v :: r) ρ 1 → iter (exec C L body29) none L ⟨ρ, [], [o0, .arr (.pv (vc v)) 0 0 ty]⟩ = some (.exit 0, ⟨F ρ o0 ty, [], [o0, .arr (.pv (vc (pick29 r v))) 0 0 ty]⟩) ∧ At29 (v :: r) (F ρ o0 ty) (r.length + 1) := by
    have hl := fun ρ o0 ty (h : At29 (v :: r) ρ 1) => loop29 C L (v :: r) o0 ty (by simpa using hm) (fun a => ∀ s, a = .text s → s.length ≤ maxLen) (fun a ha s hs => ht s (hs ▸ ha)) hC r.length 1 L ρ v (by simp; omega) (by omega) (fun s hs => ht s (hs ▸ List.mem_cons_self ..)) h
    refine ⟨fun ρ o0 ty => open Classical in if h : At29 (v :: r) ρ 1 then (hl ρ o0 ty h).choose else ρ, fun ρ o0 ty h => ?_⟩
    simp only [dif_pos h]
    exact (hl ρ o0 ty h).choose_spec
  have hF1 := fun ρ o0 ty t0 t1 t4 t5 (t6 : ρ.get 6 = some (.p (.int .i64 1))) => (hF ρ o0 ty ⟨t0, t1, t4, t5, t6⟩).1
  have g4 := fun ρ o0 ty t0 t1 t4 t5 (t6 : ρ.get 6 = some (.p (.int .i64 1))) => (hF ρ o0 ty ⟨t0, t1, t4, t5, t6⟩).2.t4
  have g5 := fun ρ o0 ty t0 t1 t4 t5 (t6 : ρ.get 6 = some (.p (.int .i64 1))) => (hF ρ o0 ty ⟨t0, t1, t4, t5, t6⟩).2.t5
  clear hF
  have hlt : ¬ (r.length : Int) + 1 < 1 := by omega
  have hpos : (0 : Int) < (r.length : Int) + 1 := by omega
  have hv4 := vc_len v
  have hp4 := vc_len (pick29 r v)
  have htk : (vcs (v :: r)).take 4 = vc v := by
    have := flat_v (v :: r) 0 v rfl
    simpa using this
  have hln := vcs_len (v :: r)
  have h4 : 4 ≤ (vcs (v :: r)).length := by rw [hln]; simp; omega
  generalize vc (pick29 r v) = cp at *
  generalize vc v = cv at *
  generalize vcs (v :: r) = cx at *
  obtain ⟨x0, x1, x2, x3, rfl⟩ : ∃ x0 x1 x2 x3, cv = [x0, x1, x2, x3] := by
    match cv, hv4 with
    | [x0, x1, x2, x3], _ => exact ⟨x0, x1, x2, x3, rfl⟩
  obtain ⟨y0, y1, y2, y3, rfl⟩ : ∃ y0 y1 y2 y3, cp = [y0, y1, y2, y3] := by
    match cp, hp4 with
    | [y0, y1, y2, y3], _ => exact ⟨y0, y1, y2, y3, rfl⟩
  rw [runFunc_eq, lit29_eq]
  simp [lit29, params, exec, runOps, wantedA, stepOp, pureOp, allocOp, readOp, effOp, ev, evs, evO, Env.get_cons, putE, binA, intBin, unA, AV.fit, AV.toCells, partC, partP, mkCells, allP, mkAgg, Cells.len, target, evParts, fillA, AV.cells, splice, spliceC, finA, leaveA, resA, resV, ansV, finX, lenA, idxA, hlt, hpos, htk, h4, hF1, g4, g5]
end
/-- the gt-most of a list -/
def pick30 (x : List V) (m : V) : V := x.foldl (fun m a => if ordV a m = .gt then a else m) m
theorem loop30 (C : Oracle) (L : Nat) (x : List V) (o0 : Obj) (ty : Option Nat) (hm : x.length ≤ 9223372036854775807) (P : V → Prop) (hP : ∀ v ∈ x, P v) (hC : ∀ a b : V, P a → P b → ∀ σ, C 24 [.p (.agg (vc a)), .p (.agg (vc b))] σ = some (.ret (.p (.int .i64 (ordI (ordV a b)))), σ)) :
    ∀ (d i f : Nat) (ρ : Env) (m : V), i + d = x.length → d < f → P m → At30 x ρ i →
    ∃ ρ', iter (exec C L body30) none f ⟨ρ, [], [o0, .arr (.pv (vc m)) 0 0 ty]⟩ = some (.exit 0, ⟨ρ', [], [o0, .arr (.pv (vc (pick30 (x.drop i) m))) 0 0 ty]⟩) ∧ At30 x ρ' x.length
  | 0, i, f, ρ, m, hd, hf, hPm, h => by
    obtain ⟨f, rfl⟩ : ∃ m, f = m + 1 := ⟨f - 1, by omega⟩
    obtain rfl : i = x.length := by omega
    obtain ⟨ρ', e, h'⟩ := stop30 C L x ρ [o0, .arr (.pv (vc m)) 0 0 ty] h
    refine ⟨ρ', ?_, h'⟩
    rw [List.drop_length]
    simp only [iter, St.keep, e, pick30, List.foldl_nil]
  | d + 1, i, f, ρ, m, hd, hf, hPm, h => by
    obtain ⟨f, rfl⟩ : ∃ m, f = m + 1 := ⟨f - 1, by omega⟩
    have hi : i < x.length := by omega
    have hdr : x.drop i = x[i] :: x.drop (i + 1) := List.drop_eq_getElem_cons hi
    have hPi := hP _ (List.getElem_mem hi)
    obtain ⟨ρ1, e, h1⟩ := go30 C L x m ρ o0 ty i x[i] (List.getElem?_eq_getElem hi) hm h (hC _ _ hPi hPm)
    obtain ⟨ρ', e', h'⟩ := loop30 C L x o0 ty hm P hP hC d (i + 1) f ρ1 (if ordV x[i] m = .gt then x[i] else m) (by omega) (by omega) (by split <;> assumption) h1
    refine ⟨ρ', ?_, h'⟩
    rw [hdr]
    simp only [iter, St.keep, e]
    exact e'
section
variable (L n : Nat)
theorem q30 : TC 30 = some (.code lit30 true) := by kernel_rfl
theorem most30 (v : V) (r : List V) (hL : r.length + 1 < L) (hm : r.length + 1 ≤ 9223372036854775807) (ht : ∀ s, V.text s ∈ v :: r → s.length ≤ maxLen) (σ : Heap) :
    (cAt TC L (n + 4)).1 30 [.p (.vsl (vcs (v :: r)) (r.length + 1)), .p (.fn 24)] σ = some (.ret (.p (.agg (vc (pick30 r v)))), σ) := by
  refine call_ans (ps := [.vsl (vcs (v :: r)) (r.length + 1), .fn 24]) (n := n + 3) q30 rfl ?_ σ
  have hC : ∀ a b : V, (∀ s, a = .text s → s.length ≤ maxLen) → (∀ s, b = .text s → s.length ≤ maxLen) → ∀ σ, (cAt TC L (n + 3)).1 24 [.p (.agg (vc a)), .p (.agg (vc b))] σ = some (.ret (.p (.int .i64 (ordI (ordV a b)))), σ) := fun a b ha hb σ => order24 L n a b ha hb σ
  generalize (cAt TC L (n + 3)).1 = C at *
  generalize (cAt TC L (n + 3)).2 = D
  obtain ⟨F, hF⟩ : ∃ F : Env → Obj → Option Nat → Env, ∀ ρ o0 ty, At30 (v :: r) ρ 1 → iter (exec C L body30) none L ⟨ρ, [], [o0, .arr (.pv (vc v)) 0 0 ty]⟩ = some (.exit 0, ⟨F ρ o0 ty, [], [o0, .arr (.pv (vc (pick30 r v))) 0 0 ty]⟩) ∧ At30 (v :: r) (F ρ o0 ty) (r.length + 1) := by
    have hl := fun ρ o0 ty (h : At30 (v :: r) ρ 1) => loop30 C L (v :: r) o0 ty (by simpa using hm) (fun a => ∀ s, a = .text s → s.length ≤ maxLen) (fun a ha s hs => ht s (hs ▸ ha)) hC r.length 1 L ρ v (by simp; omega) (by omega) (fun s hs => ht s (hs ▸ List.mem_cons_self ..)) h
    refine ⟨fun ρ o0 ty => open Classical in if h : At30 (v :: r) ρ 1 then (hl ρ o0 ty h).choose else ρ, fun ρ o0 ty h => ?_⟩
    simp only [dif_pos h]
    exact (hl ρ o0 ty h).choose_spec
  have hF1 := fun ρ o0 ty t0 t1 t4 t5 (t6 : ρ.get 6 = some (.p (.int .i64 1))) => (hF ρ o0 ty ⟨t0, t1, t4, t5, t6⟩).1
  have g4 := fun ρ o0 ty t0 t1 t4 t5 (t6 : ρ.get 6 = some (.p (.int .i64 1))) => (hF ρ o0 ty ⟨t0, t1, t4, t5, t6⟩).2.t4
  have g5 := fun ρ o0 ty t0 t1 t4 t5 (t6 : ρ.get 6 = some (.p (.int .i64 1))) => (hF ρ o0 ty ⟨t0, t1, t4, t5, t6⟩).2.t5
  clear hF
  have hlt : ¬ (r.length : Int) + 1 < 1 := by omega
  have hpos : (0 : Int) < (r.length : Int) + 1 := by omega
  have hv4 := vc_len v
  have hp4 := vc_len (pick30 r v)
  have htk : (vcs (v :: r)).take 4 = vc v := by
    have := flat_v (v :: r) 0 v rfl
    simpa using this
  have hln := vcs_len (v :: r)
  have h4 : 4 ≤ (vcs (v :: r)).length := by rw [hln]; simp; omega
  generalize vc (pick30 r v) = cp at *
  generalize vc v = cv at *
  generalize vcs (v :: r) = cx at *
  obtain ⟨x0, x1, x2, x3, rfl⟩ : ∃ x0 x1 x2 x3, cv = [x0, x1, x2, x3] := by
    match cv, hv4 with
    | [x0, x1, x2, x3], _ => exact ⟨x0, x1, x2, x3, rfl⟩
  obtain ⟨y0, y1, y2, y3, rfl⟩ : ∃ y0 y1 y2 y3, cp = [y0, y1, y2, y3] := by
    match cp, hp4 with
    | [y0, y1, y2, y3], _ => exact ⟨y0, y1, y2, y3, rfl⟩
  rw [runFunc_eq, lit30_eq]
  simp [lit30, params, exec, runOps, wantedA, stepOp, pureOp, allocOp, readOp, effOp, ev, evs, evO, Env.get_cons, putE, binA, intBin, unA, AV.fit, AV.toCells, partC, partP, mkCells, allP, mkAgg, Cells.len, target, evParts, fillA, AV.cells, splice, spliceC, finA, leaveA, resA, resV, ansV, finX, lenA, idxA, hlt, hpos, htk, h4, hF1, g4, g5]
end
end Go.Ab.Cnt
