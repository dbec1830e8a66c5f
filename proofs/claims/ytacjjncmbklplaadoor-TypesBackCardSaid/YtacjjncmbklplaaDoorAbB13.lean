/- The law TypesBack, where its parts agree. -/
import Derived.Test.YtacjjncmbklplaaDoorAbB12
set_option maxRecDepth 1000000
namespace Go.Ab.Back
open Go Go.Ab
def sizeZ (z : Int) : Int := if z < 0 then -(z + 1) else z
/-- how long a raw size says -/
def lenZ (z : Int) : Int := 20 + sizeZ z % 81
theorem lenZ_of (z : Int) : 20 ≤ lenZ z ∧ lenZ z ≤ 100 := by unfold lenZ; omega
def neg3 : ACode := .seq (.region [{ dst := some 24, op := AOp.mv (Opd.t 5), guard := none }, { dst := some 25, op := AOp.bin (Bin.plain BinOp.lss) (Opd.t 24) (Opd.c (AV.p (PV.int IntKind.i64 (0)))), guard := none }]) (.cond (Opd.t 25) (.region [{ dst := some 26, op := AOp.mv (Opd.t 5), guard := none }, { dst := some 27, op := AOp.bin (Bin.plain BinOp.add) (Opd.t 26) (Opd.c (AV.p (PV.int IntKind.i64 (1)))), guard := none }, { dst := some 28, op := AOp.un UnOp.neg (Opd.t 27), guard := none }, { dst := some 5, op := AOp.mv (Opd.t 28), guard := none }]) .skip)
theorem step3 (C : Oracle) (L : Nat) (n z : Int) (b fx : Bool) (ρ0 : Env) (H : Heap) (hz1 : -9223372036854775808 ≤ z) (hz2 : z ≤ 9223372036854775807) (g3 : ρ0.get 3 = some (.p (.int .i64 n))) (g4 : ρ0.get 4 = some (.p (.bool b))) (g5 : ρ0.get 5 = some (.p (.int .i64 z))) (g6 : ρ0.get 6 = some (.p (.bool fx))) :
    ∃ ρ : Env, exec C L neg3 ⟨ρ0, [], H⟩ = some (.normal, ⟨ρ, [], H⟩) ∧ ρ.get 3 = some (.p (.int .i64 n)) ∧ ρ.get 4 = some (.p (.bool b)) ∧ ρ.get 5 = some (.p (.int .i64 (sizeZ z))) ∧ ρ.get 6 = some (.p (.bool fx)) := by
  unfold sizeZ
  by_cases h : z < 0
  · have q1 : IntKind.i64.wrap (z + 1) = z + 1 := wrap_id _ (by omega) (by omega)
    have q2 : IntKind.i64.wrap (-(z + 1)) = -(z + 1) := wrap_id _ (by omega) (by omega)
    refine ⟨_, by simp [neg3, exec, runOps, wantedA, stepOp, pureOp, ev, Env.get_cons, putE, binA, intBin, unA, g5, h, q1, q2]; rfl, ?_, ?_, ?_, ?_⟩
    all_goals simp [Env.get_cons, g3, g4, g6, h]
  · refine ⟨_, by simp [neg3, exec, runOps, wantedA, stepOp, pureOp, ev, Env.get_cons, putE, binA, intBin, g5, h]; rfl, ?_, ?_, ?_, ?_⟩
    all_goals simp [Env.get_cons, g3, g4, g5, g6, h]
theorem law3_true (C : Oracle) (D : DOracle) (L : Nat) (n z sz : Int) (b : Bool) (hz1 : -9223372036854775808 ≤ z) (hz2 : z ≤ 9223372036854775807) (hsz : lenZ z = sz) (y1 y2 : List UInt8)
    (h8 : ∀ σ, C 8 [] σ = some (.ret (.p (.bool true)), σ)) (h7 : ∀ σ, C 7 [.p (.int .i64 n)] σ = some (.ret (.p (.agg [.int .i64 1, .int .i64 n, .str [], .bool false])), σ))
    (h6a : ∀ σ, C 6 [.p (.agg [.int .i64 1, .int .i64 n, .str [], .bool false]), .p (.agg [.int .i64 4, .int .i64 sz])] σ = some (.ret (.p (.tup [.agg [.int .i64 2, .int .i64 0, .str y1, .bool false], .str [48, 48, 48, 48, 48]])), σ)) (h6b : ∀ σ, C 6 [.p (.agg [.int .i64 2, .int .i64 0, .str y1, .bool false]), .p (.agg [.int .i64 3, .int .i64 0])] σ = some (.ret (.p (.tup [.agg [.int .i64 1, .int .i64 n, .str [], .bool false], .str [48, 48, 48, 48, 48]])), σ))
    (h6c : ∀ σ, C 6 [.p (.agg [.int .i64 3, .int .i64 0, .str [], .bool b]), .p (.agg [.int .i64 4, .int .i64 sz])] σ = some (.ret (.p (.tup [.agg [.int .i64 2, .int .i64 0, .str y2, .bool false], .str [48, 48, 48, 48, 48]])), σ)) (h6d : ∀ σ, C 6 [.p (.agg [.int .i64 2, .int .i64 0, .str y2, .bool false]), .p (.agg [.int .i64 6, .int .i64 0])] σ = some (.ret (.p (.tup [.agg [.int .i64 3, .int .i64 0, .str [], .bool b], .str [48, 48, 48, 48, 48]])), σ)) :
    ansV (runFunc C D L lit3 [.p (.agg [.int .i64 n, .bool b, .int .i64 z, .bool true])] []) = some (.bool true) := by
  have q3 : IntKind.i64.wrap (20 + (sizeZ z).tmod 81) = sz := by
    have : (sizeZ z).tmod 81 = sizeZ z % 81 := Int.tmod_eq_emod_of_nonneg (by unfold sizeZ; split <;> omega)
    rw [this, ← hsz]
    exact wrap_id _ (by have := lenZ_of z; unfold lenZ at this; omega) (by have := lenZ_of z; unfold lenZ at this; omega)
  rw [runFunc_eq]
  simp only [lit3]
  rw [seqN (a := .region _) (by simp [params, exec, runOps, wantedA, stepOp, pureOp, allocOp, ev, Env.get_cons, putE, AV.fit, AV.toCells, Cells.len]; rfl)]
  rw [seqN (a := .draw _ _ _) (by
    unfold exec drawExec
    rw [drawS (v := .ptr 0 0 0) (by simp [wantedA]) rfl (by simp [keepE, readsOf, opds, tmpsOf, stillOp, pureOp, ev, Env.get_cons])]
    simp only [putE, Nat.reduceAdd]
    rw [drawR (v := .p (.int .i64 n)) (id := 0) (by simp [wantedA]) rfl (by simp [keepE, readsOf, opds, tmpsOf, stillOp, pureOp, refOf, refV, ev, Env.get_cons, readOp, oneH, partC, partP])]
    simp only [putE, Nat.reduceAdd]
    rw [drawS (v := .ptr 0 0 1) (by simp [wantedA]) rfl (by simp [keepE, readsOf, opds, tmpsOf, stillOp, pureOp, ev, Env.get_cons])]
    simp only [putE, Nat.reduceAdd]
    rw [drawR (v := .p (.bool b)) (id := 0) (by simp [wantedA]) rfl (by simp [keepE, readsOf, opds, tmpsOf, stillOp, pureOp, refOf, refV, ev, Env.get_cons, readOp, oneH, partC, partP])]
    simp only [putE, Nat.reduceAdd]
    rw [drawS (v := .ptr 0 0 2) (by simp [wantedA]) rfl (by simp [keepE, readsOf, opds, tmpsOf, stillOp, pureOp, ev, Env.get_cons])]
    simp only [putE, Nat.reduceAdd]
    rw [drawR (v := .p (.int .i64 z)) (id := 0) (by simp [wantedA]) rfl (by simp [keepE, readsOf, opds, tmpsOf, stillOp, pureOp, refOf, refV, ev, Env.get_cons, readOp, oneH, partC, partP])]
    simp only [putE, Nat.reduceAdd]
    rw [drawS (v := .ptr 0 0 3) (by simp [wantedA]) rfl (by simp [keepE, readsOf, opds, tmpsOf, stillOp, pureOp, ev, Env.get_cons])]
    simp only [putE, Nat.reduceAdd]
    rw [drawR (v := .p (.bool true)) (id := 0) (by simp [wantedA]) rfl (by simp [keepE, readsOf, opds, tmpsOf, stillOp, pureOp, refOf, refV, ev, Env.get_cons, readOp, oneH, partC, partP])]
    simp only [putE, Nat.reduceAdd]
    rw [drawS (v := .p (.int .i64 n)) (by simp [wantedA]) rfl (by simp [keepE, readsOf, opds, tmpsOf, stillOp, pureOp, ev, Env.get_cons])]
    simp only [putE, Nat.reduceAdd]
    rw [drawS (v := .p (.bool b)) (by simp [wantedA]) rfl (by simp [keepE, readsOf, opds, tmpsOf, stillOp, pureOp, ev, Env.get_cons])]
    simp only [putE, Nat.reduceAdd]
    rw [drawS (v := .p (.int .i64 z)) (by simp [wantedA]) rfl (by simp [keepE, readsOf, opds, tmpsOf, stillOp, pureOp, ev, Env.get_cons])]
    simp only [putE, Nat.reduceAdd]
    rw [drawS (v := .p (.bool true)) (by simp [wantedA]) rfl (by simp [keepE, readsOf, opds, tmpsOf, stillOp, pureOp, ev, Env.get_cons])]
    simp only [putE, Nat.reduceAdd]
    simp only [drawRun]
    refine if_pos ?_
    show _ = _
    kernel_rfl)]
  obtain ⟨ρ, he, g3, g4, g5, g6⟩ := step3 C L n z b true
    [(6, .p (.bool true)), (5, .p (.int .i64 z)), (4, .p (.bool b)), (3, .p (.int .i64 n)), (23, .p (.bool true)), (22, .ptr 0 0 3), (21, .p (.int .i64 z)), (20, .ptr 0 0 2), (19, .p (.bool b)), (18, .ptr 0 0 1), (17, .p (.int .i64 n)), (16, .ptr 0 0 0), (2, .p (.bool false)), (1, .ptr 0 0 0), (0, .p (.agg [.int .i64 n, .bool b, .int .i64 z, .bool true]))]
    [Obj.arr (Cells.pv [.int .i64 n, .bool b, .int .i64 z, .bool true]) 0 0] hz1 hz2 rfl rfl rfl rfl
  unfold neg3 at he
  erw [seqN he]
  rw [seqN (a := .region _) (by simp [exec, runOps, wantedA, stepOp, pureOp, allocOp, readOp, effOp, ev, Env.get_cons, putE, binA, intBin, AV.fit, AV.toCells, mkCells, allP, mkAgg, Cells.len, evParts, fillA, spliceC, splice, AV.cells, g5, q3]; rfl)]
  rw [seqN (a := .seq (.region _) (.cond _ _ _)) (by simp [exec, runOps, wantedA, stepOp, pureOp, allocOp, readOp, effOp, ev, Env.get_cons, putE, AV.fit, AV.toCells, Cells.len, spliceC, splice, g6]; rfl)]
  rw [seqN (a := .draw _ _ _) (by
    unfold exec drawExec
    rw [drawS (v := .p (.int .i64 n)) (by simp [wantedA]) rfl (by simp [keepE, readsOf, opds, tmpsOf, stillOp, pureOp, ev, Env.get_cons, g3])]
    simp only [putE, Nat.reduceAdd]
    rw [drawE (by simp [wantedA]) rfl (by simp [keepE, readsOf, opds, tmpsOf, runOps, wantedA, ev, evs, target, Env.get_cons, putE, h7]; rfl)]
    simp only [carry, Env.get_cons, reduceIte, Nat.reduceEqDiff, Nat.reduceAdd]
    rw [drawR (v := .p (.agg [.int .i64 4, .int .i64 sz])) (id := 1) (by simp [wantedA]) rfl (by simp [keepE, readsOf, opds, tmpsOf, stillOp, pureOp, refOf, refV, ev, Env.get_cons, readOp, oneH, partC, partP])]
    simp only [putE, Nat.reduceAdd]
    rw [drawE (by simp [wantedA]) rfl (by simp [keepE, readsOf, opds, tmpsOf, runOps, wantedA, ev, evs, target, Env.get_cons, putE, h6a]; rfl)]
    simp only [carry, Env.get_cons, reduceIte, Nat.reduceEqDiff, Nat.reduceAdd]
    rw [drawS (v := .p (.tup [.agg [.int .i64 2, .int .i64 0, .str y1, .bool false], .str [48, 48, 48, 48, 48]])) (by simp [wantedA]) rfl (by simp [keepE, readsOf, opds, tmpsOf, stillOp, pureOp, ev, Env.get_cons])]
    simp only [putE, Nat.reduceAdd]
    rw [drawS (v := .p (.agg [.int .i64 2, .int .i64 0, .str y1, .bool false])) (by simp [wantedA]) rfl (by simp [keepE, readsOf, opds, tmpsOf, stillOp, pureOp, ev, Env.get_cons, extractA])]
    simp only [putE, Nat.reduceAdd]
    rw [drawS (v := .p (.str [48, 48, 48, 48, 48])) (by simp [wantedA]) rfl (by simp [keepE, readsOf, opds, tmpsOf, stillOp, pureOp, ev, Env.get_cons, extractA])]
    simp only [putE, Nat.reduceAdd]
    rw [drawE (by simp [wantedA]) rfl (by simp [keepE, readsOf, opds, tmpsOf, runOps, wantedA, stepOp, pureOp, allocOp, putE, mkCells, allP]; rfl)]
    simp only [carry, Env.get_cons, reduceIte, Nat.reduceAdd]
    rw [drawE (by simp [wantedA]) rfl (by simp [keepE, readsOf, opds, tmpsOf, runOps, wantedA, stepOp, pureOp, allocOp, readOp, effOp, ev, Env.get_cons, putE, AV.fit, AV.toCells, Cells.len, splice, spliceC]; rfl)]
    simp only [carry, Nat.reduceAdd]
    rw [drawS (v := .p (.str [48, 48, 48, 48, 48])) (by simp [wantedA]) rfl (by simp [keepE, readsOf, opds, tmpsOf, stillOp, pureOp, ev, Env.get_cons])]
    simp only [putE, Nat.reduceAdd]
    simp only [drawRun]
    refine if_pos ?_
    show _ = _
    kernel_rfl)]
  rw [seqN (a := .region _) (by simp [exec, runOps, wantedA, stepOp, pureOp, allocOp, readOp, effOp, ev, evs, Env.get_cons, putE, AV.fit, AV.toCells, partC, partP, mkCells, allP, mkAgg, Cells.len, target, evParts, fillA, spliceC, splice, AV.cells, extractA, h6b]; rfl)]
  rw [seqN (a := .region _) (by simp [exec, runOps, wantedA, stepOp, pureOp, allocOp, readOp, effOp, ev, evs, Env.get_cons, putE, AV.fit, AV.toCells, partC, partP, mkCells, allP, mkAgg, Cells.len, target, evParts, fillA, spliceC, splice, AV.cells, extractA, g4, h6c]; rfl)]
  rw [seqN (a := .region _) (by simp [exec, runOps, wantedA, stepOp, pureOp, allocOp, readOp, effOp, ev, evs, Env.get_cons, putE, AV.fit, AV.toCells, partC, partP, mkCells, allP, mkAgg, Cells.len, target, evParts, fillA, spliceC, splice, AV.cells, extractA, h6d]; rfl)]
  rw [seqN (a := .draw _ _ _) (by
    unfold exec drawExec
    rw [drawE (by simp [wantedA]) rfl (by simp [keepE, readsOf, opds, tmpsOf, runOps, wantedA, ev, evs, target, putE, h8]; rfl)]
    simp only [carry, Env.get_cons, reduceIte, Nat.reduceAdd]
    rw [drawS (v := .p (.bool true)) (by simp [wantedA]) rfl (by simp [keepE, readsOf, opds, tmpsOf, stillOp, pureOp, ev, Env.get_cons])]
    simp only [putE, Nat.reduceAdd]
    rw [drawS (v := .p (.str [48, 48, 48, 48, 48])) (by simp [wantedA, keepE, readsOf, opds, tmpsOf, Env.get_cons]) rfl (by simp [keepE, readsOf, opds, tmpsOf, stillOp, pureOp, ev, Env.get_cons])]
    simp only [putE, Nat.reduceAdd]
    rw [drawS (v := .p (.bool true)) (by simp [wantedA, keepE, readsOf, opds, tmpsOf, Env.get_cons]) rfl (by simp [keepE, readsOf, opds, tmpsOf, stillOp, pureOp, ev, Env.get_cons, binA, strBin])]
    simp only [putE, Nat.reduceAdd]
    rw [drawS (v := .p (.bool true)) (by simp [wantedA]) rfl (by simp [keepE, readsOf, opds, tmpsOf, stillOp, pureOp, ev, Env.get_cons])]
    simp only [putE, Nat.reduceAdd]
    rw [drawS (v := .p (.bool true)) (by simp [wantedA]) rfl (by simp [keepE, readsOf, opds, tmpsOf, stillOp, pureOp, ev, Env.get_cons])]
    simp only [putE, Nat.reduceAdd]
    rw [drawS (v := .p (.str [48, 48, 48, 48, 48])) (by simp [wantedA, keepE, readsOf, opds, tmpsOf, Env.get_cons]) rfl (by simp [keepE, readsOf, opds, tmpsOf, stillOp, pureOp, ev, Env.get_cons])]
    simp only [putE, Nat.reduceAdd]
    rw [drawS (v := .p (.bool true)) (by simp [wantedA, keepE, readsOf, opds, tmpsOf, Env.get_cons]) rfl (by simp [keepE, readsOf, opds, tmpsOf, stillOp, pureOp, ev, Env.get_cons, binA, strBin])]
    simp only [putE, Nat.reduceAdd]
    rw [drawS (v := .p (.bool true)) (by simp [wantedA]) rfl (by simp [keepE, readsOf, opds, tmpsOf, stillOp, pureOp, ev, Env.get_cons])]
    simp only [putE, Nat.reduceAdd]
    rw [drawS (v := .p (.bool true)) (by simp [wantedA]) rfl (by simp [keepE, readsOf, opds, tmpsOf, stillOp, pureOp, ev, Env.get_cons])]
    simp only [putE, Nat.reduceAdd]
    rw [drawS (v := .p (.str [48, 48, 48, 48, 48])) (by simp [wantedA, keepE, readsOf, opds, tmpsOf, Env.get_cons]) rfl (by simp [keepE, readsOf, opds, tmpsOf, stillOp, pureOp, ev, Env.get_cons])]
    simp only [putE, Nat.reduceAdd]
    rw [drawS (v := .p (.bool true)) (by simp [wantedA, keepE, readsOf, opds, tmpsOf, Env.get_cons]) rfl (by simp [keepE, readsOf, opds, tmpsOf, stillOp, pureOp, ev, Env.get_cons, binA, strBin])]
    simp only [putE, Nat.reduceAdd]
    rw [drawS (v := .p (.bool true)) (by simp [wantedA]) rfl (by simp [keepE, readsOf, opds, tmpsOf, stillOp, pureOp, ev, Env.get_cons])]
    simp only [putE, Nat.reduceAdd]
    rw [drawS (v := .p (.bool true)) (by simp [wantedA]) rfl (by simp [keepE, readsOf, opds, tmpsOf, stillOp, pureOp, ev, Env.get_cons])]
    simp only [putE, Nat.reduceAdd]
    rw [drawS (v := .p (.str [48, 48, 48, 48, 48])) (by simp [wantedA, keepE, readsOf, opds, tmpsOf, Env.get_cons]) rfl (by simp [keepE, readsOf, opds, tmpsOf, stillOp, pureOp, ev, Env.get_cons])]
    simp only [putE, Nat.reduceAdd]
    rw [drawS (v := .p (.bool true)) (by simp [wantedA, keepE, readsOf, opds, tmpsOf, Env.get_cons]) rfl (by simp [keepE, readsOf, opds, tmpsOf, stillOp, pureOp, ev, Env.get_cons, binA, strBin])]
    simp only [putE, Nat.reduceAdd]
    rw [drawS (v := .p (.bool true)) (by simp [wantedA]) rfl (by simp [keepE, readsOf, opds, tmpsOf, stillOp, pureOp, ev, Env.get_cons])]
    simp only [putE, Nat.reduceAdd]
    rw [drawS (v := .p (.bool true)) (by simp [wantedA]) rfl (by simp [keepE, readsOf, opds, tmpsOf, stillOp, pureOp, ev, Env.get_cons])]
    simp only [putE, Nat.reduceAdd]
    rw [drawR (v := .p (.agg [.int .i64 1, .int .i64 n, .str [], .bool false])) (id := 3) (by simp [wantedA, keepE, readsOf, opds, tmpsOf, Env.get_cons]) rfl (by simp [keepE, readsOf, opds, tmpsOf, stillOp, pureOp, refOf, refV, ev, Env.get_cons, readOp, oneH, partC, partP])]
    simp only [putE, Nat.reduceAdd]
    rw [drawS (v := .p (.int .i64 n)) (by simp [wantedA, keepE, readsOf, opds, tmpsOf, Env.get_cons, g3]) rfl (by simp [keepE, readsOf, opds, tmpsOf, stillOp, pureOp, ev, Env.get_cons, g3])]
    simp only [putE, Nat.reduceAdd]
    rw [drawE (by simp [wantedA, keepE, readsOf, opds, tmpsOf, Env.get_cons]) rfl (by simp [keepE, readsOf, opds, tmpsOf, runOps, wantedA, ev, evs, target, Env.get_cons, putE, h7]; rfl)]
    simp only [carry, Env.get_cons, reduceIte, Nat.reduceEqDiff, Nat.reduceAdd]
    rw [drawS (v := .p (.bool true)) (by simp [wantedA, keepE, readsOf, opds, tmpsOf, Env.get_cons]) rfl (by simp [keepE, readsOf, opds, tmpsOf, stillOp, pureOp, ev, Env.get_cons, binA, eqP, eqPs, partP])]
    simp only [putE, Nat.reduceAdd]
    rw [drawS (v := .p (.bool true)) (by simp [wantedA]) rfl (by simp [keepE, readsOf, opds, tmpsOf, stillOp, pureOp, ev, Env.get_cons])]
    simp only [putE, Nat.reduceAdd]
    rw [drawS (v := .p (.bool true)) (by simp [wantedA]) rfl (by simp [keepE, readsOf, opds, tmpsOf, stillOp, pureOp, ev, Env.get_cons])]
    simp only [putE, Nat.reduceAdd]
    rw [drawR (v := .p (.agg [.int .i64 3, .int .i64 0, .str [], .bool b])) (id := 5) (by simp [wantedA, keepE, readsOf, opds, tmpsOf, Env.get_cons]) rfl (by simp [keepE, readsOf, opds, tmpsOf, stillOp, pureOp, refOf, refV, ev, Env.get_cons, readOp, oneH, partC, partP])]
    simp only [putE, Nat.reduceAdd]
    rw [drawS (v := .p (.bool b)) (by simp [wantedA, keepE, readsOf, opds, tmpsOf, Env.get_cons, g4]) rfl (by simp [keepE, readsOf, opds, tmpsOf, stillOp, pureOp, ev, Env.get_cons, g4])]
    simp only [putE, Nat.reduceAdd]
    rw [drawS (v := .p (.agg [.int .i64 3, .int .i64 0, .str [], .bool b])) (by simp [wantedA, keepE, readsOf, opds, tmpsOf, Env.get_cons]) rfl (by simp [keepE, readsOf, opds, tmpsOf, stillOp, pureOp, ev, Env.get_cons, evParts, fillA, mkAgg, allP, splice, AV.fit, AV.cells])]
    simp only [putE, Nat.reduceAdd]
    rw [drawS (v := .p (.bool true)) (by simp [wantedA, keepE, readsOf, opds, tmpsOf, Env.get_cons]) rfl (by simp [keepE, readsOf, opds, tmpsOf, stillOp, pureOp, ev, Env.get_cons, binA, eqP, eqPs, partP])]
    simp only [putE, Nat.reduceAdd]
    rw [drawS (v := .p (.bool true)) (by simp [wantedA]) rfl (by simp [keepE, readsOf, opds, tmpsOf, stillOp, pureOp, ev, Env.get_cons])]
    simp only [putE, Nat.reduceAdd]
    rw [drawS (v := .p (.bool true)) (by simp [wantedA]) rfl (by simp [keepE, readsOf, opds, tmpsOf, stillOp, pureOp, ev, Env.get_cons])]
    simp only [putE, Nat.reduceAdd]
    simp only [drawRun]
    refine if_pos ?_
    show _ = _
    kernel_rfl)]
  show _ = _
  kernel_rfl
theorem law3_false (C : Oracle) (D : DOracle) (L : Nat) (n z sz : Int) (b : Bool) (hz1 : -9223372036854775808 ≤ z) (hz2 : z ≤ 9223372036854775807) (hsz : lenZ z = sz) (y1 y2 : List UInt8)
    (h8 : ∀ σ, C 8 [] σ = some (.ret (.p (.bool true)), σ)) (h7 : ∀ σ, C 7 [.p (.int .i64 n)] σ = some (.ret (.p (.agg [.int .i64 1, .int .i64 n, .str [], .bool false])), σ))
    (h6a : ∀ σ, C 6 [.p (.agg [.int .i64 1, .int .i64 n, .str [], .bool false]), .p (.agg [.int .i64 5, .int .i64 sz])] σ = some (.ret (.p (.tup [.agg [.int .i64 2, .int .i64 0, .str y1, .bool false], .str [48, 48, 48, 48, 48]])), σ)) (h6b : ∀ σ, C 6 [.p (.agg [.int .i64 2, .int .i64 0, .str y1, .bool false]), .p (.agg [.int .i64 3, .int .i64 0])] σ = some (.ret (.p (.tup [.agg [.int .i64 1, .int .i64 n, .str [], .bool false], .str [48, 48, 48, 48, 48]])), σ))
    (h6c : ∀ σ, C 6 [.p (.agg [.int .i64 3, .int .i64 0, .str [], .bool b]), .p (.agg [.int .i64 5, .int .i64 sz])] σ = some (.ret (.p (.tup [.agg [.int .i64 2, .int .i64 0, .str y2, .bool false], .str [48, 48, 48, 48, 48]])), σ)) (h6d : ∀ σ, C 6 [.p (.agg [.int .i64 2, .int .i64 0, .str y2, .bool false]), .p (.agg [.int .i64 6, .int .i64 0])] σ = some (.ret (.p (.tup [.agg [.int .i64 3, .int .i64 0, .str [], .bool b], .str [48, 48, 48, 48, 48]])), σ)) :
    ansV (runFunc C D L lit3 [.p (.agg [.int .i64 n, .bool b, .int .i64 z, .bool false])] []) = some (.bool true) := by
  have q3 : IntKind.i64.wrap (20 + (sizeZ z).tmod 81) = sz := by
    have : (sizeZ z).tmod 81 = sizeZ z % 81 := Int.tmod_eq_emod_of_nonneg (by unfold sizeZ; split <;> omega)
    rw [this, ← hsz]
    exact wrap_id _ (by have := lenZ_of z; unfold lenZ at this; omega) (by have := lenZ_of z; unfold lenZ at this; omega)
  rw [runFunc_eq]
  simp only [lit3]
  rw [seqN (a := .region _) (by simp [params, exec, runOps, wantedA, stepOp, pureOp, allocOp, ev, Env.get_cons, putE, AV.fit, AV.toCells, Cells.len]; rfl)]
  rw [seqN (a := .draw _ _ _) (by
    unfold exec drawExec
    rw [drawS (v := .ptr 0 0 0) (by simp [wantedA]) rfl (by simp [keepE, readsOf, opds, tmpsOf, stillOp, pureOp, ev, Env.get_cons])]
    simp only [putE, Nat.reduceAdd]
    rw [drawR (v := .p (.int .i64 n)) (id := 0) (by simp [wantedA]) rfl (by simp [keepE, readsOf, opds, tmpsOf, stillOp, pureOp, refOf, refV, ev, Env.get_cons, readOp, oneH, partC, partP])]
    simp only [putE, Nat.reduceAdd]
    rw [drawS (v := .ptr 0 0 1) (by simp [wantedA]) rfl (by simp [keepE, readsOf, opds, tmpsOf, stillOp, pureOp, ev, Env.get_cons])]
    simp only [putE, Nat.reduceAdd]
    rw [drawR (v := .p (.bool b)) (id := 0) (by simp [wantedA]) rfl (by simp [keepE, readsOf, opds, tmpsOf, stillOp, pureOp, refOf, refV, ev, Env.get_cons, readOp, oneH, partC, partP])]
    simp only [putE, Nat.reduceAdd]
    rw [drawS (v := .ptr 0 0 2) (by simp [wantedA]) rfl (by simp [keepE, readsOf, opds, tmpsOf, stillOp, pureOp, ev, Env.get_cons])]
    simp only [putE, Nat.reduceAdd]
    rw [drawR (v := .p (.int .i64 z)) (id := 0) (by simp [wantedA]) rfl (by simp [keepE, readsOf, opds, tmpsOf, stillOp, pureOp, refOf, refV, ev, Env.get_cons, readOp, oneH, partC, partP])]
    simp only [putE, Nat.reduceAdd]
    rw [drawS (v := .ptr 0 0 3) (by simp [wantedA]) rfl (by simp [keepE, readsOf, opds, tmpsOf, stillOp, pureOp, ev, Env.get_cons])]
    simp only [putE, Nat.reduceAdd]
    rw [drawR (v := .p (.bool false)) (id := 0) (by simp [wantedA]) rfl (by simp [keepE, readsOf, opds, tmpsOf, stillOp, pureOp, refOf, refV, ev, Env.get_cons, readOp, oneH, partC, partP])]
    simp only [putE, Nat.reduceAdd]
    rw [drawS (v := .p (.int .i64 n)) (by simp [wantedA]) rfl (by simp [keepE, readsOf, opds, tmpsOf, stillOp, pureOp, ev, Env.get_cons])]
    simp only [putE, Nat.reduceAdd]
    rw [drawS (v := .p (.bool b)) (by simp [wantedA]) rfl (by simp [keepE, readsOf, opds, tmpsOf, stillOp, pureOp, ev, Env.get_cons])]
    simp only [putE, Nat.reduceAdd]
    rw [drawS (v := .p (.int .i64 z)) (by simp [wantedA]) rfl (by simp [keepE, readsOf, opds, tmpsOf, stillOp, pureOp, ev, Env.get_cons])]
    simp only [putE, Nat.reduceAdd]
    rw [drawS (v := .p (.bool false)) (by simp [wantedA]) rfl (by simp [keepE, readsOf, opds, tmpsOf, stillOp, pureOp, ev, Env.get_cons])]
    simp only [putE, Nat.reduceAdd]
    simp only [drawRun]
    refine if_pos ?_
    show _ = _
    kernel_rfl)]
  obtain ⟨ρ, he, g3, g4, g5, g6⟩ := step3 C L n z b false
    [(6, .p (.bool false)), (5, .p (.int .i64 z)), (4, .p (.bool b)), (3, .p (.int .i64 n)), (23, .p (.bool false)), (22, .ptr 0 0 3), (21, .p (.int .i64 z)), (20, .ptr 0 0 2), (19, .p (.bool b)), (18, .ptr 0 0 1), (17, .p (.int .i64 n)), (16, .ptr 0 0 0), (2, .p (.bool false)), (1, .ptr 0 0 0), (0, .p (.agg [.int .i64 n, .bool b, .int .i64 z, .bool false]))]
    [Obj.arr (Cells.pv [.int .i64 n, .bool b, .int .i64 z, .bool false]) 0 0] hz1 hz2 rfl rfl rfl rfl
  unfold neg3 at he
  erw [seqN he]
  rw [seqN (a := .region _) (by simp [exec, runOps, wantedA, stepOp, pureOp, allocOp, readOp, effOp, ev, Env.get_cons, putE, binA, intBin, AV.fit, AV.toCells, mkCells, allP, mkAgg, Cells.len, evParts, fillA, spliceC, splice, AV.cells, g5, q3]; rfl)]
  rw [seqN (a := .seq (.region _) (.cond _ _ _)) (by simp [exec, runOps, wantedA, stepOp, pureOp, ev, Env.get_cons, putE, g6]; rfl)]
  rw [seqN (a := .draw _ _ _) (by
    unfold exec drawExec
    rw [drawS (v := .p (.int .i64 n)) (by simp [wantedA]) rfl (by simp [keepE, readsOf, opds, tmpsOf, stillOp, pureOp, ev, Env.get_cons, g3])]
    simp only [putE, Nat.reduceAdd]
    rw [drawE (by simp [wantedA]) rfl (by simp [keepE, readsOf, opds, tmpsOf, runOps, wantedA, ev, evs, target, Env.get_cons, putE, h7]; rfl)]
    simp only [carry, Env.get_cons, reduceIte, Nat.reduceEqDiff, Nat.reduceAdd]
    rw [drawR (v := .p (.agg [.int .i64 5, .int .i64 sz])) (id := 1) (by simp [wantedA]) rfl (by simp [keepE, readsOf, opds, tmpsOf, stillOp, pureOp, refOf, refV, ev, Env.get_cons, readOp, oneH, partC, partP])]
    simp only [putE, Nat.reduceAdd]
    rw [drawE (by simp [wantedA]) rfl (by simp [keepE, readsOf, opds, tmpsOf, runOps, wantedA, ev, evs, target, Env.get_cons, putE, h6a]; rfl)]
    simp only [carry, Env.get_cons, reduceIte, Nat.reduceEqDiff, Nat.reduceAdd]
    rw [drawS (v := .p (.tup [.agg [.int .i64 2, .int .i64 0, .str y1, .bool false], .str [48, 48, 48, 48, 48]])) (by simp [wantedA]) rfl (by simp [keepE, readsOf, opds, tmpsOf, stillOp, pureOp, ev, Env.get_cons])]
    simp only [putE, Nat.reduceAdd]
    rw [drawS (v := .p (.agg [.int .i64 2, .int .i64 0, .str y1, .bool false])) (by simp [wantedA]) rfl (by simp [keepE, readsOf, opds, tmpsOf, stillOp, pureOp, ev, Env.get_cons, extractA])]
    simp only [putE, Nat.reduceAdd]
    rw [drawS (v := .p (.str [48, 48, 48, 48, 48])) (by simp [wantedA]) rfl (by simp [keepE, readsOf, opds, tmpsOf, stillOp, pureOp, ev, Env.get_cons, extractA])]
    simp only [putE, Nat.reduceAdd]
    rw [drawE (by simp [wantedA]) rfl (by simp [keepE, readsOf, opds, tmpsOf, runOps, wantedA, stepOp, pureOp, allocOp, putE, mkCells, allP]; rfl)]
    simp only [carry, Env.get_cons, reduceIte, Nat.reduceAdd]
    rw [drawE (by simp [wantedA]) rfl (by simp [keepE, readsOf, opds, tmpsOf, runOps, wantedA, stepOp, pureOp, allocOp, readOp, effOp, ev, Env.get_cons, putE, AV.fit, AV.toCells, Cells.len, splice, spliceC]; rfl)]
    simp only [carry, Nat.reduceAdd]
    rw [drawS (v := .p (.str [48, 48, 48, 48, 48])) (by simp [wantedA]) rfl (by simp [keepE, readsOf, opds, tmpsOf, stillOp, pureOp, ev, Env.get_cons])]
    simp only [putE, Nat.reduceAdd]
    simp only [drawRun]
    refine if_pos ?_
    show _ = _
    kernel_rfl)]
  rw [seqN (a := .region _) (by simp [exec, runOps, wantedA, stepOp, pureOp, allocOp, readOp, effOp, ev, evs, Env.get_cons, putE, AV.fit, AV.toCells, partC, partP, mkCells, allP, mkAgg, Cells.len, target, evParts, fillA, spliceC, splice, AV.cells, extractA, h6b]; rfl)]
  rw [seqN (a := .region _) (by simp [exec, runOps, wantedA, stepOp, pureOp, allocOp, readOp, effOp, ev, evs, Env.get_cons, putE, AV.fit, AV.toCells, partC, partP, mkCells, allP, mkAgg, Cells.len, target, evParts, fillA, spliceC, splice, AV.cells, extractA, g4, h6c]; rfl)]
  rw [seqN (a := .region _) (by simp [exec, runOps, wantedA, stepOp, pureOp, allocOp, readOp, effOp, ev, evs, Env.get_cons, putE, AV.fit, AV.toCells, partC, partP, mkCells, allP, mkAgg, Cells.len, target, evParts, fillA, spliceC, splice, AV.cells, extractA, h6d]; rfl)]
  rw [seqN (a := .draw _ _ _) (by
    unfold exec drawExec
    rw [drawE (by simp [wantedA]) rfl (by simp [keepE, readsOf, opds, tmpsOf, runOps, wantedA, ev, evs, target, putE, h8]; rfl)]
    simp only [carry, Env.get_cons, reduceIte, Nat.reduceAdd]
    rw [drawS (v := .p (.bool true)) (by simp [wantedA]) rfl (by simp [keepE, readsOf, opds, tmpsOf, stillOp, pureOp, ev, Env.get_cons])]
    simp only [putE, Nat.reduceAdd]
    rw [drawS (v := .p (.str [48, 48, 48, 48, 48])) (by simp [wantedA, keepE, readsOf, opds, tmpsOf, Env.get_cons]) rfl (by simp [keepE, readsOf, opds, tmpsOf, stillOp, pureOp, ev, Env.get_cons])]
    simp only [putE, Nat.reduceAdd]
    rw [drawS (v := .p (.bool true)) (by simp [wantedA, keepE, readsOf, opds, tmpsOf, Env.get_cons]) rfl (by simp [keepE, readsOf, opds, tmpsOf, stillOp, pureOp, ev, Env.get_cons, binA, strBin])]
    simp only [putE, Nat.reduceAdd]
    rw [drawS (v := .p (.bool true)) (by simp [wantedA]) rfl (by simp [keepE, readsOf, opds, tmpsOf, stillOp, pureOp, ev, Env.get_cons])]
    simp only [putE, Nat.reduceAdd]
    rw [drawS (v := .p (.bool true)) (by simp [wantedA]) rfl (by simp [keepE, readsOf, opds, tmpsOf, stillOp, pureOp, ev, Env.get_cons])]
    simp only [putE, Nat.reduceAdd]
    rw [drawS (v := .p (.str [48, 48, 48, 48, 48])) (by simp [wantedA, keepE, readsOf, opds, tmpsOf, Env.get_cons]) rfl (by simp [keepE, readsOf, opds, tmpsOf, stillOp, pureOp, ev, Env.get_cons])]
    simp only [putE, Nat.reduceAdd]
    rw [drawS (v := .p (.bool true)) (by simp [wantedA, keepE, readsOf, opds, tmpsOf, Env.get_cons]) rfl (by simp [keepE, readsOf, opds, tmpsOf, stillOp, pureOp, ev, Env.get_cons, binA, strBin])]
    simp only [putE, Nat.reduceAdd]
    rw [drawS (v := .p (.bool true)) (by simp [wantedA]) rfl (by simp [keepE, readsOf, opds, tmpsOf, stillOp, pureOp, ev, Env.get_cons])]
    simp only [putE, Nat.reduceAdd]
    rw [drawS (v := .p (.bool true)) (by simp [wantedA]) rfl (by simp [keepE, readsOf, opds, tmpsOf, stillOp, pureOp, ev, Env.get_cons])]
    simp only [putE, Nat.reduceAdd]
    rw [drawS (v := .p (.str [48, 48, 48, 48, 48])) (by simp [wantedA, keepE, readsOf, opds, tmpsOf, Env.get_cons]) rfl (by simp [keepE, readsOf, opds, tmpsOf, stillOp, pureOp, ev, Env.get_cons])]
    simp only [putE, Nat.reduceAdd]
    rw [drawS (v := .p (.bool true)) (by simp [wantedA, keepE, readsOf, opds, tmpsOf, Env.get_cons]) rfl (by simp [keepE, readsOf, opds, tmpsOf, stillOp, pureOp, ev, Env.get_cons, binA, strBin])]
    simp only [putE, Nat.reduceAdd]
    rw [drawS (v := .p (.bool true)) (by simp [wantedA]) rfl (by simp [keepE, readsOf, opds, tmpsOf, stillOp, pureOp, ev, Env.get_cons])]
    simp only [putE, Nat.reduceAdd]
    rw [drawS (v := .p (.bool true)) (by simp [wantedA]) rfl (by simp [keepE, readsOf, opds, tmpsOf, stillOp, pureOp, ev, Env.get_cons])]
    simp only [putE, Nat.reduceAdd]
    rw [drawS (v := .p (.str [48, 48, 48, 48, 48])) (by simp [wantedA, keepE, readsOf, opds, tmpsOf, Env.get_cons]) rfl (by simp [keepE, readsOf, opds, tmpsOf, stillOp, pureOp, ev, Env.get_cons])]
    simp only [putE, Nat.reduceAdd]
    rw [drawS (v := .p (.bool true)) (by simp [wantedA, keepE, readsOf, opds, tmpsOf, Env.get_cons]) rfl (by simp [keepE, readsOf, opds, tmpsOf, stillOp, pureOp, ev, Env.get_cons, binA, strBin])]
    simp only [putE, Nat.reduceAdd]
    rw [drawS (v := .p (.bool true)) (by simp [wantedA]) rfl (by simp [keepE, readsOf, opds, tmpsOf, stillOp, pureOp, ev, Env.get_cons])]
    simp only [putE, Nat.reduceAdd]
    rw [drawS (v := .p (.bool true)) (by simp [wantedA]) rfl (by simp [keepE, readsOf, opds, tmpsOf, stillOp, pureOp, ev, Env.get_cons])]
    simp only [putE, Nat.reduceAdd]
    rw [drawR (v := .p (.agg [.int .i64 1, .int .i64 n, .str [], .bool false])) (id := 3) (by simp [wantedA, keepE, readsOf, opds, tmpsOf, Env.get_cons]) rfl (by simp [keepE, readsOf, opds, tmpsOf, stillOp, pureOp, refOf, refV, ev, Env.get_cons, readOp, oneH, partC, partP])]
    simp only [putE, Nat.reduceAdd]
    rw [drawS (v := .p (.int .i64 n)) (by simp [wantedA, keepE, readsOf, opds, tmpsOf, Env.get_cons, g3]) rfl (by simp [keepE, readsOf, opds, tmpsOf, stillOp, pureOp, ev, Env.get_cons, g3])]
    simp only [putE, Nat.reduceAdd]
    rw [drawE (by simp [wantedA, keepE, readsOf, opds, tmpsOf, Env.get_cons]) rfl (by simp [keepE, readsOf, opds, tmpsOf, runOps, wantedA, ev, evs, target, Env.get_cons, putE, h7]; rfl)]
    simp only [carry, Env.get_cons, reduceIte, Nat.reduceEqDiff, Nat.reduceAdd]
    rw [drawS (v := .p (.bool true)) (by simp [wantedA, keepE, readsOf, opds, tmpsOf, Env.get_cons]) rfl (by simp [keepE, readsOf, opds, tmpsOf, stillOp, pureOp, ev, Env.get_cons, binA, eqP, eqPs, partP])]
    simp only [putE, Nat.reduceAdd]
    rw [drawS (v := .p (.bool true)) (by simp [wantedA]) rfl (by simp [keepE, readsOf, opds, tmpsOf, stillOp, pureOp, ev, Env.get_cons])]
    simp only [putE, Nat.reduceAdd]
    rw [drawS (v := .p (.bool true)) (by simp [wantedA]) rfl (by simp [keepE, readsOf, opds, tmpsOf, stillOp, pureOp, ev, Env.get_cons])]
    simp only [putE, Nat.reduceAdd]
    rw [drawR (v := .p (.agg [.int .i64 3, .int .i64 0, .str [], .bool b])) (id := 5) (by simp [wantedA, keepE, readsOf, opds, tmpsOf, Env.get_cons]) rfl (by simp [keepE, readsOf, opds, tmpsOf, stillOp, pureOp, refOf, refV, ev, Env.get_cons, readOp, oneH, partC, partP])]
    simp only [putE, Nat.reduceAdd]
    rw [drawS (v := .p (.bool b)) (by simp [wantedA, keepE, readsOf, opds, tmpsOf, Env.get_cons, g4]) rfl (by simp [keepE, readsOf, opds, tmpsOf, stillOp, pureOp, ev, Env.get_cons, g4])]
    simp only [putE, Nat.reduceAdd]
    rw [drawS (v := .p (.agg [.int .i64 3, .int .i64 0, .str [], .bool b])) (by simp [wantedA, keepE, readsOf, opds, tmpsOf, Env.get_cons]) rfl (by simp [keepE, readsOf, opds, tmpsOf, stillOp, pureOp, ev, Env.get_cons, evParts, fillA, mkAgg, allP, splice, AV.fit, AV.cells])]
    simp only [putE, Nat.reduceAdd]
    rw [drawS (v := .p (.bool true)) (by simp [wantedA, keepE, readsOf, opds, tmpsOf, Env.get_cons]) rfl (by simp [keepE, readsOf, opds, tmpsOf, stillOp, pureOp, ev, Env.get_cons, binA, eqP, eqPs, partP])]
    simp only [putE, Nat.reduceAdd]
    rw [drawS (v := .p (.bool true)) (by simp [wantedA]) rfl (by simp [keepE, readsOf, opds, tmpsOf, stillOp, pureOp, ev, Env.get_cons])]
    simp only [putE, Nat.reduceAdd]
    rw [drawS (v := .p (.bool true)) (by simp [wantedA]) rfl (by simp [keepE, readsOf, opds, tmpsOf, stillOp, pureOp, ev, Env.get_cons])]
    simp only [putE, Nat.reduceAdd]
    simp only [drawRun]
    refine if_pos ?_
    show _ = _
    kernel_rfl)]
  show _ = _
  kernel_rfl

end Go.Ab.Back
