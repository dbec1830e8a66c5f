/- The laws on columns' values: right values, and how two values stand. -/
import Derived.Test.YtacjjncmbklplaaGreatDoorAbS16
set_option maxRecDepth 1000000
namespace Go.Ab.Cols
open Go Go.Ab Go.Ab.Names
def lit40 : AFunc := { ntmps := 20, results := [ARes.tmp 4], body := (ACode.region [{ dst := some 4, op := AOp.mv (Opd.c (AV.p (PV.int IntKind.i64 (0)))), guard := none }]).seq ((ACode.region [{ dst := some 7, op := AOp.mv (Opd.t 0), guard := none }, { dst := some 8, op := AOp.call (Opd.c (AV.p (PV.fn 61))) [Opd.t 7], guard := none }, { dst := some 5, op := AOp.mv (Opd.t 8), guard := none }]).seq ((ACode.region [{ dst := some 9, op := AOp.mv (Opd.t 1), guard := none }, { dst := some 10, op := AOp.call (Opd.c (AV.p (PV.fn 61))) [Opd.t 9], guard := none }, { dst := some 6, op := AOp.mv (Opd.t 10), guard := none }]).seq (((ACode.region [{ dst := some 11, op := AOp.mv (Opd.t 5), guard := none }]).seq (ACode.cond (Opd.t 11) (((ACode.region [{ dst := some 12, op := AOp.mv (Opd.t 6), guard := none }]).seq (ACode.cond (Opd.t 12) ((ACode.region [{ dst := some 4, op := AOp.mv (Opd.c (AV.p (PV.int IntKind.i64 (0)))), guard := none }]).seq ACode.ret) ACode.skip)).seq ((ACode.region [{ dst := some 4, op := AOp.mv (Opd.c (AV.p (PV.int IntKind.i64 ((-1))))), guard := none }]).seq ACode.ret)) ACode.skip)).seq (((ACode.region [{ dst := some 13, op := AOp.mv (Opd.t 6), guard := none }]).seq (ACode.cond (Opd.t 13) ((ACode.region [{ dst := some 4, op := AOp.mv (Opd.c (AV.p (PV.int IntKind.i64 (1)))), guard := none }]).seq ACode.ret) ACode.skip)).seq (((ACode.region [{ dst := some 14, op := AOp.mv (Opd.t 0), guard := none }, { dst := some 15, op := AOp.mv (Opd.t 1), guard := none }, { dst := some 16, op := AOp.bin (Bin.plain BinOp.lss) (Opd.t 14) (Opd.t 15), guard := none }]).seq (ACode.cond (Opd.t 16) ((ACode.region [{ dst := some 4, op := AOp.mv (Opd.c (AV.p (PV.int IntKind.i64 ((-1))))), guard := none }]).seq ACode.ret) ACode.skip)).seq (((ACode.region [{ dst := some 17, op := AOp.mv (Opd.t 0), guard := none }, { dst := some 18, op := AOp.mv (Opd.t 1), guard := none }, { dst := some 19, op := AOp.bin (Bin.plain BinOp.gtr) (Opd.t 17) (Opd.t 18), guard := none }]).seq (ACode.cond (Opd.t 19) ((ACode.region [{ dst := some 4, op := AOp.mv (Opd.c (AV.p (PV.int IntKind.i64 (1)))), guard := none }]).seq ACode.ret) ACode.skip)).seq ((ACode.region [{ dst := some 4, op := AOp.mv (Opd.c (AV.p (PV.int IntKind.i64 (0)))), guard := none }]).seq ACode.ret))))))) }
def lit61 : AFunc := { ntmps := 6, results := [ARes.tmp 2], body := (ACode.region [{ dst := some 2, op := AOp.mv (Opd.c (AV.p (PV.bool false))), guard := none }]).seq ((ACode.region [{ dst := some 3, op := AOp.mv (Opd.t 0), guard := none }, { dst := some 4, op := AOp.mv (Opd.t 0), guard := none }, { dst := some 5, op := AOp.bin (Bin.plain BinOp.neq) (Opd.t 3) (Opd.t 4), guard := none }, { dst := some 2, op := AOp.mv (Opd.t 5), guard := none }]).seq ACode.ret) }
theorem af40_eq : af40 = lit40 := by kernel_rfl
theorem af61_eq : af61 = lit61 := by kernel_rfl
theorem nan61 (n : Int) (L m : Nat) (σ : Heap) : (cAt TC L (m + 1)).1 61 [.p (.int .i64 n)] σ = some (.ret (.p (.bool false)), σ) := by
  refine call_ans (ps := [.int .i64 n]) (n := m) (af := af61) (fz := true) rfl (by kernel_rfl) ?_ σ
  rw [af61_eq]
  simp [runFunc, lit61, params, exec, runOps, wantedA, stepOp, pureOp, ev, Env.get_cons, putE, binA, intBin]
  rfl
theorem cmp40 (n : Int) (L m : Nat) (σ : Heap) : (cAt TC L (m + 2)).1 40 [.p (.int .i64 n), .p (.int .i64 n)] σ = some (.ret (.p (.int .i64 0)), σ) := by
  refine call_ans (ps := [.int .i64 n, .int .i64 n]) (n := m + 1) (af := af40) (fz := true) rfl (by kernel_rfl) ?_ σ
  have h := nan61 n L m
  generalize (cAt TC L (m + 1)).1 = C at h ⊢
  generalize (cAt TC L (m + 1)).2 = D
  rw [af40_eq]
  simp [runFunc, lit40, params, exec, runOps, wantedA, stepOp, pureOp, ev, evs, Env.get_cons, putE, binA, intBin, target, h]
  show _ = _
  kernel_rfl
theorem cmp39 (k : Int) (hk : k = 0 ∨ k = 1 ∨ k = 2 ∨ k = 3) (L m : Nat) (σ : Heap) : (cAt TC L (m + 2)).1 39 [.p (.int .i64 k), .p (.int .i64 k)] σ = some (.ret (.p (.int .i64 0)), σ) := by
  refine call_ans (ps := [.int .i64 k, .int .i64 k]) (n := m + 1) (af := af39) (fz := true) rfl (by kernel_rfl) ?_ σ
  rcases hk with rfl | rfl | rfl | rfl <;> kernel_rfl
theorem trimR63 (s : List UInt8) (h : s.length ≤ 9223372036854775807) (L m : Nat) (σ : Heap) : (cAt TC L (m + 1)).1 63 [.p (.str s), .p (.str [32])] σ = some (.ret (.p (.str (Lib.trimRightB s 32))), σ) := by
  refine call_ext (ps := [.str s, .str [32]]) (g := trimRO) (fz := true) rfl ?_ σ
  exact if_pos ⟨rfl, h⟩
theorem words42 (s : List UInt8) (h : s.length ≤ 9223372036854775807) (L m : Nat) (σ : Heap) : (cAt TC L (m + 2)).1 42 [.p (.str s)] σ = some (.ret (.p (.str (Lib.trimRightB s 32))), σ) := by
  refine call_ans (ps := [.str s]) (n := m + 1) (af := lit42) (fz := true) rfl (by kernel_rfl) ?_ σ
  have h := trimR63 s h L m
  generalize (cAt TC L (m + 1)).1 = C at h ⊢
  generalize (cAt TC L (m + 1)).2 = D
  simp [runFunc, lit42, params, exec, runOps, wantedA, stepOp, pureOp, ev, evs, Env.get_cons, putE, target, h]
  show _ = _
  kernel_rfl
theorem compare_same : ∀ s : List UInt8, Lib.compareBytes s s = 0
  | [] => rfl
  | a :: r => by
    unfold Lib.compareBytes
    rw [if_neg (by simp), if_neg (by simp)]
    exact compare_same r
theorem cmp41 (s : List UInt8) (L m : Nat) (σ : Heap) : (cAt TC L (m + 1)).1 41 [.p (.str s), .p (.str s)] σ = some (.ret (.p (.int .i64 0)), σ) := by
  refine call_ext (ps := [.str s, .str s]) (g := cmpO) (fz := true) rfl ?_ σ
  show some _ = some _
  rw [compare_same]
theorem right19 (k n : Int) (s : List UInt8) (t : Bool) (hv : isVal k n s t) (L m : Nat) (σ : Heap) : (cAt TC L (m + 2)).1 19 [.p (val k n s t)] σ = some (.ret (.p (.bool true)), σ) := by
  refine call_ans (ps := [val k n s t]) (n := m + 1) (af := lit19) (fz := true) rfl (by kernel_rfl) ?_ σ
  have hn := num37 n L m
  have ht := text38 s L m
  generalize (cAt TC L (m + 1)).1 = C at hn ht ⊢
  generalize (cAt TC L (m + 1)).2 = D
  unfold val at *
  rcases hv with ⟨rfl, rfl, rfl, rfl⟩ | ⟨rfl, rfl, rfl⟩ | ⟨rfl, rfl, rfl⟩ | ⟨rfl, rfl, rfl⟩
  · simp [runFunc, lit19, params, exec, runOps, wantedA, stepOp, pureOp, allocOp, readOp, effOp, ev, Env.get_cons, putE, binA, intBin, AV.fit, AV.toCells, partC, partP, mkCells, allP, mkAgg, Cells.len, evParts, fillA, eqP, eqPs, spliceC, splice]
    rfl
  · simp [runFunc, lit19, params, exec, runOps, wantedA, stepOp, pureOp, allocOp, readOp, effOp, ev, evs, Env.get_cons, putE, binA, intBin, AV.fit, AV.toCells, partC, partP, mkCells, allP, Cells.len, target, eqP, eqPs, spliceC, splice, hn]
    rfl
  · simp [runFunc, lit19, params, exec, runOps, wantedA, stepOp, pureOp, allocOp, readOp, effOp, ev, evs, Env.get_cons, putE, binA, intBin, AV.fit, AV.toCells, partC, partP, mkCells, allP, Cells.len, target, eqP, eqPs, spliceC, splice, ht]
    rfl
  · simp [runFunc, lit19, params, exec, runOps, wantedA, stepOp, pureOp, allocOp, readOp, effOp, ev, Env.get_cons, putE, binA, intBin, AV.fit, AV.toCells, partC, partP, mkCells, allP, mkAgg, Cells.len, evParts, fillA, eqP, eqPs, spliceC, splice, AV.cells]
    rfl
section
variable (C : Oracle) (D : DOracle) (L : Nat) (n m : Int) (s x y : List UInt8) (t u : Bool)
theorem o20_null (h39 : ∀ σ, C 39 [.p (.int .i64 0), .p (.int .i64 0)] σ = some (.ret (.p (.int .i64 0)), σ)) : ansV (runFunc C D L lit20 [.p (val 0 n x t), .p (val 0 m y u)] []) = some (.int .i64 0) := by
  unfold val
  simp [runFunc, lit20, params, exec, runOps, wantedA, stepOp, pureOp, allocOp, readOp, ev, evs, Env.get_cons, putE, binA, intBin, AV.fit, AV.toCells, partC, partP, Cells.len, target, h39]
  rfl
theorem o20_num (h39 : ∀ σ, C 39 [.p (.int .i64 1), .p (.int .i64 1)] σ = some (.ret (.p (.int .i64 0)), σ)) (h40 : ∀ σ, C 40 [.p (.int .i64 n), .p (.int .i64 n)] σ = some (.ret (.p (.int .i64 0)), σ)) : ansV (runFunc C D L lit20 [.p (val 1 n x t), .p (val 1 n y u)] []) = some (.int .i64 0) := by
  unfold val
  simp [runFunc, lit20, params, exec, runOps, wantedA, stepOp, pureOp, allocOp, readOp, ev, evs, Env.get_cons, putE, binA, intBin, AV.fit, AV.toCells, partC, partP, Cells.len, target, h39, h40]
  rfl
theorem o20_bool (h39 : ∀ σ, C 39 [.p (.int .i64 3), .p (.int .i64 3)] σ = some (.ret (.p (.int .i64 0)), σ)) : ansV (runFunc C D L lit20 [.p (val 3 n x t), .p (val 3 m y t)] []) = some (.int .i64 0) := by
  unfold val
  simp [runFunc, lit20, params, exec, runOps, wantedA, stepOp, pureOp, allocOp, readOp, ev, evs, Env.get_cons, putE, binA, intBin, AV.fit, AV.toCells, partC, partP, Cells.len, target, eqP, h39]
  rfl
theorem o20_text (h39 : ∀ σ, C 39 [.p (.int .i64 2), .p (.int .i64 2)] σ = some (.ret (.p (.int .i64 0)), σ)) (hx : ∀ σ, C 42 [.p (.str x)] σ = some (.ret (.p (.str s)), σ)) (hy : ∀ σ, C 42 [.p (.str y)] σ = some (.ret (.p (.str s)), σ))
    (h41 : ∀ σ, C 41 [.p (.str s), .p (.str s)] σ = some (.ret (.p (.int .i64 0)), σ)) : ansV (runFunc C D L lit20 [.p (val 2 n x t), .p (val 2 m y u)] []) = some (.int .i64 0) := by
  unfold val
  rw [runFunc_eq]
  simp only [lit20]
  rw [seqN (a := .region _) (by simp [params, exec, runOps, wantedA, stepOp, pureOp, allocOp, ev, Env.get_cons, putE, AV.fit, AV.toCells, Cells.len]; rfl)]
  rw [seqN (a := .seq (.region _) (.seq (.region _) (.cond _ _ _))) (by simp [exec, runOps, wantedA, stepOp, pureOp, allocOp, readOp, ev, evs, Env.get_cons, putE, binA, intBin, partC, partP, target, h39]; rfl)]
  rw [seqR (by
    rw [seqN (a := .region _) (by simp [exec, runOps, wantedA, stepOp, pureOp, allocOp, readOp, ev, Env.get_cons, putE, partC, partP]; rfl)]
    rw [blockR (by
      rw [seqN (a := .region _) (by simp [exec, runOps, wantedA, stepOp, pureOp, ev, Env.get_cons, putE, binA, intBin]; rfl)]
      rw [condF (by simp [ev, Env.get_cons])]
      rw [seqN (a := .region _) (by simp [exec, runOps, wantedA, stepOp, pureOp, ev, Env.get_cons, putE, binA, intBin]; rfl)]
      rw [condT (by simp [ev, Env.get_cons])]
      rw [seqN (a := .draw _ _ _) (by
        unfold exec drawExec
        rw [drawS (v := .ptr 0 0 2) (by simp [wantedA]) rfl (by simp [keepE, readsOf, opds, tmpsOf, stillOp, pureOp, ev, Env.get_cons])]
        simp only [putE, Nat.reduceAdd]
        rw [drawR (v := .p (.str x)) (id := 0) (by simp [wantedA]) rfl (by simp [keepE, readsOf, opds, tmpsOf, stillOp, pureOp, refOf, refV, ev, Env.get_cons, readOp, oneH, partC, partP])]
        simp only [putE, Nat.reduceAdd]
        rw [drawE (by simp [wantedA]) rfl (by simp [keepE, readsOf, opds, tmpsOf, runOps, wantedA, ev, evs, target, Env.get_cons, putE, hx]; rfl)]
        simp only [carry, Env.get_cons, reduceIte, Nat.reduceEqDiff, Nat.reduceAdd]
        rw [drawS (v := .ptr 1 0 2) (by simp [wantedA]) rfl (by simp [keepE, readsOf, opds, tmpsOf, stillOp, pureOp, ev, Env.get_cons])]
        simp only [putE, Nat.reduceAdd]
        rw [drawR (v := .p (.str y)) (id := 1) (by simp [wantedA]) rfl (by simp [keepE, readsOf, opds, tmpsOf, stillOp, pureOp, refOf, refV, ev, Env.get_cons, readOp, oneH, partC, partP])]
        simp only [putE, Nat.reduceAdd]
        rw [drawE (by simp [wantedA]) rfl (by simp [keepE, readsOf, opds, tmpsOf, runOps, wantedA, ev, evs, target, Env.get_cons, putE, hy]; rfl)]
        simp only [carry, Env.get_cons, reduceIte, Nat.reduceEqDiff, Nat.reduceAdd]
        rw [drawE (by simp [wantedA]) rfl (by simp [keepE, readsOf, opds, tmpsOf, runOps, wantedA, ev, evs, target, Env.get_cons, putE, h41]; rfl)]
        simp only [carry, Env.get_cons, reduceIte, Nat.reduceEqDiff, Nat.reduceAdd]
        rw [drawS (v := .p (.int .i64 0)) (by simp [wantedA]) rfl (by simp [keepE, readsOf, opds, tmpsOf, stillOp, pureOp, ev, Env.get_cons])]
        simp only [putE, Nat.reduceAdd]
        simp only [drawRun]
        refine if_pos ?_
        show _ = _
        kernel_rfl)]
      simp only [exec]
      rfl)])]
  show _ = _
  kernel_rfl
end

end Go.Ab.Cols
