/- The laws on columns' values: what a column takes, by the program. -/
import Derived.Test.YtacjjncmbklplaaDoorAbB5
set_option maxRecDepth 1000000
namespace Go.Ab.Back
open Go Go.Ab
/-- the four kinds of values -/
def isVal (k n : Int) (s : List UInt8) (t : Bool) : Prop := (k = 0 ∧ n = 0 ∧ s = [] ∧ t = false) ∨ (k = 1 ∧ s = [] ∧ t = false) ∨ (k = 2 ∧ n = 0 ∧ t = false) ∨ (k = 3 ∧ n = 0 ∧ s = [])
section
variable (C : Oracle) (D : DOracle) (L : Nat) (b sz k n : Int) (s : List UInt8) (t : Bool)
theorem a14_none (h12 : ∀ σ, C 11 [.p (ty b sz)] σ = some (.ret (.p (.int .i64 0)), σ)) : ansV (runFunc C D L lit14 [.p (val k n s t), .p (ty b sz)] []) = some (.tup [null, mism]) := by
    unfold ty val at *
    simp [runFunc, lit14, params, exec, runOps, wantedA, stepOp, pureOp, allocOp, readOp, effOp, ev, evs, Env.get_cons, putE, binA, intBin, AV.fit, AV.toCells, partC, partP, mkCells, allP, mkAgg, Cells.len, target, h12]
    show _ = _
    kernel_rfl
theorem a14_null1 (h12 : ∀ σ, C 11 [.p (ty b sz)] σ = some (.ret (.p (.int .i64 1)), σ)) : ansV (runFunc C D L lit14 [.p (val 0 n s t), .p (ty b sz)] []) = some (.tup [null, done]) := by
    unfold ty val at *
    simp [runFunc, lit14, params, exec, runOps, wantedA, stepOp, pureOp, allocOp, readOp, effOp, ev, evs, Env.get_cons, putE, binA, intBin, AV.fit, AV.toCells, partC, partP, mkCells, allP, mkAgg, Cells.len, target, h12]
    show _ = _
    kernel_rfl
theorem a14_other1 (h12 : ∀ σ, C 11 [.p (ty b sz)] σ = some (.ret (.p (.int .i64 1)), σ)) (h0 : k ≠ 0) (hk : k ≠ 1) : ansV (runFunc C D L lit14 [.p (val k n s t), .p (ty b sz)] []) = some (.tup [null, mism]) := by
    have e0 : (k == 0) = false := by simp [h0]
    have ek : (k != 1) = true := by simp [hk]
    unfold ty val at *
    simp [runFunc, lit14, params, exec, runOps, wantedA, stepOp, pureOp, allocOp, readOp, effOp, ev, evs, Env.get_cons, putE, binA, intBin, AV.fit, AV.toCells, partC, partP, mkCells, allP, mkAgg, Cells.len, target, h12, e0, ek, -beq_eq_false_iff_ne, -bne_iff_ne, -beq_iff_eq]
    show _ = _
    kernel_rfl
theorem a14_null2 (h12 : ∀ σ, C 11 [.p (ty b sz)] σ = some (.ret (.p (.int .i64 2)), σ)) : ansV (runFunc C D L lit14 [.p (val 0 n s t), .p (ty b sz)] []) = some (.tup [null, done]) := by
    unfold ty val at *
    simp [runFunc, lit14, params, exec, runOps, wantedA, stepOp, pureOp, allocOp, readOp, effOp, ev, evs, Env.get_cons, putE, binA, intBin, AV.fit, AV.toCells, partC, partP, mkCells, allP, mkAgg, Cells.len, target, h12]
    show _ = _
    kernel_rfl
theorem a14_other2 (h12 : ∀ σ, C 11 [.p (ty b sz)] σ = some (.ret (.p (.int .i64 2)), σ)) (h0 : k ≠ 0) (hk : k ≠ 2) : ansV (runFunc C D L lit14 [.p (val k n s t), .p (ty b sz)] []) = some (.tup [null, mism]) := by
    have e0 : (k == 0) = false := by simp [h0]
    have ek : (k != 2) = true := by simp [hk]
    unfold ty val at *
    simp [runFunc, lit14, params, exec, runOps, wantedA, stepOp, pureOp, allocOp, readOp, effOp, ev, evs, Env.get_cons, putE, binA, intBin, AV.fit, AV.toCells, partC, partP, mkCells, allP, mkAgg, Cells.len, target, h12, e0, ek, -beq_eq_false_iff_ne, -bne_iff_ne, -beq_iff_eq]
    show _ = _
    kernel_rfl
theorem a14_null3 (h12 : ∀ σ, C 11 [.p (ty b sz)] σ = some (.ret (.p (.int .i64 3)), σ)) : ansV (runFunc C D L lit14 [.p (val 0 n s t), .p (ty b sz)] []) = some (.tup [null, done]) := by
    unfold ty val at *
    simp [runFunc, lit14, params, exec, runOps, wantedA, stepOp, pureOp, allocOp, readOp, effOp, ev, evs, Env.get_cons, putE, binA, intBin, AV.fit, AV.toCells, partC, partP, mkCells, allP, mkAgg, Cells.len, target, h12]
    show _ = _
    kernel_rfl
theorem a14_other3 (h12 : ∀ σ, C 11 [.p (ty b sz)] σ = some (.ret (.p (.int .i64 3)), σ)) (h0 : k ≠ 0) (hk : k ≠ 3) : ansV (runFunc C D L lit14 [.p (val k n s t), .p (ty b sz)] []) = some (.tup [null, mism]) := by
    have e0 : (k == 0) = false := by simp [h0]
    have ek : (k != 3) = true := by simp [hk]
    unfold ty val at *
    simp [runFunc, lit14, params, exec, runOps, wantedA, stepOp, pureOp, allocOp, readOp, effOp, ev, evs, Env.get_cons, putE, binA, intBin, AV.fit, AV.toCells, partC, partP, mkCells, allP, mkAgg, Cells.len, target, h12, e0, ek, -beq_eq_false_iff_ne, -bne_iff_ne, -beq_iff_eq]
    show _ = _
    kernel_rfl
theorem a14_bool (h12 : ∀ σ, C 11 [.p (ty b sz)] σ = some (.ret (.p (.int .i64 3)), σ)) : ansV (runFunc C D L lit14 [.p (val 3 n s t), .p (ty b sz)] []) = some (.tup [val 3 n s t, done]) := by
    unfold ty val at *
    simp [runFunc, lit14, params, exec, runOps, wantedA, stepOp, pureOp, allocOp, readOp, effOp, ev, evs, Env.get_cons, putE, binA, intBin, AV.fit, AV.toCells, partC, partP, mkCells, allP, Cells.len, target, h12]
    show _ = _
    kernel_rfl
theorem a14_num_true (h12 : ∀ σ, C 11 [.p (ty b sz)] σ = some (.ret (.p (.int .i64 1)), σ)) (h24 : ∀ σ, C 19 [.p (.int .i64 n), .p (ty b sz)] σ = some (.ret (.p (.tup [val 1 n [] false, done])), σ)) : ansV (runFunc C D L lit14 [.p (val 1 n s t), .p (ty b sz)] []) = some (.tup [val 1 n [] false, done]) := by
    unfold ty val at *
    simp [runFunc, lit14, params, exec, runOps, wantedA, stepOp, pureOp, allocOp, readOp, effOp, ev, evs, Env.get_cons, putE, binA, intBin, AV.fit, AV.toCells, partC, partP, mkCells, allP, mkAgg, Cells.len, target, h12]
    rw [h24]
    show _ = _
    kernel_rfl
theorem a14_num_false (h12 : ∀ σ, C 11 [.p (ty b sz)] σ = some (.ret (.p (.int .i64 1)), σ)) (h24 : ∀ σ, C 19 [.p (.int .i64 n), .p (ty b sz)] σ = some (.ret (.p (.tup [null, outOf])), σ)) : ansV (runFunc C D L lit14 [.p (val 1 n s t), .p (ty b sz)] []) = some (.tup [null, outOf]) := by
    unfold ty val at *
    simp [runFunc, lit14, params, exec, runOps, wantedA, stepOp, pureOp, allocOp, readOp, effOp, ev, evs, Env.get_cons, putE, binA, intBin, AV.fit, AV.toCells, partC, partP, mkCells, allP, mkAgg, Cells.len, target, h12]
    rw [h24]
    show _ = _
    kernel_rfl
theorem a14_short (h12 : ∀ σ, C 11 [.p (ty b sz)] σ = some (.ret (.p (.int .i64 2)), σ)) (h : (s.length : Int) ≤ sz) (u : List UInt8) (h26 : ∀ σ, C 12 [.p (.str s), .p (ty b sz)] σ = some (.ret (.p (.tup [val 2 0 u false, done])), σ)) : ansV (runFunc C D L lit14 [.p (val 2 n s t), .p (ty b sz)] []) = some (.tup [val 2 0 u false, done]) := by
    have hn : ¬ sz < (s.length : Int) := by omega
    unfold ty val at *
    simp [runFunc, lit14, params, exec, runOps, wantedA, stepOp, pureOp, allocOp, readOp, effOp, ev, evs, Env.get_cons, putE, binA, intBin, AV.fit, AV.toCells, partC, partP, mkCells, allP, mkAgg, Cells.len, target, h12, hn]
    rw [h26]
    show _ = _
    kernel_rfl
theorem a14_cut (h12 : ∀ σ, C 11 [.p (ty b sz)] σ = some (.ret (.p (.int .i64 2)), σ)) (h : sz < (s.length : Int)) (h0 : 0 ≤ sz) (h25 : ∀ σ, C 14 [.p (.str (s.drop sz.toNat)), .p (.str [32])] σ = some (.ret (.p (.str [])), σ)) (u : List UInt8) (h26 : ∀ σ, C 12 [.p (.str (s.take sz.toNat)), .p (ty b sz)] σ = some (.ret (.p (.tup [val 2 0 u false, done])), σ)) : ansV (runFunc C D L lit14 [.p (val 2 n s t), .p (ty b sz)] []) = some (.tup [val 2 0 u false, done]) := by
    have hl : sz ≤ (s.length : Int) := by omega
    have hl2 : sz.toNat ≤ s.length := by omega
    have e : (s.drop sz.toNat).take (s.length - sz.toNat) = s.drop sz.toNat := List.take_of_length_le (by simp)
    unfold ty val at *
    simp [runFunc, lit14, params, exec, runOps, wantedA, stepOp, pureOp, allocOp, readOp, effOp, ev, evs, evO, Env.get_cons, putE, binA, intBin, strBin, AV.fit, AV.toCells, partC, partP, mkCells, allP, mkAgg, Cells.len, target, h12, h, h0, hl, e, h25, sliceA, boundsA, boundA]
    rw [h26]
    show _ = _
    kernel_rfl
theorem a14_long (h12 : ∀ σ, C 11 [.p (ty b sz)] σ = some (.ret (.p (.int .i64 2)), σ)) (h : sz < (s.length : Int)) (h0 : 0 ≤ sz) (tr : List UInt8) (htr : (tr == []) = false) (h25 : ∀ σ, C 14 [.p (.str (s.drop sz.toNat)), .p (.str [32])] σ = some (.ret (.p (.str tr)), σ)) (h26 : ∀ σ, C 12 [.p (.str s), .p (ty b sz)] σ = some (.ret (.p (.tup [null, tooLong])), σ)) : ansV (runFunc C D L lit14 [.p (val 2 n s t), .p (ty b sz)] []) = some (.tup [null, tooLong]) := by
    have hl : sz ≤ (s.length : Int) := by omega
    have hl2 : sz.toNat ≤ s.length := by omega
    have e : (s.drop sz.toNat).take (s.length - sz.toNat) = s.drop sz.toNat := List.take_of_length_le (by simp)
    unfold ty val at *
    simp [runFunc, lit14, params, exec, runOps, wantedA, stepOp, pureOp, allocOp, readOp, effOp, ev, evs, evO, Env.get_cons, putE, binA, intBin, strBin, AV.fit, AV.toCells, partC, partP, mkCells, allP, mkAgg, Cells.len, target, h12, h, h0, hl, e, h25, htr, -beq_eq_false_iff_ne, -List.isEmpty_iff, -List.beq_nil_eq, sliceA, boundsA, boundA]
    rw [h26]
    show _ = _
    kernel_rfl
end

end Go.Ab.Back
