/- The law TypesBack: the number of a word. -/
import Derived.Test.YtacjjncmbklplaaDoorAbB9
set_option maxRecDepth 1000000
namespace Go.Ab.Back
open Go Go.Ab
section
variable (C : Oracle) (D : DOracle) (L : Nat) (n : Int) (s r : List UInt8) (c : UInt8)
theorem n16_neg (hc1 : ((c.toNat : Int) == 43) = false) (hc2 : ((c.toNat : Int) == 45) = true) (hl2 : (1 : Int) ≤ (r.length : Int) + 1) (hf0 : ((r.length : Int) == 0) = false) (hf4 : ¬ 400 < (r.length : Int))
    (h14 : ∀ σ, C 14 [.p (.str r), .p (.str [48, 49, 50, 51, 52, 53, 54, 55, 56, 57])] σ = some (.ret (.p (.str [])), σ)) (h32 : ∀ σ, C 32 [.p (.str (c :: r)), .p (.int .i64 10), .p (.int .i64 64)] σ = some (.ret (.p (.tup [.int .i64 n, .nilif])), σ))
    (h33 : ∀ σ, C 33 [.p .nilif, .p (.iface 144 (.vptr []))] σ = some (.ret (.p (.bool false)), σ)) (h19 : ∀ σ, C 19 [.p (.int .i64 n), .p (ty 3 0)] σ = some (.ret (.p (.tup [val 1 n [] false, done])), σ)) :
    ansV (runFunc C D L lit33 [.p (.str (c :: r)), .p (ty 3 0)] []) = some (.tup [val 1 n [] false, done]) := by
  have hne : ((c :: r) == ([] : List UInt8)) = false := rfl
  unfold ty val at *
  rw [runFunc_eq]
  simp only [lit33]
  rw [seqN (a := .region _) (by simp [params, exec, runOps, wantedA, stepOp, pureOp, allocOp, ev, Env.get_cons, putE, AV.fit, AV.toCells, mkCells, allP, Cells.len]; rfl)]
  rw [seqN (a := .region _) (by simp [exec, runOps, wantedA, stepOp, pureOp, ev, Env.get_cons, putE]; rfl)]
  rw [seqN (a := .seq (.region _) (.cond _ _ _)) (by simp [exec, runOps, wantedA, stepOp, pureOp, ev, evO, Env.get_cons, putE, binA, intBin, strBin, atStrA, sliceA, boundsA, boundA, -beq_eq_false_iff_ne, -beq_iff_eq, -List.beq_nil_eq, -List.isEmpty_iff, -List.length_eq_zero_iff, hne, hc1, hc2, hl2]; rfl)]
  rw [seqN (a := .seq (.region _) (.cond _ _ _)) (by simp [exec, runOps, wantedA, stepOp, pureOp, ev, evs, Env.get_cons, putE, binA, intBin, strBin, target, -beq_eq_false_iff_ne, -beq_iff_eq, -List.beq_nil_eq, -List.isEmpty_iff, -List.length_eq_zero_iff, hf0, hf4, h14]; rfl)]
  rw [seqN (a := .region _) (by simp [exec, runOps, wantedA, stepOp, pureOp, ev, evs, Env.get_cons, putE, target, extractA, h32]; rfl)]
  rw [seqN (a := .seq (.region _) (.cond _ _ _)) (by simp [exec, runOps, wantedA, stepOp, pureOp, allocOp, readOp, ev, evs, Env.get_cons, putE, partP, target, h33]; rfl)]
  rw [seqN (a := .region _) (by simp [exec, runOps, wantedA, stepOp, pureOp, allocOp, readOp, effOp, ev, evs, Env.get_cons, putE, AV.fit, AV.toCells, partC, partP, Cells.len, target, spliceC, splice, extractA, h19]; rfl)]
  show _ = _
  kernel_rfl
theorem n16_pos (hs0 : s[0]? = some c) (hne : (s == []) = false) (hc1 : ((c.toNat : Int) == 43) = false) (hc2 : ((c.toNat : Int) == 45) = false) (hf0 : ((s.length : Int) == 0) = false) (hf4 : ¬ 400 < (s.length : Int))
    (h14 : ∀ σ, C 14 [.p (.str s), .p (.str [48, 49, 50, 51, 52, 53, 54, 55, 56, 57])] σ = some (.ret (.p (.str [])), σ)) (h32 : ∀ σ, C 32 [.p (.str s), .p (.int .i64 10), .p (.int .i64 64)] σ = some (.ret (.p (.tup [.int .i64 n, .nilif])), σ))
    (h33 : ∀ σ, C 33 [.p .nilif, .p (.iface 144 (.vptr []))] σ = some (.ret (.p (.bool false)), σ)) (h19 : ∀ σ, C 19 [.p (.int .i64 n), .p (ty 3 0)] σ = some (.ret (.p (.tup [val 1 n [] false, done])), σ)) :
    ansV (runFunc C D L lit33 [.p (.str s), .p (ty 3 0)] []) = some (.tup [val 1 n [] false, done]) := by
  unfold ty val at *
  rw [runFunc_eq]
  simp only [lit33]
  rw [seqN (a := .region _) (by simp [params, exec, runOps, wantedA, stepOp, pureOp, allocOp, ev, Env.get_cons, putE, AV.fit, AV.toCells, mkCells, allP, Cells.len]; rfl)]
  rw [seqN (a := .region _) (by simp [exec, runOps, wantedA, stepOp, pureOp, ev, Env.get_cons, putE]; rfl)]
  rw [seqN (a := .seq (.region _) (.cond _ _ _)) (by simp [exec, runOps, wantedA, stepOp, pureOp, ev, Env.get_cons, putE, binA, intBin, strBin, atStrA, -beq_eq_false_iff_ne, -beq_iff_eq, -List.beq_nil_eq, -List.isEmpty_iff, -List.length_eq_zero_iff, hs0, hne, hc1, hc2]; rfl)]
  rw [seqN (a := .seq (.region _) (.cond _ _ _)) (by simp [exec, runOps, wantedA, stepOp, pureOp, ev, evs, Env.get_cons, putE, binA, intBin, strBin, target, -beq_eq_false_iff_ne, -beq_iff_eq, -List.beq_nil_eq, -List.isEmpty_iff, -List.length_eq_zero_iff, hf0, hf4, h14]; rfl)]
  rw [seqN (a := .region _) (by simp [exec, runOps, wantedA, stepOp, pureOp, ev, evs, Env.get_cons, putE, target, extractA, h32]; rfl)]
  rw [seqN (a := .seq (.region _) (.cond _ _ _)) (by simp [exec, runOps, wantedA, stepOp, pureOp, allocOp, readOp, ev, evs, Env.get_cons, putE, partP, target, h33]; rfl)]
  rw [seqN (a := .region _) (by simp [exec, runOps, wantedA, stepOp, pureOp, allocOp, readOp, effOp, ev, evs, Env.get_cons, putE, AV.fit, AV.toCells, partC, partP, Cells.len, target, spliceC, splice, extractA, h19]; rfl)]
  show _ = _
  kernel_rfl
end

end Go.Ab.Back
