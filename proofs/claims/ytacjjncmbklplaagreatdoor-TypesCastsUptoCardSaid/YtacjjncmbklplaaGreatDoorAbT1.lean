/- TypesCasts: the document's products, differences and sizes of numbers. -/
import Derived.Test.YtacjjncmbklplaaGreatDoorAbS16
set_option linter.unusedSectionVars false
set_option linter.unusedSimpArgs false
set_option linter.unusedVariables false
set_option maxRecDepth 1000000
namespace Go.Ab.Cols
open Go Go.Ab Go.Ab.Names
theorem both82 (n m : Int) (L k : Nat) (σ : Heap) : (cAt TC L (k + 1)).1 82 [.p (val 1 n [] false), .p (val 1 m [] false), .p (.int .i64 1)] σ = some (.ret (.p (.tup [done, .bool false])), σ) := by
  refine call_ans (ps := [val 1 n [] false, val 1 m [] false, .int .i64 1]) (n := k) (af := lit82) (fz := true) rfl (by kernel_rfl) ?_ σ
  kernel_rfl
theorem wrapU (n : Int) (h : 0 ≤ n) (h' : n < 18446744073709551616) : IntKind.u64.wrap n = n := by
  simp [IntKind.wrap, IntKind.bits, IntKind.signed]
  omega
theorem wrapNeg (n : Int) (h : n < 0) (h' : -9223372036854775808 ≤ n) : IntKind.u64.wrap (-IntKind.u64.wrap n) = -n := by
  simp [IntKind.wrap, IntKind.bits, IntKind.signed]
  omega
theorem size84 (n : Int) (h1 : -9223372036854775808 ≤ n) (h2 : n ≤ 9223372036854775807) (L k : Nat) (σ : Heap) : (cAt TC L (k + 1)).1 84 [.p (.int .i64 n)] σ = some (.ret (.p (.int .u64 (if n < 0 then -n else n))), σ) := by
  refine call_ans (ps := [.int .i64 n]) (n := k) (af := lit84) (fz := true) rfl (by kernel_rfl) ?_ σ
  by_cases h : n < 0
  · have e := wrapNeg n h h1
    simp [runFunc, lit84, params, exec, runOps, wantedA, stepOp, pureOp, allocOp, readOp, effOp, ev, evs, evO, Env.get_cons, putE, binA, intBin, unA, AV.fit, AV.toCells, partC, partP, mkCells, allP, mkAgg, Cells.len, target, evParts, fillA, AV.cells, splice, spliceC, finA, leaveA, resA, resV, ansV, h, e]
  · have e := wrapU n (by omega) (by omega)
    simp [runFunc, lit84, params, exec, runOps, wantedA, stepOp, pureOp, allocOp, readOp, effOp, ev, evs, evO, Env.get_cons, putE, binA, intBin, unA, AV.fit, AV.toCells, partC, partP, mkCells, allP, mkAgg, Cells.len, target, evParts, fillA, AV.cells, splice, spliceC, finA, leaveA, resA, resV, ansV, h, e]
def WU (n : Int) : Int := IntKind.u64.wrap n
def BB : Int := 4294967296
def pW (a : Int) : Int := WU (a.tmod BB * Int.tmod 10 BB)
def qW (a : Int) : Int := WU (WU (WU (a.tdiv BB) * Int.tmod 10 BB) + WU ((pW a).tdiv BB))
def rW (a : Int) : Int := WU (WU (a.tmod BB * WU (Int.tdiv 10 BB)) + (qW a).tmod BB)
def hiW (a : Int) : Int := WU (WU (WU (WU (a.tdiv BB) * WU (Int.tdiv 10 BB)) + WU ((qW a).tdiv BB)) + WU ((rW a).tdiv BB))
def loW (a : Int) : Int := WU (WU ((rW a).tmod BB * BB) + (pW a).tmod BB)
theorem wide_eq (a : Int) (h0 : 0 ≤ a) (h1 : a ≤ 9223372036854775808) : hiW a = a * 10 / 18446744073709551616 ∧ loW a = a * 10 % 18446744073709551616 := by
  have t1 : a.tmod BB = a % 4294967296 := Int.tmod_eq_emod_of_nonneg h0
  have t2 : a.tdiv BB = a / 4294967296 := Int.tdiv_eq_ediv_of_nonneg h0
  have tt : (10 : Int).tmod BB = 10 := by decide
  have td : (10 : Int).tdiv BB = 0 := by decide
  have hp : pW a = a % 4294967296 * 10 := by
    unfold pW WU
    rw [t1, tt]
    exact wrapU _ (by omega) (by omega)
  have hq : qW a = a / 4294967296 * 10 + a % 4294967296 * 10 / 4294967296 := by
    unfold qW WU
    rw [t2, tt, hp, Int.tdiv_eq_ediv_of_nonneg (by omega), wrapU (a / 4294967296) (by omega) (by omega), wrapU (a / 4294967296 * 10) (by omega) (by omega)]
    unfold BB
    rw [wrapU (a % 4294967296 * 10 / 4294967296) (by omega) (by omega), wrapU _ (by omega) (by omega)]
  have q0 : 0 ≤ qW a := by omega
  have q1 : qW a < 184467440737095516160 := by omega
  have w0 : IntKind.u64.wrap 0 = 0 := by decide
  have hr : rW a = qW a % 4294967296 := by
    unfold rW WU
    rw [td, w0, Int.mul_zero, w0, Int.zero_add, Int.tmod_eq_emod_of_nonneg q0]
    unfold BB
    exact wrapU _ (by omega) (by omega)
  unfold hiW loW WU
  rw [td, w0, Int.mul_zero, w0, Int.zero_add, hr, Int.tdiv_eq_ediv_of_nonneg q0, Int.tdiv_eq_ediv_of_nonneg (a := qW a % 4294967296) (by omega), Int.tmod_eq_emod_of_nonneg (a := qW a % 4294967296) (by omega), hp, Int.tmod_eq_emod_of_nonneg (a := a % 4294967296 * 10) (by omega)]
  unfold BB
  generalize qW a = q at *
  constructor
  · rw [wrapU (q / 4294967296) (by omega) (by omega), wrapU (q / 4294967296) (by omega) (by omega), wrapU (q % 4294967296 / 4294967296) (by omega) (by omega), wrapU _ (by omega) (by omega)]
    omega
  · rw [wrapU (q % 4294967296 % 4294967296 * 4294967296) (by omega) (by omega), wrapU _ (by omega) (by omega)]
    omega
/-- the product by ten, in two words -/
theorem wide83 (a : Int) (h0 : 0 ≤ a) (h1 : a ≤ 9223372036854775808) (L k : Nat) (σ : Heap) : (cAt TC L (k + 1)).1 83 [.p (.int .u64 a), .p (.int .u64 10)] σ = some (.ret (.p (.tup [.int .u64 (a * 10 / 18446744073709551616), .int .u64 (a * 10 % 18446744073709551616)])), σ) := by
  refine call_ans (ps := [.int .u64 a, .int .u64 10]) (n := k) (af := lit83) (fz := true) rfl (by kernel_rfl) ?_ σ
  generalize (cAt TC L k).1 = C
  generalize (cAt TC L k).2 = D
  have h : ansV (runFunc C D L lit83 ([PV.int .u64 a, .int .u64 10].map .p) []) = some (.tup [.int .u64 (hiW a), .int .u64 (loW a)]) := by kernel_rfl
  rw [h, (wide_eq a h0 h1).1, (wide_eq a h0 h1).2]
/-- a difference, where it has room -/
def subZ (n : Int) : List PV := if -9223372036854775808 ≤ n ∧ n ≤ 9223372036854775807 then [val 1 n [] false, done] else [null, outOf]
theorem range_lt (n : Int) (h : n < -9223372036854775808 ∨ 9223372036854775807 < n) (h1 : -18446744073709551616 ≤ n) (h2 : n ≤ 18446744073709551615) : IntKind.i64.wrap n = if n < 0 then n + 18446744073709551616 else n - 18446744073709551616 := by
  simp [IntKind.wrap, IntKind.bits, IntKind.signed]
  split <;> split <;> omega
theorem sub57 (n m : Int) (n1 : -9223372036854775808 ≤ n) (n2 : n ≤ 9223372036854775807) (m1 : -9223372036854775808 ≤ m) (m2 : m ≤ 9223372036854775807) (L k : Nat) (σ : Heap) :
    (cAt TC L (k + 2)).1 57 [.p (val 1 n [] false), .p (val 1 m [] false)] σ = some (.ret (.p (.tup (subZ (n - m)))), σ) := by
  refine call_ans (ps := [val 1 n [] false, val 1 m [] false]) (n := k + 1) (af := lit57) (fz := true) rfl (by kernel_rfl) ?_ σ
  have h82 := both82 n m L k
  have h28 := fun x => num28 x L k
  generalize (cAt TC L (k + 1)).1 = C at h82 h28 ⊢
  generalize (cAt TC L (k + 1)).2 = D
  unfold val at h82 h28 ⊢
  have hw : IntKind.i64.wrap (n - m) = if -9223372036854775808 ≤ n - m ∧ n - m ≤ 9223372036854775807 then n - m else if n - m < 0 then n - m + 18446744073709551616 else n - m - 18446744073709551616 := by
    split
    · exact wrap_id _ (by omega) (by omega)
    · exact range_lt _ (by omega) (by omega) (by omega)
  unfold subZ
  obtain ⟨d, hd⟩ : ∃ d, IntKind.i64.wrap (n - m) = d := ⟨_, rfl⟩
  rw [hd] at hw
  have key : ∀ q : Bool, ((decide (0 ≤ n) && decide (m < 0) && decide (d < 0)) || (decide (n < 0) && decide (0 ≤ m) && decide (0 ≤ d))) = q → IntKind.i64.wrap (n - m) = d →
      ansV (runFunc C D L lit57 ([PV.agg [.int .i64 1, .int .i64 n, .str [], .bool false], .agg [.int .i64 1, .int .i64 m, .str [], .bool false]].map .p) []) = some (.tup (if q then [null, outOf] else [val 1 d [] false, done])) := by
    intro q hq hd
    rcases Int.lt_or_le n 0 with a | a <;> rcases Int.lt_or_le m 0 with b | b <;> rcases Int.lt_or_le d 0 with c | c <;>
      simp only [a, b, c, Int.not_le.2, Int.not_lt.2, decide_true, decide_false, Bool.and_true, Bool.and_false, Bool.or_true, Bool.or_false, Bool.false_or, Bool.true_or, Bool.and_self] at hq <;> subst hq <;>
      (simp [runFunc, lit57, params, exec, runOps, wantedA, stepOp, pureOp, allocOp, readOp, effOp, ev, evs, evO, Env.get_cons, putE, binA, intBin, unA, AV.fit, AV.toCells, partC, partP, mkCells, allP, mkAgg, Cells.len, target, evParts, fillA, AV.cells, splice, spliceC, finA, leaveA, resA, resV, ansV, extractA, h82, h28, hd, a, b, c, Int.not_le.2, Int.not_lt.2]; first | rfl | (show _ = _; kernel_rfl))
  by_cases hr : -9223372036854775808 ≤ n - m ∧ n - m ≤ 9223372036854775807
  · rw [if_pos hr] at hw ⊢
    have := key false (by simp only [Bool.or_eq_false_iff, Bool.and_eq_false_iff, decide_eq_false_iff_not]; omega) hd
    rw [hw] at this
    exact this
  · rw [if_neg hr] at hw ⊢
    refine key true ?_ hd
    simp only [Bool.or_eq_true, Bool.and_eq_true, decide_eq_true_eq]
    split at hw <;> omega
/-- a number below nought or nought, ten times -/
theorem mul56 (n : Int) (n1 : -9223372036854775808 ≤ n) (n2 : n ≤ 0) (L k : Nat) (σ : Heap) :
    (cAt TC L (k + 2)).1 56 [.p (val 1 n [] false), .p (val 1 10 [] false)] σ = some (.ret (.p (.tup (subZ (n * 10)))), σ) := by
  refine call_ans (ps := [val 1 n [] false, val 1 10 [] false]) (n := k + 1) (af := lit56) (fz := true) rfl (by kernel_rfl) ?_ σ
  rcases Int.lt_or_le n 0 with a | a
  case inr =>
    obtain rfl : n = 0 := by omega
    kernel_rfl
  have h82 := both82 n 10 L k
  have h28 := fun x => num28 x L k
  have h84 := size84 n n1 (by omega) L k
  have h84' := size84 10 (by decide) (by decide) L k
  have h83 := wide83 (-n) (by omega) (by omega) L k
  generalize (cAt TC L (k + 1)).1 = C at h82 h28 h84 h84' h83 ⊢
  generalize (cAt TC L (k + 1)).2 = D
  unfold val at h82 h28 ⊢
  rw [if_pos a] at h84
  rw [if_neg (by decide)] at h84'
  generalize hh : -n * 10 / 18446744073709551616 = hi at h83
  generalize hl : -n * 10 % 18446744073709551616 = lo at h83
  unfold subZ
  by_cases hr : -9223372036854775808 ≤ n * 10
  · rw [if_pos ⟨hr, by omega⟩]
    have c1 : ¬ 0 < hi := by omega
    have hlo : -n * 10 = lo := by rw [← hl]; exact (Int.emod_eq_of_lt (by omega) (by omega)).symm
    have c2 : ¬ 9223372036854775808 < lo := by omega
    have e : IntKind.i64.wrap (IntKind.u64.wrap (-lo)) = n * 10 := by
      simp [IntKind.wrap, IntKind.bits, IntKind.signed]
      omega
    clear hh hl hr hlo
    by_cases c3 : lo = 9223372036854775808
    · subst c3
      simp [runFunc, lit56, params, exec, runOps, wantedA, stepOp, pureOp, allocOp, readOp, effOp, ev, evs, evO, Env.get_cons, putE, binA, intBin, unA, AV.fit, AV.toCells, partC, partP, mkCells, allP, mkAgg, Cells.len, target, evParts, fillA, AV.cells, splice, spliceC, finA, leaveA, resA, resV, ansV, drawExec, drawRun, stillOp, keepE, readsOf, isE, opds, tmpsOf, carry, refOf, refV, oneH, wrIds, okRW, bef, isFree, between, touch, collect, idsL, idsV, idsO, eqP, extractA, h82, h28, h84, h84', h83, a, c1, e, -Int.reduceNeg]
      first | rfl | (show _ = _; kernel_rfl)
    · have c4 : (lo == 9223372036854775808) = false := by simpa using c3
      simp [runFunc, lit56, params, exec, runOps, wantedA, stepOp, pureOp, allocOp, readOp, effOp, ev, evs, evO, Env.get_cons, putE, binA, intBin, unA, AV.fit, AV.toCells, partC, partP, mkCells, allP, mkAgg, Cells.len, target, evParts, fillA, AV.cells, splice, spliceC, finA, leaveA, resA, resV, ansV, drawExec, drawRun, stillOp, keepE, readsOf, isE, opds, tmpsOf, carry, refOf, refV, oneH, wrIds, okRW, bef, isFree, between, touch, collect, idsL, idsV, idsO, eqP, extractA, h82, h28, h84, h84', h83, a, c1, c2, c4, e]
      first | rfl | (show _ = _; kernel_rfl)
  · rw [if_neg (by omega)]
    by_cases c1 : 0 < hi
    · clear hh hl hr
      simp [runFunc, lit56, params, exec, runOps, wantedA, stepOp, pureOp, allocOp, readOp, effOp, ev, evs, evO, Env.get_cons, putE, binA, intBin, unA, AV.fit, AV.toCells, partC, partP, mkCells, allP, mkAgg, Cells.len, target, evParts, fillA, AV.cells, splice, spliceC, finA, leaveA, resA, resV, ansV, drawExec, drawRun, stillOp, keepE, readsOf, isE, opds, tmpsOf, carry, refOf, refV, oneH, wrIds, okRW, bef, isFree, between, touch, collect, idsL, idsV, idsO, eqP, extractA, h82, h28, h84, h84', h83, a, c1]
      first | rfl | (show _ = _; kernel_rfl)
    · have c2 : 9223372036854775808 < lo := by omega
      clear hh hl hr
      simp [runFunc, lit56, params, exec, runOps, wantedA, stepOp, pureOp, allocOp, readOp, effOp, ev, evs, evO, Env.get_cons, putE, binA, intBin, unA, AV.fit, AV.toCells, partC, partP, mkCells, allP, mkAgg, Cells.len, target, evParts, fillA, AV.cells, splice, spliceC, finA, leaveA, resA, resV, ansV, drawExec, drawRun, stillOp, keepE, readsOf, isE, opds, tmpsOf, carry, refOf, refV, oneH, wrIds, okRW, bef, isFree, between, touch, collect, idsL, idsV, idsO, eqP, extractA, h82, h28, h84, h84', h83, a, c1, c2]
      first | rfl | (show _ = _; kernel_rfl)
end Go.Ab.Cols

/- TypesCasts: the document's number of a word: its loop. -/
set_option maxRecDepth 1000000
namespace Go.Ab.Cols
open Go Go.Ab Go.Ab.Names
theorem neg58 (n : Int) (n1 : -9223372036854775808 ≤ n) (n2 : n ≤ 9223372036854775807) (L k : Nat) (σ : Heap) :
    (cAt TC L (k + 3)).1 58 [.p (val 1 n [] false)] σ = some (.ret (.p (.tup (subZ (-n)))), σ) := by
  refine call_ans (ps := [val 1 n [] false]) (n := k + 2) (af := lit58) (fz := true) rfl (by kernel_rfl) ?_ σ
  have h28 := num28 0 L (k + 1)
  have h57 := sub57 0 n (by decide) (by decide) n1 n2 L k
  rw [Int.zero_sub] at h57
  obtain ⟨a, m, e, hz⟩ : ∃ (a m : Int) (e : List UInt8), subZ (-n) = [val a m [] false, .str e] := by
    unfold subZ
    split
    · exact ⟨_, _, _, rfl⟩
    · exact ⟨_, _, _, rfl⟩
  rw [hz] at h57 ⊢
  generalize (cAt TC L (k + 2)).1 = C at h28 h57 ⊢
  generalize (cAt TC L (k + 2)).2 = D
  unfold val at h28 h57 ⊢
  simp [runFunc, lit58, params, exec, runOps, wantedA, stepOp, pureOp, allocOp, readOp, effOp, ev, evs, evO, Env.get_cons, putE, binA, intBin, unA, AV.fit, AV.toCells, partC, partP, mkCells, allP, mkAgg, Cells.len, target, evParts, fillA, AV.cells, splice, spliceC, finA, leaveA, resA, resV, ansV, drawExec, drawRun, stillOp, keepE, readsOf, isE, opds, tmpsOf, carry, refOf, refV, oneH, wrIds, okRW, bef, isFree, between, touch, collect, idsL, idsV, idsO, extractA, h28, h57]
  first | rfl | (show _ = _; kernel_rfl)
def body34_1 : ACode := (ACode.region [{ dst := some 42, op := AOp.mv (Opd.t 9), guard := none }, { dst := some 43, op := AOp.mv (Opd.t 0), guard := none }, { dst := some 44, op := AOp.len true (Opd.t 43), guard := none }, { dst := some 45, op := AOp.bin (Bin.plain BinOp.lss) (Opd.t 42) (Opd.t 44), guard := none }]).seq (ACode.cond (Opd.t 45) ACode.skip (ACode.exit 0))
def body34_b1 : ACode := (ACode.region [{ dst := some 48, op := AOp.mv (Opd.t 0), guard := none }, { dst := some 49, op := AOp.mv (Opd.t 9), guard := none }, { dst := some 50, op := AOp.atStr (Opd.t 48) (Opd.t 49), guard := none }, { dst := some 51, op := AOp.bin (Bin.plain BinOp.lss) (Opd.t 50) (Opd.c (AV.p (PV.int IntKind.u8 (48)))), guard := none }, { dst := some 52, op := AOp.mv (Opd.t 51), guard := none }, { dst := some 53, op := AOp.mv (Opd.t 0), guard := some (52, false) }, { dst := some 54, op := AOp.mv (Opd.t 9), guard := some (52, false) }, { dst := some 55, op := AOp.atStr (Opd.t 53) (Opd.t 54), guard := some (52, false) }, { dst := some 56, op := AOp.bin (Bin.plain BinOp.gtr) (Opd.t 55) (Opd.c (AV.p (PV.int IntKind.u8 (57)))), guard := some (52, false) }, { dst := some 57, op := AOp.pick (Opd.t 52) (Opd.c (AV.p (PV.bool true))) (Opd.t 56), guard := none }]).seq (ACode.cond (Opd.t 57) ((ACode.region [{ dst := some 58, op := AOp.build [AV.p (PV.int IntKind.i64 (0)), AV.p (PV.int IntKind.i64 (0)), AV.p (PV.str []), AV.p (PV.bool false)] [], guard := none }, { dst := none, op := AOp.store 4 (Opd.t 4) (Opd.t 58), guard := none }, { dst := some 5, op := AOp.mv (Opd.c (AV.p (PV.str [50, 50, 48, 49, 56]))), guard := none }]).seq ACode.ret) ACode.skip)
def body34_b2 : ACode := (ACode.region [{ dst := some 59, op := AOp.mv (Opd.t 8), guard := none }, { dst := some 60, op := AOp.bin (Bin.plain BinOp.neq) (Opd.t 59) (Opd.c (AV.p (PV.str [48, 48, 48, 48, 48]))), guard := none }]).seq (ACode.cond (Opd.t 60) (ACode.exit 1) ACode.skip)
def body34_b3 : ACode := ACode.draw 8 [0, 0, 3, 7, 15, 15, 31, 127] [{ dst := some 62, op := AOp.load true 4 (Opd.t 7), guard := none }, { dst := some 63, op := AOp.call (Opd.c (AV.p (PV.fn 28))) [Opd.c (AV.p (PV.int IntKind.i64 (10)))], guard := none }, { dst := some 64, op := AOp.call (Opd.c (AV.p (PV.fn 56))) [Opd.t 62, Opd.t 63], guard := none }, { dst := some 61, op := AOp.mv (Opd.t 64), guard := none }, { dst := some 65, op := AOp.extract 0 (Opd.t 61), guard := none }, { dst := some 66, op := AOp.extract 1 (Opd.t 61), guard := none }, { dst := none, op := AOp.store 4 (Opd.t 7) (Opd.t 65), guard := none }, { dst := some 8, op := AOp.mv (Opd.t 66), guard := none }]
def body34_b4 : ACode := ACode.region [{ dst := some 67, op := AOp.mv (Opd.t 8), guard := none }, { dst := some 68, op := AOp.bin (Bin.plain BinOp.eql) (Opd.t 67) (Opd.c (AV.p (PV.str [48, 48, 48, 48, 48]))), guard := none }]
def body34_b5 : ACode := ACode.cond (Opd.t 68) (ACode.draw 13 [0, 0, 0, 6, 14, 30, 62, 127, 255, 511, 511, 1023, 4095] [{ dst := some 70, op := AOp.load true 4 (Opd.t 7), guard := none }, { dst := some 71, op := AOp.mv (Opd.t 0), guard := none }, { dst := some 72, op := AOp.mv (Opd.t 9), guard := none }, { dst := some 73, op := AOp.atStr (Opd.t 71) (Opd.t 72), guard := none }, { dst := some 74, op := AOp.bin (Bin.plain BinOp.sub) (Opd.t 73) (Opd.c (AV.p (PV.int IntKind.u8 (48)))), guard := none }, { dst := some 75, op := AOp.convInt IntKind.i64 (Opd.t 74), guard := none }, { dst := some 76, op := AOp.call (Opd.c (AV.p (PV.fn 28))) [Opd.t 75], guard := none }, { dst := some 77, op := AOp.call (Opd.c (AV.p (PV.fn 57))) [Opd.t 70, Opd.t 76], guard := none }, { dst := some 69, op := AOp.mv (Opd.t 77), guard := none }, { dst := some 78, op := AOp.extract 0 (Opd.t 69), guard := none }, { dst := some 79, op := AOp.extract 1 (Opd.t 69), guard := none }, { dst := none, op := AOp.store 4 (Opd.t 7) (Opd.t 78), guard := none }, { dst := some 8, op := AOp.mv (Opd.t 79), guard := none }]) ACode.skip
def body34_3 : ACode := ACode.region [{ dst := some 46, op := AOp.mv (Opd.t 9), guard := none }, { dst := some 47, op := AOp.bin (Bin.plain BinOp.add) (Opd.t 46) (Opd.c (AV.p (PV.int IntKind.i64 (1)))), guard := none }, { dst := some 9, op := AOp.mv (Opd.t 47), guard := none }]
def body34 : ACode := .seq body34_1 (.seq (.block 1 (.seq body34_b1 (.seq body34_b2 (.seq body34_b3 (.seq body34_b4 body34_b5))))) body34_3)
theorem lit34_eq : lit34.body = (ACode.region [{ dst := some 3, op := AOp.box 2 (Opd.t 1), guard := none }, { dst := some 4, op := AOp.alloc [AV.p (PV.int IntKind.i64 (0)), AV.p (PV.int IntKind.i64 (0)), AV.p (PV.str []), AV.p (PV.bool false)], guard := none }, { dst := some 5, op := AOp.mv (Opd.c (AV.p (PV.str []))), guard := none }]).seq ((ACode.region [{ dst := some 11, op := AOp.mv (Opd.t 0), guard := none }, { dst := some 12, op := AOp.len true (Opd.t 11), guard := none }, { dst := some 13, op := AOp.bin (Bin.plain BinOp.gtr) (Opd.t 12) (Opd.c (AV.p (PV.int IntKind.i64 (0)))), guard := none }, { dst := some 14, op := AOp.mv (Opd.t 13), guard := none }, { dst := some 15, op := AOp.mv (Opd.t 0), guard := some (14, true) }, { dst := some 16, op := AOp.atStr (Opd.t 15) (Opd.c (AV.p (PV.int IntKind.i64 (0)))), guard := some (14, true) }, { dst := some 17, op := AOp.bin (Bin.plain BinOp.eql) (Opd.t 16) (Opd.c (AV.p (PV.int IntKind.u8 (45)))), guard := some (14, true) }, { dst := some 18, op := AOp.pick (Opd.t 14) (Opd.t 17) (Opd.c (AV.p (PV.bool false))), guard := none }, { dst := some 6, op := AOp.mv (Opd.t 18), guard := none }]).seq (((ACode.region [{ dst := some 19, op := AOp.mv (Opd.t 6), guard := none }, { dst := some 20, op := AOp.mv (Opd.t 19), guard := none }, { dst := some 21, op := AOp.mv (Opd.t 0), guard := some (20, false) }, { dst := some 22, op := AOp.len true (Opd.t 21), guard := some (20, false) }, { dst := some 23, op := AOp.bin (Bin.plain BinOp.gtr) (Opd.t 22) (Opd.c (AV.p (PV.int IntKind.i64 (0)))), guard := some (20, false) }, { dst := some 24, op := AOp.mv (Opd.t 23), guard := some (20, false) }, { dst := some 25, op := AOp.mv (Opd.t 0), guard := some (24, true) }, { dst := some 26, op := AOp.atStr (Opd.t 25) (Opd.c (AV.p (PV.int IntKind.i64 (0)))), guard := some (24, true) }, { dst := some 27, op := AOp.bin (Bin.plain BinOp.eql) (Opd.t 26) (Opd.c (AV.p (PV.int IntKind.u8 (43)))), guard := some (24, true) }, { dst := some 28, op := AOp.pick (Opd.t 24) (Opd.t 27) (Opd.c (AV.p (PV.bool false))), guard := some (20, false) }, { dst := some 29, op := AOp.pick (Opd.t 20) (Opd.c (AV.p (PV.bool true))) (Opd.t 28), guard := none }]).seq (ACode.cond (Opd.t 29) (ACode.region [{ dst := some 30, op := AOp.mv (Opd.t 0), guard := none }, { dst := some 31, op := AOp.sliceStr (Opd.t 30) (some (Opd.c (AV.p (PV.int IntKind.i64 (1))))) none, guard := none }, { dst := some 0, op := AOp.mv (Opd.t 31), guard := none }]) ACode.skip)).seq (((ACode.region [{ dst := some 32, op := AOp.mv (Opd.t 0), guard := none }, { dst := some 33, op := AOp.len true (Opd.t 32), guard := none }, { dst := some 34, op := AOp.bin (Bin.plain BinOp.eql) (Opd.t 33) (Opd.c (AV.p (PV.int IntKind.i64 (0)))), guard := none }, { dst := some 35, op := AOp.mv (Opd.t 34), guard := none }, { dst := some 36, op := AOp.mv (Opd.t 0), guard := some (35, false) }, { dst := some 37, op := AOp.len true (Opd.t 36), guard := some (35, false) }, { dst := some 38, op := AOp.bin (Bin.plain BinOp.gtr) (Opd.t 37) (Opd.c (AV.p (PV.int IntKind.i64 (400)))), guard := some (35, false) }, { dst := some 39, op := AOp.pick (Opd.t 35) (Opd.c (AV.p (PV.bool true))) (Opd.t 38), guard := none }]).seq (ACode.cond (Opd.t 39) ((ACode.region [{ dst := some 40, op := AOp.build [AV.p (PV.int IntKind.i64 (0)), AV.p (PV.int IntKind.i64 (0)), AV.p (PV.str []), AV.p (PV.bool false)] [], guard := none }, { dst := none, op := AOp.store 4 (Opd.t 4) (Opd.t 40), guard := none }, { dst := some 5, op := AOp.mv (Opd.c (AV.p (PV.str [50, 50, 48, 49, 56]))), guard := none }]).seq ACode.ret) ACode.skip)).seq ((ACode.region [{ dst := some 41, op := AOp.build [AV.p (PV.int IntKind.i64 (0)), AV.p (PV.int IntKind.i64 (0)), AV.p (PV.str []), AV.p (PV.bool false)] [(0, 1, Opd.c (AV.p (PV.int IntKind.i64 (1))))], guard := none }, { dst := some 7, op := AOp.alloc [AV.p (PV.int IntKind.i64 (0)), AV.p (PV.int IntKind.i64 (0)), AV.p (PV.str []), AV.p (PV.bool false)], guard := none }, { dst := none, op := AOp.store 4 (Opd.t 7) (Opd.t 41), guard := none }]).seq ((ACode.region [{ dst := some 8, op := AOp.mv (Opd.c (AV.p (PV.str [48, 48, 48, 48, 48]))), guard := none }]).seq (((ACode.region [{ dst := some 9, op := AOp.mv (Opd.c (AV.p (PV.int IntKind.i64 (0)))), guard := none }]).seq (ACode.block 0 (ACode.loop none body34))).seq (((ACode.region [{ dst := some 80, op := AOp.mv (Opd.t 8), guard := none }, { dst := some 81, op := AOp.bin (Bin.plain BinOp.eql) (Opd.t 80) (Opd.c (AV.p (PV.str [48, 48, 48, 48, 48]))), guard := none }, { dst := some 82, op := AOp.mv (Opd.t 81), guard := none }, { dst := some 83, op := AOp.mv (Opd.t 6), guard := some (82, true) }, { dst := some 84, op := AOp.un UnOp.not (Opd.t 83), guard := some (82, true) }, { dst := some 85, op := AOp.pick (Opd.t 82) (Opd.t 84) (Opd.c (AV.p (PV.bool false))), guard := none }]).seq (ACode.cond (Opd.t 85) (ACode.region [{ dst := some 87, op := AOp.load true 4 (Opd.t 7), guard := none }, { dst := some 88, op := AOp.call (Opd.c (AV.p (PV.fn 58))) [Opd.t 87], guard := none }, { dst := some 86, op := AOp.mv (Opd.t 88), guard := none }, { dst := some 89, op := AOp.extract 0 (Opd.t 86), guard := none }, { dst := some 90, op := AOp.extract 1 (Opd.t 86), guard := none }, { dst := none, op := AOp.store 4 (Opd.t 7) (Opd.t 89), guard := none }, { dst := some 8, op := AOp.mv (Opd.t 90), guard := none }]) ACode.skip)).seq ((ACode.region [{ dst := some 91, op := AOp.fieldAddr 1 (Opd.t 7), guard := none }, { dst := some 92, op := AOp.load false 1 (Opd.t 91), guard := none }, { dst := some 93, op := AOp.load true 2 (Opd.t 3), guard := none }, { dst := some 94, op := AOp.call (Opd.c (AV.p (PV.fn 29))) [Opd.t 92, Opd.t 93], guard := none }, { dst := some 10, op := AOp.mv (Opd.t 94), guard := none }]).seq (((ACode.region [{ dst := some 95, op := AOp.mv (Opd.t 8), guard := none }, { dst := some 96, op := AOp.bin (Bin.plain BinOp.neq) (Opd.t 95) (Opd.c (AV.p (PV.str [48, 48, 48, 48, 48]))), guard := none }, { dst := some 97, op := AOp.mv (Opd.t 96), guard := none }, { dst := some 98, op := AOp.mv (Opd.t 10), guard := some (97, false) }, { dst := some 99, op := AOp.un UnOp.not (Opd.t 98), guard := some (97, false) }, { dst := some 100, op := AOp.pick (Opd.t 97) (Opd.c (AV.p (PV.bool true))) (Opd.t 99), guard := none }]).seq (ACode.cond (Opd.t 100) ((ACode.region [{ dst := some 101, op := AOp.build [AV.p (PV.int IntKind.i64 (0)), AV.p (PV.int IntKind.i64 (0)), AV.p (PV.str []), AV.p (PV.bool false)] [], guard := none }, { dst := none, op := AOp.store 4 (Opd.t 4) (Opd.t 101), guard := none }, { dst := some 5, op := AOp.mv (Opd.c (AV.p (PV.str [50, 50, 48, 48, 51]))), guard := none }]).seq ACode.ret) ACode.skip)).seq ((ACode.region [{ dst := some 102, op := AOp.load true 4 (Opd.t 7), guard := none }, { dst := none, op := AOp.store 4 (Opd.t 4) (Opd.t 102), guard := none }, { dst := some 5, op := AOp.mv (Opd.c (AV.p (PV.str [48, 48, 48, 48, 48]))), guard := none }]).seq ACode.ret)))))))))) := rfl
def stE : Option Int → List UInt8
  | some _ => [48, 48, 48, 48, 48]
  | none => [50, 50, 48, 48, 51]
def stC : Option Int → List PV
  | some n => [.int .i64 1, .int .i64 n, .str [], .bool false]
  | none => [.int .i64 0, .int .i64 0, .str [], .bool false]
def docStep (o : Option Int) (d : Nat) : Option Int := match o with
  | none => none
  | some n => if n * 10 < -9223372036854775808 then none else if n * 10 - (d : Int) < -9223372036854775808 then none else some (n * 10 - (d : Int))
theorem docStep_bind (o : Option Int) (d : Nat) (r : List Nat) : o.bind (Cast.docF (d :: r)) = (docStep o d).bind (Cast.docF r) := by
  cases o with
  | none => rfl
  | some n =>
    simp only [Option.bind_some, docStep]
    rw [Cast.docF]
    split
    · rfl
    · split <;> rfl
/-- below nought, in the numbers that are -/
def Below0 : Option Int → Prop
  | none => True
  | some n => -9223372036854775808 ≤ n ∧ n ≤ 0
theorem docStep_below (o : Option Int) (d : Nat) (h : Below0 o) : Below0 (docStep o d) := by
  cases o with
  | none => exact h
  | some n =>
    have h := h
    unfold Below0 at h
    simp only [docStep]
    split
    · trivial
    · split
      · trivial
      · unfold Below0
        simp only
        omega
structure At34 (s : List UInt8) (j : Nat) (e : List UInt8) (m : Bool) (ρ : Env) : Prop where
  g0 : ρ.get 0 = some (.p (.str s))
  g9 : ρ.get 9 = some (.p (.int .i64 (j : Int)))
  g8 : ρ.get 8 = some (.p (.str e))
  g7 : ρ.get 7 = some (.ptr 2 0 0)
  g4 : ρ.get 4 = some (.ptr 1 0 0)
  g3 : ρ.get 3 = some (.ptr 0 0 0)
  g6 : ρ.get 6 = some (.p (.bool m))
abbrev Zn : Obj := Obj.arr (Cells.pv [.int .i64 0, .int .i64 0, .str [], .bool false]) 0 0
abbrev hp34 (X : Obj) (l : List PV) : Heap := [X, Zn, Obj.arr (Cells.pv l) 0 0]
section
variable (C : Oracle) (L : Nat) (s : List UInt8) (j : Nat) (e : List UInt8) (m : Bool) (ρ : Env) (X : Obj) (l : List PV) (c : UInt8)
theorem over34 (h : At34 s s.length e m ρ) : ∃ ρ' : Env, exec C L body34 ⟨ρ, [], hp34 X l⟩ = some (.exit 0, ⟨ρ', [], hp34 X l⟩) ∧ At34 s s.length e m ρ' := by
  refine ⟨_, by simp [body34, body34_1, exec, runOps, wantedA, stepOp, pureOp, allocOp, readOp, effOp, ev, evs, evO, Env.get_cons, putE, binA, intBin, unA, AV.fit, AV.toCells, partC, partP, mkCells, allP, mkAgg, Cells.len, target, h.g0, h.g9]; rfl, ?_⟩
  constructor <;> simp [Env.get_cons, h.g0, h.g9, h.g8, h.g7, h.g4, h.g3, h.g6]
theorem s1 (h : At34 s j e m ρ) (hj : decide (j < s.length) = true) : ∃ ρ' : Env, exec C L body34_1 ⟨ρ, [], hp34 X l⟩ = some (.normal, ⟨ρ', [], hp34 X l⟩) ∧ At34 s j e m ρ' := by
  refine ⟨_, by simp [body34_1, exec, runOps, wantedA, stepOp, pureOp, allocOp, readOp, effOp, ev, evs, evO, Env.get_cons, putE, binA, intBin, unA, AV.fit, AV.toCells, partC, partP, mkCells, allP, mkAgg, Cells.len, target, h.g0, h.g9, -decide_eq_true_eq, hj]; rfl, ?_⟩
  constructor <;> simp [Env.get_cons, h.g0, h.g9, h.g8, h.g7, h.g4, h.g3, h.g6]
theorem b1_bad (h : At34 s j e m ρ) (hc : s[j]? = some c) (hf : ¬ (48 ≤ c.toNat ∧ c.toNat ≤ 57)) :
    ∃ ρ' : Env, exec C L body34_b1 ⟨ρ, [], hp34 X l⟩ = some (.ret, ⟨ρ', [], hp34 X l⟩) ∧ ρ'.get 4 = some (.ptr 1 0 0) ∧ ρ'.get 5 = some (.p (.str [50, 50, 48, 49, 56])) := by
  by_cases h1 : (c.toNat : Int) < 48
  · exact ⟨_, by simp [body34_b1, exec, runOps, wantedA, stepOp, pureOp, allocOp, readOp, effOp, ev, evs, evO, Env.get_cons, putE, binA, intBin, unA, AV.fit, AV.toCells, partC, partP, mkCells, allP, mkAgg, Cells.len, target, evParts, fillA, AV.cells, splice, spliceC, finA, leaveA, resA, resV, ansV, atStrA, h.g0, h.g9, h.g4, hc, h1]; rfl, by simp [Env.get_cons, h.g4], by simp [Env.get_cons]⟩
  · have h2 : 57 < (c.toNat : Int) := by omega
    exact ⟨_, by simp [body34_b1, exec, runOps, wantedA, stepOp, pureOp, allocOp, readOp, effOp, ev, evs, evO, Env.get_cons, putE, binA, intBin, unA, AV.fit, AV.toCells, partC, partP, mkCells, allP, mkAgg, Cells.len, target, evParts, fillA, AV.cells, splice, spliceC, finA, leaveA, resA, resV, ansV, atStrA, h.g0, h.g9, h.g4, hc, h1, h2]; rfl, by simp [Env.get_cons, h.g4], by simp [Env.get_cons]⟩
theorem b1_ok (h : At34 s j e m ρ) (hc : s[j]? = some c) (hf1 : 48 ≤ c.toNat) (hf2 : c.toNat ≤ 57) :
    ∃ ρ' : Env, exec C L body34_b1 ⟨ρ, [], hp34 X l⟩ = some (.normal, ⟨ρ', [], hp34 X l⟩) ∧ At34 s j e m ρ' := by
  have h1 : ¬ (c.toNat : Int) < 48 := by omega
  have h2 : ¬ 57 < (c.toNat : Int) := by omega
  refine ⟨_, by simp [body34_b1, exec, runOps, wantedA, stepOp, pureOp, allocOp, readOp, effOp, ev, evs, evO, Env.get_cons, putE, binA, intBin, unA, AV.fit, AV.toCells, partC, partP, mkCells, allP, mkAgg, Cells.len, target, evParts, fillA, AV.cells, splice, spliceC, finA, leaveA, resA, resV, ansV, atStrA, h.g0, h.g9, hc, h1, h2]; rfl, ?_⟩
  constructor <;> simp [Env.get_cons, h.g0, h.g9, h.g8, h.g7, h.g4, h.g3, h.g6]
theorem b2_late (h : At34 s j [50, 50, 48, 48, 51] m ρ) : ∃ ρ' : Env, exec C L body34_b2 ⟨ρ, [], hp34 X l⟩ = some (.exit 1, ⟨ρ', [], hp34 X l⟩) ∧ At34 s j [50, 50, 48, 48, 51] m ρ' := by
  refine ⟨_, by simp [body34_b2, exec, runOps, wantedA, stepOp, pureOp, allocOp, readOp, effOp, ev, evs, evO, Env.get_cons, putE, binA, intBin, unA, AV.fit, AV.toCells, partC, partP, mkCells, allP, mkAgg, Cells.len, target, strBin, h.g8]; rfl, ?_⟩
  constructor <;> simp [Env.get_cons, h.g0, h.g9, h.g8, h.g7, h.g4, h.g3, h.g6]
theorem b2_go (h : At34 s j [48, 48, 48, 48, 48] m ρ) : ∃ ρ' : Env, exec C L body34_b2 ⟨ρ, [], hp34 X l⟩ = some (.normal, ⟨ρ', [], hp34 X l⟩) ∧ At34 s j [48, 48, 48, 48, 48] m ρ' := by
  refine ⟨_, by simp [body34_b2, exec, runOps, wantedA, stepOp, pureOp, allocOp, readOp, effOp, ev, evs, evO, Env.get_cons, putE, binA, intBin, unA, AV.fit, AV.toCells, partC, partP, mkCells, allP, mkAgg, Cells.len, target, strBin, h.g8]; rfl, ?_⟩
  constructor <;> simp [Env.get_cons, h.g0, h.g9, h.g8, h.g7, h.g4, h.g3, h.g6]
theorem b3_go (n k a : Int) (q : List UInt8) (h : At34 s j [48, 48, 48, 48, 48] m ρ)
    (h28 : ∀ σ, C 28 [.p (.int .i64 10)] σ = some (.ret (.p (.agg [.int .i64 1, .int .i64 10, .str [], .bool false])), σ))
    (h56 : ∀ σ, C 56 [.p (.agg [.int .i64 1, .int .i64 n, .str [], .bool false]), .p (.agg [.int .i64 1, .int .i64 10, .str [], .bool false])] σ = some (.ret (.p (.tup [.agg [.int .i64 k, .int .i64 a, .str [], .bool false], .str q])), σ)) :
    ∃ ρ' : Env, exec C L body34_b3 ⟨ρ, [], hp34 X [.int .i64 1, .int .i64 n, .str [], .bool false]⟩ = some (.normal, ⟨ρ', [], hp34 X [.int .i64 k, .int .i64 a, .str [], .bool false]⟩) ∧ At34 s j q m ρ' := by
  refine ⟨_, by simp [body34_b3, exec, runOps, wantedA, stepOp, pureOp, allocOp, readOp, effOp, ev, evs, evO, Env.get_cons, putE, binA, intBin, unA, AV.fit, AV.toCells, partC, partP, mkCells, allP, mkAgg, Cells.len, target, evParts, fillA, AV.cells, splice, spliceC, finA, leaveA, resA, resV, ansV, drawExec, drawRun, stillOp, keepE, readsOf, isE, opds, tmpsOf, carry, refOf, refV, oneH, wrIds, okRW, bef, isFree, between, touch, collect, idsL, idsV, idsO, extractA, h.g7, h28, h56]; rfl, ?_⟩
  constructor <;> simp [Env.get_cons, h.g0, h.g9, h.g8, h.g7, h.g4, h.g3, h.g6]
end
end Go.Ab.Cols
