/- The laws on columns' values: numbers' ranges, texts' room, and what a column takes. -/
import Derived.Test.YtacjjncmbklplaaDoorAbB3
set_option maxRecDepth 1000000
namespace Go.Ab.Back
open Go Go.Ab
def done : PV := .str [48,48,48,48,48]
def outOf : PV := .str [50,50,48,48,51]
def tooLong : PV := .str [50,50,48,48,49]
def mism : PV := .str [52,50,56,48,52]
/-- has a number room in a type? -/
def inR (b n : Int) : Bool := if b = 1 then decide (-32768 ≤ n ∧ n ≤ 32767) else if b = 2 then decide (-2147483648 ≤ n ∧ n ≤ 2147483647) else true
theorem sh48 (n : Int) (h1 : -9223372036854775808 ≤ n) (h2 : n ≤ 9223372036854775807) : ((IntKind.i64.wrap (n * 281474976710656)).fdiv 281474976710656 != n) = !decide (-32768 ≤ n ∧ n ≤ 32767) := by
  have e : (IntKind.i64.wrap (n * 281474976710656)).fdiv 281474976710656 = (if (n * 281474976710656) % 18446744073709551616 ≥ 9223372036854775808 then (n * 281474976710656) % 18446744073709551616 - 18446744073709551616 else (n * 281474976710656) % 18446744073709551616) / 281474976710656 := by
    rw [Int.fdiv_eq_ediv_of_nonneg _ (by decide)]
    simp [IntKind.wrap, IntKind.bits, IntKind.signed]
  rw [e]
  unfold bne
  congr 1
  rw [Bool.eq_iff_iff]
  simp only [beq_iff_eq, decide_eq_true_eq]
  split <;> omega
theorem sh32 (n : Int) (h1 : -9223372036854775808 ≤ n) (h2 : n ≤ 9223372036854775807) : ((IntKind.i64.wrap (n * 4294967296)).fdiv 4294967296 != n) = !decide (-2147483648 ≤ n ∧ n ≤ 2147483647) := by
  have e : (IntKind.i64.wrap (n * 4294967296)).fdiv 4294967296 = (if (n * 4294967296) % 18446744073709551616 ≥ 9223372036854775808 then (n * 4294967296) % 18446744073709551616 - 18446744073709551616 else (n * 4294967296) % 18446744073709551616) / 4294967296 := by
    rw [Int.fdiv_eq_ediv_of_nonneg _ (by decide)]
    simp [IntKind.wrap, IntKind.bits, IntKind.signed]
  rw [e]
  unfold bne
  congr 1
  rw [Bool.eq_iff_iff]
  simp only [beq_iff_eq, decide_eq_true_eq]
  split <;> omega
theorem sh0 (n : Int) (h1 : -9223372036854775808 ≤ n) (h2 : n ≤ 9223372036854775807) : (IntKind.i64.wrap n != n) = !true := by
  rw [wrap_id n h1 h2]; simp
theorem w48 : IntKind.i64.wrap 48 = 48 := by decide
theorem w32 : IntKind.i64.wrap 32 = 32 := by decide
theorem w0 : IntKind.i64.wrap 0 = 0 := by decide
theorem ranged24 (b : Int) (hb : b = 1 ∨ b = 2 ∨ b = 3) (n : Int) (h1 : -9223372036854775808 ≤ n) (h2 : n ≤ 9223372036854775807) (r : Bool) (hr : inR b n = r) (L m : Nat) (σ : Heap) :
    (cAt TB L (m + 2)).1 19 [.p (.int .i64 n), .p (ty b 0)] σ = some (.ret (.p (.tup (if r then [val 1 n [] false, done] else [null, outOf]))), σ) := by
  refine call_ans (ps := [.int .i64 n, ty b 0]) (n := m + 1) (af := lit24) (fz := true) rfl (by kernel_rfl) ?_ σ
  unfold inR at hr
  rcases hb with rfl | rfl | rfl
  · have e := sh48 n h1 h2
    rw [if_pos rfl] at hr
    rw [hr] at e
    clear hr
    cases r <;> simp only [Bool.not_true, Bool.not_false] at e
    all_goals
      simp [ty, runFunc, lit24, params, exec, runOps, wantedA, stepOp, pureOp, allocOp, readOp, effOp, ev, Env.get_cons, putE, binA, intBin, intShift, AV.fit, AV.toCells, partC, partP, mkCells, allP, idxArrA, Cells.len, w48, IntKind.bits, -bne_iff_ne, -bne_eq_false_iff_eq, -bne_self_eq_false, e]
      show _ = _
      kernel_rfl
  · have e := sh32 n h1 h2
    rw [if_neg (by decide), if_pos rfl] at hr
    rw [hr] at e
    clear hr
    cases r <;> simp only [Bool.not_true, Bool.not_false] at e
    all_goals
      simp [ty, runFunc, lit24, params, exec, runOps, wantedA, stepOp, pureOp, allocOp, readOp, effOp, ev, Env.get_cons, putE, binA, intBin, intShift, AV.fit, AV.toCells, partC, partP, mkCells, allP, idxArrA, Cells.len, w32, IntKind.bits, -bne_iff_ne, -bne_eq_false_iff_eq, -bne_self_eq_false, e]
      show _ = _
      kernel_rfl
  · have e := sh0 n h1 h2
    rw [if_neg (by decide), if_neg (by decide)] at hr
    subst hr
    simp only [Bool.not_true] at e
    simp [ty, runFunc, lit24, params, exec, runOps, wantedA, stepOp, pureOp, allocOp, readOp, effOp, ev, Env.get_cons, putE, binA, intBin, intShift, AV.fit, AV.toCells, partC, partP, mkCells, allP, idxArrA, Cells.len, w0, IntKind.bits, -bne_iff_ne, -bne_eq_false_iff_eq, -bne_self_eq_false, e]
    show _ = _
    kernel_rfl
end Go.Ab.Back
