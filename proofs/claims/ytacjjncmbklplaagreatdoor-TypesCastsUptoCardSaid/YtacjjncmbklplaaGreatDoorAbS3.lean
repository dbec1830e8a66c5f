/- The laws on columns' values: kinds of types, ranges. -/
import Derived.Test.YtacjjncmbklplaaGreatDoorAbS2
import Derived.Test.YtacjjncmbklplaaGreatDoorAbN2
set_option linter.unusedSectionVars false
set_option linter.unusedSimpArgs false
set_option linter.unusedVariables false
set_option maxRecDepth 1000000
namespace Go.Ab.Cols
open Go Go.Ab Go.Ab.Names
/-- the kind that a type has -/
def kindZ (b s : Int) : Int :=
  if (b = 1 ∨ b = 2 ∨ b = 3) ∧ s = 0 then 1 else if (b = 4 ∨ b = 5) ∧ 1 ≤ s ∧ s ≤ 100 then 2 else if b = 6 ∧ s = 0 then 3 else 0
theorem kind_cases (b s : Int) : (wrong b s ∧ kindZ b s = 0) ∨ ((b = 1 ∨ b = 2 ∨ b = 3) ∧ s = 0 ∧ kindZ b s = 1) ∨ ((b = 4 ∨ b = 5) ∧ 1 ≤ s ∧ s ≤ 100 ∧ kindZ b s = 2) ∨ (b = 6 ∧ s = 0 ∧ kindZ b s = 3) := by
  unfold kindZ wrong
  by_cases h1 : (b = 1 ∨ b = 2 ∨ b = 3) ∧ s = 0
  · rw [if_pos h1]; exact .inr (.inl ⟨h1.1, h1.2, rfl⟩)
  · rw [if_neg h1]
    by_cases h2 : (b = 4 ∨ b = 5) ∧ 1 ≤ s ∧ s ≤ 100
    · rw [if_pos h2]; exact .inr (.inr (.inl ⟨h2.1, h2.2.1, h2.2.2, rfl⟩))
    · rw [if_neg h2]
      by_cases h3 : b = 6 ∧ s = 0
      · rw [if_pos h3]; exact .inr (.inr (.inr ⟨h3.1, h3.2, rfl⟩))
      · rw [if_neg h3]; exact .inl ⟨by omega, rfl⟩

theorem wrong8 (b s : Int) (h : wrong b s) (L m : Nat) (σ : Heap) : (cAt TC L (m + 1)).1 8 [.p (ty b s)] σ = some (.ret (.p (.bool false)), σ) := by
  refine call_ans (ps := [ty b s]) (n := m) (af := Names.lit8) (fz := true) rfl (by kernel_rfl) ?_ σ
  generalize (cAt TC L m).1 = C
  generalize (cAt TC L m).2 = D
  unfold ty
  rcases h with h | h | ⟨rfl | rfl | rfl | rfl, h⟩ | ⟨rfl | rfl, h | h⟩
  · simp [runFunc, Names.lit8, params, exec, runOps, wantedA, stepOp, pureOp, allocOp, readOp, ev, Env.get_cons, putE, binA, intBin, AV.fit, AV.toCells, partC, partP, Cells.len, h]
    show _ = _
    kernel_rfl
  · have h1 : ¬ b < 1 := by omega
    simp [runFunc, Names.lit8, params, exec, runOps, wantedA, stepOp, pureOp, allocOp, readOp, ev, Env.get_cons, putE, binA, intBin, AV.fit, AV.toCells, partC, partP, Cells.len, h, h1]
    show _ = _
    kernel_rfl
  · have hs : (s == 0) = false := by simp [h]
    simp [runFunc, Names.lit8, params, exec, runOps, wantedA, stepOp, pureOp, allocOp, readOp, ev, Env.get_cons, putE, binA, intBin, AV.fit, AV.toCells, partC, partP, Cells.len, idxArrA, hs, -beq_eq_false_iff_ne]
    try rw [hs]
    show _ = _
    kernel_rfl
  · have hs : (s == 0) = false := by simp [h]
    simp [runFunc, Names.lit8, params, exec, runOps, wantedA, stepOp, pureOp, allocOp, readOp, ev, Env.get_cons, putE, binA, intBin, AV.fit, AV.toCells, partC, partP, Cells.len, idxArrA, hs, -beq_eq_false_iff_ne]
    try rw [hs]
    show _ = _
    kernel_rfl
  · have hs : (s == 0) = false := by simp [h]
    simp [runFunc, Names.lit8, params, exec, runOps, wantedA, stepOp, pureOp, allocOp, readOp, ev, Env.get_cons, putE, binA, intBin, AV.fit, AV.toCells, partC, partP, Cells.len, idxArrA, hs, -beq_eq_false_iff_ne]
    try rw [hs]
    show _ = _
    kernel_rfl
  · have hs : (s == 0) = false := by simp [h]
    simp [runFunc, Names.lit8, params, exec, runOps, wantedA, stepOp, pureOp, allocOp, readOp, ev, Env.get_cons, putE, binA, intBin, AV.fit, AV.toCells, partC, partP, Cells.len, idxArrA, hs, -beq_eq_false_iff_ne]
    try rw [hs]
    show _ = _
    kernel_rfl
  · have h1 : ¬ 1 ≤ s := by omega
    simp [runFunc, Names.lit8, params, exec, runOps, wantedA, stepOp, pureOp, allocOp, readOp, ev, Env.get_cons, putE, binA, intBin, AV.fit, AV.toCells, partC, partP, Cells.len, idxArrA, h1]
    show _ = _
    kernel_rfl
  · have h1 : 1 ≤ s := by omega
    have h2 : ¬ s ≤ 100 := by omega
    simp [runFunc, Names.lit8, params, exec, runOps, wantedA, stepOp, pureOp, allocOp, readOp, ev, Env.get_cons, putE, binA, intBin, AV.fit, AV.toCells, partC, partP, Cells.len, idxArrA, h1, h2]
    show _ = _
    kernel_rfl
  · have h1 : ¬ 1 ≤ s := by omega
    simp [runFunc, Names.lit8, params, exec, runOps, wantedA, stepOp, pureOp, allocOp, readOp, ev, Env.get_cons, putE, binA, intBin, AV.fit, AV.toCells, partC, partP, Cells.len, idxArrA, h1]
    show _ = _
    kernel_rfl
  · have h1 : 1 ≤ s := by omega
    have h2 : ¬ s ≤ 100 := by omega
    simp [runFunc, Names.lit8, params, exec, runOps, wantedA, stepOp, pureOp, allocOp, readOp, ev, Env.get_cons, putE, binA, intBin, AV.fit, AV.toCells, partC, partP, Cells.len, idxArrA, h1, h2]
    show _ = _
    kernel_rfl

theorem wrong9 (b s : Int) (h : wrong b s) (L m : Nat) (σ : Heap) : (cAt TC L (m + 1)).1 9 [.p (ty b s)] σ = some (.ret (.p (.bool false)), σ) := by
  refine call_ans (ps := [ty b s]) (n := m) (af := Names.lit9) (fz := true) rfl (by kernel_rfl) ?_ σ
  generalize (cAt TC L m).1 = C
  generalize (cAt TC L m).2 = D
  unfold ty
  rcases h with h | h | ⟨rfl | rfl | rfl | rfl, h⟩ | ⟨rfl | rfl, h | h⟩
  · have n1 : (b == 1) = false := by simp; omega
    have n2 : (b == 2) = false := by simp; omega
    have n3 : (b == 3) = false := by simp; omega
    have n4 : (b == 4) = false := by simp; omega
    have n5 : (b == 5) = false := by simp; omega
    have n6 : (b == 6) = false := by simp; omega
    simp [runFunc, Names.lit9, params, exec, runOps, wantedA, stepOp, pureOp, allocOp, readOp, ev, Env.get_cons, putE, binA, intBin, AV.fit, AV.toCells, partC, partP, Cells.len, n1, n2, n3, n4, n5, n6, -beq_eq_false_iff_ne]
    show _ = _
    kernel_rfl
  · have n1 : (b == 1) = false := by simp; omega
    have n2 : (b == 2) = false := by simp; omega
    have n3 : (b == 3) = false := by simp; omega
    have n4 : (b == 4) = false := by simp; omega
    have n5 : (b == 5) = false := by simp; omega
    have n6 : (b == 6) = false := by simp; omega
    simp [runFunc, Names.lit9, params, exec, runOps, wantedA, stepOp, pureOp, allocOp, readOp, ev, Env.get_cons, putE, binA, intBin, AV.fit, AV.toCells, partC, partP, Cells.len, n1, n2, n3, n4, n5, n6, -beq_eq_false_iff_ne]
    show _ = _
    kernel_rfl
  · have hs : (s == 0) = false := by simp [h]
    simp [runFunc, Names.lit9, params, exec, runOps, wantedA, stepOp, pureOp, allocOp, readOp, ev, Env.get_cons, putE, binA, intBin, AV.fit, AV.toCells, partC, partP, Cells.len, hs, -beq_eq_false_iff_ne]
    try rw [hs]
    show _ = _
    kernel_rfl
  · have hs : (s == 0) = false := by simp [h]
    simp [runFunc, Names.lit9, params, exec, runOps, wantedA, stepOp, pureOp, allocOp, readOp, ev, Env.get_cons, putE, binA, intBin, AV.fit, AV.toCells, partC, partP, Cells.len, hs, -beq_eq_false_iff_ne]
    try rw [hs]
    show _ = _
    kernel_rfl
  · have hs : (s == 0) = false := by simp [h]
    simp [runFunc, Names.lit9, params, exec, runOps, wantedA, stepOp, pureOp, allocOp, readOp, ev, Env.get_cons, putE, binA, intBin, AV.fit, AV.toCells, partC, partP, Cells.len, hs, -beq_eq_false_iff_ne]
    try rw [hs]
    show _ = _
    kernel_rfl
  · have hs : (s == 0) = false := by simp [h]
    simp [runFunc, Names.lit9, params, exec, runOps, wantedA, stepOp, pureOp, allocOp, readOp, ev, Env.get_cons, putE, binA, intBin, AV.fit, AV.toCells, partC, partP, Cells.len, hs, -beq_eq_false_iff_ne]
    try rw [hs]
    show _ = _
    kernel_rfl
  · have h1 : ¬ 1 ≤ s := by omega
    simp [runFunc, Names.lit9, params, exec, runOps, wantedA, stepOp, pureOp, allocOp, readOp, ev, Env.get_cons, putE, binA, intBin, AV.fit, AV.toCells, partC, partP, Cells.len, h1]
    show _ = _
    kernel_rfl
  · have h1 : 1 ≤ s := by omega
    have h2 : ¬ s ≤ 100 := by omega
    simp [runFunc, Names.lit9, params, exec, runOps, wantedA, stepOp, pureOp, allocOp, readOp, ev, Env.get_cons, putE, binA, intBin, AV.fit, AV.toCells, partC, partP, Cells.len, h1, h2]
    show _ = _
    kernel_rfl
  · have h1 : ¬ 1 ≤ s := by omega
    simp [runFunc, Names.lit9, params, exec, runOps, wantedA, stepOp, pureOp, allocOp, readOp, ev, Env.get_cons, putE, binA, intBin, AV.fit, AV.toCells, partC, partP, Cells.len, h1]
    show _ = _
    kernel_rfl
  · have h1 : 1 ≤ s := by omega
    have h2 : ¬ s ≤ 100 := by omega
    simp [runFunc, Names.lit9, params, exec, runOps, wantedA, stepOp, pureOp, allocOp, readOp, ev, Env.get_cons, putE, binA, intBin, AV.fit, AV.toCells, partC, partP, Cells.len, h1, h2]
    show _ = _
    kernel_rfl

theorem right8 (b s : Int) (h : (b = 1 ∧ s = 0) ∨ (b = 2 ∧ s = 0) ∨ (b = 3 ∧ s = 0) ∨ (b = 6 ∧ s = 0) ∨ (b = 4 ∧ 1 ≤ s ∧ s ≤ 100) ∨ (b = 5 ∧ 1 ≤ s ∧ s ≤ 100)) (L m : Nat) (σ : Heap) : (cAt TC L (m + 1)).1 8 [.p (ty b s)] σ = some (.ret (.p (.bool true)), σ) := by
  refine call_ans (ps := [ty b s]) (n := m) (af := Names.lit8) (fz := true) rfl (by kernel_rfl) ?_ σ
  generalize (cAt TC L m).1 = C
  generalize (cAt TC L m).2 = D
  unfold ty
  rcases h with ⟨rfl, rfl⟩ | ⟨rfl, rfl⟩ | ⟨rfl, rfl⟩ | ⟨rfl, rfl⟩ | ⟨rfl, h1, h2⟩ | ⟨rfl, h1, h2⟩
  · kernel_rfl
  · kernel_rfl
  · kernel_rfl
  · kernel_rfl
  · simp [runFunc, Names.lit8, params, exec, runOps, wantedA, stepOp, pureOp, allocOp, readOp, ev, Env.get_cons, putE, binA, intBin, AV.fit, AV.toCells, partC, partP, Cells.len, idxArrA, h1, h2]
    show _ = _
    kernel_rfl
  · simp [runFunc, Names.lit8, params, exec, runOps, wantedA, stepOp, pureOp, allocOp, readOp, ev, Env.get_cons, putE, binA, intBin, AV.fit, AV.toCells, partC, partP, Cells.len, idxArrA, h1, h2]
    show _ = _
    kernel_rfl
theorem right9 (b s : Int) (h : (b = 1 ∧ s = 0) ∨ (b = 2 ∧ s = 0) ∨ (b = 3 ∧ s = 0) ∨ (b = 6 ∧ s = 0) ∨ (b = 4 ∧ 1 ≤ s ∧ s ≤ 100) ∨ (b = 5 ∧ 1 ≤ s ∧ s ≤ 100)) (L m : Nat) (σ : Heap) : (cAt TC L (m + 1)).1 9 [.p (ty b s)] σ = some (.ret (.p (.bool true)), σ) := by
  refine call_ans (ps := [ty b s]) (n := m) (af := Names.lit9) (fz := true) rfl (by kernel_rfl) ?_ σ
  generalize (cAt TC L m).1 = C
  generalize (cAt TC L m).2 = D
  unfold ty
  rcases h with ⟨rfl, rfl⟩ | ⟨rfl, rfl⟩ | ⟨rfl, rfl⟩ | ⟨rfl, rfl⟩ | ⟨rfl, h1, h2⟩ | ⟨rfl, h1, h2⟩
  · kernel_rfl
  · kernel_rfl
  · kernel_rfl
  · kernel_rfl
  · simp [runFunc, Names.lit9, params, exec, runOps, wantedA, stepOp, pureOp, allocOp, readOp, ev, Env.get_cons, putE, binA, intBin, AV.fit, AV.toCells, partC, partP, Cells.len, h1, h2]
    show _ = _
    kernel_rfl
  · simp [runFunc, Names.lit9, params, exec, runOps, wantedA, stepOp, pureOp, allocOp, readOp, ev, Env.get_cons, putE, binA, intBin, AV.fit, AV.toCells, partC, partP, Cells.len, h1, h2]
    show _ = _
    kernel_rfl
theorem kind12 (b s : Int) (L m : Nat) (σ : Heap) : (cAt TC L (m + 2)).1 12 [.p (ty b s)] σ = some (.ret (.p (.int .i64 (kindZ b s))), σ) := by
  refine call_ans (ps := [ty b s]) (n := m + 1) (af := Names.lit12) (fz := true) rfl (by kernel_rfl) ?_ σ
  have hw := wrong8 b s
  have hr := right8 b s
  have hw := fun h => hw h L m
  have hr := fun h => hr h L m
  generalize (cAt TC L (m + 1)).1 = C at hw hr ⊢
  generalize (cAt TC L (m + 1)).2 = D
  unfold ty at hw hr ⊢
  rcases kind_cases b s with ⟨h, k⟩ | ⟨rfl | rfl | rfl, rfl, k⟩ | ⟨rfl | rfl, h1, h2, k⟩ | ⟨rfl, rfl, k⟩ <;> rw [k]
  · have hw := hw h
    simp [runFunc, Names.lit12, params, exec, runOps, wantedA, stepOp, pureOp, allocOp, readOp, ev, evs, Env.get_cons, putE, unA, AV.fit, AV.toCells, partC, partP, Cells.len, target, hw]
    show _ = _
    kernel_rfl
  all_goals
    have hr := hr (by omega)
    simp [runFunc, Names.lit12, params, exec, runOps, wantedA, stepOp, pureOp, allocOp, readOp, effOp, ev, evs, Env.get_cons, putE, unA, AV.fit, AV.toCells, partC, partP, Cells.len, target, hr]
    show _ = _
    kernel_rfl
theorem kind13 (b s : Int) (L m : Nat) (σ : Heap) : (cAt TC L (m + 2)).1 13 [.p (ty b s)] σ = some (.ret (.p (.int .i64 (kindZ b s))), σ) := by
  refine call_ans (ps := [ty b s]) (n := m + 1) (af := Names.lit13) (fz := true) rfl (by kernel_rfl) ?_ σ
  have hw := wrong9 b s
  have hr := right9 b s
  have hw := fun h => hw h L m
  have hr := fun h => hr h L m
  generalize (cAt TC L (m + 1)).1 = C at hw hr ⊢
  generalize (cAt TC L (m + 1)).2 = D
  unfold ty at hw hr ⊢
  rcases kind_cases b s with ⟨h, k⟩ | ⟨rfl | rfl | rfl, rfl, k⟩ | ⟨rfl | rfl, h1, h2, k⟩ | ⟨rfl, rfl, k⟩ <;> rw [k]
  · have hw := hw h
    simp [runFunc, Names.lit13, params, exec, runOps, wantedA, stepOp, pureOp, allocOp, readOp, ev, evs, Env.get_cons, putE, unA, AV.fit, AV.toCells, partC, partP, Cells.len, target, hw]
    show _ = _
    kernel_rfl
  all_goals
    have hr := hr (by omega)
    simp [runFunc, Names.lit13, params, exec, runOps, wantedA, stepOp, pureOp, allocOp, readOp, effOp, ev, evs, Env.get_cons, putE, unA, AV.fit, AV.toCells, partC, partP, Cells.len, target, hr]
    show _ = _
    kernel_rfl

end Go.Ab.Cols

/- The laws on columns' values: numbers' ranges, texts' room, and what a column takes. -/
set_option maxRecDepth 1000000
namespace Go.Ab.Cols
open Go Go.Ab Go.Ab.Names
def done : PV := .str [48,48,48,48,48]
def outOf : PV := .str [50,50,48,48,51]
def tooLong : PV := .str [50,50,48,48,49]
def mism : PV := .str [52,50,56,48,52]
/-- has a number room in a type? -/
def inR (b n : Int) : Bool := if b = 1 then decide (-32768 ≤ n ∧ n ≤ 32767) else if b = 2 then decide (-2147483648 ≤ n ∧ n ≤ 2147483647) else true
theorem sh48 (n : Int) (h1 : -9223372036854775808 ≤ n) (h2 : n ≤ 9223372036854775807) : ((IntKind.i64.wrap (n * 281474976710656)).fdiv 281474976710656 != n) = !decide (-32768 ≤ n ∧ n ≤ 32767) := by
  have e : (IntKind.i64.wrap (n * 281474976710656)).fdiv 281474976710656 = (if (n * 281474976710656) % 18446744073709551616 ≥ 9223372036854775808 then (n * 281474976710656) % 18446744073709551616 - 18446744073709551616 else (n * 281474976710656) % 18446744073709551616) / 281474976710656 := by
    rw [Int.fdiv_eq_ediv_of_nonneg _ (by decide)]
    simp [IntKind.wrap, IntKind.bits, IntKind.signed]
  rw [e]
  unfold bne
  congr 1
  rw [Bool.eq_iff_iff]
  simp only [beq_iff_eq, decide_eq_true_eq]
  split <;> omega
theorem sh32 (n : Int) (h1 : -9223372036854775808 ≤ n) (h2 : n ≤ 9223372036854775807) : ((IntKind.i64.wrap (n * 4294967296)).fdiv 4294967296 != n) = !decide (-2147483648 ≤ n ∧ n ≤ 2147483647) := by
  have e : (IntKind.i64.wrap (n * 4294967296)).fdiv 4294967296 = (if (n * 4294967296) % 18446744073709551616 ≥ 9223372036854775808 then (n * 4294967296) % 18446744073709551616 - 18446744073709551616 else (n * 4294967296) % 18446744073709551616) / 4294967296 := by
    rw [Int.fdiv_eq_ediv_of_nonneg _ (by decide)]
    simp [IntKind.wrap, IntKind.bits, IntKind.signed]
  rw [e]
  unfold bne
  congr 1
  rw [Bool.eq_iff_iff]
  simp only [beq_iff_eq, decide_eq_true_eq]
  split <;> omega
theorem sh0 (n : Int) (h1 : -9223372036854775808 ≤ n) (h2 : n ≤ 9223372036854775807) : (IntKind.i64.wrap n != n) = !true := by
  rw [wrap_id n h1 h2]; simp
theorem w48 : IntKind.i64.wrap 48 = 48 := by decide
theorem w32 : IntKind.i64.wrap 32 = 32 := by decide
theorem w0 : IntKind.i64.wrap 0 = 0 := by decide
theorem ranged24 (b : Int) (hb : b = 1 ∨ b = 2 ∨ b = 3) (n : Int) (h1 : -9223372036854775808 ≤ n) (h2 : n ≤ 9223372036854775807) (r : Bool) (hr : inR b n = r) (L m : Nat) (σ : Heap) :
    (cAt TC L (m + 2)).1 24 [.p (.int .i64 n), .p (ty b 0)] σ = some (.ret (.p (.tup (if r then [val 1 n [] false, done] else [null, outOf]))), σ) := by
  refine call_ans (ps := [.int .i64 n, ty b 0]) (n := m + 1) (af := lit24) (fz := true) rfl (by kernel_rfl) ?_ σ
  unfold inR at hr
  rcases hb with rfl | rfl | rfl
  · have e := sh48 n h1 h2
    rw [if_pos rfl] at hr
    rw [hr] at e
    clear hr
    cases r <;> simp only [Bool.not_true, Bool.not_false] at e
    all_goals
      simp [ty, runFunc, lit24, params, exec, runOps, wantedA, stepOp, pureOp, allocOp, readOp, effOp, ev, Env.get_cons, putE, binA, intBin, intShift, AV.fit, AV.toCells, partC, partP, mkCells, allP, idxArrA, Cells.len, w48, IntKind.bits, -bne_iff_ne, -bne_eq_false_iff_eq, -bne_self_eq_false, e]
      show _ = _
      kernel_rfl
  · have e := sh32 n h1 h2
    rw [if_neg (by decide), if_pos rfl] at hr
    rw [hr] at e
    clear hr
    cases r <;> simp only [Bool.not_true, Bool.not_false] at e
    all_goals
      simp [ty, runFunc, lit24, params, exec, runOps, wantedA, stepOp, pureOp, allocOp, readOp, effOp, ev, Env.get_cons, putE, binA, intBin, intShift, AV.fit, AV.toCells, partC, partP, mkCells, allP, idxArrA, Cells.len, w32, IntKind.bits, -bne_iff_ne, -bne_eq_false_iff_eq, -bne_self_eq_false, e]
      show _ = _
      kernel_rfl
  · have e := sh0 n h1 h2
    rw [if_neg (by decide), if_neg (by decide)] at hr
    subst hr
    simp only [Bool.not_true] at e
    simp [ty, runFunc, lit24, params, exec, runOps, wantedA, stepOp, pureOp, allocOp, readOp, effOp, ev, Env.get_cons, putE, binA, intBin, intShift, AV.fit, AV.toCells, partC, partP, mkCells, allP, idxArrA, Cells.len, w0, IntKind.bits, -bne_iff_ne, -bne_eq_false_iff_eq, -bne_self_eq_false, e]
    show _ = _
    kernel_rfl
theorem fits29 (b : Int) (hb : b = 1 ∨ b = 2 ∨ b = 3) (n : Int) (r : Bool) (hr : inR b n = r) (L m : Nat) (σ : Heap) :
    (cAt TC L (m + 1)).1 29 [.p (.int .i64 n), .p (ty b 0)] σ = some (.ret (.p (.bool r)), σ) := by
  refine call_ans (ps := [.int .i64 n, ty b 0]) (n := m) (af := lit29) (fz := true) rfl (by kernel_rfl) ?_ σ
  unfold inR at hr
  rcases hb with rfl | rfl | rfl
  · rw [if_pos rfl] at hr
    cases r
    · have hr := of_decide_eq_false hr
      by_cases p : -32768 ≤ n
      · have q : ¬ n < 32768 := by omega
        simp [ty, runFunc, lit29, params, exec, runOps, wantedA, stepOp, pureOp, allocOp, readOp, ev, Env.get_cons, putE, binA, intBin, AV.fit, AV.toCells, partC, partP, Cells.len, p, q]
        show _ = _
        kernel_rfl
      · simp [ty, runFunc, lit29, params, exec, runOps, wantedA, stepOp, pureOp, allocOp, readOp, ev, Env.get_cons, putE, binA, intBin, AV.fit, AV.toCells, partC, partP, Cells.len, p]
        show _ = _
        kernel_rfl
    · have hr := of_decide_eq_true hr
      have p := hr.1
      have q : n < 32768 := by omega
      simp [ty, runFunc, lit29, params, exec, runOps, wantedA, stepOp, pureOp, allocOp, readOp, ev, Env.get_cons, putE, binA, intBin, AV.fit, AV.toCells, partC, partP, Cells.len, p, q]
      show _ = _
      kernel_rfl
  · rw [if_neg (by decide), if_pos rfl] at hr
    cases r
    · have hr := of_decide_eq_false hr
      by_cases p : -2147483648 ≤ n
      · have q : ¬ n < 2147483648 := by omega
        simp [ty, runFunc, lit29, params, exec, runOps, wantedA, stepOp, pureOp, allocOp, readOp, ev, Env.get_cons, putE, binA, intBin, AV.fit, AV.toCells, partC, partP, Cells.len, p, q]
        show _ = _
        kernel_rfl
      · simp [ty, runFunc, lit29, params, exec, runOps, wantedA, stepOp, pureOp, allocOp, readOp, ev, Env.get_cons, putE, binA, intBin, AV.fit, AV.toCells, partC, partP, Cells.len, p]
        show _ = _
        kernel_rfl
    · have hr := of_decide_eq_true hr
      have p := hr.1
      have q : n < 2147483648 := by omega
      simp [ty, runFunc, lit29, params, exec, runOps, wantedA, stepOp, pureOp, allocOp, readOp, ev, Env.get_cons, putE, binA, intBin, AV.fit, AV.toCells, partC, partP, Cells.len, p, q]
      show _ = _
      kernel_rfl
  · rw [if_neg (by decide), if_neg (by decide)] at hr
    subst hr
    kernel_rfl

end Go.Ab.Cols

/- The laws on columns' values: what a column takes, by the program. -/
set_option maxRecDepth 1000000
namespace Go.Ab.Cols
open Go Go.Ab Go.Ab.Names
/-- a text with blanks behind it, for char -/
def padB (b sz : Int) (s : List UInt8) : List UInt8 := if b = 4 then s ++ List.replicate (sz.toNat - s.length) 32 else s
/-- what a column takes of a value of kind k -/
def assignZ (b sz k n : Int) (s : List UInt8) (t : Bool) : List PV :=
  if kindZ b sz = 0 then [null, mism]
  else if k = 0 then [null, done]
  else if k ≠ kindZ b sz then [null, mism]
  else if k = 1 then (if inR b n then [val 1 n [] false, done] else [null, outOf])
  else if k = 2 then
    (if (s.length : Int) ≤ sz then [val 2 0 (padB b sz s) false, done]
    else if Lib.trimB (s.drop sz.toNat) 32 = [] then [val 2 0 (s.take sz.toNat) false, done]
    else [null, tooLong])
  else [val k n s t, done]
theorem rep52 (n : Int) (h1 : 0 ≤ n) (h2 : n ≤ 1000) (L m : Nat) (σ : Heap) : (cAt TC L (m + 1)).1 52 [.p (.str [32]), .p (.int .i64 n)] σ = some (.ret (.p (.str (List.replicate n.toNat 32))), σ) := by
  refine call_ext (ps := [.str [32], .int .i64 n]) (g := repO) (fz := true) rfl ?_ σ
  exact if_pos ⟨rfl, rfl, h1, h2⟩
theorem trim25 (s : List UInt8) (h : s.length ≤ 9223372036854775807) (L m : Nat) (σ : Heap) : (cAt TC L (m + 1)).1 25 [.p (.str s), .p (.str [32])] σ = some (.ret (.p (.str (Lib.trimB s 32))), σ) := by
  refine call_ext (ps := [.str s, .str [32]]) (g := trimO) (fz := true) rfl ?_ σ
  exact if_pos ⟨rfl, h⟩
theorem long26 (b sz : Int) (s : List UInt8) (h : sz < (s.length : Int)) (L m : Nat) (σ : Heap) :
    (cAt TC L (m + 2)).1 26 [.p (.str s), .p (ty b sz)] σ = some (.ret (.p (.tup [null, tooLong])), σ) := by
  refine call_ans (ps := [.str s, ty b sz]) (n := m + 1) (af := lit26) (fz := true) rfl (by kernel_rfl) ?_ σ
  generalize (cAt TC L (m + 1)).1 = C
  generalize (cAt TC L (m + 1)).2 = D
  simp [ty, runFunc, lit26, params, exec, runOps, wantedA, stepOp, pureOp, allocOp, readOp, ev, Env.get_cons, putE, binA, intBin, AV.fit, AV.toCells, partC, partP, Cells.len, h]
  show _ = _
  kernel_rfl
theorem pad26 (b sz : Int) (hb : b = 4 ∨ b = 5) (s : List UInt8) (h : (s.length : Int) ≤ sz) (hs : sz ≤ 100) (L m : Nat) (σ : Heap) :
    (cAt TC L (m + 2)).1 26 [.p (.str s), .p (ty b sz)] σ = some (.ret (.p (.tup [val 2 0 (padB b sz s) false, done])), σ) := by
  refine call_ans (ps := [.str s, ty b sz]) (n := m + 1) (af := lit26) (fz := true) rfl (by kernel_rfl) ?_ σ
  have hr := rep52 (sz - (s.length : Int)) (by omega) (by omega) L m
  rw [show (sz - (s.length : Int)).toNat = sz.toNat - s.length from by omega] at hr
  have ht := text38 (padB b sz s) L m
  generalize (cAt TC L (m + 1)).1 = C at hr ht ⊢
  generalize (cAt TC L (m + 1)).2 = D
  have hn : ¬ sz < (s.length : Int) := by omega
  have e := wrap_id (sz - (s.length : Int)) (by omega) (by omega)
  have hl : s.length + (sz.toNat - s.length) ≤ LIM := by unfold LIM; omega
  rcases hb with rfl | rfl
  · rw [show padB 4 sz s = s ++ List.replicate (sz.toNat - s.length) 32 from rfl] at ht ⊢
    simp [ty, runFunc, lit26, params, exec, runOps, wantedA, stepOp, pureOp, allocOp, readOp, effOp, ev, evs, Env.get_cons, putE, binA, intBin, strBin, AV.fit, AV.toCells, partC, partP, mkCells, allP, Cells.len, target, hn, e, hr, hl, ht]
    show _ = _
    kernel_rfl
  · rw [show padB 5 sz s = s from rfl] at ht ⊢
    simp [ty, runFunc, lit26, params, exec, runOps, wantedA, stepOp, pureOp, allocOp, readOp, effOp, ev, evs, Env.get_cons, putE, binA, intBin, AV.fit, AV.toCells, partC, partP, mkCells, allP, Cells.len, target, hn, ht]
    show _ = _
    kernel_rfl

end Go.Ab.Cols
