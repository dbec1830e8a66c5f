/- The laws on columns' values: raw values, kinds, ranges. -/
import Derived.Test.YtacjjncmbklplaaGreatDoorAbS1
set_option linter.unusedSectionVars false
set_option linter.unusedSimpArgs false
set_option linter.unusedVariables false
set_option maxRecDepth 1000000
namespace Go.Ab.Cols
open Go Go.Ab Go.Ab.Names
theorem wrap_id (n : Int) (h1 : -9223372036854775808 ≤ n) (h2 : n ≤ 9223372036854775807) : IntKind.i64.wrap n = n := by
  simp only [IntKind.wrap, IntKind.bits, IntKind.signed]
  simp
  omega
/-- a value -/
def val (k n : Int) (s : List UInt8) (b : Bool) : PV := .agg [.int .i64 k, .int .i64 n, .str s, .bool b]
def null : PV := val 0 0 [] false
/-- which of four things a raw number speaks of -/
def pickZ (c : Int) : Int := (if c < 0 then -(c + 1) else c) % 4
theorem pickZ_of (c : Int) : pickZ c = 0 ∨ pickZ c = 1 ∨ pickZ c = 2 ∨ pickZ c = 3 := by
  unfold pickZ; split <;> omega
theorem pick27 (c : Int) (h1 : -9223372036854775808 ≤ c) (h2 : c ≤ 9223372036854775807) (L m : Nat) (σ : Heap) :
    (cAt TC L (m + 1)).1 27 [.p (.int .i64 c), .p (.int .i64 4)] σ = some (.ret (.p (.int .i64 (pickZ c))), σ) := by
  refine call_ans (ps := [.int .i64 c, .int .i64 4]) (n := m) (af := lit27) (fz := true) rfl (by kernel_rfl) ?_ σ
  generalize (cAt TC L m).1 = C
  generalize (cAt TC L m).2 = D
  by_cases h : c < 0
  · have e1 : IntKind.i64.wrap (c + 1) = c + 1 := wrap_id _ (by omega) (by omega)
    have e2 : IntKind.i64.wrap (-(c + 1)) = -(c + 1) := wrap_id _ (by omega) (by omega)
    have e3 : (-(c + 1)).tmod 4 = pickZ c := by unfold pickZ; rw [if_pos h]; exact Int.tmod_eq_emod_of_nonneg (by omega)
    simp [runFunc, lit27, params, exec, runOps, wantedA, stepOp, pureOp, ev, Env.get_cons, putE, binA, intBin, unA, h, e1, e2, e3]
    rfl
  · have e3 : c.tmod 4 = pickZ c := by unfold pickZ; rw [if_neg h]; exact Int.tmod_eq_emod_of_nonneg (by omega)
    simp [runFunc, lit27, params, exec, runOps, wantedA, stepOp, pureOp, ev, Env.get_cons, putE, binA, intBin, h, e3]
    rfl
/-- a raw value as it stands in the memory -/
def raw (c n : Int) (s : List UInt8) (b : Bool) : PV := .agg [.int .i64 c, .int .i64 n, .str s, .bool b]
/-- the value that a raw one speaks of -/
def valOf (c n : Int) (s : List UInt8) (b : Bool) : PV :=
  if pickZ c = 1 then val 1 n [] false else if pickZ c = 2 then val 2 0 s false else if pickZ c = 3 then val 3 0 [] b else null
theorem num28 (n : Int) (L m : Nat) (σ : Heap) : (cAt TC L (m + 1)).1 28 [.p (.int .i64 n)] σ = some (.ret (.p (val 1 n [] false)), σ) := by
  refine call_ans (ps := [.int .i64 n]) (n := m) (af := Names.af28) (fz := true) rfl (by kernel_rfl) ?_ σ
  kernel_rfl
theorem text21 (s : List UInt8) (L m : Nat) (σ : Heap) : (cAt TC L (m + 1)).1 21 [.p (.str s)] σ = some (.ret (.p (val 2 0 s false)), σ) := by
  refine call_ans (ps := [.str s]) (n := m) (af := Names.af21) (fz := true) rfl (by kernel_rfl) ?_ σ
  kernel_rfl
theorem num37 (n : Int) (L m : Nat) (σ : Heap) : (cAt TC L (m + 1)).1 37 [.p (.int .i64 n)] σ = some (.ret (.p (val 1 n [] false)), σ) := by
  refine call_ans (ps := [.int .i64 n]) (n := m) (af := Names.af37) (fz := true) rfl (by kernel_rfl) ?_ σ
  kernel_rfl
theorem text38 (s : List UInt8) (L m : Nat) (σ : Heap) : (cAt TC L (m + 1)).1 38 [.p (.str s)] σ = some (.ret (.p (val 2 0 s false)), σ) := by
  refine call_ans (ps := [.str s]) (n := m) (af := Names.af38) (fz := true) rfl (by kernel_rfl) ?_ σ
  kernel_rfl
theorem value15 (c n : Int) (s : List UInt8) (b : Bool) (h1 : -9223372036854775808 ≤ c) (h2 : c ≤ 9223372036854775807) (L m : Nat) (σ : Heap) :
    (cAt TC L (m + 2)).1 15 [.p (raw c n s b)] σ = some (.ret (.p (valOf c n s b)), σ) := by
  refine call_ans (ps := [raw c n s b]) (n := m + 1) (af := lit15) (fz := true) rfl (by kernel_rfl) ?_ σ
  have hp := pick27 c h1 h2 L m
  have hn := num28 n L m
  have ht := text21 s L m
  generalize (cAt TC L (m + 1)).1 = C at hp hn ht ⊢
  generalize (cAt TC L (m + 1)).2 = D
  unfold valOf
  rcases pickZ_of c with h | h | h | h <;> rw [h] at hp ⊢
  · simp [raw, runFunc, lit15, params, exec, runOps, wantedA, stepOp, pureOp, allocOp, readOp, effOp, ev, evs, Env.get_cons, putE, binA, intBin, AV.fit, AV.toCells, partC, partP, mkCells, allP, Cells.len, target, hp]
    show _ = _
    kernel_rfl
  · simp [raw, runFunc, lit15, params, exec, runOps, wantedA, stepOp, pureOp, allocOp, readOp, effOp, ev, evs, Env.get_cons, putE, binA, intBin, AV.fit, AV.toCells, partC, partP, mkCells, allP, Cells.len, target, hp, hn]
    show _ = _
    kernel_rfl
  · simp [raw, runFunc, lit15, params, exec, runOps, wantedA, stepOp, pureOp, allocOp, readOp, effOp, ev, evs, Env.get_cons, putE, binA, intBin, AV.fit, AV.toCells, partC, partP, mkCells, allP, Cells.len, target, hp, ht]
    show _ = _
    kernel_rfl
  · simp [raw, runFunc, lit15, params, exec, runOps, wantedA, stepOp, pureOp, allocOp, readOp, effOp, ev, evs, Env.get_cons, putE, binA, intBin, AV.fit, AV.toCells, partC, partP, mkCells, allP, Cells.len, target, hp]
    show _ = _
    kernel_rfl

end Go.Ab.Cols
