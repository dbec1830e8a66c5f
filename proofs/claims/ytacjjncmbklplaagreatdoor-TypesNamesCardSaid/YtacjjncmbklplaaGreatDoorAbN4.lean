/- The law TypesNames: types that may not be have no name and no kind. -/
import Derived.Test.YtacjjncmbklplaaGreatDoorAbN3
set_option maxRecDepth 1000000
namespace Go.Ab.Names
open Go Go.Ab
theorem name10 (b s : Int) (h : wrong b s) (m : Nat) (σ : Heap) : (cAt T 100 (m + 2)).1 10 [.p (ty b s)] σ = some (.ret (.p (.str [])), σ) := by
  refine call_ans (ps := [ty b s]) (n := m + 1) (af := lit10) (fz := true) rfl (by kernel_rfl) ?_ σ
  have hr := right8 b s h m
  generalize (cAt T 100 (m + 1)).1 = C at hr ⊢
  generalize (cAt T 100 (m + 1)).2 = D
  unfold ty at hr ⊢
  simp [runFunc, lit10, params, exec, runOps, wantedA, stepOp, pureOp, allocOp, readOp, ev, evs, Env.get_cons, putE, unA, AV.fit, AV.toCells, partC, partP, Cells.len, target, hr]
  show _ = _
  kernel_rfl
theorem name11 (b s : Int) (h : wrong b s) (m : Nat) (σ : Heap) : (cAt T 100 (m + 2)).1 11 [.p (ty b s)] σ = some (.ret (.p (.str [])), σ) := by
  refine call_ans (ps := [ty b s]) (n := m + 1) (af := lit11) (fz := true) rfl (by kernel_rfl) ?_ σ
  have hr := right9 b s h m
  generalize (cAt T 100 (m + 1)).1 = C at hr ⊢
  generalize (cAt T 100 (m + 1)).2 = D
  unfold ty at hr ⊢
  simp [runFunc, lit11, params, exec, runOps, wantedA, stepOp, pureOp, allocOp, readOp, ev, evs, Env.get_cons, putE, unA, AV.fit, AV.toCells, partC, partP, Cells.len, target, hr]
  show _ = _
  kernel_rfl
theorem kind12 (b s : Int) (h : wrong b s) (m : Nat) (σ : Heap) : (cAt T 100 (m + 2)).1 12 [.p (ty b s)] σ = some (.ret (.p (.int .i64 0)), σ) := by
  refine call_ans (ps := [ty b s]) (n := m + 1) (af := lit12) (fz := true) rfl (by kernel_rfl) ?_ σ
  have hr := right8 b s h m
  generalize (cAt T 100 (m + 1)).1 = C at hr ⊢
  generalize (cAt T 100 (m + 1)).2 = D
  unfold ty at hr ⊢
  simp [runFunc, lit12, params, exec, runOps, wantedA, stepOp, pureOp, allocOp, readOp, ev, evs, Env.get_cons, putE, unA, AV.fit, AV.toCells, partC, partP, Cells.len, target, hr]
  show _ = _
  kernel_rfl
theorem kind13 (b s : Int) (h : wrong b s) (m : Nat) (σ : Heap) : (cAt T 100 (m + 2)).1 13 [.p (ty b s)] σ = some (.ret (.p (.int .i64 0)), σ) := by
  refine call_ans (ps := [ty b s]) (n := m + 1) (af := lit13) (fz := true) rfl (by kernel_rfl) ?_ σ
  have hr := right9 b s h m
  generalize (cAt T 100 (m + 1)).1 = C at hr ⊢
  generalize (cAt T 100 (m + 1)).2 = D
  unfold ty at hr ⊢
  simp [runFunc, lit13, params, exec, runOps, wantedA, stepOp, pureOp, allocOp, readOp, ev, evs, Env.get_cons, putE, unA, AV.fit, AV.toCells, partC, partP, Cells.len, target, hr]
  show _ = _
  kernel_rfl

end Go.Ab.Names
