/- The laws on columns' values: what a column takes, by the program. -/
import Derived.Test.YtacjjncmbklplaaDoorAbB4
set_option maxRecDepth 1000000
namespace Go.Ab.Back
open Go Go.Ab
/-- a text with blanks behind it, for char -/
def padB (b sz : Int) (s : List UInt8) : List UInt8 := if b = 4 then s ++ List.replicate (sz.toNat - s.length) 32 else s
/-- what a column takes of a value of kind k -/
def assignZ (b sz k n : Int) (s : List UInt8) (t : Bool) : List PV :=
  if kindZ b sz = 0 then [null, mism]
  else if k = 0 then [null, done]
  else if k ≠ kindZ b sz then [null, mism]
  else if k = 1 then (if inR b n then [val 1 n [] false, done] else [null, outOf])
  else if k = 2 then
    (if (s.length : Int) ≤ sz then [val 2 0 (padB b sz s) false, done]
    else if Lib.trimB (s.drop sz.toNat) 32 = [] then [val 2 0 (s.take sz.toNat) false, done]
    else [null, tooLong])
  else [val k n s t, done]
theorem rep52 (n : Int) (h1 : 0 ≤ n) (h2 : n ≤ 1000) (L m : Nat) (σ : Heap) : (cAt TB L (m + 1)).1 22 [.p (.str [32]), .p (.int .i64 n)] σ = some (.ret (.p (.str (List.replicate n.toNat 32))), σ) := by
  refine call_ext (ps := [.str [32], .int .i64 n]) (g := repO) (fz := true) rfl ?_ σ
  exact if_pos ⟨rfl, rfl, h1, h2⟩
theorem trim25 (s : List UInt8) (h : s.length ≤ 9223372036854775807) (L m : Nat) (σ : Heap) : (cAt TB L (m + 1)).1 14 [.p (.str s), .p (.str [32])] σ = some (.ret (.p (.str (Lib.trimB s 32))), σ) := by
  refine call_ext (ps := [.str s, .str [32]]) (g := trimO) (fz := true) rfl ?_ σ
  exact if_pos ⟨rfl, h⟩
theorem long26 (b sz : Int) (s : List UInt8) (h : sz < (s.length : Int)) (L m : Nat) (σ : Heap) :
    (cAt TB L (m + 2)).1 12 [.p (.str s), .p (ty b sz)] σ = some (.ret (.p (.tup [null, tooLong])), σ) := by
  refine call_ans (ps := [.str s, ty b sz]) (n := m + 1) (af := lit26) (fz := true) rfl (by kernel_rfl) ?_ σ
  generalize (cAt TB L (m + 1)).1 = C
  generalize (cAt TB L (m + 1)).2 = D
  simp [ty, runFunc, lit26, params, exec, runOps, wantedA, stepOp, pureOp, allocOp, readOp, ev, Env.get_cons, putE, binA, intBin, AV.fit, AV.toCells, partC, partP, Cells.len, h]
  show _ = _
  kernel_rfl
theorem pad26 (b sz : Int) (hb : b = 4 ∨ b = 5) (s : List UInt8) (h : (s.length : Int) ≤ sz) (hs : sz ≤ 100) (L m : Nat) (σ : Heap) :
    (cAt TB L (m + 2)).1 12 [.p (.str s), .p (ty b sz)] σ = some (.ret (.p (.tup [val 2 0 (padB b sz s) false, done])), σ) := by
  refine call_ans (ps := [.str s, ty b sz]) (n := m + 1) (af := lit26) (fz := true) rfl (by kernel_rfl) ?_ σ
  have hr := rep52 (sz - (s.length : Int)) (by omega) (by omega) L m
  rw [show (sz - (s.length : Int)).toNat = sz.toNat - s.length from by omega] at hr
  have ht := text38 (padB b sz s) L m
  generalize (cAt TB L (m + 1)).1 = C at hr ht ⊢
  generalize (cAt TB L (m + 1)).2 = D
  have hn : ¬ sz < (s.length : Int) := by omega
  have e := wrap_id (sz - (s.length : Int)) (by omega) (by omega)
  have hl : s.length + (sz.toNat - s.length) ≤ LIM := by unfold LIM; omega
  rcases hb with rfl | rfl
  · rw [show padB 4 sz s = s ++ List.replicate (sz.toNat - s.length) 32 from rfl] at ht ⊢
    simp [ty, runFunc, lit26, params, exec, runOps, wantedA, stepOp, pureOp, allocOp, readOp, effOp, ev, evs, Env.get_cons, putE, binA, intBin, strBin, AV.fit, AV.toCells, partC, partP, mkCells, allP, Cells.len, target, hn, e, hr, hl, ht]
    show _ = _
    kernel_rfl
  · rw [show padB 5 sz s = s from rfl] at ht ⊢
    simp [ty, runFunc, lit26, params, exec, runOps, wantedA, stepOp, pureOp, allocOp, readOp, effOp, ev, evs, Env.get_cons, putE, binA, intBin, AV.fit, AV.toCells, partC, partP, mkCells, allP, Cells.len, target, hn, ht]
    show _ = _
    kernel_rfl

end Go.Ab.Back
