/- PlanTurned: what a clause says of a column. -/
import Derived.Test.YtikebbklkiodlaaDoorAbU6
set_option linter.unusedSectionVars false
set_option linter.unusedSimpArgs false
set_option linter.unusedVariables false
set_option maxRecDepth 1000000
namespace Go.Ab.Turn
open Go Go.Ab Go.Ab.Plan Go.Ab.Key Go.Ab.Cnt Go.Proofs
variable [Marks]
/-- which column a slot is, if its kind is the value's -/
def slT (n : Int) (v : Lit) : Option Nat := match v with
  | .num _ => if n = 0 ∨ n = 1 then some n.toNat else none
  | .text _ => if n = 2 then some 2 else none
  | .bool _ => none
abbrev clC (c : Cl) : List PV := .int .i64 c.col :: .str c.op :: vc (litV c.v)
def Ok23 (r : Option Cl) (c : List PV) (b : Bool) : Prop := match r with
  | some cl => b = true ∧ c = clC cl
  | none => b = false ∧ c.length = 6
def kindL : Lit → Int
  | .num _ => 1
  | .text _ => 2
  | .bool _ => 3
section
variable (C : Oracle) (L : Nat) (k : List Nat)
structure At23 (ρ : Env) (σ : Heap) (OP xo xs : Word) (xn : Int) (XL : List PV) (xm : Nat) (lc : List PV) : Prop where
  t2 : ρ.get 2 = some (int 0)
  t3 : ρ.get 3 = some (.ptr 0 0 0)
  t6 : ρ.get 6 = some (.ptr 2 0 0)
  t8 : ρ.get 8 = some (.ptr 3 0 0)
  t9 : ρ.get 9 = some (.ptr 4 0 0)
  o0 : σ[0]? = some (.arr (.pv (tblC k)) 0 0 none)
  o2 : σ[2]? = some (.arr (.pv (.int .i64 0 :: .str OP :: lc)) 0 0 (some 75))
  o3 : σ[3]? = some (.arr (.pv [.str xo, .str xs, .int .i64 xn, .vsl XL xm]) 0 0 (some 45))
theorem tail23a (ρ : Env) (σ : Heap) (OP xo xs : Word) (xn : Int) (XL : List PV) (xm : Nat) (y : T) (hy : okT y) (h : At23 k ρ σ OP xo xs xn XL xm zeroV) (o4 : σ[4]? = some (.arr (.pv (cells y)) 0 0 (some 45)))
    (h31 : ∀ t, okT t → ∀ σ, C 31 [.p (node t)] σ = some (.ret (.p (.tup [.agg (litC (lit t)), .bool (lit t).isSome])), σ)) :
    ∃ ρ' σ', exec C L n23_6 ⟨ρ, [], σ⟩ = some (.normal, ⟨ρ', [], σ'⟩) ∧ At23 k ρ' σ' OP xo xs xn XL xm (litC (lit y)) ∧ ρ'.get 7 = some (.p (.bool (lit y).isSome)) := by
  have hC := h31 y hy
  have hlc : ∃ a b c d, litC (lit y) = [a, b, c, d] := by
    cases lit y with
    | none => exact ⟨_, _, _, _, rfl⟩
    | some v => cases v <;> exact ⟨_, _, _, _, rfl⟩
  have hyc : ∃ a b c d, cells y = [a, b, c, d] := by cases y; exact ⟨_, _, _, _, rfl⟩
  obtain ⟨a, b, c, d, e1⟩ := hlc
  obtain ⟨p, q, r, s, e2⟩ := hyc
  have h2 : 2 < σ.length := (List.getElem?_eq_some_iff.1 h.o2).1
  have hs2 : ∀ x : Obj, (σ.set 2 x)[2]? = some x := fun x => List.getElem?_set_self h2
  have o2 := h.o2
  have hC' : ∀ σ, C 31 [.p (.agg [p, q, r, s])] σ = some (.ret (.p (.tup [.agg [a, b, c, d], .bool (lit y).isSome])), σ) := by
    intro σ
    have := hC σ
    rw [e1] at this
    simpa [node, e2] using this
  rw [e2] at o4
  rw [e1]
  refine ⟨_, _, by simp [n23_6, exec, runOps, wantedA, stepOp, pureOp, allocOp, readOp, effOp, ev, evs, evO, Env.get_cons, putE, binA, intBin, unA, AV.fit, AV.toCells, partC, partP, mkCells, allP, mkAgg, Cells.len, target, evParts, fillA, AV.cells, splice, spliceC, finA, leaveA, resA, resV, ansV, extractA, takeC, dropC, Cells.get?, Cells.toList, h.t9, h.t6, o4, hC', o2]; exact ⟨rfl, rfl⟩, ⟨by simp [Env.get_cons, h.t2], by simp [Env.get_cons, h.t3], by simp [Env.get_cons, h.t6], by simp [Env.get_cons, h.t8], by simp [Env.get_cons, h.t9], ?_, ?_, ?_⟩, by simp [Env.get_cons]⟩
  · rw [List.getElem?_set_ne (by decide)]; exact h.o0
  · rw [hs2]
  · rw [List.getElem?_set_ne (by decide)]; exact h.o3
theorem fail23 (ρ : Env) (σ : Heap) (OP xo xs : Word) (xn : Int) (XL : List PV) (xm : Nat) (a b c d : PV) (ok : Bool) (h : At23 k ρ σ OP xo xs xn XL xm [a, b, c, d]) (h7 : ρ.get 7 = some (.p (.bool ok)))
    (hf : ok = false ∨ ¬ xo = [115, 108, 111, 116] ∨ xn < 0 ∨ 3 ≤ xn) :
    ∃ ρ' σ', exec C L n23_7 ⟨ρ, [], σ⟩ = some (.ret, ⟨ρ', [], σ'⟩) ∧ ρ'.get 6 = some (.ptr 2 0 0) ∧ ρ'.get 7 = some (.p (.bool false)) ∧ σ'[2]? = some (.arr (.pv [.int .i64 0, .str OP, a, b, c, d]) 0 0 (some 75)) := by
  have h2 : 2 < σ.length := (List.getElem?_eq_some_iff.1 h.o2).1
  have hs2 : ∀ x : Obj, (σ.set 2 x)[2]? = some x := fun x => List.getElem?_set_self h2
  have e3 : IntKind.i64.wrap 3 = 3 := by decide
  have hmax : maxA false (AV.p (PV.int IntKind.i64 1000)) [AV.p (PV.int IntKind.i64 3)] = some (.p (.int .i64 3)) := by rfl
  cases ok with
  | false => exact ⟨_, _, by simp [n23_7, n23_7_1, n23_7_2, exec, runOps, wantedA, stepOp, pureOp, allocOp, readOp, effOp, ev, evs, evO, Env.get_cons, putE, binA, intBin, unA, AV.fit, AV.toCells, partC, partP, mkCells, allP, mkAgg, Cells.len, target, evParts, fillA, AV.cells, splice, spliceC, finA, leaveA, resA, resV, ansV, strBin, lenA, takeC, dropC, Cells.get?, Cells.toList, h.t2, h.t3, h.t6, h.t8, h7, h.o0, h.o2, h.o3]; exact ⟨rfl, rfl⟩, by simp [Env.get_cons, h.t6], by simp [Env.get_cons], by rw [hs2]⟩
  | true =>
    by_cases hx : xo = [115, 108, 111, 116]
    · subst hx
      by_cases h0 : xn < 0
      · exact ⟨_, _, by simp [n23_7, n23_7_1, n23_7_2, exec, runOps, wantedA, stepOp, pureOp, allocOp, readOp, effOp, ev, evs, evO, Env.get_cons, putE, binA, intBin, unA, AV.fit, AV.toCells, partC, partP, mkCells, allP, mkAgg, Cells.len, target, evParts, fillA, AV.cells, splice, spliceC, finA, leaveA, resA, resV, ansV, strBin, lenA, takeC, dropC, Cells.get?, Cells.toList, h.t2, h.t3, h.t6, h.t8, h7, h.o0, h.o2, h.o3, h0]; exact ⟨rfl, rfl⟩, by simp [Env.get_cons, h.t6], by simp [Env.get_cons], by rw [hs2]⟩
      · have h3 : 3 ≤ xn := by
          rcases hf with hf | hf | hf | hf
          · cases hf
          · exact absurd rfl hf
          · exact absurd hf h0
          · exact hf
        exact ⟨_, _, by simp [n23_7, n23_7_1, n23_7_2, exec, runOps, wantedA, stepOp, pureOp, allocOp, readOp, effOp, ev, evs, evO, Env.get_cons, putE, binA, intBin, unA, AV.fit, AV.toCells, partC, partP, mkCells, allP, mkAgg, Cells.len, target, evParts, fillA, AV.cells, splice, spliceC, finA, leaveA, resA, resV, ansV, strBin, lenA, takeC, dropC, Cells.get?, Cells.toList, h.t2, h.t3, h.t6, h.t8, h7, h.o0, h.o2, h.o3, h0, h3, e3, hmax]; exact ⟨rfl, rfl⟩, by simp [Env.get_cons, h.t6], by simp [Env.get_cons], by rw [hs2]⟩
    · have b1 := ne_beq hx
      exact ⟨_, _, by simp [n23_7, n23_7_1, n23_7_2, exec, runOps, wantedA, stepOp, pureOp, allocOp, readOp, effOp, ev, evs, evO, Env.get_cons, putE, binA, intBin, unA, AV.fit, AV.toCells, partC, partP, mkCells, allP, mkAgg, Cells.len, target, evParts, fillA, AV.cells, splice, spliceC, finA, leaveA, resA, resV, ansV, strBin, lenA, takeC, dropC, Cells.get?, Cells.toList, h.t2, h.t3, h.t6, h.t8, h7, h.o0, h.o2, h.o3, b1]; exact ⟨rfl, rfl⟩, by simp [Env.get_cons, h.t6], by simp [Env.get_cons], by rw [hs2]⟩
theorem pass23 (ρ : Env) (σ : Heap) (OP xs : Word) (xn : Int) (XL : List PV) (xm : Nat) (a b c d : PV) (h : At23 k ρ σ OP [115, 108, 111, 116] xs xn XL xm [a, b, c, d]) (h7 : ρ.get 7 = some (.p (.bool true)))
    (h0 : 0 ≤ xn) (h3 : xn < 3) :
    ∃ ρ', exec C L n23_7 ⟨ρ, [], σ⟩ = some (.normal, ⟨ρ', [], σ⟩) ∧ At23 k ρ' σ OP [115, 108, 111, 116] xs xn XL xm [a, b, c, d] := by
  have h0' : ¬ xn < 0 := by omega
  have h3' : ¬ 3 ≤ xn := by omega
  have e3 : IntKind.i64.wrap 3 = 3 := by decide
  have hmax : maxA false (AV.p (PV.int IntKind.i64 1000)) [AV.p (PV.int IntKind.i64 3)] = some (.p (.int .i64 3)) := by rfl
  exact ⟨_, by simp [n23_7, n23_7_1, n23_7_2, exec, runOps, wantedA, stepOp, pureOp, allocOp, readOp, effOp, ev, evs, evO, Env.get_cons, putE, binA, intBin, unA, AV.fit, AV.toCells, partC, partP, mkCells, allP, mkAgg, Cells.len, target, evParts, fillA, AV.cells, splice, spliceC, finA, leaveA, resA, resV, ansV, strBin, lenA, takeC, dropC, Cells.get?, Cells.toList, h.t2, h.t3, h.t6, h.t8, h7, h.o0, h.o2, h.o3, h0', h3', e3, hmax]; rfl, ⟨by simp [Env.get_cons, h.t2], by simp [Env.get_cons, h.t3], by simp [Env.get_cons, h.t6], by simp [Env.get_cons, h.t8], by simp [Env.get_cons, h.t9], h.o0, h.o2, h.o3⟩⟩
end
end Go.Ab.Turn

/- PlanTurned: what a clause says of a column: the whole. -/
set_option maxRecDepth 1000000
namespace Go.Ab.Turn
open Go Go.Ab Go.Ab.Plan Go.Ab.Key Go.Ab.Cnt Go.Proofs
variable [Marks]
/-- what KindOf says of the columns' types -/
structure K32 (C : Oracle) : Prop where
  k0 : ∀ σ, C 32 [.p (.agg [.int .i64 2, .int .i64 0])] σ = some (.ret (int 1), σ)
  k1 : ∀ σ, C 32 [.p (.agg [.int .i64 3, .int .i64 0])] σ = some (.ret (int 1), σ)
  k2 : ∀ σ, C 32 [.p (.agg [.int .i64 5, .int .i64 9])] σ = some (.ret (int 2), σ)
section
variable (C : Oracle) (L : Nat) (k : List Nat)
theorem col23 (ρ : Env) (σ : Heap) (OP xo xs : Word) (xn : Int) (XL : List PV) (xm : Nat) (a b c d : PV) (h : At23 k ρ σ OP xo xs xn XL xm [a, b, c, d]) (h0 : 0 ≤ xn) (h3 : xn < 3) :
    ∃ ρ', exec C L n23_8 ⟨ρ, [], σ⟩ = some (.normal, ⟨ρ', [], σ.set 2 (.arr (.pv [.int .i64 xn, .str OP, a, b, c, d]) 0 0 (some 75))⟩) ∧ ρ'.get 3 = some (.ptr 0 0 0) ∧ ρ'.get 6 = some (.ptr 2 0 0) := by
  have e1 : IntKind.i64.wrap xn = xn := wrap_id _ (by omega) (by omega)
  exact ⟨_, by simp [n23_8, exec, runOps, wantedA, stepOp, pureOp, allocOp, readOp, effOp, ev, evs, evO, Env.get_cons, putE, binA, intBin, unA, AV.fit, AV.toCells, partC, partP, mkCells, allP, mkAgg, Cells.len, target, evParts, fillA, AV.cells, splice, spliceC, finA, leaveA, resA, resV, ansV, takeC, dropC, Cells.get?, Cells.toList, h.t2, h.t6, h.t8, h.o2, h.o3, e1]; rfl, by simp [Env.get_cons, h.t3], by simp [Env.get_cons, h.t6]⟩
theorem kind23_0 (ρ : Env) (σ : Heap) (OP : Word) (ka : Int) (b c d : PV) (t3 : ρ.get 3 = some (.ptr 0 0 0)) (t6 : ρ.get 6 = some (.ptr 2 0 0)) (o0 : σ[0]? = some (.arr (.pv (tblC k)) 0 0 none)) (o2 : σ[2]? = some (.arr (.pv [.int .i64 0, .str OP, .int .i64 ka, b, c, d]) 0 0 (some 75)))
    (hr : Marks.raw 32 = false) (hK : K32 C) : ∃ ρ' σ', exec C L n23_9 ⟨ρ, [], σ⟩ = some (.normal, ⟨ρ', [], σ'⟩) ∧ ρ'.get 6 = some (.ptr 2 0 0) ∧ ρ'.get 7 = some (.p (.bool (1 == ka))) ∧ σ'[2]? = some (.arr (.pv [.int .i64 0, .str OP, .int .i64 ka, b, c, d]) 0 0 (some 75)) := by
  have h2 : 2 < σ.length := (List.getElem?_eq_some_iff.1 o2).1
  have hC := hK.k0
  have fin : (∃ s1 : Tr, drawRun C 0 (opsD n23_9) ⟨⟨ρ, [], σ⟩, [], []⟩ = some (none, s1) ∧ s1.rds = [(11, 2), (4, 2), (2, 0), (0, 2)] ∧ (∃ k0 k1, s1.wrs = [(13, k1, [2]), (8, k0, [])] ∧ 2 < k0) ∧ s1.st.defers = [] ∧ s1.st.env.get 6 = some (.ptr 2 0 0) ∧ s1.st.env.get 7 = some (.p (.bool (1 == ka))) ∧ s1.st.heap[2]? = some (.arr (.pv [.int .i64 0, .str OP, .int .i64 ka, b, c, d]) 0 0 (some 75))) →
      ∃ ρ' σ', exec C L n23_9 ⟨ρ, [], σ⟩ = some (.normal, ⟨ρ', [], σ'⟩) ∧ ρ'.get 6 = some (.ptr 2 0 0) ∧ ρ'.get 7 = some (.p (.bool (1 == ka))) ∧ σ'[2]? = some (.arr (.pv [.int .i64 0, .str OP, .int .i64 ka, b, c, d]) 0 0 (some 75)) := by
    rintro ⟨⟨⟨ρ', d, σ'⟩, rds, wrs⟩, hr, h1, ⟨k0, k1, h2, hk0⟩, h3, h4, h5, h6⟩
    simp only at h1 h2 h3
    subst h1 h2 h3
    obtain ⟨m0, rfl⟩ : ∃ m, k0 = m + 3 := ⟨k0 - 3, by omega⟩
    exact ⟨ρ', σ', drawX hr (by kernel_rfl), h4, h5, h6⟩
  exact fin ⟨_, by
      show drawRun C 0 (_ :: _) _ = _
      refine (drawR rfl rfl (by simp [stillOp, valsOp, refOf, refV, oneH, exec, runOps, wantedA, stepOp, pureOp, allocOp, readOp, effOp, ev, evs, evO, Env.get_cons, putE, binA, intBin, unA, AV.fit, AV.toCells, partC, partP, mkCells, allP, mkAgg, Cells.len, target, takeC, dropC, Cells.get?, keepE, readsOf, opds, tmpsOf, Env.get_cons, wantedA, putE, t3, t6, o0, o2, hr, hC, colsT]; exact ⟨rfl, rfl⟩)).trans ?_
      refine (drawS rfl rfl (by simp [stillOp, valsOp, refOf, refV, oneH, exec, runOps, wantedA, stepOp, pureOp, allocOp, readOp, effOp, ev, evs, evO, Env.get_cons, putE, binA, intBin, unA, AV.fit, AV.toCells, partC, partP, mkCells, allP, mkAgg, Cells.len, target, evParts, fillA, AV.cells, splice, spliceC, finA, leaveA, resA, resV, ansV, idxA, lenA, takeC, dropC, Cells.get?, keepE, readsOf, opds, tmpsOf, Env.get_cons, wantedA, putE, t3, t6, o0, o2, hr, hC, colsT]; rfl)).trans ?_
      refine (drawR rfl rfl (by simp [stillOp, valsOp, refOf, refV, oneH, exec, runOps, wantedA, stepOp, pureOp, allocOp, readOp, effOp, ev, evs, evO, Env.get_cons, putE, binA, intBin, unA, AV.fit, AV.toCells, partC, partP, mkCells, allP, mkAgg, Cells.len, target, takeC, dropC, Cells.get?, keepE, readsOf, opds, tmpsOf, Env.get_cons, wantedA, putE, t3, t6, o0, o2, hr, hC, colsT]; exact ⟨rfl, rfl⟩)).trans ?_
      refine (drawS rfl rfl (by simp [stillOp, valsOp, refOf, refV, oneH, exec, runOps, wantedA, stepOp, pureOp, allocOp, readOp, effOp, ev, evs, evO, Env.get_cons, putE, binA, intBin, unA, AV.fit, AV.toCells, partC, partP, mkCells, allP, mkAgg, Cells.len, target, evParts, fillA, AV.cells, splice, spliceC, finA, leaveA, resA, resV, ansV, idxA, lenA, takeC, dropC, Cells.get?, keepE, readsOf, opds, tmpsOf, Env.get_cons, wantedA, putE, t3, t6, o0, o2, hr, hC, colsT]; rfl)).trans ?_
      refine (drawR rfl rfl (by simp [stillOp, valsOp, refOf, refV, oneH, exec, runOps, wantedA, stepOp, pureOp, allocOp, readOp, effOp, ev, evs, evO, Env.get_cons, putE, binA, intBin, unA, AV.fit, AV.toCells, partC, partP, mkCells, allP, mkAgg, Cells.len, target, takeC, dropC, Cells.get?, keepE, readsOf, opds, tmpsOf, Env.get_cons, wantedA, putE, t3, t6, o0, o2, hr, hC, colsT]; exact ⟨rfl, rfl⟩)).trans ?_
      refine (drawS rfl rfl (by simp [stillOp, valsOp, refOf, refV, oneH, exec, runOps, wantedA, stepOp, pureOp, allocOp, readOp, effOp, ev, evs, evO, Env.get_cons, putE, binA, intBin, unA, AV.fit, AV.toCells, partC, partP, mkCells, allP, mkAgg, Cells.len, target, evParts, fillA, AV.cells, splice, spliceC, finA, leaveA, resA, resV, ansV, idxA, lenA, takeC, dropC, Cells.get?, keepE, readsOf, opds, tmpsOf, Env.get_cons, wantedA, putE, t3, t6, o0, o2, hr, hC, colsT]; rfl)).trans ?_
      refine (drawS rfl rfl (by simp [stillOp, valsOp, refOf, refV, oneH, exec, runOps, wantedA, stepOp, pureOp, allocOp, readOp, effOp, ev, evs, evO, Env.get_cons, putE, binA, intBin, unA, AV.fit, AV.toCells, partC, partP, mkCells, allP, mkAgg, Cells.len, target, evParts, fillA, AV.cells, splice, spliceC, finA, leaveA, resA, resV, ansV, idxA, lenA, takeC, dropC, Cells.get?, keepE, readsOf, opds, tmpsOf, Env.get_cons, wantedA, putE, t3, t6, o0, o2, hr, hC, colsT]; rfl)).trans ?_
      refine (drawS rfl rfl (by simp [stillOp, valsOp, refOf, refV, oneH, exec, runOps, wantedA, stepOp, pureOp, allocOp, readOp, effOp, ev, evs, evO, Env.get_cons, putE, binA, intBin, unA, AV.fit, AV.toCells, partC, partP, mkCells, allP, mkAgg, Cells.len, target, evParts, fillA, AV.cells, splice, spliceC, finA, leaveA, resA, resV, ansV, idxA, lenA, takeC, dropC, Cells.get?, keepE, readsOf, opds, tmpsOf, Env.get_cons, wantedA, putE, t3, t6, o0, o2, hr, hC, colsT]; rfl)).trans ?_
      refine (drawE rfl rfl (by simp [exec, runOps, wantedA, stepOp, pureOp, allocOp, readOp, effOp, ev, evs, evO, Env.get_cons, putE, binA, intBin, unA, AV.fit, AV.toCells, partC, partP, mkCells, allP, mkAgg, Cells.len, target, evParts, fillA, AV.cells, splice, spliceC, finA, leaveA, resA, resV, ansV, keepE, readsOf, opds, tmpsOf, Env.get_cons, wantedA, putE, repCells, elemsA, takeC, dropC, Cells.toList, t3, t6, o0, o2, hr, hC, colsT]; rfl) (by simp [carry, keepE, readsOf, opds, tmpsOf, Env.get_cons, wantedA, putE]; rfl) (by simp [wrIds, refV, keepE, readsOf, opds, tmpsOf, Env.get_cons, wantedA, putE, ev, evs, target, touchF, touch, collect, idsL, idsV, idsO, t3, t6, o0, o2, hr, hC, colsT]; rfl)).trans ?_
      refine (drawS rfl rfl (by simp [stillOp, valsOp, refOf, refV, oneH, exec, runOps, wantedA, stepOp, pureOp, allocOp, readOp, effOp, ev, evs, evO, Env.get_cons, putE, binA, intBin, unA, AV.fit, AV.toCells, partC, partP, mkCells, allP, mkAgg, Cells.len, target, evParts, fillA, AV.cells, splice, spliceC, finA, leaveA, resA, resV, ansV, idxA, lenA, takeC, dropC, Cells.get?, keepE, readsOf, opds, tmpsOf, Env.get_cons, wantedA, putE, t3, t6, o0, o2, hr, hC, colsT]; rfl)).trans ?_
      refine (drawS rfl rfl (by simp [stillOp, valsOp, refOf, refV, oneH, exec, runOps, wantedA, stepOp, pureOp, allocOp, readOp, effOp, ev, evs, evO, Env.get_cons, putE, binA, intBin, unA, AV.fit, AV.toCells, partC, partP, mkCells, allP, mkAgg, Cells.len, target, evParts, fillA, AV.cells, splice, spliceC, finA, leaveA, resA, resV, ansV, idxA, lenA, takeC, dropC, Cells.get?, keepE, readsOf, opds, tmpsOf, Env.get_cons, wantedA, putE, t3, t6, o0, o2, hr, hC, colsT]; rfl)).trans ?_
      refine (drawR rfl rfl (by simp [stillOp, valsOp, refOf, refV, oneH, exec, runOps, wantedA, stepOp, pureOp, allocOp, readOp, effOp, ev, evs, evO, Env.get_cons, putE, binA, intBin, unA, AV.fit, AV.toCells, partC, partP, mkCells, allP, mkAgg, Cells.len, target, takeC, dropC, Cells.get?, keepE, readsOf, opds, tmpsOf, Env.get_cons, wantedA, putE, t3, t6, o0, o2, hr, hC, colsT]; exact ⟨rfl, rfl⟩)).trans ?_
      refine (drawS rfl rfl (by simp [stillOp, valsOp, refOf, refV, oneH, exec, runOps, wantedA, stepOp, pureOp, allocOp, readOp, effOp, ev, evs, evO, Env.get_cons, putE, binA, intBin, unA, AV.fit, AV.toCells, partC, partP, mkCells, allP, mkAgg, Cells.len, target, evParts, fillA, AV.cells, splice, spliceC, finA, leaveA, resA, resV, ansV, idxA, lenA, takeC, dropC, Cells.get?, keepE, readsOf, opds, tmpsOf, Env.get_cons, wantedA, putE, t3, t6, o0, o2, hr, hC, colsT]; rfl)).trans ?_
      refine (drawE rfl rfl (by simp [exec, runOps, wantedA, stepOp, pureOp, allocOp, readOp, effOp, ev, evs, evO, Env.get_cons, putE, binA, intBin, unA, AV.fit, AV.toCells, partC, partP, mkCells, allP, mkAgg, Cells.len, target, evParts, fillA, AV.cells, splice, spliceC, finA, leaveA, resA, resV, ansV, keepE, readsOf, opds, tmpsOf, Env.get_cons, wantedA, putE, repCells, elemsA, takeC, dropC, Cells.toList, t3, t6, o0, o2, hr, hC, colsT]; rfl) (by simp [carry, keepE, readsOf, opds, tmpsOf, Env.get_cons, wantedA, putE]; rfl) (by simp [wrIds, refV, keepE, readsOf, opds, tmpsOf, Env.get_cons, wantedA, putE, ev, evs, target, touchF, touch, collect, idsL, idsV, idsO, t3, t6, o0, o2, hr, hC, colsT]; rfl)).trans ?_
      refine (drawS rfl rfl (by simp [stillOp, valsOp, refOf, refV, oneH, exec, runOps, wantedA, stepOp, pureOp, allocOp, readOp, effOp, ev, evs, evO, Env.get_cons, putE, binA, intBin, unA, AV.fit, AV.toCells, partC, partP, mkCells, allP, mkAgg, Cells.len, target, evParts, fillA, AV.cells, splice, spliceC, finA, leaveA, resA, resV, ansV, idxA, lenA, takeC, dropC, Cells.get?, keepE, readsOf, opds, tmpsOf, Env.get_cons, wantedA, putE, t3, t6, o0, o2, hr, hC, colsT]; rfl)).trans ?_
      exact rfl, by rfl, ⟨_, _, by rfl, h2⟩, by rfl, by simp [putE, Env.get_cons, t6], by simp [putE, Env.get_cons], List.getElem?_set_self h2⟩
theorem kind23_1 (ρ : Env) (σ : Heap) (OP : Word) (ka : Int) (b c d : PV) (t3 : ρ.get 3 = some (.ptr 0 0 0)) (t6 : ρ.get 6 = some (.ptr 2 0 0)) (o0 : σ[0]? = some (.arr (.pv (tblC k)) 0 0 none)) (o2 : σ[2]? = some (.arr (.pv [.int .i64 1, .str OP, .int .i64 ka, b, c, d]) 0 0 (some 75)))
    (hr : Marks.raw 32 = false) (hK : K32 C) : ∃ ρ' σ', exec C L n23_9 ⟨ρ, [], σ⟩ = some (.normal, ⟨ρ', [], σ'⟩) ∧ ρ'.get 6 = some (.ptr 2 0 0) ∧ ρ'.get 7 = some (.p (.bool (1 == ka))) ∧ σ'[2]? = some (.arr (.pv [.int .i64 1, .str OP, .int .i64 ka, b, c, d]) 0 0 (some 75)) := by
  have h2 : 2 < σ.length := (List.getElem?_eq_some_iff.1 o2).1
  have hC := hK.k1
  have fin : (∃ s1 : Tr, drawRun C 0 (opsD n23_9) ⟨⟨ρ, [], σ⟩, [], []⟩ = some (none, s1) ∧ s1.rds = [(11, 2), (4, 2), (2, 0), (0, 2)] ∧ (∃ k0 k1, s1.wrs = [(13, k1, [2]), (8, k0, [])] ∧ 2 < k0) ∧ s1.st.defers = [] ∧ s1.st.env.get 6 = some (.ptr 2 0 0) ∧ s1.st.env.get 7 = some (.p (.bool (1 == ka))) ∧ s1.st.heap[2]? = some (.arr (.pv [.int .i64 1, .str OP, .int .i64 ka, b, c, d]) 0 0 (some 75))) →
      ∃ ρ' σ', exec C L n23_9 ⟨ρ, [], σ⟩ = some (.normal, ⟨ρ', [], σ'⟩) ∧ ρ'.get 6 = some (.ptr 2 0 0) ∧ ρ'.get 7 = some (.p (.bool (1 == ka))) ∧ σ'[2]? = some (.arr (.pv [.int .i64 1, .str OP, .int .i64 ka, b, c, d]) 0 0 (some 75)) := by
    rintro ⟨⟨⟨ρ', d, σ'⟩, rds, wrs⟩, hr, h1, ⟨k0, k1, h2, hk0⟩, h3, h4, h5, h6⟩
    simp only at h1 h2 h3
    subst h1 h2 h3
    obtain ⟨m0, rfl⟩ : ∃ m, k0 = m + 3 := ⟨k0 - 3, by omega⟩
    exact ⟨ρ', σ', drawX hr (by kernel_rfl), h4, h5, h6⟩
  exact fin ⟨_, by
      show drawRun C 0 (_ :: _) _ = _
      refine (drawR rfl rfl (by simp [stillOp, valsOp, refOf, refV, oneH, exec, runOps, wantedA, stepOp, pureOp, allocOp, readOp, effOp, ev, evs, evO, Env.get_cons, putE, binA, intBin, unA, AV.fit, AV.toCells, partC, partP, mkCells, allP, mkAgg, Cells.len, target, takeC, dropC, Cells.get?, keepE, readsOf, opds, tmpsOf, Env.get_cons, wantedA, putE, t3, t6, o0, o2, hr, hC, colsT]; exact ⟨rfl, rfl⟩)).trans ?_
      refine (drawS rfl rfl (by simp [stillOp, valsOp, refOf, refV, oneH, exec, runOps, wantedA, stepOp, pureOp, allocOp, readOp, effOp, ev, evs, evO, Env.get_cons, putE, binA, intBin, unA, AV.fit, AV.toCells, partC, partP, mkCells, allP, mkAgg, Cells.len, target, evParts, fillA, AV.cells, splice, spliceC, finA, leaveA, resA, resV, ansV, idxA, lenA, takeC, dropC, Cells.get?, keepE, readsOf, opds, tmpsOf, Env.get_cons, wantedA, putE, t3, t6, o0, o2, hr, hC, colsT]; rfl)).trans ?_
      refine (drawR rfl rfl (by simp [stillOp, valsOp, refOf, refV, oneH, exec, runOps, wantedA, stepOp, pureOp, allocOp, readOp, effOp, ev, evs, evO, Env.get_cons, putE, binA, intBin, unA, AV.fit, AV.toCells, partC, partP, mkCells, allP, mkAgg, Cells.len, target, takeC, dropC, Cells.get?, keepE, readsOf, opds, tmpsOf, Env.get_cons, wantedA, putE, t3, t6, o0, o2, hr, hC, colsT]; exact ⟨rfl, rfl⟩)).trans ?_
      refine (drawS rfl rfl (by simp [stillOp, valsOp, refOf, refV, oneH, exec, runOps, wantedA, stepOp, pureOp, allocOp, readOp, effOp, ev, evs, evO, Env.get_cons, putE, binA, intBin, unA, AV.fit, AV.toCells, partC, partP, mkCells, allP, mkAgg, Cells.len, target, evParts, fillA, AV.cells, splice, spliceC, finA, leaveA, resA, resV, ansV, idxA, lenA, takeC, dropC, Cells.get?, keepE, readsOf, opds, tmpsOf, Env.get_cons, wantedA, putE, t3, t6, o0, o2, hr, hC, colsT]; rfl)).trans ?_
      refine (drawR rfl rfl (by simp [stillOp, valsOp, refOf, refV, oneH, exec, runOps, wantedA, stepOp, pureOp, allocOp, readOp, effOp, ev, evs, evO, Env.get_cons, putE, binA, intBin, unA, AV.fit, AV.toCells, partC, partP, mkCells, allP, mkAgg, Cells.len, target, takeC, dropC, Cells.get?, keepE, readsOf, opds, tmpsOf, Env.get_cons, wantedA, putE, t3, t6, o0, o2, hr, hC, colsT]; exact ⟨rfl, rfl⟩)).trans ?_
      refine (drawS rfl rfl (by simp [stillOp, valsOp, refOf, refV, oneH, exec, runOps, wantedA, stepOp, pureOp, allocOp, readOp, effOp, ev, evs, evO, Env.get_cons, putE, binA, intBin, unA, AV.fit, AV.toCells, partC, partP, mkCells, allP, mkAgg, Cells.len, target, evParts, fillA, AV.cells, splice, spliceC, finA, leaveA, resA, resV, ansV, idxA, lenA, takeC, dropC, Cells.get?, keepE, readsOf, opds, tmpsOf, Env.get_cons, wantedA, putE, t3, t6, o0, o2, hr, hC, colsT]; rfl)).trans ?_
      refine (drawS rfl rfl (by simp [stillOp, valsOp, refOf, refV, oneH, exec, runOps, wantedA, stepOp, pureOp, allocOp, readOp, effOp, ev, evs, evO, Env.get_cons, putE, binA, intBin, unA, AV.fit, AV.toCells, partC, partP, mkCells, allP, mkAgg, Cells.len, target, evParts, fillA, AV.cells, splice, spliceC, finA, leaveA, resA, resV, ansV, idxA, lenA, takeC, dropC, Cells.get?, keepE, readsOf, opds, tmpsOf, Env.get_cons, wantedA, putE, t3, t6, o0, o2, hr, hC, colsT]; rfl)).trans ?_
      refine (drawS rfl rfl (by simp [stillOp, valsOp, refOf, refV, oneH, exec, runOps, wantedA, stepOp, pureOp, allocOp, readOp, effOp, ev, evs, evO, Env.get_cons, putE, binA, intBin, unA, AV.fit, AV.toCells, partC, partP, mkCells, allP, mkAgg, Cells.len, target, evParts, fillA, AV.cells, splice, spliceC, finA, leaveA, resA, resV, ansV, idxA, lenA, takeC, dropC, Cells.get?, keepE, readsOf, opds, tmpsOf, Env.get_cons, wantedA, putE, t3, t6, o0, o2, hr, hC, colsT]; rfl)).trans ?_
      refine (drawE rfl rfl (by simp [exec, runOps, wantedA, stepOp, pureOp, allocOp, readOp, effOp, ev, evs, evO, Env.get_cons, putE, binA, intBin, unA, AV.fit, AV.toCells, partC, partP, mkCells, allP, mkAgg, Cells.len, target, evParts, fillA, AV.cells, splice, spliceC, finA, leaveA, resA, resV, ansV, keepE, readsOf, opds, tmpsOf, Env.get_cons, wantedA, putE, repCells, elemsA, takeC, dropC, Cells.toList, t3, t6, o0, o2, hr, hC, colsT]; rfl) (by simp [carry, keepE, readsOf, opds, tmpsOf, Env.get_cons, wantedA, putE]; rfl) (by simp [wrIds, refV, keepE, readsOf, opds, tmpsOf, Env.get_cons, wantedA, putE, ev, evs, target, touchF, touch, collect, idsL, idsV, idsO, t3, t6, o0, o2, hr, hC, colsT]; rfl)).trans ?_
      refine (drawS rfl rfl (by simp [stillOp, valsOp, refOf, refV, oneH, exec, runOps, wantedA, stepOp, pureOp, allocOp, readOp, effOp, ev, evs, evO, Env.get_cons, putE, binA, intBin, unA, AV.fit, AV.toCells, partC, partP, mkCells, allP, mkAgg, Cells.len, target, evParts, fillA, AV.cells, splice, spliceC, finA, leaveA, resA, resV, ansV, idxA, lenA, takeC, dropC, Cells.get?, keepE, readsOf, opds, tmpsOf, Env.get_cons, wantedA, putE, t3, t6, o0, o2, hr, hC, colsT]; rfl)).trans ?_
      refine (drawS rfl rfl (by simp [stillOp, valsOp, refOf, refV, oneH, exec, runOps, wantedA, stepOp, pureOp, allocOp, readOp, effOp, ev, evs, evO, Env.get_cons, putE, binA, intBin, unA, AV.fit, AV.toCells, partC, partP, mkCells, allP, mkAgg, Cells.len, target, evParts, fillA, AV.cells, splice, spliceC, finA, leaveA, resA, resV, ansV, idxA, lenA, takeC, dropC, Cells.get?, keepE, readsOf, opds, tmpsOf, Env.get_cons, wantedA, putE, t3, t6, o0, o2, hr, hC, colsT]; rfl)).trans ?_
      refine (drawR rfl rfl (by simp [stillOp, valsOp, refOf, refV, oneH, exec, runOps, wantedA, stepOp, pureOp, allocOp, readOp, effOp, ev, evs, evO, Env.get_cons, putE, binA, intBin, unA, AV.fit, AV.toCells, partC, partP, mkCells, allP, mkAgg, Cells.len, target, takeC, dropC, Cells.get?, keepE, readsOf, opds, tmpsOf, Env.get_cons, wantedA, putE, t3, t6, o0, o2, hr, hC, colsT]; exact ⟨rfl, rfl⟩)).trans ?_
      refine (drawS rfl rfl (by simp [stillOp, valsOp, refOf, refV, oneH, exec, runOps, wantedA, stepOp, pureOp, allocOp, readOp, effOp, ev, evs, evO, Env.get_cons, putE, binA, intBin, unA, AV.fit, AV.toCells, partC, partP, mkCells, allP, mkAgg, Cells.len, target, evParts, fillA, AV.cells, splice, spliceC, finA, leaveA, resA, resV, ansV, idxA, lenA, takeC, dropC, Cells.get?, keepE, readsOf, opds, tmpsOf, Env.get_cons, wantedA, putE, t3, t6, o0, o2, hr, hC, colsT]; rfl)).trans ?_
      refine (drawE rfl rfl (by simp [exec, runOps, wantedA, stepOp, pureOp, allocOp, readOp, effOp, ev, evs, evO, Env.get_cons, putE, binA, intBin, unA, AV.fit, AV.toCells, partC, partP, mkCells, allP, mkAgg, Cells.len, target, evParts, fillA, AV.cells, splice, spliceC, finA, leaveA, resA, resV, ansV, keepE, readsOf, opds, tmpsOf, Env.get_cons, wantedA, putE, repCells, elemsA, takeC, dropC, Cells.toList, t3, t6, o0, o2, hr, hC, colsT]; rfl) (by simp [carry, keepE, readsOf, opds, tmpsOf, Env.get_cons, wantedA, putE]; rfl) (by simp [wrIds, refV, keepE, readsOf, opds, tmpsOf, Env.get_cons, wantedA, putE, ev, evs, target, touchF, touch, collect, idsL, idsV, idsO, t3, t6, o0, o2, hr, hC, colsT]; rfl)).trans ?_
      refine (drawS rfl rfl (by simp [stillOp, valsOp, refOf, refV, oneH, exec, runOps, wantedA, stepOp, pureOp, allocOp, readOp, effOp, ev, evs, evO, Env.get_cons, putE, binA, intBin, unA, AV.fit, AV.toCells, partC, partP, mkCells, allP, mkAgg, Cells.len, target, evParts, fillA, AV.cells, splice, spliceC, finA, leaveA, resA, resV, ansV, idxA, lenA, takeC, dropC, Cells.get?, keepE, readsOf, opds, tmpsOf, Env.get_cons, wantedA, putE, t3, t6, o0, o2, hr, hC, colsT]; rfl)).trans ?_
      exact rfl, by rfl, ⟨_, _, by rfl, h2⟩, by rfl, by simp [putE, Env.get_cons, t6], by simp [putE, Env.get_cons], List.getElem?_set_self h2⟩
theorem kind23_2 (ρ : Env) (σ : Heap) (OP : Word) (ka : Int) (b c d : PV) (t3 : ρ.get 3 = some (.ptr 0 0 0)) (t6 : ρ.get 6 = some (.ptr 2 0 0)) (o0 : σ[0]? = some (.arr (.pv (tblC k)) 0 0 none)) (o2 : σ[2]? = some (.arr (.pv [.int .i64 2, .str OP, .int .i64 ka, b, c, d]) 0 0 (some 75)))
    (hr : Marks.raw 32 = false) (hK : K32 C) : ∃ ρ' σ', exec C L n23_9 ⟨ρ, [], σ⟩ = some (.normal, ⟨ρ', [], σ'⟩) ∧ ρ'.get 6 = some (.ptr 2 0 0) ∧ ρ'.get 7 = some (.p (.bool (2 == ka))) ∧ σ'[2]? = some (.arr (.pv [.int .i64 2, .str OP, .int .i64 ka, b, c, d]) 0 0 (some 75)) := by
  have h2 : 2 < σ.length := (List.getElem?_eq_some_iff.1 o2).1
  have hC := hK.k2
  have fin : (∃ s1 : Tr, drawRun C 0 (opsD n23_9) ⟨⟨ρ, [], σ⟩, [], []⟩ = some (none, s1) ∧ s1.rds = [(11, 2), (4, 2), (2, 0), (0, 2)] ∧ (∃ k0 k1, s1.wrs = [(13, k1, [2]), (8, k0, [])] ∧ 2 < k0) ∧ s1.st.defers = [] ∧ s1.st.env.get 6 = some (.ptr 2 0 0) ∧ s1.st.env.get 7 = some (.p (.bool (2 == ka))) ∧ s1.st.heap[2]? = some (.arr (.pv [.int .i64 2, .str OP, .int .i64 ka, b, c, d]) 0 0 (some 75))) →
      ∃ ρ' σ', exec C L n23_9 ⟨ρ, [], σ⟩ = some (.normal, ⟨ρ', [], σ'⟩) ∧ ρ'.get 6 = some (.ptr 2 0 0) ∧ ρ'.get 7 = some (.p (.bool (2 == ka))) ∧ σ'[2]? = some (.arr (.pv [.int .i64 2, .str OP, .int .i64 ka, b, c, d]) 0 0 (some 75)) := by
    rintro ⟨⟨⟨ρ', d, σ'⟩, rds, wrs⟩, hr, h1, ⟨k0, k1, h2, hk0⟩, h3, h4, h5, h6⟩
    simp only at h1 h2 h3
    subst h1 h2 h3
    obtain ⟨m0, rfl⟩ : ∃ m, k0 = m + 3 := ⟨k0 - 3, by omega⟩
    exact ⟨ρ', σ', drawX hr (by kernel_rfl), h4, h5, h6⟩
  exact fin ⟨_, by
      show drawRun C 0 (_ :: _) _ = _
      refine (drawR rfl rfl (by simp [stillOp, valsOp, refOf, refV, oneH, exec, runOps, wantedA, stepOp, pureOp, allocOp, readOp, effOp, ev, evs, evO, Env.get_cons, putE, binA, intBin, unA, AV.fit, AV.toCells, partC, partP, mkCells, allP, mkAgg, Cells.len, target, takeC, dropC, Cells.get?, keepE, readsOf, opds, tmpsOf, Env.get_cons, wantedA, putE, t3, t6, o0, o2, hr, hC, colsT]; exact ⟨rfl, rfl⟩)).trans ?_
      refine (drawS rfl rfl (by simp [stillOp, valsOp, refOf, refV, oneH, exec, runOps, wantedA, stepOp, pureOp, allocOp, readOp, effOp, ev, evs, evO, Env.get_cons, putE, binA, intBin, unA, AV.fit, AV.toCells, partC, partP, mkCells, allP, mkAgg, Cells.len, target, evParts, fillA, AV.cells, splice, spliceC, finA, leaveA, resA, resV, ansV, idxA, lenA, takeC, dropC, Cells.get?, keepE, readsOf, opds, tmpsOf, Env.get_cons, wantedA, putE, t3, t6, o0, o2, hr, hC, colsT]; rfl)).trans ?_
      refine (drawR rfl rfl (by simp [stillOp, valsOp, refOf, refV, oneH, exec, runOps, wantedA, stepOp, pureOp, allocOp, readOp, effOp, ev, evs, evO, Env.get_cons, putE, binA, intBin, unA, AV.fit, AV.toCells, partC, partP, mkCells, allP, mkAgg, Cells.len, target, takeC, dropC, Cells.get?, keepE, readsOf, opds, tmpsOf, Env.get_cons, wantedA, putE, t3, t6, o0, o2, hr, hC, colsT]; exact ⟨rfl, rfl⟩)).trans ?_
      refine (drawS rfl rfl (by simp [stillOp, valsOp, refOf, refV, oneH, exec, runOps, wantedA, stepOp, pureOp, allocOp, readOp, effOp, ev, evs, evO, Env.get_cons, putE, binA, intBin, unA, AV.fit, AV.toCells, partC, partP, mkCells, allP, mkAgg, Cells.len, target, evParts, fillA, AV.cells, splice, spliceC, finA, leaveA, resA, resV, ansV, idxA, lenA, takeC, dropC, Cells.get?, keepE, readsOf, opds, tmpsOf, Env.get_cons, wantedA, putE, t3, t6, o0, o2, hr, hC, colsT]; rfl)).trans ?_
      refine (drawR rfl rfl (by simp [stillOp, valsOp, refOf, refV, oneH, exec, runOps, wantedA, stepOp, pureOp, allocOp, readOp, effOp, ev, evs, evO, Env.get_cons, putE, binA, intBin, unA, AV.fit, AV.toCells, partC, partP, mkCells, allP, mkAgg, Cells.len, target, takeC, dropC, Cells.get?, keepE, readsOf, opds, tmpsOf, Env.get_cons, wantedA, putE, t3, t6, o0, o2, hr, hC, colsT]; exact ⟨rfl, rfl⟩)).trans ?_
      refine (drawS rfl rfl (by simp [stillOp, valsOp, refOf, refV, oneH, exec, runOps, wantedA, stepOp, pureOp, allocOp, readOp, effOp, ev, evs, evO, Env.get_cons, putE, binA, intBin, unA, AV.fit, AV.toCells, partC, partP, mkCells, allP, mkAgg, Cells.len, target, evParts, fillA, AV.cells, splice, spliceC, finA, leaveA, resA, resV, ansV, idxA, lenA, takeC, dropC, Cells.get?, keepE, readsOf, opds, tmpsOf, Env.get_cons, wantedA, putE, t3, t6, o0, o2, hr, hC, colsT]; rfl)).trans ?_
      refine (drawS rfl rfl (by simp [stillOp, valsOp, refOf, refV, oneH, exec, runOps, wantedA, stepOp, pureOp, allocOp, readOp, effOp, ev, evs, evO, Env.get_cons, putE, binA, intBin, unA, AV.fit, AV.toCells, partC, partP, mkCells, allP, mkAgg, Cells.len, target, evParts, fillA, AV.cells, splice, spliceC, finA, leaveA, resA, resV, ansV, idxA, lenA, takeC, dropC, Cells.get?, keepE, readsOf, opds, tmpsOf, Env.get_cons, wantedA, putE, t3, t6, o0, o2, hr, hC, colsT]; rfl)).trans ?_
      refine (drawS rfl rfl (by simp [stillOp, valsOp, refOf, refV, oneH, exec, runOps, wantedA, stepOp, pureOp, allocOp, readOp, effOp, ev, evs, evO, Env.get_cons, putE, binA, intBin, unA, AV.fit, AV.toCells, partC, partP, mkCells, allP, mkAgg, Cells.len, target, evParts, fillA, AV.cells, splice, spliceC, finA, leaveA, resA, resV, ansV, idxA, lenA, takeC, dropC, Cells.get?, keepE, readsOf, opds, tmpsOf, Env.get_cons, wantedA, putE, t3, t6, o0, o2, hr, hC, colsT]; rfl)).trans ?_
      refine (drawE rfl rfl (by simp [exec, runOps, wantedA, stepOp, pureOp, allocOp, readOp, effOp, ev, evs, evO, Env.get_cons, putE, binA, intBin, unA, AV.fit, AV.toCells, partC, partP, mkCells, allP, mkAgg, Cells.len, target, evParts, fillA, AV.cells, splice, spliceC, finA, leaveA, resA, resV, ansV, keepE, readsOf, opds, tmpsOf, Env.get_cons, wantedA, putE, repCells, elemsA, takeC, dropC, Cells.toList, t3, t6, o0, o2, hr, hC, colsT]; rfl) (by simp [carry, keepE, readsOf, opds, tmpsOf, Env.get_cons, wantedA, putE]; rfl) (by simp [wrIds, refV, keepE, readsOf, opds, tmpsOf, Env.get_cons, wantedA, putE, ev, evs, target, touchF, touch, collect, idsL, idsV, idsO, t3, t6, o0, o2, hr, hC, colsT]; rfl)).trans ?_
      refine (drawS rfl rfl (by simp [stillOp, valsOp, refOf, refV, oneH, exec, runOps, wantedA, stepOp, pureOp, allocOp, readOp, effOp, ev, evs, evO, Env.get_cons, putE, binA, intBin, unA, AV.fit, AV.toCells, partC, partP, mkCells, allP, mkAgg, Cells.len, target, evParts, fillA, AV.cells, splice, spliceC, finA, leaveA, resA, resV, ansV, idxA, lenA, takeC, dropC, Cells.get?, keepE, readsOf, opds, tmpsOf, Env.get_cons, wantedA, putE, t3, t6, o0, o2, hr, hC, colsT]; rfl)).trans ?_
      refine (drawS rfl rfl (by simp [stillOp, valsOp, refOf, refV, oneH, exec, runOps, wantedA, stepOp, pureOp, allocOp, readOp, effOp, ev, evs, evO, Env.get_cons, putE, binA, intBin, unA, AV.fit, AV.toCells, partC, partP, mkCells, allP, mkAgg, Cells.len, target, evParts, fillA, AV.cells, splice, spliceC, finA, leaveA, resA, resV, ansV, idxA, lenA, takeC, dropC, Cells.get?, keepE, readsOf, opds, tmpsOf, Env.get_cons, wantedA, putE, t3, t6, o0, o2, hr, hC, colsT]; rfl)).trans ?_
      refine (drawR rfl rfl (by simp [stillOp, valsOp, refOf, refV, oneH, exec, runOps, wantedA, stepOp, pureOp, allocOp, readOp, effOp, ev, evs, evO, Env.get_cons, putE, binA, intBin, unA, AV.fit, AV.toCells, partC, partP, mkCells, allP, mkAgg, Cells.len, target, takeC, dropC, Cells.get?, keepE, readsOf, opds, tmpsOf, Env.get_cons, wantedA, putE, t3, t6, o0, o2, hr, hC, colsT]; exact ⟨rfl, rfl⟩)).trans ?_
      refine (drawS rfl rfl (by simp [stillOp, valsOp, refOf, refV, oneH, exec, runOps, wantedA, stepOp, pureOp, allocOp, readOp, effOp, ev, evs, evO, Env.get_cons, putE, binA, intBin, unA, AV.fit, AV.toCells, partC, partP, mkCells, allP, mkAgg, Cells.len, target, evParts, fillA, AV.cells, splice, spliceC, finA, leaveA, resA, resV, ansV, idxA, lenA, takeC, dropC, Cells.get?, keepE, readsOf, opds, tmpsOf, Env.get_cons, wantedA, putE, t3, t6, o0, o2, hr, hC, colsT]; rfl)).trans ?_
      refine (drawE rfl rfl (by simp [exec, runOps, wantedA, stepOp, pureOp, allocOp, readOp, effOp, ev, evs, evO, Env.get_cons, putE, binA, intBin, unA, AV.fit, AV.toCells, partC, partP, mkCells, allP, mkAgg, Cells.len, target, evParts, fillA, AV.cells, splice, spliceC, finA, leaveA, resA, resV, ansV, keepE, readsOf, opds, tmpsOf, Env.get_cons, wantedA, putE, repCells, elemsA, takeC, dropC, Cells.toList, t3, t6, o0, o2, hr, hC, colsT]; rfl) (by simp [carry, keepE, readsOf, opds, tmpsOf, Env.get_cons, wantedA, putE]; rfl) (by simp [wrIds, refV, keepE, readsOf, opds, tmpsOf, Env.get_cons, wantedA, putE, ev, evs, target, touchF, touch, collect, idsL, idsV, idsO, t3, t6, o0, o2, hr, hC, colsT]; rfl)).trans ?_
      refine (drawS rfl rfl (by simp [stillOp, valsOp, refOf, refV, oneH, exec, runOps, wantedA, stepOp, pureOp, allocOp, readOp, effOp, ev, evs, evO, Env.get_cons, putE, binA, intBin, unA, AV.fit, AV.toCells, partC, partP, mkCells, allP, mkAgg, Cells.len, target, evParts, fillA, AV.cells, splice, spliceC, finA, leaveA, resA, resV, ansV, idxA, lenA, takeC, dropC, Cells.get?, keepE, readsOf, opds, tmpsOf, Env.get_cons, wantedA, putE, t3, t6, o0, o2, hr, hC, colsT]; rfl)).trans ?_
      exact rfl, by rfl, ⟨_, _, by rfl, h2⟩, by rfl, by simp [putE, Env.get_cons, t6], by simp [putE, Env.get_cons], List.getElem?_set_self h2⟩
end
end Go.Ab.Turn
