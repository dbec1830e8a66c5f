/- PlanTurned: what a clause says of a column: joined. -/
import Derived.Test.YtikebbklkiodlaaDoorAbU8
set_option linter.unusedSectionVars false
set_option linter.unusedSimpArgs false
set_option linter.unusedVariables false
set_option maxRecDepth 1000000
namespace Go.Ab.Turn
open Go Go.Ab Go.Ab.Plan Go.Ab.Key Go.Ab.Cnt Go.Proofs
variable [Marks]
/-- what two trees say, the first a slot -/
def said (OP : Word) (x y : T) : Option Cl := if x.op = wSlot then (match lit y with
  | some v => (slT x.n v).map fun c => ⟨c, OP, v⟩
  | none => none) else none
theorem said_slot {OP : Word} {x y : T} (h : x.op = wSlot) : said OP x y = (match lit y with
  | some v => (slT x.n v).map fun c => ⟨c, OP, v⟩
  | none => none) := if_pos h
theorem said_not {OP : Word} {x y : T} (h : ¬ x.op = wSlot) : said OP x y = none := if_neg h
section
variable (C : Oracle) (L : Nat) (k : List Nat)
theorem tail23 (ρ : Env) (σ : Heap) (OP xo xs : Word) (xn : Int) (xl : List T) (y : T) (hy : okT y) (h : At23 k ρ σ OP xo xs xn (cellsL xl) xl.length zeroV) (o4 : σ[4]? = some (.arr (.pv (cells y)) 0 0 (some 45)))
    (h31 : ∀ t, okT t → ∀ σ, C 31 [.p (node t)] σ = some (.ret (.p (.tup [.agg (litC (lit t)), .bool (lit t).isSome])), σ)) (hr : Marks.raw 32 = false) (hK : K32 C) :
    ∃ ρ' σ' c b, exec C L (.seq n23_6 (.seq n23_7 (.seq n23_8 (.seq n23_9 .ret)))) ⟨ρ, [], σ⟩ = some (.ret, ⟨ρ', [], σ'⟩) ∧ ρ'.get 6 = some (.ptr 2 0 0) ∧ ρ'.get 7 = some (.p (.bool b)) ∧ σ'[2]? = some (.arr (.pv c) 0 0 (some 75)) ∧
      Ok23 (said OP (.mk xo xs xn xl) y) c b ∧ c.length = 6 := by
  obtain ⟨ρ1, σ1, e1, h1, g7⟩ := tail23a C L k ρ σ OP xo xs xn _ _ y hy h o4 h31
  have hlc : ∃ a b c d, litC (lit y) = [a, b, c, d] := by
    cases lit y with
    | none => exact ⟨_, _, _, _, rfl⟩
    | some v => cases v <;> exact ⟨_, _, _, _, rfl⟩
  obtain ⟨a, b, c, d, el⟩ := hlc
  by_cases hf : (lit y).isSome = false ∨ ¬ xo = [115, 108, 111, 116] ∨ xn < 0 ∨ 3 ≤ xn
  · rw [el] at h1
    obtain ⟨ρ2, σ2, e2, g6, g7, o2⟩ := fail23 C L k ρ1 σ1 OP xo xs xn _ _ a b c d _ h1 g7 hf
    refine ⟨ρ2, σ2, _, false, by rw [seqN e1, seqR e2], g6, g7, o2, ?_, rfl⟩
    have hn : said OP (.mk xo xs xn xl) y = none := by
      by_cases hx : xo = wSlot
      · rw [said_slot (x := .mk xo xs xn xl) hx]
        rcases hf with hf | hf | hf
        · cases hl : lit y with
          | none => rfl
          | some v => rw [hl] at hf; cases hf
        · exact absurd hx hf
        · cases hl : lit y with
          | none => rfl
          | some v =>
            have : slT xn v = none := by
              cases v with
              | num m => exact if_neg (by omega)
              | text m => exact if_neg (by omega)
              | bool m => rfl
            simp only [T.n, this, Option.map_none]
      · exact said_not (x := .mk xo xs xn xl) hx
    rw [hn]
    exact ⟨rfl, rfl⟩
  · have hs : (lit y).isSome = true := by
      cases h : (lit y).isSome with
      | true => rfl
      | false => exact absurd (.inl h) hf
    have hx : xo = [115, 108, 111, 116] := Classical.byContradiction fun h => hf (.inr (.inl h))
    have h0 : 0 ≤ xn := by
      apply Classical.byContradiction
      intro h
      exact hf (.inr (.inr (.inl (by omega))))
    have h3 : xn < 3 := by
      apply Classical.byContradiction
      intro h
      exact hf (.inr (.inr (.inr (by omega))))
    subst hx
    obtain ⟨v, hv⟩ : ∃ v, lit y = some v := by
      cases h : lit y with
      | none => rw [h] at hs; cases hs
      | some v => exact ⟨v, rfl⟩
    obtain ⟨b', c', d', el⟩ : ∃ b c d, litC (lit y) = [.int .i64 (kindL v), b, c, d] := by
      rw [hv]
      cases v <;> exact ⟨_, _, _, rfl⟩
    rw [el] at h1
    rw [hs] at g7
    obtain ⟨ρ2, e2, h2⟩ := pass23 C L k ρ1 σ1 OP xs xn _ _ _ _ _ _ h1 g7 h0 h3
    obtain ⟨ρ3, e3, g3, g6⟩ := col23 C L k ρ2 σ1 OP _ xs xn _ _ _ _ _ _ h2 h0 h3
    have hl2 : 2 < σ1.length := (List.getElem?_eq_some_iff.1 h2.o2).1
    have o0 : (σ1.set 2 (.arr (.pv [.int .i64 xn, .str OP, .int .i64 (kindL v), b', c', d']) 0 0 (some 75)))[0]? = some (.arr (.pv (tblC k)) 0 0 none) := by
      rw [List.getElem?_set_ne (by decide)]; exact h2.o0
    have o2 := List.getElem?_set_self (l := σ1) (i := 2) (a := Obj.arr (.pv [.int .i64 xn, .str OP, .int .i64 (kindL v), b', c', d']) 0 0 (some 75)) hl2
    have key : ∃ ρ' σ' q, exec C L n23_9 ⟨ρ3, [], σ1.set 2 (.arr (.pv [.int .i64 xn, .str OP, .int .i64 (kindL v), b', c', d']) 0 0 (some 75))⟩ = some (.normal, ⟨ρ', [], σ'⟩) ∧ ρ'.get 6 = some (.ptr 2 0 0) ∧ ρ'.get 7 = some (.p (.bool q)) ∧
        σ'[2]? = some (.arr (.pv [.int .i64 xn, .str OP, .int .i64 (kindL v), b', c', d']) 0 0 (some 75)) ∧ q = (slT xn v).isSome ∧ (q = true → slT xn v = some xn.toNat) := by
      have hxn : xn = 0 ∨ xn = 1 ∨ xn = 2 := by omega
      rcases hxn with rfl | rfl | rfl
      · obtain ⟨ρ', σ', e, q6, q7, q2⟩ := kind23_0 C L k ρ3 _ OP (kindL v) b' c' d' g3 g6 o0 o2 hr hK
        exact ⟨ρ', σ', _, e, q6, q7, q2, by cases v <;> rfl, by cases v <;> simp [kindL, slT]⟩
      · obtain ⟨ρ', σ', e, q6, q7, q2⟩ := kind23_1 C L k ρ3 _ OP (kindL v) b' c' d' g3 g6 o0 o2 hr hK
        exact ⟨ρ', σ', _, e, q6, q7, q2, by cases v <;> rfl, by cases v <;> simp [kindL, slT]⟩
      · obtain ⟨ρ', σ', e, q6, q7, q2⟩ := kind23_2 C L k ρ3 _ OP (kindL v) b' c' d' g3 g6 o0 o2 hr hK
        exact ⟨ρ', σ', _, e, q6, q7, q2, by cases v <;> rfl, by cases v <;> simp [kindL, slT]⟩
    obtain ⟨ρ4, σ4, q, e4, q6, q7, q2, hq, hq2⟩ := key
    refine ⟨ρ4, σ4, _, q, by rw [seqN e1, seqN e2, seqN e3, seqN e4]; rfl, q6, q7, q2, ?_, rfl⟩
    have hsd : said OP (.mk [115, 108, 111, 116] xs xn xl) y = (slT xn v).map fun c => ⟨c, OP, v⟩ := by
      rw [said_slot (x := .mk [115, 108, 111, 116] xs xn xl) rfl, hv]
      rfl
    rw [hsd]
    cases q with
    | false =>
      have : slT xn v = none := by
        cases h : slT xn v with
        | none => rfl
        | some c => rw [h] at hq; cases hq
      rw [this]
      exact ⟨rfl, rfl⟩
    | true =>
      rw [hq2 rfl]
      refine ⟨rfl, ?_⟩
      have hvc : vc (litV v) = [.int .i64 (kindL v), b', c', d'] := by
        have := el
        rw [hv] at this
        exact this
      simp only [clC, hvc]
      have : ((xn.toNat : Nat) : Int) = xn := by omega
      rw [this]
end
end Go.Ab.Turn

/- PlanTurned: what a clause says of a column: the function. -/
set_option maxRecDepth 1000000
namespace Go.Ab.Turn
open Go Go.Ab Go.Ab.Plan Go.Ab.Key Go.Ab.Cnt Go.Proofs
variable [Marks]
section
variable (C : Oracle) (D : DOracle) (L : Nat) (k : List Nat)
theorem read_two (sl : Int → Lit → Option Nat) (op s : Word) (n : Int) (x y : T) : read sl (.mk op s n [x, y]) = if isCmp op = true then (
      if x.op = wSlot then (match lit y with
        | some v => (sl x.n v).map fun c => ⟨c, op, v⟩
        | none => none)
      else if y.op = wSlot then (match lit x with
        | some v => (sl y.n v).map fun c => ⟨c, flip op, v⟩
        | none => none)
      else none) else none := rfl
theorem flip_ne {op : Word} (h : isCmp op = true) : (flip op == []) = false := by
  simp [isCmp] at h
  rcases h with (((rfl | rfl) | rfl) | rfl) | rfl <;> rfl
def H23 (t : T) (op : Word) : Heap := [.arr (.pv (tblC k)) 0 0 none, .arr (.pv (cells t)) 0 0 none, .arr (.pv [.int .i64 0, .str op, .int .i64 0, .int .i64 0, .str [], .bool false]) 0 0 (some 75)]
theorem front23 (op s : Word) (n : Int) (l : List T) (h30 : ∀ op σ, C 30 [.p (.str op)] σ = some (.ret (.p (.str (if isCmp op = true then flip op else []))), σ)) :
    ∃ ρ ex, exec C L (.seq (.seq n23_1 n23_2) n23_3) ⟨[(0, .p (tbl k)), (1, .p (node (.mk op s n l))), (2, int 0)], [], []⟩ = some (ex, ⟨ρ, [], H23 k (.mk op s n l) op⟩) ∧ ex = (if isCmp op = true ∧ l.length = 2 then .normal else .ret) ∧
      ρ.get 2 = some (int 0) ∧ ρ.get 3 = some (.ptr 0 0 0) ∧ ρ.get 4 = some (.ptr 1 0 0) ∧ ρ.get 6 = some (.ptr 2 0 0) ∧ ρ.get 7 = some (.p (.bool false)) := by
  by_cases hc : isCmp op = true
  · have h := h30 op
    rw [if_pos hc] at h
    have hne := flip_ne hc
    by_cases hl : l.length = 2
    · refine ⟨_, .normal, by simp [n23_1, n23_2, n23_3, n23_3_1, n23_3_2, exec, runOps, wantedA, stepOp, pureOp, allocOp, readOp, effOp, ev, evs, evO, Env.get_cons, putE, binA, intBin, unA, AV.fit, AV.toCells, partC, partP, mkCells, allP, mkAgg, Cells.len, target, evParts, fillA, AV.cells, splice, spliceC, finA, leaveA, resA, resV, ansV, strBin, cells, lenA, takeC, dropC, Cells.get?, Cells.toList, h, hne, hl, H23]; rfl, (if_pos ⟨hc, hl⟩).symm, by simp [Env.get_cons], by simp [Env.get_cons], by simp [Env.get_cons], by simp [Env.get_cons], by simp [Env.get_cons]⟩
    · have hl' : ((l.length : Int) != 2) = true := bne_iff_ne.2 (by omega)
      refine ⟨_, .ret, by simp [n23_1, n23_2, n23_3, n23_3_1, n23_3_2, exec, runOps, wantedA, stepOp, pureOp, allocOp, readOp, effOp, ev, evs, evO, Env.get_cons, putE, binA, intBin, unA, AV.fit, AV.toCells, partC, partP, mkCells, allP, mkAgg, Cells.len, target, evParts, fillA, AV.cells, splice, spliceC, finA, leaveA, resA, resV, ansV, strBin, cells, lenA, takeC, dropC, Cells.get?, Cells.toList, h, hne, hl', H23]; rfl, (if_neg (fun h => hl h.2)).symm, by simp [Env.get_cons], by simp [Env.get_cons], by simp [Env.get_cons], by simp [Env.get_cons], by simp [Env.get_cons]⟩
  · have h := h30 op
    rw [if_neg hc] at h
    refine ⟨_, .ret, by simp [n23_1, n23_2, n23_3, n23_3_1, n23_3_2, exec, runOps, wantedA, stepOp, pureOp, allocOp, readOp, effOp, ev, evs, evO, Env.get_cons, putE, binA, intBin, unA, AV.fit, AV.toCells, partC, partP, mkCells, allP, mkAgg, Cells.len, target, evParts, fillA, AV.cells, splice, spliceC, finA, leaveA, resA, resV, ansV, strBin, cells, lenA, takeC, dropC, Cells.get?, Cells.toList, h, H23]; rfl, (if_neg (fun h => hc h.1)).symm, by simp [Env.get_cons], by simp [Env.get_cons], by simp [Env.get_cons], by simp [Env.get_cons], by simp [Env.get_cons]⟩
/-- both sides taken -/
theorem sides23 (ρ : Env) (op s : Word) (n : Int) (xo xs yo ys : Word) (xn yn : Int) (xl yl : List T) (g2 : ρ.get 2 = some (int 0)) (g3 : ρ.get 3 = some (.ptr 0 0 0)) (g4 : ρ.get 4 = some (.ptr 1 0 0)) (g6 : ρ.get 6 = some (.ptr 2 0 0)) :
    ∃ ρ', exec C L n23_4 ⟨ρ, [], H23 k (.mk op s n [.mk xo xs xn xl, .mk yo ys yn yl]) op⟩ =
      some (.normal, ⟨ρ', [], H23 k (.mk op s n [.mk xo xs xn xl, .mk yo ys yn yl]) op ++ [.arr (.pv (cells (.mk xo xs xn xl))) 0 0 (some 45), .arr (.pv (cells (.mk yo ys yn yl))) 0 0 (some 45)]⟩) ∧
      ρ'.get 2 = some (int 0) ∧ ρ'.get 3 = some (.ptr 0 0 0) ∧ ρ'.get 6 = some (.ptr 2 0 0) ∧ ρ'.get 8 = some (.ptr 3 0 0) ∧ ρ'.get 9 = some (.ptr 4 0 0) := by
  have fin : (∃ s1 : Tr, drawRun C 0 (opsD n23_4) ⟨⟨ρ, [], H23 k (.mk op s n [.mk xo xs xn xl, .mk yo ys yn yl]) op⟩, [], []⟩ = some (none, s1) ∧ s1.rds = [(5, 1), (1, 1)] ∧ s1.wrs = [(11, 5, [4]), (10, 5, [3]), (9, 4, []), (8, 3, [])] ∧ s1.st.defers = [] ∧
      s1.st.heap = H23 k (.mk op s n [.mk xo xs xn xl, .mk yo ys yn yl]) op ++ [.arr (.pv (cells (.mk xo xs xn xl))) 0 0 (some 45), .arr (.pv (cells (.mk yo ys yn yl))) 0 0 (some 45)] ∧
      s1.st.env.get 2 = some (int 0) ∧ s1.st.env.get 3 = some (.ptr 0 0 0) ∧ s1.st.env.get 6 = some (.ptr 2 0 0) ∧ s1.st.env.get 8 = some (.ptr 3 0 0) ∧ s1.st.env.get 9 = some (.ptr 4 0 0)) →
      ∃ ρ', exec C L n23_4 ⟨ρ, [], H23 k (.mk op s n [.mk xo xs xn xl, .mk yo ys yn yl]) op⟩ =
      some (.normal, ⟨ρ', [], H23 k (.mk op s n [.mk xo xs xn xl, .mk yo ys yn yl]) op ++ [.arr (.pv (cells (.mk xo xs xn xl))) 0 0 (some 45), .arr (.pv (cells (.mk yo ys yn yl))) 0 0 (some 45)]⟩) ∧
      ρ'.get 2 = some (int 0) ∧ ρ'.get 3 = some (.ptr 0 0 0) ∧ ρ'.get 6 = some (.ptr 2 0 0) ∧ ρ'.get 8 = some (.ptr 3 0 0) ∧ ρ'.get 9 = some (.ptr 4 0 0) := by
    rintro ⟨⟨⟨ρ', d, σ'⟩, rds, wrs⟩, hr, h1, h2, h3, h4, hA⟩
    simp only at h1 h2 h3 h4
    subst h1 h2 h3 h4
    exact ⟨ρ', drawX hr (by kernel_rfl), hA⟩
  simp only [H23, cells, cellsL] at fin ⊢
  exact fin ⟨_, by
      show drawRun C 0 (_ :: _) _ = _
      refine (drawS rfl rfl (by simp [stillOp, valsOp, refOf, refV, oneH, exec, runOps, wantedA, stepOp, pureOp, allocOp, readOp, effOp, ev, evs, evO, Env.get_cons, putE, binA, intBin, unA, AV.fit, AV.toCells, partC, partP, mkCells, allP, mkAgg, Cells.len, target, evParts, fillA, AV.cells, splice, spliceC, finA, leaveA, resA, resV, ansV, idxA, lenA, takeC, dropC, Cells.get?, keepE, readsOf, opds, tmpsOf, Env.get_cons, wantedA, putE, g4]; rfl)).trans ?_
      refine (drawR rfl rfl (by simp [stillOp, valsOp, refOf, refV, oneH, exec, runOps, wantedA, stepOp, pureOp, allocOp, readOp, effOp, ev, evs, evO, Env.get_cons, putE, binA, intBin, unA, AV.fit, AV.toCells, partC, partP, mkCells, allP, mkAgg, Cells.len, target, takeC, dropC, Cells.get?, keepE, readsOf, opds, tmpsOf, Env.get_cons, wantedA, putE, g4]; exact ⟨rfl, rfl⟩)).trans ?_
      refine (drawS rfl rfl (by simp [stillOp, valsOp, refOf, refV, oneH, exec, runOps, wantedA, stepOp, pureOp, allocOp, readOp, effOp, ev, evs, evO, Env.get_cons, putE, binA, intBin, unA, AV.fit, AV.toCells, partC, partP, mkCells, allP, mkAgg, Cells.len, target, evParts, fillA, AV.cells, splice, spliceC, finA, leaveA, resA, resV, ansV, idxA, lenA, takeC, dropC, Cells.get?, keepE, readsOf, opds, tmpsOf, Env.get_cons, wantedA, putE, g4]; rfl)).trans ?_
      refine (drawS rfl rfl (by simp [stillOp, valsOp, refOf, refV, oneH, exec, runOps, wantedA, stepOp, pureOp, allocOp, readOp, effOp, ev, evs, evO, Env.get_cons, putE, binA, intBin, unA, AV.fit, AV.toCells, partC, partP, mkCells, allP, mkAgg, Cells.len, target, evParts, fillA, AV.cells, splice, spliceC, finA, leaveA, resA, resV, ansV, idxA, lenA, takeC, dropC, Cells.get?, keepE, readsOf, opds, tmpsOf, Env.get_cons, wantedA, putE, g4]; rfl)).trans ?_
      refine (drawS rfl rfl (by simp [stillOp, valsOp, refOf, refV, oneH, exec, runOps, wantedA, stepOp, pureOp, allocOp, readOp, effOp, ev, evs, evO, Env.get_cons, putE, binA, intBin, unA, AV.fit, AV.toCells, partC, partP, mkCells, allP, mkAgg, Cells.len, target, evParts, fillA, AV.cells, splice, spliceC, finA, leaveA, resA, resV, ansV, idxA, lenA, takeC, dropC, Cells.get?, keepE, readsOf, opds, tmpsOf, Env.get_cons, wantedA, putE, g4]; rfl)).trans ?_
      refine (drawR rfl rfl (by simp [stillOp, valsOp, refOf, refV, oneH, exec, runOps, wantedA, stepOp, pureOp, allocOp, readOp, effOp, ev, evs, evO, Env.get_cons, putE, binA, intBin, unA, AV.fit, AV.toCells, partC, partP, mkCells, allP, mkAgg, Cells.len, target, takeC, dropC, Cells.get?, keepE, readsOf, opds, tmpsOf, Env.get_cons, wantedA, putE, g4]; exact ⟨rfl, rfl⟩)).trans ?_
      refine (drawS rfl rfl (by simp [stillOp, valsOp, refOf, refV, oneH, exec, runOps, wantedA, stepOp, pureOp, allocOp, readOp, effOp, ev, evs, evO, Env.get_cons, putE, binA, intBin, unA, AV.fit, AV.toCells, partC, partP, mkCells, allP, mkAgg, Cells.len, target, evParts, fillA, AV.cells, splice, spliceC, finA, leaveA, resA, resV, ansV, idxA, lenA, takeC, dropC, Cells.get?, keepE, readsOf, opds, tmpsOf, Env.get_cons, wantedA, putE, g4]; rfl)).trans ?_
      refine (drawS rfl rfl (by simp [stillOp, valsOp, refOf, refV, oneH, exec, runOps, wantedA, stepOp, pureOp, allocOp, readOp, effOp, ev, evs, evO, Env.get_cons, putE, binA, intBin, unA, AV.fit, AV.toCells, partC, partP, mkCells, allP, mkAgg, Cells.len, target, evParts, fillA, AV.cells, splice, spliceC, finA, leaveA, resA, resV, ansV, idxA, lenA, takeC, dropC, Cells.get?, keepE, readsOf, opds, tmpsOf, Env.get_cons, wantedA, putE, g4]; rfl)).trans ?_
      refine (drawE rfl rfl (by simp [exec, runOps, wantedA, stepOp, pureOp, allocOp, readOp, effOp, ev, evs, evO, Env.get_cons, putE, binA, intBin, unA, AV.fit, AV.toCells, partC, partP, mkCells, allP, mkAgg, Cells.len, target, evParts, fillA, AV.cells, splice, spliceC, finA, leaveA, resA, resV, ansV, keepE, readsOf, opds, tmpsOf, Env.get_cons, wantedA, putE, repCells, elemsA, takeC, dropC, Cells.toList, g4]; rfl) (by simp [carry, keepE, readsOf, opds, tmpsOf, Env.get_cons, wantedA, putE]; rfl) (by simp [wrIds, refV, keepE, readsOf, opds, tmpsOf, Env.get_cons, wantedA, putE, ev, evs, target, touchF, touch, collect, idsL, idsV, idsO, g4]; rfl)).trans ?_
      refine (drawE rfl rfl (by simp [exec, runOps, wantedA, stepOp, pureOp, allocOp, readOp, effOp, ev, evs, evO, Env.get_cons, putE, binA, intBin, unA, AV.fit, AV.toCells, partC, partP, mkCells, allP, mkAgg, Cells.len, target, evParts, fillA, AV.cells, splice, spliceC, finA, leaveA, resA, resV, ansV, keepE, readsOf, opds, tmpsOf, Env.get_cons, wantedA, putE, repCells, elemsA, takeC, dropC, Cells.toList, g4]; rfl) (by simp [carry, keepE, readsOf, opds, tmpsOf, Env.get_cons, wantedA, putE]; rfl) (by simp [wrIds, refV, keepE, readsOf, opds, tmpsOf, Env.get_cons, wantedA, putE, ev, evs, target, touchF, touch, collect, idsL, idsV, idsO, g4]; rfl)).trans ?_
      refine (drawE rfl rfl (by simp [exec, runOps, wantedA, stepOp, pureOp, allocOp, readOp, effOp, ev, evs, evO, Env.get_cons, putE, binA, intBin, unA, AV.fit, AV.toCells, partC, partP, mkCells, allP, mkAgg, Cells.len, target, evParts, fillA, AV.cells, splice, spliceC, finA, leaveA, resA, resV, ansV, keepE, readsOf, opds, tmpsOf, Env.get_cons, wantedA, putE, repCells, elemsA, takeC, dropC, Cells.toList, g4]; rfl) (by simp [carry, keepE, readsOf, opds, tmpsOf, Env.get_cons, wantedA, putE]; rfl) (by simp [wrIds, refV, keepE, readsOf, opds, tmpsOf, Env.get_cons, wantedA, putE, ev, evs, target, touchF, touch, collect, idsL, idsV, idsO, g4]; rfl)).trans ?_
      refine (drawE rfl rfl (by simp [exec, runOps, wantedA, stepOp, pureOp, allocOp, readOp, effOp, ev, evs, evO, Env.get_cons, putE, binA, intBin, unA, AV.fit, AV.toCells, partC, partP, mkCells, allP, mkAgg, Cells.len, target, evParts, fillA, AV.cells, splice, spliceC, finA, leaveA, resA, resV, ansV, keepE, readsOf, opds, tmpsOf, Env.get_cons, wantedA, putE, repCells, elemsA, takeC, dropC, Cells.toList, g4]; rfl) (by simp [carry, keepE, readsOf, opds, tmpsOf, Env.get_cons, wantedA, putE]; rfl) (by simp [wrIds, refV, keepE, readsOf, opds, tmpsOf, Env.get_cons, wantedA, putE, ev, evs, target, touchF, touch, collect, idsL, idsV, idsO, g4]; rfl)).trans ?_
      exact rfl, by rfl, by rfl, by rfl, by rfl, by simp [putE, Env.get_cons, g2], by simp [putE, Env.get_cons, g3], by simp [putE, Env.get_cons, g6], by simp [putE, Env.get_cons], by simp [putE, Env.get_cons]⟩
/-- the sides change places -/
theorem swap23 (ρ : Env) (op s : Word) (n : Int) (t : T) (xo xs yo ys : Word) (xn yn : Int) (xl yl : List T) (g2 : ρ.get 2 = some (int 0)) (g3 : ρ.get 3 = some (.ptr 0 0 0)) (g6 : ρ.get 6 = some (.ptr 2 0 0)) (g8 : ρ.get 8 = some (.ptr 3 0 0)) (g9 : ρ.get 9 = some (.ptr 4 0 0))
    (hr : Marks.raw 30 = false) (OP : Word) (h30 : ∀ σ, C 30 [.p (.str op)] σ = some (.ret (.p (.str OP)), σ)) :
    ∃ ρ', exec C L n23_5_2t ⟨ρ, [], H23 k t op ++ [.arr (.pv (cells (.mk xo xs xn xl))) 0 0 (some 45), .arr (.pv (cells (.mk yo ys yn yl))) 0 0 (some 45)]⟩ =
      some (.normal, ⟨ρ', [], H23 k t OP ++ [.arr (.pv (cells (.mk yo ys yn yl))) 0 0 (some 45), .arr (.pv (cells (.mk xo xs xn xl))) 0 0 (some 45)]⟩) ∧
      ρ'.get 2 = some (int 0) ∧ ρ'.get 3 = some (.ptr 0 0 0) ∧ ρ'.get 6 = some (.ptr 2 0 0) ∧ ρ'.get 8 = some (.ptr 3 0 0) ∧ ρ'.get 9 = some (.ptr 4 0 0) := by
  have fin : (∃ s1 : Tr, drawRun C 0 (opsD n23_5_2t) ⟨⟨ρ, [], H23 k t op ++ [.arr (.pv (cells (.mk xo xs xn xl))) 0 0 (some 45), .arr (.pv (cells (.mk yo ys yn yl))) 0 0 (some 45)]⟩, [], []⟩ = some (none, s1) ∧ s1.rds = [(3, 2), (1, 3), (0, 4)] ∧
      s1.wrs = [(8, 5, [2]), (6, 5, [4]), (5, 5, [3]), (4, 5, [])] ∧ s1.st.defers = [] ∧
      s1.st.heap = H23 k t OP ++ [.arr (.pv (cells (.mk yo ys yn yl))) 0 0 (some 45), .arr (.pv (cells (.mk xo xs xn xl))) 0 0 (some 45)] ∧
      s1.st.env.get 2 = some (int 0) ∧ s1.st.env.get 3 = some (.ptr 0 0 0) ∧ s1.st.env.get 6 = some (.ptr 2 0 0) ∧ s1.st.env.get 8 = some (.ptr 3 0 0) ∧ s1.st.env.get 9 = some (.ptr 4 0 0)) →
      ∃ ρ', exec C L n23_5_2t ⟨ρ, [], H23 k t op ++ [.arr (.pv (cells (.mk xo xs xn xl))) 0 0 (some 45), .arr (.pv (cells (.mk yo ys yn yl))) 0 0 (some 45)]⟩ =
      some (.normal, ⟨ρ', [], H23 k t OP ++ [.arr (.pv (cells (.mk yo ys yn yl))) 0 0 (some 45), .arr (.pv (cells (.mk xo xs xn xl))) 0 0 (some 45)]⟩) ∧
      ρ'.get 2 = some (int 0) ∧ ρ'.get 3 = some (.ptr 0 0 0) ∧ ρ'.get 6 = some (.ptr 2 0 0) ∧ ρ'.get 8 = some (.ptr 3 0 0) ∧ ρ'.get 9 = some (.ptr 4 0 0) := by
    rintro ⟨⟨⟨ρ', d, σ'⟩, rds, wrs⟩, hr, h1, h2, h3, h4, hA⟩
    simp only at h1 h2 h3 h4
    subst h1 h2 h3 h4
    exact ⟨ρ', drawX hr (by kernel_rfl), hA⟩
  generalize cells t = ct at fin ⊢
  simp only [H23, cells] at fin ⊢
  exact fin ⟨_, by
      show drawRun C 0 (_ :: _) _ = _
      refine (drawR rfl rfl (by simp [stillOp, valsOp, refOf, refV, oneH, exec, runOps, wantedA, stepOp, pureOp, allocOp, readOp, effOp, ev, evs, evO, Env.get_cons, putE, binA, intBin, unA, AV.fit, AV.toCells, partC, partP, mkCells, allP, mkAgg, Cells.len, target, takeC, dropC, Cells.get?, keepE, readsOf, opds, tmpsOf, Env.get_cons, wantedA, putE, g6, g8, g9, hr, h30]; exact ⟨rfl, rfl⟩)).trans ?_
      refine (drawR rfl rfl (by simp [stillOp, valsOp, refOf, refV, oneH, exec, runOps, wantedA, stepOp, pureOp, allocOp, readOp, effOp, ev, evs, evO, Env.get_cons, putE, binA, intBin, unA, AV.fit, AV.toCells, partC, partP, mkCells, allP, mkAgg, Cells.len, target, takeC, dropC, Cells.get?, keepE, readsOf, opds, tmpsOf, Env.get_cons, wantedA, putE, g6, g8, g9, hr, h30]; exact ⟨rfl, rfl⟩)).trans ?_
      refine (drawS rfl rfl (by simp [stillOp, valsOp, refOf, refV, oneH, exec, runOps, wantedA, stepOp, pureOp, allocOp, readOp, effOp, ev, evs, evO, Env.get_cons, putE, binA, intBin, unA, AV.fit, AV.toCells, partC, partP, mkCells, allP, mkAgg, Cells.len, target, evParts, fillA, AV.cells, splice, spliceC, finA, leaveA, resA, resV, ansV, idxA, lenA, takeC, dropC, Cells.get?, keepE, readsOf, opds, tmpsOf, Env.get_cons, wantedA, putE, g6, g8, g9, hr, h30]; rfl)).trans ?_
      refine (drawR rfl rfl (by simp [stillOp, valsOp, refOf, refV, oneH, exec, runOps, wantedA, stepOp, pureOp, allocOp, readOp, effOp, ev, evs, evO, Env.get_cons, putE, binA, intBin, unA, AV.fit, AV.toCells, partC, partP, mkCells, allP, mkAgg, Cells.len, target, takeC, dropC, Cells.get?, keepE, readsOf, opds, tmpsOf, Env.get_cons, wantedA, putE, g6, g8, g9, hr, h30]; exact ⟨rfl, rfl⟩)).trans ?_
      refine (drawE rfl rfl (by simp [exec, runOps, wantedA, stepOp, pureOp, allocOp, readOp, effOp, ev, evs, evO, Env.get_cons, putE, binA, intBin, unA, AV.fit, AV.toCells, partC, partP, mkCells, allP, mkAgg, Cells.len, target, evParts, fillA, AV.cells, splice, spliceC, finA, leaveA, resA, resV, ansV, keepE, readsOf, opds, tmpsOf, Env.get_cons, wantedA, putE, repCells, elemsA, takeC, dropC, Cells.toList, g6, g8, g9, hr, h30]; rfl) (by simp [carry, keepE, readsOf, opds, tmpsOf, Env.get_cons, wantedA, putE]; rfl) (by simp [wrIds, refV, keepE, readsOf, opds, tmpsOf, Env.get_cons, wantedA, putE, ev, evs, target, touchF, touch, collect, idsL, idsV, idsO, g6, g8, g9, hr, h30]; rfl)).trans ?_
      refine (drawE rfl rfl (by simp [exec, runOps, wantedA, stepOp, pureOp, allocOp, readOp, effOp, ev, evs, evO, Env.get_cons, putE, binA, intBin, unA, AV.fit, AV.toCells, partC, partP, mkCells, allP, mkAgg, Cells.len, target, evParts, fillA, AV.cells, splice, spliceC, finA, leaveA, resA, resV, ansV, keepE, readsOf, opds, tmpsOf, Env.get_cons, wantedA, putE, repCells, elemsA, takeC, dropC, Cells.toList, g6, g8, g9, hr, h30]; rfl) (by simp [carry, keepE, readsOf, opds, tmpsOf, Env.get_cons, wantedA, putE]; rfl) (by simp [wrIds, refV, keepE, readsOf, opds, tmpsOf, Env.get_cons, wantedA, putE, ev, evs, target, touchF, touch, collect, idsL, idsV, idsO, g6, g8, g9, hr, h30]; rfl)).trans ?_
      refine (drawE rfl rfl (by simp [exec, runOps, wantedA, stepOp, pureOp, allocOp, readOp, effOp, ev, evs, evO, Env.get_cons, putE, binA, intBin, unA, AV.fit, AV.toCells, partC, partP, mkCells, allP, mkAgg, Cells.len, target, evParts, fillA, AV.cells, splice, spliceC, finA, leaveA, resA, resV, ansV, keepE, readsOf, opds, tmpsOf, Env.get_cons, wantedA, putE, repCells, elemsA, takeC, dropC, Cells.toList, g6, g8, g9, hr, h30]; rfl) (by simp [carry, keepE, readsOf, opds, tmpsOf, Env.get_cons, wantedA, putE]; rfl) (by simp [wrIds, refV, keepE, readsOf, opds, tmpsOf, Env.get_cons, wantedA, putE, ev, evs, target, touchF, touch, collect, idsL, idsV, idsO, g6, g8, g9, hr, h30]; rfl)).trans ?_
      refine (drawS rfl rfl (by simp [stillOp, valsOp, refOf, refV, oneH, exec, runOps, wantedA, stepOp, pureOp, allocOp, readOp, effOp, ev, evs, evO, Env.get_cons, putE, binA, intBin, unA, AV.fit, AV.toCells, partC, partP, mkCells, allP, mkAgg, Cells.len, target, evParts, fillA, AV.cells, splice, spliceC, finA, leaveA, resA, resV, ansV, idxA, lenA, takeC, dropC, Cells.get?, keepE, readsOf, opds, tmpsOf, Env.get_cons, wantedA, putE, g6, g8, g9, hr, h30]; rfl)).trans ?_
      refine (drawE rfl rfl (by simp [exec, runOps, wantedA, stepOp, pureOp, allocOp, readOp, effOp, ev, evs, evO, Env.get_cons, putE, binA, intBin, unA, AV.fit, AV.toCells, partC, partP, mkCells, allP, mkAgg, Cells.len, target, evParts, fillA, AV.cells, splice, spliceC, finA, leaveA, resA, resV, ansV, keepE, readsOf, opds, tmpsOf, Env.get_cons, wantedA, putE, repCells, elemsA, takeC, dropC, Cells.toList, g6, g8, g9, hr, h30]; rfl) (by simp [carry, keepE, readsOf, opds, tmpsOf, Env.get_cons, wantedA, putE]; rfl) (by simp [wrIds, refV, keepE, readsOf, opds, tmpsOf, Env.get_cons, wantedA, putE, ev, evs, target, touchF, touch, collect, idsL, idsV, idsO, g6, g8, g9, hr, h30]; rfl)).trans ?_
      exact rfl, by rfl, by rfl, by rfl, by rfl, by simp [putE, Env.get_cons, g2], by simp [putE, Env.get_cons, g3], by simp [putE, Env.get_cons, g6], by simp [putE, Env.get_cons, g8], by simp [putE, Env.get_cons, g9]⟩
theorem At23.of (ρ : Env) (op xo xs : Word) (xn : Int) (xl : List T) (t y : T) (g2 : ρ.get 2 = some (int 0)) (g3 : ρ.get 3 = some (.ptr 0 0 0)) (g6 : ρ.get 6 = some (.ptr 2 0 0)) (g8 : ρ.get 8 = some (.ptr 3 0 0)) (g9 : ρ.get 9 = some (.ptr 4 0 0)) :
    At23 k ρ (H23 k t op ++ [.arr (.pv (cells (.mk xo xs xn xl))) 0 0 (some 45), .arr (.pv (cells y)) 0 0 (some 45)]) op xo xs xn (cellsL xl) xl.length zeroV := ⟨g2, g3, g6, g8, g9, rfl, rfl, rfl⟩
theorem run23 (t : T) (hok : okT t) (h30 : ∀ op σ, C 30 [.p (.str op)] σ = some (.ret (.p (.str (if isCmp op = true then flip op else []))), σ))
    (h31 : ∀ t, okT t → ∀ σ, C 31 [.p (node t)] σ = some (.ret (.p (.tup [.agg (litC (lit t)), .bool (lit t).isSome])), σ)) (hr : Marks.raw 32 = false) (hr30 : Marks.raw 30 = false) (hK : K32 C) :
    ∃ c b, ansV (runFunc C D L lit23 [.p (tbl k), .p (node t), int 0] []) = some (.tup [.agg c, .bool b]) ∧ Ok23 (read slT t) c b ∧ c.length = 6 := by
  have fin : ∀ (ρ : Env) (σ : Heap) c b, ρ.get 6 = some (.ptr 2 0 0) → ρ.get 7 = some (.p (.bool b)) → σ[2]? = some (.arr (.pv c) 0 0 (some 75)) → c.length = 6 → ansV (finX D lit23 (some (.ret, ⟨ρ, [], σ⟩))) = some (.tup [.agg c, .bool b]) := by
    intro ρ σ c b g6 g7 o2 hl
    have ht : c.take 6 = c := List.take_of_length_le (by omega)
    simp [finX, finA, mixed, leaveA, lit23, resA, g6, g7, o2, takeC, dropC, Cells.len, hl, ht, resV, mkTup, allP, ansV, partC, partP, mkAgg]
  cases t with
  | mk op s n l =>
    obtain ⟨ρ1, ex, e1, hex, g2, g3, g4, g6, g7⟩ := front23 C L k op s n l h30
    rw [runFunc_eq, lit23_tree]
    unfold n23
    rw [seq_assoc, seq_assoc]
    have e1' : exec C L (.seq (.seq n23_1 n23_2) n23_3) ⟨params 0 [.p (tbl k), .p (node (.mk op s n l)), int 0], [], []⟩ = some (ex, ⟨ρ1, [], H23 k (.mk op s n l) op⟩) := e1
    by_cases hc : isCmp op = true ∧ l.length = 2
    · rw [if_pos hc] at hex
      subst hex
      rw [seqN e1']
      obtain ⟨hc, hl⟩ := hc
      match l, hl with
      | [.mk xo xs xn xl, .mk yo ys yn yl], _ =>
        have hx : okT (.mk xo xs xn xl) := hok.2.1
        have hy : okT (.mk yo ys yn yl) := hok.2.2.1
        obtain ⟨ρ2, e2, a2, a3, a6, a8, a9⟩ := sides23 C L k ρ1 op s n xo xs yo ys xn yn xl yl g2 g3 g4 g6
        rw [seqN e2, read_two, if_pos hc]
        by_cases hs : xo = [115, 108, 111, 116]
        · have e5 : exec C L n23_5 ⟨ρ2, [], H23 k (.mk op s n [.mk xo xs xn xl, .mk yo ys yn yl]) op ++ [.arr (.pv (cells (.mk xo xs xn xl))) 0 0 (some 45), .arr (.pv (cells (.mk yo ys yn yl))) 0 0 (some 45)]⟩ =
              some (.normal, ⟨(34, .p (.bool false)) :: (33, .p (.str xo)) :: (32, .ptr 3 0 0) :: ρ2, [], H23 k (.mk op s n [.mk xo xs xn xl, .mk yo ys yn yl]) op ++ [.arr (.pv (cells (.mk xo xs xn xl))) 0 0 (some 45), .arr (.pv (cells (.mk yo ys yn yl))) 0 0 (some 45)]⟩) := by
            subst hs
            simp [n23_5, n23_5_1, n23_5_2, exec, runOps, wantedA, stepOp, pureOp, allocOp, readOp, effOp, ev, evs, evO, Env.get_cons, putE, binA, intBin, unA, AV.fit, AV.toCells, partC, partP, mkCells, allP, mkAgg, Cells.len, target, strBin, a8, H23, cells, Cells.get?]
          rw [seqN e5]
          obtain ⟨ρ', σ', c, b, e, q6, q7, q2, hO, hcl⟩ := tail23 C L k _ _ op xo xs xn xl (.mk yo ys yn yl) hy (At23.of k ((34, .p (.bool false)) :: (33, .p (.str xo)) :: (32, .ptr 3 0 0) :: ρ2) op xo xs xn xl (.mk op s n [.mk xo xs xn xl, .mk yo ys yn yl]) (.mk yo ys yn yl) a2 a3 a6 a8 a9) rfl h31 hr hK
          rw [e]
          refine ⟨c, b, fin ρ' σ' c b q6 q7 q2 hcl, ?_, hcl⟩
          rw [if_pos (show (T.mk xo xs xn xl).op = wSlot from hs)]
          rw [said_slot (x := .mk xo xs xn xl) hs] at hO
          exact hO
        · have h30' : ∀ σ, C 30 [.p (.str op)] σ = some (.ret (.p (.str (flip op))), σ) := by
            intro σ
            have := h30 op σ
            rwa [if_pos hc] at this
          obtain ⟨ρ3, e3, b2, b3, b6, b8, b9⟩ := swap23 C L k ((34, .p (.bool true)) :: (33, .p (.str xo)) :: (32, .ptr 3 0 0) :: ρ2) op s n (.mk op s n [.mk xo xs xn xl, .mk yo ys yn yl]) xo xs yo ys xn yn xl yl a2 a3 a6 a8 a9 hr30 (flip op) h30'
          have hb := ne_beq hs
          have e5 : exec C L n23_5 ⟨ρ2, [], H23 k (.mk op s n [.mk xo xs xn xl, .mk yo ys yn yl]) op ++ [.arr (.pv (cells (.mk xo xs xn xl))) 0 0 (some 45), .arr (.pv (cells (.mk yo ys yn yl))) 0 0 (some 45)]⟩ =
              some (.normal, ⟨ρ3, [], H23 k (.mk op s n [.mk xo xs xn xl, .mk yo ys yn yl]) (flip op) ++ [.arr (.pv (cells (.mk yo ys yn yl))) 0 0 (some 45), .arr (.pv (cells (.mk xo xs xn xl))) 0 0 (some 45)]⟩) := by
            unfold n23_5
            rw [seqN (st1 := ⟨(34, .p (.bool true)) :: (33, .p (.str xo)) :: (32, .ptr 3 0 0) :: ρ2, [], H23 k (.mk op s n [.mk xo xs xn xl, .mk yo ys yn yl]) op ++ [.arr (.pv (cells (.mk xo xs xn xl))) 0 0 (some 45), .arr (.pv (cells (.mk yo ys yn yl))) 0 0 (some 45)]⟩) (by simp [n23_5_1, exec, runOps, wantedA, stepOp, pureOp, allocOp, readOp, effOp, ev, evs, evO, Env.get_cons, putE, binA, intBin, unA, AV.fit, AV.toCells, partC, partP, mkCells, allP, mkAgg, Cells.len, target, strBin, a8, H23, cells, Cells.get?, hb])]
            unfold n23_5_2
            rw [condT rfl, e3]
          rw [seqN e5]
          obtain ⟨ρ', σ', c, b, e, q6, q7, q2, hO, hcl⟩ := tail23 C L k _ _ (flip op) yo ys yn yl (.mk xo xs xn xl) hx (At23.of k ρ3 (flip op) yo ys yn yl (.mk op s n [.mk xo xs xn xl, .mk yo ys yn yl]) (.mk xo xs xn xl) b2 b3 b6 b8 b9) rfl h31 hr hK
          rw [e]
          refine ⟨c, b, fin ρ' σ' c b q6 q7 q2 hcl, ?_, hcl⟩
          rw [if_neg (show ¬ (T.mk xo xs xn xl).op = wSlot from hs)]
          exact hO
    · rw [if_neg hc] at hex
      subst hex
      rw [seqR e1']
      refine ⟨_, false, fin ρ1 _ _ false g6 g7 rfl rfl, ?_, rfl⟩
      have hn : read slT (.mk op s n l) = none := by
        match l, hc with
        | [], _ => rfl
        | [_], _ => rfl
        | [x, y], hc =>
          rw [read_two]
          exact if_neg fun h => hc ⟨h, rfl⟩
        | _ :: _ :: _ :: _, _ => rfl
      rw [hn]
      exact ⟨rfl, rfl⟩
end
end Go.Ab.Turn
