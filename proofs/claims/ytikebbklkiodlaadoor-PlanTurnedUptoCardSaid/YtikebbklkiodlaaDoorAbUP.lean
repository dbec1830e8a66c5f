/- PlanTurned: a path of the first column's bounds: one clause. -/
import Derived.Test.YtikebbklkiodlaaDoorAbUM
set_option linter.unusedSectionVars false
set_option linter.unusedSimpArgs false
set_option linter.unusedVariables false
set_option maxRecDepth 1000000
namespace Go.Ab.Turn
open Go Go.Ab Go.Ab.Plan Go.Ab.Key Go.Ab.Cnt Go.Proofs
variable [Marks]
theorem less_le : ∀ x y : Word, (Op.bytesLess x y || x == y) = le x y
  | [], [] => rfl
  | [], _ :: _ => rfl
  | _ :: _, [] => rfl
  | a :: x, b :: y => by
    have ih := less_le x y
    unfold le Op.bytesLess
    by_cases h : a < b
    · simp [h]
    · by_cases h2 : b < a
      · have : a ≠ b := fun he => by subst he; exact h h2
        simp [h, h2, this]
      · have : a = b := UInt8.le_antisymm (UInt8.not_lt.1 h2) (UInt8.not_lt.1 h)
        subst this
        simp only [h, decide_false, beq_self_eq_true, Bool.true_and, Bool.false_or, if_false, List.cons_beq_cons]
        exact ih
theorem min_code (x y : Word) : (if (Op.bytesLess x y || x == y) = true then x else y) = minW x y := by
  rw [less_le]; rfl
theorem max_code (x y : Word) : (if (!(Op.bytesLess x y)) = true then x else y) = maxW x y := by
  have h := less_le x y
  unfold maxW
  rw [← h]
  cases hb : Op.bytesLess x y with
  | true => simp
  | false =>
    by_cases he : x = y
    · subst he; simp
    · simp [he]
def encV (v : Lit) : Word := encL [litV v]
def aboveV (v : Lit) : Word := encL [litV v] ++ [255]
/-- bounds as a path -/
abbrev bdC (B : Bd) : List PV := [.bool false, .str B.lo, .str B.hi, .bool false]
section
variable {C : Oracle} {L : Nat} {l : List Cl} {col i : Nat} {ρ : Env} {σ : Heap} {B : Bd}
structure At27 (l : List Cl) (col : Nat) (ρ : Env) (σ : Heap) (i : Nat) (B : Bd) : Prop where
  t1 : ρ.get 1 = some (int col)
  t4 : ρ.get 4 = some (.ptr 0 0 0)
  t5 : ρ.get 5 = some (.ptr 1 0 0)
  t6 : ρ.get 6 = some (.p (.bool B.some))
  t11 : ρ.get 11 = some (.p (.vsl (clsC l) l.length))
  t12 : ρ.get 12 = some (int l.length)
  t13 : ρ.get 13 = some (int i)
  o0 : σ[0]? = some (.arr (.pv path0) 0 0 (some 23))
  o1 : σ[1]? = some (.arr (.pv (bdC B)) 0 0 (some 23))
theorem stop27 (h : At27 l col ρ σ l.length B) : ∃ ρ', exec C L n27_3_2kb ⟨ρ, [], σ⟩ = some (.exit 0, ⟨ρ', [], σ⟩) ∧ ρ'.get 4 = some (.ptr 0 0 0) ∧ ρ'.get 5 = some (.ptr 1 0 0) ∧ ρ'.get 6 = some (.p (.bool B.some)) := by
  have t11 := h.t11
  generalize clsC l = cl at t11
  exact ⟨_, by simp [n27_3_2kb, n27_3_2kb_1, n27_3_2kb_2, exec, runOps, wantedA, stepOp, pureOp, allocOp, readOp, effOp, ev, evs, evO, Env.get_cons, putE, binA, intBin, unA, AV.fit, AV.toCells, partC, partP, mkCells, allP, mkAgg, Cells.len, target, h.t12, h.t13]; rfl, by simp [Env.get_cons, h.t4], by simp [Env.get_cons, h.t5], by simp [Env.get_cons, h.t6]⟩
/-- the clause taken -/
theorem take27 (h : At27 l col ρ σ i B) (c : Cl) (hc : l[i]? = some c) (a b c' d : PV) (ev4 : vc (litV c.v) = [a, b, c', d]) :
    ∃ ρ', exec C L (.seq (.seq n27_3_2kb_1 n27_3_2kb_2) n27_3_2kb_3k_1) ⟨ρ, [], σ⟩ = some (.normal, ⟨ρ', [], σ ++ [.arr (.pv [.int .i64 (c.col : Int), .str c.op, a, b, c', d]) 0 0 (some 75)]⟩) ∧
      ρ'.get 8 = some (.ptr σ.length 0 0) ∧ At27 l col ρ' (σ ++ [.arr (.pv [.int .i64 (c.col : Int), .str c.op, a, b, c', d]) 0 0 (some 75)]) i B := by
  have hi : i < l.length := (List.getElem?_eq_some_iff.1 hc).1
  have hi' : (i : Int) < (l.length : Int) := by omega
  have d1 := clsC_at l i c hc
  have d3 : 6 ≤ (clsC l).length - i * 6 := by rw [clsC_len]; omega
  have d4 : i * 6 + 6 ≤ (clsC l).length := by rw [clsC_len]; omega
  have hl0 : 1 < σ.length := (List.getElem?_eq_some_iff.1 h.o1).1
  obtain ⟨t1, t4, t5, t6, t11, t12, t13, o0, o1⟩ := h
  have key : ∃ ρ', exec C L (.seq (.seq n27_3_2kb_1 n27_3_2kb_2) n27_3_2kb_3k_1) ⟨ρ, [], σ⟩ = some (.normal, ⟨ρ', [], σ ++ [.arr (.pv [.int .i64 (c.col : Int), .str c.op, a, b, c', d]) 0 0 (some 75)]⟩) ∧
      ρ'.get 8 = some (.ptr σ.length 0 0) ∧ (∀ t, t ≠ 8 → t ≠ 14 → t ≠ 15 → t ≠ 16 → ρ'.get t = ρ.get t) := by
    simp only [clC, ev4] at d1
    generalize clsC l = cl at t11 d1 d3 d4
    exact ⟨_, by simp [n27_3_2kb_1, n27_3_2kb_2, n27_3_2kb_3k_1, exec, runOps, wantedA, stepOp, pureOp, allocOp, readOp, effOp, ev, evs, evO, Env.get_cons, putE, binA, intBin, unA, AV.fit, AV.toCells, partC, partP, mkCells, allP, mkAgg, Cells.len, target, evParts, fillA, AV.cells, splice, spliceC, finA, leaveA, resA, resV, ansV, idxA, takeC, dropC, Cells.toList, t11, t12, t13, hi, hi', d1, d3, d4]; rfl, by simp [Env.get_cons], fun t h1 h2 h3 h4 => by simp [Env.get_cons, Ne.symm h1, Ne.symm h2, Ne.symm h3, Ne.symm h4]⟩
  obtain ⟨ρ', e, g8, g⟩ := key
  exact ⟨ρ', e, g8, ⟨(g 1 (by decide) (by decide) (by decide) (by decide)).trans t1, (g 4 (by decide) (by decide) (by decide) (by decide)).trans t4, (g 5 (by decide) (by decide) (by decide) (by decide)).trans t5, (g 6 (by decide) (by decide) (by decide) (by decide)).trans t6,
    (g 11 (by decide) (by decide) (by decide) (by decide)).trans t11, (g 12 (by decide) (by decide) (by decide) (by decide)).trans t12, (g 13 (by decide) (by decide) (by decide) (by decide)).trans t13, by rw [List.getElem?_append_left (by omega)]; exact o0, by rw [List.getElem?_append_left (by omega)]; exact o1⟩⟩
/-- is it to be passed by? -/
theorem skip27 (h : At27 l col ρ σ i B) (c : Cl) (a b c' d : PV) (p : Nat) (h8 : ρ.get 8 = some (.ptr p 0 0)) (ho : σ[p]? = some (.arr (.pv [.int .i64 (c.col : Int), .str c.op, a, b, c', d]) 0 0 (some 75))) :
    ∃ ρ' ex, exec C L n27_3_2kb_3k_2 ⟨ρ, [], σ⟩ = some (ex, ⟨ρ', [], σ⟩) ∧ ex = (if c.col ≠ col ∨ c.op = wEq then .exit 1 else .normal) ∧ ρ'.get 8 = some (.ptr p 0 0) ∧ At27 l col ρ' σ i B := by
  obtain ⟨t1, t4, t5, t6, t11, t12, t13, o0, o1⟩ := h
  have key : ∃ ρ' ex, exec C L n27_3_2kb_3k_2 ⟨ρ, [], σ⟩ = some (ex, ⟨ρ', [], σ⟩) ∧ ex = (if c.col ≠ col ∨ c.op = wEq then .exit 1 else .normal) ∧ (∀ t, t < 17 → ρ'.get t = ρ.get t) := by
    by_cases h1 : c.col = col
    · have hb : ((c.col : Int) != (col : Int)) = false := by rw [h1]; simp
      by_cases h2 : c.op = [61]
      · refine ⟨_, .exit 1, by simp [n27_3_2kb_3k_2, n27_3_2kb_3k_2_1, n27_3_2kb_3k_2_2, exec, runOps, wantedA, stepOp, pureOp, allocOp, readOp, effOp, ev, evs, evO, Env.get_cons, putE, binA, intBin, unA, AV.fit, AV.toCells, partC, partP, mkCells, allP, mkAgg, Cells.len, target, strBin, Cells.get?, h8, t1, ho, hb, h2]; rfl, (if_pos (.inr h2)).symm, fun t ht => ?_⟩
        have : ∀ j, 17 ≤ j → ¬ j = t := fun j hj he => by omega
        simp [Env.get_cons, this]
      · have hb2 := ne_beq h2
        refine ⟨_, .normal, by simp [n27_3_2kb_3k_2, n27_3_2kb_3k_2_1, n27_3_2kb_3k_2_2, exec, runOps, wantedA, stepOp, pureOp, allocOp, readOp, effOp, ev, evs, evO, Env.get_cons, putE, binA, intBin, unA, AV.fit, AV.toCells, partC, partP, mkCells, allP, mkAgg, Cells.len, target, strBin, Cells.get?, h8, t1, ho, hb, hb2]; rfl, (if_neg (by rintro (h | h); exact h h1; exact h2 h)).symm, fun t ht => ?_⟩
        have : ∀ j, 17 ≤ j → ¬ j = t := fun j hj he => by omega
        simp [Env.get_cons, this]
    · have hb : ((c.col : Int) != (col : Int)) = true := bne_iff_ne.2 (by omega)
      refine ⟨_, .exit 1, by simp [n27_3_2kb_3k_2, n27_3_2kb_3k_2_1, n27_3_2kb_3k_2_2, exec, runOps, wantedA, stepOp, pureOp, allocOp, readOp, effOp, ev, evs, evO, Env.get_cons, putE, binA, intBin, unA, AV.fit, AV.toCells, partC, partP, mkCells, allP, mkAgg, Cells.len, target, strBin, Cells.get?, h8, t1, ho, hb]; rfl, (if_pos (.inl h1)).symm, fun t ht => ?_⟩
      have : ∀ j, 17 ≤ j → ¬ j = t := fun j hj he => by omega
      simp [Env.get_cons, this]
  obtain ⟨ρ', ex, e, hex, g⟩ := key
  exact ⟨ρ', ex, e, hex, (g 8 (by decide)).trans h8, ⟨(g 1 (by decide)).trans t1, (g 4 (by decide)).trans t4, (g 5 (by decide)).trans t5, (g 6 (by decide)).trans t6, (g 11 (by decide)).trans t11, (g 12 (by decide)).trans t12, (g 13 (by decide)).trans t13, o0, o1⟩⟩
end
end Go.Ab.Turn

/- PlanTurned: a path of the first column's bounds: how a clause changes them. -/
set_option maxRecDepth 1000000
namespace Go.Ab.Turn
open Go Go.Ab Go.Ab.Plan Go.Ab.Key Go.Ab.Cnt Go.Proofs
variable [Marks]
/-- what is asked of Encode of one value, and of Above -/
structure E27 (C : Oracle) (l : List Cl) : Prop where
  enc : ∀ c ∈ l, ∀ σ id, σ[id]? = some (.arr (.pv (vc (litV c.v))) 0 0 none) → ∃ σ', C 26 [.sl id 0 0 1 4] σ = some (.ret (.p (.str (encV c.v))), σ') ∧ σ'.length = σ.length ∧ ∀ j, j ≠ id → σ'[j]? = σ[j]?
  abv : ∀ c ∈ l, ∀ σ, C 28 [.p (.str (encV c.v))] σ = some (.ret (.p (.str (aboveV c.v))), σ)
section
variable {C : Oracle} {L : Nat} {l : List Cl} {col i : Nat} {ρ : Env} {σ : Heap} {B : Bd}
theorem code27 (h : At27 l col ρ σ i B) (c : Cl) (hm : c ∈ l) (hE : E27 C l) (a b c' d : PV) (ev4 : vc (litV c.v) = [a, b, c', d]) (p : Nat) (h8 : ρ.get 8 = some (.ptr p 0 0)) (ho : σ[p]? = some (.arr (.pv [.int .i64 (c.col : Int), .str c.op, a, b, c', d]) 0 0 (some 75))) :
    ∃ ρ' σ', exec C L (.seq n27_3_2kb_3k_3 n27_3_2kb_3k_4) ⟨ρ, [], σ⟩ = some (.normal, ⟨ρ', [], σ'⟩) ∧ ρ'.get 8 = some (.ptr p 0 0) ∧ ρ'.get 9 = some (.p (.str (encV c.v))) ∧ σ'[p]? = some (.arr (.pv [.int .i64 (c.col : Int), .str c.op, a, b, c', d]) 0 0 (some 75)) ∧
      At27 l col ρ' σ' i ⟨B.lo, B.hi, true⟩ := by
  obtain ⟨t1, t4, t5, t6, t11, t12, t13, o0, o1⟩ := h
  have hp : p < σ.length := (List.getElem?_eq_some_iff.1 ho).1
  have hl0 : 1 < σ.length := (List.getElem?_eq_some_iff.1 o1).1
  have hg : (σ ++ [Obj.arr (.pv [a, b, c', d]) 0 0 none])[σ.length]? = some (.arr (.pv (vc (litV c.v))) 0 0 none) := by rw [ev4]; simp
  obtain ⟨σ', hC, hlen, hold⟩ := hE.enc c hm _ _ hg
  have keep : ∀ j, j < σ.length → σ'[j]? = σ[j]? := fun j hj => by rw [hold j (by omega), List.getElem?_append_left hj]
  have key : ∃ ρ', exec C L (.seq n27_3_2kb_3k_3 n27_3_2kb_3k_4) ⟨ρ, [], σ⟩ = some (.normal, ⟨ρ', [], σ'⟩) ∧ ρ'.get 9 = some (.p (.str (encV c.v))) ∧ ρ'.get 6 = some (.p (.bool true)) ∧ (∀ t, t < 17 → t ≠ 6 → t ≠ 9 → ρ'.get t = ρ.get t) := by
    refine ⟨_, by simp [n27_3_2kb_3k_3, n27_3_2kb_3k_4, exec, runOps, wantedA, stepOp, pureOp, allocOp, readOp, effOp, ev, evs, evO, Env.get_cons, putE, binA, intBin, unA, AV.fit, AV.toCells, partC, partP, mkCells, allP, mkAgg, Cells.len, target, evParts, fillA, AV.cells, splice, spliceC, finA, leaveA, resA, resV, ansV, repCells, takeC, dropC, Cells.get?, h8, ho, hC]; rfl, by simp [Env.get_cons], by simp [Env.get_cons], fun t ht h6 h9 => ?_⟩
    have : ∀ j, 17 ≤ j → ¬ j = t := fun j hj he => by omega
    simp [Env.get_cons, this, Ne.symm h6, Ne.symm h9]
  obtain ⟨ρ', e, g9, g6, g⟩ := key
  exact ⟨ρ', σ', e, (g 8 (by decide) (by decide) (by decide)).trans h8, g9, by rw [keep p hp]; exact ho, ⟨(g 1 (by decide) (by decide) (by decide)).trans t1, (g 4 (by decide) (by decide) (by decide)).trans t4, (g 5 (by decide) (by decide) (by decide)).trans t5, g6, (g 11 (by decide) (by decide) (by decide)).trans t11,
    (g 12 (by decide) (by decide) (by decide)).trans t12, (g 13 (by decide) (by decide) (by decide)).trans t13, by rw [keep 0 (by omega)]; exact o0, by rw [keep 1 hl0]; exact o1⟩⟩
/-- the lower bound -/
theorem low27 (h : At27 l col ρ σ i B) (w : Word) (h9 : ρ.get 9 = some (.p (.str w))) :
    ∃ ρ', exec C L n27_3_2kb_3k_6t ⟨ρ, [], σ⟩ = some (.normal, ⟨ρ', [], σ.set 1 (.arr (.pv (bdC ⟨maxW B.lo w, B.hi, B.some⟩)) 0 0 (some 23))⟩) ∧ At27 l col ρ' (σ.set 1 (.arr (.pv (bdC ⟨maxW B.lo w, B.hi, B.some⟩)) 0 0 (some 23))) i ⟨maxW B.lo w, B.hi, B.some⟩ := by
  obtain ⟨t1, t4, t5, t6, t11, t12, t13, o0, o1⟩ := h
  have hl0 : 1 < σ.length := (List.getElem?_eq_some_iff.1 o1).1
  have hmx : maxA true (.p (.str B.lo)) [.p (.str w)] = some (.p (.str (maxW B.lo w))) := by
    rw [← max_code]; rfl
  generalize maxW B.lo w = v at hmx ⊢
  have key : ∃ ρ', exec C L n27_3_2kb_3k_6t ⟨ρ, [], σ⟩ = some (.normal, ⟨ρ', [], σ.set 1 (.arr (.pv (bdC ⟨v, B.hi, B.some⟩)) 0 0 (some 23))⟩) ∧ (∀ t, t < 17 → ρ'.get t = ρ.get t) := by
    refine ⟨_, by simp [n27_3_2kb_3k_6t, exec, runOps, wantedA, stepOp, pureOp, allocOp, readOp, effOp, ev, evs, evO, Env.get_cons, putE, binA, intBin, unA, AV.fit, AV.toCells, partC, partP, mkCells, allP, mkAgg, Cells.len, target, evParts, fillA, AV.cells, splice, spliceC, finA, leaveA, resA, resV, ansV, Cells.get?, Cells.toList, t5, h9, o1, hmx]; rfl, fun t ht => ?_⟩
    have : ∀ j, 17 ≤ j → ¬ j = t := fun j hj he => by omega
    simp [Env.get_cons, this]
  obtain ⟨ρ', e, g⟩ := key
  exact ⟨ρ', e, ⟨(g 1 (by decide)).trans t1, (g 4 (by decide)).trans t4, (g 5 (by decide)).trans t5, (g 6 (by decide)).trans t6, (g 11 (by decide)).trans t11, (g 12 (by decide)).trans t12, (g 13 (by decide)).trans t13, by rw [List.getElem?_set_ne (by decide)]; exact o0, List.getElem?_set_self hl0⟩⟩
/-- the upper bound -/
theorem high27 (h : At27 l col ρ σ i B) (w u : Word) (h9 : ρ.get 9 = some (.p (.str w))) (hr : Marks.raw 28 = false) (hC : ∀ σ, C 28 [.p (.str w)] σ = some (.ret (.p (.str u)), σ)) :
    ∃ ρ', exec C L n27_3_2kb_3k_6e ⟨ρ, [], σ⟩ = some (.normal, ⟨ρ', [], σ.set 1 (.arr (.pv (bdC ⟨B.lo, minW B.hi u, B.some⟩)) 0 0 (some 23))⟩) ∧ At27 l col ρ' (σ.set 1 (.arr (.pv (bdC ⟨B.lo, minW B.hi u, B.some⟩)) 0 0 (some 23))) i ⟨B.lo, minW B.hi u, B.some⟩ := by
  obtain ⟨t1, t4, t5, t6, t11, t12, t13, o0, o1⟩ := h
  have hl0 : 1 < σ.length := (List.getElem?_eq_some_iff.1 o1).1
  have hmx : maxA false (.p (.str B.hi)) [.p (.str u)] = some (.p (.str (minW B.hi u))) := by
    rw [← min_code]; rfl
  generalize minW B.hi u = v at hmx ⊢
  have fin : (∃ s1 : Tr, drawRun C 0 (opsD n27_3_2kb_3k_6e) ⟨⟨ρ, [], σ⟩, [], []⟩ = some (none, s1) ∧ s1.rds = [(1, 1)] ∧ (∃ k0 k1, s1.wrs = [(6, k1, [1]), (3, k0, [])] ∧ 1 < k0) ∧ s1.st.defers = [] ∧ s1.st.heap = σ.set 1 (.arr (.pv (bdC ⟨B.lo, v, B.some⟩)) 0 0 (some 23)) ∧ (∀ t, t < 17 → s1.st.env.get t = ρ.get t)) →
      ∃ ρ', exec C L n27_3_2kb_3k_6e ⟨ρ, [], σ⟩ = some (.normal, ⟨ρ', [], σ.set 1 (.arr (.pv (bdC ⟨B.lo, v, B.some⟩)) 0 0 (some 23))⟩) ∧ (∀ t, t < 17 → ρ'.get t = ρ.get t) := by
    rintro ⟨⟨⟨ρ', d, σ'⟩, rds, wrs⟩, hr, h1, ⟨k0, k1, h2, hk0⟩, h3, h4, hA⟩
    simp only at h1 h2 h3 h4
    subst h1 h2 h3 h4
    obtain ⟨m0, rfl⟩ : ∃ m, k0 = m + 2 := ⟨k0 - 2, by omega⟩
    exact ⟨ρ', drawX hr (by kernel_rfl), hA⟩
  obtain ⟨ρ', e, g⟩ := fin ⟨_, by
      show drawRun C 0 (_ :: _) _ = _
      refine (drawS rfl rfl (by simp [stillOp, valsOp, refOf, refV, oneH, exec, runOps, wantedA, stepOp, pureOp, allocOp, readOp, effOp, ev, evs, evO, Env.get_cons, putE, binA, intBin, unA, AV.fit, AV.toCells, partC, partP, mkCells, allP, mkAgg, Cells.len, target, evParts, fillA, AV.cells, splice, spliceC, finA, leaveA, resA, resV, ansV, idxA, lenA, takeC, dropC, Cells.get?, keepE, readsOf, opds, tmpsOf, Env.get_cons, wantedA, putE, t5, h9, o1, hr, hC, hmx]; rfl)).trans ?_
      refine (drawR rfl rfl (by simp [stillOp, valsOp, refOf, refV, oneH, exec, runOps, wantedA, stepOp, pureOp, allocOp, readOp, effOp, ev, evs, evO, Env.get_cons, putE, binA, intBin, unA, AV.fit, AV.toCells, partC, partP, mkCells, allP, mkAgg, Cells.len, target, takeC, dropC, Cells.get?, keepE, readsOf, opds, tmpsOf, Env.get_cons, wantedA, putE, t5, h9, o1, hr, hC, hmx]; exact ⟨rfl, rfl⟩)).trans ?_
      refine (drawS rfl rfl (by simp [stillOp, valsOp, refOf, refV, oneH, exec, runOps, wantedA, stepOp, pureOp, allocOp, readOp, effOp, ev, evs, evO, Env.get_cons, putE, binA, intBin, unA, AV.fit, AV.toCells, partC, partP, mkCells, allP, mkAgg, Cells.len, target, evParts, fillA, AV.cells, splice, spliceC, finA, leaveA, resA, resV, ansV, idxA, lenA, takeC, dropC, Cells.get?, keepE, readsOf, opds, tmpsOf, Env.get_cons, wantedA, putE, t5, h9, o1, hr, hC, hmx]; rfl)).trans ?_
      refine (drawE rfl rfl (by simp [exec, runOps, wantedA, stepOp, pureOp, allocOp, readOp, effOp, ev, evs, evO, Env.get_cons, putE, binA, intBin, unA, AV.fit, AV.toCells, partC, partP, mkCells, allP, mkAgg, Cells.len, target, evParts, fillA, AV.cells, splice, spliceC, finA, leaveA, resA, resV, ansV, keepE, readsOf, opds, tmpsOf, Env.get_cons, wantedA, putE, repCells, elemsA, takeC, dropC, Cells.toList, t5, h9, o1, hr, hC, hmx]; rfl) (by simp [carry, keepE, readsOf, opds, tmpsOf, Env.get_cons, wantedA, putE]; rfl) (by simp [wrIds, refV, keepE, readsOf, opds, tmpsOf, Env.get_cons, wantedA, putE, ev, evs, target, touchF, touch, collect, idsL, idsV, idsO, t5, h9, o1, hr, hC, hmx]; rfl)).trans ?_
      refine (drawS rfl rfl (by simp [stillOp, valsOp, refOf, refV, oneH, exec, runOps, wantedA, stepOp, pureOp, allocOp, readOp, effOp, ev, evs, evO, Env.get_cons, putE, binA, intBin, unA, AV.fit, AV.toCells, partC, partP, mkCells, allP, mkAgg, Cells.len, target, evParts, fillA, AV.cells, splice, spliceC, finA, leaveA, resA, resV, ansV, idxA, lenA, takeC, dropC, Cells.get?, keepE, readsOf, opds, tmpsOf, Env.get_cons, wantedA, putE, t5, h9, o1, hr, hC, hmx]; rfl)).trans ?_
      refine (drawS rfl rfl (by simp [stillOp, valsOp, refOf, refV, oneH, exec, runOps, wantedA, stepOp, pureOp, allocOp, readOp, effOp, ev, evs, evO, Env.get_cons, putE, binA, intBin, unA, AV.fit, AV.toCells, partC, partP, mkCells, allP, mkAgg, Cells.len, target, evParts, fillA, AV.cells, splice, spliceC, finA, leaveA, resA, resV, ansV, idxA, lenA, takeC, dropC, Cells.get?, keepE, readsOf, opds, tmpsOf, Env.get_cons, wantedA, putE, t5, h9, o1, hr, hC, hmx]; rfl)).trans ?_
      refine (drawE rfl rfl (by simp [exec, runOps, wantedA, stepOp, pureOp, allocOp, readOp, effOp, ev, evs, evO, Env.get_cons, putE, binA, intBin, unA, AV.fit, AV.toCells, partC, partP, mkCells, allP, mkAgg, Cells.len, target, evParts, fillA, AV.cells, splice, spliceC, finA, leaveA, resA, resV, ansV, keepE, readsOf, opds, tmpsOf, Env.get_cons, wantedA, putE, repCells, elemsA, takeC, dropC, Cells.toList, t5, h9, o1, hr, hC, hmx]; rfl) (by simp [carry, keepE, readsOf, opds, tmpsOf, Env.get_cons, wantedA, putE]; rfl) (by simp [wrIds, refV, keepE, readsOf, opds, tmpsOf, Env.get_cons, wantedA, putE, ev, evs, target, touchF, touch, collect, idsL, idsV, idsO, t5, h9, o1, hr, hC, hmx]; rfl)).trans ?_
      exact rfl, by rfl, ⟨_, _, by rfl, hl0⟩, by rfl, by rfl, fun t ht => by
      have : ∀ j, 17 ≤ j → ¬ j = t := fun j hj he => by omega
      simp [putE, Env.get_cons, this]⟩
  exact ⟨ρ', e, ⟨(g 1 (by decide)).trans t1, (g 4 (by decide)).trans t4, (g 5 (by decide)).trans t5, (g 6 (by decide)).trans t6, (g 11 (by decide)).trans t11, (g 12 (by decide)).trans t12, (g 13 (by decide)).trans t13, by rw [List.getElem?_set_ne (by decide)]; exact o0, List.getElem?_set_self hl0⟩⟩
end
end Go.Ab.Turn
