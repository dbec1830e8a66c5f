/- PlanTurned: the law, its first half. -/
import Derived.Test.YtikebbklkiodlaaDoorAbW1
set_option linter.unusedSectionVars false
set_option linter.unusedSimpArgs false
set_option linter.unusedVariables false
set_option maxRecDepth 1000000
namespace Go.Ab.Turn
open Go Go.Ab Go.Ab.Plan Go.Ab.Key Go.Ab.Cnt Go.Proofs
variable [Mx]
/-- what the law asks of the functions that it calls -/
structure E5 (C : Oracle) (x : List Int) (t : T) (k : List Nat) (K : Int) : Prop where
  parts : ∀ σ, C 14 [.p (node t), int 400] σ = some (.ret (int K), σ)
  keys : ∀ σ, C 16 [.p (.vsl (ints x) x.length)] σ = some (.ret (.p (.vsl (cols k) k.length)), σ)
  table : ∀ σ, C 15 [.p (.vsl (cols k) k.length)] σ = some (.ret (.p (tbl k)), σ)
  turn : ∀ σ, C 18 [.p (node t)] σ = some (.ret (.p (node (trn t))), σ)
  path : ∀ u, (u = t ∨ u = trn t ∨ u = both t) → ∀ σ id, σ[id]? = some (.arr (.pv (cells u)) 0 0 none) → C 17 [.p (tbl k), .sl id 0 0 1 4, int 0] σ = some (.ret (.p (.agg (pathP k (saidL (clauses t))))), σ.set id (.arr (.pv (cells u)) 0 4 none))
  alive : ∀ σ, C 11 [] σ = some (.ret (.p (.bool true)), σ)
section
variable {C : Oracle} {L : Nat} {x : List Int} {t : T} {k : List Nat} {K : Int}
theorem small5 (D : DOracle) (h : E5 C x t k K) (hK : 400 < K) : ansV (runFunc C D L lit5 [.p (.vsl (ints x) x.length), .p (node t)] []) = some (.bool true) := by
  have hcell : ∃ p q r s, cells t = [p, q, r, s] := by cases t; exact ⟨_, _, _, _, rfl⟩
  obtain ⟨p, q, r, s, ec⟩ := hcell
  have h1 := h.parts
  simp only [node, ec] at h1 ⊢
  rw [runFunc_eq, lit5_tree]
  simp [n5, n5_1, n5_2, n5_2_1, n5_2_2, params, exec, runOps, wantedA, stepOp, pureOp, allocOp, readOp, effOp, ev, evs, evO, Env.get_cons, putE, binA, intBin, unA, AV.fit, AV.toCells, partC, partP, mkCells, allP, mkAgg, Cells.len, target, evParts, fillA, AV.cells, splice, spliceC, finA, leaveA, resA, resV, ansV, finX, mixed, lit5, takeC, dropC, h1, hK, h.alive]
theorem first5 (h : E5 C x t k K) (hK : ¬ 400 < K) (a b c d : PV) (ep : pathP k (saidL (clauses t)) = [a, b, c, d]) :
    ∃ ρ, exec C L (.seq (.seq (.seq n5_1 n5_2) n5_3) n5_4) ⟨params 0 [.p (.vsl (ints x) x.length), .p (node t)], [], []⟩ = some (.normal, ⟨ρ, [], [.arr (.pv (cells t)) 0 0 none, .arr (.pv (tblC k)) 0 0 (some 51), .arr (.pv (cells t)) 0 4 none, .arr (.pv [a, b, c, d]) 0 0 (some 23)]⟩) ∧
      ρ.get 3 = some (.ptr 0 0 0) ∧ ρ.get 5 = some (.ptr 1 0 0) ∧ ρ.get 6 = some (.ptr 3 0 0) := by
  have hcell : ∃ p q r s, cells t = [p, q, r, s] := by cases t; exact ⟨_, _, _, _, rfl⟩
  obtain ⟨p, q, r, s, ec⟩ := hcell
  have h1 := h.parts
  have h2 := h.keys
  have h3 := h.table
  have h4 := h.path t (.inl rfl) [.arr (.pv (cells t)) 0 0 none, .arr (.pv (tblC k)) 0 0 (some 51), .arr (.pv (cells t)) 0 0 none] 2 rfl
  rw [ep] at h4
  simp only [node, ec, tbl, tblC] at h1 h2 h3 h4 ⊢
  generalize ints x = xs at h2 ⊢
  generalize cols k = ks at h2 h3 h4 ⊢
  exact ⟨_, by simp [n5_1, n5_2, n5_2_1, n5_2_2, n5_3, n5_4, params, exec, runOps, wantedA, stepOp, pureOp, allocOp, readOp, effOp, ev, evs, evO, Env.get_cons, putE, binA, intBin, unA, AV.fit, AV.toCells, partC, partP, mkCells, allP, mkAgg, Cells.len, target, evParts, fillA, AV.cells, splice, spliceC, finA, leaveA, resA, resV, ansV, repCells, Cells.toList, takeC, dropC, h1, hK, h2, h3, h4]; rfl, rfl, rfl, rfl⟩
end
end Go.Ab.Turn

/- PlanTurned: the law, its second half. -/
set_option maxRecDepth 1000000
namespace Go.Ab.Turn
open Go Go.Ab Go.Ab.Plan Go.Ab.Key Go.Ab.Cnt Go.Proofs
variable [Mx]
section
variable {C : Oracle} {L : Nat} {x : List Int} {t : T} {k : List Nat} {K : Int}
abbrev h5 (t : T) (k : List Nat) (a b c d : PV) : Heap := [.arr (.pv (cells t)) 0 0 none, .arr (.pv (tblC k)) 0 0 (some 51), .arr (.pv (cells t)) 0 4 none, .arr (.pv [a, b, c, d]) 0 0 (some 23)]
theorem second5 (h : E5 C x t k K) (a b c d : PV) (ep : pathP k (saidL (clauses t)) = [a, b, c, d]) (ρ : Env) (g3 : ρ.get 3 = some (.ptr 0 0 0)) (g5 : ρ.get 5 = some (.ptr 1 0 0)) (g6 : ρ.get 6 = some (.ptr 3 0 0)) :
    ∃ ρ', exec C L n5_5 ⟨ρ, [], h5 t k a b c d⟩ = some (.normal, ⟨ρ', [], h5 t k a b c d ++ [.arr (.pv (cells (trn t))) 0 4 none, .arr (.pv [a, b, c, d]) 0 0 (some 23)]⟩) ∧ ρ'.get 3 = some (.ptr 0 0 0) ∧ ρ'.get 5 = some (.ptr 1 0 0) ∧ ρ'.get 6 = some (.ptr 3 0 0) ∧ ρ'.get 7 = some (.ptr 5 0 0) := by
  have hcell : ∀ u : T, ∃ p q r s, cells u = [p, q, r, s] := fun u => by cases u; exact ⟨_, _, _, _, rfl⟩
  obtain ⟨p, q, r, s, ec⟩ := hcell t
  obtain ⟨p', q', r', s', ec'⟩ := hcell (trn t)
  have hC18 := h.turn
  have hC17 := h.path (trn t) (.inr (.inl rfl)) (h5 t k a b c d ++ [.arr (.pv (cells (trn t))) 0 0 none]) 4 rfl
  have r18 : Marks.raw 18 = false := by rfl
  have r17 : Marks.raw 17 = false := by rfl
  rw [ep] at hC17
  simp only [node, ec, ec', tbl, tblC, h5, List.cons_append, List.nil_append, List.set_cons_succ, List.set_cons_zero] at hC18 hC17 ⊢
  generalize cols k = ks at hC17 ⊢
  have fin : ∀ (H H' : Heap), (∃ s1 : Tr, drawRun C 0 (opsD n5_5) ⟨⟨ρ, [], H⟩, [], []⟩ = some (none, s1) ∧ okRW [0, 0, 2, 6, 15, 0, 63] (opsD n5_5) s1 = true ∧ s1.st.defers = [] ∧ s1.st.heap = H' ∧ s1.st.env.get 3 = some (.ptr 0 0 0) ∧ s1.st.env.get 5 = some (.ptr 1 0 0) ∧ s1.st.env.get 6 = some (.ptr 3 0 0) ∧ s1.st.env.get 7 = some (.ptr 5 0 0)) →
      ∃ ρ', exec C L n5_5 ⟨ρ, [], H⟩ = some (.normal, ⟨ρ', [], H'⟩) ∧ ρ'.get 3 = some (.ptr 0 0 0) ∧ ρ'.get 5 = some (.ptr 1 0 0) ∧ ρ'.get 6 = some (.ptr 3 0 0) ∧ ρ'.get 7 = some (.ptr 5 0 0) := by
    rintro H H' ⟨⟨⟨ρ', d, σ'⟩, rds, wrs⟩, hr, hok, hd, hh, hA⟩
    simp only at hd hh
    subst hd hh
    exact ⟨ρ', drawX hr hok, hA⟩
  exact fin _ _ ⟨_, by
      show drawRun C 0 (_ :: _) _ = _
      refine (drawR rfl rfl (by simp [stillOp, valsOp, refOf, refV, oneH, exec, runOps, wantedA, stepOp, pureOp, allocOp, readOp, effOp, ev, evs, evO, Env.get_cons, putE, binA, intBin, unA, AV.fit, AV.toCells, partC, partP, mkCells, allP, mkAgg, Cells.len, target, takeC, dropC, Cells.get?, keepE, readsOf, opds, tmpsOf, Env.get_cons, wantedA, putE, g3, g5, r17, r18, hC18, hC17]; exact ⟨rfl, rfl⟩)).trans ?_
      refine (drawR rfl rfl (by simp [stillOp, valsOp, refOf, refV, oneH, exec, runOps, wantedA, stepOp, pureOp, allocOp, readOp, effOp, ev, evs, evO, Env.get_cons, putE, binA, intBin, unA, AV.fit, AV.toCells, partC, partP, mkCells, allP, mkAgg, Cells.len, target, takeC, dropC, Cells.get?, keepE, readsOf, opds, tmpsOf, Env.get_cons, wantedA, putE, g3, g5, r17, r18, hC18, hC17]; exact ⟨rfl, rfl⟩)).trans ?_
      refine (drawE rfl rfl (by simp [exec, runOps, wantedA, stepOp, pureOp, allocOp, readOp, effOp, ev, evs, evO, Env.get_cons, putE, binA, intBin, unA, AV.fit, AV.toCells, partC, partP, mkCells, allP, mkAgg, Cells.len, target, evParts, fillA, AV.cells, splice, spliceC, finA, leaveA, resA, resV, ansV, keepE, readsOf, opds, tmpsOf, Env.get_cons, wantedA, putE, repCells, elemsA, takeC, dropC, Cells.toList, g3, g5, r17, r18, hC18, hC17]; rfl) (by simp [carry, keepE, readsOf, opds, tmpsOf, Env.get_cons, wantedA, putE]; rfl) (by simp [wrIds, refV, keepE, readsOf, opds, tmpsOf, Env.get_cons, wantedA, putE, ev, evs, target, touchF, touch, collect, idsL, idsV, idsO, g3, g5, r17, r18, hC18, hC17]; rfl)).trans ?_
      refine (drawE rfl rfl (by simp [exec, runOps, wantedA, stepOp, pureOp, allocOp, readOp, effOp, ev, evs, evO, Env.get_cons, putE, binA, intBin, unA, AV.fit, AV.toCells, partC, partP, mkCells, allP, mkAgg, Cells.len, target, evParts, fillA, AV.cells, splice, spliceC, finA, leaveA, resA, resV, ansV, keepE, readsOf, opds, tmpsOf, Env.get_cons, wantedA, putE, repCells, elemsA, takeC, dropC, Cells.toList, g3, g5, r17, r18, hC18, hC17]; rfl) (by simp [carry, keepE, readsOf, opds, tmpsOf, Env.get_cons, wantedA, putE]; rfl) (by simp [wrIds, refV, keepE, readsOf, opds, tmpsOf, Env.get_cons, wantedA, putE, ev, evs, target, touchF, touch, collect, idsL, idsV, idsO, g3, g5, r17, r18, hC18, hC17]; rfl)).trans ?_
      refine (drawE rfl rfl (by simp [exec, runOps, wantedA, stepOp, pureOp, allocOp, readOp, effOp, ev, evs, evO, Env.get_cons, putE, binA, intBin, unA, AV.fit, AV.toCells, partC, partP, mkCells, allP, mkAgg, Cells.len, target, evParts, fillA, AV.cells, splice, spliceC, finA, leaveA, resA, resV, ansV, keepE, readsOf, opds, tmpsOf, Env.get_cons, wantedA, putE, repCells, elemsA, takeC, dropC, Cells.toList, g3, g5, r17, r18, hC18, hC17]; rfl) (by simp [carry, keepE, readsOf, opds, tmpsOf, Env.get_cons, wantedA, putE]; rfl) (by simp [wrIds, refV, keepE, readsOf, opds, tmpsOf, Env.get_cons, wantedA, putE, ev, evs, target, touchF, touch, collect, idsL, idsV, idsO, g3, g5, r17, r18, hC18, hC17]; rfl)).trans ?_
      refine (drawE rfl rfl (by simp [exec, runOps, wantedA, stepOp, pureOp, allocOp, readOp, effOp, ev, evs, evO, Env.get_cons, putE, binA, intBin, unA, AV.fit, AV.toCells, partC, partP, mkCells, allP, mkAgg, Cells.len, target, evParts, fillA, AV.cells, splice, spliceC, finA, leaveA, resA, resV, ansV, keepE, readsOf, opds, tmpsOf, Env.get_cons, wantedA, putE, repCells, elemsA, takeC, dropC, Cells.toList, g3, g5, r17, r18, hC18, hC17]; rfl) (by simp [carry, keepE, readsOf, opds, tmpsOf, Env.get_cons, wantedA, putE]; rfl) (by simp [wrIds, refV, keepE, readsOf, opds, tmpsOf, Env.get_cons, wantedA, putE, ev, evs, target, touchF, touch, collect, idsL, idsV, idsO, g3, g5, r17, r18, hC18, hC17]; rfl)).trans ?_
      refine (drawE rfl rfl (by simp [exec, runOps, wantedA, stepOp, pureOp, allocOp, readOp, effOp, ev, evs, evO, Env.get_cons, putE, binA, intBin, unA, AV.fit, AV.toCells, partC, partP, mkCells, allP, mkAgg, Cells.len, target, evParts, fillA, AV.cells, splice, spliceC, finA, leaveA, resA, resV, ansV, keepE, readsOf, opds, tmpsOf, Env.get_cons, wantedA, putE, repCells, elemsA, takeC, dropC, Cells.toList, g3, g5, r17, r18, hC18, hC17]; rfl) (by simp [carry, keepE, readsOf, opds, tmpsOf, Env.get_cons, wantedA, putE]; rfl) (by simp [wrIds, refV, keepE, readsOf, opds, tmpsOf, Env.get_cons, wantedA, putE, ev, evs, target, touchF, touch, collect, idsL, idsV, idsO, g3, g5, r17, r18, hC18, hC17]; rfl)).trans ?_
      exact rfl, by kernel_rfl, by rfl, by rfl, by simp [putE, Env.get_cons, g3], by simp [putE, Env.get_cons, g5], by simp [putE, Env.get_cons, g6], by simp [putE, Env.get_cons]⟩
end
end Go.Ab.Turn

/- PlanTurned: the law, the third path. -/
set_option maxRecDepth 1000000
namespace Go.Ab.Turn
open Go Go.Ab Go.Ab.Plan Go.Ab.Key Go.Ab.Cnt Go.Proofs
variable [Mx]
section
variable {C : Oracle} {L : Nat} {t : T} {k : List Nat}
theorem third5 (a b c d : PV) (hP : ∀ σ σ1 xs, frzA (touch σ xs) 9 σ xs = ([tbl k, PV.vsl (cells (both t)) 1, .int .i64 0].map .p, σ1) → C 17 xs σ = some (.ret (.p (.agg [a, b, c, d])), σ1)) (ρ : Env) (g3 : ρ.get 3 = some (.ptr 0 0 0)) (g5 : ρ.get 5 = some (.ptr 1 0 0)) (g6 : ρ.get 6 = some (.ptr 3 0 0)) (g7 : ρ.get 7 = some (.ptr 5 0 0)) :
    ∃ ρ' σ', exec C L n5_6 ⟨ρ, [], h5 t k a b c d ++ [.arr (.pv (cells (trn t))) 0 4 none, .arr (.pv [a, b, c, d]) 0 0 (some 23)]⟩ = some (.normal, ⟨ρ', [], σ'⟩) ∧ ρ'.get 6 = some (.ptr 3 0 0) ∧ ρ'.get 7 = some (.ptr 5 0 0) ∧ ρ'.get 8 = some (.ptr 8 0 0) ∧
      σ'[8]? = some (.arr (.pv [a, b, c, d]) 0 0 (some 23)) ∧ σ'[3]? = some (.arr (.pv [a, b, c, d]) 0 0 (some 23)) ∧ σ'[5]? = some (.arr (.pv [a, b, c, d]) 0 0 (some 23)) := by
  have hcell : ∀ u : T, ∃ p q r s, cells u = [p, q, r, s] := fun u => by cases u; exact ⟨_, _, _, _, rfl⟩
  obtain ⟨p, q, r, s, ec⟩ := hcell t
  have eb : cells (both t) = [.str wAnd, .str [], .int .i64 0, .vsl [p, q, r, s, p, q, r, s] 2] := by
    simp [both, cells, cellsL, ec]
  generalize cells (trn t) = ct' at *
  have hC := hP [.arr (.pv [p, q, r, s]) 0 0 none, .arr (.pv (tblC k)) 0 0 (some 51), .arr (.pv [p, q, r, s]) 0 4 none, .arr (.pv [a, b, c, d]) 0 0 (some 23), .arr (.pv ct') 0 4 none, .arr (.pv [a, b, c, d]) 0 0 (some 23),
      .arr (.pv [p, q, r, s, p, q, r, s]) 0 0 none, .arr (.av [.p (.str [97, 110, 100]), .p (.str []), .p (.int .i64 0), .sl 6 0 0 2 4]) 0 0 none]
    [.arr (.pv [p, q, r, s]) 0 0 none, .arr (.pv (tblC k)) 0 0 (some 51), .arr (.pv [p, q, r, s]) 0 4 none, .arr (.pv [a, b, c, d]) 0 0 (some 23), .arr (.pv ct') 0 4 none, .arr (.pv [a, b, c, d]) 0 0 (some 23),
      .arr (.pv [p, q, r, s, p, q, r, s]) 0 8 none, .arr (.pv [.str wAnd, .str [], .int .i64 0, .vsl [p, q, r, s, p, q, r, s] 2]) 0 4 none]
    [.p (tbl k), .sl 7 0 0 1 4, int 0] (by rw [eb]; rfl)
  simp only [ec, tbl, tblC, h5, List.cons_append, List.nil_append] at hC ⊢
  generalize cols k = ks at hC ⊢
  exact ⟨_, _, by simp [n5_6, exec, runOps, wantedA, stepOp, pureOp, allocOp, readOp, effOp, ev, evs, evO, Env.get_cons, putE, binA, intBin, unA, AV.fit, AV.toCells, partC, partP, mkCells, allP, mkAgg, Cells.len, target, evParts, fillA, AV.cells, splice, spliceC, finA, leaveA, resA, resV, ansV, repCells, Cells.toList, takeC, dropC, g3, g5, hC]; exact ⟨rfl, rfl⟩, by simp [Env.get_cons, g6], by simp [Env.get_cons, g7], by simp [Env.get_cons], rfl, rfl, rfl⟩
end
end Go.Ab.Turn

/- PlanTurned: the law, its last lines. -/
set_option maxRecDepth 1000000
namespace Go.Ab.Turn
open Go Go.Ab Go.Ab.Plan Go.Ab.Key Go.Ab.Cnt Go.Proofs
variable [Mx]
theorem path_form (k : List Nat) (ls : List Cl) : ∃ A s1 s2 B, pathP k ls = [.bool A, .str s1, .str s2, .bool B] := by
  unfold pathP pathB
  split
  · exact ⟨_, _, _, _, rfl⟩
  · split
    · split
      · exact ⟨_, _, _, _, rfl⟩
      · split
        · exact ⟨_, _, _, _, rfl⟩
        · exact ⟨_, _, _, _, rfl⟩
    · exact ⟨_, _, _, _, rfl⟩
theorem last5 {C : Oracle} {L : Nat} (A B : Bool) (s1 s2 : Word) (hA : ∀ σ, C 11 [] σ = some (.ret (.p (.bool true)), σ)) (ρ : Env) (σ : Heap) (g6 : ρ.get 6 = some (.ptr 3 0 0)) (g7 : ρ.get 7 = some (.ptr 5 0 0)) (g8 : ρ.get 8 = some (.ptr 8 0 0))
    (o3 : σ[3]? = some (.arr (.pv [.bool A, .str s1, .str s2, .bool B]) 0 0 (some 23))) (o5 : σ[5]? = some (.arr (.pv [.bool A, .str s1, .str s2, .bool B]) 0 0 (some 23))) (o8 : σ[8]? = some (.arr (.pv [.bool A, .str s1, .str s2, .bool B]) 0 0 (some 23))) :
    ∃ ρ', exec C L n5_7 ⟨ρ, [], σ⟩ = some (.normal, ⟨ρ', [], σ⟩) ∧ ρ'.get 4 = some (.p (.bool true)) := by
  have he : eqP (EQ.struct [(0, false, 1, EQ.bool), (1, false, 1, EQ.str), (2, false, 1, EQ.str), (3, false, 1, EQ.bool)]) (.agg [.bool A, .str s1, .str s2, .bool B]) (.agg [.bool A, .str s1, .str s2, .bool B]) = some true := by
    have h1 : (s1 == s1) = true := beq_self_eq_true _
    have h2 : (s2 == s2) = true := beq_self_eq_true _
    cases A <;> cases B <;> simp [eqP, eqPs, partP, h1, h2]
  exact ⟨_, by simp [n5_7, exec, runOps, wantedA, stepOp, pureOp, allocOp, readOp, effOp, ev, evs, evO, Env.get_cons, putE, binA, intBin, unA, AV.fit, AV.toCells, partC, partP, mkCells, allP, mkAgg, Cells.len, target, takeC, dropC, hA, g6, g7, g8, o3, o5, o8, he]; rfl, by simp [Env.get_cons]⟩
end Go.Ab.Turn

/- PlanTurned: the law, joined. -/
set_option maxRecDepth 1000000
namespace Go.Ab.Turn
open Go Go.Ab Go.Ab.Plan Go.Ab.Key Go.Ab.Cnt Go.Proofs
variable [Mx]
theorem run5 {C : Oracle} {L : Nat} {x : List Int} {t : T} {k : List Nat} {K : Int} (D : DOracle) (h : E5 C x t k K)
    (hP : ∀ σ σ1 xs, frzA (touch σ xs) 9 σ xs = ([tbl k, PV.vsl (cells (both t)) 1, .int .i64 0].map .p, σ1) → C 17 xs σ = some (.ret (.p (.agg (pathP k (saidL (clauses t))))), σ1)) :
    ansV (runFunc C D L lit5 [.p (.vsl (ints x) x.length), .p (node t)] []) = some (.bool true) := by
  by_cases hK : 400 < K
  · exact small5 D h hK
  · obtain ⟨A, s1, s2, B, ep⟩ := path_form k (saidL (clauses t))
    rw [ep] at hP
    obtain ⟨ρ1, e1, a3, a5, a6⟩ := first5 (L := L) h hK _ _ _ _ ep
    obtain ⟨ρ2, e2, b3, b5, b6, b7⟩ := second5 (L := L) h _ _ _ _ ep ρ1 a3 a5 a6
    obtain ⟨ρ3, σ3, e3, c6, c7, c8, o8, o3, o5⟩ := third5 (L := L) (t := t) (k := k) _ _ _ _ hP ρ2 b3 b5 b6 b7
    obtain ⟨ρ4, e4, g4⟩ := last5 (L := L) A B s1 s2 h.alive ρ3 σ3 c6 c7 c8 o3 o5 o8
    rw [runFunc_eq, lit5_tree]
    unfold n5
    rw [seq_assoc, seq_assoc, seq_assoc, seqN e1]
    have e2' : exec C L n5_5 ⟨ρ1, [], [.arr (.pv (cells t)) 0 0 none, .arr (.pv (tblC k)) 0 0 (some 51), .arr (.pv (cells t)) 0 4 none, .arr (.pv [.bool A, .str s1, .str s2, .bool B]) 0 0 (some 23)]⟩ = _ := e2
    rw [seqN e2', seqN e3, seqN e4]
    simp [exec, finX, finA, mixed, leaveA, lit5, resA, resV, ansV, g4]
end Go.Ab.Turn

/- PlanTurned: the law at the table. -/
set_option maxRecDepth 1000000
namespace Go.Ab.Turn
open Go Go.Ab Go.Ab.Plan Go.Ab.Key Go.Ab.Cnt Go.Proofs
variable [Mx]
noncomputable def af11 : AFunc := match TT 11 with
  | some (.code af _) => af
  | _ => { ntmps := 0, results := [], body := .skip }
theorem q11 : TT 11 = some (.code af11 true) := by kernel_rfl
theorem alive_ans (L n : Nat) (σ : Heap) : (cAt TT (L + 100) (n + 30)).1 11 [] σ = some (.ret (.p (.bool true)), σ) := call_ans (ps := []) (n := n + 29) q11 (by kernel_rfl) (by kernel_rfl) σ
theorem e5 (L n : Nat) (x : List Int) (t : T) (hx : ∀ c ∈ x, inR c) (hok : okT t) (hb : broad t < L) (hcl : 2 * (clauses t).length ≤ LIM) (hclL : 2 * (clauses t).length < L) (hn : 2 * deep t + 10 ≤ n) :
    ∃ k K, k.length ≤ 6 ∧ E5 (cAt TT (L + 100) (n + 30)).1 x t k K := by
  obtain ⟨K, h14⟩ := parts14 (L := L + 100) q14 (n + 30) t (by omega) hok (by omega) 400
  obtain ⟨k, hk, _, h16⟩ := keys16 (L := L + 100) (n := n + 29) q16 (by omega) x hx
  refine ⟨k, K, hk, h14, h16, fun σ => table15 (n := n + 29) q15 k σ, fun σ => turned18 q18 (by rfl) (by omega) (n + 30) t (by omega) hok (by omega) σ, ?_, fun σ => alive_ans L n σ⟩
  intro u hu σ id ho
  rcases hu with rfl | rfl | rfl
  · exact path_sl (L + 80) (n + 26) k hk u hok (by omega) (by omega) (by omega) σ id ho
  · have e := path_sl (L + 80) (n + 26) k hk (trn t) (ok_trn t hok) (by rw [clauses_trn_len]; omega) (by rw [clauses_trn_len]; omega) (by rw [deep_trn]; omega) σ id ho
    rw [path_turned] at e
    exact e
  · have hl : (clauses (both t)).length = 2 * (clauses t).length := by rw [both_clauses, List.length_append]; omega
    have e := path_sl (L + 80) (n + 26) k hk (both t) (both_ok hok) (by rw [hl]; omega) (by rw [hl]; omega) (by rw [both_deep]; omega) σ id ho
    rw [both_path] at e
    exact e
theorem law5 (L n : Nat) (x : List Int) (t : T) (hx : ∀ c ∈ x, inR c) (hok : okT t) (hb : broad t < L) (hcl : 2 * (clauses t).length ≤ LIM) (hclL : 2 * (clauses t).length < L) (hn : 2 * deep t + 10 ≤ n) :
    (cAt TT (L + 100) (n + 31)).1 5 [.p (.vsl (ints x) x.length), .p (node t)] [] = some (.ret (.p (.bool true)), []) := by
  obtain ⟨k, K, hk, h⟩ := e5 L n x t hx hok hb hcl hclL hn
  refine call_ans (ps := [.vsl (ints x) x.length, node t]) (n := n + 30) q5 (by rfl) ?_ []
  refine run5 _ h fun σ σ1 xs hf => ?_
  have hl : (clauses (both t)).length = 2 * (clauses t).length := by rw [both_clauses, List.length_append]; omega
  rw [cAt_frz (n := n + 29) (ps := [tbl k, .vsl (cells (both t)) 1, .int .i64 0]) q17 hf]
  have e := path17 (L + 80) (n + 26) k hk (both t) (both_ok hok) (by rw [hl]; omega) (by rw [hl]; omega) (by rw [both_deep]; omega) σ1
  rw [both_path] at e
  exact e
end Go.Ab.Turn
