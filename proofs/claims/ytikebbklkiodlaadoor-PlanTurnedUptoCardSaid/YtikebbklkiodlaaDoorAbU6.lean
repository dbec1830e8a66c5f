/- PlanTurned: a tree, turned: its parts; the whole. -/
import Derived.Test.YtikebbklkiodlaaDoorAbU5
set_option linter.unusedSectionVars false
set_option linter.unusedSimpArgs false
set_option linter.unusedVariables false
set_option maxRecDepth 1000000
namespace Go.Ab.Turn
open Go Go.Ab Go.Ab.Plan Go.Ab.Key Go.Ab.Cnt Go.Proofs
variable [Marks]
section
variable (C : Oracle) (L : Nat) (op s : Word) (n : Int) (l : List T) (cur : Word) (ρ : Env) (i : Nat) (q : Bool)
theorem stop18a (h : At18 ρ 4 q) (σ : Heap) : ∃ ρ', exec C L n18_6_2kb ⟨ρ, [], σ⟩ = some (.exit 0, ⟨ρ', [], σ⟩) ∧ At18 ρ' 4 q :=
  ⟨_, by simp [n18_6_2kb, n18_6_2kb_1, n18_6_2kb_1_1, n18_6_2kb_1_2, exec, runOps, wantedA, stepOp, pureOp, allocOp, readOp, effOp, ev, evs, evO, Env.get_cons, putE, binA, intBin, unA, AV.fit, AV.toCells, partC, partP, mkCells, allP, mkAgg, Cells.len, target, h.t7]; rfl, ⟨by simp [Env.get_cons, h.t1], by simp [Env.get_cons, h.t2], by simp [Env.get_cons, h.t3], by simp [Env.get_cons, h.t4], by simp [Env.get_cons, h.t5], by simp [Env.get_cons, h.t6], by simp [Env.get_cons, h.t7]⟩⟩
theorem signs (y : Bool) : (if ((op == [62, 61]) && y) = true then [60, 61] else if ((op == [62]) && y) = true then [60] else if ((op == [60, 61]) && y) = true then [62, 61] else if ((op == [60]) && y) = true then [62] else op) = if y = true then flip op else op := by
  cases y with
  | false => simp
  | true =>
    simp only [Bool.and_true, beq_iff_eq, if_true]
    unfold flip
    by_cases h1 : op = wLt
    · subst h1; decide
    · by_cases h2 : op = wLe
      · subst h2; decide
      · by_cases h3 : op = wGt
        · subst h3; decide
        · by_cases h4 : op = wGe
          · subst h4; decide
          · simp only [if_neg h1, if_neg h2, if_neg h3, if_neg h4]
theorem swaps (y : Bool) : (((((y && (op == [61])) || ((op == [60]) && y)) || ((op == [60, 61]) && y)) || ((op == [62]) && y)) || ((op == [62, 61]) && y)) = (y && isCmp op) := by
  unfold isCmp
  cases y <;> simp
theorem loop18a (h : At18 ρ 0 q) (y : Bool) (hy : ((l.length : Int) == 2) = y) (hq : q = (y && (op == [61]))) (f : Nat) (hf : 5 ≤ f) :
    ∃ ρ', iter (exec C L n18_6_2kb) none f ⟨ρ, [], heap18 op s n l op⟩ = some (.exit 0, ⟨ρ', [], heap18 op s n l (if y = true then flip op else op)⟩) ∧ At18 ρ' 4 (y && isCmp op) := by
  obtain ⟨f, rfl⟩ : ∃ m, f = m + 5 := ⟨f - 5, by omega⟩
  obtain ⟨ρ1, r1, h1⟩ := sign18_0 C L op s n l op ρ q h _ y rfl hy
  obtain ⟨ρ2, r2, h2⟩ := sign18_1 C L op s n l (if ((op == [60]) && y) = true then [62] else op) ρ1 _ h1 _ y rfl hy
  obtain ⟨ρ3, r3, h3⟩ := sign18_2 C L op s n l (if ((op == [60, 61]) && y) = true then [62, 61] else if ((op == [60]) && y) = true then [62] else op) ρ2 _ h2 _ y rfl hy
  obtain ⟨ρ4, r4, h4⟩ := sign18_3 C L op s n l (if ((op == [62]) && y) = true then [60] else if ((op == [60, 61]) && y) = true then [62, 61] else if ((op == [60]) && y) = true then [62] else op) ρ3 _ h3 _ y rfl hy
  rw [hq, swaps] at h4
  rw [signs] at r4
  obtain ⟨ρ5, r5, h5⟩ := stop18a C L ρ4 _ h4 (heap18 op s n l (if y = true then flip op else op))
  exact ⟨ρ5, by simp only [iter, St.keep, r1, r2, r3, r4, r5], h5⟩
/-- the second loop's state: what is done so far -/
structure Bt18 (ρ : Env) (σ : Heap) (i : Nat) (q : Bool) (cur : Word) (b : AV) (ds : List T) : Prop where
  t1 : ρ.get 1 = some (.ptr 0 0 0)
  t2 : ρ.get 2 = some (.ptr 1 0 0)
  t3 : ρ.get 3 = some (.ptr 2 0 0)
  t6 : ρ.get 6 = some (.p (.bool q))
  t8 : ρ.get 8 = some (int i)
  o0 : σ[0]? = some (.arr (.pv (cells (.mk op s n l))) 0 0 none)
  o1 : σ[1]? = some (.arr (.av [.p (.str []), .p (.str []), .p (.int .i64 0), .nil0]) 0 0 (some 45))
  o2 : σ[2]? = some (out18 cur s n b)
  bf : Buf 45 4 σ b (cellsL ds) ds.length
  ob : ∀ j ∈ own b, 3 ≤ j
theorem stop18b (σ : Heap) (b : AV) (ds : List T) (h : Bt18 op s n l ρ σ l.length q cur b ds) : ∃ ρ', exec C L n18_7_2kb ⟨ρ, [], σ⟩ = some (.exit 2, ⟨ρ', [], σ⟩) ∧ Bt18 op s n l ρ' σ l.length q cur b ds := by
  have o0 := h.o0
  simp only [cells] at o0
  exact ⟨_, by simp [n18_7_2kb, n18_7_2kb_1, n18_7_2kb_1_1, n18_7_2kb_1_2, exec, runOps, wantedA, stepOp, pureOp, allocOp, readOp, effOp, ev, evs, evO, Env.get_cons, putE, binA, intBin, unA, AV.fit, AV.toCells, partC, partP, mkCells, allP, mkAgg, Cells.len, target, lenA, takeC, dropC, Cells.get?, h.t1, h.t8, o0]; rfl, ⟨by simp [Env.get_cons, h.t1], by simp [Env.get_cons, h.t2], by simp [Env.get_cons, h.t3], by simp [Env.get_cons, h.t6], by simp [Env.get_cons, h.t8], h.o0, h.o1, h.o2, h.bf, h.ob⟩⟩
theorem refV_own {ety esz : Nat} {σ : Heap} {b : AV} {l : List PV} {n : Nat} (h : Buf ety esz σ b l n) : refV b = own b := by
  rcases h.2 with ⟨rfl, _⟩ | ⟨_, id, ver, rfl, _⟩ <;> rfl
theorem add18 (σ : Heap) (b : AV) (ds : List T) (h : Bt18 op s n l ρ σ i q cur b ds) (hr : Marks.raw 18 = false) (k : Nat) (c : T) (hc : l[k]? = some c) (h9 : ρ.get 9 = some (int k)) (hds : ds.length + 1 ≤ 1048576)
    (hC : ∀ σ, C 18 [.p (node c)] σ = some (.ret (.p (node (trn c))), σ)) :
    ∃ ρ' σ' b', exec C L n18_7_2kb_2k_3 ⟨ρ, [], σ⟩ = some (.normal, ⟨ρ', [], σ'⟩) ∧ Bt18 op s n l ρ' σ' i q cur b' (ds ++ [trn c]) := by
  have hi : k < l.length := (List.getElem?_eq_some_iff.1 hc).1
  have hi' : (k : Int) < (l.length : Int) := by omega
  have d1 := cellsL_at l k c hc
  have d3 : 4 ≤ (cellsL l).length - k * 4 := by rw [cellsL_len]; omega
  have o0 := h.o0
  simp only [cells] at o0
  have hl2 : 2 < σ.length := (List.getElem?_eq_some_iff.1 h.o2).1
  have hLM : LIM = 4294967296 := rfl
  obtain ⟨b2, σ2, hA, hb2, hfr, hle, hown⟩ := (h.bf.push [.arr (.pv (cells (trn c))) 0 0 none]).app (cells (trn c)) (cells_len _) (by omega)
  have hl4 : (cells (trn c)).length = 4 := cells_len _
  have ht4 : (cells (trn c)).take 4 = cells (trn c) := List.take_of_length_le (by omega)
  have hal := allP_map (cells (trn c))
  have hnb : ∀ j, j < 3 → j ∉ own b := fun j hj hb => by have := h.ob j hb; omega
  have f0 := (hfr 0 (by simp) (hnb 0 (by omega))).trans ((List.getElem?_append_left (by omega)).trans h.o0)
  have f1 := (hfr 1 (by simp; omega) (hnb 1 (by omega))).trans ((List.getElem?_append_left (by omega)).trans h.o1)
  have f2 := (hfr 2 (by simp; omega) (hnb 2 (by omega))).trans ((List.getElem?_append_left (by omega)).trans h.o2)
  have hb3 : Buf 45 4 (σ2.set 2 (out18 cur s n b2)) b2 (cellsL (ds ++ [trn c])) (ds ++ [trn c]).length := by
    have e : cellsL (ds ++ [trn c]) = cellsL ds ++ cells (trn c) := by rw [cellsL_app]; simp [cellsL]
    rw [e, List.length_append]
    refine hb2.same fun j hj => ?_
    have : j ≠ 2 := by
      intro hj2
      subst hj2
      rcases hown 2 hj with hb | hb
      · exact hnb 2 (by omega) hb
      · simp at hb; omega
    rw [List.getElem?_set_ne (Ne.symm this)]
  have fin : (∃ s1 : Tr, drawRun C 0 (opsD n18_7_2kb_2k_3) ⟨⟨ρ, [], σ⟩, [], []⟩ = some (none, s1) ∧ s1.rds = [(3, 0), (1, 2)] ∧ (∃ k0 k1 k2 k3 W, s1.wrs = [(11, k1, [2]), (9, k2, W), (8, k3, []), (7, k0, [])] ∧ 2 < k3 ∧ 2 < k0) ∧ s1.st.defers = [] ∧ s1.st.heap = σ2.set 2 (out18 cur s n b2) ∧ Bt18 op s n l s1.st.env (σ2.set 2 (out18 cur s n b2)) i q cur b2 (ds ++ [trn c])) → ∃ ρ' σ' b', exec C L n18_7_2kb_2k_3 ⟨ρ, [], σ⟩ = some (.normal, ⟨ρ', [], σ'⟩) ∧ Bt18 op s n l ρ' σ' i q cur b' (ds ++ [trn c]) := by
    rintro ⟨⟨⟨ρ', d, σ'⟩, rds, wrs⟩, hr, h1, ⟨k0, k1, k2, k3, W, h2, hk3, hk0⟩, h3, h4, hA⟩
    simp only at h1 h2 h3 h4
    subst h1 h2 h3 h4
    obtain ⟨m0, rfl⟩ : ∃ m, k0 = m + 3 := ⟨k0 - 3, by omega⟩
    obtain ⟨m3, rfl⟩ : ∃ m, k3 = m + 3 := ⟨k3 - 3, by omega⟩
    exact ⟨ρ', _, b2, drawX hr (by kernel_rfl), hA⟩
  have hrv := refV_own h.bf
  obtain ⟨_, id2, ver2, rfl, _⟩ := hb2.2.resolve_left (by simp)
  refine fin ⟨_, by
      show drawRun C 0 (_ :: _) _ = _
      refine (drawS rfl rfl (by simp [stillOp, valsOp, refOf, refV, oneH, exec, runOps, wantedA, stepOp, pureOp, allocOp, readOp, effOp, ev, evs, evO, Env.get_cons, putE, binA, intBin, unA, AV.fit, AV.toCells, partC, partP, mkCells, allP, mkAgg, Cells.len, target, evParts, fillA, AV.cells, splice, spliceC, finA, leaveA, resA, resV, ansV, idxA, lenA, takeC, dropC, Cells.get?, keepE, readsOf, opds, tmpsOf, Env.get_cons, wantedA, putE, h.t1, h.t3, h9, o0, h.o2, hi, hi', d1, d3, hr, hC, hl4, ht4, hal, hA, hrv, f2]; rfl)).trans ?_
      refine (drawR rfl rfl (by simp [stillOp, valsOp, refOf, refV, oneH, exec, runOps, wantedA, stepOp, pureOp, allocOp, readOp, effOp, ev, evs, evO, Env.get_cons, putE, binA, intBin, unA, AV.fit, AV.toCells, partC, partP, mkCells, allP, mkAgg, Cells.len, target, takeC, dropC, Cells.get?, keepE, readsOf, opds, tmpsOf, Env.get_cons, wantedA, putE, h.t1, h.t3, h9, o0, h.o2, hi, hi', d1, d3, hr, hC, hl4, ht4, hal, hA, hrv, f2]; exact ⟨rfl, rfl⟩)).trans ?_
      refine (drawS rfl rfl (by simp [stillOp, valsOp, refOf, refV, oneH, exec, runOps, wantedA, stepOp, pureOp, allocOp, readOp, effOp, ev, evs, evO, Env.get_cons, putE, binA, intBin, unA, AV.fit, AV.toCells, partC, partP, mkCells, allP, mkAgg, Cells.len, target, evParts, fillA, AV.cells, splice, spliceC, finA, leaveA, resA, resV, ansV, idxA, lenA, takeC, dropC, Cells.get?, keepE, readsOf, opds, tmpsOf, Env.get_cons, wantedA, putE, h.t1, h.t3, h9, o0, h.o2, hi, hi', d1, d3, hr, hC, hl4, ht4, hal, hA, hrv, f2]; rfl)).trans ?_
      refine (drawR rfl rfl (by simp [stillOp, valsOp, refOf, refV, oneH, exec, runOps, wantedA, stepOp, pureOp, allocOp, readOp, effOp, ev, evs, evO, Env.get_cons, putE, binA, intBin, unA, AV.fit, AV.toCells, partC, partP, mkCells, allP, mkAgg, Cells.len, target, takeC, dropC, Cells.get?, keepE, readsOf, opds, tmpsOf, Env.get_cons, wantedA, putE, h.t1, h.t3, h9, o0, h.o2, hi, hi', d1, d3, hr, hC, hl4, ht4, hal, hA, hrv, f2]; exact ⟨rfl, rfl⟩)).trans ?_
      refine (drawS rfl rfl (by simp [stillOp, valsOp, refOf, refV, oneH, exec, runOps, wantedA, stepOp, pureOp, allocOp, readOp, effOp, ev, evs, evO, Env.get_cons, putE, binA, intBin, unA, AV.fit, AV.toCells, partC, partP, mkCells, allP, mkAgg, Cells.len, target, evParts, fillA, AV.cells, splice, spliceC, finA, leaveA, resA, resV, ansV, idxA, lenA, takeC, dropC, Cells.get?, keepE, readsOf, opds, tmpsOf, Env.get_cons, wantedA, putE, h.t1, h.t3, h9, o0, h.o2, hi, hi', d1, d3, hr, hC, hl4, ht4, hal, hA, hrv, f2]; rfl)).trans ?_
      refine (drawS rfl rfl (by simp [stillOp, valsOp, refOf, refV, oneH, exec, runOps, wantedA, stepOp, pureOp, allocOp, readOp, effOp, ev, evs, evO, Env.get_cons, putE, binA, intBin, unA, AV.fit, AV.toCells, partC, partP, mkCells, allP, mkAgg, Cells.len, target, evParts, fillA, AV.cells, splice, spliceC, finA, leaveA, resA, resV, ansV, idxA, lenA, takeC, dropC, Cells.get?, keepE, readsOf, opds, tmpsOf, Env.get_cons, wantedA, putE, h.t1, h.t3, h9, o0, h.o2, hi, hi', d1, d3, hr, hC, hl4, ht4, hal, hA, hrv, f2]; rfl)).trans ?_
      refine (drawS rfl rfl (by simp [stillOp, valsOp, refOf, refV, oneH, exec, runOps, wantedA, stepOp, pureOp, allocOp, readOp, effOp, ev, evs, evO, Env.get_cons, putE, binA, intBin, unA, AV.fit, AV.toCells, partC, partP, mkCells, allP, mkAgg, Cells.len, target, evParts, fillA, AV.cells, splice, spliceC, finA, leaveA, resA, resV, ansV, idxA, lenA, takeC, dropC, Cells.get?, keepE, readsOf, opds, tmpsOf, Env.get_cons, wantedA, putE, h.t1, h.t3, h9, o0, h.o2, hi, hi', d1, d3, hr, hC, hl4, ht4, hal, hA, hrv, f2]; rfl)).trans ?_
      refine (drawE rfl rfl (by simp [exec, runOps, wantedA, stepOp, pureOp, allocOp, readOp, effOp, ev, evs, evO, Env.get_cons, putE, binA, intBin, unA, AV.fit, AV.toCells, partC, partP, mkCells, allP, mkAgg, Cells.len, target, evParts, fillA, AV.cells, splice, spliceC, finA, leaveA, resA, resV, ansV, keepE, readsOf, opds, tmpsOf, Env.get_cons, wantedA, putE, repCells, elemsA, takeC, dropC, Cells.toList, h.t1, h.t3, h9, o0, h.o2, hi, hi', d1, d3, hr, hC, hl4, ht4, hal, hA, hrv, f2]; rfl) (by simp [carry, keepE, readsOf, opds, tmpsOf, Env.get_cons, wantedA, putE]; rfl) (by simp [wrIds, refV, keepE, readsOf, opds, tmpsOf, Env.get_cons, wantedA, putE, ev, evs, target, touchF, touch, collect, idsL, idsV, idsO, h.t1, h.t3, h9, o0, h.o2, hi, hi', d1, d3, hr, hC, hl4, ht4, hal, hA, hrv, f2]; rfl)).trans ?_
      refine (drawE rfl rfl (by simp [exec, runOps, wantedA, stepOp, pureOp, allocOp, readOp, effOp, ev, evs, evO, Env.get_cons, putE, binA, intBin, unA, AV.fit, AV.toCells, partC, partP, mkCells, allP, mkAgg, Cells.len, target, evParts, fillA, AV.cells, splice, spliceC, finA, leaveA, resA, resV, ansV, keepE, readsOf, opds, tmpsOf, Env.get_cons, wantedA, putE, repCells, elemsA, takeC, dropC, Cells.toList, h.t1, h.t3, h9, o0, h.o2, hi, hi', d1, d3, hr, hC, hl4, ht4, hal, hA, hrv, f2]; rfl) (by simp [carry, keepE, readsOf, opds, tmpsOf, Env.get_cons, wantedA, putE]; rfl) (by simp [wrIds, refV, keepE, readsOf, opds, tmpsOf, Env.get_cons, wantedA, putE, ev, evs, target, touchF, touch, collect, idsL, idsV, idsO, h.t1, h.t3, h9, o0, h.o2, hi, hi', d1, d3, hr, hC, hl4, ht4, hal, hA, hrv, f2]; rfl)).trans ?_
      refine (drawE rfl rfl (by simp [exec, runOps, wantedA, stepOp, pureOp, allocOp, readOp, effOp, ev, evs, evO, Env.get_cons, putE, binA, intBin, unA, AV.fit, AV.toCells, partC, partP, mkCells, allP, mkAgg, Cells.len, target, evParts, fillA, AV.cells, splice, spliceC, finA, leaveA, resA, resV, ansV, keepE, readsOf, opds, tmpsOf, Env.get_cons, wantedA, putE, repCells, elemsA, takeC, dropC, Cells.toList, h.t1, h.t3, h9, o0, h.o2, hi, hi', d1, d3, hr, hC, hl4, ht4, hal, hA, hrv, f2]; rfl) (by simp [carry, keepE, readsOf, opds, tmpsOf, Env.get_cons, wantedA, putE]; rfl) (by simp [wrIds, refV, keepE, readsOf, opds, tmpsOf, Env.get_cons, wantedA, putE, ev, evs, target, touchF, touch, collect, idsL, idsV, idsO, h.t1, h.t3, h9, o0, h.o2, hi, hi', d1, d3, hr, hC, hl4, ht4, hal, hA, hrv, f2]; rfl)).trans ?_
      refine (drawS rfl rfl (by simp [stillOp, valsOp, refOf, refV, oneH, exec, runOps, wantedA, stepOp, pureOp, allocOp, readOp, effOp, ev, evs, evO, Env.get_cons, putE, binA, intBin, unA, AV.fit, AV.toCells, partC, partP, mkCells, allP, mkAgg, Cells.len, target, evParts, fillA, AV.cells, splice, spliceC, finA, leaveA, resA, resV, ansV, idxA, lenA, takeC, dropC, Cells.get?, keepE, readsOf, opds, tmpsOf, Env.get_cons, wantedA, putE, h.t1, h.t3, h9, o0, h.o2, hi, hi', d1, d3, hr, hC, hl4, ht4, hal, hA, hrv, f2]; rfl)).trans ?_
      refine (drawE rfl rfl (by simp [exec, runOps, wantedA, stepOp, pureOp, allocOp, readOp, effOp, ev, evs, evO, Env.get_cons, putE, binA, intBin, unA, AV.fit, AV.toCells, partC, partP, mkCells, allP, mkAgg, Cells.len, target, evParts, fillA, AV.cells, splice, spliceC, finA, leaveA, resA, resV, ansV, keepE, readsOf, opds, tmpsOf, Env.get_cons, wantedA, putE, repCells, elemsA, takeC, dropC, Cells.toList, h.t1, h.t3, h9, o0, h.o2, hi, hi', d1, d3, hr, hC, hl4, ht4, hal, hA, hrv, f2]; rfl) (by simp [carry, keepE, readsOf, opds, tmpsOf, Env.get_cons, wantedA, putE]; rfl) (by simp [wrIds, refV, keepE, readsOf, opds, tmpsOf, Env.get_cons, wantedA, putE, ev, evs, target, touchF, touch, collect, idsL, idsV, idsO, h.t1, h.t3, h9, o0, h.o2, hi, hi', d1, d3, hr, hC, hl4, ht4, hal, hA, hrv, f2]; rfl)).trans ?_
      exact rfl, by rfl, ⟨_, _, _, _, _, by rfl, hl2, hl2⟩, by rfl, by rfl, ?_⟩
  refine ⟨by simp [putE, Env.get_cons, h.t1], by simp [putE, Env.get_cons, h.t2], by simp [putE, Env.get_cons, h.t3], by simp [putE, Env.get_cons, h.t6], by simp [putE, Env.get_cons, h.t8], ?_, ?_, ?_, hb3, ?_⟩
  · rw [List.getElem?_set_ne (by decide)]; exact f0
  · rw [List.getElem?_set_ne (by decide)]; exact f1
  · rw [List.getElem?_set_self (List.getElem?_eq_some_iff.1 f2).1]
  · intro j hj
    rcases hown j hj with hb | hb
    · exact h.ob j hb
    · simp at hb; omega
/-- which child comes next -/
def kid (q : Bool) (i : Nat) : Nat := if q = true then 1 - i else i
theorem go18b (σ : Heap) (b : AV) (ds : List T) (h : Bt18 op s n l ρ σ i q cur b ds) (hr : Marks.raw 18 = false) (hi : i < l.length) (hl : l.length ≤ 1048576) (hq : q = true → l.length = 2) (c : T) (hc : l[kid q i]? = some c) (hds : ds.length = i)
    (hC : ∀ σ, C 18 [.p (node c)] σ = some (.ret (.p (node (trn c))), σ)) :
    ∃ ρ' σ' b', exec C L n18_7_2kb ⟨ρ, [], σ⟩ = some (.normal, ⟨ρ', [], σ'⟩) ∧ Bt18 op s n l ρ' σ' (i + 1) q cur b' (ds ++ [trn c]) := by
  have o0 := h.o0
  simp only [cells] at o0
  have hi' : (i : Int) < (l.length : Int) := by omega
  obtain ⟨ρ1, e1, g1⟩ : ∃ ρ1, exec C L n18_7_2kb_1 ⟨ρ, [], σ⟩ = some (.normal, ⟨ρ1, [], σ⟩) ∧ Bt18 op s n l ρ1 σ i q cur b ds :=
    ⟨_, by simp [n18_7_2kb_1, n18_7_2kb_1_1, n18_7_2kb_1_2, exec, runOps, wantedA, stepOp, pureOp, allocOp, readOp, effOp, ev, evs, evO, Env.get_cons, putE, binA, intBin, unA, AV.fit, AV.toCells, partC, partP, mkCells, allP, mkAgg, Cells.len, target, lenA, takeC, dropC, Cells.get?, h.t1, h.t8, o0, hi']; rfl, ⟨by simp [Env.get_cons, h.t1], by simp [Env.get_cons, h.t2], by simp [Env.get_cons, h.t3], by simp [Env.get_cons, h.t6], by simp [Env.get_cons, h.t8], h.o0, h.o1, h.o2, h.bf, h.ob⟩⟩
  obtain ⟨ρ2, e2, g2, g9⟩ : ∃ ρ2, exec C L (.seq n18_7_2kb_2k_1 n18_7_2kb_2k_2) ⟨ρ1, [], σ⟩ = some (.normal, ⟨ρ2, [], σ⟩) ∧ Bt18 op s n l ρ2 σ i q cur b ds ∧ ρ2.get 9 = some (int (kid q i)) := by
    cases q with
    | false => exact ⟨_, by simp [n18_7_2kb_2k_1, n18_7_2kb_2k_2, n18_7_2kb_2k_2_1, n18_7_2kb_2k_2_2, exec, runOps, wantedA, stepOp, pureOp, allocOp, readOp, effOp, ev, evs, evO, Env.get_cons, putE, binA, intBin, unA, AV.fit, AV.toCells, partC, partP, mkCells, allP, mkAgg, Cells.len, target, g1.t8, g1.t6]; rfl, ⟨by simp [Env.get_cons, g1.t1], by simp [Env.get_cons, g1.t2], by simp [Env.get_cons, g1.t3], by simp [Env.get_cons, g1.t6], by simp [Env.get_cons, g1.t8], h.o0, h.o1, h.o2, h.bf, h.ob⟩, by simp [Env.get_cons, kid]⟩
    | true =>
      have h2 := hq rfl
      have e3 : IntKind.i64.wrap (1 - (i : Int)) = ((1 - i : Nat) : Int) := by rw [wrap_id _ (by omega) (by omega)]; omega
      exact ⟨_, by simp [n18_7_2kb_2k_1, n18_7_2kb_2k_2, n18_7_2kb_2k_2_1, n18_7_2kb_2k_2_2, exec, runOps, wantedA, stepOp, pureOp, allocOp, readOp, effOp, ev, evs, evO, Env.get_cons, putE, binA, intBin, unA, AV.fit, AV.toCells, partC, partP, mkCells, allP, mkAgg, Cells.len, target, g1.t8, g1.t6, e3]; rfl, ⟨by simp [Env.get_cons, g1.t1], by simp [Env.get_cons, g1.t2], by simp [Env.get_cons, g1.t3], by simp [Env.get_cons, g1.t6], by simp [Env.get_cons, g1.t8], h.o0, h.o1, h.o2, h.bf, h.ob⟩, by simp [Env.get_cons, kid]⟩
  obtain ⟨ρ3, σ3, b3, e3, g3⟩ := add18 C L op s n l cur ρ2 i q σ b ds g2 hr (kid q i) c hc g9 (by omega) hC
  have e4 : IntKind.i64.wrap ((i : Int) + 1) = (i : Int) + 1 := wrap_id _ (by omega) (by omega)
  refine ⟨(8, int (i + 1)) :: (56, int (i + 1)) :: (55, int i) :: ρ3, σ3, b3, ?_, ⟨by simp [Env.get_cons, g3.t1], by simp [Env.get_cons, g3.t2], by simp [Env.get_cons, g3.t3], by simp [Env.get_cons, g3.t6], by simp [Env.get_cons], g3.o0, g3.o1, g3.o2, g3.bf, g3.ob⟩⟩
  have e23 : exec C L n18_7_2kb_2 ⟨ρ1, [], σ⟩ = some (.normal, ⟨ρ3, [], σ3⟩) := by
    unfold n18_7_2kb_2 n18_7_2kb_2k
    refine blockN ?_
    rw [seq_assoc, seqN e2]
    exact e3
  unfold n18_7_2kb
  rw [seqN e1, seqN e23]
  simp [n18_7_2kb_3, exec, runOps, wantedA, stepOp, pureOp, allocOp, readOp, effOp, ev, evs, evO, Env.get_cons, putE, binA, intBin, unA, AV.fit, AV.toCells, partC, partP, mkCells, allP, mkAgg, Cells.len, target, g3.t8, e4]
end
theorem loop18b (C : Oracle) (L : Nat) (op s : Word) (n : Int) (l : List T) (cur : Word) (q : Bool) (hr : Marks.raw 18 = false) (hl : l.length ≤ 1048576) (hq : q = true → l.length = 2)
    (W : List T) (hW : ∀ i, i < l.length → ∃ c, l[kid q i]? = some c ∧ W[i]? = some (trn c)) (hWl : W.length = l.length) (hC : ∀ c ∈ l, ∀ σ, C 18 [.p (node c)] σ = some (.ret (.p (node (trn c))), σ)) :
    ∀ (d f i : Nat) (ρ : Env) (σ : Heap) (b : AV), l.length - i ≤ d → d < f → i ≤ l.length → Bt18 op s n l ρ σ i q cur b (W.take i) →
    ∃ ρ' σ' b', iter (exec C L n18_7_2kb) none f ⟨ρ, [], σ⟩ = some (.exit 2, ⟨ρ', [], σ'⟩) ∧ Bt18 op s n l ρ' σ' l.length q cur b' W
  | d, f, i, ρ, σ, b, hd, hf, hi, h => by
    obtain ⟨f, rfl⟩ : ∃ m, f = m + 1 := ⟨f - 1, by omega⟩
    by_cases hs : i = l.length
    · subst hs
      rw [List.take_of_length_le (by omega)] at h
      obtain ⟨ρ', e, g⟩ := stop18b C L op s n l cur ρ q σ b W h
      exact ⟨ρ', σ, b, by simp only [iter, St.keep, e], g⟩
    · have hi : i < l.length := by omega
      obtain ⟨c, hc, hw⟩ := hW i hi
      obtain ⟨ρ1, σ1, b1, e, g⟩ := go18b C L op s n l cur ρ i q σ b (W.take i) h hr hi hl hq c hc (by simp; omega) (hC c (List.mem_of_getElem? hc))
      obtain ⟨d, rfl⟩ : ∃ m, d = m + 1 := ⟨d - 1, by omega⟩
      have ht : W.take (i + 1) = W.take i ++ [trn c] := by rw [List.take_add_one, hw]; rfl
      rw [← ht] at g
      obtain ⟨ρ', σ', b', e', q'⟩ := loop18b C L op s n l cur q hr hl hq W hW hWl hC d f (i + 1) ρ1 σ1 b1 (by omega) (by omega) (by omega) g
      exact ⟨ρ', σ', b', by simp only [iter, St.keep, e]; exact e', q'⟩
theorem trnL_get : ∀ (l : List T) (i : Nat), (trnL l)[i]? = (l[i]?).map trn
  | [], i => rfl
  | t :: r, 0 => rfl
  | t :: r, i + 1 => by simp [trnL, trnL_get r i]
/-- the children, turned -/
theorem kids_turned (l : List T) (q : Bool) (hq : q = true → l.length = 2) : (∀ i, i < l.length → ∃ c, l[kid q i]? = some c ∧ (if q = true then (trnL l).reverse else trnL l)[i]? = some (trn c)) ∧ (if q = true then (trnL l).reverse else trnL l).length = l.length := by
  cases q with
  | false =>
    refine ⟨fun i hi => ⟨l[i], List.getElem?_eq_getElem hi, ?_⟩, trnL_len l⟩
    simp [trnL_get, hi]
  | true =>
    have h2 := hq rfl
    match l, h2 with
    | [x, y], _ =>
      refine ⟨fun i hi => ?_, by simp [trnL]⟩
      match i, hi with
      | 0, _ => exact ⟨y, rfl, rfl⟩
      | 1, _ => exact ⟨x, rfl, rfl⟩
theorem frz_agg4 {tl : List Nat} {d : Nat} {σ σ2 : Heap} {a b c v : PV} {x : AV} (h : frz tl (d + 1) σ x = some (v, σ2)) : frz tl (d + 2) σ (.agg [.p a, .p b, .p c, x]) = some (.agg [a, b, c, v], σ2) := by
  have e : ∀ p, frz tl (d + 1) σ (.p p) = some (p, σ) := fun _ => rfl
  show (match frzs (frz tl (d + 1)) σ [.p a, .p b, .p c, x] with
    | some (ps, σ1) => some (PV.agg ps, σ1)
    | none => none) = _
  simp only [frzs, e, h]
/-- the law's turned tree -/
theorem turned18 {Tb : Table} {L : Nat} (hT : Tb 18 = some (.ans lit18)) (hr : Marks.raw 18 = false) (hL : 5 ≤ L) : ∀ (m : Nat) (t : T), deep t ≤ m → okT t → broad t < L → ∀ σ, (cAt Tb L m).1 18 [.p (node t)] σ = some (.ret (.p (node (trn t))), σ)
  | 0, .mk _ _ _ _, h, _, _, _ => by simp [deep] at h
  | m + 1, .mk op s n l, h, hok, hb, σ => by
    simp only [deep, Nat.add_le_add_iff_right] at h
    simp only [broad] at hb
    simp only [okT, allT] at hok
    have hl : l.length < L := Nat.lt_of_le_of_lt (Nat.le_max_left _ _) hb
    have ih : ∀ c ∈ l, ∀ σ, (cAt Tb L m).1 18 [.p (node c)] σ = some (.ret (.p (node (trn c))), σ) := fun c hc =>
      turned18 hT hr hL m c (Nat.le_trans (deepL_mem hc) h) (allTL_mem hok.2 hc) (Nat.lt_of_le_of_lt (broadL_mem hc) (Nat.lt_of_le_of_lt (Nat.le_max_right _ _) hb))
    have key : ∃ (v : AV) (σ1 σ2 : Heap), runFunc (cAt Tb L m).1 (cAt Tb L m).2 L lit18 [.p (node (.mk op s n l))] [] = some (.ret v, σ1) ∧ frz (List.range σ1.length) 9 σ1 v = some (node (trn (.mk op s n l)), σ2) := by
      generalize (cAt Tb L m).1 = C at ih ⊢
      generalize (cAt Tb L m).2 = D
      obtain ⟨y, hy⟩ : ∃ y, ((l.length : Int) == 2) = y := ⟨_, rfl⟩
      have hq : (y && isCmp op) = true → l.length = 2 := by
        intro hh
        simp only [Bool.and_eq_true] at hh
        rw [hh.1] at hy
        have := eq_of_beq hy
        omega
      obtain ⟨hW, hWl⟩ := kids_turned l (y && isCmp op) hq
      obtain ⟨ρ5, r5, A5⟩ : ∃ ρ5, exec C L (.seq (.seq (.seq (.seq n18_1 n18_2) n18_3) n18_4) n18_5) ⟨[(0, .p (node (.mk op s n l)))], [], []⟩ = some (.normal, ⟨ρ5, [], heap18 op s n l op⟩) ∧ At18 ((7, int 0) :: ρ5) 0 (y && (op == [61])) := by
        cases y with
        | true =>
          refine ⟨_, by simp [n18_1, n18_2, n18_3, n18_4, n18_5, exec, runOps, wantedA, stepOp, pureOp, allocOp, readOp, effOp, ev, evs, evO, Env.get_cons, putE, binA, intBin, unA, AV.fit, AV.toCells, partC, partP, mkCells, allP, mkAgg, Cells.len, target, evParts, fillA, AV.cells, splice, spliceC, finA, leaveA, resA, resV, ansV, cells, Cells.get?, Cells.toList, takeC, dropC, lenA, repCells, hy, heap18]; rfl, ⟨rfl, rfl, rfl, rfl, rfl, ?_, rfl⟩⟩
          simp [Env.get_cons]
        | false => exact ⟨_, by simp [n18_1, n18_2, n18_3, n18_4, n18_5, exec, runOps, wantedA, stepOp, pureOp, allocOp, readOp, effOp, ev, evs, evO, Env.get_cons, putE, binA, intBin, unA, AV.fit, AV.toCells, partC, partP, mkCells, allP, mkAgg, Cells.len, target, evParts, fillA, AV.cells, splice, spliceC, finA, leaveA, resA, resV, ansV, cells, Cells.get?, Cells.toList, takeC, dropC, lenA, repCells, hy, heap18]; rfl, ⟨rfl, rfl, rfl, rfl, rfl, rfl, rfl⟩⟩
      obtain ⟨ρ6, r6, A6⟩ := loop18a C L op s n l _ _ A5 y hy rfl L hL
      have e6 : exec C L n18_6 ⟨ρ5, [], heap18 op s n l op⟩ = some (.normal, ⟨ρ6, [], heap18 op s n l (if y = true then flip op else op)⟩) := by
        unfold n18_6
        rw [seqN (a := n18_6_1) (by simp [n18_6_1, exec, runOps, wantedA, stepOp, pureOp, allocOp, readOp, effOp, ev, evs, evO, Env.get_cons, putE, binA, intBin, unA, AV.fit, AV.toCells, partC, partP, mkCells, allP, mkAgg, Cells.len, target]; rfl)]
        unfold n18_6_2 n18_6_2k
        exact blockX (by simp only [exec]; exact r6)
      generalize hcur : (if y = true then flip op else op) = cur at *
      obtain ⟨ρ7, σ7, b7, r7, A7⟩ := loop18b C L op s n l cur (y && isCmp op) hr hok.1.2.2 hq _ hW hWl ih l.length L 0 ((8, int 0) :: ρ6) (heap18 op s n l cur) .nil0 (by omega) (by omega) (by omega)
        ⟨by simp [Env.get_cons, A6.t1], by simp [Env.get_cons, A6.t2], by simp [Env.get_cons, A6.t3], by simp [Env.get_cons, A6.t6], rfl, rfl, rfl, rfl, by simpa [cellsL] using Buf.nil, by simp [own]⟩
      have e7 : exec C L n18_7 ⟨ρ6, [], heap18 op s n l cur⟩ = some (.normal, ⟨ρ7, [], σ7⟩) := by
        unfold n18_7
        rw [seqN (a := n18_7_1) (by simp [n18_7_1, exec, runOps, wantedA, stepOp, pureOp, allocOp, readOp, effOp, ev, evs, evO, Env.get_cons, putE, binA, intBin, unA, AV.fit, AV.toCells, partC, partP, mkCells, allP, mkAgg, Cells.len, target]; rfl)]
        unfold n18_7_2 n18_7_2k
        exact blockX (by simp only [exec]; exact r7)
      have hl1 : 1 < σ7.length := (List.getElem?_eq_some_iff.1 A7.o1).1
      obtain ⟨W, hWd⟩ : ∃ W, W = (if (y && isCmp op) = true then (trnL l).reverse else trnL l) := ⟨_, rfl⟩
      rw [← hWd] at A7 hWl
      have hrun : runFunc C D L lit18 [.p (node (.mk op s n l))] [] = some (.ret (.agg [.p (.str cur), .p (.str s), .p (.int .i64 n), b7]), σ7.set 1 (out18 cur s n b7)) := by
        rw [runFunc_eq, lit18_tree]
        unfold n18
        rw [seq_assoc, seq_assoc, seq_assoc, seq_assoc]
        have r5' : exec C L (.seq (.seq (.seq (.seq n18_1 n18_2) n18_3) n18_4) n18_5) ⟨params 0 [.p (node (.mk op s n l))], [], []⟩ = some (.normal, ⟨ρ5, [], heap18 op s n l op⟩) := r5
        rw [seqN r5', seqN e6, seqN e7]
        have hs1 : ∀ x : Obj, (σ7.set 1 x)[1]? = some x := fun x => List.getElem?_set_self hl1
        have hb := A7.bf
        rcases hb.2 with ⟨rfl, _⟩ | ⟨_, id, ver, rfl, _⟩
        · simp [n18_8, exec, runOps, wantedA, stepOp, pureOp, allocOp, readOp, effOp, ev, evs, evO, Env.get_cons, putE, binA, intBin, unA, AV.fit, AV.toCells, partC, partP, mkCells, allP, mkAgg, Cells.len, target, evParts, fillA, AV.cells, splice, spliceC, finA, leaveA, resA, resV, ansV, finX, mixed, lit18, Cells.toList, takeC, dropC, A7.t3, A7.t2, A7.o1, A7.o2, hs1]
        · simp [n18_8, exec, runOps, wantedA, stepOp, pureOp, allocOp, readOp, effOp, ev, evs, evO, Env.get_cons, putE, binA, intBin, unA, AV.fit, AV.toCells, partC, partP, mkCells, allP, mkAgg, Cells.len, target, evParts, fillA, AV.cells, splice, spliceC, finA, leaveA, resA, resV, ansV, finX, mixed, lit18, Cells.toList, takeC, dropC, A7.t3, A7.t2, A7.o1, A7.o2, hs1]
      have hb2 : Buf 45 4 (σ7.set 1 (out18 cur s n b7)) b7 (cellsL W) W.length := A7.bf.same fun j hj => by
        have := A7.ob j hj
        rw [List.getElem?_set_ne (by omega)]
      obtain ⟨σ8, hz, _⟩ := hb2.frz (d := 7)
      refine ⟨_, _, σ8, hrun, ?_⟩
      have hT2 : trn (.mk op s n l) = .mk cur s n W := by
        rw [← hcur, hWd]
        unfold trn
        have hy2 : y = decide (l.length = 2) := by
          rw [← hy]
          by_cases h2 : l.length = 2
          · simp [h2]
          · have : ¬ (l.length : Int) = 2 := by omega
            simp [h2, this]
        rw [hy2]
        by_cases h2 : l.length = 2 <;> simp [h2]
      rw [hT2]
      have hz' : frz (List.range (σ7.set 1 (out18 cur s n b7)).length) 8 (σ7.set 1 (out18 cur s n b7)) b7 = some (.vsl (cellsL W) W.length, σ8) := hz
      exact frz_agg4 hz'
    obtain ⟨v, σ1, σ2, hrun, hz⟩ := key
    exact call_frz (ps := [node (.mk op s n l)]) hT (by rfl) hrun hz σ
end Go.Ab.Turn

/- PlanTurned: the value of a tree that is one; a sign, turned around. -/
set_option maxRecDepth 1000000
namespace Go.Ab.Turn
open Go Go.Ab Go.Ab.Plan Go.Ab.Key Go.Ab.Cnt Go.Proofs
variable [Marks]
/-- a value that a tree tells -/
def litV : Lit → V
  | .num n => .num n
  | .text s => .text s
  | .bool n => .bool (n != 0)
abbrev zeroV : List PV := [.int .i64 0, .int .i64 0, .str [], .bool false]
def litC : Option Lit → List PV
  | some v => vc (litV v)
  | none => zeroV
theorem wrap_neg (n : Int) (h : inR n) : IntKind.i64.wrap (-n) = negI n := by
  unfold inR at h
  unfold negI
  by_cases h1 : n = -9223372036854775808
  · subst h1; decide
  · rw [if_neg h1]; exact wrap_id _ (by omega) (by omega)
theorem ne_beq {a b : Word} (h : ¬ a = b) : (a == b) = false := beq_eq_false_iff_ne.2 h
section
variable (C : Oracle) (D : DOracle) (L : Nat)
theorem run31 (t : T) (hok : okT t) (h35 : ∀ n σ, C 35 [int n] σ = some (.ret (.p (.agg [.int .i64 1, .int .i64 n, .str [], .bool false])), σ)) (h36 : ∀ s σ, C 36 [.p (.str s)] σ = some (.ret (.p (.agg [.int .i64 2, .int .i64 0, .str s, .bool false])), σ)) :
    ansV (runFunc C D L lit31 [.p (node t)] []) = some (.tup [.agg (litC (lit t)), .bool (lit t).isSome]) := by
  rw [runFunc_eq, lit31_tree]
  cases t with
  | mk op s n l =>
    simp only [okT, allT] at hok
    have hb : ((n == 0) = false) = (n ≠ 0) := by simp
    unfold n31
    rw [seqN (a := n31_1) (by simp [n31_1, params, exec, runOps, wantedA, stepOp, pureOp, allocOp, readOp, effOp, ev, evs, evO, Env.get_cons, putE, binA, intBin, unA, AV.fit, AV.toCells, partC, partP, mkCells, allP, mkAgg, Cells.len, target, cells]; rfl)]
    unfold n31_2
    rw [← seq_assoc, seqN (a := n31_2_1) (by simp [n31_2_1, exec, runOps, wantedA, stepOp, pureOp, allocOp, readOp, effOp, ev, evs, evO, Env.get_cons, putE, binA, intBin, unA, AV.fit, AV.toCells, partC, partP, mkCells, allP, mkAgg, Cells.len, target, takeC, dropC, Cells.get?]; rfl)]
    unfold n31_2_2 n31_2_2k
    by_cases h1 : op = [110, 117, 109]
    · subst h1
      simp [n31_2_2k_1, n31_2_2k_2, n31_2_2k_2t, n31_2_2k_2t_1, n31_2_2k_2e, n31_2_2k_2e_1, n31_2_2k_2e_2, n31_2_2k_2e_2t, n31_2_2k_2e_2t_1, n31_2_2k_2e_2e, n31_2_2k_2e_2e_1, n31_2_2k_2e_2e_2, n31_2_2k_2e_2e_2t, n31_2_2k_2e_2e_2t_1, n31_2_2k_2e_2e_2e, n31_2_2k_2e_2e_2e_1, n31_2_2k_2e_2e_2e_2, n31_2_2k_2e_2e_2e_2t, n31_2_2k_2e_2e_2e_2t_1, n31_2_2k_2e_2e_2e_2t_2, n31_2_2k_2e_2e_2e_2t_2t, n31_2_2k_2e_2e_2e_2t_2t_1, n31_3, exec, runOps, wantedA, stepOp, pureOp, allocOp, readOp, effOp, ev, evs, evO, Env.get_cons, putE, binA, intBin, unA, AV.fit, AV.toCells, partC, partP, mkCells, allP, mkAgg, Cells.len, target, evParts, fillA, AV.cells, splice, spliceC, finA, leaveA, resA, resV, ansV, strBin, finX, mixed, lit31, h35, h36, takeC, dropC, Cells.get?, Cells.toList, lit, litC, litV, T.op, T.n, T.s, T.l, vc, mkTup]
    · have b1 := ne_beq h1
      by_cases h2 : op = [116, 101, 120, 116]
      · subst h2
        simp [n31_2_2k_1, n31_2_2k_2, n31_2_2k_2t, n31_2_2k_2t_1, n31_2_2k_2e, n31_2_2k_2e_1, n31_2_2k_2e_2, n31_2_2k_2e_2t, n31_2_2k_2e_2t_1, n31_2_2k_2e_2e, n31_2_2k_2e_2e_1, n31_2_2k_2e_2e_2, n31_2_2k_2e_2e_2t, n31_2_2k_2e_2e_2t_1, n31_2_2k_2e_2e_2e, n31_2_2k_2e_2e_2e_1, n31_2_2k_2e_2e_2e_2, n31_2_2k_2e_2e_2e_2t, n31_2_2k_2e_2e_2e_2t_1, n31_2_2k_2e_2e_2e_2t_2, n31_2_2k_2e_2e_2e_2t_2t, n31_2_2k_2e_2e_2e_2t_2t_1, n31_3, exec, runOps, wantedA, stepOp, pureOp, allocOp, readOp, effOp, ev, evs, evO, Env.get_cons, putE, binA, intBin, unA, AV.fit, AV.toCells, partC, partP, mkCells, allP, mkAgg, Cells.len, target, evParts, fillA, AV.cells, splice, spliceC, finA, leaveA, resA, resV, ansV, strBin, finX, mixed, lit31, h35, h36, takeC, dropC, Cells.get?, Cells.toList, lit, litC, litV, T.op, T.n, T.s, T.l, vc, mkTup]
      · have b2 := ne_beq h2
        by_cases h3 : op = [98, 111, 111, 108]
        · subst h3
          simp [n31_2_2k_1, n31_2_2k_2, n31_2_2k_2t, n31_2_2k_2t_1, n31_2_2k_2e, n31_2_2k_2e_1, n31_2_2k_2e_2, n31_2_2k_2e_2t, n31_2_2k_2e_2t_1, n31_2_2k_2e_2e, n31_2_2k_2e_2e_1, n31_2_2k_2e_2e_2, n31_2_2k_2e_2e_2t, n31_2_2k_2e_2e_2t_1, n31_2_2k_2e_2e_2e, n31_2_2k_2e_2e_2e_1, n31_2_2k_2e_2e_2e_2, n31_2_2k_2e_2e_2e_2t, n31_2_2k_2e_2e_2e_2t_1, n31_2_2k_2e_2e_2e_2t_2, n31_2_2k_2e_2e_2e_2t_2t, n31_2_2k_2e_2e_2e_2t_2t_1, n31_3, exec, runOps, wantedA, stepOp, pureOp, allocOp, readOp, effOp, ev, evs, evO, Env.get_cons, putE, binA, intBin, unA, AV.fit, AV.toCells, partC, partP, mkCells, allP, mkAgg, Cells.len, target, evParts, fillA, AV.cells, splice, spliceC, finA, leaveA, resA, resV, ansV, strBin, finX, mixed, lit31, h35, h36, takeC, dropC, Cells.get?, Cells.toList, lit, litC, litV, T.op, T.n, T.s, T.l, vc, mkTup]
        · have b3 := ne_beq h3
          by_cases h4 : op = [110, 101, 103]
          · subst h4
            match l, hok with
            | [], _ =>
              simp [n31_2_2k_1, n31_2_2k_2, n31_2_2k_2t, n31_2_2k_2t_1, n31_2_2k_2e, n31_2_2k_2e_1, n31_2_2k_2e_2, n31_2_2k_2e_2t, n31_2_2k_2e_2t_1, n31_2_2k_2e_2e, n31_2_2k_2e_2e_1, n31_2_2k_2e_2e_2, n31_2_2k_2e_2e_2t, n31_2_2k_2e_2e_2t_1, n31_2_2k_2e_2e_2e, n31_2_2k_2e_2e_2e_1, n31_2_2k_2e_2e_2e_2, n31_2_2k_2e_2e_2e_2t, n31_2_2k_2e_2e_2e_2t_1, n31_2_2k_2e_2e_2e_2t_2, n31_2_2k_2e_2e_2e_2t_2t, n31_2_2k_2e_2e_2e_2t_2t_1, n31_3, exec, runOps, wantedA, stepOp, pureOp, allocOp, readOp, effOp, ev, evs, evO, Env.get_cons, putE, binA, intBin, unA, AV.fit, AV.toCells, partC, partP, mkCells, allP, mkAgg, Cells.len, target, evParts, fillA, AV.cells, splice, spliceC, finA, leaveA, resA, resV, ansV, strBin, finX, mixed, lit31, h35, h36, takeC, dropC, Cells.get?, Cells.toList, lit, litC, litV, T.op, T.n, T.s, T.l, vc, mkTup, lenA]
            | [.mk zo zs zn zl], hok =>
              have hz : inR zn := hok.2.1.1.1
              have e1 := wrap_neg zn hz
              by_cases h5 : zo = [110, 117, 109]
              · subst h5
                simp [n31_2_2k_1, n31_2_2k_2, n31_2_2k_2t, n31_2_2k_2t_1, n31_2_2k_2e, n31_2_2k_2e_1, n31_2_2k_2e_2, n31_2_2k_2e_2t, n31_2_2k_2e_2t_1, n31_2_2k_2e_2e, n31_2_2k_2e_2e_1, n31_2_2k_2e_2e_2, n31_2_2k_2e_2e_2t, n31_2_2k_2e_2e_2t_1, n31_2_2k_2e_2e_2e, n31_2_2k_2e_2e_2e_1, n31_2_2k_2e_2e_2e_2, n31_2_2k_2e_2e_2e_2t, n31_2_2k_2e_2e_2e_2t_1, n31_2_2k_2e_2e_2e_2t_2, n31_2_2k_2e_2e_2e_2t_2t, n31_2_2k_2e_2e_2e_2t_2t_1, n31_3, exec, runOps, wantedA, stepOp, pureOp, allocOp, readOp, effOp, ev, evs, evO, Env.get_cons, putE, binA, intBin, unA, AV.fit, AV.toCells, partC, partP, mkCells, allP, mkAgg, Cells.len, target, evParts, fillA, AV.cells, splice, spliceC, finA, leaveA, resA, resV, ansV, strBin, finX, mixed, lit31, h35, h36, takeC, dropC, Cells.get?, Cells.toList, lit, litC, litV, T.op, T.n, T.s, T.l, vc, mkTup, lenA, cellsL, cells, idxA, e1]
              · have b5 := ne_beq h5
                simp [n31_2_2k_1, n31_2_2k_2, n31_2_2k_2t, n31_2_2k_2t_1, n31_2_2k_2e, n31_2_2k_2e_1, n31_2_2k_2e_2, n31_2_2k_2e_2t, n31_2_2k_2e_2t_1, n31_2_2k_2e_2e, n31_2_2k_2e_2e_1, n31_2_2k_2e_2e_2, n31_2_2k_2e_2e_2t, n31_2_2k_2e_2e_2t_1, n31_2_2k_2e_2e_2e, n31_2_2k_2e_2e_2e_1, n31_2_2k_2e_2e_2e_2, n31_2_2k_2e_2e_2e_2t, n31_2_2k_2e_2e_2e_2t_1, n31_2_2k_2e_2e_2e_2t_2, n31_2_2k_2e_2e_2e_2t_2t, n31_2_2k_2e_2e_2e_2t_2t_1, n31_3, exec, runOps, wantedA, stepOp, pureOp, allocOp, readOp, effOp, ev, evs, evO, Env.get_cons, putE, binA, intBin, unA, AV.fit, AV.toCells, partC, partP, mkCells, allP, mkAgg, Cells.len, target, evParts, fillA, AV.cells, splice, spliceC, finA, leaveA, resA, resV, ansV, strBin, finX, mixed, lit31, h35, h36, takeC, dropC, Cells.get?, Cells.toList, lit, litC, litV, T.op, T.n, T.s, T.l, vc, mkTup, lenA, cellsL, cells, idxA, b5, h5]
            | x :: y :: r, _ =>
              have hn' : ¬ ((r.length : Int) + 1 + 1 = 1) := by omega
              have hn : ((r.length : Int) + 1 + 1 == 1) = false := beq_eq_false_iff_ne.2 hn'
              simp [n31_2_2k_1, n31_2_2k_2, n31_2_2k_2t, n31_2_2k_2t_1, n31_2_2k_2e, n31_2_2k_2e_1, n31_2_2k_2e_2, n31_2_2k_2e_2t, n31_2_2k_2e_2t_1, n31_2_2k_2e_2e, n31_2_2k_2e_2e_1, n31_2_2k_2e_2e_2, n31_2_2k_2e_2e_2t, n31_2_2k_2e_2e_2t_1, n31_2_2k_2e_2e_2e, n31_2_2k_2e_2e_2e_1, n31_2_2k_2e_2e_2e_2, n31_2_2k_2e_2e_2e_2t, n31_2_2k_2e_2e_2e_2t_1, n31_2_2k_2e_2e_2e_2t_2, n31_2_2k_2e_2e_2e_2t_2t, n31_2_2k_2e_2e_2e_2t_2t_1, n31_3, exec, runOps, wantedA, stepOp, pureOp, allocOp, readOp, effOp, ev, evs, evO, Env.get_cons, putE, binA, intBin, unA, AV.fit, AV.toCells, partC, partP, mkCells, allP, mkAgg, Cells.len, target, evParts, fillA, AV.cells, splice, spliceC, finA, leaveA, resA, resV, ansV, strBin, finX, mixed, lit31, h35, h36, takeC, dropC, Cells.get?, Cells.toList, lit, litC, litV, T.op, T.n, T.s, T.l, vc, mkTup, lenA, hn, hn']
          · have b4 := ne_beq h4
            simp [n31_2_2k_1, n31_2_2k_2, n31_2_2k_2t, n31_2_2k_2t_1, n31_2_2k_2e, n31_2_2k_2e_1, n31_2_2k_2e_2, n31_2_2k_2e_2t, n31_2_2k_2e_2t_1, n31_2_2k_2e_2e, n31_2_2k_2e_2e_1, n31_2_2k_2e_2e_2, n31_2_2k_2e_2e_2t, n31_2_2k_2e_2e_2t_1, n31_2_2k_2e_2e_2e, n31_2_2k_2e_2e_2e_1, n31_2_2k_2e_2e_2e_2, n31_2_2k_2e_2e_2e_2t, n31_2_2k_2e_2e_2e_2t_1, n31_2_2k_2e_2e_2e_2t_2, n31_2_2k_2e_2e_2e_2t_2t, n31_2_2k_2e_2e_2e_2t_2t_1, n31_3, exec, runOps, wantedA, stepOp, pureOp, allocOp, readOp, effOp, ev, evs, evO, Env.get_cons, putE, binA, intBin, unA, AV.fit, AV.toCells, partC, partP, mkCells, allP, mkAgg, Cells.len, target, evParts, fillA, AV.cells, splice, spliceC, finA, leaveA, resA, resV, ansV, strBin, finX, mixed, lit31, h35, h36, takeC, dropC, Cells.get?, Cells.toList, lit, litC, litV, T.op, T.n, T.s, T.l, vc, mkTup, b1, b2, b3, b4, h1, h2, h3, h4]
theorem run30 (op : Word) : ansV (runFunc C D L lit30 [.p (.str op)] []) = some (.str (if isCmp op = true then flip op else [])) := by
  by_cases h1 : op = [61]
  · subst h1
    rfl
  · by_cases h2 : op = [60]
    · subst h2
      rfl
    · by_cases h3 : op = [60, 61]
      · subst h3
        rfl
      · by_cases h4 : op = [62]
        · subst h4
          rfl
        · by_cases h5 : op = [62, 61]
          · subst h5
            rfl
          · have hc : isCmp op = false := by simp [isCmp, h1, h2, h3, h4, h5]
            rw [hc]
            simp [runFunc, lit30, params, exec, runOps, wantedA, stepOp, pureOp, allocOp, readOp, effOp, ev, evs, evO, Env.get_cons, putE, binA, intBin, unA, AV.fit, AV.toCells, partC, partP, mkCells, allP, mkAgg, Cells.len, target, evParts, fillA, AV.cells, splice, spliceC, finA, leaveA, resA, resV, ansV, strBin, mixed, ne_beq h1, ne_beq h2, ne_beq h3, ne_beq h4, ne_beq h5]
theorem run35 (n : Int) : ansV (runFunc C D L lit35 [int n] []) = some (.agg [.int .i64 1, .int .i64 n, .str [], .bool false]) := by kernel_rfl
theorem run36 (s : Word) : ansV (runFunc C D L lit36 [.p (.str s)] []) = some (.agg [.int .i64 2, .int .i64 0, .str s, .bool false]) := by kernel_rfl
end
end Go.Ab.Turn
