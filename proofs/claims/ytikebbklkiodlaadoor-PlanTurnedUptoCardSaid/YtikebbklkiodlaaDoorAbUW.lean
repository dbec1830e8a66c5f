/- PlanTurned: Path: what it answers. -/
import Derived.Test.YtikebbklkiodlaaDoorAbUR
set_option linter.unusedSectionVars false
set_option linter.unusedSimpArgs false
set_option linter.unusedVariables false
set_option maxRecDepth 1000000
namespace Go.Ab.Turn
open Go Go.Ab Go.Ab.Plan Go.Ab.Key Go.Ab.Cnt Go.Proofs
variable [Marks]
def encF (F : List Lit) : Word := encL (F.map litV)
/-- the path -/
def pathP (k : List Nat) (ls : List Cl) : List PV :=
  if (fixedOf k ls).length = k.length then [.bool false, .str (encF (fixedOf k ls)), .str (encF (fixedOf k ls)), .bool false]
  else if (fixedOf k ls).length = 0 then pathB (ls.foldl (stepBd encV aboveV (k.headD 0)) bd0)
  else [.bool false, .str (encF (fixedOf k ls)), .str (encF (fixedOf k ls) ++ [255]), .bool false]
theorem pathB_four (B : Bd) : ∃ a b c d, pathB B = [a, b, c, d] := by
  unfold pathB
  split
  · exact ⟨_, _, _, _, rfl⟩
  · split
    · exact ⟨_, _, _, _, rfl⟩
    · exact ⟨_, _, _, _, rfl⟩
structure E17 (C : Oracle) (k : List Nat) (ls : List Cl) (b : AV) : Prop where
  enc : ∀ σ f, SlAt σ f ((fixedOf k ls).map litV) → ∃ σ', C 26 [f] σ = some (.ret (.p (.str (encF (fixedOf k ls)))), σ') ∧ SlAt σ' f ((fixedOf k ls).map litV) ∧ σ'.length = σ.length ∧ ∀ j, j ∉ own f → σ'[j]? = σ[j]?
  btw : ∀ σ, Sl6 σ b ls → ∃ σ', C 27 [b, int (k.headD 0)] σ = some (.ret (.p (.agg (pathB (ls.foldl (stepBd encV aboveV (k.headD 0)) bd0)))), σ') ∧ σ'.length = σ.length ∧ ∀ j, j ∉ own b → σ'[j]? = σ[j]?
  abv : ∀ σ, C 28 [.p (.str (encF (fixedOf k ls)))] σ = some (.ret (.p (.str (encF (fixedOf k ls) ++ [255]))), σ)
theorem fin17 (D : DOracle) (ρ : Env) (σ : Heap) (a b c d : PV) (h6 : ρ.get 6 = some (.ptr 2 0 0)) (h2 : σ[2]? = some (.arr (.pv [a, b, c, d]) 0 0 (some 23))) (h5 : σ[5]? = some .mark) :
    ansV (finX D lit17 (some (.ret, ⟨ρ, [(4294967294, [.ptr 5 0 0])], σ⟩))) = some (.agg [a, b, c, d]) := by
  have hs : (σ.set 5 .none)[2]? = some (.arr (.pv [a, b, c, d]) 0 0 (some 23)) := by rw [List.getElem?_set_ne (by decide)]; exact h2
  simp [finX, finA, mixed, leaveA, lit17, resA, h6, h5, hs, resV, ansV, partC, partP, mkAgg]
/-- what is known behind the loops -/
structure G17 (k : List Nat) (ls : List Cl) (b : AV) (ρ : Env) (σ : Heap) (f : AV) : Prop where
  t6 : ρ.get 6 = some (.ptr 2 0 0)
  t7 : ρ.get 7 = some (.ptr 3 0 0)
  t11 : ρ.get 11 = some (.p (.vsl (cols k) k.length))
  t12 : ρ.get 12 = some f
  fb : f = .nil0 ∧ (fixedOf k ls).length = 0 ∨ ∃ id ver, f = .sl id ver 0 (fixedOf k ls).length 4
  o2 : σ[2]? = some (.arr (.pv path0) 0 0 (some 23))
  o3 : σ[3]? = some (.arr (.av [b]) 0 0 (some 67))
  o5 : σ[5]? = some .mark
  sl : Sl6 σ b ls
  ob : ∀ j ∈ own b, 6 ≤ j
theorem pair17 {C : Oracle} {L : Nat} {k : List Nat} {ls : List Cl} {b : AV} {ρ : Env} {σ : Heap} {f : AV} {ds : List (Nat × List AV)} (h : StF k ls b 5 ρ σ f (fixedOf k ls)) (hE : E17 C k ls b) (hob : ∀ j ∈ own b, 6 ≤ j) :
    ∃ ρ' σ' p, exec C L n17_8 ⟨ρ, ds, σ⟩ = some (.normal, ⟨ρ', ds, σ'⟩) ∧ G17 k ls b ρ' σ' f ∧ ρ'.get 16 = some (.ptr p 0 0) ∧ σ'[p]? = some (.arr (.pv [.bool false, .str (encF (fixedOf k ls)), .str (encF (fixedOf k ls)), .bool false]) 0 0 (some 23)) ∧ 6 ≤ p := by
  have hsl : SlAt σ f ((fixedOf k ls).map litV) := by
    rcases h.bf.2 with ⟨rfl, h0⟩ | ⟨_, id, ver, rfl, ho⟩
    · exact .inl ⟨rfl, by rw [List.eq_nil_of_length_eq_zero h0]; rfl⟩
    · exact .inr ⟨id, ver, 0, [], some 73, by rw [List.length_map], by rw [List.append_nil]; exact ho⟩
  obtain ⟨σ1, c1, s1, l1, k1⟩ := hE.enc σ f hsl
  obtain ⟨σ2, c2, s2, l2, k2⟩ := hE.enc σ1 f s1
  have hfb : f = .nil0 ∧ (fixedOf k ls).length = 0 ∨ ∃ id ver, f = .sl id ver 0 (fixedOf k ls).length 4 := by
    rcases h.bf.2 with ⟨rfl, h0⟩ | ⟨_, id, ver, rfl, _⟩
    · exact .inl ⟨rfl, h0⟩
    · exact .inr ⟨id, ver, rfl⟩
  have hof : ∀ j ∈ own f, 4 ≤ j ∧ j ∉ own b ∧ j ≠ 5 := h.ob
  have keep : ∀ j, j ∉ own f → σ2[j]? = σ[j]? := fun j hj => (k2 j hj).trans (k1 j hj)
  have nf : ∀ j, (j < 4 ∨ j = 5 ∨ j ∈ own b) → j ∉ own f := fun j hj hm => by
    obtain ⟨a1, a2, a3⟩ := hof j hm
    rcases hj with hj | hj | hj
    · omega
    · exact a3 hj
    · exact a2 hj
  have h5l : 5 < σ.length := (List.getElem?_eq_some_iff.1 h.om).1
  have hln : σ2.length = σ.length := l2.trans l1
  have push : ∀ j, j < σ2.length → ∀ τ : Heap, (σ2 ++ τ)[j]? = σ2[j]? := fun j hj τ => List.getElem?_append_left hj
  generalize encF (fixedOf k ls) = e at c1 c2 ⊢
  obtain ⟨ρ', r, q16, g6, g7, g11, g12⟩ : ∃ ρ', exec C L n17_8 ⟨ρ, ds, σ⟩ = some (.normal, ⟨ρ', ds, σ2 ++ [.arr (.pv [.bool false, .str e, .str e, .bool false]) 0 0 (some 23)]⟩) ∧ ρ'.get 16 = some (.ptr σ2.length 0 0) ∧ ρ'.get 6 = ρ.get 6 ∧ ρ'.get 7 = ρ.get 7 ∧ ρ'.get 11 = ρ.get 11 ∧ ρ'.get 12 = ρ.get 12 :=
    ⟨_, by simp [n17_8, exec, runOps, wantedA, stepOp, pureOp, allocOp, readOp, effOp, ev, evs, evO, Env.get_cons, putE, binA, intBin, unA, AV.fit, AV.toCells, partC, partP, mkCells, allP, mkAgg, Cells.len, target, evParts, fillA, AV.cells, splice, spliceC, finA, leaveA, resA, resV, ansV, Cells.toList, h.t12, c1, c2]; rfl, by simp [Env.get_cons], by simp [Env.get_cons], by simp [Env.get_cons], by simp [Env.get_cons], by simp [Env.get_cons]⟩
  refine ⟨ρ', _, σ2.length, r, ⟨g6.trans h.t6, g7.trans h.t7, g11.trans h.t11, g12.trans h.t12, hfb, ?_, ?_, ?_, ?_, hob⟩, q16, by simp, by omega⟩
  · rw [push 2 (by omega), keep 2 (nf 2 (by simp))]; exact h.o2
  · rw [push 3 (by omega), keep 3 (nf 3 (by simp))]; exact h.o3
  · rw [push 5 (by omega), keep 5 (nf 5 (by simp))]; exact h.om
  · exact (h.sl.same fun j hj => keep j (nf j (.inr (.inr hj)))).push _
end Go.Ab.Turn

/- PlanTurned: Path: its three ends. -/
set_option maxRecDepth 1000000
namespace Go.Ab.Turn
open Go Go.Ab Go.Ab.Plan Go.Ab.Key Go.Ab.Cnt Go.Proofs
variable [Marks]
def drOf : ACode → ACode
  | .cond _ (.seq a _) _ => a
  | c => c
section
variable {C : Oracle} {L : Nat} {k : List Nat} {ls : List Cl} {b f : AV} {ρ : Env} {σ : Heap} {ds : List (Nat × List AV)} {p : Nat}
theorem draw17 (h : G17 k ls b ρ σ f) (hk : k ≠ []) (hr : Marks.raw 27 = false) (hE : E17 C k ls b) :
    ∃ ρ' σ', exec C L (drOf n17_9_2k_2e_2) ⟨ρ, ds, σ⟩ = some (.normal, ⟨ρ', ds, σ'⟩) ∧ ρ'.get 6 = some (.ptr 2 0 0) ∧ σ'[2]? = some (.arr (.pv (pathB (ls.foldl (stepBd encV aboveV (k.headD 0)) bd0))) 0 0 (some 23)) ∧ σ'[5]? = some .mark := by
  obtain ⟨σ1, hC, hlen, hold⟩ := hE.btw σ h.sl
  obtain ⟨a, b', c, d, e4⟩ := pathB_four (ls.foldl (stepBd encV aboveV (k.headD 0)) bd0)
  rw [e4] at hC ⊢
  have nb : ∀ j, j < 6 → j ∉ own b := fun j hj hm => by have := h.ob j hm; omega
  have g2 : σ1[2]? = some (.arr (.pv path0) 0 0 (some 23)) := by rw [hold 2 (nb 2 (by decide))]; exact h.o2
  have g5 : σ1[5]? = some .mark := by rw [hold 5 (nb 5 (by decide))]; exact h.o5
  have h2l : 2 < σ1.length := (List.getElem?_eq_some_iff.1 g2).1
  obtain ⟨c0, ks, rfl⟩ : ∃ c0 ks, k = c0 :: ks := by
    cases k with
    | nil => exact absurd rfl hk
    | cons c0 ks => exact ⟨c0, ks, rfl⟩
  have t11 : ρ.get 11 = some (.p (.vsl (.int .i64 (c0 : Int) :: cols ks) (ks.length + 1))) := h.t11
  have hC' : C 27 [b, .p (.int .i64 (c0 : Int))] σ = some (.ret (.p (.agg [a, b', c, d])), σ1) := hC
  obtain ⟨t6, t7⟩ := And.intro h.t6 h.t7
  have o3 := h.o3
  have fin : (∃ s1 : Tr, drawRun C 0 (opsD (drOf n17_9_2k_2e_2)) ⟨⟨ρ, ds, σ⟩, [], []⟩ = some (none, s1) ∧ s1.rds = [(0, 3)] ∧ (∃ k0 k1 W, s1.wrs = [(5, k1, [2]), (4, k0, W)]) ∧ s1.st.defers = ds ∧ s1.st.heap = σ1.set 2 (.arr (.pv [a, b', c, d]) 0 0 (some 23)) ∧ s1.st.env.get 6 = some (.ptr 2 0 0)) →
      ∃ ρ', exec C L (drOf n17_9_2k_2e_2) ⟨ρ, ds, σ⟩ = some (.normal, ⟨ρ', ds, σ1.set 2 (.arr (.pv [a, b', c, d]) 0 0 (some 23))⟩) ∧ ρ'.get 6 = some (.ptr 2 0 0) := by
    rintro ⟨⟨⟨ρ', d, σ'⟩, rds, wrs⟩, hr, h1, ⟨k0, k1, W, h2⟩, h3, h4, hA⟩
    simp only at h1 h2 h3 h4
    subst h1 h2 h3 h4
    exact ⟨ρ', drawX hr (by kernel_rfl), hA⟩
  obtain ⟨ρ', e, g6⟩ := fin ⟨_, by
      show drawRun C 0 (_ :: _) _ = _
      refine (drawR rfl rfl (by simp [stillOp, valsOp, refOf, refV, oneH, exec, runOps, wantedA, stepOp, pureOp, allocOp, readOp, effOp, ev, evs, evO, Env.get_cons, putE, binA, intBin, unA, AV.fit, AV.toCells, partC, partP, mkCells, allP, mkAgg, Cells.len, target, takeC, dropC, Cells.get?, keepE, readsOf, opds, tmpsOf, Env.get_cons, wantedA, putE, t6, t7, t11, o3, hr, hC', g2]; exact ⟨rfl, rfl⟩)).trans ?_
      refine (drawS rfl rfl (by simp [stillOp, valsOp, refOf, refV, oneH, exec, runOps, wantedA, stepOp, pureOp, allocOp, readOp, effOp, ev, evs, evO, Env.get_cons, putE, binA, intBin, unA, AV.fit, AV.toCells, partC, partP, mkCells, allP, mkAgg, Cells.len, target, evParts, fillA, AV.cells, splice, spliceC, finA, leaveA, resA, resV, ansV, idxA, lenA, takeC, dropC, Cells.get?, keepE, readsOf, opds, tmpsOf, Env.get_cons, wantedA, putE, t6, t7, t11, o3, hr, hC', g2]; rfl)).trans ?_
      refine (drawS rfl rfl (by simp [stillOp, valsOp, refOf, refV, oneH, exec, runOps, wantedA, stepOp, pureOp, allocOp, readOp, effOp, ev, evs, evO, Env.get_cons, putE, binA, intBin, unA, AV.fit, AV.toCells, partC, partP, mkCells, allP, mkAgg, Cells.len, target, evParts, fillA, AV.cells, splice, spliceC, finA, leaveA, resA, resV, ansV, idxA, lenA, takeC, dropC, Cells.get?, keepE, readsOf, opds, tmpsOf, Env.get_cons, wantedA, putE, t6, t7, t11, o3, hr, hC', g2]; rfl)).trans ?_
      refine (drawS rfl rfl (by simp [stillOp, valsOp, refOf, refV, oneH, exec, runOps, wantedA, stepOp, pureOp, allocOp, readOp, effOp, ev, evs, evO, Env.get_cons, putE, binA, intBin, unA, AV.fit, AV.toCells, partC, partP, mkCells, allP, mkAgg, Cells.len, target, evParts, fillA, AV.cells, splice, spliceC, finA, leaveA, resA, resV, ansV, idxA, lenA, takeC, dropC, Cells.get?, keepE, readsOf, opds, tmpsOf, Env.get_cons, wantedA, putE, t6, t7, t11, o3, hr, hC', g2]; rfl)).trans ?_
      refine (drawE rfl rfl (by simp [exec, runOps, wantedA, stepOp, pureOp, allocOp, readOp, effOp, ev, evs, evO, Env.get_cons, putE, binA, intBin, unA, AV.fit, AV.toCells, partC, partP, mkCells, allP, mkAgg, Cells.len, target, evParts, fillA, AV.cells, splice, spliceC, finA, leaveA, resA, resV, ansV, keepE, readsOf, opds, tmpsOf, Env.get_cons, wantedA, putE, repCells, elemsA, takeC, dropC, Cells.toList, t6, t7, t11, o3, hr, hC', g2]; rfl) (by simp [carry, keepE, readsOf, opds, tmpsOf, Env.get_cons, wantedA, putE]; rfl) (by simp [wrIds, refV, keepE, readsOf, opds, tmpsOf, Env.get_cons, wantedA, putE, ev, evs, target, touchF, touch, collect, idsL, idsV, idsO, t6, t7, t11, o3, hr, hC', g2]; rfl)).trans ?_
      refine (drawE rfl rfl (by simp [exec, runOps, wantedA, stepOp, pureOp, allocOp, readOp, effOp, ev, evs, evO, Env.get_cons, putE, binA, intBin, unA, AV.fit, AV.toCells, partC, partP, mkCells, allP, mkAgg, Cells.len, target, evParts, fillA, AV.cells, splice, spliceC, finA, leaveA, resA, resV, ansV, keepE, readsOf, opds, tmpsOf, Env.get_cons, wantedA, putE, repCells, elemsA, takeC, dropC, Cells.toList, t6, t7, t11, o3, hr, hC', g2]; rfl) (by simp [carry, keepE, readsOf, opds, tmpsOf, Env.get_cons, wantedA, putE]; rfl) (by simp [wrIds, refV, keepE, readsOf, opds, tmpsOf, Env.get_cons, wantedA, putE, ev, evs, target, touchF, touch, collect, idsL, idsV, idsO, t6, t7, t11, o3, hr, hC', g2]; rfl)).trans ?_
      exact rfl, by rfl, ⟨_, _, _, by rfl⟩, by rfl, by rfl, by simp [putE, Env.get_cons, t6]⟩
  exact ⟨ρ', _, e, g6, List.getElem?_set_self h2l, by rw [List.getElem?_set_ne (by decide)]; exact g5⟩
theorem ends17 (h : G17 k ls b ρ σ f) (hE : E17 C k ls b) (hr : Marks.raw 27 = false) (h16 : ρ.get 16 = some (.ptr p 0 0)) (hp : σ[p]? = some (.arr (.pv [.bool false, .str (encF (fixedOf k ls)), .str (encF (fixedOf k ls)), .bool false]) 0 0 (some 23))) (hp6 : 6 ≤ p) :
    ∃ ρ' σ', exec C L (.seq n17_9 (.seq n17_10 (.seq n17_11 .ret))) ⟨ρ, ds, σ⟩ = some (.ret, ⟨ρ', ds, σ'⟩) ∧ ρ'.get 6 = some (.ptr 2 0 0) ∧ σ'[2]? = some (.arr (.pv (pathP k ls)) 0 0 (some 23)) ∧ σ'[5]? = some .mark := by
  have h2l : 2 < σ.length := (List.getElem?_eq_some_iff.1 h.o2).1
  have hpl : p < σ.length := (List.getElem?_eq_some_iff.1 hp).1
  have hA := hE.abv
  have e0 : ∃ ρ1, exec C L n17_9_1 ⟨ρ, ds, σ⟩ = some (.normal, ⟨ρ1, ds, σ⟩) ∧ ρ1.get 75 = some (int (fixedOf k ls).length) ∧ (∀ t, t ≠ 74 → t ≠ 75 → ρ1.get t = ρ.get t) := by
    unfold n17_9_1
    refine ⟨(75, int (fixedOf k ls).length) :: (74, f) :: ρ, ?_, by simp [Env.get_cons], fun t h1 h2 => by simp [Env.get_cons, Ne.symm h1, Ne.symm h2]⟩
    have t12 := h.t12
    rcases h.fb with ⟨rfl, h0⟩ | ⟨id, ver, rfl⟩
    · rw [h0]
      simp [exec, runOps, wantedA, stepOp, pureOp, allocOp, readOp, effOp, ev, evs, evO, Env.get_cons, putE, binA, intBin, unA, AV.fit, AV.toCells, partC, partP, mkCells, allP, mkAgg, Cells.len, target, lenA, t12]
    · simp [exec, runOps, wantedA, stepOp, pureOp, allocOp, readOp, effOp, ev, evs, evO, Env.get_cons, putE, binA, intBin, unA, AV.fit, AV.toCells, partC, partP, mkCells, allP, mkAgg, Cells.len, target, lenA, t12]
  obtain ⟨ρ1, e0, q75, q⟩ := e0
  have h1 : G17 k ls b ρ1 σ f := ⟨(q 6 (by decide) (by decide)).trans h.t6, (q 7 (by decide) (by decide)).trans h.t7, (q 11 (by decide) (by decide)).trans h.t11, (q 12 (by decide) (by decide)).trans h.t12, h.fb, h.o2, h.o3, h.o5, h.sl, h.ob⟩
  have q16 := (q 16 (by decide) (by decide)).trans h16
  have hkl : lenA (.p (.vsl (cols k) k.length)) = some k.length := rfl
  by_cases c1 : (fixedOf k ls).length = k.length
  · have hpv : pathP k ls = [.bool false, .str (encF (fixedOf k ls)), .str (encF (fixedOf k ls)), .bool false] := if_pos c1
    rw [hpv]
    have cb : (((fixedOf k ls).length : Int) == (k.length : Int)) = true := by rw [c1]; exact beq_self_eq_true _
    generalize encF (fixedOf k ls) = e at hp ⊢
    obtain ⟨ρ2, e2, g6⟩ : ∃ ρ2, exec C L n17_9_2 ⟨ρ1, ds, σ⟩ = some (.ret, ⟨ρ2, ds, σ.set 2 (.arr (.pv [.bool false, .str e, .str e, .bool false]) 0 0 (some 23))⟩) ∧ ρ2.get 6 = ρ1.get 6 :=
      ⟨_, by simp [n17_9_2, n17_9_2k, n17_9_2k_1, n17_9_2k_2, n17_9_2k_2t, n17_9_2k_2t_1, exec, runOps, wantedA, stepOp, pureOp, allocOp, readOp, effOp, ev, evs, evO, Env.get_cons, putE, binA, intBin, unA, AV.fit, AV.toCells, partC, partP, mkCells, allP, mkAgg, Cells.len, target, evParts, fillA, AV.cells, splice, spliceC, finA, leaveA, resA, resV, ansV, lenA, takeC, dropC, Cells.toList, h1.t6, h1.t11, q75, q16, hp, h.o2, cb]; rfl, by simp [Env.get_cons]⟩
    refine ⟨ρ2, _, by unfold n17_9; rw [seqR (a := .seq n17_9_1 n17_9_2) (by rw [seqN e0]; exact e2)], g6.trans h1.t6, List.getElem?_set_self h2l, by rw [List.getElem?_set_ne (by decide)]; exact h.o5⟩
  · have cb : (((fixedOf k ls).length : Int) == (k.length : Int)) = false := beq_eq_false_iff_ne.2 (by omega)
    by_cases c2 : (fixedOf k ls).length = 0
    · have hpv : pathP k ls = pathB (ls.foldl (stepBd encV aboveV (k.headD 0)) bd0) := by unfold pathP; rw [if_neg c1, if_pos c2]
      rw [hpv]
      have hk : k ≠ [] := fun hk => c1 (by rw [hk] at c2 ⊢; exact c2)
      have cb2 : (((fixedOf k ls).length : Int) == 0) = true := by rw [c2]; rfl
      obtain ⟨ρ2, e2, g6, g7, g11, g12, g76, g81⟩ : ∃ ρ2, exec C L (.seq n17_9_2k_1 n17_9_2k_2e_1) ⟨ρ1, ds, σ⟩ = some (.normal, ⟨ρ2, ds, σ⟩) ∧ ρ2.get 6 = ρ1.get 6 ∧ ρ2.get 7 = ρ1.get 7 ∧ ρ2.get 11 = ρ1.get 11 ∧ ρ2.get 12 = ρ1.get 12 ∧ ρ2.get 76 = some (.p (.bool false)) ∧ ρ2.get 81 = some (.p (.bool true)) :=
        ⟨_, by simp [n17_9_2k_1, n17_9_2k_2e_1, exec, runOps, wantedA, stepOp, pureOp, allocOp, readOp, effOp, ev, evs, evO, Env.get_cons, putE, binA, intBin, unA, AV.fit, AV.toCells, partC, partP, mkCells, allP, mkAgg, Cells.len, target, lenA, h1.t11, q75, cb, cb2]; rfl, by simp [Env.get_cons], by simp [Env.get_cons], by simp [Env.get_cons], by simp [Env.get_cons], by simp [Env.get_cons], by simp [Env.get_cons]⟩
      have h2 : G17 k ls b ρ2 σ f := ⟨g6.trans h1.t6, g7.trans h1.t7, g11.trans h1.t11, g12.trans h1.t12, h.fb, h.o2, h.o3, h.o5, h.sl, h.ob⟩
      obtain ⟨ρ3, σ3, e3, q6, q2, q5⟩ := draw17 (L := L) (ds := ds) h2 hk hr hE
      refine ⟨ρ3, σ3, ?_, q6, q2, q5⟩
      have e9 : exec C L n17_9_2 ⟨ρ1, ds, σ⟩ = some (.ret, ⟨ρ3, ds, σ3⟩) := by
        obtain ⟨ρa, ea, ga, ga75⟩ : ∃ ρa, exec C L n17_9_2k_1 ⟨ρ1, ds, σ⟩ = some (.normal, ⟨ρa, ds, σ⟩) ∧ ρa.get 76 = some (.p (.bool false)) ∧ ρa.get 75 = some (int (fixedOf k ls).length) :=
          ⟨_, by simp [n17_9_2k_1, exec, runOps, wantedA, stepOp, pureOp, allocOp, readOp, effOp, ev, evs, evO, Env.get_cons, putE, binA, intBin, unA, AV.fit, AV.toCells, partC, partP, mkCells, allP, mkAgg, Cells.len, target, lenA, h1.t11, q75, cb]; rfl, by simp [Env.get_cons], by simp [Env.get_cons, q75]⟩
        rw [seqN ea] at e2
        unfold n17_9_2 n17_9_2k
        refine blockR ?_
        rw [seqN ea]
        unfold n17_9_2k_2
        rw [condF (c := .t 76) (st := ⟨ρa, ds, σ⟩) ga]
        unfold n17_9_2k_2e
        rw [seqN e2]
        show exec C L (.cond (.t 81) (.seq (drOf n17_9_2k_2e_2) .ret) .skip) _ = _
        rw [condT (c := .t 81) (st := ⟨ρ2, ds, σ⟩) g81, seqN e3]
        rfl
      unfold n17_9
      rw [seqR (a := .seq n17_9_1 n17_9_2) (by rw [seqN e0]; exact e9)]
    · have hpv : pathP k ls = [.bool false, .str (encF (fixedOf k ls)), .str (encF (fixedOf k ls) ++ [255]), .bool false] := by unfold pathP; rw [if_neg c1, if_neg c2]
      rw [hpv]
      have cb2 : (((fixedOf k ls).length : Int) == 0) = false := beq_eq_false_iff_ne.2 (by omega)
      generalize encF (fixedOf k ls) = e at hp hA ⊢
      have hsp : ∀ x : Obj, (σ.set p x)[p]? = some x := fun x => List.getElem?_set_self hpl
      have hs2 : ∀ x : Obj, (σ.set p x)[2]? = some (.arr (.pv path0) 0 0 (some 23)) := fun x => by rw [List.getElem?_set_ne (by omega)]; exact h.o2
      have hbf : ((fixedOf k ls) = []) = False := by simpa using fun h => c2 (by rw [h]; rfl)
      obtain ⟨ρ2, e2, g6⟩ : ∃ ρ2, exec C L (.seq n17_9_2 (.seq n17_10 (.seq n17_11 .ret))) ⟨ρ1, ds, σ⟩ = some (.ret, ⟨ρ2, ds, (σ.set p (.arr (.pv [.bool false, .str e, .str (e ++ [255]), .bool false]) 0 0 (some 23))).set 2 (.arr (.pv [.bool false, .str e, .str (e ++ [255]), .bool false]) 0 0 (some 23))⟩) ∧ ρ2.get 6 = ρ1.get 6 :=
        ⟨_, by simp [n17_9_2, n17_9_2k, n17_9_2k_1, n17_9_2k_2, n17_9_2k_2e, n17_9_2k_2e_1, n17_9_2k_2e_2, n17_10, n17_11, exec, runOps, wantedA, stepOp, pureOp, allocOp, readOp, effOp, ev, evs, evO, Env.get_cons, putE, binA, intBin, unA, AV.fit, AV.toCells, partC, partP, mkCells, allP, mkAgg, Cells.len, target, evParts, fillA, AV.cells, splice, spliceC, finA, leaveA, resA, resV, ansV, lenA, takeC, dropC, Cells.get?, Cells.toList, h1.t6, h1.t11, q75, q16, hp, hsp, hs2, cb, cb2, hA]; rfl, by simp [Env.get_cons]⟩
      refine ⟨ρ2, (σ.set p (.arr (.pv [.bool false, .str e, .str (e ++ [255]), .bool false]) 0 0 (some 23))).set 2 (.arr (.pv [.bool false, .str e, .str (e ++ [255]), .bool false]) 0 0 (some 23)), ?_, g6.trans h1.t6, List.getElem?_set_self (by simpa using h2l), by rw [List.getElem?_set_ne (by decide), List.getElem?_set_ne (by omega)]; exact h.o5⟩
      unfold n17_9
      rw [← seq_assoc, seqN e0]
      exact e2
end
end Go.Ab.Turn

/- PlanTurned: Path, whole. -/
set_option maxRecDepth 1000000
namespace Go.Ab.Turn
open Go Go.Ab Go.Ab.Plan Go.Ab.Key Go.Ab.Cnt Go.Proofs
variable [Marks]
theorem seq4 {C : Oracle} {L : Nat} {a b c d r : ACode} {st st1 : St} (h : exec C L (.seq a (.seq b (.seq c d))) st = some (.normal, st1)) : exec C L (.seq a (.seq b (.seq c (.seq d r)))) st = exec C L r st1 := by
  have h' : exec C L (.seq (.seq (.seq a b) c) d) st = some (.normal, st1) := by rw [← seq_assoc, ← seq_assoc]; exact h
  rw [seq_assoc, seq_assoc, seq_assoc, seqN h']
theorem said_len (t : T) : (saidL (clauses t)).length ≤ (clauses t).length := List.length_filterMap_le _ _
theorem run17 {Tb : Table} {L n m : Nat} (k : List Nat) (hk : k.length ≤ 6) (t : T) (hok : okT t) (h22 : Tb 22 = some (.raw lit22)) (h29 : Tb 29 = some (.raw lit29)) (h24 : Tb 24 = some (.raw lit24)) (h25 : Tb 25 = some (.raw lit25)) (hr : Tb 4294967295 = some .rnd)
    (hraw : Marks.raw 4294967295 = true) (hr27 : Marks.raw 27 = false) (hL : 7 ≤ L) (hcl : (clauses t).length ≤ LIM) (hclL : (clauses t).length < L)
    (h23 : ∀ n, m ≤ n → ∀ t, okT t → ∃ c b, (∀ σ, (cAt Tb L n).1 23 [.p (tbl k), .p (node t), int 0] σ = some (.ret (.p (.tup [.agg c, .bool b])), σ)) ∧ Ok23 (read slT t) c b ∧ c.length = 6) (hn : m + 1 + 2 * deep t ≤ n + 1)
    (hE : ∀ b, E17 (cAt Tb L (n + 1)).1 k (saidL (clauses t)) b) (h1 : 1 ≤ n) :
    ansV (runFunc (cAt Tb L (n + 1)).1 (cAt Tb L (n + 1)).2 L lit17 [.p (tbl k), .p (.vsl (cells t) 1), int 0] []) = some (.agg (pathP k (saidL (clauses t)))) := by
  obtain ⟨ρ1, σ1, b, e1, s1, hob⟩ := gather17 k t hok h22 h29 hr hraw (by omega) hcl h23 hn
  have hsl := said_len t
  obtain ⟨n, rfl⟩ : ∃ j, n = j + 1 := ⟨n - 1, by omega⟩
  have hC : ∀ col σ c, Sl6 σ b (saidL (clauses t)) → σ[c]? = some (.arr (.pv [.int .i64 ((col : Nat) : Int)]) 0 0 (some 3)) → ∃ r τ, (cAt Tb L (n + 2)).1 24 [b, .clo 25 [] [.ptr c 0 0]] σ = some (.ret (int r), σ ++ τ) ∧ Found (saidL (clauses t)) col r := fun col σ c hs hc =>
    index24 h24 h25 (by omega) (by omega) σ hs hc
  generalize hls : saidL (clauses t) = ls at *
  obtain ⟨ρ2, e2, a2, s2⟩ : ∃ ρ2, exec (cAt Tb L (n + 2)).1 L n17_7_1 ⟨ρ1, [(4294967294, [.ptr 5 0 0])], σ1⟩ = some (.normal, ⟨ρ2, [(4294967294, [.ptr 5 0 0])], σ1⟩) ∧ AtF k ρ2 0 ∧ StF k ls b 5 ρ2 σ1 .nil0 [] := by
    have t11 := s1.t11
    obtain ⟨ρ2, e, a, q⟩ : ∃ ρ2, exec (cAt Tb L (n + 2)).1 L n17_7_1 ⟨ρ1, [(4294967294, [.ptr 5 0 0])], σ1⟩ = some (.normal, ⟨ρ2, [(4294967294, [.ptr 5 0 0])], σ1⟩) ∧ AtF k ρ2 0 ∧ StF k ls b 5 ρ2 (σ1 ++ []) .nil0 [] :=
      ⟨_, by simp [n17_7_1, exec, runOps, wantedA, stepOp, pureOp, allocOp, readOp, effOp, ev, evs, evO, Env.get_cons, putE, binA, intBin, unA, AV.fit, AV.toCells, partC, partP, mkCells, allP, mkAgg, Cells.len, target, lenA, t11]; rfl, ⟨by simp [Env.get_cons], by simp [Env.get_cons], by simp [Env.get_cons]⟩, s1.push [] (by simp [Env.get_cons]) (by simp [Env.get_cons]) (by simp [Env.get_cons]) (by simp [Env.get_cons])⟩
    rw [List.append_nil] at q
    exact ⟨ρ2, e, a, q⟩
  obtain ⟨ρ3, σ3, f, e3, s3⟩ := loopF (C := (cAt Tb L (n + 2)).1) (L := L) (ds := [(4294967294, [.ptr 5 0 0])]) hk (by omega) hC k.length L 0 ρ2 σ1 .nil0 [] (by omega) (by omega) (by omega) (by simp) a2 s2 (by simp)
  have e37 : exec (cAt Tb L (n + 2)).1 L n17_7 ⟨ρ1, [(4294967294, [.ptr 5 0 0])], σ1⟩ = some (.normal, ⟨ρ3, [(4294967294, [.ptr 5 0 0])], σ3⟩) := by
    unfold n17_7
    rw [seqN e2]
    unfold n17_7_2 n17_7_2k
    exact blockX (by simp only [exec]; exact e3)
  obtain ⟨ρ4, σ4, p, e4, g4, q16, hp, hp6⟩ := pair17 (L := L) (ds := [(4294967294, [.ptr 5 0 0])]) s3 (hE b) hob
  obtain ⟨ρ5, σ5, e5, q6, q2, q5⟩ := ends17 (L := L) (ds := [(4294967294, [.ptr 5 0 0])]) g4 (hE b) hr27 q16 hp hp6
  have hfour : ∃ a b c d, pathP k ls = [a, b, c, d] := by
    unfold pathP
    split
    · exact ⟨_, _, _, _, rfl⟩
    · split
      · exact pathB_four _
      · exact ⟨_, _, _, _, rfl⟩
  obtain ⟨x1, x2, x3, x4, ep⟩ := hfour
  rw [runFunc_eq, lit17_tree]
  unfold n17
  rw [seq_assoc, seq_assoc, seq4 e1, seqN e37, seqN e4, e5]
  rw [ep] at q2 ⊢
  exact fin17 _ ρ5 σ5 x1 x2 x3 x4 q6 q2 q5
end Go.Ab.Turn

/- PlanTurned: calls that are handed slices which are frozen: Encode, between. -/
set_option maxRecDepth 1000000
namespace Go.Ab.Turn
open Go Go.Ab Go.Ab.Plan Go.Ab.Key Go.Ab.Cnt Go.Proofs
variable [Marks]
theorem enc_at {Tb : Table} {L n : Nat} (h26 : Tb 26 = some (.code lit26 true)) (h33 : Tb 33 = some (.ext (extP Enc.replO) true)) (h34 : Tb 34 = some (.ext (extP Enc.trimO) true)) (x : List V) (hL : x.length + 8 < L) (hm : x.length ≤ 9223372036854775807) (hok : ∀ v ∈ x, v.ok) (hw : Enc.wts x ≤ 16777216)
    (σ : Heap) (f : AV) (h : SlAt σ f x) : ∃ σ', (cAt Tb L (n + 2)).1 26 [f] σ = some (.ret (.p (.str (encL x))), σ') ∧ SlAt σ' f x ∧ σ'.length = σ.length ∧ ∀ j, j ∉ own f → σ'[j]? = σ[j]? := by
  have key : ∃ σ1, frzA (touch σ [f]) 9 σ [f] = ([PV.vsl (vcs x) x.length].map .p, σ1) ∧ SlAt σ1 f x ∧ σ1.length = σ.length ∧ ∀ j, j ∉ own f → σ1[j]? = σ[j]? := by
    rcases h with ⟨rfl, rfl⟩ | ⟨id, ver, wm, rest, ty, rfl, ho⟩
    · exact ⟨σ, rfl, .inl ⟨rfl, rfl⟩, rfl, fun _ _ => rfl⟩
    · have hid : id < σ.length := (List.getElem?_eq_some_iff.1 ho).1
      have hc := touch_one (.inr ⟨id, ver, wm, rest, ty, rfl, ho⟩ : SlAt σ (.sl id ver 0 x.length 4) x) id ver x.length rfl
      have hl' : x.length * 4 ≤ (vcs x).length + rest.length := by rw [vcs_len]; omega
      have hl : x.length * 4 ≤ (vcs x ++ rest).length := by rw [List.length_append]; exact hl'
      have htk : (vcs x ++ rest).take (x.length * 4) = vcs x := by rw [← vcs_len, List.take_left]
      refine ⟨σ.set id (.arr (.pv (vcs x ++ rest)) ver (Nat.max wm (0 + x.length * 4)) ty), ?_, .inr ⟨id, ver, _, rest, ty, rfl, List.getElem?_set_self hid⟩, by simp, fun j hj => ?_⟩
      · simp only [frzA, frz, ho, Cells.len, hc, Nat.zero_add, List.drop_zero, htk, and_true, true_and]
        rw [if_pos hl]
        rfl
      · have : id ≠ j := fun he => hj (by simp [own, he])
        rw [List.getElem?_set_ne this]
  obtain ⟨σ1, hf, hs, hlen, hold⟩ := key
  refine ⟨σ1, ?_, hs, hlen, hold⟩
  rw [cAt_frz (ps := [.vsl (vcs x) x.length]) h26 hf]
  exact Enc.encode26 h26 h33 h34 x hL hm hok hw σ1
theorem touch_pair {σ : Heap} {v : AV} {l : List Cl} {p : PV} (h : Sl6 σ v l) : ∀ id ver n, v = .sl id ver 0 n 6 → (touch σ [v, .p p]).contains id = true := by
  intro id ver n hv
  rcases h with ⟨rfl, _⟩ | ⟨id', ver', wm, ty, rfl, ho⟩
  · cases hv
  · cases hv
    simp [touch, idsL, idsV, collect, idsO, ho]
theorem btw_at {Tb : Table} {L n : Nat} (h27 : Tb 27 = some (.code lit27 true)) (l : List Cl) (col : Nat) (r : PV) (hrun : ∀ σ, (cAt Tb L (n + 1)).1 27 [.p (.vsl (clsC l) l.length), int col] σ = some (.ret (.p r), σ)) (σ : Heap) (b : AV) (h : Sl6 σ b l) :
    ∃ σ', (cAt Tb L (n + 1)).1 27 [b, int col] σ = some (.ret (.p r), σ') ∧ σ'.length = σ.length ∧ ∀ j, j ∉ own b → σ'[j]? = σ[j]? := by
  have key : ∃ σ1, frzA (touch σ [b, int col]) 9 σ [b, int col] = ([PV.vsl (clsC l) l.length, .int .i64 col].map .p, σ1) ∧ σ1.length = σ.length ∧ ∀ j, j ∉ own b → σ1[j]? = σ[j]? := by
    rcases h with ⟨rfl, rfl⟩ | ⟨id, ver, wm, ty, rfl, ho⟩
    · exact ⟨σ, rfl, rfl, fun _ _ => rfl⟩
    · have hc := touch_pair (p := .int .i64 col) (.inr ⟨id, ver, wm, ty, rfl, ho⟩ : Sl6 σ (.sl id ver 0 l.length 6) l) id ver l.length rfl
      have hl : l.length * 6 ≤ (clsC l).length := by rw [clsC_len]; omega
      have htk : (clsC l).take (l.length * 6) = clsC l := List.take_of_length_le (by rw [clsC_len]; omega)
      generalize clsC l = cl at ho hl htk ⊢
      refine ⟨σ.set id (.arr (.pv cl) ver (Nat.max wm (0 + l.length * 6)) ty), ?_, by simp, fun j hj => ?_⟩
      · simp only [frzA, frz, ho, Cells.len, hc, Nat.zero_add, List.drop_zero, htk, and_true, true_and]
        rw [if_pos hl]
        rfl
      · have : id ≠ j := fun he => hj (by simp [own, he])
        rw [List.getElem?_set_ne this]
  obtain ⟨σ1, hf, hlen, hold⟩ := key
  refine ⟨σ1, ?_, hlen, hold⟩
  rw [cAt_frz (ps := [.vsl (clsC l) l.length, .int .i64 col]) h27 hf]
  exact hrun σ1
theorem run28 (C : Oracle) (D : DOracle) (L : Nat) (s : Word) (h : s.length + 1 ≤ LIM) : ansV (runFunc C D L lit28 [.p (.str s)] []) = some (.str (s ++ [255])) := by
  simp [runFunc, lit28, params, exec, runOps, wantedA, stepOp, pureOp, allocOp, readOp, effOp, ev, evs, evO, Env.get_cons, putE, binA, intBin, unA, AV.fit, AV.toCells, partC, partP, mkCells, allP, mkAgg, Cells.len, target, evParts, fillA, AV.cells, splice, spliceC, finA, leaveA, resA, resV, ansV, strBin, mixed, h]
end Go.Ab.Turn
