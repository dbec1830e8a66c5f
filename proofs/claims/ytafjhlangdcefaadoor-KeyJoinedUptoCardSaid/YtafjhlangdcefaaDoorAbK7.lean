/- The laws of keys: how lists of values stand. -/
import Derived.Test.YtafjhlangdcefaaDoorAbK6
set_option linter.unusedSectionVars false
set_option linter.unusedSimpArgs false
set_option linter.unusedVariables false
set_option maxRecDepth 1000000
namespace Go.Ab.Key
open Go Go.Ab Go.Proofs
variable [Marks]
theorem flat_v (l : List V) (i : Nat) (v : V) (h : l[i]? = some v) : ((vcs l).drop (i * 4)).take 4 = vc v := flat_at vc vc_len l i v h
section
variable (C : Oracle) (L : Nat) (x y : List V) (ρ : Env) (i : Nat)
theorem stop10 (h0 : ρ.get 0 = some (.p (.vsl (vcs x) x.length))) (h1 : ρ.get 1 = some (.p (.vsl (vcs y) y.length))) (h5 : ρ.get 5 = some (.p (.int .i64 (i : Int)))) (hs : x.length ≤ i ∨ y.length ≤ i) :
    ∃ ρ' : Env, exec C L body10 ⟨ρ, [], []⟩ = some (.exit 0, ⟨ρ', [], []⟩) ∧ ρ'.get 0 = some (.p (.vsl (vcs x) x.length)) ∧ ρ'.get 1 = some (.p (.vsl (vcs y) y.length)) := by
  by_cases hi : (i : Int) < (x.length : Int)
  · have hj : ¬ (i : Int) < (y.length : Int) := by omega
    exact ⟨_, by simp [body10, exec, runOps, wantedA, stepOp, pureOp, allocOp, readOp, effOp, ev, evs, evO, Env.get_cons, putE, binA, intBin, unA, AV.fit, AV.toCells, partC, partP, mkCells, allP, mkAgg, Cells.len, target, lenA, h0, h1, h5, hi, hj]; rfl, by simp [Env.get_cons, h0], by simp [Env.get_cons, h1]⟩
  · exact ⟨_, by simp [body10, exec, runOps, wantedA, stepOp, pureOp, allocOp, readOp, effOp, ev, evs, evO, Env.get_cons, putE, binA, intBin, unA, AV.fit, AV.toCells, partC, partP, mkCells, allP, mkAgg, Cells.len, target, lenA, h0, h1, h5, hi]; rfl, by simp [Env.get_cons, h0], by simp [Env.get_cons, h1]⟩
theorem go10 (a b : V) (h0 : ρ.get 0 = some (.p (.vsl (vcs x) x.length))) (h1 : ρ.get 1 = some (.p (.vsl (vcs y) y.length))) (h5 : ρ.get 5 = some (.p (.int .i64 (i : Int)))) (hx : x[i]? = some a) (hy : y[i]? = some b) (hm : x.length ≤ 9223372036854775807)
    (hC : ∀ σ, C 20 [.p (.agg (vc a)), .p (.agg (vc b))] σ = some (.ret (.p (.int .i64 (ordI (ordV a b)))), σ)) :
    ∃ ρ' : Env, exec C L body10 ⟨ρ, [], []⟩ = some (if ordV a b = .eq then .normal else .ret, ⟨ρ', [], []⟩) ∧ (ordV a b = .eq → ρ'.get 0 = some (.p (.vsl (vcs x) x.length)) ∧ ρ'.get 1 = some (.p (.vsl (vcs y) y.length)) ∧ ρ'.get 5 = some (.p (.int .i64 ((i : Int) + 1)))) ∧
      (ordV a b ≠ .eq → ρ'.get 4 = some (.p (.int .i64 (ordI (ordV a b))))) := by
  have hi : i < x.length := (List.getElem?_eq_some_iff.1 hx).1
  have hj : i < y.length := (List.getElem?_eq_some_iff.1 hy).1
  have hi' : (i : Int) < (x.length : Int) := by omega
  have hj' : (i : Int) < (y.length : Int) := by omega
  have d1 := flat_v x i a hx
  have d2 := flat_v y i b hy
  have d3 : 4 ≤ (vcs x).length - i * 4 := by rw [vcs_len]; omega
  have d4 : 4 ≤ (vcs y).length - i * 4 := by rw [vcs_len]; omega
  have e1 : IntKind.i64.wrap ((i : Int) + 1) = (i : Int) + 1 := wrap_id _ (by omega) (by omega)
  cases ho : ordV a b with
  | eq =>
    rw [ho] at hC
    refine ⟨_, by simp [body10, exec, runOps, wantedA, stepOp, pureOp, allocOp, readOp, effOp, ev, evs, evO, Env.get_cons, putE, binA, intBin, unA, AV.fit, AV.toCells, partC, partP, mkCells, allP, mkAgg, Cells.len, target, lenA, idxA, drawExec, drawRun, keepE, readsOf, opds, tmpsOf, stillOp, valsOp, refOf, refV, isE, carry, wrIds, okRW, h0, h1, h5, hi, hj, hi', hj', d1, d2, d3, d4, e1, hC, ordI]; rfl, ?_, ?_⟩
    · simp [Env.get_cons, h0, h1]
    · simp
  | lt =>
    rw [ho] at hC
    refine ⟨_, by simp [body10, exec, runOps, wantedA, stepOp, pureOp, allocOp, readOp, effOp, ev, evs, evO, Env.get_cons, putE, binA, intBin, unA, AV.fit, AV.toCells, partC, partP, mkCells, allP, mkAgg, Cells.len, target, lenA, idxA, drawExec, drawRun, keepE, readsOf, opds, tmpsOf, stillOp, valsOp, refOf, refV, isE, carry, wrIds, okRW, h0, h1, h5, hi, hj, hi', hj', d1, d2, d3, d4, e1, hC, ordI]; rfl, ?_, ?_⟩
    · simp
    · simp [Env.get_cons, ordI]
  | gt =>
    rw [ho] at hC
    refine ⟨_, by simp [body10, exec, runOps, wantedA, stepOp, pureOp, allocOp, readOp, effOp, ev, evs, evO, Env.get_cons, putE, binA, intBin, unA, AV.fit, AV.toCells, partC, partP, mkCells, allP, mkAgg, Cells.len, target, lenA, idxA, drawExec, drawRun, keepE, readsOf, opds, tmpsOf, stillOp, valsOp, refOf, refV, isE, carry, wrIds, okRW, h0, h1, h5, hi, hj, hi', hj', d1, d2, d3, d4, e1, hC, ordI]; rfl, ?_, ?_⟩
    · simp
    · simp [Env.get_cons, ordI]
end
theorem ordL_cons {x y : List V} {i : Nat} {a b : V} (hx : x[i]? = some a) (hy : y[i]? = some b) : ordL (x.drop i) (y.drop i) = (ordV a b).then (ordL (x.drop (i + 1)) (y.drop (i + 1))) := by
  obtain ⟨h1, rfl⟩ := List.getElem?_eq_some_iff.1 hx
  obtain ⟨h2, rfl⟩ := List.getElem?_eq_some_iff.1 hy
  rw [List.drop_eq_getElem_cons h1, List.drop_eq_getElem_cons h2]
  rfl
theorem ordL_end {x y : List V} {i : Nat} (hi : i ≤ x.length) (hj : i ≤ y.length) (hs : x.length ≤ i ∨ y.length ≤ i) : ordL (x.drop i) (y.drop i) = compare x.length y.length := by
  have hx : (x.drop i).length = x.length - i := List.length_drop
  have hy : (y.drop i).length = y.length - i := List.length_drop
  cases h1 : x.drop i with
  | nil =>
    rw [h1] at hx
    simp at hx
    cases h2 : y.drop i with
    | nil =>
      rw [h2] at hy
      simp at hy
      rw [Nat.compare_eq_eq.2 (by omega)]; rfl
    | cons b t =>
      rw [h2] at hy
      simp at hy
      rw [Nat.compare_eq_lt.2 (by omega)]; rfl
  | cons a s =>
    rw [h1] at hx
    simp at hx
    cases h2 : y.drop i with
    | nil =>
      rw [h2] at hy
      simp at hy
      rw [Nat.compare_eq_gt.2 (by omega)]; rfl
    | cons b t =>
      rw [h2] at hy
      simp at hy
      omega
theorem loop10 (C : Oracle) (L : Nat) (x y : List V) (hm : x.length ≤ 9223372036854775807) (hC : ∀ a ∈ x, ∀ b ∈ y, ∀ σ, C 20 [.p (.agg (vc a)), .p (.agg (vc b))] σ = some (.ret (.p (.int .i64 (ordI (ordV a b)))), σ)) :
    ∀ (d f i : Nat) (ρ : Env), x.length - i ≤ d → d < f → i ≤ x.length → i ≤ y.length → ρ.get 0 = some (.p (.vsl (vcs x) x.length)) → ρ.get 1 = some (.p (.vsl (vcs y) y.length)) → ρ.get 5 = some (.p (.int .i64 (i : Int))) → ordL x y = ordL (x.drop i) (y.drop i) →
    ∃ (e : AExit) (ρ' : Env), iter (exec C L body10) none f ⟨ρ, [], []⟩ = some (e, ⟨ρ', [], []⟩) ∧
      ((e = .exit 0 ∧ ρ'.get 0 = some (.p (.vsl (vcs x) x.length)) ∧ ρ'.get 1 = some (.p (.vsl (vcs y) y.length)) ∧ ordL x y = compare x.length y.length) ∨ (e = .ret ∧ ρ'.get 4 = some (.p (.int .i64 (ordI (ordL x y))))))
  | d, f, i, ρ, hd, hf, hi, hj, h0, h1, h5, ho => by
    obtain ⟨f, rfl⟩ : ∃ m, f = m + 1 := ⟨f - 1, by omega⟩
    by_cases hs : x.length ≤ i ∨ y.length ≤ i
    · obtain ⟨ρ', e, g0, g1⟩ := stop10 C L x y ρ i h0 h1 h5 hs
      exact ⟨.exit 0, ρ', by simp only [iter, St.keep, e], .inl ⟨rfl, g0, g1, by rw [ho, ordL_end hi hj hs]⟩⟩
    · have hx : i < x.length := by omega
      have hy : i < y.length := by omega
      have ex : x[i]? = some x[i] := List.getElem?_eq_getElem hx
      have ey : y[i]? = some y[i] := List.getElem?_eq_getElem hy
      obtain ⟨ρ1, e, g, g'⟩ := go10 C L x y ρ i x[i] y[i] h0 h1 h5 ex ey hm (hC _ (List.getElem_mem hx) _ (List.getElem_mem hy))
      rw [ordL_cons ex ey] at ho
      by_cases hv : ordV x[i] y[i] = .eq
      · rw [if_pos hv] at e
        obtain ⟨g0, g1, g5⟩ := g hv
        rw [hv] at ho
        obtain ⟨d, rfl⟩ : ∃ m, d = m + 1 := ⟨d - 1, by omega⟩
        obtain ⟨e', ρ', q1, q2⟩ := loop10 C L x y hm hC d f (i + 1) ρ1 (by omega) (by omega) (by omega) (by omega) g0 g1 (by rw [g5]; rfl) ho
        exact ⟨e', ρ', by simp only [iter, St.keep, e]; exact q1, q2⟩
      · rw [if_neg hv] at e
        refine ⟨.ret, ρ1, by simp only [iter, St.keep, e], .inr ⟨rfl, ?_⟩⟩
        rw [g' hv, ho]
        cases h : ordV x[i] y[i] <;> first | rfl | exact absurd h hv
section
variable (m : Int) (L n : Nat)
theorem order10 (x y : List V) (hL : x.length < L) (hm : x.length ≤ 9223372036854775807) (hx : ∀ s, V.text s ∈ x → s.length < L ∧ s.length ≤ 9223372036854775807) (hy : ∀ s, V.text s ∈ y → s.length < L ∧ s.length ≤ 9223372036854775807) (σ : Heap) :
    (cAt (TE (G 0 m)) L (n + 3)).1 10 [.p (.vsl (vcs x) x.length), .p (.vsl (vcs y) y.length)] σ = some (.ret (.p (.int .i64 (ordI (ordL x y)))), σ) := by
  refine call_ans (ps := [.vsl (vcs x) x.length, .vsl (vcs y) y.length]) (n := n + 2) (q10 m) (by kernel_rfl) ?_ σ
  have hC : ∀ a ∈ x, ∀ b ∈ y, ∀ σ, (cAt (TE (G 0 m)) L (n + 2)).1 20 [.p (.agg (vc a)), .p (.agg (vc b))] σ = some (.ret (.p (.int .i64 (ordI (ordV a b)))), σ) := fun a ha b hb σ =>
    order20 m L n a b (fun s hs => hx s (hs ▸ ha)) (fun s hs => hy s (hs ▸ hb)) σ
  generalize (cAt (TE (G 0 m)) L (n + 2)).1 = C at hC ⊢
  generalize (cAt (TE (G 0 m)) L (n + 2)).2 = D
  obtain ⟨e, ρ', q, h⟩ := loop10 C L x y hm hC x.length L 0 [(5, .p (.int .i64 0)), (4, .p (.int .i64 0)), (0, .p (.vsl (vcs x) x.length)), (1, .p (.vsl (vcs y) y.length))] (by omega) hL (by omega) (by omega) rfl rfl rfl rfl
  rw [runFunc_eq, lit10_eq]
  rw [seqN (a := .region _) (by simp [params, exec, runOps, wantedA, stepOp, pureOp, allocOp, readOp, effOp, ev, evs, evO, Env.get_cons, putE, binA, intBin, unA, AV.fit, AV.toCells, partC, partP, mkCells, allP, mkAgg, Cells.len, target]; rfl)]
  rcases h with ⟨rfl, g0, g1, ho⟩ | ⟨rfl, g4⟩
  · have e3 : exec C L (.seq (.region [{ dst := some 5, op := AOp.mv (Opd.c (AV.p (PV.int IntKind.i64 (0)))), guard := none }]) (.block 0 (.loop none body10))) ⟨[(4, .p (.int .i64 0)), (0, .p (.vsl (vcs x) x.length)), (1, .p (.vsl (vcs y) y.length))], [], []⟩ = some (.normal, ⟨ρ', [], []⟩) := by
      rw [seqN (a := .region _) (by simp [exec, runOps, wantedA, stepOp, pureOp, allocOp, readOp, effOp, ev, evs, evO, Env.get_cons, putE, binA, intBin, unA, AV.fit, AV.toCells, partC, partP, mkCells, allP, mkAgg, Cells.len, target]; rfl)]
      simp only [exec, q, if_true]
    rw [seqN e3, ho]
    rcases Nat.lt_trichotomy x.length y.length with h | h | h
    · have hi : (x.length : Int) < (y.length : Int) := by omega
      rw [Nat.compare_eq_lt.2 h]
      simp [exec, runOps, wantedA, stepOp, pureOp, allocOp, readOp, effOp, ev, evs, evO, Env.get_cons, putE, binA, intBin, unA, AV.fit, AV.toCells, partC, partP, mkCells, allP, mkAgg, Cells.len, target, evParts, fillA, AV.cells, splice, spliceC, finA, leaveA, resA, resV, ansV, lenA, finX, g0, g1, lit10, h, hi, ordI]
    · have h1 : ¬ x.length < y.length := by omega
      have h2 : ¬ y.length < x.length := by omega
      rw [Nat.compare_eq_eq.2 h]
      simp [exec, runOps, wantedA, stepOp, pureOp, allocOp, readOp, effOp, ev, evs, evO, Env.get_cons, putE, binA, intBin, unA, AV.fit, AV.toCells, partC, partP, mkCells, allP, mkAgg, Cells.len, target, evParts, fillA, AV.cells, splice, spliceC, finA, leaveA, resA, resV, ansV, lenA, finX, g0, g1, lit10, h1, h2, ordI]
    · have h1 : ¬ x.length < y.length := by omega
      rw [Nat.compare_eq_gt.2 h]
      simp [exec, runOps, wantedA, stepOp, pureOp, allocOp, readOp, effOp, ev, evs, evO, Env.get_cons, putE, binA, intBin, unA, AV.fit, AV.toCells, partC, partP, mkCells, allP, mkAgg, Cells.len, target, evParts, fillA, AV.cells, splice, spliceC, finA, leaveA, resA, resV, ansV, lenA, finX, g0, g1, lit10, h1, h, ordI]
  · have e3 : exec C L (.seq (.region [{ dst := some 5, op := AOp.mv (Opd.c (AV.p (PV.int IntKind.i64 (0)))), guard := none }]) (.block 0 (.loop none body10))) ⟨[(4, .p (.int .i64 0)), (0, .p (.vsl (vcs x) x.length)), (1, .p (.vsl (vcs y) y.length))], [], []⟩ = some (.ret, ⟨ρ', [], []⟩) := by
      rw [seqN (a := .region _) (by simp [exec, runOps, wantedA, stepOp, pureOp, allocOp, readOp, effOp, ev, evs, evO, Env.get_cons, putE, binA, intBin, unA, AV.fit, AV.toCells, partC, partP, mkCells, allP, mkAgg, Cells.len, target]; rfl)]
      simp only [exec, q]
    rw [seqR e3]
    simp [exec, runOps, wantedA, stepOp, pureOp, allocOp, readOp, effOp, ev, evs, evO, Env.get_cons, putE, binA, intBin, unA, AV.fit, AV.toCells, partC, partP, mkCells, allP, mkAgg, Cells.len, target, evParts, fillA, AV.cells, splice, spliceC, finA, leaveA, resA, resV, ansV, finX, g4, lit10]
end
end Go.Ab.Key
