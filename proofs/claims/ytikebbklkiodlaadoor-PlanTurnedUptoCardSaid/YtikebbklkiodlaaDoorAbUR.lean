/- PlanTurned: a path of the first column's bounds: the function. -/
import Derived.Test.YtikebbklkiodlaaDoorAbUP
set_option linter.unusedSectionVars false
set_option linter.unusedSimpArgs false
set_option linter.unusedVariables false
set_option maxRecDepth 1000000
namespace Go.Ab.Turn
open Go Go.Ab Go.Ab.Plan Go.Ab.Key Go.Ab.Cnt Go.Proofs
variable [Marks]
theorem inBlk {C : Oracle} {L k : Nat} {a b c r d : ACode} {st st1 : St} (h : exec C L (.seq (.seq a b) c) st = some (.normal, st1)) : exec C L (.seq a (.seq b (.seq (.block k (.seq c r)) d))) st = exec C L (.seq (.block k r) d) st1 := by
  rw [seq_assoc]
  generalize hA : exec C L (.seq a b) st = z
  have h' := h
  simp only [exec] at h' hA
  rw [hA] at h'
  match z, h', hA with
  | some (.normal, s1), h', hA =>
    have hA' : exec C L (.seq a b) st = some (.normal, s1) := by simp only [exec]; exact hA
    rw [seqN hA', blkA (st1 := st1) h']
theorem blkE {C : Oracle} {L k : Nat} {a b c : ACode} {st st1 : St} (h : exec C L a st = some (.exit k, st1)) : exec C L (.seq (.block k (.seq a b)) c) st = exec C L c st1 := by
  simp only [exec, h, if_true]
section
variable {C : Oracle} {L : Nat} {l : List Cl} {col i : Nat} {ρ : Env} {σ : Heap} {B : Bd}
theorem sign27 (h : At27 l col ρ σ i B) (c : Cl) (a b c' d : PV) (p : Nat) (h8 : ρ.get 8 = some (.ptr p 0 0)) (ho : σ[p]? = some (.arr (.pv [.int .i64 (c.col : Int), .str c.op, a, b, c', d]) 0 0 (some 75))) (w : Word) (h9 : ρ.get 9 = some (.p (.str w))) (hop : isCmp c.op = true) (hne : ¬ c.op = wEq) :
    ∃ ρ' q, exec C L n27_3_2kb_3k_5 ⟨ρ, [], σ⟩ = some (.normal, ⟨ρ', [], σ⟩) ∧ ρ'.get 33 = some (.p (.bool q)) ∧ q = decide (c.op = wGt ∨ c.op = wGe) ∧ ρ'.get 9 = some (.p (.str w)) ∧ At27 l col ρ' σ i B := by
  obtain ⟨t1, t4, t5, t6, t11, t12, t13, o0, o1⟩ := h
  have key : ∃ ρ' q, exec C L n27_3_2kb_3k_5 ⟨ρ, [], σ⟩ = some (.normal, ⟨ρ', [], σ⟩) ∧ ρ'.get 33 = some (.p (.bool q)) ∧ q = decide (c.op = wGt ∨ c.op = wGe) ∧ (∀ t, t < 17 → ρ'.get t = ρ.get t) := by
    have h5 : c.op = [60] ∨ c.op = [60, 61] ∨ c.op = [62] ∨ c.op = [62, 61] := by
      simp [isCmp] at hop
      rcases hop with (((h | h) | h) | h) | h
      · exact absurd h hne
      · exact .inl h
      · exact .inr (.inl h)
      · exact .inr (.inr (.inl h))
      · exact .inr (.inr (.inr h))
    rcases h5 with h | h | h | h <;> rw [h] at ho ⊢
    · refine ⟨_, false, by simp [n27_3_2kb_3k_5, exec, runOps, wantedA, stepOp, pureOp, allocOp, readOp, effOp, ev, evs, evO, Env.get_cons, putE, binA, intBin, unA, AV.fit, AV.toCells, partC, partP, mkCells, allP, mkAgg, Cells.len, target, atStrA, Cells.get?, h8, ho]; rfl, by simp [Env.get_cons], by decide, fun t ht => ?_⟩
      have : ∀ j, 17 ≤ j → ¬ j = t := fun j hj he => by omega
      simp [Env.get_cons, this]
    · refine ⟨_, false, by simp [n27_3_2kb_3k_5, exec, runOps, wantedA, stepOp, pureOp, allocOp, readOp, effOp, ev, evs, evO, Env.get_cons, putE, binA, intBin, unA, AV.fit, AV.toCells, partC, partP, mkCells, allP, mkAgg, Cells.len, target, atStrA, Cells.get?, h8, ho]; rfl, by simp [Env.get_cons], by decide, fun t ht => ?_⟩
      have : ∀ j, 17 ≤ j → ¬ j = t := fun j hj he => by omega
      simp [Env.get_cons, this]
    · refine ⟨_, true, by simp [n27_3_2kb_3k_5, exec, runOps, wantedA, stepOp, pureOp, allocOp, readOp, effOp, ev, evs, evO, Env.get_cons, putE, binA, intBin, unA, AV.fit, AV.toCells, partC, partP, mkCells, allP, mkAgg, Cells.len, target, atStrA, Cells.get?, h8, ho]; rfl, by simp [Env.get_cons], by decide, fun t ht => ?_⟩
      have : ∀ j, 17 ≤ j → ¬ j = t := fun j hj he => by omega
      simp [Env.get_cons, this]
    · refine ⟨_, true, by simp [n27_3_2kb_3k_5, exec, runOps, wantedA, stepOp, pureOp, allocOp, readOp, effOp, ev, evs, evO, Env.get_cons, putE, binA, intBin, unA, AV.fit, AV.toCells, partC, partP, mkCells, allP, mkAgg, Cells.len, target, atStrA, Cells.get?, h8, ho]; rfl, by simp [Env.get_cons], by decide, fun t ht => ?_⟩
      have : ∀ j, 17 ≤ j → ¬ j = t := fun j hj he => by omega
      simp [Env.get_cons, this]
  obtain ⟨ρ', q, e, g33, hq, g⟩ := key
  exact ⟨ρ', q, e, g33, hq, (g 9 (by decide)).trans h9, ⟨(g 1 (by decide)).trans t1, (g 4 (by decide)).trans t4, (g 5 (by decide)).trans t5, (g 6 (by decide)).trans t6, (g 11 (by decide)).trans t11, (g 12 (by decide)).trans t12, (g 13 (by decide)).trans t13, o0, o1⟩⟩
theorem next27 (h : At27 l col ρ σ i B) (hi : i < l.length) (hl : l.length ≤ LIM) : ∃ ρ', exec C L n27_3_2kb_4 ⟨ρ, [], σ⟩ = some (.normal, ⟨ρ', [], σ⟩) ∧ At27 l col ρ' σ (i + 1) B := by
  have hLM : LIM = 4294967296 := rfl
  have e1 : IntKind.i64.wrap ((i : Int) + 1) = (i : Int) + 1 := wrap_id _ (by omega) (by omega)
  exact ⟨_, by simp [n27_3_2kb_4, exec, runOps, wantedA, stepOp, pureOp, allocOp, readOp, effOp, ev, evs, evO, Env.get_cons, putE, binA, intBin, unA, AV.fit, AV.toCells, partC, partP, mkCells, allP, mkAgg, Cells.len, target, h.t13, e1]; rfl, ⟨by simp [Env.get_cons, h.t1], by simp [Env.get_cons, h.t4], by simp [Env.get_cons, h.t5], by simp [Env.get_cons, h.t6], by simp [Env.get_cons, h.t11], by simp [Env.get_cons, h.t12], by simp [Env.get_cons], h.o0, h.o1⟩⟩
theorem go27 (h : At27 l col ρ σ i B) (c : Cl) (hc : l[i]? = some c) (hl : l.length ≤ LIM) (hop : isCmp c.op = true) (hE : E27 C l) (hr : Marks.raw 28 = false) :
    ∃ ρ' σ', exec C L n27_3_2kb ⟨ρ, [], σ⟩ = some (.normal, ⟨ρ', [], σ'⟩) ∧ At27 l col ρ' σ' (i + 1) (stepBd encV aboveV col B c) := by
  have hi : i < l.length := (List.getElem?_eq_some_iff.1 hc).1
  have hm : c ∈ l := List.mem_of_getElem? hc
  obtain ⟨a, b, c', d, e4⟩ := vc_four (litV c.v)
  obtain ⟨ρ1, r1, g8, h1⟩ := take27 (C := C) (L := L) h c hc a b c' d e4
  have ho1 : (σ ++ [Obj.arr (.pv [.int .i64 (c.col : Int), .str c.op, a, b, c', d]) 0 0 (some 75)])[σ.length]? = some (.arr (.pv [.int .i64 (c.col : Int), .str c.op, a, b, c', d]) 0 0 (some 75)) := by simp
  generalize σ ++ [Obj.arr (.pv [.int .i64 (c.col : Int), .str c.op, a, b, c', d]) 0 0 (some 75)] = σ1 at r1 h1 ho1
  obtain ⟨ρ2, ex, r2, hex, g8, h2⟩ := skip27 (C := C) (L := L) h1 c a b c' d σ.length g8 ho1
  have hstart : exec C L n27_3_2kb ⟨ρ, [], σ⟩ = exec C L (.seq (.block 1 (.seq n27_3_2kb_3k_2 (.seq n27_3_2kb_3k_3 (.seq n27_3_2kb_3k_4 (.seq n27_3_2kb_3k_5 n27_3_2kb_3k_6))))) n27_3_2kb_4) ⟨ρ1, [], σ1⟩ := by
    unfold n27_3_2kb n27_3_2kb_3 n27_3_2kb_3k
    exact inBlk r1
  by_cases hs : c.col ≠ col ∨ c.op = wEq
  · rw [if_pos hs] at hex
    subst hex
    obtain ⟨ρ3, r3, h3⟩ := next27 (C := C) (L := L) h2 hi hl
    refine ⟨ρ3, σ1, by rw [hstart, blkE r2, r3], ?_⟩
    unfold stepBd
    rw [if_pos hs]
    exact h3
  · rw [if_neg hs] at hex
    subst hex
    have hne : ¬ c.op = wEq := fun h => hs (.inr h)
    obtain ⟨ρ3, σ3, r3, g8, g9, ho3, h3⟩ := code27 (C := C) (L := L) h2 c hm hE a b c' d e4 σ.length g8 ho1
    obtain ⟨ρ4, q, r4, g33, hq, g9, h4⟩ := sign27 (C := C) (L := L) h3 c a b c' d σ.length g8 ho3 _ g9 hop hne
    have hmid : ∀ {st : St}, exec C L (.seq n27_3_2kb_3k_6 n27_3_2kb_4) ⟨ρ4, [], σ3⟩ = some (.normal, st) → exec C L n27_3_2kb ⟨ρ, [], σ⟩ = some (.normal, st) := by
      intro st he
      rw [hstart, blkA r2, seq_assoc_in, blkA r3, blkA r4]
      exact blkN he
    unfold stepBd
    rw [if_neg hs]
    by_cases hg : c.op = wGt ∨ c.op = wGe
    · rw [if_pos hg]
      rw [decide_eq_true hg] at hq
      subst hq
      obtain ⟨ρ5, r5, h5⟩ := low27 (C := C) (L := L) h4 _ g9
      obtain ⟨ρ6, r6, h6⟩ := next27 (C := C) (L := L) h5 hi hl
      refine ⟨ρ6, _, hmid ?_, h6⟩
      rw [seqN (a := n27_3_2kb_3k_6) (by unfold n27_3_2kb_3k_6; rw [condT (c := .t 33) (st := ⟨ρ4, [], σ3⟩) g33]; exact r5), r6]
    · rw [if_neg hg]
      rw [decide_eq_false hg] at hq
      subst hq
      obtain ⟨ρ5, r5, h5⟩ := high27 (C := C) (L := L) h4 _ (aboveV c.v) g9 hr (hE.abv c hm)
      obtain ⟨ρ6, r6, h6⟩ := next27 (C := C) (L := L) h5 hi hl
      refine ⟨ρ6, _, hmid ?_, h6⟩
      rw [seqN (a := n27_3_2kb_3k_6) (by unfold n27_3_2kb_3k_6; rw [condF (c := .t 33) (st := ⟨ρ4, [], σ3⟩) g33]; exact r5), r6]
end
theorem loop27 {C : Oracle} {L : Nat} {l : List Cl} {col : Nat} (hl : l.length ≤ LIM) (hop : ∀ c ∈ l, isCmp c.op = true) (hE : E27 C l) (hr : Marks.raw 28 = false) : ∀ (d f i : Nat) (ρ : Env) (σ : Heap) (B : Bd), l.length - i ≤ d → d < f → i ≤ l.length → At27 l col ρ σ i B →
    ∃ ρ' σ', iter (exec C L n27_3_2kb) none f ⟨ρ, [], σ⟩ = some (.exit 0, ⟨ρ', [], σ'⟩) ∧ ρ'.get 4 = some (.ptr 0 0 0) ∧ ρ'.get 5 = some (.ptr 1 0 0) ∧ ρ'.get 6 = some (.p (.bool ((l.drop i).foldl (stepBd encV aboveV col) B).some)) ∧
      σ'[0]? = some (.arr (.pv path0) 0 0 (some 23)) ∧ σ'[1]? = some (.arr (.pv (bdC ((l.drop i).foldl (stepBd encV aboveV col) B))) 0 0 (some 23))
  | d, f, i, ρ, σ, B, hd, hf, hi, h => by
    obtain ⟨f, rfl⟩ : ∃ m, f = m + 1 := ⟨f - 1, by omega⟩
    by_cases hs : i = l.length
    · subst hs
      obtain ⟨ρ', e, g4, g5, g6⟩ := stop27 (C := C) (L := L) h
      rw [List.drop_length]
      exact ⟨ρ', σ, by simp only [iter, St.keep, e], g4, g5, g6, h.o0, h.o1⟩
    · have hi' : i < l.length := by omega
      have hdr : l.drop i = l[i] :: l.drop (i + 1) := List.drop_eq_getElem_cons hi'
      obtain ⟨ρ1, σ1, e, h1⟩ := go27 (C := C) (L := L) h l[i] (List.getElem?_eq_getElem hi') hl (hop _ (List.getElem_mem hi')) hE hr
      obtain ⟨d, rfl⟩ : ∃ m, d = m + 1 := ⟨d - 1, by omega⟩
      obtain ⟨ρ', σ', e2, q⟩ := loop27 hl hop hE hr d f (i + 1) ρ1 σ1 _ (by omega) (by omega) (by omega) h1
      rw [hdr, List.foldl_cons]
      exact ⟨ρ', σ', by simp only [iter, St.keep, e]; exact e2, q⟩
end Go.Ab.Turn

/- PlanTurned: a path of the first column's bounds: what it answers. -/
set_option maxRecDepth 1000000
namespace Go.Ab.Turn
open Go Go.Ab Go.Ab.Plan Go.Ab.Key Go.Ab.Cnt Go.Proofs
variable [Marks]
/-- the bounds' path -/
def pathB (B : Bd) : List PV := if B.some = false then [.bool true, .str [], .str [], .bool false] else if le B.lo B.hi = false then [.bool false, .str [], .str [], .bool true] else bdC B
abbrev bd0 : Bd := ⟨[], [255], false⟩
theorem run27 (C : Oracle) (D : DOracle) (L : Nat) {l : List Cl} {col : Nat} (hl : l.length ≤ LIM) (hL : l.length < L) (hop : ∀ c ∈ l, isCmp c.op = true) (hE : E27 C l) (hr : Marks.raw 28 = false) :
    ansV (runFunc C D L lit27 [.p (.vsl (clsC l) l.length), int col] []) = some (.agg (pathB (l.foldl (stepBd encV aboveV col) bd0))) := by
  have hpro : ∃ ρ1, exec C L (.seq (.seq n27_1 n27_2) n27_3_1) ⟨params 0 [.p (.vsl (clsC l) l.length), int col], [], []⟩ = some (.normal, ⟨ρ1, [], [.arr (.pv path0) 0 0 (some 23), .arr (.pv (bdC bd0)) 0 0 (some 23)]⟩) ∧
      At27 l col ρ1 [.arr (.pv path0) 0 0 (some 23), .arr (.pv (bdC bd0)) 0 0 (some 23)] 0 bd0 := by
    have key : ∀ cl : List PV, ∃ ρ1, exec C L (.seq (.seq n27_1 n27_2) n27_3_1) ⟨params 0 [.p (.vsl cl l.length), int col], [], []⟩ = some (.normal, ⟨ρ1, [], [.arr (.pv path0) 0 0 (some 23), .arr (.pv (bdC bd0)) 0 0 (some 23)]⟩) ∧
      ρ1.get 1 = some (int col) ∧ ρ1.get 4 = some (.ptr 0 0 0) ∧ ρ1.get 5 = some (.ptr 1 0 0) ∧ ρ1.get 6 = some (.p (.bool false)) ∧ ρ1.get 11 = some (.p (.vsl cl l.length)) ∧ ρ1.get 12 = some (int l.length) ∧ ρ1.get 13 = some (int 0) := fun cl =>
      ⟨_, by simp [n27_1, n27_2, n27_3_1, params, exec, runOps, wantedA, stepOp, pureOp, allocOp, readOp, effOp, ev, evs, evO, Env.get_cons, putE, binA, intBin, unA, AV.fit, AV.toCells, partC, partP, mkCells, allP, mkAgg, Cells.len, target, evParts, fillA, AV.cells, splice, spliceC, finA, leaveA, resA, resV, ansV, lenA, Cells.toList]; rfl, rfl, rfl, rfl, rfl, rfl, rfl, rfl⟩
    obtain ⟨ρ1, e, q1, q4, q5, q6, q11, q12, q13⟩ := key (clsC l)
    exact ⟨ρ1, e, ⟨q1, q4, q5, q6, q11, q12, q13, rfl, rfl⟩⟩
  obtain ⟨ρ1, e1, h1⟩ := hpro
  obtain ⟨ρ2, σ2, e2, g4, g5, g6, o0, o1⟩ := loop27 (C := C) (L := L) hl hop hE hr l.length L 0 ρ1 _ bd0 (by omega) hL (by omega) h1
  rw [List.drop_zero] at g6 o1
  generalize l.foldl (stepBd encV aboveV col) bd0 = B at g6 o1 ⊢
  rw [runFunc_eq, lit27_tree]
  unfold n27 n27_3
  rw [seq_assoc, seq3, seqN e1]
  have e3 : exec C L n27_3_2 ⟨ρ1, [], [.arr (.pv path0) 0 0 (some 23), .arr (.pv (bdC bd0)) 0 0 (some 23)]⟩ = some (.normal, ⟨ρ2, [], σ2⟩) := by
    unfold n27_3_2 n27_3_2k
    exact blockX (by simp only [exec]; exact e2)
  rw [seqN e3]
  have hl1 : 1 < σ2.length := (List.getElem?_eq_some_iff.1 o1).1
  have hs0 : ∀ x : Obj, (σ2.set 0 x)[0]? = some x := fun x => List.getElem?_set_self (by omega)
  have hgt : (!(Op.bytesLess B.lo B.hi || B.lo == B.hi)) = !(le B.lo B.hi) := by rw [less_le]
  cases hsm : B.some with
  | false =>
    have hp : pathB B = [.bool true, .str [], .str [], .bool false] := if_pos hsm
    rw [hp]
    rw [hsm] at g6
    simp [n27_4, n27_4k, n27_4k_1, n27_4k_2, n27_4k_2t, n27_4k_2t_1, exec, runOps, wantedA, stepOp, pureOp, allocOp, readOp, effOp, ev, evs, evO, Env.get_cons, putE, binA, intBin, unA, AV.fit, AV.toCells, partC, partP, mkCells, allP, mkAgg, Cells.len, target, evParts, fillA, AV.cells, splice, spliceC, finA, leaveA, resA, resV, ansV, finX, mixed, lit27, takeC, dropC, Cells.get?, Cells.toList, g4, g6, o0, hs0]
  | true =>
    rw [hsm] at g6
    cases hle : le B.lo B.hi with
    | false =>
      have hp : pathB B = [.bool false, .str [], .str [], .bool true] := by unfold pathB; rw [if_neg (by rw [hsm]; decide), if_pos hle]
      rw [hp]
      rw [hle] at hgt
      simp only [Bool.not_false] at hgt
      simp [n27_4, n27_4k, n27_4k_1, n27_4k_2, n27_4k_2e, n27_4k_2e_1, n27_4k_2e_2, exec, runOps, wantedA, stepOp, pureOp, allocOp, readOp, effOp, ev, evs, evO, Env.get_cons, putE, binA, intBin, unA, AV.fit, AV.toCells, partC, partP, mkCells, allP, mkAgg, Cells.len, target, evParts, fillA, AV.cells, splice, spliceC, finA, leaveA, resA, resV, ansV, strBin, finX, mixed, lit27, takeC, dropC, Cells.get?, Cells.toList, g4, g5, g6, o0, o1, hs0, ↓hgt]
    | true =>
      have hp : pathB B = bdC B := by unfold pathB; rw [if_neg (by rw [hsm]; decide), if_neg (by rw [hle]; decide)]
      rw [hp]
      rw [hle] at hgt
      simp only [Bool.not_true] at hgt
      simp [n27_4, n27_4k, n27_4k_1, n27_4k_2, n27_4k_2e, n27_4k_2e_1, n27_4k_2e_2, n27_5, exec, runOps, wantedA, stepOp, pureOp, allocOp, readOp, effOp, ev, evs, evO, Env.get_cons, putE, binA, intBin, unA, AV.fit, AV.toCells, partC, partP, mkCells, allP, mkAgg, Cells.len, target, evParts, fillA, AV.cells, splice, spliceC, finA, leaveA, resA, resV, ansV, strBin, finX, mixed, lit27, takeC, dropC, Cells.get?, Cells.toList, g4, g5, g6, o0, o1, hs0, ↓hgt]
end Go.Ab.Turn

/- PlanTurned: Path: the clauses gathered. -/
set_option maxRecDepth 1000000
namespace Go.Ab.Turn
open Go Go.Ab Go.Ab.Plan Go.Ab.Key Go.Ab.Cnt Go.Proofs
variable [Marks]
theorem gather17 {Tb : Table} {L n m : Nat} (k : List Nat) (t : T) (hok : okT t) (h22 : Tb 22 = some (.raw lit22)) (h29 : Tb 29 = some (.raw lit29)) (hr : Tb 4294967295 = some .rnd) (hraw : Marks.raw 4294967295 = true) (hL : 3 ≤ L) (hcl : (clauses t).length ≤ LIM)
    (h23 : ∀ n, m ≤ n → ∀ t, okT t → ∃ c b, (∀ σ, (cAt Tb L n).1 23 [.p (tbl k), .p (node t), int 0] σ = some (.ret (.p (.tup [.agg c, .bool b])), σ)) ∧ Ok23 (read slT t) c b ∧ c.length = 6) (hn : m + 1 + 2 * deep t ≤ n + 1) :
    ∃ ρ σ b, exec (cAt Tb L (n + 1)).1 L (.seq (.seq (.seq n17_1 n17_2) n17_3) (.seq n17_4 (.seq n17_5 n17_6))) ⟨params 0 [.p (tbl k), .p (.vsl (cells t) 1), int 0], [], []⟩ = some (.normal, ⟨ρ, [(4294967294, [.ptr 5 0 0])], σ⟩) ∧
      StF k (saidL (clauses t)) b 5 ρ σ .nil0 [] ∧ ∀ j ∈ own b, 6 ≤ j := by
  have hcell : ∃ p q r s, cells t = [p, q, r, s] := by cases t; exact ⟨_, _, _, _, rfl⟩
  obtain ⟨p, q, r, s, ec⟩ := hcell
  obtain ⟨H, hH⟩ : ∃ H : Heap, H = [.arr (.pv (tblC k)) 0 0 none, .arr (.pv [.int .i64 0]) 0 0 none, .arr (.pv path0) 0 0 (some 23), .arr (.av [.nil0]) 0 0 (some 67)] := ⟨_, rfl⟩
  have hHl : H.length = 4 := by rw [hH]; rfl
  obtain ⟨ρ1, e1, q3, q5, q6, q7, q30⟩ : ∃ ρ1, exec (cAt Tb L (n + 1)).1 L (.seq (.seq (.seq n17_1 n17_2) n17_3) n17_4_1) ⟨params 0 [.p (tbl k), .p (.vsl (cells t) 1), int 0], [], []⟩ = some (.normal, ⟨ρ1, [], H ++ [boxT t]⟩) ∧
      ρ1.get 3 = some (.ptr 0 0 0) ∧ ρ1.get 5 = some (.ptr 1 0 0) ∧ ρ1.get 6 = some (.ptr 2 0 0) ∧ ρ1.get 7 = some (.ptr 3 0 0) ∧ ρ1.get 30 = some (.clo 29 [] [.ptr 4 0 0]) := by
    have hr22 := fun σ => run22 (L := L) (n := n) h22 t σ
    rw [hH]
    generalize (cAt Tb L (n + 1)).1 = C at hr22 ⊢
    simp only [node, boxT, ec] at hr22 ⊢
    exact ⟨_, by simp [n17_1, n17_2, n17_2_1, n17_2_2, n17_3, n17_4_1, params, exec, runOps, wantedA, stepOp, pureOp, allocOp, readOp, effOp, ev, evs, evO, Env.get_cons, putE, binA, intBin, unA, AV.fit, AV.toCells, partC, partP, mkCells, allP, mkAgg, Cells.len, target, evParts, fillA, AV.cells, splice, spliceC, finA, leaveA, resA, resV, ansV, idxA, lenA, takeC, dropC, Cells.get?, Cells.toList, tblC, hr22]; rfl, rfl, rfl, rfl, rfl, rfl⟩
  obtain ⟨σ2, hσ2⟩ : ∃ σ2, σ2 = H ++ [boxT t] := ⟨_, rfl⟩
  rw [← hσ2] at e1
  have hlen2 : σ2.length = 5 := by rw [hσ2]; simp [hHl]
  obtain ⟨ts, hts⟩ : ∃ ts, ts = (keepE ρ1 [43, 42, 40, 41, 7, 39, 10, 38, 37, 9, 32, 36, 35, 34, 33, 5, 3, 31, 8]).map (·.1) := ⟨_, rfl⟩
  obtain ⟨cc, hcc⟩ : ∃ cc, cc = mkCells ((keepE ρ1 [43, 42, 40, 41, 7, 39, 10, 38, 37, 9, 32, 36, 35, 34, 33, 5, 3, 31, 8]).map (·.2)) := ⟨_, rfl⟩
  have z3 : (zipE ts cc.toList).get 3 = some (.ptr 0 0 0) := by rw [hts, hcc, zip_keep, keep_get _ _ _ (by decide), q3]
  have z5 : (zipE ts cc.toList).get 5 = some (.ptr 1 0 0) := by rw [hts, hcc, zip_keep, keep_get _ _ _ (by decide), q5]
  have z7 : (zipE ts cc.toList).get 7 = some (.ptr 3 0 0) := by rw [hts, hcc, zip_keep, keep_get _ _ _ (by decide), q7]
  obtain ⟨σ3, hσ3⟩ : ∃ σ3, σ3 = σ2 ++ [.mark, .loop K17 ts cc .ready] := ⟨_, rfl⟩
  have hexp : σ3 = [.arr (.pv (tblC k)) 0 0 none, .arr (.pv [.int .i64 0]) 0 0 none, .arr (.pv path0) 0 0 (some 23), .arr (.av [.nil0]) 0 0 (some 67), boxT t, .mark, .loop K17 ts cc .ready] := by rw [hσ3, hσ2, hH]; rfl
  have hI3 : (gath k 6).I [] (6 :: 0 :: 1 :: 3 :: own .nil0) σ3 := by
    rw [hexp]
    exact ⟨.nil0, ts, cc, rfl, rfl, z3, z5, z7, rfl, rfl, rfl, Buf.nil, by simp [own], by decide⟩
  have hlen3 : σ3.length = 7 := by rw [hexp]; rfl
  obtain ⟨σ4, O4, e4, hI4, hF4⟩ := clause29 h22 h29 hr hraw hL (deep t) t (Nat.le_refl _) hok (n + 1) (gath k 6) 6 (m + 1) (gath_ok k hr hraw h23 6) hn [] _ σ3 4 (by simpa using hcl) hI3 (by rw [hexp]; rfl) (by simp [own])
  obtain ⟨b, ts4, cc4, rfl, i1, _, _, _, i2, i3, i4, i5, i6, _⟩ := hI4
  rw [List.nil_append] at i5
  have hl4 : 6 < σ4.length := (List.getElem?_eq_some_iff.1 i1).1
  have hob : ∀ j ∈ own b, 7 ≤ j := fun j hj => by
    have h1 := i6 j hj
    rcases hF4.new j (by simp [hj]) with hm | hm
    · simp [own] at hm; omega
    · omega
  have hold : ∀ j, j = 2 ∨ j = 5 → σ4[j]? = σ3[j]? := fun j hj => hF4.old j (by omega) (by simp [own]; omega)
  have e3 : exec (cAt Tb L (n + 1)).1 L n17_4_2 ⟨ρ1, [], σ2⟩ = some (.normal, ⟨ρ1, [(4294967294, [.ptr 5 0 0])], σ4.set 6 (.loop K17 ts4 cc4 .over)⟩) := by
    unfold n17_4_2
    refine blockN ?_
    have := rng_run (C := (cAt Tb L (n + 1)).1) (L := L) (ps := [31]) (a := xaOf n17_4_2k) (b := xbOf n17_4_2k) (g := .t 30) (ts := [43, 42, 40, 41, 7, 39, 10, 38, 37, 9, 32, 36, 35, 34, 33, 5, 3, 31, 8]) (ρ := ρ1) (ds := []) (σ := σ2) (σ2 := σ4) (gv := .clo 29 [] [.ptr 4 0 0]) (v := .p (.tup [])) (f := 29) (xs := [.yld 6, .ptr 4 0 0]) (k := K17) (ts' := ts4) (c := cc4)
      q30 (by rw [hlen2]; rfl) (by rw [← hts, ← hcc, ← hσ3]; exact e4) (by rw [hlen2]; exact i1)
    rw [hlen2] at this
    exact this
  have i2' : (σ4.set 6 (.loop K17 ts4 cc4 .over))[0]? = some (.arr (.pv (tblC k)) 0 0 none) := by rw [List.getElem?_set_ne (by decide)]; exact i2
  obtain ⟨ρ5, e5, g6, g7, g11, g12⟩ : ∃ ρ5, exec (cAt Tb L (n + 1)).1 L (.seq n17_5 n17_6) ⟨ρ1, [(4294967294, [.ptr 5 0 0])], σ4.set 6 (.loop K17 ts4 cc4 .over)⟩ = some (.normal, ⟨ρ5, [(4294967294, [.ptr 5 0 0])], σ4.set 6 (.loop K17 ts4 cc4 .over)⟩) ∧
      ρ5.get 6 = ρ1.get 6 ∧ ρ5.get 7 = ρ1.get 7 ∧ ρ5.get 11 = some (.p (.vsl (cols k) k.length)) ∧ ρ5.get 12 = some .nil0 := by
    generalize σ4.set 6 (.loop K17 ts4 cc4 .over) = σ5 at i2' ⊢
    generalize (cAt Tb L (n + 1)).1 = C
    simp only [tblC] at i2'
    exact ⟨_, by simp [n17_5, n17_6, exec, runOps, wantedA, stepOp, pureOp, allocOp, readOp, effOp, ev, evs, evO, Env.get_cons, putE, binA, intBin, unA, AV.fit, AV.toCells, partC, partP, mkCells, allP, mkAgg, Cells.len, target, idxA, takeC, dropC, Cells.get?, q3, i2']; rfl, by simp [Env.get_cons], by simp [Env.get_cons], by simp [Env.get_cons], by simp [Env.get_cons]⟩
  refine ⟨ρ5, σ4.set 6 (.loop K17 ts4 cc4 .over), b, ?_, ⟨g6.trans q6, g7.trans q7, g11, g12, ?_, ?_, ?_, Buf.nil, by simp [own], ?_, by decide⟩, fun j hj => by have := hob j hj; omega⟩
  · unfold n17_4
    rw [seq3, seqN e1, seqN e3]
    exact e5
  · rw [List.getElem?_set_ne (by decide), hold 2 (.inl rfl), hexp]; rfl
  · rw [List.getElem?_set_ne (by decide)]; exact i4
  · rcases i5.2 with ⟨rfl, h0⟩ | ⟨_, id, ver, rfl, ho⟩
    · exact .inl ⟨rfl, List.eq_nil_of_length_eq_zero h0⟩
    · refine .inr ⟨id, ver, 0, some 75, rfl, ?_⟩
      have := hob id (by simp [own])
      rw [List.getElem?_set_ne (by omega)]
      exact ho
  · rw [List.getElem?_set_ne (by decide), hold 5 (.inr rfl), hexp]; rfl
end Go.Ab.Turn
