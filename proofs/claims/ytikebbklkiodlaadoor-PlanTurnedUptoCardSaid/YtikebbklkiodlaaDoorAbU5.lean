/- PlanTurned: the law's table; a tree, turned: its sign. -/
import Derived.Test.YtikebbklkiodlaaDoorAbUD
set_option linter.unusedSectionVars false
set_option linter.unusedSimpArgs false
set_option linter.unusedVariables false
set_option maxRecDepth 1000000
namespace Go.Ab.Turn
open Go Go.Ab Go.Ab.Plan Go.Ab.Key Go.Ab.Cnt Go.Proofs
variable [Marks]
/-- the table's columns -/
abbrev colsT : List PV := [.str [97], .int .i64 2, .int .i64 0, .bool false, .str [98], .int .i64 3, .int .i64 0, .bool false, .str [99], .int .i64 5, .int .i64 9, .bool false]
/-- the table, its key -/
abbrev tblC (k : List Nat) : List PV := [.str [116], .vsl colsT 3, .vsl [.str [], .vsl (cols k) k.length, .bool true] 1, .vsl [] 0, .vsl [] 0]
abbrev tbl (k : List Nat) : PV := .agg (tblC k)
def ansF (x : Option (CRes × Heap)) : Option PV := match x with
  | some (.ret v, σ1) => match frz (List.range σ1.length) 9 σ1 v with
    | some (p, _) => some p
    | none => none
  | _ => none
theorem call_ansF {T : Table} {L n f : Nat} {af : AFunc} {ps : List PV} {p : PV} (hT : T f = some (.ans af)) (hf : fits af (ps.map .p) = true)
    (h : ansF (runFunc (cAt T L n).1 (cAt T L n).2 L af (ps.map .p) []) = some p) (σ : Heap) : (cAt T L (n + 1)).1 f (ps.map .p) σ = some (.ret (.p p), σ) := by
  unfold ansF at h
  split at h
  · rename_i v σ1 hr
    split at h
    · rename_i q σ2 hz
      obtain rfl := Option.some.inj h
      exact call_frz hT hf hr hz σ
    · cases h
  · cases h
theorem table15 {T : Table} {L n : Nat} (hT : T 15 = some (.ans lit15)) (k : List Nat) (σ : Heap) : (cAt T L (n + 1)).1 15 [.p (.vsl (cols k) k.length)] σ = some (.ret (.p (tbl k)), σ) := by
  generalize hc : cols k = c
  generalize hl : k.length = m
  have := call_ansF (n := n) (L := L) (ps := [.vsl c m]) (p := .agg [.str [116], .vsl colsT 3, .vsl [.str [], .vsl c m, .bool true] 1, .vsl [] 0, .vsl [] 0]) hT (by rfl) (by kernel_rfl) σ
  simp only [tbl, tblC, hc, hl]
  exact this
section
variable (C : Oracle) (L : Nat) (op s : Word) (n : Int) (l : List T) (cur : Word) (ρ : Env) (i : Nat) (q : Bool)
abbrev out18 (cur s : Word) (n : Int) (b : AV) : Obj := .arr (.av [.p (.str cur), .p (.str s), .p (.int .i64 n), b]) 0 0 (some 45)
abbrev heap18 (cur : Word) : Heap := [.arr (.pv (cells (.mk op s n l))) 0 0 none, .arr (.av [.p (.str []), .p (.str []), .p (.int .i64 0), .nil0]) 0 0 (some 45), out18 cur s n .nil0,
  .arr (.pv [.str [60], .str [60, 61], .str [62], .str [62, 61]]) 0 0 none, .arr (.pv [.str [62], .str [62, 61], .str [60], .str [60, 61]]) 0 0 none]
/-- a drawn region's operations -/
def opsD : ACode → List AOper
  | .draw _ _ ops => ops
  | _ => []
structure At18 (ρ : Env) (i : Nat) (q : Bool) : Prop where
  t1 : ρ.get 1 = some (.ptr 0 0 0)
  t2 : ρ.get 2 = some (.ptr 1 0 0)
  t3 : ρ.get 3 = some (.ptr 2 0 0)
  t4 : ρ.get 4 = some (.sl 3 0 0 4 1)
  t5 : ρ.get 5 = some (.sl 4 0 0 4 1)
  t6 : ρ.get 6 = some (.p (.bool q))
  t7 : ρ.get 7 = some (int i)
theorem draw18_0 (σ : Heap) (h : At18 ρ 0 q) (x y : Bool) (h1 : (op == [60]) = x) (h2 : x = true → ((l.length : Int) == 2) = y)
    (o0 : σ[0]? = some (.arr (.pv (cells (.mk op s n l))) 0 0 none)) (o3 : σ[3]? = some (.arr (.pv [.str [60], .str [60, 61], .str [62], .str [62, 61]]) 0 0 none)) :
    ∃ ρ', exec C L n18_6_2kb_2k_1 ⟨ρ, [], σ⟩ = some (.normal, ⟨ρ', [], σ⟩) ∧ At18 ρ' 0 q ∧ ρ'.get 44 = some (.p (.bool (x && y))) := by
  simp only [cells] at o0
  have fin : (∃ s : Tr, drawRun C 0 (opsD n18_6_2kb_2k_1) ⟨⟨ρ, [], σ⟩, [], []⟩ = some (none, s) ∧ s.wrs = [] ∧ s.st.defers = [] ∧ s.st.heap = σ ∧ At18 s.st.env 0 q ∧ s.st.env.get 44 = some (.p (.bool (x && y)))) → ∃ ρ', exec C L n18_6_2kb_2k_1 ⟨ρ, [], σ⟩ = some (.normal, ⟨ρ', [], σ⟩) ∧ At18 ρ' 0 q ∧ ρ'.get 44 = some (.p (.bool (x && y))) := by
    rintro ⟨⟨⟨ρ', d, σ'⟩, rds, wrs⟩, hr, hw, hd, hh, hA, h44⟩
    simp only at hw hd hh
    subst hw hd hh
    exact ⟨ρ', drawX hr okRW_nil, hA, h44⟩
  cases x with
  | true =>
    have h2 := h2 rfl
    exact fin ⟨_, by
      show drawRun C 0 (_ :: _) _ = _
      refine (drawS rfl rfl (by simp [stillOp, valsOp, refOf, refV, oneH, exec, runOps, wantedA, stepOp, pureOp, allocOp, readOp, effOp, ev, evs, evO, Env.get_cons, putE, binA, intBin, unA, AV.fit, AV.toCells, partC, partP, mkCells, allP, mkAgg, Cells.len, target, idxA, lenA, keepE, readsOf, opds, tmpsOf, Env.get_cons, wantedA, putE, h.t1, h.t4, h.t7, o0, o3, h1, h2]; rfl)).trans ?_
      refine (drawR rfl rfl (by simp [stillOp, valsOp, refOf, refV, oneH, exec, runOps, wantedA, stepOp, pureOp, allocOp, readOp, effOp, ev, evs, evO, Env.get_cons, putE, binA, intBin, unA, AV.fit, AV.toCells, partC, partP, mkCells, allP, mkAgg, Cells.len, target, takeC, dropC, Cells.get?, keepE, readsOf, opds, tmpsOf, Env.get_cons, wantedA, putE, h.t1, h.t4, h.t7, o0, o3, h1, h2]; exact ⟨rfl, rfl⟩)).trans ?_
      refine (drawS rfl rfl (by simp [stillOp, valsOp, refOf, refV, oneH, exec, runOps, wantedA, stepOp, pureOp, allocOp, readOp, effOp, ev, evs, evO, Env.get_cons, putE, binA, intBin, unA, AV.fit, AV.toCells, partC, partP, mkCells, allP, mkAgg, Cells.len, target, idxA, lenA, keepE, readsOf, opds, tmpsOf, Env.get_cons, wantedA, putE, h.t1, h.t4, h.t7, o0, o3, h1, h2]; rfl)).trans ?_
      refine (drawS rfl rfl (by simp [stillOp, valsOp, refOf, refV, oneH, exec, runOps, wantedA, stepOp, pureOp, allocOp, readOp, effOp, ev, evs, evO, Env.get_cons, putE, binA, intBin, unA, AV.fit, AV.toCells, partC, partP, mkCells, allP, mkAgg, Cells.len, target, idxA, lenA, keepE, readsOf, opds, tmpsOf, Env.get_cons, wantedA, putE, h.t1, h.t4, h.t7, o0, o3, h1, h2]; rfl)).trans ?_
      refine (drawS rfl rfl (by simp [stillOp, valsOp, refOf, refV, oneH, exec, runOps, wantedA, stepOp, pureOp, allocOp, readOp, effOp, ev, evs, evO, Env.get_cons, putE, binA, intBin, unA, AV.fit, AV.toCells, partC, partP, mkCells, allP, mkAgg, Cells.len, target, idxA, lenA, keepE, readsOf, opds, tmpsOf, Env.get_cons, wantedA, putE, h.t1, h.t4, h.t7, o0, o3, h1, h2]; rfl)).trans ?_
      refine (drawR rfl rfl (by simp [stillOp, valsOp, refOf, refV, oneH, exec, runOps, wantedA, stepOp, pureOp, allocOp, readOp, effOp, ev, evs, evO, Env.get_cons, putE, binA, intBin, unA, AV.fit, AV.toCells, partC, partP, mkCells, allP, mkAgg, Cells.len, target, takeC, dropC, Cells.get?, keepE, readsOf, opds, tmpsOf, Env.get_cons, wantedA, putE, h.t1, h.t4, h.t7, o0, o3, h1, h2]; exact ⟨rfl, rfl⟩)).trans ?_
      refine (drawS rfl rfl (by simp [stillOp, valsOp, refOf, refV, oneH, exec, runOps, wantedA, stepOp, pureOp, allocOp, readOp, effOp, ev, evs, evO, Env.get_cons, putE, binA, intBin, unA, AV.fit, AV.toCells, partC, partP, mkCells, allP, mkAgg, Cells.len, target, idxA, lenA, keepE, readsOf, opds, tmpsOf, Env.get_cons, wantedA, putE, h.t1, h.t4, h.t7, o0, o3, h1, h2]; rfl)).trans ?_
      refine (drawS rfl rfl (by simp [stillOp, valsOp, refOf, refV, oneH, exec, runOps, wantedA, stepOp, pureOp, allocOp, readOp, effOp, ev, evs, evO, Env.get_cons, putE, binA, intBin, unA, AV.fit, AV.toCells, partC, partP, mkCells, allP, mkAgg, Cells.len, target, idxA, lenA, keepE, readsOf, opds, tmpsOf, Env.get_cons, wantedA, putE, h.t1, h.t4, h.t7, o0, o3, h1, h2]; rfl)).trans ?_
      refine (drawS (by simp [keepE, readsOf, opds, tmpsOf, Env.get_cons, wantedA, putE, h.t1, h.t4, h.t7, o0, o3, h1, h2]) rfl (by simp [stillOp, valsOp, refOf, refV, oneH, exec, runOps, wantedA, stepOp, pureOp, allocOp, readOp, effOp, ev, evs, evO, Env.get_cons, putE, binA, intBin, unA, AV.fit, AV.toCells, partC, partP, mkCells, allP, mkAgg, Cells.len, target, idxA, lenA, keepE, readsOf, opds, tmpsOf, Env.get_cons, wantedA, putE, h.t1, h.t4, h.t7, o0, o3, h1, h2]; rfl)).trans ?_
      refine (drawR (by simp [keepE, readsOf, opds, tmpsOf, Env.get_cons, wantedA, putE, h.t1, h.t4, h.t7, o0, o3, h1, h2]) rfl (by simp [stillOp, valsOp, refOf, refV, oneH, exec, runOps, wantedA, stepOp, pureOp, allocOp, readOp, effOp, ev, evs, evO, Env.get_cons, putE, binA, intBin, unA, AV.fit, AV.toCells, partC, partP, mkCells, allP, mkAgg, Cells.len, target, takeC, dropC, Cells.get?, keepE, readsOf, opds, tmpsOf, Env.get_cons, wantedA, putE, h.t1, h.t4, h.t7, o0, o3, h1, h2]; exact ⟨rfl, rfl⟩)).trans ?_
      refine (drawS (by simp [keepE, readsOf, opds, tmpsOf, Env.get_cons, wantedA, putE, h.t1, h.t4, h.t7, o0, o3, h1, h2]) rfl (by simp [stillOp, valsOp, refOf, refV, oneH, exec, runOps, wantedA, stepOp, pureOp, allocOp, readOp, effOp, ev, evs, evO, Env.get_cons, putE, binA, intBin, unA, AV.fit, AV.toCells, partC, partP, mkCells, allP, mkAgg, Cells.len, target, idxA, lenA, keepE, readsOf, opds, tmpsOf, Env.get_cons, wantedA, putE, h.t1, h.t4, h.t7, o0, o3, h1, h2]; rfl)).trans ?_
      refine (drawS (by simp [keepE, readsOf, opds, tmpsOf, Env.get_cons, wantedA, putE, h.t1, h.t4, h.t7, o0, o3, h1, h2]) rfl (by simp [stillOp, valsOp, refOf, refV, oneH, exec, runOps, wantedA, stepOp, pureOp, allocOp, readOp, effOp, ev, evs, evO, Env.get_cons, putE, binA, intBin, unA, AV.fit, AV.toCells, partC, partP, mkCells, allP, mkAgg, Cells.len, target, idxA, lenA, keepE, readsOf, opds, tmpsOf, Env.get_cons, wantedA, putE, h.t1, h.t4, h.t7, o0, o3, h1, h2]; rfl)).trans ?_
      refine (drawS rfl rfl (by simp [stillOp, valsOp, refOf, refV, oneH, exec, runOps, wantedA, stepOp, pureOp, allocOp, readOp, effOp, ev, evs, evO, Env.get_cons, putE, binA, intBin, unA, AV.fit, AV.toCells, partC, partP, mkCells, allP, mkAgg, Cells.len, target, idxA, lenA, keepE, readsOf, opds, tmpsOf, Env.get_cons, wantedA, putE, h.t1, h.t4, h.t7, o0, o3, h1, h2]; rfl)).trans ?_
      exact rfl, by rfl, by rfl, by rfl, ⟨by simp [putE, Env.get_cons, h.t1], by simp [putE, Env.get_cons, h.t2], by simp [putE, Env.get_cons, h.t3], by simp [putE, Env.get_cons, h.t4], by simp [putE, Env.get_cons, h.t5], by simp [putE, Env.get_cons, h.t6], by simp [putE, Env.get_cons, h.t7]⟩, by simp [putE, Env.get_cons]⟩
  | false =>
    exact fin ⟨_, by
      show drawRun C 0 (_ :: _) _ = _
      refine (drawS rfl rfl (by simp [stillOp, valsOp, refOf, refV, oneH, exec, runOps, wantedA, stepOp, pureOp, allocOp, readOp, effOp, ev, evs, evO, Env.get_cons, putE, binA, intBin, unA, AV.fit, AV.toCells, partC, partP, mkCells, allP, mkAgg, Cells.len, target, idxA, lenA, keepE, readsOf, opds, tmpsOf, Env.get_cons, wantedA, putE, h.t1, h.t4, h.t7, o0, o3, h1]; rfl)).trans ?_
      refine (drawR rfl rfl (by simp [stillOp, valsOp, refOf, refV, oneH, exec, runOps, wantedA, stepOp, pureOp, allocOp, readOp, effOp, ev, evs, evO, Env.get_cons, putE, binA, intBin, unA, AV.fit, AV.toCells, partC, partP, mkCells, allP, mkAgg, Cells.len, target, takeC, dropC, Cells.get?, keepE, readsOf, opds, tmpsOf, Env.get_cons, wantedA, putE, h.t1, h.t4, h.t7, o0, o3, h1]; exact ⟨rfl, rfl⟩)).trans ?_
      refine (drawS rfl rfl (by simp [stillOp, valsOp, refOf, refV, oneH, exec, runOps, wantedA, stepOp, pureOp, allocOp, readOp, effOp, ev, evs, evO, Env.get_cons, putE, binA, intBin, unA, AV.fit, AV.toCells, partC, partP, mkCells, allP, mkAgg, Cells.len, target, idxA, lenA, keepE, readsOf, opds, tmpsOf, Env.get_cons, wantedA, putE, h.t1, h.t4, h.t7, o0, o3, h1]; rfl)).trans ?_
      refine (drawS rfl rfl (by simp [stillOp, valsOp, refOf, refV, oneH, exec, runOps, wantedA, stepOp, pureOp, allocOp, readOp, effOp, ev, evs, evO, Env.get_cons, putE, binA, intBin, unA, AV.fit, AV.toCells, partC, partP, mkCells, allP, mkAgg, Cells.len, target, idxA, lenA, keepE, readsOf, opds, tmpsOf, Env.get_cons, wantedA, putE, h.t1, h.t4, h.t7, o0, o3, h1]; rfl)).trans ?_
      refine (drawS rfl rfl (by simp [stillOp, valsOp, refOf, refV, oneH, exec, runOps, wantedA, stepOp, pureOp, allocOp, readOp, effOp, ev, evs, evO, Env.get_cons, putE, binA, intBin, unA, AV.fit, AV.toCells, partC, partP, mkCells, allP, mkAgg, Cells.len, target, idxA, lenA, keepE, readsOf, opds, tmpsOf, Env.get_cons, wantedA, putE, h.t1, h.t4, h.t7, o0, o3, h1]; rfl)).trans ?_
      refine (drawR rfl rfl (by simp [stillOp, valsOp, refOf, refV, oneH, exec, runOps, wantedA, stepOp, pureOp, allocOp, readOp, effOp, ev, evs, evO, Env.get_cons, putE, binA, intBin, unA, AV.fit, AV.toCells, partC, partP, mkCells, allP, mkAgg, Cells.len, target, takeC, dropC, Cells.get?, keepE, readsOf, opds, tmpsOf, Env.get_cons, wantedA, putE, h.t1, h.t4, h.t7, o0, o3, h1]; exact ⟨rfl, rfl⟩)).trans ?_
      refine (drawS rfl rfl (by simp [stillOp, valsOp, refOf, refV, oneH, exec, runOps, wantedA, stepOp, pureOp, allocOp, readOp, effOp, ev, evs, evO, Env.get_cons, putE, binA, intBin, unA, AV.fit, AV.toCells, partC, partP, mkCells, allP, mkAgg, Cells.len, target, idxA, lenA, keepE, readsOf, opds, tmpsOf, Env.get_cons, wantedA, putE, h.t1, h.t4, h.t7, o0, o3, h1]; rfl)).trans ?_
      refine (drawS rfl rfl (by simp [stillOp, valsOp, refOf, refV, oneH, exec, runOps, wantedA, stepOp, pureOp, allocOp, readOp, effOp, ev, evs, evO, Env.get_cons, putE, binA, intBin, unA, AV.fit, AV.toCells, partC, partP, mkCells, allP, mkAgg, Cells.len, target, idxA, lenA, keepE, readsOf, opds, tmpsOf, Env.get_cons, wantedA, putE, h.t1, h.t4, h.t7, o0, o3, h1]; rfl)).trans ?_
      refine (drawN (by simp [keepE, readsOf, opds, tmpsOf, Env.get_cons, wantedA, putE, h.t1, h.t4, h.t7, o0, o3, h1])).trans ?_
      refine (drawN (by simp [keepE, readsOf, opds, tmpsOf, Env.get_cons, wantedA, putE, h.t1, h.t4, h.t7, o0, o3, h1])).trans ?_
      refine (drawN (by simp [keepE, readsOf, opds, tmpsOf, Env.get_cons, wantedA, putE, h.t1, h.t4, h.t7, o0, o3, h1])).trans ?_
      refine (drawN (by simp [keepE, readsOf, opds, tmpsOf, Env.get_cons, wantedA, putE, h.t1, h.t4, h.t7, o0, o3, h1])).trans ?_
      refine (drawS rfl rfl (by simp [stillOp, valsOp, refOf, refV, oneH, exec, runOps, wantedA, stepOp, pureOp, allocOp, readOp, effOp, ev, evs, evO, Env.get_cons, putE, binA, intBin, unA, AV.fit, AV.toCells, partC, partP, mkCells, allP, mkAgg, Cells.len, target, idxA, lenA, keepE, readsOf, opds, tmpsOf, Env.get_cons, wantedA, putE, h.t1, h.t4, h.t7, o0, o3, h1]; rfl)).trans ?_
      exact rfl, by rfl, by rfl, by rfl, ⟨by simp [putE, Env.get_cons, h.t1], by simp [putE, Env.get_cons, h.t2], by simp [putE, Env.get_cons, h.t3], by simp [putE, Env.get_cons, h.t4], by simp [putE, Env.get_cons, h.t5], by simp [putE, Env.get_cons, h.t6], by simp [putE, Env.get_cons, h.t7]⟩, by simp [putE, Env.get_cons]⟩
theorem draw18_1 (σ : Heap) (h : At18 ρ 1 q) (x y : Bool) (h1 : (op == [60, 61]) = x) (h2 : x = true → ((l.length : Int) == 2) = y)
    (o0 : σ[0]? = some (.arr (.pv (cells (.mk op s n l))) 0 0 none)) (o3 : σ[3]? = some (.arr (.pv [.str [60], .str [60, 61], .str [62], .str [62, 61]]) 0 0 none)) :
    ∃ ρ', exec C L n18_6_2kb_2k_1 ⟨ρ, [], σ⟩ = some (.normal, ⟨ρ', [], σ⟩) ∧ At18 ρ' 1 q ∧ ρ'.get 44 = some (.p (.bool (x && y))) := by
  simp only [cells] at o0
  have fin : (∃ s : Tr, drawRun C 0 (opsD n18_6_2kb_2k_1) ⟨⟨ρ, [], σ⟩, [], []⟩ = some (none, s) ∧ s.wrs = [] ∧ s.st.defers = [] ∧ s.st.heap = σ ∧ At18 s.st.env 1 q ∧ s.st.env.get 44 = some (.p (.bool (x && y)))) → ∃ ρ', exec C L n18_6_2kb_2k_1 ⟨ρ, [], σ⟩ = some (.normal, ⟨ρ', [], σ⟩) ∧ At18 ρ' 1 q ∧ ρ'.get 44 = some (.p (.bool (x && y))) := by
    rintro ⟨⟨⟨ρ', d, σ'⟩, rds, wrs⟩, hr, hw, hd, hh, hA, h44⟩
    simp only at hw hd hh
    subst hw hd hh
    exact ⟨ρ', drawX hr okRW_nil, hA, h44⟩
  cases x with
  | true =>
    have h2 := h2 rfl
    exact fin ⟨_, by
      show drawRun C 0 (_ :: _) _ = _
      refine (drawS rfl rfl (by simp [stillOp, valsOp, refOf, refV, oneH, exec, runOps, wantedA, stepOp, pureOp, allocOp, readOp, effOp, ev, evs, evO, Env.get_cons, putE, binA, intBin, unA, AV.fit, AV.toCells, partC, partP, mkCells, allP, mkAgg, Cells.len, target, idxA, lenA, keepE, readsOf, opds, tmpsOf, Env.get_cons, wantedA, putE, h.t1, h.t4, h.t7, o0, o3, h1, h2]; rfl)).trans ?_
      refine (drawR rfl rfl (by simp [stillOp, valsOp, refOf, refV, oneH, exec, runOps, wantedA, stepOp, pureOp, allocOp, readOp, effOp, ev, evs, evO, Env.get_cons, putE, binA, intBin, unA, AV.fit, AV.toCells, partC, partP, mkCells, allP, mkAgg, Cells.len, target, takeC, dropC, Cells.get?, keepE, readsOf, opds, tmpsOf, Env.get_cons, wantedA, putE, h.t1, h.t4, h.t7, o0, o3, h1, h2]; exact ⟨rfl, rfl⟩)).trans ?_
      refine (drawS rfl rfl (by simp [stillOp, valsOp, refOf, refV, oneH, exec, runOps, wantedA, stepOp, pureOp, allocOp, readOp, effOp, ev, evs, evO, Env.get_cons, putE, binA, intBin, unA, AV.fit, AV.toCells, partC, partP, mkCells, allP, mkAgg, Cells.len, target, idxA, lenA, keepE, readsOf, opds, tmpsOf, Env.get_cons, wantedA, putE, h.t1, h.t4, h.t7, o0, o3, h1, h2]; rfl)).trans ?_
      refine (drawS rfl rfl (by simp [stillOp, valsOp, refOf, refV, oneH, exec, runOps, wantedA, stepOp, pureOp, allocOp, readOp, effOp, ev, evs, evO, Env.get_cons, putE, binA, intBin, unA, AV.fit, AV.toCells, partC, partP, mkCells, allP, mkAgg, Cells.len, target, idxA, lenA, keepE, readsOf, opds, tmpsOf, Env.get_cons, wantedA, putE, h.t1, h.t4, h.t7, o0, o3, h1, h2]; rfl)).trans ?_
      refine (drawS rfl rfl (by simp [stillOp, valsOp, refOf, refV, oneH, exec, runOps, wantedA, stepOp, pureOp, allocOp, readOp, effOp, ev, evs, evO, Env.get_cons, putE, binA, intBin, unA, AV.fit, AV.toCells, partC, partP, mkCells, allP, mkAgg, Cells.len, target, idxA, lenA, keepE, readsOf, opds, tmpsOf, Env.get_cons, wantedA, putE, h.t1, h.t4, h.t7, o0, o3, h1, h2]; rfl)).trans ?_
      refine (drawR rfl rfl (by simp [stillOp, valsOp, refOf, refV, oneH, exec, runOps, wantedA, stepOp, pureOp, allocOp, readOp, effOp, ev, evs, evO, Env.get_cons, putE, binA, intBin, unA, AV.fit, AV.toCells, partC, partP, mkCells, allP, mkAgg, Cells.len, target, takeC, dropC, Cells.get?, keepE, readsOf, opds, tmpsOf, Env.get_cons, wantedA, putE, h.t1, h.t4, h.t7, o0, o3, h1, h2]; exact ⟨rfl, rfl⟩)).trans ?_
      refine (drawS rfl rfl (by simp [stillOp, valsOp, refOf, refV, oneH, exec, runOps, wantedA, stepOp, pureOp, allocOp, readOp, effOp, ev, evs, evO, Env.get_cons, putE, binA, intBin, unA, AV.fit, AV.toCells, partC, partP, mkCells, allP, mkAgg, Cells.len, target, idxA, lenA, keepE, readsOf, opds, tmpsOf, Env.get_cons, wantedA, putE, h.t1, h.t4, h.t7, o0, o3, h1, h2]; rfl)).trans ?_
      refine (drawS rfl rfl (by simp [stillOp, valsOp, refOf, refV, oneH, exec, runOps, wantedA, stepOp, pureOp, allocOp, readOp, effOp, ev, evs, evO, Env.get_cons, putE, binA, intBin, unA, AV.fit, AV.toCells, partC, partP, mkCells, allP, mkAgg, Cells.len, target, idxA, lenA, keepE, readsOf, opds, tmpsOf, Env.get_cons, wantedA, putE, h.t1, h.t4, h.t7, o0, o3, h1, h2]; rfl)).trans ?_
      refine (drawS (by simp [keepE, readsOf, opds, tmpsOf, Env.get_cons, wantedA, putE, h.t1, h.t4, h.t7, o0, o3, h1, h2]) rfl (by simp [stillOp, valsOp, refOf, refV, oneH, exec, runOps, wantedA, stepOp, pureOp, allocOp, readOp, effOp, ev, evs, evO, Env.get_cons, putE, binA, intBin, unA, AV.fit, AV.toCells, partC, partP, mkCells, allP, mkAgg, Cells.len, target, idxA, lenA, keepE, readsOf, opds, tmpsOf, Env.get_cons, wantedA, putE, h.t1, h.t4, h.t7, o0, o3, h1, h2]; rfl)).trans ?_
      refine (drawR (by simp [keepE, readsOf, opds, tmpsOf, Env.get_cons, wantedA, putE, h.t1, h.t4, h.t7, o0, o3, h1, h2]) rfl (by simp [stillOp, valsOp, refOf, refV, oneH, exec, runOps, wantedA, stepOp, pureOp, allocOp, readOp, effOp, ev, evs, evO, Env.get_cons, putE, binA, intBin, unA, AV.fit, AV.toCells, partC, partP, mkCells, allP, mkAgg, Cells.len, target, takeC, dropC, Cells.get?, keepE, readsOf, opds, tmpsOf, Env.get_cons, wantedA, putE, h.t1, h.t4, h.t7, o0, o3, h1, h2]; exact ⟨rfl, rfl⟩)).trans ?_
      refine (drawS (by simp [keepE, readsOf, opds, tmpsOf, Env.get_cons, wantedA, putE, h.t1, h.t4, h.t7, o0, o3, h1, h2]) rfl (by simp [stillOp, valsOp, refOf, refV, oneH, exec, runOps, wantedA, stepOp, pureOp, allocOp, readOp, effOp, ev, evs, evO, Env.get_cons, putE, binA, intBin, unA, AV.fit, AV.toCells, partC, partP, mkCells, allP, mkAgg, Cells.len, target, idxA, lenA, keepE, readsOf, opds, tmpsOf, Env.get_cons, wantedA, putE, h.t1, h.t4, h.t7, o0, o3, h1, h2]; rfl)).trans ?_
      refine (drawS (by simp [keepE, readsOf, opds, tmpsOf, Env.get_cons, wantedA, putE, h.t1, h.t4, h.t7, o0, o3, h1, h2]) rfl (by simp [stillOp, valsOp, refOf, refV, oneH, exec, runOps, wantedA, stepOp, pureOp, allocOp, readOp, effOp, ev, evs, evO, Env.get_cons, putE, binA, intBin, unA, AV.fit, AV.toCells, partC, partP, mkCells, allP, mkAgg, Cells.len, target, idxA, lenA, keepE, readsOf, opds, tmpsOf, Env.get_cons, wantedA, putE, h.t1, h.t4, h.t7, o0, o3, h1, h2]; rfl)).trans ?_
      refine (drawS rfl rfl (by simp [stillOp, valsOp, refOf, refV, oneH, exec, runOps, wantedA, stepOp, pureOp, allocOp, readOp, effOp, ev, evs, evO, Env.get_cons, putE, binA, intBin, unA, AV.fit, AV.toCells, partC, partP, mkCells, allP, mkAgg, Cells.len, target, idxA, lenA, keepE, readsOf, opds, tmpsOf, Env.get_cons, wantedA, putE, h.t1, h.t4, h.t7, o0, o3, h1, h2]; rfl)).trans ?_
      exact rfl, by rfl, by rfl, by rfl, ⟨by simp [putE, Env.get_cons, h.t1], by simp [putE, Env.get_cons, h.t2], by simp [putE, Env.get_cons, h.t3], by simp [putE, Env.get_cons, h.t4], by simp [putE, Env.get_cons, h.t5], by simp [putE, Env.get_cons, h.t6], by simp [putE, Env.get_cons, h.t7]⟩, by simp [putE, Env.get_cons]⟩
  | false =>
    exact fin ⟨_, by
      show drawRun C 0 (_ :: _) _ = _
      refine (drawS rfl rfl (by simp [stillOp, valsOp, refOf, refV, oneH, exec, runOps, wantedA, stepOp, pureOp, allocOp, readOp, effOp, ev, evs, evO, Env.get_cons, putE, binA, intBin, unA, AV.fit, AV.toCells, partC, partP, mkCells, allP, mkAgg, Cells.len, target, idxA, lenA, keepE, readsOf, opds, tmpsOf, Env.get_cons, wantedA, putE, h.t1, h.t4, h.t7, o0, o3, h1]; rfl)).trans ?_
      refine (drawR rfl rfl (by simp [stillOp, valsOp, refOf, refV, oneH, exec, runOps, wantedA, stepOp, pureOp, allocOp, readOp, effOp, ev, evs, evO, Env.get_cons, putE, binA, intBin, unA, AV.fit, AV.toCells, partC, partP, mkCells, allP, mkAgg, Cells.len, target, takeC, dropC, Cells.get?, keepE, readsOf, opds, tmpsOf, Env.get_cons, wantedA, putE, h.t1, h.t4, h.t7, o0, o3, h1]; exact ⟨rfl, rfl⟩)).trans ?_
      refine (drawS rfl rfl (by simp [stillOp, valsOp, refOf, refV, oneH, exec, runOps, wantedA, stepOp, pureOp, allocOp, readOp, effOp, ev, evs, evO, Env.get_cons, putE, binA, intBin, unA, AV.fit, AV.toCells, partC, partP, mkCells, allP, mkAgg, Cells.len, target, idxA, lenA, keepE, readsOf, opds, tmpsOf, Env.get_cons, wantedA, putE, h.t1, h.t4, h.t7, o0, o3, h1]; rfl)).trans ?_
      refine (drawS rfl rfl (by simp [stillOp, valsOp, refOf, refV, oneH, exec, runOps, wantedA, stepOp, pureOp, allocOp, readOp, effOp, ev, evs, evO, Env.get_cons, putE, binA, intBin, unA, AV.fit, AV.toCells, partC, partP, mkCells, allP, mkAgg, Cells.len, target, idxA, lenA, keepE, readsOf, opds, tmpsOf, Env.get_cons, wantedA, putE, h.t1, h.t4, h.t7, o0, o3, h1]; rfl)).trans ?_
      refine (drawS rfl rfl (by simp [stillOp, valsOp, refOf, refV, oneH, exec, runOps, wantedA, stepOp, pureOp, allocOp, readOp, effOp, ev, evs, evO, Env.get_cons, putE, binA, intBin, unA, AV.fit, AV.toCells, partC, partP, mkCells, allP, mkAgg, Cells.len, target, idxA, lenA, keepE, readsOf, opds, tmpsOf, Env.get_cons, wantedA, putE, h.t1, h.t4, h.t7, o0, o3, h1]; rfl)).trans ?_
      refine (drawR rfl rfl (by simp [stillOp, valsOp, refOf, refV, oneH, exec, runOps, wantedA, stepOp, pureOp, allocOp, readOp, effOp, ev, evs, evO, Env.get_cons, putE, binA, intBin, unA, AV.fit, AV.toCells, partC, partP, mkCells, allP, mkAgg, Cells.len, target, takeC, dropC, Cells.get?, keepE, readsOf, opds, tmpsOf, Env.get_cons, wantedA, putE, h.t1, h.t4, h.t7, o0, o3, h1]; exact ⟨rfl, rfl⟩)).trans ?_
      refine (drawS rfl rfl (by simp [stillOp, valsOp, refOf, refV, oneH, exec, runOps, wantedA, stepOp, pureOp, allocOp, readOp, effOp, ev, evs, evO, Env.get_cons, putE, binA, intBin, unA, AV.fit, AV.toCells, partC, partP, mkCells, allP, mkAgg, Cells.len, target, idxA, lenA, keepE, readsOf, opds, tmpsOf, Env.get_cons, wantedA, putE, h.t1, h.t4, h.t7, o0, o3, h1]; rfl)).trans ?_
      refine (drawS rfl rfl (by simp [stillOp, valsOp, refOf, refV, oneH, exec, runOps, wantedA, stepOp, pureOp, allocOp, readOp, effOp, ev, evs, evO, Env.get_cons, putE, binA, intBin, unA, AV.fit, AV.toCells, partC, partP, mkCells, allP, mkAgg, Cells.len, target, idxA, lenA, keepE, readsOf, opds, tmpsOf, Env.get_cons, wantedA, putE, h.t1, h.t4, h.t7, o0, o3, h1]; rfl)).trans ?_
      refine (drawN (by simp [keepE, readsOf, opds, tmpsOf, Env.get_cons, wantedA, putE, h.t1, h.t4, h.t7, o0, o3, h1])).trans ?_
      refine (drawN (by simp [keepE, readsOf, opds, tmpsOf, Env.get_cons, wantedA, putE, h.t1, h.t4, h.t7, o0, o3, h1])).trans ?_
      refine (drawN (by simp [keepE, readsOf, opds, tmpsOf, Env.get_cons, wantedA, putE, h.t1, h.t4, h.t7, o0, o3, h1])).trans ?_
      refine (drawN (by simp [keepE, readsOf, opds, tmpsOf, Env.get_cons, wantedA, putE, h.t1, h.t4, h.t7, o0, o3, h1])).trans ?_
      refine (drawS rfl rfl (by simp [stillOp, valsOp, refOf, refV, oneH, exec, runOps, wantedA, stepOp, pureOp, allocOp, readOp, effOp, ev, evs, evO, Env.get_cons, putE, binA, intBin, unA, AV.fit, AV.toCells, partC, partP, mkCells, allP, mkAgg, Cells.len, target, idxA, lenA, keepE, readsOf, opds, tmpsOf, Env.get_cons, wantedA, putE, h.t1, h.t4, h.t7, o0, o3, h1]; rfl)).trans ?_
      exact rfl, by rfl, by rfl, by rfl, ⟨by simp [putE, Env.get_cons, h.t1], by simp [putE, Env.get_cons, h.t2], by simp [putE, Env.get_cons, h.t3], by simp [putE, Env.get_cons, h.t4], by simp [putE, Env.get_cons, h.t5], by simp [putE, Env.get_cons, h.t6], by simp [putE, Env.get_cons, h.t7]⟩, by simp [putE, Env.get_cons]⟩
theorem draw18_2 (σ : Heap) (h : At18 ρ 2 q) (x y : Bool) (h1 : (op == [62]) = x) (h2 : x = true → ((l.length : Int) == 2) = y)
    (o0 : σ[0]? = some (.arr (.pv (cells (.mk op s n l))) 0 0 none)) (o3 : σ[3]? = some (.arr (.pv [.str [60], .str [60, 61], .str [62], .str [62, 61]]) 0 0 none)) :
    ∃ ρ', exec C L n18_6_2kb_2k_1 ⟨ρ, [], σ⟩ = some (.normal, ⟨ρ', [], σ⟩) ∧ At18 ρ' 2 q ∧ ρ'.get 44 = some (.p (.bool (x && y))) := by
  simp only [cells] at o0
  have fin : (∃ s : Tr, drawRun C 0 (opsD n18_6_2kb_2k_1) ⟨⟨ρ, [], σ⟩, [], []⟩ = some (none, s) ∧ s.wrs = [] ∧ s.st.defers = [] ∧ s.st.heap = σ ∧ At18 s.st.env 2 q ∧ s.st.env.get 44 = some (.p (.bool (x && y)))) → ∃ ρ', exec C L n18_6_2kb_2k_1 ⟨ρ, [], σ⟩ = some (.normal, ⟨ρ', [], σ⟩) ∧ At18 ρ' 2 q ∧ ρ'.get 44 = some (.p (.bool (x && y))) := by
    rintro ⟨⟨⟨ρ', d, σ'⟩, rds, wrs⟩, hr, hw, hd, hh, hA, h44⟩
    simp only at hw hd hh
    subst hw hd hh
    exact ⟨ρ', drawX hr okRW_nil, hA, h44⟩
  cases x with
  | true =>
    have h2 := h2 rfl
    exact fin ⟨_, by
      show drawRun C 0 (_ :: _) _ = _
      refine (drawS rfl rfl (by simp [stillOp, valsOp, refOf, refV, oneH, exec, runOps, wantedA, stepOp, pureOp, allocOp, readOp, effOp, ev, evs, evO, Env.get_cons, putE, binA, intBin, unA, AV.fit, AV.toCells, partC, partP, mkCells, allP, mkAgg, Cells.len, target, idxA, lenA, keepE, readsOf, opds, tmpsOf, Env.get_cons, wantedA, putE, h.t1, h.t4, h.t7, o0, o3, h1, h2]; rfl)).trans ?_
      refine (drawR rfl rfl (by simp [stillOp, valsOp, refOf, refV, oneH, exec, runOps, wantedA, stepOp, pureOp, allocOp, readOp, effOp, ev, evs, evO, Env.get_cons, putE, binA, intBin, unA, AV.fit, AV.toCells, partC, partP, mkCells, allP, mkAgg, Cells.len, target, takeC, dropC, Cells.get?, keepE, readsOf, opds, tmpsOf, Env.get_cons, wantedA, putE, h.t1, h.t4, h.t7, o0, o3, h1, h2]; exact ⟨rfl, rfl⟩)).trans ?_
      refine (drawS rfl rfl (by simp [stillOp, valsOp, refOf, refV, oneH, exec, runOps, wantedA, stepOp, pureOp, allocOp, readOp, effOp, ev, evs, evO, Env.get_cons, putE, binA, intBin, unA, AV.fit, AV.toCells, partC, partP, mkCells, allP, mkAgg, Cells.len, target, idxA, lenA, keepE, readsOf, opds, tmpsOf, Env.get_cons, wantedA, putE, h.t1, h.t4, h.t7, o0, o3, h1, h2]; rfl)).trans ?_
      refine (drawS rfl rfl (by simp [stillOp, valsOp, refOf, refV, oneH, exec, runOps, wantedA, stepOp, pureOp, allocOp, readOp, effOp, ev, evs, evO, Env.get_cons, putE, binA, intBin, unA, AV.fit, AV.toCells, partC, partP, mkCells, allP, mkAgg, Cells.len, target, idxA, lenA, keepE, readsOf, opds, tmpsOf, Env.get_cons, wantedA, putE, h.t1, h.t4, h.t7, o0, o3, h1, h2]; rfl)).trans ?_
      refine (drawS rfl rfl (by simp [stillOp, valsOp, refOf, refV, oneH, exec, runOps, wantedA, stepOp, pureOp, allocOp, readOp, effOp, ev, evs, evO, Env.get_cons, putE, binA, intBin, unA, AV.fit, AV.toCells, partC, partP, mkCells, allP, mkAgg, Cells.len, target, idxA, lenA, keepE, readsOf, opds, tmpsOf, Env.get_cons, wantedA, putE, h.t1, h.t4, h.t7, o0, o3, h1, h2]; rfl)).trans ?_
      refine (drawR rfl rfl (by simp [stillOp, valsOp, refOf, refV, oneH, exec, runOps, wantedA, stepOp, pureOp, allocOp, readOp, effOp, ev, evs, evO, Env.get_cons, putE, binA, intBin, unA, AV.fit, AV.toCells, partC, partP, mkCells, allP, mkAgg, Cells.len, target, takeC, dropC, Cells.get?, keepE, readsOf, opds, tmpsOf, Env.get_cons, wantedA, putE, h.t1, h.t4, h.t7, o0, o3, h1, h2]; exact ⟨rfl, rfl⟩)).trans ?_
      refine (drawS rfl rfl (by simp [stillOp, valsOp, refOf, refV, oneH, exec, runOps, wantedA, stepOp, pureOp, allocOp, readOp, effOp, ev, evs, evO, Env.get_cons, putE, binA, intBin, unA, AV.fit, AV.toCells, partC, partP, mkCells, allP, mkAgg, Cells.len, target, idxA, lenA, keepE, readsOf, opds, tmpsOf, Env.get_cons, wantedA, putE, h.t1, h.t4, h.t7, o0, o3, h1, h2]; rfl)).trans ?_
      refine (drawS rfl rfl (by simp [stillOp, valsOp, refOf, refV, oneH, exec, runOps, wantedA, stepOp, pureOp, allocOp, readOp, effOp, ev, evs, evO, Env.get_cons, putE, binA, intBin, unA, AV.fit, AV.toCells, partC, partP, mkCells, allP, mkAgg, Cells.len, target, idxA, lenA, keepE, readsOf, opds, tmpsOf, Env.get_cons, wantedA, putE, h.t1, h.t4, h.t7, o0, o3, h1, h2]; rfl)).trans ?_
      refine (drawS (by simp [keepE, readsOf, opds, tmpsOf, Env.get_cons, wantedA, putE, h.t1, h.t4, h.t7, o0, o3, h1, h2]) rfl (by simp [stillOp, valsOp, refOf, refV, oneH, exec, runOps, wantedA, stepOp, pureOp, allocOp, readOp, effOp, ev, evs, evO, Env.get_cons, putE, binA, intBin, unA, AV.fit, AV.toCells, partC, partP, mkCells, allP, mkAgg, Cells.len, target, idxA, lenA, keepE, readsOf, opds, tmpsOf, Env.get_cons, wantedA, putE, h.t1, h.t4, h.t7, o0, o3, h1, h2]; rfl)).trans ?_
      refine (drawR (by simp [keepE, readsOf, opds, tmpsOf, Env.get_cons, wantedA, putE, h.t1, h.t4, h.t7, o0, o3, h1, h2]) rfl (by simp [stillOp, valsOp, refOf, refV, oneH, exec, runOps, wantedA, stepOp, pureOp, allocOp, readOp, effOp, ev, evs, evO, Env.get_cons, putE, binA, intBin, unA, AV.fit, AV.toCells, partC, partP, mkCells, allP, mkAgg, Cells.len, target, takeC, dropC, Cells.get?, keepE, readsOf, opds, tmpsOf, Env.get_cons, wantedA, putE, h.t1, h.t4, h.t7, o0, o3, h1, h2]; exact ⟨rfl, rfl⟩)).trans ?_
      refine (drawS (by simp [keepE, readsOf, opds, tmpsOf, Env.get_cons, wantedA, putE, h.t1, h.t4, h.t7, o0, o3, h1, h2]) rfl (by simp [stillOp, valsOp, refOf, refV, oneH, exec, runOps, wantedA, stepOp, pureOp, allocOp, readOp, effOp, ev, evs, evO, Env.get_cons, putE, binA, intBin, unA, AV.fit, AV.toCells, partC, partP, mkCells, allP, mkAgg, Cells.len, target, idxA, lenA, keepE, readsOf, opds, tmpsOf, Env.get_cons, wantedA, putE, h.t1, h.t4, h.t7, o0, o3, h1, h2]; rfl)).trans ?_
      refine (drawS (by simp [keepE, readsOf, opds, tmpsOf, Env.get_cons, wantedA, putE, h.t1, h.t4, h.t7, o0, o3, h1, h2]) rfl (by simp [stillOp, valsOp, refOf, refV, oneH, exec, runOps, wantedA, stepOp, pureOp, allocOp, readOp, effOp, ev, evs, evO, Env.get_cons, putE, binA, intBin, unA, AV.fit, AV.toCells, partC, partP, mkCells, allP, mkAgg, Cells.len, target, idxA, lenA, keepE, readsOf, opds, tmpsOf, Env.get_cons, wantedA, putE, h.t1, h.t4, h.t7, o0, o3, h1, h2]; rfl)).trans ?_
      refine (drawS rfl rfl (by simp [stillOp, valsOp, refOf, refV, oneH, exec, runOps, wantedA, stepOp, pureOp, allocOp, readOp, effOp, ev, evs, evO, Env.get_cons, putE, binA, intBin, unA, AV.fit, AV.toCells, partC, partP, mkCells, allP, mkAgg, Cells.len, target, idxA, lenA, keepE, readsOf, opds, tmpsOf, Env.get_cons, wantedA, putE, h.t1, h.t4, h.t7, o0, o3, h1, h2]; rfl)).trans ?_
      exact rfl, by rfl, by rfl, by rfl, ⟨by simp [putE, Env.get_cons, h.t1], by simp [putE, Env.get_cons, h.t2], by simp [putE, Env.get_cons, h.t3], by simp [putE, Env.get_cons, h.t4], by simp [putE, Env.get_cons, h.t5], by simp [putE, Env.get_cons, h.t6], by simp [putE, Env.get_cons, h.t7]⟩, by simp [putE, Env.get_cons]⟩
  | false =>
    exact fin ⟨_, by
      show drawRun C 0 (_ :: _) _ = _
      refine (drawS rfl rfl (by simp [stillOp, valsOp, refOf, refV, oneH, exec, runOps, wantedA, stepOp, pureOp, allocOp, readOp, effOp, ev, evs, evO, Env.get_cons, putE, binA, intBin, unA, AV.fit, AV.toCells, partC, partP, mkCells, allP, mkAgg, Cells.len, target, idxA, lenA, keepE, readsOf, opds, tmpsOf, Env.get_cons, wantedA, putE, h.t1, h.t4, h.t7, o0, o3, h1]; rfl)).trans ?_
      refine (drawR rfl rfl (by simp [stillOp, valsOp, refOf, refV, oneH, exec, runOps, wantedA, stepOp, pureOp, allocOp, readOp, effOp, ev, evs, evO, Env.get_cons, putE, binA, intBin, unA, AV.fit, AV.toCells, partC, partP, mkCells, allP, mkAgg, Cells.len, target, takeC, dropC, Cells.get?, keepE, readsOf, opds, tmpsOf, Env.get_cons, wantedA, putE, h.t1, h.t4, h.t7, o0, o3, h1]; exact ⟨rfl, rfl⟩)).trans ?_
      refine (drawS rfl rfl (by simp [stillOp, valsOp, refOf, refV, oneH, exec, runOps, wantedA, stepOp, pureOp, allocOp, readOp, effOp, ev, evs, evO, Env.get_cons, putE, binA, intBin, unA, AV.fit, AV.toCells, partC, partP, mkCells, allP, mkAgg, Cells.len, target, idxA, lenA, keepE, readsOf, opds, tmpsOf, Env.get_cons, wantedA, putE, h.t1, h.t4, h.t7, o0, o3, h1]; rfl)).trans ?_
      refine (drawS rfl rfl (by simp [stillOp, valsOp, refOf, refV, oneH, exec, runOps, wantedA, stepOp, pureOp, allocOp, readOp, effOp, ev, evs, evO, Env.get_cons, putE, binA, intBin, unA, AV.fit, AV.toCells, partC, partP, mkCells, allP, mkAgg, Cells.len, target, idxA, lenA, keepE, readsOf, opds, tmpsOf, Env.get_cons, wantedA, putE, h.t1, h.t4, h.t7, o0, o3, h1]; rfl)).trans ?_
      refine (drawS rfl rfl (by simp [stillOp, valsOp, refOf, refV, oneH, exec, runOps, wantedA, stepOp, pureOp, allocOp, readOp, effOp, ev, evs, evO, Env.get_cons, putE, binA, intBin, unA, AV.fit, AV.toCells, partC, partP, mkCells, allP, mkAgg, Cells.len, target, idxA, lenA, keepE, readsOf, opds, tmpsOf, Env.get_cons, wantedA, putE, h.t1, h.t4, h.t7, o0, o3, h1]; rfl)).trans ?_
      refine (drawR rfl rfl (by simp [stillOp, valsOp, refOf, refV, oneH, exec, runOps, wantedA, stepOp, pureOp, allocOp, readOp, effOp, ev, evs, evO, Env.get_cons, putE, binA, intBin, unA, AV.fit, AV.toCells, partC, partP, mkCells, allP, mkAgg, Cells.len, target, takeC, dropC, Cells.get?, keepE, readsOf, opds, tmpsOf, Env.get_cons, wantedA, putE, h.t1, h.t4, h.t7, o0, o3, h1]; exact ⟨rfl, rfl⟩)).trans ?_
      refine (drawS rfl rfl (by simp [stillOp, valsOp, refOf, refV, oneH, exec, runOps, wantedA, stepOp, pureOp, allocOp, readOp, effOp, ev, evs, evO, Env.get_cons, putE, binA, intBin, unA, AV.fit, AV.toCells, partC, partP, mkCells, allP, mkAgg, Cells.len, target, idxA, lenA, keepE, readsOf, opds, tmpsOf, Env.get_cons, wantedA, putE, h.t1, h.t4, h.t7, o0, o3, h1]; rfl)).trans ?_
      refine (drawS rfl rfl (by simp [stillOp, valsOp, refOf, refV, oneH, exec, runOps, wantedA, stepOp, pureOp, allocOp, readOp, effOp, ev, evs, evO, Env.get_cons, putE, binA, intBin, unA, AV.fit, AV.toCells, partC, partP, mkCells, allP, mkAgg, Cells.len, target, idxA, lenA, keepE, readsOf, opds, tmpsOf, Env.get_cons, wantedA, putE, h.t1, h.t4, h.t7, o0, o3, h1]; rfl)).trans ?_
      refine (drawN (by simp [keepE, readsOf, opds, tmpsOf, Env.get_cons, wantedA, putE, h.t1, h.t4, h.t7, o0, o3, h1])).trans ?_
      refine (drawN (by simp [keepE, readsOf, opds, tmpsOf, Env.get_cons, wantedA, putE, h.t1, h.t4, h.t7, o0, o3, h1])).trans ?_
      refine (drawN (by simp [keepE, readsOf, opds, tmpsOf, Env.get_cons, wantedA, putE, h.t1, h.t4, h.t7, o0, o3, h1])).trans ?_
      refine (drawN (by simp [keepE, readsOf, opds, tmpsOf, Env.get_cons, wantedA, putE, h.t1, h.t4, h.t7, o0, o3, h1])).trans ?_
      refine (drawS rfl rfl (by simp [stillOp, valsOp, refOf, refV, oneH, exec, runOps, wantedA, stepOp, pureOp, allocOp, readOp, effOp, ev, evs, evO, Env.get_cons, putE, binA, intBin, unA, AV.fit, AV.toCells, partC, partP, mkCells, allP, mkAgg, Cells.len, target, idxA, lenA, keepE, readsOf, opds, tmpsOf, Env.get_cons, wantedA, putE, h.t1, h.t4, h.t7, o0, o3, h1]; rfl)).trans ?_
      exact rfl, by rfl, by rfl, by rfl, ⟨by simp [putE, Env.get_cons, h.t1], by simp [putE, Env.get_cons, h.t2], by simp [putE, Env.get_cons, h.t3], by simp [putE, Env.get_cons, h.t4], by simp [putE, Env.get_cons, h.t5], by simp [putE, Env.get_cons, h.t6], by simp [putE, Env.get_cons, h.t7]⟩, by simp [putE, Env.get_cons]⟩
theorem draw18_3 (σ : Heap) (h : At18 ρ 3 q) (x y : Bool) (h1 : (op == [62, 61]) = x) (h2 : x = true → ((l.length : Int) == 2) = y)
    (o0 : σ[0]? = some (.arr (.pv (cells (.mk op s n l))) 0 0 none)) (o3 : σ[3]? = some (.arr (.pv [.str [60], .str [60, 61], .str [62], .str [62, 61]]) 0 0 none)) :
    ∃ ρ', exec C L n18_6_2kb_2k_1 ⟨ρ, [], σ⟩ = some (.normal, ⟨ρ', [], σ⟩) ∧ At18 ρ' 3 q ∧ ρ'.get 44 = some (.p (.bool (x && y))) := by
  simp only [cells] at o0
  have fin : (∃ s : Tr, drawRun C 0 (opsD n18_6_2kb_2k_1) ⟨⟨ρ, [], σ⟩, [], []⟩ = some (none, s) ∧ s.wrs = [] ∧ s.st.defers = [] ∧ s.st.heap = σ ∧ At18 s.st.env 3 q ∧ s.st.env.get 44 = some (.p (.bool (x && y)))) → ∃ ρ', exec C L n18_6_2kb_2k_1 ⟨ρ, [], σ⟩ = some (.normal, ⟨ρ', [], σ⟩) ∧ At18 ρ' 3 q ∧ ρ'.get 44 = some (.p (.bool (x && y))) := by
    rintro ⟨⟨⟨ρ', d, σ'⟩, rds, wrs⟩, hr, hw, hd, hh, hA, h44⟩
    simp only at hw hd hh
    subst hw hd hh
    exact ⟨ρ', drawX hr okRW_nil, hA, h44⟩
  cases x with
  | true =>
    have h2 := h2 rfl
    exact fin ⟨_, by
      show drawRun C 0 (_ :: _) _ = _
      refine (drawS rfl rfl (by simp [stillOp, valsOp, refOf, refV, oneH, exec, runOps, wantedA, stepOp, pureOp, allocOp, readOp, effOp, ev, evs, evO, Env.get_cons, putE, binA, intBin, unA, AV.fit, AV.toCells, partC, partP, mkCells, allP, mkAgg, Cells.len, target, idxA, lenA, keepE, readsOf, opds, tmpsOf, Env.get_cons, wantedA, putE, h.t1, h.t4, h.t7, o0, o3, h1, h2]; rfl)).trans ?_
      refine (drawR rfl rfl (by simp [stillOp, valsOp, refOf, refV, oneH, exec, runOps, wantedA, stepOp, pureOp, allocOp, readOp, effOp, ev, evs, evO, Env.get_cons, putE, binA, intBin, unA, AV.fit, AV.toCells, partC, partP, mkCells, allP, mkAgg, Cells.len, target, takeC, dropC, Cells.get?, keepE, readsOf, opds, tmpsOf, Env.get_cons, wantedA, putE, h.t1, h.t4, h.t7, o0, o3, h1, h2]; exact ⟨rfl, rfl⟩)).trans ?_
      refine (drawS rfl rfl (by simp [stillOp, valsOp, refOf, refV, oneH, exec, runOps, wantedA, stepOp, pureOp, allocOp, readOp, effOp, ev, evs, evO, Env.get_cons, putE, binA, intBin, unA, AV.fit, AV.toCells, partC, partP, mkCells, allP, mkAgg, Cells.len, target, idxA, lenA, keepE, readsOf, opds, tmpsOf, Env.get_cons, wantedA, putE, h.t1, h.t4, h.t7, o0, o3, h1, h2]; rfl)).trans ?_
      refine (drawS rfl rfl (by simp [stillOp, valsOp, refOf, refV, oneH, exec, runOps, wantedA, stepOp, pureOp, allocOp, readOp, effOp, ev, evs, evO, Env.get_cons, putE, binA, intBin, unA, AV.fit, AV.toCells, partC, partP, mkCells, allP, mkAgg, Cells.len, target, idxA, lenA, keepE, readsOf, opds, tmpsOf, Env.get_cons, wantedA, putE, h.t1, h.t4, h.t7, o0, o3, h1, h2]; rfl)).trans ?_
      refine (drawS rfl rfl (by simp [stillOp, valsOp, refOf, refV, oneH, exec, runOps, wantedA, stepOp, pureOp, allocOp, readOp, effOp, ev, evs, evO, Env.get_cons, putE, binA, intBin, unA, AV.fit, AV.toCells, partC, partP, mkCells, allP, mkAgg, Cells.len, target, idxA, lenA, keepE, readsOf, opds, tmpsOf, Env.get_cons, wantedA, putE, h.t1, h.t4, h.t7, o0, o3, h1, h2]; rfl)).trans ?_
      refine (drawR rfl rfl (by simp [stillOp, valsOp, refOf, refV, oneH, exec, runOps, wantedA, stepOp, pureOp, allocOp, readOp, effOp, ev, evs, evO, Env.get_cons, putE, binA, intBin, unA, AV.fit, AV.toCells, partC, partP, mkCells, allP, mkAgg, Cells.len, target, takeC, dropC, Cells.get?, keepE, readsOf, opds, tmpsOf, Env.get_cons, wantedA, putE, h.t1, h.t4, h.t7, o0, o3, h1, h2]; exact ⟨rfl, rfl⟩)).trans ?_
      refine (drawS rfl rfl (by simp [stillOp, valsOp, refOf, refV, oneH, exec, runOps, wantedA, stepOp, pureOp, allocOp, readOp, effOp, ev, evs, evO, Env.get_cons, putE, binA, intBin, unA, AV.fit, AV.toCells, partC, partP, mkCells, allP, mkAgg, Cells.len, target, idxA, lenA, keepE, readsOf, opds, tmpsOf, Env.get_cons, wantedA, putE, h.t1, h.t4, h.t7, o0, o3, h1, h2]; rfl)).trans ?_
      refine (drawS rfl rfl (by simp [stillOp, valsOp, refOf, refV, oneH, exec, runOps, wantedA, stepOp, pureOp, allocOp, readOp, effOp, ev, evs, evO, Env.get_cons, putE, binA, intBin, unA, AV.fit, AV.toCells, partC, partP, mkCells, allP, mkAgg, Cells.len, target, idxA, lenA, keepE, readsOf, opds, tmpsOf, Env.get_cons, wantedA, putE, h.t1, h.t4, h.t7, o0, o3, h1, h2]; rfl)).trans ?_
      refine (drawS (by simp [keepE, readsOf, opds, tmpsOf, Env.get_cons, wantedA, putE, h.t1, h.t4, h.t7, o0, o3, h1, h2]) rfl (by simp [stillOp, valsOp, refOf, refV, oneH, exec, runOps, wantedA, stepOp, pureOp, allocOp, readOp, effOp, ev, evs, evO, Env.get_cons, putE, binA, intBin, unA, AV.fit, AV.toCells, partC, partP, mkCells, allP, mkAgg, Cells.len, target, idxA, lenA, keepE, readsOf, opds, tmpsOf, Env.get_cons, wantedA, putE, h.t1, h.t4, h.t7, o0, o3, h1, h2]; rfl)).trans ?_
      refine (drawR (by simp [keepE, readsOf, opds, tmpsOf, Env.get_cons, wantedA, putE, h.t1, h.t4, h.t7, o0, o3, h1, h2]) rfl (by simp [stillOp, valsOp, refOf, refV, oneH, exec, runOps, wantedA, stepOp, pureOp, allocOp, readOp, effOp, ev, evs, evO, Env.get_cons, putE, binA, intBin, unA, AV.fit, AV.toCells, partC, partP, mkCells, allP, mkAgg, Cells.len, target, takeC, dropC, Cells.get?, keepE, readsOf, opds, tmpsOf, Env.get_cons, wantedA, putE, h.t1, h.t4, h.t7, o0, o3, h1, h2]; exact ⟨rfl, rfl⟩)).trans ?_
      refine (drawS (by simp [keepE, readsOf, opds, tmpsOf, Env.get_cons, wantedA, putE, h.t1, h.t4, h.t7, o0, o3, h1, h2]) rfl (by simp [stillOp, valsOp, refOf, refV, oneH, exec, runOps, wantedA, stepOp, pureOp, allocOp, readOp, effOp, ev, evs, evO, Env.get_cons, putE, binA, intBin, unA, AV.fit, AV.toCells, partC, partP, mkCells, allP, mkAgg, Cells.len, target, idxA, lenA, keepE, readsOf, opds, tmpsOf, Env.get_cons, wantedA, putE, h.t1, h.t4, h.t7, o0, o3, h1, h2]; rfl)).trans ?_
      refine (drawS (by simp [keepE, readsOf, opds, tmpsOf, Env.get_cons, wantedA, putE, h.t1, h.t4, h.t7, o0, o3, h1, h2]) rfl (by simp [stillOp, valsOp, refOf, refV, oneH, exec, runOps, wantedA, stepOp, pureOp, allocOp, readOp, effOp, ev, evs, evO, Env.get_cons, putE, binA, intBin, unA, AV.fit, AV.toCells, partC, partP, mkCells, allP, mkAgg, Cells.len, target, idxA, lenA, keepE, readsOf, opds, tmpsOf, Env.get_cons, wantedA, putE, h.t1, h.t4, h.t7, o0, o3, h1, h2]; rfl)).trans ?_
      refine (drawS rfl rfl (by simp [stillOp, valsOp, refOf, refV, oneH, exec, runOps, wantedA, stepOp, pureOp, allocOp, readOp, effOp, ev, evs, evO, Env.get_cons, putE, binA, intBin, unA, AV.fit, AV.toCells, partC, partP, mkCells, allP, mkAgg, Cells.len, target, idxA, lenA, keepE, readsOf, opds, tmpsOf, Env.get_cons, wantedA, putE, h.t1, h.t4, h.t7, o0, o3, h1, h2]; rfl)).trans ?_
      exact rfl, by rfl, by rfl, by rfl, ⟨by simp [putE, Env.get_cons, h.t1], by simp [putE, Env.get_cons, h.t2], by simp [putE, Env.get_cons, h.t3], by simp [putE, Env.get_cons, h.t4], by simp [putE, Env.get_cons, h.t5], by simp [putE, Env.get_cons, h.t6], by simp [putE, Env.get_cons, h.t7]⟩, by simp [putE, Env.get_cons]⟩
  | false =>
    exact fin ⟨_, by
      show drawRun C 0 (_ :: _) _ = _
      refine (drawS rfl rfl (by simp [stillOp, valsOp, refOf, refV, oneH, exec, runOps, wantedA, stepOp, pureOp, allocOp, readOp, effOp, ev, evs, evO, Env.get_cons, putE, binA, intBin, unA, AV.fit, AV.toCells, partC, partP, mkCells, allP, mkAgg, Cells.len, target, idxA, lenA, keepE, readsOf, opds, tmpsOf, Env.get_cons, wantedA, putE, h.t1, h.t4, h.t7, o0, o3, h1]; rfl)).trans ?_
      refine (drawR rfl rfl (by simp [stillOp, valsOp, refOf, refV, oneH, exec, runOps, wantedA, stepOp, pureOp, allocOp, readOp, effOp, ev, evs, evO, Env.get_cons, putE, binA, intBin, unA, AV.fit, AV.toCells, partC, partP, mkCells, allP, mkAgg, Cells.len, target, takeC, dropC, Cells.get?, keepE, readsOf, opds, tmpsOf, Env.get_cons, wantedA, putE, h.t1, h.t4, h.t7, o0, o3, h1]; exact ⟨rfl, rfl⟩)).trans ?_
      refine (drawS rfl rfl (by simp [stillOp, valsOp, refOf, refV, oneH, exec, runOps, wantedA, stepOp, pureOp, allocOp, readOp, effOp, ev, evs, evO, Env.get_cons, putE, binA, intBin, unA, AV.fit, AV.toCells, partC, partP, mkCells, allP, mkAgg, Cells.len, target, idxA, lenA, keepE, readsOf, opds, tmpsOf, Env.get_cons, wantedA, putE, h.t1, h.t4, h.t7, o0, o3, h1]; rfl)).trans ?_
      refine (drawS rfl rfl (by simp [stillOp, valsOp, refOf, refV, oneH, exec, runOps, wantedA, stepOp, pureOp, allocOp, readOp, effOp, ev, evs, evO, Env.get_cons, putE, binA, intBin, unA, AV.fit, AV.toCells, partC, partP, mkCells, allP, mkAgg, Cells.len, target, idxA, lenA, keepE, readsOf, opds, tmpsOf, Env.get_cons, wantedA, putE, h.t1, h.t4, h.t7, o0, o3, h1]; rfl)).trans ?_
      refine (drawS rfl rfl (by simp [stillOp, valsOp, refOf, refV, oneH, exec, runOps, wantedA, stepOp, pureOp, allocOp, readOp, effOp, ev, evs, evO, Env.get_cons, putE, binA, intBin, unA, AV.fit, AV.toCells, partC, partP, mkCells, allP, mkAgg, Cells.len, target, idxA, lenA, keepE, readsOf, opds, tmpsOf, Env.get_cons, wantedA, putE, h.t1, h.t4, h.t7, o0, o3, h1]; rfl)).trans ?_
      refine (drawR rfl rfl (by simp [stillOp, valsOp, refOf, refV, oneH, exec, runOps, wantedA, stepOp, pureOp, allocOp, readOp, effOp, ev, evs, evO, Env.get_cons, putE, binA, intBin, unA, AV.fit, AV.toCells, partC, partP, mkCells, allP, mkAgg, Cells.len, target, takeC, dropC, Cells.get?, keepE, readsOf, opds, tmpsOf, Env.get_cons, wantedA, putE, h.t1, h.t4, h.t7, o0, o3, h1]; exact ⟨rfl, rfl⟩)).trans ?_
      refine (drawS rfl rfl (by simp [stillOp, valsOp, refOf, refV, oneH, exec, runOps, wantedA, stepOp, pureOp, allocOp, readOp, effOp, ev, evs, evO, Env.get_cons, putE, binA, intBin, unA, AV.fit, AV.toCells, partC, partP, mkCells, allP, mkAgg, Cells.len, target, idxA, lenA, keepE, readsOf, opds, tmpsOf, Env.get_cons, wantedA, putE, h.t1, h.t4, h.t7, o0, o3, h1]; rfl)).trans ?_
      refine (drawS rfl rfl (by simp [stillOp, valsOp, refOf, refV, oneH, exec, runOps, wantedA, stepOp, pureOp, allocOp, readOp, effOp, ev, evs, evO, Env.get_cons, putE, binA, intBin, unA, AV.fit, AV.toCells, partC, partP, mkCells, allP, mkAgg, Cells.len, target, idxA, lenA, keepE, readsOf, opds, tmpsOf, Env.get_cons, wantedA, putE, h.t1, h.t4, h.t7, o0, o3, h1]; rfl)).trans ?_
      refine (drawN (by simp [keepE, readsOf, opds, tmpsOf, Env.get_cons, wantedA, putE, h.t1, h.t4, h.t7, o0, o3, h1])).trans ?_
      refine (drawN (by simp [keepE, readsOf, opds, tmpsOf, Env.get_cons, wantedA, putE, h.t1, h.t4, h.t7, o0, o3, h1])).trans ?_
      refine (drawN (by simp [keepE, readsOf, opds, tmpsOf, Env.get_cons, wantedA, putE, h.t1, h.t4, h.t7, o0, o3, h1])).trans ?_
      refine (drawN (by simp [keepE, readsOf, opds, tmpsOf, Env.get_cons, wantedA, putE, h.t1, h.t4, h.t7, o0, o3, h1])).trans ?_
      refine (drawS rfl rfl (by simp [stillOp, valsOp, refOf, refV, oneH, exec, runOps, wantedA, stepOp, pureOp, allocOp, readOp, effOp, ev, evs, evO, Env.get_cons, putE, binA, intBin, unA, AV.fit, AV.toCells, partC, partP, mkCells, allP, mkAgg, Cells.len, target, idxA, lenA, keepE, readsOf, opds, tmpsOf, Env.get_cons, wantedA, putE, h.t1, h.t4, h.t7, o0, o3, h1]; rfl)).trans ?_
      exact rfl, by rfl, by rfl, by rfl, ⟨by simp [putE, Env.get_cons, h.t1], by simp [putE, Env.get_cons, h.t2], by simp [putE, Env.get_cons, h.t3], by simp [putE, Env.get_cons, h.t4], by simp [putE, Env.get_cons, h.t5], by simp [putE, Env.get_cons, h.t6], by simp [putE, Env.get_cons, h.t7]⟩, by simp [putE, Env.get_cons]⟩
theorem sign18_0 (h : At18 ρ 0 q) (x y : Bool) (hx : (op == [60]) = x) (hy : ((l.length : Int) == 2) = y) :
    ∃ ρ', exec C L n18_6_2kb ⟨ρ, [], heap18 op s n l cur⟩ = some (.normal, ⟨ρ', [], heap18 op s n l (if (x && y) = true then [62] else cur)⟩) ∧ At18 ρ' 1 (q || (x && y)) := by
  have e0 : exec C L n18_6_2kb_1 ⟨ρ, [], heap18 op s n l cur⟩ = some (.normal, ⟨(29, .p (.bool true)) :: (28, int 0) :: ρ, [], heap18 op s n l cur⟩) := by
    simp [n18_6_2kb_1, n18_6_2kb_1_1, n18_6_2kb_1_2, exec, runOps, wantedA, stepOp, pureOp, allocOp, readOp, effOp, ev, evs, evO, Env.get_cons, putE, binA, intBin, unA, AV.fit, AV.toCells, partC, partP, mkCells, allP, mkAgg, Cells.len, target, h.t7]
  have h0 : At18 ((29, .p (.bool true)) :: (28, int 0) :: ρ) 0 q := ⟨by simp [Env.get_cons, h.t1], by simp [Env.get_cons, h.t2], by simp [Env.get_cons, h.t3], by simp [Env.get_cons, h.t4], by simp [Env.get_cons, h.t5], by simp [Env.get_cons, h.t6], by simp [Env.get_cons, h.t7]⟩
  obtain ⟨ρ1, r1, h1, g44⟩ := draw18_0 C L op s n l _ q (heap18 op s n l cur) h0 x y hx (fun _ => hy) rfl rfl
  have e1 : IntKind.i64.wrap 1 = 1 := by decide
  have key : ∃ ρ', exec C L (.seq n18_6_2kb_2k_2 n18_6_2kb_3) ⟨ρ1, [], heap18 op s n l cur⟩ = some (.normal, ⟨ρ', [], heap18 op s n l (if (x && y) = true then [62] else cur)⟩) ∧ At18 ρ' 1 (q || (x && y)) := by
    generalize (x && y) = z at g44 ⊢
    cases z with
    | true =>
      rw [if_pos rfl, Bool.or_true]
      exact ⟨_, by simp [n18_6_2kb_2k_2, n18_6_2kb_2k_2t, n18_6_2kb_2k_2t_1, n18_6_2kb_2k_2t_2, n18_6_2kb_3, exec, runOps, wantedA, stepOp, pureOp, allocOp, readOp, effOp, ev, evs, evO, Env.get_cons, putE, binA, intBin, unA, AV.fit, AV.toCells, partC, partP, mkCells, allP, mkAgg, Cells.len, target, evParts, fillA, AV.cells, splice, spliceC, finA, leaveA, resA, resV, ansV, idxA, lenA, takeC, dropC, Cells.get?, Cells.toList, g44, h1.t3, h1.t5, h1.t6, h1.t7, e1]; rfl, ⟨by simp [Env.get_cons, h1.t1], by simp [Env.get_cons, h1.t2], by simp [Env.get_cons, h1.t3], by simp [Env.get_cons, h1.t4], by simp [Env.get_cons, h1.t5], by simp [Env.get_cons, h1.t6], by simp [Env.get_cons]⟩⟩
    | false =>
      rw [if_neg (by simp), Bool.or_false]
      exact ⟨_, by simp [n18_6_2kb_2k_2, n18_6_2kb_3, exec, runOps, wantedA, stepOp, pureOp, allocOp, readOp, effOp, ev, evs, evO, Env.get_cons, putE, binA, intBin, unA, AV.fit, AV.toCells, partC, partP, mkCells, allP, mkAgg, Cells.len, target, g44, h1.t7, e1]; rfl, ⟨by simp [Env.get_cons, h1.t1], by simp [Env.get_cons, h1.t2], by simp [Env.get_cons, h1.t3], by simp [Env.get_cons, h1.t4], by simp [Env.get_cons, h1.t5], by simp [Env.get_cons, h1.t6], by simp [Env.get_cons]⟩⟩
  obtain ⟨ρ', r2, hA⟩ := key
  refine ⟨ρ', ?_, hA⟩
  unfold n18_6_2kb
  rw [seqN e0]
  unfold n18_6_2kb_2 n18_6_2kb_2k
  rw [blkA r1]
  exact blkN r2
theorem sign18_1 (h : At18 ρ 1 q) (x y : Bool) (hx : (op == [60, 61]) = x) (hy : ((l.length : Int) == 2) = y) :
    ∃ ρ', exec C L n18_6_2kb ⟨ρ, [], heap18 op s n l cur⟩ = some (.normal, ⟨ρ', [], heap18 op s n l (if (x && y) = true then [62, 61] else cur)⟩) ∧ At18 ρ' 2 (q || (x && y)) := by
  have e0 : exec C L n18_6_2kb_1 ⟨ρ, [], heap18 op s n l cur⟩ = some (.normal, ⟨(29, .p (.bool true)) :: (28, int 1) :: ρ, [], heap18 op s n l cur⟩) := by
    simp [n18_6_2kb_1, n18_6_2kb_1_1, n18_6_2kb_1_2, exec, runOps, wantedA, stepOp, pureOp, allocOp, readOp, effOp, ev, evs, evO, Env.get_cons, putE, binA, intBin, unA, AV.fit, AV.toCells, partC, partP, mkCells, allP, mkAgg, Cells.len, target, h.t7]
  have h0 : At18 ((29, .p (.bool true)) :: (28, int 1) :: ρ) 1 q := ⟨by simp [Env.get_cons, h.t1], by simp [Env.get_cons, h.t2], by simp [Env.get_cons, h.t3], by simp [Env.get_cons, h.t4], by simp [Env.get_cons, h.t5], by simp [Env.get_cons, h.t6], by simp [Env.get_cons, h.t7]⟩
  obtain ⟨ρ1, r1, h1, g44⟩ := draw18_1 C L op s n l _ q (heap18 op s n l cur) h0 x y hx (fun _ => hy) rfl rfl
  have e1 : IntKind.i64.wrap 2 = 2 := by decide
  have key : ∃ ρ', exec C L (.seq n18_6_2kb_2k_2 n18_6_2kb_3) ⟨ρ1, [], heap18 op s n l cur⟩ = some (.normal, ⟨ρ', [], heap18 op s n l (if (x && y) = true then [62, 61] else cur)⟩) ∧ At18 ρ' 2 (q || (x && y)) := by
    generalize (x && y) = z at g44 ⊢
    cases z with
    | true =>
      rw [if_pos rfl, Bool.or_true]
      exact ⟨_, by simp [n18_6_2kb_2k_2, n18_6_2kb_2k_2t, n18_6_2kb_2k_2t_1, n18_6_2kb_2k_2t_2, n18_6_2kb_3, exec, runOps, wantedA, stepOp, pureOp, allocOp, readOp, effOp, ev, evs, evO, Env.get_cons, putE, binA, intBin, unA, AV.fit, AV.toCells, partC, partP, mkCells, allP, mkAgg, Cells.len, target, evParts, fillA, AV.cells, splice, spliceC, finA, leaveA, resA, resV, ansV, idxA, lenA, takeC, dropC, Cells.get?, Cells.toList, g44, h1.t3, h1.t5, h1.t6, h1.t7, e1]; rfl, ⟨by simp [Env.get_cons, h1.t1], by simp [Env.get_cons, h1.t2], by simp [Env.get_cons, h1.t3], by simp [Env.get_cons, h1.t4], by simp [Env.get_cons, h1.t5], by simp [Env.get_cons, h1.t6], by simp [Env.get_cons]⟩⟩
    | false =>
      rw [if_neg (by simp), Bool.or_false]
      exact ⟨_, by simp [n18_6_2kb_2k_2, n18_6_2kb_3, exec, runOps, wantedA, stepOp, pureOp, allocOp, readOp, effOp, ev, evs, evO, Env.get_cons, putE, binA, intBin, unA, AV.fit, AV.toCells, partC, partP, mkCells, allP, mkAgg, Cells.len, target, g44, h1.t7, e1]; rfl, ⟨by simp [Env.get_cons, h1.t1], by simp [Env.get_cons, h1.t2], by simp [Env.get_cons, h1.t3], by simp [Env.get_cons, h1.t4], by simp [Env.get_cons, h1.t5], by simp [Env.get_cons, h1.t6], by simp [Env.get_cons]⟩⟩
  obtain ⟨ρ', r2, hA⟩ := key
  refine ⟨ρ', ?_, hA⟩
  unfold n18_6_2kb
  rw [seqN e0]
  unfold n18_6_2kb_2 n18_6_2kb_2k
  rw [blkA r1]
  exact blkN r2
theorem sign18_2 (h : At18 ρ 2 q) (x y : Bool) (hx : (op == [62]) = x) (hy : ((l.length : Int) == 2) = y) :
    ∃ ρ', exec C L n18_6_2kb ⟨ρ, [], heap18 op s n l cur⟩ = some (.normal, ⟨ρ', [], heap18 op s n l (if (x && y) = true then [60] else cur)⟩) ∧ At18 ρ' 3 (q || (x && y)) := by
  have e0 : exec C L n18_6_2kb_1 ⟨ρ, [], heap18 op s n l cur⟩ = some (.normal, ⟨(29, .p (.bool true)) :: (28, int 2) :: ρ, [], heap18 op s n l cur⟩) := by
    simp [n18_6_2kb_1, n18_6_2kb_1_1, n18_6_2kb_1_2, exec, runOps, wantedA, stepOp, pureOp, allocOp, readOp, effOp, ev, evs, evO, Env.get_cons, putE, binA, intBin, unA, AV.fit, AV.toCells, partC, partP, mkCells, allP, mkAgg, Cells.len, target, h.t7]
  have h0 : At18 ((29, .p (.bool true)) :: (28, int 2) :: ρ) 2 q := ⟨by simp [Env.get_cons, h.t1], by simp [Env.get_cons, h.t2], by simp [Env.get_cons, h.t3], by simp [Env.get_cons, h.t4], by simp [Env.get_cons, h.t5], by simp [Env.get_cons, h.t6], by simp [Env.get_cons, h.t7]⟩
  obtain ⟨ρ1, r1, h1, g44⟩ := draw18_2 C L op s n l _ q (heap18 op s n l cur) h0 x y hx (fun _ => hy) rfl rfl
  have e1 : IntKind.i64.wrap 3 = 3 := by decide
  have key : ∃ ρ', exec C L (.seq n18_6_2kb_2k_2 n18_6_2kb_3) ⟨ρ1, [], heap18 op s n l cur⟩ = some (.normal, ⟨ρ', [], heap18 op s n l (if (x && y) = true then [60] else cur)⟩) ∧ At18 ρ' 3 (q || (x && y)) := by
    generalize (x && y) = z at g44 ⊢
    cases z with
    | true =>
      rw [if_pos rfl, Bool.or_true]
      exact ⟨_, by simp [n18_6_2kb_2k_2, n18_6_2kb_2k_2t, n18_6_2kb_2k_2t_1, n18_6_2kb_2k_2t_2, n18_6_2kb_3, exec, runOps, wantedA, stepOp, pureOp, allocOp, readOp, effOp, ev, evs, evO, Env.get_cons, putE, binA, intBin, unA, AV.fit, AV.toCells, partC, partP, mkCells, allP, mkAgg, Cells.len, target, evParts, fillA, AV.cells, splice, spliceC, finA, leaveA, resA, resV, ansV, idxA, lenA, takeC, dropC, Cells.get?, Cells.toList, g44, h1.t3, h1.t5, h1.t6, h1.t7, e1]; rfl, ⟨by simp [Env.get_cons, h1.t1], by simp [Env.get_cons, h1.t2], by simp [Env.get_cons, h1.t3], by simp [Env.get_cons, h1.t4], by simp [Env.get_cons, h1.t5], by simp [Env.get_cons, h1.t6], by simp [Env.get_cons]⟩⟩
    | false =>
      rw [if_neg (by simp), Bool.or_false]
      exact ⟨_, by simp [n18_6_2kb_2k_2, n18_6_2kb_3, exec, runOps, wantedA, stepOp, pureOp, allocOp, readOp, effOp, ev, evs, evO, Env.get_cons, putE, binA, intBin, unA, AV.fit, AV.toCells, partC, partP, mkCells, allP, mkAgg, Cells.len, target, g44, h1.t7, e1]; rfl, ⟨by simp [Env.get_cons, h1.t1], by simp [Env.get_cons, h1.t2], by simp [Env.get_cons, h1.t3], by simp [Env.get_cons, h1.t4], by simp [Env.get_cons, h1.t5], by simp [Env.get_cons, h1.t6], by simp [Env.get_cons]⟩⟩
  obtain ⟨ρ', r2, hA⟩ := key
  refine ⟨ρ', ?_, hA⟩
  unfold n18_6_2kb
  rw [seqN e0]
  unfold n18_6_2kb_2 n18_6_2kb_2k
  rw [blkA r1]
  exact blkN r2
theorem sign18_3 (h : At18 ρ 3 q) (x y : Bool) (hx : (op == [62, 61]) = x) (hy : ((l.length : Int) == 2) = y) :
    ∃ ρ', exec C L n18_6_2kb ⟨ρ, [], heap18 op s n l cur⟩ = some (.normal, ⟨ρ', [], heap18 op s n l (if (x && y) = true then [60, 61] else cur)⟩) ∧ At18 ρ' 4 (q || (x && y)) := by
  have e0 : exec C L n18_6_2kb_1 ⟨ρ, [], heap18 op s n l cur⟩ = some (.normal, ⟨(29, .p (.bool true)) :: (28, int 3) :: ρ, [], heap18 op s n l cur⟩) := by
    simp [n18_6_2kb_1, n18_6_2kb_1_1, n18_6_2kb_1_2, exec, runOps, wantedA, stepOp, pureOp, allocOp, readOp, effOp, ev, evs, evO, Env.get_cons, putE, binA, intBin, unA, AV.fit, AV.toCells, partC, partP, mkCells, allP, mkAgg, Cells.len, target, h.t7]
  have h0 : At18 ((29, .p (.bool true)) :: (28, int 3) :: ρ) 3 q := ⟨by simp [Env.get_cons, h.t1], by simp [Env.get_cons, h.t2], by simp [Env.get_cons, h.t3], by simp [Env.get_cons, h.t4], by simp [Env.get_cons, h.t5], by simp [Env.get_cons, h.t6], by simp [Env.get_cons, h.t7]⟩
  obtain ⟨ρ1, r1, h1, g44⟩ := draw18_3 C L op s n l _ q (heap18 op s n l cur) h0 x y hx (fun _ => hy) rfl rfl
  have e1 : IntKind.i64.wrap 4 = 4 := by decide
  have key : ∃ ρ', exec C L (.seq n18_6_2kb_2k_2 n18_6_2kb_3) ⟨ρ1, [], heap18 op s n l cur⟩ = some (.normal, ⟨ρ', [], heap18 op s n l (if (x && y) = true then [60, 61] else cur)⟩) ∧ At18 ρ' 4 (q || (x && y)) := by
    generalize (x && y) = z at g44 ⊢
    cases z with
    | true =>
      rw [if_pos rfl, Bool.or_true]
      exact ⟨_, by simp [n18_6_2kb_2k_2, n18_6_2kb_2k_2t, n18_6_2kb_2k_2t_1, n18_6_2kb_2k_2t_2, n18_6_2kb_3, exec, runOps, wantedA, stepOp, pureOp, allocOp, readOp, effOp, ev, evs, evO, Env.get_cons, putE, binA, intBin, unA, AV.fit, AV.toCells, partC, partP, mkCells, allP, mkAgg, Cells.len, target, evParts, fillA, AV.cells, splice, spliceC, finA, leaveA, resA, resV, ansV, idxA, lenA, takeC, dropC, Cells.get?, Cells.toList, g44, h1.t3, h1.t5, h1.t6, h1.t7, e1]; rfl, ⟨by simp [Env.get_cons, h1.t1], by simp [Env.get_cons, h1.t2], by simp [Env.get_cons, h1.t3], by simp [Env.get_cons, h1.t4], by simp [Env.get_cons, h1.t5], by simp [Env.get_cons, h1.t6], by simp [Env.get_cons]⟩⟩
    | false =>
      rw [if_neg (by simp), Bool.or_false]
      exact ⟨_, by simp [n18_6_2kb_2k_2, n18_6_2kb_3, exec, runOps, wantedA, stepOp, pureOp, allocOp, readOp, effOp, ev, evs, evO, Env.get_cons, putE, binA, intBin, unA, AV.fit, AV.toCells, partC, partP, mkCells, allP, mkAgg, Cells.len, target, g44, h1.t7, e1]; rfl, ⟨by simp [Env.get_cons, h1.t1], by simp [Env.get_cons, h1.t2], by simp [Env.get_cons, h1.t3], by simp [Env.get_cons, h1.t4], by simp [Env.get_cons, h1.t5], by simp [Env.get_cons, h1.t6], by simp [Env.get_cons]⟩⟩
  obtain ⟨ρ', r2, hA⟩ := key
  refine ⟨ρ', ?_, hA⟩
  unfold n18_6_2kb
  rw [seqN e0]
  unfold n18_6_2kb_2 n18_6_2kb_2k
  rw [blkA r1]
  exact blkN r2
end
end Go.Ab.Turn
