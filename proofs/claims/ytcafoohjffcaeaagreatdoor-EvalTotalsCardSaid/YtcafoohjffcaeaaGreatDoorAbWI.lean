/- EvalTotals: Total: what it answers of the values that are there. -/
import Derived.Test.YtcafoohjffcaeaaGreatDoorAbVE
set_option linter.unusedSectionVars false
set_option linter.unusedSimpArgs false
set_option linter.unusedVariables false
set_option maxRecDepth 1000000
namespace Go.Ab.Cnt
open Go Go.Ab Go.Ab.Key Go.Proofs
variable [Marks]
section
variable (L n : Nat)
theorem touch_lst {σ : Heap} {s : AV} {l : List V} (h : Lst σ s l) (p : PV) : ∀ id ver n, s = .sl id ver 0 n 4 → (touch σ [s, .p p]).contains id = true := by
  intro id ver n hs
  rcases h with rfl | ⟨rfl, rfl⟩ | ⟨id', ver', wm, rest, ty, h2, rfl, ho, hw⟩
  · cases hs
  · cases hs
  · cases hs
    simp [touch, idsL, idsV, collect, idsO, ho]
theorem pickF29 {σ : Heap} {s : AV} {v : V} {r : List V} (h : Lst σ s (v :: r)) (hL : r.length + 1 < L) (hm : r.length + 1 ≤ 9223372036854775807) (ht : ∀ s, V.text s ∈ v :: r → s.length ≤ maxLen) :
    ∃ σ1, Two σ σ1 ∧ (cAt TC L (n + 4)).1 29 [s, .p (.fn 24)] σ = some (.ret (.p (.agg (vc (pick29 r v)))), σ1) := by
  obtain ⟨σ1, h1, h2, h3, h4, h5⟩ := h.frz (touch_lst h (.fn 24))
  have hf : frzA (touch σ [s, .p (.fn 24)]) 9 σ [s, .p (.fn 24)] = ([PV.vsl (vcs (v :: r)) (r.length + 1), .fn 24].map .p, σ1) := by
    simp only [frzA, h1]
    rfl
  exact ⟨σ1, h2, (cAt_frz (n := n + 3) q29 hf).trans (most29 L n v r hL hm ht σ1)⟩
theorem pickF30 {σ : Heap} {s : AV} {v : V} {r : List V} (h : Lst σ s (v :: r)) (hL : r.length + 1 < L) (hm : r.length + 1 ≤ 9223372036854775807) (ht : ∀ s, V.text s ∈ v :: r → s.length ≤ maxLen) :
    ∃ σ1, Two σ σ1 ∧ (cAt TC L (n + 4)).1 30 [s, .p (.fn 24)] σ = some (.ret (.p (.agg (vc (pick30 r v)))), σ1) := by
  obtain ⟨σ1, h1, h2, h3, h4, h5⟩ := h.frz (touch_lst h (.fn 24))
  have hf : frzA (touch σ [s, .p (.fn 24)]) 9 σ [s, .p (.fn 24)] = ([PV.vsl (vcs (v :: r)) (r.length + 1), .fn 24].map .p, σ1) := by
    simp only [frzA, h1]
    rfl
  exact ⟨σ1, h2, (cAt_frz (n := n + 3) q30 hf).trans (most30 L n v r hL hm ht σ1)⟩
end
/-- the node that is asked about -/
structure ND where
  S : List UInt8
  N : Int
  L : PV
def nodeA (op : List UInt8) (d : ND) : List PV := [.str op, .str d.S, .int .i64 d.N, d.L]
def done : PV := .str [48, 48, 48, 48, 48]
def zero4 : List PV := [.int .i64 0, .int .i64 0, .str [], .bool false]
theorem qAA : strBin .eql [99, 111, 117, 110, 116, 42] [99, 111, 117, 110, 116, 42] = some (.bool true) := rfl
theorem qAC : strBin .eql [99, 111, 117, 110, 116, 42] [99, 111, 117, 110, 116] = some (.bool false) := rfl
theorem qAS : strBin .eql [99, 111, 117, 110, 116, 42] [115, 117, 109] = some (.bool false) := rfl
theorem qAN : strBin .eql [99, 111, 117, 110, 116, 42] [109, 105, 110] = some (.bool false) := rfl
theorem qAX : strBin .eql [99, 111, 117, 110, 116, 42] [109, 97, 120] = some (.bool false) := rfl
theorem qCA : strBin .eql [99, 111, 117, 110, 116] [99, 111, 117, 110, 116, 42] = some (.bool false) := rfl
theorem qCC : strBin .eql [99, 111, 117, 110, 116] [99, 111, 117, 110, 116] = some (.bool true) := rfl
theorem qCS : strBin .eql [99, 111, 117, 110, 116] [115, 117, 109] = some (.bool false) := rfl
theorem qCN : strBin .eql [99, 111, 117, 110, 116] [109, 105, 110] = some (.bool false) := rfl
theorem qCX : strBin .eql [99, 111, 117, 110, 116] [109, 97, 120] = some (.bool false) := rfl
theorem qNA : strBin .eql [109, 105, 110] [99, 111, 117, 110, 116, 42] = some (.bool false) := rfl
theorem qNC : strBin .eql [109, 105, 110] [99, 111, 117, 110, 116] = some (.bool false) := rfl
theorem qNS : strBin .eql [109, 105, 110] [115, 117, 109] = some (.bool false) := rfl
theorem qNN : strBin .eql [109, 105, 110] [109, 105, 110] = some (.bool true) := rfl
theorem qNX : strBin .eql [109, 105, 110] [109, 97, 120] = some (.bool false) := rfl
theorem qXA : strBin .eql [109, 97, 120] [99, 111, 117, 110, 116, 42] = some (.bool false) := rfl
theorem qXC : strBin .eql [109, 97, 120] [99, 111, 117, 110, 116] = some (.bool false) := rfl
theorem qXS : strBin .eql [109, 97, 120] [115, 117, 109] = some (.bool false) := rfl
theorem qXN : strBin .eql [109, 97, 120] [109, 105, 110] = some (.bool false) := rfl
theorem qXX : strBin .eql [109, 97, 120] [109, 97, 120] = some (.bool true) := rfl
section
variable (C : Oracle) (L : Nat) (op : List UInt8) (N : ND) (ρ : Env) (σ : Heap) (s : AV) (l x : List V)
/-- the state behind the middle -/
structure St9 : Prop where
  t1 : ρ.get 1 = some s
  t2 : ρ.get 2 = some (.ptr 0 0 0)
  t4 : ρ.get 4 = some (.ptr 1 0 0)
  o0 : σ[0]? = some (.arr (.pv (nodeA op N)) 0 0 none)
  o1 : σ[1]? = some (.arr (.pv zero4) 0 0 (some 30))
  ls : Lst σ s l
  nn : At9 ρ σ x
/-- what is answered -/
def Ans9 (x : Option (AExit × St)) (r : V) : Prop := ∃ ρ' σ', x = some (.ret, ⟨ρ', [], σ'⟩) ∧ ρ'.get 4 = some (.ptr 1 0 0) ∧ ρ'.get 5 = some (.p done) ∧ ∃ ty, σ'[1]? = some (.arr (.pv (vc r)) 0 0 ty)
theorem set_at {σ : Heap} {id : Nat} {o : Obj} (h : σ[id]? = some o) (b : Obj) : (σ.set id b)[id]? = some b :=
  List.getElem?_set_self (List.getElem?_eq_some_iff.1 h).1
theorem all9 (h : St9 [99, 111, 117, 110, 116, 42] N ρ σ s l x) (hC : ∀ k σ, C 28 [.p (.int .i64 k)] σ = some (.ret (.p (.agg (vc (.num k)))), σ)) :
    Ans9 (exec C L (.seq p9_4 (.seq p9_5 (.seq p9_6 p9_r))) ⟨ρ, [], σ⟩) (.num l.length) := by
  have rl := fun (d k : Nat) (r : List AOper) (ρ : Env) (σ : Heap) => run_len (C := C) (d := d) (k := k) (g := none) (r := r) (ρ := ρ) (σ := σ) h.ls.len h.ls.str rfl
  have o0 := h.o0
  have o1 := h.o1
  simp only [nodeA, zero4] at o0 o1
  have e : exec C L p9_4 ⟨ρ, [], σ⟩ = some (.ret, ⟨(5, .p done) :: (39, .p (.agg (vc (.num l.length)))) :: (38, .p (.int .i64 l.length)) :: (37, s) :: (35, .p (.bool true)) :: (36, .p (.bool true)) :: (33, .p (.str [99, 111, 117, 110, 116, 42])) :: (32, .ptr 0 0 0) :: ρ, [], σ.set 1 (.arr (.pv (vc (.num l.length))) 0 0 (some 30))⟩) := by
    simp [p9_4, exec, runOps, wantedA, stepOp, pureOp, allocOp, readOp, effOp, ev, evs, evO, Env.get_cons, putE, binA, intBin, unA, AV.fit, AV.toCells, partC, partP, mkCells, allP, mkAgg, Cells.len, target, evParts, fillA, AV.cells, splice, spliceC, finA, leaveA, resA, resV, ansV, h.t1, h.t2, h.t4, o0, o1, hC, ↓rl, vc, done, qAA]
  rw [seqR e]
  exact ⟨_, _, rfl, by simp [Env.get_cons, h.t4], by simp [Env.get_cons], _, set_at o1 _⟩
theorem cnt9 (h : St9 [99, 111, 117, 110, 116] N ρ σ s l x) (hC : ∀ k σ, C 28 [.p (.int .i64 k)] σ = some (.ret (.p (.agg (vc (.num k)))), σ)) :
    Ans9 (exec C L (.seq p9_4 (.seq p9_5 (.seq p9_6 p9_r))) ⟨ρ, [], σ⟩) (.num x.length) := by
  obtain ⟨id, sv, c, ty, t9, o9, hc, hx, hcv⟩ := h.nn
  have rl := fun (d k : Nat) (r : List AOper) (ρ : Env) (σ : Heap) => run_len (C := C) (d := d) (k := k) (g := none) (r := r) (ρ := ρ) (σ := σ) hx.len hx.str rfl
  have o0 := h.o0
  have o1 := h.o1
  simp only [nodeA, zero4] at o0 o1
  have e : exec C L p9_4 ⟨ρ, [], σ⟩ = some (.ret, ⟨(5, .p done) :: (44, .p (.agg (vc (.num x.length)))) :: (43, .p (.int .i64 x.length)) :: (42, sv) :: (40, .p (.bool true)) :: (41, .p (.bool true)) :: (35, .p (.bool false)) :: (36, .p (.bool false)) :: (33, .p (.str [99, 111, 117, 110, 116])) :: (32, .ptr 0 0 0) :: ρ, [], σ.set 1 (.arr (.pv (vc (.num x.length))) 0 0 (some 30))⟩) := by
    simp [p9_4, exec, runOps, wantedA, stepOp, pureOp, allocOp, readOp, effOp, ev, evs, evO, Env.get_cons, putE, binA, intBin, unA, AV.fit, AV.toCells, partC, partP, mkCells, allP, mkAgg, Cells.len, target, evParts, fillA, AV.cells, splice, spliceC, finA, leaveA, resA, resV, ansV, h.t1, h.t2, h.t4, o0, o1, t9, o9, ↓hc, hC, ↓rl, vc, done, qCA, qCC]
  rw [seqR e]
  exact ⟨_, _, rfl, by simp [Env.get_cons, h.t4], by simp [Env.get_cons], _, set_at o1 _⟩
theorem min_x4 (h : St9 [109, 105, 110] N ρ σ s l x) : ∃ ρ4, exec C L p9_4 ⟨ρ, [], σ⟩ = some (.normal, ⟨ρ4, [], σ⟩) ∧ St9 [109, 105, 110] N ρ4 σ s l x := by
  have o0 := h.o0
  simp only [nodeA] at o0
  obtain ⟨id, sv, c, ty, t9, o9, hc, hx, hcv⟩ := h.nn
  exact ⟨_, by simp [p9_4, exec, runOps, wantedA, stepOp, pureOp, allocOp, readOp, effOp, ev, evs, evO, Env.get_cons, putE, binA, intBin, unA, AV.fit, AV.toCells, partC, partP, mkCells, allP, mkAgg, Cells.len, target, h.t2, o0, qNA, qNC, qNS, qNN]; rfl, ⟨by simp [Env.get_cons, h.t1], by simp [Env.get_cons, h.t2], by simp [Env.get_cons, h.t4], h.o0, h.o1, h.ls, id, sv, c, ty, by simp [Env.get_cons, t9], o9, hc, hx, hcv⟩⟩
theorem min_x5 (h : St9 [109, 105, 110] N ρ σ s l x) (hx : x ≠ []) : ∃ ρ4, exec C L p9_5 ⟨ρ, [], σ⟩ = some (.normal, ⟨ρ4, [], σ⟩) ∧ St9 [109, 105, 110] N ρ4 σ s l x := by
  obtain ⟨id, sv, c, ty, t9, o9, hc, hxx, hcv⟩ := h.nn
  have rl := fun (d k : Nat) (r : List AOper) (ρ : Env) (σ : Heap) => run_len (C := C) (d := d) (k := k) (g := none) (r := r) (ρ := ρ) (σ := σ) hxx.len hxx.str rfl
  have h0 : ((x.length : Int) == 0) = false := by
    rw [beq_eq_false_iff_ne]
    intro h
    exact hx (List.eq_nil_of_length_eq_zero (by omega))
  exact ⟨_, by simp [p9_5, exec, runOps, wantedA, stepOp, pureOp, allocOp, readOp, effOp, ev, evs, evO, Env.get_cons, putE, binA, intBin, unA, AV.fit, AV.toCells, partC, partP, mkCells, allP, mkAgg, Cells.len, target, t9, o9, ↓hc, ↓rl, ↓h0]; rfl, ⟨by simp [Env.get_cons, h.t1], by simp [Env.get_cons, h.t2], by simp [Env.get_cons, h.t4], h.o0, h.o1, h.ls, id, sv, c, ty, by simp [Env.get_cons, t9], o9, hc, hxx, hcv⟩⟩
theorem min_nil (h : St9 [109, 105, 110] N ρ σ s l []) : Ans9 (exec C L (.seq p9_4 (.seq p9_5 (.seq p9_6 p9_r))) ⟨ρ, [], σ⟩) .null := by
  obtain ⟨ρ4, e4, h⟩ := min_x4 C L N ρ σ s l [] h
  rw [seqN e4]
  obtain ⟨id, sv, c, ty, t9, o9, hc, hxx, hcv⟩ := h.nn
  have rl := fun (d k : Nat) (r : List AOper) (ρ : Env) (σ : Heap) => run_len (C := C) (d := d) (k := k) (g := none) (r := r) (ρ := ρ) (σ := σ) hxx.len hxx.str rfl
  have o1 := h.o1
  simp only [zero4] at o1
  have e : exec C L p9_5 ⟨ρ4, [], σ⟩ = some (.ret, ⟨(5, .p done) :: (52, .p (.agg zero4)) :: (51, .p (.bool true)) :: (50, .p (.int .i64 0)) :: (49, sv) :: ρ4, [], σ.set 1 (.arr (.pv (vc .null)) 0 0 (some 30))⟩) := by
    simp [p9_5, exec, runOps, wantedA, stepOp, pureOp, allocOp, readOp, effOp, ev, evs, evO, Env.get_cons, putE, binA, intBin, unA, AV.fit, AV.toCells, partC, partP, mkCells, allP, mkAgg, Cells.len, target, evParts, fillA, AV.cells, splice, spliceC, finA, leaveA, resA, resV, ansV, h.t4, o1, t9, o9, ↓hc, ↓rl, vc, done, zero4]
  rw [seqR e]
  exact ⟨_, _, rfl, by simp [Env.get_cons, h.t4], by simp [Env.get_cons], _, set_at o1 _⟩
theorem min9 (h : St9 [109, 105, 110] N ρ σ s l x) (hx : x ≠ []) (m : V) (hC : ∀ sv, Lst σ sv x → ∃ σ1, Two σ σ1 ∧ C 29 [sv, .p (.fn 24)] σ = some (.ret (.p (.agg (vc m))), σ1)) :
    Ans9 (exec C L (.seq p9_4 (.seq p9_5 (.seq p9_6 p9_r))) ⟨ρ, [], σ⟩) m := by
  obtain ⟨ρ4, e4, h⟩ := min_x4 C L N ρ σ s l x h
  rw [seqN e4]
  obtain ⟨ρ5, e5, h⟩ := min_x5 C L N ρ4 σ s l x h hx
  rw [seqN e5]
  obtain ⟨id, sv, c, ty, t9, o9, hc, hxx, hcv⟩ := h.nn
  obtain ⟨σ1, htw, hcall⟩ := hC sv hxx
  have o0 := h.o0
  have o1 := htw.2.1.trans h.o1
  simp only [nodeA, zero4] at o0 o1
  have hm4 := vc_len m
  generalize hcm : vc m = cm at *
  obtain ⟨y0, y1, y2, y3, rfl⟩ : ∃ y0 y1 y2 y3, cm = [y0, y1, y2, y3] := by
    match cm, hm4 with
    | [y0, y1, y2, y3], _ => exact ⟨y0, y1, y2, y3, rfl⟩
  have e : ∃ ρ6, exec C L p9_6 ⟨ρ5, [], σ⟩ = some (.ret, ⟨ρ6, [], σ1.set 1 (.arr (.pv [y0, y1, y2, y3]) 0 0 (some 30))⟩) ∧ ρ6.get 4 = some (.ptr 1 0 0) ∧ ρ6.get 5 = some (.p done) :=
    ⟨_, by simp [p9_6, exec, runOps, wantedA, stepOp, pureOp, allocOp, readOp, effOp, ev, evs, evO, Env.get_cons, putE, binA, intBin, unA, AV.fit, AV.toCells, partC, partP, mkCells, allP, mkAgg, Cells.len, target, evParts, fillA, AV.cells, splice, spliceC, finA, leaveA, resA, resV, ansV, h.t2, h.t4, o0, o1, t9, o9, ↓hc, hcall, qNN]; rfl, by simp [Env.get_cons, h.t4], by simp [Env.get_cons, done]⟩
  obtain ⟨ρ6, e6, g4, g5⟩ := e
  rw [seqR e6]
  exact ⟨_, _, rfl, g4, g5, some 30, by rw [hcm]; exact set_at o1 _⟩
theorem max_x4 (h : St9 [109, 97, 120] N ρ σ s l x) : ∃ ρ4, exec C L p9_4 ⟨ρ, [], σ⟩ = some (.normal, ⟨ρ4, [], σ⟩) ∧ St9 [109, 97, 120] N ρ4 σ s l x := by
  have o0 := h.o0
  simp only [nodeA] at o0
  obtain ⟨id, sv, c, ty, t9, o9, hc, hx, hcv⟩ := h.nn
  exact ⟨_, by simp [p9_4, exec, runOps, wantedA, stepOp, pureOp, allocOp, readOp, effOp, ev, evs, evO, Env.get_cons, putE, binA, intBin, unA, AV.fit, AV.toCells, partC, partP, mkCells, allP, mkAgg, Cells.len, target, h.t2, o0, qXA, qXC, qXS, qXN, qXX]; rfl, ⟨by simp [Env.get_cons, h.t1], by simp [Env.get_cons, h.t2], by simp [Env.get_cons, h.t4], h.o0, h.o1, h.ls, id, sv, c, ty, by simp [Env.get_cons, t9], o9, hc, hx, hcv⟩⟩
theorem max_x5 (h : St9 [109, 97, 120] N ρ σ s l x) (hx : x ≠ []) : ∃ ρ4, exec C L p9_5 ⟨ρ, [], σ⟩ = some (.normal, ⟨ρ4, [], σ⟩) ∧ St9 [109, 97, 120] N ρ4 σ s l x := by
  obtain ⟨id, sv, c, ty, t9, o9, hc, hxx, hcv⟩ := h.nn
  have rl := fun (d k : Nat) (r : List AOper) (ρ : Env) (σ : Heap) => run_len (C := C) (d := d) (k := k) (g := none) (r := r) (ρ := ρ) (σ := σ) hxx.len hxx.str rfl
  have h0 : ((x.length : Int) == 0) = false := by
    rw [beq_eq_false_iff_ne]
    intro h
    exact hx (List.eq_nil_of_length_eq_zero (by omega))
  exact ⟨_, by simp [p9_5, exec, runOps, wantedA, stepOp, pureOp, allocOp, readOp, effOp, ev, evs, evO, Env.get_cons, putE, binA, intBin, unA, AV.fit, AV.toCells, partC, partP, mkCells, allP, mkAgg, Cells.len, target, t9, o9, ↓hc, ↓rl, ↓h0]; rfl, ⟨by simp [Env.get_cons, h.t1], by simp [Env.get_cons, h.t2], by simp [Env.get_cons, h.t4], h.o0, h.o1, h.ls, id, sv, c, ty, by simp [Env.get_cons, t9], o9, hc, hxx, hcv⟩⟩
theorem max_nil (h : St9 [109, 97, 120] N ρ σ s l []) : Ans9 (exec C L (.seq p9_4 (.seq p9_5 (.seq p9_6 p9_r))) ⟨ρ, [], σ⟩) .null := by
  obtain ⟨ρ4, e4, h⟩ := max_x4 C L N ρ σ s l [] h
  rw [seqN e4]
  obtain ⟨id, sv, c, ty, t9, o9, hc, hxx, hcv⟩ := h.nn
  have rl := fun (d k : Nat) (r : List AOper) (ρ : Env) (σ : Heap) => run_len (C := C) (d := d) (k := k) (g := none) (r := r) (ρ := ρ) (σ := σ) hxx.len hxx.str rfl
  have o1 := h.o1
  simp only [zero4] at o1
  have e : exec C L p9_5 ⟨ρ4, [], σ⟩ = some (.ret, ⟨(5, .p done) :: (52, .p (.agg zero4)) :: (51, .p (.bool true)) :: (50, .p (.int .i64 0)) :: (49, sv) :: ρ4, [], σ.set 1 (.arr (.pv (vc .null)) 0 0 (some 30))⟩) := by
    simp [p9_5, exec, runOps, wantedA, stepOp, pureOp, allocOp, readOp, effOp, ev, evs, evO, Env.get_cons, putE, binA, intBin, unA, AV.fit, AV.toCells, partC, partP, mkCells, allP, mkAgg, Cells.len, target, evParts, fillA, AV.cells, splice, spliceC, finA, leaveA, resA, resV, ansV, h.t4, o1, t9, o9, ↓hc, ↓rl, vc, done, zero4]
  rw [seqR e]
  exact ⟨_, _, rfl, by simp [Env.get_cons, h.t4], by simp [Env.get_cons], _, set_at o1 _⟩
theorem max9 (h : St9 [109, 97, 120] N ρ σ s l x) (hx : x ≠ []) (m : V) (hC : ∀ sv, Lst σ sv x → ∃ σ1, Two σ σ1 ∧ C 30 [sv, .p (.fn 24)] σ = some (.ret (.p (.agg (vc m))), σ1)) :
    Ans9 (exec C L (.seq p9_4 (.seq p9_5 (.seq p9_6 p9_r))) ⟨ρ, [], σ⟩) m := by
  obtain ⟨ρ4, e4, h⟩ := max_x4 C L N ρ σ s l x h
  rw [seqN e4]
  obtain ⟨ρ5, e5, h⟩ := max_x5 C L N ρ4 σ s l x h hx
  rw [seqN e5]
  obtain ⟨id, sv, c, ty, t9, o9, hc, hxx, hcv⟩ := h.nn
  obtain ⟨σ1, htw, hcall⟩ := hC sv hxx
  have o0 := h.o0
  have o1 := htw.2.1.trans h.o1
  simp only [nodeA, zero4] at o0 o1
  have hm4 := vc_len m
  generalize hcm : vc m = cm at *
  obtain ⟨y0, y1, y2, y3, rfl⟩ : ∃ y0 y1 y2 y3, cm = [y0, y1, y2, y3] := by
    match cm, hm4 with
    | [y0, y1, y2, y3], _ => exact ⟨y0, y1, y2, y3, rfl⟩
  have e : ∃ ρ6, exec C L p9_6 ⟨ρ5, [], σ⟩ = some (.ret, ⟨ρ6, [], σ1.set 1 (.arr (.pv [y0, y1, y2, y3]) 0 0 (some 30))⟩) ∧ ρ6.get 4 = some (.ptr 1 0 0) ∧ ρ6.get 5 = some (.p done) :=
    ⟨_, by simp [p9_6, exec, runOps, wantedA, stepOp, pureOp, allocOp, readOp, effOp, ev, evs, evO, Env.get_cons, putE, binA, intBin, unA, AV.fit, AV.toCells, partC, partP, mkCells, allP, mkAgg, Cells.len, target, evParts, fillA, AV.cells, splice, spliceC, finA, leaveA, resA, resV, ansV, h.t2, h.t4, o0, o1, t9, o9, ↓hc, hcall, qXN, qXX]; rfl, by simp [Env.get_cons, h.t4], by simp [Env.get_cons, done]⟩
  obtain ⟨ρ6, e6, g4, g5⟩ := e
  rw [seqR e6]
  exact ⟨_, _, rfl, g4, g5, some 30, by rw [hcm]; exact set_at o1 _⟩
end
end Go.Ab.Cnt

/- EvalTotals: Total, of all values. -/
set_option maxRecDepth 1000000
namespace Go.Ab.Cnt
open Go Go.Ab Go.Ab.Key Go.Proofs
variable [Marks]
section
variable (C : Oracle) (D : DOracle) (L : Nat)
/-- an answer and its state -/
def AnsS (x : Option (AExit × St)) (r : V) (s : List UInt8) : Prop := ∃ ρ' σ', x = some (.ret, ⟨ρ', [], σ'⟩) ∧ ρ'.get 4 = some (.ptr 1 0 0) ∧ ρ'.get 5 = some (.p (.str s)) ∧ ∃ ty, σ'[1]? = some (.arr (.pv (vc r)) 0 0 ty)
theorem Ans9.s {x : Option (AExit × St)} {r : V} (h : Ans9 x r) : AnsS x r [48, 48, 48, 48, 48] := h
theorem fin9 {x : Option (AExit × St)} {r : V} {s : List UInt8} (h : AnsS x r s) : ansV (finX D lit9 x) = some (.tup [.agg (vc r), .str s]) := by
  obtain ⟨ρ', σ', e, g4, g5, ty, ho⟩ := h
  rw [e]
  have hl := vc_len r
  have ht : (vc r).take 4 = vc r := List.take_of_length_le (by omega)
  simp [finX, finA, leaveA, resA, resV, ansV, lit9, g4, g5, ho, partC, partP, hl, ht, mkTup, allP]
theorem front9 (op : List UInt8) (N : ND) (x : List V) :
    ∃ ρ1, exec C L p9_1 ⟨params 0 [.p (.agg (nodeA op N)), .p (.vsl (vcs x) x.length)], [], []⟩ = some (.normal, ⟨ρ1, [], [.arr (.pv (nodeA op N)) 0 0 none, .arr (.pv zero4) 0 0 (some 30)]⟩) ∧
      ρ1.get 1 = some (.p (.vsl (vcs x) x.length)) ∧ ρ1.get 2 = some (.ptr 0 0 0) ∧ ρ1.get 4 = some (.ptr 1 0 0) :=
  ⟨_, by simp [p9_1, params, nodeA, zero4, exec, runOps, wantedA, stepOp, pureOp, allocOp, readOp, effOp, ev, evs, evO, Env.get_cons, putE, binA, intBin, unA, AV.fit, AV.toCells, partC, partP, mkCells, allP, mkAgg, Cells.len, target]; rfl, by simp [Env.get_cons], by simp [Env.get_cons], by simp [Env.get_cons]⟩
theorem skip9 (ρ : Env) (op : List UInt8) (N : ND) (hN : ¬ N.N = 1) (s : AV) (t1 : ρ.get 1 = some s) (t2 : ρ.get 2 = some (.ptr 0 0 0)) (t4 : ρ.get 4 = some (.ptr 1 0 0)) :
    ∃ ρ1, exec C L p9_2 ⟨ρ, [], [.arr (.pv (nodeA op N)) 0 0 none, .arr (.pv zero4) 0 0 (some 30)]⟩ = some (.normal, ⟨ρ1, [], [.arr (.pv (nodeA op N)) 0 0 none, .arr (.pv zero4) 0 0 (some 30)]⟩) ∧
      ρ1.get 1 = some s ∧ ρ1.get 2 = some (.ptr 0 0 0) ∧ ρ1.get 4 = some (.ptr 1 0 0) :=
  ⟨_, by simp [p9_2, nodeA, exec, runOps, wantedA, stepOp, pureOp, allocOp, readOp, effOp, ev, evs, evO, Env.get_cons, putE, binA, intBin, unA, AV.fit, AV.toCells, partC, partP, mkCells, allP, mkAgg, Cells.len, target, t2, hN, beq_eq_false_iff_ne.2 hN]; rfl, by simp [Env.get_cons, t1], by simp [Env.get_cons, t2], by simp [Env.get_cons, t4]⟩
end
section
variable (L n : Nat)
/-- from the middle on -/
theorem from_mid (ρ : Env) (σ : Heap) (op : List UInt8) (N : ND) (s : AV) (l : List V) (r : V) (hl : l.length ≤ LIM) (hL : l.length < L) (h : Lst σ s l)
    (t1 : ρ.get 1 = some s) (t2 : ρ.get 2 = some (.ptr 0 0 0)) (t4 : ρ.get 4 = some (.ptr 1 0 0)) (o0 : σ[0]? = some (.arr (.pv (nodeA op N)) 0 0 none)) (o1 : σ[1]? = some (.arr (.pv zero4) 0 0 (some 30)))
    (st : List UInt8) (k : ∀ ρ σ, St9 op N ρ σ s l (nn l) → AnsS (exec (cAt TC L (n + 4)).1 L (.seq p9_4 (.seq p9_5 (.seq p9_6 p9_r))) ⟨ρ, [], σ⟩) r st) :
    AnsS (exec (cAt TC L (n + 4)).1 L (.seq p9_3 (.seq p9_4 (.seq p9_5 (.seq p9_6 p9_r)))) ⟨ρ, [], σ⟩) r st := by
  have h2 : 2 ≤ σ.length := (List.getElem?_eq_some_iff.1 o1).1
  obtain ⟨ρ', σ', e, g1, g2, g4, htw, hls, hat⟩ := mid9 L (n + 1) ρ σ s l hl hL h h2 t1
  have e : exec (cAt TC L (n + 4)).1 L p9_3 ⟨ρ, [], σ⟩ = some (.normal, ⟨ρ', [], σ'⟩) := e
  rw [seqN e]
  exact k ρ' σ' ⟨g1, g2.trans t2, g4.trans t4, htw.1.trans o0, htw.2.1.trans o1, hls, hat⟩
/-- the front: all values, or those that differ, in a list -/
theorem from_front (ρ2 : Env) (σ2 : Heap) (op : List UInt8) (N : ND) (x : List V) (r : V) (s : AV) (l : List V) (σ : Heap)
    (e : exec (cAt TC L (n + 4)).1 L (.seq p9_1 p9_2) ⟨params 0 [.p (.agg (nodeA op N)), .p (.vsl (vcs x) x.length)], [], []⟩ = some (.normal, ⟨ρ2, [], σ2⟩))
    (b1 : ρ2.get 1 = some s) (b2 : ρ2.get 2 = some (.ptr 0 0 0)) (b4 : ρ2.get 4 = some (.ptr 1 0 0)) (o0 : σ2[0]? = some (.arr (.pv (nodeA op N)) 0 0 none)) (o1 : σ2[1]? = some (.arr (.pv zero4) 0 0 (some 30)))
    (hl : l.length ≤ LIM) (hL : l.length < L) (hls : Lst σ2 s l) (st : List UInt8)
    (k : ∀ ρ σ, St9 op N ρ σ s l (nn l) → AnsS (exec (cAt TC L (n + 4)).1 L (.seq p9_4 (.seq p9_5 (.seq p9_6 p9_r))) ⟨ρ, [], σ⟩) r st) :
    (cAt TC L (n + 5)).1 9 [.p (.agg (nodeA op N)), .p (.vsl (vcs x) x.length)] σ = some (.ret (.p (.tup [.agg (vc r), .str st])), σ) := by
  refine call_ans (ps := [.agg (nodeA op N), .vsl (vcs x) x.length]) (n := n + 4) q9 rfl ?_ σ
  have hA : AnsS (exec (cAt TC L (n + 4)).1 L lit9.body ⟨params 0 [.p (.agg (nodeA op N)), .p (.vsl (vcs x) x.length)], [], []⟩) r st := by
    rw [p9_eq]
    have e' : exec (cAt TC L (n + 4)).1 L (.seq p9_1 (.seq p9_2 (.seq p9_3 (.seq p9_4 (.seq p9_5 (.seq p9_6 p9_r)))))) ⟨params 0 [.p (.agg (nodeA op N)), .p (.vsl (vcs x) x.length)], [], []⟩ = exec (cAt TC L (n + 4)).1 L (.seq p9_3 (.seq p9_4 (.seq p9_5 (.seq p9_6 p9_r)))) ⟨ρ2, [], σ2⟩ := by
      simp only [exec] at e ⊢
      split at e
      · rw [e]
      · simp_all
    rw [e']
    exact from_mid L n ρ2 σ2 op N s l r hl hL hls b1 b2 b4 o0 o1 st k
  rw [runFunc_eq]
  exact fin9 (cAt TC L (n + 4)).2 hA
def lowest (x : List V) : V := match nn x with
  | [] => .null
  | v :: r => pick29 r v
def highest (x : List V) : V := match nn x with
  | [] => .null
  | v :: r => pick30 r v
theorem nn_text {x : List V} {s : List UInt8} (h : V.text s ∈ nn x) : V.text s ∈ x := (List.mem_filter.1 h).1
end
end Go.Ab.Cnt
