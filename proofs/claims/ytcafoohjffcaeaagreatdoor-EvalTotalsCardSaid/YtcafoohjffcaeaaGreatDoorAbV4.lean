/- EvalCounts: the engine's order; which values are right. -/
import Derived.Test.YtcafoohjffcaeaaGreatDoorAbV3
set_option linter.unusedSectionVars false
set_option linter.unusedSimpArgs false
set_option linter.unusedVariables false
set_option maxRecDepth 1000000
namespace Go.Ab.Cnt
open Go Go.Ab Go.Ab.Key Go.Proofs
variable [Marks]
section
variable (L n : Nat)
theorem words44 (s : List UInt8) (hs : s.length ≤ maxLen) (σ : Heap) : (cAt TC L (n + 2)).1 44 [.p (.str s)] σ = some (.ret (.p (.str (trimB s))), σ) := by
  refine call_ans (ps := [.str s]) (n := n + 1) q44 (by kernel_rfl) ?_ σ
  have h : ∀ σ, (cAt TC L (n + 1)).1 70 [.p (.str s), .p (.str [32])] σ = some (.ret (.p (.str (trimB s))), σ) := fun σ =>
    call_ext (ps := [.str s, .str [32]]) (T := TC) (g := trimO) (fz := true) rfl (by simp [trimO, hs]) σ
  generalize (cAt TC L (n + 1)).1 = C at *
  generalize (cAt TC L (n + 1)).2 = D
  simp [lit44, runFunc, params, exec, runOps, wantedA, stepOp, pureOp, allocOp, readOp, effOp, ev, evs, evO, Env.get_cons, putE, binA, intBin, unA, AV.fit, AV.toCells, partC, partP, mkCells, allP, mkAgg, Cells.len, target, evParts, fillA, AV.cells, splice, spliceC, finA, leaveA, resA, resV, ansV, h]
theorem cmp43 (a b : List UInt8) (σ : Heap) : (cAt TC L (n + 1)).1 43 [.p (.str a), .p (.str b)] σ = some (.ret (.p (.int .i64 (ordI (cmpL a b)))), σ) :=
  call_ext (ps := [.str a, .str b]) (T := TC) (g := cmpO) (fz := true) rfl rfl σ
theorem order24 (a b : V) (ha : ∀ s, a = .text s → s.length ≤ maxLen) (hb : ∀ s, b = .text s → s.length ≤ maxLen) (σ : Heap) :
    (cAt TC L (n + 3)).1 24 [.p (.agg (vc a)), .p (.agg (vc b))] σ = some (.ret (.p (.int .i64 (ordI (ordV a b)))), σ) := by
  refine call_ans (ps := [.agg (vc a), .agg (vc b)]) (n := n + 2) q24 (by kernel_rfl) ?_ σ
  have e41 := cmp41 L n
  have e42 := cmp42 L n
  have e43 := cmp43 L (n + 1)
  have e44 := words44 L n
  generalize (cAt TC L (n + 2)).1 = C at *
  generalize (cAt TC L (n + 2)).2 = D
  have k01 : ordI (compare (0 : Int) 1) = -1 := rfl
  have k02 : ordI (compare (0 : Int) 2) = -1 := rfl
  have k03 : ordI (compare (0 : Int) 3) = -1 := rfl
  have k12 : ordI (compare (1 : Int) 2) = -1 := rfl
  have k13 : ordI (compare (1 : Int) 3) = -1 := rfl
  have k23 : ordI (compare (2 : Int) 3) = -1 := rfl
  have k10 : ordI (compare (1 : Int) 0) = 1 := rfl
  have k20 : ordI (compare (2 : Int) 0) = 1 := rfl
  have k30 : ordI (compare (3 : Int) 0) = 1 := rfl
  have k21 : ordI (compare (2 : Int) 1) = 1 := rfl
  have k31 : ordI (compare (3 : Int) 1) = 1 := rfl
  have k32 : ordI (compare (3 : Int) 2) = 1 := rfl
  have kk : ∀ x : Int, ordI (compare x x) = 0 := fun x => by simp [ordI]
  cases a with
  | null => cases b <;> simp [lit24, vc, runFunc, params, exec, runOps, wantedA, stepOp, pureOp, allocOp, readOp, effOp, ev, evs, evO, Env.get_cons, putE, binA, intBin, unA, AV.fit, AV.toCells, partC, partP, mkCells, allP, mkAgg, Cells.len, target, evParts, fillA, AV.cells, splice, spliceC, finA, leaveA, resA, resV, ansV, e41, ↓k01, ↓k02, ↓k03, ↓kk, ordV, rank] <;> rfl
  | num x =>
    cases b with
    | num y => simp [lit24, vc, runFunc, params, exec, runOps, wantedA, stepOp, pureOp, allocOp, readOp, effOp, ev, evs, evO, Env.get_cons, putE, binA, intBin, unA, AV.fit, AV.toCells, partC, partP, mkCells, allP, mkAgg, Cells.len, target, evParts, fillA, AV.cells, splice, spliceC, finA, leaveA, resA, resV, ansV, e41, e42, ↓kk, ordV]
    | _ => simp [lit24, vc, runFunc, params, exec, runOps, wantedA, stepOp, pureOp, allocOp, readOp, effOp, ev, evs, evO, Env.get_cons, putE, binA, intBin, unA, AV.fit, AV.toCells, partC, partP, mkCells, allP, mkAgg, Cells.len, target, evParts, fillA, AV.cells, splice, spliceC, finA, leaveA, resA, resV, ansV, e41, ↓k10, ↓k12, ↓k13, ordV, rank] <;> rfl
  | text s =>
    cases b with
    | text t =>
      have e1 := e44 s (ha s rfl)
      have e2 := e44 t (hb t rfl)
      simp [lit24, vc, runFunc, params, exec, runOps, wantedA, stepOp, pureOp, allocOp, readOp, effOp, ev, evs, evO, Env.get_cons, putE, binA, intBin, unA, AV.fit, AV.toCells, partC, partP, mkCells, allP, mkAgg, Cells.len, target, evParts, fillA, AV.cells, splice, spliceC, finA, leaveA, resA, resV, ansV, e41, e1, e2, e43, ↓kk, ordV, drawExec, drawRun, stillOp, keepE, readsOf, isE, opds, tmpsOf, carry, refOf, refV, valsOp, oneH, wrIds, okRW, bef, isFree, between, touch, collect, idsL, idsV, idsO]
    | _ => simp [lit24, vc, runFunc, params, exec, runOps, wantedA, stepOp, pureOp, allocOp, readOp, effOp, ev, evs, evO, Env.get_cons, putE, binA, intBin, unA, AV.fit, AV.toCells, partC, partP, mkCells, allP, mkAgg, Cells.len, target, evParts, fillA, AV.cells, splice, spliceC, finA, leaveA, resA, resV, ansV, e41, ↓k20, ↓k21, ↓k23, ordV, rank] <;> rfl
  | bool x =>
    cases b with
    | bool y => cases x <;> cases y <;> simp [lit24, vc, runFunc, params, exec, runOps, wantedA, stepOp, pureOp, allocOp, readOp, effOp, ev, evs, evO, Env.get_cons, putE, binA, intBin, unA, AV.fit, AV.toCells, partC, partP, mkCells, allP, mkAgg, Cells.len, target, evParts, fillA, AV.cells, splice, spliceC, finA, leaveA, resA, resV, ansV, e41, eqP, ↓kk, ordV] <;> rfl
    | _ => simp [lit24, vc, runFunc, params, exec, runOps, wantedA, stepOp, pureOp, allocOp, readOp, effOp, ev, evs, evO, Env.get_cons, putE, binA, intBin, unA, AV.fit, AV.toCells, partC, partP, mkCells, allP, mkAgg, Cells.len, target, evParts, fillA, AV.cells, splice, spliceC, finA, leaveA, resA, resV, ansV, e41, ↓k30, ↓k31, ↓k32, ordV, rank] <;> rfl
/-- is a value right? -/
def rightP (k x : Int) (s : List UInt8) (b : Bool) : Bool :=
  if k = 0 then x == 0 && s == [] && b == false else if k = 1 then s == [] && b == false else if k = 2 then x == 0 && b == false else if k = 3 then x == 0 && s == [] else false
theorem right21 (k x : Int) (s : List UInt8) (b : Bool) (σ : Heap) : (cAt TC L (n + 1)).1 21 [.p (.agg [.int .i64 k, .int .i64 x, .str s, .bool b])] σ = some (.ret (.p (.bool (rightP k x s b))), σ) := by
  refine call_ans (ps := [.agg [.int .i64 k, .int .i64 x, .str s, .bool b]]) (n := n) q21 (by kernel_rfl) ?_ σ
  generalize (cAt TC L n).1 = C at *
  generalize (cAt TC L n).2 = D
  unfold rightP
  by_cases k0 : k = 0
  · subst k0
    cases hx : (x == 0) <;> cases hs : s.isEmpty <;> cases b <;> simp [lit21, runFunc, params, exec, runOps, wantedA, stepOp, pureOp, allocOp, readOp, effOp, ev, evs, evO, Env.get_cons, putE, binA, intBin, unA, AV.fit, AV.toCells, partC, partP, mkCells, allP, mkAgg, Cells.len, target, evParts, fillA, AV.cells, splice, spliceC, finA, leaveA, resA, resV, ansV, eqP, eqPs, hx, hs]
  by_cases k1 : k = 1
  · subst k1
    cases hs : s.isEmpty <;> cases b <;> simp [lit21, runFunc, params, exec, runOps, wantedA, stepOp, pureOp, allocOp, readOp, effOp, ev, evs, evO, Env.get_cons, putE, binA, intBin, unA, AV.fit, AV.toCells, partC, partP, mkCells, allP, mkAgg, Cells.len, target, evParts, fillA, AV.cells, splice, spliceC, finA, leaveA, resA, resV, ansV, eqP, eqPs, hs]
  by_cases k2 : k = 2
  · subst k2
    cases hx : (x == 0) <;> cases b <;> simp [lit21, runFunc, params, exec, runOps, wantedA, stepOp, pureOp, allocOp, readOp, effOp, ev, evs, evO, Env.get_cons, putE, binA, intBin, unA, AV.fit, AV.toCells, partC, partP, mkCells, allP, mkAgg, Cells.len, target, evParts, fillA, AV.cells, splice, spliceC, finA, leaveA, resA, resV, ansV, eqP, eqPs, hx]
  by_cases k3 : k = 3
  · subst k3
    cases hx : (x == 0) <;> cases hs : s.isEmpty <;> simp [lit21, runFunc, params, exec, runOps, wantedA, stepOp, pureOp, allocOp, readOp, effOp, ev, evs, evO, Env.get_cons, putE, binA, intBin, unA, AV.fit, AV.toCells, partC, partP, mkCells, allP, mkAgg, Cells.len, target, evParts, fillA, AV.cells, splice, spliceC, finA, leaveA, resA, resV, ansV, eqP, eqPs, hx, hs]
  have g0 : (k == 0) = false := beq_eq_false_iff_ne.2 k0
  have g1 : (k == 1) = false := beq_eq_false_iff_ne.2 k1
  have g2 : (k == 2) = false := beq_eq_false_iff_ne.2 k2
  have g3 : (k == 3) = false := beq_eq_false_iff_ne.2 k3
  simp [lit21, runFunc, params, exec, runOps, wantedA, stepOp, pureOp, allocOp, readOp, effOp, ev, evs, evO, Env.get_cons, putE, binA, intBin, unA, AV.fit, AV.toCells, partC, partP, mkCells, allP, mkAgg, Cells.len, target, evParts, fillA, AV.cells, splice, spliceC, finA, leaveA, resA, resV, ansV, g0, g1, g2, g3, k0, k1, k2, k3]
theorem right_v {k x : Int} {s : List UInt8} {b : Bool} (h : rightP k x s b = true) : ∃ v : V, [.int .i64 k, .int .i64 x, .str s, .bool b] = vc v := by
  unfold rightP at h
  split at h
  · subst_vars
    simp at h
    obtain ⟨⟨rfl, rfl⟩, rfl⟩ := h
    exact ⟨.null, rfl⟩
  · split at h
    · subst_vars
      simp at h
      obtain ⟨rfl, rfl⟩ := h
      exact ⟨.num x, rfl⟩
    · split at h
      · subst_vars
        simp at h
        obtain ⟨rfl, rfl⟩ := h
        exact ⟨.text s, rfl⟩
      · split at h
        · subst_vars
          simp at h
          obtain ⟨rfl, rfl⟩ := h
          exact ⟨.bool b, rfl⟩
        · cases h
end
end Go.Ab.Cnt

/- EvalCounts: lists of right values. -/
set_option maxRecDepth 1000000
namespace Go.Ab.Cnt
open Go Go.Ab Go.Ab.Key Go.Proofs
structure Raw where
  k : Int
  n : Int
  s : List UInt8
  b : Bool
def Raw.cells (r : Raw) : List PV := [.int .i64 r.k, .int .i64 r.n, .str r.s, .bool r.b]
def raws (l : List Raw) : List PV := (l.map Raw.cells).flatten
def Raw.right (r : Raw) : Bool := rightP r.k r.n r.s r.b
theorem raws_len (l : List Raw) : (raws l).length = l.length * 4 := by
  induction l with
  | nil => rfl
  | cons v r ih => simp only [raws, List.map_cons, List.flatten_cons, List.length_append, List.length_cons] at *; rw [ih]; simp [Raw.cells]; omega
variable [Marks]
def lit7 : AFunc := { ntmps := 18, results := [ARes.tmp 2], body := (ACode.region [{ dst := some 2, op := AOp.mv (Opd.c (AV.p (PV.bool false))), guard := none }]).seq (((ACode.region [{ dst := some 3, op := AOp.mv (Opd.c (AV.p (PV.int IntKind.i64 (0)))), guard := none }]).seq (ACode.block 0 (ACode.loop none (((ACode.region [{ dst := some 5, op := AOp.mv (Opd.t 3), guard := none }, { dst := some 6, op := AOp.mv (Opd.t 0), guard := none }, { dst := some 7, op := AOp.len false (Opd.t 6), guard := none }, { dst := some 8, op := AOp.bin (Bin.plain BinOp.lss) (Opd.t 5) (Opd.t 7), guard := none }]).seq (ACode.cond (Opd.t 8) ACode.skip (ACode.exit 0))).seq ((ACode.block 1 ((ACode.region [{ dst := some 11, op := AOp.mv (Opd.t 0), guard := none }, { dst := some 12, op := AOp.mv (Opd.t 3), guard := none }, { dst := some 13, op := AOp.idx 4 (Opd.t 11) (Opd.t 12), guard := none }, { dst := some 14, op := AOp.load true 4 (Opd.t 13), guard := none }, { dst := some 15, op := AOp.call (Opd.c (AV.p (PV.fn 21))) [Opd.t 14], guard := none }, { dst := some 4, op := AOp.mv (Opd.t 15), guard := none }]).seq ((ACode.region [{ dst := some 16, op := AOp.mv (Opd.t 4), guard := none }, { dst := some 17, op := AOp.un UnOp.not (Opd.t 16), guard := none }]).seq (ACode.cond (Opd.t 17) ((ACode.region [{ dst := some 2, op := AOp.mv (Opd.c (AV.p (PV.bool false))), guard := none }]).seq ACode.ret) ACode.skip)))).seq (ACode.region [{ dst := some 9, op := AOp.mv (Opd.t 3), guard := none }, { dst := some 10, op := AOp.bin (Bin.plain BinOp.add) (Opd.t 9) (Opd.c (AV.p (PV.int IntKind.i64 (1)))), guard := none }, { dst := some 3, op := AOp.mv (Opd.t 10), guard := none }])))))).seq ((ACode.region [{ dst := some 2, op := AOp.mv (Opd.c (AV.p (PV.bool true))), guard := none }]).seq ACode.ret)) }
def body7 : ACode := (((ACode.region [{ dst := some 5, op := AOp.mv (Opd.t 3), guard := none }, { dst := some 6, op := AOp.mv (Opd.t 0), guard := none }, { dst := some 7, op := AOp.len false (Opd.t 6), guard := none }, { dst := some 8, op := AOp.bin (Bin.plain BinOp.lss) (Opd.t 5) (Opd.t 7), guard := none }]).seq (ACode.cond (Opd.t 8) ACode.skip (ACode.exit 0))).seq ((ACode.block 1 ((ACode.region [{ dst := some 11, op := AOp.mv (Opd.t 0), guard := none }, { dst := some 12, op := AOp.mv (Opd.t 3), guard := none }, { dst := some 13, op := AOp.idx 4 (Opd.t 11) (Opd.t 12), guard := none }, { dst := some 14, op := AOp.load true 4 (Opd.t 13), guard := none }, { dst := some 15, op := AOp.call (Opd.c (AV.p (PV.fn 21))) [Opd.t 14], guard := none }, { dst := some 4, op := AOp.mv (Opd.t 15), guard := none }]).seq ((ACode.region [{ dst := some 16, op := AOp.mv (Opd.t 4), guard := none }, { dst := some 17, op := AOp.un UnOp.not (Opd.t 16), guard := none }]).seq (ACode.cond (Opd.t 17) ((ACode.region [{ dst := some 2, op := AOp.mv (Opd.c (AV.p (PV.bool false))), guard := none }]).seq ACode.ret) ACode.skip)))).seq (ACode.region [{ dst := some 9, op := AOp.mv (Opd.t 3), guard := none }, { dst := some 10, op := AOp.bin (Bin.plain BinOp.add) (Opd.t 9) (Opd.c (AV.p (PV.int IntKind.i64 (1)))), guard := none }, { dst := some 3, op := AOp.mv (Opd.t 10), guard := none }])))
theorem lit7_eq : lit7.body = (ACode.region [{ dst := some 2, op := AOp.mv (Opd.c (AV.p (PV.bool false))), guard := none }]).seq (((ACode.region [{ dst := some 3, op := AOp.mv (Opd.c (AV.p (PV.int IntKind.i64 (0)))), guard := none }]).seq (ACode.block 0 (ACode.loop none body7))).seq ((ACode.region [{ dst := some 2, op := AOp.mv (Opd.c (AV.p (PV.bool true))), guard := none }]).seq ACode.ret)) := rfl
theorem raws_right : ∀ (l : List Raw), l.all Raw.right = true → ∃ x : List V, raws l = vcs x ∧ x.length = l.length ∧ ∀ s, V.text s ∈ x → ∃ r ∈ l, r.s = s
  | [], _ => ⟨[], rfl, rfl, fun s h => by simp at h⟩
  | r :: l, h => by
    simp only [List.all_cons, Bool.and_eq_true] at h
    obtain ⟨x, h1, h2, h3⟩ := raws_right l h.2
    obtain ⟨v, hv⟩ := right_v h.1
    refine ⟨v :: x, ?_, by simp [h2], fun s hs => ?_⟩
    · simp only [raws, vcs, List.map_cons, List.flatten_cons] at *
      rw [h1, Raw.cells, hv]
    · rcases List.mem_cons.1 hs with rfl | hs
      · refine ⟨r, List.mem_cons_self .., ?_⟩
        simp [vc] at hv
        exact hv.2.2.1
      · obtain ⟨q, hq, he⟩ := h3 s hs
        exact ⟨q, List.mem_cons_of_mem _ hq, he⟩
section
variable (C : Oracle) (L : Nat) (l : List Raw) (ρ : Env) (σ : Heap)
/-- the loop's state -/
structure At7 (ρ : Env) (i : Nat) : Prop where
  t0 : ρ.get 0 = some (.p (.vsl (raws l) l.length))
  t3 : ρ.get 3 = some (.p (.int .i64 (i : Int)))
theorem stop7 (h : At7 l ρ l.length) : ∃ ρ', exec C L body7 ⟨ρ, [], σ⟩ = some (.exit 0, ⟨ρ', [], σ⟩) :=
  ⟨_, by simp [body7, exec, runOps, wantedA, stepOp, pureOp, allocOp, readOp, effOp, ev, evs, evO, Env.get_cons, putE, binA, intBin, unA, AV.fit, AV.toCells, partC, partP, mkCells, allP, mkAgg, Cells.len, target, lenA, h.t0, h.t3]; rfl⟩
theorem go7 (i : Nat) (r : Raw) (hr : l[i]? = some r) (hm : l.length ≤ 9223372036854775807) (h : At7 l ρ i) (hC : ∀ σ, C 21 [.p (.agg r.cells)] σ = some (.ret (.p (.bool r.right)), σ)) (ht : r.right = true) :
    ∃ ρ', exec C L body7 ⟨ρ, [], σ⟩ = some (.normal, ⟨ρ', [], σ⟩) ∧ At7 l ρ' (i + 1) := by
  have hi : i < l.length := (List.getElem?_eq_some_iff.1 hr).1
  have hi' : (i : Int) < (l.length : Int) := by omega
  have d1 : ((raws l).drop (i * 4)).take 4 = r.cells := flat_at Raw.cells (fun _ => rfl) l i r hr
  have d2 : 4 ≤ (raws l).length - i * 4 := by rw [raws_len]; omega
  have e1 : IntKind.i64.wrap ((i : Int) + 1) = (i : Int) + 1 := wrap_id _ (by omega) (by omega)
  exact ⟨_, by simp [body7, exec, runOps, wantedA, stepOp, pureOp, allocOp, readOp, effOp, ev, evs, evO, Env.get_cons, putE, binA, intBin, unA, AV.fit, AV.toCells, partC, partP, mkCells, allP, mkAgg, Cells.len, target, evParts, fillA, AV.cells, splice, spliceC, finA, leaveA, resA, resV, ansV, lenA, idxA, h.t0, h.t3, hi, hi', d1, d2, e1, hC, ht]; rfl, ⟨by simp [Env.get_cons, h.t0], by simp [Env.get_cons]⟩⟩
theorem bad7 (i : Nat) (r : Raw) (hr : l[i]? = some r) (h : At7 l ρ i) (hC : ∀ σ, C 21 [.p (.agg r.cells)] σ = some (.ret (.p (.bool r.right)), σ)) (ht : r.right = false) :
    ∃ ρ', exec C L body7 ⟨ρ, [], σ⟩ = some (.ret, ⟨ρ', [], σ⟩) ∧ ρ'.get 2 = some (.p (.bool false)) := by
  have hi : i < l.length := (List.getElem?_eq_some_iff.1 hr).1
  have hi' : (i : Int) < (l.length : Int) := by omega
  have d1 : ((raws l).drop (i * 4)).take 4 = r.cells := flat_at Raw.cells (fun _ => rfl) l i r hr
  have d2 : 4 ≤ (raws l).length - i * 4 := by rw [raws_len]; omega
  exact ⟨_, by simp [body7, exec, runOps, wantedA, stepOp, pureOp, allocOp, readOp, effOp, ev, evs, evO, Env.get_cons, putE, binA, intBin, unA, AV.fit, AV.toCells, partC, partP, mkCells, allP, mkAgg, Cells.len, target, evParts, fillA, AV.cells, splice, spliceC, finA, leaveA, resA, resV, ansV, lenA, idxA, h.t0, h.t3, hi, hi', d1, d2, hC, ht]; rfl, by simp [Env.get_cons]⟩
theorem loop7 (hm : l.length ≤ 9223372036854775807) (hC : ∀ r ∈ l, ∀ σ, C 21 [.p (.agg r.cells)] σ = some (.ret (.p (.bool r.right)), σ)) : ∀ (d i f : Nat) (ρ : Env), i + d = l.length → d < f → At7 l ρ i →
    ∃ ex ρ', iter (exec C L body7) none f ⟨ρ, [], σ⟩ = some (ex, ⟨ρ', [], σ⟩) ∧ (((l.drop i).all Raw.right = true ∧ ex = .exit 0) ∨ ((l.drop i).all Raw.right = false ∧ ex = .ret ∧ ρ'.get 2 = some (.p (.bool false))))
  | 0, i, f, ρ, hd, hf, h => by
    obtain ⟨f, rfl⟩ : ∃ m, f = m + 1 := ⟨f - 1, by omega⟩
    obtain rfl : i = l.length := by omega
    obtain ⟨ρ', e⟩ := stop7 C L l ρ σ h
    exact ⟨.exit 0, ρ', by simp only [iter, St.keep, e], .inl ⟨by simp, rfl⟩⟩
  | d + 1, i, f, ρ, hd, hf, h => by
    obtain ⟨f, rfl⟩ : ∃ m, f = m + 1 := ⟨f - 1, by omega⟩
    have hi : i < l.length := by omega
    have hc := hC l[i] (List.getElem_mem hi)
    have hdr : l.drop i = l[i] :: l.drop (i + 1) := List.drop_eq_getElem_cons hi
    rw [hdr, List.all_cons]
    cases ht : l[i].right with
    | true =>
      obtain ⟨ρ1, e, h1⟩ := go7 C L l ρ σ i l[i] (List.getElem?_eq_getElem hi) hm h hc ht
      obtain ⟨ex, ρ', e', q⟩ := loop7 hm hC d (i + 1) f ρ1 (by omega) (by omega) h1
      exact ⟨ex, ρ', by simp only [iter, St.keep, e]; exact e', by simpa using q⟩
    | false =>
      obtain ⟨ρ1, e, g⟩ := bad7 C L l ρ σ i l[i] (List.getElem?_eq_getElem hi) h hc ht
      exact ⟨.ret, ρ1, by simp only [iter, St.keep, e], .inr ⟨by simp, rfl, g⟩⟩
end
section
variable (L n : Nat)
theorem q7 : TC 7 = some (.code lit7 false) := by kernel_rfl
theorem rights7 (l : List Raw) (hL : l.length < L) (hm : l.length ≤ 9223372036854775807) (σ : Heap) : (cAt TC L (n + 2)).1 7 [.p (.vsl (raws l) l.length)] σ = some (.ret (.p (.bool (l.all Raw.right))), σ) := by
  refine call_ans (ps := [.vsl (raws l) l.length]) (n := n + 1) q7 rfl ?_ σ
  have hC : ∀ r ∈ l, ∀ σ, (cAt TC L (n + 1)).1 21 [.p (.agg r.cells)] σ = some (.ret (.p (.bool r.right)), σ) := fun r _ σ => right21 L n r.k r.n r.s r.b σ
  generalize (cAt TC L (n + 1)).1 = C at *
  generalize (cAt TC L (n + 1)).2 = D
  obtain ⟨ex, ρ', e, q⟩ := loop7 C L l [] hm hC l.length 0 L [(3, .p (.int .i64 0)), (2, .p (.bool false)), (0, .p (.vsl (raws l) l.length))] (by omega) hL ⟨rfl, rfl⟩
  rw [List.drop_zero] at q
  rw [runFunc_eq, lit7_eq]
  rw [seqN (a := .region _) (by simp [params, exec, runOps, wantedA, stepOp, pureOp, allocOp, readOp, effOp, ev, evs, evO, Env.get_cons, putE, binA, intBin, unA, AV.fit, AV.toCells, partC, partP, mkCells, allP, mkAgg, Cells.len, target]; rfl)]
  have e0 : exec C L (.region [{ dst := some 3, op := AOp.mv (Opd.c (AV.p (PV.int IntKind.i64 (0)))), guard := none }]) ⟨[(2, .p (.bool false)), (0, .p (.vsl (raws l) l.length))], [], []⟩ = some (.normal, ⟨[(3, .p (.int .i64 0)), (2, .p (.bool false)), (0, .p (.vsl (raws l) l.length))], [], []⟩) := rfl
  rcases q with ⟨hq, rfl⟩ | ⟨hq, rfl, g⟩
  · rw [hq]
    have e3 : exec C L (.seq (.region [{ dst := some 3, op := AOp.mv (Opd.c (AV.p (PV.int IntKind.i64 (0)))), guard := none }]) (.block 0 (.loop none body7))) ⟨[(2, .p (.bool false)), (0, .p (.vsl (raws l) l.length))], [], []⟩ = some (.normal, ⟨ρ', [], []⟩) := by
      rw [seqN e0]
      simp only [exec, e, if_true]
    rw [seqN e3]
    simp [lit7, exec, runOps, wantedA, stepOp, pureOp, allocOp, readOp, effOp, ev, evs, evO, Env.get_cons, putE, binA, intBin, unA, AV.fit, AV.toCells, partC, partP, mkCells, allP, mkAgg, Cells.len, target, evParts, fillA, AV.cells, splice, spliceC, finA, leaveA, resA, resV, ansV, finX]
  · rw [hq]
    have e3 : exec C L (.seq (.region [{ dst := some 3, op := AOp.mv (Opd.c (AV.p (PV.int IntKind.i64 (0)))), guard := none }]) (.block 0 (.loop none body7))) ⟨[(2, .p (.bool false)), (0, .p (.vsl (raws l) l.length))], [], []⟩ = some (.ret, ⟨ρ', [], []⟩) := by
      rw [seqN e0]
      simp only [exec, e]
    rw [seqR e3]
    simp [lit7, finX, finA, leaveA, resA, resV, ansV, g]
end
end Go.Ab.Cnt
