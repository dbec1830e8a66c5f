/- EvalCounts: slices.IndexFunc. -/
import Derived.Test.YtcafoohjffcaeaaGreatDoorAbV4
set_option linter.unusedSectionVars false
set_option linter.unusedSimpArgs false
set_option linter.unusedVariables false
set_option maxRecDepth 1000000
namespace Go.Ab.Cnt
open Go Go.Ab Go.Ab.Key Go.Proofs
variable [Marks]
def lit27 : AFunc := { ntmps := 6, results := [ARes.tmp 2], body := (ACode.region [{ dst := some 1, op := AOp.box 4 (Opd.t 0), guard := none }, { dst := some 2, op := AOp.mv (Opd.c (AV.p (PV.bool false))), guard := none }]).seq ((ACode.region [{ dst := some 3, op := AOp.fieldAddr 0 (Opd.t 1), guard := none }, { dst := some 4, op := AOp.load false 1 (Opd.t 3), guard := none }, { dst := some 5, op := AOp.bin (Bin.plain BinOp.eql) (Opd.t 4) (Opd.c (AV.p (PV.int IntKind.i64 (0)))), guard := none }, { dst := some 2, op := AOp.mv (Opd.t 5), guard := none }]).seq ACode.ret) }
def lit23 : AFunc := { ntmps := 8, results := [ARes.tmp 3], body := (ACode.region [{ dst := some 2, op := AOp.box 4 (Opd.t 0), guard := none }, { dst := some 3, op := AOp.mv (Opd.c (AV.p (PV.bool false))), guard := none }]).seq ((ACode.region [{ dst := some 4, op := AOp.load true 4 (Opd.t 2), guard := none }, { dst := some 5, op := AOp.load true 4 (Opd.t 1), guard := none }, { dst := some 6, op := AOp.call (Opd.c (AV.p (PV.fn 24))) [Opd.t 4, Opd.t 5], guard := none }, { dst := some 7, op := AOp.bin (Bin.plain BinOp.eql) (Opd.t 6) (Opd.c (AV.p (PV.int IntKind.i64 (0)))), guard := none }, { dst := some 3, op := AOp.mv (Opd.t 7), guard := none }]).seq ACode.ret) }
def lit40 : AFunc := { ntmps := 19, results := [ARes.tmp 4], body := (ACode.region [{ dst := some 4, op := AOp.mv (Opd.c (AV.p (PV.int IntKind.i64 (0)))), guard := none }]).seq (((ACode.region [{ dst := some 6, op := AOp.mv (Opd.t 0), guard := none }, { dst := some 7, op := AOp.len false (Opd.t 6), guard := none }, { dst := some 8, op := AOp.mv (Opd.c (AV.p (PV.int IntKind.i64 (0)))), guard := none }]).seq (ACode.block 0 (ACode.loop none ((ACode.region [{ dst := some 9, op := AOp.bin (Bin.plain BinOp.lss) (Opd.t 8) (Opd.t 7), guard := none }]).seq ((ACode.cond (Opd.t 9) ACode.skip (ACode.exit 0)).seq ((ACode.block 1 ((ACode.region [{ dst := some 10, op := AOp.mv (Opd.t 8), guard := none }, { dst := some 5, op := AOp.mv (Opd.t 10), guard := none }]).seq ((ACode.region [{ dst := some 11, op := AOp.mv (Opd.t 1), guard := none }, { dst := some 12, op := AOp.mv (Opd.t 0), guard := none }, { dst := some 13, op := AOp.mv (Opd.t 5), guard := none }, { dst := some 14, op := AOp.idx 4 (Opd.t 12) (Opd.t 13), guard := none }, { dst := some 15, op := AOp.load true 4 (Opd.t 14), guard := none }, { dst := some 16, op := AOp.call (Opd.t 11) [Opd.t 15], guard := none }]).seq (ACode.cond (Opd.t 16) ((ACode.region [{ dst := some 17, op := AOp.mv (Opd.t 5), guard := none }, { dst := some 4, op := AOp.mv (Opd.t 17), guard := none }]).seq ACode.ret) ACode.skip)))).seq (ACode.region [{ dst := some 18, op := AOp.bin (Bin.plain BinOp.add) (Opd.t 8) (Opd.c (AV.p (PV.int IntKind.i64 (1)))), guard := none }, { dst := some 8, op := AOp.mv (Opd.t 18), guard := none }]))))))).seq ((ACode.region [{ dst := some 4, op := AOp.mv (Opd.c (AV.p (PV.int IntKind.i64 ((-1))))), guard := none }]).seq ACode.ret)) }
def body40 : ACode := ((ACode.region [{ dst := some 9, op := AOp.bin (Bin.plain BinOp.lss) (Opd.t 8) (Opd.t 7), guard := none }]).seq ((ACode.cond (Opd.t 9) ACode.skip (ACode.exit 0)).seq ((ACode.block 1 ((ACode.region [{ dst := some 10, op := AOp.mv (Opd.t 8), guard := none }, { dst := some 5, op := AOp.mv (Opd.t 10), guard := none }]).seq ((ACode.region [{ dst := some 11, op := AOp.mv (Opd.t 1), guard := none }, { dst := some 12, op := AOp.mv (Opd.t 0), guard := none }, { dst := some 13, op := AOp.mv (Opd.t 5), guard := none }, { dst := some 14, op := AOp.idx 4 (Opd.t 12) (Opd.t 13), guard := none }, { dst := some 15, op := AOp.load true 4 (Opd.t 14), guard := none }, { dst := some 16, op := AOp.call (Opd.t 11) [Opd.t 15], guard := none }]).seq (ACode.cond (Opd.t 16) ((ACode.region [{ dst := some 17, op := AOp.mv (Opd.t 5), guard := none }, { dst := some 4, op := AOp.mv (Opd.t 17), guard := none }]).seq ACode.ret) ACode.skip)))).seq (ACode.region [{ dst := some 18, op := AOp.bin (Bin.plain BinOp.add) (Opd.t 8) (Opd.c (AV.p (PV.int IntKind.i64 (1)))), guard := none }, { dst := some 8, op := AOp.mv (Opd.t 18), guard := none }]))))
theorem lit40_eq : lit40.body = (ACode.region [{ dst := some 4, op := AOp.mv (Opd.c (AV.p (PV.int IntKind.i64 (0)))), guard := none }]).seq (((ACode.region [{ dst := some 6, op := AOp.mv (Opd.t 0), guard := none }, { dst := some 7, op := AOp.len false (Opd.t 6), guard := none }, { dst := some 8, op := AOp.mv (Opd.c (AV.p (PV.int IntKind.i64 (0)))), guard := none }]).seq (ACode.block 0 (ACode.loop none body40))).seq ((ACode.region [{ dst := some 4, op := AOp.mv (Opd.c (AV.p (PV.int IntKind.i64 ((-1))))), guard := none }]).seq ACode.ret)) := rfl
/-- a slice of values, in the heap or frozen -/
def SlF (σ : Heap) (s : AV) (x : List V) : Prop := SlAt σ s x ∨ s = .p (.vsl (vcs x) x.length)
theorem SlF.len {σ : Heap} {v : AV} {x : List V} (h : SlF σ v x) : lenA v = some x.length := by
  rcases h with h | rfl
  · exact h.len
  · rfl
theorem SlF.str {σ : Heap} {v : AV} {x : List V} (h : SlF σ v x) : ∀ s, v ≠ .p (.str s) := by
  rcases h with h | rfl
  · exact h.str
  · intro s h
    cases h
/-- the first place where p holds, or -1 -/
def idxI (p : V → Bool) : List V → Nat → Int
  | [], _ => -1
  | v :: x, i => if p v then (i : Int) else idxI p x (i + 1)
section
variable (L n : Nat)
theorem q27 : TC 27 = some (.code lit27 true) := by kernel_rfl
theorem q23 : TC 23 = some (.code lit23 true) := by kernel_rfl
theorem q40 : TC 40 = some (.code lit40 false) := by kernel_rfl
def isNull : V → Bool
  | .null => true
  | _ => false
theorem null27 (v : V) (σ : Heap) : (cAt TC L (n + 1)).1 27 [.p (.agg (vc v))] σ = some (.ret (.p (.bool (isNull v))), σ) := by
  refine call_ans (ps := [.agg (vc v)]) (n := n) q27 (by kernel_rfl) ?_ σ
  cases v <;> simp [lit27, runFunc, params, exec, runOps, wantedA, stepOp, pureOp, allocOp, readOp, effOp, ev, evs, evO, Env.get_cons, putE, binA, intBin, unA, AV.fit, AV.toCells, partC, partP, mkCells, allP, mkAgg, Cells.len, target, evParts, fillA, AV.cells, splice, spliceC, finA, leaveA, resA, resV, ansV, vc, isNull]
end
section
variable (C : Oracle) (L : Nat) (p : V → Bool) (x : List V) (s fv : AV) (ρ : Env) (σ : Heap)
/-- the loop's state -/
structure At40 (ρ : Env) (i : Nat) : Prop where
  t0 : ρ.get 0 = some s
  t1 : ρ.get 1 = some fv
  t7 : ρ.get 7 = some (.p (.int .i64 (x.length : Int)))
  t8 : ρ.get 8 = some (.p (.int .i64 (i : Int)))
/-- what a call of the function says -/
def Says (C : Oracle) (σ : Heap) (fv : AV) (p : V → Bool) (x : List V) : Prop := ∀ v ∈ x, ∃ f xs, target fv [.p (.agg (vc v))] = some (f, xs) ∧ C f xs σ = some (.ret (.p (.bool (p v))), σ)
theorem stop40 (h : At40 x s fv ρ x.length) : ∃ ρ', exec C L body40 ⟨ρ, [], σ⟩ = some (.exit 0, ⟨ρ', [], σ⟩) :=
  ⟨_, by simp [body40, exec, runOps, wantedA, stepOp, pureOp, allocOp, readOp, effOp, ev, evs, evO, Env.get_cons, putE, binA, intBin, unA, AV.fit, AV.toCells, partC, partP, mkCells, allP, mkAgg, Cells.len, target, h.t7, h.t8]; rfl⟩
theorem go40 (i : Nat) (v : V) (hv : x[i]? = some v) (hm : x.length ≤ 9223372036854775807) (hs : SlF σ s x) (hC : Says C σ fv p x) (h : At40 x s fv ρ i) (hp : p v = false) :
    ∃ ρ', exec C L body40 ⟨ρ, [], σ⟩ = some (.normal, ⟨ρ', [], σ⟩) ∧ At40 x s fv ρ' (i + 1) := by
  have hi : i < x.length := (List.getElem?_eq_some_iff.1 hv).1
  have hi' : (i : Int) < (x.length : Int) := by omega
  have d1 := flat_v x i _ hv
  have hl := vcs_len x
  have e1 : IntKind.i64.wrap ((i : Int) + 1) = (i : Int) + 1 := wrap_id _ (by omega) (by omega)
  obtain ⟨f, xs, ht, hc⟩ := hC v (List.mem_of_getElem? hv)
  rw [hp] at hc
  have t0 := h.t0
  rcases hs with (⟨_, rfl⟩ | ⟨id, ver, wm, rest, ty, rfl, ho⟩) | rfl
  · simp at hi
  · have d2 : ((vcs x ++ rest).drop (i * 4)).take 4 = vc v := by
      rw [List.drop_append_of_le_length (by omega), List.take_append_of_le_length (by rw [List.length_drop]; omega), d1]
    have d3 : i * 4 + 4 ≤ (vcs x).length + rest.length := by omega
    exact ⟨_, by simp [body40, exec, runOps, wantedA, stepOp, pureOp, allocOp, readOp, effOp, ev, evs, evO, Env.get_cons, putE, binA, intBin, unA, AV.fit, AV.toCells, partC, partP, mkCells, allP, mkAgg, Cells.len, lenA, idxA, t0, h.t1, h.t7, h.t8, hi', hi, ho, d2, d3, ht, hc, e1]; rfl, ⟨by simp [Env.get_cons, t0], by simp [Env.get_cons, h.t1], by simp [Env.get_cons, h.t7], by simp [Env.get_cons]⟩⟩
  · have d3 : 4 ≤ (vcs x).length - i * 4 := by omega
    exact ⟨_, by simp [body40, exec, runOps, wantedA, stepOp, pureOp, allocOp, readOp, effOp, ev, evs, evO, Env.get_cons, putE, binA, intBin, unA, AV.fit, AV.toCells, partC, partP, mkCells, allP, mkAgg, Cells.len, lenA, idxA, t0, h.t1, h.t7, h.t8, hi', hi, d1, d3, ht, hc, e1]; rfl, ⟨by simp [Env.get_cons, t0], by simp [Env.get_cons, h.t1], by simp [Env.get_cons, h.t7], by simp [Env.get_cons]⟩⟩
theorem hit40 (i : Nat) (v : V) (hv : x[i]? = some v) (hs : SlF σ s x) (hC : Says C σ fv p x) (h : At40 x s fv ρ i) (hp : p v = true) :
    ∃ ρ', exec C L body40 ⟨ρ, [], σ⟩ = some (.ret, ⟨ρ', [], σ⟩) ∧ ρ'.get 4 = some (.p (.int .i64 (i : Int))) := by
  have hi : i < x.length := (List.getElem?_eq_some_iff.1 hv).1
  have hi' : (i : Int) < (x.length : Int) := by omega
  have d1 := flat_v x i _ hv
  have hl := vcs_len x
  obtain ⟨f, xs, ht, hc⟩ := hC v (List.mem_of_getElem? hv)
  rw [hp] at hc
  have t0 := h.t0
  rcases hs with (⟨_, rfl⟩ | ⟨id, ver, wm, rest, ty, rfl, ho⟩) | rfl
  · simp at hi
  · have d2 : ((vcs x ++ rest).drop (i * 4)).take 4 = vc v := by
      rw [List.drop_append_of_le_length (by omega), List.take_append_of_le_length (by rw [List.length_drop]; omega), d1]
    have d3 : i * 4 + 4 ≤ (vcs x).length + rest.length := by omega
    exact ⟨_, by simp [body40, exec, runOps, wantedA, stepOp, pureOp, allocOp, readOp, effOp, ev, evs, evO, Env.get_cons, putE, binA, intBin, unA, AV.fit, AV.toCells, partC, partP, mkCells, allP, mkAgg, Cells.len, lenA, idxA, t0, h.t1, h.t7, h.t8, hi', hi, ho, d2, d3, ht, hc]; rfl, by simp [Env.get_cons]⟩
  · have d3 : 4 ≤ (vcs x).length - i * 4 := by omega
    exact ⟨_, by simp [body40, exec, runOps, wantedA, stepOp, pureOp, allocOp, readOp, effOp, ev, evs, evO, Env.get_cons, putE, binA, intBin, unA, AV.fit, AV.toCells, partC, partP, mkCells, allP, mkAgg, Cells.len, lenA, idxA, t0, h.t1, h.t7, h.t8, hi', hi, d1, d3, ht, hc]; rfl, by simp [Env.get_cons]⟩
theorem loop40 (hm : x.length ≤ 9223372036854775807) (hs : SlF σ s x) (hC : Says C σ fv p x) : ∀ (d i f : Nat) (ρ : Env), i + d = x.length → d < f → At40 x s fv ρ i →
    ∃ ex ρ', iter (exec C L body40) none f ⟨ρ, [], σ⟩ = some (ex, ⟨ρ', [], σ⟩) ∧ ((ex = .exit 0 ∧ idxI p (x.drop i) i = -1) ∨ (ex = .ret ∧ ρ'.get 4 = some (.p (.int .i64 (idxI p (x.drop i) i)))))
  | 0, i, f, ρ, hd, hf, h => by
    obtain ⟨f, rfl⟩ : ∃ m, f = m + 1 := ⟨f - 1, by omega⟩
    obtain rfl : i = x.length := by omega
    obtain ⟨ρ', e⟩ := stop40 C L x s fv ρ σ h
    exact ⟨.exit 0, ρ', by simp only [iter, St.keep, e], .inl ⟨rfl, by simp [idxI]⟩⟩
  | d + 1, i, f, ρ, hd, hf, h => by
    obtain ⟨f, rfl⟩ : ∃ m, f = m + 1 := ⟨f - 1, by omega⟩
    have hi : i < x.length := by omega
    have hdr : x.drop i = x[i] :: x.drop (i + 1) := List.drop_eq_getElem_cons hi
    rw [hdr]
    cases hp : p x[i] with
    | false =>
      obtain ⟨ρ1, e, h1⟩ := go40 C L p x s fv ρ σ i x[i] (List.getElem?_eq_getElem hi) hm hs hC h hp
      obtain ⟨ex, ρ', e', q⟩ := loop40 hm hs hC d (i + 1) f ρ1 (by omega) (by omega) h1
      exact ⟨ex, ρ', by simp only [iter, St.keep, e]; exact e', by simpa [idxI, hp] using q⟩
    | true =>
      obtain ⟨ρ1, e, g⟩ := hit40 C L p x s fv ρ σ i x[i] (List.getElem?_eq_getElem hi) hs hC h hp
      exact ⟨.ret, ρ1, by simp only [iter, St.keep, e], .inr ⟨rfl, by simpa [idxI, hp] using g⟩⟩
end
end Go.Ab.Cnt

/- EvalCounts: calls that leave the heap as it was. -/
set_option maxRecDepth 1000000
namespace Go.Ab.Cnt
open Go Go.Ab Go.Ab.Key Go.Proofs
variable [Marks]
theorem run40 (C : Oracle) (D : DOracle) (L : Nat) (p : V → Bool) (x : List V) (s fv : AV) (σ : Heap) (hm : x.length ≤ 9223372036854775807) (hL : x.length < L) (hs : SlF σ s x) (hC : Says C σ fv p x) :
    runFunc C D L lit40 [s, fv] σ = some (.ret (.p (.int .i64 (idxI p x 0))), σ) := by
  have hlen := hs.len
  have rl := fun (d k : Nat) (r : List AOper) (ρ : Env) (σ : Heap) => run_len (C := C) (d := d) (k := k) (g := none) (r := r) (ρ := ρ) (σ := σ) hlen hs.str rfl
  obtain ⟨ex, ρ', e, q⟩ := loop40 C L p x s fv σ hm hs hC x.length 0 L [(8, .p (.int .i64 0)), (7, .p (.int .i64 (x.length : Int))), (6, s), (4, .p (.int .i64 0)), (0, s), (1, fv)] (by omega) hL ⟨rfl, rfl, rfl, rfl⟩
  rw [List.drop_zero] at q
  rw [runFunc_eq, lit40_eq]
  rw [seqN (a := .region _) (by simp [params, exec, runOps, wantedA, stepOp, pureOp, allocOp, readOp, effOp, ev, evs, evO, Env.get_cons, putE, binA, intBin, unA, AV.fit, AV.toCells, partC, partP, mkCells, allP, mkAgg, Cells.len, target]; rfl)]
  have e0 : exec C L (.region [{ dst := some 6, op := AOp.mv (Opd.t 0), guard := none }, { dst := some 7, op := AOp.len false (Opd.t 6), guard := none }, { dst := some 8, op := AOp.mv (Opd.c (AV.p (PV.int IntKind.i64 (0)))), guard := none }]) ⟨[(4, .p (.int .i64 0)), (0, s), (1, fv)], [], σ⟩ = some (.normal, ⟨[(8, .p (.int .i64 0)), (7, .p (.int .i64 (x.length : Int))), (6, s), (4, .p (.int .i64 0)), (0, s), (1, fv)], [], σ⟩) := by
    simp [exec, runOps, wantedA, stepOp, pureOp, allocOp, readOp, effOp, ev, evs, evO, Env.get_cons, putE, binA, intBin, unA, AV.fit, AV.toCells, partC, partP, mkCells, allP, mkAgg, Cells.len, target, ↓rl]
  rcases q with ⟨rfl, hq⟩ | ⟨rfl, g⟩
  · rw [hq]
    have e3 : exec C L (.seq (.region [{ dst := some 6, op := AOp.mv (Opd.t 0), guard := none }, { dst := some 7, op := AOp.len false (Opd.t 6), guard := none }, { dst := some 8, op := AOp.mv (Opd.c (AV.p (PV.int IntKind.i64 (0)))), guard := none }]) (.block 0 (.loop none body40))) ⟨[(4, .p (.int .i64 0)), (0, s), (1, fv)], [], σ⟩ = some (.normal, ⟨ρ', [], σ⟩) := by
      rw [seqN e0]
      simp only [exec, e, if_true]
    refine (congrArg (fun z => finX D lit40 z) (seqN e3)).trans ?_
    simp [lit40, exec, runOps, wantedA, stepOp, pureOp, allocOp, readOp, effOp, ev, evs, evO, Env.get_cons, putE, binA, intBin, unA, AV.fit, AV.toCells, partC, partP, mkCells, allP, mkAgg, Cells.len, target, evParts, fillA, AV.cells, splice, spliceC, finA, leaveA, resA, resV, ansV, finX]
  · have e3 : exec C L (.seq (.region [{ dst := some 6, op := AOp.mv (Opd.t 0), guard := none }, { dst := some 7, op := AOp.len false (Opd.t 6), guard := none }, { dst := some 8, op := AOp.mv (Opd.c (AV.p (PV.int IntKind.i64 (0)))), guard := none }]) (.block 0 (.loop none body40))) ⟨[(4, .p (.int .i64 0)), (0, s), (1, fv)], [], σ⟩ = some (.ret, ⟨ρ', [], σ⟩) := by
      rw [seqN e0]
      simp only [exec, e]
    refine (congrArg (fun z => finX D lit40 z) (seqR e3)).trans ?_
    simp [lit40, finX, finA, leaveA, resA, resV, g]
/-- a call that is handed one object, of plain cells, and leaves it as it was -/
theorem wrap_keep {g : List AV → Heap → Option (CRes × Heap)} {xs as0 : List AV} {σ : Heap} {id ver wm : Nat} {c : List PV} {ty : Option Nat} {r : CRes} (h : g as0 [.arr (.pv c) 0 wm ty] = some (r, [.arr (.pv c) 0 wm ty])) (hr : PureR r)
    (ho : σ[id]? = some (.arr (.pv c) ver wm ty)) (hids : idsL xs = [id]) (hren : renL (fwd [(id, ver)]) xs = as0) : wrapF g false xs σ = some (r, σ) := by
  have hid : id < σ.length := (List.getElem?_eq_some_iff.1 ho).1
  have ht : touch σ xs = [id] := by simp [touch, collect, hids, ho, idsO]
  have hout : outL 1 r [.arr (.pv c) 0 wm ty] = [(0, 0)] := by
    simp [outL, keepK, hr.ids, collect, listOf, idsO, Nat.blt, Nat.ble]
  have hlo : listOf σ [id] = [(id, ver)] := by simp [listOf, versO, ho, Obj.ver]
  have hsh : shrinkH [(id, ver)] σ = [.arr (.pv c) 0 wm ty] := by simp [shrinkH, ho, shO, renC]
  have hsh2 : shrinkH [(0, 0)] [.arr (.pv c) 0 wm ty] = [.arr (.pv c) 0 wm ty] := by simp [shrinkH, shO, renC]
  have h1 : (uniq [(id, ver)] && inOK [(id, ver)] σ.length) = true := by simp [uniq, posOf, inOK, hid]
  have h4 : (uniq [(0, 0)] && backOK [(id, ver)] [Obj.arr (.pv c) 0 wm ty]) = true := rfl
  have hm : mergeH [(id, ver)] σ [Obj.arr (.pv c) 0 wm ty] = σ := by
    have hs : σ.set id (.arr (.pv c) ver wm ty) = σ := by
      apply List.ext_getElem?
      intro j
      by_cases hj : id = j
      · subst hj
        rw [List.getElem?_set_self hid, ho]
      · rw [List.getElem?_set_ne hj]
    simp [mergeH, putBack, bkO, renC, hs]
  unfold wrapF
  simp only [ht]
  have hall : ([id].all fun x => [id].contains x) = true := by simp
  simp only [hall]
  unfold innerW
  simp only [hlo, h1, hren, hsh, h, List.length_cons, List.length_nil, Nat.zero_add, hout, hsh2, h4, hr.ren, hm]
section
variable (L n : Nat)
/-- IndexFunc of a slice in the heap and a function that is one of the program's -/
theorem index_null (x : List V) (hm : x.length ≤ 9223372036854775807) (hL : x.length < L) {s : AV} {σ : Heap} (hs : SlAt σ s x) :
    (cAt TC L (n + 2)).1 40 [s, .p (.fn 27)] σ = some (.ret (.p (.int .i64 (idxI isNull x 0))), σ) := by
  have hC : ∀ σ, Says (cAt TC L (n + 1)).1 σ (.p (.fn 27)) isNull x := fun σ v _ => ⟨27, _, rfl, null27 L n v σ⟩
  rw [show cAt TC L (n + 2) = (callT TC (cAt TC L (n + 1)).1 (cAt TC L (n + 1)).2 L, defT TC (cAt TC L (n + 1)).1 L) from rfl]
  simp only [callT, q40]
  generalize (cAt TC L (n + 1)).1 = C at *
  generalize (cAt TC L (n + 1)).2 = D
  have hf : ∀ s : AV, fits lit40 [s, .p (.fn 27)] = true := fun _ => rfl
  rcases hs with ⟨rfl, rfl⟩ | ⟨id, ver, wm, rest, ty, rfl, ho⟩
  · have hr := run40 C D L isNull [] .nil0 (.p (.fn 27)) [] hm hL (.inl (.inl ⟨rfl, rfl⟩)) (hC _)
    have hi : innerW (runCode C D L lit40) [.nil0, .p (.fn 27)] σ [] = some (.ret (.p (.int .i64 (idxI isNull [] 0))), σ) := by
      unfold innerW
      have h1 : (uniq [] && inOK [] σ.length) = true := rfl
      have h2 : shrinkH [] σ = [] := rfl
      have h3 : renL (fwd []) [.nil0, .p (.fn 27)] = [.nil0, .p (.fn 27)] := rfl
      simp only [h1, h2, h3, runCode, hf, hr]
      have h4 : outL ([] : List (Nat × Nat)).length (.ret (.p (.int .i64 (idxI isNull [] 0)))) [] = [] := rfl
      simp only [h4]
      have h5 : (uniq [] && backOK [] (shrinkH [] [])) = true := rfl
      simp only [h5, renR, renV]
      simp [mergeH, putBack, shrinkH]
    exact hi
  · have hr := run40 C D L isNull x (.sl 0 0 0 x.length 4) (.p (.fn 27)) [.arr (.pv (vcs x ++ rest)) 0 wm ty] hm hL (.inl (.inr ⟨0, 0, wm, rest, ty, rfl, rfl⟩)) (hC _)
    have hb : Nat.beq id id = true := Nat.beq_refl id
    exact wrap_keep (as0 := [.sl 0 0 0 x.length 4, .p (.fn 27)]) (by simp only [runCode, hf]; exact hr) (.inl ⟨_, rfl⟩) ho rfl (by simp [renL, renV, fwd, posOf, hb])
end
end Go.Ab.Cnt
