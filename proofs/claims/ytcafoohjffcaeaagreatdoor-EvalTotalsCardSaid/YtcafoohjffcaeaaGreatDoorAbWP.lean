/- EvalTotals: a state that is not fine ends a sum: must, tried, what is deferred. -/
import Derived.Test.YtcafoohjffcaeaaGreatDoorAbWM
set_option linter.unusedSectionVars false
set_option linter.unusedSimpArgs false
set_option linter.unusedVariables false
set_option maxRecDepth 1000000
namespace Go.Ab.Cnt
open Go Go.Ab Go.Ab.Key Go.Proofs
variable [Marks]
def lit33 : AFunc := { ntmps := 10, results := [ARes.cell 4 true 4], body := (ACode.region [{ dst := some 2, op := AOp.box 4 (Opd.t 0), guard := none }, { dst := some 4, op := AOp.alloc 30 [AV.p (PV.int IntKind.i64 (0)), AV.p (PV.int IntKind.i64 (0)), AV.p (PV.str []), AV.p (PV.bool false)], guard := none }]).seq (((ACode.region [{ dst := some 5, op := AOp.mv (Opd.t 1), guard := none }, { dst := some 6, op := AOp.bin (Bin.plain BinOp.neq) (Opd.t 5) (Opd.c (AV.p (PV.str [48, 48, 48, 48, 48]))), guard := none }]).seq (ACode.cond (Opd.t 6) (ACode.region [{ dst := some 7, op := AOp.mv (Opd.t 1), guard := none }, { dst := some 8, op := AOp.mkIface 71 (Opd.t 7), guard := none }, { dst := none, op := AOp.panic (Opd.t 8), guard := none }]) ACode.skip)).seq ((ACode.region [{ dst := some 9, op := AOp.load true 4 (Opd.t 2), guard := none }, { dst := none, op := AOp.store 4 (Opd.t 4) (Opd.t 9), guard := none }]).seq ACode.ret)) }
def lit45r : RFunc := { ntmps := 19, dst := 6, moves := [(2, Opd.t 6)], body := ((ACode.region [{ dst := some 7, op := AOp.mv (Opd.t 2), guard := none }, { dst := some 8, op := AOp.bin (Bin.nil NilK.iface true) (Opd.t 7) (Opd.c (AV.p PV.nilif)), guard := none }]).seq (ACode.cond (Opd.t 8) ((ACode.region [{ dst := some 10, op := AOp.mv (Opd.t 2), guard := none }, { dst := some 11, op := AOp.assert 71 (AV.p (PV.str [])) true (Opd.t 10), guard := none }, { dst := some 9, op := AOp.mv (Opd.t 11), guard := none }, { dst := some 12, op := AOp.extract 0 (Opd.t 9), guard := none }, { dst := some 13, op := AOp.extract 1 (Opd.t 9), guard := none }, { dst := some 3, op := AOp.mv (Opd.t 12), guard := none }, { dst := some 4, op := AOp.mv (Opd.t 13), guard := none }]).seq (((ACode.region [{ dst := some 14, op := AOp.mv (Opd.t 4), guard := none }, { dst := some 15, op := AOp.un UnOp.not (Opd.t 14), guard := none }]).seq (ACode.cond (Opd.t 15) (ACode.region [{ dst := some 16, op := AOp.mv (Opd.t 2), guard := none }, { dst := none, op := AOp.panic (Opd.t 16), guard := none }]) ACode.skip)).seq ((ACode.region [{ dst := some 5, op := AOp.alloc 30 [AV.p (PV.int IntKind.i64 (0)), AV.p (PV.int IntKind.i64 (0)), AV.p (PV.str []), AV.p (PV.bool false)], guard := none }]).seq (ACode.region [{ dst := some 17, op := AOp.load true 4 (Opd.t 5), guard := none }, { dst := some 18, op := AOp.mv (Opd.t 3), guard := none }, { dst := none, op := AOp.store 4 (Opd.t 0) (Opd.t 17), guard := none }, { dst := none, op := AOp.store 1 (Opd.t 1) (Opd.t 18), guard := none }])))) ACode.skip)) }
def lit31 : AFunc := { ntmps := 7, results := [ARes.cell 2 true 4, ARes.cell 3 false 1], body := (ACode.region [{ dst := some 2, op := AOp.alloc 30 [AV.p (PV.int IntKind.i64 (0)), AV.p (PV.int IntKind.i64 (0)), AV.p (PV.str []), AV.p (PV.bool false)], guard := none }, { dst := some 3, op := AOp.alloc 31 [AV.p (PV.str [])], guard := none }]).seq ((ACode.region [{ dst := some 4, op := AOp.mkFunc 45 [] [Opd.t 2, Opd.t 3], guard := none }, { dst := none, op := AOp.defer (Opd.t 4) [], guard := none }]).seq ((ACode.region [{ dst := some 5, op := AOp.mv (Opd.t 0), guard := none }, { dst := some 6, op := AOp.call (Opd.t 5) [], guard := none }, { dst := none, op := AOp.store 4 (Opd.t 2) (Opd.t 6), guard := none }, { dst := none, op := AOp.store 1 (Opd.t 3) (Opd.c (AV.p (PV.str [48, 48, 48, 48, 48]))), guard := none }]).seq ACode.ret)) }
/-- a call of two plain arguments -/
theorem wrap_p2 {g : List AV → Heap → Option (CRes × Heap)} {a b : PV} {r : CRes} {σr : Heap} (h : g [.p a, .p b] [] = some (r, σr)) (hr : PureR r) (fz : Bool) (σ : Heap) :
    wrapF g fz [.p a, .p b] σ = some (r, σ) := by
  have ht : ∀ σ, touch σ [.p a, .p b] = [] := fun σ => rfl
  have hfz : ∀ tl σ, frzA tl 9 σ [.p a, .p b] = ([.p a, .p b], σ) := fun tl σ => rfl
  have hren : renL (fwd []) [.p a, .p b] = [.p a, .p b] := by simp [renL, renV]
  have hout : outL 0 r σr = [] := by simp [outL, keepK, hr.ids, collect, listOf]
  have hm : mergeH (listOf σ []) σ [] = σ := by simp [mergeH, putBack, listOf]
  have hall : (([] : List Nat).all fun x => ([] : List Nat).contains x) = true := rfl
  have h1 : (uniq (listOf σ []) && inOK (listOf σ []) σ.length) = true := rfl
  have h2 : shrinkH (listOf σ []) σ = [] := rfl
  have h3 : ∀ σ, shrinkH [] σ = [] := fun σ => rfl
  have h4 : (uniq [] && backOK (listOf σ []) []) = true := rfl
  have h5 : (listOf σ []).length = 0 := rfl
  have h6 : renL (fwd (listOf σ [])) [.p a, .p b] = [.p a, .p b] := hren
  unfold wrapF
  cases fz <;> simp only [hfz, ht, hall] <;> unfold innerW <;>
    (simp only [h1, h6, h2, h]; simp only [h5, hout, h3, h4, hr.ren, hm])
theorem four' (v : V) : ∃ x0 x1 x2 x3, vc v = [x0, x1, x2, x3] := by
  cases v <;> exact ⟨_, _, _, _, rfl⟩
theorem ne_self : strBin .neq [48, 48, 48, 48, 48] [48, 48, 48, 48, 48] = some (.bool false) := rfl
theorem ne_other {st : List UInt8} (h : st ≠ [48, 48, 48, 48, 48]) : strBin .neq st [48, 48, 48, 48, 48] = some (.bool true) := by
  simp [strBin, h]
section
variable (L n : Nat)
theorem q33 : TC 33 = some (.code lit33 true) := by kernel_rfl
theorem q31 : TC 31 = some (.code lit31 true) := by kernel_rfl
theorem q45 : TC 45 = some (.rcv lit45r) := by kernel_rfl
theorem must_ok (r : V) (σ : Heap) : (cAt TC L (n + 1)).1 33 [.p (.agg (vc r)), .p (.str [48, 48, 48, 48, 48])] σ = some (.ret (.p (.agg (vc r))), σ) := by
  refine call_ans (ps := [.agg (vc r), .str [48, 48, 48, 48, 48]]) (n := n) q33 rfl ?_ σ
  generalize (cAt TC L n).1 = C
  generalize (cAt TC L n).2 = D
  obtain ⟨z0, z1, z2, z3, hz⟩ := four' r
  rw [hz]
  simp [lit33, runFunc, params, exec, runOps, wantedA, stepOp, pureOp, allocOp, readOp, effOp, ev, evs, evO, Env.get_cons, putE, binA, intBin, unA, AV.fit, AV.toCells, partC, partP, mkCells, allP, mkAgg, Cells.len, target, evParts, fillA, AV.cells, splice, spliceC, finA, leaveA, resA, resV, ansV, ne_self]
theorem must_pan (r : V) (st : List UInt8) (h : st ≠ [48, 48, 48, 48, 48]) (σ : Heap) : (cAt TC L (n + 1)).1 33 [.p (.agg (vc r)), .p (.str st)] σ = some (.pan (.p (.iface 71 (.str st))), σ) := by
  rw [show cAt TC L (n + 1) = (callT TC (cAt TC L n).1 (cAt TC L n).2 L, defT TC (cAt TC L n).1 L) from rfl]
  simp only [callT, q33]
  generalize (cAt TC L n).1 = C
  generalize (cAt TC L n).2 = D
  have hf : fits lit33 [.p (.agg (vc r)), .p (.str st)] = true := rfl
  obtain ⟨z0, z1, z2, z3, hz⟩ := four' r
  have key : ∃ σr, runCode C D L lit33 [.p (.agg (vc r)), .p (.str st)] [] = some (.pan (.p (.iface 71 (.str st))), σr) := by
    simp only [runCode, hf]
    rw [hz]
    exact ⟨_, by simp [lit33, runFunc, params, exec, runOps, wantedA, stepOp, pureOp, allocOp, readOp, effOp, ev, evs, evO, Env.get_cons, putE, binA, intBin, unA, AV.fit, AV.toCells, partC, partP, mkCells, allP, mkAgg, Cells.len, target, evParts, fillA, AV.cells, splice, spliceC, finA, leaveA, resA, resV, ansV, ne_other h]; rfl⟩
  obtain ⟨σr, key⟩ := key
  exact wrap_p2 key (.inr ⟨_, rfl⟩) true σ
theorem calm45 (A B Z E : Obj) (τ : Heap) : (cAt TC L (n + 1)).2 45 [.ptr 2 0 0, .ptr 3 0 0] (A :: B :: Z :: E :: τ) none = some (none, A :: B :: Z :: E :: τ) := by
  rw [show cAt TC L (n + 1) = (callT TC (cAt TC L n).1 (cAt TC L n).2 L, defT TC (cAt TC L n).1 L) from rfl]
  simp only [defT, q45]
  generalize (cAt TC L n).1 = C
  simp [runRec, lit45r, moveA, params, exec, runOps, wantedA, stepOp, pureOp, allocOp, readOp, effOp, ev, evs, evO, Env.get_cons, putE, binA, intBin, unA, AV.fit, AV.toCells, partC, partP, mkCells, allP, mkAgg, Cells.len, target, evParts, fillA, AV.cells, splice, spliceC, finA, leaveA, resA, resV, ansV, eqNil, isNilA, assertA, extractA, mkTup, Cells.toList]
theorem hurt45 (A B : Obj) (z e : List PV) (tz te : Option Nat) (hz : z.length = 4) (he : e.length = 1) (st : List UInt8) (τ : Heap) : ∃ τ', (cAt TC L (n + 1)).2 45 [.ptr 2 0 0, .ptr 3 0 0] (A :: B :: .arr (.pv z) 0 0 tz :: .arr (.pv e) 0 0 te :: τ) (some (.p (.iface 71 (.str st)))) = some (none, A :: B :: .arr (.pv (vc .null)) 0 0 tz :: .arr (.pv [.str st]) 0 0 te :: τ') := by
  rw [show cAt TC L (n + 1) = (callT TC (cAt TC L n).1 (cAt TC L n).2 L, defT TC (cAt TC L n).1 L) from rfl]
  simp only [defT, q45]
  generalize (cAt TC L n).1 = C
  obtain ⟨z0, z1, z2, z3, rfl⟩ : ∃ z0 z1 z2 z3, z = [z0, z1, z2, z3] := by
    match z, hz with
    | [z0, z1, z2, z3], _ => exact ⟨z0, z1, z2, z3, rfl⟩
  obtain ⟨e0, rfl⟩ : ∃ e0, e = [e0] := by
    match e, he with
    | [e0], _ => exact ⟨e0, rfl⟩
  exact ⟨_, by simp [runRec, lit45r, moveA, params, vc, exec, runOps, wantedA, stepOp, pureOp, allocOp, readOp, effOp, ev, evs, evO, Env.get_cons, putE, binA, intBin, unA, AV.fit, AV.toCells, partC, partP, mkCells, allP, mkAgg, Cells.len, target, evParts, fillA, AV.cells, splice, spliceC, finA, leaveA, resA, resV, ansV, eqNil, isNilA, assertA, extractA, mkTup, Cells.toList]; rfl⟩
end
end Go.Ab.Cnt

/- EvalTotals: the sum's loop. -/
set_option maxRecDepth 1000000
namespace Go.Ab.Cnt
open Go Go.Ab Go.Ab.Key Go.Proofs
variable [Marks]
def lit32 : AFunc := { ntmps := 20, results := [ARes.cell 1 true 4], body := (ACode.region [{ dst := some 1, op := AOp.alloc 30 [AV.p (PV.int IntKind.i64 (0)), AV.p (PV.int IntKind.i64 (0)), AV.p (PV.str []), AV.p (PV.bool false)], guard := none }]).seq ((ACode.region [{ dst := some 5, op := AOp.call (Opd.c (AV.p (PV.fn 28))) [Opd.c (AV.p (PV.int IntKind.i64 (0)))], guard := none }, { dst := some 2, op := AOp.alloc 30 [AV.p (PV.int IntKind.i64 (0)), AV.p (PV.int IntKind.i64 (0)), AV.p (PV.str []), AV.p (PV.bool false)], guard := none }, { dst := none, op := AOp.store 4 (Opd.t 2) (Opd.t 5), guard := none }]).seq (((ACode.region [{ dst := some 6, op := AOp.load false 1 (Opd.t 0), guard := none }, { dst := some 7, op := AOp.len false (Opd.t 6), guard := none }, { dst := some 8, op := AOp.mv (Opd.c (AV.p (PV.int IntKind.i64 (0)))), guard := none }]).seq (ACode.block 0 (ACode.loop none ((ACode.region [{ dst := some 9, op := AOp.bin (Bin.plain BinOp.lss) (Opd.t 8) (Opd.t 7), guard := none }]).seq ((ACode.cond (Opd.t 9) ACode.skip (ACode.exit 0)).seq ((ACode.block 1 ((ACode.region [{ dst := some 10, op := AOp.idx 4 (Opd.t 6) (Opd.t 8), guard := none }, { dst := some 11, op := AOp.load true 4 (Opd.t 10), guard := none }, { dst := some 4, op := AOp.alloc 30 [AV.p (PV.int IntKind.i64 (0)), AV.p (PV.int IntKind.i64 (0)), AV.p (PV.str []), AV.p (PV.bool false)], guard := none }, { dst := none, op := AOp.store 4 (Opd.t 4) (Opd.t 11), guard := none }]).seq (ACode.region [{ dst := some 12, op := AOp.load true 4 (Opd.t 2), guard := none }, { dst := some 13, op := AOp.load true 4 (Opd.t 4), guard := none }, { dst := some 14, op := AOp.call (Opd.c (AV.p (PV.fn 34))) [Opd.t 12, Opd.t 13], guard := none }, { dst := some 15, op := AOp.extract 0 (Opd.t 14), guard := none }, { dst := some 16, op := AOp.extract 1 (Opd.t 14), guard := none }, { dst := some 17, op := AOp.call (Opd.c (AV.p (PV.fn 33))) [Opd.t 15, Opd.t 16], guard := none }, { dst := none, op := AOp.store 4 (Opd.t 2) (Opd.t 17), guard := none }]))).seq (ACode.region [{ dst := some 18, op := AOp.bin (Bin.plain BinOp.add) (Opd.t 8) (Opd.c (AV.p (PV.int IntKind.i64 (1)))), guard := none }, { dst := some 8, op := AOp.mv (Opd.t 18), guard := none }]))))))).seq ((ACode.region [{ dst := some 19, op := AOp.load true 4 (Opd.t 2), guard := none }, { dst := none, op := AOp.store 4 (Opd.t 1) (Opd.t 19), guard := none }]).seq ACode.ret))) }
def body32 : ACode := ((ACode.region [{ dst := some 9, op := AOp.bin (Bin.plain BinOp.lss) (Opd.t 8) (Opd.t 7), guard := none }]).seq ((ACode.cond (Opd.t 9) ACode.skip (ACode.exit 0)).seq ((ACode.block 1 ((ACode.region [{ dst := some 10, op := AOp.idx 4 (Opd.t 6) (Opd.t 8), guard := none }, { dst := some 11, op := AOp.load true 4 (Opd.t 10), guard := none }, { dst := some 4, op := AOp.alloc 30 [AV.p (PV.int IntKind.i64 (0)), AV.p (PV.int IntKind.i64 (0)), AV.p (PV.str []), AV.p (PV.bool false)], guard := none }, { dst := none, op := AOp.store 4 (Opd.t 4) (Opd.t 11), guard := none }]).seq (ACode.region [{ dst := some 12, op := AOp.load true 4 (Opd.t 2), guard := none }, { dst := some 13, op := AOp.load true 4 (Opd.t 4), guard := none }, { dst := some 14, op := AOp.call (Opd.c (AV.p (PV.fn 34))) [Opd.t 12, Opd.t 13], guard := none }, { dst := some 15, op := AOp.extract 0 (Opd.t 14), guard := none }, { dst := some 16, op := AOp.extract 1 (Opd.t 14), guard := none }, { dst := some 17, op := AOp.call (Opd.c (AV.p (PV.fn 33))) [Opd.t 15, Opd.t 16], guard := none }, { dst := none, op := AOp.store 4 (Opd.t 2) (Opd.t 17), guard := none }]))).seq (ACode.region [{ dst := some 18, op := AOp.bin (Bin.plain BinOp.add) (Opd.t 8) (Opd.c (AV.p (PV.int IntKind.i64 (1)))), guard := none }, { dst := some 8, op := AOp.mv (Opd.t 18), guard := none }]))))
theorem lit32_eq : lit32.body = (ACode.region [{ dst := some 1, op := AOp.alloc 30 [AV.p (PV.int IntKind.i64 (0)), AV.p (PV.int IntKind.i64 (0)), AV.p (PV.str []), AV.p (PV.bool false)], guard := none }]).seq ((ACode.region [{ dst := some 5, op := AOp.call (Opd.c (AV.p (PV.fn 28))) [Opd.c (AV.p (PV.int IntKind.i64 (0)))], guard := none }, { dst := some 2, op := AOp.alloc 30 [AV.p (PV.int IntKind.i64 (0)), AV.p (PV.int IntKind.i64 (0)), AV.p (PV.str []), AV.p (PV.bool false)], guard := none }, { dst := none, op := AOp.store 4 (Opd.t 2) (Opd.t 5), guard := none }]).seq (((ACode.region [{ dst := some 6, op := AOp.load false 1 (Opd.t 0), guard := none }, { dst := some 7, op := AOp.len false (Opd.t 6), guard := none }, { dst := some 8, op := AOp.mv (Opd.c (AV.p (PV.int IntKind.i64 (0)))), guard := none }]).seq (ACode.block 0 (ACode.loop none body32))).seq ((ACode.region [{ dst := some 19, op := AOp.load true 4 (Opd.t 2), guard := none }, { dst := none, op := AOp.store 4 (Opd.t 1) (Opd.t 19), guard := none }]).seq ACode.ret))) := rfl
/-- a call that is handed an object in which a list's handle lies -/
theorem wrap_hold {g : List AV → Heap → Option (CRes × Heap)} {xs as0 : List AV} {σ τ : Heap} {id id' ver wm k : Nat} {c : List PV} {ta tb : Option Nat} {r : CRes}
    (h : g as0 [.arr (.av [.sl 1 0 0 k 4]) 0 0 ta, .arr (.pv c) 0 wm tb] = some (r, .arr (.av [.sl 1 0 0 k 4]) 0 0 ta :: .arr (.pv c) 0 wm tb :: τ)) (hr : PureR r)
    (hA : σ[id]? = some (.arr (.av [.sl id' ver 0 k 4]) 0 0 ta)) (hB : σ[id']? = some (.arr (.pv c) ver wm tb))
    (hids : idsL xs = [id]) (hren : renL (fwd [(id, 0), (id', ver)]) xs = as0) (hfz : ∀ tl, frzA tl 9 σ xs = (xs, σ)) : wrapF g true xs σ = some (r, σ) := by
  have hne : ¬ id = id' := fun e => by subst e; rw [hA] at hB; cases hB
  have hne' : ¬ id' = id := fun e => hne e.symm
  have hid : id < σ.length := (List.getElem?_eq_some_iff.1 hA).1
  have hid' : id' < σ.length := (List.getElem?_eq_some_iff.1 hB).1
  have hb0 : Nat.beq id id = true := Nat.beq_refl id
  have hb1 : Nat.beq id' id' = true := Nat.beq_refl id'
  have hb2 : Nat.beq id id' = false := by
    cases hh : Nat.beq id id' with
    | false => rfl
    | true => exact absurd (Nat.eq_of_beq_eq_true hh) hne
  have hb3 : Nat.beq id' id = false := by
    cases hh : Nat.beq id' id with
    | false => rfl
    | true => exact absurd (Nat.eq_of_beq_eq_true hh) hne'
  have ht : touch σ xs = [id, id'] := by simp [touch, collect, hids, hA, hB, idsO, idsL, idsV, hne, hne']
  have hout : outL 2 r (.arr (.av [.sl 1 0 0 k 4]) 0 0 ta :: .arr (.pv c) 0 wm tb :: τ) = [(0, 0), (1, 0)] := by
    simp [outL, keepK, hr.ids, collect, listOf, idsO, idsL, idsV, Nat.blt, Nat.ble, List.range, List.range.loop]
  have hlo : listOf σ [id, id'] = [(id, 0), (id', ver)] := by simp [listOf, versO, Obj.ver, hA, hB]
  have hsh : shrinkH [(id, 0), (id', ver)] σ = [.arr (.av [.sl 1 0 0 k 4]) 0 0 ta, .arr (.pv c) 0 wm tb] := by
    simp [shrinkH, hA, hB, shO, renC, renL, renV, fwd, posOf, hb0, hb1, hb2]
  have hsh2 : shrinkH [(0, 0), (1, 0)] (.arr (.av [.sl 1 0 0 k 4]) 0 0 ta :: .arr (.pv c) 0 wm tb :: τ) = [.arr (.av [.sl 1 0 0 k 4]) 0 0 ta, .arr (.pv c) 0 wm tb] := by
    simp [shrinkH, shO, renC, renL, renV, fwd, posOf, Nat.beq]
  have h1 : (uniq [(id, 0), (id', ver)] && inOK [(id, 0), (id', ver)] σ.length) = true := by simp [uniq, posOf, inOK, hid, hid', hb3]
  have h4 : (uniq [(0, 0), (1, 0)] && backOK [(id, 0), (id', ver)] [Obj.arr (.av [.sl 1 0 0 k 4]) 0 0 ta, .arr (.pv c) 0 wm tb]) = true := rfl
  have hm : mergeH [(id, 0), (id', ver)] σ [Obj.arr (.av [.sl 1 0 0 k 4]) 0 0 ta, .arr (.pv c) 0 wm tb] = σ := by
    simp [mergeH, putBack, bkO, renC, renL, renV, bwd, set_same hA, set_same hB]
  have hall : ([id, id'].all fun x => [id, id'].contains x) = true := by simp
  unfold wrapF
  simp only [hfz, ht, hall]
  unfold innerW
  simp only [hlo, h1, hren, hsh, h]
  simp only [show [(id, 0), (id', ver)].length = 2 from rfl, hout, hsh2, h4, hr.ren, hm]
/-- the sum, or the state that ends it -/
def sumV : List V → Int → V × List UInt8
  | [], a => (.num a, [48, 48, 48, 48, 48])
  | v :: r, a => match addS a v with
    | (.num c, _) => sumV r c
    | (_, st) => (.null, st)
theorem addS_cases (a : Int) (v : V) (hv : isNull v = false) : (∃ c, addS a v = (.num c, [48, 48, 48, 48, 48])) ∨ ∃ st, st ≠ [48, 48, 48, 48, 48] ∧ addS a v = (.null, st) := by
  cases v with
  | null => cases hv
  | num b =>
    simp only [addS]
    split
    · exact .inl ⟨_, rfl⟩
    · exact .inr ⟨_, by decide, rfl⟩
  | text s => exact .inr ⟨_, by decide, rfl⟩
  | bool b => exact .inr ⟨_, by decide, rfl⟩
theorem vcn (k : Int) : vc (.num k) = [.int .i64 1, .int .i64 k, .str [], .bool false] := rfl
section
variable (C : Oracle) (L : Nat) (x : List V) (rest : List PV) (wm : Nat) (ta tb : Option Nat)
/-- the two objects that stand ahead -/
def AB : Heap := [.arr (.av [.sl 1 0 0 x.length 4]) 0 0 ta, .arr (.pv (vcs x ++ rest)) 0 wm tb]
structure At32 (ρ : Env) (σ : Heap) (i : Nat) (a : Int) : Prop where
  t1 : ρ.get 1 = some (.ptr 2 0 0)
  t2 : ρ.get 2 = some (.ptr 3 0 0)
  t6 : ρ.get 6 = some (.sl 1 0 0 x.length 4)
  t7 : ρ.get 7 = some (.p (.int .i64 (x.length : Int)))
  t8 : ρ.get 8 = some (.p (.int .i64 (i : Int)))
  hp : ∃ τ, σ = AB x rest wm ta tb ++ .arr (.pv zero4) 0 0 (some 30) :: .arr (.pv (vc (.num a))) 0 0 (some 30) :: τ
theorem stop32 (ρ : Env) (σ : Heap) (a : Int) (h : At32 x rest wm ta tb ρ σ x.length a) : ∃ ρ', exec C L body32 ⟨ρ, [], σ⟩ = some (.exit 0, ⟨ρ', [], σ⟩) ∧ At32 x rest wm ta tb ρ' σ x.length a :=
  ⟨_, by simp [body32, exec, runOps, wantedA, stepOp, pureOp, allocOp, readOp, effOp, ev, evs, evO, Env.get_cons, putE, binA, intBin, unA, AV.fit, AV.toCells, partC, partP, mkCells, allP, mkAgg, Cells.len, target, h.t7, h.t8]; rfl, by simp [Env.get_cons, h.t1], by simp [Env.get_cons, h.t2], by simp [Env.get_cons, h.t6], by simp [Env.get_cons, h.t7], by simp [Env.get_cons, h.t8], h.hp⟩
/-- the round's facts -/
theorem round32 (ρ : Env) (σ : Heap) (i : Nat) (a : Int) (v : V) (hv : x[i]? = some v) (hm : x.length ≤ 9223372036854775807) (h : At32 x rest wm ta tb ρ σ i a) (st : List UInt8) (r : V)
    (hC : ∀ σ, C 34 [.p (.agg (vc (.num a))), .p (.agg (vc v))] σ = some (.ret (.p (.tup [.agg (vc r), .str st])), σ)) :
    (∀ c, r = .num c → (∀ σ, C 33 [.p (.agg (vc r)), .p (.str st)] σ = some (.ret (.p (.agg (vc r))), σ)) →
      ∃ ρ' σ', exec C L body32 ⟨ρ, [], σ⟩ = some (.normal, ⟨ρ', [], σ'⟩) ∧ At32 x rest wm ta tb ρ' σ' (i + 1) c) ∧
    ((∀ σ, C 33 [.p (.agg (vc r)), .p (.str st)] σ = some (.pan (.p (.iface 71 (.str st))), σ)) →
      ∃ ρ' σ' τ, exec C L body32 ⟨ρ, [], σ⟩ = some (.pan (.p (.iface 71 (.str st))), ⟨ρ', [], σ'⟩) ∧ σ' = AB x rest wm ta tb ++ τ) := by
  obtain ⟨τ, hσ⟩ := h.hp
  have hi1 : i < x.length := (List.getElem?_eq_some_iff.1 hv).1
  have hi' : (i : Int) < (x.length : Int) := by omega
  have e1 : IntKind.i64.wrap ((i : Int) + 1) = ((i + 1 : Nat) : Int) := by rw [wrap_id _ (by omega) (by omega)]; omega
  have hlen := vcs_len x
  have d1 : ((vcs x ++ rest).drop (i * 4)).take 4 = vc v := by
    rw [List.drop_append_of_le_length (by omega), List.take_append_of_le_length (by rw [List.length_drop]; omega)]
    exact flat_v x i v hv
  have d3 : 4 ≤ (vcs x ++ rest).length - i * 4 := by rw [List.length_append]; omega
  have d2 : i * 4 + 4 ≤ (vcs x ++ rest).length := by rw [List.length_append]; omega
  have o1 : σ[1]? = some (.arr (.pv (vcs x ++ rest)) 0 wm tb) := by rw [hσ]; rfl
  have o3 : σ[3]? = some (.arr (.pv (vc (.num a))) 0 0 (some 30)) := by rw [hσ]; rfl
  have hl4 : 4 ≤ σ.length := by rw [hσ]; simp [AB]
  have o3' : ∀ b : Obj, (σ ++ [b])[3]? = some (.arr (.pv (vc (.num a))) 0 0 (some 30)) := fun b => by rw [List.getElem?_append_left (by omega)]; exact o3
  have hlast : ∀ b : Obj, (σ ++ [b])[σ.length]? = some b := fun b => by simp
  have hs := set_last σ
  obtain ⟨y0, y1, y2, y3, hy⟩ := four' v
  obtain ⟨z0, z1, z2, z3, hz⟩ := four' r
  have hr4 := hz
  generalize vcs x ++ rest = cs at d1 d2 d3 o1
  rw [hy] at d1
  constructor
  · intro c hr hC3
    rw [hy, hz] at hC
    rw [hz] at hC3
    rw [vcn] at hC o3'
    have key : ∃ ρ', exec C L body32 ⟨ρ, [], σ⟩ = some (.normal, ⟨ρ', [], (σ ++ [Obj.arr (.pv [y0, y1, y2, y3]) 0 0 (some 30)]).set 3 (.arr (.pv [z0, z1, z2, z3]) 0 0 (some 30))⟩) ∧ ρ'.get 1 = some (.ptr 2 0 0) ∧ ρ'.get 2 = some (.ptr 3 0 0) ∧ ρ'.get 6 = some (.sl 1 0 0 x.length 4) ∧ ρ'.get 7 = some (.p (.int .i64 (x.length : Int))) ∧ ρ'.get 8 = some (.p (.int .i64 ((i + 1 : Nat) : Int))) :=
      ⟨_, by simp [body32, exec, runOps, wantedA, stepOp, pureOp, allocOp, readOp, effOp, ev, evs, evO, Env.get_cons, putE, binA, intBin, unA, AV.fit, AV.toCells, partC, partP, mkCells, allP, mkAgg, Cells.len, target, evParts, fillA, AV.cells, splice, spliceC, finA, leaveA, resA, resV, ansV, lenA, idxA, extractA, h.t2, h.t6, h.t7, h.t8, hi1, hi', d1, d2, d3, o1, ↓o3', ↓hlast, ↓hs, hC, hC3, e1]; rfl, by simp [Env.get_cons, h.t1], by simp [Env.get_cons, h.t2], by simp [Env.get_cons, h.t6], by simp [Env.get_cons, h.t7], by simp [Env.get_cons]⟩
    obtain ⟨ρ', e, a1, a2, a6, a7, a8⟩ := key
    refine ⟨ρ', _, e, a1, a2, a6, a7, a8, τ ++ [.arr (.pv [y0, y1, y2, y3]) 0 0 (some 30)], ?_⟩
    rw [hσ, ← hz, hr]
    simp [AB]
  · intro hC3
    rw [hy, hz] at hC
    rw [hz] at hC3
    rw [vcn] at hC o3'
    have key : ∃ ρ', exec C L body32 ⟨ρ, [], σ⟩ = some (.pan (.p (.iface 71 (.str st))), ⟨ρ', [], σ ++ [.arr (.pv [y0, y1, y2, y3]) 0 0 (some 30)]⟩) :=
      ⟨_, by simp [body32, exec, runOps, wantedA, stepOp, pureOp, allocOp, readOp, effOp, ev, evs, evO, Env.get_cons, putE, binA, intBin, unA, AV.fit, AV.toCells, partC, partP, mkCells, allP, mkAgg, Cells.len, target, evParts, fillA, AV.cells, splice, spliceC, finA, leaveA, resA, resV, ansV, lenA, idxA, extractA, h.t2, h.t6, h.t7, h.t8, hi1, hi', d1, d2, d3, o1, ↓o3', ↓hlast, ↓hs, hC, hC3, e1]; rfl⟩
    obtain ⟨ρ', e⟩ := key
    refine ⟨ρ', _, .arr (.pv zero4) 0 0 (some 30) :: .arr (.pv (vc (.num a))) 0 0 (some 30) :: (τ ++ [.arr (.pv [y0, y1, y2, y3]) 0 0 (some 30)]), e, ?_⟩
    rw [hσ]
    simp [AB]
end
end Go.Ab.Cnt
