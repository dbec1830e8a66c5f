/- The laws of keys: Decode's smaller functions: take, the builder. -/
import Derived.Test.YtafjhlangdcefaaDoorAbKE
set_option linter.unusedSectionVars false
set_option linter.unusedSimpArgs false
set_option linter.unusedVariables false
set_option maxRecDepth 1000000
namespace Go.Ab.Key
open Go Go.Ab Go.Proofs
variable [Marks]
def lit23 : AFunc := { ntmps := 18, results := [ARes.tmp 3], body := (ACode.region [{ dst := some 3, op := AOp.mv (Opd.c (AV.p (PV.str []))), guard := none }]).seq (((ACode.region [{ dst := some 5, op := AOp.load false 1 (Opd.t 1), guard := none }, { dst := some 6, op := AOp.len true (Opd.t 5), guard := none }, { dst := some 7, op := AOp.mv (Opd.t 0), guard := none }, { dst := some 8, op := AOp.bin (Bin.plain BinOp.lss) (Opd.t 6) (Opd.t 7), guard := none }]).seq (ACode.cond (Opd.t 8) (ACode.region [{ dst := some 9, op := AOp.build [] [], guard := none }, { dst := some 10, op := AOp.mkIface 50 (Opd.t 9), guard := none }, { dst := none, op := AOp.panic (Opd.t 10), guard := none }]) ACode.skip)).seq ((ACode.region [{ dst := some 11, op := AOp.load false 1 (Opd.t 1), guard := none }, { dst := some 12, op := AOp.mv (Opd.t 0), guard := none }, { dst := some 13, op := AOp.sliceStr (Opd.t 11) none (some (Opd.t 12)), guard := none }, { dst := some 4, op := AOp.mv (Opd.t 13), guard := none }]).seq ((ACode.region [{ dst := some 14, op := AOp.load false 1 (Opd.t 1), guard := none }, { dst := some 15, op := AOp.mv (Opd.t 0), guard := none }, { dst := some 16, op := AOp.sliceStr (Opd.t 14) (some (Opd.t 15)) none, guard := none }, { dst := none, op := AOp.store 1 (Opd.t 1) (Opd.t 16), guard := none }]).seq ((ACode.region [{ dst := some 17, op := AOp.mv (Opd.t 4), guard := none }, { dst := some 3, op := AOp.mv (Opd.t 17), guard := none }]).seq ACode.ret)))) }
def lit37 : AFunc := { ntmps := 19, results := [ARes.tmp 4, ARes.tmp 5], body := (ACode.region [{ dst := some 4, op := AOp.mv (Opd.c (AV.p (PV.int IntKind.i64 (0)))), guard := none }, { dst := some 5, op := AOp.mv (Opd.c (AV.p PV.nilif)), guard := none }]).seq ((ACode.region [{ dst := some 6, op := AOp.mv (Opd.t 0), guard := none }, { dst := some 7, op := AOp.call (Opd.c (AV.p (PV.fn 50))) [Opd.t 6], guard := none }]).seq ((ACode.region [{ dst := some 8, op := AOp.mv (Opd.t 0), guard := none }, { dst := some 9, op := AOp.mv (Opd.t 0), guard := none }, { dst := some 10, op := AOp.nilCheck (Opd.t 9), guard := none }, { dst := some 11, op := AOp.fieldAddr 1 (Opd.t 10), guard := none }, { dst := some 12, op := AOp.load false 1 (Opd.t 11), guard := none }, { dst := some 13, op := AOp.mv (Opd.t 1), guard := none }, { dst := some 14, op := AOp.append 5 1 [AV.p (PV.int IntKind.u8 (0))] (Opd.t 12) (Opd.t 13), guard := none }, { dst := some 15, op := AOp.nilCheck (Opd.t 8), guard := none }, { dst := some 16, op := AOp.fieldAddr 1 (Opd.t 15), guard := none }, { dst := none, op := AOp.store 1 (Opd.t 16) (Opd.t 14), guard := none }]).seq ((ACode.region [{ dst := some 17, op := AOp.mv (Opd.t 1), guard := none }, { dst := some 18, op := AOp.len true (Opd.t 17), guard := none }, { dst := some 4, op := AOp.mv (Opd.t 18), guard := none }, { dst := some 5, op := AOp.mv (Opd.c (AV.p PV.nilif)), guard := none }]).seq ACode.ret))) }
def lit38 : AFunc := { ntmps := 14, results := [ARes.tmp 2], body := (ACode.region [{ dst := some 2, op := AOp.mv (Opd.c (AV.p (PV.str []))), guard := none }]).seq ((ACode.draw 12 [0, 1, 3, 7, 15, 0, 32, 96, 224, 480, 1023, 2047] [{ dst := some 3, op := AOp.mv (Opd.t 0), guard := none }, { dst := some 4, op := AOp.nilCheck (Opd.t 3), guard := none }, { dst := some 5, op := AOp.fieldAddr 1 (Opd.t 4), guard := none }, { dst := some 6, op := AOp.load false 1 (Opd.t 5), guard := none }, { dst := some 7, op := AOp.sliceData (Opd.t 6), guard := none }, { dst := some 8, op := AOp.mv (Opd.t 0), guard := none }, { dst := some 9, op := AOp.nilCheck (Opd.t 8), guard := none }, { dst := some 10, op := AOp.fieldAddr 1 (Opd.t 9), guard := none }, { dst := some 11, op := AOp.load false 1 (Opd.t 10), guard := none }, { dst := some 12, op := AOp.len false (Opd.t 11), guard := none }, { dst := some 13, op := AOp.unsafeStr 5 (Opd.t 7) (Opd.t 12), guard := none }, { dst := some 2, op := AOp.mv (Opd.t 13), guard := none }]).seq ACode.ret) }
def lit41 : AFunc := { ntmps := 17, results := [ARes.tmp 4], body := (ACode.region [{ dst := some 4, op := AOp.mv (Opd.c (AV.p PV.nilif)), guard := none }]).seq ((ACode.region [{ dst := some 5, op := AOp.mv (Opd.t 0), guard := none }, { dst := some 6, op := AOp.call (Opd.c (AV.p (PV.fn 50))) [Opd.t 5], guard := none }]).seq ((ACode.region [{ dst := some 7, op := AOp.mv (Opd.t 0), guard := none }, { dst := some 8, op := AOp.mv (Opd.t 0), guard := none }, { dst := some 9, op := AOp.nilCheck (Opd.t 8), guard := none }, { dst := some 10, op := AOp.fieldAddr 1 (Opd.t 9), guard := none }, { dst := some 11, op := AOp.load false 1 (Opd.t 10), guard := none }, { dst := some 12, op := AOp.mv (Opd.t 1), guard := none }, { dst := some 13, op := AOp.buildSlice [AV.p (PV.int IntKind.u8 (0))] 1 1 [(0, 1, Opd.t 12)], guard := none }, { dst := some 14, op := AOp.append 5 1 [AV.p (PV.int IntKind.u8 (0))] (Opd.t 11) (Opd.t 13), guard := none }, { dst := some 15, op := AOp.nilCheck (Opd.t 7), guard := none }, { dst := some 16, op := AOp.fieldAddr 1 (Opd.t 15), guard := none }, { dst := none, op := AOp.store 1 (Opd.t 16) (Opd.t 14), guard := none }]).seq ((ACode.region [{ dst := some 4, op := AOp.mv (Opd.c (AV.p PV.nilif)), guard := none }]).seq ACode.ret))) }
/-- an answer that leads to no object -/
def PureR (r : CRes) : Prop := (∃ v, r = .ret (.p v)) ∨ ∃ v, r = .pan (.p v)
theorem PureR.ren {r : CRes} (h : PureR r) (g : Nat → Nat → Option (Nat × Nat)) : renR g r = r := by
  rcases h with ⟨v, rfl⟩ | ⟨v, rfl⟩ <;> rfl
theorem PureR.ids {r : CRes} (h : PureR r) : resIds r = [] := by
  rcases h with ⟨v, rfl⟩ | ⟨v, rfl⟩ <;> rfl
/-- a call that is handed one object, of plain cells -/
theorem wrap_one {g : List AV → Heap → Option (CRes × Heap)} {xs as0 : List AV} {σ τ : Heap} {id ver : Nat} {c c' : List PV} {ty ty' : Option Nat} {r : CRes} (h : g as0 [.arr (.pv c) 0 0 ty] = some (r, .arr (.pv c') 0 0 ty' :: τ)) (hr : PureR r)
    (ho : σ[id]? = some (.arr (.pv c) ver 0 ty)) (hids : idsL xs = [id]) (hfz : frzA [id] 9 σ xs = (xs, σ)) (hren : renL (fwd [(id, ver)]) xs = as0) : wrapF g true xs σ = some (r, σ.set id (.arr (.pv c') ver 0 ty')) := by
  have hid : id < σ.length := (List.getElem?_eq_some_iff.1 ho).1
  have ht : touch σ xs = [id] := by simp [touch, collect, hids, ho, idsO]
  have hout : outL 1 r (.arr (.pv c') 0 0 ty' :: τ) = [(0, 0)] := by
    simp [outL, keepK, hr.ids, collect, listOf, idsO, Nat.blt, Nat.ble]
  have hlo : listOf σ [id] = [(id, ver)] := by simp [listOf, versO, ho, Obj.ver]
  have hsh : shrinkH [(id, ver)] σ = [.arr (.pv c) 0 0 ty] := by simp [shrinkH, ho, shO, renC]
  have hsh2 : shrinkH [(0, 0)] (.arr (.pv c') 0 0 ty' :: τ) = [.arr (.pv c') 0 0 ty'] := by simp [shrinkH, shO, renC]
  have h1 : (uniq [(id, ver)] && inOK [(id, ver)] σ.length) = true := by simp [uniq, posOf, inOK, hid]
  have h4 : (uniq [(0, 0)] && backOK [(id, ver)] [Obj.arr (.pv c') 0 0 ty']) = true := rfl
  have hm : mergeH [(id, ver)] σ [Obj.arr (.pv c') 0 0 ty'] = σ.set id (.arr (.pv c') ver 0 ty') := by simp [mergeH, putBack, bkO, renC]
  unfold wrapF
  simp only [ht, hfz]
  have hall : ([id].all fun x => [id].contains x) = true := by simp
  simp only [hall]
  unfold innerW
  simp only [hlo, h1, hren, hsh, h, List.length_cons, List.length_nil, Nat.zero_add, hout, hsh2, h4, hr.ren, hm]
theorem frz_ptr (tl : List Nat) (σ : Heap) (k : PV) (id ver off : Nat) : frzA tl 9 σ [.p k, .ptr id ver off] = ([.p k, .ptr id ver off], σ) := rfl
section
variable (m : Int) (L n : Nat)
theorem q23 : TE (G 0 m) 23 = some (.code lit23 true) := by kernel_rfl
theorem q37 : TE (G 0 m) 37 = some (.code lit37 true) := by kernel_rfl
theorem q38 : TE (G 0 m) 38 = some (.code lit38 true) := by kernel_rfl
theorem q41 : TE (G 0 m) 41 = some (.code lit41 true) := by kernel_rfl
theorem q50 : TE (G 0 m) 50 = some (.ext (copyO 71) false) := by rfl
/-- what take answers, and what it leaves in the box -/
def takeR (s : List UInt8) (k : Nat) : CRes := if k ≤ s.length then .ret (.p (.str (s.take k))) else .pan (.p (.iface 50 (.agg [])))
def takeS (s : List UInt8) (k : Nat) : List UInt8 := if k ≤ s.length then s.drop k else s
theorem take_run (C : Oracle) (D : DOracle) (s : List UInt8) (k : Nat) (ty : Option Nat) : runFunc C D L lit23 [.p (.int .i64 (k : Int)), .ptr 0 0 0] [.arr (.pv [.str s]) 0 0 ty] = some (takeR s k, [.arr (.pv [.str (takeS s k)]) 0 0 ty]) := by
  unfold takeR takeS
  by_cases hk : k ≤ s.length
  · have h1 : ¬ (s.length : Int) < (k : Int) := by omega
    have h2 : (k : Int) ≤ (s.length : Int) := by omega
    have h3 : (0 : Int) ≤ (k : Int) := by omega
    have h4 : (s.drop k).take (s.length - k) = s.drop k := List.take_of_length_le (by simp)
    simp [runFunc, lit23, params, exec, runOps, wantedA, stepOp, pureOp, allocOp, readOp, effOp, ev, evs, evO, Env.get_cons, putE, binA, intBin, unA, AV.fit, AV.toCells, partC, partP, mkCells, allP, mkAgg, Cells.len, target, evParts, fillA, AV.cells, splice, spliceC, finA, leaveA, resA, resV, ansV, sliceA, boundsA, boundA, hk, h1, h2, h3, h4]
  · have h1 : (s.length : Int) < (k : Int) := by omega
    simp [runFunc, lit23, params, exec, runOps, wantedA, stepOp, pureOp, allocOp, readOp, effOp, ev, evs, evO, Env.get_cons, putE, binA, intBin, unA, AV.fit, AV.toCells, partC, partP, mkCells, allP, mkAgg, Cells.len, target, evParts, fillA, AV.cells, splice, spliceC, finA, leaveA, resA, resV, ansV, hk, h1]
theorem take_at {σ : Heap} {id ver : Nat} {s : List UInt8} {ty : Option Nat} (k : Nat) (ho : σ[id]? = some (.arr (.pv [.str s]) ver 0 ty)) :
    (cAt (TE (G 0 m)) L (n + 1)).1 23 [.p (.int .i64 (k : Int)), .ptr id ver 0] σ = some (takeR s k, σ.set id (.arr (.pv [.str (takeS s k)]) ver 0 ty)) := by
  simp only [cAt, callT, q23 m]
  refine wrap_one (as0 := [.p (.int .i64 (k : Int)), .ptr 0 0 0]) (τ := []) ?_ ?_ ho rfl (frz_ptr _ _ _ _ _ _) ?_
  · have hf : fits lit23 [.p (.int .i64 (k : Int)), .ptr 0 0 0] = true := rfl
    simp only [runCode, hf]
    exact take_run L _ _ s k ty
  · unfold takeR PureR
    split
    · exact .inl ⟨_, rfl⟩
    · exact .inr ⟨_, rfl⟩
  · have hb : Nat.beq id id = true := Nat.beq_refl id
    simp [renL, renV, fwd, posOf, hb]
/-- a builder's object, by itself and with its bytes -/
abbrev bld0 : Obj := .arr (.av [.p .nilptr, .nil0]) 0 0 (some 71)
abbrev bldO (i j ver k : Nat) : Obj := .arr (.av [.ptr i 0 0, .sl j ver 0 k 1]) 0 0 (some 71)
abbrev bufO (l : List UInt8) (ver : Nat) : Obj := .arr (.pv (bp l)) ver 0 (some 5)
theorem copy_new : (cAt (TE (G 0 m)) L (n + 1)).1 50 [.ptr 0 0 0] [bld0] = some (.ret voidV, [.arr (.av [.ptr 0 0 0, .nil0]) 0 0 (some 71)]) := by kernel_rfl
theorem copy_old (k : Nat) (l : List UInt8) : (cAt (TE (G 0 m)) L (n + 1)).1 50 [.ptr 0 0 0] [bldO 0 1 0 k, bufO l 0] = some (.ret voidV, [bldO 0 1 0 k, bufO l 0]) := by kernel_rfl
theorem write_new (C : Oracle) (D : DOracle) (hC : C 50 [.ptr 0 0 0] [bld0] = some (.ret voidV, [.arr (.av [.ptr 0 0 0, .nil0]) 0 0 (some 71)])) (c : UInt8) :
    runFunc C D L lit37 [.ptr 0 0 0, .p (.str [c])] [bld0] = some (.ret (.p (.tup [.int .i64 1, .nilif])), [bldO 0 1 0 1, bufO [c] 0]) := by
  simp [runFunc, lit37, params, exec, runOps, wantedA, stepOp, pureOp, allocOp, readOp, effOp, ev, evs, evO, Env.get_cons, putE, binA, intBin, unA, AV.fit, AV.toCells, partC, partP, mkCells, allP, mkAgg, Cells.len, target, evParts, fillA, AV.cells, splice, spliceC, finA, leaveA, resA, resV, ansV, hC, elemsA, appendTo, takeC, catC, dropC, bp, voidV, mkTup, LIM, Cells.toList]
theorem write_old (C : Oracle) (D : DOracle) (l : List UInt8) (hC : C 50 [.ptr 0 0 0] [bldO 0 1 0 l.length, bufO l 0] = some (.ret voidV, [bldO 0 1 0 l.length, bufO l 0])) (c : UInt8) (hl : l.length + 1 ≤ LIM) :
    runFunc C D L lit37 [.ptr 0 0 0, .p (.str [c])] [bldO 0 1 0 l.length, bufO l 0] = some (.ret (.p (.tup [.int .i64 1, .nilif])), [bldO 0 1 1 (l.length + 1), bufO (l ++ [c]) 1]) := by
  have ht : (bp l).take l.length = bp l := List.take_of_length_le (by rw [bp_len]; exact Nat.le_refl _)
  have hb := bp_len l
  simp [runFunc, lit37, params, exec, runOps, wantedA, stepOp, pureOp, allocOp, readOp, effOp, ev, evs, evO, Env.get_cons, putE, binA, intBin, unA, AV.fit, AV.toCells, partC, partP, mkCells, allP, mkAgg, Cells.len, target, evParts, fillA, AV.cells, splice, spliceC, finA, leaveA, resA, resV, ansV, hC, elemsA, appendTo, takeC, catC, dropC, bp_app, voidV, mkTup, hl, ht, hb, Cells.toList]
  simp [bp]
theorem byte_new (C : Oracle) (D : DOracle) (hC : C 50 [.ptr 0 0 0] [bld0] = some (.ret voidV, [.arr (.av [.ptr 0 0 0, .nil0]) 0 0 (some 71)])) :
    runFunc C D L lit41 [.ptr 0 0 0, .p (.int .u8 0)] [bld0] = some (.ret (.p .nilif), [bldO 0 2 0 1, .arr (.pv [.int .u8 0]) 0 0 none, bufO [0] 0]) := by
  simp [runFunc, lit41, params, exec, runOps, wantedA, stepOp, pureOp, allocOp, readOp, effOp, ev, evs, evO, Env.get_cons, putE, binA, intBin, unA, AV.fit, AV.toCells, partC, partP, mkCells, allP, mkAgg, Cells.len, target, evParts, fillA, AV.cells, splice, spliceC, finA, leaveA, resA, resV, ansV, hC, elemsA, appendTo, takeC, catC, dropC, bp, voidV, mkTup, LIM, repCells, Cells.toList]
theorem byte_old (C : Oracle) (D : DOracle) (l : List UInt8) (hC : C 50 [.ptr 0 0 0] [bldO 0 1 0 l.length, bufO l 0] = some (.ret voidV, [bldO 0 1 0 l.length, bufO l 0])) (hl : l.length + 1 ≤ LIM) :
    runFunc C D L lit41 [.ptr 0 0 0, .p (.int .u8 0)] [bldO 0 1 0 l.length, bufO l 0] = some (.ret (.p .nilif), [bldO 0 1 1 (l.length + 1), bufO (l ++ [0]) 1, .arr (.pv [.int .u8 0]) 0 0 none]) := by
  have ht : (bp l).take l.length = bp l := List.take_of_length_le (by rw [bp_len]; exact Nat.le_refl _)
  have hb := bp_len l
  simp [runFunc, lit41, params, exec, runOps, wantedA, stepOp, pureOp, allocOp, readOp, effOp, ev, evs, evO, Env.get_cons, putE, binA, intBin, unA, AV.fit, AV.toCells, partC, partP, mkCells, allP, mkAgg, Cells.len, target, evParts, fillA, AV.cells, splice, spliceC, finA, leaveA, resA, resV, ansV, hC, elemsA, appendTo, takeC, catC, dropC, bp_app, voidV, mkTup, hl, ht, hb, repCells, Cells.toList]
  simp [bp]
theorem str_new (C : Oracle) (D : DOracle) : runFunc C D L lit38 [.ptr 0 0 0] [bld0] = some (.ret (.p (.str [])), [bld0]) := by kernel_rfl
theorem bytesC_bp : ∀ l : List UInt8, bytesC (bp l) = some l
  | [] => rfl
  | c :: l => by
    have ih := bytesC_bp l
    have h1 := c.toNat_lt
    simp only [bp, List.map_cons] at *
    simp [bytesC, ih]
    omega
theorem str_old (C : Oracle) (D : DOracle) (l : List UInt8) (k : Nat) (hk : l.length = k + 1) (hl : k + 1 ≤ LIM) : runFunc C D L lit38 [.ptr 0 0 0] [bldO 0 1 0 (k + 1), bufO l 0] = some (.ret (.p (.str l)), [bldO 0 1 0 (k + 1), .arr (.pv (bp l)) 0 (k + 1) (some 5)]) := by
  have hb := bp_len l
  rw [hk] at hb
  have ht : (bp l).take (k + 1) = bp l := List.take_of_length_le (by rw [hb]; exact Nat.le_refl _)
  have hy := bytesC_bp l
  have h0 : (0 : Int) < (k : Int) + 1 := by omega
  have h1 : ((k : Int) + 1).toNat = k + 1 := by omega
  simp [runFunc, lit38, params, exec, runOps, wantedA, stepOp, pureOp, allocOp, readOp, effOp, ev, evs, evO, Env.get_cons, putE, binA, intBin, unA, AV.fit, AV.toCells, partC, partP, mkCells, allP, mkAgg, Cells.len, target, evParts, fillA, AV.cells, splice, spliceC, finA, leaveA, resA, resV, ansV, drawExec, drawRun, stillOp, keepE, readsOf, isE, opds, tmpsOf, carry, refOf, refV, valsOp, oneH, wrIds, okRW, bef, isFree, between, lenA, ht, hb, hy, hl, h0, h1]
end
end Go.Ab.Key

/- The laws of keys: the builder's calls in words' heap. -/
set_option maxRecDepth 1000000
namespace Go.Ab.Key
open Go Go.Ab Go.Proofs
variable [Marks]
/-- words' heap: the box, the answer's cell, the builder -/
inductive BH (o0 o1 : Obj) : Heap → List UInt8 → Prop
  | new : BH o0 o1 [o0, o1, bld0] []
  | old (m k : Nat) (l : List UInt8) (h : l.length = k + 1) : BH o0 o1 [o0, o1, bldO 2 3 m (k + 1), bufO l m] l
theorem range2 : List.range 2 = [0, 1] := rfl
theorem wrap_new {g : List AV → Heap → Option (CRes × Heap)} {ps : List PV} {v : PV} {l : List UInt8} {k : Nat} {σr : Heap} {o0 o1 : Obj} (h : g (.ptr 0 0 0 :: ps.map .p) [bld0] = some (.ret (.p v), σr)) (hs : σr = [bldO 0 1 0 k, bufO l 0] ∨ ∃ o, σr = [bldO 0 2 0 k, o, bufO l 0]) :
    wrapF g true (.ptr 2 0 0 :: ps.map .p) [o0, o1, bld0] = some (.ret (.p v), [o0, o1, bldO 2 3 0 k, bufO l 0]) := by
  have h1 := fun tl σ => frzA_pure (tl := tl) (d := 8) ps σ
  have h2 := idsL_pure ps
  have h3 := fun g => renL_pure (g := g) ps
  rcases hs with rfl | ⟨o, rfl⟩ <;>
  simp [wrapF, frzA, frz, touch, collect, idsL, idsV, idsO, innerW, listOf, versO, Obj.ver, uniq, posOf, inOK, renL, renV, fwd, shrinkH, shO, renC, outL, keepK, resIds, Nat.blt, Nat.ble, backOK, renR, bwd, mergeH, putBack, bkO, range2, h, h1, h2, h3]
theorem wrap_old {g : List AV → Heap → Option (CRes × Heap)} {ps : List PV} {v : PV} {l l' : List UInt8} {k k' m : Nat} {o0 o1 : Obj} {τ : Heap} (h : g (.ptr 0 0 0 :: ps.map .p) [bldO 0 1 0 k, bufO l 0] = some (.ret (.p v), bldO 0 1 1 k' :: bufO l' 1 :: τ)) :
    wrapF g true (.ptr 2 0 0 :: ps.map .p) [o0, o1, bldO 2 3 m k, bufO l m] = some (.ret (.p v), [o0, o1, bldO 2 3 (m + 1) k', bufO l' (m + 1)]) := by
  have h1 := fun tl σ => frzA_pure (tl := tl) (d := 8) ps σ
  have h2 := idsL_pure ps
  have h3 := fun g => renL_pure (g := g) ps
  simp [wrapF, frzA, frz, touch, collect, idsL, idsV, idsO, innerW, listOf, versO, Obj.ver, uniq, posOf, inOK, renL, renV, fwd, shrinkH, shO, renC, outL, keepK, resIds, Nat.blt, Nat.ble, backOK, renR, bwd, mergeH, putBack, bkO, range2, h, h1, h2, h3]
theorem wrap_end {g : List AV → Heap → Option (CRes × Heap)} {v : PV} {o0 o1 : Obj} (h : g [.ptr 0 0 0] [bld0] = some (.ret (.p v), [bld0])) :
    wrapF g true [.ptr 2 0 0] [o0, o1, bld0] = some (.ret (.p v), [o0, o1, bld0]) := by
  simp [wrapF, frzA, frz, touch, collect, idsL, idsV, idsO, innerW, listOf, versO, Obj.ver, uniq, posOf, inOK, renL, renV, fwd, shrinkH, shO, renC, outL, keepK, resIds, Nat.blt, Nat.ble, backOK, renR, bwd, mergeH, putBack, bkO, range2, h]
theorem wrap_end' {g : List AV → Heap → Option (CRes × Heap)} {v : PV} {l : List UInt8} {k m : Nat} {o0 o1 : Obj} (h : g [.ptr 0 0 0] [bldO 0 1 0 k, bufO l 0] = some (.ret (.p v), [bldO 0 1 0 k, .arr (.pv (bp l)) 0 k (some 5)])) :
    wrapF g true [.ptr 2 0 0] [o0, o1, bldO 2 3 m k, bufO l m] = some (.ret (.p v), [o0, o1, bldO 2 3 m k, .arr (.pv (bp l)) m k (some 5)]) := by
  simp [wrapF, frzA, frz, touch, collect, idsL, idsV, idsO, innerW, listOf, versO, Obj.ver, uniq, posOf, inOK, renL, renV, fwd, shrinkH, shO, renC, outL, keepK, resIds, Nat.blt, Nat.ble, backOK, renR, bwd, mergeH, putBack, bkO, range2, h]
theorem fits37 (s : PV) : fits lit37 (.ptr 0 0 0 :: [s].map .p) = true := rfl
theorem fits41 (s : PV) : fits lit41 (.ptr 0 0 0 :: [s].map .p) = true := rfl
theorem fits38 : fits lit38 [.ptr 0 0 0] = true := rfl
section
variable (m : Int) (L n : Nat)
theorem cAt_succ (T : Table) (L n : Nat) : cAt T L (n + 1) = (callT T (cAt T L n).1 (cAt T L n).2 L, defT T (cAt T L n).1 L) := rfl
theorem write_at {o0 o1 : Obj} {σ : Heap} {l : List UInt8} (h : BH o0 o1 σ l) (c : UInt8) (hl : l.length + 1 ≤ LIM) :
    ∃ σ', (cAt (TE (G 0 m)) L (n + 2)).1 37 [.ptr 2 0 0, .p (.str [c])] σ = some (.ret (.p (.tup [.int .i64 1, .nilif])), σ') ∧ BH o0 o1 σ' (l ++ [c]) := by
  have c1 := copy_new m L n
  have c2 := fun k l => copy_old m L n k l
  rw [cAt_succ]
  simp only [callT, q37 m]
  generalize (cAt (TE (G 0 m)) L (n + 1)).1 = C at *
  generalize (cAt (TE (G 0 m)) L (n + 1)).2 = D
  cases h with
  | new => exact ⟨_, wrap_new (ps := [.str [c]]) (by simp only [runCode, fits37]; exact write_new L C D c1 c) (.inl rfl), .old 0 0 [c] rfl⟩
  | old m' k l h =>
    have hk : (l ++ [c]).length = k + 1 + 1 := by simp [h]
    exact ⟨_, wrap_old (ps := [.str [c]]) (by simp only [runCode, fits37]; rw [← h]; exact write_old L C D l (c2 _ _) c hl), by rw [h]; exact .old (m' + 1) (k + 1) (l ++ [c]) hk⟩
theorem byte_at' {o0 o1 : Obj} {σ : Heap} {l : List UInt8} (h : BH o0 o1 σ l) (hl : l.length + 1 ≤ LIM) :
    ∃ σ', (cAt (TE (G 0 m)) L (n + 2)).1 41 [.ptr 2 0 0, .p (.int .u8 0)] σ = some (.ret (.p .nilif), σ') ∧ BH o0 o1 σ' (l ++ [0]) := by
  have c1 := copy_new m L n
  have c2 := fun k l => copy_old m L n k l
  rw [cAt_succ]
  simp only [callT, q41 m]
  generalize (cAt (TE (G 0 m)) L (n + 1)).1 = C at *
  generalize (cAt (TE (G 0 m)) L (n + 1)).2 = D
  cases h with
  | new => exact ⟨_, wrap_new (ps := [.int .u8 0]) (by simp only [runCode, fits41]; exact byte_new L C D c1) (.inr ⟨_, rfl⟩), .old 0 0 [0] rfl⟩
  | old m' k l h =>
    have hk : (l ++ [0]).length = k + 1 + 1 := by simp [h]
    exact ⟨_, wrap_old (ps := [.int .u8 0]) (by simp only [runCode, fits41]; rw [← h]; exact byte_old L C D l (c2 _ _) hl), by rw [h]; exact .old (m' + 1) (k + 1) (l ++ [0]) hk⟩
theorem str_at {o0 o1 : Obj} {σ : Heap} {l : List UInt8} (h : BH o0 o1 σ l) (hl : l.length ≤ LIM) :
    ∃ τ, (cAt (TE (G 0 m)) L (n + 1)).1 38 [.ptr 2 0 0] σ = some (.ret (.p (.str l)), o0 :: o1 :: τ) := by
  rw [cAt_succ]
  simp only [callT, q38 m]
  generalize (cAt (TE (G 0 m)) L n).1 = C at *
  generalize (cAt (TE (G 0 m)) L n).2 = D
  cases h with
  | new => exact ⟨_, wrap_end (by simp only [runCode, fits38]; exact str_new L C D)⟩
  | old m' k l h => exact ⟨_, wrap_end' (by simp only [runCode, fits38]; exact str_old L C D l k h (by omega))⟩
theorem BH.set {o0 o1 : Obj} {σ : Heap} {l : List UInt8} (h : BH o0 o1 σ l) (o : Obj) : BH o o1 (σ.set 0 o) l := by
  cases h with
  | new => exact .new
  | old m k l h => exact .old m k l h
theorem BH.box {o0 o1 : Obj} {σ : Heap} {l : List UInt8} (h : BH o0 o1 σ l) : σ[0]? = some o0 := by
  cases h <;> rfl
theorem BH.cell {o0 o1 : Obj} {σ : Heap} {l : List UInt8} (h : BH o0 o1 σ l) : σ[1]? = some o1 := by
  cases h <;> rfl
end
end Go.Ab.Key
