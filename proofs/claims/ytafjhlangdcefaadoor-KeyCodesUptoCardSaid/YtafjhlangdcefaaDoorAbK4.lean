/- The laws of keys: how a call's own heap comes back; raw values and rows of them. -/
import Derived.Test.YtafjhlangdcefaaDoorAbK3
set_option linter.unusedSectionVars false
set_option linter.unusedSimpArgs false
set_option linter.unusedVariables false
set_option maxRecDepth 1000000
namespace Go.Ab.Key
open Go Go.Ab Go.Proofs
variable [Marks]
theorem seqN {C : Oracle} {L : Nat} {a b : ACode} {st st1 : St} (h : exec C L a st = some (.normal, st1)) : exec C L (.seq a b) st = exec C L b st1 := by
  simp only [exec, h]
theorem seqR {C : Oracle} {L : Nat} {a b : ACode} {st st1 : St} (h : exec C L a st = some (.ret, st1)) : exec C L (.seq a b) st = some (.ret, st1) := by
  simp only [exec, h]
theorem seqX {C : Oracle} {L id : Nat} {a b : ACode} {st st1 : St} (h : exec C L a st = some (.exit id, st1)) : exec C L (.seq a b) st = some (.exit id, st1) := by
  simp only [exec, h]
theorem condT {C : Oracle} {L : Nat} {c : Opd} {a b : ACode} {st : St} (h : ev st.env c = some (.p (.bool true))) : exec C L (.cond c a b) st = exec C L a st := by
  simp only [exec, h]
theorem condF {C : Oracle} {L : Nat} {c : Opd} {a b : ACode} {st : St} (h : ev st.env c = some (.p (.bool false))) : exec C L (.cond c a b) st = exec C L b st := by
  simp only [exec, h]
theorem blockN {C : Oracle} {L id : Nat} {b : ACode} {st st1 : St} (h : exec C L b st = some (.normal, st1)) : exec C L (.block id b) st = some (.normal, st1) := by
  simp only [exec, h]
theorem blockX {C : Oracle} {L id : Nat} {b : ACode} {st st1 : St} (h : exec C L b st = some (.exit id, st1)) : exec C L (.block id b) st = some (.normal, st1) := by
  simp only [exec, h, if_true]
theorem blockR {C : Oracle} {L id : Nat} {b : ACode} {st st1 : St} (h : exec C L b st = some (.ret, st1)) : exec C L (.block id b) st = some (.ret, st1) := by
  simp only [exec, h]
/-- a call's end -/
def finX (D : DOracle) (af : AFunc) : Option (AExit × St) → Option (CRes × Heap)
  | some (.pan v, st) => finA D af st (some v)
  | some (.normal, st) => finA D af st none
  | some (.ret, st) => finA D af st none
  | _ => none
theorem runFunc_eq (C : Oracle) (D : DOracle) (L : Nat) (af : AFunc) (args : List AV) (σ : Heap) : runFunc C D L af args σ = finX D af (exec C L af.body ⟨params 0 args, [], σ⟩) := rfl
theorem wrap_id (n : Int) (h1 : -9223372036854775808 ≤ n) (h2 : n ≤ 9223372036854775807) : IntKind.i64.wrap n = n := by
  simp only [IntKind.wrap, IntKind.bits, IntKind.signed]
  simp
  split <;> omega
/-- a call with pure arguments whose answer is a new slice -/
theorem wrap_slice {g : List AV → Heap → Option (CRes × Heap)} {fz : Bool} {ps : List PV} {id ver n esz : Nat} {cells : List PV} {ty : Option Nat} {σr : Heap} (h : g (ps.map .p) [] = some (.ret (.sl id ver 0 n esz), σr))
    (ho : σr[id]? = some (.arr (.pv cells) ver 0 ty)) (σ : Heap) : wrapF g fz (ps.map .p) σ = some (.ret (.sl σ.length 0 0 n esz), σ ++ [.arr (.pv cells) 0 0 ty]) := by
  have key : innerW g (ps.map .p) σ [] = some (.ret (.sl σ.length 0 0 n esz), σ ++ [.arr (.pv cells) 0 0 ty]) := by
    have hout : outL 0 (.ret (.sl id ver 0 n esz)) σr = [(id, ver)] := by
      have hb : Nat.blt id 0 = false := by
        unfold Nat.blt
        simp [Nat.ble]
      simp [outL, keepK, resIds, idsV, collect, listOf, idsO, ho, versO, hb, Obj.ver]
    have hsh : shrinkH [(id, ver)] σr = [.arr (.pv cells) 0 0 ty] := by
      simp [shrinkH, ho, shO, renC]
    unfold innerW
    have h1 : (uniq [] && inOK [] σ.length) = true := rfl
    have h2 : shrinkH [] σ = [] := rfl
    simp only [h1, renL_pure, h2, h, List.length_nil, hout]
    have h4 : (uniq [(id, ver)] && backOK [] [Obj.arr (.pv cells) 0 0 ty]) = true := rfl
    simp only [hsh, h4]
    have hbeq : Nat.beq id id = true := Nat.beq_refl id
    simp [renR, renV, fwd, posOf, hbeq, bwd, mergeH, putBack, bkO, renC]
  unfold wrapF
  cases fz with
  | false =>
    simp only [touch_pure, List.all_nil]
    exact key
  | true =>
    simp only [frzA_pure, touch_pure, List.all_nil]
    exact key
theorem call_slice {T : Table} {L n f : Nat} {af : AFunc} {fz : Bool} {ps : List PV} {id ver k esz : Nat} {cells : List PV} {ty : Option Nat} {σr : Heap} (hT : T f = some (.code af fz)) (hf : fits af (ps.map .p) = true)
    (h : runFunc (cAt T L n).1 (cAt T L n).2 L af (ps.map .p) [] = some (.ret (.sl id ver 0 k esz), σr)) (ho : σr[id]? = some (.arr (.pv cells) ver 0 ty)) (σ : Heap) :
    (cAt T L (n + 1)).1 f (ps.map .p) σ = some (.ret (.sl σ.length 0 0 k esz), σ ++ [.arr (.pv cells) 0 0 ty]) := by
  simp only [cAt, callT, hT]
  exact wrap_slice (by unfold runCode; rw [hf]; exact h) ho σ
/-- a value's cells -/
def vc : V → List PV
  | .null => [.int .i64 0, .int .i64 0, .str [], .bool false]
  | .num n => [.int .i64 1, .int .i64 n, .str [], .bool false]
  | .text s => [.int .i64 2, .int .i64 0, .str s, .bool false]
  | .bool b => [.int .i64 3, .int .i64 0, .str [], .bool b]
def vcs (l : List V) : List PV := (l.map vc).flatten
theorem vc_len (v : V) : (vc v).length = 4 := by cases v <;> rfl
theorem vcs_len (l : List V) : (vcs l).length = l.length * 4 := by
  induction l with
  | nil => rfl
  | cons v r ih => simp only [vcs, List.map_cons, List.flatten_cons, List.length_append, vc_len, List.length_cons] at *; omega
/-- which of four things a raw number speaks of -/
def pickI (c : Int) : Int := (if c < 0 then -(c + 1) else c).tmod 4
def rawV (k n : Int) (s : List UInt8) (b : Bool) : V := if pickI k = 1 then .num n else if pickI k = 2 then .text s else if pickI k = 3 then .bool b else .null
def rawP (k n : Int) (s : List UInt8) (b : Bool) : List PV := [.int .i64 k, .int .i64 n, .str s, .bool b]
def lit28 : AFunc := { ntmps := 13, results := [ARes.tmp 4], body := (ACode.region [{ dst := some 4, op := AOp.mv (Opd.c (AV.p (PV.int IntKind.i64 (0)))), guard := none }]).seq (((ACode.region [{ dst := some 5, op := AOp.mv (Opd.t 0), guard := none }, { dst := some 6, op := AOp.bin (Bin.plain BinOp.lss) (Opd.t 5) (Opd.c (AV.p (PV.int IntKind.i64 (0)))), guard := none }]).seq (ACode.cond (Opd.t 6) (ACode.region [{ dst := some 7, op := AOp.mv (Opd.t 0), guard := none }, { dst := some 8, op := AOp.bin (Bin.plain BinOp.add) (Opd.t 7) (Opd.c (AV.p (PV.int IntKind.i64 (1)))), guard := none }, { dst := some 9, op := AOp.un UnOp.neg (Opd.t 8), guard := none }, { dst := some 0, op := AOp.mv (Opd.t 9), guard := none }]) ACode.skip)).seq ((ACode.region [{ dst := some 10, op := AOp.mv (Opd.t 0), guard := none }, { dst := some 11, op := AOp.mv (Opd.t 1), guard := none }, { dst := some 12, op := AOp.bin (Bin.plain BinOp.rem) (Opd.t 10) (Opd.t 11), guard := none }, { dst := some 4, op := AOp.mv (Opd.t 12), guard := none }]).seq ACode.ret)) }
def lit29 : AFunc := { ntmps := 5, results := [ARes.cell 2 true 4], body := (ACode.region [{ dst := some 2, op := AOp.alloc 39 [AV.p (PV.int IntKind.i64 (0)), AV.p (PV.int IntKind.i64 (0)), AV.p (PV.str []), AV.p (PV.bool false)], guard := none }]).seq ((ACode.region [{ dst := some 3, op := AOp.mv (Opd.t 0), guard := none }, { dst := some 4, op := AOp.build [AV.p (PV.int IntKind.i64 (0)), AV.p (PV.int IntKind.i64 (0)), AV.p (PV.str []), AV.p (PV.bool false)] [(0, 1, Opd.c (AV.p (PV.int IntKind.i64 (1)))), (1, 1, Opd.t 3)], guard := none }, { dst := none, op := AOp.store 4 (Opd.t 2) (Opd.t 4), guard := none }]).seq ACode.ret) }
def lit21 : AFunc := { ntmps := 5, results := [ARes.cell 2 true 4], body := (ACode.region [{ dst := some 2, op := AOp.alloc 39 [AV.p (PV.int IntKind.i64 (0)), AV.p (PV.int IntKind.i64 (0)), AV.p (PV.str []), AV.p (PV.bool false)], guard := none }]).seq ((ACode.region [{ dst := some 3, op := AOp.mv (Opd.t 0), guard := none }, { dst := some 4, op := AOp.build [AV.p (PV.int IntKind.i64 (0)), AV.p (PV.int IntKind.i64 (0)), AV.p (PV.str []), AV.p (PV.bool false)] [(0, 1, Opd.c (AV.p (PV.int IntKind.i64 (2)))), (2, 1, Opd.t 3)], guard := none }, { dst := none, op := AOp.store 4 (Opd.t 2) (Opd.t 4), guard := none }]).seq ACode.ret) }
def lit17 : AFunc := { ntmps := 22, results := [ARes.cell 2 true 4], body := (ACode.region [{ dst := some 1, op := AOp.box 4 (Opd.t 0), guard := none }, { dst := some 2, op := AOp.alloc 39 [AV.p (PV.int IntKind.i64 (0)), AV.p (PV.int IntKind.i64 (0)), AV.p (PV.str []), AV.p (PV.bool false)], guard := none }]).seq (((ACode.region [{ dst := some 3, op := AOp.fieldAddr 0 (Opd.t 1), guard := none }, { dst := some 4, op := AOp.load false 1 (Opd.t 3), guard := none }, { dst := some 5, op := AOp.call (Opd.c (AV.p (PV.fn 28))) [Opd.t 4, Opd.c (AV.p (PV.int IntKind.i64 (4)))], guard := none }]).seq (ACode.block 0 ((ACode.region [{ dst := some 7, op := AOp.bin (Bin.plain BinOp.eql) (Opd.t 5) (Opd.c (AV.p (PV.int IntKind.i64 (1)))), guard := none }, { dst := some 6, op := AOp.mv (Opd.t 7), guard := none }]).seq (ACode.cond (Opd.t 6) ((ACode.region [{ dst := some 8, op := AOp.fieldAddr 1 (Opd.t 1), guard := none }, { dst := some 9, op := AOp.load false 1 (Opd.t 8), guard := none }, { dst := some 10, op := AOp.call (Opd.c (AV.p (PV.fn 29))) [Opd.t 9], guard := none }, { dst := none, op := AOp.store 4 (Opd.t 2) (Opd.t 10), guard := none }]).seq ACode.ret) ((ACode.region [{ dst := some 12, op := AOp.bin (Bin.plain BinOp.eql) (Opd.t 5) (Opd.c (AV.p (PV.int IntKind.i64 (2)))), guard := none }, { dst := some 11, op := AOp.mv (Opd.t 12), guard := none }]).seq (ACode.cond (Opd.t 11) ((ACode.region [{ dst := some 13, op := AOp.fieldAddr 2 (Opd.t 1), guard := none }, { dst := some 14, op := AOp.load false 1 (Opd.t 13), guard := none }, { dst := some 15, op := AOp.call (Opd.c (AV.p (PV.fn 21))) [Opd.t 14], guard := none }, { dst := none, op := AOp.store 4 (Opd.t 2) (Opd.t 15), guard := none }]).seq ACode.ret) ((ACode.region [{ dst := some 17, op := AOp.bin (Bin.plain BinOp.eql) (Opd.t 5) (Opd.c (AV.p (PV.int IntKind.i64 (3)))), guard := none }, { dst := some 16, op := AOp.mv (Opd.t 17), guard := none }]).seq (ACode.cond (Opd.t 16) ((ACode.region [{ dst := some 18, op := AOp.fieldAddr 3 (Opd.t 1), guard := none }, { dst := some 19, op := AOp.load false 1 (Opd.t 18), guard := none }, { dst := some 20, op := AOp.build [AV.p (PV.int IntKind.i64 (0)), AV.p (PV.int IntKind.i64 (0)), AV.p (PV.str []), AV.p (PV.bool false)] [(0, 1, Opd.c (AV.p (PV.int IntKind.i64 (3)))), (3, 1, Opd.t 19)], guard := none }, { dst := none, op := AOp.store 4 (Opd.t 2) (Opd.t 20), guard := none }]).seq ACode.ret) ACode.skip)))))))).seq ((ACode.region [{ dst := some 21, op := AOp.build [AV.p (PV.int IntKind.i64 (0)), AV.p (PV.int IntKind.i64 (0)), AV.p (PV.str []), AV.p (PV.bool false)] [], guard := none }, { dst := none, op := AOp.store 4 (Opd.t 2) (Opd.t 21), guard := none }]).seq ACode.ret)) }
def lit8 : AFunc := { ntmps := 24, results := [ARes.tmp 2], body := (ACode.region [{ dst := some 2, op := AOp.mv (Opd.c AV.nil0), guard := none }]).seq ((ACode.region [{ dst := some 3, op := AOp.mv (Opd.c AV.nil0), guard := none }]).seq (((ACode.region [{ dst := some 4, op := AOp.mv (Opd.c (AV.p (PV.int IntKind.i64 (0)))), guard := none }]).seq (ACode.block 0 (ACode.loop none (((ACode.region [{ dst := some 5, op := AOp.mv (Opd.t 4), guard := none }, { dst := some 6, op := AOp.mv (Opd.t 0), guard := none }, { dst := some 7, op := AOp.len false (Opd.t 6), guard := none }, { dst := some 8, op := AOp.bin (Bin.plain BinOp.lss) (Opd.t 5) (Opd.t 7), guard := none }, { dst := some 9, op := AOp.mv (Opd.t 8), guard := none }, { dst := some 10, op := AOp.mv (Opd.t 4), guard := some (9, true) }, { dst := some 11, op := AOp.bin (Bin.plain BinOp.lss) (Opd.t 10) (Opd.c (AV.p (PV.int IntKind.i64 (40)))), guard := some (9, true) }, { dst := some 12, op := AOp.pick (Opd.t 9) (Opd.t 11) (Opd.c (AV.p (PV.bool false))), guard := none }]).seq (ACode.cond (Opd.t 12) ACode.skip (ACode.exit 0))).seq ((ACode.block 1 (ACode.region [{ dst := some 15, op := AOp.mv (Opd.t 3), guard := none }, { dst := some 16, op := AOp.mv (Opd.t 0), guard := none }, { dst := some 17, op := AOp.mv (Opd.t 4), guard := none }, { dst := some 18, op := AOp.idx 4 (Opd.t 16) (Opd.t 17), guard := none }, { dst := some 19, op := AOp.load true 4 (Opd.t 18), guard := none }, { dst := some 20, op := AOp.call (Opd.c (AV.p (PV.fn 17))) [Opd.t 19], guard := none }, { dst := some 21, op := AOp.buildSlice [AV.p (PV.int IntKind.i64 (0)), AV.p (PV.int IntKind.i64 (0)), AV.p (PV.str []), AV.p (PV.bool false)] 1 4 [(0, 4, Opd.t 20)], guard := none }, { dst := some 22, op := AOp.append 39 4 [AV.p (PV.int IntKind.i64 (0)), AV.p (PV.int IntKind.i64 (0)), AV.p (PV.str []), AV.p (PV.bool false)] (Opd.t 15) (Opd.t 21), guard := none }, { dst := some 3, op := AOp.mv (Opd.t 22), guard := none }])).seq (ACode.region [{ dst := some 13, op := AOp.mv (Opd.t 4), guard := none }, { dst := some 14, op := AOp.bin (Bin.plain BinOp.add) (Opd.t 13) (Opd.c (AV.p (PV.int IntKind.i64 (1)))), guard := none }, { dst := some 4, op := AOp.mv (Opd.t 14), guard := none }])))))).seq ((ACode.region [{ dst := some 23, op := AOp.mv (Opd.t 3), guard := none }, { dst := some 2, op := AOp.mv (Opd.t 23), guard := none }]).seq ACode.ret))) }
section
variable (m : Int)
theorem c28 : cFunc Tryd.prog (G 0 m) [] Tryd.f28 = some lit28 := by kernel_rfl
theorem c29 : cFunc Tryd.prog (G 0 m) [] Tryd.f29 = some lit29 := by kernel_rfl
theorem c21 : cFunc Tryd.prog (G 0 m) [] Tryd.f21 = some lit21 := by kernel_rfl
theorem c17 : cFunc Tryd.prog (G 0 m) [] Tryd.f17 = some lit17 := by kernel_rfl
theorem c8 : cFunc Tryd.prog (G 0 m) [] Tryd.f8 = some lit8 := by kernel_rfl
theorem q28 : TE (G 0 m) 28 = some (.code lit28 true) := by kernel_rfl
theorem q29 : TE (G 0 m) 29 = some (.code lit29 true) := by kernel_rfl
theorem q21 : TE (G 0 m) 21 = some (.code lit21 true) := by kernel_rfl
theorem q17 : TE (G 0 m) 17 = some (.code lit17 true) := by kernel_rfl
theorem q8 : TE (G 0 m) 8 = some (.code lit8 true) := by kernel_rfl
variable (L n : Nat)
theorem pick28 (c : Int) (h1 : -9223372036854775808 ≤ c) (h2 : c ≤ 9223372036854775807) (σ : Heap) : (cAt (TE (G 0 m)) L (n + 1)).1 28 [.p (.int .i64 c), .p (.int .i64 4)] σ = some (.ret (.p (.int .i64 (pickI c))), σ) := by
  refine call_ans (ps := [.int .i64 c, .int .i64 4]) (q28 m) (by kernel_rfl) ?_ σ
  unfold pickI
  by_cases hc : c < 0
  · have e1 : IntKind.i64.wrap (c + 1) = c + 1 := wrap_id _ (by omega) (by omega)
    have e2 : IntKind.i64.wrap (-(c + 1)) = -(c + 1) := wrap_id _ (by omega) (by omega)
    simp [lit28, runFunc, params, exec, runOps, wantedA, stepOp, pureOp, allocOp, readOp, effOp, ev, evs, evO, Env.get_cons, putE, binA, intBin, unA, AV.fit, AV.toCells, partC, partP, mkCells, allP, mkAgg, Cells.len, target, evParts, fillA, AV.cells, splice, spliceC, finA, leaveA, resA, resV, ansV, hc, e1, e2]
  · simp [lit28, runFunc, params, exec, runOps, wantedA, stepOp, pureOp, allocOp, readOp, effOp, ev, evs, evO, Env.get_cons, putE, binA, intBin, unA, AV.fit, AV.toCells, partC, partP, mkCells, allP, mkAgg, Cells.len, target, evParts, fillA, AV.cells, splice, spliceC, finA, leaveA, resA, resV, ansV, hc]
theorem num29 (x : Int) (σ : Heap) : (cAt (TE (G 0 m)) L (n + 1)).1 29 [.p (.int .i64 x)] σ = some (.ret (.p (.agg (vc (.num x)))), σ) :=
  call_ans (ps := [.int .i64 x]) (q29 m) (by kernel_rfl) (by kernel_rfl) σ
theorem text21 (s : List UInt8) (σ : Heap) : (cAt (TE (G 0 m)) L (n + 1)).1 21 [.p (.str s)] σ = some (.ret (.p (.agg (vc (.text s)))), σ) :=
  call_ans (ps := [.str s]) (q21 m) (by kernel_rfl) (by kernel_rfl) σ
theorem value17 (k x : Int) (s : List UInt8) (b : Bool) (h1 : -9223372036854775808 ≤ k) (h2 : k ≤ 9223372036854775807) (σ : Heap) :
    (cAt (TE (G 0 m)) L (n + 2)).1 17 [.p (.agg (rawP k x s b))] σ = some (.ret (.p (.agg (vc (rawV k x s b)))), σ) := by
  refine call_ans (ps := [.agg (rawP k x s b)]) (n := n + 1) (q17 m) (by kernel_rfl) ?_ σ
  have e28 := pick28 m L n k h1 h2
  have e29 := num29 m L n
  have e21 := text21 m L n
  generalize (cAt (TE (G 0 m)) L (n + 1)).1 = C at *
  generalize (cAt (TE (G 0 m)) L (n + 1)).2 = D
  unfold rawV rawP
  by_cases p1 : pickI k = 1
  · simp [lit17, runFunc, params, exec, runOps, wantedA, stepOp, pureOp, allocOp, readOp, effOp, ev, evs, evO, Env.get_cons, putE, binA, intBin, unA, AV.fit, AV.toCells, partC, partP, mkCells, allP, mkAgg, Cells.len, target, evParts, fillA, AV.cells, splice, spliceC, finA, leaveA, resA, resV, ansV, e28, e29, p1, vc]
  · by_cases p2 : pickI k = 2
    · simp [lit17, runFunc, params, exec, runOps, wantedA, stepOp, pureOp, allocOp, readOp, effOp, ev, evs, evO, Env.get_cons, putE, binA, intBin, unA, AV.fit, AV.toCells, partC, partP, mkCells, allP, mkAgg, Cells.len, target, evParts, fillA, AV.cells, splice, spliceC, finA, leaveA, resA, resV, ansV, e28, e21, p2, vc]
    · by_cases p3 : pickI k = 3
      · simp [lit17, runFunc, params, exec, runOps, wantedA, stepOp, pureOp, allocOp, readOp, effOp, ev, evs, evO, Env.get_cons, putE, binA, intBin, unA, AV.fit, AV.toCells, partC, partP, mkCells, allP, mkAgg, Cells.len, target, evParts, fillA, AV.cells, splice, spliceC, finA, leaveA, resA, resV, ansV, e28, p3, vc]
      · have g1 : (pickI k == 1) = false := beq_eq_false_iff_ne.2 p1
        have g2 : (pickI k == 2) = false := beq_eq_false_iff_ne.2 p2
        have g3 : (pickI k == 3) = false := beq_eq_false_iff_ne.2 p3
        simp [lit17, runFunc, params, exec, runOps, wantedA, stepOp, pureOp, allocOp, readOp, effOp, ev, evs, evO, Env.get_cons, putE, binA, intBin, unA, AV.fit, AV.toCells, partC, partP, mkCells, allP, mkAgg, Cells.len, target, evParts, fillA, AV.cells, splice, spliceC, finA, leaveA, resA, resV, ansV, e28, g1, g2, g3, p1, p2, p3, vc]
end
end Go.Ab.Key
