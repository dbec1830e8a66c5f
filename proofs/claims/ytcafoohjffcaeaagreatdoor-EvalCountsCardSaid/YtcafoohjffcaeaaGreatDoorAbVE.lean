/- EvalCounts: slices.DeleteFunc: what is null goes out of a list, in its place. -/
import Derived.Test.YtcafoohjffcaeaaGreatDoorAbVA
set_option linter.unusedSectionVars false
set_option linter.unusedSimpArgs false
set_option linter.unusedVariables false
set_option maxRecDepth 1000000
namespace Go.Ab.Cnt
open Go Go.Ab Go.Ab.Key Go.Proofs
variable [Marks]
def lit25 : AFunc := { ntmps := 42, results := [ARes.tmp 4], body := (ACode.region [{ dst := some 4, op := AOp.mv (Opd.c AV.nil0), guard := none }]).seq ((ACode.region [{ dst := some 8, op := AOp.mv (Opd.t 0), guard := none }, { dst := some 9, op := AOp.mv (Opd.t 1), guard := none }, { dst := some 10, op := AOp.call (Opd.c (AV.p (PV.fn 40))) [Opd.t 8, Opd.t 9], guard := none }, { dst := some 5, op := AOp.mv (Opd.t 10), guard := none }]).seq (((ACode.region [{ dst := some 11, op := AOp.mv (Opd.t 5), guard := none }, { dst := some 12, op := AOp.bin (Bin.plain BinOp.eql) (Opd.t 11) (Opd.c (AV.p (PV.int IntKind.i64 ((-1))))), guard := none }]).seq (ACode.cond (Opd.t 12) ((ACode.region [{ dst := some 13, op := AOp.mv (Opd.t 0), guard := none }, { dst := some 4, op := AOp.mv (Opd.t 13), guard := none }]).seq ACode.ret) ACode.skip)).seq (((ACode.region [{ dst := some 14, op := AOp.mv (Opd.t 5), guard := none }, { dst := some 15, op := AOp.bin (Bin.plain BinOp.add) (Opd.t 14) (Opd.c (AV.p (PV.int IntKind.i64 (1)))), guard := none }, { dst := some 6, op := AOp.mv (Opd.t 15), guard := none }]).seq (ACode.block 0 (ACode.loop none (((ACode.region [{ dst := some 16, op := AOp.mv (Opd.t 6), guard := none }, { dst := some 17, op := AOp.mv (Opd.t 0), guard := none }, { dst := some 18, op := AOp.len false (Opd.t 17), guard := none }, { dst := some 19, op := AOp.bin (Bin.plain BinOp.lss) (Opd.t 16) (Opd.t 18), guard := none }]).seq (ACode.cond (Opd.t 19) ACode.skip (ACode.exit 0))).seq ((ACode.block 1 ((ACode.region [{ dst := some 22, op := AOp.mv (Opd.t 0), guard := none }, { dst := some 23, op := AOp.mv (Opd.t 6), guard := none }, { dst := some 24, op := AOp.idx 4 (Opd.t 22) (Opd.t 23), guard := none }, { dst := some 25, op := AOp.load true 4 (Opd.t 24), guard := none }, { dst := some 7, op := AOp.alloc 30 [AV.p (PV.int IntKind.i64 (0)), AV.p (PV.int IntKind.i64 (0)), AV.p (PV.str []), AV.p (PV.bool false)], guard := none }, { dst := none, op := AOp.store 4 (Opd.t 7) (Opd.t 25), guard := none }]).seq ((ACode.region [{ dst := some 26, op := AOp.mv (Opd.t 1), guard := none }, { dst := some 27, op := AOp.load true 4 (Opd.t 7), guard := none }, { dst := some 28, op := AOp.call (Opd.t 26) [Opd.t 27], guard := none }, { dst := some 29, op := AOp.un UnOp.not (Opd.t 28), guard := none }]).seq (ACode.cond (Opd.t 29) ((ACode.region [{ dst := some 30, op := AOp.mv (Opd.t 0), guard := none }, { dst := some 31, op := AOp.mv (Opd.t 5), guard := none }, { dst := some 32, op := AOp.load true 4 (Opd.t 7), guard := none }, { dst := some 33, op := AOp.idx 4 (Opd.t 30) (Opd.t 31), guard := none }, { dst := none, op := AOp.store 4 (Opd.t 33) (Opd.t 32), guard := none }]).seq (ACode.region [{ dst := some 34, op := AOp.mv (Opd.t 5), guard := none }, { dst := some 35, op := AOp.bin (Bin.plain BinOp.add) (Opd.t 34) (Opd.c (AV.p (PV.int IntKind.i64 (1)))), guard := none }, { dst := some 5, op := AOp.mv (Opd.t 35), guard := none }])) ACode.skip)))).seq (ACode.region [{ dst := some 20, op := AOp.mv (Opd.t 6), guard := none }, { dst := some 21, op := AOp.bin (Bin.plain BinOp.add) (Opd.t 20) (Opd.c (AV.p (PV.int IntKind.i64 (1)))), guard := none }, { dst := some 6, op := AOp.mv (Opd.t 21), guard := none }])))))).seq ((ACode.region [{ dst := some 36, op := AOp.mv (Opd.t 0), guard := none }, { dst := some 37, op := AOp.mv (Opd.t 5), guard := none }, { dst := some 38, op := AOp.slice 4 (Opd.t 36) (some (Opd.t 37)) none, guard := none }, { dst := none, op := AOp.clear [AV.p (PV.int IntKind.i64 (0)), AV.p (PV.int IntKind.i64 (0)), AV.p (PV.str []), AV.p (PV.bool false)] 4 (Opd.t 38), guard := none }]).seq ((ACode.region [{ dst := some 39, op := AOp.mv (Opd.t 0), guard := none }, { dst := some 40, op := AOp.mv (Opd.t 5), guard := none }, { dst := some 41, op := AOp.slice 4 (Opd.t 39) none (some (Opd.t 40)), guard := none }, { dst := some 4, op := AOp.mv (Opd.t 41), guard := none }]).seq ACode.ret))))) }
def body25 : ACode := (((ACode.region [{ dst := some 16, op := AOp.mv (Opd.t 6), guard := none }, { dst := some 17, op := AOp.mv (Opd.t 0), guard := none }, { dst := some 18, op := AOp.len false (Opd.t 17), guard := none }, { dst := some 19, op := AOp.bin (Bin.plain BinOp.lss) (Opd.t 16) (Opd.t 18), guard := none }]).seq (ACode.cond (Opd.t 19) ACode.skip (ACode.exit 0))).seq ((ACode.block 1 ((ACode.region [{ dst := some 22, op := AOp.mv (Opd.t 0), guard := none }, { dst := some 23, op := AOp.mv (Opd.t 6), guard := none }, { dst := some 24, op := AOp.idx 4 (Opd.t 22) (Opd.t 23), guard := none }, { dst := some 25, op := AOp.load true 4 (Opd.t 24), guard := none }, { dst := some 7, op := AOp.alloc 30 [AV.p (PV.int IntKind.i64 (0)), AV.p (PV.int IntKind.i64 (0)), AV.p (PV.str []), AV.p (PV.bool false)], guard := none }, { dst := none, op := AOp.store 4 (Opd.t 7) (Opd.t 25), guard := none }]).seq ((ACode.region [{ dst := some 26, op := AOp.mv (Opd.t 1), guard := none }, { dst := some 27, op := AOp.load true 4 (Opd.t 7), guard := none }, { dst := some 28, op := AOp.call (Opd.t 26) [Opd.t 27], guard := none }, { dst := some 29, op := AOp.un UnOp.not (Opd.t 28), guard := none }]).seq (ACode.cond (Opd.t 29) ((ACode.region [{ dst := some 30, op := AOp.mv (Opd.t 0), guard := none }, { dst := some 31, op := AOp.mv (Opd.t 5), guard := none }, { dst := some 32, op := AOp.load true 4 (Opd.t 7), guard := none }, { dst := some 33, op := AOp.idx 4 (Opd.t 30) (Opd.t 31), guard := none }, { dst := none, op := AOp.store 4 (Opd.t 33) (Opd.t 32), guard := none }]).seq (ACode.region [{ dst := some 34, op := AOp.mv (Opd.t 5), guard := none }, { dst := some 35, op := AOp.bin (Bin.plain BinOp.add) (Opd.t 34) (Opd.c (AV.p (PV.int IntKind.i64 (1)))), guard := none }, { dst := some 5, op := AOp.mv (Opd.t 35), guard := none }])) ACode.skip)))).seq (ACode.region [{ dst := some 20, op := AOp.mv (Opd.t 6), guard := none }, { dst := some 21, op := AOp.bin (Bin.plain BinOp.add) (Opd.t 20) (Opd.c (AV.p (PV.int IntKind.i64 (1)))), guard := none }, { dst := some 6, op := AOp.mv (Opd.t 21), guard := none }])))
theorem lit25_eq : lit25.body = (ACode.region [{ dst := some 4, op := AOp.mv (Opd.c AV.nil0), guard := none }]).seq ((ACode.region [{ dst := some 8, op := AOp.mv (Opd.t 0), guard := none }, { dst := some 9, op := AOp.mv (Opd.t 1), guard := none }, { dst := some 10, op := AOp.call (Opd.c (AV.p (PV.fn 40))) [Opd.t 8, Opd.t 9], guard := none }, { dst := some 5, op := AOp.mv (Opd.t 10), guard := none }]).seq (((ACode.region [{ dst := some 11, op := AOp.mv (Opd.t 5), guard := none }, { dst := some 12, op := AOp.bin (Bin.plain BinOp.eql) (Opd.t 11) (Opd.c (AV.p (PV.int IntKind.i64 ((-1))))), guard := none }]).seq (ACode.cond (Opd.t 12) ((ACode.region [{ dst := some 13, op := AOp.mv (Opd.t 0), guard := none }, { dst := some 4, op := AOp.mv (Opd.t 13), guard := none }]).seq ACode.ret) ACode.skip)).seq (((ACode.region [{ dst := some 14, op := AOp.mv (Opd.t 5), guard := none }, { dst := some 15, op := AOp.bin (Bin.plain BinOp.add) (Opd.t 14) (Opd.c (AV.p (PV.int IntKind.i64 (1)))), guard := none }, { dst := some 6, op := AOp.mv (Opd.t 15), guard := none }]).seq (ACode.block 0 (ACode.loop none body25))).seq ((ACode.region [{ dst := some 36, op := AOp.mv (Opd.t 0), guard := none }, { dst := some 37, op := AOp.mv (Opd.t 5), guard := none }, { dst := some 38, op := AOp.slice 4 (Opd.t 36) (some (Opd.t 37)) none, guard := none }, { dst := none, op := AOp.clear [AV.p (PV.int IntKind.i64 (0)), AV.p (PV.int IntKind.i64 (0)), AV.p (PV.str []), AV.p (PV.bool false)] 4 (Opd.t 38), guard := none }]).seq ((ACode.region [{ dst := some 39, op := AOp.mv (Opd.t 0), guard := none }, { dst := some 40, op := AOp.mv (Opd.t 5), guard := none }, { dst := some 41, op := AOp.slice 4 (Opd.t 39) none (some (Opd.t 40)), guard := none }, { dst := some 4, op := AOp.mv (Opd.t 41), guard := none }]).seq ACode.ret))))) := rfl
theorem set_last (σ : Heap) (a b : Obj) : (σ ++ [a]).set σ.length b = σ ++ [b] := by
  simp
theorem get_push {σ : Heap} {id : Nat} {o : Obj} (h : σ[id]? = some o) (b : Obj) : (σ ++ [b])[id]? = some o := by
  rw [List.getElem?_append_left (List.getElem?_eq_some_iff.1 h).1]; exact h
theorem vcs_split (y : List V) (i : Nat) : vcs y = vcs (y.take i) ++ vcs (y.drop i) := by
  unfold vcs
  rw [← List.flatten_append, ← List.map_append, List.take_append_drop]
theorem vcs_take (y : List V) (i : Nat) (hi : i ≤ y.length) : (vcs y).take (i * 4) = vcs (y.take i) := by
  have h2 : (vcs (y.take i)).length = i * 4 := by rw [vcs_len, List.length_take, Nat.min_eq_left hi]
  rw [vcs_split y i, ← h2, List.take_left]
theorem vcs_drop (y : List V) (i : Nat) (hi : i ≤ y.length) : (vcs y).drop (i * 4) = vcs (y.drop i) := by
  have h2 : (vcs (y.take i)).length = i * 4 := by rw [vcs_len, List.length_take, Nat.min_eq_left hi]
  rw [vcs_split y i, ← h2, List.drop_left]
theorem vcs_app (a b : List V) : vcs (a ++ b) = vcs a ++ vcs b := by simp [vcs]
theorem splice_vcs (y : List V) (i : Nat) (v : V) (hi : i < y.length) : splice (vcs y) (i * 4) (vc v) = vcs (y.set i v) := by
  unfold splice
  rw [vcs_take y i (by omega), vc_len, show i * 4 + 4 = (i + 1) * 4 from by omega, vcs_drop y (i + 1) (by omega), List.set_eq_take_append_cons_drop, if_pos hi, vcs_app]
  simp [vcs]
theorem splice_nulls (y : List V) (i : Nat) (hi : i ≤ y.length) : splice (vcs y) (i * 4) (vcs (List.replicate (y.length - i) .null)) = vcs (y.take i ++ List.replicate (y.length - i) .null) := by
  unfold splice
  rw [vcs_take y i hi, vcs_len, List.length_replicate, vcs_app, List.drop_eq_nil_of_le (by rw [vcs_len]; omega), List.append_nil]
theorem rep_nulls (k : Nat) : repZ [.p (.int .i64 0), .p (.int .i64 0), .p (.str []), .p (.bool false)] k = .pv (vcs (List.replicate k .null)) := by
  have hr : repCells [.p (.int .i64 0), .p (.int .i64 0), .p (.str []), .p (.bool false)] k = (vcs (List.replicate k .null)).map .p := by
    unfold repCells vcs
    simp only [List.map_replicate]
    induction k with
    | zero => rfl
    | succ k ih => simp only [List.replicate_succ, List.flatten_cons, List.map_append, ih]; rfl
  have ha : ∀ l : List PV, allP (l.map .p) = some l := by
    intro l
    induction l with
    | nil => rfl
    | cons p r ih => simp only [List.map_cons, allP, ih]
  show mkCells (repCells _ k) = _
  rw [hr]
  simp only [mkCells, ha]
section
variable (C : Oracle) (L : Nat) (id ver n : Nat) (ty : Option Nat) (ρ : Env) (σ : Heap)
/-- the loop's state -/
structure At25 (ρ : Env) (i j : Nat) : Prop where
  t0 : ρ.get 0 = some (.sl id ver 0 n 4)
  t1 : ρ.get 1 = some (.p (.fn 27))
  t5 : ρ.get 5 = some (.p (.int .i64 (i : Int)))
  t6 : ρ.get 6 = some (.p (.int .i64 (j : Int)))
theorem stop25 (i : Nat) (h : At25 id ver n ρ i n) : ∃ ρ', exec C L body25 ⟨ρ, [], σ⟩ = some (.exit 0, ⟨ρ', [], σ⟩) ∧ At25 id ver n ρ' i n :=
  ⟨_, by simp [body25, exec, runOps, wantedA, stepOp, pureOp, allocOp, readOp, effOp, ev, evs, evO, Env.get_cons, putE, binA, intBin, unA, AV.fit, AV.toCells, partC, partP, mkCells, allP, mkAgg, Cells.len, target, lenA, h.t0, h.t6]; rfl, ⟨by simp [Env.get_cons, h.t0], by simp [Env.get_cons, h.t1], by simp [Env.get_cons, h.t5], by simp [Env.get_cons, h.t6]⟩⟩
theorem go25 (i j : Nat) (v : V) (y : List V) (hy : y.length = n) (hv : y[j]? = some v) (hij : i ≤ j) (hm : n ≤ 9223372036854775807) (h : At25 id ver n ρ i j) (ho : σ[id]? = some (.arr (.pv (vcs y)) ver 0 ty))
    (hC : ∀ σ, C 27 [.p (.agg (vc v))] σ = some (.ret (.p (.bool (isNull v))), σ)) :
    ∃ ρ' σ', exec C L body25 ⟨ρ, [], σ⟩ = some (.normal, ⟨ρ', [], σ'⟩) ∧ At25 id ver n ρ' (if isNull v then i else i + 1) (j + 1) ∧ σ'[id]? = some (.arr (.pv (vcs (if isNull v then y else y.set i v))) ver 0 ty) := by
  have hj : j < n := hy ▸ (List.getElem?_eq_some_iff.1 hv).1
  have hj' : (j : Int) < (n : Int) := by omega
  have hi : i < n := by omega
  have hi' : (i : Int) < (n : Int) := by omega
  have d1 := flat_v y j _ hv
  have hl := vcs_len y
  have d3 : j * 4 + 4 ≤ (vcs y).length := by omega
  have d4 : i * 4 + 4 ≤ (vcs y).length := by omega
  have e1 : IntKind.i64.wrap ((j : Int) + 1) = (j : Int) + 1 := wrap_id _ (by omega) (by omega)
  have e2 : IntKind.i64.wrap ((i : Int) + 1) = (i : Int) + 1 := wrap_id _ (by omega) (by omega)
  have hsp := splice_vcs y i v (by omega)
  have hv4 := vc_len v
  have hid : id < σ.length := (List.getElem?_eq_some_iff.1 ho).1
  have ho1 := fun b => get_push ho b
  have hs := set_last σ
  have hlast : ∀ b : Obj, (σ ++ [b])[σ.length]? = some b := fun b => by simp
  generalize hcv : vc v = cv at *
  obtain ⟨x0, x1, x2, x3, rfl⟩ : ∃ x0 x1 x2 x3, cv = [x0, x1, x2, x3] := by
    match cv, hv4 with
    | [x0, x1, x2, x3], _ => exact ⟨x0, x1, x2, x3, rfl⟩
  cases hn : isNull v with
  | true =>
    rw [hn] at hC
    refine ⟨_, _, by simp [body25, exec, runOps, wantedA, stepOp, pureOp, allocOp, readOp, effOp, ev, evs, evO, Env.get_cons, putE, binA, intBin, unA, AV.fit, AV.toCells, partC, partP, mkCells, allP, mkAgg, Cells.len, target, evParts, fillA, AV.cells, splice, spliceC, finA, leaveA, resA, resV, ansV, lenA, idxA, h.t0, h.t1, h.t5, h.t6, hj', hj, ho, ↓hs, ↓hlast, ↓ho1, d1, d3, hC, e1]; exact ⟨rfl, rfl⟩, ⟨by simp [Env.get_cons, h.t0], by simp [Env.get_cons, h.t1], by simp [Env.get_cons, h.t5], by simp [Env.get_cons]⟩, ?_⟩
    simp only [if_true, ho1]
  | false =>
    rw [hn] at hC
    simp only [splice, List.length_cons, List.length_nil, Nat.zero_add] at hsp
    refine ⟨_, _, by simp [body25, exec, runOps, wantedA, stepOp, pureOp, allocOp, readOp, effOp, ev, evs, evO, Env.get_cons, putE, binA, intBin, unA, AV.fit, AV.toCells, partC, partP, mkCells, allP, mkAgg, Cells.len, target, evParts, fillA, AV.cells, splice, spliceC, finA, leaveA, resA, resV, ansV, lenA, idxA, h.t0, h.t1, h.t5, h.t6, hj', hj, hi, hi', ho, ↓hs, ↓hlast, ↓ho1, d1, d3, d4, hC, e1, e2]; exact ⟨rfl, rfl⟩, ⟨by simp [Env.get_cons, h.t0], by simp [Env.get_cons, h.t1], by simp [Env.get_cons], by simp [Env.get_cons]⟩, ?_⟩
    have hid' : ∀ b : Obj, id < (σ ++ [b]).length := fun b => by simp; omega
    rw [List.getElem?_set_self (hid' _)]
    simp only [Bool.false_eq_true, if_false, ← hsp]
    simp
/-- those that are not null -/
def nn (x : List V) : List V := x.filter fun v => !isNull v
theorem loop25 (x : List V) (hx : x.length = n) (hm : n ≤ 9223372036854775807) (hC : ∀ v ∈ x, ∀ σ, C 27 [.p (.agg (vc v))] σ = some (.ret (.p (.bool (isNull v))), σ)) : ∀ (d i j f : Nat) (ρ : Env) (σ : Heap) (y : List V), j + d = n → d < f → i ≤ j → y.length = n → y.drop j = x.drop j → y.take i = nn (x.take j) →
    At25 id ver n ρ i j → σ[id]? = some (.arr (.pv (vcs y)) ver 0 ty) →
    ∃ ρ' σ' y' i', iter (exec C L body25) none f ⟨ρ, [], σ⟩ = some (.exit 0, ⟨ρ', [], σ'⟩) ∧ At25 id ver n ρ' i' n ∧ i' ≤ n ∧ y'.length = n ∧ y'.take i' = nn x ∧ σ'[id]? = some (.arr (.pv (vcs y')) ver 0 ty)
  | 0, i, j, f, ρ, σ, y, hd, hf, hij, hy, hdr, htk, h, ho => by
    obtain ⟨f, rfl⟩ : ∃ m, f = m + 1 := ⟨f - 1, by omega⟩
    obtain rfl : j = n := by omega
    obtain ⟨ρ', e, h'⟩ := stop25 C L id ver j ρ σ i h
    refine ⟨ρ', σ, y, i, by simp only [iter, St.keep, e], h', hij, hy, ?_, ho⟩
    rw [htk, List.take_of_length_le (by omega)]
  | d + 1, i, j, f, ρ, σ, y, hd, hf, hij, hy, hdr, htk, h, ho => by
    obtain ⟨f, rfl⟩ : ∃ m, f = m + 1 := ⟨f - 1, by omega⟩
    have hj : j < x.length := by omega
    have hjy : j < y.length := by omega
    have hxy : y[j]? = some x[j] := by
      have := congrArg (fun l => l[0]?) hdr
      simpa [List.getElem?_drop, hj, List.getElem?_eq_getElem hj] using this
    obtain ⟨ρ1, σ1, e, h1, ho1⟩ := go25 C L id ver n ty ρ σ i j x[j] y hy hxy hij hm h ho (hC _ (List.getElem_mem hj))
    have htx : x.take (j + 1) = x.take j ++ [x[j]] := by
      rw [List.take_add_one, List.getElem?_eq_getElem hj]; rfl
    cases hn : isNull x[j] with
    | true =>
      rw [hn] at h1 ho1
      obtain ⟨ρ', σ', y', i', e', q⟩ := loop25 x hx hm hC d i (j + 1) f ρ1 σ1 y (by omega) (by omega) (by omega) hy (by rw [← List.drop_drop, hdr, List.drop_drop]) (by
        have he : [x[j]].filter (fun v => !isNull v) = [] := by simp [hn]
        rw [htk, htx]
        unfold nn
        rw [List.filter_append, he, List.append_nil]) h1 ho1
      exact ⟨ρ', σ', y', i', by simp only [iter, St.keep, e]; exact e', q⟩
    | false =>
      rw [hn] at h1 ho1
      obtain ⟨ρ', σ', y', i', e', q⟩ := loop25 x hx hm hC d (i + 1) (j + 1) f ρ1 σ1 (y.set i x[j]) (by omega) (by omega) (by omega) (by simpa using hy)
        (by rw [List.drop_set_of_lt (by omega), ← List.drop_drop, hdr, List.drop_drop]) (by
          rw [htx]
          simp only [nn, List.filter_append] at htk ⊢
          rw [← htk]
          have hiy : i < y.length := by omega
          rw [List.take_add_one, List.take_set_of_le (Nat.le_refl i)]
          simp [hn, hiy]) h1 ho1
      exact ⟨ρ', σ', y', i', by simp only [iter, St.keep, e]; exact e', q⟩
end
theorem idx_spec (p : V → Bool) : ∀ (x : List V) (k : Nat), (idxI p x k = -1 ∧ ∀ v ∈ x, p v = false) ∨ ∃ (i : Nat) (v : V), idxI p x k = ((k + i : Nat) : Int) ∧ x[i]? = some v ∧ p v = true ∧ ∀ u ∈ x.take i, p u = false
  | [], k => .inl ⟨rfl, fun v h => by cases h⟩
  | a :: x, k => by
    cases hp : p a with
    | true => exact .inr ⟨0, a, by simp [idxI, hp], rfl, hp, fun u h => by simp at h⟩
    | false =>
      rcases idx_spec p x (k + 1) with ⟨h1, h2⟩ | ⟨i, v, h1, h2, h3, h4⟩
      · refine .inl ⟨by simp [idxI, hp, h1], fun v hv => ?_⟩
        rcases List.mem_cons.1 hv with rfl | hv
        · exact hp
        · exact h2 v hv
      · refine .inr ⟨i + 1, v, ?_, by simpa using h2, h3, fun u hu => ?_⟩
        · simp only [idxI, hp, h1, Bool.false_eq_true, if_false]
          congr 1
          omega
        · rcases List.mem_cons.1 (by simpa using hu) with rfl | hu
          · exact hp
          · exact h4 u hu
end Go.Ab.Cnt
