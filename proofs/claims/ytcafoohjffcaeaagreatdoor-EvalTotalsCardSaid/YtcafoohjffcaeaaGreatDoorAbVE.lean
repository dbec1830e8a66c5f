/- EvalCounts: slices.DeleteFunc: what is null goes out of a list, in its place. -/
import Derived.Test.YtcafoohjffcaeaaGreatDoorAbVA
set_option linter.unusedSectionVars false
set_option linter.unusedSimpArgs false
set_option linter.unusedVariables false
set_option maxRecDepth 1000000
namespace Go.Ab.Cnt
open Go Go.Ab Go.Ab.Key Go.Proofs
variable [Marks]
def lit25 : AFunc := { ntmps := 42, results := [ARes.tmp 4], body := (ACode.region [{ dst := some 4, op := AOp.mv (Opd.c AV.nil0), guard := none }]).seq ((ACode.region [{ dst := some 8, op := AOp.mv (Opd.t 0), guard := none }, { dst := some 9, op := AOp.mv (Opd.t 1), guard := none }, { dst := some 10, op := AOp.call (Opd.c (AV.p (PV.fn 40))) [Opd.t 8, Opd.t 9], guard := none }, { dst := some 5, op := AOp.mv (Opd.t 10), guard := none }]).seq (((ACode.region [{ dst := some 11, op := AOp.mv (Opd.t 5), guard := none }, { dst := some 12, op := AOp.bin (Bin.plain BinOp.eql) (Opd.t 11) (Opd.c (AV.p (PV.int IntKind.i64 ((-1))))), guard := none }]).seq (ACode.cond (Opd.t 12) ((ACode.region [{ dst := some 13, op := AOp.mv (Opd.t 0), guard := none }, { dst := some 4, op := AOp.mv (Opd.t 13), guard := none }]).seq ACode.ret) ACode.skip)).seq (((ACode.region [{ dst := some 14, op := AOp.mv (Opd.t 5), guard := none }, { dst := some 15, op := AOp.bin (Bin.plain BinOp.add) (Opd.t 14) (Opd.c (AV.p (PV.int IntKind.i64 (1)))), guard := none }, { dst := some 6, op := AOp.mv (Opd.t 15), guard := none }]).seq (ACode.block 0 (ACode.loop none (((ACode.region [{ dst := some 16, op := AOp.mv (Opd.t 6), guard := none }, { dst := some 17, op := AOp.mv (Opd.t 0), guard := none }, { dst := some 18, op := AOp.len false (Opd.t 17), guard := none }, { dst := some 19, op := AOp.bin (Bin.plain BinOp.lss) (Opd.t 16) (Opd.t 18), guard := none }]).seq (ACode.cond (Opd.t 19) ACode.skip (ACode.exit 0))).seq ((ACode.block 1 ((ACode.region [{ dst := some 22, op := AOp.mv (Opd.t 0), guard := none }, { dst := some 23, op := AOp.mv (Opd.t 6), guard := none }, { dst := some 24, op := AOp.idx 4 (Opd.t 22) (Opd.t 23), guard := none }, { dst := some 25, op := AOp.load true 4 (Opd.t 24), guard := none }, { dst := some 7, op := AOp.alloc 30 [AV.p (PV.int IntKind.i64 (0)), AV.p (PV.int IntKind.i64 (0)), AV.p (PV.str []), AV.p (PV.bool false)], guard := none }, { dst := none, op := AOp.store 4 (Opd.t 7) (Opd.t 25), guard := none }]).seq ((ACode.region [{ dst := some 26, op := AOp.mv (Opd.t 1), guard := none }, { dst := some 27, op := AOp.load true 4 (Opd.t 7), guard := none }, { dst := some 28, op := AOp.call (Opd.t 26) [Opd.t 27], guard := none }, { dst := some 29, op := AOp.un UnOp.not (Opd.t 28), guard := none }]).seq (ACode.cond (Opd.t 29) ((ACode.region [{ dst := some 30, op := AOp.mv (Opd.t 0), guard := none }, { dst := some 31, op := AOp.mv (Opd.t 5), guard := none }, { dst := some 32, op := AOp.load true 4 (Opd.t 7), guard := none }, { dst := some 33, op := AOp.idx 4 (Opd.t 30) (Opd.t 31), guard := none }, { dst := none, op := AOp.store 4 (Opd.t 33) (Opd.t 32), guard := none }]).seq (ACode.region [{ dst := some 34, op := AOp.mv (Opd.t 5), guard := none }, { dst := some 35, op := AOp.bin (Bin.plain BinOp.add) (Opd.t 34) (Opd.c (AV.p (PV.int IntKind.i64 (1)))), guard := none }, { dst := some 5, op := AOp.mv (Opd.t 35), guard := none }])) ACode.skip)))).seq (ACode.region [{ dst := some 20, op := AOp.mv (Opd.t 6), guard := none }, { dst := some 21, op := AOp.bin (Bin.plain BinOp.add) (Opd.t 20) (Opd.c (AV.p (PV.int IntKind.i64 (1)))), guard := none }, { dst := some 6, op := AOp.mv (Opd.t 21), guard := none }])))))).seq ((ACode.region [{ dst := some 36, op := AOp.mv (Opd.t 0), guard := none }, { dst := some 37, op := AOp.mv (Opd.t 5), guard := none }, { dst := some 38, op := AOp.slice 4 (Opd.t 36) (some (Opd.t 37)) none, guard := none }, { dst := none, op := AOp.clear [AV.p (PV.int IntKind.i64 (0)), AV.p (PV.int IntKind.i64 (0)), AV.p (PV.str []), AV.p (PV.bool false)] 4 (Opd.t 38), guard := none }]).seq ((ACode.region [{ dst := some 39, op := AOp.mv (Opd.t 0), guard := none }, { dst := some 40, op := AOp.mv (Opd.t 5), guard := none }, { dst := some 41, op := AOp.slice 4 (Opd.t 39) none (some (Opd.t 40)), guard := none }, { dst := some 4, op := AOp.mv (Opd.t 41), guard := none }]).seq ACode.ret))))) }
def body25 : ACode := (((ACode.region [{ dst := some 16, op := AOp.mv (Opd.t 6), guard := none }, { dst := some 17, op := AOp.mv (Opd.t 0), guard := none }, { dst := some 18, op := AOp.len false (Opd.t 17), guard := none }, { dst := some 19, op := AOp.bin (Bin.plain BinOp.lss) (Opd.t 16) (Opd.t 18), guard := none }]).seq (ACode.cond (Opd.t 19) ACode.skip (ACode.exit 0))).seq ((ACode.block 1 ((ACode.region [{ dst := some 22, op := AOp.mv (Opd.t 0), guard := none }, { dst := some 23, op := AOp.mv (Opd.t 6), guard := none }, { dst := some 24, op := AOp.idx 4 (Opd.t 22) (Opd.t 23), guard := none }, { dst := some 25, op := AOp.load true 4 (Opd.t 24), guard := none }, { dst := some 7, op := AOp.alloc 30 [AV.p (PV.int IntKind.i64 (0)), AV.p (PV.int IntKind.i64 (0)), AV.p (PV.str []), AV.p (PV.bool false)], guard := none }, { dst := none, op := AOp.store 4 (Opd.t 7) (Opd.t 25), guard := none }]).seq ((ACode.region [{ dst := some 26, op := AOp.mv (Opd.t 1), guard := none }, { dst := some 27, op := AOp.load true 4 (Opd.t 7), guard := none }, { dst := some 28, op := AOp.call (Opd.t 26) [Opd.t 27], guard := none }, { dst := some 29, op := AOp.un UnOp.not (Opd.t 28), guard := none }]).seq (ACode.cond (Opd.t 29) ((ACode.region [{ dst := some 30, op := AOp.mv (Opd.t 0), guard := none }, { dst := some 31, op := AOp.mv (Opd.t 5), guard := none }, { dst := some 32, op := AOp.load true 4 (Opd.t 7), guard := none }, { dst := some 33, op := AOp.idx 4 (Opd.t 30) (Opd.t 31), guard := none }, { dst := none, op := AOp.store 4 (Opd.t 33) (Opd.t 32), guard := none }]).seq (ACode.region [{ dst := some 34, op := AOp.mv (Opd.t 5), guard := none }, { dst := some 35, op := AOp.bin (Bin.plain BinOp.add) (Opd.t 34) (Opd.c (AV.p (PV.int IntKind.i64 (1)))), guard := none }, { dst := some 5, op := AOp.mv (Opd.t 35), guard := none }])) ACode.skip)))).seq (ACode.region [{ dst := some 20, op := AOp.mv (Opd.t 6), guard := none }, { dst := some 21, op := AOp.bin (Bin.plain BinOp.add) (Opd.t 20) (Opd.c (AV.p (PV.int IntKind.i64 (1)))), guard := none }, { dst := some 6, op := AOp.mv (Opd.t 21), guard := none }])))
theorem lit25_eq : lit25.body = (ACode.region [{ dst := some 4, op := AOp.mv (Opd.c AV.nil0), guard := none }]).seq ((ACode.region [{ dst := some 8, op := AOp.mv (Opd.t 0), guard := none }, { dst := some 9, op := AOp.mv (Opd.t 1), guard := none }, { dst := some 10, op := AOp.call (Opd.c (AV.p (PV.fn 40))) [Opd.t 8, Opd.t 9], guard := none }, { dst := some 5, op := AOp.mv (Opd.t 10), guard := none }]).seq (((ACode.region [{ dst := some 11, op := AOp.mv (Opd.t 5), guard := none }, { dst := some 12, op := AOp.bin (Bin.plain BinOp.eql) (Opd.t 11) (Opd.c (AV.p (PV.int IntKind.i64 ((-1))))), guard := none }]).seq (ACode.cond (Opd.t 12) ((ACode.region [{ dst := some 13, op := AOp.mv (Opd.t 0), guard := none }, { dst := some 4, op := AOp.mv (Opd.t 13), guard := none }]).seq ACode.ret) ACode.skip)).seq (((ACode.region [{ dst := some 14, op := AOp.mv (Opd.t 5), guard := none }, { dst := some 15, op := AOp.bin (Bin.plain BinOp.add) (Opd.t 14) (Opd.c (AV.p (PV.int IntKind.i64 (1)))), guard := none }, { dst := some 6, op := AOp.mv (Opd.t 15), guard := none }]).seq (ACode.block 0 (ACode.loop none body25))).seq ((ACode.region [{ dst := some 36, op := AOp.mv (Opd.t 0), guard := none }, { dst := some 37, op := AOp.mv (Opd.t 5), guard := none }, { dst := some 38, op := AOp.slice 4 (Opd.t 36) (some (Opd.t 37)) none, guard := none }, { dst := none, op := AOp.clear [AV.p (PV.int IntKind.i64 (0)), AV.p (PV.int IntKind.i64 (0)), AV.p (PV.str []), AV.p (PV.bool false)] 4 (Opd.t 38), guard := none }]).seq ((ACode.region [{ dst := some 39, op := AOp.mv (Opd.t 0), guard := none }, { dst := some 40, op := AOp.mv (Opd.t 5), guard := none }, { dst := some 41, op := AOp.slice 4 (Opd.t 39) none (some (Opd.t 40)), guard := none }, { dst := some 4, op := AOp.mv (Opd.t 41), guard := none }]).seq ACode.ret))))) := rfl
theorem set_last (σ : Heap) (a b : Obj) : (σ ++ [a]).set σ.length b = σ ++ [b] := by
  simp
theorem get_push {σ : Heap} {id : Nat} {o : Obj} (h : σ[id]? = some o) (b : Obj) : (σ ++ [b])[id]? = some o := by
  rw [List.getElem?_append_left (List.getElem?_eq_some_iff.1 h).1]; exact h
theorem vcs_split (y : List V) (i : Nat) : vcs y = vcs (y.take i) ++ vcs (y.drop i) := by
  unfold vcs
  rw [← List.flatten_append, ← List.map_append, List.take_append_drop]
theorem vcs_take (y : List V) (i : Nat) (hi : i ≤ y.length) : (vcs y).take (i * 4) = vcs (y.take i) := by
  have h2 : (vcs (y.take i)).length = i * 4 := by rw [vcs_len, List.length_take, Nat.min_eq_left hi]
  rw [vcs_split y i, ← h2, List.take_left]
theorem vcs_drop (y : List V) (i : Nat) (hi : i ≤ y.length) : (vcs y).drop (i * 4) = vcs (y.drop i) := by
  have h2 : (vcs (y.take i)).length = i * 4 := by rw [vcs_len, List.length_take, Nat.min_eq_left hi]
  rw [vcs_split y i, ← h2, List.drop_left]
theorem vcs_app (a b : List V) : vcs (a ++ b) = vcs a ++ vcs b := by simp [vcs]
theorem splice_vcs (y : List V) (i : Nat) (v : V) (hi : i < y.length) : splice (vcs y) (i * 4) (vc v) = vcs (y.set i v) := by
  unfold splice
  rw [vcs_take y i (by omega), vc_len, show i * 4 + 4 = (i + 1) * 4 from by omega, vcs_drop y (i + 1) (by omega), List.set_eq_take_append_cons_drop, if_pos hi, vcs_app]
  simp [vcs]
theorem splice_nulls (y : List V) (i : Nat) (hi : i ≤ y.length) : splice (vcs y) (i * 4) (vcs (List.replicate (y.length - i) .null)) = vcs (y.take i ++ List.replicate (y.length - i) .null) := by
  unfold splice
  rw [vcs_take y i hi, vcs_len, List.length_replicate, vcs_app, List.drop_eq_nil_of_le (by rw [vcs_len]; omega), List.append_nil]
theorem rep_nulls (k : Nat) : repZ [.p (.int .i64 0), .p (.int .i64 0), .p (.str []), .p (.bool false)] k = .pv (vcs (List.replicate k .null)) := by
  have hr : repCells [.p (.int .i64 0), .p (.int .i64 0), .p (.str []), .p (.bool false)] k = (vcs (List.replicate k .null)).map .p := by
    unfold repCells vcs
    simp only [List.map_replicate]
    induction k with
    | zero => rfl
    | succ k ih => simp only [List.replicate_succ, List.flatten_cons, List.map_append, ih]; rfl
  have ha : ∀ l : List PV, allP (l.map .p) = some l := by
    intro l
    induction l with
    | nil => rfl
    | cons p r ih => simp only [List.map_cons, allP, ih]
  show mkCells (repCells _ k) = _
  rw [hr]
  simp only [mkCells, ha]
section
variable (C : Oracle) (L : Nat) (id ver n : Nat) (ty : Option Nat) (ρ : Env) (σ : Heap)
/-- the loop's state -/
structure At25 (ρ : Env) (i j : Nat) : Prop where
  t0 : ρ.get 0 = some (.sl id ver 0 n 4)
  t1 : ρ.get 1 = some (.p (.fn 27))
  t5 : ρ.get 5 = some (.p (.int .i64 (i : Int)))
  t6 : ρ.get 6 = some (.p (.int .i64 (j : Int)))
theorem stop25 (i : Nat) (h : At25 id ver n ρ i n) : ∃ ρ', exec C L body25 ⟨ρ, [], σ⟩ = some (.exit 0, ⟨ρ', [], σ⟩) ∧ At25 id ver n ρ' i n :=
  ⟨_, by simp [body25, exec, runOps, wantedA, stepOp, pureOp, allocOp, readOp, effOp, ev, evs, evO, Env.get_cons, putE, binA, intBin, unA, AV.fit, AV.toCells, partC, partP, mkCells, allP, mkAgg, Cells.len, target, lenA, h.t0, h.t6]; rfl, ⟨by simp [Env.get_cons, h.t0], by simp [Env.get_cons, h.t1], by simp [Env.get_cons, h.t5], by simp [Env.get_cons, h.t6]⟩⟩
theorem go25 (i j : Nat) (v : V) (y : List V) (hy : y.length = n) (hv : y[j]? = some v) (hij : i ≤ j) (hm : n ≤ 9223372036854775807) (h : At25 id ver n ρ i j) (ho : σ[id]? = some (.arr (.pv (vcs y)) ver 0 ty))
    (hC : ∀ σ, C 27 [.p (.agg (vc v))] σ = some (.ret (.p (.bool (isNull v))), σ)) :
    ∃ ρ' σ', exec C L body25 ⟨ρ, [], σ⟩ = some (.normal, ⟨ρ', [], σ'⟩) ∧ At25 id ver n ρ' (if isNull v then i else i + 1) (j + 1) ∧ σ'[id]? = some (.arr (.pv (vcs (if isNull v then y else y.set i v))) ver 0 ty) := by
  have hj : j < n := hy ▸ (List.getElem?_eq_some_iff.1 hv).1
  have hj' : (j : Int) < (n : Int) := by omega
  have hi : i < n := by omega
  have hi' : (i : Int) < (n : Int) := by omega
  have d1 := flat_v y j _ hv
  have hl := vcs_len y
  have d3 : j * 4 + 4 ≤ (vcs y).length := by omega
  have d4 : i * 4 + 4 ≤ (vcs y).length := by omega
  have e1 : IntKind.i64.wrap ((j : Int) + 1) = (j : Int) + 1 := wrap_id _ (by omega) (by omega)
  have e2 : IntKind.i64.wrap ((i : Int) + 1) = (i : Int) + 1 := wrap_id _ (by omega) (by omega)
  have hsp := splice_vcs y i v (by omega)
  have hv4 := vc_len v
  have hid : id < σ.length := (List.getElem?_eq_some_iff.1 ho).1
  have ho1 := fun b => get_push ho b
  have hs := set_last σ
  have hlast : ∀ b : Obj, (σ ++ [b])[σ.length]? = some b := fun b => by simp
  generalize hcv : vc v = cv at *
  obtain ⟨x0, x1, x2, x3, rfl⟩ : ∃ x0 x1 x2 x3, cv = [x0, x1, x2, x3] := by
    match cv, hv4 with
    | [x0, x1, x2, x3], _ => exact ⟨x0, x1, x2, x3, rfl⟩
  cases hn : isNull v with
  | true =>
    rw [hn] at hC
    refine ⟨_, _, by simp [body25, exec, runOps, wantedA, stepOp, pureOp, allocOp, readOp, effOp, ev, evs, evO, Env.get_cons, putE, binA, intBin, unA, AV.fit, AV.toCells, partC, partP, mkCells, allP, mkAgg, Cells.len, target, evParts, fillA, AV.cells, splice, spliceC, finA, leaveA, resA, resV, ansV, lenA, idxA, h.t0, h.t1, h.t5, h.t6, hj', hj, ho, ↓hs, ↓hlast, ↓ho1, d1, d3, hC, e1]; exact ⟨rfl, rfl⟩, ⟨by simp [Env.get_cons, h.t0], by simp [Env.get_cons, h.t1], by simp [Env.get_cons, h.t5], by simp [Env.get_cons]⟩, ?_⟩
    simp only [if_true, ho1]
  | false =>
    rw [hn] at hC
    simp only [splice, List.length_cons, List.length_nil, Nat.zero_add] at hsp
    refine ⟨_, _, by simp [body25, exec, runOps, wantedA, stepOp, pureOp, allocOp, readOp, effOp, ev, evs, evO, Env.get_cons, putE, binA, intBin, unA, AV.fit, AV.toCells, partC, partP, mkCells, allP, mkAgg, Cells.len, target, evParts, fillA, AV.cells, splice, spliceC, finA, leaveA, resA, resV, ansV, lenA, idxA, h.t0, h.t1, h.t5, h.t6, hj', hj, hi, hi', ho, ↓hs, ↓hlast, ↓ho1, d1, d3, d4, hC, e1, e2]; exact ⟨rfl, rfl⟩, ⟨by simp [Env.get_cons, h.t0], by simp [Env.get_cons, h.t1], by simp [Env.get_cons], by simp [Env.get_cons]⟩, ?_⟩
    have hid' : ∀ b : Obj, id < (σ ++ [b]).length := fun b => by simp; omega
    rw [List.getElem?_set_self (hid' _)]
    simp only [Bool.false_eq_true, if_false, ← hsp]
    simp
/-- those that are not null -/
def nn (x : List V) : List V := x.filter fun v => !isNull v
theorem loop25 (x : List V) (hx : x.length = n) (hm : n ≤ 9223372036854775807) (hC : ∀ v ∈ x, ∀ σ, C 27 [.p (.agg (vc v))] σ = some (.ret (.p (.bool (isNull v))), σ)) : ∀ (d i j f : Nat) (ρ : Env) (σ : Heap) (y : List V), j + d = n → d < f → i ≤ j → y.length = n → y.drop j = x.drop j → y.take i = nn (x.take j) →
    At25 id ver n ρ i j → σ[id]? = some (.arr (.pv (vcs y)) ver 0 ty) →
    ∃ ρ' σ' y' i', iter (exec C L body25) none f ⟨ρ, [], σ⟩ = some (.exit 0, ⟨ρ', [], σ'⟩) ∧ At25 id ver n ρ' i' n ∧ i' ≤ n ∧ y'.length = n ∧ y'.take i' = nn x ∧ σ'[id]? = some (.arr (.pv (vcs y')) ver 0 ty)
  | 0, i, j, f, ρ, σ, y, hd, hf, hij, hy, hdr, htk, h, ho => by
    obtain ⟨f, rfl⟩ : ∃ m, f = m + 1 := ⟨f - 1, by omega⟩
    obtain rfl : j = n := by omega
    obtain ⟨ρ', e, h'⟩ := stop25 C L id ver j ρ σ i h
    refine ⟨ρ', σ, y, i, by simp only [iter, St.keep, e], h', hij, hy, ?_, ho⟩
    rw [htk, List.take_of_length_le (by omega)]
  | d + 1, i, j, f, ρ, σ, y, hd, hf, hij, hy, hdr, htk, h, ho => by
    obtain ⟨f, rfl⟩ : ∃ m, f = m + 1 := ⟨f - 1, by omega⟩
    have hj : j < x.length := by omega
    have hjy : j < y.length := by omega
    have hxy : y[j]? = some x[j] := by
      have := congrArg (fun l => l[0]?) hdr
      simpa [List.getElem?_drop, hj, List.getElem?_eq_getElem hj] using this
    obtain ⟨ρ1, σ1, e, h1, ho1⟩ := go25 C L id ver n ty ρ σ i j x[j] y hy hxy hij hm h ho (hC _ (List.getElem_mem hj))
    have htx : x.take (j + 1) = x.take j ++ [x[j]] := by
      rw [List.take_add_one, List.getElem?_eq_getElem hj]; rfl
    cases hn : isNull x[j] with
    | true =>
      rw [hn] at h1 ho1
      obtain ⟨ρ', σ', y', i', e', q⟩ := loop25 x hx hm hC d i (j + 1) f ρ1 σ1 y (by omega) (by omega) (by omega) hy (by rw [← List.drop_drop, hdr, List.drop_drop]) (by
        have he : [x[j]].filter (fun v => !isNull v) = [] := by simp [hn]
        rw [htk, htx]
        unfold nn
        rw [List.filter_append, he, List.append_nil]) h1 ho1
      exact ⟨ρ', σ', y', i', by simp only [iter, St.keep, e]; exact e', q⟩
    | false =>
      rw [hn] at h1 ho1
      obtain ⟨ρ', σ', y', i', e', q⟩ := loop25 x hx hm hC d (i + 1) (j + 1) f ρ1 σ1 (y.set i x[j]) (by omega) (by omega) (by omega) (by simpa using hy)
        (by rw [List.drop_set_of_lt (by omega), ← List.drop_drop, hdr, List.drop_drop]) (by
          rw [htx]
          simp only [nn, List.filter_append] at htk ⊢
          rw [← htk]
          have hiy : i < y.length := by omega
          rw [List.take_add_one, List.take_set_of_le (Nat.le_refl i)]
          simp [hn, hiy]) h1 ho1
      exact ⟨ρ', σ', y', i', by simp only [iter, St.keep, e]; exact e', q⟩
end
theorem idx_spec (p : V → Bool) : ∀ (x : List V) (k : Nat), (idxI p x k = -1 ∧ ∀ v ∈ x, p v = false) ∨ ∃ (i : Nat) (v : V), idxI p x k = ((k + i : Nat) : Int) ∧ x[i]? = some v ∧ p v = true ∧ ∀ u ∈ x.take i, p u = false
  | [], k => .inl ⟨rfl, fun v h => by cases h⟩
  | a :: x, k => by
    cases hp : p a with
    | true => exact .inr ⟨0, a, by simp [idxI, hp], rfl, hp, fun u h => by simp at h⟩
    | false =>
      rcases idx_spec p x (k + 1) with ⟨h1, h2⟩ | ⟨i, v, h1, h2, h3, h4⟩
      · refine .inl ⟨by simp [idxI, hp, h1], fun v hv => ?_⟩
        rcases List.mem_cons.1 hv with rfl | hv
        · exact hp
        · exact h2 v hv
      · refine .inr ⟨i + 1, v, ?_, by simpa using h2, h3, fun u hu => ?_⟩
        · simp only [idxI, hp, h1, Bool.false_eq_true, if_false]
          congr 1
          omega
        · rcases List.mem_cons.1 (by simpa using hu) with rfl | hu
          · exact hp
          · exact h4 u hu
end Go.Ab.Cnt

/- EvalCounts: slices.DeleteFunc, a whole call of it. -/
set_option maxRecDepth 1000000
namespace Go.Ab.Cnt
open Go Go.Ab Go.Ab.Key Go.Proofs
variable [Marks]
/-- a call that is handed one object and answers a slice of it -/
theorem wrap_sl {g : List AV → Heap → Option (CRes × Heap)} {xs as0 : List AV} {σ τ : Heap} {id ver k : Nat} {c c' : List PV} {ty ty' : Option Nat} (h : g as0 [.arr (.pv c) 0 0 ty] = some (.ret (.sl 0 0 0 k 4), τ)) (h0 : τ[0]? = some (.arr (.pv c') 0 0 ty'))
    (ho : σ[id]? = some (.arr (.pv c) ver 0 ty)) (hids : idsL xs = [id]) (hren : renL (fwd [(id, ver)]) xs = as0) : wrapF g false xs σ = some (.ret (.sl id ver 0 k 4), σ.set id (.arr (.pv c') ver 0 ty')) := by
  obtain ⟨τ, rfl⟩ : ∃ τ', τ = .arr (.pv c') 0 0 ty' :: τ' := by
    cases τ with
    | nil => cases h0
    | cons a τ => simp at h0; subst h0; exact ⟨τ, rfl⟩
  have hid : id < σ.length := (List.getElem?_eq_some_iff.1 ho).1
  have ht : touch σ xs = [id] := by simp [touch, collect, hids, ho, idsO]
  have hout : outL 1 (.ret (.sl 0 0 0 k 4)) (.arr (.pv c') 0 0 ty' :: τ) = [(0, 0)] := by
    simp [outL, keepK, resIds, idsV, collect, listOf, idsO, Nat.blt, Nat.ble]
  have hlo : listOf σ [id] = [(id, ver)] := by simp [listOf, versO, ho, Obj.ver]
  have hsh : shrinkH [(id, ver)] σ = [.arr (.pv c) 0 0 ty] := by simp [shrinkH, ho, shO, renC]
  have hsh2 : shrinkH [(0, 0)] (.arr (.pv c') 0 0 ty' :: τ) = [.arr (.pv c') 0 0 ty'] := by simp [shrinkH, shO, renC]
  have h1 : (uniq [(id, ver)] && inOK [(id, ver)] σ.length) = true := by simp [uniq, posOf, inOK, hid]
  have h4 : (uniq [(0, 0)] && backOK [(id, ver)] [Obj.arr (.pv c') 0 0 ty']) = true := rfl
  have hm : mergeH [(id, ver)] σ [Obj.arr (.pv c') 0 0 ty'] = σ.set id (.arr (.pv c') ver 0 ty') := by simp [mergeH, putBack, bkO, renC]
  have hr : renR (bwd [(id, ver)] σ.length) (renR (fwd [(0, 0)]) (.ret (.sl 0 0 0 k 4))) = .ret (.sl id ver 0 k 4) := by
    simp [renR, renV, fwd, posOf, bwd]
  unfold wrapF
  simp only [ht]
  have hall : ([id].all fun x => [id].contains x) = true := by simp
  simp only [hall]
  unfold innerW
  simp only [hlo, h1, hren, hsh, h, List.length_cons, List.length_nil, Nat.zero_add, hout, hsh2, h4, hr, hm]
theorem nn_len (x : List V) : (nn x).length ≤ x.length := List.length_filter_le _ _
/-- parts of code -/
def fstC : ACode → ACode
  | .seq a _ => a
  | c => c
def sndC : ACode → ACode
  | .seq _ b => b
  | c => c
def pre25 : ACode := .seq (fstC lit25.body) (.seq (fstC (sndC lit25.body)) (fstC (sndC (sndC lit25.body))))
def mid25 : ACode := fstC (fstC (sndC (sndC (sndC lit25.body))))
def end25 : ACode := sndC (sndC (sndC (sndC lit25.body)))
theorem parts25 : lit25.body = .seq (fstC lit25.body) (.seq (fstC (sndC lit25.body)) (.seq (fstC (sndC (sndC lit25.body))) (.seq (.seq mid25 (.block 0 (.loop none body25))) end25))) := rfl
section
variable (C : Oracle) (D : DOracle) (L : Nat)
theorem seq3 (a b c d : ACode) (st st1 : St) (h : exec C L (.seq a (.seq b c)) st = some (.normal, st1)) : exec C L d st1 = exec C L (.seq a (.seq b (.seq c d))) st := by
  cases h1 : exec C L a st with
  | none => simp [exec, h1] at h
  | some r =>
    obtain ⟨e1, s1⟩ := r
    cases e1 with
    | normal =>
      cases h2 : exec C L b s1 with
      | none => simp [exec, h1, h2] at h
      | some r =>
        obtain ⟨e2, s2⟩ := r
        cases e2 with
        | normal =>
          simp only [exec, h1, h2] at h ⊢
          rw [h]
        | _ => simp [exec, h1, h2] at h
    | _ => simp [exec, h1] at h
theorem tail25 (n k : Nat) (ty : Option Nat) (ρ : Env) (σ : Heap) (y : List V) (h : At25 0 0 n ρ k n) (hk : k ≤ n) (hy : y.length = n) (ho : σ[0]? = some (.arr (.pv (vcs y)) 0 0 ty)) :
    ∃ ρ' σ' y', exec C L end25 ⟨ρ, [], σ⟩ = some (.ret, ⟨ρ', [], σ'⟩) ∧ ρ'.get 4 = some (.sl 0 0 0 k 4) ∧ σ'[0]? = some (.arr (.pv (vcs y')) 0 0 ty) ∧ y'.length = n ∧ y'.take k = y.take k := by
  have hk' : (k : Int) ≤ (n : Int) := by omega
  have hl := vcs_len y
  have s2 : sliceA 4 (.sl 0 0 0 n 4) none (some (.p (.int .i64 (k : Int)))) = some (.sl 0 0 0 k 4) := by
    simp [sliceA, boundsA, boundA, hk]
  have s2' : pureOp ρ (.mv (.t 0)) = some (.sl 0 0 0 n 4) := h.t0
  by_cases hkn : k = n
  · subst hkn
    rcases Nat.eq_zero_or_pos k with h0 | h0
    · subst h0
      have s1 : sliceA 4 (.sl 0 0 0 0 4) (some (.p (.int .i64 0))) none = some (.sl 0 0 0 0 4) := rfl
      have s2 : sliceA 4 (.sl 0 0 0 0 4) none (some (.p (.int .i64 0))) = some (.sl 0 0 0 0 4) := rfl
      exact ⟨_, σ, y, by simp [end25, lit25, sndC, exec, runOps, wantedA, stepOp, pureOp, allocOp, readOp, effOp, ev, evs, evO, Env.get_cons, putE, binA, intBin, unA, AV.fit, AV.toCells, partC, partP, mkCells, allP, mkAgg, Cells.len, target, h.t0, h.t5, ↓s1, ↓s2]; rfl, by simp [Env.get_cons], ho, hy, rfl⟩
    · have s1 : sliceA 4 (.sl 0 0 0 k 4) (some (.p (.int .i64 (k : Int)))) none = some (.p (.vsl [] 0)) := by
        have : k ≠ 0 := by omega
        simp [sliceA, boundsA, boundA, this]
      exact ⟨_, σ, y, by simp [end25, lit25, sndC, exec, runOps, wantedA, stepOp, pureOp, allocOp, readOp, effOp, ev, evs, evO, Env.get_cons, putE, binA, intBin, unA, AV.fit, AV.toCells, partC, partP, mkCells, allP, mkAgg, Cells.len, target, h.t0, h.t5, ↓s1, ↓s2]; rfl, by simp [Env.get_cons], ho, hy, rfl⟩
  · have hlt : k < n := by omega
    have s1 : sliceA 4 (.sl 0 0 0 n 4) (some (.p (.int .i64 (k : Int)))) none = some (.sl 0 0 (k * 4) (n - k) 4) := by
      have : ¬ k = n := hkn
      simp [sliceA, boundsA, boundA, hk, this]
    have hr := rep_nulls (n - k)
    have hc1 : ¬ n - k = 0 := by omega
    have hc2 : k * 4 + (n - k) * 4 ≤ (vcs y).length := by omega
    have hsp := splice_nulls y k (by omega)
    rw [hy] at hsp
    have h0 : 0 < σ.length := (List.getElem?_eq_some_iff.1 ho).1
    have hnk : ¬ n ≤ k := by omega
    refine ⟨_, _, y.take k ++ List.replicate (n - k) .null, by simp [end25, lit25, sndC, exec, runOps, wantedA, stepOp, pureOp, allocOp, readOp, effOp, ev, evs, evO, Env.get_cons, putE, binA, intBin, unA, AV.fit, AV.toCells, partC, partP, mkCells, allP, mkAgg, Cells.len, target, h.t0, h.t5, ↓s1, ↓s2, hc1, hnk, ho, ↓hr, hc2]; exact ⟨rfl, by simp only [spliceC, hsp]⟩, by simp [Env.get_cons], List.getElem?_set_self h0, by simp; omega, ?_⟩
    rw [List.take_append_of_le_length (by simp; omega), List.take_take, Nat.min_self]
/-- the call in its own heap -/
theorem own25 (x : List V) (hm : x.length ≤ 9223372036854775807) (hL : x.length < L) (ty : Option Nat) (hC : ∀ v ∈ x, ∀ σ, C 27 [.p (.agg (vc v))] σ = some (.ret (.p (.bool (isNull v))), σ))
    (hi : C 40 [.sl 0 0 0 x.length 4, .p (.fn 27)] [.arr (.pv (vcs x)) 0 0 ty] = some (.ret (.p (.int .i64 (idxI isNull x 0))), [.arr (.pv (vcs x)) 0 0 ty])) :
    ∃ τ y, runFunc C D L lit25 [.sl 0 0 0 x.length 4, .p (.fn 27)] [.arr (.pv (vcs x)) 0 0 ty] = some (.ret (.sl 0 0 0 (nn x).length 4), τ) ∧ τ[0]? = some (.arr (.pv (vcs y)) 0 0 ty) ∧ y.length = x.length ∧ y.take (nn x).length = nn x := by
  rw [runFunc_eq, lit25_eq]
  rcases idx_spec isNull x 0 with ⟨h1, h2⟩ | ⟨i, v, h1, h2, h3, h4⟩
  · rw [h1] at hi
    have hn : nn x = x := List.filter_eq_self.2 fun v hv => by simp [h2 v hv]
    rw [hn]
    exact ⟨[.arr (.pv (vcs x)) 0 0 ty], x, by simp [lit25, params, exec, runOps, wantedA, stepOp, pureOp, allocOp, readOp, effOp, ev, evs, evO, Env.get_cons, putE, binA, intBin, unA, AV.fit, AV.toCells, partC, partP, mkCells, allP, mkAgg, Cells.len, target, evParts, fillA, AV.cells, splice, spliceC, finA, leaveA, resA, resV, ansV, finX, hi], rfl, rfl, List.take_length⟩
  · rw [Nat.zero_add] at h1
    rw [h1] at hi
    have hix : i < x.length := (List.getElem?_eq_some_iff.1 h2).1
    have hne : ¬ (i : Int) = -1 := by omega
    have e1 : IntKind.i64.wrap ((i : Int) + 1) = ((i + 1 : Nat) : Int) := by rw [wrap_id _ (by omega) (by omega)]; omega
    have hvx : x[i] = v := by rw [List.getElem?_eq_getElem hix] at h2; exact Option.some.inj h2
    have htk : x.take i = nn (x.take (i + 1)) := by
      rw [List.take_add_one, h2]
      unfold nn
      rw [List.filter_append]
      have he : (some v).toList.filter (fun v => !isNull v) = [] := by simp [h3]
      rw [he, List.append_nil, List.filter_eq_self.2 fun u hu => by simp [h4 u hu]]
    obtain ⟨F, hF⟩ : ∃ F : Env → Env × Heap × List V × Nat, ∀ ρ, At25 0 0 x.length ρ i (i + 1) → iter (exec C L body25) none L ⟨ρ, [], [.arr (.pv (vcs x)) 0 0 ty]⟩ = some (.exit 0, ⟨(F ρ).1, [], (F ρ).2.1⟩) ∧
        At25 0 0 x.length (F ρ).1 (F ρ).2.2.2 x.length ∧ (F ρ).2.2.2 ≤ x.length ∧ (F ρ).2.2.1.length = x.length ∧ (F ρ).2.2.1.take (F ρ).2.2.2 = nn x ∧ (F ρ).2.1[0]? = some (.arr (.pv (vcs (F ρ).2.2.1)) 0 0 ty) := by
      have hl := fun ρ (h : At25 0 0 x.length ρ i (i + 1)) => loop25 C L 0 0 x.length ty x rfl hm hC (x.length - (i + 1)) i (i + 1) L ρ [.arr (.pv (vcs x)) 0 0 ty] x (by omega) (by omega) (by omega) rfl rfl htk h rfl
      refine ⟨fun ρ => open Classical in if h : At25 0 0 x.length ρ i (i + 1) then ((hl ρ h).choose, (hl ρ h).choose_spec.choose, (hl ρ h).choose_spec.choose_spec.choose, (hl ρ h).choose_spec.choose_spec.choose_spec.choose) else (ρ, [], [], 0), fun ρ h => ?_⟩
      simp only [dif_pos h]
      exact (hl ρ h).choose_spec.choose_spec.choose_spec.choose_spec
    have hF1 := fun ρ (t0 : ρ.get 0 = some (.sl 0 0 0 x.length 4)) (t1 : ρ.get 1 = some (.p (.fn 27))) (t5 : ρ.get 5 = some (.p (.int .i64 (i : Int)))) (t6 : ρ.get 6 = some (.p (.int .i64 ((i + 1 : Nat) : Int)))) => hF ρ ⟨t0, t1, t5, t6⟩
    have pre : ∃ ρ1, exec C L pre25 ⟨params 0 [.sl 0 0 0 x.length 4, .p (.fn 27)], [], [.arr (.pv (vcs x)) 0 0 ty]⟩ = some (.normal, ⟨ρ1, [], [.arr (.pv (vcs x)) 0 0 ty]⟩) ∧ ρ1.get 0 = some (.sl 0 0 0 x.length 4) ∧ ρ1.get 1 = some (.p (.fn 27)) ∧ ρ1.get 5 = some (.p (.int .i64 (i : Int))) :=
      ⟨_, by simp [pre25, lit25, fstC, sndC, params, exec, runOps, wantedA, stepOp, pureOp, allocOp, readOp, effOp, ev, evs, evO, Env.get_cons, putE, binA, intBin, unA, AV.fit, AV.toCells, partC, partP, mkCells, allP, mkAgg, Cells.len, target, hi, hne]; rfl, by simp [Env.get_cons], by simp [Env.get_cons], by simp [Env.get_cons]⟩
    obtain ⟨ρ1, e1', p0, p1, p5⟩ := pre
    have mid : ∃ ρ2, exec C L mid25 ⟨ρ1, [], [.arr (.pv (vcs x)) 0 0 ty]⟩ = some (.normal, ⟨ρ2, [], [.arr (.pv (vcs x)) 0 0 ty]⟩) ∧ At25 0 0 x.length ρ2 i (i + 1) :=
      ⟨_, by simp [mid25, lit25, fstC, sndC, exec, runOps, wantedA, stepOp, pureOp, allocOp, readOp, effOp, ev, evs, evO, Env.get_cons, putE, binA, intBin, unA, AV.fit, AV.toCells, partC, partP, mkCells, allP, mkAgg, Cells.len, target, p5, e1]; rfl, by simp [Env.get_cons, p0], by simp [Env.get_cons, p1], by simp [Env.get_cons, p5], by simp [Env.get_cons]⟩
    obtain ⟨ρ2, e2, h2'⟩ := mid
    obtain ⟨e3, hat, hk, hyl, hyt, hob⟩ := hF ρ2 h2'
    obtain ⟨ρ4, σ4, y4, e4, g4, ho4, hy4, ht4⟩ := tail25 C L x.length (F ρ2).2.2.2 ty (F ρ2).1 (F ρ2).2.1 (F ρ2).2.2.1 hat hk hyl hob
    have hkk : (F ρ2).2.2.2 = (nn x).length := by rw [← hyt, List.length_take, hyl, Nat.min_eq_left hk]
    have hrun : exec C L lit25.body ⟨params 0 [.sl 0 0 0 x.length 4, .p (.fn 27)], [], [.arr (.pv (vcs x)) 0 0 ty]⟩ = some (.ret, ⟨ρ4, [], σ4⟩) := by
      have e5 : exec C L (.seq mid25 (.block 0 (.loop none body25))) ⟨ρ1, [], [.arr (.pv (vcs x)) 0 0 ty]⟩ = some (.normal, ⟨(F ρ2).1, [], (F ρ2).2.1⟩) := by
        rw [seqN e2]
        simp only [exec, e3, if_true]
      have e6 : exec C L (.seq (.seq mid25 (.block 0 (.loop none body25))) end25) ⟨ρ1, [], [.arr (.pv (vcs x)) 0 0 ty]⟩ = some (.ret, ⟨ρ4, [], σ4⟩) := by
        rw [seqN e5]; exact e4
      rw [parts25, ← seq3 C L _ _ _ _ _ _ e1']
      exact e6
    refine ⟨σ4, y4, ?_, ho4, hy4, ?_⟩
    · rw [← lit25_eq, hrun]
      simp [finX, finA, leaveA, resA, resV, lit25, g4, hkk]
    · rw [← hkk, ht4, hyt]
end
section
variable (L n : Nat)
theorem q25 : TC 25 = some (.code lit25 false) := by kernel_rfl
/-- DeleteFunc of a slice in the heap -/
theorem delete25 (x : List V) (hm : x.length ≤ 9223372036854775807) (hL : x.length < L) {σ : Heap} {id ver : Nat} {ty : Option Nat} (ho : σ[id]? = some (.arr (.pv (vcs x)) ver 0 ty)) :
    ∃ y, (cAt TC L (n + 3)).1 25 [.sl id ver 0 x.length 4, .p (.fn 27)] σ = some (.ret (.sl id ver 0 (nn x).length 4), σ.set id (.arr (.pv (vcs y)) ver 0 ty)) ∧ y.length = x.length ∧ y.take (nn x).length = nn x := by
  have hi := index_null L n x hm hL (s := .sl 0 0 0 x.length 4) (σ := [.arr (.pv (vcs x)) 0 0 ty]) (.inr ⟨0, 0, 0, [], ty, rfl, by simp⟩)
  have hC : ∀ v ∈ x, ∀ σ, (cAt TC L (n + 2)).1 27 [.p (.agg (vc v))] σ = some (.ret (.p (.bool (isNull v))), σ) := fun v _ σ => null27 L (n + 1) v σ
  rw [show cAt TC L (n + 3) = (callT TC (cAt TC L (n + 2)).1 (cAt TC L (n + 2)).2 L, defT TC (cAt TC L (n + 2)).1 L) from rfl]
  simp only [callT, q25]
  generalize (cAt TC L (n + 2)).1 = C at *
  generalize (cAt TC L (n + 2)).2 = D
  obtain ⟨τ, y, h1, h2, h3, h4⟩ := own25 C D L x hm hL ty hC hi
  refine ⟨y, ?_, h3, h4⟩
  have hb : Nat.beq id id = true := Nat.beq_refl id
  have hf : fits lit25 [.sl 0 0 0 x.length 4, .p (.fn 27)] = true := rfl
  exact wrap_sl (as0 := [.sl 0 0 0 x.length 4, .p (.fn 27)]) (by simp only [runCode, hf]; exact h1) h2 ho rfl (by simp [renL, renV, fwd, posOf, hb])
end
end Go.Ab.Cnt

/- EvalCounts: calls that freeze a list; numbers; copies. -/
set_option maxRecDepth 1000000
namespace Go.Ab.Cnt
open Go Go.Ab Go.Ab.Key Go.Proofs
variable [Marks]
def lit28 : AFunc := { ntmps := 5, results := [ARes.cell 2 true 4], body := (ACode.region [{ dst := some 2, op := AOp.alloc 30 [AV.p (PV.int IntKind.i64 (0)), AV.p (PV.int IntKind.i64 (0)), AV.p (PV.str []), AV.p (PV.bool false)], guard := none }]).seq ((ACode.region [{ dst := some 3, op := AOp.mv (Opd.t 0), guard := none }, { dst := some 4, op := AOp.build [AV.p (PV.int IntKind.i64 (0)), AV.p (PV.int IntKind.i64 (0)), AV.p (PV.str []), AV.p (PV.bool false)] [(0, 1, Opd.c (AV.p (PV.int IntKind.i64 (1)))), (1, 1, Opd.t 3)], guard := none }, { dst := none, op := AOp.store 4 (Opd.t 2) (Opd.t 4), guard := none }]).seq ACode.ret) }
/-- a call whose arguments are frozen is that of the frozen ones -/
theorem frz_more {g : List AV → Heap → Option (CRes × Heap)} {xs ys : List AV} {σ σ1 : Heap} (h : frzA (touch σ xs) 9 σ xs = (ys, σ1)) (h1 : frzA (touch σ1 ys) 9 σ1 ys = (ys, σ1)) (ht : ((touch σ1 ys).all fun x => (touch σ xs).contains x) = true) :
    wrapF g true xs σ = wrapF g true ys σ1 := by
  have ht1 : ((touch σ1 ys).all fun x => (touch σ1 ys).contains x) = true := by simp
  unfold wrapF
  simp only [h, h1, ht, ht1]
/-- a list, frozen or in an object of its own behind the two first -/
def Lst (σ : Heap) (s : AV) (l : List V) : Prop := s = .p (.vsl (vcs l) l.length) ∨ (s = .nil0 ∧ l = []) ∨ ∃ id ver wm rest ty, 2 ≤ id ∧ s = .sl id ver 0 l.length 4 ∧ σ[id]? = some (.arr (.pv (vcs l ++ rest)) ver wm ty) ∧ wm ≤ l.length * 4
/-- the two first objects stay -/
def Two (σ σ1 : Heap) : Prop := σ1[0]? = σ[0]? ∧ σ1[1]? = σ[1]? ∧ σ.length ≤ σ1.length
theorem Two.refl (σ : Heap) : Two σ σ := ⟨rfl, rfl, Nat.le_refl _⟩
theorem Two.trans {σ σ1 σ2 : Heap} (h : Two σ σ1) (k : Two σ1 σ2) : Two σ σ2 := ⟨k.1.trans h.1, k.2.1.trans h.2.1, Nat.le_trans h.2.2 k.2.2⟩
theorem Two.push {σ : Heap} (h : 2 ≤ σ.length) (τ : Heap) : Two σ (σ ++ τ) := ⟨List.getElem?_append_left (by omega), List.getElem?_append_left (by omega), by simp⟩
theorem Two.set {σ : Heap} {id : Nat} (h : 2 ≤ id) (o : Obj) : Two σ (σ.set id o) := ⟨List.getElem?_set_ne (by omega), List.getElem?_set_ne (by omega), by simp⟩
theorem Lst.len {σ : Heap} {s : AV} {l : List V} (h : Lst σ s l) : lenA s = some l.length := by
  rcases h with rfl | ⟨rfl, rfl⟩ | ⟨_, _, _, _, _, _, rfl, _⟩ <;> rfl
theorem Lst.str {σ : Heap} {s : AV} {l : List V} (h : Lst σ s l) : ∀ t, s ≠ .p (.str t) := by
  intro t ht
  rcases h with rfl | ⟨rfl, rfl⟩ | ⟨_, _, _, _, _, _, rfl, _⟩ <;> cases ht
theorem Lst.push {σ : Heap} {s : AV} {l : List V} (h : Lst σ s l) (τ : Heap) : Lst (σ ++ τ) s l := by
  rcases h with h | h | ⟨id, ver, wm, rest, ty, h2, hs, ho, hw⟩
  · exact .inl h
  · exact .inr (.inl h)
  · exact .inr (.inr ⟨id, ver, wm, rest, ty, h2, hs, by rw [List.getElem?_append_left (List.getElem?_eq_some_iff.1 ho).1]; exact ho, hw⟩)
/-- a list frozen: which is left of the heap -/
theorem Lst.frz {σ : Heap} {s : AV} {l : List V} (h : Lst σ s l) {tl : List Nat} (ht : ∀ id ver n, s = .sl id ver 0 n 4 → tl.contains id = true) :
    ∃ σ1, Go.Ab.frz tl 9 σ s = some (.vsl (vcs l) l.length, σ1) ∧ Two σ σ1 ∧ σ1.length = σ.length ∧ Lst σ1 s l ∧ ∀ j o, σ[j]? = some o → (∀ ver n, s ≠ .sl j ver 0 n 4) → σ1[j]? = some o := by
  rcases h with rfl | ⟨rfl, rfl⟩ | ⟨id, ver, wm, rest, ty, h2, rfl, ho, hw⟩
  · exact ⟨σ, rfl, .refl _, rfl, .inl rfl, fun _ _ h _ => h⟩
  · exact ⟨σ, rfl, .refl _, rfl, .inr (.inl ⟨rfl, rfl⟩), fun _ _ h _ => h⟩
  · have hid : id < σ.length := (List.getElem?_eq_some_iff.1 ho).1
    have hc := ht id ver l.length rfl
    have hl : l.length * 4 ≤ (vcs l).length + rest.length := by rw [vcs_len]; omega
    have htk : (vcs l ++ rest).take (l.length * 4) = vcs l := by rw [← vcs_len, List.take_left]
    have hmax : Nat.max wm (l.length * 4) = l.length * 4 := Nat.max_eq_right hw
    refine ⟨σ.set id (.arr (.pv (vcs l ++ rest)) ver (l.length * 4) ty), ?_, .set h2 _, by simp, ?_, ?_⟩
    · simp only [Go.Ab.frz, ho, Cells.len, hc, List.drop_zero, htk, and_true, true_and, List.length_append, Nat.zero_add, hmax]
      rw [if_pos hl]
    · exact .inr (.inr ⟨id, ver, l.length * 4, rest, ty, h2, rfl, by rw [List.getElem?_set_self hid], Nat.le_refl _⟩)
    · intro j o hj hne
      rw [List.getElem?_set_ne]
      · exact hj
      · rintro rfl
        exact hne ver l.length rfl
section
variable (L n : Nat)
theorem q28 : TC 28 = some (.code lit28 true) := by kernel_rfl
theorem num28 (k : Int) (σ : Heap) : (cAt TC L (n + 1)).1 28 [.p (.int .i64 k)] σ = some (.ret (.p (.agg (vc (.num k)))), σ) :=
  call_ans (ps := [.int .i64 k]) (n := n) q28 rfl (by
    generalize (cAt TC L n).1 = C
    generalize (cAt TC L n).2 = D
    kernel_rfl) σ
/-- a copy of a list: one that is empty is frozen, another one is new -/
theorem copy26 {σ : Heap} {s : AV} {l : List V} (h : Lst σ s l) (hl : l.length ≤ LIM) :
    ∃ σ1, Two σ σ1 ∧ σ1.length = σ.length ∧ Lst σ1 s l ∧ (l = [] → (cAt TC L (n + 1)).1 26 [s] σ = some (.ret (.p (.vsl [] 0)), σ1)) ∧
      (l ≠ [] → (cAt TC L (n + 1)).1 26 [s] σ = some (.ret (.sl σ.length 0 0 l.length 4), σ1 ++ [.arr (.pv (vcs l)) 0 0 none])) := by
  have ht : ∀ id ver n, s = .sl id ver 0 n 4 → (touch σ [s]).contains id = true := by
    intro id ver n hs
    rcases h with rfl | ⟨rfl, rfl⟩ | ⟨id', ver', wm, rest, ty, h2, rfl, ho, hw⟩
    · cases hs
    · cases hs
    · cases hs
      simp [touch, idsL, idsV, collect, idsO, ho]
  obtain ⟨σ1, h1, h2, h3, h4, h5⟩ := h.frz ht
  have hf : frzA (touch σ [s]) 9 σ [s] = ([.p (.vsl (vcs l) l.length)], σ1) := by
    simp only [frzA, h1]
  have he : (cAt TC L (n + 1)).1 26 [s] σ = (cAt TC L (n + 1)).1 26 [.p (.vsl (vcs l) l.length)] σ1 := by
    simp only [cAt, callT, q26]
    exact frz_more hf rfl rfl
  refine ⟨σ1, h2, h3, h4, fun hl0 => ?_, fun hl0 => ?_⟩
  · subst hl0
    rw [he]
    simp only [cAt, callT, q26]
    refine wrap_pure (ps := [.vsl [] 0]) (σr := []) ?_ σ1
    rfl
  · rw [he]
    cases l with
    | nil => exact absurd rfl hl0
    | cons v r =>
      have := clone26 L n v r (by simpa using hl) σ1
      rw [h3] at this
      exact this
end
end Go.Ab.Cnt

/- EvalCounts: Total: those that are not null. -/
set_option maxRecDepth 1000000
namespace Go.Ab.Cnt
open Go Go.Ab Go.Ab.Key Go.Proofs
variable [Marks]
def lit9 : AFunc := { ntmps := 67, results := [ARes.cell 4 true 4, ARes.tmp 5], body := (ACode.region [{ dst := some 2, op := AOp.box 4 (Opd.t 0), guard := none }, { dst := some 4, op := AOp.alloc 30 [AV.p (PV.int IntKind.i64 (0)), AV.p (PV.int IntKind.i64 (0)), AV.p (PV.str []), AV.p (PV.bool false)], guard := none }, { dst := some 5, op := AOp.mv (Opd.c (AV.p (PV.str []))), guard := none }]).seq (((ACode.region [{ dst := some 10, op := AOp.fieldAddr 2 (Opd.t 2), guard := none }, { dst := some 11, op := AOp.load false 1 (Opd.t 10), guard := none }, { dst := some 12, op := AOp.bin (Bin.plain BinOp.eql) (Opd.t 11) (Opd.c (AV.p (PV.int IntKind.i64 (1)))), guard := none }]).seq (ACode.cond (Opd.t 12) ((ACode.region [{ dst := some 6, op := AOp.mv (Opd.c AV.nil0), guard := none }]).seq (((ACode.region [{ dst := some 13, op := AOp.mv (Opd.t 1), guard := none }, { dst := some 14, op := AOp.len false (Opd.t 13), guard := none }, { dst := some 15, op := AOp.mv (Opd.c (AV.p (PV.int IntKind.i64 (0)))), guard := none }]).seq (ACode.block 0 (ACode.loop none ((ACode.region [{ dst := some 16, op := AOp.bin (Bin.plain BinOp.lss) (Opd.t 15) (Opd.t 14), guard := none }]).seq ((ACode.cond (Opd.t 16) ACode.skip (ACode.exit 0)).seq ((ACode.block 1 ((ACode.region [{ dst := some 17, op := AOp.idx 4 (Opd.t 13) (Opd.t 15), guard := none }, { dst := some 18, op := AOp.load true 4 (Opd.t 17), guard := none }, { dst := some 8, op := AOp.alloc 30 [AV.p (PV.int IntKind.i64 (0)), AV.p (PV.int IntKind.i64 (0)), AV.p (PV.str []), AV.p (PV.bool false)], guard := none }, { dst := none, op := AOp.store 4 (Opd.t 8) (Opd.t 18), guard := none }]).seq ((ACode.region [{ dst := some 19, op := AOp.mv (Opd.t 6), guard := none }, { dst := some 20, op := AOp.mkFunc 23 [] [Opd.t 8], guard := none }, { dst := some 21, op := AOp.call (Opd.c (AV.p (PV.fn 22))) [Opd.t 19, Opd.t 20], guard := none }, { dst := some 22, op := AOp.un UnOp.not (Opd.t 21), guard := none }]).seq (ACode.cond (Opd.t 22) (ACode.region [{ dst := some 23, op := AOp.mv (Opd.t 6), guard := none }, { dst := some 24, op := AOp.load true 4 (Opd.t 8), guard := none }, { dst := some 25, op := AOp.buildSlice [AV.p (PV.int IntKind.i64 (0)), AV.p (PV.int IntKind.i64 (0)), AV.p (PV.str []), AV.p (PV.bool false)] 1 4 [(0, 4, Opd.t 24)], guard := none }, { dst := some 26, op := AOp.append 30 4 [AV.p (PV.int IntKind.i64 (0)), AV.p (PV.int IntKind.i64 (0)), AV.p (PV.str []), AV.p (PV.bool false)] (Opd.t 23) (Opd.t 25), guard := none }, { dst := some 6, op := AOp.mv (Opd.t 26), guard := none }]) ACode.skip)))).seq (ACode.region [{ dst := some 27, op := AOp.bin (Bin.plain BinOp.add) (Opd.t 15) (Opd.c (AV.p (PV.int IntKind.i64 (1)))), guard := none }, { dst := some 15, op := AOp.mv (Opd.t 27), guard := none }]))))))).seq (ACode.region [{ dst := some 28, op := AOp.mv (Opd.t 6), guard := none }, { dst := some 1, op := AOp.mv (Opd.t 28), guard := none }]))) ACode.skip)).seq ((ACode.region [{ dst := some 29, op := AOp.mv (Opd.t 1), guard := none }, { dst := some 30, op := AOp.call (Opd.c (AV.p (PV.fn 26))) [Opd.t 29], guard := none }, { dst := some 31, op := AOp.call (Opd.c (AV.p (PV.fn 25))) [Opd.t 30, Opd.c (AV.p (PV.fn 27))], guard := none }, { dst := some 9, op := AOp.alloc 25 [AV.nil0], guard := none }, { dst := none, op := AOp.store 1 (Opd.t 9) (Opd.t 31), guard := none }]).seq (((ACode.region [{ dst := some 32, op := AOp.fieldAddr 0 (Opd.t 2), guard := none }, { dst := some 33, op := AOp.load false 1 (Opd.t 32), guard := none }]).seq (ACode.block 2 ((ACode.region [{ dst := some 36, op := AOp.bin (Bin.plain BinOp.eql) (Opd.t 33) (Opd.c (AV.p (PV.str [99, 111, 117, 110, 116, 42]))), guard := none }, { dst := some 35, op := AOp.mv (Opd.t 36), guard := none }]).seq (ACode.cond (Opd.t 35) ((ACode.region [{ dst := some 37, op := AOp.mv (Opd.t 1), guard := none }, { dst := some 38, op := AOp.len false (Opd.t 37), guard := none }, { dst := some 39, op := AOp.call (Opd.c (AV.p (PV.fn 28))) [Opd.t 38], guard := none }, { dst := none, op := AOp.store 4 (Opd.t 4) (Opd.t 39), guard := none }, { dst := some 5, op := AOp.mv (Opd.c (AV.p (PV.str [48, 48, 48, 48, 48]))), guard := none }]).seq ACode.ret) ((ACode.region [{ dst := some 41, op := AOp.bin (Bin.plain BinOp.eql) (Opd.t 33) (Opd.c (AV.p (PV.str [99, 111, 117, 110, 116]))), guard := none }, { dst := some 40, op := AOp.mv (Opd.t 41), guard := none }]).seq (ACode.cond (Opd.t 40) ((ACode.region [{ dst := some 42, op := AOp.load false 1 (Opd.t 9), guard := none }, { dst := some 43, op := AOp.len false (Opd.t 42), guard := none }, { dst := some 44, op := AOp.call (Opd.c (AV.p (PV.fn 28))) [Opd.t 43], guard := none }, { dst := none, op := AOp.store 4 (Opd.t 4) (Opd.t 44), guard := none }, { dst := some 5, op := AOp.mv (Opd.c (AV.p (PV.str [48, 48, 48, 48, 48]))), guard := none }]).seq ACode.ret) (((ACode.region [{ dst := some 46, op := AOp.bin (Bin.plain BinOp.eql) (Opd.t 33) (Opd.c (AV.p (PV.str [115, 117, 109]))), guard := none }, { dst := some 45, op := AOp.mv (Opd.t 46), guard := none }]).seq (ACode.cond (Opd.t 45) ACode.skip ((ACode.region [{ dst := some 47, op := AOp.bin (Bin.plain BinOp.eql) (Opd.t 33) (Opd.c (AV.p (PV.str [109, 105, 110]))), guard := none }, { dst := some 45, op := AOp.mv (Opd.t 47), guard := none }]).seq (ACode.cond (Opd.t 45) ACode.skip (ACode.region [{ dst := some 48, op := AOp.bin (Bin.plain BinOp.eql) (Opd.t 33) (Opd.c (AV.p (PV.str [109, 97, 120]))), guard := none }, { dst := some 45, op := AOp.mv (Opd.t 48), guard := none }]))))).seq (ACode.cond (Opd.t 45) ACode.skip ((ACode.region [{ dst := some 34, op := AOp.build [AV.p (PV.int IntKind.i64 (0)), AV.p (PV.int IntKind.i64 (0)), AV.p (PV.str []), AV.p (PV.bool false)] [], guard := none }, { dst := none, op := AOp.store 4 (Opd.t 4) (Opd.t 34), guard := none }, { dst := some 5, op := AOp.mv (Opd.c (AV.p (PV.str [52, 50, 54, 48, 49]))), guard := none }]).seq ACode.ret))))))))).seq (((ACode.region [{ dst := some 49, op := AOp.load false 1 (Opd.t 9), guard := none }, { dst := some 50, op := AOp.len false (Opd.t 49), guard := none }, { dst := some 51, op := AOp.bin (Bin.plain BinOp.eql) (Opd.t 50) (Opd.c (AV.p (PV.int IntKind.i64 (0)))), guard := none }]).seq (ACode.cond (Opd.t 51) ((ACode.region [{ dst := some 52, op := AOp.build [AV.p (PV.int IntKind.i64 (0)), AV.p (PV.int IntKind.i64 (0)), AV.p (PV.str []), AV.p (PV.bool false)] [], guard := none }, { dst := none, op := AOp.store 4 (Opd.t 4) (Opd.t 52), guard := none }, { dst := some 5, op := AOp.mv (Opd.c (AV.p (PV.str [48, 48, 48, 48, 48]))), guard := none }]).seq ACode.ret) ACode.skip)).seq (((ACode.region [{ dst := some 53, op := AOp.fieldAddr 0 (Opd.t 2), guard := none }, { dst := some 54, op := AOp.load false 1 (Opd.t 53), guard := none }]).seq (ACode.block 3 ((ACode.region [{ dst := some 56, op := AOp.bin (Bin.plain BinOp.eql) (Opd.t 54) (Opd.c (AV.p (PV.str [109, 105, 110]))), guard := none }, { dst := some 55, op := AOp.mv (Opd.t 56), guard := none }]).seq (ACode.cond (Opd.t 55) ((ACode.region [{ dst := some 57, op := AOp.load false 1 (Opd.t 9), guard := none }, { dst := some 58, op := AOp.call (Opd.c (AV.p (PV.fn 29))) [Opd.t 57, Opd.c (AV.p (PV.fn 24))], guard := none }, { dst := none, op := AOp.store 4 (Opd.t 4) (Opd.t 58), guard := none }, { dst := some 5, op := AOp.mv (Opd.c (AV.p (PV.str [48, 48, 48, 48, 48]))), guard := none }]).seq ACode.ret) ((ACode.region [{ dst := some 60, op := AOp.bin (Bin.plain BinOp.eql) (Opd.t 54) (Opd.c (AV.p (PV.str [109, 97, 120]))), guard := none }, { dst := some 59, op := AOp.mv (Opd.t 60), guard := none }]).seq (ACode.cond (Opd.t 59) ((ACode.region [{ dst := some 61, op := AOp.load false 1 (Opd.t 9), guard := none }, { dst := some 62, op := AOp.call (Opd.c (AV.p (PV.fn 30))) [Opd.t 61, Opd.c (AV.p (PV.fn 24))], guard := none }, { dst := none, op := AOp.store 4 (Opd.t 4) (Opd.t 62), guard := none }, { dst := some 5, op := AOp.mv (Opd.c (AV.p (PV.str [48, 48, 48, 48, 48]))), guard := none }]).seq ACode.ret) ACode.skip)))))).seq ((ACode.region [{ dst := some 63, op := AOp.mkFunc 32 [] [Opd.t 9], guard := none }, { dst := some 64, op := AOp.call (Opd.c (AV.p (PV.fn 31))) [Opd.t 63], guard := none }, { dst := some 65, op := AOp.extract 0 (Opd.t 64), guard := none }, { dst := some 66, op := AOp.extract 1 (Opd.t 64), guard := none }, { dst := none, op := AOp.store 4 (Opd.t 4) (Opd.t 65), guard := none }, { dst := some 5, op := AOp.mv (Opd.t 66), guard := none }]).seq ACode.ret)))))) }
def p9_1 : ACode := ACode.region [{ dst := some 2, op := AOp.box 4 (Opd.t 0), guard := none }, { dst := some 4, op := AOp.alloc 30 [AV.p (PV.int IntKind.i64 (0)), AV.p (PV.int IntKind.i64 (0)), AV.p (PV.str []), AV.p (PV.bool false)], guard := none }, { dst := some 5, op := AOp.mv (Opd.c (AV.p (PV.str []))), guard := none }]
def p9_2 : ACode := (ACode.region [{ dst := some 10, op := AOp.fieldAddr 2 (Opd.t 2), guard := none }, { dst := some 11, op := AOp.load false 1 (Opd.t 10), guard := none }, { dst := some 12, op := AOp.bin (Bin.plain BinOp.eql) (Opd.t 11) (Opd.c (AV.p (PV.int IntKind.i64 (1)))), guard := none }]).seq (ACode.cond (Opd.t 12) ((ACode.region [{ dst := some 6, op := AOp.mv (Opd.c AV.nil0), guard := none }]).seq (((ACode.region [{ dst := some 13, op := AOp.mv (Opd.t 1), guard := none }, { dst := some 14, op := AOp.len false (Opd.t 13), guard := none }, { dst := some 15, op := AOp.mv (Opd.c (AV.p (PV.int IntKind.i64 (0)))), guard := none }]).seq (ACode.block 0 (ACode.loop none ((ACode.region [{ dst := some 16, op := AOp.bin (Bin.plain BinOp.lss) (Opd.t 15) (Opd.t 14), guard := none }]).seq ((ACode.cond (Opd.t 16) ACode.skip (ACode.exit 0)).seq ((ACode.block 1 ((ACode.region [{ dst := some 17, op := AOp.idx 4 (Opd.t 13) (Opd.t 15), guard := none }, { dst := some 18, op := AOp.load true 4 (Opd.t 17), guard := none }, { dst := some 8, op := AOp.alloc 30 [AV.p (PV.int IntKind.i64 (0)), AV.p (PV.int IntKind.i64 (0)), AV.p (PV.str []), AV.p (PV.bool false)], guard := none }, { dst := none, op := AOp.store 4 (Opd.t 8) (Opd.t 18), guard := none }]).seq ((ACode.region [{ dst := some 19, op := AOp.mv (Opd.t 6), guard := none }, { dst := some 20, op := AOp.mkFunc 23 [] [Opd.t 8], guard := none }, { dst := some 21, op := AOp.call (Opd.c (AV.p (PV.fn 22))) [Opd.t 19, Opd.t 20], guard := none }, { dst := some 22, op := AOp.un UnOp.not (Opd.t 21), guard := none }]).seq (ACode.cond (Opd.t 22) (ACode.region [{ dst := some 23, op := AOp.mv (Opd.t 6), guard := none }, { dst := some 24, op := AOp.load true 4 (Opd.t 8), guard := none }, { dst := some 25, op := AOp.buildSlice [AV.p (PV.int IntKind.i64 (0)), AV.p (PV.int IntKind.i64 (0)), AV.p (PV.str []), AV.p (PV.bool false)] 1 4 [(0, 4, Opd.t 24)], guard := none }, { dst := some 26, op := AOp.append 30 4 [AV.p (PV.int IntKind.i64 (0)), AV.p (PV.int IntKind.i64 (0)), AV.p (PV.str []), AV.p (PV.bool false)] (Opd.t 23) (Opd.t 25), guard := none }, { dst := some 6, op := AOp.mv (Opd.t 26), guard := none }]) ACode.skip)))).seq (ACode.region [{ dst := some 27, op := AOp.bin (Bin.plain BinOp.add) (Opd.t 15) (Opd.c (AV.p (PV.int IntKind.i64 (1)))), guard := none }, { dst := some 15, op := AOp.mv (Opd.t 27), guard := none }]))))))).seq (ACode.region [{ dst := some 28, op := AOp.mv (Opd.t 6), guard := none }, { dst := some 1, op := AOp.mv (Opd.t 28), guard := none }]))) ACode.skip)
def p9_3 : ACode := ACode.region [{ dst := some 29, op := AOp.mv (Opd.t 1), guard := none }, { dst := some 30, op := AOp.call (Opd.c (AV.p (PV.fn 26))) [Opd.t 29], guard := none }, { dst := some 31, op := AOp.call (Opd.c (AV.p (PV.fn 25))) [Opd.t 30, Opd.c (AV.p (PV.fn 27))], guard := none }, { dst := some 9, op := AOp.alloc 25 [AV.nil0], guard := none }, { dst := none, op := AOp.store 1 (Opd.t 9) (Opd.t 31), guard := none }]
def p9_4 : ACode := (ACode.region [{ dst := some 32, op := AOp.fieldAddr 0 (Opd.t 2), guard := none }, { dst := some 33, op := AOp.load false 1 (Opd.t 32), guard := none }]).seq (ACode.block 2 ((ACode.region [{ dst := some 36, op := AOp.bin (Bin.plain BinOp.eql) (Opd.t 33) (Opd.c (AV.p (PV.str [99, 111, 117, 110, 116, 42]))), guard := none }, { dst := some 35, op := AOp.mv (Opd.t 36), guard := none }]).seq (ACode.cond (Opd.t 35) ((ACode.region [{ dst := some 37, op := AOp.mv (Opd.t 1), guard := none }, { dst := some 38, op := AOp.len false (Opd.t 37), guard := none }, { dst := some 39, op := AOp.call (Opd.c (AV.p (PV.fn 28))) [Opd.t 38], guard := none }, { dst := none, op := AOp.store 4 (Opd.t 4) (Opd.t 39), guard := none }, { dst := some 5, op := AOp.mv (Opd.c (AV.p (PV.str [48, 48, 48, 48, 48]))), guard := none }]).seq ACode.ret) ((ACode.region [{ dst := some 41, op := AOp.bin (Bin.plain BinOp.eql) (Opd.t 33) (Opd.c (AV.p (PV.str [99, 111, 117, 110, 116]))), guard := none }, { dst := some 40, op := AOp.mv (Opd.t 41), guard := none }]).seq (ACode.cond (Opd.t 40) ((ACode.region [{ dst := some 42, op := AOp.load false 1 (Opd.t 9), guard := none }, { dst := some 43, op := AOp.len false (Opd.t 42), guard := none }, { dst := some 44, op := AOp.call (Opd.c (AV.p (PV.fn 28))) [Opd.t 43], guard := none }, { dst := none, op := AOp.store 4 (Opd.t 4) (Opd.t 44), guard := none }, { dst := some 5, op := AOp.mv (Opd.c (AV.p (PV.str [48, 48, 48, 48, 48]))), guard := none }]).seq ACode.ret) (((ACode.region [{ dst := some 46, op := AOp.bin (Bin.plain BinOp.eql) (Opd.t 33) (Opd.c (AV.p (PV.str [115, 117, 109]))), guard := none }, { dst := some 45, op := AOp.mv (Opd.t 46), guard := none }]).seq (ACode.cond (Opd.t 45) ACode.skip ((ACode.region [{ dst := some 47, op := AOp.bin (Bin.plain BinOp.eql) (Opd.t 33) (Opd.c (AV.p (PV.str [109, 105, 110]))), guard := none }, { dst := some 45, op := AOp.mv (Opd.t 47), guard := none }]).seq (ACode.cond (Opd.t 45) ACode.skip (ACode.region [{ dst := some 48, op := AOp.bin (Bin.plain BinOp.eql) (Opd.t 33) (Opd.c (AV.p (PV.str [109, 97, 120]))), guard := none }, { dst := some 45, op := AOp.mv (Opd.t 48), guard := none }]))))).seq (ACode.cond (Opd.t 45) ACode.skip ((ACode.region [{ dst := some 34, op := AOp.build [AV.p (PV.int IntKind.i64 (0)), AV.p (PV.int IntKind.i64 (0)), AV.p (PV.str []), AV.p (PV.bool false)] [], guard := none }, { dst := none, op := AOp.store 4 (Opd.t 4) (Opd.t 34), guard := none }, { dst := some 5, op := AOp.mv (Opd.c (AV.p (PV.str [52, 50, 54, 48, 49]))), guard := none }]).seq ACode.ret))))))))
def p9_5 : ACode := (ACode.region [{ dst := some 49, op := AOp.load false 1 (Opd.t 9), guard := none }, { dst := some 50, op := AOp.len false (Opd.t 49), guard := none }, { dst := some 51, op := AOp.bin (Bin.plain BinOp.eql) (Opd.t 50) (Opd.c (AV.p (PV.int IntKind.i64 (0)))), guard := none }]).seq (ACode.cond (Opd.t 51) ((ACode.region [{ dst := some 52, op := AOp.build [AV.p (PV.int IntKind.i64 (0)), AV.p (PV.int IntKind.i64 (0)), AV.p (PV.str []), AV.p (PV.bool false)] [], guard := none }, { dst := none, op := AOp.store 4 (Opd.t 4) (Opd.t 52), guard := none }, { dst := some 5, op := AOp.mv (Opd.c (AV.p (PV.str [48, 48, 48, 48, 48]))), guard := none }]).seq ACode.ret) ACode.skip)
def p9_6 : ACode := (ACode.region [{ dst := some 53, op := AOp.fieldAddr 0 (Opd.t 2), guard := none }, { dst := some 54, op := AOp.load false 1 (Opd.t 53), guard := none }]).seq (ACode.block 3 ((ACode.region [{ dst := some 56, op := AOp.bin (Bin.plain BinOp.eql) (Opd.t 54) (Opd.c (AV.p (PV.str [109, 105, 110]))), guard := none }, { dst := some 55, op := AOp.mv (Opd.t 56), guard := none }]).seq (ACode.cond (Opd.t 55) ((ACode.region [{ dst := some 57, op := AOp.load false 1 (Opd.t 9), guard := none }, { dst := some 58, op := AOp.call (Opd.c (AV.p (PV.fn 29))) [Opd.t 57, Opd.c (AV.p (PV.fn 24))], guard := none }, { dst := none, op := AOp.store 4 (Opd.t 4) (Opd.t 58), guard := none }, { dst := some 5, op := AOp.mv (Opd.c (AV.p (PV.str [48, 48, 48, 48, 48]))), guard := none }]).seq ACode.ret) ((ACode.region [{ dst := some 60, op := AOp.bin (Bin.plain BinOp.eql) (Opd.t 54) (Opd.c (AV.p (PV.str [109, 97, 120]))), guard := none }, { dst := some 59, op := AOp.mv (Opd.t 60), guard := none }]).seq (ACode.cond (Opd.t 59) ((ACode.region [{ dst := some 61, op := AOp.load false 1 (Opd.t 9), guard := none }, { dst := some 62, op := AOp.call (Opd.c (AV.p (PV.fn 30))) [Opd.t 61, Opd.c (AV.p (PV.fn 24))], guard := none }, { dst := none, op := AOp.store 4 (Opd.t 4) (Opd.t 62), guard := none }, { dst := some 5, op := AOp.mv (Opd.c (AV.p (PV.str [48, 48, 48, 48, 48]))), guard := none }]).seq ACode.ret) ACode.skip)))))
def p9_r : ACode := (ACode.region [{ dst := some 63, op := AOp.mkFunc 32 [] [Opd.t 9], guard := none }, { dst := some 64, op := AOp.call (Opd.c (AV.p (PV.fn 31))) [Opd.t 63], guard := none }, { dst := some 65, op := AOp.extract 0 (Opd.t 64), guard := none }, { dst := some 66, op := AOp.extract 1 (Opd.t 64), guard := none }, { dst := none, op := AOp.store 4 (Opd.t 4) (Opd.t 65), guard := none }, { dst := some 5, op := AOp.mv (Opd.t 66), guard := none }]).seq ACode.ret
theorem p9_eq : lit9.body = .seq p9_1 (.seq p9_2 (.seq p9_3 (.seq p9_4 (.seq p9_5 (.seq p9_6 p9_r))))) := rfl
section
variable (L n : Nat)
theorem q9 : TC 9 = some (.code lit9 true) := by kernel_rfl
theorem del_nil (σ : Heap) (hL : 0 < L) : (cAt TC L (n + 3)).1 25 [.p (.vsl [] 0), .p (.fn 27)] σ = some (.ret (.p (.vsl [] 0)), σ) := by
  have hi : (cAt TC L (n + 2)).1 40 [.p (.vsl [] 0), .p (.fn 27)] [] = some (.ret (.p (.int .i64 (-1))), []) := by
    obtain ⟨L, rfl⟩ : ∃ k, L = k + 1 := ⟨L - 1, by omega⟩
    exact (call_ans (ps := [.vsl [] 0, .fn 27]) (n := n + 1) q40 rfl (v := .int .i64 (-1)) (by
      generalize (cAt TC (L + 1) (n + 1)).1 = C
      generalize (cAt TC (L + 1) (n + 1)).2 = D
      kernel_rfl) [])
  refine call_ans (ps := [.vsl [] 0, .fn 27]) (n := n + 2) q25 rfl ?_ σ
  generalize (cAt TC L (n + 2)).1 = C at *
  generalize (cAt TC L (n + 2)).2 = D
  simp [lit25, runFunc, params, exec, runOps, wantedA, stepOp, pureOp, allocOp, readOp, effOp, ev, evs, evO, Env.get_cons, putE, binA, intBin, unA, AV.fit, AV.toCells, partC, partP, mkCells, allP, mkAgg, Cells.len, target, evParts, fillA, AV.cells, splice, spliceC, finA, leaveA, resA, resV, ansV, hi]
end
section
variable (L n : Nat)
/-- what lies in the object that holds those that are not null -/
def At9 (ρ : Env) (σ : Heap) (l : List V) : Prop := ∃ id sv c ty, ρ.get 9 = some (.ptr id 0 0) ∧ σ[id]? = some (.arr c 0 0 ty) ∧ partC false 1 c 0 = some sv ∧ Lst σ sv l ∧ (l ≠ [] → c = .av [sv] ∧ ∀ p, sv ≠ .p p)
theorem mid9 (ρ : Env) (σ : Heap) (s : AV) (l : List V) (hl : l.length ≤ LIM) (hL : l.length < L) (h : Lst σ s l) (h2 : 2 ≤ σ.length) (t1 : ρ.get 1 = some s) :
    ∃ ρ' σ', exec (cAt TC L (n + 3)).1 L p9_3 ⟨ρ, [], σ⟩ = some (.normal, ⟨ρ', [], σ'⟩) ∧ ρ'.get 1 = some s ∧ ρ'.get 2 = ρ.get 2 ∧ ρ'.get 4 = ρ.get 4 ∧ Two σ σ' ∧ Lst σ' s l ∧ At9 ρ' σ' (nn l) := by
  obtain ⟨σ1, k1, k2, k3, k4, k5⟩ := copy26 L (n + 2) h hl
  have hm : l.length ≤ 9223372036854775807 := Nat.le_trans hl (by decide)
  by_cases hl0 : l = []
  · subst hl0
    have c1 := k4 rfl
    have c2 := del_nil L n σ1 (by simpa using hL)
    generalize (cAt TC L (n + 3)).1 = C at *
    have hlast : ∀ b : Obj, (σ1 ++ [b])[σ1.length]? = some b := fun b => by simp
    have hs := set_last σ1
    refine ⟨_, _, by simp [p9_3, exec, runOps, wantedA, stepOp, pureOp, allocOp, readOp, effOp, ev, evs, evO, Env.get_cons, putE, binA, intBin, unA, AV.fit, AV.toCells, partC, partP, mkCells, allP, mkAgg, Cells.len, target, spliceC, splice, Cells.toList, t1, c1, c2, ↓hlast, ↓hs]; exact ⟨rfl, rfl⟩, by simp [Env.get_cons, t1], by simp [Env.get_cons], by simp [Env.get_cons], k1.trans (.push (by omega) _), k3.push _, ?_⟩
    exact ⟨σ1.length, .p (.vsl [] 0), _, _, by simp [Env.get_cons], hlast _, rfl, .inl rfl, fun h => absurd rfl h⟩
  · have c1 := k5 hl0
    have ho : (σ1 ++ [Obj.arr (.pv (vcs l)) 0 0 none])[σ.length]? = some (.arr (.pv (vcs l)) 0 0 none) := by
      rw [← k2]; simp
    obtain ⟨y, c2, hy1, hy2⟩ := delete25 L n l hm hL ho
    have hset : (σ1 ++ [Obj.arr (.pv (vcs l)) 0 0 none]).set σ.length (.arr (.pv (vcs y)) 0 0 none) = σ1 ++ [.arr (.pv (vcs y)) 0 0 none] := by
      rw [← k2]; exact set_last σ1 _ _
    rw [hset] at c2
    generalize (cAt TC L (n + 3)).1 = C at *
    generalize hσ2 : σ1 ++ [Obj.arr (.pv (vcs y)) 0 0 none] = σ2 at *
    have hlen2 : σ2.length = σ1.length + 1 := by rw [← hσ2]; simp
    have hlast : ∀ b : Obj, (σ2 ++ [b])[σ2.length]? = some b := fun b => by simp
    have hs := set_last σ2
    have hob : σ2[σ.length]? = some (.arr (.pv (vcs y)) 0 0 none) := by rw [← hσ2, ← k2]; simp
    have htw : Two σ σ2 := by rw [← hσ2]; exact k1.trans (.push (by omega) _)
    have hls : Lst σ2 s l := by rw [← hσ2]; exact k3.push _
    refine ⟨_, _, by simp [p9_3, exec, runOps, wantedA, stepOp, pureOp, allocOp, readOp, effOp, ev, evs, evO, Env.get_cons, putE, binA, intBin, unA, AV.fit, AV.toCells, partC, partP, mkCells, allP, mkAgg, Cells.len, target, spliceC, splice, Cells.toList, t1, c1, c2, ↓hlast, ↓hs]; exact ⟨rfl, rfl⟩, by simp [Env.get_cons, t1], by simp [Env.get_cons], by simp [Env.get_cons], htw.trans (.push (by omega) _), hls.push _, ?_⟩
    refine ⟨σ2.length, .sl σ.length 0 0 (nn l).length 4, _, _, by simp [Env.get_cons], hlast _, rfl, .inr (.inr ⟨σ.length, 0, 0, vcs (y.drop (nn l).length), none, h2, rfl, ?_, Nat.zero_le _⟩), fun _ => ⟨rfl, fun p h => by cases h⟩⟩
    rw [List.getElem?_append_left (by omega), hob, vcs_split y (nn l).length, hy2]
end
end Go.Ab.Cnt
