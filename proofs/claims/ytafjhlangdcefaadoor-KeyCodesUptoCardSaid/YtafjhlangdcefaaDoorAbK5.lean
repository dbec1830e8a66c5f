/- The laws of keys: rows of right values. -/
import Derived.Test.YtafjhlangdcefaaDoorAbK4
set_option linter.unusedSectionVars false
set_option linter.unusedSimpArgs false
set_option linter.unusedVariables false
set_option maxRecDepth 1000000
namespace Go.Ab.Key
open Go Go.Ab Go.Proofs
variable [Marks]
def body8 : ACode := (((ACode.region [{ dst := some 5, op := AOp.mv (Opd.t 4), guard := none }, { dst := some 6, op := AOp.mv (Opd.t 0), guard := none }, { dst := some 7, op := AOp.len false (Opd.t 6), guard := none }, { dst := some 8, op := AOp.bin (Bin.plain BinOp.lss) (Opd.t 5) (Opd.t 7), guard := none }, { dst := some 9, op := AOp.mv (Opd.t 8), guard := none }, { dst := some 10, op := AOp.mv (Opd.t 4), guard := some (9, true) }, { dst := some 11, op := AOp.bin (Bin.plain BinOp.lss) (Opd.t 10) (Opd.c (AV.p (PV.int IntKind.i64 (40)))), guard := some (9, true) }, { dst := some 12, op := AOp.pick (Opd.t 9) (Opd.t 11) (Opd.c (AV.p (PV.bool false))), guard := none }]).seq (ACode.cond (Opd.t 12) ACode.skip (ACode.exit 0))).seq ((ACode.block 1 (ACode.region [{ dst := some 15, op := AOp.mv (Opd.t 3), guard := none }, { dst := some 16, op := AOp.mv (Opd.t 0), guard := none }, { dst := some 17, op := AOp.mv (Opd.t 4), guard := none }, { dst := some 18, op := AOp.idx 4 (Opd.t 16) (Opd.t 17), guard := none }, { dst := some 19, op := AOp.load true 4 (Opd.t 18), guard := none }, { dst := some 20, op := AOp.call (Opd.c (AV.p (PV.fn 17))) [Opd.t 19], guard := none }, { dst := some 21, op := AOp.buildSlice [AV.p (PV.int IntKind.i64 (0)), AV.p (PV.int IntKind.i64 (0)), AV.p (PV.str []), AV.p (PV.bool false)] 1 4 [(0, 4, Opd.t 20)], guard := none }, { dst := some 22, op := AOp.append 39 4 [AV.p (PV.int IntKind.i64 (0)), AV.p (PV.int IntKind.i64 (0)), AV.p (PV.str []), AV.p (PV.bool false)] (Opd.t 15) (Opd.t 21), guard := none }, { dst := some 3, op := AOp.mv (Opd.t 22), guard := none }])).seq (ACode.region [{ dst := some 13, op := AOp.mv (Opd.t 4), guard := none }, { dst := some 14, op := AOp.bin (Bin.plain BinOp.add) (Opd.t 13) (Opd.c (AV.p (PV.int IntKind.i64 (1)))), guard := none }, { dst := some 4, op := AOp.mv (Opd.t 14), guard := none }])))
theorem lit8_eq : lit8.body = (ACode.region [{ dst := some 2, op := AOp.mv (Opd.c AV.nil0), guard := none }]).seq ((ACode.region [{ dst := some 3, op := AOp.mv (Opd.c AV.nil0), guard := none }]).seq (((ACode.region [{ dst := some 4, op := AOp.mv (Opd.c (AV.p (PV.int IntKind.i64 (0)))), guard := none }]).seq (ACode.block 0 (ACode.loop none body8))).seq ((ACode.region [{ dst := some 23, op := AOp.mv (Opd.t 3), guard := none }, { dst := some 2, op := AOp.mv (Opd.t 23), guard := none }]).seq ACode.ret))) := rfl
/-- a raw value -/
structure Raw where
  k : Int
  n : Int
  s : List UInt8
  b : Bool
def Raw.cells (r : Raw) : List PV := rawP r.k r.n r.s r.b
def Raw.v (r : Raw) : V := rawV r.k r.n r.s r.b
def raws (l : List Raw) : List PV := (l.map Raw.cells).flatten
def rowOf' (l : List Raw) : List V := (l.take 40).map Raw.v
theorem raws_len (l : List Raw) : (raws l).length = l.length * 4 := by
  induction l with
  | nil => rfl
  | cons v r ih => simp only [raws, List.map_cons, List.flatten_cons, List.length_append, List.length_cons] at *; rw [ih]; simp [Raw.cells, rawP]; omega
theorem flat_at {α : Type} (f : α → List PV) (hf : ∀ x, (f x).length = 4) : ∀ (l : List α) (i : Nat) (x : α), l[i]? = some x → ((l.map f).flatten.drop (i * 4)).take 4 = f x
  | [], i, x, h => by simp at h
  | y :: r, 0, x, h => by
    simp at h
    subst h
    simp only [List.map_cons, List.flatten_cons, Nat.zero_mul, List.drop_zero]
    rw [← hf y, List.take_left]
  | y :: r, i + 1, x, h => by
    have ih := flat_at f hf r i x (by simpa using h)
    simp only [List.map_cons, List.flatten_cons]
    rw [show (i + 1) * 4 = (f y).length + i * 4 from by rw [hf]; omega, List.drop_append, List.drop_eq_nil_of_le (by omega)]
    simpa using ih
/-- a slice of values that grows -/
def VBuf (σ : Heap) (b : AV) (l : List V) : Prop := (b = .nil0 ∧ l = []) ∨ l ≠ [] ∧ ∃ id ver, b = .sl id ver 0 l.length 4 ∧ σ[id]? = some (.arr (.pv (vcs l)) ver 0 (some 39))
theorem vcs_snoc (l : List V) (v : V) : vcs (l ++ [v]) = vcs l ++ vc v := by simp [vcs]
section
variable (C : Oracle) (L : Nat) (l : List Raw) (ρ : Env) (σ : Heap) (i : Nat) (b : AV) (acc : List V)
theorem stop8 (h0 : ρ.get 0 = some (.p (.vsl (raws l) l.length))) (h4 : ρ.get 4 = some (.p (.int .i64 (i : Int)))) (hs : l.length ≤ i ∨ 40 ≤ i) :
    ∃ ρ' : Env, exec C L body8 ⟨ρ, [], σ⟩ = some (.exit 0, ⟨ρ', [], σ⟩) ∧ ρ'.get 3 = ρ.get 3 := by
  by_cases hi : (i : Int) < (l.length : Int)
  · have h40 : ¬ (i : Int) < 40 := by omega
    exact ⟨_, by simp [body8, exec, runOps, wantedA, stepOp, pureOp, allocOp, readOp, effOp, ev, evs, evO, Env.get_cons, putE, binA, intBin, unA, AV.fit, AV.toCells, partC, partP, mkCells, allP, mkAgg, Cells.len, target, lenA, h0, h4, hi, h40]; rfl, by simp [Env.get_cons]⟩
  · exact ⟨_, by simp [body8, exec, runOps, wantedA, stepOp, pureOp, allocOp, readOp, effOp, ev, evs, evO, Env.get_cons, putE, binA, intBin, unA, AV.fit, AV.toCells, partC, partP, mkCells, allP, mkAgg, Cells.len, target, lenA, h0, h4, hi]; rfl, by simp [Env.get_cons]⟩
theorem go8 (r : Raw) (h0 : ρ.get 0 = some (.p (.vsl (raws l) l.length))) (h4 : ρ.get 4 = some (.p (.int .i64 (i : Int)))) (h3 : ρ.get 3 = some b) (hb : VBuf σ b acc) (hr : l[i]? = some r) (h40 : i < 40) (hacc : acc.length ≤ 40)
    (hC : ∀ σ, C 17 [.p (.agg r.cells)] σ = some (.ret (.p (.agg (vc r.v))), σ)) :
    ∃ (ρ' : Env) (σ' : Heap) (b' : AV), exec C L body8 ⟨ρ, [], σ⟩ = some (.normal, ⟨ρ', [], σ'⟩) ∧ ρ'.get 0 = some (.p (.vsl (raws l) l.length)) ∧ ρ'.get 4 = some (.p (.int .i64 ((i : Int) + 1))) ∧ ρ'.get 3 = some b' ∧ VBuf σ' b' (acc ++ [r.v]) := by
  have hi : i < l.length := (List.getElem?_eq_some_iff.1 hr).1
  have hi' : (i : Int) < (l.length : Int) := by omega
  have h40' : (i : Int) < 40 := by omega
  have d1 : ((raws l).drop (i * 4)).take 4 = r.cells := flat_at Raw.cells (fun _ => rfl) l i r hr
  have d2 : 4 ≤ (raws l).length - i * 4 := by rw [raws_len]; omega
  have e1 : IntKind.i64.wrap ((i : Int) + 1) = (i : Int) + 1 := wrap_id _ (by omega) (by omega)
  have hv := vc_len r.v
  have hL : LIM = 4294967296 := rfl
  generalize hvc : vc r.v = cv at hC hv
  obtain ⟨x0, x1, x2, x3, rfl⟩ : ∃ x0 x1 x2 x3, cv = [x0, x1, x2, x3] := by
    match cv, hv with
    | [x0, x1, x2, x3], _ => exact ⟨x0, x1, x2, x3, rfl⟩
  rcases hb with ⟨rfl, rfl⟩ | ⟨hne, id, ver, rfl, ho⟩
  · refine ⟨_, _, .sl (σ.length + 1) 0 0 1 4, by simp [body8, exec, runOps, wantedA, stepOp, pureOp, allocOp, readOp, effOp, ev, evs, evO, Env.get_cons, putE, binA, intBin, unA, AV.fit, AV.toCells, partC, partP, mkCells, allP, mkAgg, Cells.len, target, evParts, fillA, AV.cells, splice, spliceC, finA, leaveA, resA, resV, ansV, lenA, idxA, repCells, elemsA, appendTo, takeC, dropC, h0, h4, h3, hi, hi', h40', d1, d2, e1, hC, hL]; exact ⟨rfl, rfl⟩, ?_, ?_, ?_, ?_⟩
    · simp [Env.get_cons, h0]
    · simp [Env.get_cons]
    · simp [Env.get_cons]
    · refine .inr ⟨by simp, σ.length + 1, 0, rfl, ?_⟩
      simp [vcs, hvc]
  · have hid : id < σ.length := (List.getElem?_eq_some_iff.1 ho).1
    have ho' : ∀ x, (σ ++ [x])[id]? = some (.arr (.pv (vcs acc)) ver 0 (some 39)) := fun x => by rw [List.getElem?_append_left hid]; exact ho
    have hl := vcs_len acc
    have hacc' : acc.length ≤ 4294967295 := by omega
    have ht : (vcs acc).take (acc.length * 4) = vcs acc := List.take_of_length_le (by omega)
    refine ⟨_, _, .sl id (ver + 1) 0 (acc.length + 1) 4, by simp [body8, exec, runOps, wantedA, stepOp, pureOp, allocOp, readOp, effOp, ev, evs, evO, Env.get_cons, putE, binA, intBin, unA, AV.fit, AV.toCells, partC, partP, mkCells, allP, mkAgg, Cells.len, target, evParts, fillA, AV.cells, splice, spliceC, finA, leaveA, resA, resV, ansV, lenA, idxA, repCells, elemsA, appendTo, takeC, dropC, catC, h0, h4, h3, hi, hi', h40', d1, d2, e1, hC, hL, ho', hl, hacc', ht]; exact ⟨rfl, rfl⟩, ?_, ?_, ?_, ?_⟩
    · simp [Env.get_cons, h0]
    · simp [Env.get_cons]
    · simp [Env.get_cons]
    · refine .inr ⟨by simp, id, ver + 1, by simp, ?_⟩
      rw [List.getElem?_set_self (by simp; omega)]
      rw [vcs_snoc, hvc]
end
theorem loop8 (C : Oracle) (L : Nat) (l : List Raw) (hC : ∀ r ∈ l, ∀ σ, C 17 [.p (.agg r.cells)] σ = some (.ret (.p (.agg (vc r.v))), σ)) :
    ∀ (d n i : Nat) (ρ : Env) (σ : Heap) (b : AV), 40 - i ≤ d → d < n → i ≤ 40 → ρ.get 0 = some (.p (.vsl (raws l) l.length)) → ρ.get 4 = some (.p (.int .i64 (i : Int))) → ρ.get 3 = some b → VBuf σ b (rowOf' (l.take i)) →
    ∃ (ρ' : Env) (σ' : Heap) (b' : AV), iter (exec C L body8) none n ⟨ρ, [], σ⟩ = some (.exit 0, ⟨ρ', [], σ'⟩) ∧ ρ'.get 3 = some b' ∧ VBuf σ' b' (rowOf' l)
  | d, n, i, ρ, σ, b, hd, hn, hi40, h0, h4, h3, hb => by
    obtain ⟨n, rfl⟩ : ∃ m, n = m + 1 := ⟨n - 1, by omega⟩
    by_cases hs : l.length ≤ i ∨ 40 ≤ i
    · obtain ⟨ρ', e, g3⟩ := stop8 C L l ρ σ i h0 h4 hs
      refine ⟨ρ', σ, b, ?_, g3.trans h3, ?_⟩
      · simp only [iter, St.keep, e]
      · have : rowOf' (l.take i) = rowOf' l := by
          unfold rowOf'
          rcases hs with hs | hs
          · rw [List.take_of_length_le hs]
          · obtain rfl : i = 40 := by omega
            rw [List.take_take, Nat.min_self]
        rw [this] at hb
        exact hb
    · have hi : i < l.length := by omega
      have hr : l[i]? = some l[i] := List.getElem?_eq_getElem hi
      have hsnoc : rowOf' (l.take (i + 1)) = rowOf' (l.take i) ++ [l[i].v] := by
        unfold rowOf'
        rw [List.take_take, List.take_take, Nat.min_eq_right (by omega), Nat.min_eq_right (by omega), List.take_add_one, hr, List.map_append]
        rfl
      have hlen : (rowOf' (l.take i)).length ≤ 40 := by
        unfold rowOf'
        simp
        omega
      obtain ⟨ρ1, σ1, b1, e, g0, g4, g3, gb⟩ := go8 C L l ρ σ i b _ l[i] h0 h4 h3 hb hr (by omega) hlen (hC _ (List.getElem_mem hi))
      obtain ⟨d, rfl⟩ : ∃ m, d = m + 1 := ⟨d - 1, by omega⟩
      rw [← hsnoc] at gb
      obtain ⟨ρ', σ', b', e', q1, q2⟩ := loop8 C L l hC d n (i + 1) ρ1 σ1 b1 (by omega) (by omega) (by omega) g0 (by rw [g4]; rfl) g3 gb
      refine ⟨ρ', σ', b', ?_, q1, q2⟩
      simp only [iter, St.keep, e]
      exact e'
/-- what Row answers: a slice that is new, or nil -/
def sliceR (l : List V) (σ : Heap) : Option (CRes × Heap) := match l with
  | [] => some (.ret .nil0, σ)
  | v :: r => some (.ret (.sl σ.length 0 0 (v :: r).length 4), σ ++ [.arr (.pv (vcs (v :: r))) 0 0 (some 39)])
theorem wrap_nil {g : List AV → Heap → Option (CRes × Heap)} {fz : Bool} {ps : List PV} {σr : Heap} (h : g (ps.map .p) [] = some (.ret .nil0, σr)) (σ : Heap) :
    wrapF g fz (ps.map .p) σ = some (.ret .nil0, σ) := by
  have key : innerW g (ps.map .p) σ [] = some (.ret .nil0, σ) := by
    unfold innerW
    have h1 : (uniq [] && inOK [] σ.length) = true := rfl
    have h2 : shrinkH [] σ = [] := rfl
    have h3 : outL ([] : List (Nat × Nat)).length (.ret .nil0) σr = [] := rfl
    simp only [h1, h2, renL_pure, h, h3]
    have h4 : (uniq [] && backOK [] (shrinkH [] σr)) = true := rfl
    simp only [h4, renR, renV]
    have h5 : shrinkH [] σr = [] := rfl
    rw [h5]
    have h6 : mergeH [] σ [] = σ := by simp [mergeH, putBack]
    rw [h6]
  unfold wrapF
  cases fz with
  | false =>
    simp only [touch_pure, List.all_nil]
    exact key
  | true =>
    simp only [frzA_pure, touch_pure, List.all_nil]
    exact key
theorem row8 (m : Int) (L n : Nat) (hL : 40 < L) (l : List Raw) (hk : ∀ r ∈ l, -9223372036854775808 ≤ r.k ∧ r.k ≤ 9223372036854775807) (σ : Heap) :
    (cAt (TE (G 0 m)) L (n + 3)).1 8 [.p (.vsl (raws l) l.length)] σ = sliceR (rowOf' l) σ := by
  have hC : ∀ r ∈ l, ∀ σ, (cAt (TE (G 0 m)) L (n + 2)).1 17 [.p (.agg r.cells)] σ = some (.ret (.p (.agg (vc r.v))), σ) := fun r hr σ => value17 m L n r.k r.n r.s r.b (hk r hr).1 (hk r hr).2 σ
  rw [show cAt (TE (G 0 m)) L (n + 3) = (callT (TE (G 0 m)) (cAt (TE (G 0 m)) L (n + 2)).1 (cAt (TE (G 0 m)) L (n + 2)).2 L, defT (TE (G 0 m)) (cAt (TE (G 0 m)) L (n + 2)).1 L) from rfl]
  generalize (cAt (TE (G 0 m)) L (n + 2)).1 = C at hC ⊢
  generalize (cAt (TE (G 0 m)) L (n + 2)).2 = D
  simp only [callT, q8 m]
  obtain ⟨ρ', σ', b', e, g3, gb⟩ := loop8 C L l hC 40 L 0 [(4, .p (.int .i64 0)), (3, .nil0), (2, .nil0), (0, .p (.vsl (raws l) l.length))] [] .nil0 (by omega) hL (by omega) rfl rfl rfl (.inl ⟨rfl, rfl⟩)
  have e2 : exec C L (.block 0 (.loop none body8)) ⟨[(4, .p (.int .i64 0)), (3, .nil0), (2, .nil0), (0, .p (.vsl (raws l) l.length))], [], []⟩ = some (.normal, ⟨ρ', [], σ'⟩) := by
    simp only [exec, e, if_true]
  have hrun : runFunc C D L lit8 [.p (.vsl (raws l) l.length)] [] = some (.ret b', σ') := by
    rw [runFunc_eq, lit8_eq]
    rw [seqN (a := .region _) (by simp [params, exec, runOps, wantedA, stepOp, pureOp, allocOp, readOp, effOp, ev, evs, evO, Env.get_cons, putE, binA, intBin, unA, AV.fit, AV.toCells, partC, partP, mkCells, allP, mkAgg, Cells.len, target]; rfl), seqN (a := .region _) (by simp [exec, runOps, wantedA, stepOp, pureOp, allocOp, readOp, effOp, ev, evs, evO, Env.get_cons, putE, binA, intBin, unA, AV.fit, AV.toCells, partC, partP, mkCells, allP, mkAgg, Cells.len, target]; rfl)]
    have e3 : exec C L (.seq (.region [{ dst := some 4, op := AOp.mv (Opd.c (AV.p (PV.int IntKind.i64 (0)))), guard := none }]) (.block 0 (.loop none body8))) ⟨[(3, .nil0), (2, .nil0), (0, .p (.vsl (raws l) l.length))], [], []⟩ = some (.normal, ⟨ρ', [], σ'⟩) := by
      rw [seqN (a := .region _) (by simp [exec, runOps, wantedA, stepOp, pureOp, allocOp, readOp, effOp, ev, evs, evO, Env.get_cons, putE, binA, intBin, unA, AV.fit, AV.toCells, partC, partP, mkCells, allP, mkAgg, Cells.len, target]; rfl)]
      exact e2
    rw [seqN e3]
    simp [exec, runOps, wantedA, stepOp, pureOp, allocOp, readOp, effOp, ev, evs, evO, Env.get_cons, putE, binA, intBin, unA, AV.fit, AV.toCells, partC, partP, mkCells, allP, mkAgg, Cells.len, target, evParts, fillA, AV.cells, splice, spliceC, finA, leaveA, resA, resV, ansV, finX, g3, lit8]
  have hfit : fits lit8 [.p (.vsl (raws l) l.length)] = true := by kernel_rfl
  rcases gb with ⟨rfl, hnil⟩ | ⟨hne, id, ver, rfl, ho⟩
  · rw [hnil]
    exact wrap_nil (ps := [.vsl (raws l) l.length]) (by unfold runCode; rw [show fits lit8 (List.map AV.p [.vsl (raws l) l.length]) = true from hfit]; exact hrun) σ
  · cases hr : rowOf' l with
    | nil => exact absurd hr hne
    | cons v r =>
      rw [hr] at ho hrun
      exact wrap_slice (ps := [.vsl (raws l) l.length]) (by unfold runCode; rw [show fits lit8 (List.map AV.p [.vsl (raws l) l.length]) = true from hfit]; exact hrun) ho σ
end Go.Ab.Key
