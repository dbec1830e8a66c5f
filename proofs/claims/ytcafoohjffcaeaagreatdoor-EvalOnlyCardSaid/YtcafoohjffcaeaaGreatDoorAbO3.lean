/- The law EvalOnly: a world's values are right or not. -/
import Derived.Test.YtcafoohjffcaeaaGreatDoorAbO2
set_option maxRecDepth 1000000
namespace Go.Ab.Only
open Go Go.Ab Go.Proofs
theorem eqV (k n : Int) (s : List UInt8) (b : Bool) (k' n' : Int) (s' : List UInt8) (b' : Bool) : eqP (EQ.struct [(0, false, 1, EQ.int), (1, false, 1, EQ.int), (2, false, 1, EQ.str), (3, false, 1, EQ.bool)]) (.agg [.int .i64 k, .int .i64 n, .str s, .bool b]) (.agg [.int .i64 k', .int .i64 n', .str s', .bool b']) = some (k == k' && (n == n' && (s == s' && b == b'))) := by
  simp only [eqP, eqPs, partP]
  cases h1 : (k == k') <;> cases h2 : (n == n') <;> cases h3 : (s == s') <;> cases h4 : (b == b') <;> simp [h1, h2, h3, h4]
theorem right21 (L n : Nat) (k x : Int) (s : List UInt8) (b : Bool) : ∃ r : Bool, ∀ σ, (cAt TE L (n + 1)).1 21 [.p (.agg [.int .i64 k, .int .i64 x, .str s, .bool b])] σ = some (.ret (.p (.bool r)), σ) := by
  have h : ∃ r : Bool, ansV (runFunc (cAt TE L n).1 (cAt TE L n).2 L lit21 [.p (.agg [.int .i64 k, .int .i64 x, .str s, .bool b])] []) = some (.bool r) := by
    by_cases h0 : k = 0
    · refine ⟨?_, ?_⟩
      rotate_left
      · subst h0
        simp [lit21, runFunc, params, exec, runOps, wantedA, stepOp, pureOp, allocOp, readOp, ev, Env.get_cons, putE, binA, intBin, AV.fit, AV.toCells, partC, partP, allP, mkAgg, Cells.len, eqV, evParts, fillA, finA, leaveA, resA, resV, ansV]
        rfl
    by_cases h1 : k = 1
    · refine ⟨?_, ?_⟩
      rotate_left
      · subst h1
        simp [lit21, runFunc, params, exec, runOps, wantedA, stepOp, pureOp, allocOp, readOp, ev, Env.get_cons, putE, binA, intBin, AV.fit, AV.toCells, partC, partP, allP, mkAgg, Cells.len, eqV, evParts, fillA, AV.cells, splice, finA, leaveA, resA, resV, ansV]
        rfl
    by_cases h2 : k = 2
    · refine ⟨?_, ?_⟩
      rotate_left
      · subst h2
        simp [lit21, runFunc, params, exec, runOps, wantedA, stepOp, pureOp, allocOp, readOp, ev, Env.get_cons, putE, binA, intBin, AV.fit, AV.toCells, partC, partP, allP, mkAgg, Cells.len, eqV, evParts, fillA, AV.cells, splice, finA, leaveA, resA, resV, ansV]
        rfl
    by_cases h3 : k = 3
    · refine ⟨?_, ?_⟩
      rotate_left
      · subst h3
        simp [lit21, runFunc, params, exec, runOps, wantedA, stepOp, pureOp, allocOp, readOp, ev, Env.get_cons, putE, binA, intBin, AV.fit, AV.toCells, partC, partP, allP, mkAgg, Cells.len, eqV, evParts, fillA, AV.cells, splice, finA, leaveA, resA, resV, ansV]
        rfl
    refine ⟨false, ?_⟩
    have g0 : (k == 0) = false := beq_eq_false_iff_ne.2 h0
    have g1 : (k == 1) = false := beq_eq_false_iff_ne.2 h1
    have g2 : (k == 2) = false := beq_eq_false_iff_ne.2 h2
    have g3 : (k == 3) = false := beq_eq_false_iff_ne.2 h3
    simp [lit21, runFunc, params, exec, runOps, wantedA, stepOp, pureOp, allocOp, readOp, ev, Env.get_cons, putE, binA, intBin, AV.fit, AV.toCells, partC, partP, Cells.len, g0, g1, g2, g3, finA, leaveA, resA, resV, ansV]
  obtain ⟨r, h⟩ := h
  exact ⟨r, fun σ => call_ans (ps := [.agg [.int .i64 k, .int .i64 x, .str s, .bool b]]) r21 (by kernel_rfl) h σ⟩
theorem val_cells {ps : List PV} (h : OfT Tryz.prog 30 ps) : ∃ k x s b, ps = [.int .i64 k, .int .i64 x, .str s, .bool b] := by
  obtain ⟨p0, p1, p2, p3, rfl, h0, h1, h2, h3⟩ := h.of_struct4 Tryz.underlying30
  obtain ⟨k, rfl, _⟩ := h0.of_int Tryz.underlying28
  obtain ⟨x, rfl, _⟩ := h1.of_int Tryz.underlying2
  obtain ⟨s, rfl, _⟩ := h2.of_str Tryz.underlying9
  obtain ⟨b, rfl⟩ := h3.of_bool Tryz.underlying4
  exact ⟨k, x, s, b, rfl⟩
def body7 : ACode := (((ACode.region [{ dst := some 5, op := AOp.mv (Opd.t 3), guard := none }, { dst := some 6, op := AOp.mv (Opd.t 0), guard := none }, { dst := some 7, op := AOp.len false (Opd.t 6), guard := none }, { dst := some 8, op := AOp.bin (Bin.plain BinOp.lss) (Opd.t 5) (Opd.t 7), guard := none }]).seq (ACode.cond (Opd.t 8) ACode.skip (ACode.exit 0))).seq ((ACode.block 1 ((ACode.region [{ dst := some 11, op := AOp.mv (Opd.t 0), guard := none }, { dst := some 12, op := AOp.mv (Opd.t 3), guard := none }, { dst := some 13, op := AOp.idx 4 (Opd.t 11) (Opd.t 12), guard := none }, { dst := some 14, op := AOp.load true 4 (Opd.t 13), guard := none }, { dst := some 15, op := AOp.call (Opd.c (AV.p (PV.fn 21))) [Opd.t 14], guard := none }, { dst := some 4, op := AOp.mv (Opd.t 15), guard := none }]).seq ((ACode.region [{ dst := some 16, op := AOp.mv (Opd.t 4), guard := none }, { dst := some 17, op := AOp.un UnOp.not (Opd.t 16), guard := none }]).seq (ACode.cond (Opd.t 17) ((ACode.region [{ dst := some 2, op := AOp.mv (Opd.c (AV.p (PV.bool false))), guard := none }]).seq ACode.ret) ACode.skip)))).seq (ACode.region [{ dst := some 9, op := AOp.mv (Opd.t 3), guard := none }, { dst := some 10, op := AOp.bin (Bin.plain BinOp.add) (Opd.t 9) (Opd.c (AV.p (PV.int IntKind.i64 (1)))), guard := none }, { dst := some 3, op := AOp.mv (Opd.t 10), guard := none }])))
def body11a : ACode := (((ACode.region [{ dst := some 7, op := AOp.mv (Opd.t 3), guard := none }, { dst := some 8, op := AOp.fieldAddr 0 (Opd.t 1), guard := none }, { dst := some 9, op := AOp.load false 1 (Opd.t 8), guard := none }, { dst := some 10, op := AOp.len false (Opd.t 9), guard := none }, { dst := some 11, op := AOp.bin (Bin.plain BinOp.lss) (Opd.t 7) (Opd.t 10), guard := none }]).seq (ACode.cond (Opd.t 11) ACode.skip (ACode.exit 0))).seq ((ACode.block 1 ((ACode.region [{ dst := some 14, op := AOp.fieldAddr 0 (Opd.t 1), guard := none }, { dst := some 15, op := AOp.load false 1 (Opd.t 14), guard := none }, { dst := some 16, op := AOp.mv (Opd.t 3), guard := none }, { dst := some 17, op := AOp.idx 1 (Opd.t 15) (Opd.t 16), guard := none }, { dst := some 18, op := AOp.load false 1 (Opd.t 17), guard := none }, { dst := some 19, op := AOp.call (Opd.c (AV.p (PV.fn 7))) [Opd.t 18], guard := none }, { dst := some 4, op := AOp.mv (Opd.t 19), guard := none }]).seq ((ACode.region [{ dst := some 20, op := AOp.mv (Opd.t 4), guard := none }, { dst := some 21, op := AOp.un UnOp.not (Opd.t 20), guard := none }]).seq (ACode.cond (Opd.t 21) ((ACode.region [{ dst := some 2, op := AOp.mv (Opd.c (AV.p (PV.bool false))), guard := none }]).seq ACode.ret) ACode.skip)))).seq (ACode.region [{ dst := some 12, op := AOp.mv (Opd.t 3), guard := none }, { dst := some 13, op := AOp.bin (Bin.plain BinOp.add) (Opd.t 12) (Opd.c (AV.p (PV.int IntKind.i64 (1)))), guard := none }, { dst := some 3, op := AOp.mv (Opd.t 13), guard := none }])))
def body11b : ACode := (((ACode.region [{ dst := some 22, op := AOp.mv (Opd.t 5), guard := none }, { dst := some 23, op := AOp.fieldAddr 1 (Opd.t 1), guard := none }, { dst := some 24, op := AOp.load false 1 (Opd.t 23), guard := none }, { dst := some 25, op := AOp.len false (Opd.t 24), guard := none }, { dst := some 26, op := AOp.bin (Bin.plain BinOp.lss) (Opd.t 22) (Opd.t 25), guard := none }]).seq (ACode.cond (Opd.t 26) ACode.skip (ACode.exit 2))).seq ((ACode.block 3 ((ACode.region [{ dst := some 29, op := AOp.fieldAddr 1 (Opd.t 1), guard := none }, { dst := some 30, op := AOp.load false 1 (Opd.t 29), guard := none }, { dst := some 31, op := AOp.mv (Opd.t 5), guard := none }, { dst := some 32, op := AOp.idx 1 (Opd.t 30) (Opd.t 31), guard := none }, { dst := some 33, op := AOp.load false 1 (Opd.t 32), guard := none }, { dst := some 34, op := AOp.call (Opd.c (AV.p (PV.fn 7))) [Opd.t 33], guard := none }, { dst := some 6, op := AOp.mv (Opd.t 34), guard := none }]).seq ((ACode.region [{ dst := some 35, op := AOp.mv (Opd.t 6), guard := none }, { dst := some 36, op := AOp.un UnOp.not (Opd.t 35), guard := none }]).seq (ACode.cond (Opd.t 36) ((ACode.region [{ dst := some 2, op := AOp.mv (Opd.c (AV.p (PV.bool false))), guard := none }]).seq ACode.ret) ACode.skip)))).seq (ACode.region [{ dst := some 27, op := AOp.mv (Opd.t 5), guard := none }, { dst := some 28, op := AOp.bin (Bin.plain BinOp.add) (Opd.t 27) (Opd.c (AV.p (PV.int IntKind.i64 (1)))), guard := none }, { dst := some 5, op := AOp.mv (Opd.t 28), guard := none }])))
section
variable (C : Oracle) (L : Nat) (rows : List (List PV)) (ρ : Env) (i : Nat)
theorem stop7 (h0 : ρ.get 0 = some (.p (.vsl rows.flatten rows.length))) (h3 : ρ.get 3 = some (.p (.int .i64 (i : Int)))) (hs : rows.length ≤ i) :
    ∃ ρ' : Env, exec C L body7 ⟨ρ, [], []⟩ = some (.exit 0, ⟨ρ', [], []⟩) := by
  have hi : ¬ (i : Int) < (rows.length : Int) := by omega
  exact ⟨_, by simp [body7, exec, runOps, wantedA, stepOp, pureOp, ev, Env.get_cons, putE, binA, intBin, lenA, h0, h3, hi]; rfl⟩
theorem go7 (r : List PV) (b : Bool) (h0 : ρ.get 0 = some (.p (.vsl rows.flatten rows.length))) (h3 : ρ.get 3 = some (.p (.int .i64 (i : Int)))) (hr : rows[i]? = some r) (hl : ∀ r ∈ rows, r.length = 4) (hm : rows.length ≤ maxLen)
    (hC : ∀ σ, C 21 [.p (.agg r)] σ = some (.ret (.p (.bool b)), σ)) :
    ∃ (ρ' : Env), exec C L body7 ⟨ρ, [], []⟩ = some (if b then .normal else .ret, ⟨ρ', [], []⟩) ∧ (b = true → ρ'.get 0 = some (.p (.vsl rows.flatten rows.length)) ∧ ρ'.get 3 = some (.p (.int .i64 ((i : Int) + 1)))) ∧ (b = false → ρ'.get 2 = some (.p (.bool false))) := by
  have hi : i < rows.length := (List.getElem?_eq_some_iff.1 hr).1
  have hi' : (i : Int) < (rows.length : Int) := by omega
  obtain ⟨d1, d2⟩ := drop_flatten rows i r hl hr
  have hM : maxLen ≤ 9223372036854775807 := by decide
  have e1 : IntKind.i64.wrap ((i : Int) + 1) = (i : Int) + 1 := wrap_id _ (by omega) (by omega)
  have d4 : 4 ≤ rows.flatten.length - i * 4 := by omega
  cases b
  · refine ⟨_, by simp [-List.length_flatten, body7, exec, runOps, wantedA, stepOp, pureOp, allocOp, readOp, ev, evs, Env.get_cons, putE, binA, intBin, unA, partP, target, lenA, idxA, h0, h3, hi', d1, d4, hC]; rfl, ?_, ?_⟩
    · simp
    · simp [Env.get_cons]
  · refine ⟨_, by simp [-List.length_flatten, body7, exec, runOps, wantedA, stepOp, pureOp, allocOp, readOp, ev, evs, Env.get_cons, putE, binA, intBin, unA, partP, target, lenA, idxA, h0, h3, hi', e1, d1, d4, hC]; rfl, ?_, ?_⟩
    · simp [Env.get_cons, h0]
    · simp
end
theorem loop7 (C : Oracle) (L : Nat) (rows : List (List PV)) (hl : ∀ r ∈ rows, r.length = 4) (hm : rows.length ≤ maxLen) (hC : ∀ r ∈ rows, ∃ b : Bool, ∀ σ, C 21 [.p (.agg r)] σ = some (.ret (.p (.bool b)), σ)) :
    ∀ (d n i : Nat) (ρ : Env), rows.length - i ≤ d → d < n → ρ.get 0 = some (.p (.vsl rows.flatten rows.length)) → ρ.get 3 = some (.p (.int .i64 (i : Int))) →
    ∃ (x : AExit) (ρ' : Env), iter (exec C L body7) none n ⟨ρ, [], []⟩ = some (x, ⟨ρ', [], []⟩) ∧ (x = .exit 0 ∨ x = .ret ∧ ρ'.get 2 = some (.p (.bool false)))
  | d, n, i, ρ, hd, hn, h0, h3 => by
    obtain ⟨n, rfl⟩ : ∃ m, n = m + 1 := ⟨n - 1, by omega⟩
    by_cases hs : rows.length ≤ i
    · obtain ⟨ρ', e⟩ := stop7 C L rows ρ i h0 h3 hs
      refine ⟨.exit 0, ρ', ?_, .inl rfl⟩
      simp only [iter, St.keep, e]
    · have hi : i < rows.length := by omega
      obtain ⟨b, hb⟩ := hC rows[i] (List.getElem_mem hi)
      obtain ⟨ρ1, e, g1, g2⟩ := go7 C L rows ρ i rows[i] b h0 h3 (List.getElem?_eq_getElem hi) hl hm hb
      cases b
      · refine ⟨.ret, ρ1, ?_, .inr ⟨rfl, g2 rfl⟩⟩
        simp only [iter, St.keep, e]
        rfl
      · obtain ⟨d, rfl⟩ : ∃ m, d = m + 1 := ⟨d - 1, by omega⟩
        obtain ⟨x, ρ', e', q⟩ := loop7 C L rows hl hm hC d n (i + 1) ρ1 (by omega) (by omega) (g1 rfl).1 (by rw [(g1 rfl).2]; rfl)
        refine ⟨x, ρ', ?_, q⟩
        simp only [iter, St.keep, e]
        exact e'
theorem lit7_eq : lit7.body = .seq (.region [{ dst := some 2, op := AOp.mv (Opd.c (AV.p (PV.bool false))), guard := none }]) (.seq (.seq (.region [{ dst := some 3, op := AOp.mv (Opd.c (AV.p (PV.int IntKind.i64 (0)))), guard := none }]) (.block 0 (.loop none body7))) (.seq (.region [{ dst := some 2, op := AOp.mv (Opd.c (AV.p (PV.bool true))), guard := none }]) .ret)) := rfl
theorem rights7 (L n : Nat) (rows : List (List PV)) (hr : ∀ r ∈ rows, OfT Tryz.prog 30 r) (hl : ∀ r ∈ rows, r.length = 4) (hm : rows.length ≤ maxLen) (hL : rows.length < L) :
    ∃ b : Bool, ∀ σ, (cAt TE L (n + 2)).1 7 [.p (.vsl rows.flatten rows.length)] σ = some (.ret (.p (.bool b)), σ) := by
  have hC : ∀ r ∈ rows, ∃ b : Bool, ∀ σ, (cAt TE L (n + 1)).1 21 [.p (.agg r)] σ = some (.ret (.p (.bool b)), σ) := by
    intro r hrr
    obtain ⟨k, x, s, b, rfl⟩ := val_cells (hr r hrr)
    exact right21 L n k x s b
  suffices h : ∃ b : Bool, ansV (runFunc (cAt TE L (n + 1)).1 (cAt TE L (n + 1)).2 L lit7 [.p (.vsl rows.flatten rows.length)] []) = some (.bool b) by
    obtain ⟨b, h⟩ := h
    exact ⟨b, fun σ => call_ans (ps := [.vsl rows.flatten rows.length]) r7 (by kernel_rfl) h σ⟩
  generalize (cAt TE L (n + 1)).1 = C at hC ⊢
  generalize (cAt TE L (n + 1)).2 = D
  obtain ⟨x, ρ', e, hx⟩ := loop7 C L rows hl hm hC rows.length L 0 [(3, .p (.int .i64 0)), (2, .p (.bool false)), (0, .p (.vsl rows.flatten rows.length))] (by omega) hL rfl rfl
  have e3 : exec C L (.seq (.region [{ dst := some 3, op := AOp.mv (Opd.c (AV.p (PV.int IntKind.i64 (0)))), guard := none }]) (.block 0 (.loop none body7))) ⟨[(2, .p (.bool false)), (0, .p (.vsl rows.flatten rows.length))], [], []⟩ = exec C L (.block 0 (.loop none body7)) ⟨[(3, .p (.int .i64 0)), (2, .p (.bool false)), (0, .p (.vsl rows.flatten rows.length))], [], []⟩ :=
    seqN (a := .region _) (by simp [exec, runOps, wantedA, stepOp, pureOp, ev, putE])
  unfold runFunc
  rw [lit7_eq]
  rw [seqN (a := .region _) (by simp [params, exec, runOps, wantedA, stepOp, pureOp, ev, putE]; rfl)]
  rcases hx with rfl | ⟨rfl, g2⟩
  · refine ⟨true, ?_⟩
    have e2 : exec C L (.block 0 (.loop none body7)) ⟨[(3, .p (.int .i64 0)), (2, .p (.bool false)), (0, .p (.vsl rows.flatten rows.length))], [], []⟩ = some (.normal, ⟨ρ', [], []⟩) := by
      simp only [exec, e, if_true]
    erw [seqN (e3.trans e2)]
    simp [exec, runOps, wantedA, stepOp, pureOp, ev, Env.get_cons, putE, finA, leaveA, resA, resV, ansV, lit7]
  · refine ⟨false, ?_⟩
    have e2 : exec C L (.block 0 (.loop none body7)) ⟨[(3, .p (.int .i64 0)), (2, .p (.bool false)), (0, .p (.vsl rows.flatten rows.length))], [], []⟩ = some (.ret, ⟨ρ', [], []⟩) := by
      simp only [exec, e]
    erw [seqR (e3.trans e2)]
    simp [finA, leaveA, resA, resV, ansV, lit7, g2]
abbrev hp11 (va vb : List PV) (bad : Bool) : Heap := [Obj.arr (Cells.pv [.vsl va va.length, .vsl vb vb.length, .bool bad]) 0 0]
section
variable (C : Oracle) (L : Nat) (va vb : List PV) (bad : Bool) (ρ : Env) (i : Nat)
theorem stop11a (h1 : ρ.get 1 = some (.ptr 0 0 0)) (h3 : ρ.get 3 = some (.p (.int .i64 (i : Int)))) (hs : va.length ≤ i) :
    ∃ ρ' : Env, exec C L body11a ⟨ρ, [], hp11 va vb bad⟩ = some (.exit 0, ⟨ρ', [], hp11 va vb bad⟩) ∧ ρ'.get 1 = some (.ptr 0 0 0) := by
  have hi : ¬ (i : Int) < (va.length : Int) := by omega
  refine ⟨_, by simp [body11a, exec, runOps, wantedA, stepOp, pureOp, allocOp, readOp, ev, Env.get_cons, putE, binA, intBin, partC, partP, lenA, h1, h3, hi]; rfl, ?_⟩
  simp [Env.get_cons, h1]
theorem go11a (v : PV) (b : Bool) (h1 : ρ.get 1 = some (.ptr 0 0 0)) (h3 : ρ.get 3 = some (.p (.int .i64 (i : Int)))) (hr : va[i]? = some v) (hm : va.length ≤ maxLen)
    (hC : ∀ σ, C 7 [.p v] σ = some (.ret (.p (.bool b)), σ)) :
    ∃ (ρ' : Env), exec C L body11a ⟨ρ, [], hp11 va vb bad⟩ = some (if b then .normal else .ret, ⟨ρ', [], hp11 va vb bad⟩) ∧ (b = true → ρ'.get 1 = some (.ptr 0 0 0) ∧ ρ'.get 3 = some (.p (.int .i64 ((i : Int) + 1)))) ∧ (b = false → ρ'.get 2 = some (.p (.bool false))) := by
  have hi : i < va.length := (List.getElem?_eq_some_iff.1 hr).1
  have hi' : (i : Int) < (va.length : Int) := by omega
  have hM : maxLen ≤ 9223372036854775807 := by decide
  have e1 : IntKind.i64.wrap ((i : Int) + 1) = (i : Int) + 1 := wrap_id _ (by omega) (by omega)
  have hr2 : va[i] = v := by rw [List.getElem?_eq_getElem hi] at hr; exact Option.some.inj hr
  cases b
  · refine ⟨_, by simp [body11a, exec, runOps, wantedA, stepOp, pureOp, allocOp, readOp, ev, evs, Env.get_cons, putE, binA, intBin, unA, partC, partP, target, lenA, idxA, h1, h3, hi, hi', hr2, hC]; rfl, ?_, ?_⟩
    · simp
    · simp [Env.get_cons]
  · refine ⟨_, by simp [body11a, exec, runOps, wantedA, stepOp, pureOp, allocOp, readOp, ev, evs, Env.get_cons, putE, binA, intBin, unA, partC, partP, target, lenA, idxA, h1, h3, hi, hi', e1, hr2, hC]; rfl, ?_, ?_⟩
    · simp [Env.get_cons, h1]
    · simp
end
theorem loop11a (C : Oracle) (L : Nat) (va vb : List PV) (bad : Bool) (hm : va.length ≤ maxLen) (hC : ∀ v ∈ va, ∃ b : Bool, ∀ σ, C 7 [.p v] σ = some (.ret (.p (.bool b)), σ)) :
    ∀ (d n i : Nat) (ρ : Env), va.length - i ≤ d → d < n → ρ.get 1 = some (.ptr 0 0 0) → ρ.get 3 = some (.p (.int .i64 (i : Int))) →
    ∃ (x : AExit) (ρ' : Env), iter (exec C L body11a) none n ⟨ρ, [], hp11 va vb bad⟩ = some (x, ⟨ρ', [], hp11 va vb bad⟩) ∧ (x = .exit 0 ∧ ρ'.get 1 = some (.ptr 0 0 0) ∨ x = .ret ∧ ρ'.get 2 = some (.p (.bool false)))
  | d, n, i, ρ, hd, hn, h1, h3 => by
    obtain ⟨n, rfl⟩ : ∃ m, n = m + 1 := ⟨n - 1, by omega⟩
    by_cases hs : va.length ≤ i
    · obtain ⟨ρ', e, g1⟩ := stop11a C L va vb bad ρ i h1 h3 hs
      refine ⟨.exit 0, ρ', ?_, .inl ⟨rfl, g1⟩⟩
      simp only [iter, St.keep, e]
    · have hi : i < va.length := by omega
      obtain ⟨b, hb⟩ := hC va[i] (List.getElem_mem hi)
      obtain ⟨ρ1, e, g1, g2⟩ := go11a C L va vb bad ρ i va[i] b h1 h3 (List.getElem?_eq_getElem hi) hm hb
      cases b
      · refine ⟨.ret, ρ1, ?_, .inr ⟨rfl, g2 rfl⟩⟩
        simp only [iter, St.keep, e]
        rfl
      · obtain ⟨d, rfl⟩ : ∃ m, d = m + 1 := ⟨d - 1, by omega⟩
        obtain ⟨x, ρ', e', q⟩ := loop11a C L va vb bad hm hC d n (i + 1) ρ1 (by omega) (by omega) (g1 rfl).1 (by rw [(g1 rfl).2]; rfl)
        refine ⟨x, ρ', ?_, q⟩
        simp only [iter, St.keep, e]
        exact e'
section
variable (C : Oracle) (L : Nat) (va vb : List PV) (bad : Bool) (ρ : Env) (i : Nat)
theorem stop11b (h1 : ρ.get 1 = some (.ptr 0 0 0)) (h3 : ρ.get 5 = some (.p (.int .i64 (i : Int)))) (hs : vb.length ≤ i) :
    ∃ ρ' : Env, exec C L body11b ⟨ρ, [], hp11 va vb bad⟩ = some (.exit 2, ⟨ρ', [], hp11 va vb bad⟩) ∧ ρ'.get 1 = some (.ptr 0 0 0) := by
  have hi : ¬ (i : Int) < (vb.length : Int) := by omega
  refine ⟨_, by simp [body11b, exec, runOps, wantedA, stepOp, pureOp, allocOp, readOp, ev, Env.get_cons, putE, binA, intBin, partC, partP, lenA, h1, h3, hi]; rfl, ?_⟩
  simp [Env.get_cons, h1]
theorem go11b (v : PV) (b : Bool) (h1 : ρ.get 1 = some (.ptr 0 0 0)) (h3 : ρ.get 5 = some (.p (.int .i64 (i : Int)))) (hr : vb[i]? = some v) (hm : vb.length ≤ maxLen)
    (hC : ∀ σ, C 7 [.p v] σ = some (.ret (.p (.bool b)), σ)) :
    ∃ (ρ' : Env), exec C L body11b ⟨ρ, [], hp11 va vb bad⟩ = some (if b then .normal else .ret, ⟨ρ', [], hp11 va vb bad⟩) ∧ (b = true → ρ'.get 1 = some (.ptr 0 0 0) ∧ ρ'.get 5 = some (.p (.int .i64 ((i : Int) + 1)))) ∧ (b = false → ρ'.get 2 = some (.p (.bool false))) := by
  have hi : i < vb.length := (List.getElem?_eq_some_iff.1 hr).1
  have hi' : (i : Int) < (vb.length : Int) := by omega
  have hM : maxLen ≤ 9223372036854775807 := by decide
  have e1 : IntKind.i64.wrap ((i : Int) + 1) = (i : Int) + 1 := wrap_id _ (by omega) (by omega)
  have hr2 : vb[i] = v := by rw [List.getElem?_eq_getElem hi] at hr; exact Option.some.inj hr
  cases b
  · refine ⟨_, by simp [body11b, exec, runOps, wantedA, stepOp, pureOp, allocOp, readOp, ev, evs, Env.get_cons, putE, binA, intBin, unA, partC, partP, target, lenA, idxA, h1, h3, hi, hi', hr2, hC]; rfl, ?_, ?_⟩
    · simp
    · simp [Env.get_cons]
  · refine ⟨_, by simp [body11b, exec, runOps, wantedA, stepOp, pureOp, allocOp, readOp, ev, evs, Env.get_cons, putE, binA, intBin, unA, partC, partP, target, lenA, idxA, h1, h3, hi, hi', e1, hr2, hC]; rfl, ?_, ?_⟩
    · simp [Env.get_cons, h1]
    · simp
end
theorem loop11b (C : Oracle) (L : Nat) (va vb : List PV) (bad : Bool) (hm : vb.length ≤ maxLen) (hC : ∀ v ∈ vb, ∃ b : Bool, ∀ σ, C 7 [.p v] σ = some (.ret (.p (.bool b)), σ)) :
    ∀ (d n i : Nat) (ρ : Env), vb.length - i ≤ d → d < n → ρ.get 1 = some (.ptr 0 0 0) → ρ.get 5 = some (.p (.int .i64 (i : Int))) →
    ∃ (x : AExit) (ρ' : Env), iter (exec C L body11b) none n ⟨ρ, [], hp11 va vb bad⟩ = some (x, ⟨ρ', [], hp11 va vb bad⟩) ∧ (x = .exit 2 ∧ ρ'.get 1 = some (.ptr 0 0 0) ∨ x = .ret ∧ ρ'.get 2 = some (.p (.bool false)))
  | d, n, i, ρ, hd, hn, h1, h3 => by
    obtain ⟨n, rfl⟩ : ∃ m, n = m + 1 := ⟨n - 1, by omega⟩
    by_cases hs : vb.length ≤ i
    · obtain ⟨ρ', e, g1⟩ := stop11b C L va vb bad ρ i h1 h3 hs
      refine ⟨.exit 2, ρ', ?_, .inl ⟨rfl, g1⟩⟩
      simp only [iter, St.keep, e]
    · have hi : i < vb.length := by omega
      obtain ⟨b, hb⟩ := hC vb[i] (List.getElem_mem hi)
      obtain ⟨ρ1, e, g1, g2⟩ := go11b C L va vb bad ρ i vb[i] b h1 h3 (List.getElem?_eq_getElem hi) hm hb
      cases b
      · refine ⟨.ret, ρ1, ?_, .inr ⟨rfl, g2 rfl⟩⟩
        simp only [iter, St.keep, e]
        rfl
      · obtain ⟨d, rfl⟩ : ∃ m, d = m + 1 := ⟨d - 1, by omega⟩
        obtain ⟨x, ρ', e', q⟩ := loop11b C L va vb bad hm hC d n (i + 1) ρ1 (by omega) (by omega) (g1 rfl).1 (by rw [(g1 rfl).2]; rfl)
        refine ⟨x, ρ', ?_, q⟩
        simp only [iter, St.keep, e]
        exact e'
theorem lit11_eq : lit11.body = .seq (.region [{ dst := some 1, op := AOp.box 3 (Opd.t 0), guard := none }, { dst := some 2, op := AOp.mv (Opd.c (AV.p (PV.bool false))), guard := none }]) (.seq (.seq (.region [{ dst := some 3, op := AOp.mv (Opd.c (AV.p (PV.int IntKind.i64 (0)))), guard := none }]) (.block 0 (.loop none body11a))) (.seq (.seq (.region [{ dst := some 5, op := AOp.mv (Opd.c (AV.p (PV.int IntKind.i64 (0)))), guard := none }]) (.block 2 (.loop none body11b))) (.seq (.region [{ dst := some 2, op := AOp.mv (Opd.c (AV.p (PV.bool true))), guard := none }]) .ret))) := rfl
theorem world11 (L n : Nat) (va vb : List PV) (bad : Bool) (ha : ∀ v ∈ va, ∃ b : Bool, ∀ σ, (cAt TE L n).1 7 [.p v] σ = some (.ret (.p (.bool b)), σ)) (hb : ∀ v ∈ vb, ∃ b : Bool, ∀ σ, (cAt TE L n).1 7 [.p v] σ = some (.ret (.p (.bool b)), σ)) (hma : va.length ≤ maxLen) (hmb : vb.length ≤ maxLen) (hLa : va.length < L) (hLb : vb.length < L) :
    ∃ b : Bool, ∀ σ, (cAt TE L (n + 1)).1 11 [.p (worldP va va.length vb vb.length bad)] σ = some (.ret (.p (.bool b)), σ) := by
  suffices h : ∃ b : Bool, ansV (runFunc (cAt TE L n).1 (cAt TE L n).2 L lit11 [.p (worldP va va.length vb vb.length bad)] []) = some (.bool b) by
    obtain ⟨b, h⟩ := h
    exact ⟨b, fun σ => call_ans (ps := [worldP va va.length vb vb.length bad]) r11 (by kernel_rfl) h σ⟩
  unfold worldP
  generalize (cAt TE L n).1 = C at ha hb ⊢
  generalize (cAt TE L n).2 = D
  unfold runFunc
  rw [lit11_eq]
  rw [seqN (a := .region _) (by simp [params, exec, runOps, wantedA, stepOp, pureOp, allocOp, ev, Env.get_cons, putE, AV.fit, AV.toCells, Cells.len]; rfl)]
  obtain ⟨x, ρ', e, hx⟩ := loop11a C L va vb bad hma ha va.length L 0 [(3, .p (.int .i64 0)), (2, .p (.bool false)), (1, .ptr 0 0 0), (0, .p (.agg [.vsl va va.length, .vsl vb vb.length, .bool bad]))] (by omega) hLa rfl rfl
  have e3 : exec C L (.seq (.region [{ dst := some 3, op := AOp.mv (Opd.c (AV.p (PV.int IntKind.i64 (0)))), guard := none }]) (.block 0 (.loop none body11a))) ⟨[(2, .p (.bool false)), (1, .ptr 0 0 0), (0, .p (.agg [.vsl va va.length, .vsl vb vb.length, .bool bad]))], [], hp11 va vb bad⟩ = exec C L (.block 0 (.loop none body11a)) ⟨[(3, .p (.int .i64 0)), (2, .p (.bool false)), (1, .ptr 0 0 0), (0, .p (.agg [.vsl va va.length, .vsl vb vb.length, .bool bad]))], [], hp11 va vb bad⟩ :=
    seqN (a := .region _) (by simp [exec, runOps, wantedA, stepOp, pureOp, ev, putE])
  rcases hx with ⟨rfl, g1⟩ | ⟨rfl, g2⟩
  · have e2 : exec C L (.block 0 (.loop none body11a)) ⟨[(3, .p (.int .i64 0)), (2, .p (.bool false)), (1, .ptr 0 0 0), (0, .p (.agg [.vsl va va.length, .vsl vb vb.length, .bool bad]))], [], hp11 va vb bad⟩ = some (.normal, ⟨ρ', [], hp11 va vb bad⟩) := by
      simp only [exec, e, if_true]
    erw [seqN (e3.trans e2)]
    obtain ⟨y, ρ2, f, hy⟩ := loop11b C L va vb bad hmb hb vb.length L 0 ((5, .p (.int .i64 0)) :: ρ') (by omega) hLb (by simp [Env.get_cons, g1]) rfl
    have f3 : exec C L (.seq (.region [{ dst := some 5, op := AOp.mv (Opd.c (AV.p (PV.int IntKind.i64 (0)))), guard := none }]) (.block 2 (.loop none body11b))) ⟨ρ', [], hp11 va vb bad⟩ = exec C L (.block 2 (.loop none body11b)) ⟨(5, .p (.int .i64 0)) :: ρ', [], hp11 va vb bad⟩ :=
      seqN (a := .region _) (by simp [exec, runOps, wantedA, stepOp, pureOp, ev, putE])
    rcases hy with ⟨rfl, _⟩ | ⟨rfl, g2⟩
    · refine ⟨true, ?_⟩
      have f2 : exec C L (.block 2 (.loop none body11b)) ⟨(5, .p (.int .i64 0)) :: ρ', [], hp11 va vb bad⟩ = some (.normal, ⟨ρ2, [], hp11 va vb bad⟩) := by
        simp only [exec, f, if_true]
      rw [seqN (f3.trans f2)]
      simp [exec, runOps, wantedA, stepOp, pureOp, ev, Env.get_cons, putE, finA, leaveA, resA, resV, ansV, lit11]
    · refine ⟨false, ?_⟩
      have f2 : exec C L (.block 2 (.loop none body11b)) ⟨(5, .p (.int .i64 0)) :: ρ', [], hp11 va vb bad⟩ = some (.ret, ⟨ρ2, [], hp11 va vb bad⟩) := by
        simp only [exec, f]
      rw [seqR (f3.trans f2)]
      simp [finA, leaveA, resA, resV, ansV, lit11, g2]
  · refine ⟨false, ?_⟩
    have e2 : exec C L (.block 0 (.loop none body11a)) ⟨[(3, .p (.int .i64 0)), (2, .p (.bool false)), (1, .ptr 0 0 0), (0, .p (.agg [.vsl va va.length, .vsl vb vb.length, .bool bad]))], [], hp11 va vb bad⟩ = some (.ret, ⟨ρ', [], hp11 va vb bad⟩) := by
      simp only [exec, e]
    erw [seqR (e3.trans e2)]
    simp [finA, leaveA, resA, resV, ansV, lit11, g2]
/-- rows' values, one cell each -/
theorem singles {Q : PV → Prop} : ∀ (rows : List (List PV)), (∀ r ∈ rows, ∃ v, r = [v] ∧ Q v) → rows.flatten.length = rows.length ∧ ∀ v ∈ rows.flatten, Q v
  | [], _ => by simp
  | r :: rows, h => by
    obtain ⟨v, rfl, hv⟩ := h r (by simp)
    obtain ⟨h1, h2⟩ := singles rows fun r hr => h r (List.mem_cons_of_mem _ hr)
    refine ⟨by simp [List.flatten_cons, h1], ?_⟩
    intro u hu
    rw [List.flatten_cons] at hu
    rcases List.mem_append.1 hu with hu | hu
    · obtain rfl := List.mem_singleton.1 hu
      exact hv
    · exact h2 u hu
/-- a list of rows, as a value -/
theorem rows_cells {ps : List PV} (h : OfT Tryz.prog 35 ps) : ∃ va : List PV, ps = [.vsl va va.length] ∧ va.length ≤ maxLen ∧ ∀ v ∈ va, ∃ rows : List (List PV), v = .vsl rows.flatten rows.length ∧ (∀ r ∈ rows, OfT Tryz.prog 30 r) ∧ (∀ r ∈ rows, r.length = 4) ∧ rows.length ≤ maxLen := by
  obtain ⟨rows, rfl, h1, _, h3⟩ := h.of_sl Tryz.underlying35
  obtain ⟨g1, g2⟩ := singles (Q := fun v => ∃ rows : List (List PV), v = .vsl rows.flatten rows.length ∧ (∀ r ∈ rows, OfT Tryz.prog 30 r) ∧ (∀ r ∈ rows, r.length = 4) ∧ rows.length ≤ maxLen) rows (by
    intro r hr
    obtain ⟨rs, rfl, k1, k2, k3⟩ := (h1 r hr).of_sl Tryz.underlying45
    exact ⟨_, rfl, rs, rfl, k1, fun r hr => (k2 r hr).trans (by kernel_rfl), k3⟩)
  exact ⟨rows.flatten, by rw [g1], by rw [g1]; exact h3, g2⟩
end Go.Ab.Only
