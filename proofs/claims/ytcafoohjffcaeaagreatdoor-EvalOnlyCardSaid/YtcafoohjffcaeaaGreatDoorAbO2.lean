/- The law EvalOnly: how many parts a tree has. -/
import Derived.Test.YtcafoohjffcaeaaGreatDoorAbO1
set_option maxRecDepth 1000000
namespace Go.Ab.Only
open Go Go.Ab Go.Proofs
theorem wrap_id (n : Int) (h1 : -9223372036854775808 ≤ n) (h2 : n ≤ 9223372036854775807) : IntKind.i64.wrap n = n := by
  simp only [IntKind.wrap, IntKind.bits, IntKind.signed]
  simp
  split <;> omega
def body12 : ACode := (((ACode.region [{ dst := some 7, op := AOp.mv (Opd.t 6), guard := none }, { dst := some 8, op := AOp.fieldAddr 3 (Opd.t 2), guard := none }, { dst := some 9, op := AOp.load false 1 (Opd.t 8), guard := none }, { dst := some 10, op := AOp.len false (Opd.t 9), guard := none }, { dst := some 11, op := AOp.bin (Bin.plain BinOp.lss) (Opd.t 7) (Opd.t 10), guard := none }, { dst := some 12, op := AOp.mv (Opd.t 11), guard := none }, { dst := some 13, op := AOp.mv (Opd.t 5), guard := some (12, true) }, { dst := some 14, op := AOp.mv (Opd.t 1), guard := some (12, true) }, { dst := some 15, op := AOp.bin (Bin.plain BinOp.leq) (Opd.t 13) (Opd.t 14), guard := some (12, true) }, { dst := some 16, op := AOp.pick (Opd.t 12) (Opd.t 15) (Opd.c (AV.p (PV.bool false))), guard := none }]).seq (ACode.cond (Opd.t 16) ACode.skip (ACode.exit 0))).seq ((ACode.block 1 (ACode.region [{ dst := some 19, op := AOp.mv (Opd.t 5), guard := none }, { dst := some 20, op := AOp.fieldAddr 3 (Opd.t 2), guard := none }, { dst := some 21, op := AOp.load false 1 (Opd.t 20), guard := none }, { dst := some 22, op := AOp.mv (Opd.t 6), guard := none }, { dst := some 23, op := AOp.idx 4 (Opd.t 21) (Opd.t 22), guard := none }, { dst := some 24, op := AOp.load true 4 (Opd.t 23), guard := none }, { dst := some 25, op := AOp.mv (Opd.t 1), guard := none }, { dst := some 26, op := AOp.mv (Opd.t 5), guard := none }, { dst := some 27, op := AOp.bin (Bin.plain BinOp.sub) (Opd.t 25) (Opd.t 26), guard := none }, { dst := some 28, op := AOp.call (Opd.c (AV.p (PV.fn 12))) [Opd.t 24, Opd.t 27], guard := none }, { dst := some 29, op := AOp.bin (Bin.plain BinOp.add) (Opd.t 19) (Opd.t 28), guard := none }, { dst := some 5, op := AOp.mv (Opd.t 29), guard := none }])).seq (ACode.region [{ dst := some 17, op := AOp.mv (Opd.t 6), guard := none }, { dst := some 18, op := AOp.bin (Bin.plain BinOp.add) (Opd.t 17) (Opd.c (AV.p (PV.int IntKind.i64 (1)))), guard := none }, { dst := some 6, op := AOp.mv (Opd.t 18), guard := none }])))
def rest12 : ACode := ((ACode.region [{ dst := some 30, op := AOp.mv (Opd.t 5), guard := none }, { dst := some 4, op := AOp.mv (Opd.t 30), guard := none }]).seq ACode.ret)
theorem lit12_eq : lit12.body = .seq (.region [{ dst := some 2, op := AOp.box 4 (Opd.t 0), guard := none }, { dst := some 4, op := AOp.mv (Opd.c (AV.p (PV.int IntKind.i64 (0)))), guard := none }]) (.seq (.region [{ dst := some 5, op := AOp.mv (Opd.c (AV.p (PV.int IntKind.i64 (1)))), guard := none }]) (.seq (.seq (.region [{ dst := some 6, op := AOp.mv (Opd.c (AV.p (PV.int IntKind.i64 (0)))), guard := none }]) (.block 0 (.loop none body12))) rest12)) := rfl
/-- a node's cells -/
theorem node_cells {ps : List PV} (h : OfT Tryz.prog 24 ps) : ∃ op s N rows, ps = [.str op, .str s, .int .i64 N, .vsl (List.flatten rows) rows.length] ∧ (∀ r ∈ rows, OfT Tryz.prog 24 r) ∧ (∀ r ∈ rows, r.length = 4) ∧ rows.length ≤ maxLen := by
  obtain ⟨p0, p1, p2, p3, rfl, h0, h1, h2, h3⟩ := h.of_struct4 Tryz.underlying24
  obtain ⟨op, rfl, _⟩ := h0.of_str Tryz.underlying9
  obtain ⟨s, rfl, _⟩ := h1.of_str Tryz.underlying9
  obtain ⟨N, rfl, _⟩ := h2.of_int Tryz.underlying2
  obtain ⟨rows, rfl, g1, g2, g3⟩ := h3.of_sl Tryz.underlying22
  exact ⟨op, s, N, rows, rfl, g1, fun r hr => (g2 r hr).trans (by kernel_rfl), g3⟩
section
variable (C : Oracle) (L : Nat) (op s : List UInt8) (N : Int) (rows : List (List PV)) (ρ : Env) (k left : Int) (i : Nat)
abbrev hp12 (op s : List UInt8) (N : Int) (rows : List (List PV)) : Heap := [Obj.arr (Cells.pv [.str op, .str s, .int .i64 N, .vsl rows.flatten rows.length]) 0 0]
theorem stop12 (h1 : ρ.get 1 = some (.p (.int .i64 left))) (h2 : ρ.get 2 = some (.ptr 0 0 0)) (h5 : ρ.get 5 = some (.p (.int .i64 k))) (h6 : ρ.get 6 = some (.p (.int .i64 (i : Int))))
    (hs : rows.length ≤ i ∨ left < k) :
    ∃ ρ' : Env, exec C L body12 ⟨ρ, [], hp12 op s N rows⟩ = some (.exit 0, ⟨ρ', [], hp12 op s N rows⟩) ∧ ρ'.get 5 = some (.p (.int .i64 k)) := by
  by_cases hi : (i : Int) < (rows.length : Int)
  · have hk : ¬ k ≤ left := by omega
    refine ⟨_, by simp [body12, exec, runOps, wantedA, stepOp, pureOp, allocOp, readOp, ev, Env.get_cons, putE, binA, intBin, partC, partP, lenA, h1, h2, h5, h6, hi, hk]; rfl, ?_⟩
    simp [Env.get_cons, h5]
  · refine ⟨_, by simp [body12, exec, runOps, wantedA, stepOp, pureOp, allocOp, readOp, ev, Env.get_cons, putE, binA, intBin, partC, partP, lenA, h2, h6, hi]; rfl, ?_⟩
    simp [Env.get_cons, h5]
theorem go12 (r : List PV) (k' : Int) (h1 : ρ.get 1 = some (.p (.int .i64 left))) (h2 : ρ.get 2 = some (.ptr 0 0 0)) (h5 : ρ.get 5 = some (.p (.int .i64 k))) (h6 : ρ.get 6 = some (.p (.int .i64 (i : Int))))
    (hr : rows[i]? = some r) (hl : ∀ r ∈ rows, r.length = 4) (hm : rows.length ≤ maxLen) (hk : k ≤ left) (hk1 : 1 ≤ k) (hleft : left ≤ 400) (hk' : 1 ≤ k') (hk2 : k' ≤ left - k + 1)
    (hC : ∀ σ, C 12 [.p (.agg r), .p (.int .i64 (left - k))] σ = some (.ret (.p (.int .i64 k')), σ)) :
    ∃ ρ' : Env, exec C L body12 ⟨ρ, [], hp12 op s N rows⟩ = some (.normal, ⟨ρ', [], hp12 op s N rows⟩) ∧ ρ'.get 1 = some (.p (.int .i64 left)) ∧ ρ'.get 2 = some (.ptr 0 0 0) ∧ ρ'.get 5 = some (.p (.int .i64 (k + k'))) ∧ ρ'.get 6 = some (.p (.int .i64 ((i : Int) + 1))) := by
  have hi : i < rows.length := (List.getElem?_eq_some_iff.1 hr).1
  have hi' : (i : Int) < (rows.length : Int) := by omega
  obtain ⟨d1, d2⟩ := drop_flatten rows i r hl hr
  have hM : maxLen ≤ 9223372036854775807 := by decide
  have e1 : IntKind.i64.wrap ((i : Int) + 1) = (i : Int) + 1 := wrap_id _ (by omega) (by omega)
  have e2 : IntKind.i64.wrap (left - k) = left - k := wrap_id _ (by omega) (by omega)
  have e3 : IntKind.i64.wrap (k + k') = k + k' := wrap_id _ (by omega) (by omega)
  have d3 : ((rows.flatten.drop (i * 4)).length) = rows.flatten.length - i * 4 := List.length_drop
  have d4 : 4 ≤ rows.flatten.length - i * 4 := by omega
  refine ⟨_, by simp [-List.length_flatten, body12, exec, runOps, wantedA, stepOp, pureOp, allocOp, readOp, ev, evs, Env.get_cons, putE, binA, intBin, partC, partP, target, lenA, idxA, h1, h2, h5, h6, hi', hk, e1, e2, e3, d1, d4, hC]; rfl, ?_, ?_, ?_, ?_⟩
  all_goals simp [Env.get_cons, h1, h2]
end

theorem loop12 (C : Oracle) (L : Nat) (op s : List UInt8) (N : Int) (rows : List (List PV)) (left : Int) (hleft : left ≤ 400) (hl : ∀ r ∈ rows, r.length = 4) (hm : rows.length ≤ maxLen)
    (hC : ∀ (r : List PV) (k : Int), r ∈ rows → 1 ≤ k → k ≤ left → ∃ k' : Int, 1 ≤ k' ∧ k' ≤ left - k + 1 ∧ ∀ σ, C 12 [.p (.agg r), .p (.int .i64 (left - k))] σ = some (.ret (.p (.int .i64 k')), σ)) :
    ∀ (d n i : Nat) (k : Int) (ρ : Env), (left + 1 - k).toNat ≤ d → d < n → 1 ≤ k → k ≤ left + 1 → ρ.get 1 = some (.p (.int .i64 left)) → ρ.get 2 = some (.ptr 0 0 0) → ρ.get 5 = some (.p (.int .i64 k)) → ρ.get 6 = some (.p (.int .i64 (i : Int))) →
    ∃ (ρ' : Env) (k' : Int), iter (exec C L body12) none n ⟨ρ, [], hp12 op s N rows⟩ = some (.exit 0, ⟨ρ', [], hp12 op s N rows⟩) ∧ ρ'.get 5 = some (.p (.int .i64 k')) ∧ 1 ≤ k' ∧ k' ≤ left + 1
  | d, n, i, k, ρ, hd, hn, hk1, hk2, h1, h2, h5, h6 => by
    obtain ⟨n, rfl⟩ : ∃ m, n = m + 1 := ⟨n - 1, by omega⟩
    by_cases hs : rows.length ≤ i ∨ left < k
    · obtain ⟨ρ', e, g5⟩ := stop12 C L op s N rows ρ k left i h1 h2 h5 h6 hs
      refine ⟨ρ', k, ?_, g5, hk1, hk2⟩
      simp only [iter, St.keep, e]
    · have hi : i < rows.length := by omega
      obtain ⟨k', a1, a2, a3⟩ := hC rows[i] k (List.getElem_mem hi) hk1 (by omega)
      obtain ⟨ρ1, e, g1, g2, g5, g6⟩ := go12 C L op s N rows ρ k left i rows[i] k' h1 h2 h5 h6 (List.getElem?_eq_getElem hi) hl hm (by omega) hk1 hleft a1 a2 a3
      obtain ⟨d, rfl⟩ : ∃ m, d = m + 1 := ⟨d - 1, by omega⟩
      obtain ⟨ρ', q, e', q5, q1, q2⟩ := loop12 C L op s N rows left hleft hl hm hC d n (i + 1) (k + k') ρ1 (by omega) (by omega) (by omega) (by omega) g1 g2 g5 (by rw [g6]; rfl)
      refine ⟨ρ', q, ?_, q5, q1, q2⟩
      simp only [iter, St.keep, e]
      exact e'
theorem parts12 (L : Nat) (hL : 402 ≤ L) : ∀ (d n : Nat) (ps : List PV) (left : Int), OfT Tryz.prog 24 ps → 0 ≤ left → left.toNat ≤ d → left ≤ 400 → d < n →
    ∃ k : Int, 1 ≤ k ∧ k ≤ left + 1 ∧ ∀ σ, (cAt TE L n).1 12 [.p (.agg ps), .p (.int .i64 left)] σ = some (.ret (.p (.int .i64 k)), σ)
  | d, n, ps, left, hps, h0, hd, h4, hn => by
    obtain ⟨n, rfl⟩ : ∃ m, n = m + 1 := ⟨n - 1, by omega⟩
    obtain ⟨op, s, N, rows, rfl, hr, hl, hm⟩ := node_cells hps
    obtain ⟨ρ', k, e, g5, hk1, hk2⟩ := loop12 (cAt TE L n).1 L op s N rows left h4 hl hm (by
      intro r k hrr hk1 hk2
      obtain ⟨d, rfl⟩ : ∃ m, d = m + 1 := ⟨d - 1, by omega⟩
      exact parts12 L hL d n r (left - k) (hr r hrr) (by omega) (by omega) (by omega) (by omega))
      401 L 0 1 [(6, .p (.int .i64 0)), (5, .p (.int .i64 1)), (4, .p (.int .i64 0)), (2, .ptr 0 0 0), (0, .p (.agg [.str op, .str s, .int .i64 N, .vsl rows.flatten rows.length])), (1, .p (.int .i64 left))] (by omega) (by omega) (by omega) (by omega) rfl rfl rfl rfl
    refine ⟨k, hk1, hk2, fun σ => ?_⟩
    refine call_ans (ps := [.agg [.str op, .str s, .int .i64 N, .vsl rows.flatten rows.length], .int .i64 left]) r12 (by kernel_rfl) ?_ σ
    generalize (cAt TE L n).1 = C at e ⊢
    generalize (cAt TE L n).2 = D
    unfold runFunc
    rw [lit12_eq]
    rw [seqN (a := .region _) (by simp [params, exec, runOps, wantedA, stepOp, pureOp, allocOp, ev, Env.get_cons, putE, AV.fit, AV.toCells, Cells.len]; rfl)]
    rw [seqN (a := .region _) (by simp [exec, runOps, wantedA, stepOp, pureOp, ev, putE]; rfl)]
    have e2 : exec C L (.block 0 (.loop none body12)) ⟨[(6, .p (.int .i64 0)), (5, .p (.int .i64 1)), (4, .p (.int .i64 0)), (2, .ptr 0 0 0), (0, .p (.agg [.str op, .str s, .int .i64 N, .vsl rows.flatten rows.length])), (1, .p (.int .i64 left))], [], hp12 op s N rows⟩ = some (.normal, ⟨ρ', [], hp12 op s N rows⟩) := by
      simp only [exec, e, if_true]
    have e3 : exec C L (.seq (.region [{ dst := some 6, op := AOp.mv (Opd.c (AV.p (PV.int IntKind.i64 (0)))), guard := none }]) (.block 0 (.loop none body12))) ⟨[(5, .p (.int .i64 1)), (4, .p (.int .i64 0)), (2, .ptr 0 0 0), (0, .p (.agg [.str op, .str s, .int .i64 N, .vsl rows.flatten rows.length])), (1, .p (.int .i64 left))], [], hp12 op s N rows⟩ = some (.normal, ⟨ρ', [], hp12 op s N rows⟩) := by
      rw [seqN (a := .region _) (by simp [exec, runOps, wantedA, stepOp, pureOp, ev, putE]; rfl)]
      exact e2
    erw [seqN e3]
    simp [rest12, exec, runOps, wantedA, stepOp, pureOp, ev, Env.get_cons, putE, g5, finA, leaveA, resA, resV, lit12, ansV]

end Go.Ab.Only
