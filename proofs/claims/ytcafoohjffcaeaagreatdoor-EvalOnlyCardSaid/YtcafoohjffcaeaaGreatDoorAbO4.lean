/- The law EvalOnly: for every tree and every world. -/
import Derived.Test.YtcafoohjffcaeaaGreatDoorAbO3
import Derived.Test.YtcafoohjffcaeaaGreatDoorAbE4
set_option maxRecDepth 1000000
namespace Go.Ab.Only
open Go Go.Ab Go.Proofs
section
variable (m j : Nat) (op s : List UInt8) (N : Int) (cells : List PV) (len : Nat) (rc : List PV) (rl : Nat) (ac : List PV) (al : Nat) (bad : Bool) (k : Int) (r : Bool)
theorem law4_stop (h11 : ∀ σ, (cAt TE (m + 100) (j + 20)).1 11 [.p (worldP rc rl ac al bad)] σ = some (.ret (.p (.bool r)), σ)) (h12 : ∀ σ, (cAt TE (m + 100) (j + 20)).1 12 [.p (nodeP op s N cells len), .p (.int .i64 400)] σ = some (.ret (.p (.int .i64 k)), σ)) (hk : 400 < k ∨ r = false) :
    ansV (runFunc (cAt TE (m + 100) (j + 20)).1 (cAt TE (m + 100) (j + 20)).2 (m + 100) lit4 [.p (nodeP op s N cells len), .p (worldP rc rl ac al bad)] []) = some (.bool true) := by
  have h8 := alive8 m j
  unfold nodeP worldP at *
  generalize (cAt TE (m + 100) (j + 20)).1 = C at *
  generalize (cAt TE (m + 100) (j + 20)).2 = D at *
  rw [runFunc_eq]
  simp only [lit4]
  rw [seqN (a := .region _) (by simp [params, exec, runOps, wantedA, stepOp, pureOp, allocOp, ev, Env.get_cons, putE, AV.fit, AV.toCells, Cells.len]; rfl)]
  rw [seqN (a := .region _) (by simp [exec, runOps, wantedA, stepOp, pureOp, allocOp, readOp, ev, evs, Env.get_cons, putE, partC, partP, target, h11]; rfl)]
  by_cases h4 : 400 < k
  · rw [seqR (a := .seq (.region _) (.cond _ _ _)) (by simp [exec, runOps, wantedA, stepOp, pureOp, allocOp, readOp, ev, evs, Env.get_cons, putE, binA, intBin, partC, partP, target, h12, h4, h8]; rfl)]
    simp [finX, Env.get_cons, finA, leaveA, resA, resV, ansV]
  · obtain rfl : r = false := hk.resolve_left h4
    rw [seqR (a := .seq (.region _) (.cond _ _ _)) (by simp [exec, runOps, wantedA, stepOp, pureOp, allocOp, readOp, ev, evs, Env.get_cons, putE, binA, intBin, unA, partC, partP, target, h12, h4, h8]; rfl)]
    simp [finX, Env.get_cons, finA, leaveA, resA, resV, ansV]
end
theorem world_cells {ps : List PV} (h : OfT Tryz.prog 37 ps) : ∃ (va vb : List PV) (bad : Bool), .agg ps = worldP va va.length vb vb.length bad ∧
    (va.length ≤ maxLen ∧ ∀ v ∈ va, ∃ rows : List (List PV), v = .vsl rows.flatten rows.length ∧ (∀ r ∈ rows, OfT Tryz.prog 30 r) ∧ (∀ r ∈ rows, r.length = 4) ∧ rows.length ≤ maxLen) ∧
    (vb.length ≤ maxLen ∧ ∀ v ∈ vb, ∃ rows : List (List PV), v = .vsl rows.flatten rows.length ∧ (∀ r ∈ rows, OfT Tryz.prog 30 r) ∧ (∀ r ∈ rows, r.length = 4) ∧ rows.length ≤ maxLen) := by
  obtain ⟨p0, p1, p2, rfl, h0, h1, h2⟩ := h.of_struct3 Tryz.underlying37
  obtain ⟨va, rfl, ha⟩ := rows_cells h0
  obtain ⟨vb, rfl, hb⟩ := rows_cells h1
  obtain ⟨b, rfl⟩ := h2.of_bool Tryz.underlying4
  exact ⟨va, vb, b, rfl, ha, hb⟩
theorem law4 {pn pw : List PV} (hn : OfT Tryz.prog 24 pn) (hw : OfT Tryz.prog 37 pw) : ∃ L n, (cAt TE L n).1 4 [.p (.agg pn), .p (.agg pw)] [] = some (.ret (.p (.bool true)), []) := by
  obtain ⟨m, hm⟩ : ∃ m : Nat, m = maxLen + 1000 := ⟨_, rfl⟩
  refine ⟨m + 100, 1000 + 20 + 1, ?_⟩
  obtain ⟨k, _, hk, h12⟩ := parts12 (m + 100) (by omega) 400 (1000 + 20) pn 400 hn (by omega) (by omega) (by omega) (by omega)
  obtain ⟨op, s, N, rows, rfl, _⟩ := node_cells hn
  obtain ⟨va, vb, bad, e, ⟨ha1, ha2⟩, hb1, hb2⟩ := world_cells hw
  rw [e]
  have h7 : ∀ v : PV, (∃ rows : List (List PV), v = .vsl rows.flatten rows.length ∧ (∀ r ∈ rows, OfT Tryz.prog 30 r) ∧ (∀ r ∈ rows, r.length = 4) ∧ rows.length ≤ maxLen) → ∃ b : Bool, ∀ σ, (cAt TE (m + 100) (1000 + 17 + 2)).1 7 [.p v] σ = some (.ret (.p (.bool b)), σ) := by
    rintro v ⟨rows, rfl, g1, g2, g3⟩
    exact rights7 (m + 100) (1000 + 17) rows g1 g2 g3 (by omega)
  obtain ⟨b, h11⟩ := world11 (m + 100) (1000 + 17 + 2) va vb bad (fun v hv => h7 v (ha2 v hv)) (fun v hv => h7 v (hb2 v hv)) ha1 hb1 (by omega) (by omega)
  refine call_ans (ps := [nodeP op s N rows.flatten rows.length, worldP va va.length vb vb.length bad]) (n := 1000 + 20) r4 (by kernel_rfl) ?_ []
  by_cases hgo : ¬ 400 < k ∧ b = true
  · obtain ⟨h4, rfl⟩ := hgo
    exact law4_go m 1000 op s N _ _ _ _ _ _ _ k h11 h12 h4
  · refine law4_stop m 1000 op s N _ _ _ _ _ _ _ k b h11 h12 ?_
    cases b
    · exact .inr rfl
    · refine .inl ?_
      by_cases h4 : 400 < k
      · exact h4
      · exact absurd ⟨h4, rfl⟩ hgo

end Go.Ab.Only
