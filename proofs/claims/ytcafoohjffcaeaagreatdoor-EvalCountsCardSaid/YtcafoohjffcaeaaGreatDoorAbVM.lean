/- EvalCounts: Total of the values that differ. -/
import Derived.Test.YtcafoohjffcaeaaGreatDoorAbVK
set_option linter.unusedSectionVars false
set_option linter.unusedSimpArgs false
set_option linter.unusedVariables false
set_option maxRecDepth 1000000
namespace Go.Ab.Cnt
open Go Go.Ab Go.Ab.Key Go.Proofs
variable [Marks]
theorem add1_len (k : List V) (v : V) : (add1 k v).length ≤ k.length + 1 := by
  unfold add1
  split
  · omega
  · simp
theorem add1_mem {k : List V} {v u : V} (h : u ∈ add1 k v) : u ∈ k ∨ u = v := by
  unfold add1 at h
  split at h
  · exact .inl h
  · simpa using h
theorem fold_len : ∀ (x k : List V), (x.foldl add1 k).length ≤ k.length + x.length
  | [], k => by simp
  | v :: x, k => by
    have h1 := fold_len x (add1 k v)
    have h2 := add1_len k v
    simp only [List.foldl_cons, List.length_cons]
    omega
theorem fold_mem : ∀ (x k : List V) {u : V}, u ∈ x.foldl add1 k → u ∈ k ∨ u ∈ x
  | [], k, u, h => .inl h
  | v :: x, k, u, h => by
    rcases fold_mem x (add1 k v) h with h | h
    · rcases add1_mem h with h | rfl
      · exact .inl h
      · exact .inr (List.mem_cons_self ..)
    · exact .inr (List.mem_cons_of_mem _ h)
section
variable (L n : Nat)
theorem loopK (x : List V) (σ0 : Heap) (hm : x.length ≤ LIM) (hL : x.length < L) (ht : ∀ s, V.text s ∈ x → s.length ≤ maxLen) : ∀ (d i f : Nat) (ρ : Env) (σ : Heap) (k : List V), i + d = x.length → d < f → k.length ≤ i → (∀ u ∈ k, u ∈ x) → AtK x σ0 ρ σ i k →
    ∃ ρ' σ', iter (exec (cAt TC L (n + 6)).1 L body9) none f ⟨ρ, [], σ⟩ = some (.exit 0, ⟨ρ', [], σ'⟩) ∧ AtK x σ0 ρ' σ' x.length ((x.drop i).foldl add1 k)
  | 0, i, f, ρ, σ, k, hd, hf, hk, hmem, h => by
    obtain ⟨f, rfl⟩ : ∃ m, f = m + 1 := ⟨f - 1, by omega⟩
    obtain rfl : i = x.length := by omega
    obtain ⟨ρ', e, h'⟩ := stopK (cAt TC L (n + 6)).1 L x σ0 ρ σ k h
    refine ⟨ρ', σ, by simp only [iter, St.keep, e], ?_⟩
    rw [List.drop_length]
    exact h'
  | d + 1, i, f, ρ, σ, k, hd, hf, hk, hmem, h => by
    obtain ⟨f, rfl⟩ : ∃ m, f = m + 1 := ⟨f - 1, by omega⟩
    have hi : i < x.length := by omega
    have hLL : LIM ≤ 9223372036854775807 := by decide
    have htk : ∀ s, V.text s ∈ k → s.length ≤ maxLen := fun s hs => ht s (hmem _ hs)
    obtain ⟨ρ1, σ1, e, h1⟩ := goK (cAt TC L (n + 6)).1 L x σ0 ρ σ i k x[i] (List.getElem?_eq_getElem hi) (by omega) (by omega) h
      (fun hkp _ hj hne => has_kp L n hkp x[i] (by omega) (by omega) htk (fun s hs => ht s (hs ▸ List.getElem_mem hi)) hj hne)
    have hl := add1_len k x[i]
    obtain ⟨ρ', σ', e', h'⟩ := loopK x σ0 hm hL ht d (i + 1) f ρ1 σ1 (add1 k x[i]) (by omega) (by omega) (by omega)
      (fun u hu => by
        rcases add1_mem hu with hu | rfl
        · exact hmem u hu
        · exact List.getElem_mem hi) h1
    refine ⟨ρ', σ', by simp only [iter, St.keep, e]; exact e', ?_⟩
    rw [List.drop_eq_getElem_cons hi, List.foldl_cons]
    exact h'
/-- the front of a count of those that differ -/
theorem diff9 (ρ : Env) (op : List UInt8) (x : List V) (hm : x.length ≤ LIM) (hL : x.length < L) (ht : ∀ s, V.text s ∈ x → s.length ≤ maxLen) (t1 : ρ.get 1 = some (.p (.vsl (vcs x) x.length))) (t2 : ρ.get 2 = some (.ptr 0 0 0)) (t4 : ρ.get 4 = some (.ptr 1 0 0)) :
    ∃ ρ1 σ1 s, exec (cAt TC L (n + 6)).1 L p9_2 ⟨ρ, [], [.arr (.av (nodeA op 1)) 0 0 none, .arr (.pv zero4) 0 0 (some 30)]⟩ = some (.normal, ⟨ρ1, [], σ1⟩) ∧
      ρ1.get 1 = some s ∧ ρ1.get 2 = some (.ptr 0 0 0) ∧ ρ1.get 4 = some (.ptr 1 0 0) ∧ Two [.arr (.av (nodeA op 1)) 0 0 none, .arr (.pv zero4) 0 0 (some 30)] σ1 ∧ Lst σ1 s (uq x) := by
  obtain ⟨σ0, hσ0⟩ : ∃ σ0 : Heap, σ0 = [.arr (.av (nodeA op 1)) 0 0 none, .arr (.pv zero4) 0 0 (some 30)] := ⟨_, rfl⟩
  have e1 : ∃ ρa, exec (cAt TC L (n + 6)).1 L reg9 ⟨ρ, [], σ0⟩ = some (.normal, ⟨ρa, [], σ0⟩) ∧ ρa.get 12 = some (.p (.bool true)) ∧ ρa.get 1 = some (.p (.vsl (vcs x) x.length)) ∧ ρa.get 2 = some (.ptr 0 0 0) ∧ ρa.get 4 = some (.ptr 1 0 0) := by
    rw [hσ0]
    exact ⟨_, by simp [reg9, p9_2, fstC, nodeA, exec, runOps, wantedA, stepOp, pureOp, allocOp, readOp, effOp, ev, evs, evO, Env.get_cons, putE, binA, intBin, unA, AV.fit, AV.toCells, partC, partP, mkCells, allP, mkAgg, Cells.len, target, t2]; rfl, by simp [Env.get_cons], by simp [Env.get_cons, t1], by simp [Env.get_cons, t2], by simp [Env.get_cons, t4]⟩
  obtain ⟨ρa, e1, a12, a1, a2, a4⟩ := e1
  have e2 : ∃ ρb, exec (cAt TC L (n + 6)).1 L pre9 ⟨ρa, [], σ0⟩ = some (.normal, ⟨ρb, [], σ0⟩) ∧ ρb.get 6 = some .nil0 ∧ ρb.get 1 = some (.p (.vsl (vcs x) x.length)) ∧ ρb.get 2 = some (.ptr 0 0 0) ∧ ρb.get 4 = some (.ptr 1 0 0) :=
    ⟨_, by simp [pre9, then9, p9_2, fstC, sndC, thnC, exec, runOps, wantedA, stepOp, pureOp, allocOp, readOp, effOp, ev, evs, evO, Env.get_cons, putE, binA, intBin, unA, AV.fit, AV.toCells, partC, partP, mkCells, allP, mkAgg, Cells.len, target]; rfl, by simp [Env.get_cons], by simp [Env.get_cons, a1], by simp [Env.get_cons, a2], by simp [Env.get_cons, a4]⟩
  obtain ⟨ρb, e2, b6, b1, b2, b4⟩ := e2
  have e3 : ∃ ρc, exec (cAt TC L (n + 6)).1 L init9 ⟨ρb, [], σ0⟩ = some (.normal, ⟨ρc, [], σ0⟩) ∧ AtK x σ0 ρc σ0 0 [] :=
    ⟨_, by simp [init9, then9, p9_2, fstC, sndC, thnC, exec, runOps, wantedA, stepOp, pureOp, allocOp, readOp, effOp, ev, evs, evO, Env.get_cons, putE, binA, intBin, unA, AV.fit, AV.toCells, partC, partP, mkCells, allP, mkAgg, Cells.len, target, b1, lenA]; rfl, by simp [Env.get_cons, b2], by simp [Env.get_cons, b4], by simp [Env.get_cons], by simp [Env.get_cons], by simp [Env.get_cons], ⟨.nil0, by simp [Env.get_cons, b6], .inl ⟨rfl, rfl⟩⟩, .refl _, by rw [hσ0]; exact Nat.le_refl 2⟩
  obtain ⟨ρc, e3, h3⟩ := e3
  obtain ⟨ρd, σd, e4, h4⟩ := loopK L n x σ0 hm hL ht x.length 0 L ρc σ0 [] (by omega) hL (by simp) (fun u hu => by cases hu) h3
  obtain ⟨b, t6, hb⟩ := h4.t6
  have e5 : ∃ ρe, exec (cAt TC L (n + 6)).1 L post9 ⟨ρd, [], σd⟩ = some (.normal, ⟨ρe, [], σd⟩) ∧ ρe.get 1 = some b ∧ ρe.get 2 = some (.ptr 0 0 0) ∧ ρe.get 4 = some (.ptr 1 0 0) :=
    ⟨_, by simp [post9, then9, p9_2, fstC, sndC, thnC, exec, runOps, wantedA, stepOp, pureOp, allocOp, readOp, effOp, ev, evs, evO, Env.get_cons, putE, binA, intBin, unA, AV.fit, AV.toCells, partC, partP, mkCells, allP, mkAgg, Cells.len, target, t6]; rfl, by simp [Env.get_cons], by simp [Env.get_cons, h4.t2], by simp [Env.get_cons, h4.t4]⟩
  obtain ⟨ρe, e5, c1, c2, c4⟩ := e5
  have e45 : exec (cAt TC L (n + 6)).1 L (.seq init9 (.block 0 (.loop none body9))) ⟨ρb, [], σ0⟩ = some (.normal, ⟨ρd, [], σd⟩) := by
    rw [seqN e3]
    simp only [exec, e4, if_true]
  refine ⟨ρe, σd, b, ?_, c1, c2, c4, by rw [← hσ0]; exact h4.two, ?_⟩
  · rw [← hσ0, p9_2_eq, seqN e1, condT (show ev (St.env ⟨ρa, [], σ0⟩) (.t 12) = some (.p (.bool true)) from a12), then9_eq, seqN e2, seqN e45]
    exact e5
  · rw [List.drop_zero] at hb
    exact hb.lst
theorem frontD (C : Oracle) (op : List UInt8) (x : List V) :
    ∃ ρ1, exec C L p9_1 ⟨params 0 [.agg (nodeA op 1), .p (.vsl (vcs x) x.length)], [], []⟩ = some (.normal, ⟨ρ1, [], [.arr (.av (nodeA op 1)) 0 0 none, .arr (.pv zero4) 0 0 (some 30)]⟩) ∧
      ρ1.get 1 = some (.p (.vsl (vcs x) x.length)) ∧ ρ1.get 2 = some (.ptr 0 0 0) ∧ ρ1.get 4 = some (.ptr 1 0 0) :=
  ⟨_, by simp [p9_1, params, nodeA, zero4, exec, runOps, wantedA, stepOp, pureOp, allocOp, readOp, effOp, ev, evs, evO, Env.get_cons, putE, binA, intBin, unA, AV.fit, AV.toCells, partC, partP, mkCells, allP, mkAgg, Cells.len, target]; rfl, by simp [Env.get_cons], by simp [Env.get_cons], by simp [Env.get_cons]⟩
/-- the number of those that differ -/
theorem unlike_count (x : List V) (hl : x.length ≤ LIM) (hL : x.length < L) (ht : ∀ s, V.text s ∈ x → s.length ≤ maxLen) (σ : Heap) :
    (cAt TC L (n + 7)).1 9 [.agg (nodeA [99, 111, 117, 110, 116] 1), .p (.vsl (vcs x) x.length)] σ = some (.ret (.p (.tup [.agg (vc (.num (nn (uq x)).length)), done])), σ) := by
  rw [show cAt TC L (n + 7) = (callT TC (cAt TC L (n + 6)).1 (cAt TC L (n + 6)).2 L, defT TC (cAt TC L (n + 6)).1 L) from rfl]
  simp only [callT, q9]
  obtain ⟨ρ1, e1, a1, a2, a4⟩ := frontD L (cAt TC L (n + 6)).1 [99, 111, 117, 110, 116] x
  obtain ⟨ρ2, σ2, s, e2, b1, b2, b4, htw, hls⟩ := diff9 L n ρ1 [99, 111, 117, 110, 116] x hl hL ht a1 a2 a4
  have hlen : (uq x).length ≤ x.length := by
    have := fold_len x []
    rw [List.length_nil, Nat.zero_add] at this
    exact this
  have hA : Ans9 (exec (cAt TC L (n + 6)).1 L lit9.body ⟨params 0 [.agg (nodeA [99, 111, 117, 110, 116] 1), .p (.vsl (vcs x) x.length)], [], []⟩) (.num (nn (uq x)).length) := by
    rw [p9_eq, seqN e1, seqN e2]
    exact from_mid L (n + 2) ρ2 σ2 [99, 111, 117, 110, 116] 1 s (uq x) _ (by omega) (by omega) hls b1 b2 b4 (htw.1.trans rfl) (htw.2.1.trans rfl) (fun ρ σ h => cnt9 _ L 1 ρ σ s (uq x) (nn (uq x)) h (fun k σ => num28 L (n + 5) k σ))
  obtain ⟨σ', hf⟩ := fin9 (cAt TC L (n + 6)).1 (cAt TC L (n + 6)).2 L hA
  have hfit : fits lit9 [.agg (nodeA [99, 111, 117, 110, 116] 1), .p (.vsl (vcs x) x.length)] = true := rfl
  exact wrap_noid (by simp only [runCode, hfit]; rw [runFunc_eq]; exact hf) (node_ids _ _ _) (node_ren _ _ _) σ
end
end Go.Ab.Cnt
