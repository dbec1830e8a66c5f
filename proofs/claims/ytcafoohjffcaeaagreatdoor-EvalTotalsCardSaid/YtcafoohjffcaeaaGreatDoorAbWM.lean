/- EvalTotals: Total of the values that differ. -/
import Derived.Test.YtcafoohjffcaeaaGreatDoorAbWK
set_option linter.unusedSectionVars false
set_option linter.unusedSimpArgs false
set_option linter.unusedVariables false
set_option maxRecDepth 1000000
namespace Go.Ab.Cnt
open Go Go.Ab Go.Ab.Key Go.Proofs
variable [Marks]
theorem add1_len (k : List V) (v : V) : (add1 k v).length ≤ k.length + 1 := by
  unfold add1
  split
  · omega
  · simp
theorem add1_mem {k : List V} {v u : V} (h : u ∈ add1 k v) : u ∈ k ∨ u = v := by
  unfold add1 at h
  split at h
  · exact .inl h
  · simpa using h
theorem fold_len : ∀ (x k : List V), (x.foldl add1 k).length ≤ k.length + x.length
  | [], k => by simp
  | v :: x, k => by
    have h1 := fold_len x (add1 k v)
    have h2 := add1_len k v
    simp only [List.foldl_cons, List.length_cons]
    omega
theorem fold_mem : ∀ (x k : List V) {u : V}, u ∈ x.foldl add1 k → u ∈ k ∨ u ∈ x
  | [], k, u, h => .inl h
  | v :: x, k, u, h => by
    rcases fold_mem x (add1 k v) h with h | h
    · rcases add1_mem h with h | rfl
      · exact .inl h
      · exact .inr (List.mem_cons_self ..)
    · exact .inr (List.mem_cons_of_mem _ h)
section
variable (L n : Nat)
theorem loopK (x : List V) (σ0 : Heap) (hm : x.length ≤ LIM) (hL : x.length < L) (ht : ∀ s, V.text s ∈ x → s.length ≤ maxLen) : ∀ (d i f : Nat) (ρ : Env) (σ : Heap) (k : List V), i + d = x.length → d < f → k.length ≤ i → (∀ u ∈ k, u ∈ x) → AtK x σ0 ρ σ i k →
    ∃ ρ' σ', iter (exec (cAt TC L (n + 6)).1 L body9) none f ⟨ρ, [], σ⟩ = some (.exit 0, ⟨ρ', [], σ'⟩) ∧ AtK x σ0 ρ' σ' x.length ((x.drop i).foldl add1 k)
  | 0, i, f, ρ, σ, k, hd, hf, hk, hmem, h => by
    obtain ⟨f, rfl⟩ : ∃ m, f = m + 1 := ⟨f - 1, by omega⟩
    obtain rfl : i = x.length := by omega
    obtain ⟨ρ', e, h'⟩ := stopK (cAt TC L (n + 6)).1 L x σ0 ρ σ k h
    refine ⟨ρ', σ, by simp only [iter, St.keep, e], ?_⟩
    rw [List.drop_length]
    exact h'
  | d + 1, i, f, ρ, σ, k, hd, hf, hk, hmem, h => by
    obtain ⟨f, rfl⟩ : ∃ m, f = m + 1 := ⟨f - 1, by omega⟩
    have hi : i < x.length := by omega
    have hLL : LIM ≤ 9223372036854775807 := by decide
    have htk : ∀ s, V.text s ∈ k → s.length ≤ maxLen := fun s hs => ht s (hmem _ hs)
    obtain ⟨ρ1, σ1, e, h1⟩ := goK (cAt TC L (n + 6)).1 L x σ0 ρ σ i k x[i] (List.getElem?_eq_getElem hi) (by omega) (by omega) h
      (fun hkp _ hj hne => has_kp L n hkp x[i] (by omega) (by omega) htk (fun s hs => ht s (hs ▸ List.getElem_mem hi)) hj hne)
    have hl := add1_len k x[i]
    obtain ⟨ρ', σ', e', h'⟩ := loopK x σ0 hm hL ht d (i + 1) f ρ1 σ1 (add1 k x[i]) (by omega) (by omega) (by omega)
      (fun u hu => by
        rcases add1_mem hu with hu | rfl
        · exact hmem u hu
        · exact List.getElem_mem hi) h1
    refine ⟨ρ', σ', by simp only [iter, St.keep, e]; exact e', ?_⟩
    rw [List.drop_eq_getElem_cons hi, List.foldl_cons]
    exact h'
/-- the front of a count of those that differ -/
theorem diff9 (ρ : Env) (op : List UInt8) (N : ND) (hN : N.N = 1) (x : List V) (hm : x.length ≤ LIM) (hL : x.length < L) (ht : ∀ s, V.text s ∈ x → s.length ≤ maxLen) (t1 : ρ.get 1 = some (.p (.vsl (vcs x) x.length))) (t2 : ρ.get 2 = some (.ptr 0 0 0)) (t4 : ρ.get 4 = some (.ptr 1 0 0)) :
    ∃ ρ1 σ1 s, exec (cAt TC L (n + 6)).1 L p9_2 ⟨ρ, [], [.arr (.pv (nodeA op N)) 0 0 none, .arr (.pv zero4) 0 0 (some 30)]⟩ = some (.normal, ⟨ρ1, [], σ1⟩) ∧
      ρ1.get 1 = some s ∧ ρ1.get 2 = some (.ptr 0 0 0) ∧ ρ1.get 4 = some (.ptr 1 0 0) ∧ Two [.arr (.pv (nodeA op N)) 0 0 none, .arr (.pv zero4) 0 0 (some 30)] σ1 ∧ Lst σ1 s (uq x) := by
  obtain ⟨σ0, hσ0⟩ : ∃ σ0 : Heap, σ0 = [.arr (.pv (nodeA op N)) 0 0 none, .arr (.pv zero4) 0 0 (some 30)] := ⟨_, rfl⟩
  have e1 : ∃ ρa, exec (cAt TC L (n + 6)).1 L reg9 ⟨ρ, [], σ0⟩ = some (.normal, ⟨ρa, [], σ0⟩) ∧ ρa.get 12 = some (.p (.bool true)) ∧ ρa.get 1 = some (.p (.vsl (vcs x) x.length)) ∧ ρa.get 2 = some (.ptr 0 0 0) ∧ ρa.get 4 = some (.ptr 1 0 0) := by
    rw [hσ0]
    exact ⟨_, by simp [reg9, p9_2, fstC, nodeA, exec, runOps, wantedA, stepOp, pureOp, allocOp, readOp, effOp, ev, evs, evO, Env.get_cons, putE, binA, intBin, unA, AV.fit, AV.toCells, partC, partP, mkCells, allP, mkAgg, Cells.len, target, t2, hN]; rfl, by simp [Env.get_cons], by simp [Env.get_cons, t1], by simp [Env.get_cons, t2], by simp [Env.get_cons, t4]⟩
  obtain ⟨ρa, e1, a12, a1, a2, a4⟩ := e1
  have e2 : ∃ ρb, exec (cAt TC L (n + 6)).1 L pre9 ⟨ρa, [], σ0⟩ = some (.normal, ⟨ρb, [], σ0⟩) ∧ ρb.get 6 = some .nil0 ∧ ρb.get 1 = some (.p (.vsl (vcs x) x.length)) ∧ ρb.get 2 = some (.ptr 0 0 0) ∧ ρb.get 4 = some (.ptr 1 0 0) :=
    ⟨_, by simp [pre9, then9, p9_2, fstC, sndC, thnC, exec, runOps, wantedA, stepOp, pureOp, allocOp, readOp, effOp, ev, evs, evO, Env.get_cons, putE, binA, intBin, unA, AV.fit, AV.toCells, partC, partP, mkCells, allP, mkAgg, Cells.len, target]; rfl, by simp [Env.get_cons], by simp [Env.get_cons, a1], by simp [Env.get_cons, a2], by simp [Env.get_cons, a4]⟩
  obtain ⟨ρb, e2, b6, b1, b2, b4⟩ := e2
  have e3 : ∃ ρc, exec (cAt TC L (n + 6)).1 L init9 ⟨ρb, [], σ0⟩ = some (.normal, ⟨ρc, [], σ0⟩) ∧ AtK x σ0 ρc σ0 0 [] :=
    ⟨_, by simp [init9, then9, p9_2, fstC, sndC, thnC, exec, runOps, wantedA, stepOp, pureOp, allocOp, readOp, effOp, ev, evs, evO, Env.get_cons, putE, binA, intBin, unA, AV.fit, AV.toCells, partC, partP, mkCells, allP, mkAgg, Cells.len, target, b1, lenA]; rfl, by simp [Env.get_cons, b2], by simp [Env.get_cons, b4], by simp [Env.get_cons], by simp [Env.get_cons], by simp [Env.get_cons], ⟨.nil0, by simp [Env.get_cons, b6], .inl ⟨rfl, rfl⟩⟩, .refl _, by rw [hσ0]; exact Nat.le_refl 2⟩
  obtain ⟨ρc, e3, h3⟩ := e3
  obtain ⟨ρd, σd, e4, h4⟩ := loopK L n x σ0 hm hL ht x.length 0 L ρc σ0 [] (by omega) hL (by simp) (fun u hu => by cases hu) h3
  obtain ⟨b, t6, hb⟩ := h4.t6
  have e5 : ∃ ρe, exec (cAt TC L (n + 6)).1 L post9 ⟨ρd, [], σd⟩ = some (.normal, ⟨ρe, [], σd⟩) ∧ ρe.get 1 = some b ∧ ρe.get 2 = some (.ptr 0 0 0) ∧ ρe.get 4 = some (.ptr 1 0 0) :=
    ⟨_, by simp [post9, then9, p9_2, fstC, sndC, thnC, exec, runOps, wantedA, stepOp, pureOp, allocOp, readOp, effOp, ev, evs, evO, Env.get_cons, putE, binA, intBin, unA, AV.fit, AV.toCells, partC, partP, mkCells, allP, mkAgg, Cells.len, target, t6]; rfl, by simp [Env.get_cons], by simp [Env.get_cons, h4.t2], by simp [Env.get_cons, h4.t4]⟩
  obtain ⟨ρe, e5, c1, c2, c4⟩ := e5
  have e45 : exec (cAt TC L (n + 6)).1 L (.seq init9 (.block 0 (.loop none body9))) ⟨ρb, [], σ0⟩ = some (.normal, ⟨ρd, [], σd⟩) := by
    rw [seqN e3]
    simp only [exec, e4, if_true]
  refine ⟨ρe, σd, b, ?_, c1, c2, c4, by rw [← hσ0]; exact h4.two, ?_⟩
  · rw [← hσ0, p9_2_eq, seqN e1, condT (show ev (St.env ⟨ρa, [], σ0⟩) (.t 12) = some (.p (.bool true)) from a12), then9_eq, seqN e2, seqN e45]
    exact e5
  · rw [List.drop_zero] at hb
    exact hb.lst
end
end Go.Ab.Cnt

/- EvalTotals: Total: its front at any node; a word that it does not know. -/
set_option maxRecDepth 1000000
namespace Go.Ab.Cnt
open Go Go.Ab Go.Ab.Key Go.Proofs
variable [Marks]
/-- the values that are looked at -/
def keptN (N : ND) (x : List V) : List V := if N.N = 1 then uq x else x
theorem keptN_len (N : ND) (x : List V) : (keptN N x).length ≤ x.length := by
  unfold keptN
  split
  · have := fold_len x []
    rw [List.length_nil, Nat.zero_add] at this
    exact this
  · exact Nat.le_refl _
theorem keptN_mem {N : ND} {x : List V} {v : V} (h : v ∈ keptN N x) : v ∈ x := by
  unfold keptN at h
  split at h
  · rcases fold_mem x [] h with h | h
    · cases h
    · exact h
  · exact h
theorem eql_ne {a b : List UInt8} (h : a ≠ b) : strBin .eql a b = some (.bool false) := by
  simp [strBin, h]
section
variable (L n : Nat)
theorem front_all (op : List UInt8) (N : ND) (x : List V) (hm : x.length ≤ LIM) (hL : x.length < L) (ht : ∀ s, V.text s ∈ x → s.length ≤ maxLen) :
    ∃ ρ2 σ2 s, exec (cAt TC L (n + 6)).1 L (.seq p9_1 p9_2) ⟨params 0 [.p (.agg (nodeA op N)), .p (.vsl (vcs x) x.length)], [], []⟩ = some (.normal, ⟨ρ2, [], σ2⟩) ∧
      ρ2.get 1 = some s ∧ ρ2.get 2 = some (.ptr 0 0 0) ∧ ρ2.get 4 = some (.ptr 1 0 0) ∧ σ2[0]? = some (.arr (.pv (nodeA op N)) 0 0 none) ∧ σ2[1]? = some (.arr (.pv zero4) 0 0 (some 30)) ∧ Lst σ2 s (keptN N x) := by
  obtain ⟨ρ1, e1, a1, a2, a4⟩ := front9 (cAt TC L (n + 6)).1 L op N x
  by_cases hN : N.N = 1
  · obtain ⟨ρ2, σ2, s, e2, b1, b2, b4, htw, hls⟩ := diff9 L n ρ1 op N hN x hm hL ht a1 a2 a4
    refine ⟨ρ2, σ2, s, by rw [seqN e1]; exact e2, b1, b2, b4, htw.1.trans rfl, htw.2.1.trans rfl, ?_⟩
    unfold keptN
    rw [if_pos hN]
    exact hls
  · obtain ⟨ρ2, e2, b1, b2, b4⟩ := skip9 (cAt TC L (n + 6)).1 L ρ1 op N hN _ a1 a2 a4
    refine ⟨ρ2, _, _, by rw [seqN e1]; exact e2, b1, b2, b4, rfl, rfl, ?_⟩
    unfold keptN
    rw [if_neg hN]
    exact .inl rfl
theorem tot9 (op : List UInt8) (N : ND) (x : List V) (r : V) (st : List UInt8) (hm : x.length ≤ LIM) (hL : x.length < L) (ht : ∀ s, V.text s ∈ x → s.length ≤ maxLen) (σ : Heap)
    (k : ∀ s ρ σ, St9 op N ρ σ s (keptN N x) (nn (keptN N x)) → AnsS (exec (cAt TC L (n + 6)).1 L (.seq p9_4 (.seq p9_5 (.seq p9_6 p9_r))) ⟨ρ, [], σ⟩) r st) :
    (cAt TC L (n + 7)).1 9 [.p (.agg (nodeA op N)), .p (.vsl (vcs x) x.length)] σ = some (.ret (.p (.tup [.agg (vc r), .str st])), σ) := by
  obtain ⟨ρ2, σ2, s, e, b1, b2, b4, o0, o1, hls⟩ := front_all L n op N x hm hL ht
  have hlen := keptN_len N x
  exact from_front L (n + 2) ρ2 σ2 op N x r s (keptN N x) σ e b1 b2 b4 o0 o1 (by omega) (by omega) hls st (k s)
end
section
variable (C : Oracle) (L : Nat) (op : List UInt8) (N : ND) (ρ : Env) (σ : Heap) (s : AV) (l x : List V)
theorem oth9 (h : St9 op N ρ σ s l x) (h1 : op ≠ [99, 111, 117, 110, 116, 42]) (h2 : op ≠ [99, 111, 117, 110, 116]) (h3 : op ≠ [115, 117, 109]) (h4 : op ≠ [109, 105, 110]) (h5 : op ≠ [109, 97, 120]) :
    AnsS (exec C L (.seq p9_4 (.seq p9_5 (.seq p9_6 p9_r))) ⟨ρ, [], σ⟩) .null [52, 50, 54, 48, 49] := by
  have o0 := h.o0
  have o1 := h.o1
  simp only [nodeA, zero4] at o0 o1
  have e : ∃ ρ', exec C L p9_4 ⟨ρ, [], σ⟩ = some (.ret, ⟨ρ', [], σ.set 1 (.arr (.pv (vc .null)) 0 0 (some 30))⟩) ∧ ρ'.get 4 = some (.ptr 1 0 0) ∧ ρ'.get 5 = some (.p (.str [52, 50, 54, 48, 49])) :=
    ⟨_, by simp [p9_4, exec, runOps, wantedA, stepOp, pureOp, allocOp, readOp, effOp, ev, evs, evO, Env.get_cons, putE, binA, intBin, unA, AV.fit, AV.toCells, partC, partP, mkCells, allP, mkAgg, Cells.len, target, evParts, fillA, AV.cells, splice, spliceC, finA, leaveA, resA, resV, ansV, h.t2, h.t4, o0, o1, vc, eql_ne h1, eql_ne h2, eql_ne h3, eql_ne h4, eql_ne h5]; rfl, by simp [Env.get_cons, h.t4], by simp [Env.get_cons]⟩
  obtain ⟨ρ', e, g4, g5⟩ := e
  rw [seqR e]
  exact ⟨_, _, rfl, g4, g5, _, set_at o1 _⟩
theorem sum_x4 (h : St9 [115, 117, 109] N ρ σ s l x) : ∃ ρ4, exec C L p9_4 ⟨ρ, [], σ⟩ = some (.normal, ⟨ρ4, [], σ⟩) ∧ St9 [115, 117, 109] N ρ4 σ s l x := by
  have o0 := h.o0
  simp only [nodeA] at o0
  obtain ⟨id, sv, c, ty, t9, o9, hc, hx, hcv⟩ := h.nn
  exact ⟨_, by simp [p9_4, exec, runOps, wantedA, stepOp, pureOp, allocOp, readOp, effOp, ev, evs, evO, Env.get_cons, putE, binA, intBin, unA, AV.fit, AV.toCells, partC, partP, mkCells, allP, mkAgg, Cells.len, target, h.t2, o0, eql_ne (show [115, 117, 109] ≠ [99, 111, 117, 110, 116, 42] by decide), eql_ne (show [115, 117, 109] ≠ [99, 111, 117, 110, 116] by decide), show strBin .eql [115, 117, 109] [115, 117, 109] = some (.bool true) from rfl]; rfl, ⟨by simp [Env.get_cons, h.t1], by simp [Env.get_cons, h.t2], by simp [Env.get_cons, h.t4], h.o0, h.o1, h.ls, id, sv, c, ty, by simp [Env.get_cons, t9], o9, hc, hx, hcv⟩⟩
/-- what is empty: for a sum, too -/
theorem sum_nil (h : St9 [115, 117, 109] N ρ σ s l []) : Ans9 (exec C L (.seq p9_4 (.seq p9_5 (.seq p9_6 p9_r))) ⟨ρ, [], σ⟩) .null := by
  obtain ⟨ρ4, e4, h⟩ := sum_x4 C L N ρ σ s l [] h
  rw [seqN e4]
  obtain ⟨id, sv, c, ty, t9, o9, hc, hxx, hcv⟩ := h.nn
  have rl := fun (d k : Nat) (r : List AOper) (ρ : Env) (σ : Heap) => run_len (C := C) (d := d) (k := k) (g := none) (r := r) (ρ := ρ) (σ := σ) hxx.len hxx.str rfl
  have o1 := h.o1
  simp only [zero4] at o1
  have e : exec C L p9_5 ⟨ρ4, [], σ⟩ = some (.ret, ⟨(5, .p done) :: (52, .p (.agg zero4)) :: (51, .p (.bool true)) :: (50, .p (.int .i64 0)) :: (49, sv) :: ρ4, [], σ.set 1 (.arr (.pv (vc .null)) 0 0 (some 30))⟩) := by
    simp [p9_5, exec, runOps, wantedA, stepOp, pureOp, allocOp, readOp, effOp, ev, evs, evO, Env.get_cons, putE, binA, intBin, unA, AV.fit, AV.toCells, partC, partP, mkCells, allP, mkAgg, Cells.len, target, evParts, fillA, AV.cells, splice, spliceC, finA, leaveA, resA, resV, ansV, h.t4, o1, t9, o9, ↓hc, ↓rl, vc, done, zero4]
  rw [seqR e]
  exact ⟨_, _, rfl, by simp [Env.get_cons, h.t4], by simp [Env.get_cons], _, set_at o1 _⟩
end
end Go.Ab.Cnt

/- EvalTotals: a number and a value added, in the program. -/
set_option maxRecDepth 1000000
namespace Go.Ab.Cnt
open Go Go.Ab Go.Ab.Key Go.Proofs
variable [Marks]
def lit48 : AFunc := { ntmps := 11, results := [ARes.cell 4 true 4, ARes.tmp 5], body := (ACode.region [{ dst := some 4, op := AOp.alloc 30 [AV.p (PV.int IntKind.i64 (0)), AV.p (PV.int IntKind.i64 (0)), AV.p (PV.str []), AV.p (PV.bool false)], guard := none }, { dst := some 5, op := AOp.mv (Opd.c (AV.p (PV.str []))), guard := none }]).seq (((ACode.region [{ dst := some 6, op := AOp.mv (Opd.t 1), guard := none }, { dst := some 7, op := AOp.un UnOp.not (Opd.t 6), guard := none }]).seq (ACode.cond (Opd.t 7) ((ACode.region [{ dst := some 8, op := AOp.build [AV.p (PV.int IntKind.i64 (0)), AV.p (PV.int IntKind.i64 (0)), AV.p (PV.str []), AV.p (PV.bool false)] [], guard := none }, { dst := none, op := AOp.store 4 (Opd.t 4) (Opd.t 8), guard := none }, { dst := some 5, op := AOp.mv (Opd.c (AV.p (PV.str [50, 50, 48, 48, 51]))), guard := none }]).seq ACode.ret) ACode.skip)).seq ((ACode.region [{ dst := some 9, op := AOp.mv (Opd.t 0), guard := none }, { dst := some 10, op := AOp.call (Opd.c (AV.p (PV.fn 28))) [Opd.t 9], guard := none }, { dst := none, op := AOp.store 4 (Opd.t 4) (Opd.t 10), guard := none }, { dst := some 5, op := AOp.mv (Opd.c (AV.p (PV.str [48, 48, 48, 48, 48]))), guard := none }]).seq ACode.ret)) }
def lit47 : AFunc := { ntmps := 22, results := [ARes.cell 2 true 4, ARes.tmp 3], body := (ACode.region [{ dst := some 2, op := AOp.alloc 30 [AV.p (PV.int IntKind.i64 (0)), AV.p (PV.int IntKind.i64 (0)), AV.p (PV.str []), AV.p (PV.bool false)], guard := none }, { dst := some 3, op := AOp.mv (Opd.c (AV.p (PV.str []))), guard := none }]).seq ((ACode.region [{ dst := some 5, op := AOp.fieldAddr 1 (Opd.t 0), guard := none }, { dst := some 6, op := AOp.load false 1 (Opd.t 5), guard := none }, { dst := some 7, op := AOp.fieldAddr 1 (Opd.t 1), guard := none }, { dst := some 8, op := AOp.load false 1 (Opd.t 7), guard := none }, { dst := some 9, op := AOp.bin (Bin.plain BinOp.add) (Opd.t 6) (Opd.t 8), guard := none }, { dst := some 4, op := AOp.mv (Opd.t 9), guard := none }]).seq ((ACode.region [{ dst := some 10, op := AOp.mv (Opd.t 4), guard := none }, { dst := some 11, op := AOp.mv (Opd.t 4), guard := none }, { dst := some 12, op := AOp.fieldAddr 1 (Opd.t 0), guard := none }, { dst := some 13, op := AOp.load false 1 (Opd.t 12), guard := none }, { dst := some 14, op := AOp.bin (Bin.plain BinOp.gtr) (Opd.t 11) (Opd.t 13), guard := none }, { dst := some 15, op := AOp.fieldAddr 1 (Opd.t 1), guard := none }, { dst := some 16, op := AOp.load false 1 (Opd.t 15), guard := none }, { dst := some 17, op := AOp.bin (Bin.plain BinOp.gtr) (Opd.t 16) (Opd.c (AV.p (PV.int IntKind.i64 (0)))), guard := none }, { dst := some 18, op := AOp.bin (Bin.eq false EQ.bool) (Opd.t 14) (Opd.t 17), guard := none }, { dst := some 19, op := AOp.call (Opd.c (AV.p (PV.fn 48))) [Opd.t 10, Opd.t 18], guard := none }, { dst := some 20, op := AOp.extract 0 (Opd.t 19), guard := none }, { dst := some 21, op := AOp.extract 1 (Opd.t 19), guard := none }, { dst := none, op := AOp.store 4 (Opd.t 2) (Opd.t 20), guard := none }, { dst := some 3, op := AOp.mv (Opd.t 21), guard := none }]).seq ACode.ret)) }
def lit46 : AFunc := { ntmps := 42, results := [ARes.cell 8 true 4, ARes.tmp 9], body := (ACode.region [{ dst := some 5, op := AOp.box 4 (Opd.t 1), guard := none }, { dst := some 6, op := AOp.box 4 (Opd.t 2), guard := none }, { dst := some 8, op := AOp.alloc 30 [AV.p (PV.int IntKind.i64 (0)), AV.p (PV.int IntKind.i64 (0)), AV.p (PV.str []), AV.p (PV.bool false)], guard := none }, { dst := some 9, op := AOp.mv (Opd.c (AV.p (PV.str []))), guard := none }]).seq (((ACode.region [{ dst := some 12, op := AOp.load true 4 (Opd.t 5), guard := none }, { dst := some 13, op := AOp.load true 4 (Opd.t 6), guard := none }, { dst := some 14, op := AOp.build [AV.p (PV.int IntKind.i64 (0)), AV.p (PV.int IntKind.i64 (0)), AV.p (PV.str []), AV.p (PV.bool false), AV.p (PV.int IntKind.i64 (0)), AV.p (PV.int IntKind.i64 (0)), AV.p (PV.str []), AV.p (PV.bool false)] [(0, 4, Opd.t 12), (4, 4, Opd.t 13)], guard := none }, { dst := some 15, op := AOp.mv (Opd.c (AV.p (PV.int IntKind.i64 (0)))), guard := none }]).seq (ACode.block 0 (ACode.loop none ((ACode.region [{ dst := some 16, op := AOp.bin (Bin.plain BinOp.lss) (Opd.t 15) (Opd.c (AV.p (PV.int IntKind.i64 (2)))), guard := none }]).seq ((ACode.cond (Opd.t 16) ACode.skip (ACode.exit 0)).seq ((ACode.block 1 ((ACode.region [{ dst := some 17, op := AOp.atArr 2 4 true (Opd.t 14) (Opd.t 15), guard := none }, { dst := some 11, op := AOp.alloc 30 [AV.p (PV.int IntKind.i64 (0)), AV.p (PV.int IntKind.i64 (0)), AV.p (PV.str []), AV.p (PV.bool false)], guard := none }, { dst := none, op := AOp.store 4 (Opd.t 11) (Opd.t 17), guard := none }]).seq ((ACode.region [{ dst := some 18, op := AOp.fieldAddr 0 (Opd.t 11), guard := none }, { dst := some 19, op := AOp.load false 1 (Opd.t 18), guard := none }, { dst := some 20, op := AOp.bin (Bin.plain BinOp.neq) (Opd.t 19) (Opd.c (AV.p (PV.int IntKind.i64 (0)))), guard := none }, { dst := some 21, op := AOp.mv (Opd.t 20), guard := none }, { dst := some 22, op := AOp.fieldAddr 0 (Opd.t 11), guard := some (21, true) }, { dst := some 23, op := AOp.load false 1 (Opd.t 22), guard := some (21, true) }, { dst := some 24, op := AOp.mv (Opd.t 0), guard := some (21, true) }, { dst := some 25, op := AOp.bin (Bin.plain BinOp.neq) (Opd.t 23) (Opd.t 24), guard := some (21, true) }, { dst := some 26, op := AOp.pick (Opd.t 21) (Opd.t 25) (Opd.c (AV.p (PV.bool false))), guard := none }]).seq (ACode.cond (Opd.t 26) ((ACode.region [{ dst := some 27, op := AOp.build [AV.p (PV.int IntKind.i64 (0)), AV.p (PV.int IntKind.i64 (0)), AV.p (PV.str []), AV.p (PV.bool false)] [], guard := none }, { dst := none, op := AOp.store 4 (Opd.t 8) (Opd.t 27), guard := none }, { dst := some 9, op := AOp.mv (Opd.c (AV.p (PV.str [52, 50, 56, 48, 52]))), guard := none }]).seq ACode.ret) ACode.skip)))).seq (ACode.region [{ dst := some 28, op := AOp.bin (Bin.plain BinOp.add) (Opd.t 15) (Opd.c (AV.p (PV.int IntKind.i64 (1)))), guard := none }, { dst := some 15, op := AOp.mv (Opd.t 28), guard := none }]))))))).seq (((ACode.region [{ dst := some 29, op := AOp.fieldAddr 0 (Opd.t 5), guard := none }, { dst := some 30, op := AOp.load false 1 (Opd.t 29), guard := none }, { dst := some 31, op := AOp.bin (Bin.plain BinOp.eql) (Opd.t 30) (Opd.c (AV.p (PV.int IntKind.i64 (0)))), guard := none }, { dst := some 32, op := AOp.mv (Opd.t 31), guard := none }, { dst := some 33, op := AOp.fieldAddr 0 (Opd.t 6), guard := some (32, false) }, { dst := some 34, op := AOp.load false 1 (Opd.t 33), guard := some (32, false) }, { dst := some 35, op := AOp.bin (Bin.plain BinOp.eql) (Opd.t 34) (Opd.c (AV.p (PV.int IntKind.i64 (0)))), guard := some (32, false) }, { dst := some 36, op := AOp.pick (Opd.t 32) (Opd.c (AV.p (PV.bool true))) (Opd.t 35), guard := none }]).seq (ACode.cond (Opd.t 36) ((ACode.region [{ dst := some 37, op := AOp.build [AV.p (PV.int IntKind.i64 (0)), AV.p (PV.int IntKind.i64 (0)), AV.p (PV.str []), AV.p (PV.bool false)] [], guard := none }, { dst := none, op := AOp.store 4 (Opd.t 8) (Opd.t 37), guard := none }, { dst := some 9, op := AOp.mv (Opd.c (AV.p (PV.str [48, 48, 48, 48, 48]))), guard := none }]).seq ACode.ret) ACode.skip)).seq ((ACode.region [{ dst := some 38, op := AOp.mv (Opd.t 3), guard := none }, { dst := some 39, op := AOp.call (Opd.t 38) [], guard := none }, { dst := some 40, op := AOp.extract 0 (Opd.t 39), guard := none }, { dst := some 41, op := AOp.extract 1 (Opd.t 39), guard := none }, { dst := none, op := AOp.store 4 (Opd.t 8) (Opd.t 40), guard := none }, { dst := some 9, op := AOp.mv (Opd.t 41), guard := none }]).seq ACode.ret))) }
def lit34 : AFunc := { ntmps := 12, results := [ARes.cell 4 true 4, ARes.tmp 5], body := (ACode.region [{ dst := some 2, op := AOp.box 4 (Opd.t 0), guard := none }, { dst := some 3, op := AOp.box 4 (Opd.t 1), guard := none }, { dst := some 4, op := AOp.alloc 30 [AV.p (PV.int IntKind.i64 (0)), AV.p (PV.int IntKind.i64 (0)), AV.p (PV.str []), AV.p (PV.bool false)], guard := none }, { dst := some 5, op := AOp.mv (Opd.c (AV.p (PV.str []))), guard := none }]).seq ((ACode.region [{ dst := some 6, op := AOp.load true 4 (Opd.t 2), guard := none }, { dst := some 7, op := AOp.load true 4 (Opd.t 3), guard := none }, { dst := some 8, op := AOp.mkFunc 47 [] [Opd.t 2, Opd.t 3], guard := none }, { dst := some 9, op := AOp.call (Opd.c (AV.p (PV.fn 46))) [Opd.c (AV.p (PV.int IntKind.i64 (1))), Opd.t 6, Opd.t 7, Opd.t 8], guard := none }, { dst := some 10, op := AOp.extract 0 (Opd.t 9), guard := none }, { dst := some 11, op := AOp.extract 1 (Opd.t 9), guard := none }, { dst := none, op := AOp.store 4 (Opd.t 4) (Opd.t 10), guard := none }, { dst := some 5, op := AOp.mv (Opd.t 11), guard := none }]).seq ACode.ret) }
/-- a number and a value together -/
def addS (a : Int) : V → V × List UInt8
  | .num b => if (decide (a < IntKind.i64.wrap (a + b)) == decide (0 < b)) = true then (.num (IntKind.i64.wrap (a + b)), [48, 48, 48, 48, 48]) else (.null, [50, 50, 48, 48, 51])
  | .null => (.null, [48, 48, 48, 48, 48])
  | _ => (.null, [52, 50, 56, 48, 52])
theorem wrap_two {g : List AV → Heap → Option (CRes × Heap)} {xs : List AV} {c0 c1 : List PV} {ty0 ty1 : Option Nat} {r : CRes} {τ τ0 : Heap}
    (h : g xs [.arr (.pv c0) 0 0 ty0, .arr (.pv c1) 0 0 ty1] = some (r, .arr (.pv c0) 0 0 ty0 :: .arr (.pv c1) 0 0 ty1 :: τ)) (hr : PureR r)
    (hids : idsL xs = [0, 1]) (hren : renL (fwd [(0, 0), (1, 0)]) xs = xs) (hfz : ∀ tl σ, frzA tl 9 σ xs = (xs, σ)) (fz : Bool) :
    wrapF g fz xs (.arr (.pv c0) 0 0 ty0 :: .arr (.pv c1) 0 0 ty1 :: τ0) = some (r, .arr (.pv c0) 0 0 ty0 :: .arr (.pv c1) 0 0 ty1 :: τ0) := by
  have ht : touch (.arr (.pv c0) 0 0 ty0 :: .arr (.pv c1) 0 0 ty1 :: τ0) xs = [0, 1] := by simp [touch, collect, hids, idsO]
  have hout : outL 2 r (.arr (.pv c0) 0 0 ty0 :: .arr (.pv c1) 0 0 ty1 :: τ) = [(0, 0), (1, 0)] := by
    simp [outL, keepK, hr.ids, collect, listOf, idsO, Nat.blt, Nat.ble, List.range, List.range.loop]
  have hlo : listOf (.arr (.pv c0) 0 0 ty0 :: .arr (.pv c1) 0 0 ty1 :: τ0) [0, 1] = [(0, 0), (1, 0)] := by simp [listOf, versO, Obj.ver]
  have hsh : ∀ τ, shrinkH [(0, 0), (1, 0)] (.arr (.pv c0) 0 0 ty0 :: .arr (.pv c1) 0 0 ty1 :: τ) = [.arr (.pv c0) 0 0 ty0, .arr (.pv c1) 0 0 ty1] := fun τ => by simp [shrinkH, shO, renC]
  have h1 : (uniq [(0, 0), (1, 0)] && inOK [(0, 0), (1, 0)] (Obj.arr (.pv c0) 0 0 ty0 :: .arr (.pv c1) 0 0 ty1 :: τ0).length) = true := by simp [uniq, posOf, inOK, Nat.beq]
  have h4 : (uniq [(0, 0), (1, 0)] && backOK [(0, 0), (1, 0)] [Obj.arr (.pv c0) 0 0 ty0, .arr (.pv c1) 0 0 ty1]) = true := rfl
  have hm : mergeH [(0, 0), (1, 0)] (.arr (.pv c0) 0 0 ty0 :: .arr (.pv c1) 0 0 ty1 :: τ0) [Obj.arr (.pv c0) 0 0 ty0, .arr (.pv c1) 0 0 ty1] = .arr (.pv c0) 0 0 ty0 :: .arr (.pv c1) 0 0 ty1 :: τ0 := by
    simp [mergeH, putBack, bkO, renC]
  have hall : ([0, 1].all fun x => [0, 1].contains x) = true := by decide
  unfold wrapF
  cases fz <;> simp only [hfz, ht, hall] <;> unfold innerW <;>
    (simp only [hlo, h1, hren, hsh, h]; simp only [show [((0 : Nat), (0 : Nat)), (1, 0)].length = 2 from rfl, hout, hsh, h4, hr.ren, hm])
section
variable (L n : Nat)
theorem q48 : TC 48 = some (.code lit48 true) := by kernel_rfl
theorem q47 : TC 47 = some (.code lit47 true) := by kernel_rfl
theorem q46 : TC 46 = some (.code lit46 true) := by kernel_rfl
theorem q34 : TC 34 = some (.code lit34 true) := by kernel_rfl
theorem num48 (c : Int) (ok : Bool) (σ : Heap) : (cAt TC L (n + 2)).1 48 [.p (.int .i64 c), .p (.bool ok)] σ = some (.ret (.p (.tup [.agg (vc (if ok then .num c else .null)), .str (if ok then [48, 48, 48, 48, 48] else [50, 50, 48, 48, 51])])), σ) := by
  have hC := fun k σ => num28 L n k σ
  refine call_ans (ps := [.int .i64 c, .bool ok]) (n := n + 1) q48 rfl ?_ σ
  generalize (cAt TC L (n + 1)).1 = C at *
  generalize (cAt TC L (n + 1)).2 = D
  cases ok <;> simp [lit48, runFunc, params, exec, runOps, wantedA, stepOp, pureOp, allocOp, readOp, effOp, ev, evs, evO, Env.get_cons, putE, binA, intBin, unA, AV.fit, AV.toCells, partC, partP, mkCells, allP, mkAgg, Cells.len, target, evParts, fillA, AV.cells, splice, spliceC, finA, leaveA, resA, resV, ansV, hC, vc, mkTup]
theorem sum47 (a b : Int) (τ : Heap) (ty0 ty1 : Option Nat) :
    (cAt TC L (n + 3)).1 47 [.ptr 0 0 0, .ptr 1 0 0] (.arr (.pv (vc (.num a))) 0 0 ty0 :: .arr (.pv (vc (.num b))) 0 0 ty1 :: τ) = some (.ret (.p (.tup [.agg (vc (addS a (.num b)).1), .str (addS a (.num b)).2])), .arr (.pv (vc (.num a))) 0 0 ty0 :: .arr (.pv (vc (.num b))) 0 0 ty1 :: τ) := by
  have hC := fun c ok σ => num48 L n c ok σ
  rw [show cAt TC L (n + 3) = (callT TC (cAt TC L (n + 2)).1 (cAt TC L (n + 2)).2 L, defT TC (cAt TC L (n + 2)).1 L) from rfl]
  simp only [callT, q47]
  generalize (cAt TC L (n + 2)).1 = C at *
  generalize (cAt TC L (n + 2)).2 = D
  refine wrap_two (τ := [.arr (.pv (vc (addS a (.num b)).1)) 0 0 (some 30)]) ?_ (.inl ⟨_, rfl⟩) rfl (by simp [renL, renV, fwd, posOf, Nat.beq]) (fun tl σ => rfl) true
  have hf : fits lit47 [.ptr 0 0 0, .ptr 1 0 0] = true := rfl
  simp only [runCode, hf]
  generalize hw : IntKind.i64.wrap (a + b) = w
  have hr : addS a (.num b) = if (decide (a < w) == decide (0 < b)) = true then (.num w, [48, 48, 48, 48, 48]) else (.null, [50, 50, 48, 48, 51]) := by
    simp only [addS, hw]
  cases hq : (decide (a < w) == decide (0 < b)) with
  | true =>
    rw [hq, if_pos rfl] at hr
    rw [hr]
    simp only [beq_iff_eq] at hq
    simp [lit47, runFunc, params, vc, exec, runOps, wantedA, stepOp, pureOp, allocOp, readOp, effOp, ev, evs, evO, Env.get_cons, putE, binA, intBin, unA, AV.fit, AV.toCells, partC, partP, mkCells, allP, mkAgg, Cells.len, target, evParts, fillA, AV.cells, splice, spliceC, finA, leaveA, resA, resV, ansV, hw, hC, hq, eqP, mkTup, extractA]
  | false =>
    rw [hq, if_neg (by decide)] at hr
    rw [hr]
    simp [lit47, runFunc, params, vc, exec, runOps, wantedA, stepOp, pureOp, allocOp, readOp, effOp, ev, evs, evO, Env.get_cons, putE, binA, intBin, unA, AV.fit, AV.toCells, partC, partP, mkCells, allP, mkAgg, Cells.len, target, evParts, fillA, AV.cells, splice, spliceC, finA, leaveA, resA, resV, ansV, hw, hC, hq, eqP, mkTup, extractA]
theorem kind_cases (b : V) (hb : isNull b = false) : (∃ x, b = .num x) ∨ (∃ k x1 x2 x3, vc b = [.int .i64 k, x1, x2, x3] ∧ ¬ k = 0 ∧ ¬ k = 1 ∧ ∀ a, addS a b = (.null, [52, 50, 56, 48, 52])) := by
  cases b with
  | null => cases hb
  | num x => exact .inl ⟨x, rfl⟩
  | text s => exact .inr ⟨2, _, _, _, rfl, by decide, by decide, fun a => rfl⟩
  | bool s => exact .inr ⟨3, _, _, _, rfl, by decide, by decide, fun a => rfl⟩
theorem lift46 (a : Int) (b : V) (hb : isNull b = false) (hL : 3 ≤ L) (τ : Heap) (ty0 ty1 : Option Nat) :
    (cAt TC L (n + 4)).1 46 [.p (.int .i64 1), .p (.agg (vc (.num a))), .p (.agg (vc b)), .clo 47 [] [.ptr 0 0 0, .ptr 1 0 0]] (.arr (.pv (vc (.num a))) 0 0 ty0 :: .arr (.pv (vc b)) 0 0 ty1 :: τ) = some (.ret (.p (.tup [.agg (vc (addS a b).1), .str (addS a b).2])), .arr (.pv (vc (.num a))) 0 0 ty0 :: .arr (.pv (vc b)) 0 0 ty1 :: τ) := by
  have hC := sum47 L n a
  obtain ⟨L, rfl⟩ : ∃ m, L = m + 3 := ⟨L - 3, by omega⟩
  rw [show cAt TC (L + 3) (n + 4) = (callT TC (cAt TC (L + 3) (n + 3)).1 (cAt TC (L + 3) (n + 3)).2 (L + 3), defT TC (cAt TC (L + 3) (n + 3)).1 (L + 3)) from rfl]
  simp only [callT, q46]
  generalize (cAt TC (L + 3) (n + 3)).1 = C at *
  generalize (cAt TC (L + 3) (n + 3)).2 = D
  have hf : ∀ x y, fits lit46 [.p (.int .i64 1), x, y, .clo 47 [] [.ptr 0 0 0, .ptr 1 0 0]] = true := fun x y => rfl
  rcases kind_cases b hb with ⟨b, rfl⟩ | ⟨k, x1, x2, x3, hx, hk0, hk1, hr⟩
  · have hC := hC b
    have hv4 := vc_len (addS a (.num b)).1
    generalize (addS a (.num b)).2 = st at *
    generalize vc (addS a (.num b)).1 = cv at *
    obtain ⟨y0, y1, y2, y3, rfl⟩ : ∃ y0 y1 y2 y3, cv = [y0, y1, y2, y3] := by
      match cv, hv4 with
      | [y0, y1, y2, y3], _ => exact ⟨y0, y1, y2, y3, rfl⟩
    simp only [vc] at hC
    have key : ∃ τ1, runCode C D (L + 3) lit46 [.p (.int .i64 1), .p (.agg (vc (.num a))), .p (.agg (vc (.num b))), .clo 47 [] [.ptr 0 0 0, .ptr 1 0 0]] [.arr (.pv (vc (.num a))) 0 0 ty0, .arr (.pv (vc (.num b))) 0 0 ty1] = some (.ret (.p (.tup [.agg [y0, y1, y2, y3], .str st])), .arr (.pv (vc (.num a))) 0 0 ty0 :: .arr (.pv (vc (.num b))) 0 0 ty1 :: τ1) := by
      simp only [runCode, hf]
      exact ⟨_, by simp [lit46, runFunc, params, vc, exec, runOps, wantedA, stepOp, pureOp, allocOp, readOp, effOp, ev, evs, evO, Env.get_cons, putE, binA, intBin, unA, AV.fit, AV.toCells, partC, partP, mkCells, allP, mkAgg, Cells.len, target, evParts, fillA, AV.cells, splice, spliceC, finA, leaveA, resA, resV, ansV, iter, St.keep, atArrA, extractA, show IntKind.i64.wrap 1 = 1 from rfl, show IntKind.i64.wrap 2 = 2 from rfl, hC, eqP, mkTup]; rfl⟩
    obtain ⟨τ1, key⟩ := key
    exact wrap_two key (.inl ⟨_, rfl⟩) rfl (by simp [renL, renV, fwd, posOf, Nat.beq]) (fun tl σ => rfl) true
  · rw [hr]
    rw [hx]
    have key : ∃ τ1, runCode C D (L + 3) lit46 [.p (.int .i64 1), .p (.agg (vc (.num a))), .p (.agg [.int .i64 k, x1, x2, x3]), .clo 47 [] [.ptr 0 0 0, .ptr 1 0 0]] [.arr (.pv (vc (.num a))) 0 0 ty0, .arr (.pv [.int .i64 k, x1, x2, x3]) 0 0 ty1] = some (.ret (.p (.tup [.agg (vc .null), .str [52, 50, 56, 48, 52]])), .arr (.pv (vc (.num a))) 0 0 ty0 :: .arr (.pv [.int .i64 k, x1, x2, x3]) 0 0 ty1 :: τ1) := by
      simp only [runCode, hf]
      exact ⟨_, by simp [lit46, runFunc, params, vc, exec, runOps, wantedA, stepOp, pureOp, allocOp, readOp, effOp, ev, evs, evO, Env.get_cons, putE, binA, intBin, unA, AV.fit, AV.toCells, partC, partP, mkCells, allP, mkAgg, Cells.len, target, evParts, fillA, AV.cells, splice, spliceC, finA, leaveA, resA, resV, ansV, iter, St.keep, atArrA, extractA, show IntKind.i64.wrap 1 = 1 from rfl, show IntKind.i64.wrap 2 = 2 from rfl, eqP, mkTup, hk0, hk1, show (k != 0) = true from by simp [hk0], show (k != 1) = true from by simp [hk1]]; rfl⟩
    obtain ⟨τ1, key⟩ := key
    exact wrap_two key (.inl ⟨_, rfl⟩) rfl (by simp [renL, renV, fwd, posOf, Nat.beq]) (fun tl σ => rfl) true
theorem add34 (a : Int) (b : V) (hb : isNull b = false) (hL : 3 ≤ L) (σ : Heap) :
    (cAt TC L (n + 5)).1 34 [.p (.agg (vc (.num a))), .p (.agg (vc b))] σ = some (.ret (.p (.tup [.agg (vc (addS a b).1), .str (addS a b).2])), σ) := by
  have hC := fun τ ty0 ty1 => lift46 L n a b hb hL τ ty0 ty1
  refine call_ans (ps := [.agg (vc (.num a)), .agg (vc b)]) (n := n + 4) q34 rfl ?_ σ
  generalize (cAt TC L (n + 4)).1 = C at *
  generalize (cAt TC L (n + 4)).2 = D
  have hv4 := vc_len (addS a b).1
  generalize (addS a b).2 = st at *
  generalize vc (addS a b).1 = cv at *
  obtain ⟨y0, y1, y2, y3, rfl⟩ : ∃ y0 y1 y2 y3, cv = [y0, y1, y2, y3] := by
    match cv, hv4 with
    | [y0, y1, y2, y3], _ => exact ⟨y0, y1, y2, y3, rfl⟩
  have hb4 := vc_len b
  generalize vc b = cb at *
  obtain ⟨z0, z1, z2, z3, rfl⟩ : ∃ z0 z1 z2 z3, cb = [z0, z1, z2, z3] := by
    match cb, hb4 with
    | [z0, z1, z2, z3], _ => exact ⟨z0, z1, z2, z3, rfl⟩
  simp only [vc] at hC
  simp [lit34, runFunc, params, vc, exec, runOps, wantedA, stepOp, pureOp, allocOp, readOp, effOp, ev, evs, evO, Env.get_cons, putE, binA, intBin, unA, AV.fit, AV.toCells, partC, partP, mkCells, allP, mkAgg, Cells.len, target, evParts, fillA, AV.cells, splice, spliceC, finA, leaveA, resA, resV, ansV, extractA, hC, mkTup]
end
end Go.Ab.Cnt
