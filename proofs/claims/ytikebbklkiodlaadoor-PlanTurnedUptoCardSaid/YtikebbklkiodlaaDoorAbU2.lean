/- PlanTurned: the law's parts: some number, whatever the tree. -/
import Derived.Test.YtikebbklkiodlaaDoorAbU1
set_option linter.unusedSectionVars false
set_option linter.unusedSimpArgs false
set_option linter.unusedVariables false
set_option maxRecDepth 1000000
namespace Go.Ab.Turn
open Go Go.Ab Go.Ab.Plan Go.Ab.Key Go.Ab.Cnt Go.Proofs
variable [Marks]
def body14 : ACode := (((ACode.region [{ dst := some 7, op := AOp.mv (Opd.t 6), guard := none }, { dst := some 8, op := AOp.fieldAddr 3 (Opd.t 2), guard := none }, { dst := some 9, op := AOp.load false 1 (Opd.t 8), guard := none }, { dst := some 10, op := AOp.len false (Opd.t 9), guard := none }, { dst := some 11, op := AOp.bin (Bin.plain BinOp.lss) (Opd.t 7) (Opd.t 10), guard := none }, { dst := some 12, op := AOp.mv (Opd.t 11), guard := none }, { dst := some 13, op := AOp.mv (Opd.t 5), guard := some (12, true) }, { dst := some 14, op := AOp.mv (Opd.t 1), guard := some (12, true) }, { dst := some 15, op := AOp.bin (Bin.plain BinOp.leq) (Opd.t 13) (Opd.t 14), guard := some (12, true) }, { dst := some 16, op := AOp.pick (Opd.t 12) (Opd.t 15) (Opd.c (AV.p (PV.bool false))), guard := none }]).seq (ACode.cond (Opd.t 16) ACode.skip (ACode.exit 0))).seq ((ACode.block 1 (ACode.region [{ dst := some 19, op := AOp.mv (Opd.t 5), guard := none }, { dst := some 20, op := AOp.fieldAddr 3 (Opd.t 2), guard := none }, { dst := some 21, op := AOp.load false 1 (Opd.t 20), guard := none }, { dst := some 22, op := AOp.mv (Opd.t 6), guard := none }, { dst := some 23, op := AOp.idx 4 (Opd.t 21) (Opd.t 22), guard := none }, { dst := some 24, op := AOp.load true 4 (Opd.t 23), guard := none }, { dst := some 25, op := AOp.mv (Opd.t 1), guard := none }, { dst := some 26, op := AOp.mv (Opd.t 5), guard := none }, { dst := some 27, op := AOp.bin (Bin.plain BinOp.sub) (Opd.t 25) (Opd.t 26), guard := none }, { dst := some 28, op := AOp.call (Opd.c (AV.p (PV.fn 14))) [Opd.t 24, Opd.t 27], guard := none }, { dst := some 29, op := AOp.bin (Bin.plain BinOp.add) (Opd.t 19) (Opd.t 28), guard := none }, { dst := some 5, op := AOp.mv (Opd.t 29), guard := none }])).seq (ACode.region [{ dst := some 17, op := AOp.mv (Opd.t 6), guard := none }, { dst := some 18, op := AOp.bin (Bin.plain BinOp.add) (Opd.t 17) (Opd.c (AV.p (PV.int IntKind.i64 (1)))), guard := none }, { dst := some 6, op := AOp.mv (Opd.t 18), guard := none }])))
theorem lit14_eq : lit14.body = (ACode.region [{ dst := some 2, op := AOp.box 4 (Opd.t 0), guard := none }, { dst := some 4, op := AOp.mv (Opd.c (AV.p (PV.int IntKind.i64 (0)))), guard := none }]).seq ((ACode.region [{ dst := some 5, op := AOp.mv (Opd.c (AV.p (PV.int IntKind.i64 (1)))), guard := none }]).seq (((ACode.region [{ dst := some 6, op := AOp.mv (Opd.c (AV.p (PV.int IntKind.i64 (0)))), guard := none }]).seq (ACode.block 0 (ACode.loop none body14))).seq ((ACode.region [{ dst := some 30, op := AOp.mv (Opd.t 5), guard := none }, { dst := some 4, op := AOp.mv (Opd.t 30), guard := none }]).seq ACode.ret))) := rfl
abbrev int (n : Int) : AV := .p (.int .i64 n)
section
variable (C : Oracle) (L : Nat) (op s : Word) (n left : Int) (l : List T) (ρ : Env) (i : Nat) (k : Int)
structure At14 (ρ : Env) (i : Nat) (k : Int) : Prop where
  t1 : ρ.get 1 = some (int left)
  t2 : ρ.get 2 = some (.ptr 0 0 0)
  t5 : ρ.get 5 = some (int k)
  t6 : ρ.get 6 = some (int i)
abbrev heap14 : Heap := [.arr (.pv (cells (.mk op s n l))) 0 0 none]
theorem stop14 (h : At14 left ρ i k) (hs : l.length ≤ i ∨ left < k) : ∃ ρ' : Env, exec C L body14 ⟨ρ, [], heap14 op s n l⟩ = some (.exit 0, ⟨ρ', [], heap14 op s n l⟩) ∧ ρ'.get 5 = some (int k) := by
  by_cases hi : (i : Int) < (l.length : Int)
  · have hk : ¬ k ≤ left := by omega
    exact ⟨_, by simp [body14, exec, runOps, wantedA, stepOp, pureOp, allocOp, readOp, effOp, ev, evs, evO, Env.get_cons, putE, binA, intBin, unA, AV.fit, AV.toCells, partC, partP, mkCells, allP, mkAgg, Cells.len, target, cells, heap14, h.t1, h.t2, h.t5, h.t6, hi, hk, lenA]; rfl, by simp [Env.get_cons, h.t5]⟩
  · exact ⟨_, by simp [body14, exec, runOps, wantedA, stepOp, pureOp, allocOp, readOp, effOp, ev, evs, evO, Env.get_cons, putE, binA, intBin, unA, AV.fit, AV.toCells, partC, partP, mkCells, allP, mkAgg, Cells.len, target, cells, heap14, h.t1, h.t2, h.t5, h.t6, hi, lenA]; rfl, by simp [Env.get_cons, h.t5]⟩
theorem go14 (h : At14 left ρ i k) (c : T) (hc : l[i]? = some c) (hl : l.length ≤ 1048576) (hk : k ≤ left) (K : Int)
    (hC : ∀ σ, C 14 [.p (node c), int (IntKind.i64.wrap (left - k))] σ = some (.ret (int K), σ)) :
    ∃ ρ' : Env, exec C L body14 ⟨ρ, [], heap14 op s n l⟩ = some (.normal, ⟨ρ', [], heap14 op s n l⟩) ∧ At14 left ρ' (i + 1) (IntKind.i64.wrap (k + K)) := by
  have hi : i < l.length := (List.getElem?_eq_some_iff.1 hc).1
  have hi' : (i : Int) < (l.length : Int) := by omega
  have d1 := cellsL_at l i c hc
  have d3 : 4 ≤ (cellsL l).length - i * 4 := by rw [cellsL_len]; omega
  have e1 : IntKind.i64.wrap ((i : Int) + 1) = (i : Int) + 1 := wrap_id _ (by omega) (by omega)
  refine ⟨_, by simp [body14, exec, runOps, wantedA, stepOp, pureOp, allocOp, readOp, effOp, ev, evs, evO, Env.get_cons, putE, binA, intBin, unA, AV.fit, AV.toCells, partC, partP, mkCells, allP, mkAgg, Cells.len, target, evParts, fillA, AV.cells, splice, spliceC, finA, leaveA, resA, resV, ansV, cells, heap14, idxA, h.t1, h.t2, h.t5, h.t6, hi, hi', hk, lenA, d1, d3, e1, hC]; rfl, ⟨?_, ?_, ?_, ?_⟩⟩
  · simp [Env.get_cons, h.t1]
  · simp [Env.get_cons, h.t2]
  · simp [Env.get_cons]
  · simp [Env.get_cons]
end
theorem loop14 (C : Oracle) (L : Nat) (op s : Word) (n left : Int) (l : List T) (hl : l.length ≤ 1048576)
    (hC : ∀ c ∈ l, ∀ x, ∃ K, ∀ σ, C 14 [.p (node c), int x] σ = some (.ret (int K), σ)) :
    ∀ (d f i : Nat) (k : Int) (ρ : Env), l.length - i ≤ d → d < f → At14 left ρ i k →
    ∃ (ρ' : Env) (K : Int), iter (exec C L body14) none f ⟨ρ, [], heap14 op s n l⟩ = some (.exit 0, ⟨ρ', [], heap14 op s n l⟩) ∧ ρ'.get 5 = some (int K)
  | d, f, i, k, ρ, hd, hf, h => by
    obtain ⟨f, rfl⟩ : ∃ m, f = m + 1 := ⟨f - 1, by omega⟩
    by_cases hs : l.length ≤ i ∨ left < k
    · obtain ⟨ρ', e, g5⟩ := stop14 C L op s n left l ρ i k h hs
      exact ⟨ρ', k, by simp only [iter, St.keep, e], g5⟩
    · have hi : i < l.length := by omega
      have ex : l[i]? = some l[i] := List.getElem?_eq_getElem hi
      obtain ⟨K, hK⟩ := hC _ (List.getElem_mem hi) (IntKind.i64.wrap (left - k))
      obtain ⟨ρ1, e, h1⟩ := go14 C L op s n left l ρ i k h _ ex hl (by omega) K hK
      obtain ⟨d, rfl⟩ : ∃ m, d = m + 1 := ⟨d - 1, by omega⟩
      obtain ⟨ρ', K', e', q⟩ := loop14 C L op s n left l hl hC d f (i + 1) _ ρ1 (by omega) (by omega) h1
      exact ⟨ρ', K', by simp only [iter, St.keep, e]; exact e', q⟩
theorem parts14 {T : Table} {L : Nat} (hT : T 14 = some (.code lit14 true)) : ∀ (m : Nat) (t : Turn.T), deep t ≤ m → okT t → broad t < L → ∀ x, ∃ K, ∀ σ, (cAt T L m).1 14 [.p (node t), int x] σ = some (.ret (int K), σ)
  | 0, .mk _ _ _ _, h, _, _, _ => by simp [deep] at h
  | m + 1, .mk op s n l, h, hok, hb, x => by
    simp only [deep, Nat.add_le_add_iff_right] at h
    simp only [broad] at hb
    simp only [okT, allT] at hok
    have hl : l.length < L := Nat.lt_of_le_of_lt (Nat.le_max_left _ _) hb
    have ih : ∀ c ∈ l, ∀ x, ∃ K, ∀ σ, (cAt T L m).1 14 [.p (node c), int x] σ = some (.ret (int K), σ) := fun c hc x =>
      parts14 hT m c (Nat.le_trans (deepL_mem hc) h) (allTL_mem hok.2 hc) (Nat.lt_of_le_of_lt (broadL_mem hc) (Nat.lt_of_le_of_lt (Nat.le_max_right _ _) hb)) x
    have key : ∃ K, ansV (runFunc (cAt T L m).1 (cAt T L m).2 L lit14 [.p (node (.mk op s n l)), int x] []) = some (.int .i64 K) := by
      generalize (cAt T L m).1 = C at ih ⊢
      generalize (cAt T L m).2 = D
      obtain ⟨ρ', K, e, g5⟩ := loop14 C L op s n x l hok.1.2.2 ih l.length L 0 1 [(6, int 0), (5, int 1), (4, int 0), (2, .ptr 0 0 0), (0, .p (node (.mk op s n l))), (1, int x)] (by omega) hl ⟨rfl, rfl, rfl, rfl⟩
      refine ⟨K, ?_⟩
      rw [runFunc_eq, lit14_eq]
      rw [seqN (a := .region _) (by simp [params, exec, runOps, wantedA, stepOp, pureOp, allocOp, readOp, effOp, ev, evs, evO, Env.get_cons, putE, binA, intBin, unA, AV.fit, AV.toCells, partC, partP, mkCells, allP, mkAgg, Cells.len, target, cells]; rfl), seqN (a := .region _) (by simp [exec, runOps, wantedA, stepOp, pureOp, allocOp, readOp, effOp, ev, evs, evO, Env.get_cons, putE, binA, intBin, unA, AV.fit, AV.toCells, partC, partP, mkCells, allP, mkAgg, Cells.len, target]; rfl)]
      have e3 : exec C L (.seq (.region [{ dst := some 6, op := AOp.mv (Opd.c (int 0)), guard := none }]) (.block 0 (.loop none body14))) ⟨[(5, int 1), (4, int 0), (2, .ptr 0 0 0), (0, .p (node (.mk op s n l))), (1, int x)], [], heap14 op s n l⟩ = some (.normal, ⟨ρ', [], heap14 op s n l⟩) := by
        rw [seqN (a := .region _) (by simp [exec, runOps, wantedA, stepOp, pureOp, allocOp, readOp, effOp, ev, evs, evO, Env.get_cons, putE, binA, intBin, unA, AV.fit, AV.toCells, partC, partP, mkCells, allP, mkAgg, Cells.len, target]; rfl)]
        simp only [exec, e, if_true]
      erw [seqN e3]
      simp [exec, runOps, wantedA, stepOp, pureOp, allocOp, readOp, effOp, ev, evs, evO, Env.get_cons, putE, binA, intBin, unA, AV.fit, AV.toCells, partC, partP, mkCells, allP, mkAgg, Cells.len, target, evParts, fillA, AV.cells, splice, spliceC, finA, leaveA, resA, resV, ansV, finX, mixed, lit14, g5]
    obtain ⟨K, hK⟩ := key
    exact ⟨K, fun σ => call_ans (ps := [node (.mk op s n l), .int .i64 x]) (n := m) hT (by rfl) hK σ⟩
end Go.Ab.Turn

/- PlanTurned: slices that grow; calls whose answer is frozen; the law's keys. -/
set_option maxRecDepth 1000000
namespace Go.Ab.Turn
open Go Go.Ab Go.Ab.Plan Go.Ab.Key Go.Ab.Cnt Go.Proofs
variable [Marks]
/-- the object of a slice -/
def own : AV → List Nat
  | .sl id _ _ _ _ => [id]
  | _ => []
/-- a slice that grows: its elements' cells, how many -/
def Buf (ety esz : Nat) (σ : Heap) (b : AV) (l : List PV) (n : Nat) : Prop :=
  l.length = n * esz ∧ ((b = .nil0 ∧ n = 0) ∨ (n ≠ 0 ∧ ∃ id ver, b = .sl id ver 0 n esz ∧ σ[id]? = some (.arr (.pv l) ver 0 (some ety))))
theorem Buf.nil {ety esz : Nat} {σ : Heap} : Buf ety esz σ .nil0 [] 0 := ⟨by simp, .inl ⟨rfl, rfl⟩⟩
theorem Buf.lt {ety esz : Nat} {σ : Heap} {b : AV} {l : List PV} {n : Nat} (h : Buf ety esz σ b l n) {j : Nat} (hj : j ∈ own b) : j < σ.length := by
  rcases h.2 with ⟨rfl, _⟩ | ⟨_, id, ver, rfl, ho⟩
  · cases hj
  · simp [own] at hj
    subst hj
    exact (List.getElem?_eq_some_iff.1 ho).1
theorem Buf.same {ety esz : Nat} {σ σ' : Heap} {b : AV} {l : List PV} {n : Nat} (h : Buf ety esz σ b l n) (he : ∀ j ∈ own b, σ'[j]? = σ[j]?) : Buf ety esz σ' b l n := by
  refine ⟨h.1, ?_⟩
  rcases h.2 with h | ⟨hn, id, ver, rfl, ho⟩
  · exact .inl h
  · exact .inr ⟨hn, id, ver, rfl, by rw [he id (by simp [own])]; exact ho⟩
theorem Buf.push {ety esz : Nat} {σ : Heap} {b : AV} {l : List PV} {n : Nat} (h : Buf ety esz σ b l n) (τ : Heap) : Buf ety esz (σ ++ τ) b l n :=
  h.same fun _ hj => List.getElem?_append_left (h.lt hj)
theorem Buf.app {ety esz : Nat} {σ : Heap} {b : AV} {l : List PV} {n : Nat} (h : Buf ety esz σ b l n) (new : List PV) (hn : new.length = esz) (hl : n + 1 ≤ LIM) :
    ∃ b2 σ2, appendTo σ ety esz b 1 (.pv new) = some (b2, σ2) ∧ Buf ety esz σ2 b2 (l ++ new) (n + 1) ∧ (∀ j, j < σ.length → j ∉ own b → σ2[j]? = σ[j]?) ∧ σ.length ≤ σ2.length ∧ (∀ j ∈ own b2, j ∈ own b ∨ σ.length ≤ j) := by
  obtain ⟨h1, h2⟩ := h
  have hlen : (l ++ new).length = (n + 1) * esz := by rw [List.length_append, h1, hn, Nat.add_mul]; omega
  rcases h2 with ⟨rfl, rfl⟩ | ⟨hne, id, ver, rfl, ho⟩
  · have h0 : l = [] := by
      rw [Nat.zero_mul] at h1
      exact List.eq_nil_of_length_eq_zero h1
    subst h0
    refine ⟨.sl σ.length 0 0 1 esz, σ ++ [.arr (.pv new) 0 0 (some ety)], ?_, ⟨hlen, .inr ⟨by omega, σ.length, 0, rfl, by simp⟩⟩, fun j hj _ => List.getElem?_append_left hj, by simp, fun j hj => ?_⟩
    · have : 1 ≤ LIM := by decide
      simp [appendTo, this]
    · simp [own] at hj
      exact .inr (by omega)
  · have hid : id < σ.length := (List.getElem?_eq_some_iff.1 ho).1
    refine ⟨.sl id (ver + 1) 0 (n + 1) esz, σ.set id (.arr (.pv (l ++ new)) (ver + 1) 0 (some ety)), ?_, ⟨hlen, .inr ⟨by omega, id, ver + 1, rfl, ?_⟩⟩, fun j hj hb => ?_, by simp, fun j hj => .inl hj⟩
    · have ht : l.take (n * esz) = l := List.take_of_length_le (by omega)
      simp [appendTo, ho, hl, takeC, catC, Cells.len, ht, h1]
    · rw [List.getElem?_set_self hid]
    · have : id ≠ j := by
        intro he
        exact hb (by simp [own, he])
      rw [List.getElem?_set_ne this]
/-- a call whose answer is frozen -/
theorem call_frz {T : Table} {L n f : Nat} {af : AFunc} {ps : List PV} {v : AV} {p : PV} {σr σ2 : Heap} (hT : T f = some (.ans af)) (hf : fits af (ps.map .p) = true)
    (h : runFunc (cAt T L n).1 (cAt T L n).2 L af (ps.map .p) [] = some (.ret v, σr)) (hz : frz (List.range σr.length) 9 σr v = some (p, σ2)) (σ : Heap) :
    (cAt T L (n + 1)).1 f (ps.map .p) σ = some (.ret (.p p), σ) := by
  simp only [cAt, callT, hT]
  refine wrap_pure (σr := σ2) ?_ σ
  unfold frzAns runCode
  rw [hf]
  simp only [h, hz]
theorem Buf.frz {ety esz : Nat} {σ : Heap} {b : AV} {l : List PV} {n d : Nat} (h : Buf ety esz σ b l n) : ∃ σ2, frz (List.range σ.length) (d + 1) σ b = some (.vsl l n, σ2) ∧ σ2.length = σ.length := by
  obtain ⟨h1, h2⟩ := h
  rcases h2 with ⟨rfl, rfl⟩ | ⟨hne, id, ver, rfl, ho⟩
  · have h0 : l = [] := by
      rw [Nat.zero_mul] at h1
      exact List.eq_nil_of_length_eq_zero h1
    subst h0
    exact ⟨σ, rfl, rfl⟩
  · have hid : id < σ.length := (List.getElem?_eq_some_iff.1 ho).1
    have hc : (List.range σ.length).contains id = true := by simp [hid]
    have ht : l.take (n * esz) = l := List.take_of_length_le (by omega)
    refine ⟨σ.set id (.arr (.pv l) ver (Nat.max 0 (0 + n * esz)) (some ety)), ?_, by simp⟩
    simp only [Go.Ab.frz, ho, Cells.len, hc, Nat.zero_add, List.drop_zero, ht, and_true, true_and]
    rw [if_pos (by omega)]
def body16n : ACode := (((ACode.region [{ dst := some 29, op := AOp.mv (Opd.t 7), guard := none }, { dst := some 30, op := AOp.mv (Opd.t 3), guard := none }, { dst := some 31, op := AOp.len false (Opd.t 30), guard := none }, { dst := some 32, op := AOp.bin (Bin.plain BinOp.lss) (Opd.t 29) (Opd.t 31), guard := none }]).seq (ACode.cond (Opd.t 32) ACode.skip (ACode.exit 2))).seq ((ACode.block 3 (ACode.region [{ dst := some 35, op := AOp.mv (Opd.t 6), guard := none }, { dst := some 36, op := AOp.mv (Opd.t 35), guard := none }, { dst := some 37, op := AOp.mv (Opd.t 3), guard := some (36, false) }, { dst := some 38, op := AOp.mv (Opd.t 7), guard := some (36, false) }, { dst := some 39, op := AOp.idx 1 (Opd.t 37) (Opd.t 38), guard := some (36, false) }, { dst := some 40, op := AOp.load false 1 (Opd.t 39), guard := some (36, false) }, { dst := some 41, op := AOp.mv (Opd.t 5), guard := some (36, false) }, { dst := some 42, op := AOp.bin (Bin.plain BinOp.eql) (Opd.t 40) (Opd.t 41), guard := some (36, false) }, { dst := some 43, op := AOp.pick (Opd.t 36) (Opd.c (AV.p (PV.bool true))) (Opd.t 42), guard := none }, { dst := some 6, op := AOp.mv (Opd.t 43), guard := none }])).seq (ACode.region [{ dst := some 33, op := AOp.mv (Opd.t 7), guard := none }, { dst := some 34, op := AOp.bin (Bin.plain BinOp.add) (Opd.t 33) (Opd.c (AV.p (PV.int IntKind.i64 (1)))), guard := none }, { dst := some 7, op := AOp.mv (Opd.t 34), guard := none }])))
def body16 : ACode := (((ACode.region [{ dst := some 8, op := AOp.mv (Opd.t 4), guard := none }, { dst := some 9, op := AOp.mv (Opd.t 0), guard := none }, { dst := some 10, op := AOp.len false (Opd.t 9), guard := none }, { dst := some 11, op := AOp.bin (Bin.plain BinOp.lss) (Opd.t 8) (Opd.t 10), guard := none }, { dst := some 12, op := AOp.mv (Opd.t 11), guard := none }, { dst := some 13, op := AOp.mv (Opd.t 4), guard := some (12, true) }, { dst := some 14, op := AOp.bin (Bin.plain BinOp.lss) (Opd.t 13) (Opd.c (AV.p (PV.int IntKind.i64 (6)))), guard := some (12, true) }, { dst := some 15, op := AOp.pick (Opd.t 12) (Opd.t 14) (Opd.c (AV.p (PV.bool false))), guard := none }]).seq (ACode.cond (Opd.t 15) ACode.skip (ACode.exit 0))).seq ((ACode.block 1 ((ACode.region [{ dst := some 18, op := AOp.mv (Opd.t 0), guard := none }, { dst := some 19, op := AOp.mv (Opd.t 4), guard := none }, { dst := some 20, op := AOp.idx 1 (Opd.t 18) (Opd.t 19), guard := none }, { dst := some 21, op := AOp.load false 1 (Opd.t 20), guard := none }, { dst := some 5, op := AOp.mv (Opd.t 21), guard := none }]).seq (((ACode.region [{ dst := some 22, op := AOp.mv (Opd.t 5), guard := none }, { dst := some 23, op := AOp.bin (Bin.plain BinOp.lss) (Opd.t 22) (Opd.c (AV.p (PV.int IntKind.i64 (0)))), guard := none }]).seq (ACode.cond (Opd.t 23) (ACode.region [{ dst := some 24, op := AOp.mv (Opd.t 5), guard := none }, { dst := some 25, op := AOp.bin (Bin.plain BinOp.add) (Opd.t 24) (Opd.c (AV.p (PV.int IntKind.i64 (1)))), guard := none }, { dst := some 26, op := AOp.un UnOp.neg (Opd.t 25), guard := none }, { dst := some 5, op := AOp.mv (Opd.t 26), guard := none }]) ACode.skip)).seq ((ACode.region [{ dst := some 27, op := AOp.mv (Opd.t 5), guard := none }, { dst := some 28, op := AOp.bin (Bin.plain BinOp.rem) (Opd.t 27) (Opd.c (AV.p (PV.int IntKind.i64 (3)))), guard := none }, { dst := some 5, op := AOp.mv (Opd.t 28), guard := none }]).seq ((ACode.region [{ dst := some 6, op := AOp.mv (Opd.c (AV.p (PV.bool false))), guard := none }]).seq (((ACode.region [{ dst := some 7, op := AOp.mv (Opd.c (AV.p (PV.int IntKind.i64 (0)))), guard := none }]).seq (ACode.block 2 (ACode.loop none body16n))).seq ((ACode.region [{ dst := some 44, op := AOp.mv (Opd.t 6), guard := none }, { dst := some 45, op := AOp.un UnOp.not (Opd.t 44), guard := none }]).seq (ACode.cond (Opd.t 45) (ACode.region [{ dst := some 46, op := AOp.mv (Opd.t 3), guard := none }, { dst := some 47, op := AOp.mv (Opd.t 5), guard := none }, { dst := some 48, op := AOp.buildSlice [AV.p (PV.int IntKind.i64 (0))] 1 1 [(0, 1, Opd.t 47)], guard := none }, { dst := some 49, op := AOp.append 3 1 [AV.p (PV.int IntKind.i64 (0))] (Opd.t 46) (Opd.t 48), guard := none }, { dst := some 3, op := AOp.mv (Opd.t 49), guard := none }]) ACode.skip)))))))).seq (ACode.region [{ dst := some 16, op := AOp.mv (Opd.t 4), guard := none }, { dst := some 17, op := AOp.bin (Bin.plain BinOp.add) (Opd.t 16) (Opd.c (AV.p (PV.int IntKind.i64 (1)))), guard := none }, { dst := some 4, op := AOp.mv (Opd.t 17), guard := none }])))
theorem lit16_eq : lit16.body = (ACode.region [{ dst := some 2, op := AOp.mv (Opd.c AV.nil0), guard := none }]).seq ((ACode.region [{ dst := some 3, op := AOp.mv (Opd.c AV.nil0), guard := none }]).seq (((ACode.region [{ dst := some 4, op := AOp.mv (Opd.c (AV.p (PV.int IntKind.i64 (0)))), guard := none }]).seq (ACode.block 0 (ACode.loop none body16))).seq (((ACode.region [{ dst := some 50, op := AOp.mv (Opd.t 3), guard := none }, { dst := some 51, op := AOp.len false (Opd.t 50), guard := none }, { dst := some 52, op := AOp.bin (Bin.plain BinOp.eql) (Opd.t 51) (Opd.c (AV.p (PV.int IntKind.i64 (0)))), guard := none }]).seq (ACode.cond (Opd.t 52) ((ACode.region [{ dst := some 53, op := AOp.buildSlice [AV.p (PV.int IntKind.i64 (0))] 1 1 [(0, 1, Opd.c (AV.p (PV.int IntKind.i64 (0))))], guard := none }, { dst := some 2, op := AOp.mv (Opd.t 53), guard := none }]).seq ACode.ret) ACode.skip)).seq ((ACode.region [{ dst := some 54, op := AOp.mv (Opd.t 3), guard := none }, { dst := some 2, op := AOp.mv (Opd.t 54), guard := none }]).seq ACode.ret)))) := rfl
/-- columns as cells -/
abbrev cols (k : List Nat) : List PV := k.map fun c : Nat => PV.int .i64 (c : Int)
abbrev ints (l : List Int) : List PV := l.map fun c : Int => PV.int .i64 c
section
variable (C : Oracle) (L : Nat) (x : List Int) (ρ : Env) (σ : Heap) (b : AV) (k : List Nat) (i j : Nat)
/-- what the inner loop leaves alone -/
structure Al16 (ρ ρ' : Env) : Prop where
  t0 : ρ'.get 0 = ρ.get 0
  t3 : ρ'.get 3 = ρ.get 3
  t4 : ρ'.get 4 = ρ.get 4
  t5 : ρ'.get 5 = ρ.get 5
theorem Al16.trans {ρ1 ρ2 ρ3 : Env} (h : Al16 ρ1 ρ2) (g : Al16 ρ2 ρ3) : Al16 ρ1 ρ3 := ⟨g.1.trans h.1, g.2.trans h.2, g.3.trans h.3, g.4.trans h.4⟩
theorem Buf.len {ety esz : Nat} {σ : Heap} {b : AV} {l : List PV} {n : Nat} (h : Buf ety esz σ b l n) : lenA b = some n := by
  rcases h.2 with ⟨rfl, rfl⟩ | ⟨_, id, ver, rfl, _⟩ <;> rfl
theorem stop16n (h3 : ρ.get 3 = some b) (hb : Buf 3 1 σ b (cols k) k.length) (h7 : ρ.get 7 = some (int k.length)) : ∃ ρ' : Env, exec C L body16n ⟨ρ, [], σ⟩ = some (.exit 2, ⟨ρ', [], σ⟩) ∧ Al16 ρ ρ' ∧ ρ'.get 6 = ρ.get 6 := by
  have hl := hb.len
  rcases hb.2 with ⟨rfl, hk⟩ | ⟨_, id, ver, rfl, _⟩
  · exact ⟨_, by simp [body16n, exec, runOps, wantedA, stepOp, pureOp, allocOp, readOp, effOp, ev, evs, evO, Env.get_cons, putE, binA, intBin, unA, AV.fit, AV.toCells, partC, partP, mkCells, allP, mkAgg, Cells.len, target, lenA, h3, h7, hk]; rfl, ⟨by simp [Env.get_cons], by simp [Env.get_cons], by simp [Env.get_cons], by simp [Env.get_cons]⟩, by simp [Env.get_cons]⟩
  · exact ⟨_, by simp [body16n, exec, runOps, wantedA, stepOp, pureOp, allocOp, readOp, effOp, ev, evs, evO, Env.get_cons, putE, binA, intBin, unA, AV.fit, AV.toCells, partC, partP, mkCells, allP, mkAgg, Cells.len, target, lenA, h3, h7]; rfl, ⟨by simp [Env.get_cons], by simp [Env.get_cons], by simp [Env.get_cons], by simp [Env.get_cons]⟩, by simp [Env.get_cons]⟩
theorem go16n (c : Int) (q : Bool) (h3 : ρ.get 3 = some b) (hb : Buf 3 1 σ b (cols k) k.length) (hj : j < k.length) (hk : k.length ≤ 6) (h5 : ρ.get 5 = some (int c)) (h6 : ρ.get 6 = some (.p (.bool q))) (h7 : ρ.get 7 = some (int j)) :
    ∃ (ρ' : Env) (q' : Bool), exec C L body16n ⟨ρ, [], σ⟩ = some (.normal, ⟨ρ', [], σ⟩) ∧ Al16 ρ ρ' ∧ ρ'.get 6 = some (.p (.bool q')) ∧ ρ'.get 7 = some (int ((j + 1 : Nat) : Int)) := by
  obtain ⟨_, id, ver, rfl, ho⟩ := hb.2.resolve_left (by rintro ⟨_, h⟩; omega)
  have hj' : (j : Int) < (k.length : Int) := by omega
  have e1 : IntKind.i64.wrap ((j : Int) + 1) = (j : Int) + 1 := wrap_id _ (by omega) (by omega)
  have d1 : ((cols k).drop j).take 1 = [.int .i64 (k[j] : Int)] := by
    rw [List.drop_eq_getElem_cons (by simpa using hj)]
    simp
  have d2 : (cols k)[j]? = some (.int .i64 (k[j] : Int)) := by simp [hj]
  cases q with
  | true =>
    exact ⟨_, true, by simp [body16n, exec, runOps, wantedA, stepOp, pureOp, allocOp, readOp, effOp, ev, evs, evO, Env.get_cons, putE, binA, intBin, unA, AV.fit, AV.toCells, partC, partP, mkCells, allP, mkAgg, Cells.len, target, evParts, fillA, AV.cells, splice, spliceC, finA, leaveA, resA, resV, ansV, lenA, h3, h7, h6, hj', e1]; rfl, ⟨by simp [Env.get_cons], by simp [Env.get_cons], by simp [Env.get_cons], by simp [Env.get_cons]⟩, by simp [Env.get_cons], by simp [Env.get_cons]⟩
  | false =>
    exact ⟨_, (k[j] : Int) == c, by simp [body16n, exec, runOps, wantedA, stepOp, pureOp, allocOp, readOp, effOp, ev, evs, evO, Env.get_cons, putE, binA, intBin, unA, AV.fit, AV.toCells, partC, partP, mkCells, allP, mkAgg, Cells.len, target, evParts, fillA, AV.cells, splice, spliceC, finA, leaveA, resA, resV, ansV, lenA, idxA, h3, h5, h7, h6, hj', hj, e1, ho, d1, d2, takeC, dropC, Cells.get?]; rfl, ⟨by simp [Env.get_cons], by simp [Env.get_cons], by simp [Env.get_cons], by simp [Env.get_cons]⟩, by simp [Env.get_cons], by simp [Env.get_cons]⟩
end
end Go.Ab.Turn
