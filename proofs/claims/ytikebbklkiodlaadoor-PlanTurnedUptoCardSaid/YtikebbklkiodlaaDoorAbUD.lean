/- Regions whose order the tape draws, one operation at a time. -/
import Derived.Test.YtikebbklkiodlaaDoorAbE3
import Derived.Test.YtikebbklkiodlaaDoorAbU2
import Derived.Test.YtikebbklkiodlaaDoorAbUT
set_option linter.unusedSectionVars false
set_option linter.unusedSimpArgs false
set_option linter.unusedVariables false
namespace Go.Ab
variable [Marks]
theorem drawE {C : Oracle} {i : Nat} {o : AOper} {r : List AOper} {s : Tr} {st1 : St} {ρ1 : Env} {W : List Nat} (hw : wantedA o.guard (keepE s.st.env (readsOf o)) = some true) (hE : isE o.op = true)
    (h : runOps C [o] { s.st with env := keepE s.st.env (readsOf o) } = some (.normal, st1)) (hc : carry s.st.env o.dst st1.env = ρ1) (hW : wrIds (keepE s.st.env (readsOf o)) s.st.heap o.op = W) :
    drawRun C i (o :: r) s = drawRun C (i + 1) r ⟨⟨ρ1, st1.defers, st1.heap⟩, s.rds, (i, s.st.heap.length, W) :: s.wrs⟩ := by
  subst hc hW
  simp only [drawRun, hw, hE, h]
theorem drawS {C : Oracle} {i : Nat} {o : AOper} {r : List AOper} {s : Tr} {v : AV} (hw : wantedA o.guard (keepE s.st.env (readsOf o)) = some true) (hE : isE o.op = false)
    (h : stillOp (keepE s.st.env (readsOf o)) s.st.heap o.op = some (v, none)) :
    drawRun C i (o :: r) s = drawRun C (i + 1) r ⟨⟨putE s.st.env o.dst v, s.st.defers, s.st.heap⟩, s.rds, s.wrs⟩ := by
  simp only [drawRun, hw, hE, h]
theorem drawR {C : Oracle} {i id : Nat} {o : AOper} {r : List AOper} {s : Tr} {v : AV} (hw : wantedA o.guard (keepE s.st.env (readsOf o)) = some true) (hE : isE o.op = false)
    (h : stillOp (keepE s.st.env (readsOf o)) s.st.heap o.op = some (v, some id)) :
    drawRun C i (o :: r) s = drawRun C (i + 1) r ⟨⟨putE s.st.env o.dst v, s.st.defers, s.st.heap⟩, (i, id) :: s.rds, s.wrs⟩ := by
  simp only [drawRun, hw, hE, h]
theorem drawN {C : Oracle} {i : Nat} {o : AOper} {r : List AOper} {s : Tr} (hw : wantedA o.guard (keepE s.st.env (readsOf o)) = some false) :
    drawRun C i (o :: r) s = drawRun C (i + 1) r ⟨⟨putE s.st.env o.dst (.p .undef), s.st.defers, s.st.heap⟩, s.rds, s.wrs⟩ := by
  simp only [drawRun, hw]
theorem drawX {C : Oracle} {L n : Nat} {anc : List Nat} {ops : List AOper} {st : St} {s : Tr} (h : drawRun C 0 ops ⟨st, [], []⟩ = some (none, s)) (hok : okRW anc ops s = true) : exec C L (.draw n anc ops) st = some (.normal, s.st) := by
  simp only [exec, drawExec, h, if_pos hok]
theorem okRW_nil {anc : List Nat} {ops : List AOper} {st : St} {rds : List (Nat × Nat)} : okRW anc ops ⟨st, rds, []⟩ = true := by
  simp [okRW]
theorem allP_map : ∀ l : List PV, allP (l.map .p) = some l
  | [] => rfl
  | p :: r => by simp only [List.map_cons, allP, allP_map r]
theorem blkA {C : Oracle} {L k : Nat} {a b c : ACode} {st st1 : St} (h : exec C L a st = some (.normal, st1)) : exec C L (.seq (.block k (.seq a b)) c) st = exec C L (.seq (.block k b) c) st1 := by
  simp only [exec, h]
theorem blkN {C : Oracle} {L k : Nat} {b c : ACode} {st st2 : St} (h : exec C L (.seq b c) st = some (.normal, st2)) : exec C L (.seq (.block k b) c) st = some (.normal, st2) := by
  simp only [exec] at h ⊢
  generalize exec C L b st = z at h ⊢
  match z, h with
  | some (.normal, st), h => exact h
theorem seq_assoc {C : Oracle} {L : Nat} {a b c : ACode} {st : St} : exec C L (.seq a (.seq b c)) st = exec C L (.seq (.seq a b) c) st := by
  simp only [exec]
  cases exec C L a st with
  | none => rfl
  | some r =>
    obtain ⟨e, s⟩ := r
    cases e <;> rfl
end Go.Ab

/- PlanTurned: the law's keys and table. -/
set_option maxRecDepth 1000000
namespace Go.Ab.Turn
open Go Go.Ab Go.Ab.Plan Go.Ab.Key Go.Ab.Cnt Go.Proofs
variable [Marks]
theorem loop16n (C : Oracle) (L : Nat) (σ : Heap) (b : AV) (k : List Nat) (hb : Buf 3 1 σ b (cols k) k.length) (hk : k.length ≤ 6) (c : Int) :
    ∀ (d f j : Nat) (ρ : Env) (q : Bool), k.length - j ≤ d → d < f → j ≤ k.length → ρ.get 3 = some b → ρ.get 5 = some (int c) → ρ.get 6 = some (.p (.bool q)) → ρ.get 7 = some (int j) →
    ∃ (ρ' : Env) (q' : Bool), iter (exec C L body16n) none f ⟨ρ, [], σ⟩ = some (.exit 2, ⟨ρ', [], σ⟩) ∧ Al16 ρ ρ' ∧ ρ'.get 6 = some (.p (.bool q'))
  | d, f, j, ρ, q, hd, hf, hjk, h3, h5, h6, h7 => by
    obtain ⟨f, rfl⟩ : ∃ m, f = m + 1 := ⟨f - 1, by omega⟩
    by_cases hs : j = k.length
    · subst hs
      obtain ⟨ρ', e, ha, g6⟩ := stop16n C L ρ σ b k h3 hb h7
      exact ⟨ρ', q, by simp only [iter, St.keep, e], ha, g6.trans h6⟩
    · obtain ⟨ρ1, q1, e, ha, g6, g7⟩ := go16n C L ρ σ b k j c q h3 hb (by omega) hk h5 h6 h7
      obtain ⟨d, rfl⟩ : ∃ m, d = m + 1 := ⟨d - 1, by omega⟩
      obtain ⟨ρ', q', e', ha', h6'⟩ := loop16n C L σ b k hb hk c d f (j + 1) ρ1 q1 (by omega) (by omega) (by omega) (ha.t3.trans h3) (ha.t5.trans h5) g6 g7
      exact ⟨ρ', q', by simp only [iter, St.keep, e]; exact e', ha.trans ha', h6'⟩
section
variable (C : Oracle) (L : Nat) (x : List Int) (ρ : Env) (σ : Heap) (b : AV) (k : List Nat) (i : Nat)
structure At16 (ρ : Env) (σ : Heap) (i : Nat) (b : AV) (k : List Nat) : Prop where
  t0 : ρ.get 0 = some (.p (.vsl (ints x) x.length))
  t3 : ρ.get 3 = some b
  t4 : ρ.get 4 = some (int i)
  bf : Buf 3 1 σ b (cols k) k.length
  le : k.length ≤ i
  lt : i ≤ 6
  in3 : ∀ c ∈ k, c < 3
theorem stop16 (h : At16 x ρ σ i b k) (hs : x.length ≤ i ∨ 6 ≤ i) : ∃ ρ' : Env, exec C L body16 ⟨ρ, [], σ⟩ = some (.exit 0, ⟨ρ', [], σ⟩) ∧ ρ'.get 3 = some b := by
  by_cases hi : (i : Int) < (x.length : Int)
  · have h6 : ¬ (i : Int) < 6 := by omega
    exact ⟨_, by simp [body16, exec, runOps, wantedA, stepOp, pureOp, allocOp, readOp, effOp, ev, evs, evO, Env.get_cons, putE, binA, intBin, unA, AV.fit, AV.toCells, partC, partP, mkCells, allP, mkAgg, Cells.len, target, h.t0, h.t4, hi, h6, lenA]; rfl, by simp [Env.get_cons, h.t3]⟩
  · exact ⟨_, by simp [body16, exec, runOps, wantedA, stepOp, pureOp, allocOp, readOp, effOp, ev, evs, evO, Env.get_cons, putE, binA, intBin, unA, AV.fit, AV.toCells, partC, partP, mkCells, allP, mkAgg, Cells.len, target, h.t0, h.t4, hi, lenA]; rfl, by simp [Env.get_cons, h.t3]⟩
/-- a column, from any number -/
def colOf (c : Int) : Nat := ((if c < 0 then -(c + 1) else c) % 3).toNat
theorem col_neg {c : Int} (hc : inR c) (h : c < 0) : IntKind.i64.wrap (-(IntKind.i64.wrap (c + 1))) = -(c + 1) := by
  unfold inR at hc
  have e1 : IntKind.i64.wrap (c + 1) = c + 1 := wrap_id _ (by omega) (by omega)
  rw [e1, wrap_id _ (by omega) (by omega)]
theorem body16_eq : body16 = n16_3_2kb := rfl
/-- what a piece leaves alone -/
structure K16 (ρ ρ' : Env) : Prop where
  t0 : ρ'.get 0 = ρ.get 0
  t3 : ρ'.get 3 = ρ.get 3
  t4 : ρ'.get 4 = ρ.get 4
theorem K16.trans {ρ1 ρ2 ρ3 : Env} (h : K16 ρ1 ρ2) (g : K16 ρ2 ρ3) : K16 ρ1 ρ3 := ⟨g.1.trans h.1, g.2.trans h.2, g.3.trans h.3⟩
theorem p16a (h : At16 x ρ σ i b k) (hi : i < x.length) (h6 : i < 6) : ∃ ρ', exec C L n16_3_2kb_1 ⟨ρ, [], σ⟩ = some (.normal, ⟨ρ', [], σ⟩) ∧ K16 ρ ρ' := by
  have hi' : (i : Int) < (x.length : Int) := by omega
  have h6' : (i : Int) < 6 := by omega
  exact ⟨_, by simp [n16_3_2kb_1, n16_3_2kb_1_1, n16_3_2kb_1_2, exec, runOps, wantedA, stepOp, pureOp, allocOp, readOp, effOp, ev, evs, evO, Env.get_cons, putE, binA, intBin, unA, AV.fit, AV.toCells, partC, partP, mkCells, allP, mkAgg, Cells.len, target, h.t0, h.t4, hi', h6', lenA]; rfl, by simp [Env.get_cons], by simp [Env.get_cons], by simp [Env.get_cons]⟩
theorem p16b (c : Int) (hx : x[i]? = some c) (h0 : ρ.get 0 = some (.p (.vsl (ints x) x.length))) (h4 : ρ.get 4 = some (int i)) : ∃ ρ', exec C L n16_3_2kb_2k_1 ⟨ρ, [], σ⟩ = some (.normal, ⟨ρ', [], σ⟩) ∧ K16 ρ ρ' ∧ ρ'.get 5 = some (int c) := by
  have hi : i < x.length := (List.getElem?_eq_some_iff.1 hx).1
  have hi' : (i : Int) < (x.length : Int) := by omega
  have ex : x[i] = c := by
    have := List.getElem?_eq_getElem hi
    rw [hx] at this
    exact (Option.some.inj this).symm
  have d1 : ((ints x).drop i).take 1 = [.int .i64 c] := by
    rw [List.drop_eq_getElem_cons (by simpa using hi)]
    simp [ex]
  exact ⟨_, by simp [n16_3_2kb_2k_1, exec, runOps, wantedA, stepOp, pureOp, allocOp, readOp, effOp, ev, evs, evO, Env.get_cons, putE, binA, intBin, unA, AV.fit, AV.toCells, partC, partP, mkCells, allP, mkAgg, Cells.len, target, evParts, fillA, AV.cells, splice, spliceC, finA, leaveA, resA, resV, ansV, idxA, h0, h4, hi', hi, d1, takeC, dropC, Cells.get?, ex]; rfl, ⟨by simp [Env.get_cons], by simp [Env.get_cons], by simp [Env.get_cons]⟩, by simp [Env.get_cons]⟩
theorem p16c (c : Int) (hc : inR c) (h5 : ρ.get 5 = some (int c)) : ∃ ρ', exec C L (.seq n16_3_2kb_2k_2 n16_3_2kb_2k_3) ⟨ρ, [], σ⟩ = some (.normal, ⟨ρ', [], σ⟩) ∧ K16 ρ ρ' ∧ ρ'.get 5 = some (int (colOf c)) := by
  by_cases h : c < 0
  · have e1 := col_neg hc h
    have hcc : ((colOf c : Nat) : Int) = (-(c + 1)) % 3 := by
      unfold colOf
      rw [if_pos h]
      omega
    have e2 : (-(c + 1)).tmod 3 = (colOf c : Int) := by rw [hcc, Int.tmod_eq_emod_of_nonneg (by omega)]
    exact ⟨_, by simp [n16_3_2kb_2k_2, n16_3_2kb_2k_2_1, n16_3_2kb_2k_2_2, n16_3_2kb_2k_3, exec, runOps, wantedA, stepOp, pureOp, allocOp, readOp, effOp, ev, evs, evO, Env.get_cons, putE, binA, intBin, unA, AV.fit, AV.toCells, partC, partP, mkCells, allP, mkAgg, Cells.len, target, h5, h, e1, e2]; rfl, ⟨by simp [Env.get_cons], by simp [Env.get_cons], by simp [Env.get_cons]⟩, by simp [Env.get_cons]⟩
  · have hcc : ((colOf c : Nat) : Int) = c % 3 := by
      unfold colOf
      rw [if_neg h]
      omega
    have e2 : c.tmod 3 = (colOf c : Int) := by rw [hcc, Int.tmod_eq_emod_of_nonneg (by omega)]
    exact ⟨_, by simp [n16_3_2kb_2k_2, n16_3_2kb_2k_2_1, n16_3_2kb_2k_2_2, n16_3_2kb_2k_3, exec, runOps, wantedA, stepOp, pureOp, allocOp, readOp, effOp, ev, evs, evO, Env.get_cons, putE, binA, intBin, unA, AV.fit, AV.toCells, partC, partP, mkCells, allP, mkAgg, Cells.len, target, h5, h, e2]; rfl, ⟨by simp [Env.get_cons], by simp [Env.get_cons], by simp [Env.get_cons]⟩, by simp [Env.get_cons]⟩
theorem colOf_lt (c : Int) : colOf c < 3 := by
  unfold colOf
  split <;> omega
theorem p16d (c : Nat) (q : Bool) (h3 : ρ.get 3 = some b) (hb : Buf 3 1 σ b (cols k) k.length) (hk : k.length ≤ 6) (h5 : ρ.get 5 = some (int c)) (h6 : ρ.get 6 = some (.p (.bool q))) :
    ∃ ρ' σ' b' k', exec C L (.seq n16_3_2kb_2k_6 n16_3_2kb_2k_7) ⟨ρ, [], σ⟩ = some (.normal, ⟨ρ', [], σ'⟩) ∧ ρ'.get 0 = ρ.get 0 ∧ ρ'.get 4 = ρ.get 4 ∧ ρ'.get 3 = some b' ∧ Buf 3 1 σ' b' (cols k') k'.length ∧ k'.length ≤ k.length + 1 ∧ (∀ u ∈ k', u ∈ k ∨ u = c) := by
  cases q with
  | true => exact ⟨_, σ, b, k, by simp [n16_3_2kb_2k_6, n16_3_2kb_2k_7, exec, runOps, wantedA, stepOp, pureOp, allocOp, readOp, effOp, ev, evs, evO, Env.get_cons, putE, binA, intBin, unA, AV.fit, AV.toCells, partC, partP, mkCells, allP, mkAgg, Cells.len, target, h6]; rfl, by simp [Env.get_cons], by simp [Env.get_cons], by simp [Env.get_cons, h3], hb, by omega, fun u hu => .inl hu⟩
  | false =>
    have hL : LIM = 4294967296 := rfl
    obtain ⟨b2, σ2, hA, hb2, _, _⟩ := (hb.push [.arr (.pv [.int .i64 (c : Int)]) 0 0 none]).app [.int .i64 (c : Int)] rfl (by omega)
    refine ⟨_, σ2, b2, k ++ [c], by simp [n16_3_2kb_2k_6, n16_3_2kb_2k_7, exec, runOps, wantedA, stepOp, pureOp, allocOp, readOp, effOp, ev, evs, evO, Env.get_cons, putE, binA, intBin, unA, AV.fit, AV.toCells, partC, partP, mkCells, allP, mkAgg, Cells.len, target, evParts, fillA, AV.cells, splice, spliceC, finA, leaveA, resA, resV, ansV, repCells, elemsA, takeC, dropC, h6, h3, h5, hA]; rfl, by simp [Env.get_cons], by simp [Env.get_cons], by simp [Env.get_cons], by simpa [cols] using hb2, by simp, fun u hu => by simpa using hu⟩
theorem go16 (h : At16 x ρ σ i b k) (c : Int) (hx : x[i]? = some c) (hc : inR c) (h6 : i < 6) (hL : 7 < L) :
    ∃ (ρ' : Env) (σ' : Heap) (b' : AV) (k' : List Nat), exec C L body16 ⟨ρ, [], σ⟩ = some (.normal, ⟨ρ', [], σ'⟩) ∧ At16 x ρ' σ' (i + 1) b' k' := by
  have hi : i < x.length := (List.getElem?_eq_some_iff.1 hx).1
  have e1 : IntKind.i64.wrap ((i : Int) + 1) = (i : Int) + 1 := wrap_id _ (by omega) (by omega)
  obtain ⟨ρ1, r1, k1⟩ := p16a C L x ρ σ b k i h hi h6
  obtain ⟨ρ2, r2, k2, g5⟩ := p16b C L x ρ1 σ i c hx (k1.t0.trans h.t0) (k1.t4.trans h.t4)
  obtain ⟨ρ3, r3, k3, g5⟩ := p16c C L ρ2 σ c hc g5
  have k123 := (k1.trans k2).trans k3
  have hk : k.length ≤ 6 := Nat.le_trans h.le h.lt
  obtain ⟨ρ4, q, r4, k4, g6⟩ := loop16n C L σ b k h.bf hk (colOf c) k.length L 0 ((7, int 0) :: (6, .p (.bool false)) :: ρ3) false (by omega) (by omega) (by omega) (by simp [Env.get_cons, k123.t3, h.t3]) (by simp [Env.get_cons, g5]) rfl rfl
  obtain ⟨ρ5, σ5, b5, k5, r5, a0, a4, a3, hb5, hl5, hm5⟩ := p16d C L ρ4 σ b k (colOf c) q (k4.t3.trans (by simp [Env.get_cons, k123.t3, h.t3])) h.bf hk (k4.t5.trans (by simp [Env.get_cons, g5])) g6
  have a4 : ρ5.get 4 = some (int i) := a4.trans (k4.t4.trans (by simp [Env.get_cons, k123.t4, h.t4]))
  have a0 : ρ5.get 0 = some (.p (.vsl (ints x) x.length)) := a0.trans (k4.t0.trans (by simp [Env.get_cons, k123.t0, h.t0]))
  have r45 : exec C L (.seq n16_3_2kb_2k_4 (.seq n16_3_2kb_2k_5 (.seq n16_3_2kb_2k_6 n16_3_2kb_2k_7))) ⟨ρ3, [], σ⟩ = some (.normal, ⟨ρ5, [], σ5⟩) := by
    rw [seqN (a := n16_3_2kb_2k_4) (by simp [n16_3_2kb_2k_4, exec, runOps, wantedA, stepOp, pureOp, allocOp, readOp, effOp, ev, evs, evO, Env.get_cons, putE, binA, intBin, unA, AV.fit, AV.toCells, partC, partP, mkCells, allP, mkAgg, Cells.len, target]; rfl)]
    have e : exec C L n16_3_2kb_2k_5 ⟨(6, .p (.bool false)) :: ρ3, [], σ⟩ = some (.normal, ⟨ρ4, [], σ⟩) := by
      unfold n16_3_2kb_2k_5
      rw [seqN (a := n16_3_2kb_2k_5_1) (by simp [n16_3_2kb_2k_5_1, exec, runOps, wantedA, stepOp, pureOp, allocOp, readOp, effOp, ev, evs, evO, Env.get_cons, putE, binA, intBin, unA, AV.fit, AV.toCells, partC, partP, mkCells, allP, mkAgg, Cells.len, target]; rfl)]
      have r4' : iter (exec C L n16_3_2kb_2k_5_2kb) none L ⟨(7, int 0) :: (6, .p (.bool false)) :: ρ3, [], σ⟩ = some (.exit 2, ⟨ρ4, [], σ⟩) := r4
      simp only [n16_3_2kb_2k_5_2, n16_3_2kb_2k_5_2k, exec, r4', if_true]
    rw [seqN e, r5]
  have r35 : exec C L n16_3_2kb_2k ⟨ρ1, [], σ⟩ = some (.normal, ⟨ρ5, [], σ5⟩) := by
    unfold n16_3_2kb_2k
    rw [seqN r2]
    have : ∀ a b c st, exec C L (.seq a (.seq b c)) st = exec C L (.seq (.seq a b) c) st := by
      intro a b c st
      simp only [exec]
      cases exec C L a st with
      | none => rfl
      | some r =>
        obtain ⟨e, s⟩ := r
        cases e <;> rfl
    rw [this, seqN r3, r45]
  refine ⟨(4, int (i + 1)) :: (17, int (i + 1)) :: (16, int i) :: ρ5, σ5, b5, k5, ?_, ⟨by simp [Env.get_cons, a0], by simp [Env.get_cons, a3], by simp [Env.get_cons], hb5, by have := h.le; omega, by omega, fun u hu => ?_⟩⟩
  · rw [body16_eq]
    unfold n16_3_2kb
    rw [seqN r1, seqN (a := n16_3_2kb_2) (by unfold n16_3_2kb_2; exact blockN r35)]
    simp [n16_3_2kb_3, exec, runOps, wantedA, stepOp, pureOp, allocOp, readOp, effOp, ev, evs, evO, Env.get_cons, putE, binA, intBin, unA, AV.fit, AV.toCells, partC, partP, mkCells, allP, mkAgg, Cells.len, target, a4, e1]
  · rcases hm5 u hu with hu | rfl
    · exact h.in3 u hu
    · exact colOf_lt c
end
theorem loop16 (C : Oracle) (L : Nat) (x : List Int) (hx : ∀ c ∈ x, inR c) (hL : 7 < L) : ∀ (d f i : Nat) (ρ : Env) (σ : Heap) (b : AV) (k : List Nat), 6 - i ≤ d → d < f → At16 x ρ σ i b k →
    ∃ (ρ' : Env) (σ' : Heap) (b' : AV) (k' : List Nat), iter (exec C L body16) none f ⟨ρ, [], σ⟩ = some (.exit 0, ⟨ρ', [], σ'⟩) ∧ ρ'.get 3 = some b' ∧ Buf 3 1 σ' b' (cols k') k'.length ∧ k'.length ≤ 6 ∧ (∀ c ∈ k', c < 3)
  | d, f, i, ρ, σ, b, k, hd, hf, h => by
    obtain ⟨f, rfl⟩ : ∃ m, f = m + 1 := ⟨f - 1, by omega⟩
    by_cases hs : x.length ≤ i ∨ 6 ≤ i
    · obtain ⟨ρ', e, g3⟩ := stop16 C L x ρ σ b k i h hs
      exact ⟨ρ', σ, b, k, by simp only [iter, St.keep, e], g3, h.bf, Nat.le_trans h.le h.lt, h.in3⟩
    · have hi : i < x.length := by omega
      obtain ⟨ρ1, σ1, b1, k1, e, h1⟩ := go16 C L x ρ σ b k i h x[i] (List.getElem?_eq_getElem hi) (hx _ (List.getElem_mem hi)) (by omega) hL
      obtain ⟨d, rfl⟩ : ∃ m, d = m + 1 := ⟨d - 1, by omega⟩
      obtain ⟨ρ', σ', b', k', e', q⟩ := loop16 C L x hx hL d f (i + 1) ρ1 σ1 b1 k1 (by omega) (by omega) h1
      exact ⟨ρ', σ', b', k', by simp only [iter, St.keep, e]; exact e', q⟩
/-- the law's keys: some columns -/
theorem keys16 {T : Table} {L n : Nat} (hT : T 16 = some (.ans lit16)) (hL : 7 < L) (x : List Int) (hx : ∀ c ∈ x, inR c) :
    ∃ k : List Nat, k.length ≤ 6 ∧ (∀ c ∈ k, c < 3) ∧ ∀ σ, (cAt T L (n + 1)).1 16 [.p (.vsl (ints x) x.length)] σ = some (.ret (.p (.vsl (cols k) k.length)), σ) := by
  have key : ∃ (k : List Nat) (b : AV) (σ1 σ2 : Heap), k.length ≤ 6 ∧ (∀ c ∈ k, c < 3) ∧ runFunc (cAt T L n).1 (cAt T L n).2 L lit16 [.p (.vsl (ints x) x.length)] [] = some (.ret b, σ1) ∧ frz (List.range σ1.length) 9 σ1 b = some (.vsl (cols k) k.length, σ2) := by
    generalize (cAt T L n).1 = C
    generalize (cAt T L n).2 = D
    obtain ⟨ρ', σ', b', k', e, g3, hb, hk, hm⟩ := loop16 C L x hx hL 6 L 0 [(4, int 0), (3, .nil0), (2, .nil0), (0, .p (.vsl (ints x) x.length))] [] .nil0 [] (by omega) (by omega) ⟨rfl, rfl, rfl, .nil, by simp, by omega, by simp⟩
    have e3 : exec C L n16_3 ⟨[(3, .nil0), (2, .nil0), (0, .p (.vsl (ints x) x.length))], [], []⟩ = some (.normal, ⟨ρ', [], σ'⟩) := by
      unfold n16_3
      rw [seqN (a := n16_3_1) (by simp [n16_3_1, exec, runOps, wantedA, stepOp, pureOp, allocOp, readOp, effOp, ev, evs, evO, Env.get_cons, putE, binA, intBin, unA, AV.fit, AV.toCells, partC, partP, mkCells, allP, mkAgg, Cells.len, target]; rfl)]
      have e' : iter (exec C L n16_3_2kb) none L ⟨[(4, int 0), (3, .nil0), (2, .nil0), (0, .p (.vsl (ints x) x.length))], [], []⟩ = some (.exit 0, ⟨ρ', [], σ'⟩) := e
      simp only [n16_3_2, n16_3_2k, exec, e', if_true]
    have hlen := hb.len
    by_cases h0 : k' = []
    · subst h0
      obtain rfl : b' = .nil0 := by
        rcases hb.2 with ⟨h, _⟩ | ⟨h, _⟩
        · exact h
        · exact absurd rfl h
      refine ⟨[0], .sl σ'.length 0 0 1 1, σ' ++ [Obj.arr (.pv [.int .i64 0]) 0 0 none], (σ' ++ [Obj.arr (.pv [.int .i64 0]) 0 0 none]).set σ'.length (Obj.arr (.pv [.int .i64 0]) 0 1 none), by simp, by simp, ?_, ?_⟩
      · rw [runFunc_eq, lit16_tree]
        unfold n16
        rw [seqN (a := n16_1) (by simp [n16_1, params, exec, runOps, wantedA, stepOp, pureOp, allocOp, readOp, effOp, ev, evs, evO, Env.get_cons, putE, binA, intBin, unA, AV.fit, AV.toCells, partC, partP, mkCells, allP, mkAgg, Cells.len, target]; rfl), seqN (a := n16_2) (by simp [n16_2, exec, runOps, wantedA, stepOp, pureOp, allocOp, readOp, effOp, ev, evs, evO, Env.get_cons, putE, binA, intBin, unA, AV.fit, AV.toCells, partC, partP, mkCells, allP, mkAgg, Cells.len, target]; rfl), seqN e3]
        simp [n16_4, n16_4_1, n16_4_2, n16_5, exec, runOps, wantedA, stepOp, pureOp, allocOp, readOp, effOp, ev, evs, evO, Env.get_cons, putE, binA, intBin, unA, AV.fit, AV.toCells, partC, partP, mkCells, allP, mkAgg, Cells.len, target, evParts, fillA, AV.cells, splice, spliceC, finA, leaveA, resA, resV, ansV, finX, mixed, lit16, g3, lenA, repCells]
      · simp [frz, Cells.len]
    · have h0' : ((k'.length : Int) == 0) = false := by
        rw [beq_eq_false_iff_ne]
        intro h
        exact h0 (List.eq_nil_of_length_eq_zero (by omega))
      obtain ⟨σ2, hz, _⟩ := hb.frz (d := 8)
      refine ⟨k', b', σ', σ2, hk, hm, ?_, hz⟩
      obtain ⟨_, id, ver, rfl, _⟩ := hb.2.resolve_left (by rintro ⟨_, h⟩; exact h0 (List.eq_nil_of_length_eq_zero h))
      rw [runFunc_eq, lit16_tree]
      unfold n16
      rw [seqN (a := n16_1) (by simp [n16_1, params, exec, runOps, wantedA, stepOp, pureOp, allocOp, readOp, effOp, ev, evs, evO, Env.get_cons, putE, binA, intBin, unA, AV.fit, AV.toCells, partC, partP, mkCells, allP, mkAgg, Cells.len, target]; rfl), seqN (a := n16_2) (by simp [n16_2, exec, runOps, wantedA, stepOp, pureOp, allocOp, readOp, effOp, ev, evs, evO, Env.get_cons, putE, binA, intBin, unA, AV.fit, AV.toCells, partC, partP, mkCells, allP, mkAgg, Cells.len, target]; rfl), seqN e3]
      simp [n16_4, n16_4_1, n16_4_2, n16_5, exec, runOps, wantedA, stepOp, pureOp, allocOp, readOp, effOp, ev, evs, evO, Env.get_cons, putE, binA, intBin, unA, AV.fit, AV.toCells, partC, partP, mkCells, allP, mkAgg, Cells.len, target, evParts, fillA, AV.cells, splice, spliceC, finA, leaveA, resA, resV, ansV, finX, mixed, lit16, g3, lenA, h0', h0]
  obtain ⟨k, b, σ1, σ2, hk, hm, hr, hz⟩ := key
  exact ⟨k, hk, hm, fun σ => call_frz (ps := [.vsl (ints x) x.length]) hT (by rfl) hr hz σ⟩
end Go.Ab.Turn
