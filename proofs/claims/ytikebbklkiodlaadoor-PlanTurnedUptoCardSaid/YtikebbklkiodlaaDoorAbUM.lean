/- PlanTurned: which clause says first what a column is: the loop. -/
import Derived.Test.YtikebbklkiodlaaDoorAbUJ
set_option linter.unusedSectionVars false
set_option linter.unusedSimpArgs false
set_option linter.unusedVariables false
set_option maxRecDepth 1000000
namespace Go.Ab.Turn
open Go Go.Ab Go.Ab.Plan Go.Ab.Key Go.Ab.Cnt Go.Proofs
variable [Marks]
section
variable {C : Oracle} {L : Nat} {l : List Cl} {b : AV} {c col : Nat}
theorem go24 {ρ : Env} {i : Nat} (h : At24 l b c ρ i) (σ : Heap) (hb : Sl6 σ b l) (x : Cl) (hx : l[i]? = some x) (hl : l.length ≤ LIM)
    (hC : C 25 [.p (.agg (clC x)), .ptr c 0 0] σ = some (.ret (.p (.bool (isEqC col x))), σ ++ [.arr (.pv (clC x)) 0 0 none])) :
    (isEqC col x = true ∧ ∃ ρ', exec C L n24_2_2kb ⟨ρ, [], σ⟩ = some (.ret, ⟨ρ', [], σ ++ [.arr (.pv (clC x)) 0 0 none]⟩) ∧ ρ'.get 4 = some (int i)) ∨
    (isEqC col x = false ∧ ∃ ρ', exec C L n24_2_2kb ⟨ρ, [], σ⟩ = some (.normal, ⟨ρ', [], σ ++ [.arr (.pv (clC x)) 0 0 none]⟩) ∧ At24 l b c ρ' (i + 1)) := by
  have hi : i < l.length := (List.getElem?_eq_some_iff.1 hx).1
  have hL : LIM = 4294967296 := rfl
  have hi' : (i : Int) < (l.length : Int) := by omega
  have d1 := clsC_at l i x hx
  have d3 : i * 6 + 6 ≤ (clsC l).length := by rw [clsC_len]; omega
  have d4 : (i + 1) * 6 ≤ (clsC l).length := by rw [clsC_len]; omega
  have e1 : IntKind.i64.wrap ((i : Int) + 1) = (i : Int) + 1 := wrap_id _ (by omega) (by omega)
  obtain ⟨id, ver, wm, ty, rfl, ho⟩ := hb.resolve_left (by rintro ⟨_, h⟩; rw [h] at hi; simp at hi)
  cases hq : isEqC col x with
  | true =>
    rw [hq] at hC
    generalize clC x = cx at hC d1 ⊢
    generalize clsC l = cl at ho d1 d3 d4
    exact .inl ⟨rfl, _, by simp [n24_2_2kb, n24_2_2kb_1, n24_2_2kb_2, n24_2_2kb_3, n24_2_2kb_3k, n24_2_2kb_3k_1, n24_2_2kb_3k_2, n24_2_2kb_3k_3, exec, runOps, wantedA, stepOp, pureOp, allocOp, readOp, effOp, ev, evs, evO, Env.get_cons, putE, binA, intBin, unA, AV.fit, AV.toCells, partC, partP, mkCells, allP, mkAgg, Cells.len, target, evParts, fillA, AV.cells, splice, spliceC, finA, leaveA, resA, resV, ansV, idxA, h.t0, h.t1, h.t7, h.t8, hi, hi', ho, d1, d3, d4, hC]; rfl, by simp [Env.get_cons]⟩
  | false =>
    rw [hq] at hC
    generalize clC x = cx at hC d1 ⊢
    generalize clsC l = cl at ho d1 d3 d4
    exact .inr ⟨rfl, _, by simp [n24_2_2kb, n24_2_2kb_1, n24_2_2kb_2, n24_2_2kb_3, n24_2_2kb_3k, n24_2_2kb_3k_1, n24_2_2kb_3k_2, n24_2_2kb_3k_3, n24_2_2kb_4, exec, runOps, wantedA, stepOp, pureOp, allocOp, readOp, effOp, ev, evs, evO, Env.get_cons, putE, binA, intBin, unA, AV.fit, AV.toCells, partC, partP, mkCells, allP, mkAgg, Cells.len, target, evParts, fillA, AV.cells, splice, spliceC, finA, leaveA, resA, resV, ansV, idxA, h.t0, h.t1, h.t7, h.t8, hi, hi', ho, d1, d3, d4, hC, e1]; rfl, ⟨by simp [Env.get_cons, h.t0], by simp [Env.get_cons, h.t1], by simp [Env.get_cons, h.t7], by simp [Env.get_cons]⟩⟩
end
theorem seq3 {C : Oracle} {L : Nat} {a b c d : ACode} {st : St} : exec C L (.seq a (.seq (.seq b c) d)) st = exec C L (.seq (.seq a b) (.seq c d)) st := by
  rw [← seq_assoc]
  simp only [exec]
  cases exec C L a st with
  | none => rfl
  | some r =>
    obtain ⟨e, s⟩ := r
    cases e <;> try rfl
    simp only
    cases exec C L b s with
    | none => rfl
    | some r =>
      obtain ⟨e, s⟩ := r
      cases e <;> rfl
/-- what IndexFunc says -/
def Found (l : List Cl) (col : Nat) (r : Int) : Prop := (r = -1 ∧ l.find? (isEqC col) = none) ∨ ∃ (j : Nat) (x : Cl), r = j ∧ l[j]? = some x ∧ l.find? (isEqC col) = some x
theorem loop24 {Tb : Table} {L n : Nat} (h25 : Tb 25 = some (.raw lit25)) {l : List Cl} {b : AV} {c col : Nat} (hl : l.length ≤ LIM) : ∀ (d f i : Nat) (ρ : Env) (σ : Heap), l.length - i ≤ d → d < f → i ≤ l.length → At24 l b c ρ i → Sl6 σ b l →
    σ[c]? = some (.arr (.pv [.int .i64 (col : Int)]) 0 0 (some 3)) → l.find? (isEqC col) = (l.drop i).find? (isEqC col) →
    ∃ ρ' τ ex, iter (exec (cAt Tb L (n + 1)).1 L n24_2_2kb) none f ⟨ρ, [], σ⟩ = some (ex, ⟨ρ', [], σ ++ τ⟩) ∧ ((ex = .exit 0 ∧ l.find? (isEqC col) = none) ∨ (ex = .ret ∧ ∃ (j : Nat) (x : Cl), ρ'.get 4 = some (int j) ∧ l[j]? = some x ∧ l.find? (isEqC col) = some x))
  | d, f, i, ρ, σ, hd, hf, hi, h, hb, hc, hfi => by
    obtain ⟨f, rfl⟩ : ∃ m, f = m + 1 := ⟨f - 1, by omega⟩
    by_cases hs : i = l.length
    · subst hs
      obtain ⟨ρ', e⟩ := stop24 (C := (cAt Tb L (n + 1)).1) (L := L) h σ
      exact ⟨ρ', [], .exit 0, by simp only [iter, St.keep, e, List.append_nil], .inl ⟨rfl, by rw [hfi, List.drop_length]; rfl⟩⟩
    · have hi' : i < l.length := by omega
      have hx : l[i]? = some l[i] := List.getElem?_eq_getElem hi'
      have hdr : l.drop i = l[i] :: l.drop (i + 1) := List.drop_eq_getElem_cons hi'
      rw [hdr] at hfi
      rcases go24 (C := (cAt Tb L (n + 1)).1) (L := L) (col := col) h σ hb l[i] hx hl (run25 h25 l[i] c col σ hc) with ⟨hq, ρ', e, g4⟩ | ⟨hq, ρ', e, g⟩
      · exact ⟨ρ', [.arr (.pv (clC l[i])) 0 0 none], .ret, by simp only [iter, St.keep, e], .inr ⟨rfl, i, l[i], g4, hx, by rw [hfi, List.find?_cons, hq]⟩⟩
      · obtain ⟨d, rfl⟩ : ∃ m, d = m + 1 := ⟨d - 1, by omega⟩
        have hc' : (σ ++ [Obj.arr (.pv (clC l[i])) 0 0 none])[c]? = some (.arr (.pv [.int .i64 (col : Int)]) 0 0 (some 3)) := by
          rw [List.getElem?_append_left (List.getElem?_eq_some_iff.1 hc).1]; exact hc
        obtain ⟨ρ2, τ, ex, e2, q⟩ := loop24 h25 hl d f (i + 1) ρ' _ (by omega) (by omega) (by omega) g (hb.push _) hc' (by rw [hfi, List.find?_cons, hq])
        exact ⟨ρ2, _, ex, by simp only [iter, St.keep, e]; rw [e2, List.append_assoc], q⟩
theorem index24 {Tb : Table} {L n : Nat} (h24 : Tb 24 = some (.raw lit24)) (h25 : Tb 25 = some (.raw lit25)) {l : List Cl} {b : AV} {c col : Nat} (hl : l.length ≤ LIM) (hL : l.length < L) (σ : Heap) (hb : Sl6 σ b l)
    (hc : σ[c]? = some (.arr (.pv [.int .i64 (col : Int)]) 0 0 (some 3))) : ∃ r τ, (cAt Tb L (n + 2)).1 24 [b, .clo 25 [] [.ptr c 0 0]] σ = some (.ret (int r), σ ++ τ) ∧ Found l col r := by
  have hf : fits lit24 [b, .clo 25 [] [.ptr c 0 0]] = true := by rfl
  have hrun : (cAt Tb L (n + 2)).1 24 [b, .clo 25 [] [.ptr c 0 0]] σ = runFunc (cAt Tb L (n + 1)).1 (cAt Tb L (n + 1)).2 L lit24 [b, .clo 25 [] [.ptr c 0 0]] σ := by simp only [cAt, callT, h24, runCode, hf]
  have hlen := hb.len
  have hns : ∀ s, b ≠ .p (.str s) := fun s => by rcases hb with ⟨rfl, _⟩ | ⟨_, _, _, _, rfl, _⟩ <;> simp
  obtain ⟨ρ1, e1, g1⟩ : ∃ ρ1, exec (cAt Tb L (n + 1)).1 L (.seq n24_1 n24_2_1) ⟨params 0 [b, .clo 25 [] [.ptr c 0 0]], [], σ⟩ = some (.normal, ⟨ρ1, [], σ⟩) ∧ At24 l b c ρ1 0 := by
    rcases hb with ⟨rfl, rfl⟩ | ⟨id, ver, wm, ty, rfl, _⟩
    · exact ⟨_, by simp [n24_1, n24_2_1, params, exec, runOps, wantedA, stepOp, pureOp, allocOp, readOp, effOp, ev, evs, evO, Env.get_cons, putE, binA, intBin, unA, AV.fit, AV.toCells, partC, partP, mkCells, allP, mkAgg, Cells.len, target, lenA]; rfl, ⟨rfl, rfl, rfl, rfl⟩⟩
    · exact ⟨_, by simp [n24_1, n24_2_1, params, exec, runOps, wantedA, stepOp, pureOp, allocOp, readOp, effOp, ev, evs, evO, Env.get_cons, putE, binA, intBin, unA, AV.fit, AV.toCells, partC, partP, mkCells, allP, mkAgg, Cells.len, target, lenA]; rfl, ⟨rfl, rfl, rfl, rfl⟩⟩
  obtain ⟨ρ2, τ, ex, e2, hq⟩ := loop24 (n := n) (L := L) h25 hl l.length L 0 ρ1 σ (by omega) hL (by omega) g1 hb hc (by simp)
  rw [hrun, runFunc_eq, lit24_tree]
  unfold n24 n24_2
  rw [seq3, seqN e1]
  rcases hq with ⟨rfl, hn⟩ | ⟨rfl, j, x, g4, hx, hfd⟩
  · have e3 : exec (cAt Tb L (n + 1)).1 L n24_2_2 ⟨ρ1, [], σ⟩ = some (.normal, ⟨ρ2, [], σ ++ τ⟩) := by
      unfold n24_2_2 n24_2_2k
      exact blockX (by simp only [exec]; exact e2)
    rw [seqN e3]
    exact ⟨-1, τ, by simp [n24_3, exec, runOps, wantedA, stepOp, pureOp, allocOp, readOp, effOp, ev, evs, evO, Env.get_cons, putE, binA, intBin, unA, AV.fit, AV.toCells, partC, partP, mkCells, allP, mkAgg, Cells.len, target, evParts, fillA, AV.cells, splice, spliceC, finA, leaveA, resA, resV, ansV, finX, mixed, lit24], .inl ⟨rfl, hn⟩⟩
  · have e3 : exec (cAt Tb L (n + 1)).1 L n24_2_2 ⟨ρ1, [], σ⟩ = some (.ret, ⟨ρ2, [], σ ++ τ⟩) := by
      unfold n24_2_2 n24_2_2k
      exact blockR (by simp only [exec]; exact e2)
    rw [seqR e3]
    exact ⟨j, τ, by simp [finX, finA, mixed, leaveA, lit24, resA, resV, g4], .inr ⟨j, x, rfl, hx, hfd⟩⟩
end Go.Ab.Turn

/- PlanTurned: the values that stand fast ahead. -/
set_option maxRecDepth 1000000
namespace Go.Ab.Turn
open Go Go.Ab Go.Ab.Plan Go.Ab.Key Go.Ab.Cnt Go.Proofs
variable [Marks]
abbrev path0 : List PV := [.bool false, .str [], .str [], .bool false]
abbrev litsV (F : List Lit) : List PV := vcs (F.map litV)
/-- Path's state, when the clauses are gathered -/
structure StF (k : List Nat) (ls : List Cl) (b : AV) (mk : Nat) (ρ : Env) (σ : Heap) (f : AV) (F : List Lit) : Prop where
  t6 : ρ.get 6 = some (.ptr 2 0 0)
  t7 : ρ.get 7 = some (.ptr 3 0 0)
  t11 : ρ.get 11 = some (.p (.vsl (cols k) k.length))
  t12 : ρ.get 12 = some f
  o2 : σ[2]? = some (.arr (.pv path0) 0 0 (some 23))
  o3 : σ[3]? = some (.arr (.av [b]) 0 0 (some 67))
  sl : Sl6 σ b ls
  bf : Buf 73 4 σ f (litsV F) F.length
  ob : ∀ j ∈ own f, 4 ≤ j ∧ j ∉ own b ∧ j ≠ mk
  om : σ[mk]? = some .mark
  m4 : 4 ≤ mk
structure AtF (k : List Nat) (ρ : Env) (i : Nat) : Prop where
  t49 : ρ.get 49 = some (.p (.vsl (cols k) k.length))
  t50 : ρ.get 50 = some (int k.length)
  t51 : ρ.get 51 = some (int i)
theorem Sl6.same {σ σ' : Heap} {b : AV} {l : List Cl} (h : Sl6 σ b l) (he : ∀ j ∈ own b, σ'[j]? = σ[j]?) : Sl6 σ' b l := by
  rcases h with h | ⟨id, ver, wm, ty, rfl, ho⟩
  · exact .inl h
  · exact .inr ⟨id, ver, wm, ty, rfl, by rw [he id (by simp [own])]; exact ho⟩
theorem Sl6.lt {σ : Heap} {b : AV} {l : List Cl} (h : Sl6 σ b l) {j : Nat} (hj : j ∈ own b) : j < σ.length := by
  rcases h with ⟨rfl, _⟩ | ⟨id, ver, wm, ty, rfl, ho⟩
  · cases hj
  · simp [own] at hj
    subst hj
    exact (List.getElem?_eq_some_iff.1 ho).1
theorem StF.push {k : List Nat} {ls : List Cl} {b : AV} {mk : Nat} {ρ ρ' : Env} {σ : Heap} {f : AV} {F : List Lit} (h : StF k ls b mk ρ σ f F) (τ : Heap) (h6 : ρ'.get 6 = ρ.get 6) (h7 : ρ'.get 7 = ρ.get 7) (h11 : ρ'.get 11 = ρ.get 11) (h12 : ρ'.get 12 = ρ.get 12) : StF k ls b mk ρ' (σ ++ τ) f F := by
  have h3l : 3 < σ.length := (List.getElem?_eq_some_iff.1 h.o3).1
  have hml : mk < σ.length := (List.getElem?_eq_some_iff.1 h.om).1
  exact ⟨h6.trans h.t6, h7.trans h.t7, h11.trans h.t11, h12.trans h.t12, by rw [List.getElem?_append_left (by omega)]; exact h.o2, by rw [List.getElem?_append_left h3l]; exact h.o3, h.sl.push τ, h.bf.push τ, h.ob, by rw [List.getElem?_append_left hml]; exact h.om, h.m4⟩
theorem seq_assoc_in {C : Oracle} {L id : Nat} {b c d e : ACode} {st : St} : exec C L (.seq (.block id (.seq b (.seq c d))) e) st = exec C L (.seq (.block id (.seq (.seq b c) d)) e) st := by
  have h := fun st => seq_assoc (C := C) (L := L) (a := b) (b := c) (c := d) (st := st)
  simp only [exec] at h ⊢
  rw [h]
section
variable {C : Oracle} {L : Nat} {k : List Nat} {ls : List Cl} {b f : AV} {mk i : Nat} {ρ : Env} {σ : Heap} {F : List Lit} {ds : List (Nat × List AV)}
theorem stopF (a : AtF k ρ k.length) (h : StF k ls b mk ρ σ f F) : ∃ ρ', exec C L n17_7_2kb ⟨ρ, ds, σ⟩ = some (.exit 2, ⟨ρ', ds, σ⟩) ∧ StF k ls b mk ρ' σ f F := by
  obtain ⟨ρ', e, q⟩ : ∃ ρ', exec C L n17_7_2kb ⟨ρ, ds, σ⟩ = some (.exit 2, ⟨ρ', ds, σ⟩) ∧ StF k ls b mk ρ' (σ ++ []) f F :=
    ⟨_, by simp [n17_7_2kb, n17_7_2kb_1, n17_7_2kb_2, exec, runOps, wantedA, stepOp, pureOp, allocOp, readOp, effOp, ev, evs, evO, Env.get_cons, putE, binA, intBin, unA, AV.fit, AV.toCells, partC, partP, mkCells, allP, mkAgg, Cells.len, target, a.t50, a.t51]; rfl, h.push [] (by simp [Env.get_cons]) (by simp [Env.get_cons]) (by simp [Env.get_cons]) (by simp [Env.get_cons])⟩
  rw [List.append_nil] at q
  exact ⟨ρ', e, q⟩
theorem goF (a : AtF k ρ i) (h : StF k ls b mk ρ σ f F) (col : Nat) (hc : k[i]? = some col) (hk : k.length ≤ 6) (hls : ls.length ≤ LIM) (hF : F.length ≤ i)
    (hC : ∀ σ c, Sl6 σ b ls → σ[c]? = some (.arr (.pv [.int .i64 (col : Int)]) 0 0 (some 3)) → ∃ r τ, C 24 [b, .clo 25 [] [.ptr c 0 0]] σ = some (.ret (int r), σ ++ τ) ∧ Found ls col r) :
    (ls.find? (isEqC col) = none ∧ ∃ ρ' σ', exec C L n17_7_2kb ⟨ρ, ds, σ⟩ = some (.exit 2, ⟨ρ', ds, σ'⟩) ∧ StF k ls b mk ρ' σ' f F) ∨
    (∃ x, ls.find? (isEqC col) = some x ∧ ∃ ρ' σ' f', exec C L n17_7_2kb ⟨ρ, ds, σ⟩ = some (.normal, ⟨ρ', ds, σ'⟩) ∧ AtF k ρ' (i + 1) ∧ StF k ls b mk ρ' σ' f' (F ++ [x.v])) := by
  have hi : i < k.length := (List.getElem?_eq_some_iff.1 hc).1
  have hi' : (i : Int) < (k.length : Int) := by omega
  have hLM : LIM = 4294967296 := rfl
  have h3l : 3 < σ.length := (List.getElem?_eq_some_iff.1 h.o3).1
  have hml : mk < σ.length := (List.getElem?_eq_some_iff.1 h.om).1
  have e1 : IntKind.i64.wrap ((i : Int) + 1) = (i : Int) + 1 := wrap_id _ (by omega) (by omega)
  have ex : k[i] = col := by
    have := List.getElem?_eq_getElem hi
    rw [hc] at this
    exact (Option.some.inj this).symm
  have d1 : ((cols k).drop i).take 1 = [.int .i64 (col : Int)] := by
    rw [List.drop_eq_getElem_cons (by simpa using hi)]
    simp [ex]
  have o3' : ∀ τ : Heap, (σ ++ τ)[3]? = some (.arr (.av [b]) 0 0 (some 67)) := fun τ => by rw [List.getElem?_append_left h3l]; exact h.o3
  obtain ⟨r, τ, hr, hfd⟩ := hC (σ ++ [.arr (.pv [.int .i64 (col : Int)]) 0 0 (some 3)]) σ.length (h.sl.push _) (by simp)
  obtain ⟨ρ1, r1, q6, q7, q11, q12, q15, q49, q50, q51⟩ : ∃ ρ1, exec C L (.seq (.seq n17_7_2kb_1 n17_7_2kb_2) (.seq n17_7_2kb_3k_1 n17_7_2kb_3k_2)) ⟨ρ, ds, σ⟩ = some (.normal, ⟨ρ1, ds, σ ++ (.arr (.pv [.int .i64 (col : Int)]) 0 0 (some 3) :: τ)⟩) ∧
      ρ1.get 6 = ρ.get 6 ∧ ρ1.get 7 = ρ.get 7 ∧ ρ1.get 11 = ρ.get 11 ∧ ρ1.get 12 = ρ.get 12 ∧ ρ1.get 15 = some (int r) ∧ ρ1.get 49 = ρ.get 49 ∧ ρ1.get 50 = ρ.get 50 ∧ ρ1.get 51 = ρ.get 51 :=
    ⟨_, by simp [n17_7_2kb_1, n17_7_2kb_2, n17_7_2kb_3k_1, n17_7_2kb_3k_2, exec, runOps, wantedA, stepOp, pureOp, allocOp, readOp, effOp, ev, evs, evO, Env.get_cons, putE, binA, intBin, unA, AV.fit, AV.toCells, partC, partP, mkCells, allP, mkAgg, Cells.len, target, evParts, fillA, AV.cells, splice, spliceC, finA, leaveA, resA, resV, ansV, idxA, takeC, dropC, Cells.get?, Cells.toList, a.t49, a.t50, a.t51, h.t7, hi, hi', ex, o3', hr]; rfl, by simp [Env.get_cons], by simp [Env.get_cons], by simp [Env.get_cons], by simp [Env.get_cons], by simp [Env.get_cons], by simp [Env.get_cons], by simp [Env.get_cons], by simp [Env.get_cons]⟩
  obtain ⟨σ1, hσ1⟩ : ∃ σ1, σ1 = σ ++ (.arr (.pv [.int .i64 (col : Int)]) 0 0 (some 3) :: τ) := ⟨_, rfl⟩
  have h1 := h.push (.arr (.pv [.int .i64 (col : Int)]) 0 0 (some 3) :: τ) q6 q7 q11 q12
  rw [← hσ1] at h1 r1
  have a1 : AtF k ρ1 i := ⟨q49.trans a.t49, q50.trans a.t50, q51.trans a.t51⟩
  have asm : ∀ {ex : AExit} {st : St}, exec C L (.seq (.block 3 (.seq n17_7_2kb_3k_3 n17_7_2kb_3k_4)) n17_7_2kb_4) ⟨ρ1, ds, σ1⟩ = some (ex, st) → exec C L n17_7_2kb ⟨ρ, ds, σ⟩ = some (ex, st) := by
    intro ex st he
    unfold n17_7_2kb n17_7_2kb_3 n17_7_2kb_3k
    rw [seq_assoc]
    generalize hA : exec C L (.seq n17_7_2kb_1 n17_7_2kb_2) ⟨ρ, ds, σ⟩ = z at *
    have r1' := r1
    simp only [exec] at r1' hA
    rw [hA] at r1'
    match z, r1', hA with
    | some (.normal, s1), r1', hA =>
      have hA' : exec C L (.seq n17_7_2kb_1 n17_7_2kb_2) ⟨ρ, ds, σ⟩ = some (.normal, s1) := by simp only [exec]; exact hA
      rw [seqN hA', seq_assoc_in (c := n17_7_2kb_3k_2)]
      have r2 : exec C L (.seq n17_7_2kb_3k_1 n17_7_2kb_3k_2) s1 = some (.normal, ⟨ρ1, ds, σ1⟩) := by simp only [exec]; exact r1'
      rw [blkA r2]
      exact he
  rcases hfd with ⟨rfl, hn⟩ | ⟨j, x, rfl, hx, hfx⟩
  · refine .inl ⟨hn, (59, .p (.bool true)) :: (58, int (-1)) :: ρ1, σ1, asm ?_, ?_⟩
    · simp [n17_7_2kb_3k_3, n17_7_2kb_3k_3_1, n17_7_2kb_3k_3_2, exec, runOps, wantedA, stepOp, pureOp, allocOp, readOp, effOp, ev, evs, evO, Env.get_cons, putE, binA, intBin, unA, AV.fit, AV.toCells, partC, partP, mkCells, allP, mkAgg, Cells.len, target, q15]
    · have := h1.push (ρ' := (59, .p (.bool true)) :: (58, int (-1)) :: ρ1) [] (by simp [Env.get_cons]) (by simp [Env.get_cons]) (by simp [Env.get_cons]) (by simp [Env.get_cons])
      rwa [List.append_nil] at this
  · refine .inr ⟨x, hfx, ?_⟩
    have hj : j < ls.length := (List.getElem?_eq_some_iff.1 hx).1
    obtain ⟨id, ver, wm, ty, rfl, ho⟩ := h1.sl.resolve_left (by rintro ⟨_, h⟩; rw [h] at hj; simp at hj)
    obtain ⟨v1, v2, v3, v4, evc⟩ := vc_four (litV x.v)
    have d5 : ((clsC ls).drop (j * 6 + 2)).take 4 = [v1, v2, v3, v4] := by
      have := clsC_at ls j x hx
      rw [Nat.add_comm, ← List.drop_drop]
      have e6 : ((clsC ls).drop (j * 6)).drop 2 = (((clsC ls).drop (j * 6)).take 6).drop 2 ++ ((clsC ls).drop (j * 6)).drop 6 := by
        conv => lhs; rw [← List.take_append_drop 6 ((clsC ls).drop (j * 6))]
        rw [List.drop_append, this]
        have : (clC x).length = 6 := clC_len x
        rw [this]
        rfl
      have e7 : List.drop 2 ((clsC ls).drop (j * 6)) = _ := e6
      rw [show List.drop (j * 6) (List.drop 2 (clsC ls)) = List.drop 2 (List.drop (j * 6) (clsC ls)) from by rw [List.drop_drop, List.drop_drop, Nat.add_comm], e7, this]
      simp [clC, evc]
    have d6 : j * 6 + 2 + 4 ≤ (clsC ls).length := by rw [clsC_len]; omega
    have d7 : (j + 1) * 6 ≤ (clsC ls).length := by rw [clsC_len]; omega
    have hjn : ¬ (j : Int) < 0 := by omega
    have h3l1 : 3 < σ1.length := (List.getElem?_eq_some_iff.1 h1.o3).1
    have hml1 : mk < σ1.length := (List.getElem?_eq_some_iff.1 h1.om).1
    have hid : id < σ1.length := (List.getElem?_eq_some_iff.1 ho).1
    obtain ⟨f2, σ2, hA, hb2, hfr, hle, hown⟩ := (h1.bf.push [.arr (.pv [v1, v2, v3, v4]) 0 0 none]).app [v1, v2, v3, v4] rfl (by omega)
    have keep : ∀ j, j < σ1.length → j ∉ own f → σ2[j]? = σ1[j]? := fun j hj hjf => by rw [hfr j (by simp; omega) hjf, List.getElem?_append_left hj]
    have nf : ∀ j, (j < 4 ∨ j = id ∨ j = mk) → j ∉ own f := fun j hj hm => by
      obtain ⟨a1, a2, a3⟩ := h1.ob j hm
      rcases hj with hj | rfl | rfl
      · omega
      · exact a2 (by simp [own])
      · exact a3 rfl
    have hl2 : litsV (F ++ [x.v]) = litsV F ++ [v1, v2, v3, v4] := by
      simp only [litsV, List.map_append, List.map_cons, List.map_nil, vcs_snoc, evc]
    have hfin : ∃ ρ', exec C L (.seq (.block 3 (.seq n17_7_2kb_3k_3 n17_7_2kb_3k_4)) n17_7_2kb_4) ⟨ρ1, ds, σ1⟩ = some (.normal, ⟨ρ', ds, σ2⟩) ∧ ρ'.get 6 = ρ1.get 6 ∧ ρ'.get 7 = ρ1.get 7 ∧ ρ'.get 11 = ρ1.get 11 ∧ ρ'.get 12 = some f2 ∧ AtF k ρ' (i + 1) := by
      have o3 := h1.o3
      have t12 := h1.t12
      have t7 := h1.t7
      generalize clsC ls = cl at ho d5 d6 d7
      exact ⟨_, by simp [n17_7_2kb_3k_3, n17_7_2kb_3k_3_1, n17_7_2kb_3k_3_2, n17_7_2kb_3k_4, n17_7_2kb_4, exec, runOps, wantedA, stepOp, pureOp, allocOp, readOp, effOp, ev, evs, evO, Env.get_cons, putE, binA, intBin, unA, AV.fit, AV.toCells, partC, partP, mkCells, allP, mkAgg, Cells.len, target, evParts, fillA, AV.cells, splice, spliceC, finA, leaveA, resA, resV, ansV, idxA, repCells, elemsA, takeC, dropC, Cells.get?, Cells.toList, q15, hjn, t7, t12, o3, ho, hj, d5, d6, d7, hA, a1.t51, e1]; rfl, by simp [Env.get_cons], by simp [Env.get_cons], by simp [Env.get_cons], by simp [Env.get_cons], ⟨by simp [Env.get_cons, a1.t49], by simp [Env.get_cons, a1.t50], by simp [Env.get_cons]⟩⟩
    obtain ⟨ρ', e, g6, g7, g11, g12, ga⟩ := hfin
    refine ⟨ρ', σ2, f2, asm e, ga, ⟨g6.trans h1.t6, g7.trans h1.t7, g11.trans h1.t11, g12, ?_, ?_, h1.sl.same fun j hj => ?_, ?_, fun j hj => ?_, ?_, h1.m4⟩⟩
    · rw [keep 2 (by omega) (nf 2 (by omega))]; exact h1.o2
    · rw [keep 3 h3l1 (nf 3 (by omega))]; exact h1.o3
    · simp [own] at hj
      subst hj
      exact keep _ hid (nf _ (by simp))
    · rw [hl2, List.length_append]
      exact hb2
    · rcases hown j hj with hm | hm
      · exact h1.ob j hm
      · simp at hm
        refine ⟨by omega, ?_, by omega⟩
        simp [own]
        omega
    · rw [keep mk hml1 (nf mk (by simp))]; exact h1.om
end
end Go.Ab.Turn

/- PlanTurned: the values that stand fast ahead: the loop. -/
set_option maxRecDepth 1000000
namespace Go.Ab.Turn
open Go Go.Ab Go.Ab.Plan Go.Ab.Key Go.Ab.Cnt Go.Proofs
variable [Marks]
theorem fixed_cons (col : Nat) (ks : List Nat) (l : List Cl) : fixedOf (col :: ks) l = match l.find? (isEqC col) with
  | none => []
  | some x => x.v :: fixedOf ks l := rfl
theorem fixed_len : ∀ (ks : List Nat) (l : List Cl), (fixedOf ks l).length ≤ ks.length
  | [], l => Nat.le_refl _
  | c :: ks, l => by
    rw [fixed_cons]
    cases l.find? (isEqC c) with
    | none => simp
    | some x => simpa using fixed_len ks l
theorem loopF {C : Oracle} {L : Nat} {k : List Nat} {ls : List Cl} {b : AV} {mk : Nat} {ds : List (Nat × List AV)} (hk : k.length ≤ 6) (hls : ls.length ≤ LIM)
    (hC : ∀ col σ c, Sl6 σ b ls → σ[c]? = some (.arr (.pv [.int .i64 ((col : Nat) : Int)]) 0 0 (some 3)) → ∃ r τ, C 24 [b, .clo 25 [] [.ptr c 0 0]] σ = some (.ret (int r), σ ++ τ) ∧ Found ls col r) :
    ∀ (d g i : Nat) (ρ : Env) (σ : Heap) (f : AV) (F : List Lit), k.length - i ≤ d → d < g → i ≤ k.length → F.length ≤ i → AtF k ρ i → StF k ls b mk ρ σ f F → fixedOf k ls = F ++ fixedOf (k.drop i) ls →
    ∃ ρ' σ' f', iter (exec C L n17_7_2kb) none g ⟨ρ, ds, σ⟩ = some (.exit 2, ⟨ρ', ds, σ'⟩) ∧ StF k ls b mk ρ' σ' f' (fixedOf k ls)
  | d, g, i, ρ, σ, f, F, hd, hg, hi, hF, a, h, hfx => by
    obtain ⟨g, rfl⟩ : ∃ m, g = m + 1 := ⟨g - 1, by omega⟩
    by_cases hs : i = k.length
    · subst hs
      obtain ⟨ρ', e, q⟩ := stopF (C := C) (L := L) (ds := ds) a h
      rw [List.drop_length] at hfx
      have : fixedOf k ls = F := by rw [hfx]; simp [fixedOf]
      rw [this]
      exact ⟨ρ', σ, f, by simp only [iter, St.keep, e], q⟩
    · have hi' : i < k.length := by omega
      have hx : k[i]? = some k[i] := List.getElem?_eq_getElem hi'
      have hdr : k.drop i = k[i] :: k.drop (i + 1) := List.drop_eq_getElem_cons hi'
      rw [hdr, fixed_cons] at hfx
      rcases goF (C := C) (L := L) (ds := ds) a h k[i] hx hk hls hF (hC k[i]) with ⟨hn, ρ', σ', e, q⟩ | ⟨x, hn, ρ', σ', f', e, a', q⟩
      · rw [hn] at hfx
        have : fixedOf k ls = F := by rw [hfx]; simp
        rw [this]
        exact ⟨ρ', σ', f, by simp only [iter, St.keep, e], q⟩
      · rw [hn] at hfx
        obtain ⟨d, rfl⟩ : ∃ m, d = m + 1 := ⟨d - 1, by omega⟩
        obtain ⟨ρ2, σ2, f2, e2, q2⟩ := loopF hk hls hC d g (i + 1) ρ' σ' f' (F ++ [x.v]) (by omega) (by omega) (by omega) (by simp; omega) a' q (by rw [hfx]; simp)
        exact ⟨ρ2, σ2, f2, by simp only [iter, St.keep, e]; exact e2, q2⟩
end Go.Ab.Turn
