/- EvalTotals: the document's Total: its kept values. -/
import Derived.Test.YtcafoohjffcaeaaGreatDoorAbWU
set_option linter.unusedSectionVars false
set_option linter.unusedSimpArgs false
set_option linter.unusedVariables false
set_option maxRecDepth 1000000
namespace Go.Ab.Cnt
open Go Go.Ab Go.Ab.Key Go.Proofs
variable [Marks]
section
variable (C : Oracle) (L : Nat) (x : List V)
theorem AtT.of {ρ ρ' : Env} {i j : Nat} {b : AV} {tw tw' : Bool} (h : AtT x ρ i j b tw) (hk : ∀ t, t < 16 → t ≠ 8 → ρ'.get t = ρ.get t) (h8 : ρ'.get 8 = some (.p (.bool tw'))) : AtT x ρ' i j b tw' :=
  ⟨by rw [hk 1 (by omega) (by omega)]; exact h.t1, by rw [hk 2 (by omega) (by omega)]; exact h.t2, by rw [hk 4 (by omega) (by omega)]; exact h.t4, by rw [hk 6 (by omega) (by omega)]; exact h.t6, by rw [hk 7 (by omega) (by omega)]; exact h.t7, h8, by rw [hk 9 (by omega) (by omega)]; exact h.t9⟩
theorem go10n (ρ : Env) (σ : Heap) (i j : Nat) (b : AV) (tw : Bool) (k : List V) (u v : V) (hv : x[i]? = some v) (hu : k[j]? = some u) (hm : k.length ≤ 9223372036854775807) (hb : Kp σ b k) (h : AtT x ρ i j b tw)
    (hC : C 20 [.p (.agg (vc v)), .p (.agg (vc u))] σ = some (.ret (.p (.int .i64 (ordI (ordV v u)))), σ)) :
    ∃ ρ', exec C L body10n ⟨ρ, [], σ⟩ = some (.normal, ⟨ρ', [], σ⟩) ∧ AtT x ρ' i (j + 1) b (tw || (ordV u v == .eq)) := by
  have hj1 : j < k.length := (List.getElem?_eq_some_iff.1 hu).1
  have hj' : (j : Int) < (k.length : Int) := by omega
  have e1 : IntKind.i64.wrap ((j : Int) + 1) = ((j + 1 : Nat) : Int) := by rw [wrap_id _ (by omega) (by omega)]; omega
  have rl := fun (d k : Nat) (r : List AOper) (ρ : Env) (σ' : Heap) => run_len (C := C) (d := d) (k := k) (g := none) (r := r) (ρ := ρ) (σ := σ') hb.lst.len hb.lst.str rfl
  have eh : ∃ ρ', exec C L head10n ⟨ρ, [], σ⟩ = some (.normal, ⟨ρ', [], σ⟩) ∧ AtT x ρ' i j b tw :=
    ⟨_, by simp [head10n, fstC, body10n, exec, runOps, wantedA, stepOp, pureOp, allocOp, readOp, effOp, ev, evs, evO, Env.get_cons, putE, binA, intBin, unA, AV.fit, AV.toCells, partC, partP, mkCells, allP, mkAgg, Cells.len, target, h.t6, h.t9, ↓rl, hj']; rfl, ⟨by simp [Env.get_cons, h.t1], by simp [Env.get_cons, h.t2], by simp [Env.get_cons, h.t4], by simp [Env.get_cons, h.t6], by simp [Env.get_cons, h.t7], by simp [Env.get_cons, h.t8], by simp [Env.get_cons, h.t9]⟩⟩
  obtain ⟨ρ1, x1, a1⟩ := eh
  obtain ⟨ρ2, R, W, x2, hp, g8⟩ := draw10 C x ρ1 σ i j b tw k u v hv hu hb a1 hC
  have a2 := AtT.of x a1 (dr_above (m := 16) (u := 8) x2 (by rfl)) g8
  have es : ∃ ρ', exec C L step10n ⟨ρ2, [], σ⟩ = some (.normal, ⟨ρ', [], σ⟩) ∧ AtT x ρ' i (j + 1) b (tw || (ordV u v == .eq)) :=
    ⟨_, by simp [step10n, sndC, body10n, exec, runOps, wantedA, stepOp, pureOp, allocOp, readOp, effOp, ev, evs, evO, Env.get_cons, putE, binA, intBin, unA, AV.fit, AV.toCells, partC, partP, mkCells, allP, mkAgg, Cells.len, target, a2.t9, e1]; rfl, ⟨by simp [Env.get_cons, a2.t1], by simp [Env.get_cons, a2.t2], by simp [Env.get_cons, a2.t4], by simp [Env.get_cons, a2.t6], by simp [Env.get_cons, a2.t7], by simp [Env.get_cons, a2.t8], by simp [Env.get_cons]⟩⟩
  obtain ⟨ρ3, x3, a3⟩ := es
  refine ⟨ρ3, ?_, a3⟩
  rw [body10n_eq, seqN x1, seqN (blockN (draw_ok x2 hp))]
  exact x3
theorem stop10n (ρ : Env) (σ : Heap) (i : Nat) (b : AV) (tw : Bool) (k : List V) (hb : Kp σ b k) (h : AtT x ρ i k.length b tw) :
    ∃ ρ', exec C L body10n ⟨ρ, [], σ⟩ = some (.exit 2, ⟨ρ', [], σ⟩) ∧ AtT x ρ' i k.length b tw := by
  have rl := fun (d k : Nat) (r : List AOper) (ρ : Env) (σ' : Heap) => run_len (C := C) (d := d) (k := k) (g := none) (r := r) (ρ := ρ) (σ := σ') hb.lst.len hb.lst.str rfl
  have eh : ∃ ρ', exec C L head10n ⟨ρ, [], σ⟩ = some (.exit 2, ⟨ρ', [], σ⟩) ∧ AtT x ρ' i k.length b tw :=
    ⟨_, by simp [head10n, fstC, body10n, exec, runOps, wantedA, stepOp, pureOp, allocOp, readOp, effOp, ev, evs, evO, Env.get_cons, putE, binA, intBin, unA, AV.fit, AV.toCells, partC, partP, mkCells, allP, mkAgg, Cells.len, target, h.t6, h.t9, ↓rl]; rfl, ⟨by simp [Env.get_cons, h.t1], by simp [Env.get_cons, h.t2], by simp [Env.get_cons, h.t4], by simp [Env.get_cons, h.t6], by simp [Env.get_cons, h.t7], by simp [Env.get_cons, h.t8], by simp [Env.get_cons, h.t9]⟩⟩
  obtain ⟨ρ1, x1, a1⟩ := eh
  refine ⟨ρ1, ?_, a1⟩
  rw [body10n_eq, seqX x1]
theorem loop10n (σ : Heap) (i : Nat) (b : AV) (k : List V) (v : V) (hv : x[i]? = some v) (hm : k.length ≤ 9223372036854775807) (hb : Kp σ b k)
    (hC : ∀ u ∈ k, C 20 [.p (.agg (vc v)), .p (.agg (vc u))] σ = some (.ret (.p (.int .i64 (ordI (ordV v u)))), σ)) : ∀ (d j f : Nat) (ρ : Env) (tw : Bool), j + d = k.length → d < f → AtT x ρ i j b tw →
    ∃ ρ', iter (exec C L body10n) none f ⟨ρ, [], σ⟩ = some (.exit 2, ⟨ρ', [], σ⟩) ∧ AtT x ρ' i k.length b (tw || (k.drop j).any fun u => ordV u v == .eq)
  | 0, j, f, ρ, tw, hd, hf, h => by
    obtain ⟨f, rfl⟩ : ∃ m, f = m + 1 := ⟨f - 1, by omega⟩
    obtain rfl : j = k.length := by omega
    obtain ⟨ρ', e, h'⟩ := stop10n C L x ρ σ i b tw k hb h
    refine ⟨ρ', by simp only [iter, St.keep, e], ?_⟩
    rw [List.drop_length]
    simpa using h'
  | d + 1, j, f, ρ, tw, hd, hf, h => by
    obtain ⟨f, rfl⟩ : ∃ m, f = m + 1 := ⟨f - 1, by omega⟩
    have hj1 : j < k.length := by omega
    obtain ⟨ρ1, e, h1⟩ := go10n C L x ρ σ i j b tw k k[j] v hv (List.getElem?_eq_getElem hj1) hm hb h (hC _ (List.getElem_mem hj1))
    obtain ⟨ρ', e', h'⟩ := loop10n σ i b k v hv hm hb hC d (j + 1) f ρ1 _ (by omega) (by omega) h1
    refine ⟨ρ', by simp only [iter, St.keep, e]; exact e', ?_⟩
    have hdr : k.drop j = k[j] :: k.drop (j + 1) := List.drop_eq_getElem_cons hj1
    rw [hdr, List.any_cons, ← Bool.or_assoc]
    exact h'
end
end Go.Ab.Cnt

/- EvalTotals: the document's Total: its kept values, all. -/
set_option maxRecDepth 1000000
namespace Go.Ab.Cnt
open Go Go.Ab Go.Ab.Key Go.Proofs
variable [Marks]
def blkC : ACode → ACode
  | .block _ b => b
  | c => c
def head10 : ACode := fstC body10
def in10 : ACode := blkC (fstC (sndC body10))
def step10 : ACode := sndC (sndC body10)
def a8 : ACode := fstC in10
def a9 : ACode := fstC (fstC (sndC in10))
def tail10 : ACode := sndC (sndC in10)
theorem body10_eq : body10 = .seq head10 (.seq (.block 1 (.seq a8 (.seq (.seq a9 (.block 2 (.loop none body10n))) tail10))) step10) := rfl
/-- one value more, as the document's Total takes it -/
def stepN (N : ND) (k : List V) (v : V) : List V := if N.N = 1 then add1 k v else k ++ [v]
theorem stepN_len (N : ND) (k : List V) (v : V) : (stepN N k v).length ≤ k.length + 1 := by
  unfold stepN
  split
  · exact add1_len k v
  · simp
theorem stepN_mem {N : ND} {k : List V} {v u : V} (h : u ∈ stepN N k v) : u ∈ k ∨ u = v := by
  unfold stepN at h
  split at h
  · exact add1_mem h
  · simpa using h
theorem stepN_all (N : ND) (x : List V) : x.foldl (stepN N) [] = keptN N x := by
  unfold keptN
  by_cases h : N.N = 1
  · rw [if_pos h]
    have : stepN N = add1 := by
      funext k v
      simp only [stepN, if_pos h]
    rw [this]
    rfl
  · rw [if_neg h]
    have e : ∀ (x k : List V), x.foldl (stepN N) k = k ++ x := by
      intro x
      induction x with
      | nil => intro k; simp
      | cons v x ih =>
        intro k
        rw [List.foldl_cons, ih]
        simp [stepN, if_neg h]
    simpa using e x []
section
variable (C : Oracle) (L : Nat) (op : List UInt8) (N : ND) (x : List V)
/-- the outer loop's state -/
structure AtO (ρ : Env) (σ : Heap) (i : Nat) (k : List V) : Prop where
  t1 : ρ.get 1 = some (.p (.vsl (vcs x) x.length))
  t2 : ρ.get 2 = some (.ptr 0 0 0)
  t4 : ρ.get 4 = some (.ptr 1 0 0)
  t6 : ∃ b, ρ.get 6 = some b ∧ Kp σ b k
  t7 : ρ.get 7 = some (.p (.int .i64 (i : Int)))
  o0 : σ[0]? = some (.arr (.pv (nodeA op N)) 0 0 none)
  o1 : σ[1]? = some (.arr (.pv zero4) 0 0 (some 30))
theorem stop10 (ρ : Env) (σ : Heap) (k : List V) (h : AtO op N x ρ σ x.length k) : ∃ ρ', exec C L body10 ⟨ρ, [], σ⟩ = some (.exit 0, ⟨ρ', [], σ⟩) ∧ AtO op N x ρ' σ x.length k := by
  obtain ⟨b, t6, hb⟩ := h.t6
  have eh : ∃ ρ', exec C L head10 ⟨ρ, [], σ⟩ = some (.exit 0, ⟨ρ', [], σ⟩) ∧ AtO op N x ρ' σ x.length k :=
    ⟨_, by simp [head10, fstC, body10, exec, runOps, wantedA, stepOp, pureOp, allocOp, readOp, effOp, ev, evs, evO, Env.get_cons, putE, binA, intBin, unA, AV.fit, AV.toCells, partC, partP, mkCells, allP, mkAgg, Cells.len, target, lenA, h.t1, h.t7]; rfl, ⟨by simp [Env.get_cons, h.t1], by simp [Env.get_cons, h.t2], by simp [Env.get_cons, h.t4], ⟨b, by simp [Env.get_cons, t6], hb⟩, by simp [Env.get_cons, h.t7], h.o0, h.o1⟩⟩
  obtain ⟨ρ1, x1, a1⟩ := eh
  exact ⟨ρ1, by rw [body10_eq, seqX x1], a1⟩
theorem go10 (ρ : Env) (σ : Heap) (i : Nat) (k : List V) (v : V) (hv : x[i]? = some v) (hm : x.length ≤ 9223372036854775807) (hk : k.length + 1 ≤ LIM) (hL : k.length < L) (h : AtO op N x ρ σ i k)
    (hC : ∀ u ∈ k, ∀ σ, C 20 [.p (.agg (vc v)), .p (.agg (vc u))] σ = some (.ret (.p (.int .i64 (ordI (ordV v u)))), σ)) :
    ∃ ρ' σ', exec C L body10 ⟨ρ, [], σ⟩ = some (.normal, ⟨ρ', [], σ'⟩) ∧ AtO op N x ρ' σ' (i + 1) (stepN N k v) := by
  obtain ⟨b, t6, hb⟩ := h.t6
  have hi : i < x.length := (List.getElem?_eq_some_iff.1 hv).1
  have hi' : (i : Int) < (x.length : Int) := by omega
  have hkm : k.length ≤ 9223372036854775807 := Nat.le_trans (by omega) (show LIM ≤ 9223372036854775807 by decide)
  have e1 : IntKind.i64.wrap ((i : Int) + 1) = ((i + 1 : Nat) : Int) := by rw [wrap_id _ (by omega) (by omega)]; omega
  have eh : ∃ ρ', exec C L (.seq head10 (.seq a8 a9)) ⟨ρ, [], σ⟩ = some (.normal, ⟨ρ', [], σ⟩) ∧ AtT x ρ' i 0 b false :=
    ⟨_, by simp [head10, a8, a9, in10, blkC, fstC, sndC, body10, exec, runOps, wantedA, stepOp, pureOp, allocOp, readOp, effOp, ev, evs, evO, Env.get_cons, putE, binA, intBin, unA, AV.fit, AV.toCells, partC, partP, mkCells, allP, mkAgg, Cells.len, target, lenA, h.t1, h.t7, hi']; rfl, ⟨by simp [Env.get_cons, h.t1], by simp [Env.get_cons, h.t2], by simp [Env.get_cons, h.t4], by simp [Env.get_cons, t6], by simp [Env.get_cons, h.t7], by simp [Env.get_cons], by simp [Env.get_cons]⟩⟩
  obtain ⟨ρ1, x1, a1⟩ := eh
  obtain ⟨ρ2, x2, a2⟩ := loop10n C L x σ i b k v hv hkm hb (fun u hu => hC u hu σ) k.length 0 L ρ1 false (by omega) hL a1
  rw [List.drop_zero, Bool.false_or] at a2
  have x2' : exec C L (.block 2 (.loop none body10n)) ⟨ρ1, [], σ⟩ = some (.normal, ⟨ρ2, [], σ⟩) := by simp only [exec, x2, if_true]
  have o0 := h.o0
  have o1 := h.o1
  have h2 : 2 ≤ σ.length := (List.getElem?_eq_some_iff.1 o1).1
  simp only [nodeA] at o0
  have d1 := flat_v x i _ hv
  have d3 : 4 ≤ (vcs x).length - i * 4 := by rw [vcs_len]; omega
  have hlast : ∀ (b : Obj), (σ ++ [b])[σ.length]? = some b := fun b => by simp
  have hs := set_last σ
  have et : ∃ ρ3 σ3 b3, exec C L tail10 ⟨ρ2, [], σ⟩ = some (.normal, ⟨ρ3, [], σ3⟩) ∧ ρ3.get 1 = some (.p (.vsl (vcs x) x.length)) ∧ ρ3.get 2 = some (.ptr 0 0 0) ∧ ρ3.get 4 = some (.ptr 1 0 0) ∧ ρ3.get 6 = some b3 ∧ ρ3.get 7 = some (.p (.int .i64 (i : Int))) ∧ Two σ σ3 ∧ Kp σ3 b3 (stepN N k v) := by
    by_cases hskip : N.N = 1 ∧ (k.any fun u => ordV u v == .eq) = true
    · obtain ⟨hN, hq⟩ := hskip
      have hst : stepN N k v = k := by simp only [stepN, if_pos hN, add1, hq, if_true]
      rw [hq] at a2
      rw [hst]
      exact ⟨_, σ, b, by simp [tail10, in10, blkC, fstC, sndC, body10, exec, runOps, wantedA, stepOp, pureOp, allocOp, readOp, effOp, ev, evs, evO, Env.get_cons, putE, binA, intBin, unA, AV.fit, AV.toCells, partC, partP, mkCells, allP, mkAgg, Cells.len, target, a2.t2, a2.t8, o0, hN]; rfl, by simp [Env.get_cons, a2.t1], by simp [Env.get_cons, a2.t2], by simp [Env.get_cons, a2.t4], by simp [Env.get_cons, a2.t6], by simp [Env.get_cons, a2.t7], .refl _, hb⟩
    · have hst : stepN N k v = k ++ [v] := by
        by_cases hN : N.N = 1
        · have hq : ¬ (k.any fun u => ordV u v == .eq) = true := fun hq => hskip ⟨hN, hq⟩
          simp only [stepN, if_pos hN, add1, if_neg hq]
        · simp only [stepN, if_neg hN]
      rw [hst]
      obtain ⟨b2, σ2, happ, hkp, htw⟩ := (hb.push [.arr (.pv (vc v)) 0 0 none]).app (by simp; omega) v hk
      have tw2 : Two σ σ2 := (Two.push h2 _).trans htw
      obtain ⟨y0, y1, y2, y3, hy⟩ := four' v
      rw [hy] at d1 happ
      have key : ∃ ρ3, exec C L tail10 ⟨ρ2, [], σ⟩ = some (.normal, ⟨ρ3, [], σ2⟩) ∧ ρ3.get 1 = some (.p (.vsl (vcs x) x.length)) ∧ ρ3.get 2 = some (.ptr 0 0 0) ∧ ρ3.get 4 = some (.ptr 1 0 0) ∧ ρ3.get 6 = some b2 ∧ ρ3.get 7 = some (.p (.int .i64 (i : Int))) := by
        by_cases hN : N.N = 1
        · have hq : (k.any fun u => ordV u v == .eq) = false := by
            cases hq : (k.any fun u => ordV u v == .eq) with
            | false => rfl
            | true => exact absurd ⟨hN, hq⟩ hskip
          rw [hq] at a2
          exact ⟨_, by simp [tail10, in10, blkC, fstC, sndC, body10, exec, runOps, wantedA, stepOp, pureOp, allocOp, readOp, effOp, ev, evs, evO, Env.get_cons, putE, binA, intBin, unA, AV.fit, AV.toCells, partC, partP, mkCells, allP, mkAgg, Cells.len, target, evParts, fillA, AV.cells, splice, spliceC, finA, leaveA, resA, resV, ansV, lenA, idxA, repCells, elemsA, takeC, dropC, a2.t1, a2.t2, a2.t6, a2.t7, a2.t8, o0, hN, hi, hi', d1, d3, ↓hlast, ↓hs, happ]; rfl, by simp [Env.get_cons, a2.t1], by simp [Env.get_cons, a2.t2], by simp [Env.get_cons, a2.t4], by simp [Env.get_cons], by simp [Env.get_cons, a2.t7]⟩
        · exact ⟨_, by simp [tail10, in10, blkC, fstC, sndC, body10, exec, runOps, wantedA, stepOp, pureOp, allocOp, readOp, effOp, ev, evs, evO, Env.get_cons, putE, binA, intBin, unA, AV.fit, AV.toCells, partC, partP, mkCells, allP, mkAgg, Cells.len, target, evParts, fillA, AV.cells, splice, spliceC, finA, leaveA, resA, resV, ansV, lenA, idxA, repCells, elemsA, takeC, dropC, a2.t1, a2.t2, a2.t6, a2.t7, a2.t8, o0, hN, show (N.N != 1) = true from by simp [hN], hi, hi', d1, d3, ↓hlast, ↓hs, happ]; rfl, by simp [Env.get_cons, a2.t1], by simp [Env.get_cons, a2.t2], by simp [Env.get_cons, a2.t4], by simp [Env.get_cons], by simp [Env.get_cons, a2.t7]⟩
      obtain ⟨ρ3, e, g1, g2, g4, g6, g7⟩ := key
      exact ⟨ρ3, σ2, b2, e, g1, g2, g4, g6, g7, tw2, hkp⟩
  obtain ⟨ρ3, σ3, b3, x3, g1, g2, g4, g6, g7, htw, hkp⟩ := et
  have es : ∃ ρ', exec C L step10 ⟨ρ3, [], σ3⟩ = some (.normal, ⟨ρ', [], σ3⟩) ∧ AtO op N x ρ' σ3 (i + 1) (stepN N k v) :=
    ⟨_, by simp [step10, sndC, body10, exec, runOps, wantedA, stepOp, pureOp, allocOp, readOp, effOp, ev, evs, evO, Env.get_cons, putE, binA, intBin, unA, AV.fit, AV.toCells, partC, partP, mkCells, allP, mkAgg, Cells.len, target, g7, e1]; rfl, ⟨by simp [Env.get_cons, g1], by simp [Env.get_cons, g2], by simp [Env.get_cons, g4], ⟨b3, by simp [Env.get_cons, g6], hkp⟩, by simp [Env.get_cons], htw.1.trans h.o0, htw.2.1.trans h.o1⟩⟩
  obtain ⟨ρ4, x4, a4⟩ := es
  refine ⟨ρ4, σ3, ?_, a4⟩
  rw [body10_eq]
  simp only [exec] at x1 x2' x3 x4 ⊢
  split at x1
  · split at x1
    · simp_all
    · simp_all
  · simp_all
theorem loop10 (hm : x.length ≤ LIM) (hL : x.length < L)
    (hC : ∀ u ∈ x, ∀ v ∈ x, ∀ σ, C 20 [.p (.agg (vc v)), .p (.agg (vc u))] σ = some (.ret (.p (.int .i64 (ordI (ordV v u)))), σ)) : ∀ (d i f : Nat) (ρ : Env) (σ : Heap) (k : List V), i + d = x.length → d < f → k.length ≤ i → (∀ u ∈ k, u ∈ x) → AtO op N x ρ σ i k →
    ∃ ρ' σ', iter (exec C L body10) none f ⟨ρ, [], σ⟩ = some (.exit 0, ⟨ρ', [], σ'⟩) ∧ AtO op N x ρ' σ' x.length ((x.drop i).foldl (stepN N) k)
  | 0, i, f, ρ, σ, k, hd, hf, hk, hmem, h => by
    obtain ⟨f, rfl⟩ : ∃ m, f = m + 1 := ⟨f - 1, by omega⟩
    obtain rfl : i = x.length := by omega
    obtain ⟨ρ', e, h'⟩ := stop10 C L op N x ρ σ k h
    refine ⟨ρ', σ, by simp only [iter, St.keep, e], ?_⟩
    rw [List.drop_length]
    exact h'
  | d + 1, i, f, ρ, σ, k, hd, hf, hk, hmem, h => by
    obtain ⟨f, rfl⟩ : ∃ m, f = m + 1 := ⟨f - 1, by omega⟩
    have hi : i < x.length := by omega
    have hLL : LIM ≤ 9223372036854775807 := by decide
    have hxi := List.getElem_mem hi
    obtain ⟨ρ1, σ1, e, h1⟩ := go10 C L op N x ρ σ i k x[i] (List.getElem?_eq_getElem hi) (by omega) (by omega) (by omega) h (fun u hu => hC u (hmem u hu) x[i] hxi)
    have hl := stepN_len N k x[i]
    obtain ⟨ρ', σ', e', h'⟩ := loop10 hm hL hC d (i + 1) f ρ1 σ1 (stepN N k x[i]) (by omega) (by omega) (by omega)
      (fun u hu => by
        rcases stepN_mem hu with hu | rfl
        · exact hmem u hu
        · exact hxi) h1
    refine ⟨ρ', σ', by simp only [iter, St.keep, e]; exact e', ?_⟩
    rw [List.drop_eq_getElem_cons hi, List.foldl_cons]
    exact h'
end
end Go.Ab.Cnt

/- EvalTotals: the document's Total: one value more. -/
set_option maxRecDepth 1000000
namespace Go.Ab.Cnt
open Go Go.Ab Go.Ab.Key Go.Proofs
variable [Marks]
def headB : ACode := fstC bodyB
def inB : ACode := blkC (fstC (sndC bodyB))
def stepB : ACode := sndC (sndC bodyB)
def rA : ACode := fstC inB
def nullB : ACode := fstC (sndC inB)
def rC : ACode := fstC (sndC (sndC inB))
def firstB : ACode := fstC (sndC (sndC (sndC inB)))
def r85 : ACode := fstC (sndC (sndC (sndC (sndC inB))))
def sw : ACode := sndC (sndC (sndC (sndC (sndC inB))))
theorem bodyB_eq : bodyB = .seq headB (.seq (.block 5 (.seq rA (.seq nullB (.seq rC (.seq firstB (.seq r85 sw)))))) stepB) := rfl
theorem Kp.set {σ : Heap} {b : AV} {k : List V} {q : Nat} (h : Kp σ b k) (hn : ∀ ver n, b ≠ .sl q ver 0 n 4) (o : Obj) : Kp (σ.set q o) b k := by
  rcases h with h | ⟨id, ver, wm, h2, hb, ho, hw⟩
  · exact .inl h
  · have hne : ¬ q = id := fun e => hn ver k.length (by rw [hb, e])
    exact .inr ⟨id, ver, wm, h2, hb, by rw [List.getElem?_set_ne hne]; exact ho, hw⟩
section
variable (C : Oracle) (L : Nat) (op : List UInt8) (N : ND) (k : List V) (b : AV) (q : Nat)
structure GB (ρ : Env) (i c : Nat) : Prop where
  t2 : ρ.get 2 = some (.ptr 0 0 0)
  t4 : ρ.get 4 = some (.ptr 1 0 0)
  t6 : ρ.get 6 = some b
  t10 : ρ.get 10 = some (.ptr q 0 0)
  t11 : ρ.get 11 = some (.p (.int .i64 (c : Int)))
  t12 : ρ.get 12 = some (.p (.int .i64 (i : Int)))
structure HB (σ : Heap) (out : V) : Prop where
  kp : Kp σ b k
  o0 : σ[0]? = some (.arr (.pv (nodeA op N)) 0 0 none)
  o1 : σ[1]? = some (.arr (.pv zero4) 0 0 (some 30))
  oq : σ[q]? = some (.arr (.pv (vc out)) 0 0 (some 30))
  q2 : 2 ≤ q
  nb : ∀ ver n, b ≠ .sl q ver 0 n 4
theorem HB.push {σ : Heap} {out : V} (h : HB op N k b q σ out) (τ : Heap) : HB op N k b q (σ ++ τ) out :=
  ⟨h.kp.push τ, by rw [List.getElem?_append_left (List.getElem?_eq_some_iff.1 h.o0).1]; exact h.o0, by rw [List.getElem?_append_left (List.getElem?_eq_some_iff.1 h.o1).1]; exact h.o1, by rw [List.getElem?_append_left (List.getElem?_eq_some_iff.1 h.oq).1]; exact h.oq, h.q2, h.nb⟩
theorem HB.setq {σ : Heap} {out : V} (h : HB op N k b q σ out) (w : V) : HB op N k b q (σ.set q (.arr (.pv (vc w)) 0 0 (some 30))) w := by
  have q2 := h.q2
  exact ⟨h.kp.set h.nb _, by rw [List.getElem?_set_ne (by omega)]; exact h.o0, by rw [List.getElem?_set_ne (by omega)]; exact h.o1, set_at h.oq _, h.q2, h.nb⟩
theorem x_head (ρ : Env) (σ : Heap) (i c : Nat) (out : V) (hi : i < k.length) (hm : k.length ≤ 9223372036854775807) (g : GB b q ρ i c) (h : HB op N k b q σ out) : ∃ ρ', exec C L headB ⟨ρ, [], σ⟩ = some (.normal, ⟨ρ', [], σ⟩) ∧ GB b q ρ' i c := by
  have rl := fun (d k : Nat) (r : List AOper) (ρ : Env) (σ' : Heap) => run_len (C := C) (d := d) (k := k) (g := none) (r := r) (ρ := ρ) (σ := σ') h.kp.lst.len h.kp.lst.str rfl
  have hi' : (i : Int) < (k.length : Int) := by omega
  exact ⟨_, by simp [headB, fstC, bodyB, exec, runOps, wantedA, stepOp, pureOp, allocOp, readOp, effOp, ev, evs, evO, Env.get_cons, putE, binA, intBin, unA, AV.fit, AV.toCells, partC, partP, mkCells, allP, mkAgg, Cells.len, target, g.t6, g.t12, ↓rl, hi']; rfl, ⟨by simp [Env.get_cons, g.t2], by simp [Env.get_cons, g.t4], by simp [Env.get_cons, g.t6], by simp [Env.get_cons, g.t10], by simp [Env.get_cons, g.t11], by simp [Env.get_cons, g.t12]⟩⟩
theorem x_stop (ρ : Env) (σ : Heap) (c : Nat) (out : V) (g : GB b q ρ k.length c) (h : HB op N k b q σ out) : ∃ ρ', exec C L bodyB ⟨ρ, [], σ⟩ = some (.exit 4, ⟨ρ', [], σ⟩) ∧ GB b q ρ' k.length c := by
  have rl := fun (d k : Nat) (r : List AOper) (ρ : Env) (σ' : Heap) => run_len (C := C) (d := d) (k := k) (g := none) (r := r) (ρ := ρ) (σ := σ') h.kp.lst.len h.kp.lst.str rfl
  have e : ∃ ρ', exec C L headB ⟨ρ, [], σ⟩ = some (.exit 4, ⟨ρ', [], σ⟩) ∧ GB b q ρ' k.length c :=
    ⟨_, by simp [headB, fstC, bodyB, exec, runOps, wantedA, stepOp, pureOp, allocOp, readOp, effOp, ev, evs, evO, Env.get_cons, putE, binA, intBin, unA, AV.fit, AV.toCells, partC, partP, mkCells, allP, mkAgg, Cells.len, target, g.t6, g.t12, ↓rl]; rfl, ⟨by simp [Env.get_cons, g.t2], by simp [Env.get_cons, g.t4], by simp [Env.get_cons, g.t6], by simp [Env.get_cons, g.t10], by simp [Env.get_cons, g.t11], by simp [Env.get_cons, g.t12]⟩⟩
  obtain ⟨ρ1, x1, a1⟩ := e
  exact ⟨ρ1, by rw [bodyB_eq, seqX x1], a1⟩
theorem x_step (ρ : Env) (σ : Heap) (i c : Nat) (hi : i < k.length) (hm : k.length ≤ 9223372036854775807) (g : GB b q ρ i c) : ∃ ρ', exec C L stepB ⟨ρ, [], σ⟩ = some (.normal, ⟨ρ', [], σ⟩) ∧ GB b q ρ' (i + 1) c := by
  have e1 : IntKind.i64.wrap ((i : Int) + 1) = ((i + 1 : Nat) : Int) := by rw [wrap_id _ (by omega) (by omega)]; omega
  exact ⟨_, by simp [stepB, sndC, bodyB, exec, runOps, wantedA, stepOp, pureOp, allocOp, readOp, effOp, ev, evs, evO, Env.get_cons, putE, binA, intBin, unA, AV.fit, AV.toCells, partC, partP, mkCells, allP, mkAgg, Cells.len, target, g.t12, e1]; rfl, ⟨by simp [Env.get_cons, g.t2], by simp [Env.get_cons, g.t4], by simp [Env.get_cons, g.t6], by simp [Env.get_cons, g.t10], by simp [Env.get_cons, g.t11], by simp [Env.get_cons]⟩⟩
theorem x_take (ρ : Env) (σ : Heap) (i c : Nat) (out v : V) (hv : k[i]? = some v) (g : GB b q ρ i c) (h : HB op N k b q σ out) :
    ∃ ρ', exec C L rA ⟨ρ, [], σ⟩ = some (.normal, ⟨ρ', [], σ ++ [.arr (.pv (vc v)) 0 0 (some 30)]⟩) ∧ GB b q ρ' i c ∧ ρ'.get 13 = some (.ptr σ.length 0 0) := by
  have hi : i < k.length := (List.getElem?_eq_some_iff.1 hv).1
  have hi' : (i : Int) < (k.length : Int) := by omega
  have c1 := flat_v k i _ hv
  have c2 : i * 4 + 4 ≤ (vcs k).length := by rw [vcs_len]; omega
  obtain ⟨id, ver, wm, h2, hb, ho, hw⟩ : ∃ id ver wm, 2 ≤ id ∧ b = .sl id ver 0 k.length 4 ∧ σ[id]? = some (.arr (.pv (vcs k)) ver wm (some 30)) ∧ wm ≤ k.length * 4 := by
    rcases h.kp with ⟨_, rfl⟩ | h
    · simp at hv
    · exact h
  have hid : id < σ.length := (List.getElem?_eq_some_iff.1 ho).1
  obtain ⟨y0, y1, y2, y3, hy⟩ := four' v
  have g6 := g.t6
  rw [hb] at g6
  rw [hy] at c1 ⊢
  have hlast : ∀ (b : Obj), (σ ++ [b])[σ.length]? = some b := fun b => by simp
  have hs := set_last σ
  generalize vcs k = ck at *
  exact ⟨_, by simp [rA, inB, blkC, fstC, sndC, bodyB, exec, runOps, wantedA, stepOp, pureOp, allocOp, readOp, effOp, ev, evs, evO, Env.get_cons, putE, binA, intBin, unA, AV.fit, AV.toCells, partC, partP, mkCells, allP, mkAgg, Cells.len, target, evParts, fillA, AV.cells, splice, spliceC, finA, leaveA, resA, resV, ansV, lenA, idxA, g6, g.t12, hi, hi', c1, c2, ho, ↓hlast, ↓hs]; rfl, ⟨by simp [Env.get_cons, g.t2], by simp [Env.get_cons, g.t4], by simp [Env.get_cons, g.t6], by simp [Env.get_cons, g.t10], by simp [Env.get_cons, g.t11], by simp [Env.get_cons, g.t12]⟩, by simp [Env.get_cons]⟩
theorem x_null (ρ : Env) (σ : Heap) (i c j : Nat) (v : V) (hj : σ[j]? = some (.arr (.pv (vc v)) 0 0 (some 30))) (g : GB b q ρ i c) (g13 : ρ.get 13 = some (.ptr j 0 0)) :
    ∃ ρ', exec C L nullB ⟨ρ, [], σ⟩ = some (if isNull v then .exit 5 else .normal, ⟨ρ', [], σ⟩) ∧ GB b q ρ' i c ∧ ρ'.get 13 = some (.ptr j 0 0) := by
  have hk : ∃ k x1 x2 x3, vc v = [.int .i64 k, x1, x2, x3] ∧ (k = 0 ↔ isNull v = true) := by
    cases v <;> exact ⟨_, _, _, _, rfl, by simp [isNull]⟩
  obtain ⟨kk, x1, x2, x3, hx, hk⟩ := hk
  rw [hx] at hj
  by_cases hn : isNull v = true
  · have hk0 := hk.2 hn
    subst hk0
    rw [if_pos hn]
    exact ⟨_, by simp [nullB, inB, blkC, fstC, sndC, bodyB, exec, runOps, wantedA, stepOp, pureOp, allocOp, readOp, effOp, ev, evs, evO, Env.get_cons, putE, binA, intBin, unA, AV.fit, AV.toCells, partC, partP, mkCells, allP, mkAgg, Cells.len, target, g13, hj, eqP]; rfl, ⟨by simp [Env.get_cons, g.t2], by simp [Env.get_cons, g.t4], by simp [Env.get_cons, g.t6], by simp [Env.get_cons, g.t10], by simp [Env.get_cons, g.t11], by simp [Env.get_cons, g.t12]⟩, by simp [Env.get_cons, g13]⟩
  · have hk0 : ¬ kk = 0 := fun e => hn (hk.1 e)
    rw [if_neg hn]
    exact ⟨_, by simp [nullB, inB, blkC, fstC, sndC, bodyB, exec, runOps, wantedA, stepOp, pureOp, allocOp, readOp, effOp, ev, evs, evO, Env.get_cons, putE, binA, intBin, unA, AV.fit, AV.toCells, partC, partP, mkCells, allP, mkAgg, Cells.len, target, g13, hj, eqP, hk0, show (kk == 0) = false from by simp [hk0]]; rfl, ⟨by simp [Env.get_cons, g.t2], by simp [Env.get_cons, g.t4], by simp [Env.get_cons, g.t6], by simp [Env.get_cons, g.t10], by simp [Env.get_cons, g.t11], by simp [Env.get_cons, g.t12]⟩, by simp [Env.get_cons, g13]⟩
theorem x_count (ρ : Env) (σ : Heap) (i c j : Nat) (hc : (c : Int) < 9223372036854775807) (g : GB b q ρ i c) (g13 : ρ.get 13 = some (.ptr j 0 0)) :
    ∃ ρ', exec C L rC ⟨ρ, [], σ⟩ = some (.normal, ⟨ρ', [], σ⟩) ∧ GB b q ρ' i (c + 1) ∧ ρ'.get 13 = some (.ptr j 0 0) := by
  have e1 : IntKind.i64.wrap ((c : Int) + 1) = ((c + 1 : Nat) : Int) := by rw [wrap_id _ (by omega) (by omega)]; omega
  exact ⟨_, by simp [rC, inB, blkC, fstC, sndC, bodyB, exec, runOps, wantedA, stepOp, pureOp, allocOp, readOp, effOp, ev, evs, evO, Env.get_cons, putE, binA, intBin, unA, AV.fit, AV.toCells, partC, partP, mkCells, allP, mkAgg, Cells.len, target, g.t11, e1]; rfl, ⟨by simp [Env.get_cons, g.t2], by simp [Env.get_cons, g.t4], by simp [Env.get_cons, g.t6], by simp [Env.get_cons, g.t10], by simp [Env.get_cons], by simp [Env.get_cons, g.t12]⟩, by simp [Env.get_cons, g13]⟩
theorem neq_ne {a b : List UInt8} (h : a ≠ b) : strBin .neq a b = some (.bool true) := by simp [strBin, h]
theorem x_first (ρ : Env) (σ : Heap) (i c j : Nat) (out v : V) (hj : σ[j]? = some (.arr (.pv (vc v)) 0 0 (some 30))) (g : GB b q ρ i c) (g13 : ρ.get 13 = some (.ptr j 0 0)) (h : HB op N k b q σ out) (hc : c = 1) (hop : op ≠ sS) :
    ∃ ρ', exec C L firstB ⟨ρ, [], σ⟩ = some (.exit 5, ⟨ρ', [], σ.set q (.arr (.pv (vc v)) 0 0 (some 30))⟩) ∧ GB b q ρ' i c := by
  subst hc
  obtain ⟨y0, y1, y2, y3, hy⟩ := four' v
  obtain ⟨z0, z1, z2, z3, hz⟩ := four' out
  rw [hy] at hj ⊢
  have o0 := h.o0
  have oq := h.oq
  rw [hz] at oq
  simp only [nodeA] at o0
  exact ⟨_, by simp [firstB, inB, blkC, fstC, sndC, bodyB, exec, runOps, wantedA, stepOp, pureOp, allocOp, readOp, effOp, ev, evs, evO, Env.get_cons, putE, binA, intBin, unA, AV.fit, AV.toCells, partC, partP, mkCells, allP, mkAgg, Cells.len, target, evParts, fillA, AV.cells, splice, spliceC, finA, leaveA, resA, resV, ansV, g.t2, g.t10, g.t11, g13, hj, o0, oq, neq_ne hop, eqP]; rfl, ⟨by simp [Env.get_cons, g.t2], by simp [Env.get_cons, g.t4], by simp [Env.get_cons, g.t6], by simp [Env.get_cons, g.t10], by simp [Env.get_cons, g.t11], by simp [Env.get_cons, g.t12]⟩⟩
theorem x_later (ρ : Env) (σ : Heap) (i c j : Nat) (out : V) (g : GB b q ρ i c) (g13 : ρ.get 13 = some (.ptr j 0 0)) (h : HB op N k b q σ out) (hc : ¬ c = 1 ∨ op = sS) :
    ∃ ρ', exec C L firstB ⟨ρ, [], σ⟩ = some (.normal, ⟨ρ', [], σ⟩) ∧ GB b q ρ' i c ∧ ρ'.get 13 = some (.ptr j 0 0) := by
  have o0 := h.o0
  simp only [nodeA] at o0
  by_cases h1 : c = 1
  · subst h1
    obtain rfl : op = sS := by
      rcases hc with hc | hc
      · exact absurd rfl hc
      · exact hc
    exact ⟨_, by simp [firstB, inB, blkC, fstC, sndC, bodyB, exec, runOps, wantedA, stepOp, pureOp, allocOp, readOp, effOp, ev, evs, evO, Env.get_cons, putE, binA, intBin, unA, AV.fit, AV.toCells, partC, partP, mkCells, allP, mkAgg, Cells.len, target, g.t2, g.t11, o0, show strBin .neq [115, 117, 109] [115, 117, 109] = some (.bool false) from rfl, eqP]; rfl, ⟨by simp [Env.get_cons, g.t2], by simp [Env.get_cons, g.t4], by simp [Env.get_cons, g.t6], by simp [Env.get_cons, g.t10], by simp [Env.get_cons, g.t11], by simp [Env.get_cons, g.t12]⟩, by simp [Env.get_cons, g13]⟩
  · have hci : ¬ (c : Int) = 1 := by omega
    exact ⟨_, by simp [firstB, inB, blkC, fstC, sndC, bodyB, exec, runOps, wantedA, stepOp, pureOp, allocOp, readOp, effOp, ev, evs, evO, Env.get_cons, putE, binA, intBin, unA, AV.fit, AV.toCells, partC, partP, mkCells, allP, mkAgg, Cells.len, target, g.t2, g.t11, o0, hci, show ((c : Int) == 1) = false from by simp [h1]; omega, eqP]; rfl, ⟨by simp [Env.get_cons, g.t2], by simp [Env.get_cons, g.t4], by simp [Env.get_cons, g.t6], by simp [Env.get_cons, g.t10], by simp [Env.get_cons, g.t11], by simp [Env.get_cons, g.t12]⟩, by simp [Env.get_cons, g13]⟩
end
end Go.Ab.Cnt

/- EvalTotals: the document's Total: the word's part of a round. -/
set_option maxRecDepth 1000000
namespace Go.Ab.Cnt
open Go Go.Ab Go.Ab.Key Go.Proofs
variable [Marks]
def elsC : ACode → ACode
  | .cond _ _ b => b
  | c => c
def sumC : ACode := thnC (sndC (blkC sw))
def r88 : ACode := fstC (blkC sw)
def s1 : ACode := fstC sumC
def s2 : ACode := sndC sumC
theorem sw_eq : sw = .block 6 (.seq r88 (.cond (.t 87) (.seq s1 s2) (elsC (sndC (blkC sw))))) := rfl
/-- what stands in the place of the answer behind a value that is not the first -/
def pickO (op : List UInt8) (v out : V) : V := if op = sN then (if ordV v out = .lt then v else out) else if op = sX then (if ordV v out = .gt then v else out) else out
section
variable (C : Oracle) (L : Nat) (op : List UInt8) (N : ND) (k : List V) (b : AV) (q : Nat)
theorem x_op (ρ : Env) (σ : Heap) (i c j : Nat) (out : V) (g : GB b q ρ i c) (g13 : ρ.get 13 = some (.ptr j 0 0)) (h : HB op N k b q σ out) :
    ∃ ρ', exec C L r85 ⟨ρ, [], σ⟩ = some (.normal, ⟨ρ', [], σ⟩) ∧ GB b q ρ' i c ∧ ρ'.get 13 = some (.ptr j 0 0) ∧ ρ'.get 86 = some (.p (.str op)) := by
  have o0 := h.o0
  simp only [nodeA] at o0
  exact ⟨_, by simp [r85, inB, blkC, fstC, sndC, bodyB, exec, runOps, wantedA, stepOp, pureOp, allocOp, readOp, effOp, ev, evs, evO, Env.get_cons, putE, binA, intBin, unA, AV.fit, AV.toCells, partC, partP, mkCells, allP, mkAgg, Cells.len, target, g.t2, o0]; rfl, ⟨by simp [Env.get_cons, g.t2], by simp [Env.get_cons, g.t4], by simp [Env.get_cons, g.t6], by simp [Env.get_cons, g.t10], by simp [Env.get_cons, g.t11], by simp [Env.get_cons, g.t12]⟩, by simp [Env.get_cons, g13], by simp [Env.get_cons]⟩
theorem x_other (ρ : Env) (σ : Heap) (i c j : Nat) (g : GB b q ρ i c) (g86 : ρ.get 86 = some (.p (.str op))) (h1 : op ≠ sS) (h2 : op ≠ sN) (h3 : op ≠ sX) :
    ∃ ρ', exec C L sw ⟨ρ, [], σ⟩ = some (.normal, ⟨ρ', [], σ⟩) ∧ GB b q ρ' i c :=
  ⟨_, by simp [sw, inB, blkC, fstC, sndC, bodyB, exec, runOps, wantedA, stepOp, pureOp, allocOp, readOp, effOp, ev, evs, evO, Env.get_cons, putE, binA, intBin, unA, AV.fit, AV.toCells, partC, partP, mkCells, allP, mkAgg, Cells.len, target, g86, eql_ne h1, eql_ne h2, eql_ne h3]; rfl, ⟨by simp [Env.get_cons, g.t2], by simp [Env.get_cons, g.t4], by simp [Env.get_cons, g.t6], by simp [Env.get_cons, g.t10], by simp [Env.get_cons, g.t11], by simp [Env.get_cons, g.t12]⟩⟩
theorem x_min (ρ : Env) (σ : Heap) (i c j : Nat) (out v : V) (hj : σ[j]? = some (.arr (.pv (vc v)) 0 0 (some 30))) (g : GB b q ρ i c) (g13 : ρ.get 13 = some (.ptr j 0 0)) (g86 : ρ.get 86 = some (.p (.str sN))) (h : HB sN N k b q σ out)
    (hC : C 20 [.p (.agg (vc v)), .p (.agg (vc out))] σ = some (.ret (.p (.int .i64 (ordI (ordV v out)))), σ)) :
    ∃ ρ' σ', exec C L sw ⟨ρ, [], σ⟩ = some (.normal, ⟨ρ', [], σ'⟩) ∧ GB b q ρ' i c ∧ HB sN N k b q σ' (pickO sN v out) := by
  have hb := h.setq sN N k b q v
  have oq := h.oq
  obtain ⟨y0, y1, y2, y3, hy⟩ := four' v
  obtain ⟨z0, z1, z2, z3, hz⟩ := four' out
  have hp : pickO sN v out = if ordV v out = .lt then v else out := rfl
  rw [hp]
  rw [hy, hz] at hC
  rw [hy] at hj hb
  rw [hz] at oq
  by_cases hlt : ordV v out = .lt
  · rw [if_pos hlt]
    rw [hlt] at hC
    exact ⟨_, _, by simp [sw, inB, blkC, fstC, sndC, bodyB, exec, runOps, wantedA, stepOp, pureOp, allocOp, readOp, effOp, ev, evs, evO, Env.get_cons, putE, binA, intBin, unA, AV.fit, AV.toCells, partC, partP, mkCells, allP, mkAgg, Cells.len, target, evParts, fillA, AV.cells, splice, spliceC, finA, leaveA, resA, resV, ansV, g86, g.t10, g13, hj, oq, hC, ordI, eql_ne (show [109, 105, 110] ≠ [115, 117, 109] by decide), show strBin .eql [109, 105, 110] [109, 105, 110] = some (.bool true) from rfl]; rfl, ⟨by simp [Env.get_cons, g.t2], by simp [Env.get_cons, g.t4], by simp [Env.get_cons, g.t6], by simp [Env.get_cons, g.t10], by simp [Env.get_cons, g.t11], by simp [Env.get_cons, g.t12]⟩, hb⟩
  · rw [if_neg hlt]
    have ho : ¬ ordI (ordV v out) < 0 := by
      cases hh : ordV v out <;> simp [ordI]
      exact hlt hh
    generalize ordI (ordV v out) = jj at *
    exact ⟨_, σ, by simp [sw, inB, blkC, fstC, sndC, bodyB, exec, runOps, wantedA, stepOp, pureOp, allocOp, readOp, effOp, ev, evs, evO, Env.get_cons, putE, binA, intBin, unA, AV.fit, AV.toCells, partC, partP, mkCells, allP, mkAgg, Cells.len, target, evParts, fillA, AV.cells, splice, spliceC, finA, leaveA, resA, resV, ansV, g86, g.t10, g13, hj, oq, hC, ho, eql_ne (show [109, 105, 110] ≠ [115, 117, 109] by decide), show strBin .eql [109, 105, 110] [109, 105, 110] = some (.bool true) from rfl]; rfl, ⟨by simp [Env.get_cons, g.t2], by simp [Env.get_cons, g.t4], by simp [Env.get_cons, g.t6], by simp [Env.get_cons, g.t10], by simp [Env.get_cons, g.t11], by simp [Env.get_cons, g.t12]⟩, h⟩
theorem x_max (ρ : Env) (σ : Heap) (i c j : Nat) (out v : V) (hj : σ[j]? = some (.arr (.pv (vc v)) 0 0 (some 30))) (g : GB b q ρ i c) (g13 : ρ.get 13 = some (.ptr j 0 0)) (g86 : ρ.get 86 = some (.p (.str sX))) (h : HB sX N k b q σ out)
    (hC : C 20 [.p (.agg (vc v)), .p (.agg (vc out))] σ = some (.ret (.p (.int .i64 (ordI (ordV v out)))), σ)) :
    ∃ ρ' σ', exec C L sw ⟨ρ, [], σ⟩ = some (.normal, ⟨ρ', [], σ'⟩) ∧ GB b q ρ' i c ∧ HB sX N k b q σ' (pickO sX v out) := by
  have hb := h.setq sX N k b q v
  have oq := h.oq
  obtain ⟨y0, y1, y2, y3, hy⟩ := four' v
  obtain ⟨z0, z1, z2, z3, hz⟩ := four' out
  have hp : pickO sX v out = if ordV v out = .gt then v else out := rfl
  rw [hp]
  rw [hy, hz] at hC
  rw [hy] at hj hb
  rw [hz] at oq
  by_cases hlt : ordV v out = .gt
  · rw [if_pos hlt]
    rw [hlt] at hC
    exact ⟨_, _, by simp [sw, inB, blkC, fstC, sndC, bodyB, exec, runOps, wantedA, stepOp, pureOp, allocOp, readOp, effOp, ev, evs, evO, Env.get_cons, putE, binA, intBin, unA, AV.fit, AV.toCells, partC, partP, mkCells, allP, mkAgg, Cells.len, target, evParts, fillA, AV.cells, splice, spliceC, finA, leaveA, resA, resV, ansV, g86, g.t10, g13, hj, oq, hC, ordI, eql_ne (show [109, 97, 120] ≠ [115, 117, 109] by decide), eql_ne (show [109, 97, 120] ≠ [109, 105, 110] by decide), show strBin .eql [109, 97, 120] [109, 97, 120] = some (.bool true) from rfl]; rfl, ⟨by simp [Env.get_cons, g.t2], by simp [Env.get_cons, g.t4], by simp [Env.get_cons, g.t6], by simp [Env.get_cons, g.t10], by simp [Env.get_cons, g.t11], by simp [Env.get_cons, g.t12]⟩, hb⟩
  · rw [if_neg hlt]
    have ho : ¬ 0 < ordI (ordV v out) := by
      cases hh : ordV v out <;> simp [ordI]
      exact hlt hh
    generalize ordI (ordV v out) = jj at *
    exact ⟨_, σ, by simp [sw, inB, blkC, fstC, sndC, bodyB, exec, runOps, wantedA, stepOp, pureOp, allocOp, readOp, effOp, ev, evs, evO, Env.get_cons, putE, binA, intBin, unA, AV.fit, AV.toCells, partC, partP, mkCells, allP, mkAgg, Cells.len, target, evParts, fillA, AV.cells, splice, spliceC, finA, leaveA, resA, resV, ansV, g86, g.t10, g13, hj, oq, hC, ho, eql_ne (show [109, 97, 120] ≠ [115, 117, 109] by decide), eql_ne (show [109, 97, 120] ≠ [109, 105, 110] by decide), show strBin .eql [109, 97, 120] [109, 97, 120] = some (.bool true) from rfl]; rfl, ⟨by simp [Env.get_cons, g.t2], by simp [Env.get_cons, g.t4], by simp [Env.get_cons, g.t6], by simp [Env.get_cons, g.t10], by simp [Env.get_cons, g.t11], by simp [Env.get_cons, g.t12]⟩, h⟩
/-- the first of a sum: nought stands there -/
theorem x_s1 (ρ : Env) (σ : Heap) (i c j : Nat) (out : V) (a : Int) (ha : c = 1 ∧ a = 0 ∨ ¬ c = 1 ∧ out = .num a) (g : GB b q ρ i c) (g13 : ρ.get 13 = some (.ptr j 0 0)) (h : HB op N k b q σ out)
    (hC : ∀ σ, C 17 [.p (.int .i64 0)] σ = some (.ret (.p (.agg (vc (.num 0)))), σ)) :
    ∃ ρ' σ', exec C L s1 ⟨ρ, [], σ⟩ = some (.normal, ⟨ρ', [], σ'⟩) ∧ GB b q ρ' i c ∧ ρ'.get 13 = some (.ptr j 0 0) ∧ HB op N k b q σ' (.num a) ∧ (σ' = σ ∨ ∃ o, σ' = σ.set q o) := by
  rcases ha with ⟨rfl, rfl⟩ | ⟨hc, rfl⟩
  · have hb := h.setq op N k b q (.num 0)
    have oq := h.oq
    obtain ⟨z0, z1, z2, z3, hz⟩ := four' out
    rw [hz] at oq
    simp only [vcn] at hb hC
    exact ⟨_, _, by simp [s1, sumC, sw, thnC, inB, blkC, fstC, sndC, bodyB, exec, runOps, wantedA, stepOp, pureOp, allocOp, readOp, effOp, ev, evs, evO, Env.get_cons, putE, binA, intBin, unA, AV.fit, AV.toCells, partC, partP, mkCells, allP, mkAgg, Cells.len, target, evParts, fillA, AV.cells, splice, spliceC, finA, leaveA, resA, resV, ansV, g.t10, g.t11, oq, hC, eqP]; rfl, ⟨by simp [Env.get_cons, g.t2], by simp [Env.get_cons, g.t4], by simp [Env.get_cons, g.t6], by simp [Env.get_cons, g.t10], by simp [Env.get_cons, g.t11], by simp [Env.get_cons, g.t12]⟩, by simp [Env.get_cons, g13], hb, .inr ⟨_, rfl⟩⟩
  · have hci : ¬ (c : Int) = 1 := by omega
    exact ⟨_, σ, by simp [s1, sumC, sw, thnC, inB, blkC, fstC, sndC, bodyB, exec, runOps, wantedA, stepOp, pureOp, allocOp, readOp, effOp, ev, evs, evO, Env.get_cons, putE, binA, intBin, unA, AV.fit, AV.toCells, partC, partP, mkCells, allP, mkAgg, Cells.len, target, g.t11, hci, show ((c : Int) == 1) = false from by simp [hc]; omega, eqP]; rfl, ⟨by simp [Env.get_cons, g.t2], by simp [Env.get_cons, g.t4], by simp [Env.get_cons, g.t6], by simp [Env.get_cons, g.t10], by simp [Env.get_cons, g.t11], by simp [Env.get_cons, g.t12]⟩, by simp [Env.get_cons, g13], h, .inl rfl⟩
end
end Go.Ab.Cnt
