/- EvalCounts: the law: one round of its loop. -/
import Derived.Test.YtcafoohjffcaeaaGreatDoorAbVO
set_option linter.unusedSectionVars false
set_option linter.unusedSimpArgs false
set_option linter.unusedVariables false
set_option maxRecDepth 1000000
namespace Go.Ab.Cnt
open Go Go.Ab Go.Ab.Key Go.Proofs
variable [Marks]
theorem d6a_lit : d6a = (ACode.draw 10 [0, 1, 3, 3, 15, 31, 3, 127, 255, 511] [{ dst := some 119, op := AOp.mv (Opd.t 15), guard := none }, { dst := some 120, op := AOp.mv (Opd.t 119), guard := none }, { dst := some 121, op := AOp.mv (Opd.t 0), guard := some (120, false) }, { dst := some 122, op := AOp.mv (Opd.t 17), guard := some (120, false) }, { dst := some 123, op := AOp.idx 4 (Opd.t 121) (Opd.t 122), guard := some (120, false) }, { dst := some 124, op := AOp.load true 4 (Opd.t 123), guard := some (120, false) }, { dst := some 125, op := AOp.load true 4 (Opd.t 10), guard := some (120, false) }, { dst := some 126, op := AOp.bin (Bin.eq false (EQ.struct [(0, false, 1, EQ.int), (1, false, 1, EQ.int), (2, false, 1, EQ.str), (3, false, 1, EQ.bool)])) (Opd.t 124) (Opd.t 125), guard := some (120, false) }, { dst := some 127, op := AOp.pick (Opd.t 120) (Opd.c (AV.p (PV.bool true))) (Opd.t 126), guard := none }, { dst := some 15, op := AOp.mv (Opd.t 127), guard := none }]) := rfl
theorem d6b_lit : d6b = (ACode.draw 10 [0, 1, 3, 3, 15, 31, 3, 127, 255, 511] [{ dst := some 128, op := AOp.mv (Opd.t 16), guard := none }, { dst := some 129, op := AOp.mv (Opd.t 128), guard := none }, { dst := some 130, op := AOp.mv (Opd.t 0), guard := some (129, false) }, { dst := some 131, op := AOp.mv (Opd.t 17), guard := some (129, false) }, { dst := some 132, op := AOp.idx 4 (Opd.t 130) (Opd.t 131), guard := some (129, false) }, { dst := some 133, op := AOp.load true 4 (Opd.t 132), guard := some (129, false) }, { dst := some 134, op := AOp.load true 4 (Opd.t 12), guard := some (129, false) }, { dst := some 135, op := AOp.bin (Bin.eq false (EQ.struct [(0, false, 1, EQ.int), (1, false, 1, EQ.int), (2, false, 1, EQ.str), (3, false, 1, EQ.bool)])) (Opd.t 133) (Opd.t 134), guard := some (129, false) }, { dst := some 136, op := AOp.pick (Opd.t 129) (Opd.c (AV.p (PV.bool true))) (Opd.t 135), guard := none }, { dst := some 16, op := AOp.mv (Opd.t 136), guard := none }]) := rfl
theorem d6c_lit : d6c = (ACode.draw 24 [0, 0, 3, 7, 15, 31, 63, 127, 127, 511, 1023, 127, 4095, 8191, 16383, 32767, 32767, 131071, 262143, 32767, 1048575, 2097151, 4194303, 8388607] [{ dst := some 137, op := AOp.mv (Opd.t 0), guard := none }, { dst := some 138, op := AOp.mv (Opd.t 17), guard := none }, { dst := some 139, op := AOp.idx 4 (Opd.t 137) (Opd.t 138), guard := none }, { dst := some 140, op := AOp.fieldAddr 0 (Opd.t 139), guard := none }, { dst := some 141, op := AOp.load false 1 (Opd.t 140), guard := none }, { dst := some 142, op := AOp.bin (Bin.plain BinOp.neq) (Opd.t 141) (Opd.c (AV.p (PV.int IntKind.i64 (0)))), guard := none }, { dst := some 143, op := AOp.mv (Opd.t 142), guard := none }, { dst := some 144, op := AOp.mv (Opd.t 0), guard := some (143, true) }, { dst := some 145, op := AOp.mv (Opd.t 17), guard := some (143, true) }, { dst := some 146, op := AOp.idx 4 (Opd.t 144) (Opd.t 145), guard := some (143, true) }, { dst := some 147, op := AOp.load true 4 (Opd.t 146), guard := some (143, true) }, { dst := some 148, op := AOp.load true 4 (Opd.t 10), guard := some (143, true) }, { dst := some 149, op := AOp.call (Opd.c (AV.p (PV.fn 20))) [Opd.t 147, Opd.t 148], guard := some (143, true) }, { dst := some 150, op := AOp.bin (Bin.plain BinOp.lss) (Opd.t 149) (Opd.c (AV.p (PV.int IntKind.i64 (0)))), guard := some (143, true) }, { dst := some 151, op := AOp.mv (Opd.t 150), guard := some (143, true) }, { dst := some 152, op := AOp.mv (Opd.t 0), guard := some (151, false) }, { dst := some 153, op := AOp.mv (Opd.t 17), guard := some (151, false) }, { dst := some 154, op := AOp.idx 4 (Opd.t 152) (Opd.t 153), guard := some (151, false) }, { dst := some 155, op := AOp.load true 4 (Opd.t 154), guard := some (151, false) }, { dst := some 156, op := AOp.load true 4 (Opd.t 12), guard := some (151, false) }, { dst := some 157, op := AOp.call (Opd.c (AV.p (PV.fn 20))) [Opd.t 155, Opd.t 156], guard := some (151, false) }, { dst := some 158, op := AOp.bin (Bin.plain BinOp.gtr) (Opd.t 157) (Opd.c (AV.p (PV.int IntKind.i64 (0)))), guard := some (151, false) }, { dst := some 159, op := AOp.pick (Opd.t 151) (Opd.c (AV.p (PV.bool true))) (Opd.t 158), guard := some (143, true) }, { dst := some 160, op := AOp.pick (Opd.t 143) (Opd.t 159) (Opd.c (AV.p (PV.bool false))), guard := none }]) := rfl
section
variable (C : Oracle) (L : Nat) (x : List V) (lo hi : V)
/-- the loop's state -/
structure AtL (ρ : Env) (i : Nat) (b1 b2 : Bool) : Prop where
  t0 : ρ.get 0 = some (.p (.vsl (vcs x) x.length))
  t6 : ρ.get 6 = some (.ptr 1 0 0)
  t10 : ρ.get 10 = some (.ptr 3 0 0)
  t12 : ρ.get 12 = some (.ptr 4 0 0)
  t14 : ρ.get 14 = some (.p (.bool true))
  t15 : ρ.get 15 = some (.p (.bool b1))
  t16 : ρ.get 16 = some (.p (.bool b2))
  t17 : ρ.get 17 = some (.p (.int .i64 (i : Int)))
structure HpL (σ : Heap) : Prop where
  o3 : σ[3]? = some (.arr (.pv (vc lo)) 0 0 (some 30))
  o4 : σ[4]? = some (.arr (.pv (vc hi)) 0 0 (some 30))
theorem four (v : V) : ∃ x0 x1 x2 x3, vc v = [x0, x1, x2, x3] := by
  cases v <;> exact ⟨_, _, _, _, rfl⟩
variable (σ : Heap) (hσ : HpL lo hi σ)
include hσ
theorem run_a (ρ : Env) (i : Nat) (b1 b2 : Bool) (v : V) (hv : x[i]? = some v) (h : AtL x ρ i b1 b2) :
    ∃ ρ', exec C L d6a ⟨ρ, [], σ⟩ = some (.normal, ⟨ρ', [], σ⟩) ∧ AtL x ρ' i (b1 || decide (v = lo)) b2 := by
  have hi1 : i < x.length := (List.getElem?_eq_some_iff.1 hv).1
  have hi' : (i : Int) < (x.length : Int) := by omega
  have d1 := flat_v x i _ hv
  have d3 : 4 ≤ (vcs x).length - i * 4 := by rw [vcs_len]; omega
  have hq := eq_vc v lo
  have ho := hσ.o3
  generalize hdd : decide (v = lo) = dd at *
  obtain ⟨x0, x1, x2, x3, hx⟩ := four v
  obtain ⟨y0, y1, y2, y3, hy⟩ := four lo
  rw [hx] at hq d1
  rw [hy] at hq ho
  cases b1 with
  | true =>
    exact ⟨_, by simp [d6a_lit, exec, runOps, wantedA, stepOp, pureOp, allocOp, readOp, effOp, ev, evs, evO, Env.get_cons, putE, binA, intBin, unA, AV.fit, AV.toCells, partC, partP, mkCells, allP, mkAgg, Cells.len, target, evParts, fillA, AV.cells, splice, spliceC, finA, leaveA, resA, resV, ansV, drawExec, drawRun, stillOp, keepE, readsOf, isE, opds, tmpsOf, carry, refOf, refV, valsOp, oneH, wrIds, okRW, bef, isFree, between, touch, collect, idsL, idsV, idsO, lenA, idxA, h.t15]; rfl, ⟨by simp [Env.get_cons, h.t0], by simp [Env.get_cons, h.t6], by simp [Env.get_cons, h.t10], by simp [Env.get_cons, h.t12], by simp [Env.get_cons, h.t14], by simp [Env.get_cons], by simp [Env.get_cons, h.t16], by simp [Env.get_cons, h.t17]⟩⟩
  | false =>
    exact ⟨_, by simp [d6a_lit, exec, runOps, wantedA, stepOp, pureOp, allocOp, readOp, effOp, ev, evs, evO, Env.get_cons, putE, binA, intBin, unA, AV.fit, AV.toCells, partC, partP, mkCells, allP, mkAgg, Cells.len, target, evParts, fillA, AV.cells, splice, spliceC, finA, leaveA, resA, resV, ansV, drawExec, drawRun, stillOp, keepE, readsOf, isE, opds, tmpsOf, carry, refOf, refV, valsOp, oneH, wrIds, okRW, bef, isFree, between, touch, collect, idsL, idsV, idsO, lenA, idxA, h.t15, h.t0, h.t10, h.t17, hi1, hi', d1, d3, ho, hq]; rfl, ⟨by simp [Env.get_cons, h.t0], by simp [Env.get_cons, h.t6], by simp [Env.get_cons, h.t10], by simp [Env.get_cons, h.t12], by simp [Env.get_cons, h.t14], by simp [Env.get_cons], by simp [Env.get_cons, h.t16], by simp [Env.get_cons, h.t17]⟩⟩
theorem run_b (ρ : Env) (i : Nat) (b1 b2 : Bool) (v : V) (hv : x[i]? = some v) (h : AtL x ρ i b1 b2) :
    ∃ ρ', exec C L d6b ⟨ρ, [], σ⟩ = some (.normal, ⟨ρ', [], σ⟩) ∧ AtL x ρ' i b1 (b2 || decide (v = hi)) := by
  have hi1 : i < x.length := (List.getElem?_eq_some_iff.1 hv).1
  have hi' : (i : Int) < (x.length : Int) := by omega
  have d1 := flat_v x i _ hv
  have d3 : 4 ≤ (vcs x).length - i * 4 := by rw [vcs_len]; omega
  have hq := eq_vc v hi
  have ho := hσ.o4
  generalize hdd : decide (v = hi) = dd at *
  obtain ⟨x0, x1, x2, x3, hx⟩ := four v
  obtain ⟨y0, y1, y2, y3, hy⟩ := four hi
  rw [hx] at hq d1
  rw [hy] at hq ho
  cases b2 with
  | true =>
    exact ⟨_, by simp [d6b_lit, exec, runOps, wantedA, stepOp, pureOp, allocOp, readOp, effOp, ev, evs, evO, Env.get_cons, putE, binA, intBin, unA, AV.fit, AV.toCells, partC, partP, mkCells, allP, mkAgg, Cells.len, target, evParts, fillA, AV.cells, splice, spliceC, finA, leaveA, resA, resV, ansV, drawExec, drawRun, stillOp, keepE, readsOf, isE, opds, tmpsOf, carry, refOf, refV, valsOp, oneH, wrIds, okRW, bef, isFree, between, touch, collect, idsL, idsV, idsO, lenA, idxA, h.t16]; rfl, ⟨by simp [Env.get_cons, h.t0], by simp [Env.get_cons, h.t6], by simp [Env.get_cons, h.t10], by simp [Env.get_cons, h.t12], by simp [Env.get_cons, h.t14], by simp [Env.get_cons, h.t15], by simp [Env.get_cons], by simp [Env.get_cons, h.t17]⟩⟩
  | false =>
    exact ⟨_, by simp [d6b_lit, exec, runOps, wantedA, stepOp, pureOp, allocOp, readOp, effOp, ev, evs, evO, Env.get_cons, putE, binA, intBin, unA, AV.fit, AV.toCells, partC, partP, mkCells, allP, mkAgg, Cells.len, target, evParts, fillA, AV.cells, splice, spliceC, finA, leaveA, resA, resV, ansV, drawExec, drawRun, stillOp, keepE, readsOf, isE, opds, tmpsOf, carry, refOf, refV, valsOp, oneH, wrIds, okRW, bef, isFree, between, touch, collect, idsL, idsV, idsO, lenA, idxA, h.t16, h.t0, h.t12, h.t17, hi1, hi', d1, d3, ho, hq]; rfl, ⟨by simp [Env.get_cons, h.t0], by simp [Env.get_cons, h.t6], by simp [Env.get_cons, h.t10], by simp [Env.get_cons, h.t12], by simp [Env.get_cons, h.t14], by simp [Env.get_cons, h.t15], by simp [Env.get_cons], by simp [Env.get_cons, h.t17]⟩⟩
end
end Go.Ab.Cnt

/- EvalCounts: the law: one round of its loop, whole. -/
set_option maxRecDepth 1000000
namespace Go.Ab.Cnt
open Go Go.Ab Go.Ab.Key Go.Proofs
variable [Marks]
theorem dr_keep {C : Oracle} {t : Nat} : ∀ {ops : List AOper} {i : Nat} {s s' : Tr}, (∀ o ∈ ops, o.dst ≠ some t) → drawRun C i ops s = some (none, s') → s'.st.env.get t = s.st.env.get t
  | [], i, s, s', _, h => by
    simp only [drawRun, Option.some.injEq, Prod.mk.injEq, true_and] at h
    rw [h]
  | o :: r, i, s, s', hl, h => by
    have h0 := hl o (List.mem_cons_self ..)
    have hr := fun o' ho' => hl o' (List.mem_cons_of_mem _ ho')
    simp only [drawRun] at h
    split at h
    · contradiction
    · rw [dr_keep hr h]; exact putE_keep h0
    · split at h
      · split at h
        · rw [dr_keep hr h]
          simp only [carry]
          split
          · rename_i d hd
            have hdt : ¬ d = t := fun e => h0 (by rw [hd, e])
            split <;> rw [Env.get_cons, if_neg hdt]
          · rfl
        · cases h
        · contradiction
      · split at h
        · rw [dr_keep hr h]; exact putE_keep h0
        · rw [dr_keep hr h]; exact putE_keep h0
        · contradiction
theorem dr_above {C : Oracle} {ops : List AOper} {i m : Nat} {s s' : Tr} (h : drawRun C i ops s = some (none, s')) (hl : above m m ops = true) (t : Nat) (ht : t < m) : s'.st.env.get t = s.st.env.get t := by
  refine dr_keep (fun o ho hd => ?_) h
  have := List.all_eq_true.1 hl o ho
  rw [hd] at this
  simp only [Bool.or_eq_true] at this
  rcases this with h1 | h1
  · exact absurd (Nat.le_of_ble_eq_true h1) (by omega)
  · have := Nat.eq_of_beq_eq_true h1
    omega
theorem dr_app {C : Oracle} {b : List AOper} : ∀ {a : List AOper} {i : Nat} {s s' : Tr}, drawRun C i a s = some (none, s') → drawRun C i (a ++ b) s = drawRun C (i + a.length) b s'
  | [], i, s, s', h => by
    simp only [drawRun, Option.some.injEq, Prod.mk.injEq, true_and] at h
    rw [← h]; rfl
  | o :: r, i, s, s', h => by
    have e : i + (o :: r).length = i + 1 + r.length := by simp; omega
    rw [e]
    simp only [drawRun, List.cons_append] at h ⊢
    split at h
    · contradiction
    · exact dr_app h
    · split at h
      · split at h
        · exact dr_app h
        · cases h
        · contradiction
      · split at h
        · exact dr_app h
        · exact dr_app h
        · contradiction
/-- what was read lay there before, and no call could change it -/
def okP (n : Nat) (R : List (Nat × Nat)) (W : List (Nat × Nat × List Nat)) : Prop := (∀ r ∈ R, r.2 < n) ∧ ∀ x ∈ W, x.2.1 = n ∧ x.2.2 = []
theorem okP_ok {n : Nat} {R : List (Nat × Nat)} {W : List (Nat × Nat × List Nat)} (h : okP n R W) (st : St) (anc : List Nat) (ops : List AOper) : okRW anc ops ⟨st, R, W⟩ = true := by
  simp only [okRW, List.all_eq_true]
  intro r hr x hx
  have h1 := h.1 r hr
  obtain ⟨h2, h3⟩ := h.2 x hx
  rw [← h2] at h1
  simp [h1, h3]
theorem draw_ok {C : Oracle} {L n : Nat} {anc : List Nat} {ops : List AOper} {st st' : St} {R : List (Nat × Nat)} {W : List (Nat × Nat × List Nat)} {k : Nat} (h : drawRun C 0 ops ⟨st, [], []⟩ = some (none, ⟨st', R, W⟩)) (hp : okP k R W) : exec C L (.draw n anc ops) st = some (.normal, st') := by
  simp only [exec, drawExec, h, okP_ok hp, if_true]
def c6_1 : List AOper := [{ dst := some 137, op := AOp.mv (Opd.t 0), guard := none }, { dst := some 138, op := AOp.mv (Opd.t 17), guard := none }, { dst := some 139, op := AOp.idx 4 (Opd.t 137) (Opd.t 138), guard := none }, { dst := some 140, op := AOp.fieldAddr 0 (Opd.t 139), guard := none }, { dst := some 141, op := AOp.load false 1 (Opd.t 140), guard := none }, { dst := some 142, op := AOp.bin (Bin.plain BinOp.neq) (Opd.t 141) (Opd.c (AV.p (PV.int IntKind.i64 (0)))), guard := none }, { dst := some 143, op := AOp.mv (Opd.t 142), guard := none }]
def c6_2 : List AOper := [{ dst := some 144, op := AOp.mv (Opd.t 0), guard := some (143, true) }, { dst := some 145, op := AOp.mv (Opd.t 17), guard := some (143, true) }, { dst := some 146, op := AOp.idx 4 (Opd.t 144) (Opd.t 145), guard := some (143, true) }, { dst := some 147, op := AOp.load true 4 (Opd.t 146), guard := some (143, true) }, { dst := some 148, op := AOp.load true 4 (Opd.t 10), guard := some (143, true) }]
def c6_3 : List AOper := [{ dst := some 149, op := AOp.call (Opd.c (AV.p (PV.fn 20))) [Opd.t 147, Opd.t 148], guard := some (143, true) }, { dst := some 150, op := AOp.bin (Bin.plain BinOp.lss) (Opd.t 149) (Opd.c (AV.p (PV.int IntKind.i64 (0)))), guard := some (143, true) }, { dst := some 151, op := AOp.mv (Opd.t 150), guard := some (143, true) }]
def c6_4 : List AOper := [{ dst := some 152, op := AOp.mv (Opd.t 0), guard := some (151, false) }, { dst := some 153, op := AOp.mv (Opd.t 17), guard := some (151, false) }, { dst := some 154, op := AOp.idx 4 (Opd.t 152) (Opd.t 153), guard := some (151, false) }, { dst := some 155, op := AOp.load true 4 (Opd.t 154), guard := some (151, false) }, { dst := some 156, op := AOp.load true 4 (Opd.t 12), guard := some (151, false) }]
def c6_5 : List AOper := [{ dst := some 157, op := AOp.call (Opd.c (AV.p (PV.fn 20))) [Opd.t 155, Opd.t 156], guard := some (151, false) }, { dst := some 158, op := AOp.bin (Bin.plain BinOp.gtr) (Opd.t 157) (Opd.c (AV.p (PV.int IntKind.i64 (0)))), guard := some (151, false) }, { dst := some 159, op := AOp.pick (Opd.t 151) (Opd.c (AV.p (PV.bool true))) (Opd.t 158), guard := some (143, true) }, { dst := some 160, op := AOp.pick (Opd.t 143) (Opd.t 159) (Opd.c (AV.p (PV.bool false))), guard := none }]
def anc6 : List Nat := [0, 0, 3, 7, 15, 31, 63, 127, 127, 511, 1023, 127, 4095, 8191, 16383, 32767, 32767, 131071, 262143, 32767, 1048575, 2097151, 4194303, 8388607]
theorem d6c_eq : d6c = .draw 24 anc6 (c6_1 ++ (c6_2 ++ (c6_3 ++ (c6_4 ++ c6_5)))) := rfl
theorem kind4 (v : V) : ∃ k x1 x2 x3, vc v = [.int .i64 k, x1, x2, x3] ∧ (k = 0 ↔ isNull v = true) := by
  cases v <;> exact ⟨_, _, _, _, rfl, by simp [isNull]⟩
section
variable (C : Oracle) (L : Nat) (x : List V) (lo hi : V) (σ : Heap) (i : Nat) (v : V)
theorem ch1 (ρ : Env) (hv : x[i]? = some v) (t0 : ρ.get 0 = some (.p (.vsl (vcs x) x.length))) (t17 : ρ.get 17 = some (.p (.int .i64 (i : Int)))) (R : List (Nat × Nat)) (W : List (Nat × Nat × List Nat)) (hp : okP σ.length R W) :
    ∃ ρ' R' W', drawRun C 0 c6_1 ⟨⟨ρ, [], σ⟩, R, W⟩ = some (none, ⟨⟨ρ', [], σ⟩, R', W'⟩) ∧ okP σ.length R' W' ∧ ρ'.get 143 = some (.p (.bool !(isNull v))) := by
  have hi1 : i < x.length := (List.getElem?_eq_some_iff.1 hv).1
  have hi' : (i : Int) < (x.length : Int) := by omega
  have d1 := flat_v x i _ hv
  have d3 : 4 ≤ (vcs x).length - i * 4 := by rw [vcs_len]; omega
  obtain ⟨k, x1, x2, x3, hx, hk⟩ := kind4 v
  rw [hx] at d1
  have d0 : (vcs x)[i * 4]? = some (.int .i64 k) := by
    have : (List.take 4 (List.drop (i * 4) (vcs x)))[0]? = some (.int .i64 k) := by rw [d1]; rfl
    rw [List.getElem?_take_of_lt (by omega), List.getElem?_drop] at this
    simpa using this
  by_cases hn : isNull v = true
  · have hk0 := hk.2 hn
    subst hk0
    rw [hn]
    exact ⟨_, R, W, by simp [c6_1, exec, runOps, wantedA, stepOp, pureOp, allocOp, readOp, effOp, ev, evs, evO, Env.get_cons, putE, binA, intBin, unA, AV.fit, AV.toCells, partC, partP, mkCells, allP, mkAgg, Cells.len, target, evParts, fillA, AV.cells, splice, spliceC, finA, leaveA, resA, resV, ansV, drawRun, stillOp, keepE, readsOf, isE, opds, tmpsOf, carry, refOf, refV, valsOp, oneH, wrIds, touch, collect, idsL, idsV, idsO, lenA, idxA, t0, t17, hi1, hi', d0, d1, d3, eqP]; rfl, hp, by simp [Env.get_cons]⟩
  · have hk0 : ¬ k = 0 := fun e => hn (hk.1 e)
    have hkb : (k == 0) = false := beq_eq_false_iff_ne.2 hk0
    have hn' : isNull v = false := by simpa using hn
    rw [hn']
    exact ⟨_, R, W, by simp [c6_1, exec, runOps, wantedA, stepOp, pureOp, allocOp, readOp, effOp, ev, evs, evO, Env.get_cons, putE, binA, intBin, unA, AV.fit, AV.toCells, partC, partP, mkCells, allP, mkAgg, Cells.len, target, evParts, fillA, AV.cells, splice, spliceC, finA, leaveA, resA, resV, ansV, drawRun, stillOp, keepE, readsOf, isE, opds, tmpsOf, carry, refOf, refV, valsOp, oneH, wrIds, touch, collect, idsL, idsV, idsO, lenA, idxA, t0, t17, hi1, hi', d0, d1, d3, eqP, hk0, ↓hkb]; rfl, hp, by simp [Env.get_cons, hk0]⟩
theorem okP_r {n : Nat} {R : List (Nat × Nat)} {W : List (Nat × Nat × List Nat)} (h : okP n R W) (a b : Nat) (hb : b < n) : okP n ((a, b) :: R) W :=
  ⟨fun r hr => (List.mem_cons.1 hr).elim (fun e => by rw [e]; exact hb) (h.1 r), h.2⟩
theorem okP_w {n : Nat} {R : List (Nat × Nat)} {W : List (Nat × Nat × List Nat)} (h : okP n R W) (a : Nat) : okP n R ((a, n, []) :: W) :=
  ⟨h.1, fun r hr => (List.mem_cons.1 hr).elim (fun e => by rw [e]; exact ⟨rfl, rfl⟩) (h.2 r)⟩
theorem ch2 (ρ : Env) (hv : x[i]? = some v) (t0 : ρ.get 0 = some (.p (.vsl (vcs x) x.length))) (t17 : ρ.get 17 = some (.p (.int .i64 (i : Int)))) (tp : ρ.get 10 = some (.ptr 3 0 0)) (ho : σ[3]? = some (.arr (.pv (vc lo)) 0 0 (some 30))) (hg : ρ.get 143 = some (.p (.bool true))) (R : List (Nat × Nat)) (W : List (Nat × Nat × List Nat)) (hp : okP σ.length R W) :
    ∃ ρ' R' W', drawRun C 7 c6_2 ⟨⟨ρ, [], σ⟩, R, W⟩ = some (none, ⟨⟨ρ', [], σ⟩, R', W'⟩) ∧ okP σ.length R' W' ∧ ρ'.get 147 = some (.p (.agg (vc v))) ∧ ρ'.get 148 = some (.p (.agg (vc lo))) := by
  have hi1 : i < x.length := (List.getElem?_eq_some_iff.1 hv).1
  have hi' : (i : Int) < (x.length : Int) := by omega
  have d1 := flat_v x i _ hv
  have d3 : 4 ≤ (vcs x).length - i * 4 := by rw [vcs_len]; omega
  obtain ⟨x0, x1, x2, x3, hx⟩ := four v
  obtain ⟨y0, y1, y2, y3, hy⟩ := four lo
  have hlt : 3 < σ.length := (List.getElem?_eq_some_iff.1 ho).1
  rw [hx] at d1 ⊢
  rw [hy] at ho ⊢
  exact ⟨_, (11, 3) :: R, W, by simp [c6_2, exec, runOps, wantedA, stepOp, pureOp, allocOp, readOp, effOp, ev, evs, evO, Env.get_cons, putE, binA, intBin, unA, AV.fit, AV.toCells, partC, partP, mkCells, allP, mkAgg, Cells.len, target, evParts, fillA, AV.cells, splice, spliceC, finA, leaveA, resA, resV, ansV, drawRun, stillOp, keepE, readsOf, isE, opds, tmpsOf, carry, refOf, refV, valsOp, oneH, wrIds, touch, collect, idsL, idsV, idsO, lenA, idxA, t0, t17, tp, hg, ho, hi1, hi', d1, d3]; rfl, okP_r hp _ _ hlt, by simp [Env.get_cons], by simp [Env.get_cons]⟩
theorem sk2 (ρ : Env) (hg : ρ.get 143 = some (.p (.bool false))) (R : List (Nat × Nat)) (W : List (Nat × Nat × List Nat)) :
    ∃ ρ', drawRun C 7 c6_2 ⟨⟨ρ, [], σ⟩, R, W⟩ = some (none, ⟨⟨ρ', [], σ⟩, R, W⟩) := by
  exact ⟨_, by simp [c6_2, exec, runOps, wantedA, stepOp, pureOp, allocOp, readOp, effOp, ev, evs, evO, Env.get_cons, putE, binA, intBin, unA, AV.fit, AV.toCells, partC, partP, mkCells, allP, mkAgg, Cells.len, target, drawRun, stillOp, keepE, readsOf, isE, opds, tmpsOf, carry, refOf, refV, valsOp, oneH, wrIds, touch, collect, idsL, idsV, idsO, hg]; rfl⟩
theorem ch3 (ρ : Env) (j : Int) (hj : ¬ j < 0) (hg : ρ.get 143 = some (.p (.bool true))) (ta : ρ.get 147 = some (.p (.agg (vc v)))) (tb : ρ.get 148 = some (.p (.agg (vc lo)))) (hC : C 20 [.p (.agg (vc v)), .p (.agg (vc lo))] σ = some (.ret (.p (.int .i64 j)), σ)) (R : List (Nat × Nat)) (W : List (Nat × Nat × List Nat)) (hp : okP σ.length R W) :
    ∃ ρ' R' W', drawRun C 12 c6_3 ⟨⟨ρ, [], σ⟩, R, W⟩ = some (none, ⟨⟨ρ', [], σ⟩, R', W'⟩) ∧ okP σ.length R' W' ∧ ρ'.get 151 = some (.p (.bool false)) := by
  exact ⟨_, R, (12, σ.length, []) :: W, by simp [c6_3, exec, runOps, wantedA, stepOp, pureOp, allocOp, readOp, effOp, ev, evs, evO, Env.get_cons, putE, binA, intBin, unA, AV.fit, AV.toCells, partC, partP, mkCells, allP, mkAgg, Cells.len, target, evParts, fillA, AV.cells, splice, spliceC, finA, leaveA, resA, resV, ansV, drawRun, stillOp, keepE, readsOf, isE, opds, tmpsOf, carry, refOf, refV, valsOp, oneH, wrIds, touch, collect, idsL, idsV, idsO, hg, ta, tb, hC, hj]; rfl, okP_w hp _, by simp [Env.get_cons]⟩
theorem sk3 (ρ : Env) (hg : ρ.get 143 = some (.p (.bool false))) (R : List (Nat × Nat)) (W : List (Nat × Nat × List Nat)) :
    ∃ ρ', drawRun C 12 c6_3 ⟨⟨ρ, [], σ⟩, R, W⟩ = some (none, ⟨⟨ρ', [], σ⟩, R, W⟩) ∧ ρ'.get 151 = some (.p .undef) := by
  exact ⟨_, by simp [c6_3, exec, runOps, wantedA, stepOp, pureOp, allocOp, readOp, effOp, ev, evs, evO, Env.get_cons, putE, binA, intBin, unA, AV.fit, AV.toCells, partC, partP, mkCells, allP, mkAgg, Cells.len, target, drawRun, stillOp, keepE, readsOf, isE, opds, tmpsOf, carry, refOf, refV, valsOp, oneH, wrIds, touch, collect, idsL, idsV, idsO, hg]; rfl, by simp [Env.get_cons]⟩
theorem ch4 (ρ : Env) (hv : x[i]? = some v) (t0 : ρ.get 0 = some (.p (.vsl (vcs x) x.length))) (t17 : ρ.get 17 = some (.p (.int .i64 (i : Int)))) (tp : ρ.get 12 = some (.ptr 4 0 0)) (ho : σ[4]? = some (.arr (.pv (vc hi)) 0 0 (some 30))) (hg : ρ.get 151 = some (.p (.bool false))) (R : List (Nat × Nat)) (W : List (Nat × Nat × List Nat)) (hp : okP σ.length R W) :
    ∃ ρ' R' W', drawRun C 15 c6_4 ⟨⟨ρ, [], σ⟩, R, W⟩ = some (none, ⟨⟨ρ', [], σ⟩, R', W'⟩) ∧ okP σ.length R' W' ∧ ρ'.get 155 = some (.p (.agg (vc v))) ∧ ρ'.get 156 = some (.p (.agg (vc hi))) := by
  have hi1 : i < x.length := (List.getElem?_eq_some_iff.1 hv).1
  have hi' : (i : Int) < (x.length : Int) := by omega
  have d1 := flat_v x i _ hv
  have d3 : 4 ≤ (vcs x).length - i * 4 := by rw [vcs_len]; omega
  obtain ⟨x0, x1, x2, x3, hx⟩ := four v
  obtain ⟨y0, y1, y2, y3, hy⟩ := four hi
  have hlt : 4 < σ.length := (List.getElem?_eq_some_iff.1 ho).1
  rw [hx] at d1 ⊢
  rw [hy] at ho ⊢
  exact ⟨_, (19, 4) :: R, W, by simp [c6_4, exec, runOps, wantedA, stepOp, pureOp, allocOp, readOp, effOp, ev, evs, evO, Env.get_cons, putE, binA, intBin, unA, AV.fit, AV.toCells, partC, partP, mkCells, allP, mkAgg, Cells.len, target, evParts, fillA, AV.cells, splice, spliceC, finA, leaveA, resA, resV, ansV, drawRun, stillOp, keepE, readsOf, isE, opds, tmpsOf, carry, refOf, refV, valsOp, oneH, wrIds, touch, collect, idsL, idsV, idsO, lenA, idxA, t0, t17, tp, hg, ho, hi1, hi', d1, d3]; rfl, okP_r hp _ _ hlt, by simp [Env.get_cons], by simp [Env.get_cons]⟩
theorem sk4 (ρ : Env) (hg : ρ.get 151 = some (.p .undef)) (R : List (Nat × Nat)) (W : List (Nat × Nat × List Nat)) :
    ∃ ρ', drawRun C 15 c6_4 ⟨⟨ρ, [], σ⟩, R, W⟩ = some (none, ⟨⟨ρ', [], σ⟩, R, W⟩) := by
  exact ⟨_, by simp [c6_4, exec, runOps, wantedA, stepOp, pureOp, allocOp, readOp, effOp, ev, evs, evO, Env.get_cons, putE, binA, intBin, unA, AV.fit, AV.toCells, partC, partP, mkCells, allP, mkAgg, Cells.len, target, drawRun, stillOp, keepE, readsOf, isE, opds, tmpsOf, carry, refOf, refV, valsOp, oneH, wrIds, touch, collect, idsL, idsV, idsO, hg]; rfl⟩
theorem ch5 (ρ : Env) (j : Int) (hj : ¬ 0 < j) (h1 : ρ.get 143 = some (.p (.bool true))) (hg : ρ.get 151 = some (.p (.bool false))) (ta : ρ.get 155 = some (.p (.agg (vc v)))) (tb : ρ.get 156 = some (.p (.agg (vc hi)))) (hC : C 20 [.p (.agg (vc v)), .p (.agg (vc hi))] σ = some (.ret (.p (.int .i64 j)), σ)) (R : List (Nat × Nat)) (W : List (Nat × Nat × List Nat)) (hp : okP σ.length R W) :
    ∃ ρ' R' W', drawRun C 20 c6_5 ⟨⟨ρ, [], σ⟩, R, W⟩ = some (none, ⟨⟨ρ', [], σ⟩, R', W'⟩) ∧ okP σ.length R' W' ∧ ρ'.get 160 = some (.p (.bool false)) := by
  exact ⟨_, R, (20, σ.length, []) :: W, by simp [c6_5, exec, runOps, wantedA, stepOp, pureOp, allocOp, readOp, effOp, ev, evs, evO, Env.get_cons, putE, binA, intBin, unA, AV.fit, AV.toCells, partC, partP, mkCells, allP, mkAgg, Cells.len, target, evParts, fillA, AV.cells, splice, spliceC, finA, leaveA, resA, resV, ansV, drawRun, stillOp, keepE, readsOf, isE, opds, tmpsOf, carry, refOf, refV, valsOp, oneH, wrIds, touch, collect, idsL, idsV, idsO, hg, h1, ta, tb, hC, hj]; rfl, okP_w hp _, by simp [Env.get_cons]⟩
theorem sk5 (ρ : Env) (hg : ρ.get 151 = some (.p .undef)) (h1 : ρ.get 143 = some (.p (.bool false))) (R : List (Nat × Nat)) (W : List (Nat × Nat × List Nat)) :
    ∃ ρ', drawRun C 20 c6_5 ⟨⟨ρ, [], σ⟩, R, W⟩ = some (none, ⟨⟨ρ', [], σ⟩, R, W⟩) ∧ ρ'.get 160 = some (.p (.bool false)) := by
  exact ⟨_, by simp [c6_5, exec, runOps, wantedA, stepOp, pureOp, allocOp, readOp, effOp, ev, evs, evO, Env.get_cons, putE, binA, intBin, unA, AV.fit, AV.toCells, partC, partP, mkCells, allP, mkAgg, Cells.len, target, drawRun, stillOp, keepE, readsOf, isE, opds, tmpsOf, carry, refOf, refV, valsOp, oneH, wrIds, touch, collect, idsL, idsV, idsO, hg, h1]; rfl, by simp [Env.get_cons]⟩
theorem AtL.of {ρ ρ' : Env} {b1 b2 : Bool} (h : AtL x ρ i b1 b2) (hk : ∀ t, t < 28 → ρ'.get t = ρ.get t) : AtL x ρ' i b1 b2 :=
  ⟨by rw [hk 0 (by omega)]; exact h.t0, by rw [hk 6 (by omega)]; exact h.t6, by rw [hk 10 (by omega)]; exact h.t10, by rw [hk 12 (by omega)]; exact h.t12, by rw [hk 14 (by omega)]; exact h.t14, by rw [hk 15 (by omega)]; exact h.t15, by rw [hk 16 (by omega)]; exact h.t16, by rw [hk 17 (by omega)]; exact h.t17⟩
theorem c6_len : c6_1.length = 7 ∧ c6_2.length = 5 ∧ c6_3.length = 3 ∧ c6_4.length = 5 := ⟨rfl, rfl, rfl, rfl⟩
theorem run_c (hσ : HpL lo hi σ) (ρ : Env) (b1 b2 : Bool) (hv : x[i]? = some v) (h : AtL x ρ i b1 b2)
    (hN : isNull v = true ∨ (ordV v lo ≠ .lt ∧ ordV v hi ≠ .gt))
    (hC1 : C 20 [.p (.agg (vc v)), .p (.agg (vc lo))] σ = some (.ret (.p (.int .i64 (ordI (ordV v lo)))), σ))
    (hC2 : C 20 [.p (.agg (vc v)), .p (.agg (vc hi))] σ = some (.ret (.p (.int .i64 (ordI (ordV v hi)))), σ)) :
    ∃ ρ', exec C L d6c ⟨ρ, [], σ⟩ = some (.normal, ⟨ρ', [], σ⟩) ∧ AtL x ρ' i b1 b2 ∧ ρ'.get 160 = some (.p (.bool false)) := by
  rw [d6c_eq]
  obtain ⟨ρ1, R1, W1, e1, p1, g1⟩ := ch1 C x σ i v ρ hv h.t0 h.t17 [] [] ⟨fun r hr => by simp at hr, fun r hr => by simp at hr⟩
  have k1 := dr_above (m := 137) e1 (by rfl)
  by_cases hn : isNull v = true
  · rw [hn] at g1
    have g1 : ρ1.get 143 = some (.p (.bool false)) := g1
    obtain ⟨ρ2, e2⟩ := sk2 C σ ρ1 g1 R1 W1
    have k2 := dr_above (m := 144) e2 (by rfl)
    have g2 : ρ2.get 143 = some (.p (.bool false)) := (k2 143 (by omega)).trans g1
    obtain ⟨ρ3, e3, g3⟩ := sk3 C σ ρ2 g2 R1 W1
    have k3 := dr_above (m := 149) e3 (by rfl)
    obtain ⟨ρ4, e4⟩ := sk4 C σ ρ3 g3 R1 W1
    have k4 := dr_above (m := 152) e4 (by rfl)
    have g4 : ρ4.get 151 = some (.p .undef) := (k4 151 (by omega)).trans g3
    have g4' : ρ4.get 143 = some (.p (.bool false)) := (k4 143 (by omega)).trans ((k3 143 (by omega)).trans g2)
    obtain ⟨ρ5, e5, g5⟩ := sk5 C σ ρ4 g4 g4' R1 W1
    have k5 := dr_above (m := 157) e5 (by rfl)
    refine ⟨ρ5, draw_ok ?_ p1, AtL.of x i h fun t ht => ?_, g5⟩
    · exact (dr_app e1).trans ((dr_app e2).trans ((dr_app e3).trans ((dr_app e4).trans e5)))
    · exact (k5 t (by omega)).trans ((k4 t (by omega)).trans ((k3 t (by omega)).trans ((k2 t (by omega)).trans (k1 t (by omega)))))
  · have hn' : isNull v = false := by simpa using hn
    rw [hn'] at g1
    have g1 : ρ1.get 143 = some (.p (.bool true)) := g1
    rcases hN with hN | ⟨hN1, hN2⟩
    · exact absurd hN hn
    have o1 : ¬ ordI (ordV v lo) < 0 := by
      cases hh : ordV v lo <;> simp [ordI]
      exact hN1 hh
    have o2 : ¬ 0 < ordI (ordV v hi) := by
      cases hh : ordV v hi <;> simp [ordI]
      exact hN2 hh
    have a1 := AtL.of x i h fun t ht => k1 t (by omega)
    obtain ⟨ρ2, R2, W2, e2, p2, u2, w2⟩ := ch2 C x lo σ i v ρ1 hv a1.t0 a1.t17 a1.t10 hσ.o3 g1 R1 W1 p1
    have k2 := dr_above (m := 144) e2 (by rfl)
    have g2 : ρ2.get 143 = some (.p (.bool true)) := (k2 143 (by omega)).trans g1
    have a2 := AtL.of x i a1 fun t ht => k2 t (by omega)
    obtain ⟨ρ3, R3, W3, e3, p3, g3⟩ := ch3 C lo σ v ρ2 _ o1 g2 u2 w2 hC1 R2 W2 p2
    have k3 := dr_above (m := 149) e3 (by rfl)
    have a3 := AtL.of x i a2 fun t ht => k3 t (by omega)
    have g3' : ρ3.get 143 = some (.p (.bool true)) := (k3 143 (by omega)).trans g2
    obtain ⟨ρ4, R4, W4, e4, p4, u4, w4⟩ := ch4 C x hi σ i v ρ3 hv a3.t0 a3.t17 a3.t12 hσ.o4 g3 R3 W3 p3
    have k4 := dr_above (m := 152) e4 (by rfl)
    have a4 := AtL.of x i a3 fun t ht => k4 t (by omega)
    have g4 : ρ4.get 151 = some (.p (.bool false)) := (k4 151 (by omega)).trans g3
    have g4' : ρ4.get 143 = some (.p (.bool true)) := (k4 143 (by omega)).trans g3'
    obtain ⟨ρ5, R5, W5, e5, p5, g5⟩ := ch5 C hi σ v ρ4 _ o2 g4' g4 u4 w4 hC2 R4 W4 p4
    have k5 := dr_above (m := 157) e5 (by rfl)
    refine ⟨ρ5, draw_ok ?_ p5, AtL.of x i a4 fun t ht => k5 t (by omega), g5⟩
    exact (dr_app e1).trans ((dr_app e2).trans ((dr_app e3).trans ((dr_app e4).trans e5)))
/-- a round -/
theorem go6 (hσ : HpL lo hi σ) (ρ : Env) (b1 b2 : Bool) (hv : x[i]? = some v) (hm : x.length ≤ 9223372036854775807) (h : AtL x ρ i b1 b2)
    (hN : isNull v = true ∨ (ordV v lo ≠ .lt ∧ ordV v hi ≠ .gt))
    (hC1 : C 20 [.p (.agg (vc v)), .p (.agg (vc lo))] σ = some (.ret (.p (.int .i64 (ordI (ordV v lo)))), σ))
    (hC2 : C 20 [.p (.agg (vc v)), .p (.agg (vc hi))] σ = some (.ret (.p (.int .i64 (ordI (ordV v hi)))), σ)) :
    ∃ ρ', exec C L body6 ⟨ρ, [], σ⟩ = some (.normal, ⟨ρ', [], σ⟩) ∧ AtL x ρ' (i + 1) (b1 || decide (v = lo)) (b2 || decide (v = hi)) := by
  have hi1 : i < x.length := (List.getElem?_eq_some_iff.1 hv).1
  have hi' : (i : Int) < (x.length : Int) := by omega
  have e1 : IntKind.i64.wrap ((i : Int) + 1) = ((i + 1 : Nat) : Int) := by rw [wrap_id _ (by omega) (by omega)]; omega
  have eh : ∃ ρ', exec C L head6 ⟨ρ, [], σ⟩ = some (.normal, ⟨ρ', [], σ⟩) ∧ AtL x ρ' i b1 b2 :=
    ⟨_, by simp [head6, fstC, body6, exec, runOps, wantedA, stepOp, pureOp, allocOp, readOp, effOp, ev, evs, evO, Env.get_cons, putE, binA, intBin, unA, AV.fit, AV.toCells, partC, partP, mkCells, allP, mkAgg, Cells.len, target, lenA, h.t0, h.t17, hi']; rfl, ⟨by simp [Env.get_cons, h.t0], by simp [Env.get_cons, h.t6], by simp [Env.get_cons, h.t10], by simp [Env.get_cons, h.t12], by simp [Env.get_cons, h.t14], by simp [Env.get_cons, h.t15], by simp [Env.get_cons, h.t16], by simp [Env.get_cons, h.t17]⟩⟩
  obtain ⟨ρ1, x1, a1⟩ := eh
  obtain ⟨ρ2, x2, a2⟩ := run_a C L x lo hi σ hσ ρ1 i b1 b2 v hv a1
  obtain ⟨ρ3, x3, a3⟩ := run_b C L x lo hi σ hσ ρ2 i _ b2 v hv a2
  obtain ⟨ρ4, x4, a4, g4⟩ := run_c C L x lo hi σ i v hσ ρ3 _ _ hv a3 hN hC1 hC2
  have x5 : exec C L c6 ⟨ρ4, [], σ⟩ = some (.normal, ⟨ρ4, [], σ⟩) := by simp [c6, in6, blkC, fstC, sndC, body6, exec, ev, g4]
  have es : ∃ ρ', exec C L step6 ⟨ρ4, [], σ⟩ = some (.normal, ⟨ρ', [], σ⟩) ∧ AtL x ρ' (i + 1) (b1 || decide (v = lo)) (b2 || decide (v = hi)) :=
    ⟨_, by simp [step6, sndC, body6, exec, runOps, wantedA, stepOp, pureOp, allocOp, readOp, effOp, ev, evs, evO, Env.get_cons, putE, binA, intBin, unA, AV.fit, AV.toCells, partC, partP, mkCells, allP, mkAgg, Cells.len, target, a4.t17, e1]; rfl, ⟨by simp [Env.get_cons, a4.t0], by simp [Env.get_cons, a4.t6], by simp [Env.get_cons, a4.t10], by simp [Env.get_cons, a4.t12], by simp [Env.get_cons, a4.t14], by simp [Env.get_cons, a4.t15], by simp [Env.get_cons, a4.t16], by simp [Env.get_cons]⟩⟩
  obtain ⟨ρ6, x6, a6⟩ := es
  refine ⟨ρ6, ?_, a6⟩
  rw [body6_eq]
  simp only [exec] at x1 x2 x3 x4 x5 x6 ⊢
  simp only [x1, x2, x3, x4, x5, x6]
theorem stop6 (ρ : Env) (b1 b2 : Bool) (h : AtL x ρ x.length b1 b2) :
    ∃ ρ', exec C L body6 ⟨ρ, [], σ⟩ = some (.exit 0, ⟨ρ', [], σ⟩) ∧ AtL x ρ' x.length b1 b2 := by
  have eh : ∃ ρ', exec C L head6 ⟨ρ, [], σ⟩ = some (.exit 0, ⟨ρ', [], σ⟩) ∧ AtL x ρ' x.length b1 b2 :=
    ⟨_, by simp [head6, fstC, body6, exec, runOps, wantedA, stepOp, pureOp, allocOp, readOp, effOp, ev, evs, evO, Env.get_cons, putE, binA, intBin, unA, AV.fit, AV.toCells, partC, partP, mkCells, allP, mkAgg, Cells.len, target, lenA, h.t0, h.t17]; rfl, ⟨by simp [Env.get_cons, h.t0], by simp [Env.get_cons, h.t6], by simp [Env.get_cons, h.t10], by simp [Env.get_cons, h.t12], by simp [Env.get_cons, h.t14], by simp [Env.get_cons, h.t15], by simp [Env.get_cons, h.t16], by simp [Env.get_cons, h.t17]⟩⟩
  obtain ⟨ρ1, x1, a1⟩ := eh
  refine ⟨ρ1, ?_, a1⟩
  rw [body6_eq]
  simp only [exec] at x1 ⊢
  simp only [x1]
end
end Go.Ab.Cnt
