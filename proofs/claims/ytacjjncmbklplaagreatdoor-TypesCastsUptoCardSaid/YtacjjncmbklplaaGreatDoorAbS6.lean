/- The laws on columns' values: what a column takes, by the program. -/
import Derived.Test.YtacjjncmbklplaaGreatDoorAbS3
set_option linter.unusedSectionVars false
set_option linter.unusedSimpArgs false
set_option linter.unusedVariables false
set_option maxRecDepth 1000000
namespace Go.Ab.Cols
open Go Go.Ab Go.Ab.Names
/-- the four kinds of values -/
def isVal (k n : Int) (s : List UInt8) (t : Bool) : Prop := (k = 0 ∧ n = 0 ∧ s = [] ∧ t = false) ∨ (k = 1 ∧ s = [] ∧ t = false) ∨ (k = 2 ∧ n = 0 ∧ t = false) ∨ (k = 3 ∧ n = 0 ∧ s = [])
section
variable (C : Oracle) (D : DOracle) (L : Nat) (b sz k n : Int) (s : List UInt8) (t : Bool)
theorem a14_none (h12 : ∀ σ, C 12 [.p (ty b sz)] σ = some (.ret (.p (.int .i64 0)), σ)) : ansV (runFunc C D L lit14 [.p (val k n s t), .p (ty b sz)] []) = some (.tup [null, mism]) := by
    unfold ty val at *
    simp [runFunc, lit14, params, exec, runOps, wantedA, stepOp, pureOp, allocOp, readOp, effOp, ev, evs, Env.get_cons, putE, binA, intBin, AV.fit, AV.toCells, partC, partP, mkCells, allP, mkAgg, Cells.len, target, h12]
    show _ = _
    kernel_rfl
theorem a14_null1 (h12 : ∀ σ, C 12 [.p (ty b sz)] σ = some (.ret (.p (.int .i64 1)), σ)) : ansV (runFunc C D L lit14 [.p (val 0 n s t), .p (ty b sz)] []) = some (.tup [null, done]) := by
    unfold ty val at *
    simp [runFunc, lit14, params, exec, runOps, wantedA, stepOp, pureOp, allocOp, readOp, effOp, ev, evs, Env.get_cons, putE, binA, intBin, AV.fit, AV.toCells, partC, partP, mkCells, allP, mkAgg, Cells.len, target, h12]
    show _ = _
    kernel_rfl
theorem a14_other1 (h12 : ∀ σ, C 12 [.p (ty b sz)] σ = some (.ret (.p (.int .i64 1)), σ)) (h0 : k ≠ 0) (hk : k ≠ 1) : ansV (runFunc C D L lit14 [.p (val k n s t), .p (ty b sz)] []) = some (.tup [null, mism]) := by
    have e0 : (k == 0) = false := by simp [h0]
    have ek : (k != 1) = true := by simp [hk]
    unfold ty val at *
    simp [runFunc, lit14, params, exec, runOps, wantedA, stepOp, pureOp, allocOp, readOp, effOp, ev, evs, Env.get_cons, putE, binA, intBin, AV.fit, AV.toCells, partC, partP, mkCells, allP, mkAgg, Cells.len, target, h12, e0, ek, -beq_eq_false_iff_ne, -bne_iff_ne, -beq_iff_eq]
    show _ = _
    kernel_rfl
theorem a14_null2 (h12 : ∀ σ, C 12 [.p (ty b sz)] σ = some (.ret (.p (.int .i64 2)), σ)) : ansV (runFunc C D L lit14 [.p (val 0 n s t), .p (ty b sz)] []) = some (.tup [null, done]) := by
    unfold ty val at *
    simp [runFunc, lit14, params, exec, runOps, wantedA, stepOp, pureOp, allocOp, readOp, effOp, ev, evs, Env.get_cons, putE, binA, intBin, AV.fit, AV.toCells, partC, partP, mkCells, allP, mkAgg, Cells.len, target, h12]
    show _ = _
    kernel_rfl
theorem a14_other2 (h12 : ∀ σ, C 12 [.p (ty b sz)] σ = some (.ret (.p (.int .i64 2)), σ)) (h0 : k ≠ 0) (hk : k ≠ 2) : ansV (runFunc C D L lit14 [.p (val k n s t), .p (ty b sz)] []) = some (.tup [null, mism]) := by
    have e0 : (k == 0) = false := by simp [h0]
    have ek : (k != 2) = true := by simp [hk]
    unfold ty val at *
    simp [runFunc, lit14, params, exec, runOps, wantedA, stepOp, pureOp, allocOp, readOp, effOp, ev, evs, Env.get_cons, putE, binA, intBin, AV.fit, AV.toCells, partC, partP, mkCells, allP, mkAgg, Cells.len, target, h12, e0, ek, -beq_eq_false_iff_ne, -bne_iff_ne, -beq_iff_eq]
    show _ = _
    kernel_rfl
theorem a14_null3 (h12 : ∀ σ, C 12 [.p (ty b sz)] σ = some (.ret (.p (.int .i64 3)), σ)) : ansV (runFunc C D L lit14 [.p (val 0 n s t), .p (ty b sz)] []) = some (.tup [null, done]) := by
    unfold ty val at *
    simp [runFunc, lit14, params, exec, runOps, wantedA, stepOp, pureOp, allocOp, readOp, effOp, ev, evs, Env.get_cons, putE, binA, intBin, AV.fit, AV.toCells, partC, partP, mkCells, allP, mkAgg, Cells.len, target, h12]
    show _ = _
    kernel_rfl
theorem a14_other3 (h12 : ∀ σ, C 12 [.p (ty b sz)] σ = some (.ret (.p (.int .i64 3)), σ)) (h0 : k ≠ 0) (hk : k ≠ 3) : ansV (runFunc C D L lit14 [.p (val k n s t), .p (ty b sz)] []) = some (.tup [null, mism]) := by
    have e0 : (k == 0) = false := by simp [h0]
    have ek : (k != 3) = true := by simp [hk]
    unfold ty val at *
    simp [runFunc, lit14, params, exec, runOps, wantedA, stepOp, pureOp, allocOp, readOp, effOp, ev, evs, Env.get_cons, putE, binA, intBin, AV.fit, AV.toCells, partC, partP, mkCells, allP, mkAgg, Cells.len, target, h12, e0, ek, -beq_eq_false_iff_ne, -bne_iff_ne, -beq_iff_eq]
    show _ = _
    kernel_rfl
theorem a14_bool (h12 : ∀ σ, C 12 [.p (ty b sz)] σ = some (.ret (.p (.int .i64 3)), σ)) : ansV (runFunc C D L lit14 [.p (val 3 n s t), .p (ty b sz)] []) = some (.tup [val 3 n s t, done]) := by
    unfold ty val at *
    simp [runFunc, lit14, params, exec, runOps, wantedA, stepOp, pureOp, allocOp, readOp, effOp, ev, evs, Env.get_cons, putE, binA, intBin, AV.fit, AV.toCells, partC, partP, mkCells, allP, Cells.len, target, h12]
    show _ = _
    kernel_rfl
theorem a14_num_true (h12 : ∀ σ, C 12 [.p (ty b sz)] σ = some (.ret (.p (.int .i64 1)), σ)) (h24 : ∀ σ, C 24 [.p (.int .i64 n), .p (ty b sz)] σ = some (.ret (.p (.tup [val 1 n [] false, done])), σ)) : ansV (runFunc C D L lit14 [.p (val 1 n s t), .p (ty b sz)] []) = some (.tup [val 1 n [] false, done]) := by
    unfold ty val at *
    simp [runFunc, lit14, params, exec, runOps, wantedA, stepOp, pureOp, allocOp, readOp, effOp, ev, evs, Env.get_cons, putE, binA, intBin, AV.fit, AV.toCells, partC, partP, mkCells, allP, mkAgg, Cells.len, target, h12]
    rw [h24]
    show _ = _
    kernel_rfl
theorem a14_num_false (h12 : ∀ σ, C 12 [.p (ty b sz)] σ = some (.ret (.p (.int .i64 1)), σ)) (h24 : ∀ σ, C 24 [.p (.int .i64 n), .p (ty b sz)] σ = some (.ret (.p (.tup [null, outOf])), σ)) : ansV (runFunc C D L lit14 [.p (val 1 n s t), .p (ty b sz)] []) = some (.tup [null, outOf]) := by
    unfold ty val at *
    simp [runFunc, lit14, params, exec, runOps, wantedA, stepOp, pureOp, allocOp, readOp, effOp, ev, evs, Env.get_cons, putE, binA, intBin, AV.fit, AV.toCells, partC, partP, mkCells, allP, mkAgg, Cells.len, target, h12]
    rw [h24]
    show _ = _
    kernel_rfl
theorem a14_short (h12 : ∀ σ, C 12 [.p (ty b sz)] σ = some (.ret (.p (.int .i64 2)), σ)) (h : (s.length : Int) ≤ sz) (u : List UInt8) (h26 : ∀ σ, C 26 [.p (.str s), .p (ty b sz)] σ = some (.ret (.p (.tup [val 2 0 u false, done])), σ)) : ansV (runFunc C D L lit14 [.p (val 2 n s t), .p (ty b sz)] []) = some (.tup [val 2 0 u false, done]) := by
    have hn : ¬ sz < (s.length : Int) := by omega
    unfold ty val at *
    simp [runFunc, lit14, params, exec, runOps, wantedA, stepOp, pureOp, allocOp, readOp, effOp, ev, evs, Env.get_cons, putE, binA, intBin, AV.fit, AV.toCells, partC, partP, mkCells, allP, mkAgg, Cells.len, target, h12, hn]
    rw [h26]
    show _ = _
    kernel_rfl
theorem a14_cut (h12 : ∀ σ, C 12 [.p (ty b sz)] σ = some (.ret (.p (.int .i64 2)), σ)) (h : sz < (s.length : Int)) (h0 : 0 ≤ sz) (h25 : ∀ σ, C 25 [.p (.str (s.drop sz.toNat)), .p (.str [32])] σ = some (.ret (.p (.str [])), σ)) (u : List UInt8) (h26 : ∀ σ, C 26 [.p (.str (s.take sz.toNat)), .p (ty b sz)] σ = some (.ret (.p (.tup [val 2 0 u false, done])), σ)) : ansV (runFunc C D L lit14 [.p (val 2 n s t), .p (ty b sz)] []) = some (.tup [val 2 0 u false, done]) := by
    have hl : sz ≤ (s.length : Int) := by omega
    have hl2 : sz.toNat ≤ s.length := by omega
    have e : (s.drop sz.toNat).take (s.length - sz.toNat) = s.drop sz.toNat := List.take_of_length_le (by simp)
    unfold ty val at *
    simp [runFunc, lit14, params, exec, runOps, wantedA, stepOp, pureOp, allocOp, readOp, effOp, ev, evs, evO, Env.get_cons, putE, binA, intBin, strBin, AV.fit, AV.toCells, partC, partP, mkCells, allP, mkAgg, Cells.len, target, h12, h, h0, hl, e, h25, sliceA, boundsA, boundA]
    rw [h26]
    show _ = _
    kernel_rfl
theorem a14_long (h12 : ∀ σ, C 12 [.p (ty b sz)] σ = some (.ret (.p (.int .i64 2)), σ)) (h : sz < (s.length : Int)) (h0 : 0 ≤ sz) (tr : List UInt8) (htr : (tr == []) = false) (h25 : ∀ σ, C 25 [.p (.str (s.drop sz.toNat)), .p (.str [32])] σ = some (.ret (.p (.str tr)), σ)) (h26 : ∀ σ, C 26 [.p (.str s), .p (ty b sz)] σ = some (.ret (.p (.tup [null, tooLong])), σ)) : ansV (runFunc C D L lit14 [.p (val 2 n s t), .p (ty b sz)] []) = some (.tup [null, tooLong]) := by
    have hl : sz ≤ (s.length : Int) := by omega
    have hl2 : sz.toNat ≤ s.length := by omega
    have e : (s.drop sz.toNat).take (s.length - sz.toNat) = s.drop sz.toNat := List.take_of_length_le (by simp)
    unfold ty val at *
    simp [runFunc, lit14, params, exec, runOps, wantedA, stepOp, pureOp, allocOp, readOp, effOp, ev, evs, evO, Env.get_cons, putE, binA, intBin, strBin, AV.fit, AV.toCells, partC, partP, mkCells, allP, mkAgg, Cells.len, target, h12, h, h0, hl, e, h25, htr, -beq_eq_false_iff_ne, -List.isEmpty_iff, -List.beq_nil_eq, sliceA, boundsA, boundA]
    rw [h26]
    show _ = _
    kernel_rfl
end

end Go.Ab.Cols

/- The laws on columns' values: what a column takes, by the program: all cases. -/
set_option maxRecDepth 1000000
namespace Go.Ab.Cols
open Go Go.Ab Go.Ab.Names
theorem padB_full (b sz : Int) (s : List UInt8) (h : sz.toNat ≤ s.length) : padB b sz s = s := by
  unfold padB
  split
  · rw [show sz.toNat - s.length = 0 from by omega]; simp
  · rfl
theorem assign14 (b sz k n : Int) (s : List UInt8) (t : Bool) (hv : isVal k n s t) (h1 : -9223372036854775808 ≤ n) (h2 : n ≤ 9223372036854775807) (hs : s.length ≤ 9223372036854775807) (L m : Nat) (σ : Heap) :
    (cAt TC L (m + 4)).1 14 [.p (val k n s t), .p (ty b sz)] σ = some (.ret (.p (.tup (assignZ b sz k n s t))), σ) := by
  refine call_ans (ps := [val k n s t, ty b sz]) (n := m + 3) (af := lit14) (fz := true) rfl (by kernel_rfl) ?_ σ
  have h12 := kind12 b sz L (m + 1)
  have h24 := fun hb r hr => ranged24 b hb n h1 h2 r hr L (m + 1)
  have h25 := fun (u : List UInt8) (hu : u.length ≤ 9223372036854775807) => trim25 u hu L (m + 2)
  have h26 := fun hb (u : List UInt8) (hu : (u.length : Int) ≤ sz) (hz : sz ≤ 100) => pad26 b sz hb u hu hz L (m + 1)
  have hl26 := fun (u : List UInt8) (hu : sz < (u.length : Int)) => long26 b sz u hu L (m + 1)
  generalize (cAt TC L (m + 3)).1 = C at h12 h24 h25 h26 hl26 ⊢
  generalize (cAt TC L (m + 3)).2 = D
  have hd : (s.drop sz.toNat).length ≤ 9223372036854775807 := by rw [List.length_drop]; omega
  unfold assignZ
  rcases kind_cases b sz with ⟨_, hk⟩ | ⟨hb, rfl, hk⟩ | ⟨hb, z1, z2, hk⟩ | ⟨rfl, rfl, hk⟩ <;> rw [hk] at h12 ⊢
  · exact a14_none C D L b sz k n s t h12
  · rw [if_neg (by decide)]
    rcases hv with ⟨rfl, rfl, rfl, rfl⟩ | ⟨rfl, rfl, rfl⟩ | ⟨rfl, rfl, rfl⟩ | ⟨rfl, rfl, rfl⟩
    · exact a14_null1 C D L b 0 0 _ _ h12
    · rw [if_neg (by decide), if_neg (by decide), if_pos rfl]
      cases hr : inR b n
      · exact a14_num_false C D L b 0 n _ _ h12 (h24 hb false hr)
      · exact a14_num_true C D L b 0 n _ _ h12 (h24 hb true hr)
    · exact a14_other1 C D L b 0 2 0 _ _ h12 (by decide) (by decide)
    · exact a14_other1 C D L b 0 3 0 _ _ h12 (by decide) (by decide)
  · rw [if_neg (by decide)]
    rcases hv with ⟨rfl, rfl, rfl, rfl⟩ | ⟨rfl, rfl, rfl⟩ | ⟨rfl, rfl, rfl⟩ | ⟨rfl, rfl, rfl⟩
    · exact a14_null2 C D L b sz 0 _ _ h12
    · exact a14_other2 C D L b sz 1 n _ _ h12 (by decide) (by decide)
    · rw [if_neg (by decide), if_neg (by decide), if_neg (by decide), if_pos rfl]
      by_cases hle : (s.length : Int) ≤ sz
      · rw [if_pos hle]
        exact a14_short C D L b sz 0 s _ h12 hle _ (h26 hb s hle z2)
      · rw [if_neg hle]
        by_cases htr : Lib.trimB (s.drop sz.toNat) 32 = []
        · rw [if_pos htr]
          have h25 := h25 _ hd
          rw [htr] at h25
          have hp := h26 hb (s.take sz.toNat) (by rw [List.length_take]; omega) z2
          rw [padB_full b sz _ (by rw [List.length_take]; omega)] at hp
          exact a14_cut C D L b sz 0 s _ h12 (by omega) (by omega) h25 _ hp
        · rw [if_neg htr]
          exact a14_long C D L b sz 0 s _ h12 (by omega) (by omega) _ (by simpa using htr) (h25 _ hd) (hl26 s (by omega))
    · exact a14_other2 C D L b sz 3 0 _ _ h12 (by decide) (by decide)
  · rw [if_neg (by decide)]
    rcases hv with ⟨rfl, rfl, rfl, rfl⟩ | ⟨rfl, rfl, rfl⟩ | ⟨rfl, rfl, rfl⟩ | ⟨rfl, rfl, rfl⟩
    · exact a14_null3 C D L 6 0 0 _ _ h12
    · exact a14_other3 C D L 6 0 1 n _ _ h12 (by decide) (by decide)
    · exact a14_other3 C D L 6 0 2 0 _ _ h12 (by decide) (by decide)
    · exact a14_bool C D L 6 0 0 _ t h12

end Go.Ab.Cols
