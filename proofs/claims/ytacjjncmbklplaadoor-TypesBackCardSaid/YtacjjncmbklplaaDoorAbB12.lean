/- The law TypesBack: a text cast to a number, or to a truth. -/
import Derived.Test.YtacjjncmbklplaaDoorAbB11
set_option maxRecDepth 1000000
namespace Go.Ab.Back
open Go Go.Ab
section
variable (C : Oracle) (D : DOracle) (L : Nat) (n : Int) (y s : List UInt8)
theorem c17_number (h12 : ∀ σ, C 11 [.p (ty 3 0)] σ = some (.ret (.p (.int .i64 1)), σ)) (h14 : ∀ σ, C 14 [.p (.str y), .p (.str [32])] σ = some (.ret (.p (.str s)), σ)) (h16 : ∀ σ, C 16 [.p (.str s), .p (ty 3 0)] σ = some (.ret (.p (.tup [val 1 n [] false, done])), σ)) :
    ansV (runFunc C D L lit17 [.p (val 2 0 y false), .p (ty 3 0)] []) = some (.tup [val 1 n [] false, done]) := by
  unfold ty val at *
  rw [runFunc_eq, front17_eq]
  unfold front17
  rw [seqN (a := .region _) (by simp [params, exec, runOps, wantedA, stepOp, pureOp, allocOp, ev, Env.get_cons, putE, AV.fit, AV.toCells, mkCells, allP, Cells.len]; rfl)]
  rw [seqN (a := .region _) (by simp [exec, runOps, wantedA, stepOp, pureOp, allocOp, readOp, ev, evs, Env.get_cons, putE, partC, partP, target, h12]; rfl)]
  rw [seqN (a := .block _ _) (by simp [blk17, exec, runOps, wantedA, stepOp, pureOp, allocOp, readOp, ev, Env.get_cons, putE, binA, intBin, partC, partP]; rfl)]
  unfold tail17
  rw [seqN (a := .region _) (by simp [exec, runOps, wantedA, stepOp, pureOp, allocOp, readOp, ev, evs, Env.get_cons, putE, partC, partP, target, h14]; rfl)]
  rw [seqN (a := .seq (.region _) (.cond _ _ _)) (by simp [exec, runOps, wantedA, stepOp, pureOp, ev, Env.get_cons, putE, binA, intBin]; rfl)]
  rw [seqN (a := .region _) (by simp [exec, runOps, wantedA, stepOp, pureOp, allocOp, readOp, effOp, ev, evs, Env.get_cons, putE, AV.fit, AV.toCells, partC, partP, Cells.len, target, extractA, spliceC, splice, h16]; rfl)]
  show _ = _
  kernel_rfl
theorem c17_word_true (h12 : ∀ σ, C 11 [.p (ty 6 0)] σ = some (.ret (.p (.int .i64 3)), σ)) (h14 : ∀ σ, C 14 [.p (.str y), .p (.str [32])] σ = some (.ret (.p (.str [84, 82, 85, 69])), σ)) (h15 : ∀ σ, C 15 [.p (.str [84, 82, 85, 69])] σ = some (.ret (.p (.str [116, 114, 117, 101])), σ)) :
    ansV (runFunc C D L lit17 [.p (val 2 0 y false), .p (ty 6 0)] []) = some (.tup [val 3 0 [] true, done]) := by
  unfold ty val at *
  rw [runFunc_eq, front17_eq]
  unfold front17
  rw [seqN (a := .region _) (by simp [params, exec, runOps, wantedA, stepOp, pureOp, allocOp, ev, Env.get_cons, putE, AV.fit, AV.toCells, mkCells, allP, Cells.len]; rfl)]
  rw [seqN (a := .region _) (by simp [exec, runOps, wantedA, stepOp, pureOp, allocOp, readOp, ev, evs, Env.get_cons, putE, partC, partP, target, h12]; rfl)]
  rw [seqN (a := .block _ _) (by simp [blk17, exec, runOps, wantedA, stepOp, pureOp, allocOp, readOp, ev, Env.get_cons, putE, binA, intBin, partC, partP]; rfl)]
  unfold tail17
  rw [seqN (a := .region _) (by simp [exec, runOps, wantedA, stepOp, pureOp, allocOp, readOp, ev, evs, Env.get_cons, putE, partC, partP, target, h14]; rfl)]
  rw [seqR (a := .seq (.region _) (.cond _ _ _)) (by simp [exec, runOps, wantedA, stepOp, pureOp, allocOp, readOp, effOp, ev, evs, Env.get_cons, putE, binA, intBin, strBin, AV.fit, AV.toCells, allP, mkAgg, Cells.len, target, evParts, fillA, spliceC, splice, AV.cells, h15]; rfl)]
  show _ = _
  kernel_rfl
theorem c17_word_false (h12 : ∀ σ, C 11 [.p (ty 6 0)] σ = some (.ret (.p (.int .i64 3)), σ)) (h14 : ∀ σ, C 14 [.p (.str y), .p (.str [32])] σ = some (.ret (.p (.str [70, 65, 76, 83, 69])), σ)) (h15 : ∀ σ, C 15 [.p (.str [70, 65, 76, 83, 69])] σ = some (.ret (.p (.str [102, 97, 108, 115, 101])), σ)) :
    ansV (runFunc C D L lit17 [.p (val 2 0 y false), .p (ty 6 0)] []) = some (.tup [val 3 0 [] false, done]) := by
  unfold ty val at *
  rw [runFunc_eq, front17_eq]
  unfold front17
  rw [seqN (a := .region _) (by simp [params, exec, runOps, wantedA, stepOp, pureOp, allocOp, ev, Env.get_cons, putE, AV.fit, AV.toCells, mkCells, allP, Cells.len]; rfl)]
  rw [seqN (a := .region _) (by simp [exec, runOps, wantedA, stepOp, pureOp, allocOp, readOp, ev, evs, Env.get_cons, putE, partC, partP, target, h12]; rfl)]
  rw [seqN (a := .block _ _) (by simp [blk17, exec, runOps, wantedA, stepOp, pureOp, allocOp, readOp, ev, Env.get_cons, putE, binA, intBin, partC, partP]; rfl)]
  unfold tail17
  rw [seqN (a := .region _) (by simp [exec, runOps, wantedA, stepOp, pureOp, allocOp, readOp, ev, evs, Env.get_cons, putE, partC, partP, target, h14]; rfl)]
  rw [seqR (a := .seq (.region _) (.cond _ _ _)) (by simp [exec, runOps, wantedA, stepOp, pureOp, allocOp, readOp, effOp, ev, evs, Env.get_cons, putE, binA, intBin, strBin, AV.fit, AV.toCells, allP, mkAgg, Cells.len, target, evParts, fillA, spliceC, splice, AV.cells, h15]; rfl)]
  show _ = _
  kernel_rfl
end
theorem lower15_true (m k : Nat) (σ : Heap) : (cAt TB (m + 100) (k + 3)).1 15 [.p (.str [84, 82, 85, 69])] σ = some (.ret (.p (.str [116, 114, 117, 101])), σ) := by
  refine call_ans (ps := [.str [84, 82, 85, 69]]) (n := k + 2) (af := af32) (fz := true) rfl (by kernel_rfl) ?_ σ
  kernel_rfl
theorem lower15_false (m k : Nat) (σ : Heap) : (cAt TB (m + 100) (k + 3)).1 15 [.p (.str [70, 65, 76, 83, 69])] σ = some (.ret (.p (.str [102, 97, 108, 115, 101])), σ) := by
  refine call_ans (ps := [.str [70, 65, 76, 83, 69]]) (n := k + 2) (af := af32) (fz := true) rfl (by kernel_rfl) ?_ σ
  kernel_rfl
theorem digits14 (s : List UInt8) (h0 : 0 < s.length) (h1 : s.length ≤ 1000) (hd : ∀ x ∈ s, 48 ≤ x.toNat ∧ x.toNat ≤ 57) (L m : Nat) (σ : Heap) : (cAt TB L (m + 1)).1 14 [.p (.str s), .p (.str [48, 49, 50, 51, 52, 53, 54, 55, 56, 57])] σ = some (.ret (.p (.str [])), σ) := by
  refine call_ext (ps := [.str s, .str [48, 49, 50, 51, 52, 53, 54, 55, 56, 57]]) (g := trimO) (fz := true) rfl ?_ σ
  have ha : (s.all fun x => decide (48 ≤ x.toNat ∧ x.toNat ≤ 57)) = true := by
    rw [List.all_eq_true]
    intro x hx
    exact decide_eq_true (hd x hx)
  simp only [trimO]
  rw [if_neg (by intro h; cases h.1), if_pos ⟨trivial, h0, h1, ha⟩]
theorem parse32 (n : Int) (h1 : -9223372036854775808 ≤ n) (h2 : n ≤ 9223372036854775807) (L m : Nat) (σ : Heap) : (cAt TB L (m + 1)).1 32 [.p (.str (Lib.itoa n)), .p (.int .i64 10), .p (.int .i64 64)] σ = some (.ret (.p (.tup [.int .i64 n, .nilif])), σ) := by
  refine call_ext (ps := [.str (Lib.itoa n), .int .i64 10, .int .i64 64]) (g := parseO) (fz := true) rfl ?_ σ
  refine (if_pos ⟨rfl, rfl, rfl, rfl, by have := itoa_len n h1 h2; omega⟩).trans ?_
  rw [parse_itoa n h1 h2]
theorem is33 (L m : Nat) (σ : Heap) : (cAt TB L (m + 1)).1 33 [.p .nilif, .p (.iface 144 (.vptr []))] σ = some (.ret (.p (.bool false)), σ) :=
  call_ext (ps := [.nilif, .iface 144 (.vptr [])]) (g := isO) (fz := true) rfl rfl σ
theorem num16 (n : Int) (h1 : -9223372036854775808 ≤ n) (h2 : n ≤ 9223372036854775807) (L m : Nat) (σ : Heap) : (cAt TB L (m + 3)).1 16 [.p (.str (Lib.itoa n)), .p (ty 3 0)] σ = some (.ret (.p (.tup [val 1 n [] false, done])), σ) := by
  refine call_ans (ps := [.str (Lib.itoa n), ty 3 0]) (n := m + 2) (af := lit33) (fz := true) rfl (by kernel_rfl) ?_ σ
  have h14 := fun s a b c => digits14 s a b c L (m + 1)
  have h32 := parse32 n h1 h2 L (m + 1)
  have h33 := is33 L (m + 1)
  have h19 := ranged24 3 (by simp) n h1 h2 true (by unfold inR; rfl) L m
  rw [if_pos rfl] at h19
  generalize (cAt TB L (m + 2)).1 = C at h14 h32 h33 h19 ⊢
  generalize (cAt TB L (m + 2)).2 = D
  have hlen := itoa_len n h1 h2
  by_cases h : n < 0
  · rw [itoa_neg' n h] at h32 hlen ⊢
    have hd := dec_digits n.natAbs
    have hne := dec_ne n.natAbs
    generalize Lib.decDigits n.natAbs = r at h32 hlen hd hne ⊢
    have hl : 0 < r.length := by cases r with | nil => exact absurd rfl hne | cons a r => simp
    simp only [List.length_cons] at hlen
    exact n16_neg C D L n r 45 (by decide) (by decide) (by omega) (by simp; omega) (by omega) (h14 r hl (by omega) hd) h32 h33 h19
  · rw [itoa_pos' n h] at h32 hlen ⊢
    have hd := dec_digits n.toNat
    have hne := dec_ne n.toNat
    generalize Lib.decDigits n.toNat = r at h32 hlen hd hne ⊢
    cases r with
    | nil => exact absurd rfl hne
    | cons a r =>
      have ha := hd a (by simp)
      exact n16_pos C D L n (a :: r) a rfl rfl (by rw [beq_eq_false_iff_ne]; omega) (by rw [beq_eq_false_iff_ne]; omega) (by simp; omega) (by omega) (h14 _ (by simp) (by omega) hd) h32 h33 h19
/-- a number's text, cast to a number -/
theorem castN (b sz n : Int) (h1 : -9223372036854775808 ≤ n) (h2 : n ≤ 9223372036854775807) (hz : sz ≤ 100) (L m : Nat) (σ : Heap) :
    (cAt TB L (m + 4)).1 6 [.p (val 2 0 (padB b sz (Lib.itoa n)) false), .p (ty 3 0)] σ = some (.ret (.p (.tup [val 1 n [] false, done])), σ) := by
  refine call_ans (ps := [val 2 0 (padB b sz (Lib.itoa n)) false, ty 3 0]) (n := m + 3) (af := lit17) (fz := true) rfl (by kernel_rfl) ?_ σ
  have h12 := kind12 3 0 L (m + 1)
  have hp : (padB b sz (Lib.itoa n)).length ≤ 200 := by
    have := itoa_len n h1 h2
    unfold padB
    split
    · simp; omega
    · omega
  have h14 := trim25 (padB b sz (Lib.itoa n)) (by omega) L (m + 2)
  rw [trim_pad b sz _ (itoa_noblank n)] at h14
  exact c17_number _ _ L n _ _ h12 h14 (num16 n h1 h2 L m)
theorem castB (b sz : Int) (t : Bool) (hz : sz ≤ 100) (L m : Nat) (σ : Heap) :
    (cAt TB (L + 100) (m + 5)).1 6 [.p (val 2 0 (padB b sz (if t then [84, 82, 85, 69] else [70, 65, 76, 83, 69])) false), .p (ty 6 0)] σ = some (.ret (.p (.tup [val 3 0 [] t, done])), σ) := by
  refine call_ans (ps := [val 2 0 (padB b sz (if t then [84, 82, 85, 69] else [70, 65, 76, 83, 69])) false, ty 6 0]) (n := m + 4) (af := lit17) (fz := true) rfl (by kernel_rfl) ?_ σ
  have h12 := kind12 6 0 (L + 100) (m + 2)
  have hp : ∀ u : List UInt8, u.length ≤ 5 → (padB b sz u).length ≤ 9223372036854775807 := by
    intro u hu
    unfold padB
    split
    · simp; omega
    · omega
  cases t
  · have h14 := trim25 (padB b sz [70, 65, 76, 83, 69]) (hp _ (by simp)) (L + 100) (m + 3)
    rw [trim_pad b sz _ (by decide)] at h14
    exact c17_word_false _ _ (L + 100) _ h12 h14 (lower15_false L (m + 1))
  · have h14 := trim25 (padB b sz [84, 82, 85, 69]) (hp _ (by simp)) (L + 100) (m + 3)
    rw [trim_pad b sz _ (by decide)] at h14
    exact c17_word_true _ _ (L + 100) _ h12 h14 (lower15_true L (m + 1))

end Go.Ab.Back
