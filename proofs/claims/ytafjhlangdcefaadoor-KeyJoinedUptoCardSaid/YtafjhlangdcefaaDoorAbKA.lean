/- The laws of keys: Encode. -/
import Derived.Test.YtafjhlangdcefaaDoorAbK9
set_option linter.unusedSectionVars false
set_option linter.unusedSimpArgs false
set_option linter.unusedVariables false
set_option maxRecDepth 1000000
namespace Go.Ab.Key
open Go Go.Ab Go.Proofs
variable [Marks]
section
variable (C : Oracle) (L : Nat) (x : List V) (ρ : Env) (σ : Heap) (b : AV) (l : List UInt8) (i : Nat)
/-- the loop's state -/
structure At9 (x : List V) (ρ : Env) (i : Nat) (b : AV) : Prop where
  t8 : ρ.get 8 = some (.p (.vsl (vcs x) x.length))
  t9 : ρ.get 9 = some (.p (.int .i64 (x.length : Int)))
  t10 : ρ.get 10 = some (.p (.int .i64 (i : Int)))
  t3 : ρ.get 3 = some b
theorem stop9 (h : At9 x ρ i b) (hs : x.length ≤ i) : ∃ ρ' : Env, exec C L body9 ⟨ρ, [], σ⟩ = some (.exit 0, ⟨ρ', [], σ⟩) ∧ ρ'.get 3 = some b := by
  have hi : ¬ (i : Int) < (x.length : Int) := by omega
  exact ⟨_, by simp [body9, exec, runOps, wantedA, stepOp, pureOp, allocOp, readOp, effOp, ev, evs, evO, Env.get_cons, putE, binA, intBin, unA, AV.fit, AV.toCells, partC, partP, mkCells, allP, mkAgg, Cells.len, target, h.t9, h.t10, hi]; rfl, by simp [Env.get_cons, h.t3]⟩
theorem go9_null (h : At9 x ρ i b) (hb : BBuf σ b l) (hx : x[i]? = some .null) (hm : x.length ≤ 9223372036854775807) (hl : l.length + 1 ≤ LIM) :
    ∃ (ρ' : Env) (σ' : Heap) (b' : AV), exec C L body9 ⟨ρ, [], σ⟩ = some (.normal, ⟨ρ', [], σ'⟩) ∧ At9 x ρ' (i + 1) b' ∧ BBuf σ' b' (l ++ enc1 .null) := by
  have hi : i < x.length := (List.getElem?_eq_some_iff.1 hx).1
  have hi' : (i : Int) < (x.length : Int) := by omega
  have d1 := flat_v x i _ hx
  have d3 : 4 ≤ (vcs x).length - i * 4 := by rw [vcs_len]; omega
  have e1 : IntKind.i64.wrap ((i : Int) + 1) = (i : Int) + 1 := wrap_id _ (by omega) (by omega)
  obtain ⟨b2, σ2, hA, hb2, _, hlen⟩ := app_buf (hb.grow [.arr (.pv (vc .null)) 0 0 (some 39), .arr (.pv (bp [1])) 0 0 none]) [1] (by simpa using hl) (by simp)
  simp [bp, vc] at hA
  simp only [vc] at d1
  refine ⟨_, σ2, b2, by simp [body9, exec, runOps, wantedA, stepOp, pureOp, allocOp, readOp, effOp, ev, evs, evO, Env.get_cons, putE, binA, intBin, unA, AV.fit, AV.toCells, partC, partP, mkCells, allP, mkAgg, Cells.len, target, evParts, fillA, AV.cells, splice, spliceC, finA, leaveA, resA, resV, ansV, idxA, repCells, elemsA, takeC, dropC, h.t8, h.t9, h.t10, h.t3, hi, hi', d1, d3, e1, hA]; rfl, ⟨?_, ?_, ?_, ?_⟩, hb2⟩
  · simp [Env.get_cons, h.t8]
  · simp [Env.get_cons, h.t9]
  · simp [Env.get_cons]
  · simp [Env.get_cons]
theorem go9_bool (c : Bool) (h : At9 x ρ i b) (hb : BBuf σ b l) (hx : x[i]? = some (.bool c)) (hm : x.length ≤ 9223372036854775807) (hl : l.length + 2 ≤ LIM) :
    ∃ (ρ' : Env) (σ' : Heap) (b' : AV), exec C L body9 ⟨ρ, [], σ⟩ = some (.normal, ⟨ρ', [], σ'⟩) ∧ At9 x ρ' (i + 1) b' ∧ BBuf σ' b' (l ++ enc1 (.bool c)) := by
  have hi : i < x.length := (List.getElem?_eq_some_iff.1 hx).1
  have hi' : (i : Int) < (x.length : Int) := by omega
  have d1 := flat_v x i _ hx
  have d3 : 4 ≤ (vcs x).length - i * 4 := by rw [vcs_len]; omega
  have e1 : IntKind.i64.wrap ((i : Int) + 1) = (i : Int) + 1 := wrap_id _ (by omega) (by omega)
  obtain ⟨b2, σ2, hA, hb2, hf, hlen⟩ := app_buf (hb.grow [.arr (.pv (vc (.bool c))) 0 0 (some 39), .arr (.pv (bp [4, 0])) 0 0 none]) [4, 0] (by simpa using hl) (by simp)
  have hv := (hf σ.length (by simp) (hb.lt (Nat.le_refl _))).1
  simp [bp, vc] at hA hv
  simp only [vc] at d1
  cases c with
  | false =>
    refine ⟨_, σ2, b2, by simp [body9, exec, runOps, wantedA, stepOp, pureOp, allocOp, readOp, effOp, ev, evs, evO, Env.get_cons, putE, binA, intBin, unA, AV.fit, AV.toCells, partC, partP, mkCells, allP, mkAgg, Cells.len, target, evParts, fillA, AV.cells, splice, spliceC, finA, leaveA, resA, resV, ansV, idxA, repCells, elemsA, takeC, dropC, h.t8, h.t9, h.t10, h.t3, hi, hi', d1, d3, e1, hA, hv]; rfl, ⟨?_, ?_, ?_, ?_⟩, hb2⟩
    · simp [Env.get_cons, h.t8]
    · simp [Env.get_cons, h.t9]
    · simp [Env.get_cons]
    · simp [Env.get_cons]
  | true =>
    obtain ⟨_, id, ver, rfl, ho⟩ := hb2.resolve_left (by simp)
    have hid : id < σ2.length := (List.getElem?_eq_some_iff.1 ho).1
    have hL : LIM = 4294967296 := rfl
    have e2 : IntKind.i64.wrap ((l.length : Int) + 2 - 1) = (l.length : Int) + 1 := by
      rw [wrap_id _ (by omega) (by omega)]
      omega
    have e3 : ((l.length : Int) + 1).toNat = l.length + 1 := by omega
    have e4 : (0 : Int) ≤ (l.length : Int) + 1 := by omega
    have e5 : (l.length : Int) + 1 < (l.length : Int) + 2 := by omega
    have e6 : l.length + 1 + 1 ≤ (bp l).length + 2 := by rw [bp_len]; omega
    have ho' : σ2[id]? = some (.arr (.pv (bp l ++ [.int .u8 4, .int .u8 0])) ver 0 (some 5)) := by rw [ho, bp_app]; rfl
    refine ⟨_, _, .sl id ver 0 (l ++ [4, 1]).length 1, by simp [body9, exec, runOps, wantedA, stepOp, pureOp, allocOp, readOp, effOp, ev, evs, evO, Env.get_cons, putE, binA, intBin, unA, AV.fit, AV.toCells, partC, partP, mkCells, allP, mkAgg, Cells.len, target, evParts, fillA, AV.cells, splice, spliceC, finA, leaveA, resA, resV, ansV, idxA, repCells, elemsA, takeC, dropC, lenA, h.t8, h.t9, h.t10, h.t3, hi, hi', d1, d3, e1, hA, hv, ho', e2, e3, e4, e5, e6, bp_len]; exact ⟨rfl, rfl⟩, ⟨?_, ?_, ?_, ?_⟩, ?_⟩
    · simp [Env.get_cons, h.t8]
    · simp [Env.get_cons, h.t9]
    · simp [Env.get_cons]
    · simp [Env.get_cons]
    · refine .inr ⟨by simp [enc1], id, ver, rfl, ?_⟩
      rw [List.getElem?_set_self hid]
      have e7 : (bp l ++ [PV.int .u8 4, PV.int .u8 0]).take (l.length + 1) = bp l ++ [PV.int .u8 4] := by
        rw [List.take_append, List.take_of_length_le (by rw [bp_len]; omega), bp_len]
        simp
      have e8 : (bp l ++ [PV.int .u8 4, PV.int .u8 0]).drop (l.length + 1 + 1) = [] := List.drop_eq_nil_of_le (by rw [List.length_append, bp_len]; exact Nat.le_refl _)
      unfold bp at e7 e8
      simp [enc1, bp]
      rw [e7, e8]
      simp
theorem go9_num (n : Int) (hn : inR n) (h : At9 x ρ i b) (hb : BBuf σ b l) (hx : x[i]? = some (.num n)) (hm : x.length ≤ 9223372036854775807) (hl : l.length + 9 ≤ LIM) (hL : 8 < L) :
    ∃ (ρ' : Env) (σ' : Heap) (b' : AV), exec C L body9 ⟨ρ, [], σ⟩ = some (.normal, ⟨ρ', [], σ'⟩) ∧ At9 x ρ' (i + 1) b' ∧ BBuf σ' b' (l ++ enc1 (.num n)) := by
  have hi : i < x.length := (List.getElem?_eq_some_iff.1 hx).1
  have hi' : (i : Int) < (x.length : Int) := by omega
  have d1 := flat_v x i _ hx
  have d3 : 4 ≤ (vcs x).length - i * 4 := by rw [vcs_len]; omega
  have e1 : IntKind.i64.wrap ((i : Int) + 1) = (i : Int) + 1 := wrap_id _ (by omega) (by omega)
  obtain ⟨b2, σ2, hA, hb2, hf, hlen⟩ := app_buf (hb.grow [.arr (.pv (vc (.num n))) 0 0 (some 39), .arr (.pv (bp [2])) 0 0 none]) [2] (by simp; omega) (by simp)
  have hv := (hf σ.length (by simp) (hb.lt (Nat.le_refl _))).1
  simp [bp, vc] at hA hv
  simp only [vc] at d1
  have hx' : intBin .xor .u64 (IntKind.u64.wrap n) 9223372036854775808 = some (.int .u64 (off n : Int)) := congrArg (fun z => some (PV.int .u64 z)) (xor_off n hn)
  obtain ⟨E, hE⟩ : ∃ E : Env, E = (7, .p (.int .i64 56)) :: (6, .p (.int .u64 (off n : Int))) :: (29, .p (.int .u64 (off n : Int))) :: (28, .p (.int .u64 (IntKind.u64.wrap n))) :: (27, .p (.int .i64 n)) :: (26, .ptr σ.length 0 1) :: (3, b2) :: (25, b2) ::
    (24, .sl (σ.length + 1) 0 0 1 1) :: (23, b) :: (21, .p (.bool true)) :: (22, .p (.bool true)) :: (16, .p (.bool false)) :: (17, .p (.bool false)) :: (15, .p (.int .i64 1)) :: (14, .ptr σ.length 0 0) :: (5, .ptr σ.length 0 0) ::
    (13, .p (.agg [.int .i64 1, .int .i64 n, .str [], .bool false])) :: (12, .p (.vptr ((vcs x).drop (i * 4)))) :: (11, .p (.bool true)) :: ρ := ⟨_, rfl⟩
  obtain ⟨ρ', σ3, b3, eI, hs, g3, gb, gl⟩ := loop9n C L (off n) 8 L E σ2 b2 (l ++ [2]) hL (Nat.le_refl _) (by rw [hE]; rfl) (by rw [hE]; rfl) (by rw [hE]; rfl) hb2 (by simp; omega)
  obtain ⟨s0, s8, s9, s10, _⟩ := hs
  rw [hE] at s8 s9 s10 eI
  simp only [Env.get_cons] at s8 s9 s10
  simp [h.t8, h.t9, h.t10] at s8 s9 s10
  rw [Nat.mod_eq_of_lt (off_lt hn)] at gb
  refine ⟨_, σ3, b3, by simp [body9, exec, runOps, wantedA, stepOp, pureOp, allocOp, readOp, effOp, ev, evs, evO, Env.get_cons, putE, binA, intBin, unA, AV.fit, AV.toCells, partC, partP, mkCells, allP, mkAgg, Cells.len, target, evParts, fillA, AV.cells, splice, spliceC, finA, leaveA, resA, resV, ansV, idxA, repCells, elemsA, takeC, dropC, lenA, IntKind.bits, h.t8, h.t9, h.t10, h.t3, hi, hi', d1, d3, e1, hA, hv, ↓hx', eI, s10]; rfl, ⟨?_, ?_, ?_, ?_⟩, by simpa [enc1] using gb⟩
  · simp [Env.get_cons, s8]
  · simp [Env.get_cons, s9]
  · simp [Env.get_cons]
  · simp [Env.get_cons, g3]
theorem go9_text (s : List UInt8) (h : At9 x ρ i b) (hb : BBuf σ b l) (hx : x[i]? = some (.text s)) (hm : x.length ≤ 9223372036854775807) (hl : l.length + (2 * s.length + 3) ≤ LIM)
    (hC19 : ∀ σ, C 19 [.p (.str s), .p (.str [32])] σ = some (.ret (.p (.str (trimB s))), σ)) (hC18 : ∀ σ, C 18 [.p (.str (trimB s)), .p (.str [0]), .p (.str [0, 255])] σ = some (.ret (.p (.str (esc (trimB s)))), σ))
    (hsz : (esc (trimB s)).length ≤ 2 * s.length) :
    ∃ (ρ' : Env) (σ' : Heap) (b' : AV), exec C L body9 ⟨ρ, [], σ⟩ = some (.normal, ⟨ρ', [], σ'⟩) ∧ At9 x ρ' (i + 1) b' ∧ BBuf σ' b' (l ++ enc1 (.text s)) := by
  have hi : i < x.length := (List.getElem?_eq_some_iff.1 hx).1
  have hi' : (i : Int) < (x.length : Int) := by omega
  have d1 := flat_v x i _ hx
  have d3 : 4 ≤ (vcs x).length - i * 4 := by rw [vcs_len]; omega
  have e1 : IntKind.i64.wrap ((i : Int) + 1) = (i : Int) + 1 := wrap_id _ (by omega) (by omega)
  obtain ⟨b2, σ2, hA, hb2, hf, hlen⟩ := app_buf (hb.grow [.arr (.pv (vc (.text s))) 0 0 (some 39), .arr (.pv (bp [3])) 0 0 none]) [3] (by simp; omega) (by simp)
  have hv := (hf σ.length (by simp) (hb.lt (Nat.le_refl _))).1
  obtain ⟨b3, σ3, hA3, hb3, _, _⟩ : ∃ b3 σ3, appendTo σ2 5 1 b2 (esc (trimB s)).length (.pv (bp (esc (trimB s)))) = some (b3, σ3) ∧ BBuf σ3 b3 ((l ++ [3]) ++ esc (trimB s)) ∧ True ∧ True := by
    by_cases hne : esc (trimB s) = []
    · obtain ⟨_, id, ver, rfl, ho⟩ := hb2.resolve_left (by simp)
      refine ⟨.sl id ver 0 (l ++ [3]).length 1, σ2, ?_, by rw [hne, List.append_nil]; exact hb2, trivial, trivial⟩
      rw [hne]
      have hl' : (l ++ [3]).length ≤ LIM := by simp; omega
      simp only [List.length_append, List.length_cons, List.length_nil] at hl' ho
      simp [appendTo, ho, Cells.len, bp_len, hl']
    · obtain ⟨b3, σ3, q1, q2, _, _⟩ := app_buf hb2 (esc (trimB s)) (by simp; omega) hne
      exact ⟨b3, σ3, q1, q2, trivial, trivial⟩
  obtain ⟨b4, σ4, hA4, hb4, _, _⟩ := app_buf hb3 [0, 0] (by simp; omega) (by simp)
  simp [bp, vc] at hA hv hA4
  simp only [bp] at hA3
  simp only [vc] at d1
  refine ⟨_, σ4, b4, by simp [body9, exec, runOps, wantedA, stepOp, pureOp, allocOp, readOp, effOp, ev, evs, evO, Env.get_cons, putE, binA, intBin, unA, AV.fit, AV.toCells, partC, partP, mkCells, allP, mkAgg, Cells.len, target, evParts, fillA, AV.cells, splice, spliceC, finA, leaveA, resA, resV, ansV, idxA, repCells, elemsA, takeC, dropC, lenA, h.t8, h.t9, h.t10, h.t3, hi, hi', d1, d3, e1, hA, hv, hC19, hC18, hA3, hA4]; rfl, ⟨?_, ?_, ?_, ?_⟩, by simpa [enc1] using hb4⟩
  · simp [Env.get_cons, h.t8]
  · simp [Env.get_cons, h.t9]
  · simp [Env.get_cons]
  · simp [Env.get_cons]
end
end Go.Ab.Key
