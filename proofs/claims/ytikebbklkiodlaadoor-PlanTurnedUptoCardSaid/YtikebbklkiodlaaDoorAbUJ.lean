/- PlanTurned: Encode: Encode. -/
import Derived.Test.YtikebbklkiodlaaDoorAbUG
set_option linter.unusedSectionVars false
set_option linter.unusedSimpArgs false
set_option linter.unusedVariables false
set_option maxRecDepth 1000000
namespace Go.Ab.Turn.Enc
open Go Go.Ab Go.Ab.Key Go.Ab.Cnt Go.Ab.Turn Go.Proofs
variable [Marks]
section
variable (C : Oracle) (L : Nat) (x : List V) (ρ : Env) (σ : Heap) (b : AV) (l : List UInt8) (i : Nat)
/-- the loop's state -/
structure At9 (x : List V) (ρ : Env) (i : Nat) (b : AV) : Prop where
  t8 : ρ.get 8 = some (.p (.vsl (vcs x) x.length))
  t9 : ρ.get 9 = some (.p (.int .i64 (x.length : Int)))
  t10 : ρ.get 10 = some (.p (.int .i64 (i : Int)))
  t3 : ρ.get 3 = some b
theorem stop9 (h : At9 x ρ i b) (hs : x.length ≤ i) : ∃ ρ' : Env, exec C L body9 ⟨ρ, [], σ⟩ = some (.exit 0, ⟨ρ', [], σ⟩) ∧ ρ'.get 3 = some b := by
  have hi : ¬ (i : Int) < (x.length : Int) := by omega
  exact ⟨_, by simp [body9, exec, runOps, wantedA, stepOp, pureOp, allocOp, readOp, effOp, ev, evs, evO, Env.get_cons, putE, binA, intBin, unA, AV.fit, AV.toCells, partC, partP, mkCells, allP, mkAgg, Cells.len, target, h.t9, h.t10, hi]; rfl, by simp [Env.get_cons, h.t3]⟩
theorem go9_null (h : At9 x ρ i b) (hb : BBuf σ b l) (hx : x[i]? = some .null) (hm : x.length ≤ 9223372036854775807) (hl : l.length + 1 ≤ LIM) :
    ∃ (ρ' : Env) (σ' : Heap) (b' : AV), exec C L body9 ⟨ρ, [], σ⟩ = some (.normal, ⟨ρ', [], σ'⟩) ∧ At9 x ρ' (i + 1) b' ∧ BBuf σ' b' (l ++ enc1 .null) := by
  have hi : i < x.length := (List.getElem?_eq_some_iff.1 hx).1
  have hi' : (i : Int) < (x.length : Int) := by omega
  have d1 := flat_v x i _ hx
  have d3 : 4 ≤ (vcs x).length - i * 4 := by rw [vcs_len]; omega
  have e1 : IntKind.i64.wrap ((i : Int) + 1) = (i : Int) + 1 := wrap_id _ (by omega) (by omega)
  obtain ⟨b2, σ2, hA, hb2, _, hlen⟩ := app_buf (hb.grow [.arr (.pv (vc .null)) 0 0 (some 73), .arr (.pv (bp [1])) 0 0 none]) [1] (by simpa using hl) (by simp)
  simp [bp, vc] at hA
  simp only [vc] at d1
  refine ⟨_, σ2, b2, by simp [body9, exec, runOps, wantedA, stepOp, pureOp, allocOp, readOp, effOp, ev, evs, evO, Env.get_cons, putE, binA, intBin, unA, AV.fit, AV.toCells, partC, partP, mkCells, allP, mkAgg, Cells.len, target, evParts, fillA, AV.cells, splice, spliceC, finA, leaveA, resA, resV, ansV, idxA, repCells, elemsA, takeC, dropC, h.t8, h.t9, h.t10, h.t3, hi, hi', d1, d3, e1, hA]; rfl, ⟨?_, ?_, ?_, ?_⟩, hb2⟩
  · simp [Env.get_cons, h.t8]
  · simp [Env.get_cons, h.t9]
  · simp [Env.get_cons]
  · simp [Env.get_cons]
theorem go9_bool (c : Bool) (h : At9 x ρ i b) (hb : BBuf σ b l) (hx : x[i]? = some (.bool c)) (hm : x.length ≤ 9223372036854775807) (hl : l.length + 2 ≤ LIM) :
    ∃ (ρ' : Env) (σ' : Heap) (b' : AV), exec C L body9 ⟨ρ, [], σ⟩ = some (.normal, ⟨ρ', [], σ'⟩) ∧ At9 x ρ' (i + 1) b' ∧ BBuf σ' b' (l ++ enc1 (.bool c)) := by
  have hi : i < x.length := (List.getElem?_eq_some_iff.1 hx).1
  have hi' : (i : Int) < (x.length : Int) := by omega
  have d1 := flat_v x i _ hx
  have d3 : 4 ≤ (vcs x).length - i * 4 := by rw [vcs_len]; omega
  have e1 : IntKind.i64.wrap ((i : Int) + 1) = (i : Int) + 1 := wrap_id _ (by omega) (by omega)
  obtain ⟨b2, σ2, hA, hb2, hf, hlen⟩ := app_buf (hb.grow [.arr (.pv (vc (.bool c))) 0 0 (some 73), .arr (.pv (bp [4, 0])) 0 0 none]) [4, 0] (by simpa using hl) (by simp)
  have hv := (hf σ.length (by simp) (hb.lt (Nat.le_refl _))).1
  simp [bp, vc] at hA hv
  simp only [vc] at d1
  cases c with
  | false =>
    refine ⟨_, σ2, b2, by simp [body9, exec, runOps, wantedA, stepOp, pureOp, allocOp, readOp, effOp, ev, evs, evO, Env.get_cons, putE, binA, intBin, unA, AV.fit, AV.toCells, partC, partP, mkCells, allP, mkAgg, Cells.len, target, evParts, fillA, AV.cells, splice, spliceC, finA, leaveA, resA, resV, ansV, idxA, repCells, elemsA, takeC, dropC, h.t8, h.t9, h.t10, h.t3, hi, hi', d1, d3, e1, hA, hv]; rfl, ⟨?_, ?_, ?_, ?_⟩, hb2⟩
    · simp [Env.get_cons, h.t8]
    · simp [Env.get_cons, h.t9]
    · simp [Env.get_cons]
    · simp [Env.get_cons]
  | true =>
    obtain ⟨_, id, ver, rfl, ho⟩ := hb2.resolve_left (by simp)
    have hid : id < σ2.length := (List.getElem?_eq_some_iff.1 ho).1
    have hL : LIM = 4294967296 := rfl
    have e2 : IntKind.i64.wrap ((l.length : Int) + 2 - 1) = (l.length : Int) + 1 := by
      rw [wrap_id _ (by omega) (by omega)]
      omega
    have e3 : ((l.length : Int) + 1).toNat = l.length + 1 := by omega
    have e4 : (0 : Int) ≤ (l.length : Int) + 1 := by omega
    have e5 : (l.length : Int) + 1 < (l.length : Int) + 2 := by omega
    have e6 : l.length + 1 + 1 ≤ (bp l).length + 2 := by rw [bp_len]; omega
    have ho' : σ2[id]? = some (.arr (.pv (bp l ++ [.int .u8 4, .int .u8 0])) ver 0 (some 5)) := by rw [ho, bp_app]; rfl
    refine ⟨_, _, .sl id ver 0 (l ++ [4, 1]).length 1, by simp [body9, exec, runOps, wantedA, stepOp, pureOp, allocOp, readOp, effOp, ev, evs, evO, Env.get_cons, putE, binA, intBin, unA, AV.fit, AV.toCells, partC, partP, mkCells, allP, mkAgg, Cells.len, target, evParts, fillA, AV.cells, splice, spliceC, finA, leaveA, resA, resV, ansV, idxA, repCells, elemsA, takeC, dropC, lenA, h.t8, h.t9, h.t10, h.t3, hi, hi', d1, d3, e1, hA, hv, ho', e2, e3, e4, e5, e6, bp_len]; exact ⟨rfl, rfl⟩, ⟨?_, ?_, ?_, ?_⟩, ?_⟩
    · simp [Env.get_cons, h.t8]
    · simp [Env.get_cons, h.t9]
    · simp [Env.get_cons]
    · simp [Env.get_cons]
    · refine .inr ⟨by simp [enc1], id, ver, rfl, ?_⟩
      rw [List.getElem?_set_self hid]
      have e7 : (bp l ++ [PV.int .u8 4, PV.int .u8 0]).take (l.length + 1) = bp l ++ [PV.int .u8 4] := by
        rw [List.take_append, List.take_of_length_le (by rw [bp_len]; omega), bp_len]
        simp
      have e8 : (bp l ++ [PV.int .u8 4, PV.int .u8 0]).drop (l.length + 1 + 1) = [] := List.drop_eq_nil_of_le (by rw [List.length_append, bp_len]; exact Nat.le_refl _)
      unfold bp at e7 e8
      simp [enc1, bp]
      rw [e7, e8]
      simp
theorem go9_num (n : Int) (hn : inR n) (h : At9 x ρ i b) (hb : BBuf σ b l) (hx : x[i]? = some (.num n)) (hm : x.length ≤ 9223372036854775807) (hl : l.length + 9 ≤ LIM) (hL : 8 < L) :
    ∃ (ρ' : Env) (σ' : Heap) (b' : AV), exec C L body9 ⟨ρ, [], σ⟩ = some (.normal, ⟨ρ', [], σ'⟩) ∧ At9 x ρ' (i + 1) b' ∧ BBuf σ' b' (l ++ enc1 (.num n)) := by
  have hi : i < x.length := (List.getElem?_eq_some_iff.1 hx).1
  have hi' : (i : Int) < (x.length : Int) := by omega
  have d1 := flat_v x i _ hx
  have d3 : 4 ≤ (vcs x).length - i * 4 := by rw [vcs_len]; omega
  have e1 : IntKind.i64.wrap ((i : Int) + 1) = (i : Int) + 1 := wrap_id _ (by omega) (by omega)
  obtain ⟨b2, σ2, hA, hb2, hf, hlen⟩ := app_buf (hb.grow [.arr (.pv (vc (.num n))) 0 0 (some 73), .arr (.pv (bp [2])) 0 0 none]) [2] (by simp; omega) (by simp)
  have hv := (hf σ.length (by simp) (hb.lt (Nat.le_refl _))).1
  simp [bp, vc] at hA hv
  simp only [vc] at d1
  have hx' : intBin .xor .u64 (IntKind.u64.wrap n) 9223372036854775808 = some (.int .u64 (off n : Int)) := congrArg (fun z => some (PV.int .u64 z)) (xor_off n hn)
  obtain ⟨E, hE⟩ : ∃ E : Env, E = (7, .p (.int .i64 56)) :: (6, .p (.int .u64 (off n : Int))) :: (29, .p (.int .u64 (off n : Int))) :: (28, .p (.int .u64 (IntKind.u64.wrap n))) :: (27, .p (.int .i64 n)) :: (26, .ptr σ.length 0 1) :: (3, b2) :: (25, b2) ::
    (24, .sl (σ.length + 1) 0 0 1 1) :: (23, b) :: (21, .p (.bool true)) :: (22, .p (.bool true)) :: (16, .p (.bool false)) :: (17, .p (.bool false)) :: (15, .p (.int .i64 1)) :: (14, .ptr σ.length 0 0) :: (5, .ptr σ.length 0 0) ::
    (13, .p (.agg [.int .i64 1, .int .i64 n, .str [], .bool false])) :: (12, .p (.vptr ((vcs x).drop (i * 4)))) :: (11, .p (.bool true)) :: ρ := ⟨_, rfl⟩
  obtain ⟨ρ', σ3, b3, eI, hs, g3, gb, gl⟩ := loop9n C L (off n) 8 L E σ2 b2 (l ++ [2]) hL (Nat.le_refl _) (by rw [hE]; rfl) (by rw [hE]; rfl) (by rw [hE]; rfl) hb2 (by simp; omega)
  obtain ⟨s0, s8, s9, s10, _⟩ := hs
  rw [hE] at s8 s9 s10 eI
  simp only [Env.get_cons] at s8 s9 s10
  simp [h.t8, h.t9, h.t10] at s8 s9 s10
  rw [Nat.mod_eq_of_lt (off_lt hn)] at gb
  refine ⟨_, σ3, b3, by simp [body9, exec, runOps, wantedA, stepOp, pureOp, allocOp, readOp, effOp, ev, evs, evO, Env.get_cons, putE, binA, intBin, unA, AV.fit, AV.toCells, partC, partP, mkCells, allP, mkAgg, Cells.len, target, evParts, fillA, AV.cells, splice, spliceC, finA, leaveA, resA, resV, ansV, idxA, repCells, elemsA, takeC, dropC, lenA, IntKind.bits, h.t8, h.t9, h.t10, h.t3, hi, hi', d1, d3, e1, hA, hv, ↓hx', eI, s10]; rfl, ⟨?_, ?_, ?_, ?_⟩, by simpa [enc1] using gb⟩
  · simp [Env.get_cons, s8]
  · simp [Env.get_cons, s9]
  · simp [Env.get_cons]
  · simp [Env.get_cons, g3]
theorem go9_text (s : List UInt8) (h : At9 x ρ i b) (hb : BBuf σ b l) (hx : x[i]? = some (.text s)) (hm : x.length ≤ 9223372036854775807) (hl : l.length + (2 * s.length + 3) ≤ LIM)
    (hC34 : ∀ σ, C 34 [.p (.str s), .p (.str [32])] σ = some (.ret (.p (.str (trimB s))), σ)) (hC33 : ∀ σ, C 33 [.p (.str (trimB s)), .p (.str [0]), .p (.str [0, 255])] σ = some (.ret (.p (.str (esc (trimB s)))), σ))
    (hsz : (esc (trimB s)).length ≤ 2 * s.length) :
    ∃ (ρ' : Env) (σ' : Heap) (b' : AV), exec C L body9 ⟨ρ, [], σ⟩ = some (.normal, ⟨ρ', [], σ'⟩) ∧ At9 x ρ' (i + 1) b' ∧ BBuf σ' b' (l ++ enc1 (.text s)) := by
  have hi : i < x.length := (List.getElem?_eq_some_iff.1 hx).1
  have hi' : (i : Int) < (x.length : Int) := by omega
  have d1 := flat_v x i _ hx
  have d3 : 4 ≤ (vcs x).length - i * 4 := by rw [vcs_len]; omega
  have e1 : IntKind.i64.wrap ((i : Int) + 1) = (i : Int) + 1 := wrap_id _ (by omega) (by omega)
  obtain ⟨b2, σ2, hA, hb2, hf, hlen⟩ := app_buf (hb.grow [.arr (.pv (vc (.text s))) 0 0 (some 73), .arr (.pv (bp [3])) 0 0 none]) [3] (by simp; omega) (by simp)
  have hv := (hf σ.length (by simp) (hb.lt (Nat.le_refl _))).1
  obtain ⟨b3, σ3, hA3, hb3, _, _⟩ : ∃ b3 σ3, appendTo σ2 5 1 b2 (esc (trimB s)).length (.pv (bp (esc (trimB s)))) = some (b3, σ3) ∧ BBuf σ3 b3 ((l ++ [3]) ++ esc (trimB s)) ∧ True ∧ True := by
    by_cases hne : esc (trimB s) = []
    · obtain ⟨_, id, ver, rfl, ho⟩ := hb2.resolve_left (by simp)
      refine ⟨.sl id ver 0 (l ++ [3]).length 1, σ2, ?_, by rw [hne, List.append_nil]; exact hb2, trivial, trivial⟩
      rw [hne]
      have hl' : (l ++ [3]).length ≤ LIM := by simp; omega
      simp only [List.length_append, List.length_cons, List.length_nil] at hl' ho
      simp [appendTo, ho, Cells.len, bp_len, hl']
    · obtain ⟨b3, σ3, q1, q2, _, _⟩ := app_buf hb2 (esc (trimB s)) (by simp; omega) hne
      exact ⟨b3, σ3, q1, q2, trivial, trivial⟩
  obtain ⟨b4, σ4, hA4, hb4, _, _⟩ := app_buf hb3 [0, 0] (by simp; omega) (by simp)
  simp [bp, vc] at hA hv hA4
  simp only [bp] at hA3
  simp only [vc] at d1
  refine ⟨_, σ4, b4, by simp [body9, exec, runOps, wantedA, stepOp, pureOp, allocOp, readOp, effOp, ev, evs, evO, Env.get_cons, putE, binA, intBin, unA, AV.fit, AV.toCells, partC, partP, mkCells, allP, mkAgg, Cells.len, target, evParts, fillA, AV.cells, splice, spliceC, finA, leaveA, resA, resV, ansV, idxA, repCells, elemsA, takeC, dropC, lenA, h.t8, h.t9, h.t10, h.t3, hi, hi', d1, d3, e1, hA, hv, hC34, hC33, hA3, hA4]; rfl, ⟨?_, ?_, ?_, ?_⟩, by simpa [enc1] using hb4⟩
  · simp [Env.get_cons, h.t8]
  · simp [Env.get_cons, h.t9]
  · simp [Env.get_cons]
  · simp [Env.get_cons]
end
end Go.Ab.Turn.Enc

/- PlanTurned: Encode: what Encode answers. -/
set_option maxRecDepth 1000000
namespace Go.Ab.Turn.Enc
open Go Go.Ab Go.Ab.Key Go.Ab.Cnt Go.Ab.Turn Go.Proofs
def trimO : List PV → Option PV
  | [.str s, .str c] => if c = [32] ∧ s.length ≤ LIM then some (.str (trimB s)) else none
  | _ => none
def replO : List PV → Option PV
  | [.str s, .str o, .str n] => if o = [0] ∧ n = [0, 255] ∧ s.length ≤ 16777216 then some (.str (esc s)) else none
  | _ => none
/-- how long a code can be -/
def wt : V → Nat
  | .text s => 2 * s.length + 3
  | _ => 9
def wts (l : List V) : Nat := (l.map wt).sum
theorem esc_len : ∀ s : List UInt8, (esc s).length ≤ 2 * s.length
  | [] => Nat.le_refl _
  | c :: s => by
    have ih := esc_len s
    by_cases h : c = 0 <;> simp [esc, h] <;> omega
theorem trim_len (s : List UInt8) : (trimB s).length ≤ s.length := by
  show (Lib.trimRightB s 32).length ≤ _
  unfold Lib.trimRightB
  rw [List.length_reverse]
  exact Nat.le_trans (List.dropWhile_suffix _).length_le (by simp)
theorem be_len : ∀ k u, (be k u).length = k
  | 0, _ => rfl
  | k + 1, u => by simp [be, be_len k]
theorem enc1_len (v : V) : (enc1 v).length ≤ wt v := by
  cases v with
  | null => decide
  | num n => simp [enc1, be_len, wt]
  | text s =>
    have h1 := esc_len (trimB s)
    have h2 := trim_len s
    simp [enc1, wt]
    omega
  | bool b => cases b <;> decide
theorem encL_len (l : List V) : (encL l).length ≤ wts l := by
  induction l with
  | nil => exact Nat.le_refl _
  | cons v r ih =>
    have := enc1_len v
    simp only [encL, wts, List.flatMap_cons, List.length_append, List.map_cons, List.sum_cons] at *
    omega
theorem wts_snoc (l : List V) (v : V) : wts (l ++ [v]) = wts l + wt v := by simp [wts]
theorem wts_take (l : List V) (i : Nat) : wts (l.take i) ≤ wts l := by
  have h1 := congrArg wts (List.take_append_drop i l)
  have h2 : wts (l.take i ++ l.drop i) = wts (l.take i) + wts (l.drop i) := by
    unfold wts
    rw [List.map_append, List.sum_append]
  omega
theorem encL_snoc (l : List V) (v : V) : encL (l ++ [v]) = encL l ++ enc1 v := by simp [encL]
theorem bytes_bp : ∀ l : List UInt8, bytesOfP (bp l) = some l
  | [] => rfl
  | c :: l => by
    have ih := bytes_bp l
    simp only [bp, List.map_cons] at *
    simp [bytesOfP, ih]
variable [Marks]
theorem loop9 (C : Oracle) (L : Nat) (x : List V) (hL : 8 < L) (hm : x.length ≤ 9223372036854775807) (hok : ∀ v ∈ x, v.ok) (hw : wts x ≤ LIM)
    (hC34 : ∀ s, V.text s ∈ x → ∀ σ, C 34 [.p (.str s), .p (.str [32])] σ = some (.ret (.p (.str (trimB s))), σ)) (hC33 : ∀ s, V.text s ∈ x → ∀ σ, C 33 [.p (.str (trimB s)), .p (.str [0]), .p (.str [0, 255])] σ = some (.ret (.p (.str (esc (trimB s)))), σ)) :
    ∀ (d f i : Nat) (ρ : Env) (σ : Heap) (b : AV), x.length - i ≤ d → d < f → At9 x ρ i b → BBuf σ b (encL (x.take i)) →
    ∃ (ρ' : Env) (σ' : Heap) (b' : AV), iter (exec C L body9) none f ⟨ρ, [], σ⟩ = some (.exit 0, ⟨ρ', [], σ'⟩) ∧ ρ'.get 3 = some b' ∧ BBuf σ' b' (encL x)
  | d, f, i, ρ, σ, b, hd, hf, h, hb => by
    obtain ⟨f, rfl⟩ : ∃ m, f = m + 1 := ⟨f - 1, by omega⟩
    by_cases hs : x.length ≤ i
    · obtain ⟨ρ', e, g3⟩ := stop9 C L x ρ σ b i h hs
      rw [List.take_of_length_le hs] at hb
      exact ⟨ρ', σ, b, by simp only [iter, St.keep, e], g3, hb⟩
    · have hi : i < x.length := by omega
      have ex : x[i]? = some x[i] := List.getElem?_eq_getElem hi
      have hmem : x[i] ∈ x := List.getElem_mem hi
      have hsn : x.take (i + 1) = x.take i ++ [x[i]] := by rw [List.take_add_one, ex]; rfl
      have hlen : (encL (x.take i)).length + wt x[i] ≤ LIM := by
        have h1 := encL_len (x.take i)
        have h2 := wts_take x (i + 1)
        rw [hsn, wts_snoc] at h2
        omega
      have step : ∃ (ρ' : Env) (σ' : Heap) (b' : AV), exec C L body9 ⟨ρ, [], σ⟩ = some (.normal, ⟨ρ', [], σ'⟩) ∧ At9 x ρ' (i + 1) b' ∧ BBuf σ' b' (encL (x.take i) ++ enc1 x[i]) := by
        generalize hv : x[i] = v at *
        cases v with
        | null => exact go9_null C L x ρ σ b _ i h hb ex hm (by simp only [wt] at hlen; omega)
        | num n => exact go9_num C L x ρ σ b _ i n (hok _ hmem) h hb ex hm (by simpa [wt] using hlen) hL
        | text s => exact go9_text C L x ρ σ b _ i s h hb ex hm (by simpa [wt] using hlen) (hC34 s hmem) (hC33 s hmem) (Nat.le_trans (esc_len _) (by have := trim_len s; omega))
        | bool c => exact go9_bool C L x ρ σ b _ i c h hb ex hm (by simp only [wt] at hlen; omega)
      obtain ⟨ρ1, σ1, b1, e, h1, hb1⟩ := step
      rw [← encL_snoc, ← hsn] at hb1
      obtain ⟨d, rfl⟩ : ∃ m, d = m + 1 := ⟨d - 1, by omega⟩
      obtain ⟨ρ', σ', b', e', q⟩ := loop9 C L x hL hm hok hw hC34 hC33 d f (i + 1) ρ1 σ1 b1 (by omega) (by omega) h1 hb1
      exact ⟨ρ', σ', b', by simp only [iter, St.keep, e]; exact e', q⟩
theorem encode26 {Tb : Table} {L n : Nat} (h26 : Tb 26 = some (.code lit26 true)) (h33 : Tb 33 = some (.ext (extP replO) true)) (h34 : Tb 34 = some (.ext (extP trimO) true)) (x : List V) (hL : x.length + 8 < L) (hm : x.length ≤ 9223372036854775807) (hok : ∀ v ∈ x, v.ok) (hw : wts x ≤ 16777216) (σ : Heap) :
    (cAt Tb L (n + 2)).1 26 [.p (.vsl (vcs x) x.length)] σ = some (.ret (.p (.str (encL x))), σ) := by
  refine call_ans (ps := [.vsl (vcs x) x.length]) (n := n + 1) h26 (by rfl) ?_ σ
  have hs : ∀ s, V.text s ∈ x → s.length ≤ 16777216 := by
    intro s h
    obtain ⟨i, hi⟩ := List.mem_iff_getElem?.1 h
    have h2 := wts_take x (i + 1)
    rw [List.take_add_one, hi] at h2
    simp only [Option.toList_some, wts_snoc, wt] at h2
    omega
  have hLm : LIM = 4294967296 := rfl
  have hC34 : ∀ s, V.text s ∈ x → ∀ σ, (cAt Tb L (n + 1)).1 34 [.p (.str s), .p (.str [32])] σ = some (.ret (.p (.str (trimB s))), σ) := fun s h σ =>
    call_ext (ps := [.str s, .str [32]]) h34 (by unfold trimO; simp; have := hs s h; omega) σ
  have hC33 : ∀ s, V.text s ∈ x → ∀ σ, (cAt Tb L (n + 1)).1 33 [.p (.str (trimB s)), .p (.str [0]), .p (.str [0, 255])] σ = some (.ret (.p (.str (esc (trimB s)))), σ) := fun s h σ =>
    call_ext (ps := [.str (trimB s), .str [0], .str [0, 255]]) h33 (by unfold replO; simp; have := hs s h; have := trim_len s; omega) σ
  generalize (cAt Tb L (n + 1)).1 = C at hC33 hC34 ⊢
  generalize (cAt Tb L (n + 1)).2 = D
  obtain ⟨ρ', σ', b', e, g3, gb⟩ := loop9 C L x (by omega) hm hok (by omega) hC34 hC33 x.length L 0 [(10, .p (.int .i64 0)), (9, .p (.int .i64 (x.length : Int))), (8, .p (.vsl (vcs x) x.length)), (3, .nil0), (2, .p (.str [])), (0, .p (.vsl (vcs x) x.length))] [] .nil0 (by omega) (by omega) ⟨rfl, rfl, rfl, rfl⟩ (.inl ⟨rfl, rfl⟩)
  rw [runFunc_eq, lit26_eq]
  rw [seqN (a := .region _) (by simp [params, exec, runOps, wantedA, stepOp, pureOp, allocOp, readOp, effOp, ev, evs, evO, Env.get_cons, putE, binA, intBin, unA, AV.fit, AV.toCells, partC, partP, mkCells, allP, mkAgg, Cells.len, target]; rfl), seqN (a := .region _) (by simp [exec, runOps, wantedA, stepOp, pureOp, allocOp, readOp, effOp, ev, evs, evO, Env.get_cons, putE, binA, intBin, unA, AV.fit, AV.toCells, partC, partP, mkCells, allP, mkAgg, Cells.len, target]; rfl)]
  have e3 : exec C L (.seq (.region [{ dst := some 8, op := AOp.mv (Opd.t 0), guard := none }, { dst := some 9, op := AOp.len false (Opd.t 8), guard := none }, { dst := some 10, op := AOp.mv (Opd.c (AV.p (PV.int IntKind.i64 (0)))), guard := none }]) (.block 0 (.loop none body9))) ⟨[(3, .nil0), (2, .p (.str [])), (0, .p (.vsl (vcs x) x.length))], [], []⟩ = some (.normal, ⟨ρ', [], σ'⟩) := by
    rw [seqN (a := .region _) (by simp [exec, runOps, wantedA, stepOp, pureOp, allocOp, readOp, effOp, ev, evs, evO, Env.get_cons, putE, binA, intBin, unA, AV.fit, AV.toCells, partC, partP, mkCells, allP, mkAgg, Cells.len, target, lenA]; rfl)]
    simp only [exec, e, if_true]
  rw [seqN e3]
  rcases gb with ⟨rfl, hn⟩ | ⟨_, id, ver, rfl, ho⟩
  · rw [hn]
    simp [exec, runOps, wantedA, stepOp, pureOp, allocOp, readOp, effOp, ev, evs, evO, Env.get_cons, putE, binA, intBin, unA, AV.fit, AV.toCells, partC, partP, mkCells, allP, mkAgg, Cells.len, target, evParts, fillA, AV.cells, splice, spliceC, finA, leaveA, resA, resV, ansV, finX, mixed, g3, lit26, elemsA, bytesOfP]
  · have hb := bytes_bp (encL x)
    have ht : (bp (encL x)).take (encL x).length = bp (encL x) := List.take_of_length_le (by rw [bp_len]; exact Nat.le_refl _)
    simp [exec, runOps, wantedA, stepOp, pureOp, allocOp, readOp, effOp, ev, evs, evO, Env.get_cons, putE, binA, intBin, unA, AV.fit, AV.toCells, partC, partP, mkCells, allP, mkAgg, Cells.len, target, evParts, fillA, AV.cells, splice, spliceC, finA, leaveA, resA, resV, ansV, finX, mixed, g3, lit26, elemsA, takeC, dropC, ho, bp_len, ht, hb]
end Go.Ab.Turn.Enc

/- PlanTurned: which clause says first what a column is (IndexFunc). -/
set_option maxRecDepth 1000000
namespace Go.Ab.Turn
open Go Go.Ab Go.Ab.Plan Go.Ab.Key Go.Ab.Cnt Go.Proofs
variable [Marks]
theorem clsC_len : ∀ l : List Cl, (clsC l).length = l.length * 6
  | [] => rfl
  | c :: l => by
    have := clsC_len l
    have h2 := clC_len c
    simp only [clsC, List.flatMap_cons, List.length_append, List.length_cons] at *
    rw [this]
    have : (clC c).length = 6 := h2
    simp only [clC, List.length_cons] at this
    omega
theorem clsC_at : ∀ (l : List Cl) (i : Nat) (c : Cl), l[i]? = some c → ((clsC l).drop (i * 6)).take 6 = clC c
  | [], i, c, h => by simp at h
  | t :: r, 0, c, h => by
    simp at h
    subst h
    simp only [clsC, List.flatMap_cons, Nat.zero_mul, List.drop_zero]
    rw [← clC_len t, List.take_left]
  | t :: r, i + 1, c, h => by
    simp at h
    have e : (i + 1) * 6 = (clC t).length + i * 6 := by rw [clC_len]; omega
    have ih := clsC_at r i c h
    simp only [clsC, List.flatMap_cons] at ih ⊢
    rw [e, List.drop_append, List.drop_of_length_le (Nat.le_add_right _ _), List.nil_append, Nat.add_sub_cancel_left, ih]
/-- the clauses as they lie in the memory -/
def Sl6 (σ : Heap) (b : AV) (l : List Cl) : Prop := (b = .nil0 ∧ l = []) ∨ ∃ id ver wm ty, b = .sl id ver 0 l.length 6 ∧ σ[id]? = some (.arr (.pv (clsC l)) ver wm ty)
theorem Sl6.push {σ : Heap} {b : AV} {l : List Cl} (h : Sl6 σ b l) (τ : Heap) : Sl6 (σ ++ τ) b l := by
  rcases h with h | ⟨id, ver, wm, ty, rfl, ho⟩
  · exact .inl h
  · exact .inr ⟨id, ver, wm, ty, rfl, by rw [List.getElem?_append_left (List.getElem?_eq_some_iff.1 ho).1]; exact ho⟩
theorem Sl6.len {σ : Heap} {b : AV} {l : List Cl} (h : Sl6 σ b l) : lenA b = some l.length := by
  rcases h with ⟨rfl, rfl⟩ | ⟨id, ver, wm, ty, rfl, _⟩ <;> rfl
abbrev isEqC (col : Nat) (x : Cl) : Bool := x.col == col && x.op == wEq
theorem run25 {Tb : Table} {L n : Nat} (h25 : Tb 25 = some (.raw lit25)) (x : Cl) (c col : Nat) (σ : Heap) (hc : σ[c]? = some (.arr (.pv [.int .i64 (col : Int)]) 0 0 (some 3))) :
    (cAt Tb L (n + 1)).1 25 [.p (.agg (clC x)), .ptr c 0 0] σ = some (.ret (.p (.bool (isEqC col x))), σ ++ [.arr (.pv (clC x)) 0 0 none]) := by
  have hf : fits lit25 [.p (.agg (clC x)), .ptr c 0 0] = true := by rfl
  simp only [cAt, callT, h25, runCode, hf]
  have hc' : (σ ++ [Obj.arr (.pv (clC x)) 0 0 none])[c]? = some (.arr (.pv [.int .i64 (col : Int)]) 0 0 (some 3)) := by
    rw [List.getElem?_append_left (List.getElem?_eq_some_iff.1 hc).1]; exact hc
  obtain ⟨a, b, c', d, e⟩ := vc_four (litV x.v)
  simp only [clC, e] at hc' ⊢
  by_cases h : x.col = col
  · have hb : ((x.col : Int) == (col : Int)) = true := by rw [h]; exact beq_self_eq_true _
    have hb2 : isEqC col x = (x.op == [61]) := by simp [isEqC, h]
    rw [hb2]
    simp [runFunc, lit25, params, exec, runOps, wantedA, stepOp, pureOp, allocOp, readOp, effOp, ev, evs, evO, Env.get_cons, putE, binA, intBin, unA, AV.fit, AV.toCells, partC, partP, mkCells, allP, mkAgg, Cells.len, target, evParts, fillA, AV.cells, splice, spliceC, finA, leaveA, resA, resV, ansV, strBin, mixed, takeC, dropC, Cells.get?, hc', hb]
  · have hb : ((x.col : Int) == (col : Int)) = false := beq_eq_false_iff_ne.2 (by omega)
    have hb2 : isEqC col x = false := by simp [isEqC, h]
    rw [hb2]
    simp [runFunc, lit25, params, exec, runOps, wantedA, stepOp, pureOp, allocOp, readOp, effOp, ev, evs, evO, Env.get_cons, putE, binA, intBin, unA, AV.fit, AV.toCells, partC, partP, mkCells, allP, mkAgg, Cells.len, target, evParts, fillA, AV.cells, splice, spliceC, finA, leaveA, resA, resV, ansV, strBin, mixed, takeC, dropC, Cells.get?, hc', hb]
section
variable {C : Oracle} {L : Nat} {l : List Cl} {b : AV} {c col : Nat}
structure At24 (l : List Cl) (b : AV) (c : Nat) (ρ : Env) (i : Nat) : Prop where
  t0 : ρ.get 0 = some b
  t1 : ρ.get 1 = some (.clo 25 [] [.ptr c 0 0])
  t7 : ρ.get 7 = some (int l.length)
  t8 : ρ.get 8 = some (int i)
theorem stop24 {ρ : Env} (h : At24 l b c ρ l.length) (σ : Heap) : ∃ ρ', exec C L n24_2_2kb ⟨ρ, [], σ⟩ = some (.exit 0, ⟨ρ', [], σ⟩) :=
  ⟨_, by simp [n24_2_2kb, n24_2_2kb_1, n24_2_2kb_2, exec, runOps, wantedA, stepOp, pureOp, allocOp, readOp, effOp, ev, evs, evO, Env.get_cons, putE, binA, intBin, unA, AV.fit, AV.toCells, partC, partP, mkCells, allP, mkAgg, Cells.len, target, h.t7, h.t8]; rfl⟩
end
end Go.Ab.Turn
