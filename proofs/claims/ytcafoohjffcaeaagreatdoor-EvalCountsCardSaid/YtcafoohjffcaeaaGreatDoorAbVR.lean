/- EvalCounts: the law: its loop; what stands behind the totals (plain). -/
import Derived.Test.YtcafoohjffcaeaaGreatDoorAbVP
import Derived.Test.YtcafoohjffcaeaaGreatDoorAbVD
import Derived.Test.YtcafoohjffcaeaaGreatDoorAbVA
import Derived.Test.YtcafoohjffcaeaaGreatDoorAbV4
set_option linter.unusedSectionVars false
set_option linter.unusedSimpArgs false
set_option linter.unusedVariables false
set_option maxRecDepth 1000000
namespace Go.Ab.Cnt
open Go Go.Ab Go.Ab.Key Go.Proofs
variable [Marks]
section
variable (C : Oracle) (L : Nat) (x : List V) (lo hi : V) (σ : Heap)
theorem loop6 (hσ : HpL lo hi σ) (hm : x.length ≤ 9223372036854775807)
    (hN : ∀ v ∈ x, isNull v = true ∨ (ordV v lo ≠ .lt ∧ ordV v hi ≠ .gt))
    (hC1 : ∀ v ∈ x, C 20 [.p (.agg (vc v)), .p (.agg (vc lo))] σ = some (.ret (.p (.int .i64 (ordI (ordV v lo)))), σ))
    (hC2 : ∀ v ∈ x, C 20 [.p (.agg (vc v)), .p (.agg (vc hi))] σ = some (.ret (.p (.int .i64 (ordI (ordV v hi)))), σ)) : ∀ (d i f : Nat) (ρ : Env) (b1 b2 : Bool), i + d = x.length → d < f → AtL x ρ i b1 b2 →
    ∃ ρ', iter (exec C L body6) none f ⟨ρ, [], σ⟩ = some (.exit 0, ⟨ρ', [], σ⟩) ∧ AtL x ρ' x.length (b1 || (x.drop i).any fun v => decide (v = lo)) (b2 || (x.drop i).any fun v => decide (v = hi))
  | 0, i, f, ρ, b1, b2, hd, hf, h => by
    obtain ⟨f, rfl⟩ : ∃ m, f = m + 1 := ⟨f - 1, by omega⟩
    obtain rfl : i = x.length := by omega
    obtain ⟨ρ', e, h'⟩ := stop6 C L x σ ρ b1 b2 h
    refine ⟨ρ', by simp only [iter, St.keep, e], ?_⟩
    rw [List.drop_length]
    simpa using h'
  | d + 1, i, f, ρ, b1, b2, hd, hf, h => by
    obtain ⟨f, rfl⟩ : ∃ m, f = m + 1 := ⟨f - 1, by omega⟩
    have hi1 : i < x.length := by omega
    have hmem := List.getElem_mem hi1
    obtain ⟨ρ1, e, h1⟩ := go6 C L x lo hi σ i x[i] hσ ρ b1 b2 (List.getElem?_eq_getElem hi1) hm h (hN _ hmem) (hC1 _ hmem) (hC2 _ hmem)
    obtain ⟨ρ', e', h'⟩ := loop6 hσ hm hN hC1 hC2 d (i + 1) f ρ1 _ _ (by omega) (by omega) h1
    refine ⟨ρ', by simp only [iter, St.keep, e]; exact e', ?_⟩
    have hdr : x.drop i = x[i] :: x.drop (i + 1) := List.drop_eq_getElem_cons hi1
    rw [hdr, List.any_cons, List.any_cons, ← Bool.or_assoc, ← Bool.or_assoc]
    exact h'
end
/-- the greatest -/
theorem great_spec : ∀ (x : List V) (m : V), (pick30 x m = m ∨ pick30 x m ∈ x) ∧ ordV (pick30 x m) m ≠ .lt ∧ ∀ a ∈ x, ordV a (pick30 x m) ≠ .gt
  | [], m => ⟨.inl rfl, by simp [pick30, ordV_self], fun a h => by simp at h⟩
  | b :: x, m => by
    have hl : pick30 (b :: x) m = pick30 x (if ordV b m = .gt then b else m) := rfl
    have sw : ∀ u w : V, ordV u w ≠ .lt → ordV w u ≠ .gt := fun u w h => by
      rw [ordV_swap u w]
      cases ho : ordV u w <;> simp [Ordering.swap]
      exact h ho
    have sw' : ∀ u w : V, ordV w u ≠ .gt → ordV u w ≠ .lt := fun u w h => by
      rw [ordV_swap w u]
      cases ho : ordV w u <;> simp [Ordering.swap]
      exact h ho
    rw [hl]
    by_cases h : ordV b m = .gt
    · rw [if_pos h]
      obtain ⟨h1, h2, h3⟩ := great_spec x b
      have hmb : ordV m b ≠ .gt := by rw [ordV_swap b m, h]; decide
      refine ⟨.inr ?_, sw' _ _ (ordV_trans hmb (sw _ _ h2)), fun a ha => ?_⟩
      · rcases h1 with h1 | h1
        · rw [h1]; exact List.mem_cons_self ..
        · exact List.mem_cons_of_mem _ h1
      · rcases List.mem_cons.1 ha with rfl | ha
        · exact sw _ _ h2
        · exact h3 a ha
    · rw [if_neg h]
      obtain ⟨h1, h2, h3⟩ := great_spec x m
      refine ⟨?_, h2, fun a ha => ?_⟩
      · rcases h1 with h1 | h1
        · exact .inl h1
        · exact .inr (List.mem_cons_of_mem _ h1)
      · rcases List.mem_cons.1 ha with rfl | ha
        · exact ordV_trans h (sw _ _ h2)
        · exact h3 a ha
/-- what the values that are there say of the least and the greatest -/
theorem lowhigh (x : List V) : (nn x = [] ∧ lowest x = .null ∧ highest x = .null) ∨
    (nn x ≠ [] ∧ isNull (lowest x) = false ∧ lowest x ∈ x ∧ highest x ∈ x ∧ (∀ v ∈ nn x, ordV v (lowest x) ≠ .lt ∧ ordV v (highest x) ≠ .gt)) := by
  have sw' : ∀ u w : V, ordV w u ≠ .gt → ordV u w ≠ .lt := fun u w h => by
    rw [ordV_swap w u]
    cases ho : ordV w u <;> simp [Ordering.swap]
    exact h ho
  cases hn : nn x with
  | nil => exact .inl ⟨rfl, by simp [lowest, hn], by simp [highest, hn]⟩
  | cons v r =>
    refine .inr ⟨by simp, ?_⟩
    have e1 : lowest x = least r v := by simp only [lowest, hn]; rfl
    have e2 : highest x = pick30 r v := by simp only [highest, hn]
    obtain ⟨a1, a2, a3⟩ := least_spec r v
    obtain ⟨b1, b2, b3⟩ := great_spec r v
    have m1 : lowest x ∈ nn x := by
      rw [e1, hn]
      rcases a1 with h | h
      · rw [h]; exact List.mem_cons_self ..
      · exact List.mem_cons_of_mem _ h
    have m2 : highest x ∈ nn x := by
      rw [e2, hn]
      rcases b1 with h | h
      · rw [h]; exact List.mem_cons_self ..
      · exact List.mem_cons_of_mem _ h
    have f1 := List.mem_filter.1 m1
    have f2 := List.mem_filter.1 m2
    refine ⟨by simpa using f1.2, f1.1, f2.1, fun u hu => ?_⟩
    rw [e1, e2]
    rcases List.mem_cons.1 hu with rfl | hu
    · exact ⟨sw' _ _ a2, fun h => b2 (by rw [ordV_swap u, h]; rfl)⟩
    · exact ⟨sw' _ _ (a3 u hu), b3 u hu⟩
theorem bounds (x : List V) : ∀ v ∈ x, isNull v = true ∨ (ordV v (lowest x) ≠ .lt ∧ ordV v (highest x) ≠ .gt) := by
  intro v hv
  by_cases hn : isNull v = true
  · exact .inl hn
  · have hm : v ∈ nn x := List.mem_filter.2 ⟨hv, by simpa using hn⟩
    rcases lowhigh x with ⟨h, _, _⟩ | ⟨_, _, _, _, h⟩
    · rw [h] at hm; cases hm
    · exact .inr (h v hm)
theorem nn_app (a b : List V) : nn (a ++ b) = nn a ++ nn b := List.filter_append ..
theorem uq_nn : ∀ (x k : List V), (nn (x.foldl add1 k)).length ≤ (nn k).length + (nn x).length
  | [], k => by simp [nn]
  | v :: x, k => by
    have h := uq_nn x (add1 k v)
    have h2 : (nn (add1 k v)).length ≤ (nn k).length + (nn [v]).length := by
      unfold add1
      split
      · omega
      · rw [nn_app, List.length_append]
        exact Nat.le_refl _
    have h3 : (nn (v :: x)).length = (nn [v]).length + (nn x).length := by
      rw [show v :: x = [v] ++ x from rfl, nn_app, List.length_append]
    rw [List.foldl_cons]
    omega
theorem uq_keep : ∀ (x k : List V), ∀ u ∈ k, u ∈ x.foldl add1 k
  | [], k, u, h => h
  | v :: x, k, u, h => by
    refine uq_keep x (add1 k v) u ?_
    unfold add1
    split
    · exact h
    · exact List.mem_append_left _ h
theorem uq_any : ∀ (x k : List V), ∀ v ∈ x, ∃ u ∈ x.foldl add1 k, ordV u v = .eq
  | [], k, v, h => by cases h
  | w :: x, k, v, h => by
    rw [List.foldl_cons]
    rcases List.mem_cons.1 h with rfl | h
    · by_cases ha : (k.any fun u => ordV u v == .eq) = true
      · obtain ⟨u, hu, he⟩ := List.any_eq_true.1 ha
        refine ⟨u, ?_, by simpa using he⟩
        have : add1 k v = k := by simp only [add1, ha, if_true]
        rw [this]
        exact uq_keep x k u hu
      · have : add1 k v = k ++ [v] := by simp only [add1, ha]; rfl
        exact ⟨v, by rw [this]; exact uq_keep x _ v (by simp), ordV_self v⟩
    · exact uq_any x _ v h
theorem eq_null {u v : V} (h : ordV u v = .eq) (hv : isNull v = false) : isNull u = false := by
  cases u <;> cases v <;> first | rfl | (simp [isNull] at hv; done) | (simp [ordV, rank] at h; done)
theorem uq_zero (x : List V) : (nn x).length = 0 ↔ (nn (uq x)).length = 0 := by
  constructor
  · intro h
    have := uq_nn x []
    simp only [nn, List.filter_nil, List.length_nil, Nat.zero_add] at this
    have h' : (nn (uq x)).length ≤ (nn x).length := this
    omega
  · intro h
    rw [List.length_eq_zero_iff] at h ⊢
    rw [List.eq_nil_iff_forall_not_mem]
    intro v hv
    obtain ⟨h1, h2⟩ := List.mem_filter.1 hv
    obtain ⟨u, hu, he⟩ := uq_any x [] v h1
    have hn : isNull v = false := by simpa using h2
    have : u ∈ nn (uq x) := List.mem_filter.2 ⟨hu, by rw [eq_null he hn]; rfl⟩
    rw [h] at this
    cases this
theorem uq_le (x : List V) : (nn (uq x)).length ≤ (nn x).length := by
  have := uq_nn x []
  simp only [nn, List.filter_nil, List.length_nil, Nat.zero_add] at this
  exact this
end Go.Ab.Cnt

/- EvalCounts: the law: its last region; its ways out. -/
set_option maxRecDepth 1000000
namespace Go.Ab.Cnt
open Go Go.Ab Go.Ab.Key Go.Proofs
variable [Marks]
section
variable (C : Oracle) (L : Nat) (x : List V) (lo hi : V) (σ : Heap)
theorem last6 (hσ : HpL lo hi σ) (n2 : Nat) (o1 : σ[1]? = some (.arr (.pv (vc (.num n2))) 0 0 (some 30))) (ρ : Env) (b1 b2 : Bool) (h : AtL x ρ x.length b1 b2)
    (h8 : C 8 [] σ = some (.ret (.p (.bool true)), σ))
    (hz : n2 = 0 ∨ (n2 ≠ 0 ∧ b1 = true ∧ b2 = true ∧ ordV lo hi ≠ .gt))
    (hC : C 20 [.p (.agg (vc lo)), .p (.agg (vc hi))] σ = some (.ret (.p (.int .i64 (ordI (ordV lo hi)))), σ)) :
    ∃ ρ', exec C L p6_r ⟨ρ, [], σ⟩ = some (.ret, ⟨ρ', [], σ⟩) ∧ ρ'.get 2 = some (.p (.bool true)) := by
  rw [vcn] at o1
  rcases hz with hz | ⟨hz, rfl, rfl, hg⟩
  · subst hz
    exact ⟨_, by simp [p6_r, exec, runOps, wantedA, stepOp, pureOp, allocOp, readOp, effOp, ev, evs, evO, Env.get_cons, putE, binA, intBin, unA, AV.fit, AV.toCells, partC, partP, mkCells, allP, mkAgg, Cells.len, target, h8, h.t14, h.t6, o1, eqP]; rfl, by simp [Env.get_cons]⟩
  · have hb : ((n2 : Int) == 0) = false := beq_eq_false_iff_ne.2 (by omega)
    have o3 := hσ.o3
    have o4 := hσ.o4
    obtain ⟨y0, y1, y2, y3, hy⟩ := four lo
    obtain ⟨z0, z1, z2, z3, hzz⟩ := four hi
    have ho : ¬ 0 < ordI (ordV lo hi) := by
      cases hh : ordV lo hi <;> simp [ordI]
      exact hg hh
    have ho' : ordI (ordV lo hi) ≤ 0 := by omega
    generalize ordI (ordV lo hi) = j at *
    rw [hy, hzz] at hC
    rw [hy] at o3
    rw [hzz] at o4
    exact ⟨_, by simp [p6_r, exec, runOps, wantedA, stepOp, pureOp, allocOp, readOp, effOp, ev, evs, evO, Env.get_cons, putE, binA, intBin, unA, AV.fit, AV.toCells, partC, partP, mkCells, allP, mkAgg, Cells.len, target, h8, h.t14, h.t15, h.t16, h.t6, h.t10, h.t12, o1, o3, o4, hz, hb, hC, ho', eqP]; rfl, by simp [Env.get_cons, hz]⟩
theorem gone6 (l : List Raw) (hr : l.all Raw.right = false ∨ 400 < l.length) (h7 : C 7 [.p (.vsl (raws l) l.length)] [] = some (.ret (.p (.bool (l.all Raw.right))), [])) (h8 : C 8 [] [] = some (.ret (.p (.bool true)), [])) :
    ∃ ρ', exec C L (.seq p6_1 (.seq p6_2 p6_3)) ⟨params 0 [.p (.vsl (raws l) l.length)], [], []⟩ = some (.ret, ⟨ρ', [], []⟩) ∧ ρ'.get 2 = some (.p (.bool true)) := by
  cases ha : l.all Raw.right with
  | false =>
    rw [ha] at h7
    exact ⟨_, by simp [p6_1, p6_2, p6_3, params, exec, runOps, wantedA, stepOp, pureOp, allocOp, readOp, effOp, ev, evs, evO, Env.get_cons, putE, binA, intBin, unA, AV.fit, AV.toCells, partC, partP, mkCells, allP, mkAgg, Cells.len, target, h7, h8, lenA]; rfl, by simp [Env.get_cons]⟩
  | true =>
    rw [ha] at h7
    have hl : 400 < l.length := by
      rcases hr with h | h
      · rw [h] at ha; cases ha
      · exact h
    have hl' : (400 : Int) < (l.length : Int) := by omega
    exact ⟨_, by simp [p6_1, p6_2, p6_3, params, exec, runOps, wantedA, stepOp, pureOp, allocOp, readOp, effOp, ev, evs, evO, Env.get_cons, putE, binA, intBin, unA, AV.fit, AV.toCells, partC, partP, mkCells, allP, mkAgg, Cells.len, target, h7, h8, lenA, hl, hl']; rfl, by simp [Env.get_cons]⟩
theorem stay6 (x : List V) (hl : x.length ≤ 400) (h7 : C 7 [.p (.vsl (vcs x) x.length)] [] = some (.ret (.p (.bool true)), [])) :
    ∃ ρ', exec C L (.seq p6_1 (.seq p6_2 p6_3)) ⟨params 0 [.p (.vsl (vcs x) x.length)], [], []⟩ = some (.normal, ⟨ρ', [], []⟩) ∧ ρ'.get 0 = some (.p (.vsl (vcs x) x.length)) := by
  have hl' : ¬ (400 : Int) < (x.length : Int) := by omega
  have hl'' : ¬ 400 < x.length := by omega
  exact ⟨_, by simp [p6_1, p6_2, p6_3, params, exec, runOps, wantedA, stepOp, pureOp, allocOp, readOp, effOp, ev, evs, evO, Env.get_cons, putE, binA, intBin, unA, AV.fit, AV.toCells, partC, partP, mkCells, allP, mkAgg, Cells.len, target, h7, lenA, hl', hl'']; rfl, by simp [Env.get_cons]⟩
end
def codeOf : Option FImpl → AFunc
  | some (.code af _) => af
  | _ => default
theorem q8 : TC 8 = some (.code (codeOf (TC 8)) true) := by kernel_rfl
theorem fit8 : fits (codeOf (TC 8)) ([].map AV.p) = true := by kernel_rfl
theorem alive (L n : Nat) (σ : Heap) : (cAt TC (L + 100) (n + 30)).1 8 [] σ = some (.ret (.p (.bool true)), σ) :=
  call_ans (ps := []) q8 fit8 (by kernel_rfl) σ
theorem q6 : TC 6 = some (.code lit6 false) := by kernel_rfl
end Go.Ab.Cnt
