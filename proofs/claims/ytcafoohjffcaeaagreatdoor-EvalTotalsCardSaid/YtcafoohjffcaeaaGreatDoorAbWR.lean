/- EvalTotals: a sum, tried. -/
import Derived.Test.YtcafoohjffcaeaaGreatDoorAbWP
set_option linter.unusedSectionVars false
set_option linter.unusedSimpArgs false
set_option linter.unusedVariables false
set_option maxRecDepth 1000000
namespace Go.Ab.Cnt
open Go Go.Ab Go.Ab.Key Go.Proofs
variable [Marks]
/-- what a sum's function ends with -/
def sumR (p : V × List UInt8) : CRes := if p.2 = [48, 48, 48, 48, 48] then .ret (.p (.agg (vc p.1))) else .pan (.p (.iface 71 (.str p.2)))
theorem sumR_pure (p : V × List UInt8) : PureR (sumR p) := by
  unfold sumR
  split
  · exact .inl ⟨_, rfl⟩
  · exact .inr ⟨_, rfl⟩
section
variable (C : Oracle) (D : DOracle) (L : Nat) (x : List V) (rest : List PV) (wm : Nat) (ta tb : Option Nat)
theorem loop32 (hm : x.length ≤ 9223372036854775807) (hx : ∀ v ∈ x, isNull v = false)
    (hC : ∀ (a : Int) (v : V), isNull v = false → ∀ σ, C 34 [.p (.agg (vc (.num a))), .p (.agg (vc v))] σ = some (.ret (.p (.tup [.agg (vc (addS a v).1), .str (addS a v).2])), σ))
    (hC1 : ∀ (r : V) σ, C 33 [.p (.agg (vc r)), .p (.str [48, 48, 48, 48, 48])] σ = some (.ret (.p (.agg (vc r))), σ))
    (hC2 : ∀ (r : V) (st : List UInt8), st ≠ [48, 48, 48, 48, 48] → ∀ σ, C 33 [.p (.agg (vc r)), .p (.str st)] σ = some (.pan (.p (.iface 71 (.str st))), σ)) : ∀ (d i f : Nat) (ρ : Env) (σ : Heap) (a : Int), i + d = x.length → d < f → At32 x rest wm ta tb ρ σ i a →
    (∃ ρ' σ' c, iter (exec C L body32) none f ⟨ρ, [], σ⟩ = some (.exit 0, ⟨ρ', [], σ'⟩) ∧ At32 x rest wm ta tb ρ' σ' x.length c ∧ sumV (x.drop i) a = (.num c, [48, 48, 48, 48, 48])) ∨
    ∃ ρ' σ' τ st, iter (exec C L body32) none f ⟨ρ, [], σ⟩ = some (.pan (.p (.iface 71 (.str st))), ⟨ρ', [], σ'⟩) ∧ σ' = AB x rest wm ta tb ++ τ ∧ st ≠ [48, 48, 48, 48, 48] ∧ sumV (x.drop i) a = (.null, st)
  | 0, i, f, ρ, σ, a, hd, hf, h => by
    obtain ⟨f, rfl⟩ : ∃ m, f = m + 1 := ⟨f - 1, by omega⟩
    obtain rfl : i = x.length := by omega
    obtain ⟨ρ', e, h'⟩ := stop32 C L x rest wm ta tb ρ σ a h
    refine .inl ⟨ρ', σ, a, by simp only [iter, St.keep, e], h', ?_⟩
    rw [List.drop_length]
    rfl
  | d + 1, i, f, ρ, σ, a, hd, hf, h => by
    obtain ⟨f, rfl⟩ : ∃ m, f = m + 1 := ⟨f - 1, by omega⟩
    have hi1 : i < x.length := by omega
    have hnull := hx _ (List.getElem_mem hi1)
    have hdr : x.drop i = x[i] :: x.drop (i + 1) := List.drop_eq_getElem_cons hi1
    obtain ⟨k1, k2⟩ := round32 C L x rest wm ta tb ρ σ i a x[i] (List.getElem?_eq_getElem hi1) hm h _ _ (hC a x[i] hnull)
    rcases addS_cases a x[i] hnull with ⟨c, hc⟩ | ⟨st, hst, hc⟩
    · rw [hc] at k1
      obtain ⟨ρ1, σ1, e, h1⟩ := k1 c rfl (hC1 _)
      have hs : sumV (x.drop i) a = sumV (x.drop (i + 1)) c := by rw [hdr]; simp only [sumV, hc]
      rw [hs]
      rcases loop32 hm hx hC hC1 hC2 d (i + 1) f ρ1 σ1 c (by omega) (by omega) h1 with ⟨ρ', σ', c', e', h', q⟩ | ⟨ρ', σ', τ, st, e', h', q1, q2⟩
      · exact .inl ⟨ρ', σ', c', by simp only [iter, St.keep, e]; exact e', h', q⟩
      · exact .inr ⟨ρ', σ', τ, st, by simp only [iter, St.keep, e]; exact e', h', q1, q2⟩
    · rw [hc] at k2
      obtain ⟨ρ1, σ1, τ, e, h1⟩ := k2 (hC2 _ _ hst)
      refine .inr ⟨ρ1, σ1, τ, st, by simp only [iter, St.keep, e], h1, hst, ?_⟩
      rw [hdr]
      simp only [sumV, hc]
theorem run32 (hm : x.length ≤ 9223372036854775807) (hL : x.length < L) (hx : ∀ v ∈ x, isNull v = false)
    (hN : ∀ k σ, C 28 [.p (.int .i64 k)] σ = some (.ret (.p (.agg (vc (.num k)))), σ))
    (hC : ∀ (a : Int) (v : V), isNull v = false → ∀ σ, C 34 [.p (.agg (vc (.num a))), .p (.agg (vc v))] σ = some (.ret (.p (.tup [.agg (vc (addS a v).1), .str (addS a v).2])), σ))
    (hC1 : ∀ (r : V) σ, C 33 [.p (.agg (vc r)), .p (.str [48, 48, 48, 48, 48])] σ = some (.ret (.p (.agg (vc r))), σ))
    (hC2 : ∀ (r : V) (st : List UInt8), st ≠ [48, 48, 48, 48, 48] → ∀ σ, C 33 [.p (.agg (vc r)), .p (.str st)] σ = some (.pan (.p (.iface 71 (.str st))), σ)) :
    ∃ τ, runFunc C D L lit32 [.ptr 0 0 0] (AB x rest wm ta tb) = some (sumR (sumV x 0), AB x rest wm ta tb ++ τ) := by
  have e0 : ∃ ρ, exec C L (.seq (fstC lit32.body) (.seq (fstC (sndC lit32.body)) (fstC (fstC (sndC (sndC lit32.body)))))) ⟨params 0 [.ptr 0 0 0], [], AB x rest wm ta tb⟩ = some (.normal, ⟨ρ, [], AB x rest wm ta tb ++ [.arr (.pv zero4) 0 0 (some 30), .arr (.pv (vc (.num 0))) 0 0 (some 30)]⟩) ∧
      ρ.get 1 = some (.ptr 2 0 0) ∧ ρ.get 2 = some (.ptr 3 0 0) ∧ ρ.get 6 = some (.sl 1 0 0 x.length 4) ∧ ρ.get 7 = some (.p (.int .i64 (x.length : Int))) ∧ ρ.get 8 = some (.p (.int .i64 ((0 : Nat) : Int))) := by
    simp only [vcn] at hN ⊢
    exact ⟨_, by simp [lit32, fstC, sndC, params, AB, zero4, exec, runOps, wantedA, stepOp, pureOp, allocOp, readOp, effOp, ev, evs, evO, Env.get_cons, putE, binA, intBin, unA, AV.fit, AV.toCells, partC, partP, mkCells, allP, mkAgg, Cells.len, target, evParts, fillA, AV.cells, splice, spliceC, finA, leaveA, resA, resV, ansV, lenA, hN]; rfl, by simp [Env.get_cons], by simp [Env.get_cons], by simp [Env.get_cons], by simp [Env.get_cons], by simp [Env.get_cons]⟩
  obtain ⟨ρ, e0, a1, a2, a6, a7, a8⟩ := e0
  have hat : At32 x rest wm ta tb ρ (AB x rest wm ta tb ++ [.arr (.pv zero4) 0 0 (some 30), .arr (.pv (vc (.num 0))) 0 0 (some 30)]) 0 0 := ⟨a1, a2, a6, a7, a8, [], rfl⟩
  have hbody : exec C L lit32.body ⟨params 0 [.ptr 0 0 0], [], AB x rest wm ta tb⟩ = exec C L (.seq (.block 0 (.loop none body32)) (sndC (sndC (sndC lit32.body)))) ⟨ρ, [], AB x rest wm ta tb ++ [.arr (.pv zero4) 0 0 (some 30), .arr (.pv (vc (.num 0))) 0 0 (some 30)]⟩ := by
    rw [show lit32.body = .seq (fstC lit32.body) (.seq (fstC (sndC lit32.body)) (.seq (.seq (fstC (fstC (sndC (sndC lit32.body)))) (.block 0 (.loop none body32))) (sndC (sndC (sndC lit32.body))))) from rfl]
    have e11 : ∀ (a b c d e : ACode) st, exec C L (.seq a (.seq b (.seq (.seq c d) e))) st = exec C L (.seq a (.seq b (.seq c (.seq d e)))) st := fun a b c d e st => by
      simp only [exec]
      repeat' split
      all_goals simp_all
    have e12 : ∀ {a b c d : ACode} {st st1 : St}, exec C L (.seq a (.seq b c)) st = some (.normal, st1) → exec C L (.seq a (.seq b (.seq c d))) st = exec C L d st1 := fun {a b c d st st1} h => by
      simp only [exec] at h ⊢
      split at h
      · split at h
        · simp_all
        · simp_all
      · simp_all
    rw [e11]
    exact e12 e0
  rw [runFunc_eq, hbody]
  rcases loop32 C L x rest wm ta tb hm hx hC hC1 hC2 x.length 0 L ρ _ 0 (by omega) hL hat with ⟨ρ', σ', c, e, h', q⟩ | ⟨ρ', σ', τ, st, e, h', hst, q⟩
  · rw [List.drop_zero] at q
    have e10 : exec C L (.block 0 (.loop none body32)) ⟨ρ, [], AB x rest wm ta tb ++ [.arr (.pv zero4) 0 0 (some 30), .arr (.pv (vc (.num 0))) 0 0 (some 30)]⟩ = some (.normal, ⟨ρ', [], σ'⟩) := by
      simp only [exec, e, if_true]
    rw [seqN e10, q]
    obtain ⟨τ, hσ⟩ := h'.hp
    refine ⟨[.arr (.pv (vc (.num c))) 0 0 (some 30), .arr (.pv (vc (.num c))) 0 0 (some 30)] ++ τ, ?_⟩
    have hr : sumR (.num c, [48, 48, 48, 48, 48]) = .ret (.p (.agg (vc (.num c)))) := rfl
    rw [hr, hσ]
    simp [lit32, sndC, finX, AB, vc, zero4, exec, runOps, wantedA, stepOp, pureOp, allocOp, readOp, effOp, ev, evs, evO, Env.get_cons, putE, binA, intBin, unA, AV.fit, AV.toCells, partC, partP, mkCells, allP, mkAgg, Cells.len, target, evParts, fillA, AV.cells, splice, spliceC, finA, leaveA, resA, resV, ansV, h'.t1, h'.t2]
  · rw [List.drop_zero] at q
    have e10 : exec C L (.seq (.block 0 (.loop none body32)) (sndC (sndC (sndC lit32.body)))) ⟨ρ, [], AB x rest wm ta tb ++ [.arr (.pv zero4) 0 0 (some 30), .arr (.pv (vc (.num 0))) 0 0 (some 30)]⟩ = some (.pan (.p (.iface 71 (.str st))), ⟨ρ', [], σ'⟩) := by
      simp only [exec, e]
    rw [e10, q]
    refine ⟨τ, ?_⟩
    have hr : sumR (.null, st) = .pan (.p (.iface 71 (.str st))) := by simp only [sumR, if_neg hst]
    rw [hr, h']
    simp [finX, finA, leaveA]
end
section
variable (L n : Nat)
theorem q32 : TC 32 = some (.code lit32 true) := by kernel_rfl
theorem sum32 (x : List V) (rest : List PV) (ta tb : Option Nat) (hm : x.length ≤ 9223372036854775807) (hL : x.length < L) (hL3 : 3 ≤ L) (hx : ∀ v ∈ x, isNull v = false) {σ : Heap} {id id' ver wm : Nat}
    (hA : σ[id]? = some (.arr (.av [.sl id' ver 0 x.length 4]) 0 0 ta)) (hB : σ[id']? = some (.arr (.pv (vcs x ++ rest)) ver wm tb)) :
    (cAt TC L (n + 6)).1 32 [.ptr id 0 0] σ = some (sumR (sumV x 0), σ) := by
  have hN := fun k σ => num28 L (n + 4) k σ
  have hC := fun (a : Int) (v : V) (h : isNull v = false) σ => add34 L n a v h hL3 σ
  have hC1 := fun (r : V) σ => must_ok L (n + 4) r σ
  have hC2 := fun (r : V) st (h : st ≠ [48, 48, 48, 48, 48]) σ => must_pan L (n + 4) r st h σ
  rw [show cAt TC L (n + 6) = (callT TC (cAt TC L (n + 5)).1 (cAt TC L (n + 5)).2 L, defT TC (cAt TC L (n + 5)).1 L) from rfl]
  simp only [callT, q32]
  obtain ⟨τ, hr⟩ := run32 (cAt TC L (n + 5)).1 (cAt TC L (n + 5)).2 L x rest wm ta tb hm hL hx hN hC hC1 hC2
  have hf : fits lit32 [.ptr 0 0 0] = true := rfl
  have hb : Nat.beq id id = true := Nat.beq_refl id
  exact wrap_hold (as0 := [.ptr 0 0 0]) (by simp only [runCode, hf]; exact hr) (sumR_pure _) hA hB rfl (by simp [renL, renV, fwd, posOf, hb]) (fun tl => rfl)
end
end Go.Ab.Cnt

/- EvalTotals: Total is a sum. -/
set_option maxRecDepth 1000000
namespace Go.Ab.Cnt
open Go Go.Ab Go.Ab.Key Go.Proofs
variable [Marks]
theorem sumV_done : ∀ (x : List V) (a : Int), (∀ v ∈ x, isNull v = false) → (sumV x a).2 = [48, 48, 48, 48, 48] ∨ ((sumV x a).2 ≠ [48, 48, 48, 48, 48] ∧ (sumV x a).1 = .null)
  | [], a, _ => .inl rfl
  | v :: r, a, h => by
    rcases addS_cases a v (h v (List.mem_cons_self ..)) with ⟨c, hc⟩ | ⟨st, hst, hc⟩
    · have : sumV (v :: r) a = sumV r c := by simp only [sumV, hc]
      rw [this]
      exact sumV_done r c (fun u hu => h u (List.mem_cons_of_mem _ hu))
    · have : sumV (v :: r) a = (.null, st) := by simp only [sumV, hc]
      rw [this]
      exact .inr ⟨hst, rfl⟩
section
variable (L n : Nat)
theorem tried31 (x : List V) (rest : List PV) (ta tb : Option Nat) (hm : x.length ≤ 9223372036854775807) (hL : x.length < L) (hL3 : 3 ≤ L) (hx : ∀ v ∈ x, isNull v = false) {σ : Heap} {id id' ver wm : Nat}
    (hA : σ[id]? = some (.arr (.av [.sl id' ver 0 x.length 4]) 0 0 ta)) (hB : σ[id']? = some (.arr (.pv (vcs x ++ rest)) ver wm tb)) :
    (cAt TC L (n + 7)).1 31 [.clo 32 [] [.ptr id 0 0]] σ = some (.ret (.p (.tup [.agg (vc (sumV x 0).1), .str (sumV x 0).2])), σ) := by
  have hC := fun τ => sum32 L n x rest ta tb hm hL hL3 hx (σ := AB x rest wm ta tb ++ τ) (id := 0) (id' := 1) (ver := 0) (wm := wm) rfl rfl
  have hD1 := fun Z E τ => calm45 L (n + 5) (.arr (.av [.sl 1 0 0 x.length 4]) 0 0 ta) (.arr (.pv (vcs x ++ rest)) 0 wm tb) Z E τ
  have hD2 := fun z e tz te hz he st τ => hurt45 L (n + 5) (.arr (.av [.sl 1 0 0 x.length 4]) 0 0 ta) (.arr (.pv (vcs x ++ rest)) 0 wm tb) z e tz te hz he st τ
  rw [show cAt TC L (n + 7) = (callT TC (cAt TC L (n + 6)).1 (cAt TC L (n + 6)).2 L, defT TC (cAt TC L (n + 6)).1 L) from rfl]
  simp only [callT, q31]
  generalize (cAt TC L (n + 6)).1 = C at *
  generalize (cAt TC L (n + 6)).2 = D at *
  have hf : fits lit31 [.clo 32 [] [.ptr 0 0 0]] = true := rfl
  have hb : Nat.beq id id = true := Nat.beq_refl id
  have key : ∃ τ, runCode C D L lit31 [.clo 32 [] [.ptr 0 0 0]] (AB x rest wm ta tb) = some (.ret (.p (.tup [.agg (vc (sumV x 0).1), .str (sumV x 0).2])), AB x rest wm ta tb ++ τ) := by
    simp only [runCode, hf]
    rcases sumV_done x 0 hx with hd | ⟨hd, hn⟩
    · have hr : sumR (sumV x 0) = .ret (.p (.agg (vc (sumV x 0).1))) := by simp only [sumR, if_pos hd]
      rw [hr] at hC
      rw [hd]
      generalize (sumV x 0).1 = r at *
      obtain ⟨z0, z1, z2, z3, hz⟩ := four' r
      rw [hz] at hC ⊢
      simp only [AB, List.cons_append, List.nil_append] at hC ⊢
      exact ⟨_, by simp [lit31, runFunc, params, exec, runOps, wantedA, stepOp, pureOp, allocOp, readOp, effOp, ev, evs, evO, Env.get_cons, putE, binA, intBin, unA, AV.fit, AV.toCells, partC, partP, mkCells, allP, mkAgg, Cells.len, target, evParts, fillA, AV.cells, splice, spliceC, finA, leaveA, resA, resV, ansV, hC, hD1, mkTup, List.cons_append]; rfl⟩
    · have hr : sumR (sumV x 0) = .pan (.p (.iface 71 (.str (sumV x 0).2))) := by simp only [sumR, if_neg hd]
      rw [hr] at hC
      rw [hn]
      generalize (sumV x 0).2 = st at *
      obtain ⟨τ', hD2⟩ := hD2 [.int .i64 0, .int .i64 0, .str [], .bool false] [.str []] (some 30) (some 31) rfl rfl st []
      simp only [AB, List.cons_append, List.nil_append, vc] at hC hD2 ⊢
      exact ⟨_, by simp [lit31, runFunc, params, exec, runOps, wantedA, stepOp, pureOp, allocOp, readOp, effOp, ev, evs, evO, Env.get_cons, putE, binA, intBin, unA, AV.fit, AV.toCells, partC, partP, mkCells, allP, mkAgg, Cells.len, target, evParts, fillA, AV.cells, splice, spliceC, finA, leaveA, resA, resV, ansV, hC, hD2, mkTup, List.cons_append]; rfl⟩
  obtain ⟨τ, key⟩ := key
  exact wrap_hold (as0 := [.clo 32 [] [.ptr 0 0 0]]) key (.inl ⟨_, rfl⟩) hA hB rfl (by simp [renL, renV, fwd, posOf, hb]) (fun tl => rfl)
end
section
variable (C : Oracle) (L : Nat) (N : ND) (ρ : Env) (σ : Heap) (s : AV) (l x : List V)
theorem sum9 (h : St9 [115, 117, 109] N ρ σ s l x) (hx : x ≠ []) (r : V) (st : List UInt8)
    (hC : ∀ {id id' ver wm : Nat} {rest : List PV} {ta tb : Option Nat}, σ[id]? = some (.arr (.av [.sl id' ver 0 x.length 4]) 0 0 ta) → σ[id']? = some (.arr (.pv (vcs x ++ rest)) ver wm tb) → C 31 [.clo 32 [] [.ptr id 0 0]] σ = some (.ret (.p (.tup [.agg (vc r), .str st])), σ)) :
    AnsS (exec C L (.seq p9_4 (.seq p9_5 (.seq p9_6 p9_r))) ⟨ρ, [], σ⟩) r st := by
  obtain ⟨ρ4, e4, h⟩ := sum_x4 C L N ρ σ s l x h
  rw [seqN e4]
  have e5 : ∃ ρ5, exec C L p9_5 ⟨ρ4, [], σ⟩ = some (.normal, ⟨ρ5, [], σ⟩) ∧ St9 [115, 117, 109] N ρ5 σ s l x := by
    obtain ⟨id, sv, c, ty, t9, o9, hc, hxx, hcv⟩ := h.nn
    have rl := fun (d k : Nat) (r : List AOper) (ρ : Env) (σ : Heap) => run_len (C := C) (d := d) (k := k) (g := none) (r := r) (ρ := ρ) (σ := σ) hxx.len hxx.str rfl
    have h0 : ((x.length : Int) == 0) = false := by
      rw [beq_eq_false_iff_ne]
      intro h
      exact hx (List.eq_nil_of_length_eq_zero (by omega))
    exact ⟨_, by simp [p9_5, exec, runOps, wantedA, stepOp, pureOp, allocOp, readOp, effOp, ev, evs, evO, Env.get_cons, putE, binA, intBin, unA, AV.fit, AV.toCells, partC, partP, mkCells, allP, mkAgg, Cells.len, target, t9, o9, ↓hc, ↓rl, ↓h0]; rfl, ⟨by simp [Env.get_cons, h.t1], by simp [Env.get_cons, h.t2], by simp [Env.get_cons, h.t4], h.o0, h.o1, h.ls, id, sv, c, ty, by simp [Env.get_cons, t9], o9, hc, hxx, hcv⟩⟩
  obtain ⟨ρ5, e5, h⟩ := e5
  rw [seqN e5]
  have e6 : ∃ ρ6, exec C L p9_6 ⟨ρ5, [], σ⟩ = some (.normal, ⟨ρ6, [], σ⟩) ∧ St9 [115, 117, 109] N ρ6 σ s l x := by
    have o0 := h.o0
    simp only [nodeA] at o0
    obtain ⟨id, sv, c, ty, t9, o9, hc, hxx, hcv⟩ := h.nn
    exact ⟨_, by simp [p9_6, exec, runOps, wantedA, stepOp, pureOp, allocOp, readOp, effOp, ev, evs, evO, Env.get_cons, putE, binA, intBin, unA, AV.fit, AV.toCells, partC, partP, mkCells, allP, mkAgg, Cells.len, target, h.t2, o0, eql_ne (show [115, 117, 109] ≠ [109, 105, 110] by decide), eql_ne (show [115, 117, 109] ≠ [109, 97, 120] by decide)]; rfl, ⟨by simp [Env.get_cons, h.t1], by simp [Env.get_cons, h.t2], by simp [Env.get_cons, h.t4], h.o0, h.o1, h.ls, id, sv, c, ty, by simp [Env.get_cons, t9], o9, hc, hxx, hcv⟩⟩
  obtain ⟨ρ6, e6, h⟩ := e6
  rw [seqN e6]
  obtain ⟨id, sv, c, ty, t9, o9, hc, hxx, hcv⟩ := h.nn
  obtain ⟨hcv, hnp⟩ := hcv hx
  subst hcv
  have o1 := h.o1
  simp only [zero4] at o1
  rcases hxx with rfl | ⟨rfl, rfl⟩ | ⟨id', ver, wm, rest, ty', h2, rfl, ho, hw⟩
  · exact absurd rfl (hnp _)
  · exact absurd rfl hx
  · have hcall := hC o9 ho
    obtain ⟨z0, z1, z2, z3, hz⟩ := four' r
    rw [hz] at hcall
    have e : ∃ ρ7, exec C L p9_r ⟨ρ6, [], σ⟩ = some (.ret, ⟨ρ7, [], σ.set 1 (.arr (.pv [z0, z1, z2, z3]) 0 0 (some 30))⟩) ∧ ρ7.get 4 = some (.ptr 1 0 0) ∧ ρ7.get 5 = some (.p (.str st)) :=
      ⟨_, by simp [p9_r, exec, runOps, wantedA, stepOp, pureOp, allocOp, readOp, effOp, ev, evs, evO, Env.get_cons, putE, binA, intBin, unA, AV.fit, AV.toCells, partC, partP, mkCells, allP, mkAgg, Cells.len, target, evParts, fillA, AV.cells, splice, spliceC, finA, leaveA, resA, resV, ansV, extractA, t9, h.t4, o1, hcall]; rfl, by simp [Env.get_cons, h.t4], by simp [Env.get_cons]⟩
    obtain ⟨ρ7, e7, g4, g5⟩ := e
    exact ⟨ρ7, _, e7, g4, g5, some 30, by rw [hz]; exact set_at o1 _⟩
end
end Go.Ab.Cnt

/- EvalTotals: Total, whole. -/
set_option maxRecDepth 1000000
namespace Go.Ab.Cnt
open Go Go.Ab Go.Ab.Key Go.Proofs
variable [Marks]
abbrev sCA : List UInt8 := [99, 111, 117, 110, 116, 42]
abbrev sC : List UInt8 := [99, 111, 117, 110, 116]
abbrev sS : List UInt8 := [115, 117, 109]
abbrev sN : List UInt8 := [109, 105, 110]
abbrev sX : List UInt8 := [109, 97, 120]
/-- what a total of values is -/
def totV (op : List UInt8) (l : List V) : V × List UInt8 :=
  if op = sCA then (.num l.length, [48, 48, 48, 48, 48])
  else if op = sC then (.num (nn l).length, [48, 48, 48, 48, 48])
  else if op = sS then (if nn l = [] then (.null, [48, 48, 48, 48, 48]) else sumV (nn l) 0)
  else if op = sN then (lowest l, [48, 48, 48, 48, 48])
  else if op = sX then (highest l, [48, 48, 48, 48, 48])
  else (.null, [52, 50, 54, 48, 49])
section
variable (L n : Nat)
theorem eval_total (op : List UInt8) (N : ND) (x : List V) (hm : x.length ≤ LIM) (hL : x.length < L) (hL3 : 3 ≤ L) (ht : ∀ s, V.text s ∈ x → s.length ≤ maxLen) (σ : Heap) :
    (cAt TC L (n + 8)).1 9 [.p (.agg (nodeA op N)), .p (.vsl (vcs x) x.length)] σ = some (.ret (.p (.tup [.agg (vc (totV op (keptN N x)).1), .str (totV op (keptN N x)).2])), σ) := by
  have hlen := keptN_len N x
  have hnl := nn_len (keptN N x)
  have htx : ∀ s, V.text s ∈ nn (keptN N x) → s.length ≤ maxLen := fun s hs => ht s (keptN_mem (nn_text hs))
  have hnn : ∀ v ∈ nn (keptN N x), isNull v = false := fun v hv => by simpa using (List.mem_filter.1 hv).2
  have hmm : LIM ≤ 9223372036854775807 := by decide
  refine tot9 L (n + 1) op N x _ _ hm hL ht σ (fun s ρ σ h => ?_)
  generalize keptN N x = l at *
  by_cases h1 : op = sCA
  · subst h1
    exact (all9 _ L N ρ σ s l (nn l) h (fun k σ => num28 L (n + 6) k σ)).s
  by_cases h2 : op = sC
  · subst h2
    exact (cnt9 _ L N ρ σ s l (nn l) h (fun k σ => num28 L (n + 6) k σ)).s
  by_cases h3 : op = sS
  · subst h3
    have e : totV sS l = if nn l = [] then (.null, [48, 48, 48, 48, 48]) else sumV (nn l) 0 := rfl
    rw [e]
    by_cases hz : nn l = []
    · rw [if_pos hz]
      rw [hz] at h
      exact (sum_nil _ L N ρ σ s l h).s
    · rw [if_neg hz]
      exact sum9 _ L N ρ σ s l (nn l) h hz _ _ (fun hA hB => tried31 L n (nn l) _ _ _ (by omega) (by omega) hL3 hnn hA hB)
  by_cases h4 : op = sN
  · subst h4
    have e : totV sN l = (lowest l, [48, 48, 48, 48, 48]) := rfl
    rw [e]
    unfold lowest
    cases hn : nn l with
    | nil => rw [hn] at h; exact (min_nil _ L N ρ σ s l h).s
    | cons v r =>
      rw [hn] at h hnl htx
      simp only [List.length_cons] at hnl
      exact (min9 _ L N ρ σ s l (v :: r) h (by simp) _ (fun sv hsv => pickF29 L (n + 3) hsv (by omega) (by omega) htx)).s
  by_cases h5 : op = sX
  · subst h5
    have e : totV sX l = (highest l, [48, 48, 48, 48, 48]) := rfl
    rw [e]
    unfold highest
    cases hn : nn l with
    | nil => rw [hn] at h; exact (max_nil _ L N ρ σ s l h).s
    | cons v r =>
      rw [hn] at h hnl htx
      simp only [List.length_cons] at hnl
      exact (max9 _ L N ρ σ s l (v :: r) h (by simp) _ (fun sv hsv => pickF30 L (n + 3) hsv (by omega) (by omega) htx)).s
  · have e : totV op l = (.null, [52, 50, 54, 48, 49]) := by simp only [totV, if_neg h1, if_neg h2, if_neg h3, if_neg h4, if_neg h5]
    rw [e]
    exact oth9 _ L op N ρ σ s l (nn l) h h1 h2 h3 h4 h5
end
end Go.Ab.Cnt
