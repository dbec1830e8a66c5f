/- PlanTurned: loops over the clauses of a tree that is not known: what a yield says. -/
import Derived.Test.YtikebbklkiodlaaDoorAbUA
set_option linter.unusedSectionVars false
set_option linter.unusedSimpArgs false
set_option linter.unusedVariables false
set_option maxRecDepth 1000000
namespace Go.Ab.Turn
open Go Go.Ab Go.Ab.Plan Go.Ab.Key Go.Ab.Cnt Go.Proofs
variable [Marks]
/-- what holds of the heap while clauses are handed out: those so far, the objects that it is about -/
structure YInv where
  I : List T → List Nat → Heap → Prop
  lt : ∀ {acc O σ}, I acc O σ → ∀ j ∈ O, j < σ.length
  ext : ∀ {acc O σ σ'}, I acc O σ → (∀ j ∈ O, σ'[j]? = σ[j]?) → I acc O σ'
/-- a step that writes no other old objects -/
structure Fr (O O' : List Nat) (σ σ' : Heap) : Prop where
  len : σ.length ≤ σ'.length
  old : ∀ j, j < σ.length → j ∉ O → σ'[j]? = σ[j]?
  new : ∀ j ∈ O', j ∈ O ∨ σ.length ≤ j
theorem Fr.trans {O O1 O2 : List Nat} {σ σ1 σ2 : Heap} (h : Fr O O1 σ σ1) (g : Fr O1 O2 σ1 σ2) : Fr O O2 σ σ2 :=
  ⟨Nat.le_trans h.len g.len, fun j hj ho => (g.old j (Nat.lt_of_lt_of_le hj h.len) (fun hm => by rcases h.new j hm with hm | hm <;> first | exact ho hm | omega)).trans (h.old j hj ho),
    fun j hj => by
      rcases g.new j hj with hm | hm
      · exact h.new j hm
      · exact .inr (Nat.le_trans h.len hm)⟩
theorem Fr.push (O : List Nat) (σ τ : Heap) : Fr O O σ (σ ++ τ) := ⟨by simp, fun _ hj _ => List.getElem?_append_left hj, fun _ hj => .inl hj⟩
/-- a yield takes every clause -/
def YOK (Tb : Table) (L m id : Nat) (Y : YInv) : Prop := ∀ n, m ≤ n → ∀ acc O σ c, okT c → acc.length + 1 ≤ LIM → Y.I acc O σ →
  ∃ σ' O', (cAt Tb L n).1 4294967295 [.yld id, .p (node c)] σ = some (.ret (.p (.bool true)), σ') ∧ Y.I (acc ++ [c]) O' σ' ∧ Fr O O' σ σ'
def xaOf : ACode → ACode
  | .rng _ a _ _ _ => a
  | c => c
def xbOf : ACode → ACode
  | .rng _ _ b _ _ => b
  | c => c
theorem zipE_keep : ∀ (e : Env), zipE (e.map (·.1)) (e.map (·.2)) = e
  | [] => rfl
  | (t, v) :: r => by simp only [List.map_cons, zipE, zipE_keep r]
theorem zip_keep (ρ : Env) (ts : List Nat) : zipE ((keepE ρ ts).map (·.1)) (mkCells ((keepE ρ ts).map (·.2))).toList = keepE ρ ts := by
  rw [mkCells_toList, zipE_keep]
theorem keep_get (ρ : Env) : ∀ (ts : List Nat) (t : Nat), t ∈ ts → (keepE ρ ts).get t = ρ.get t
  | x :: ts, t, h => by
    unfold keepE
    by_cases hx : x = t
    · subst hx
      split
      · rename_i v hv
        rw [Env.get_cons, if_pos rfl, hv]
      · rename_i hv
        by_cases hm : x ∈ ts
        · exact keep_get ρ ts x hm
        · have : ∀ (ts : List Nat), x ∉ ts → (keepE ρ ts).get x = none := by
            intro ts
            induction ts with
            | nil => intro _; rfl
            | cons y ts ih =>
              intro hy
              simp only [List.mem_cons, not_or] at hy
              unfold keepE
              split
              · rw [Env.get_cons, if_neg (Ne.symm hy.1)]; exact ih hy.2
              · exact ih hy.2
          rw [this ts hm, hv]
    · have hm : t ∈ ts := by
        rcases List.mem_cons.1 h with h | h
        · exact absurd h.symm hx
        · exact h
      split
      · rw [Env.get_cons, if_neg hx]; exact keep_get ρ ts t hm
      · exact keep_get ρ ts t hm
theorem rng_run {C : Oracle} {L f : Nat} {ps : List Nat} {a b : ACode} {g : Opd} {ts : List Nat} {ρ : Env} {ds : List (Nat × List AV)} {σ σ2 : Heap} {gv v : AV} {xs : List AV} {k : List Nat × ACode × ACode} {ts' : List Nat} {c : Cells}
    (hg : ev ρ g = some gv) (hd : dtarget gv [.yld (σ.length + 1)] = some (f, xs))
    (hC : C f xs (σ ++ [.mark, .loop (ps, a, b) ((keepE ρ ts).map (·.1)) (mkCells ((keepE ρ ts).map (·.2))) .ready]) = some (.ret v, σ2)) (hl : σ2[σ.length + 1]? = some (.loop k ts' c .ready)) :
    exec C L (.rng ps a b g ts) ⟨ρ, ds, σ⟩ = some (.normal, ⟨ρ, (4294967294, [.ptr σ.length 0 0]) :: ds, σ2.set (σ.length + 1) (.loop k ts' c .over)⟩) := by
  simp only [exec, hg, hd, hC, hl]
/-- a round that goes on -/
theorem round_run {C : Oracle} {L id : Nat} {ps : List Nat} {xa xb : ACode} {ts : List Nat} {c : Cells} {args : List AV} {σ σ1 σ2 : Heap} {ρ1 ρ2 : Env} {d1 d2 : List (Nat × List AV)} {k1 : List Nat × ACode × ACode} {ts1 : List Nat} {c1 : Cells} {k2 : List Nat × ACode × ACode} {ts2 : List Nat} {c2 : Cells}
    (h0 : σ[id]? = some (.loop (ps, xa, xb) ts c .ready)) (hn : ps.length = args.length) (ha : exec C L xa ⟨rndEnv ps args (zipE ts c.toList), [], σ⟩ = some (.normal, ⟨ρ1, d1, σ1⟩)) (h1 : σ1[id]? = some (.loop k1 ts1 c1 .ready))
    (hb : exec C L xb ⟨ρ1, d1, σ1.set id (.loop k1 ts1 c1 .busy)⟩ = some (.normal, ⟨ρ2, d2, σ2⟩)) (h2 : σ2[id]? = some (.loop k2 ts2 c2 .busy)) :
    runRound C L (.yld id :: args) σ = some (.ret (.p (.bool true)), σ2.set id (.loop k2 ts2 c2 .ready)) := by
  have hbq : Nat.beq ps.length args.length = true := by rw [hn]; exact Nat.beq_refl _
  simp only [runRound, h0, hbq, ha, h1, hb, endR, h2]
/-- the inner loop's invariant -/
def inner (Y : YInv) (id : Nat) (K : List Nat × ACode × ACode) (l a0 : Nat) : YInv where
  I acc O' σ := ∃ O ts c, O' = l :: a0 :: O ∧ Y.I acc O σ ∧ σ[l]? = some (.loop K ts c .ready) ∧ (zipE ts c.toList).get 2 = some (.ptr a0 0 0) ∧ σ[a0]? = some (.arr (.av [.yld id]) 0 0 none) ∧ l ∉ O ∧ a0 ∉ O ∧ l ≠ a0
  lt := by
    rintro acc O' σ ⟨O, ts, c, rfl, h1, h2, _, h3, _⟩ j hj
    rcases List.mem_cons.1 hj with rfl | hj
    · exact (List.getElem?_eq_some_iff.1 h2).1
    · rcases List.mem_cons.1 hj with rfl | hj
      · exact (List.getElem?_eq_some_iff.1 h3).1
      · exact Y.lt h1 j hj
  ext := by
    rintro acc O' σ σ' ⟨O, ts, c, rfl, h1, h2, h2', h3, h4, h5, h6⟩ he
    refine ⟨O, ts, c, rfl, Y.ext h1 fun j hj => he j (by simp [hj]), by rw [he l (by simp)]; exact h2, h2', by rw [he a0 (by simp)]; exact h3, h4, h5, h6⟩
abbrev K29 : List Nat × ACode × ACode := ([27], xaOf n29_4kb_3k_3k, xbOf n29_4kb_3k_3k)
theorem inner_ok {Tb : Table} {L m id : Nat} {Y : YInv} (hr : Tb 4294967295 = some .rnd) (hraw : Marks.raw 4294967295 = true) (hY : YOK Tb L m id Y) (l a0 : Nat) : YOK Tb L (m + 1) l (inner Y id K29 l a0) := by
  intro n hn acc O' σ c hc hac hI
  obtain ⟨n, rfl⟩ : ∃ k, n = k + 1 := ⟨n - 1, by omega⟩
  obtain ⟨O, ts, cc, rfl, h1, h2, h2', h3, h4, h5, h6⟩ := hI
  have hl : l < σ.length := (List.getElem?_eq_some_iff.1 h2).1
  have ha : a0 < σ.length := (List.getElem?_eq_some_iff.1 h3).1
  have hcell : ∃ p q r s, cells c = [p, q, r, s] := by cases c; exact ⟨_, _, _, _, rfl⟩
  obtain ⟨p, q, r, s, ec⟩ := hcell
  have ra : exec (cAt Tb L n).1 L (xaOf n29_4kb_3k_3k) ⟨rndEnv [27] [.p (node c)] (zipE ts cc.toList), [], σ⟩ = some (.normal, ⟨(5, .ptr σ.length 0 0) :: (27, .p (node c)) :: zipE ts cc.toList, [], σ ++ [.arr (.pv (cells c)) 0 0 (some 45)]⟩) := by
    simp [xaOf, n29_4kb_3k_3k, rndEnv, exec, runOps, wantedA, stepOp, pureOp, allocOp, readOp, effOp, ev, evs, evO, Env.get_cons, putE, binA, intBin, unA, AV.fit, AV.toCells, partC, partP, mkCells, allP, mkAgg, Cells.len, target, evParts, fillA, AV.cells, splice, spliceC, finA, leaveA, resA, resV, ansV, Cells.toList, node, ec]
  have hpush : ∀ j, j < σ.length → (σ ++ [Obj.arr (.pv (cells c)) 0 0 (some 45)])[j]? = σ[j]? := fun j hj => List.getElem?_append_left hj
  have hI1 : Y.I acc O ((σ ++ [Obj.arr (.pv (cells c)) 0 0 (some 45)]).set l (.loop K29 ts cc .busy)) := Y.ext h1 fun j hj => by
    have hne : l ≠ j := fun he => h4 (he ▸ hj)
    rw [List.getElem?_set_ne hne, hpush j (Y.lt h1 j hj)]
  obtain ⟨σ3, O2, e3, hI3, hF3⟩ := hY n (by omega) acc O _ c hc hac hI1
  have g0 : ((σ ++ [Obj.arr (.pv (cells c)) 0 0 (some 45)]).set l (.loop K29 ts cc .busy))[a0]? = some (.arr (.av [.yld id]) 0 0 none) := by
    rw [List.getElem?_set_ne h6, hpush a0 ha]; exact h3
  have gs : ((σ ++ [Obj.arr (.pv (cells c)) 0 0 (some 45)]).set l (.loop K29 ts cc .busy))[σ.length]? = some (.arr (.pv (cells c)) 0 0 (some 45)) := by
    rw [List.getElem?_set_ne (by omega)]; simp
  have rb : ∃ ρ2, exec (cAt Tb L n).1 L (xbOf n29_4kb_3k_3k) ⟨(5, .ptr σ.length 0 0) :: (27, .p (node c)) :: zipE ts cc.toList, [], (σ ++ [Obj.arr (.pv (cells c)) 0 0 (some 45)]).set l (.loop K29 ts cc .busy)⟩ = some (.normal, ⟨ρ2, [], σ3⟩) := by
    generalize (σ ++ [Obj.arr (.pv (cells c)) 0 0 (some 45)]).set l (.loop K29 ts cc .busy) = σb at *
    generalize (cAt Tb L n).1 = C at e3 ⊢
    simp only [node, ec] at e3 gs ⊢
    exact ⟨_, by simp [xbOf, n29_4kb_3k_3k, exec, runOps, wantedA, stepOp, pureOp, allocOp, readOp, effOp, ev, evs, evO, Env.get_cons, putE, binA, intBin, unA, AV.fit, AV.toCells, partC, partP, mkCells, allP, mkAgg, Cells.len, target, evParts, fillA, AV.cells, splice, spliceC, finA, leaveA, resA, resV, ansV, takeC, dropC, Cells.get?, h2', g0, gs, e3]; rfl⟩
  obtain ⟨ρ2, rb⟩ := rb
  have hlb : l < ((σ ++ [Obj.arr (.pv (cells c)) 0 0 (some 45)]).set l (.loop K29 ts cc .busy)).length := by simp; omega
  have g3 : σ3[l]? = some (.loop K29 ts cc .busy) := by
    rw [hF3.old l hlb h4, List.getElem?_set_self (by simp; omega)]
  have g3a : σ3[a0]? = some (.arr (.av [.yld id]) 0 0 none) := by
    rw [hF3.old a0 (by simp; omega) h5]; exact g0
  have hnew : ∀ j, j < σ.length + 1 → j ∉ O → j ∉ O2 := fun j hj ho hm => by
    rcases hF3.new j hm with hm | hm
    · exact ho hm
    · simp at hm; omega
  refine ⟨σ3.set l (.loop K29 ts cc .ready), l :: a0 :: O2, ?_, ⟨O2, ts, cc, rfl, Y.ext hI3 fun j hj => ?_, ?_, h2', ?_, hnew l (by omega) h4, hnew a0 (by omega) h5, h6⟩, ?_, ?_, ?_⟩
  · simp only [cAt, callT, hr, hraw]
    exact round_run h2 rfl ra (by rw [hpush l hl]; exact h2) rb g3
  · have hne : l ≠ j := fun he => hnew l (by omega) h4 (he ▸ hj)
    rw [List.getElem?_set_ne hne]
  · exact List.getElem?_set_self (List.getElem?_eq_some_iff.1 g3).1
  · rw [List.getElem?_set_ne h6]; exact g3a
  · have := hF3.len
    simp at this ⊢
    omega
  · intro j hj ho
    simp only [List.mem_cons, not_or] at ho
    rw [List.getElem?_set_ne (Ne.symm ho.1), hF3.old j (by simp; omega) ho.2.2, List.getElem?_set_ne (Ne.symm ho.1), hpush j hj]
  · intro j hj
    rcases List.mem_cons.1 hj with rfl | hj
    · exact .inl (by simp)
    · rcases List.mem_cons.1 hj with rfl | hj
      · exact .inl (by simp)
      · rcases hF3.new j hj with hm | hm
        · exact .inl (by simp [hm])
        · refine .inr ?_
          simp at hm
          omega
end Go.Ab.Turn

/- PlanTurned: loops over the clauses of a tree that is not known: the induction. -/
set_option maxRecDepth 1000000
namespace Go.Ab.Turn
open Go Go.Ab Go.Ab.Plan Go.Ab.Key Go.Ab.Cnt Go.Proofs
variable [Marks]
abbrev boxT (t : T) : Obj := .arr (.pv (cells t)) 0 0 none
theorem run22 {Tb : Table} {L n : Nat} (hT : Tb 22 = some (.raw lit22)) (t : T) (σ : Heap) : (cAt Tb L (n + 1)).1 22 [.p (node t)] σ = some (.ret (.clo 29 [] [.ptr σ.length 0 0]), σ ++ [boxT t]) := by
  simp only [cAt, callT, hT, runCode]
  have hf : fits lit22 [.p (node t)] = true := by rfl
  rw [hf]
  have hcell : ∃ p q r s, cells t = [p, q, r, s] := by cases t; exact ⟨_, _, _, _, rfl⟩
  obtain ⟨p, q, r, s, ec⟩ := hcell
  simp [runFunc, lit22, params, node, ec, exec, runOps, wantedA, stepOp, pureOp, allocOp, readOp, effOp, ev, evs, evO, Env.get_cons, putE, binA, intBin, unA, AV.fit, AV.toCells, partC, partP, mkCells, allP, mkAgg, Cells.len, target, evParts, fillA, AV.cells, splice, spliceC, finA, leaveA, resA, resV, ansV, mixed]
/-- the loops over a tree's clauses hand each of them to the yield -/
def Clause (Tb : Table) (L n : Nat) (t : T) : Prop := ∀ (Y : YInv) (id m : Nat), YOK Tb L m id Y → m + 2 * deep t ≤ n → ∀ acc O σ p, acc.length + (clauses t).length ≤ LIM → Y.I acc O σ → σ[p]? = some (boxT t) → p ∉ O →
  ∃ σ' O', (cAt Tb L n).1 29 [.yld id, .ptr p 0 0] σ = some (.ret (.p (.tup [])), σ') ∧ Y.I (acc ++ clauses t) O' σ' ∧ Fr O O' σ σ'
structure At29 (l : List T) (a0 : Nat) (ρ : Env) (i : Nat) : Prop where
  t2 : ρ.get 2 = some (.ptr a0 0 0)
  t19 : ρ.get 19 = some (.p (.vsl (cellsL l) 2))
  t20 : ρ.get 20 = some (int 2)
  t21 : ρ.get 21 = some (int i)
theorem go29 {Tb : Table} {L n m id a0 : Nat} {Y : YInv} (h22 : Tb 22 = some (.raw lit22)) (hr : Tb 4294967295 = some .rnd) (hraw : Marks.raw 4294967295 = true) (hY : YOK Tb L m id Y) (l : List T) (hl : l.length = 2)
    (i : Nat) (c : T) (hc : l[i]? = some c) (hIH : Clause Tb L (n + 1) c) (hn : m + 1 + 2 * deep c ≤ n + 1) (acc : List T) (hac : acc.length + (clauses c).length ≤ LIM) (O : List Nat) (σ : Heap) (ρ : Env) (ds : List (Nat × List AV)) (h : At29 l a0 ρ i)
    (hI : Y.I acc O σ) (ha : σ[a0]? = some (.arr (.av [.yld id]) 0 0 none)) (hao : a0 ∉ O) :
    ∃ ρ' σ' O' mk, exec (cAt Tb L (n + 1)).1 L n29_4kb ⟨ρ, ds, σ⟩ = some (.normal, ⟨ρ', (4294967294, [.ptr mk 0 0]) :: ds, σ'⟩) ∧ At29 l a0 ρ' (i + 1) ∧ Y.I (acc ++ clauses c) O' σ' ∧ Fr O O' σ σ' ∧
      σ'[mk]? = some .mark ∧ mk ∉ O' ∧ σ.length ≤ mk := by
  have hi : i < 2 := by have := (List.getElem?_eq_some_iff.1 hc).1; omega
  have hi' : (i : Int) < 2 := by omega
  have d1 := cellsL_at l i c hc
  have d3 : 4 ≤ (cellsL l).length - i * 4 := by rw [cellsL_len]; omega
  have e1 : IntKind.i64.wrap ((i : Int) + 1) = (i : Int) + 1 := wrap_id _ (by omega) (by omega)
  have hal : a0 < σ.length := (List.getElem?_eq_some_iff.1 ha).1
  have hcell : ∃ p q r s, cells c = [p, q, r, s] := by cases c; exact ⟨_, _, _, _, rfl⟩
  obtain ⟨p, q, r, s, ec⟩ := hcell
  have hr22 := fun σ => run22 (L := L) (n := n) h22 c σ
  obtain ⟨ρ1, r1, g1⟩ : ∃ ρ1, exec (cAt Tb L (n + 1)).1 L (.seq n29_4kb_1 n29_4kb_2) ⟨ρ, ds, σ⟩ = some (.normal, ⟨ρ1, ds, σ⟩) ∧ At29 l a0 ρ1 i :=
    ⟨_, by simp [n29_4kb_1, n29_4kb_2, exec, runOps, wantedA, stepOp, pureOp, allocOp, readOp, effOp, ev, evs, evO, Env.get_cons, putE, binA, intBin, unA, AV.fit, AV.toCells, partC, partP, mkCells, allP, mkAgg, Cells.len, target, h.t20, h.t21, hi']; rfl, ⟨by simp [Env.get_cons, h.t2], by simp [Env.get_cons, h.t19], by simp [Env.get_cons, h.t20], by simp [Env.get_cons, h.t21]⟩⟩
  obtain ⟨ρ2, r2, g2, g26⟩ : ∃ ρ2, exec (cAt Tb L (n + 1)).1 L (.seq n29_4kb_3k_1 n29_4kb_3k_2) ⟨ρ1, ds, σ⟩ = some (.normal, ⟨ρ2, ds, (σ ++ [.arr (.pv (cells c)) 0 0 (some 45)]) ++ [boxT c]⟩) ∧ At29 l a0 ρ2 i ∧ ρ2.get 26 = some (.clo 29 [] [.ptr (σ.length + 1) 0 0]) := by
    generalize (cAt Tb L (n + 1)).1 = C at hr22 ⊢
    simp only [node, boxT, ec] at hr22 ⊢
    rw [ec] at d1
    exact ⟨_, by simp [n29_4kb_3k_1, n29_4kb_3k_2, exec, runOps, wantedA, stepOp, pureOp, allocOp, readOp, effOp, ev, evs, evO, Env.get_cons, putE, binA, intBin, unA, AV.fit, AV.toCells, partC, partP, mkCells, allP, mkAgg, Cells.len, target, evParts, fillA, AV.cells, splice, spliceC, finA, leaveA, resA, resV, ansV, idxA, takeC, dropC, Cells.get?, Cells.toList, g1.t19, g1.t21, hi, hi', d1, d3, hr22]; rfl, ⟨by simp [Env.get_cons, g1.t2], by simp [Env.get_cons, g1.t19], by simp [Env.get_cons, g1.t20], by simp [Env.get_cons, g1.t21]⟩, by simp [Env.get_cons]⟩
  obtain ⟨σ2, hσ2⟩ : ∃ σ2, σ2 = (σ ++ [.arr (.pv (cells c)) 0 0 (some 45)]) ++ [boxT c] := ⟨_, rfl⟩
  rw [← hσ2] at r2
  have hlen2 : σ2.length = σ.length + 2 := by rw [hσ2]; simp
  have hold2 : ∀ j, j < σ.length → σ2[j]? = σ[j]? := fun j hj => by
    rw [hσ2, List.getElem?_append_left (by simp; omega), List.getElem?_append_left hj]
  have hbox : σ2[σ.length + 1]? = some (boxT c) := by
    rw [hσ2, List.getElem?_append_right (by simp)]; simp
  obtain ⟨ts, hts⟩ : ∃ ts, ts = (keepE ρ2 [31, 30, 29, 28, 2, 27, 5]).map (·.1) := ⟨_, rfl⟩
  obtain ⟨cc, hcc⟩ : ∃ cc, cc = mkCells ((keepE ρ2 [31, 30, 29, 28, 2, 27, 5]).map (·.2)) := ⟨_, rfl⟩
  have hz2 : (zipE ts cc.toList).get 2 = some (.ptr a0 0 0) := by
    rw [hts, hcc, zip_keep, keep_get _ _ _ (by decide), g2.t2]
  obtain ⟨σ3, hσ3⟩ : ∃ σ3, σ3 = σ2 ++ [.mark, .loop K29 ts cc .ready] := ⟨_, rfl⟩
  have hlen3 : σ3.length = σ.length + 4 := by rw [hσ3]; simp [hlen2]
  have hold3 : ∀ j, j < σ.length + 2 → σ3[j]? = σ2[j]? := fun j hj => by rw [hσ3, List.getElem?_append_left (by omega)]
  have hmk3 : σ3[σ.length + 2]? = some .mark := by rw [hσ3, List.getElem?_append_right (by omega), hlen2]; simp
  have hlp3 : σ3[σ.length + 3]? = some (.loop K29 ts cc .ready) := by rw [hσ3, List.getElem?_append_right (by omega), hlen2]; simp
  have hO : ∀ j, σ.length ≤ j → j ∉ O := fun j hj hm => by have := Y.lt hI j hm; omega
  have hI3 : (inner Y id K29 (σ.length + 3) a0).I acc ((σ.length + 3) :: a0 :: O) σ3 :=
    ⟨O, ts, cc, rfl, Y.ext hI fun j hj => by have := Y.lt hI j hj; rw [hold3 j (by omega), hold2 j (by omega)], hlp3, hz2, by rw [hold3 a0 (by omega), hold2 a0 hal]; exact ha, hO _ (by omega), hao, by omega⟩
  obtain ⟨σ4, O4', e4, hI4, hF4⟩ := hIH _ (σ.length + 3) (m + 1) (inner_ok hr hraw hY (σ.length + 3) a0) hn acc _ σ3 (σ.length + 1) hac hI3 (by rw [hold3 _ (by omega)]; exact hbox) (by
    intro hm
    rcases List.mem_cons.1 hm with hm | hm
    · omega
    · rcases List.mem_cons.1 hm with hm | hm
      · omega
      · exact hO _ (by omega) hm)
  obtain ⟨O4, ts4, cc4, rfl, h1, h2, _, h3, h4, h5, h6⟩ := hI4
  have hl4 : σ.length + 3 < σ4.length := (List.getElem?_eq_some_iff.1 h2).1
  have hnew : ∀ j ∈ O4, j ∈ O ∨ σ.length + 4 ≤ j := fun j hj => by
    rcases hF4.new j (by simp [hj]) with hm | hm
    · rcases List.mem_cons.1 hm with rfl | hm
      · exact absurd hj h4
      · rcases List.mem_cons.1 hm with rfl | hm
        · exact absurd hj h5
        · exact .inl hm
    · exact .inr (by omega)
  have hold4 : ∀ j, j < σ.length + 3 → j ≠ a0 → j ∉ O → σ4[j]? = σ3[j]? := fun j hj hja hjo => hF4.old j (by omega) (by
    intro hm
    rcases List.mem_cons.1 hm with hm | hm
    · omega
    · rcases List.mem_cons.1 hm with hm | hm
      · exact hja hm
      · exact hjo hm)
  have r3 : exec (cAt Tb L (n + 1)).1 L n29_4kb_3k_3 ⟨ρ2, ds, σ2⟩ = some (.normal, ⟨ρ2, (4294967294, [.ptr (σ.length + 2) 0 0]) :: ds, σ4.set (σ.length + 3) (.loop K29 ts4 cc4 .over)⟩) := by
    unfold n29_4kb_3k_3
    refine blockN ?_
    have := rng_run (C := (cAt Tb L (n + 1)).1) (L := L) (ps := [27]) (a := xaOf n29_4kb_3k_3k) (b := xbOf n29_4kb_3k_3k) (g := .t 26) (ts := [31, 30, 29, 28, 2, 27, 5]) (ρ := ρ2) (ds := ds) (σ := σ2) (σ2 := σ4) (gv := .clo 29 [] [.ptr (σ.length + 1) 0 0]) (v := .p (.tup [])) (f := 29) (xs := [.yld (σ.length + 3), .ptr (σ.length + 1) 0 0]) (k := K29) (ts' := ts4) (c := cc4)
      g26 (by rw [hlen2]; rfl) (by rw [← hts, ← hcc, ← hσ3]; exact e4) (by rw [hlen2]; exact h2)
    rw [hlen2] at this
    exact this
  refine ⟨(21, int (i + 1)) :: (32, int (i + 1)) :: ρ2, σ4.set (σ.length + 3) (.loop K29 ts4 cc4 .over), O4, σ.length + 2, ?_, ⟨by simp [Env.get_cons, g2.t2], by simp [Env.get_cons, g2.t19], by simp [Env.get_cons, g2.t20], by simp [Env.get_cons]⟩, Y.ext h1 fun j hj => ?_, ⟨?_, ?_, ?_⟩, ?_, ?_, by omega⟩
  · have r23 : exec (cAt Tb L (n + 1)).1 L n29_4kb_3 ⟨ρ1, ds, σ⟩ = some (.normal, ⟨ρ2, (4294967294, [.ptr (σ.length + 2) 0 0]) :: ds, σ4.set (σ.length + 3) (.loop K29 ts4 cc4 .over)⟩) := by
      unfold n29_4kb_3 n29_4kb_3k
      refine blockN ?_
      rw [seq_assoc, seqN r2, r3]
    unfold n29_4kb
    rw [seq_assoc, seqN r1, seqN r23]
    simp [n29_4kb_4, exec, runOps, wantedA, stepOp, pureOp, allocOp, readOp, effOp, ev, evs, evO, Env.get_cons, putE, binA, intBin, unA, AV.fit, AV.toCells, partC, partP, mkCells, allP, mkAgg, Cells.len, target, g2.t21, e1]
  · have hne : σ.length + 3 ≠ j := fun he => h4 (he ▸ hj)
    rw [List.getElem?_set_ne hne]
  · simp; omega
  · intro j hj ho
    by_cases hja : j = a0
    · subst hja
      rw [List.getElem?_set_ne (by omega), h3, ha]
    · rw [List.getElem?_set_ne (by omega), hold4 j (by omega) hja ho, hold3 j (by omega), hold2 j hj]
  · intro j hj
    rcases hnew j hj with hm | hm
    · exact .inl hm
    · exact .inr (by omega)
  · rw [List.getElem?_set_ne (by omega), hold4 _ (by omega) (by omega) (hO _ (by omega))]; exact hmk3
  · intro hm
    rcases hnew _ hm with hm | hm
    · exact hO _ (by omega) hm
    · omega
end Go.Ab.Turn

/- PlanTurned: loops over the clauses of a tree that is not known: every tree. -/
set_option maxRecDepth 1000000
namespace Go.Ab.Turn
open Go Go.Ab Go.Ab.Plan Go.Ab.Key Go.Ab.Cnt Go.Proofs
variable [Marks]
theorem stop29 {C : Oracle} {L : Nat} {l : List T} {a0 : Nat} {ρ : Env} (h : At29 l a0 ρ 2) (ds : List (Nat × List AV)) (σ : Heap) : ∃ ρ', exec C L n29_4kb ⟨ρ, ds, σ⟩ = some (.exit 0, ⟨ρ', ds, σ⟩) :=
  ⟨_, by simp [n29_4kb, n29_4kb_1, n29_4kb_2, exec, runOps, wantedA, stepOp, pureOp, allocOp, readOp, effOp, ev, evs, evO, Env.get_cons, putE, binA, intBin, unA, AV.fit, AV.toCells, partC, partP, mkCells, allP, mkAgg, Cells.len, target, h.t20, h.t21]; rfl⟩
theorem leaf29 {C : Oracle} {L : Nat} (op s : Word) (n : Int) (l : List T) (hleaf : ¬ (op = wAnd ∧ l.length = 2)) (id p : Nat) (σ σ' : Heap) (hp : σ[p]? = some (boxT (.mk op s n l)))
    (hC : C 4294967295 [.yld id, .p (node (.mk op s n l))] (σ ++ [.arr (.av [.yld id]) 0 0 none]) = some (.ret (.p (.bool true)), σ')) :
    ∃ ρ', exec C L n29 ⟨[(0, .yld id), (1, .ptr p 0 0)], [], σ⟩ = some (.ret, ⟨ρ', [], σ'⟩) := by
  have hpl : p < σ.length := (List.getElem?_eq_some_iff.1 hp).1
  have hp' : (σ ++ [Obj.arr (.av [.yld id]) 0 0 none])[p]? = some (boxT (.mk op s n l)) := by rw [List.getElem?_append_left hpl]; exact hp
  have ha : (σ ++ [Obj.arr (.av [.yld id]) 0 0 none])[σ.length]? = some (.arr (.av [.yld id]) 0 0 none) := by simp
  have e1 : exec C L n29_1 ⟨[(0, .yld id), (1, .ptr p 0 0)], [], σ⟩ = some (.normal, ⟨[(2, .ptr σ.length 0 0), (0, .yld id), (1, .ptr p 0 0)], [], σ ++ [.arr (.av [.yld id]) 0 0 none]⟩) := by
    simp [n29_1, exec, runOps, wantedA, stepOp, pureOp, allocOp, readOp, effOp, ev, evs, evO, Env.get_cons, putE, binA, intBin, unA, AV.fit, AV.toCells, partC, partP, mkCells, allP, mkAgg, Cells.len, target]
  generalize hσ1 : σ ++ [Obj.arr (.av [.yld id]) 0 0 none] = σ1 at *
  simp only [boxT, node, cells] at hp' hC
  obtain ⟨ρ2, e2⟩ : ∃ ρ2, exec C L n29_2 ⟨[(2, .ptr σ.length 0 0), (0, .yld id), (1, .ptr p 0 0)], [], σ1⟩ = some (.ret, ⟨ρ2, [], σ'⟩) := by
    by_cases ho : op = [97, 110, 100]
    · have hl : ¬ l.length = 2 := fun h => hleaf ⟨ho, h⟩
      have hl' : ((l.length : Int) != 2) = true := bne_iff_ne.2 (by omega)
      subst ho
      exact ⟨_, by simp [n29_2, n29_2_1, n29_2_2, exec, runOps, wantedA, stepOp, pureOp, allocOp, readOp, effOp, ev, evs, evO, Env.get_cons, putE, binA, intBin, unA, AV.fit, AV.toCells, partC, partP, mkCells, allP, mkAgg, Cells.len, target, evParts, fillA, AV.cells, splice, spliceC, finA, leaveA, resA, resV, ansV, strBin, lenA, takeC, dropC, Cells.get?, hp', ha, hl', hC]; rfl⟩
    · have hb := ne_beq ho
      exact ⟨_, by simp [n29_2, n29_2_1, n29_2_2, exec, runOps, wantedA, stepOp, pureOp, allocOp, readOp, effOp, ev, evs, evO, Env.get_cons, putE, binA, intBin, unA, AV.fit, AV.toCells, partC, partP, mkCells, allP, mkAgg, Cells.len, target, evParts, fillA, AV.cells, splice, spliceC, finA, leaveA, resA, resV, ansV, strBin, lenA, takeC, dropC, Cells.get?, hp', ha, hb, hC]; rfl⟩
  refine ⟨ρ2, ?_⟩
  unfold n29
  rw [seqN e1, seqR e2]
theorem node29 {C : Oracle} {L : Nat} (s : Word) (n : Int) (l : List T) (hl : l.length = 2) (id p : Nat) (σ : Heap) (hp : σ[p]? = some (boxT (.mk wAnd s n l))) :
    ∃ ρ', exec C L (.seq (.seq n29_1 n29_2) n29_3) ⟨[(0, .yld id), (1, .ptr p 0 0)], [], σ⟩ = some (.normal, ⟨ρ', [], σ ++ [.arr (.av [.yld id]) 0 0 none]⟩) ∧ At29 l σ.length ρ' 0 := by
  have hpl : p < σ.length := (List.getElem?_eq_some_iff.1 hp).1
  have hp' : (σ ++ [Obj.arr (.av [.yld id]) 0 0 none])[p]? = some (boxT (.mk wAnd s n l)) := by rw [List.getElem?_append_left hpl]; exact hp
  have e1 : exec C L n29_1 ⟨[(0, .yld id), (1, .ptr p 0 0)], [], σ⟩ = some (.normal, ⟨[(2, .ptr σ.length 0 0), (0, .yld id), (1, .ptr p 0 0)], [], σ ++ [.arr (.av [.yld id]) 0 0 none]⟩) := by
    simp [n29_1, exec, runOps, wantedA, stepOp, pureOp, allocOp, readOp, effOp, ev, evs, evO, Env.get_cons, putE, binA, intBin, unA, AV.fit, AV.toCells, partC, partP, mkCells, allP, mkAgg, Cells.len, target]
  have hl' : ((l.length : Int) != 2) = false := by rw [hl]; rfl
  obtain ⟨ρ', e2, g⟩ : ∃ ρ', exec C L (.seq n29_2 n29_3) ⟨[(2, .ptr σ.length 0 0), (0, .yld id), (1, .ptr p 0 0)], [], σ ++ [.arr (.av [.yld id]) 0 0 none]⟩ = some (.normal, ⟨ρ', [], σ ++ [.arr (.av [.yld id]) 0 0 none]⟩) ∧ At29 l σ.length ρ' 0 := by
    generalize σ ++ [Obj.arr (.av [.yld id]) 0 0 none] = σ1 at *
    simp only [boxT, cells, hl] at hp'
    exact ⟨_, by simp [n29_2, n29_2_1, n29_2_2, n29_3, exec, runOps, wantedA, stepOp, pureOp, allocOp, readOp, effOp, ev, evs, evO, Env.get_cons, putE, binA, intBin, unA, AV.fit, AV.toCells, partC, partP, mkCells, allP, mkAgg, Cells.len, target, evParts, fillA, AV.cells, splice, spliceC, finA, leaveA, resA, resV, ansV, strBin, lenA, takeC, dropC, Cells.get?, hp']; rfl, ⟨rfl, rfl, rfl, rfl⟩⟩
  refine ⟨ρ', ?_, g⟩
  rw [← seq_assoc, seqN e1]
  exact e2
theorem clause29 {Tb : Table} {L : Nat} (h22 : Tb 22 = some (.raw lit22)) (h29 : Tb 29 = some (.raw lit29)) (hr : Tb 4294967295 = some .rnd) (hraw : Marks.raw 4294967295 = true) (hL : 3 ≤ L) :
    ∀ (d : Nat) (t : T), deep t ≤ d → okT t → ∀ n, Clause Tb L n t
  | 0, .mk _ _ _ _, h, _, _ => by simp [deep] at h
  | d + 1, .mk op s z l, h, hok, n => by
    intro Y id m hY hn acc O σ p hac hI hp hpo
    simp only [deep] at hn h
    obtain ⟨k, rfl⟩ : ∃ k, n = k + 2 := ⟨n - 2, by omega⟩
    have hrun : (cAt Tb L (k + 2)).1 29 [.yld id, .ptr p 0 0] σ = runFunc (cAt Tb L (k + 1)).1 (cAt Tb L (k + 1)).2 L lit29 [.yld id, .ptr p 0 0] σ := by
      have hf : fits lit29 [.yld id, .ptr p 0 0] = true := by rfl
      simp only [cAt, callT, h29, runCode, hf]
    have hIa : Y.I acc O (σ ++ [.arr (.av [.yld id]) 0 0 none]) := Y.ext hI fun j hj => List.getElem?_append_left (Y.lt hI j hj)
    have hFa := Fr.push O σ [.arr (.av [.yld id]) 0 0 none]
    rw [hrun, runFunc_eq, lit29_tree]
    by_cases hc : op = wAnd ∧ l.length = 2
    · obtain ⟨rfl, hl⟩ := hc
      obtain ⟨ρ1, e1, g1⟩ := node29 (C := (cAt Tb L (k + 1)).1) (L := L) s z l hl id p σ hp
      have e1' : exec (cAt Tb L (k + 1)).1 L (.seq (.seq n29_1 n29_2) n29_3) ⟨params 0 [.yld id, .ptr p 0 0], [], σ⟩ = some (.normal, ⟨ρ1, [], σ ++ [.arr (.av [.yld id]) 0 0 none]⟩) := e1
      have hcl : ∀ i c, l[i]? = some c → Clause Tb L (k + 1) c ∧ deep c ≤ deepL l := fun i c hi =>
        ⟨clause29 h22 h29 hr hraw hL d c (Nat.le_trans (deepL_mem (List.mem_of_getElem? hi)) (by omega)) (allTL_mem hok.2 (List.mem_of_getElem? hi)) _, deepL_mem (List.mem_of_getElem? hi)⟩
      match l, hl, hcl, g1, hn with
      | [x, y], hl, hcl, g1, hn =>
        have haL : σ.length < (σ ++ [Obj.arr (.av [.yld id]) 0 0 none]).length := by simp
        have ha1 : (σ ++ [Obj.arr (.av [.yld id]) 0 0 none])[σ.length]? = some (.arr (.av [.yld id]) 0 0 none) := by simp
        have hao : σ.length ∉ O := fun hm => by have := Y.lt hI _ hm; omega
        have hcl2 : clauses (.mk wAnd s z [x, y]) = clauses x ++ clauses y := by
          conv => lhs; unfold clauses
          rw [if_pos ⟨rfl, rfl⟩]
          simp [clausesL]
        rw [hcl2, List.length_append] at hac
        obtain ⟨hx, hdx⟩ := hcl 0 x rfl
        obtain ⟨hy, hdy⟩ := hcl 1 y rfl
        obtain ⟨ρ2, σ2, O2, mk2, r2, g2, hI2, hF2, hm2, hmo2, hml2⟩ := go29 (n := k) h22 hr hraw hY [x, y] rfl 0 x rfl hx (by omega) acc (by omega) O _ ρ1 [] g1 hIa ha1 hao
        have hmk2 : mk2 < σ2.length := (List.getElem?_eq_some_iff.1 hm2).1
        have ha2 : σ2[σ.length]? = some (.arr (.av [.yld id]) 0 0 none) := by rw [hF2.old _ haL hao]; exact ha1
        have hao2 : σ.length ∉ O2 := fun hm => by
          rcases hF2.new _ hm with hm | hm
          · exact hao hm
          · simp at hm; omega
        obtain ⟨ρ3, σ3, O3, mk3, r3, g3, hI3, hF3, hm3, hmo3, hml3⟩ := go29 (n := k) h22 hr hraw hY [x, y] rfl 1 y rfl hy (by omega) _ (by rw [List.length_append]; omega) O2 σ2 ρ2 [(4294967294, [.ptr mk2 0 0])] g2 hI2 ha2 hao2
        obtain ⟨ρ4, r4⟩ := stop29 (C := (cAt Tb L (k + 1)).1) (L := L) g3 [(4294967294, [.ptr mk3 0 0]), (4294967294, [.ptr mk2 0 0])] σ3
        have hmk3 : mk3 < σ3.length := (List.getElem?_eq_some_iff.1 hm3).1
        have hm23 : σ3[mk2]? = some .mark := by rw [hF3.old _ hmk2 hmo2]; exact hm2
        have hmo23 : mk2 ∉ O3 := fun hm => by
          rcases hF3.new _ hm with hm | hm
          · exact hmo2 hm
          · omega
        obtain ⟨f, rfl⟩ : ∃ f, L = f + 3 := ⟨L - 3, by omega⟩
        have e4 : exec (cAt Tb (f + 3) (k + 1)).1 (f + 3) n29_4 ⟨ρ1, [], σ ++ [.arr (.av [.yld id]) 0 0 none]⟩ = some (.normal, ⟨ρ4, [(4294967294, [.ptr mk3 0 0]), (4294967294, [.ptr mk2 0 0])], σ3⟩) := by
          unfold n29_4 n29_4k
          exact blockX (by simp only [exec, iter, St.keep, r2, r3, r4])
        have hF := (hFa.trans hF2).trans hF3
        have hne : mk3 ≠ mk2 := by omega
        refine ⟨(σ3.set mk3 .none).set mk2 .none, O3, ?_, ?_, ?_⟩
        · unfold n29
          rw [seq_assoc, seq_assoc, seqN e1', e4]
          have hg : (σ3.set mk3 .none)[mk2]? = some .mark := by rw [List.getElem?_set_ne hne]; exact hm23
          simp [finX, finA, mixed, leaveA, hm3, hg, lit29, resA, resV, mkTup, allP]
        · rw [hcl2, ← List.append_assoc]
          refine Y.ext hI3 fun j hj => ?_
          have h1 : mk2 ≠ j := fun he => hmo23 (he ▸ hj)
          have h2 : mk3 ≠ j := fun he => hmo3 (he ▸ hj)
          rw [List.getElem?_set_ne h1, List.getElem?_set_ne h2]
        · refine ⟨by simpa using hF.len, fun j hj ho => ?_, hF.new⟩
          have h1 : mk2 ≠ j := by simp at hml2; omega
          have h2 : mk3 ≠ j := by have := hF2.len; simp at this; omega
          rw [List.getElem?_set_ne h1, List.getElem?_set_ne h2]
          exact hF.old j hj ho
    · have hcl : clauses (.mk op s z l) = [.mk op s z l] := by
        conv => lhs; unfold clauses
        rw [if_neg hc]
      rw [hcl] at hac
      obtain ⟨σ', O', hC, hI', hF'⟩ := hY (k + 1) (by omega) acc O _ (.mk op s z l) hok hac hIa
      obtain ⟨ρ', e⟩ := leaf29 (C := (cAt Tb L (k + 1)).1) (L := L) op s z l hc id p σ σ' hp hC
      have e' : exec (cAt Tb L (k + 1)).1 L n29 ⟨params 0 [.yld id, .ptr p 0 0], [], σ⟩ = some (.ret, ⟨ρ', [], σ'⟩) := e
      refine ⟨σ', O', ?_, ?_, hFa.trans hF'⟩
      · rw [e']
        simp [finX, finA, mixed, leaveA, lit29, resA, resV, mkTup, allP]
      · rw [hcl]
        exact hI'
end Go.Ab.Turn
