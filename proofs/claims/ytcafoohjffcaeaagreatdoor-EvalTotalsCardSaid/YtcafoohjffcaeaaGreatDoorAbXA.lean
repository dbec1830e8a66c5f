/- EvalTotals: the document's Total: a round, whole. -/
import Derived.Test.YtcafoohjffcaeaaGreatDoorAbWW
set_option linter.unusedSectionVars false
set_option linter.unusedSimpArgs false
set_option linter.unusedVariables false
set_option maxRecDepth 1000000
namespace Go.Ab.Cnt
open Go Go.Ab Go.Ab.Key Go.Proofs
variable [Marks]
section
variable (C : Oracle) (L : Nat) (op : List UInt8) (N : ND) (k : List V) (b : AV) (q : Nat)
theorem x_s2 (ρ : Env) (σ : Heap) (i c j : Nat) (v r : V) (a : Int) (st : List UInt8) (hj : σ[j]? = some (.arr (.pv (vc v)) 0 0 (some 30))) (g : GB b q ρ i c) (g13 : ρ.get 13 = some (.ptr j 0 0)) (h : HB op N k b q σ (.num a))
    (hC : ∀ σ, C 35 [.p (.agg (vc (.num a))), .p (.agg (vc v))] σ = some (.ret (.p (.tup [.agg (vc r), .str st])), σ)) :
    (st = [48, 48, 48, 48, 48] → ∃ ρ' σ', exec C L s2 ⟨ρ, [], σ⟩ = some (.normal, ⟨ρ', [], σ'⟩) ∧ GB b q ρ' i c ∧ HB op N k b q σ' r) ∧
    (st ≠ [48, 48, 48, 48, 48] → AnsS (exec C L s2 ⟨ρ, [], σ⟩) .null st) := by
  have oq := h.oq
  have o1 := h.o1
  have q2 := h.q2
  have hlq : q < σ.length := (List.getElem?_eq_some_iff.1 oq).1
  have hl1 : 1 < σ.length := (List.getElem?_eq_some_iff.1 o1).1
  have hb := (h.push op N k b q [.arr (.pv (vc r)) 0 0 (some 30)]).setq op N k b q r
  obtain ⟨y0, y1, y2, y3, hy⟩ := four' v
  obtain ⟨z0, z1, z2, z3, hz⟩ := four' r
  rw [hy, hz] at hC
  rw [hy] at hj
  rw [hz] at hb
  rw [vcn] at hC oq
  simp only [zero4] at o1
  have oq' : ∀ o : Obj, (σ ++ [o])[q]? = some (.arr (.pv [.int .i64 1, .int .i64 a, .str [], .bool false]) 0 0 (some 30)) := fun o => by rw [List.getElem?_append_left hlq]; exact oq
  have o1' : ∀ o : Obj, (σ ++ [o])[1]? = some (.arr (.pv [.int .i64 0, .int .i64 0, .str [], .bool false]) 0 0 (some 30)) := fun o => by rw [List.getElem?_append_left hl1]; exact o1
  have hlast : ∀ (b : Obj), (σ ++ [b])[σ.length]? = some b := fun b => by simp
  have hs := set_last σ
  constructor
  · intro hst
    subst hst
    exact ⟨_, _, by simp [s2, sumC, sw, thnC, inB, blkC, fstC, sndC, bodyB, exec, runOps, wantedA, stepOp, pureOp, allocOp, readOp, effOp, ev, evs, evO, Env.get_cons, putE, binA, intBin, unA, AV.fit, AV.toCells, partC, partP, mkCells, allP, mkAgg, Cells.len, target, evParts, fillA, AV.cells, splice, spliceC, finA, leaveA, resA, resV, ansV, extractA, g.t10, g13, hj, oq, ↓oq', ↓hlast, ↓hs, hC, ne_self]; rfl, ⟨by simp [Env.get_cons, g.t2], by simp [Env.get_cons, g.t4], by simp [Env.get_cons, g.t6], by simp [Env.get_cons, g.t10], by simp [Env.get_cons, g.t11], by simp [Env.get_cons, g.t12]⟩, hb⟩
  · intro hst
    have key : ∃ ρ', exec C L s2 ⟨ρ, [], σ⟩ = some (.ret, ⟨ρ', [], (σ ++ [Obj.arr (.pv [z0, z1, z2, z3]) 0 0 (some 30)]).set 1 (.arr (.pv (vc .null)) 0 0 (some 30))⟩) ∧ ρ'.get 4 = some (.ptr 1 0 0) ∧ ρ'.get 5 = some (.p (.str st)) :=
      ⟨_, by simp [s2, sumC, sw, thnC, inB, blkC, fstC, sndC, bodyB, exec, runOps, wantedA, stepOp, pureOp, allocOp, readOp, effOp, ev, evs, evO, Env.get_cons, putE, binA, intBin, unA, AV.fit, AV.toCells, partC, partP, mkCells, allP, mkAgg, Cells.len, target, evParts, fillA, AV.cells, splice, spliceC, finA, leaveA, resA, resV, ansV, extractA, g.t10, g.t4, g13, hj, oq, ↓oq', ↓o1', ↓hlast, ↓hs, hC, ne_other hst, vc]; rfl, by simp [Env.get_cons, g.t4], by simp [Env.get_cons]⟩
    obtain ⟨ρ', e, g4, g5⟩ := key
    exact ⟨ρ', _, e, g4, g5, _, set_at (o1' _) _⟩
/-- what stands in the answer's place, and how many there were -/
def stepO (op : List UInt8) (p : V × Nat) (v : V) : V × Nat := if isNull v = true then p else if p.2 = 0 then (v, 1) else (pickO op v p.1, p.2 + 1)
theorem body_in {ρ ρ1 ρ2 : Env} {σ σ1 σ2 : Heap} {i : Nat} (e1 : exec C L headB ⟨ρ, [], σ⟩ = some (.normal, ⟨ρ1, [], σ⟩)) (e2 : exec C L (.block 5 (.seq rA (.seq nullB (.seq rC (.seq firstB (.seq r85 sw)))))) ⟨ρ1, [], σ⟩ = some (.normal, ⟨ρ2, [], σ2⟩)) {ρ3 : Env} (e3 : exec C L stepB ⟨ρ2, [], σ2⟩ = some (.normal, ⟨ρ3, [], σ2⟩)) :
    exec C L bodyB ⟨ρ, [], σ⟩ = some (.normal, ⟨ρ3, [], σ2⟩) := by
  rw [bodyB_eq, seqN e1, seqN e2]
  exact e3
theorem blockE {id : Nat} {c : ACode} {st st1 : St} (h : exec C L c st = some (.exit id, st1)) : exec C L (.block id c) st = some (.normal, st1) := by
  simp only [exec, h, if_true]
/-- a round of any word but 'sum' -/
theorem roundB (hop : op ≠ sS) (ρ : Env) (σ : Heap) (i c : Nat) (out v : V) (hv : k[i]? = some v) (hm : k.length ≤ 9223372036854775807) (hci : c ≤ i) (g : GB b q ρ i c) (h : HB op N k b q σ out)
    (hC : ∀ σ, C 20 [.p (.agg (vc v)), .p (.agg (vc out))] σ = some (.ret (.p (.int .i64 (ordI (ordV v out)))), σ)) :
    ∃ ρ' σ', exec C L bodyB ⟨ρ, [], σ⟩ = some (.normal, ⟨ρ', [], σ'⟩) ∧ GB b q ρ' (i + 1) (stepO op (out, c) v).2 ∧ HB op N k b q σ' (stepO op (out, c) v).1 := by
  have hi : i < k.length := (List.getElem?_eq_some_iff.1 hv).1
  obtain ⟨ρ1, e1, g1⟩ := x_head C L op N k b q ρ σ i c out hi hm g h
  obtain ⟨ρ2, e2, g2, t2⟩ := x_take C L op N k b q ρ1 σ i c out v hv g1 h
  have h2 := h.push op N k b q [.arr (.pv (vc v)) 0 0 (some 30)]
  have hj : (σ ++ [Obj.arr (.pv (vc v)) 0 0 (some 30)])[σ.length]? = some (.arr (.pv (vc v)) 0 0 (some 30)) := by simp
  generalize σ ++ [Obj.arr (.pv (vc v)) 0 0 (some 30)] = σ2 at *
  obtain ⟨ρ3, e3, g3, t3⟩ := x_null C L b q ρ2 σ2 i c σ.length v hj g2 t2
  by_cases hn : isNull v = true
  · rw [if_pos hn] at e3
    have hs : stepO op (out, c) v = (out, c) := by simp only [stepO, if_pos hn]
    rw [hs]
    obtain ⟨ρ4, e4, g4⟩ := x_step C L k b q ρ3 σ2 i c hi hm g3
    exact ⟨ρ4, σ2, body_in C L (i := i) (σ1 := σ2) e1 (blockE C L (by rw [seqN e2, seqX e3])) e4, g4, h2⟩
  · rw [if_neg hn] at e3
    obtain ⟨ρ4, e4, g4, t4⟩ := x_count C L b q ρ3 σ2 i c σ.length (by omega) g3 t3
    by_cases hc : c = 0
    · subst hc
      have hs : stepO op (out, 0) v = (v, 1) := by simp only [stepO, if_neg hn, if_true]
      rw [hs]
      obtain ⟨ρ5, e5, g5⟩ := x_first C L op N k b q ρ4 σ2 i 1 σ.length out v hj g4 t4 h2 rfl hop
      obtain ⟨ρ6, e6, g6⟩ := x_step C L k b q ρ5 _ i 1 hi hm g5
      exact ⟨ρ6, _, body_in C L (i := i) (σ1 := σ2) e1 (blockE C L (by rw [seqN e2, seqN e3, seqN e4, seqX e5])) e6, g6, h2.setq op N k b q v⟩
    · have hs : stepO op (out, c) v = (pickO op v out, c + 1) := by simp only [stepO, if_neg hn, if_neg hc]
      rw [hs]
      obtain ⟨ρ5, e5, g5, t5⟩ := x_later C L op N k b q ρ4 σ2 i (c + 1) σ.length out g4 t4 h2 (.inl (by omega))
      obtain ⟨ρ6, e6, g6, t6, u6⟩ := x_op C L op N k b q ρ5 σ2 i (c + 1) σ.length out g5 t5 h2
      have esw : ∃ ρ7 σ7, exec C L sw ⟨ρ6, [], σ2⟩ = some (.normal, ⟨ρ7, [], σ7⟩) ∧ GB b q ρ7 i (c + 1) ∧ HB op N k b q σ7 (pickO op v out) := by
        by_cases ha : op = sN
        · subst ha
          exact x_min C L N k b q ρ6 σ2 i (c + 1) σ.length out v hj g6 t6 u6 h2 (hC σ2)
        · by_cases hb : op = sX
          · subst hb
            exact x_max C L N k b q ρ6 σ2 i (c + 1) σ.length out v hj g6 t6 u6 h2 (hC σ2)
          · obtain ⟨ρ7, e7, g7⟩ := x_other C L op b q ρ6 σ2 i (c + 1) σ.length g6 u6 hop ha hb
            have hp : pickO op v out = out := by simp only [pickO, if_neg ha, if_neg hb]
            rw [hp]
            exact ⟨ρ7, σ2, e7, g7, h2⟩
      obtain ⟨ρ7, σ7, e7, g7, h7⟩ := esw
      obtain ⟨ρ8, e8, g8⟩ := x_step C L k b q ρ7 σ7 i (c + 1) hi hm g7
      exact ⟨ρ8, σ7, body_in C L (i := i) (σ1 := σ2) e1 (blockN (by rw [seqN e2, seqN e3, seqN e4, seqN e5, seqN e6]; exact e7)) e8, g8, h7⟩
/-- a round of 'sum' -/
theorem roundS (ρ : Env) (σ : Heap) (i c : Nat) (out v : V) (a : Int) (hv : k[i]? = some v) (hm : k.length ≤ 9223372036854775807) (hci : c ≤ i) (ha : c = 0 ∧ a = 0 ∨ ¬ c = 0 ∧ out = .num a) (g : GB b q ρ i c) (h : HB sS N k b q σ out)
    (hC0 : ∀ σ, C 17 [.p (.int .i64 0)] σ = some (.ret (.p (.agg (vc (.num 0)))), σ))
    (r : V) (st : List UInt8) (hC : ∀ σ, isNull v = false → C 35 [.p (.agg (vc (.num a))), .p (.agg (vc v))] σ = some (.ret (.p (.tup [.agg (vc r), .str st])), σ)) :
    (isNull v = true → ∃ ρ' σ', exec C L bodyB ⟨ρ, [], σ⟩ = some (.normal, ⟨ρ', [], σ'⟩) ∧ GB b q ρ' (i + 1) c ∧ HB sS N k b q σ' out) ∧
    (isNull v = false → st = [48, 48, 48, 48, 48] → ∃ ρ' σ', exec C L bodyB ⟨ρ, [], σ⟩ = some (.normal, ⟨ρ', [], σ'⟩) ∧ GB b q ρ' (i + 1) (c + 1) ∧ HB sS N k b q σ' r) ∧
    (isNull v = false → st ≠ [48, 48, 48, 48, 48] → AnsS (exec C L bodyB ⟨ρ, [], σ⟩) .null st) := by
  have hi : i < k.length := (List.getElem?_eq_some_iff.1 hv).1
  obtain ⟨ρ1, e1, g1⟩ := x_head C L sS N k b q ρ σ i c out hi hm g h
  obtain ⟨ρ2, e2, g2, t2⟩ := x_take C L sS N k b q ρ1 σ i c out v hv g1 h
  have h2 := h.push sS N k b q [.arr (.pv (vc v)) 0 0 (some 30)]
  have hj : (σ ++ [Obj.arr (.pv (vc v)) 0 0 (some 30)])[σ.length]? = some (.arr (.pv (vc v)) 0 0 (some 30)) := by simp
  have hjq : ¬ q = σ.length := by have := (List.getElem?_eq_some_iff.1 h.oq).1; omega
  generalize σ ++ [Obj.arr (.pv (vc v)) 0 0 (some 30)] = σ2 at *
  obtain ⟨ρ3, e3, g3, t3⟩ := x_null C L b q ρ2 σ2 i c σ.length v hj g2 t2
  refine ⟨fun hn => ?_, ?_⟩
  · rw [if_pos hn] at e3
    obtain ⟨ρ4, e4, g4⟩ := x_step C L k b q ρ3 σ2 i c hi hm g3
    exact ⟨ρ4, σ2, body_in C L (i := i) (σ1 := σ2) e1 (blockE C L (by rw [seqN e2, seqX e3])) e4, g4, h2⟩
  · have hrest : isNull v = false → ∃ ρ6 σ6, exec C L (.block 5 (.seq rA (.seq nullB (.seq rC (.seq firstB (.seq r85 sw)))))) ⟨ρ1, [], σ⟩ = exec C L (.block 5 (.block 6 s2)) ⟨ρ6, [], σ6⟩ ∧ GB b q ρ6 i (c + 1) ∧ ρ6.get 13 = some (.ptr σ.length 0 0) ∧ HB sS N k b q σ6 (.num a) ∧ σ6[σ.length]? = some (.arr (.pv (vc v)) 0 0 (some 30)) := by
      intro hn
      have hn' : ¬ isNull v = true := by rw [hn]; decide
      rw [if_neg hn'] at e3
      obtain ⟨ρ4, e4, g4, t4⟩ := x_count C L b q ρ3 σ2 i c σ.length (by omega) g3 t3
      obtain ⟨ρ5, e5, g5, t5⟩ := x_later C L sS N k b q ρ4 σ2 i (c + 1) σ.length out g4 t4 h2 (.inr rfl)
      obtain ⟨ρ6, e6, g6, t6, u6⟩ := x_op C L sS N k b q ρ5 σ2 i (c + 1) σ.length out g5 t5 h2
      have e7 : ∃ ρ7, exec C L r88 ⟨ρ6, [], σ2⟩ = some (.normal, ⟨ρ7, [], σ2⟩) ∧ ρ7.get 87 = some (.p (.bool true)) ∧ GB b q ρ7 i (c + 1) ∧ ρ7.get 13 = some (.ptr σ.length 0 0) :=
        ⟨_, by simp [r88, sw, inB, blkC, fstC, sndC, bodyB, exec, runOps, wantedA, stepOp, pureOp, allocOp, readOp, effOp, ev, evs, evO, Env.get_cons, putE, binA, intBin, unA, AV.fit, AV.toCells, partC, partP, mkCells, allP, mkAgg, Cells.len, target, u6, show strBin .eql [115, 117, 109] [115, 117, 109] = some (.bool true) from rfl]; rfl, by simp [Env.get_cons], ⟨by simp [Env.get_cons, g6.t2], by simp [Env.get_cons, g6.t4], by simp [Env.get_cons, g6.t6], by simp [Env.get_cons, g6.t10], by simp [Env.get_cons, g6.t11], by simp [Env.get_cons, g6.t12]⟩, by simp [Env.get_cons, t6]⟩
      obtain ⟨ρ7, e7, t87, g7, t7⟩ := e7
      obtain ⟨ρ8, σ8, e8, g8, t8, h8, h8'⟩ := x_s1 C L sS N k b q ρ7 σ2 i (c + 1) σ.length out a (by
        rcases ha with ⟨rfl, rfl⟩ | ⟨hc, ho⟩
        · exact .inl ⟨rfl, rfl⟩
        · exact .inr ⟨by omega, ho⟩) g7 t7 h2 hC0
      refine ⟨ρ8, σ8, ?_, g8, t8, h8, ?_⟩
      · have eb : exec C L (.seq rA (.seq nullB (.seq rC (.seq firstB (.seq r85 sw))))) ⟨ρ1, [], σ⟩ = exec C L (.block 6 s2) ⟨ρ8, [], σ8⟩ := by
          rw [seqN e2, seqN e3, seqN e4, seqN e5, seqN e6, sw_eq]
          have : exec C L (.seq r88 (.cond (.t 87) (.seq s1 s2) (elsC (sndC (blkC sw))))) ⟨ρ6, [], σ2⟩ = exec C L s2 ⟨ρ8, [], σ8⟩ := by
            rw [seqN e7, condT (show ev (St.env ⟨ρ7, [], σ2⟩) (.t 87) = some (.p (.bool true)) from t87), seqN e8]
          simp only [exec] at this ⊢
          rw [this]
        simp only [exec] at eb ⊢
        rw [eb]
      · rcases h8' with rfl | ⟨o, rfl⟩
        · exact hj
        · rw [List.getElem?_set_ne hjq]; exact hj
    refine ⟨fun hn hst => ?_, fun hn hst => ?_⟩
    · obtain ⟨ρ6, σ6, eb, g6, t6, h6, hj6⟩ := hrest hn
      obtain ⟨ρ7, σ7, e7, g7, h7⟩ := (x_s2 C L sS N k b q ρ6 σ6 i (c + 1) σ.length v r a st hj6 g6 t6 h6 (fun σ => hC σ hn)).1 hst
      obtain ⟨ρ8, e8, g8⟩ := x_step C L k b q ρ7 σ7 i (c + 1) hi hm g7
      exact ⟨ρ8, σ7, body_in C L (i := i) (σ1 := σ2) e1 (eb.trans (blockN (blockN e7))) e8, g8, h7⟩
    · obtain ⟨ρ6, σ6, eb, g6, t6, h6, hj6⟩ := hrest hn
      obtain ⟨ρ7, σ7, e7, g4, g5, ty, ho⟩ := (x_s2 C L sS N k b q ρ6 σ6 i (c + 1) σ.length v r a st hj6 g6 t6 h6 (fun σ => hC σ hn)).2 hst
      refine ⟨ρ7, σ7, ?_, g4, g5, ty, ho⟩
      rw [bodyB_eq, seqN e1]
      have : exec C L (.block 5 (.seq rA (.seq nullB (.seq rC (.seq firstB (.seq r85 sw)))))) ⟨ρ1, [], σ⟩ = some (.ret, ⟨ρ7, [], σ7⟩) := by
        rw [eb]
        simp only [exec, e7]
      rw [seqR this]
end
end Go.Ab.Cnt

/- EvalTotals: the document's Total: its second loop. -/
set_option maxRecDepth 1000000
namespace Go.Ab.Cnt
open Go Go.Ab Go.Ab.Key Go.Proofs
variable [Marks]
def short (v : V) : Prop := ∀ s, v = .text s → s.length ≤ maxLen
theorem pickO_short {op : List UInt8} {v out : V} (h1 : short v) (h2 : short out) : short (pickO op v out) := by
  unfold pickO
  repeat' split
  all_goals assumption
section
variable (C : Oracle) (L : Nat) (op : List UInt8) (N : ND) (k : List V) (b : AV) (q : Nat)
theorem loopB (hop : op ≠ sS) (hm : k.length ≤ 9223372036854775807) (hP : ∀ v ∈ k, short v)
    (hC : ∀ u v : V, short u → short v → ∀ σ, C 20 [.p (.agg (vc u)), .p (.agg (vc v))] σ = some (.ret (.p (.int .i64 (ordI (ordV u v)))), σ)) : ∀ (d i f : Nat) (ρ : Env) (σ : Heap) (out : V) (c : Nat), i + d = k.length → d < f → c ≤ i → short out → GB b q ρ i c → HB op N k b q σ out →
    ∃ ρ' σ', iter (exec C L bodyB) none f ⟨ρ, [], σ⟩ = some (.exit 4, ⟨ρ', [], σ'⟩) ∧ GB b q ρ' k.length ((k.drop i).foldl (stepO op) (out, c)).2 ∧ HB op N k b q σ' ((k.drop i).foldl (stepO op) (out, c)).1
  | 0, i, f, ρ, σ, out, c, hd, hf, hci, ho, g, h => by
    obtain ⟨f, rfl⟩ : ∃ m, f = m + 1 := ⟨f - 1, by omega⟩
    obtain rfl : i = k.length := by omega
    obtain ⟨ρ', e, g'⟩ := x_stop C L op N k b q ρ σ c out g h
    refine ⟨ρ', σ, by simp only [iter, St.keep, e], ?_⟩
    rw [List.drop_length]
    exact ⟨g', h⟩
  | d + 1, i, f, ρ, σ, out, c, hd, hf, hci, ho, g, h => by
    obtain ⟨f, rfl⟩ : ∃ m, f = m + 1 := ⟨f - 1, by omega⟩
    have hi : i < k.length := by omega
    have hv := hP _ (List.getElem_mem hi)
    obtain ⟨ρ1, σ1, e, g1, h1⟩ := roundB C L op N k b q hop ρ σ i c out k[i] (List.getElem?_eq_getElem hi) hm hci g h (hC _ _ hv ho)
    have hs2 : (stepO op (out, c) k[i]).2 ≤ c + 1 := by
      unfold stepO
      repeat' split
      all_goals simp
      all_goals omega
    have hs1 : short (stepO op (out, c) k[i]).1 := by
      unfold stepO
      repeat' split
      · exact ho
      · exact hv
      · exact pickO_short hv ho
    obtain ⟨ρ', σ', e', g', h'⟩ := loopB hop hm hP hC d (i + 1) f ρ1 σ1 _ _ (by omega) (by omega) (by omega) hs1 g1 h1
    refine ⟨ρ', σ', by simp only [iter, St.keep, e]; exact e', ?_⟩
    rw [List.drop_eq_getElem_cons hi, List.foldl_cons]
    exact ⟨g', h'⟩
/-- what stands in a sum's place -/
def outS (c : Nat) (a : Int) : V := if c = 0 then .null else .num a
theorem loopS (hm : k.length ≤ 9223372036854775807) (hin : ∀ v ∈ k, ∀ b, v = .num b → in64 b)
    (hC0 : ∀ σ, C 17 [.p (.int .i64 0)] σ = some (.ret (.p (.agg (vc (.num 0)))), σ))
    (hC : ∀ (a : Int) (v : V), isNull v = false → ∀ σ, C 35 [.p (.agg (vc (.num a))), .p (.agg (vc v))] σ = some (.ret (.p (.tup [.agg (vc (addT a v).1), .str (addT a v).2])), σ)) : ∀ (d i f : Nat) (ρ : Env) (σ : Heap) (a : Int) (c : Nat), i + d = k.length → d < f → c ≤ i → in64 a → (c = 0 → a = 0) → GB b q ρ i c → HB sS N k b q σ (outS c a) →
    (∃ ρ' σ' a' c', iter (exec C L bodyB) none f ⟨ρ, [], σ⟩ = some (.exit 4, ⟨ρ', [], σ'⟩) ∧ GB b q ρ' k.length c' ∧ HB sS N k b q σ' (outS c' a') ∧ sumV (nn (k.drop i)) a = (.num a', [48, 48, 48, 48, 48]) ∧ c' = c + (nn (k.drop i)).length) ∨
    ∃ st, st ≠ [48, 48, 48, 48, 48] ∧ sumV (nn (k.drop i)) a = (.null, st) ∧ AnsS (iter (exec C L bodyB) none f ⟨ρ, [], σ⟩) .null st
  | 0, i, f, ρ, σ, a, c, hd, hf, hci, ha, h0, g, h => by
    obtain ⟨f, rfl⟩ : ∃ m, f = m + 1 := ⟨f - 1, by omega⟩
    obtain rfl : i = k.length := by omega
    obtain ⟨ρ', e, g'⟩ := x_stop C L sS N k b q ρ σ c _ g h
    refine .inl ⟨ρ', σ, a, c, by simp only [iter, St.keep, e], g', h, ?_⟩
    rw [List.drop_length]
    exact ⟨rfl, rfl⟩
  | d + 1, i, f, ρ, σ, a, c, hd, hf, hci, ha, h0, g, h => by
    obtain ⟨f, rfl⟩ : ∃ m, f = m + 1 := ⟨f - 1, by omega⟩
    have hi : i < k.length := by omega
    have hdr : k.drop i = k[i] :: k.drop (i + 1) := List.drop_eq_getElem_cons hi
    have hadd : addT a k[i] = addS a k[i] := addT_eq ha (hin _ (List.getElem_mem hi))
    have hca : c = 0 ∧ a = 0 ∨ ¬ c = 0 ∧ outS c a = .num a := by
      by_cases hc : c = 0
      · exact .inl ⟨hc, h0 hc⟩
      · exact .inr ⟨hc, by simp only [outS, if_neg hc]⟩
    obtain ⟨r1, r2, r3⟩ := roundS C L N k b q ρ σ i c (outS c a) k[i] a (List.getElem?_eq_getElem hi) hm hci hca g h hC0 (addS a k[i]).1 (addS a k[i]).2 (fun σ hn => by rw [hC a k[i] hn σ, hadd])
    cases hn : isNull k[i] with
    | true =>
      obtain ⟨ρ1, σ1, e, g1, h1⟩ := r1 hn
      have hnn : nn (k.drop i) = nn (k.drop (i + 1)) := by
        rw [hdr]; simp only [nn, List.filter_cons, hn]; rfl
      rw [hnn]
      rcases loopS hm hin hC0 hC d (i + 1) f ρ1 σ1 a c (by omega) (by omega) (by omega) ha h0 g1 h1 with ⟨ρ', σ', a', c', e', q1⟩ | ⟨st, s1, s2, s3⟩
      · exact .inl ⟨ρ', σ', a', c', by simp only [iter, St.keep, e]; exact e', q1⟩
      · exact .inr ⟨st, s1, s2, by simp only [iter, St.keep, e]; exact s3⟩
    | false =>
      have hnn : nn (k.drop i) = k[i] :: nn (k.drop (i + 1)) := by
        rw [hdr]; simp only [nn, List.filter_cons, hn]; rfl
      rw [hnn]
      rcases addS_cases a k[i] hn with ⟨c1, hc1⟩ | ⟨st, hst, hc1⟩
      · rw [hc1] at r2
        obtain ⟨ρ1, σ1, e, g1, h1⟩ := r2 hn rfl
        have hin1 : in64 c1 := by
          cases hk : k[i] with
          | num y =>
            rw [hk] at hc1
            simp only [addS] at hc1
            split at hc1
            · simp only [Prod.mk.injEq, V.num.injEq, and_true] at hc1
              rw [← hc1]
              exact wrap_in _
            · simp at hc1
          | null => rw [hk] at hn; cases hn
          | text s => rw [hk] at hc1; simp [addS] at hc1
          | bool s => rw [hk] at hc1; simp [addS] at hc1
        have hs : sumV (k[i] :: nn (k.drop (i + 1))) a = sumV (nn (k.drop (i + 1))) c1 := by simp only [sumV, hc1]
        rw [hs]
        have ho : outS (c + 1) c1 = .num c1 := by simp [outS]
        rcases loopS hm hin hC0 hC d (i + 1) f ρ1 σ1 c1 (c + 1) (by omega) (by omega) (by omega) hin1 (by omega) g1 (by rw [ho]; exact h1) with ⟨ρ', σ', a', c', e', q1, q2, q3, q4⟩ | ⟨st, s1, s2, s3⟩
        · exact .inl ⟨ρ', σ', a', c', by simp only [iter, St.keep, e]; exact e', q1, q2, q3, by rw [q4, List.length_cons]; omega⟩
        · exact .inr ⟨st, s1, s2, by simp only [iter, St.keep, e]; exact s3⟩
      · rw [hc1] at r3
        obtain ⟨ρ1, σ1, e, q1⟩ := r3 hn hst
        refine .inr ⟨st, hst, by simp only [sumV, hc1], ρ1, σ1, by simp only [iter, St.keep, e], q1⟩
end
/-- what the rounds come to -/
theorem foldO_cnt (op : List UInt8) : ∀ (l : List V) (p : V × Nat), (l.foldl (stepO op) p).2 = p.2 + (nn l).length
  | [], p => rfl
  | v :: l, p => by
    rw [List.foldl_cons, foldO_cnt op l]
    cases hn : isNull v with
    | true =>
      have h1 : stepO op p v = p := by simp only [stepO, hn, if_true]
      have h2 : nn (v :: l) = nn l := by simp only [nn, List.filter_cons, hn]; rfl
      rw [h1, h2]
    | false =>
      have h1 : (stepO op p v).2 = p.2 + 1 := by
        simp only [stepO, hn, Bool.false_eq_true, if_false]
        split
        · rename_i h; rw [h]
        · rfl
      have h2 : nn (v :: l) = v :: nn l := by simp only [nn, List.filter_cons, hn]; rfl
      rw [h1, h2, List.length_cons]
      omega
theorem foldO_out (op : List UInt8) : ∀ (l : List V) (m : V) (c : Nat), (l.foldl (stepO op) (m, c + 1)).1 = (nn l).foldl (fun m a => pickO op a m) m
  | [], m, c => rfl
  | v :: l, m, c => by
    rw [List.foldl_cons]
    cases hn : isNull v with
    | true =>
      have h1 : stepO op (m, c + 1) v = (m, c + 1) := by simp only [stepO, hn, if_true]
      have h2 : nn (v :: l) = nn l := by simp only [nn, List.filter_cons, hn]; rfl
      rw [h1, h2]
      exact foldO_out op l m c
    | false =>
      have h1 : stepO op (m, c + 1) v = (pickO op v m, c + 1 + 1) := by
        simp only [stepO, hn, Bool.false_eq_true, if_false]
        rw [if_neg (by omega)]
      have h2 : nn (v :: l) = v :: nn l := by simp only [nn, List.filter_cons, hn]; rfl
      rw [h1, h2, List.foldl_cons]
      exact foldO_out op l _ (c + 1)
theorem foldO_all (op : List UInt8) : ∀ l : List V, (l.foldl (stepO op) (.null, 0)).1 = match nn l with
    | [] => .null
    | v :: r => r.foldl (fun m a => pickO op a m) v
  | [] => rfl
  | v :: l => by
    rw [List.foldl_cons]
    cases hn : isNull v with
    | true =>
      have h1 : stepO op (.null, 0) v = (.null, 0) := by simp only [stepO, hn, if_true]
      have h2 : nn (v :: l) = nn l := by simp only [nn, List.filter_cons, hn]; rfl
      rw [h1, h2]
      exact foldO_all op l
    | false =>
      have h1 : stepO op (.null, 0) v = (v, 0 + 1) := by simp only [stepO, hn, Bool.false_eq_true, if_false, if_true]
      have h2 : nn (v :: l) = v :: nn l := by simp only [nn, List.filter_cons, hn]; rfl
      rw [h1, h2]
      exact foldO_out op l v 0
theorem foldO_min (l : List V) : (l.foldl (stepO sN) (.null, 0)).1 = lowest l := by
  rw [foldO_all]
  unfold lowest
  cases nn l with
  | nil => rfl
  | cons v r => rfl
theorem foldO_max (l : List V) : (l.foldl (stepO sX) (.null, 0)).1 = highest l := by
  rw [foldO_all]
  unfold highest
  cases nn l with
  | nil => rfl
  | cons v r => rfl
end Go.Ab.Cnt
