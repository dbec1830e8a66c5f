/- EvalTotals: the document's Total, whole. -/
import Derived.Test.YtcafoohjffcaeaaGreatDoorAbXA
set_option linter.unusedSectionVars false
set_option linter.unusedSimpArgs false
set_option linter.unusedVariables false
set_option maxRecDepth 1000000
namespace Go.Ab.Cnt
open Go Go.Ab Go.Ab.Key Go.Proofs
variable [Marks]
theorem p10_3_eq : p10_3 = .seq (fstC p10_3) (.block 0 (.loop none body10)) := rfl
theorem p10_7_eq : p10_7 = .seq (fstC p10_7) (.block 4 (.loop none bodyB)) := rfl
theorem q10 : TC 10 = some (.code lit10 true) := by kernel_rfl
theorem fin10 {D : DOracle} {x : Option (AExit × St)} {r : V} {s : List UInt8} (h : AnsS x r s) : ansV (finX D lit10 x) = some (.tup [.agg (vc r), .str s]) := by
  obtain ⟨ρ', σ', e, g4, g5, ty, ho⟩ := h
  rw [e]
  have hl := vc_len r
  have ht : (vc r).take 4 = vc r := List.take_of_length_le (by omega)
  simp [finX, finA, leaveA, resA, resV, ansV, lit10, g4, g5, ho, partC, partP, hl, ht, mkTup, allP]
section
variable (C : Oracle) (L : Nat) (op : List UInt8) (N : ND) (x k : List V) (b : AV) (q : Nat)
theorem y_front : ∃ ρ, exec C L (.seq p10_1 (.seq p10_2 (fstC p10_3))) ⟨params 0 [.p (.agg (nodeA op N)), .p (.vsl (vcs x) x.length)], [], []⟩ = some (.normal, ⟨ρ, [], [.arr (.pv (nodeA op N)) 0 0 none, .arr (.pv zero4) 0 0 (some 30)]⟩) ∧ AtO op N x ρ [.arr (.pv (nodeA op N)) 0 0 none, .arr (.pv zero4) 0 0 (some 30)] 0 [] :=
  ⟨_, by simp [p10_1, p10_2, p10_3, fstC, params, nodeA, zero4, exec, runOps, wantedA, stepOp, pureOp, allocOp, readOp, effOp, ev, evs, evO, Env.get_cons, putE, binA, intBin, unA, AV.fit, AV.toCells, partC, partP, mkCells, allP, mkAgg, Cells.len, target]; rfl, by simp [Env.get_cons], by simp [Env.get_cons], by simp [Env.get_cons], ⟨.nil0, by simp [Env.get_cons], .inl ⟨rfl, rfl⟩⟩, by simp [Env.get_cons], rfl, rfl⟩
theorem y_all (ρ : Env) (σ : Heap) (i : Nat) (h : AtO sCA N x ρ σ i k) (hC : ∀ c σ, C 17 [.p (.int .i64 c)] σ = some (.ret (.p (.agg (vc (.num c)))), σ)) : AnsS (exec C L p10_4 ⟨ρ, [], σ⟩) (.num k.length) [48, 48, 48, 48, 48] := by
  obtain ⟨b, t6, hb⟩ := h.t6
  have rl := fun (d k : Nat) (r : List AOper) (ρ : Env) (σ' : Heap) => run_len (C := C) (d := d) (k := k) (g := none) (r := r) (ρ := ρ) (σ := σ') hb.lst.len hb.lst.str rfl
  have o0 := h.o0
  have o1 := h.o1
  simp only [nodeA, zero4] at o0 o1
  have e : ∃ ρ', exec C L p10_4 ⟨ρ, [], σ⟩ = some (.ret, ⟨ρ', [], σ.set 1 (.arr (.pv (vc (.num k.length))) 0 0 (some 30))⟩) ∧ ρ'.get 4 = some (.ptr 1 0 0) ∧ ρ'.get 5 = some (.p (.str [48, 48, 48, 48, 48])) := by
    rw [vcn]
    simp only [vcn] at hC
    exact ⟨_, by simp [p10_4, exec, runOps, wantedA, stepOp, pureOp, allocOp, readOp, effOp, ev, evs, evO, Env.get_cons, putE, binA, intBin, unA, AV.fit, AV.toCells, partC, partP, mkCells, allP, mkAgg, Cells.len, target, evParts, fillA, AV.cells, splice, spliceC, finA, leaveA, resA, resV, ansV, h.t2, h.t4, t6, o0, o1, ↓rl, hC, show strBin .eql [99, 111, 117, 110, 116, 42] [99, 111, 117, 110, 116, 42] = some (.bool true) from rfl]; rfl, by simp [Env.get_cons, h.t4], by simp [Env.get_cons]⟩
  obtain ⟨ρ', e, g4, g5⟩ := e
  exact ⟨ρ', _, e, g4, g5, _, set_at o1 _⟩
theorem y_mid (ρ : Env) (σ : Heap) (i : Nat) (hop : op ≠ sCA) (h : AtO op N x ρ σ i k) :
    ∃ ρ' σ' b q, exec C L (.seq p10_4 (.seq p10_5 (.seq p10_6 (fstC p10_7)))) ⟨ρ, [], σ⟩ = some (.normal, ⟨ρ', [], σ'⟩) ∧ GB b q ρ' 0 0 ∧ HB op N k b q σ' .null := by
  obtain ⟨b, t6, hb⟩ := h.t6
  have o0 := h.o0
  have o1 := h.o1
  have h2 : 2 ≤ σ.length := (List.getElem?_eq_some_iff.1 o1).1
  have hlast : ∀ (b : Obj), (σ ++ [b])[σ.length]? = some b := fun b => by simp
  have hs := set_last σ
  have hnb : ∀ ver n, b ≠ .sl σ.length ver 0 n 4 := by
    intro ver n hbb
    rcases hb with ⟨rfl, _⟩ | ⟨id, ver', wm, _, rfl, ho, _⟩
    · cases hbb
    · cases hbb
      have := (List.getElem?_eq_some_iff.1 ho).1
      omega
  have hH : HB op N k b σ.length (σ ++ [.arr (.pv (vc .null)) 0 0 (some 30)]) .null :=
    ⟨hb.push _, by rw [List.getElem?_append_left (by omega)]; exact o0, by rw [List.getElem?_append_left (by omega)]; exact o1, hlast _, h2, hnb⟩
  simp only [nodeA] at o0
  have key : ∃ ρ', exec C L (.seq p10_4 (.seq p10_5 (.seq p10_6 (fstC p10_7)))) ⟨ρ, [], σ⟩ = some (.normal, ⟨ρ', [], σ ++ [.arr (.pv (vc .null)) 0 0 (some 30)]⟩) ∧ GB b σ.length ρ' 0 0 :=
    ⟨_, by simp [p10_4, p10_5, p10_6, p10_7, fstC, vc, exec, runOps, wantedA, stepOp, pureOp, allocOp, readOp, effOp, ev, evs, evO, Env.get_cons, putE, binA, intBin, unA, AV.fit, AV.toCells, partC, partP, mkCells, allP, mkAgg, Cells.len, target, evParts, fillA, AV.cells, splice, spliceC, finA, leaveA, resA, resV, ansV, h.t2, o0, ↓hlast, ↓hs, eql_ne hop]; rfl, ⟨by simp [Env.get_cons, h.t2], by simp [Env.get_cons, h.t4], by simp [Env.get_cons, t6], by simp [Env.get_cons], by simp [Env.get_cons], by simp [Env.get_cons]⟩⟩
  obtain ⟨ρ', e, g⟩ := key
  exact ⟨ρ', _, b, σ.length, e, g, hH⟩
theorem y_cnt (ρ : Env) (σ : Heap) (i c : Nat) (out : V) (g : GB b q ρ i c) (h : HB sC N k b q σ out) (hC : ∀ c σ, C 17 [.p (.int .i64 c)] σ = some (.ret (.p (.agg (vc (.num c)))), σ)) : AnsS (exec C L (.seq p10_8 p10_r) ⟨ρ, [], σ⟩) (.num c) [48, 48, 48, 48, 48] := by
  have o0 := h.o0
  have o1 := h.o1
  simp only [nodeA, zero4] at o0 o1
  have e : ∃ ρ', exec C L p10_8 ⟨ρ, [], σ⟩ = some (.ret, ⟨ρ', [], σ.set 1 (.arr (.pv (vc (.num c))) 0 0 (some 30))⟩) ∧ ρ'.get 4 = some (.ptr 1 0 0) ∧ ρ'.get 5 = some (.p (.str [48, 48, 48, 48, 48])) := by
    rw [vcn]
    simp only [vcn] at hC
    exact ⟨_, by simp [p10_8, exec, runOps, wantedA, stepOp, pureOp, allocOp, readOp, effOp, ev, evs, evO, Env.get_cons, putE, binA, intBin, unA, AV.fit, AV.toCells, partC, partP, mkCells, allP, mkAgg, Cells.len, target, evParts, fillA, AV.cells, splice, spliceC, finA, leaveA, resA, resV, ansV, g.t2, g.t4, g.t11, o0, o1, hC, show strBin .eql [99, 111, 117, 110, 116] [99, 111, 117, 110, 116] = some (.bool true) from rfl]; rfl, by simp [Env.get_cons, g.t4], by simp [Env.get_cons]⟩
  obtain ⟨ρ', e, g4, g5⟩ := e
  exact ⟨ρ', _, seqR e, g4, g5, _, set_at o1 _⟩
theorem y_out (ρ : Env) (σ : Heap) (i c : Nat) (out : V) (g : GB b q ρ i c) (h : HB op N k b q σ out) (hop : op = sS ∨ op = sN ∨ op = sX) : AnsS (exec C L (.seq p10_8 p10_r) ⟨ρ, [], σ⟩) out [48, 48, 48, 48, 48] := by
  have o0 := h.o0
  have o1 := h.o1
  have oq := h.oq
  simp only [nodeA, zero4] at o0 o1
  obtain ⟨z0, z1, z2, z3, hz⟩ := four' out
  rw [hz] at oq
  have e : ∃ ρ', exec C L p10_8 ⟨ρ, [], σ⟩ = some (.ret, ⟨ρ', [], σ.set 1 (.arr (.pv [z0, z1, z2, z3]) 0 0 (some 30))⟩) ∧ ρ'.get 4 = some (.ptr 1 0 0) ∧ ρ'.get 5 = some (.p (.str [48, 48, 48, 48, 48])) := by
    rcases hop with rfl | rfl | rfl
    · exact ⟨_, by simp [p10_8, exec, runOps, wantedA, stepOp, pureOp, allocOp, readOp, effOp, ev, evs, evO, Env.get_cons, putE, binA, intBin, unA, AV.fit, AV.toCells, partC, partP, mkCells, allP, mkAgg, Cells.len, target, evParts, fillA, AV.cells, splice, spliceC, finA, leaveA, resA, resV, ansV, g.t2, g.t4, g.t10, o0, o1, oq, eql_ne (show [115, 117, 109] ≠ [99, 111, 117, 110, 116] by decide), show strBin .eql [115, 117, 109] [115, 117, 109] = some (.bool true) from rfl]; rfl, by simp [Env.get_cons, g.t4], by simp [Env.get_cons]⟩
    · exact ⟨_, by simp [p10_8, exec, runOps, wantedA, stepOp, pureOp, allocOp, readOp, effOp, ev, evs, evO, Env.get_cons, putE, binA, intBin, unA, AV.fit, AV.toCells, partC, partP, mkCells, allP, mkAgg, Cells.len, target, evParts, fillA, AV.cells, splice, spliceC, finA, leaveA, resA, resV, ansV, g.t2, g.t4, g.t10, o0, o1, oq, eql_ne (show [109, 105, 110] ≠ [99, 111, 117, 110, 116] by decide), eql_ne (show [109, 105, 110] ≠ [115, 117, 109] by decide), show strBin .eql [109, 105, 110] [109, 105, 110] = some (.bool true) from rfl]; rfl, by simp [Env.get_cons, g.t4], by simp [Env.get_cons]⟩
    · exact ⟨_, by simp [p10_8, exec, runOps, wantedA, stepOp, pureOp, allocOp, readOp, effOp, ev, evs, evO, Env.get_cons, putE, binA, intBin, unA, AV.fit, AV.toCells, partC, partP, mkCells, allP, mkAgg, Cells.len, target, evParts, fillA, AV.cells, splice, spliceC, finA, leaveA, resA, resV, ansV, g.t2, g.t4, g.t10, o0, o1, oq, eql_ne (show [109, 97, 120] ≠ [99, 111, 117, 110, 116] by decide), eql_ne (show [109, 97, 120] ≠ [115, 117, 109] by decide), eql_ne (show [109, 97, 120] ≠ [109, 105, 110] by decide), show strBin .eql [109, 97, 120] [109, 97, 120] = some (.bool true) from rfl]; rfl, by simp [Env.get_cons, g.t4], by simp [Env.get_cons]⟩
  obtain ⟨ρ', e, g4, g5⟩ := e
  exact ⟨ρ', _, seqR e, g4, g5, some 30, by rw [hz]; exact set_at o1 _⟩
theorem y_oth (ρ : Env) (σ : Heap) (i c : Nat) (out : V) (g : GB b q ρ i c) (h : HB op N k b q σ out) (h2 : op ≠ sC) (h3 : op ≠ sS) (h4 : op ≠ sN) (h5 : op ≠ sX) : AnsS (exec C L (.seq p10_8 p10_r) ⟨ρ, [], σ⟩) .null [52, 50, 54, 48, 49] := by
  have o0 := h.o0
  have o1 := h.o1
  simp only [nodeA, zero4] at o0 o1
  have e : ∃ ρ', exec C L (.seq p10_8 p10_r) ⟨ρ, [], σ⟩ = some (.ret, ⟨ρ', [], σ.set 1 (.arr (.pv (vc .null)) 0 0 (some 30))⟩) ∧ ρ'.get 4 = some (.ptr 1 0 0) ∧ ρ'.get 5 = some (.p (.str [52, 50, 54, 48, 49])) :=
    ⟨_, by simp [p10_8, p10_r, vc, exec, runOps, wantedA, stepOp, pureOp, allocOp, readOp, effOp, ev, evs, evO, Env.get_cons, putE, binA, intBin, unA, AV.fit, AV.toCells, partC, partP, mkCells, allP, mkAgg, Cells.len, target, evParts, fillA, AV.cells, splice, spliceC, finA, leaveA, resA, resV, ansV, g.t2, g.t4, o0, o1, eql_ne h2, eql_ne h3, eql_ne h4, eql_ne h5]; rfl, by simp [Env.get_cons, g.t4], by simp [Env.get_cons]⟩
  obtain ⟨ρ', e, g4, g5⟩ := e
  exact ⟨ρ', _, e, g4, g5, _, set_at o1 _⟩
end
end Go.Ab.Cnt

/- EvalTotals: the document's Total answers what the program's does. -/
set_option maxRecDepth 1000000
namespace Go.Ab.Cnt
open Go Go.Ab Go.Ab.Key Go.Proofs
variable [Marks]
theorem assoc3 {C : Oracle} {L : Nat} (a b c d e : ACode) (st : St) : exec C L (.seq a (.seq b (.seq (.seq c d) e))) st = exec C L (.seq a (.seq b (.seq c (.seq d e)))) st := by
  simp only [exec]
  repeat' split
  all_goals simp_all
theorem assoc4 {C : Oracle} {L : Nat} (a b c d e f : ACode) (st : St) : exec C L (.seq a (.seq b (.seq c (.seq (.seq d e) f)))) st = exec C L (.seq a (.seq b (.seq c (.seq d (.seq e f))))) st := by
  simp only [exec]
  repeat' split
  all_goals simp_all
theorem seq3M {C : Oracle} {L : Nat} {a b c d : ACode} {st st1 : St} (h : exec C L (.seq a (.seq b c)) st = some (.normal, st1)) : exec C L (.seq a (.seq b (.seq c d))) st = exec C L d st1 := by
  simp only [exec] at h ⊢
  split at h
  · split at h
    · simp_all
    · simp_all
  · simp_all
theorem seq4M {C : Oracle} {L : Nat} {a b c d e : ACode} {st st1 : St} (h : exec C L (.seq a (.seq b (.seq c d))) st = some (.normal, st1)) : exec C L (.seq a (.seq b (.seq c (.seq d e)))) st = exec C L e st1 := by
  simp only [exec] at h ⊢
  split at h
  · split at h
    · split at h
      · simp_all
      · simp_all
    · simp_all
  · simp_all
section
variable (L n : Nat)
theorem order (a b : V) (ha : short a) (hb : short b) (hLm : maxLen < L) (σ : Heap) :
    (cAt TC L (n + 2)).1 20 [.p (.agg (vc a)), .p (.agg (vc b))] σ = some (.ret (.p (.int .i64 (ordI (ordV a b)))), σ) :=
  order20 L n a b (fun s h => ⟨by have := ha s h; omega, Nat.le_trans (ha s h) (by decide)⟩) (fun s h => ⟨by have := hb s h; omega, Nat.le_trans (hb s h) (by decide)⟩) σ
theorem ref_total (op : List UInt8) (N : ND) (x : List V) (hm : x.length ≤ LIM) (hL : x.length < L) (hLm : maxLen < L) (ht : ∀ v ∈ x, short v) (hin : ∀ v ∈ x, ∀ b, v = .num b → in64 b) (σ : Heap) :
    (cAt TC L (n + 8)).1 10 [.p (.agg (nodeA op N)), .p (.vsl (vcs x) x.length)] σ = some (.ret (.p (.tup [.agg (vc (totV op (keptN N x)).1), .str (totV op (keptN N x)).2])), σ) := by
  refine call_ans (ps := [.agg (nodeA op N), .vsl (vcs x) x.length]) (n := n + 7) q10 rfl ?_ σ
  have h17 := fun (c : Int) σ => num17 L (n + 6) c σ
  have h35 := fun (a : Int) (v : V) (h : isNull v = false) σ => add35 L (n + 5) a v h σ
  have h20 := fun (u v : V) (hu : short u) (hv : short v) σ => order L (n + 5) u v hu hv hLm σ
  rw [runFunc_eq]
  refine fin10 ?_
  rw [p10_eq]
  generalize (cAt TC L (n + 7)).1 = C at *
  have hLIM : LIM ≤ 9223372036854775807 := by decide
  have hlen := keptN_len N x
  have hkm : ∀ v ∈ keptN N x, v ∈ x := fun v hv => keptN_mem hv
  obtain ⟨ρ0, e0, h0⟩ := y_front C L op N x
  obtain ⟨ρ1, σ1, e1, h1⟩ := loop10 C L op N x hm hL (fun u hu v hv σ => h20 v u (ht v hv) (ht u hu) σ) x.length 0 L ρ0 _ [] (by omega) hL (by simp) (fun u hu => by cases hu) h0
  rw [List.drop_zero, stepN_all] at h1
  have e1' : exec C L (.block 0 (.loop none body10)) ⟨ρ0, [], [.arr (.pv (nodeA op N)) 0 0 none, .arr (.pv zero4) 0 0 (some 30)]⟩ = some (.normal, ⟨ρ1, [], σ1⟩) := by simp only [exec, e1, if_true]
  simp only [List.map_cons, List.map_nil]
  rw [p10_3_eq, assoc3, seq3M e0, seqN e1']
  generalize keptN N x = k at *
  by_cases c1 : op = sCA
  · subst c1
    have hv : totV sCA k = (.num k.length, [48, 48, 48, 48, 48]) := rfl
    rw [hv]
    obtain ⟨ρ2, σ2, e2, g⟩ := y_all C L N x k ρ1 σ1 _ h1 h17
    exact ⟨ρ2, σ2, seqR e2, g⟩
  · obtain ⟨ρ2, σ2, b, q, e2, g2, h2⟩ := y_mid C L op N x k ρ1 σ1 _ c1 h1
    rw [p10_7_eq, assoc4, seq4M e2]
    by_cases c3 : op = sS
    · subst c3
      have hv : totV sS k = if nn k = [] then (.null, [48, 48, 48, 48, 48]) else sumV (nn k) 0 := rfl
      rw [hv]
      rcases loopS C L N k b q (by omega) (fun v hv => hin v (hkm v hv)) (fun σ => h17 0 σ) h35 k.length 0 L ρ2 σ2 0 0 (by omega) (by omega) (by omega) (by constructor <;> omega) (fun _ => rfl) g2 h2 with ⟨ρ3, σ3, a', c', e3, g3, h3, q1, q2⟩ | ⟨st, hst, q1, ρ3, σ3, e3, g4, g5, q2⟩
      · rw [List.drop_zero] at q1 q2
        have e3' : exec C L (.block 4 (.loop none bodyB)) ⟨ρ2, [], σ2⟩ = some (.normal, ⟨ρ3, [], σ3⟩) := by simp only [exec, e3, if_true]
        rw [seqN e3']
        have hans := y_out C L sS N k b q ρ3 σ3 _ _ _ g3 h3 (.inl rfl)
        by_cases hz : nn k = []
        · rw [if_pos hz]
          rw [hz] at q2
          have : outS c' a' = .null := by rw [q2]; rfl
          rw [this] at hans
          exact hans
        · rw [if_neg hz, q1]
          have hc : ¬ c' = 0 := by
            intro h0
            exact hz (List.eq_nil_of_length_eq_zero (by omega))
          have : outS c' a' = .num a' := by simp only [outS, if_neg hc]
          rw [this] at hans
          exact hans
      · rw [List.drop_zero] at q1
        have hz : ¬ nn k = [] := by
          intro hz
          rw [hz] at q1
          cases q1
        rw [if_neg hz, q1]
        have e3' : exec C L (.block 4 (.loop none bodyB)) ⟨ρ2, [], σ2⟩ = some (.ret, ⟨ρ3, [], σ3⟩) := by simp only [exec, e3]
        exact ⟨ρ3, σ3, seqR e3', g4, g5, q2⟩
    · obtain ⟨ρ3, σ3, e3, g3, h3⟩ := loopB C L op N k b q c3 (by omega) (fun v hv => ht v (hkm v hv)) h20 k.length 0 L ρ2 σ2 .null 0 (by omega) (by omega) (by omega) (fun s h => by cases h) g2 h2
      rw [List.drop_zero] at g3 h3
      have e3' : exec C L (.block 4 (.loop none bodyB)) ⟨ρ2, [], σ2⟩ = some (.normal, ⟨ρ3, [], σ3⟩) := by simp only [exec, e3, if_true]
      rw [seqN e3']
      by_cases c2 : op = sC
      · subst c2
        have hv : totV sC k = (.num (nn k).length, [48, 48, 48, 48, 48]) := rfl
        rw [hv]
        have hc := foldO_cnt sC k (.null, 0)
        have hans := y_cnt C L N k b q ρ3 σ3 _ _ _ g3 h3 h17
        rw [hc] at hans
        simpa using hans
      by_cases c4 : op = sN
      · subst c4
        have hv : totV sN k = (lowest k, [48, 48, 48, 48, 48]) := rfl
        rw [hv, ← foldO_min]
        exact y_out C L sN N k b q ρ3 σ3 _ _ _ g3 h3 (.inr (.inl rfl))
      by_cases c5 : op = sX
      · subst c5
        have hv : totV sX k = (highest k, [48, 48, 48, 48, 48]) := rfl
        rw [hv, ← foldO_max]
        exact y_out C L sX N k b q ρ3 σ3 _ _ _ g3 h3 (.inr (.inr rfl))
      · have hv : totV op k = (.null, [52, 50, 54, 48, 49]) := by simp only [totV, if_neg c1, if_neg c2, if_neg c3, if_neg c4, if_neg c5]
        rw [hv]
        exact y_oth C L op N k b q ρ3 σ3 _ _ _ g3 h3 c2 c3 c4 c5
end
end Go.Ab.Cnt
