/- The laws of keys: what the document's Decode answers. -/
import Derived.Test.YtafjhlangdcefaaDoorAbKY
set_option linter.unusedSectionVars false
set_option linter.unusedSimpArgs false
set_option linter.unusedVariables false
set_option maxRecDepth 1000000
namespace Go.Ab.Key
open Go Go.Ab Go.Proofs
variable [Marks]
theorem fst_dec (c : UInt8) (r : List UInt8) : (∃ (v : V) (k : Nat), fst26 c r = (vc v, (k : Int)) ∧ 1 ≤ k ∧ k ≤ r.length + 1 ∧ ∀ f l, dec (f + 1) (c :: r) l = dec f ((c :: r).drop k) (l ++ [v])) ∨ (fst26 c r = (vc .null, 0) ∧ ∀ f l, dec (f + 1) (c :: r) l = none) := by
  by_cases c1 : c = 1
  · subst c1
    exact .inl ⟨.null, 1, by simp [fst26], by omega, by omega, fun f l => by simp [dec]⟩
  by_cases c2 : c = 2
  · subst c2
    by_cases h8 : 8 ≤ r.length
    · exact .inl ⟨.num (numOf (val (r.take 8))), 9, by simp [fst26, h8], by omega, by omega, fun f l => by simp [dec, h8]⟩
    · exact .inr ⟨by simp [fst26, h8], fun f l => by simp [dec, h8]⟩
  by_cases c3 : c = 3
  · subst c3
    cases ht : txtOf (words r []).1 with
    | some t =>
      obtain ⟨_, u, h1, h2⟩ := words_back r [] t ht
      have hl := congrArg List.length h2
      simp only [List.length_append, List.length_cons] at hl
      refine .inl ⟨.text t, r.length + 1 - (words r []).2.length, ?_, by omega, by omega, fun f l => ?_⟩
      · simp only [fst26, if_neg (show ¬ (3 : UInt8) = 1 by decide), if_neg (show ¬ (3 : UInt8) = 2 by decide), if_true, res42, ht, List.length_cons]
        congr 1
        omega
      · have hd : (3 :: r).drop (r.length + 1 - (words r []).2.length) = (words r []).2 := by
          have h3 : 3 :: r = (3 :: (esc u ++ [0, 0])) ++ (words r []).2 := by
            rw [List.cons_append, List.append_assoc]
            congr 1
          rw [h3]
          exact List.drop_left' (by simp; omega)
        simp only [hd]
        simp [dec, ht]
    | none => exact .inr ⟨by simp [fst26, res42, ht], fun f l => by simp [dec, ht]⟩
  by_cases c4 : c = 4
  · subst c4
    match r with
    | [] => exact .inr ⟨by simp [fst26], fun f l => by simp [dec]⟩
    | d :: r =>
      by_cases hd : d = 0 ∨ d = 1
      · exact .inl ⟨.bool (d == 1), 2, by simp [fst26, hd], by omega, by simp, fun f l => by simp [dec, hd]⟩
      · exact .inr ⟨by simp [fst26, hd], fun f l => by simp [dec, hd]⟩
  · exact .inr ⟨by simp [fst26, c1, c2, c3, c4], fun f l => by simp [dec, c1, c2, c3, c4]⟩
theorem VBuf.push {σ : Heap} {b : AV} {l : List V} (h : VBuf σ b l) (τ : Heap) : VBuf (σ ++ τ) b l := by
  rcases h with h | ⟨hne, id, ver, hb, ho⟩
  · exact .inl h
  · exact .inr ⟨hne, id, ver, hb, by rw [List.getElem?_append_left (List.getElem?_eq_some_iff.1 ho).1]; exact ho⟩
theorem VBuf.app {σ : Heap} {b : AV} {l : List V} (h : VBuf σ b l) (v : V) (hl : l.length + 1 ≤ LIM) : ∃ b2 σ2, appendTo σ 39 4 b 1 (.pv (vc v)) = some (b2, σ2) ∧ VBuf σ2 b2 (l ++ [v]) := by
  have hL : LIM = 4294967296 := rfl
  rcases h with ⟨rfl, rfl⟩ | ⟨hne, id, ver, rfl, ho⟩
  · refine ⟨.sl σ.length 0 0 1 4, σ ++ [.arr (.pv (vc v)) 0 0 (some 39)], ?_, .inr ⟨by simp, σ.length, 0, rfl, ?_⟩⟩
    · simp [appendTo, hL]
    · simp [vcs]
  · have hid : id < σ.length := (List.getElem?_eq_some_iff.1 ho).1
    have hv := vcs_len l
    have ht : (vcs l).take (l.length * 4) = vcs l := List.take_of_length_le (by omega)
    refine ⟨.sl id (ver + 1) 0 (l.length + 1) 4, σ.set id (.arr (.pv (vcs l ++ vc v)) (ver + 1) 0 (some 39)), ?_, .inr ⟨by simp, id, ver + 1, by simp, ?_⟩⟩
    · simp [appendTo, ho, Cells.len, hv, hl, takeC, catC, ht]
    · rw [List.getElem?_set_self hid, vcs_snoc]
def lit13 : AFunc := { ntmps := 25, results := [ARes.tmp 2, ARes.tmp 3], body := (ACode.region [{ dst := some 2, op := AOp.mv (Opd.c AV.nil0), guard := none }, { dst := some 3, op := AOp.mv (Opd.c (AV.p (PV.int IntKind.i64 (0)))), guard := none }]).seq ((ACode.region [{ dst := some 4, op := AOp.mv (Opd.c AV.nil0), guard := none }]).seq ((ACode.block 0 (ACode.loop none (((ACode.region [{ dst := some 7, op := AOp.mv (Opd.t 0), guard := none }, { dst := some 8, op := AOp.len true (Opd.t 7), guard := none }, { dst := some 9, op := AOp.bin (Bin.plain BinOp.gtr) (Opd.t 8) (Opd.c (AV.p (PV.int IntKind.i64 (0)))), guard := none }]).seq (ACode.cond (Opd.t 9) ACode.skip (ACode.exit 0))).seq (ACode.block 1 ((ACode.region [{ dst := some 11, op := AOp.mv (Opd.t 0), guard := none }, { dst := some 12, op := AOp.call (Opd.c (AV.p (PV.fn 26))) [Opd.t 11], guard := none }, { dst := some 10, op := AOp.mv (Opd.t 12), guard := none }, { dst := some 13, op := AOp.extract 0 (Opd.t 10), guard := none }, { dst := some 14, op := AOp.extract 1 (Opd.t 10), guard := none }, { dst := some 5, op := AOp.alloc 39 [AV.p (PV.int IntKind.i64 (0)), AV.p (PV.int IntKind.i64 (0)), AV.p (PV.str []), AV.p (PV.bool false)], guard := none }, { dst := none, op := AOp.store 4 (Opd.t 5) (Opd.t 13), guard := none }, { dst := some 6, op := AOp.mv (Opd.t 14), guard := none }]).seq (((ACode.region [{ dst := some 15, op := AOp.mv (Opd.t 6), guard := none }, { dst := some 16, op := AOp.bin (Bin.plain BinOp.eql) (Opd.t 15) (Opd.c (AV.p (PV.int IntKind.i64 (0)))), guard := none }]).seq (ACode.cond (Opd.t 16) ((ACode.region [{ dst := some 2, op := AOp.mv (Opd.c AV.nil0), guard := none }, { dst := some 3, op := AOp.mv (Opd.c (AV.p (PV.int IntKind.i64 (31)))), guard := none }]).seq ACode.ret) ACode.skip)).seq ((ACode.region [{ dst := some 17, op := AOp.mv (Opd.t 4), guard := none }, { dst := some 18, op := AOp.load true 4 (Opd.t 5), guard := none }, { dst := some 19, op := AOp.buildSlice [AV.p (PV.int IntKind.i64 (0)), AV.p (PV.int IntKind.i64 (0)), AV.p (PV.str []), AV.p (PV.bool false)] 1 4 [(0, 4, Opd.t 18)], guard := none }, { dst := some 20, op := AOp.append 39 4 [AV.p (PV.int IntKind.i64 (0)), AV.p (PV.int IntKind.i64 (0)), AV.p (PV.str []), AV.p (PV.bool false)] (Opd.t 17) (Opd.t 19), guard := none }, { dst := some 4, op := AOp.mv (Opd.t 20), guard := none }]).seq (ACode.region [{ dst := some 21, op := AOp.mv (Opd.t 0), guard := none }, { dst := some 22, op := AOp.mv (Opd.t 6), guard := none }, { dst := some 23, op := AOp.sliceStr (Opd.t 21) (some (Opd.t 22)) none, guard := none }, { dst := some 0, op := AOp.mv (Opd.t 23), guard := none }])))))))).seq ((ACode.region [{ dst := some 24, op := AOp.mv (Opd.t 4), guard := none }, { dst := some 2, op := AOp.mv (Opd.t 24), guard := none }, { dst := some 3, op := AOp.mv (Opd.c (AV.p (PV.int IntKind.i64 (0)))), guard := none }]).seq ACode.ret))) }
def body13 : ACode := (((ACode.region [{ dst := some 7, op := AOp.mv (Opd.t 0), guard := none }, { dst := some 8, op := AOp.len true (Opd.t 7), guard := none }, { dst := some 9, op := AOp.bin (Bin.plain BinOp.gtr) (Opd.t 8) (Opd.c (AV.p (PV.int IntKind.i64 (0)))), guard := none }]).seq (ACode.cond (Opd.t 9) ACode.skip (ACode.exit 0))).seq (ACode.block 1 ((ACode.region [{ dst := some 11, op := AOp.mv (Opd.t 0), guard := none }, { dst := some 12, op := AOp.call (Opd.c (AV.p (PV.fn 26))) [Opd.t 11], guard := none }, { dst := some 10, op := AOp.mv (Opd.t 12), guard := none }, { dst := some 13, op := AOp.extract 0 (Opd.t 10), guard := none }, { dst := some 14, op := AOp.extract 1 (Opd.t 10), guard := none }, { dst := some 5, op := AOp.alloc 39 [AV.p (PV.int IntKind.i64 (0)), AV.p (PV.int IntKind.i64 (0)), AV.p (PV.str []), AV.p (PV.bool false)], guard := none }, { dst := none, op := AOp.store 4 (Opd.t 5) (Opd.t 13), guard := none }, { dst := some 6, op := AOp.mv (Opd.t 14), guard := none }]).seq (((ACode.region [{ dst := some 15, op := AOp.mv (Opd.t 6), guard := none }, { dst := some 16, op := AOp.bin (Bin.plain BinOp.eql) (Opd.t 15) (Opd.c (AV.p (PV.int IntKind.i64 (0)))), guard := none }]).seq (ACode.cond (Opd.t 16) ((ACode.region [{ dst := some 2, op := AOp.mv (Opd.c AV.nil0), guard := none }, { dst := some 3, op := AOp.mv (Opd.c (AV.p (PV.int IntKind.i64 (31)))), guard := none }]).seq ACode.ret) ACode.skip)).seq ((ACode.region [{ dst := some 17, op := AOp.mv (Opd.t 4), guard := none }, { dst := some 18, op := AOp.load true 4 (Opd.t 5), guard := none }, { dst := some 19, op := AOp.buildSlice [AV.p (PV.int IntKind.i64 (0)), AV.p (PV.int IntKind.i64 (0)), AV.p (PV.str []), AV.p (PV.bool false)] 1 4 [(0, 4, Opd.t 18)], guard := none }, { dst := some 20, op := AOp.append 39 4 [AV.p (PV.int IntKind.i64 (0)), AV.p (PV.int IntKind.i64 (0)), AV.p (PV.str []), AV.p (PV.bool false)] (Opd.t 17) (Opd.t 19), guard := none }, { dst := some 4, op := AOp.mv (Opd.t 20), guard := none }]).seq (ACode.region [{ dst := some 21, op := AOp.mv (Opd.t 0), guard := none }, { dst := some 22, op := AOp.mv (Opd.t 6), guard := none }, { dst := some 23, op := AOp.sliceStr (Opd.t 21) (some (Opd.t 22)) none, guard := none }, { dst := some 0, op := AOp.mv (Opd.t 23), guard := none }]))))))
theorem lit13_eq : lit13.body = (ACode.region [{ dst := some 2, op := AOp.mv (Opd.c AV.nil0), guard := none }, { dst := some 3, op := AOp.mv (Opd.c (AV.p (PV.int IntKind.i64 (0)))), guard := none }]).seq ((ACode.region [{ dst := some 4, op := AOp.mv (Opd.c AV.nil0), guard := none }]).seq ((ACode.block 0 (ACode.loop none body13)).seq ((ACode.region [{ dst := some 24, op := AOp.mv (Opd.t 4), guard := none }, { dst := some 2, op := AOp.mv (Opd.t 24), guard := none }, { dst := some 3, op := AOp.mv (Opd.c (AV.p (PV.int IntKind.i64 (0)))), guard := none }]).seq ACode.ret))) := rfl
section
variable (C : Oracle) (L : Nat) (ρ : Env) (σ : Heap) (b : AV) (l : List V)
/-- the loop's state -/
structure At13 (ρ : Env) (s : List UInt8) (b : AV) : Prop where
  t0 : ρ.get 0 = some (.p (.str s))
  t4 : ρ.get 4 = some b
theorem stop13 (h : At13 ρ [] b) : ∃ ρ', exec C L body13 ⟨ρ, [], σ⟩ = some (.exit 0, ⟨ρ', [], σ⟩) ∧ ρ'.get 4 = some b :=
  ⟨_, by simp [body13, exec, runOps, wantedA, stepOp, pureOp, allocOp, readOp, effOp, ev, evs, evO, Env.get_cons, putE, binA, intBin, unA, AV.fit, AV.toCells, partC, partP, mkCells, allP, mkAgg, Cells.len, target, lenA, h.t0]; rfl, by simp [Env.get_cons, h.t4]⟩
theorem go13 (s : List UInt8) (v : V) (k : Nat) (hs : 0 < s.length) (hk1 : 1 ≤ k) (hk : k ≤ s.length) (h : At13 ρ s b) (hv : VBuf σ b l) (hl : l.length + 1 ≤ LIM) (hC : ∀ σ, C 26 [.p (.str s)] σ = some (.ret (.p (.tup [.agg (vc v), .int .i64 (k : Int)])), σ)) :
    ∃ ρ' σ' b', exec C L body13 ⟨ρ, [], σ⟩ = some (.normal, ⟨ρ', [], σ'⟩) ∧ At13 ρ' (s.drop k) b' ∧ VBuf σ' b' (l ++ [v]) := by
  have h1 : (0 : Int) < (s.length : Int) := by omega
  have h2 : ((k : Int) == 0) = false := by
    rw [beq_eq_false_iff_ne]
    omega
  have h3 : (0 : Int) ≤ (k : Int) := by omega
  have h4 : (k : Int) ≤ (s.length : Int) := by omega
  have h5 : (s.drop k).take (s.length - k) = s.drop k := List.take_of_length_le (by simp)
  obtain ⟨b2, σ2, hA, hv2⟩ := ((hv.push [.arr (.pv (vc v)) 0 0 (some 39)]).push [.arr (.pv (vc v)) 0 0 none]).app v hl
  have hv4 := vc_len v
  generalize vc v = cv at hC hv4 hA
  obtain ⟨x0, x1, x2, x3, rfl⟩ : ∃ x0 x1 x2 x3, cv = [x0, x1, x2, x3] := by
    match cv, hv4 with
    | [x0, x1, x2, x3], _ => exact ⟨x0, x1, x2, x3, rfl⟩
  simp only [List.append_assoc, List.cons_append, List.nil_append] at hA
  have hget : ∀ x y : Obj, (σ ++ [x, y])[σ.length + 1]? = some y := fun x y => by simp
  exact ⟨_, σ2, b2, by simp [body13, exec, runOps, wantedA, stepOp, pureOp, allocOp, readOp, effOp, ev, evs, evO, Env.get_cons, putE, binA, intBin, unA, AV.fit, AV.toCells, partC, partP, mkCells, allP, mkAgg, Cells.len, target, evParts, fillA, AV.cells, splice, spliceC, finA, leaveA, resA, resV, ansV, repCells, elemsA, takeC, dropC, lenA, extractA, sliceA, boundsA, boundA, h.t0, h.t4, h1, h2, h3, h4, h5, hs, hk, hC, hget, hA]; rfl, ⟨by simp [Env.get_cons], by simp [Env.get_cons]⟩, hv2⟩
theorem bad13 (s : List UInt8) (hs : 0 < s.length) (h : At13 ρ s b) (hC : ∀ σ, C 26 [.p (.str s)] σ = some (.ret (.p (.tup [.agg (vc .null), .int .i64 0])), σ)) :
    ∃ ρ' σ', exec C L body13 ⟨ρ, [], σ⟩ = some (.ret, ⟨ρ', [], σ'⟩) ∧ ρ'.get 2 = some .nil0 ∧ ρ'.get 3 = some (.p (.int .i64 31)) := by
  have h1 : (0 : Int) < (s.length : Int) := by omega
  simp only [vc] at hC
  exact ⟨_, _, by simp [body13, exec, runOps, wantedA, stepOp, pureOp, allocOp, readOp, effOp, ev, evs, evO, Env.get_cons, putE, binA, intBin, unA, AV.fit, AV.toCells, partC, partP, mkCells, allP, mkAgg, Cells.len, target, evParts, fillA, AV.cells, splice, spliceC, finA, leaveA, resA, resV, ansV, lenA, extractA, h.t0, h.t4, h1, hs, hC]; exact ⟨rfl, rfl⟩, by simp [Env.get_cons], by simp [Env.get_cons]⟩
end
/-- how the loop ends -/
def End13 (x : Option (List V)) (ex : AExit) (st : St) : Prop := st.defers = [] ∧ match x with
  | some l => ex = .exit 0 ∧ ∃ b, st.env.get 4 = some b ∧ VBuf st.heap b l
  | none => ex = .ret ∧ st.env.get 2 = some .nil0 ∧ st.env.get 3 = some (.p (.int .i64 31))
theorem loop13 (C : Oracle) (L : Nat) (hC : ∀ (c : UInt8) (r : List UInt8), r.length < 16777216 → ∀ σ, C 26 [.p (.str (c :: r))] σ = some (.ret (.p (.tup [.agg (fst26 c r).1, .int .i64 (fst26 c r).2])), σ)) :
    ∀ (f : Nat) (s : List UInt8) (l : List V) (ρ : Env) (σ : Heap) (b : AV), s.length < f → s.length ≤ 16777216 → At13 ρ s b → VBuf σ b l → l.length + s.length ≤ LIM →
    ∃ ex st, iter (exec C L body13) none f ⟨ρ, [], σ⟩ = some (ex, st) ∧ End13 (dec f s l) ex st
  | 0, s, l, ρ, σ, b, hf, _, _, _, _ => absurd hf (by omega)
  | f + 1, [], l, ρ, σ, b, hf, hm, h, hv, hl => by
    obtain ⟨ρ', e, g⟩ := stop13 C L ρ σ b h
    exact ⟨.exit 0, ⟨ρ', [], σ⟩, by simp only [iter, St.keep, e], rfl, rfl, b, g, hv⟩
  | f + 1, c :: r, l, ρ, σ, b, hf, hm, h, hv, hl => by
    simp only [List.length_cons] at hf hm hl
    have hc := hC c r (by omega)
    rcases fst_dec c r with ⟨v, k, h1, hk1, hk, hd⟩ | ⟨h1, hd⟩
    · rw [h1] at hc
      obtain ⟨ρ1, σ1, b1, e, h2, hv2⟩ := go13 C L ρ σ b l (c :: r) v k (by simp) hk1 (by simpa using hk) h hv (by omega) hc
      obtain ⟨ex, st, e', q⟩ := loop13 C L hC f ((c :: r).drop k) (l ++ [v]) ρ1 σ1 b1 (by simp; omega) (by simp; omega) h2 hv2 (by simp; omega)
      exact ⟨ex, st, by simp only [iter, St.keep, e]; exact e', by rw [hd]; exact q⟩
    · rw [h1] at hc
      obtain ⟨ρ1, σ1, e, g2, g3⟩ := bad13 C L ρ σ b (c :: r) (by simp) h hc
      exact ⟨.ret, ⟨ρ1, [], σ1⟩, by simp only [iter, St.keep, e], by rw [hd]; exact ⟨rfl, rfl, g2, g3⟩⟩
section
variable (m : Int) (L n : Nat)
theorem q13 : TE (G 0 m) 13 = some (.code lit13 true) := by kernel_rfl
theorem run13 (C : Oracle) (D : DOracle) (L : Nat) (hC : ∀ (c : UInt8) (r : List UInt8), r.length < 16777216 → ∀ σ, C 26 [.p (.str (c :: r))] σ = some (.ret (.p (.tup [.agg (fst26 c r).1, .int .i64 (fst26 c r).2])), σ)) (s : List UInt8) (hs : s.length < L) (hm : s.length ≤ 16777216) :
    match dec L s [] with
    | some l => ∃ b σr, VBuf σr b l ∧ runFunc C D L lit13 [.p (.str s)] [] = some (.ret (.tup [b, .p (.int .i64 0)]), σr)
    | none => ∃ σr, runFunc C D L lit13 [.p (.str s)] [] = some (.ret (.tup [.nil0, .p (.int .i64 31)]), σr) := by
  have hLm : LIM = 4294967296 := rfl
  obtain ⟨ex, st, e, hd, q⟩ := loop13 C L hC L s [] [(4, .nil0), (3, .p (.int .i64 0)), (2, .nil0), (0, .p (.str s))] [] .nil0 hs hm ⟨rfl, rfl⟩ (.inl ⟨rfl, rfl⟩) (by simp; omega)
  obtain ⟨ρ', ds, σ'⟩ := st
  simp only at hd q
  subst hd
  rw [runFunc_eq, lit13_eq]
  rw [seqN (a := .region _) (by simp [params, exec, runOps, wantedA, stepOp, pureOp, allocOp, readOp, effOp, ev, evs, evO, Env.get_cons, putE, binA, intBin, unA, AV.fit, AV.toCells, partC, partP, mkCells, allP, mkAgg, Cells.len, target]; rfl), seqN (a := .region _) (by simp [exec, runOps, wantedA, stepOp, pureOp, allocOp, readOp, effOp, ev, evs, evO, Env.get_cons, putE, binA, intBin, unA, AV.fit, AV.toCells, partC, partP, mkCells, allP, mkAgg, Cells.len, target]; rfl)]
  cases hx : dec L s [] with
  | some l =>
    rw [hx] at q
    obtain ⟨rfl, b, g4, hv⟩ := q
    have e3 : exec C L (.block 0 (.loop none body13)) ⟨[(4, .nil0), (3, .p (.int .i64 0)), (2, .nil0), (0, .p (.str s))], [], []⟩ = some (.normal, ⟨ρ', [], σ'⟩) := by
      simp only [exec, e, if_true]
    refine ⟨b, σ', hv, ?_⟩
    refine (congrArg (fun z => finX D lit13 z) (seqN e3)).trans ?_
    rcases hv with ⟨rfl, rfl⟩ | ⟨_, id, ver, rfl, _⟩
    · simp [lit13, exec, runOps, wantedA, stepOp, pureOp, allocOp, readOp, effOp, ev, evs, evO, Env.get_cons, putE, binA, intBin, unA, AV.fit, AV.toCells, partC, partP, mkCells, allP, mkAgg, Cells.len, target, evParts, fillA, AV.cells, splice, spliceC, finA, leaveA, resA, resV, ansV, finX, g4, mkTup, allP]
    · simp [lit13, exec, runOps, wantedA, stepOp, pureOp, allocOp, readOp, effOp, ev, evs, evO, Env.get_cons, putE, binA, intBin, unA, AV.fit, AV.toCells, partC, partP, mkCells, allP, mkAgg, Cells.len, target, evParts, fillA, AV.cells, splice, spliceC, finA, leaveA, resA, resV, ansV, finX, g4, mkTup, allP]
  | none =>
    rw [hx] at q
    obtain ⟨rfl, g2, g3⟩ := q
    have e3 : exec C L (.block 0 (.loop none body13)) ⟨[(4, .nil0), (3, .p (.int .i64 0)), (2, .nil0), (0, .p (.str s))], [], []⟩ = some (.ret, ⟨ρ', [], σ'⟩) := by
      simp only [exec, e]
    refine ⟨σ', ?_⟩
    refine (congrArg (fun z => finX D lit13 z) (seqR e3)).trans ?_
    simp [lit13, finX, finA, leaveA, resA, resV, g2, g3, mkTup, allP]
theorem decode13_at (s : List UInt8) (hs : s.length < L) (hm : s.length ≤ 16777216) (hL2 : 16777216 < L) (σ : Heap) :
    ∃ v τ, (cAt (TE (G 0 m)) L (n + 4)).1 13 [.p (.str s)] σ = some (.ret (.tup [v, .p (.int .i64 (decI (dec L s [])))]), σ ++ τ) ∧ SlAt (σ ++ τ) v ((dec L s []).getD []) := by
  have hC := fun c r hr σ => first26 m L n c r hr hL2 σ
  rw [cAt_succ]
  simp only [callT, q13 m]
  generalize (cAt (TE (G 0 m)) L (n + 3)).1 = C at *
  generalize (cAt (TE (G 0 m)) L (n + 3)).2 = D at *
  have h := run13 C D L hC s hs hm
  have hf : fits lit13 ([PV.str s].map .p) = true := rfl
  cases hx : dec L s [] with
  | some l =>
    rw [hx] at h
    obtain ⟨b, σr, hv, hr⟩ := h
    rcases hv with ⟨rfl, rfl⟩ | ⟨hne, id, ver, rfl, ho⟩
    · exact ⟨.nil0, [], by rw [List.append_nil]; exact wrap_tnil (ps := [.str s]) (by simp only [runCode, hf]; exact hr) σ, .inl ⟨rfl, rfl⟩⟩
    · exact ⟨_, _, wrap_tup (ps := [.str s]) (by simp only [runCode, hf]; exact hr) ho σ, .inr ⟨σ.length, 0, 0, [], some 39, rfl, by simp⟩⟩
  | none =>
    rw [hx] at h
    obtain ⟨σr, hr⟩ := h
    exact ⟨.nil0, [], by rw [List.append_nil]; exact wrap_tnil (ps := [.str s]) (by simp only [runCode, hf]; exact hr) σ, .inl ⟨rfl, rfl⟩⟩
end
end Go.Ab.Key

/- The laws of keys: lists that are the same. -/
set_option maxRecDepth 1000000
namespace Go.Ab.Key
open Go Go.Ab Go.Proofs
variable [Marks]
def lit14 : AFunc := { ntmps := 26, results := [ARes.tmp 4], body := (ACode.region [{ dst := some 4, op := AOp.mv (Opd.c (AV.p (PV.bool false))), guard := none }]).seq (((ACode.region [{ dst := some 6, op := AOp.mv (Opd.t 0), guard := none }, { dst := some 7, op := AOp.len false (Opd.t 6), guard := none }, { dst := some 8, op := AOp.mv (Opd.t 1), guard := none }, { dst := some 9, op := AOp.len false (Opd.t 8), guard := none }, { dst := some 10, op := AOp.bin (Bin.plain BinOp.neq) (Opd.t 7) (Opd.t 9), guard := none }]).seq (ACode.cond (Opd.t 10) ((ACode.region [{ dst := some 4, op := AOp.mv (Opd.c (AV.p (PV.bool false))), guard := none }]).seq ACode.ret) ACode.skip)).seq (((ACode.region [{ dst := some 5, op := AOp.mv (Opd.c (AV.p (PV.int IntKind.i64 (0)))), guard := none }]).seq (ACode.block 0 (ACode.loop none (((ACode.region [{ dst := some 11, op := AOp.mv (Opd.t 5), guard := none }, { dst := some 12, op := AOp.mv (Opd.t 0), guard := none }, { dst := some 13, op := AOp.len false (Opd.t 12), guard := none }, { dst := some 14, op := AOp.bin (Bin.plain BinOp.lss) (Opd.t 11) (Opd.t 13), guard := none }]).seq (ACode.cond (Opd.t 14) ACode.skip (ACode.exit 0))).seq ((ACode.block 1 ((ACode.draw 9 [0, 0, 3, 7, 0, 0, 48, 112, 255] [{ dst := some 17, op := AOp.mv (Opd.t 0), guard := none }, { dst := some 18, op := AOp.mv (Opd.t 5), guard := none }, { dst := some 19, op := AOp.idx 4 (Opd.t 17) (Opd.t 18), guard := none }, { dst := some 20, op := AOp.load true 4 (Opd.t 19), guard := none }, { dst := some 21, op := AOp.mv (Opd.t 1), guard := none }, { dst := some 22, op := AOp.mv (Opd.t 5), guard := none }, { dst := some 23, op := AOp.idx 4 (Opd.t 21) (Opd.t 22), guard := none }, { dst := some 24, op := AOp.load true 4 (Opd.t 23), guard := none }, { dst := some 25, op := AOp.bin (Bin.eq true (EQ.struct [(0, false, 1, EQ.int), (1, false, 1, EQ.int), (2, false, 1, EQ.str), (3, false, 1, EQ.bool)])) (Opd.t 20) (Opd.t 24), guard := none }]).seq (ACode.cond (Opd.t 25) ((ACode.region [{ dst := some 4, op := AOp.mv (Opd.c (AV.p (PV.bool false))), guard := none }]).seq ACode.ret) ACode.skip))).seq (ACode.region [{ dst := some 15, op := AOp.mv (Opd.t 5), guard := none }, { dst := some 16, op := AOp.bin (Bin.plain BinOp.add) (Opd.t 15) (Opd.c (AV.p (PV.int IntKind.i64 (1)))), guard := none }, { dst := some 5, op := AOp.mv (Opd.t 16), guard := none }])))))).seq ((ACode.region [{ dst := some 4, op := AOp.mv (Opd.c (AV.p (PV.bool true))), guard := none }]).seq ACode.ret))) }
def body14 : ACode := (((ACode.region [{ dst := some 11, op := AOp.mv (Opd.t 5), guard := none }, { dst := some 12, op := AOp.mv (Opd.t 0), guard := none }, { dst := some 13, op := AOp.len false (Opd.t 12), guard := none }, { dst := some 14, op := AOp.bin (Bin.plain BinOp.lss) (Opd.t 11) (Opd.t 13), guard := none }]).seq (ACode.cond (Opd.t 14) ACode.skip (ACode.exit 0))).seq ((ACode.block 1 ((ACode.draw 9 [0, 0, 3, 7, 0, 0, 48, 112, 255] [{ dst := some 17, op := AOp.mv (Opd.t 0), guard := none }, { dst := some 18, op := AOp.mv (Opd.t 5), guard := none }, { dst := some 19, op := AOp.idx 4 (Opd.t 17) (Opd.t 18), guard := none }, { dst := some 20, op := AOp.load true 4 (Opd.t 19), guard := none }, { dst := some 21, op := AOp.mv (Opd.t 1), guard := none }, { dst := some 22, op := AOp.mv (Opd.t 5), guard := none }, { dst := some 23, op := AOp.idx 4 (Opd.t 21) (Opd.t 22), guard := none }, { dst := some 24, op := AOp.load true 4 (Opd.t 23), guard := none }, { dst := some 25, op := AOp.bin (Bin.eq true (EQ.struct [(0, false, 1, EQ.int), (1, false, 1, EQ.int), (2, false, 1, EQ.str), (3, false, 1, EQ.bool)])) (Opd.t 20) (Opd.t 24), guard := none }]).seq (ACode.cond (Opd.t 25) ((ACode.region [{ dst := some 4, op := AOp.mv (Opd.c (AV.p (PV.bool false))), guard := none }]).seq ACode.ret) ACode.skip))).seq (ACode.region [{ dst := some 15, op := AOp.mv (Opd.t 5), guard := none }, { dst := some 16, op := AOp.bin (Bin.plain BinOp.add) (Opd.t 15) (Opd.c (AV.p (PV.int IntKind.i64 (1)))), guard := none }, { dst := some 5, op := AOp.mv (Opd.t 16), guard := none }])))
theorem lit14_eq : lit14.body = (ACode.region [{ dst := some 4, op := AOp.mv (Opd.c (AV.p (PV.bool false))), guard := none }]).seq (((ACode.region [{ dst := some 6, op := AOp.mv (Opd.t 0), guard := none }, { dst := some 7, op := AOp.len false (Opd.t 6), guard := none }, { dst := some 8, op := AOp.mv (Opd.t 1), guard := none }, { dst := some 9, op := AOp.len false (Opd.t 8), guard := none }, { dst := some 10, op := AOp.bin (Bin.plain BinOp.neq) (Opd.t 7) (Opd.t 9), guard := none }]).seq (ACode.cond (Opd.t 10) ((ACode.region [{ dst := some 4, op := AOp.mv (Opd.c (AV.p (PV.bool false))), guard := none }]).seq ACode.ret) ACode.skip)).seq (((ACode.region [{ dst := some 5, op := AOp.mv (Opd.c (AV.p (PV.int IntKind.i64 (0)))), guard := none }]).seq (ACode.block 0 (ACode.loop none body14))).seq ((ACode.region [{ dst := some 4, op := AOp.mv (Opd.c (AV.p (PV.bool true))), guard := none }]).seq ACode.ret))) := rfl
section
variable (C : Oracle) (L : Nat) (x : List V) (ρ : Env) (σ : Heap)
/-- the loop's state -/
structure At14 (ρ : Env) (i : Nat) : Prop where
  t0 : ρ.get 0 = some (.p (.vsl (vcs x) x.length))
  t1 : ρ.get 1 = some (.p (.vsl (vcs x) x.length))
  t5 : ρ.get 5 = some (.p (.int .i64 (i : Int)))
theorem stop14 (h : At14 x ρ x.length) : ∃ ρ', exec C L body14 ⟨ρ, [], σ⟩ = some (.exit 0, ⟨ρ', [], σ⟩) :=
  ⟨_, by simp [body14, exec, runOps, wantedA, stepOp, pureOp, allocOp, readOp, effOp, ev, evs, evO, Env.get_cons, putE, binA, intBin, unA, AV.fit, AV.toCells, partC, partP, mkCells, allP, mkAgg, Cells.len, target, lenA, h.t0, h.t5]; rfl⟩
theorem go14 (i : Nat) (v : V) (hv : x[i]? = some v) (hm : x.length ≤ 9223372036854775807) (h : At14 x ρ i) : ∃ ρ', exec C L body14 ⟨ρ, [], σ⟩ = some (.normal, ⟨ρ', [], σ⟩) ∧ At14 x ρ' (i + 1) := by
  have hi : i < x.length := (List.getElem?_eq_some_iff.1 hv).1
  have hi' : (i : Int) < (x.length : Int) := by omega
  have d1 := flat_v x i _ hv
  have d3 : 4 ≤ (vcs x).length - i * 4 := by rw [vcs_len]; omega
  have e1 : IntKind.i64.wrap ((i : Int) + 1) = (i : Int) + 1 := wrap_id _ (by omega) (by omega)
  cases v <;> simp only [vc] at d1 <;>
    exact ⟨_, by simp [body14, exec, runOps, wantedA, stepOp, pureOp, allocOp, readOp, effOp, ev, evs, evO, Env.get_cons, putE, binA, intBin, unA, AV.fit, AV.toCells, partC, partP, mkCells, allP, mkAgg, Cells.len, target, evParts, fillA, AV.cells, splice, spliceC, finA, leaveA, resA, resV, ansV, lenA, idxA, h.t0, h.t1, h.t5, hi, hi', d1, d3, e1, drawExec, drawRun, stillOp, keepE, readsOf, isE, opds, tmpsOf, carry, refOf, refV, valsOp, oneH, wrIds, okRW, eqP, eqPs]; rfl, ⟨by simp [Env.get_cons, h.t0], by simp [Env.get_cons, h.t1], by simp [Env.get_cons]⟩⟩
theorem loop14 (hm : x.length ≤ 9223372036854775807) : ∀ (d i f : Nat) (ρ : Env), i + d = x.length → d < f → At14 x ρ i → ∃ ρ', iter (exec C L body14) none f ⟨ρ, [], σ⟩ = some (.exit 0, ⟨ρ', [], σ⟩)
  | 0, i, f, ρ, hd, hf, h => by
    obtain ⟨f, rfl⟩ : ∃ m, f = m + 1 := ⟨f - 1, by omega⟩
    obtain rfl : i = x.length := by omega
    obtain ⟨ρ', e⟩ := stop14 C L x ρ σ h
    exact ⟨ρ', by simp only [iter, St.keep, e]⟩
  | d + 1, i, f, ρ, hd, hf, h => by
    obtain ⟨f, rfl⟩ : ∃ m, f = m + 1 := ⟨f - 1, by omega⟩
    have hi : i < x.length := by omega
    obtain ⟨ρ1, e, h1⟩ := go14 C L x ρ σ i x[i] (List.getElem?_eq_getElem hi) hm h
    obtain ⟨ρ', e'⟩ := loop14 hm d (i + 1) f ρ1 (by omega) (by omega) h1
    exact ⟨ρ', by simp only [iter, St.keep, e]; exact e'⟩
end
def lit6 : AFunc := { ntmps := 49, results := [ARes.tmp 4], body := (ACode.region [{ dst := some 4, op := AOp.mv (Opd.c (AV.p (PV.bool false))), guard := none }]).seq ((ACode.region [{ dst := some 11, op := AOp.mv (Opd.t 0), guard := none }, { dst := some 12, op := AOp.call (Opd.c (AV.p (PV.fn 8))) [Opd.t 11], guard := none }, { dst := some 5, op := AOp.mv (Opd.t 12), guard := none }]).seq ((ACode.region [{ dst := some 14, op := AOp.mv (Opd.t 1), guard := none }, { dst := some 15, op := AOp.call (Opd.c (AV.p (PV.fn 12))) [Opd.t 14], guard := none }, { dst := some 13, op := AOp.mv (Opd.t 15), guard := none }, { dst := some 16, op := AOp.extract 0 (Opd.t 13), guard := none }, { dst := some 17, op := AOp.extract 1 (Opd.t 13), guard := none }, { dst := some 6, op := AOp.mv (Opd.t 16), guard := none }, { dst := some 7, op := AOp.mv (Opd.t 17), guard := none }]).seq ((ACode.region [{ dst := some 19, op := AOp.mv (Opd.t 1), guard := none }, { dst := some 20, op := AOp.call (Opd.c (AV.p (PV.fn 13))) [Opd.t 19], guard := none }, { dst := some 18, op := AOp.mv (Opd.t 20), guard := none }, { dst := some 21, op := AOp.extract 0 (Opd.t 18), guard := none }, { dst := some 22, op := AOp.extract 1 (Opd.t 18), guard := none }, { dst := some 8, op := AOp.mv (Opd.t 21), guard := none }, { dst := some 9, op := AOp.mv (Opd.t 22), guard := none }]).seq ((ACode.region [{ dst := some 23, op := AOp.mv (Opd.t 6), guard := none }, { dst := some 24, op := AOp.mv (Opd.t 8), guard := none }, { dst := some 25, op := AOp.call (Opd.c (AV.p (PV.fn 14))) [Opd.t 23, Opd.t 24], guard := none }, { dst := some 10, op := AOp.mv (Opd.t 25), guard := none }]).seq ((ACode.region [{ dst := some 26, op := AOp.call (Opd.c (AV.p (PV.fn 11))) [], guard := none }, { dst := some 27, op := AOp.mv (Opd.t 26), guard := none }, { dst := some 28, op := AOp.mv (Opd.t 5), guard := some (27, true) }, { dst := some 29, op := AOp.call (Opd.c (AV.p (PV.fn 9))) [Opd.t 28], guard := some (27, true) }, { dst := some 30, op := AOp.mv (Opd.t 5), guard := some (27, true) }, { dst := some 31, op := AOp.call (Opd.c (AV.p (PV.fn 15))) [Opd.t 30], guard := some (27, true) }, { dst := some 32, op := AOp.bin (Bin.plain BinOp.eql) (Opd.t 29) (Opd.t 31), guard := some (27, true) }, { dst := some 33, op := AOp.pick (Opd.t 27) (Opd.t 32) (Opd.c (AV.p (PV.bool false))), guard := none }, { dst := some 34, op := AOp.mv (Opd.t 33), guard := none }, { dst := some 35, op := AOp.mv (Opd.t 10), guard := some (34, true) }, { dst := some 36, op := AOp.pick (Opd.t 34) (Opd.t 35) (Opd.c (AV.p (PV.bool false))), guard := none }, { dst := some 37, op := AOp.mv (Opd.t 36), guard := none }, { dst := some 38, op := AOp.mv (Opd.t 7), guard := some (37, true) }, { dst := some 39, op := AOp.mv (Opd.t 9), guard := some (37, true) }, { dst := some 40, op := AOp.bin (Bin.plain BinOp.eql) (Opd.t 38) (Opd.t 39), guard := some (37, true) }, { dst := some 41, op := AOp.pick (Opd.t 37) (Opd.t 40) (Opd.c (AV.p (PV.bool false))), guard := none }, { dst := some 42, op := AOp.mv (Opd.t 41), guard := none }, { dst := some 43, op := AOp.mv (Opd.t 1), guard := some (42, true) }, { dst := some 44, op := AOp.call (Opd.c (AV.p (PV.fn 16))) [Opd.t 43], guard := some (42, true) }, { dst := some 45, op := AOp.mv (Opd.t 1), guard := some (42, true) }, { dst := some 46, op := AOp.bin (Bin.plain BinOp.add) (Opd.t 45) (Opd.c (AV.p (PV.str [255]))), guard := some (42, true) }, { dst := some 47, op := AOp.bin (Bin.plain BinOp.eql) (Opd.t 44) (Opd.t 46), guard := some (42, true) }, { dst := some 48, op := AOp.pick (Opd.t 42) (Opd.t 47) (Opd.c (AV.p (PV.bool false))), guard := none }, { dst := some 4, op := AOp.mv (Opd.t 48), guard := none }]).seq ACode.ret))))) }
section
variable (m : Int) (L n : Nat)
theorem q14 : TE (G 0 m) 14 = some (.code lit14 true) := by kernel_rfl
theorem q6 : TE (G 0 m) 6 = some (.code lit6 true) := by kernel_rfl
theorem same14 (x : List V) (hL : x.length < L) (hm : x.length ≤ 9223372036854775807) (σ : Heap) : (cAt (TE (G 0 m)) L (n + 1)).1 14 [.p (.vsl (vcs x) x.length), .p (.vsl (vcs x) x.length)] σ = some (.ret (.p (.bool true)), σ) := by
  refine call_ans (ps := [.vsl (vcs x) x.length, .vsl (vcs x) x.length]) (n := n) (q14 m) rfl ?_ σ
  generalize (cAt (TE (G 0 m)) L n).1 = C
  generalize (cAt (TE (G 0 m)) L n).2 = D
  rw [runFunc_eq, lit14_eq]
  obtain ⟨F, hF⟩ : ∃ F : Env → Heap → Env, ∀ ρ σ, At14 x ρ 0 → iter (exec C L body14) none L ⟨ρ, [], σ⟩ = some (.exit 0, ⟨F ρ σ, [], σ⟩) := by
    have hl := fun ρ σ (h : At14 x ρ 0) => loop14 C L x σ hm x.length 0 L ρ (by omega) hL h
    refine ⟨fun ρ σ => open Classical in if h : At14 x ρ 0 then (hl ρ σ h).choose else ρ, fun ρ σ h => ?_⟩
    simp only [dif_pos h]
    exact (hl ρ σ h).choose_spec
  have hF1 := fun ρ σ t0 t1 (t5 : ρ.get 5 = some (.p (.int .i64 0))) => hF ρ σ ⟨t0, t1, t5⟩
  simp [lit14, params, exec, runOps, wantedA, stepOp, pureOp, allocOp, readOp, effOp, ev, evs, evO, Env.get_cons, putE, binA, intBin, unA, AV.fit, AV.toCells, partC, partP, mkCells, allP, mkAgg, Cells.len, target, evParts, fillA, AV.cells, splice, spliceC, finA, leaveA, resA, resV, ansV, finX, lenA, hF1]
theorem same14_at (x : List V) (hL : x.length < L) (hm : x.length ≤ 9223372036854775807) {v u : AV} {σ : Heap} (h : SlAt σ v x) (k : SlAt σ u x) :
    ∃ σ', (cAt (TE (G 0 m)) L (n + 1)).1 14 [v, u] σ = some (.ret (.p (.bool true)), σ') ∧ Keeps σ σ' := by
  obtain ⟨t1, t2⟩ := touch_two h k
  obtain ⟨σ1, e1, hk1⟩ := frz_one h t1
  obtain ⟨σ2, e2, hk2⟩ := frz_one (hk1 _ _ k) t2
  refine ⟨σ2, ?_, hk1.trans hk2⟩
  rw [cAt_frz (ps := [.vsl (vcs x) x.length, .vsl (vcs x) x.length]) (σ1 := σ2) (q14 m) (by simp only [frzA, e1, e2]; rfl)]
  exact same14 m L n x hL hm σ2
set_option maxHeartbeats 2000000 in
theorem law6 (a : List Raw) (s : List UInt8) (ha : ∀ r ∈ a, inR r.k ∧ inR r.n) (hza : szL (raws a) ≤ 1048576) (hs : s.length ≤ 1048576) :
    ∃ L n σ', (cAt (TE (G 0 m)) L n).1 6 [.p (.vsl (raws a) a.length), .p (.str s)] [] = some (.ret (.p (.bool true)), σ') := by
  refine ⟨20000000, 31, [], ?_⟩
  have hxa := ok_row ha
  have hwa := wts_row' hza
  have hx40 : (rowOf' a).length ≤ 40 := by simp [rowOf']; omega
  have hLm : LIM = 4294967296 := rfl
  obtain ⟨v, τ1, e1, s1, _⟩ := row_at' m 20000000 27 (by omega) a (fun r hr => (ha r hr).1) []
  rw [List.nil_append] at e1 s1
  generalize rowOf' a = x at *
  obtain ⟨w, τ2, e2, s2⟩ := decode_at m 20000000 26 s (by omega) (by omega) (by omega) τ1
  have s1 := s1.push τ2
  generalize τ1 ++ τ2 = σ2 at *
  obtain ⟨z, τ3, e3, s3⟩ := decode13_at m 20000000 26 s (by omega) (by omega) (by omega) σ2
  have s1 := s1.push τ3
  have s2 := s2.push τ3
  generalize σ2 ++ τ3 = σ3 at *
  have hdl : ((dec 20000000 s []).getD []).length ≤ s.length := by
    cases hx : dec 20000000 s [] with
    | none => exact Nat.zero_le _
    | some l =>
      obtain ⟨k, h1, _, _, _, h5⟩ := dec_back _ _ _ _ hx
      rw [List.nil_append] at h1
      subst h1
      exact h5
  obtain ⟨σ4, e4, k4⟩ := same14_at m 20000000 29 ((dec 20000000 s []).getD []) (by omega) (by omega) s2 s3
  have s4 := k4 _ _ s1
  have e5 := alive_at m 20000000 30 (by omega) (by omega)
  obtain ⟨σ6, e6, k6⟩ := encode_at m 20000000 28 x (by omega) (by omega) hxa (by omega) s4
  obtain ⟨σ7, e7, k7⟩ := encode15_at m 20000000 27 x (by omega) (by omega) hxa (by omega) (by omega) (k6 _ _ s4)
  have e8 := above16 m 20000000 29 s (by omega)
  have hsl : s.length + 1 ≤ LIM := by omega
  refine call_ans (ps := [.vsl (raws a) a.length, .str s]) (n := 30) (q6 m) rfl ?_ []
  generalize decI (dec 20000000 s []) = ei at *
  generalize (cAt (TE (G 0 m)) 20000000 30).1 = C at *
  generalize (cAt (TE (G 0 m)) 20000000 30).2 = D
  rw [runFunc_eq]
  simp only [lit6]
  refine seqE (σ1 := []) (Q := fun ρ => ρ.get 0 = some (.p (.vsl (raws a) a.length)) ∧ ρ.get 1 = some (.p (.str s))) ⟨_, by simp [params, exec, runOps, wantedA, stepOp, pureOp, allocOp, readOp, effOp, ev, evs, evO, Env.get_cons, putE, binA, intBin, unA, AV.fit, AV.toCells, partC, partP, mkCells, allP, mkAgg, Cells.len, target]; rfl, by simp [Env.get_cons]⟩ fun ρ ⟨g0, g1⟩ => ?_
  refine seqE (σ1 := τ1) (Q := fun ρ => ρ.get 5 = some v ∧ ρ.get 1 = some (.p (.str s))) ⟨_, by simp [exec, runOps, wantedA, stepOp, pureOp, allocOp, readOp, effOp, ev, evs, evO, Env.get_cons, putE, binA, intBin, unA, AV.fit, AV.toCells, partC, partP, mkCells, allP, mkAgg, Cells.len, target, g0, e1]; rfl, by simp [Env.get_cons, g1]⟩ fun ρ ⟨g5, g1⟩ => ?_
  refine seqE (σ1 := σ2) (Q := fun ρ => ρ.get 5 = some v ∧ ρ.get 1 = some (.p (.str s)) ∧ ρ.get 6 = some w ∧ ρ.get 7 = some (.p (.int .i64 ei))) ⟨_, by simp [exec, runOps, wantedA, stepOp, pureOp, allocOp, readOp, effOp, ev, evs, evO, Env.get_cons, putE, binA, intBin, unA, AV.fit, AV.toCells, partC, partP, mkCells, allP, mkAgg, Cells.len, target, extractA, g1, e2]; rfl, by simp [Env.get_cons, g1, g5]⟩ fun ρ ⟨g5, g1, g6, g7⟩ => ?_
  refine seqE (σ1 := σ3) (Q := fun ρ => ρ.get 5 = some v ∧ ρ.get 1 = some (.p (.str s)) ∧ ρ.get 6 = some w ∧ ρ.get 7 = some (.p (.int .i64 ei)) ∧ ρ.get 8 = some z ∧ ρ.get 9 = some (.p (.int .i64 ei))) ⟨_, by simp [exec, runOps, wantedA, stepOp, pureOp, allocOp, readOp, effOp, ev, evs, evO, Env.get_cons, putE, binA, intBin, unA, AV.fit, AV.toCells, partC, partP, mkCells, allP, mkAgg, Cells.len, target, extractA, g1, e3]; rfl, by simp [Env.get_cons, g1, g5, g6, g7]⟩ fun ρ ⟨g5, g1, g6, g7, g8, g9⟩ => ?_
  refine seqE (σ1 := σ4) (Q := fun ρ => ρ.get 5 = some v ∧ ρ.get 1 = some (.p (.str s)) ∧ ρ.get 7 = some (.p (.int .i64 ei)) ∧ ρ.get 9 = some (.p (.int .i64 ei)) ∧ ρ.get 10 = some (.p (.bool true))) ⟨_, by simp [exec, runOps, wantedA, stepOp, pureOp, allocOp, readOp, effOp, ev, evs, evO, Env.get_cons, putE, binA, intBin, unA, AV.fit, AV.toCells, partC, partP, mkCells, allP, mkAgg, Cells.len, target, g6, g8, e4]; rfl, by simp [Env.get_cons, g1, g5, g7, g9]⟩ fun ρ ⟨g5, g1, g7, g9, g10⟩ => ?_
  simp [exec, runOps, wantedA, stepOp, pureOp, allocOp, readOp, effOp, ev, evs, evO, Env.get_cons, putE, binA, intBin, unA, AV.fit, AV.toCells, partC, partP, mkCells, allP, mkAgg, Cells.len, target, finX, finA, leaveA, resA, resV, ansV, strBin, hsl, g1, g5, g7, g9, g10, e5, e6, e7, e8, lit6]
end
end Go.Ab.Key
