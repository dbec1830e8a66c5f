/- The laws of keys: the document's reader of texts. -/
import Derived.Test.YtafjhlangdcefaaDoorAbKV
set_option linter.unusedSectionVars false
set_option linter.unusedSimpArgs false
set_option linter.unusedVariables false
set_option maxRecDepth 1000000
namespace Go.Ab.Key
open Go Go.Ab Go.Proofs
variable [Marks]
def lit42 : AFunc := { ntmps := 52, results := [ARes.cell 2 true 4, ARes.tmp 3], body := (ACode.region [{ dst := some 2, op := AOp.alloc 39 [AV.p (PV.int IntKind.i64 (0)), AV.p (PV.int IntKind.i64 (0)), AV.p (PV.str []), AV.p (PV.bool false)], guard := none }, { dst := some 3, op := AOp.mv (Opd.c (AV.p (PV.int IntKind.i64 (0)))), guard := none }]).seq ((ACode.region [{ dst := some 4, op := AOp.mv (Opd.c AV.nil0), guard := none }]).seq (((ACode.region [{ dst := some 5, op := AOp.mv (Opd.c (AV.p (PV.int IntKind.i64 (1)))), guard := none }]).seq (ACode.block 0 (ACode.loop none (((ACode.region [{ dst := some 7, op := AOp.mv (Opd.t 5), guard := none }, { dst := some 8, op := AOp.bin (Bin.plain BinOp.add) (Opd.t 7) (Opd.c (AV.p (PV.int IntKind.i64 (1)))), guard := none }, { dst := some 9, op := AOp.mv (Opd.t 0), guard := none }, { dst := some 10, op := AOp.len true (Opd.t 9), guard := none }, { dst := some 11, op := AOp.bin (Bin.plain BinOp.lss) (Opd.t 8) (Opd.t 10), guard := none }]).seq (ACode.cond (Opd.t 11) ACode.skip (ACode.exit 0))).seq ((ACode.block 1 (((ACode.region [{ dst := some 14, op := AOp.mv (Opd.t 0), guard := none }, { dst := some 15, op := AOp.mv (Opd.t 5), guard := none }, { dst := some 16, op := AOp.atStr (Opd.t 14) (Opd.t 15), guard := none }, { dst := some 17, op := AOp.bin (Bin.plain BinOp.neq) (Opd.t 16) (Opd.c (AV.p (PV.int IntKind.u8 (0)))), guard := none }]).seq (ACode.cond (Opd.t 17) ((ACode.region [{ dst := some 18, op := AOp.mv (Opd.t 4), guard := none }, { dst := some 19, op := AOp.mv (Opd.t 0), guard := none }, { dst := some 20, op := AOp.mv (Opd.t 5), guard := none }, { dst := some 21, op := AOp.atStr (Opd.t 19) (Opd.t 20), guard := none }, { dst := some 22, op := AOp.buildSlice [AV.p (PV.int IntKind.u8 (0))] 1 1 [(0, 1, Opd.t 21)], guard := none }, { dst := some 23, op := AOp.append 5 1 [AV.p (PV.int IntKind.u8 (0))] (Opd.t 18) (Opd.t 22), guard := none }, { dst := some 4, op := AOp.mv (Opd.t 23), guard := none }]).seq (ACode.exit 1)) ACode.skip)).seq (((ACode.region [{ dst := some 24, op := AOp.mv (Opd.t 0), guard := none }, { dst := some 25, op := AOp.mv (Opd.t 5), guard := none }, { dst := some 26, op := AOp.bin (Bin.plain BinOp.add) (Opd.t 25) (Opd.c (AV.p (PV.int IntKind.i64 (1)))), guard := none }, { dst := some 27, op := AOp.atStr (Opd.t 24) (Opd.t 26), guard := none }, { dst := some 28, op := AOp.bin (Bin.plain BinOp.eql) (Opd.t 27) (Opd.c (AV.p (PV.int IntKind.u8 (0)))), guard := none }]).seq (ACode.cond (Opd.t 28) ((ACode.region [{ dst := some 29, op := AOp.mv (Opd.t 4), guard := none }, { dst := some 30, op := AOp.bytesStr (Opd.t 29), guard := none }, { dst := some 6, op := AOp.mv (Opd.t 30), guard := none }]).seq (((ACode.region [{ dst := some 31, op := AOp.mv (Opd.t 6), guard := none }, { dst := some 32, op := AOp.mv (Opd.t 6), guard := none }, { dst := some 33, op := AOp.call (Opd.c (AV.p (PV.fn 36))) [Opd.t 32], guard := none }, { dst := some 34, op := AOp.bin (Bin.plain BinOp.neq) (Opd.t 31) (Opd.t 33), guard := none }]).seq (ACode.cond (Opd.t 34) ((ACode.region [{ dst := some 35, op := AOp.build [AV.p (PV.int IntKind.i64 (0)), AV.p (PV.int IntKind.i64 (0)), AV.p (PV.str []), AV.p (PV.bool false)] [], guard := none }, { dst := none, op := AOp.store 4 (Opd.t 2) (Opd.t 35), guard := none }, { dst := some 3, op := AOp.mv (Opd.c (AV.p (PV.int IntKind.i64 (0)))), guard := none }]).seq ACode.ret) ACode.skip)).seq ((ACode.region [{ dst := some 36, op := AOp.mv (Opd.t 6), guard := none }, { dst := some 37, op := AOp.call (Opd.c (AV.p (PV.fn 21))) [Opd.t 36], guard := none }, { dst := some 38, op := AOp.mv (Opd.t 5), guard := none }, { dst := some 39, op := AOp.bin (Bin.plain BinOp.add) (Opd.t 38) (Opd.c (AV.p (PV.int IntKind.i64 (2)))), guard := none }, { dst := none, op := AOp.store 4 (Opd.t 2) (Opd.t 37), guard := none }, { dst := some 3, op := AOp.mv (Opd.t 39), guard := none }]).seq ACode.ret))) ACode.skip)).seq (((ACode.region [{ dst := some 40, op := AOp.mv (Opd.t 0), guard := none }, { dst := some 41, op := AOp.mv (Opd.t 5), guard := none }, { dst := some 42, op := AOp.bin (Bin.plain BinOp.add) (Opd.t 41) (Opd.c (AV.p (PV.int IntKind.i64 (1)))), guard := none }, { dst := some 43, op := AOp.atStr (Opd.t 40) (Opd.t 42), guard := none }, { dst := some 44, op := AOp.bin (Bin.plain BinOp.neq) (Opd.t 43) (Opd.c (AV.p (PV.int IntKind.u8 (255)))), guard := none }]).seq (ACode.cond (Opd.t 44) ((ACode.region [{ dst := some 45, op := AOp.build [AV.p (PV.int IntKind.i64 (0)), AV.p (PV.int IntKind.i64 (0)), AV.p (PV.str []), AV.p (PV.bool false)] [], guard := none }, { dst := none, op := AOp.store 4 (Opd.t 2) (Opd.t 45), guard := none }, { dst := some 3, op := AOp.mv (Opd.c (AV.p (PV.int IntKind.i64 (0)))), guard := none }]).seq ACode.ret) ACode.skip)).seq ((ACode.region [{ dst := some 46, op := AOp.mv (Opd.t 4), guard := none }, { dst := some 47, op := AOp.buildSlice [AV.p (PV.int IntKind.u8 (0))] 1 1 [(0, 1, Opd.c (AV.p (PV.int IntKind.u8 (0))))], guard := none }, { dst := some 48, op := AOp.append 5 1 [AV.p (PV.int IntKind.u8 (0))] (Opd.t 46) (Opd.t 47), guard := none }, { dst := some 4, op := AOp.mv (Opd.t 48), guard := none }]).seq (ACode.region [{ dst := some 49, op := AOp.mv (Opd.t 5), guard := none }, { dst := some 50, op := AOp.bin (Bin.plain BinOp.add) (Opd.t 49) (Opd.c (AV.p (PV.int IntKind.i64 (1)))), guard := none }, { dst := some 5, op := AOp.mv (Opd.t 50), guard := none }])))))).seq (ACode.region [{ dst := some 12, op := AOp.mv (Opd.t 5), guard := none }, { dst := some 13, op := AOp.bin (Bin.plain BinOp.add) (Opd.t 12) (Opd.c (AV.p (PV.int IntKind.i64 (1)))), guard := none }, { dst := some 5, op := AOp.mv (Opd.t 13), guard := none }])))))).seq ((ACode.region [{ dst := some 51, op := AOp.build [AV.p (PV.int IntKind.i64 (0)), AV.p (PV.int IntKind.i64 (0)), AV.p (PV.str []), AV.p (PV.bool false)] [], guard := none }, { dst := none, op := AOp.store 4 (Opd.t 2) (Opd.t 51), guard := none }, { dst := some 3, op := AOp.mv (Opd.c (AV.p (PV.int IntKind.i64 (0)))), guard := none }]).seq ACode.ret))) }
def body42 : ACode := (((ACode.region [{ dst := some 7, op := AOp.mv (Opd.t 5), guard := none }, { dst := some 8, op := AOp.bin (Bin.plain BinOp.add) (Opd.t 7) (Opd.c (AV.p (PV.int IntKind.i64 (1)))), guard := none }, { dst := some 9, op := AOp.mv (Opd.t 0), guard := none }, { dst := some 10, op := AOp.len true (Opd.t 9), guard := none }, { dst := some 11, op := AOp.bin (Bin.plain BinOp.lss) (Opd.t 8) (Opd.t 10), guard := none }]).seq (ACode.cond (Opd.t 11) ACode.skip (ACode.exit 0))).seq ((ACode.block 1 (((ACode.region [{ dst := some 14, op := AOp.mv (Opd.t 0), guard := none }, { dst := some 15, op := AOp.mv (Opd.t 5), guard := none }, { dst := some 16, op := AOp.atStr (Opd.t 14) (Opd.t 15), guard := none }, { dst := some 17, op := AOp.bin (Bin.plain BinOp.neq) (Opd.t 16) (Opd.c (AV.p (PV.int IntKind.u8 (0)))), guard := none }]).seq (ACode.cond (Opd.t 17) ((ACode.region [{ dst := some 18, op := AOp.mv (Opd.t 4), guard := none }, { dst := some 19, op := AOp.mv (Opd.t 0), guard := none }, { dst := some 20, op := AOp.mv (Opd.t 5), guard := none }, { dst := some 21, op := AOp.atStr (Opd.t 19) (Opd.t 20), guard := none }, { dst := some 22, op := AOp.buildSlice [AV.p (PV.int IntKind.u8 (0))] 1 1 [(0, 1, Opd.t 21)], guard := none }, { dst := some 23, op := AOp.append 5 1 [AV.p (PV.int IntKind.u8 (0))] (Opd.t 18) (Opd.t 22), guard := none }, { dst := some 4, op := AOp.mv (Opd.t 23), guard := none }]).seq (ACode.exit 1)) ACode.skip)).seq (((ACode.region [{ dst := some 24, op := AOp.mv (Opd.t 0), guard := none }, { dst := some 25, op := AOp.mv (Opd.t 5), guard := none }, { dst := some 26, op := AOp.bin (Bin.plain BinOp.add) (Opd.t 25) (Opd.c (AV.p (PV.int IntKind.i64 (1)))), guard := none }, { dst := some 27, op := AOp.atStr (Opd.t 24) (Opd.t 26), guard := none }, { dst := some 28, op := AOp.bin (Bin.plain BinOp.eql) (Opd.t 27) (Opd.c (AV.p (PV.int IntKind.u8 (0)))), guard := none }]).seq (ACode.cond (Opd.t 28) ((ACode.region [{ dst := some 29, op := AOp.mv (Opd.t 4), guard := none }, { dst := some 30, op := AOp.bytesStr (Opd.t 29), guard := none }, { dst := some 6, op := AOp.mv (Opd.t 30), guard := none }]).seq (((ACode.region [{ dst := some 31, op := AOp.mv (Opd.t 6), guard := none }, { dst := some 32, op := AOp.mv (Opd.t 6), guard := none }, { dst := some 33, op := AOp.call (Opd.c (AV.p (PV.fn 36))) [Opd.t 32], guard := none }, { dst := some 34, op := AOp.bin (Bin.plain BinOp.neq) (Opd.t 31) (Opd.t 33), guard := none }]).seq (ACode.cond (Opd.t 34) ((ACode.region [{ dst := some 35, op := AOp.build [AV.p (PV.int IntKind.i64 (0)), AV.p (PV.int IntKind.i64 (0)), AV.p (PV.str []), AV.p (PV.bool false)] [], guard := none }, { dst := none, op := AOp.store 4 (Opd.t 2) (Opd.t 35), guard := none }, { dst := some 3, op := AOp.mv (Opd.c (AV.p (PV.int IntKind.i64 (0)))), guard := none }]).seq ACode.ret) ACode.skip)).seq ((ACode.region [{ dst := some 36, op := AOp.mv (Opd.t 6), guard := none }, { dst := some 37, op := AOp.call (Opd.c (AV.p (PV.fn 21))) [Opd.t 36], guard := none }, { dst := some 38, op := AOp.mv (Opd.t 5), guard := none }, { dst := some 39, op := AOp.bin (Bin.plain BinOp.add) (Opd.t 38) (Opd.c (AV.p (PV.int IntKind.i64 (2)))), guard := none }, { dst := none, op := AOp.store 4 (Opd.t 2) (Opd.t 37), guard := none }, { dst := some 3, op := AOp.mv (Opd.t 39), guard := none }]).seq ACode.ret))) ACode.skip)).seq (((ACode.region [{ dst := some 40, op := AOp.mv (Opd.t 0), guard := none }, { dst := some 41, op := AOp.mv (Opd.t 5), guard := none }, { dst := some 42, op := AOp.bin (Bin.plain BinOp.add) (Opd.t 41) (Opd.c (AV.p (PV.int IntKind.i64 (1)))), guard := none }, { dst := some 43, op := AOp.atStr (Opd.t 40) (Opd.t 42), guard := none }, { dst := some 44, op := AOp.bin (Bin.plain BinOp.neq) (Opd.t 43) (Opd.c (AV.p (PV.int IntKind.u8 (255)))), guard := none }]).seq (ACode.cond (Opd.t 44) ((ACode.region [{ dst := some 45, op := AOp.build [AV.p (PV.int IntKind.i64 (0)), AV.p (PV.int IntKind.i64 (0)), AV.p (PV.str []), AV.p (PV.bool false)] [], guard := none }, { dst := none, op := AOp.store 4 (Opd.t 2) (Opd.t 45), guard := none }, { dst := some 3, op := AOp.mv (Opd.c (AV.p (PV.int IntKind.i64 (0)))), guard := none }]).seq ACode.ret) ACode.skip)).seq ((ACode.region [{ dst := some 46, op := AOp.mv (Opd.t 4), guard := none }, { dst := some 47, op := AOp.buildSlice [AV.p (PV.int IntKind.u8 (0))] 1 1 [(0, 1, Opd.c (AV.p (PV.int IntKind.u8 (0))))], guard := none }, { dst := some 48, op := AOp.append 5 1 [AV.p (PV.int IntKind.u8 (0))] (Opd.t 46) (Opd.t 47), guard := none }, { dst := some 4, op := AOp.mv (Opd.t 48), guard := none }]).seq (ACode.region [{ dst := some 49, op := AOp.mv (Opd.t 5), guard := none }, { dst := some 50, op := AOp.bin (Bin.plain BinOp.add) (Opd.t 49) (Opd.c (AV.p (PV.int IntKind.i64 (1)))), guard := none }, { dst := some 5, op := AOp.mv (Opd.t 50), guard := none }])))))).seq (ACode.region [{ dst := some 12, op := AOp.mv (Opd.t 5), guard := none }, { dst := some 13, op := AOp.bin (Bin.plain BinOp.add) (Opd.t 12) (Opd.c (AV.p (PV.int IntKind.i64 (1)))), guard := none }, { dst := some 5, op := AOp.mv (Opd.t 13), guard := none }])))
theorem lit42_eq : lit42.body = (ACode.region [{ dst := some 2, op := AOp.alloc 39 [AV.p (PV.int IntKind.i64 (0)), AV.p (PV.int IntKind.i64 (0)), AV.p (PV.str []), AV.p (PV.bool false)], guard := none }, { dst := some 3, op := AOp.mv (Opd.c (AV.p (PV.int IntKind.i64 (0)))), guard := none }]).seq ((ACode.region [{ dst := some 4, op := AOp.mv (Opd.c AV.nil0), guard := none }]).seq (((ACode.region [{ dst := some 5, op := AOp.mv (Opd.c (AV.p (PV.int IntKind.i64 (1)))), guard := none }]).seq (ACode.block 0 (ACode.loop none body42))).seq ((ACode.region [{ dst := some 51, op := AOp.build [AV.p (PV.int IntKind.i64 (0)), AV.p (PV.int IntKind.i64 (0)), AV.p (PV.str []), AV.p (PV.bool false)] [], guard := none }, { dst := none, op := AOp.store 4 (Opd.t 2) (Opd.t 51), guard := none }, { dst := some 3, op := AOp.mv (Opd.c (AV.p (PV.int IntKind.i64 (0)))), guard := none }]).seq ACode.ret))) := rfl
theorem ends_ne {l : List UInt8} (h : endsB l = true) : (l == trimB l) = false := by
  rw [beq_eq_false_iff_ne]
  intro e
  rw [e, ends_trim] at h
  cases h
section
variable (C : Oracle) (L : Nat) (s : List UInt8) (ρ : Env) (σ : Heap) (b : AV) (acc : List UInt8) (i : Nat)
/-- the loop's state -/
structure At42 (ρ : Env) (σ : Heap) (b : AV) (acc : List UInt8) (i : Nat) : Prop where
  t0 : ρ.get 0 = some (.p (.str s))
  t2 : ρ.get 2 = some (.ptr 0 0 0)
  t4 : ρ.get 4 = some b
  t5 : ρ.get 5 = some (.p (.int .i64 (i : Int)))
  buf : BBuf σ b acc
  nb : NB b 0
  box : σ[0]? = some cell39
theorem stop42 (h : At42 s ρ σ b acc i) (hi : ¬ i + 1 < s.length) (hm : i ≤ 16777216) : ∃ ρ', exec C L body42 ⟨ρ, [], σ⟩ = some (.exit 0, ⟨ρ', [], σ⟩) ∧ ρ'.get 2 = some (.ptr 0 0 0) := by
  have e1 : IntKind.i64.wrap ((i : Int) + 1) = (i : Int) + 1 := wrap_id _ (by omega) (by omega)
  have hi' : ¬ (i : Int) + 1 < (s.length : Int) := by omega
  exact ⟨_, by simp [body42, exec, runOps, wantedA, stepOp, pureOp, allocOp, readOp, effOp, ev, evs, evO, Env.get_cons, putE, binA, intBin, unA, AV.fit, AV.toCells, partC, partP, mkCells, allP, mkAgg, Cells.len, target, lenA, h.t0, h.t5, e1, hi']; rfl, by simp [Env.get_cons, h.t2]⟩
theorem go42_c (h : At42 s ρ σ b acc i) (hi : i + 1 < s.length) (hm : i ≤ 16777216) (c : UInt8) (hc : s[i]? = some c) (h0 : c ≠ 0) (hl : acc.length + 1 ≤ LIM) :
    ∃ ρ' σ' b', exec C L body42 ⟨ρ, [], σ⟩ = some (.normal, ⟨ρ', [], σ'⟩) ∧ At42 s ρ' σ' b' (acc ++ [c]) (i + 1) := by
  have e1 : IntKind.i64.wrap ((i : Int) + 1) = (i : Int) + 1 := wrap_id _ (by omega) (by omega)
  have hi' : (i : Int) + 1 < (s.length : Int) := by omega
  have d0 : ((c.toNat : Int) != 0) = true := by
    have : ((c.toNat : Int) == 0) = false := byte_ne h0
    rw [bne, this]
    rfl
  have hz : 0 < σ.length := (List.getElem?_eq_some_iff.1 h.box).1
  obtain ⟨b2, σ2, hA, hb2, hf, _⟩ := app_buf (h.buf.grow [.arr (.pv (bp [c])) 0 0 none]) [c] (by simpa using hl) (by simp)
  obtain ⟨f1, f2⟩ := hf 0 (by simp) h.nb
  simp only [bp, List.map_cons, List.map_nil, List.length_cons, List.length_nil, Nat.zero_add] at hA
  rw [List.getElem?_append_left hz, h.box] at f1
  exact ⟨_, σ2, b2, by simp [body42, exec, runOps, wantedA, stepOp, pureOp, allocOp, readOp, effOp, ev, evs, evO, Env.get_cons, putE, binA, intBin, unA, AV.fit, AV.toCells, partC, partP, mkCells, allP, mkAgg, Cells.len, target, evParts, fillA, AV.cells, splice, spliceC, finA, leaveA, resA, resV, ansV, repCells, elemsA, takeC, dropC, lenA, atStrA, h.t0, h.t4, h.t5, e1, hi', ↓hc, d0, hA]; rfl, ⟨by simp [Env.get_cons, h.t0], by simp [Env.get_cons, h.t2], by simp [Env.get_cons], by simp [Env.get_cons], hb2, f2, f1⟩⟩
theorem go42_zf (h : At42 s ρ σ b acc i) (hi : i + 1 < s.length) (hm : i ≤ 16777216) (hc : s[i]? = some 0) (hd : s[i + 1]? = some 255) (hl : acc.length + 1 ≤ LIM) :
    ∃ ρ' σ' b', exec C L body42 ⟨ρ, [], σ⟩ = some (.normal, ⟨ρ', [], σ'⟩) ∧ At42 s ρ' σ' b' (acc ++ [0]) (i + 2) := by
  have e1 : IntKind.i64.wrap ((i : Int) + 1) = (i : Int) + 1 := wrap_id _ (by omega) (by omega)
  have e2 : IntKind.i64.wrap ((i : Int) + 1 + 1) = ((i + 2 : Nat) : Int) := by rw [wrap_id _ (by omega) (by omega)]; omega
  have hi' : (i : Int) + 1 < (s.length : Int) := by omega
  have h1 : (0 : Int) ≤ (i : Int) + 1 := by omega
  have h4 : ((i : Int) + 1).toNat = i + 1 := by omega
  have hz : 0 < σ.length := (List.getElem?_eq_some_iff.1 h.box).1
  obtain ⟨b2, σ2, hA, hb2, hf, _⟩ := app_buf (h.buf.grow [.arr (.pv (bp [0])) 0 0 none]) [0] (by simpa using hl) (by simp)
  obtain ⟨f1, f2⟩ := hf 0 (by simp) h.nb
  simp [bp] at hA
  rw [List.getElem?_append_left hz, h.box] at f1
  exact ⟨_, σ2, b2, by simp [body42, exec, runOps, wantedA, stepOp, pureOp, allocOp, readOp, effOp, ev, evs, evO, Env.get_cons, putE, binA, intBin, unA, AV.fit, AV.toCells, partC, partP, mkCells, allP, mkAgg, Cells.len, target, evParts, fillA, AV.cells, splice, spliceC, finA, leaveA, resA, resV, ansV, repCells, elemsA, takeC, dropC, lenA, atStrA, h.t0, h.t4, h.t5, e1, e2, hi', h1, h4, ↓hc, ↓hd, hA]; rfl, ⟨by simp [Env.get_cons, h.t0], by simp [Env.get_cons, h.t2], by simp [Env.get_cons], by simp [Env.get_cons], hb2, f2, f1⟩⟩
/-- an answer -/
def Ret42 (cs : List PV) (k : Int) (ex : AExit) (st : St) : Prop := st.defers = [] ∧ ex = .ret ∧ st.env.get 2 = some (.ptr 0 0 0) ∧ st.env.get 3 = some (.p (.int .i64 k)) ∧ st.heap[0]? = some (.arr (.pv cs) 0 0 (some 39))
theorem go42_zx (h : At42 s ρ σ b acc i) (hi : i + 1 < s.length) (hm : i ≤ 16777216) (hc : s[i]? = some 0) (d : UInt8) (hd : s[i + 1]? = some d) (d0 : d ≠ 0) (d255 : d ≠ 255) :
    ∃ ex st, exec C L body42 ⟨ρ, [], σ⟩ = some (ex, st) ∧ Ret42 (vc .null) 0 ex st := by
  have e1 : IntKind.i64.wrap ((i : Int) + 1) = (i : Int) + 1 := wrap_id _ (by omega) (by omega)
  have hi' : (i : Int) + 1 < (s.length : Int) := by omega
  have h1 : (0 : Int) ≤ (i : Int) + 1 := by omega
  have h4 : ((i : Int) + 1).toNat = i + 1 := by omega
  have hz : 0 < σ.length := (List.getElem?_eq_some_iff.1 h.box).1
  have g0 : ((d.toNat : Int) == 0) = false := byte_ne d0
  have g1 : ((d.toNat : Int) != 255) = true := by
    have : ((d.toNat : Int) == 255) = false := byte_ne d255
    rw [bne, this]
    rfl
  have hbx := h.box
  simp only [cell39, vc] at hbx
  exact ⟨_, _, by simp [body42, exec, runOps, wantedA, stepOp, pureOp, allocOp, readOp, effOp, ev, evs, evO, Env.get_cons, putE, binA, intBin, unA, AV.fit, AV.toCells, partC, partP, mkCells, allP, mkAgg, Cells.len, target, evParts, fillA, AV.cells, splice, spliceC, finA, leaveA, resA, resV, ansV, lenA, atStrA, h.t0, h.t2, h.t4, h.t5, e1, hi', h1, h4, ↓hc, ↓hd, g0, g1, ↓hbx]; rfl, rfl, rfl, by simp [Env.get_cons, h.t2], by simp [Env.get_cons], by simp [hz, vc]⟩
theorem go42_ze (h : At42 s ρ σ b acc i) (hi : i + 1 < s.length) (hm : i ≤ 16777216) (hc : s[i]? = some 0) (hd : s[i + 1]? = some 0) (he : endsB acc = true) (hC : ∀ σ, C 36 [.p (.str acc)] σ = some (.ret (.p (.str (trimB acc))), σ)) :
    ∃ ex st, exec C L body42 ⟨ρ, [], σ⟩ = some (ex, st) ∧ Ret42 (vc .null) 0 ex st := by
  have e1 : IntKind.i64.wrap ((i : Int) + 1) = (i : Int) + 1 := wrap_id _ (by omega) (by omega)
  have hi' : (i : Int) + 1 < (s.length : Int) := by omega
  have h1 : (0 : Int) ≤ (i : Int) + 1 := by omega
  have h4 : ((i : Int) + 1).toNat = i + 1 := by omega
  have hz : 0 < σ.length := (List.getElem?_eq_some_iff.1 h.box).1
  have hne := ends_ne he
  have hbx := h.box
  simp only [cell39, vc] at hbx
  have t4 := h.t4
  rcases h.buf with ⟨rfl, rfl⟩ | ⟨hn0, id, ver, rfl, ho⟩
  · simp [endsB] at he
  · have hb := bytes_bp acc
    have ht : (bp acc).take acc.length = bp acc := List.take_of_length_le (by rw [bp_len]; exact Nat.le_refl _)
    exact ⟨_, _, by simp [body42, exec, runOps, wantedA, stepOp, pureOp, allocOp, readOp, effOp, ev, evs, evO, Env.get_cons, putE, binA, intBin, unA, AV.fit, AV.toCells, partC, partP, mkCells, allP, mkAgg, Cells.len, target, evParts, fillA, AV.cells, splice, spliceC, finA, leaveA, resA, resV, ansV, lenA, atStrA, elemsA, takeC, dropC, strBin, h.t0, h.t2, t4, h.t5, e1, hi', h1, h4, ↓hc, ↓hd, ho, bp_len, ht, hb, hC, hne, ↓hbx]; rfl, rfl, rfl, by simp [Env.get_cons, h.t2], by simp [Env.get_cons], by simp [hz, vc]⟩
theorem go42_zz (h : At42 s ρ σ b acc i) (hi : i + 1 < s.length) (hm : i ≤ 16777216) (hc : s[i]? = some 0) (hd : s[i + 1]? = some 0) (he : endsB acc = false) (hC : ∀ σ, C 36 [.p (.str acc)] σ = some (.ret (.p (.str (trimB acc))), σ)) (hC2 : ∀ σ, C 21 [.p (.str acc)] σ = some (.ret (.p (.agg (vc (.text acc)))), σ)) :
    ∃ ex st, exec C L body42 ⟨ρ, [], σ⟩ = some (ex, st) ∧ Ret42 (vc (.text acc)) (i + 2 : Int) ex st := by
  have e1 : IntKind.i64.wrap ((i : Int) + 1) = (i : Int) + 1 := wrap_id _ (by omega) (by omega)
  have e2 : IntKind.i64.wrap ((i : Int) + 2) = (i : Int) + 2 := wrap_id _ (by omega) (by omega)
  have hi' : (i : Int) + 1 < (s.length : Int) := by omega
  have h1 : (0 : Int) ≤ (i : Int) + 1 := by omega
  have h4 : ((i : Int) + 1).toNat = i + 1 := by omega
  have hz : 0 < σ.length := (List.getElem?_eq_some_iff.1 h.box).1
  rw [trim_same acc he] at hC
  have hbx := h.box
  simp only [cell39, vc] at hbx hC2
  have t4 := h.t4
  rcases h.buf with ⟨rfl, rfl⟩ | ⟨hn0, id, ver, rfl, ho⟩
  · exact ⟨_, _, by simp [body42, exec, runOps, wantedA, stepOp, pureOp, allocOp, readOp, effOp, ev, evs, evO, Env.get_cons, putE, binA, intBin, unA, AV.fit, AV.toCells, partC, partP, mkCells, allP, mkAgg, Cells.len, target, evParts, fillA, AV.cells, splice, spliceC, finA, leaveA, resA, resV, ansV, lenA, atStrA, elemsA, takeC, dropC, strBin, bytesOfP, h.t0, h.t2, t4, h.t5, e1, e2, hi', h1, h4, ↓hc, ↓hd, hC, hC2, ↓hbx]; rfl, rfl, rfl, by simp [Env.get_cons, h.t2], by simp [Env.get_cons], by simp [hz, vc]⟩
  · have hb := bytes_bp acc
    have ht : (bp acc).take acc.length = bp acc := List.take_of_length_le (by rw [bp_len]; exact Nat.le_refl _)
    exact ⟨_, _, by simp [body42, exec, runOps, wantedA, stepOp, pureOp, allocOp, readOp, effOp, ev, evs, evO, Env.get_cons, putE, binA, intBin, unA, AV.fit, AV.toCells, partC, partP, mkCells, allP, mkAgg, Cells.len, target, evParts, fillA, AV.cells, splice, spliceC, finA, leaveA, resA, resV, ansV, lenA, atStrA, elemsA, takeC, dropC, strBin, h.t0, h.t2, t4, h.t5, e1, e2, hi', h1, h4, ↓hc, ↓hd, ho, bp_len, ht, hb, hC, hC2, ↓hbx]; rfl, rfl, rfl, by simp [Env.get_cons, h.t2], by simp [Env.get_cons], by simp [hz, vc]⟩
end
/-- the first value of a text's code: its cells, and how long its code is -/
def res42 (s : List UInt8) (x : CRes × List UInt8) : List PV × Int := match txtOf x.1 with
  | some t => (vc (.text t), (s.length : Int) - (x.2.length : Int))
  | none => (vc .null, 0)
/-- how the loop ends -/
def End42 (s : List UInt8) (x : CRes × List UInt8) (ex : AExit) (st : St) : Prop := Ret42 (res42 s x).1 (res42 s x).2 ex st ∨ (txtOf x.1 = none ∧ ex = .exit 0 ∧ st.defers = [] ∧ st.env.get 2 = some (.ptr 0 0 0) ∧ st.heap[0]? = some cell39)
theorem loop42 (C : Oracle) (L : Nat) (s : List UInt8) (hm : s.length ≤ 16777216) (hC : ∀ l : List UInt8, l.length ≤ 16777216 → ∀ σ, C 36 [.p (.str l)] σ = some (.ret (.p (.str (trimB l))), σ)) (hC2 : ∀ l σ, C 21 [.p (.str l)] σ = some (.ret (.p (.agg (vc (.text l)))), σ)) :
    ∀ (f i : Nat) (ρ : Env) (σ : Heap) (b : AV) (acc : List UInt8), s.length - i < f → i ≤ s.length → At42 s ρ σ b acc i → acc.length ≤ i →
    ∃ ex st, iter (exec C L body42) none f ⟨ρ, [], σ⟩ = some (ex, st) ∧ End42 s (words (s.drop i) acc) ex st
  | 0, i, ρ, σ, b, acc, hf, _, _, _ => absurd hf (by omega)
  | f + 1, i, ρ, σ, b, acc, hf, hi, h, ha => by
    have hLm : LIM = 4294967296 := rfl
    have fin : ∀ {ex : AExit} {st : St}, exec C L body42 ⟨ρ, [], σ⟩ = some (ex, st) → ex ≠ .normal → iter (exec C L body42) none (f + 1) ⟨ρ, [], σ⟩ = some (ex, st) := fun {ex st} e hne => by
      simp only [iter, St.keep, e]
      split
      · rename_i st' he
        cases he
        exact absurd rfl hne
      · rfl
    by_cases hi1 : i + 1 < s.length
    · have hi0 : i < s.length := by omega
      have hdr : s.drop i = s[i] :: s[i + 1] :: s.drop (i + 2) := by
        rw [List.drop_eq_getElem_cons hi0, List.drop_eq_getElem_cons hi1]
      have hdr1 : s.drop (i + 1) = s[i + 1] :: s.drop (i + 2) := List.drop_eq_getElem_cons hi1
      have hc : s[i]? = some s[i] := List.getElem?_eq_getElem hi0
      have hd : s[i + 1]? = some s[i + 1] := List.getElem?_eq_getElem hi1
      generalize s[i] = c at *
      generalize s[i + 1] = d at *
      rw [hdr]
      by_cases c0 : c = 0
      · subst c0
        by_cases d0 : d = 0
        · subst d0
          cases he : endsB acc with
          | true =>
            obtain ⟨ex, st, e, q⟩ := go42_ze C L s ρ σ b acc i h hi1 (by omega) hc hd he (hC acc (by omega))
            refine ⟨ex, st, fin e (by rw [q.2.1]; simp), .inl ?_⟩
            simpa [words, he, res42, txtOf] using q
          | false =>
            obtain ⟨ex, st, e, q⟩ := go42_zz C L s ρ σ b acc i h hi1 (by omega) hc hd he (hC acc (by omega)) (hC2 acc)
            refine ⟨ex, st, fin e (by rw [q.2.1]; simp), .inl ?_⟩
            have hk : (s.length : Int) - ((s.length - (i + 2) : Nat) : Int) = (i + 2 : Int) := by omega
            simp only [words, he, res42, txtOf, vc, if_true, List.length_drop, hk]
            exact q
        · by_cases d255 : d = 255
          · subst d255
            obtain ⟨ρ1, σ1, b1, e, h1⟩ := go42_zf C L s ρ σ b acc i h hi1 (by omega) hc hd (by omega)
            obtain ⟨ex, st, e', q⟩ := loop42 C L s hm hC hC2 f (i + 2) ρ1 σ1 b1 _ (by omega) (by omega) h1 (by simp; omega)
            refine ⟨ex, st, by simp only [iter, St.keep, e]; exact e', ?_⟩
            rw [words, if_pos rfl, if_neg (by decide), if_pos rfl]
            exact q
          · obtain ⟨ex, st, e, q⟩ := go42_zx C L s ρ σ b acc i h hi1 (by omega) hc d hd d0 d255
            refine ⟨ex, st, fin e (by rw [q.2.1]; simp), .inl ?_⟩
            simpa [words, d0, d255, res42, txtOf] using q
      · obtain ⟨ρ1, σ1, b1, e, h1⟩ := go42_c C L s ρ σ b acc i h hi1 (by omega) c hc c0 (by omega)
        obtain ⟨ex, st, e', q⟩ := loop42 C L s hm hC hC2 f (i + 1) ρ1 σ1 b1 _ (by omega) (by omega) h1 (by simp; omega)
        refine ⟨ex, st, by simp only [iter, St.keep, e]; exact e', ?_⟩
        rw [words, if_neg c0, ← hdr1]
        exact q
    · obtain ⟨ρ', e, g2⟩ := stop42 C L s ρ σ b acc i h hi1 (by omega)
      refine ⟨_, _, fin e (by simp), .inr ⟨?_, rfl, rfl, g2, h.box⟩⟩
      have hlen : (s.drop i).length ≤ 1 := by simp; omega
      match hh : s.drop i, hlen with
      | [], _ => rfl
      | [c], _ => simp [words, txtOf]
      | _ :: _ :: _, hl => simp at hl
section
variable (m : Int) (L n : Nat)
theorem q42 : TE (G 0 m) 42 = some (.code lit42 true) := by kernel_rfl
theorem text42 (s : List UInt8) (h1 : 1 ≤ s.length) (hm : s.length ≤ 16777216) (hL : s.length < L) (hL2 : 16777216 < L) (σ : Heap) :
    (cAt (TE (G 0 m)) L (n + 2)).1 42 [.p (.str s)] σ = some (.ret (.p (.tup [.agg (res42 s (words (s.drop 1) [])).1, .int .i64 (res42 s (words (s.drop 1) [])).2])), σ) := by
  refine call_ans (ps := [.str s]) (n := n + 1) (q42 m) rfl ?_ σ
  have hC : ∀ l : List UInt8, l.length ≤ 16777216 → ∀ σ, (cAt (TE (G 0 m)) L (n + 1)).1 36 [.p (.str l)] σ = some (.ret (.p (.str (trimB l))), σ) := fun l hl σ => words36 m L n l (by omega) (by omega) σ
  have hC2 : ∀ l σ, (cAt (TE (G 0 m)) L (n + 1)).1 21 [.p (.str l)] σ = some (.ret (.p (.agg (vc (.text l)))), σ) := fun l σ => text21 m L n l σ
  generalize (cAt (TE (G 0 m)) L (n + 1)).1 = C at *
  generalize (cAt (TE (G 0 m)) L (n + 1)).2 = D
  obtain ⟨ex, st, e, q⟩ := loop42 C L s hm hC hC2 L 1 [(5, .p (.int .i64 1)), (4, .nil0), (3, .p (.int .i64 0)), (2, .ptr 0 0 0), (0, .p (.str s))] [cell39] .nil0 [] (by omega) h1 ⟨rfl, rfl, rfl, rfl, .inl ⟨rfl, rfl⟩, NB_nil 0, rfl⟩ (by simp)
  have hv4 : (res42 s (words (s.drop 1) [])).1.length = 4 := by unfold res42; split <;> rfl
  have ht : (res42 s (words (s.drop 1) [])).1.take 4 = (res42 s (words (s.drop 1) [])).1 := List.take_of_length_le (by omega)
  rw [runFunc_eq, lit42_eq]
  rw [seqN (a := .region _) (by simp [params, exec, runOps, wantedA, stepOp, pureOp, allocOp, readOp, effOp, ev, evs, evO, Env.get_cons, putE, binA, intBin, unA, AV.fit, AV.toCells, partC, partP, mkCells, allP, mkAgg, Cells.len, target]; rfl), seqN (a := .region _) (by simp [exec, runOps, wantedA, stepOp, pureOp, allocOp, readOp, effOp, ev, evs, evO, Env.get_cons, putE, binA, intBin, unA, AV.fit, AV.toCells, partC, partP, mkCells, allP, mkAgg, Cells.len, target]; rfl)]
  have e0 : exec C L (.region [{ dst := some 5, op := AOp.mv (Opd.c (AV.p (PV.int IntKind.i64 (1)))), guard := none }]) ⟨[(4, .nil0), (3, .p (.int .i64 0)), (2, .ptr 0 0 0), (0, .p (.str s))], [], [cell39]⟩ = some (.normal, ⟨[(5, .p (.int .i64 1)), (4, .nil0), (3, .p (.int .i64 0)), (2, .ptr 0 0 0), (0, .p (.str s))], [], [cell39]⟩) := rfl
  obtain ⟨ρ', ds, σ'⟩ := st
  rcases q with ⟨hd, hx, g2, g3, gb⟩ | ⟨hn, hx, hd, g2, gb⟩
  · simp only at hd g2 g3 gb
    subst hd hx
    have e3 : exec C L (.seq (.region [{ dst := some 5, op := AOp.mv (Opd.c (AV.p (PV.int IntKind.i64 (1)))), guard := none }]) (.block 0 (.loop none body42))) ⟨[(4, .nil0), (3, .p (.int .i64 0)), (2, .ptr 0 0 0), (0, .p (.str s))], [], [cell39]⟩ = some (.ret, ⟨ρ', [], σ'⟩) := by
      rw [seqN e0]
      simp only [exec, e]
    generalize res42 s (words (s.drop 1) []) = x at *
    refine (congrArg (fun z => ansV (finX D lit42 z)) (seqR e3)).trans ?_
    simp [finX, finA, leaveA, resA, lit42, g2, g3, gb, partC, partP, hv4, ht, resV, mkTup, allP, ansV]
  · simp only at hd g2 gb
    subst hd hx
    have hr : res42 s (words (s.drop 1) []) = (vc .null, 0) := by unfold res42; rw [hn]
    rw [hr]
    have e3 : exec C L (.seq (.region [{ dst := some 5, op := AOp.mv (Opd.c (AV.p (PV.int IntKind.i64 (1)))), guard := none }]) (.block 0 (.loop none body42))) ⟨[(4, .nil0), (3, .p (.int .i64 0)), (2, .ptr 0 0 0), (0, .p (.str s))], [], [cell39]⟩ = some (.normal, ⟨ρ', [], σ'⟩) := by
      rw [seqN e0]
      simp only [exec, e, if_true]
    refine (congrArg (fun z => ansV (finX D lit42 z)) (seqN e3)).trans ?_
    have hz : 0 < σ'.length := (List.getElem?_eq_some_iff.1 gb).1
    simp only [cell39, vc] at gb
    simp [lit42, exec, runOps, wantedA, stepOp, pureOp, allocOp, readOp, effOp, ev, evs, evO, Env.get_cons, putE, binA, intBin, unA, AV.fit, AV.toCells, partC, partP, mkCells, allP, mkAgg, Cells.len, target, evParts, fillA, AV.cells, splice, spliceC, finA, leaveA, resA, resV, ansV, finX, g2, ↓gb, hz, mkTup, vc]
end
end Go.Ab.Key

/- The laws of keys: the document's first value. -/
set_option maxRecDepth 1000000
namespace Go.Ab.Key
open Go Go.Ab Go.Proofs
theorem sub_num (w : Nat) (h : w < 18446744073709551616) : IntKind.i64.wrap (IntKind.u64.wrap ((w : Int) - 9223372036854775808)) = numOf w := by
  unfold numOf
  by_cases hw : w < 9223372036854775808
  · rw [wrap_u64_neg _ (by omega) (by omega)]
    simp only [IntKind.wrap, IntKind.bits, IntKind.signed]
    simp
    omega
  · rw [wrap_u64 _ (by omega) (by omega), wrap_id _ (by omega) (by omega)]
variable [Marks]
def lit26 : AFunc := { ntmps := 54, results := [ARes.cell 2 true 4, ARes.tmp 3], body := (ACode.region [{ dst := some 2, op := AOp.alloc 39 [AV.p (PV.int IntKind.i64 (0)), AV.p (PV.int IntKind.i64 (0)), AV.p (PV.str []), AV.p (PV.bool false)], guard := none }, { dst := some 3, op := AOp.mv (Opd.c (AV.p (PV.int IntKind.i64 (0)))), guard := none }]).seq (((ACode.region [{ dst := some 6, op := AOp.mv (Opd.t 0), guard := none }, { dst := some 7, op := AOp.atStr (Opd.t 6) (Opd.c (AV.p (PV.int IntKind.i64 (0)))), guard := none }]).seq (ACode.block 0 ((ACode.region [{ dst := some 9, op := AOp.bin (Bin.plain BinOp.eql) (Opd.t 7) (Opd.c (AV.p (PV.int IntKind.u8 (1)))), guard := none }, { dst := some 8, op := AOp.mv (Opd.t 9), guard := none }]).seq (ACode.cond (Opd.t 8) ((ACode.region [{ dst := some 10, op := AOp.build [AV.p (PV.int IntKind.i64 (0)), AV.p (PV.int IntKind.i64 (0)), AV.p (PV.str []), AV.p (PV.bool false)] [], guard := none }, { dst := none, op := AOp.store 4 (Opd.t 2) (Opd.t 10), guard := none }, { dst := some 3, op := AOp.mv (Opd.c (AV.p (PV.int IntKind.i64 (1)))), guard := none }]).seq ACode.ret) ((ACode.region [{ dst := some 12, op := AOp.bin (Bin.plain BinOp.eql) (Opd.t 7) (Opd.c (AV.p (PV.int IntKind.u8 (2)))), guard := none }, { dst := some 11, op := AOp.mv (Opd.t 12), guard := none }]).seq (ACode.cond (Opd.t 11) (((ACode.region [{ dst := some 13, op := AOp.mv (Opd.t 0), guard := none }, { dst := some 14, op := AOp.len true (Opd.t 13), guard := none }, { dst := some 15, op := AOp.bin (Bin.plain BinOp.lss) (Opd.t 14) (Opd.c (AV.p (PV.int IntKind.i64 (9)))), guard := none }]).seq (ACode.cond (Opd.t 15) ((ACode.region [{ dst := some 16, op := AOp.build [AV.p (PV.int IntKind.i64 (0)), AV.p (PV.int IntKind.i64 (0)), AV.p (PV.str []), AV.p (PV.bool false)] [], guard := none }, { dst := none, op := AOp.store 4 (Opd.t 2) (Opd.t 16), guard := none }, { dst := some 3, op := AOp.mv (Opd.c (AV.p (PV.int IntKind.i64 (0)))), guard := none }]).seq ACode.ret) ACode.skip)).seq ((ACode.region [{ dst := some 4, op := AOp.mv (Opd.c (AV.p (PV.int IntKind.u64 (0)))), guard := none }]).seq (((ACode.region [{ dst := some 5, op := AOp.mv (Opd.c (AV.p (PV.int IntKind.i64 (1)))), guard := none }]).seq (ACode.block 1 (ACode.loop none (((ACode.region [{ dst := some 17, op := AOp.mv (Opd.t 5), guard := none }, { dst := some 18, op := AOp.bin (Bin.plain BinOp.lss) (Opd.t 17) (Opd.c (AV.p (PV.int IntKind.i64 (9)))), guard := none }]).seq (ACode.cond (Opd.t 18) ACode.skip (ACode.exit 1))).seq ((ACode.block 2 (ACode.region [{ dst := some 21, op := AOp.mv (Opd.t 4), guard := none }, { dst := some 22, op := AOp.bin (Bin.plain BinOp.mul) (Opd.t 21) (Opd.c (AV.p (PV.int IntKind.u64 (256)))), guard := none }, { dst := some 23, op := AOp.mv (Opd.t 0), guard := none }, { dst := some 24, op := AOp.mv (Opd.t 5), guard := none }, { dst := some 25, op := AOp.atStr (Opd.t 23) (Opd.t 24), guard := none }, { dst := some 26, op := AOp.convInt IntKind.u64 (Opd.t 25), guard := none }, { dst := some 27, op := AOp.bin (Bin.plain BinOp.add) (Opd.t 22) (Opd.t 26), guard := none }, { dst := some 4, op := AOp.mv (Opd.t 27), guard := none }])).seq (ACode.region [{ dst := some 19, op := AOp.mv (Opd.t 5), guard := none }, { dst := some 20, op := AOp.bin (Bin.plain BinOp.add) (Opd.t 19) (Opd.c (AV.p (PV.int IntKind.i64 (1)))), guard := none }, { dst := some 5, op := AOp.mv (Opd.t 20), guard := none }])))))).seq ((ACode.region [{ dst := some 28, op := AOp.mv (Opd.t 4), guard := none }, { dst := some 29, op := AOp.bin (Bin.plain BinOp.sub) (Opd.t 28) (Opd.c (AV.p (PV.int IntKind.u64 (9223372036854775808)))), guard := none }, { dst := some 30, op := AOp.convInt IntKind.i64 (Opd.t 29), guard := none }, { dst := some 31, op := AOp.call (Opd.c (AV.p (PV.fn 29))) [Opd.t 30], guard := none }, { dst := none, op := AOp.store 4 (Opd.t 2) (Opd.t 31), guard := none }, { dst := some 3, op := AOp.mv (Opd.c (AV.p (PV.int IntKind.i64 (9)))), guard := none }]).seq ACode.ret)))) ((ACode.region [{ dst := some 33, op := AOp.bin (Bin.plain BinOp.eql) (Opd.t 7) (Opd.c (AV.p (PV.int IntKind.u8 (3)))), guard := none }, { dst := some 32, op := AOp.mv (Opd.t 33), guard := none }]).seq (ACode.cond (Opd.t 32) ((ACode.region [{ dst := some 34, op := AOp.mv (Opd.t 0), guard := none }, { dst := some 35, op := AOp.call (Opd.c (AV.p (PV.fn 42))) [Opd.t 34], guard := none }, { dst := some 36, op := AOp.extract 0 (Opd.t 35), guard := none }, { dst := some 37, op := AOp.extract 1 (Opd.t 35), guard := none }, { dst := none, op := AOp.store 4 (Opd.t 2) (Opd.t 36), guard := none }, { dst := some 3, op := AOp.mv (Opd.t 37), guard := none }]).seq ACode.ret) ((ACode.region [{ dst := some 39, op := AOp.bin (Bin.plain BinOp.eql) (Opd.t 7) (Opd.c (AV.p (PV.int IntKind.u8 (4)))), guard := none }, { dst := some 38, op := AOp.mv (Opd.t 39), guard := none }]).seq (ACode.cond (Opd.t 38) (((ACode.region [{ dst := some 40, op := AOp.mv (Opd.t 0), guard := none }, { dst := some 41, op := AOp.len true (Opd.t 40), guard := none }, { dst := some 42, op := AOp.bin (Bin.plain BinOp.lss) (Opd.t 41) (Opd.c (AV.p (PV.int IntKind.i64 (2)))), guard := none }, { dst := some 43, op := AOp.mv (Opd.t 42), guard := none }, { dst := some 44, op := AOp.mv (Opd.t 0), guard := some (43, false) }, { dst := some 45, op := AOp.atStr (Opd.t 44) (Opd.c (AV.p (PV.int IntKind.i64 (1)))), guard := some (43, false) }, { dst := some 46, op := AOp.bin (Bin.plain BinOp.gtr) (Opd.t 45) (Opd.c (AV.p (PV.int IntKind.u8 (1)))), guard := some (43, false) }, { dst := some 47, op := AOp.pick (Opd.t 43) (Opd.c (AV.p (PV.bool true))) (Opd.t 46), guard := none }]).seq (ACode.cond (Opd.t 47) ((ACode.region [{ dst := some 48, op := AOp.build [AV.p (PV.int IntKind.i64 (0)), AV.p (PV.int IntKind.i64 (0)), AV.p (PV.str []), AV.p (PV.bool false)] [], guard := none }, { dst := none, op := AOp.store 4 (Opd.t 2) (Opd.t 48), guard := none }, { dst := some 3, op := AOp.mv (Opd.c (AV.p (PV.int IntKind.i64 (0)))), guard := none }]).seq ACode.ret) ACode.skip)).seq ((ACode.region [{ dst := some 49, op := AOp.mv (Opd.t 0), guard := none }, { dst := some 50, op := AOp.atStr (Opd.t 49) (Opd.c (AV.p (PV.int IntKind.i64 (1)))), guard := none }, { dst := some 51, op := AOp.bin (Bin.plain BinOp.eql) (Opd.t 50) (Opd.c (AV.p (PV.int IntKind.u8 (1)))), guard := none }, { dst := some 52, op := AOp.build [AV.p (PV.int IntKind.i64 (0)), AV.p (PV.int IntKind.i64 (0)), AV.p (PV.str []), AV.p (PV.bool false)] [(0, 1, Opd.c (AV.p (PV.int IntKind.i64 (3)))), (3, 1, Opd.t 51)], guard := none }, { dst := none, op := AOp.store 4 (Opd.t 2) (Opd.t 52), guard := none }, { dst := some 3, op := AOp.mv (Opd.c (AV.p (PV.int IntKind.i64 (2)))), guard := none }]).seq ACode.ret)) ACode.skip)))))))))).seq ((ACode.region [{ dst := some 53, op := AOp.build [AV.p (PV.int IntKind.i64 (0)), AV.p (PV.int IntKind.i64 (0)), AV.p (PV.str []), AV.p (PV.bool false)] [], guard := none }, { dst := none, op := AOp.store 4 (Opd.t 2) (Opd.t 53), guard := none }, { dst := some 3, op := AOp.mv (Opd.c (AV.p (PV.int IntKind.i64 (0)))), guard := none }]).seq ACode.ret)) }
def body26 : ACode := (((ACode.region [{ dst := some 17, op := AOp.mv (Opd.t 5), guard := none }, { dst := some 18, op := AOp.bin (Bin.plain BinOp.lss) (Opd.t 17) (Opd.c (AV.p (PV.int IntKind.i64 (9)))), guard := none }]).seq (ACode.cond (Opd.t 18) ACode.skip (ACode.exit 1))).seq ((ACode.block 2 (ACode.region [{ dst := some 21, op := AOp.mv (Opd.t 4), guard := none }, { dst := some 22, op := AOp.bin (Bin.plain BinOp.mul) (Opd.t 21) (Opd.c (AV.p (PV.int IntKind.u64 (256)))), guard := none }, { dst := some 23, op := AOp.mv (Opd.t 0), guard := none }, { dst := some 24, op := AOp.mv (Opd.t 5), guard := none }, { dst := some 25, op := AOp.atStr (Opd.t 23) (Opd.t 24), guard := none }, { dst := some 26, op := AOp.convInt IntKind.u64 (Opd.t 25), guard := none }, { dst := some 27, op := AOp.bin (Bin.plain BinOp.add) (Opd.t 22) (Opd.t 26), guard := none }, { dst := some 4, op := AOp.mv (Opd.t 27), guard := none }])).seq (ACode.region [{ dst := some 19, op := AOp.mv (Opd.t 5), guard := none }, { dst := some 20, op := AOp.bin (Bin.plain BinOp.add) (Opd.t 19) (Opd.c (AV.p (PV.int IntKind.i64 (1)))), guard := none }, { dst := some 5, op := AOp.mv (Opd.t 20), guard := none }])))
theorem lit26_eq : lit26.body = (ACode.region [{ dst := some 2, op := AOp.alloc 39 [AV.p (PV.int IntKind.i64 (0)), AV.p (PV.int IntKind.i64 (0)), AV.p (PV.str []), AV.p (PV.bool false)], guard := none }, { dst := some 3, op := AOp.mv (Opd.c (AV.p (PV.int IntKind.i64 (0)))), guard := none }]).seq (((ACode.region [{ dst := some 6, op := AOp.mv (Opd.t 0), guard := none }, { dst := some 7, op := AOp.atStr (Opd.t 6) (Opd.c (AV.p (PV.int IntKind.i64 (0)))), guard := none }]).seq (ACode.block 0 ((ACode.region [{ dst := some 9, op := AOp.bin (Bin.plain BinOp.eql) (Opd.t 7) (Opd.c (AV.p (PV.int IntKind.u8 (1)))), guard := none }, { dst := some 8, op := AOp.mv (Opd.t 9), guard := none }]).seq (ACode.cond (Opd.t 8) ((ACode.region [{ dst := some 10, op := AOp.build [AV.p (PV.int IntKind.i64 (0)), AV.p (PV.int IntKind.i64 (0)), AV.p (PV.str []), AV.p (PV.bool false)] [], guard := none }, { dst := none, op := AOp.store 4 (Opd.t 2) (Opd.t 10), guard := none }, { dst := some 3, op := AOp.mv (Opd.c (AV.p (PV.int IntKind.i64 (1)))), guard := none }]).seq ACode.ret) ((ACode.region [{ dst := some 12, op := AOp.bin (Bin.plain BinOp.eql) (Opd.t 7) (Opd.c (AV.p (PV.int IntKind.u8 (2)))), guard := none }, { dst := some 11, op := AOp.mv (Opd.t 12), guard := none }]).seq (ACode.cond (Opd.t 11) (((ACode.region [{ dst := some 13, op := AOp.mv (Opd.t 0), guard := none }, { dst := some 14, op := AOp.len true (Opd.t 13), guard := none }, { dst := some 15, op := AOp.bin (Bin.plain BinOp.lss) (Opd.t 14) (Opd.c (AV.p (PV.int IntKind.i64 (9)))), guard := none }]).seq (ACode.cond (Opd.t 15) ((ACode.region [{ dst := some 16, op := AOp.build [AV.p (PV.int IntKind.i64 (0)), AV.p (PV.int IntKind.i64 (0)), AV.p (PV.str []), AV.p (PV.bool false)] [], guard := none }, { dst := none, op := AOp.store 4 (Opd.t 2) (Opd.t 16), guard := none }, { dst := some 3, op := AOp.mv (Opd.c (AV.p (PV.int IntKind.i64 (0)))), guard := none }]).seq ACode.ret) ACode.skip)).seq ((ACode.region [{ dst := some 4, op := AOp.mv (Opd.c (AV.p (PV.int IntKind.u64 (0)))), guard := none }]).seq (((ACode.region [{ dst := some 5, op := AOp.mv (Opd.c (AV.p (PV.int IntKind.i64 (1)))), guard := none }]).seq (ACode.block 1 (ACode.loop none body26))).seq ((ACode.region [{ dst := some 28, op := AOp.mv (Opd.t 4), guard := none }, { dst := some 29, op := AOp.bin (Bin.plain BinOp.sub) (Opd.t 28) (Opd.c (AV.p (PV.int IntKind.u64 (9223372036854775808)))), guard := none }, { dst := some 30, op := AOp.convInt IntKind.i64 (Opd.t 29), guard := none }, { dst := some 31, op := AOp.call (Opd.c (AV.p (PV.fn 29))) [Opd.t 30], guard := none }, { dst := none, op := AOp.store 4 (Opd.t 2) (Opd.t 31), guard := none }, { dst := some 3, op := AOp.mv (Opd.c (AV.p (PV.int IntKind.i64 (9)))), guard := none }]).seq ACode.ret)))) ((ACode.region [{ dst := some 33, op := AOp.bin (Bin.plain BinOp.eql) (Opd.t 7) (Opd.c (AV.p (PV.int IntKind.u8 (3)))), guard := none }, { dst := some 32, op := AOp.mv (Opd.t 33), guard := none }]).seq (ACode.cond (Opd.t 32) ((ACode.region [{ dst := some 34, op := AOp.mv (Opd.t 0), guard := none }, { dst := some 35, op := AOp.call (Opd.c (AV.p (PV.fn 42))) [Opd.t 34], guard := none }, { dst := some 36, op := AOp.extract 0 (Opd.t 35), guard := none }, { dst := some 37, op := AOp.extract 1 (Opd.t 35), guard := none }, { dst := none, op := AOp.store 4 (Opd.t 2) (Opd.t 36), guard := none }, { dst := some 3, op := AOp.mv (Opd.t 37), guard := none }]).seq ACode.ret) ((ACode.region [{ dst := some 39, op := AOp.bin (Bin.plain BinOp.eql) (Opd.t 7) (Opd.c (AV.p (PV.int IntKind.u8 (4)))), guard := none }, { dst := some 38, op := AOp.mv (Opd.t 39), guard := none }]).seq (ACode.cond (Opd.t 38) (((ACode.region [{ dst := some 40, op := AOp.mv (Opd.t 0), guard := none }, { dst := some 41, op := AOp.len true (Opd.t 40), guard := none }, { dst := some 42, op := AOp.bin (Bin.plain BinOp.lss) (Opd.t 41) (Opd.c (AV.p (PV.int IntKind.i64 (2)))), guard := none }, { dst := some 43, op := AOp.mv (Opd.t 42), guard := none }, { dst := some 44, op := AOp.mv (Opd.t 0), guard := some (43, false) }, { dst := some 45, op := AOp.atStr (Opd.t 44) (Opd.c (AV.p (PV.int IntKind.i64 (1)))), guard := some (43, false) }, { dst := some 46, op := AOp.bin (Bin.plain BinOp.gtr) (Opd.t 45) (Opd.c (AV.p (PV.int IntKind.u8 (1)))), guard := some (43, false) }, { dst := some 47, op := AOp.pick (Opd.t 43) (Opd.c (AV.p (PV.bool true))) (Opd.t 46), guard := none }]).seq (ACode.cond (Opd.t 47) ((ACode.region [{ dst := some 48, op := AOp.build [AV.p (PV.int IntKind.i64 (0)), AV.p (PV.int IntKind.i64 (0)), AV.p (PV.str []), AV.p (PV.bool false)] [], guard := none }, { dst := none, op := AOp.store 4 (Opd.t 2) (Opd.t 48), guard := none }, { dst := some 3, op := AOp.mv (Opd.c (AV.p (PV.int IntKind.i64 (0)))), guard := none }]).seq ACode.ret) ACode.skip)).seq ((ACode.region [{ dst := some 49, op := AOp.mv (Opd.t 0), guard := none }, { dst := some 50, op := AOp.atStr (Opd.t 49) (Opd.c (AV.p (PV.int IntKind.i64 (1)))), guard := none }, { dst := some 51, op := AOp.bin (Bin.plain BinOp.eql) (Opd.t 50) (Opd.c (AV.p (PV.int IntKind.u8 (1)))), guard := none }, { dst := some 52, op := AOp.build [AV.p (PV.int IntKind.i64 (0)), AV.p (PV.int IntKind.i64 (0)), AV.p (PV.str []), AV.p (PV.bool false)] [(0, 1, Opd.c (AV.p (PV.int IntKind.i64 (3)))), (3, 1, Opd.t 51)], guard := none }, { dst := none, op := AOp.store 4 (Opd.t 2) (Opd.t 52), guard := none }, { dst := some 3, op := AOp.mv (Opd.c (AV.p (PV.int IntKind.i64 (2)))), guard := none }]).seq ACode.ret)) ACode.skip)))))))))).seq ((ACode.region [{ dst := some 53, op := AOp.build [AV.p (PV.int IntKind.i64 (0)), AV.p (PV.int IntKind.i64 (0)), AV.p (PV.str []), AV.p (PV.bool false)] [], guard := none }, { dst := none, op := AOp.store 4 (Opd.t 2) (Opd.t 53), guard := none }, { dst := some 3, op := AOp.mv (Opd.c (AV.p (PV.int IntKind.i64 (0)))), guard := none }]).seq ACode.ret)) := rfl
section
variable (C : Oracle) (L : Nat) (c : UInt8) (r : List UInt8) (ρ : Env) (σ : Heap)
/-- the loop's state -/
structure At26 (ρ : Env) (j w : Nat) : Prop where
  t0 : ρ.get 0 = some (.p (.str (c :: r)))
  t2 : ρ.get 2 = some (.ptr 0 0 0)
  t4 : ρ.get 4 = some (.p (.int .u64 (w : Int)))
  t5 : ρ.get 5 = some (.p (.int .i64 ((j : Int) + 1)))
theorem stop26 (w : Nat) (h : At26 c r ρ 8 w) : ∃ ρ', exec C L body26 ⟨ρ, [], σ⟩ = some (.exit 1, ⟨ρ', [], σ⟩) ∧ At26 c r ρ' 8 w :=
  ⟨_, by simp [body26, exec, runOps, wantedA, stepOp, pureOp, allocOp, readOp, effOp, ev, evs, evO, Env.get_cons, putE, binA, intBin, unA, AV.fit, AV.toCells, partC, partP, mkCells, allP, mkAgg, Cells.len, target, h.t5]; rfl, ⟨by simp [Env.get_cons, h.t0], by simp [Env.get_cons, h.t2], by simp [Env.get_cons, h.t4], by simp [Env.get_cons, h.t5]⟩⟩
theorem go26 (j w : Nat) (h : At26 c r ρ j w) (hj : j < 8) (d : UInt8) (hd : r[j]? = some d) (hw : w < 72057594037927936) : ∃ ρ', exec C L body26 ⟨ρ, [], σ⟩ = some (.normal, ⟨ρ', [], σ⟩) ∧ At26 c r ρ' (j + 1) (w * 256 + d.toNat) := by
  have h1 : (j : Int) + 1 < 9 := by omega
  have h2 : (0 : Int) ≤ (j : Int) + 1 := by omega
  have h3 : ((j : Int) + 1).toNat = j + 1 := by omega
  have hs : (c :: r)[j + 1]? = some d := by simpa using hd
  have hdl := d.toNat_lt
  have e1 : IntKind.i64.wrap ((j : Int) + 1 + 1) = (j : Int) + 1 + 1 := wrap_id _ (by omega) (by omega)
  have e2 : IntKind.u64.wrap ((w : Int) * 256) = (w : Int) * 256 := wrap_u64 _ (by omega) (by omega)
  have e3 : IntKind.u64.wrap (d.toNat : Int) = (d.toNat : Int) := wrap_u64 _ (by omega) (by omega)
  have e4 : IntKind.u64.wrap ((w : Int) * 256 + (d.toNat : Int)) = (w : Int) * 256 + (d.toNat : Int) := wrap_u64 _ (by omega) (by omega)
  exact ⟨_, by simp [body26, exec, runOps, wantedA, stepOp, pureOp, allocOp, readOp, effOp, ev, evs, evO, Env.get_cons, putE, binA, intBin, unA, AV.fit, AV.toCells, partC, partP, mkCells, allP, mkAgg, Cells.len, target, evParts, fillA, AV.cells, splice, spliceC, finA, leaveA, resA, resV, ansV, atStrA, h.t0, h.t4, h.t5, h1, h2, h3, hd, e1, e2, e3, e4]; rfl, ⟨by simp [Env.get_cons, h.t0], by simp [Env.get_cons, h.t2], by simp [Env.get_cons], by simp [Env.get_cons]⟩⟩
theorem loop26 (hr : 8 ≤ r.length) : ∀ (d j f : Nat) (ρ : Env), j + d = 8 → d < f → At26 c r ρ j (val (r.take j)) →
    ∃ ρ', iter (exec C L body26) none f ⟨ρ, [], σ⟩ = some (.exit 1, ⟨ρ', [], σ⟩) ∧ At26 c r ρ' 8 (val (r.take 8))
  | 0, j, f, ρ, hd, hf, h => by
    obtain ⟨f, rfl⟩ : ∃ m, f = m + 1 := ⟨f - 1, by omega⟩
    obtain rfl : j = 8 := by omega
    obtain ⟨ρ', e, h'⟩ := stop26 C L c r ρ σ _ h
    exact ⟨ρ', by simp only [iter, St.keep, e], h'⟩
  | d + 1, j, f, ρ, hd, hf, h => by
    obtain ⟨f, rfl⟩ : ∃ m, f = m + 1 := ⟨f - 1, by omega⟩
    have hj : j < r.length := by omega
    have hc : r[j]? = some r[j] := List.getElem?_eq_getElem hj
    have hv : val (r.take j) < 72057594037927936 := by
      have h1 := val_lt (r.take j)
      rw [List.length_take, Nat.min_eq_left (by omega)] at h1
      have h2 : 256 ^ j ≤ 256 ^ 7 := Nat.pow_le_pow_right (by decide) (by omega)
      omega
    obtain ⟨ρ1, e, h1⟩ := go26 C L c r ρ σ j _ h (by omega) _ hc hv
    rw [← val_snoc, show r.take j ++ [r[j]] = r.take (j + 1) from by rw [List.take_add_one, hc]; rfl] at h1
    obtain ⟨ρ', e', h'⟩ := loop26 hr d (j + 1) f ρ1 (by omega) (by omega) h1
    exact ⟨ρ', by simp only [iter, St.keep, e]; exact e', h'⟩
end
/-- the first value of a code -/
def fst26 (c : UInt8) (r : List UInt8) : List PV × Int :=
  if c = 1 then (vc .null, 1)
  else if c = 2 then (if 8 ≤ r.length then (vc (.num (numOf (val (r.take 8)))), 9) else (vc .null, 0))
  else if c = 3 then res42 (c :: r) (words r [])
  else if c = 4 then (match r with
    | [] => (vc .null, 0)
    | d :: _ => if d = 0 ∨ d = 1 then (vc (.bool (d == 1)), 2) else (vc .null, 0))
  else (vc .null, 0)
theorem run26_num (C : Oracle) (D : DOracle) (L : Nat) (r : List UInt8) (hr : 8 ≤ r.length) (hL : 8 < L) (hC : ∀ x σ, C 29 [.p (.int .i64 x)] σ = some (.ret (.p (.agg (vc (.num x)))), σ)) :
    ansV (runFunc C D L lit26 [.p (.str (2 :: r))] []) = some (.tup [.agg (vc (.num (numOf (val (r.take 8))))), .int .i64 9]) := by
  have ht : (r.take 8).length = 8 := by simp; omega
  have hv : val (r.take 8) < 18446744073709551616 := by
    have := val_lt (r.take 8)
    rw [ht] at this
    exact this
  have e1 := sub_num _ hv
  have hlen : ¬ ((r.length : Int) + 1 < 9) := by omega
  obtain ⟨F, hF⟩ : ∃ F : Env → Heap → Env, ∀ ρ σ, At26 2 r ρ 0 0 → iter (exec C L body26) none L ⟨ρ, [], σ⟩ = some (.exit 1, ⟨F ρ σ, [], σ⟩) ∧ At26 2 r (F ρ σ) 8 (val (r.take 8)) := by
    have hl := fun ρ σ (h : At26 2 r ρ 0 0) => loop26 C L 2 r σ hr 8 0 L ρ rfl hL (by simpa [val] using h)
    refine ⟨fun ρ σ => open Classical in if h : At26 2 r ρ 0 0 then (hl ρ σ h).choose else ρ, fun ρ σ h => ?_⟩
    simp only [dif_pos h]
    exact (hl ρ σ h).choose_spec
  have hF1 := fun ρ σ t0 t2 (t4 : ρ.get 4 = some (.p (.int .u64 0))) (t5 : ρ.get 5 = some (.p (.int .i64 1))) => (hF ρ σ ⟨t0, t2, t4, t5⟩).1
  have g2 := fun ρ σ t0 t2 (t4 : ρ.get 4 = some (.p (.int .u64 0))) (t5 : ρ.get 5 = some (.p (.int .i64 1))) => (hF ρ σ ⟨t0, t2, t4, t5⟩).2.t2
  have g4 := fun ρ σ t0 t2 (t4 : ρ.get 4 = some (.p (.int .u64 0))) (t5 : ρ.get 5 = some (.p (.int .i64 1))) => (hF ρ σ ⟨t0, t2, t4, t5⟩).2.t4
  simp only [vc] at hC ⊢
  rw [runFunc_eq, lit26_eq]
  simp [lit26, params, exec, runOps, wantedA, stepOp, pureOp, allocOp, readOp, effOp, ev, evs, evO, Env.get_cons, putE, binA, intBin, unA, AV.fit, AV.toCells, partC, partP, mkCells, allP, mkAgg, Cells.len, target, evParts, fillA, AV.cells, splice, spliceC, finA, leaveA, resA, resV, ansV, finX, atStrA, lenA, hlen, hF1, g2, g4, e1, hC, mkTup]
section
variable (m : Int) (L n : Nat)
theorem q26 : TE (G 0 m) 26 = some (.code lit26 true) := by kernel_rfl
theorem first26 (c : UInt8) (r : List UInt8) (hm : r.length < 16777216) (hL2 : 16777216 < L) (σ : Heap) : (cAt (TE (G 0 m)) L (n + 3)).1 26 [.p (.str (c :: r))] σ = some (.ret (.p (.tup [.agg (fst26 c r).1, .int .i64 (fst26 c r).2])), σ) := by
  refine call_ans (ps := [.str (c :: r)]) (n := n + 2) (q26 m) rfl ?_ σ
  have hC1 := text42 m L n (c :: r) (by simp) (by simp; omega) (by simp; omega) hL2
  have hC2 := fun x σ => num29 m L (n + 1) x σ
  have hv4 : (res42 (c :: r) (words r [])).1.length = 4 := by unfold res42; split <;> rfl
  rw [show (c :: r).drop 1 = r from rfl] at hC1
  generalize (cAt (TE (G 0 m)) L (n + 2)).1 = C at *
  generalize (cAt (TE (G 0 m)) L (n + 2)).2 = D
  unfold fst26
  by_cases c1 : c = 1
  · subst c1
    rw [runFunc_eq, lit26_eq]
    simp [lit26, params, exec, runOps, wantedA, stepOp, pureOp, allocOp, readOp, effOp, ev, evs, evO, Env.get_cons, putE, binA, intBin, unA, AV.fit, AV.toCells, partC, partP, mkCells, allP, mkAgg, Cells.len, target, evParts, fillA, AV.cells, splice, spliceC, finA, leaveA, resA, resV, ansV, finX, atStrA, mkTup, vc]
  have d1 : ((c.toNat : Int) == 1) = false := byte_ne c1
  by_cases c2 : c = 2
  · subst c2
    by_cases h8 : 8 ≤ r.length
    · simp only [if_neg (show ¬ (2 : UInt8) = 1 by decide), if_true, if_pos h8]
      exact run26_num C D L r h8 (by omega) hC2
    · have hlen : (r.length : Int) + 1 < 9 := by omega
      rw [runFunc_eq, lit26_eq]
      simp [lit26, params, exec, runOps, wantedA, stepOp, pureOp, allocOp, readOp, effOp, ev, evs, evO, Env.get_cons, putE, binA, intBin, unA, AV.fit, AV.toCells, partC, partP, mkCells, allP, mkAgg, Cells.len, target, evParts, fillA, AV.cells, splice, spliceC, finA, leaveA, resA, resV, ansV, finX, atStrA, lenA, hlen, h8, mkTup, vc]
  have d2 : ((c.toNat : Int) == 2) = false := byte_ne c2
  by_cases c3 : c = 3
  · subst c3
    generalize res42 (3 :: r) (words r []) = x at *
    obtain ⟨cs, k⟩ := x
    simp only at hv4 hC1
    obtain ⟨x0, x1, x2, x3, rfl⟩ : ∃ x0 x1 x2 x3, cs = [x0, x1, x2, x3] := by
      match cs, hv4 with
      | [x0, x1, x2, x3], _ => exact ⟨x0, x1, x2, x3, rfl⟩
    rw [runFunc_eq, lit26_eq]
    simp [lit26, params, exec, runOps, wantedA, stepOp, pureOp, allocOp, readOp, effOp, ev, evs, evO, Env.get_cons, putE, binA, intBin, unA, AV.fit, AV.toCells, partC, partP, mkCells, allP, mkAgg, Cells.len, target, evParts, fillA, AV.cells, splice, spliceC, finA, leaveA, resA, resV, ansV, finX, atStrA, extractA, hC1, mkTup]
  have d3 : ((c.toNat : Int) == 3) = false := byte_ne c3
  by_cases c4 : c = 4
  · subst c4
    match r with
    | [] =>
      rw [runFunc_eq, lit26_eq]
      simp [lit26, params, exec, runOps, wantedA, stepOp, pureOp, allocOp, readOp, effOp, ev, evs, evO, Env.get_cons, putE, binA, intBin, unA, AV.fit, AV.toCells, partC, partP, mkCells, allP, mkAgg, Cells.len, target, evParts, fillA, AV.cells, splice, spliceC, finA, leaveA, resA, resV, ansV, finX, atStrA, lenA, mkTup, vc]
    | d :: r =>
      have hlen : ¬ ((r.length : Int) + 1 + 1 < 2) := by omega
      by_cases e0 : d = 0
      · subst e0
        rw [runFunc_eq, lit26_eq]
        simp [lit26, params, exec, runOps, wantedA, stepOp, pureOp, allocOp, readOp, effOp, ev, evs, evO, Env.get_cons, putE, binA, intBin, unA, AV.fit, AV.toCells, partC, partP, mkCells, allP, mkAgg, Cells.len, target, evParts, fillA, AV.cells, splice, spliceC, finA, leaveA, resA, resV, ansV, finX, atStrA, lenA, hlen, mkTup, vc]
      by_cases e1 : d = 1
      · subst e1
        rw [runFunc_eq, lit26_eq]
        simp [lit26, params, exec, runOps, wantedA, stepOp, pureOp, allocOp, readOp, effOp, ev, evs, evO, Env.get_cons, putE, binA, intBin, unA, AV.fit, AV.toCells, partC, partP, mkCells, allP, mkAgg, Cells.len, target, evParts, fillA, AV.cells, splice, spliceC, finA, leaveA, resA, resV, ansV, finX, atStrA, lenA, hlen, mkTup, vc]
      have g1 : decide ((1 : Int) < (d.toNat : Int)) = true := by
        have h0 : d.toNat ≠ 0 := fun e => e0 (UInt8.toNat_inj.1 e)
        have h1 : d.toNat ≠ 1 := fun e => e1 (UInt8.toNat_inj.1 e)
        exact decide_eq_true (by omega)
      rw [runFunc_eq, lit26_eq]
      simp [lit26, params, exec, runOps, wantedA, stepOp, pureOp, allocOp, readOp, effOp, ev, evs, evO, Env.get_cons, putE, binA, intBin, unA, AV.fit, AV.toCells, partC, partP, mkCells, allP, mkAgg, Cells.len, target, evParts, fillA, AV.cells, splice, spliceC, finA, leaveA, resA, resV, ansV, finX, atStrA, lenA, hlen, e0, e1, g1, mkTup, vc]
  have d4 : ((c.toNat : Int) == 4) = false := byte_ne c4
  rw [runFunc_eq, lit26_eq]
  simp [lit26, params, exec, runOps, wantedA, stepOp, pureOp, allocOp, readOp, effOp, ev, evs, evO, Env.get_cons, putE, binA, intBin, unA, AV.fit, AV.toCells, partC, partP, mkCells, allP, mkAgg, Cells.len, target, evParts, fillA, AV.cells, splice, spliceC, finA, leaveA, resA, resV, ansV, finX, atStrA, c1, c2, c3, c4, d1, d2, d3, d4, mkTup, vc]
end
end Go.Ab.Key
