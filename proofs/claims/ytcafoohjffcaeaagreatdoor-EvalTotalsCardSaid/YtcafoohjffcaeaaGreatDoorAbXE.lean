/- EvalTotals: the law: its loop over what it lent. -/
import Derived.Test.YtcafoohjffcaeaaGreatDoorAbXC
import Derived.Test.YtcafoohjffcaeaaGreatDoorAbVA
import Derived.Test.YtcafoohjffcaeaaGreatDoorAbV4
set_option linter.unusedSectionVars false
set_option linter.unusedSimpArgs false
set_option linter.unusedVariables false
set_option maxRecDepth 1000000
namespace Go.Ab.Cnt
open Go Go.Ab Go.Ab.Key Go.Proofs
variable [Marks]
def lit3 : AFunc := { ntmps := 63, results := [ARes.tmp 4], body := (ACode.region [{ dst := some 2, op := AOp.box 4 (Opd.t 0), guard := none }, { dst := some 4, op := AOp.mv (Opd.c (AV.p (PV.bool false))), guard := none }]).seq ((ACode.region [{ dst := some 12, op := AOp.mv (Opd.t 1), guard := none }, { dst := some 13, op := AOp.call (Opd.c (AV.p (PV.fn 7))) [Opd.t 12], guard := none }, { dst := some 5, op := AOp.mv (Opd.t 13), guard := none }]).seq (((ACode.region [{ dst := some 14, op := AOp.mv (Opd.t 5), guard := none }, { dst := some 15, op := AOp.un UnOp.not (Opd.t 14), guard := none }, { dst := some 16, op := AOp.mv (Opd.t 15), guard := none }, { dst := some 17, op := AOp.mv (Opd.t 1), guard := some (16, false) }, { dst := some 18, op := AOp.len false (Opd.t 17), guard := some (16, false) }, { dst := some 19, op := AOp.bin (Bin.plain BinOp.gtr) (Opd.t 18) (Opd.c (AV.p (PV.int IntKind.i64 (400)))), guard := some (16, false) }, { dst := some 20, op := AOp.pick (Opd.t 16) (Opd.c (AV.p (PV.bool true))) (Opd.t 19), guard := none }]).seq (ACode.cond (Opd.t 20) ((ACode.region [{ dst := some 21, op := AOp.call (Opd.c (AV.p (PV.fn 8))) [], guard := none }, { dst := some 4, op := AOp.mv (Opd.t 21), guard := none }]).seq ACode.ret) ACode.skip)).seq ((ACode.region [{ dst := some 22, op := AOp.buildSlice [AV.p (PV.int IntKind.i64 (0)), AV.p (PV.int IntKind.i64 (0)), AV.p (PV.str []), AV.p (PV.bool false)] 0 4 [], guard := none }, { dst := some 23, op := AOp.mv (Opd.t 1), guard := none }, { dst := some 24, op := AOp.append 30 4 [AV.p (PV.int IntKind.i64 (0)), AV.p (PV.int IntKind.i64 (0)), AV.p (PV.str []), AV.p (PV.bool false)] (Opd.t 22) (Opd.t 23), guard := none }, { dst := some 6, op := AOp.mv (Opd.t 24), guard := none }]).seq ((ACode.region [{ dst := some 26, op := AOp.load true 4 (Opd.t 2), guard := none }, { dst := some 27, op := AOp.mv (Opd.t 6), guard := none }, { dst := some 28, op := AOp.call (Opd.c (AV.p (PV.fn 9))) [Opd.t 26, Opd.t 27], guard := none }, { dst := some 25, op := AOp.mv (Opd.t 28), guard := none }, { dst := some 29, op := AOp.extract 0 (Opd.t 25), guard := none }, { dst := some 30, op := AOp.extract 1 (Opd.t 25), guard := none }, { dst := some 7, op := AOp.alloc 30 [AV.p (PV.int IntKind.i64 (0)), AV.p (PV.int IntKind.i64 (0)), AV.p (PV.str []), AV.p (PV.bool false)], guard := none }, { dst := none, op := AOp.store 4 (Opd.t 7) (Opd.t 29), guard := none }, { dst := some 8, op := AOp.mv (Opd.t 30), guard := none }]).seq ((ACode.region [{ dst := some 32, op := AOp.load true 4 (Opd.t 2), guard := none }, { dst := some 33, op := AOp.mv (Opd.t 1), guard := none }, { dst := some 34, op := AOp.call (Opd.c (AV.p (PV.fn 10))) [Opd.t 32, Opd.t 33], guard := none }, { dst := some 31, op := AOp.mv (Opd.t 34), guard := none }, { dst := some 35, op := AOp.extract 0 (Opd.t 31), guard := none }, { dst := some 36, op := AOp.extract 1 (Opd.t 31), guard := none }, { dst := some 9, op := AOp.alloc 30 [AV.p (PV.int IntKind.i64 (0)), AV.p (PV.int IntKind.i64 (0)), AV.p (PV.str []), AV.p (PV.bool false)], guard := none }, { dst := none, op := AOp.store 4 (Opd.t 9) (Opd.t 35), guard := none }, { dst := some 10, op := AOp.mv (Opd.t 36), guard := none }]).seq (((ACode.region [{ dst := some 11, op := AOp.mv (Opd.c (AV.p (PV.int IntKind.i64 (0)))), guard := none }]).seq (ACode.block 0 (ACode.loop none (((ACode.region [{ dst := some 37, op := AOp.mv (Opd.t 11), guard := none }, { dst := some 38, op := AOp.mv (Opd.t 1), guard := none }, { dst := some 39, op := AOp.len false (Opd.t 38), guard := none }, { dst := some 40, op := AOp.bin (Bin.plain BinOp.lss) (Opd.t 37) (Opd.t 39), guard := none }]).seq (ACode.cond (Opd.t 40) ACode.skip (ACode.exit 0))).seq ((ACode.block 1 ((ACode.draw 9 [0, 0, 3, 7, 0, 0, 48, 112, 255] [{ dst := some 43, op := AOp.mv (Opd.t 6), guard := none }, { dst := some 44, op := AOp.mv (Opd.t 11), guard := none }, { dst := some 45, op := AOp.idx 4 (Opd.t 43) (Opd.t 44), guard := none }, { dst := some 46, op := AOp.load true 4 (Opd.t 45), guard := none }, { dst := some 47, op := AOp.mv (Opd.t 1), guard := none }, { dst := some 48, op := AOp.mv (Opd.t 11), guard := none }, { dst := some 49, op := AOp.idx 4 (Opd.t 47) (Opd.t 48), guard := none }, { dst := some 50, op := AOp.load true 4 (Opd.t 49), guard := none }, { dst := some 51, op := AOp.bin (Bin.eq true (EQ.struct [(0, false, 1, EQ.int), (1, false, 1, EQ.int), (2, false, 1, EQ.str), (3, false, 1, EQ.bool)])) (Opd.t 46) (Opd.t 50), guard := none }]).seq (ACode.cond (Opd.t 51) ((ACode.region [{ dst := some 4, op := AOp.mv (Opd.c (AV.p (PV.bool false))), guard := none }]).seq ACode.ret) ACode.skip))).seq (ACode.region [{ dst := some 41, op := AOp.mv (Opd.t 11), guard := none }, { dst := some 42, op := AOp.bin (Bin.plain BinOp.add) (Opd.t 41) (Opd.c (AV.p (PV.int IntKind.i64 (1)))), guard := none }, { dst := some 11, op := AOp.mv (Opd.t 42), guard := none }])))))).seq ((ACode.region [{ dst := some 52, op := AOp.call (Opd.c (AV.p (PV.fn 8))) [], guard := none }, { dst := some 53, op := AOp.mv (Opd.t 52), guard := none }, { dst := some 54, op := AOp.load true 4 (Opd.t 7), guard := some (53, true) }, { dst := some 55, op := AOp.load true 4 (Opd.t 9), guard := some (53, true) }, { dst := some 56, op := AOp.bin (Bin.eq false (EQ.struct [(0, false, 1, EQ.int), (1, false, 1, EQ.int), (2, false, 1, EQ.str), (3, false, 1, EQ.bool)])) (Opd.t 54) (Opd.t 55), guard := some (53, true) }, { dst := some 57, op := AOp.pick (Opd.t 53) (Opd.t 56) (Opd.c (AV.p (PV.bool false))), guard := none }, { dst := some 58, op := AOp.mv (Opd.t 57), guard := none }, { dst := some 59, op := AOp.mv (Opd.t 8), guard := some (58, true) }, { dst := some 60, op := AOp.mv (Opd.t 10), guard := some (58, true) }, { dst := some 61, op := AOp.bin (Bin.plain BinOp.eql) (Opd.t 59) (Opd.t 60), guard := some (58, true) }, { dst := some 62, op := AOp.pick (Opd.t 58) (Opd.t 61) (Opd.c (AV.p (PV.bool false))), guard := none }, { dst := some 4, op := AOp.mv (Opd.t 62), guard := none }]).seq ACode.ret))))))) }
def p3_1 : ACode := ACode.region [{ dst := some 2, op := AOp.box 4 (Opd.t 0), guard := none }, { dst := some 4, op := AOp.mv (Opd.c (AV.p (PV.bool false))), guard := none }]
def p3_2 : ACode := ACode.region [{ dst := some 12, op := AOp.mv (Opd.t 1), guard := none }, { dst := some 13, op := AOp.call (Opd.c (AV.p (PV.fn 7))) [Opd.t 12], guard := none }, { dst := some 5, op := AOp.mv (Opd.t 13), guard := none }]
def p3_3 : ACode := (ACode.region [{ dst := some 14, op := AOp.mv (Opd.t 5), guard := none }, { dst := some 15, op := AOp.un UnOp.not (Opd.t 14), guard := none }, { dst := some 16, op := AOp.mv (Opd.t 15), guard := none }, { dst := some 17, op := AOp.mv (Opd.t 1), guard := some (16, false) }, { dst := some 18, op := AOp.len false (Opd.t 17), guard := some (16, false) }, { dst := some 19, op := AOp.bin (Bin.plain BinOp.gtr) (Opd.t 18) (Opd.c (AV.p (PV.int IntKind.i64 (400)))), guard := some (16, false) }, { dst := some 20, op := AOp.pick (Opd.t 16) (Opd.c (AV.p (PV.bool true))) (Opd.t 19), guard := none }]).seq (ACode.cond (Opd.t 20) ((ACode.region [{ dst := some 21, op := AOp.call (Opd.c (AV.p (PV.fn 8))) [], guard := none }, { dst := some 4, op := AOp.mv (Opd.t 21), guard := none }]).seq ACode.ret) ACode.skip)
def p3_4 : ACode := ACode.region [{ dst := some 22, op := AOp.buildSlice [AV.p (PV.int IntKind.i64 (0)), AV.p (PV.int IntKind.i64 (0)), AV.p (PV.str []), AV.p (PV.bool false)] 0 4 [], guard := none }, { dst := some 23, op := AOp.mv (Opd.t 1), guard := none }, { dst := some 24, op := AOp.append 30 4 [AV.p (PV.int IntKind.i64 (0)), AV.p (PV.int IntKind.i64 (0)), AV.p (PV.str []), AV.p (PV.bool false)] (Opd.t 22) (Opd.t 23), guard := none }, { dst := some 6, op := AOp.mv (Opd.t 24), guard := none }]
def p3_5 : ACode := ACode.region [{ dst := some 26, op := AOp.load true 4 (Opd.t 2), guard := none }, { dst := some 27, op := AOp.mv (Opd.t 6), guard := none }, { dst := some 28, op := AOp.call (Opd.c (AV.p (PV.fn 9))) [Opd.t 26, Opd.t 27], guard := none }, { dst := some 25, op := AOp.mv (Opd.t 28), guard := none }, { dst := some 29, op := AOp.extract 0 (Opd.t 25), guard := none }, { dst := some 30, op := AOp.extract 1 (Opd.t 25), guard := none }, { dst := some 7, op := AOp.alloc 30 [AV.p (PV.int IntKind.i64 (0)), AV.p (PV.int IntKind.i64 (0)), AV.p (PV.str []), AV.p (PV.bool false)], guard := none }, { dst := none, op := AOp.store 4 (Opd.t 7) (Opd.t 29), guard := none }, { dst := some 8, op := AOp.mv (Opd.t 30), guard := none }]
def p3_6 : ACode := ACode.region [{ dst := some 32, op := AOp.load true 4 (Opd.t 2), guard := none }, { dst := some 33, op := AOp.mv (Opd.t 1), guard := none }, { dst := some 34, op := AOp.call (Opd.c (AV.p (PV.fn 10))) [Opd.t 32, Opd.t 33], guard := none }, { dst := some 31, op := AOp.mv (Opd.t 34), guard := none }, { dst := some 35, op := AOp.extract 0 (Opd.t 31), guard := none }, { dst := some 36, op := AOp.extract 1 (Opd.t 31), guard := none }, { dst := some 9, op := AOp.alloc 30 [AV.p (PV.int IntKind.i64 (0)), AV.p (PV.int IntKind.i64 (0)), AV.p (PV.str []), AV.p (PV.bool false)], guard := none }, { dst := none, op := AOp.store 4 (Opd.t 9) (Opd.t 35), guard := none }, { dst := some 10, op := AOp.mv (Opd.t 36), guard := none }]
def p3_7 : ACode := (ACode.region [{ dst := some 11, op := AOp.mv (Opd.c (AV.p (PV.int IntKind.i64 (0)))), guard := none }]).seq (ACode.block 0 (ACode.loop none (((ACode.region [{ dst := some 37, op := AOp.mv (Opd.t 11), guard := none }, { dst := some 38, op := AOp.mv (Opd.t 1), guard := none }, { dst := some 39, op := AOp.len false (Opd.t 38), guard := none }, { dst := some 40, op := AOp.bin (Bin.plain BinOp.lss) (Opd.t 37) (Opd.t 39), guard := none }]).seq (ACode.cond (Opd.t 40) ACode.skip (ACode.exit 0))).seq ((ACode.block 1 ((ACode.draw 9 [0, 0, 3, 7, 0, 0, 48, 112, 255] [{ dst := some 43, op := AOp.mv (Opd.t 6), guard := none }, { dst := some 44, op := AOp.mv (Opd.t 11), guard := none }, { dst := some 45, op := AOp.idx 4 (Opd.t 43) (Opd.t 44), guard := none }, { dst := some 46, op := AOp.load true 4 (Opd.t 45), guard := none }, { dst := some 47, op := AOp.mv (Opd.t 1), guard := none }, { dst := some 48, op := AOp.mv (Opd.t 11), guard := none }, { dst := some 49, op := AOp.idx 4 (Opd.t 47) (Opd.t 48), guard := none }, { dst := some 50, op := AOp.load true 4 (Opd.t 49), guard := none }, { dst := some 51, op := AOp.bin (Bin.eq true (EQ.struct [(0, false, 1, EQ.int), (1, false, 1, EQ.int), (2, false, 1, EQ.str), (3, false, 1, EQ.bool)])) (Opd.t 46) (Opd.t 50), guard := none }]).seq (ACode.cond (Opd.t 51) ((ACode.region [{ dst := some 4, op := AOp.mv (Opd.c (AV.p (PV.bool false))), guard := none }]).seq ACode.ret) ACode.skip))).seq (ACode.region [{ dst := some 41, op := AOp.mv (Opd.t 11), guard := none }, { dst := some 42, op := AOp.bin (Bin.plain BinOp.add) (Opd.t 41) (Opd.c (AV.p (PV.int IntKind.i64 (1)))), guard := none }, { dst := some 11, op := AOp.mv (Opd.t 42), guard := none }])))))
def p3_r : ACode := (ACode.region [{ dst := some 52, op := AOp.call (Opd.c (AV.p (PV.fn 8))) [], guard := none }, { dst := some 53, op := AOp.mv (Opd.t 52), guard := none }, { dst := some 54, op := AOp.load true 4 (Opd.t 7), guard := some (53, true) }, { dst := some 55, op := AOp.load true 4 (Opd.t 9), guard := some (53, true) }, { dst := some 56, op := AOp.bin (Bin.eq false (EQ.struct [(0, false, 1, EQ.int), (1, false, 1, EQ.int), (2, false, 1, EQ.str), (3, false, 1, EQ.bool)])) (Opd.t 54) (Opd.t 55), guard := some (53, true) }, { dst := some 57, op := AOp.pick (Opd.t 53) (Opd.t 56) (Opd.c (AV.p (PV.bool false))), guard := none }, { dst := some 58, op := AOp.mv (Opd.t 57), guard := none }, { dst := some 59, op := AOp.mv (Opd.t 8), guard := some (58, true) }, { dst := some 60, op := AOp.mv (Opd.t 10), guard := some (58, true) }, { dst := some 61, op := AOp.bin (Bin.plain BinOp.eql) (Opd.t 59) (Opd.t 60), guard := some (58, true) }, { dst := some 62, op := AOp.pick (Opd.t 58) (Opd.t 61) (Opd.c (AV.p (PV.bool false))), guard := none }, { dst := some 4, op := AOp.mv (Opd.t 62), guard := none }]).seq ACode.ret
theorem p3_eq : lit3.body = .seq p3_1 (.seq p3_2 (.seq p3_3 (.seq p3_4 (.seq p3_5 (.seq p3_6 (.seq p3_7 p3_r)))))) := rfl
def body3 : ACode := (((ACode.region [{ dst := some 37, op := AOp.mv (Opd.t 11), guard := none }, { dst := some 38, op := AOp.mv (Opd.t 1), guard := none }, { dst := some 39, op := AOp.len false (Opd.t 38), guard := none }, { dst := some 40, op := AOp.bin (Bin.plain BinOp.lss) (Opd.t 37) (Opd.t 39), guard := none }]).seq (ACode.cond (Opd.t 40) ACode.skip (ACode.exit 0))).seq ((ACode.block 1 ((ACode.draw 9 [0, 0, 3, 7, 0, 0, 48, 112, 255] [{ dst := some 43, op := AOp.mv (Opd.t 6), guard := none }, { dst := some 44, op := AOp.mv (Opd.t 11), guard := none }, { dst := some 45, op := AOp.idx 4 (Opd.t 43) (Opd.t 44), guard := none }, { dst := some 46, op := AOp.load true 4 (Opd.t 45), guard := none }, { dst := some 47, op := AOp.mv (Opd.t 1), guard := none }, { dst := some 48, op := AOp.mv (Opd.t 11), guard := none }, { dst := some 49, op := AOp.idx 4 (Opd.t 47) (Opd.t 48), guard := none }, { dst := some 50, op := AOp.load true 4 (Opd.t 49), guard := none }, { dst := some 51, op := AOp.bin (Bin.eq true (EQ.struct [(0, false, 1, EQ.int), (1, false, 1, EQ.int), (2, false, 1, EQ.str), (3, false, 1, EQ.bool)])) (Opd.t 46) (Opd.t 50), guard := none }]).seq (ACode.cond (Opd.t 51) ((ACode.region [{ dst := some 4, op := AOp.mv (Opd.c (AV.p (PV.bool false))), guard := none }]).seq ACode.ret) ACode.skip))).seq (ACode.region [{ dst := some 41, op := AOp.mv (Opd.t 11), guard := none }, { dst := some 42, op := AOp.bin (Bin.plain BinOp.add) (Opd.t 41) (Opd.c (AV.p (PV.int IntKind.i64 (1)))), guard := none }, { dst := some 11, op := AOp.mv (Opd.t 42), guard := none }])))
def ops3 : List AOper := [{ dst := some 43, op := AOp.mv (Opd.t 6), guard := none }, { dst := some 44, op := AOp.mv (Opd.t 11), guard := none }, { dst := some 45, op := AOp.idx 4 (Opd.t 43) (Opd.t 44), guard := none }, { dst := some 46, op := AOp.load true 4 (Opd.t 45), guard := none }, { dst := some 47, op := AOp.mv (Opd.t 1), guard := none }, { dst := some 48, op := AOp.mv (Opd.t 11), guard := none }, { dst := some 49, op := AOp.idx 4 (Opd.t 47) (Opd.t 48), guard := none }, { dst := some 50, op := AOp.load true 4 (Opd.t 49), guard := none }, { dst := some 51, op := AOp.bin (Bin.eq true (EQ.struct [(0, false, 1, EQ.int), (1, false, 1, EQ.int), (2, false, 1, EQ.str), (3, false, 1, EQ.bool)])) (Opd.t 46) (Opd.t 50), guard := none }]
def head3 : ACode := fstC body3
def step3 : ACode := sndC (sndC body3)
def c3 : ACode := sndC (blkC (fstC (sndC body3)))
theorem body3_eq : body3 = .seq head3 (.seq (.block 1 (.seq (.draw 9 [0, 0, 3, 7, 0, 0, 48, 112, 255] ops3) c3)) step3) := rfl
theorem p3_7_eq : p3_7 = .seq (fstC p3_7) (.block 0 (.loop none body3)) := rfl
theorem eq_vc (a b : V) : eqP (.struct [(0, false, 1, EQ.int), (1, false, 1, EQ.int), (2, false, 1, EQ.str), (3, false, 1, EQ.bool)]) (.agg (vc a)) (.agg (vc b)) = some (decide (a = b)) := by
  cases a <;> cases b <;> simp [vc, eqP, eqPs, partP]
  all_goals first
    | rfl
    | (rename_i x y
       by_cases h : x = y
       · simp [h]
       · have hb : (x == y) = false := beq_eq_false_iff_ne.2 h
         simp [h, hb])
theorem eq_self (a : V) : eqP (.struct [(0, false, 1, EQ.int), (1, false, 1, EQ.int), (2, false, 1, EQ.str), (3, false, 1, EQ.bool)]) (.agg (vc a)) (.agg (vc a)) = some true := by
  rw [eq_vc]; simp
/-- what is lent -/
def Lent (σ : Heap) (s : AV) (x : List V) : Prop := ∃ vr wm ty, s = .sl 1 vr 0 x.length 4 ∧ wm ≤ x.length * 4 ∧ σ[1]? = some (.arr (.pv (vcs x)) vr wm ty)
theorem Lent.push {σ : Heap} {s : AV} {x : List V} (h : Lent σ s x) (τ : Heap) : Lent (σ ++ τ) s x := by
  obtain ⟨vr, wm, ty, h2, h3, h4⟩ := h
  exact ⟨vr, wm, ty, h2, h3, by rw [List.getElem?_append_left (List.getElem?_eq_some_iff.1 h4).1]; exact h4⟩
theorem lent_frz {σ : Heap} {s : AV} {x : List V} (nd : PV) (h : Lent σ s x) : ∃ σ1, frzA (touch σ [.p nd, s]) 9 σ [.p nd, s] = ([nd, .vsl (vcs x) x.length].map .p, σ1) ∧ Lent σ1 s x ∧ σ1[0]? = σ[0]? ∧ σ1.length = σ.length := by
  obtain ⟨vr, wm, ty, rfl, h3, h4⟩ := h
  have hid : 1 < σ.length := (List.getElem?_eq_some_iff.1 h4).1
  have hkl : x.length * 4 ≤ (vcs x).length := by rw [vcs_len]; exact Nat.le_refl _
  have htk : (vcs x).take (x.length * 4) = vcs x := List.take_of_length_le (by rw [vcs_len]; exact Nat.le_refl _)
  have hmax : Nat.max wm (x.length * 4) = x.length * 4 := Nat.max_eq_right h3
  have ht : touch σ [.p nd, .sl 1 vr 0 x.length 4] = [1] := by simp [touch, idsL, idsV, collect, idsO, h4]
  have hf1 : Go.Ab.frz [1] 9 σ (.sl 1 vr 0 x.length 4) = some (.vsl (vcs x) x.length, σ.set 1 (.arr (.pv (vcs x)) vr (x.length * 4) ty)) := by
    have hc : [1].contains 1 = true := rfl
    simp only [Go.Ab.frz, h4, Cells.len, hc, List.drop_zero, htk, and_true, true_and, Nat.zero_add, hmax]
    rw [if_pos hkl]
  have hf0 : Go.Ab.frz [1] 9 σ (.p nd) = some (nd, σ) := rfl
  refine ⟨σ.set 1 (.arr (.pv (vcs x)) vr (x.length * 4) ty), ?_, ⟨vr, x.length * 4, ty, rfl, Nat.le_refl _, List.getElem?_set_self hid⟩, List.getElem?_set_ne (by omega), by simp⟩
  rw [ht]
  simp only [frzA, hf0, hf1]
  rfl
section
variable (C : Oracle) (L : Nat) (x : List V) (s : AV) (r : V) (st : List UInt8) (p p' : Nat)
structure At3 (ρ : Env) (i : Nat) : Prop where
  t1 : ρ.get 1 = some (.p (.vsl (vcs x) x.length))
  t6 : ρ.get 6 = some s
  t7 : ρ.get 7 = some (.ptr p 0 0)
  t8 : ρ.get 8 = some (.p (.str st))
  t9 : ρ.get 9 = some (.ptr p' 0 0)
  t10 : ρ.get 10 = some (.p (.str st))
  t11 : ρ.get 11 = some (.p (.int .i64 (i : Int)))
theorem stop3 (ρ : Env) (σ : Heap) (h : At3 x s st p p' ρ x.length) : ∃ ρ', exec C L body3 ⟨ρ, [], σ⟩ = some (.exit 0, ⟨ρ', [], σ⟩) ∧ At3 x s st p p' ρ' x.length := by
  have e : ∃ ρ', exec C L head3 ⟨ρ, [], σ⟩ = some (.exit 0, ⟨ρ', [], σ⟩) ∧ At3 x s st p p' ρ' x.length :=
    ⟨_, by simp [head3, fstC, body3, exec, runOps, wantedA, stepOp, pureOp, allocOp, readOp, effOp, ev, evs, evO, Env.get_cons, putE, binA, intBin, unA, AV.fit, AV.toCells, partC, partP, mkCells, allP, mkAgg, Cells.len, target, lenA, h.t1, h.t11]; rfl, ⟨by simp [Env.get_cons, h.t1], by simp [Env.get_cons, h.t6], by simp [Env.get_cons, h.t7], by simp [Env.get_cons, h.t8], by simp [Env.get_cons, h.t9], by simp [Env.get_cons, h.t10], by simp [Env.get_cons, h.t11]⟩⟩
  obtain ⟨ρ1, x1, a1⟩ := e
  exact ⟨ρ1, by rw [body3_eq, seqX x1], a1⟩
theorem go3 (ρ : Env) (σ : Heap) (i : Nat) (v : V) (hv : x[i]? = some v) (hm : x.length ≤ 9223372036854775807) (ho : Lent σ s x) (h : At3 x s st p p' ρ i) :
    ∃ ρ', exec C L body3 ⟨ρ, [], σ⟩ = some (.normal, ⟨ρ', [], σ⟩) ∧ At3 x s st p p' ρ' (i + 1) := by
  have hi : i < x.length := (List.getElem?_eq_some_iff.1 hv).1
  have hi' : (i : Int) < (x.length : Int) := by omega
  have e1 : IntKind.i64.wrap ((i : Int) + 1) = ((i + 1 : Nat) : Int) := by rw [wrap_id _ (by omega) (by omega)]; omega
  have e : ∃ ρ', exec C L head3 ⟨ρ, [], σ⟩ = some (.normal, ⟨ρ', [], σ⟩) ∧ At3 x s st p p' ρ' i :=
    ⟨_, by simp [head3, fstC, body3, exec, runOps, wantedA, stepOp, pureOp, allocOp, readOp, effOp, ev, evs, evO, Env.get_cons, putE, binA, intBin, unA, AV.fit, AV.toCells, partC, partP, mkCells, allP, mkAgg, Cells.len, target, lenA, h.t1, h.t11, hi']; rfl, ⟨by simp [Env.get_cons, h.t1], by simp [Env.get_cons, h.t6], by simp [Env.get_cons, h.t7], by simp [Env.get_cons, h.t8], by simp [Env.get_cons, h.t9], by simp [Env.get_cons, h.t10], by simp [Env.get_cons, h.t11]⟩⟩
  obtain ⟨ρ1, x1, a1⟩ := e
  have d1 := flat_v x i _ hv
  have d2 : i * 4 + 4 ≤ (vcs x).length := by rw [vcs_len]; omega
  have d3 : 4 ≤ (vcs x).length - i * 4 := by omega
  obtain ⟨vr, wm, ty, rfl, _, ho1⟩ := ho
  have hlt : 1 < σ.length := (List.getElem?_eq_some_iff.1 ho1).1
  have hq := eq_self v
  obtain ⟨y0, y1, y2, y3, hy⟩ := four' v
  rw [hy] at d1 hq
  have hdr : ∃ ρ2, drawRun C 0 ops3 ⟨⟨ρ1, [], σ⟩, [], []⟩ = some (none, ⟨⟨ρ2, [], σ⟩, [(3, 1)], []⟩) ∧ ρ2.get 51 = some (.p (.bool false)) := by
    have a6 := a1.t6
    have a11 := a1.t11
    have a1' := a1.t1
    generalize vcs x = cx at *
    generalize x.length = n at *
    exact ⟨_, by simp [ops3, exec, runOps, wantedA, stepOp, pureOp, allocOp, readOp, effOp, ev, evs, evO, Env.get_cons, putE, binA, intBin, unA, AV.fit, AV.toCells, partC, partP, mkCells, allP, mkAgg, Cells.len, target, evParts, fillA, AV.cells, splice, spliceC, finA, leaveA, resA, resV, ansV, drawRun, stillOp, keepE, readsOf, isE, opds, tmpsOf, carry, refOf, refV, valsOp, oneH, wrIds, touch, collect, idsL, idsV, idsO, lenA, idxA, a1', a6, a11, hi, hi', d1, d2, d3, ho1, hq]; rfl, by simp [Env.get_cons]⟩
  obtain ⟨ρ2, x2, g51⟩ := hdr
  have k2 := dr_above (m := 43) (u := 43) x2 (by rfl)
  have hp : okP σ.length [(3, 1)] [] := ⟨fun r hr => by simp at hr; rw [hr]; exact hlt, fun r hr => by simp at hr⟩
  have a2 : At3 x (.sl 1 vr 0 x.length 4) st p p' ρ2 i := ⟨(k2 1 (by omega) (by omega)).trans a1.t1, (k2 6 (by omega) (by omega)).trans a1.t6, (k2 7 (by omega) (by omega)).trans a1.t7, (k2 8 (by omega) (by omega)).trans a1.t8, (k2 9 (by omega) (by omega)).trans a1.t9, (k2 10 (by omega) (by omega)).trans a1.t10, (k2 11 (by omega) (by omega)).trans a1.t11⟩
  have x3 : exec C L c3 ⟨ρ2, [], σ⟩ = some (.normal, ⟨ρ2, [], σ⟩) := by simp [c3, blkC, fstC, sndC, body3, exec, ev, g51]
  have e4 : ∃ ρ', exec C L step3 ⟨ρ2, [], σ⟩ = some (.normal, ⟨ρ', [], σ⟩) ∧ At3 x (.sl 1 vr 0 x.length 4) st p p' ρ' (i + 1) :=
    ⟨_, by simp [step3, sndC, body3, exec, runOps, wantedA, stepOp, pureOp, allocOp, readOp, effOp, ev, evs, evO, Env.get_cons, putE, binA, intBin, unA, AV.fit, AV.toCells, partC, partP, mkCells, allP, mkAgg, Cells.len, target, a2.t11, e1]; rfl, ⟨by simp [Env.get_cons, a2.t1], by simp [Env.get_cons, a2.t6], by simp [Env.get_cons, a2.t7], by simp [Env.get_cons, a2.t8], by simp [Env.get_cons, a2.t9], by simp [Env.get_cons, a2.t10], by simp [Env.get_cons]⟩⟩
  obtain ⟨ρ4, x4, a4⟩ := e4
  exact ⟨ρ4, by rw [body3_eq, seqN x1, seqN (blockN ((seqN (draw_ok x2 hp)).trans x3))]; exact x4, a4⟩
theorem loop3 (σ : Heap) (hm : x.length ≤ 9223372036854775807) (ho : Lent σ s x) : ∀ (d i f : Nat) (ρ : Env), i + d = x.length → d < f → At3 x s st p p' ρ i →
    ∃ ρ', iter (exec C L body3) none f ⟨ρ, [], σ⟩ = some (.exit 0, ⟨ρ', [], σ⟩) ∧ At3 x s st p p' ρ' x.length
  | 0, i, f, ρ, hd, hf, h => by
    obtain ⟨f, rfl⟩ : ∃ m, f = m + 1 := ⟨f - 1, by omega⟩
    obtain rfl : i = x.length := by omega
    obtain ⟨ρ', e, h'⟩ := stop3 C L x s st p p' ρ σ h
    exact ⟨ρ', by simp only [iter, St.keep, e], h'⟩
  | d + 1, i, f, ρ, hd, hf, h => by
    obtain ⟨f, rfl⟩ : ∃ m, f = m + 1 := ⟨f - 1, by omega⟩
    have hi : i < x.length := by omega
    obtain ⟨ρ1, e, h1⟩ := go3 C L x s st p p' ρ σ i x[i] (List.getElem?_eq_getElem hi) hm ho h
    obtain ⟨ρ', e', h'⟩ := loop3 σ hm ho d (i + 1) f ρ1 (by omega) (by omega) h1
    exact ⟨ρ', by simp only [iter, St.keep, e]; exact e', h'⟩
end
end Go.Ab.Cnt

/- EvalTotals: the law answers true. -/
set_option maxRecDepth 1000000
namespace Go.Ab.Cnt
open Go Go.Ab Go.Ab.Key Go.Proofs
variable [Marks]
theorem set_app (o : Obj) (b c : Obj) : ([o, b] : Heap).set 1 c = [o, c] := rfl
section
variable (C : Oracle) (D : DOracle) (L : Nat) (op : List UInt8) (N : ND) (x : List V)
theorem gone3 (l : List Raw) (hr : l.all Raw.right = false ∨ 400 < l.length) (h7 : ∀ σ, C 7 [.p (.vsl (raws l) l.length)] σ = some (.ret (.p (.bool (l.all Raw.right))), σ)) (h8 : ∀ σ, C 8 [] σ = some (.ret (.p (.bool true)), σ)) :
    ∃ ρ' σ', exec C L (.seq p3_1 (.seq p3_2 p3_3)) ⟨params 0 [.p (.agg (nodeA op N)), .p (.vsl (raws l) l.length)], [], []⟩ = some (.ret, ⟨ρ', [], σ'⟩) ∧ ρ'.get 4 = some (.p (.bool true)) := by
  cases ha : l.all Raw.right with
  | false =>
    rw [ha] at h7
    exact ⟨_, _, by simp [p3_1, p3_2, p3_3, params, nodeA, exec, runOps, wantedA, stepOp, pureOp, allocOp, readOp, effOp, ev, evs, evO, Env.get_cons, putE, binA, intBin, unA, AV.fit, AV.toCells, partC, partP, mkCells, allP, mkAgg, Cells.len, target, h7, h8, lenA]; exact ⟨rfl, rfl⟩, by simp [Env.get_cons]⟩
  | true =>
    rw [ha] at h7
    have hl : 400 < l.length := by
      rcases hr with h | h
      · rw [h] at ha; cases ha
      · exact h
    have hl' : (400 : Int) < (l.length : Int) := by omega
    exact ⟨_, _, by simp [p3_1, p3_2, p3_3, params, nodeA, exec, runOps, wantedA, stepOp, pureOp, allocOp, readOp, effOp, ev, evs, evO, Env.get_cons, putE, binA, intBin, unA, AV.fit, AV.toCells, partC, partP, mkCells, allP, mkAgg, Cells.len, target, h7, h8, lenA, hl, hl']; exact ⟨rfl, rfl⟩, by simp [Env.get_cons]⟩
theorem stay3 (hl : x.length ≤ 400) (h7 : ∀ σ, C 7 [.p (.vsl (vcs x) x.length)] σ = some (.ret (.p (.bool true)), σ)) :
    ∃ ρ' σ' s, exec C L (.seq p3_1 (.seq p3_2 (.seq p3_3 p3_4))) ⟨params 0 [.p (.agg (nodeA op N)), .p (.vsl (vcs x) x.length)], [], []⟩ = some (.normal, ⟨ρ', [], σ'⟩) ∧ Lent σ' s x ∧ σ'[0]? = some (.arr (.pv (nodeA op N)) 0 0 none) ∧
      ρ'.get 1 = some (.p (.vsl (vcs x) x.length)) ∧ ρ'.get 2 = some (.ptr 0 0 0) ∧ ρ'.get 6 = some s := by
  have hl' : ¬ (400 : Int) < (x.length : Int) := by omega
  have hl'' : ¬ 400 < x.length := by omega
  have hvl := vcs_len x
  by_cases hx : x = []
  · subst hx
    simp only [show vcs [] = [] from rfl, List.length_nil] at h7 ⊢
    exact ⟨_, _, .sl 1 0 0 0 4, by simp [p3_1, p3_2, p3_3, p3_4, params, nodeA, exec, runOps, wantedA, stepOp, pureOp, allocOp, readOp, effOp, ev, evs, evO, Env.get_cons, putE, binA, intBin, unA, AV.fit, AV.toCells, partC, partP, mkCells, allP, mkAgg, Cells.len, target, evParts, fillA, AV.cells, splice, spliceC, finA, leaveA, resA, resV, ansV, h7, lenA, repCells, elemsA, appendTo, takeC, dropC]; exact ⟨rfl, rfl⟩, ⟨0, 0, none, rfl, Nat.le_refl _, rfl⟩, rfl, by simp [Env.get_cons], by simp [Env.get_cons], by simp [Env.get_cons]⟩
  · have hn : ¬ x.length = 0 := fun h => hx (List.eq_nil_of_length_eq_zero h)
    have hLIM : x.length ≤ LIM := Nat.le_trans hl (by decide)
    have key : ∃ ρ', exec C L (.seq p3_1 (.seq p3_2 (.seq p3_3 p3_4))) ⟨params 0 [.p (.agg (nodeA op N)), .p (.vsl (vcs x) x.length)], [], []⟩ = some (.normal, ⟨ρ', [], [.arr (.pv (nodeA op N)) 0 0 none, .arr (.pv (vcs x)) 1 0 none]⟩) ∧
        ρ'.get 1 = some (.p (.vsl (vcs x) x.length)) ∧ ρ'.get 2 = some (.ptr 0 0 0) ∧ ρ'.get 6 = some (.sl 1 1 0 x.length 4) :=
      ⟨_, by simp [p3_1, p3_2, p3_3, p3_4, params, nodeA, exec, runOps, wantedA, stepOp, pureOp, allocOp, readOp, effOp, ev, evs, evO, Env.get_cons, putE, binA, intBin, unA, AV.fit, AV.toCells, partC, partP, mkCells, allP, mkAgg, Cells.len, target, evParts, fillA, AV.cells, splice, spliceC, finA, leaveA, resA, resV, ansV, h7, lenA, repCells, elemsA, appendTo, takeC, dropC, catC, hl', hl'', hvl, hx, hn, hLIM]; rfl, by simp [Env.get_cons], by simp [Env.get_cons], by simp [Env.get_cons]⟩
    obtain ⟨ρ', e, g1, g2, g6⟩ := key
    exact ⟨ρ', _, _, e, ⟨1, 0, none, rfl, Nat.zero_le _, rfl⟩, rfl, g1, g2, g6⟩
theorem total3 (ρ : Env) (σ : Heap) (s : AV) (r : V) (st : List UInt8) (ho : Lent σ s x) (o0 : σ[0]? = some (.arr (.pv (nodeA op N)) 0 0 none)) (t1 : ρ.get 1 = some (.p (.vsl (vcs x) x.length))) (t2 : ρ.get 2 = some (.ptr 0 0 0)) (t6 : ρ.get 6 = some s)
    (h9 : ∀ {σ : Heap}, Lent σ s x → ∃ σ1, C 9 [.p (.agg (nodeA op N)), s] σ = some (.ret (.p (.tup [.agg (vc r), .str st])), σ1) ∧ Lent σ1 s x ∧ σ1[0]? = σ[0]? ∧ σ1.length = σ.length)
    (h10 : ∀ σ, C 10 [.p (.agg (nodeA op N)), .p (.vsl (vcs x) x.length)] σ = some (.ret (.p (.tup [.agg (vc r), .str st])), σ)) :
    ∃ ρ' σ' p p', exec C L (.seq p3_5 (.seq p3_6 (fstC p3_7))) ⟨ρ, [], σ⟩ = some (.normal, ⟨ρ', [], σ'⟩) ∧ Lent σ' s x ∧ At3 x s st p p' ρ' 0 ∧ (∃ ty, σ'[p]? = some (.arr (.pv (vc r)) 0 0 ty)) ∧ ∃ ty, σ'[p']? = some (.arr (.pv (vc r)) 0 0 ty) := by
  obtain ⟨σ1, e9, ho1, z0, zl⟩ := h9 ho
  have o01 : σ1[0]? = some (.arr (.pv (nodeA op N)) 0 0 none) := z0.trans o0
  have hl0 : 0 < σ1.length := (List.getElem?_eq_some_iff.1 o01).1
  simp only [nodeA] at o0 o01 e9 h10
  obtain ⟨z0, z1, z2, z3, hz⟩ := four' r
  rw [hz] at e9 h10 ⊢
  have hlast : ∀ (b : Obj), (σ1 ++ [b])[σ1.length]? = some b := fun b => by simp
  have hs := set_last σ1
  have o01' : ∀ b : Obj, (σ1 ++ [b])[0]? = some (.arr (.pv [.str op, .str N.S, .int .i64 N.N, N.L]) 0 0 none) := fun b => by rw [List.getElem?_append_left hl0]; exact o01
  have e5 : ∃ ρ', exec C L p3_5 ⟨ρ, [], σ⟩ = some (.normal, ⟨ρ', [], σ1 ++ [.arr (.pv [z0, z1, z2, z3]) 0 0 (some 30)]⟩) ∧ ρ'.get 1 = some (.p (.vsl (vcs x) x.length)) ∧ ρ'.get 2 = some (.ptr 0 0 0) ∧ ρ'.get 6 = some s ∧ ρ'.get 7 = some (.ptr σ1.length 0 0) ∧ ρ'.get 8 = some (.p (.str st)) :=
    ⟨_, by simp [p3_5, exec, runOps, wantedA, stepOp, pureOp, allocOp, readOp, effOp, ev, evs, evO, Env.get_cons, putE, binA, intBin, unA, AV.fit, AV.toCells, partC, partP, mkCells, allP, mkAgg, Cells.len, target, evParts, fillA, AV.cells, splice, spliceC, finA, leaveA, resA, resV, ansV, extractA, t2, t6, o0, e9, ↓hlast, ↓hs]; rfl, by simp [Env.get_cons, t1], by simp [Env.get_cons, t2], by simp [Env.get_cons, t6], by simp [Env.get_cons], by simp [Env.get_cons]⟩
  obtain ⟨ρ5, e5, a1, a2, a6, a7, a8⟩ := e5
  have hob : (σ1 ++ [Obj.arr (.pv [z0, z1, z2, z3]) 0 0 (some 30)])[σ1.length]? = some (.arr (.pv [z0, z1, z2, z3]) 0 0 (some 30)) := hlast _
  have ho2 := ho1.push [.arr (.pv [z0, z1, z2, z3]) 0 0 (some 30)]
  have o02 := o01' (.arr (.pv [z0, z1, z2, z3]) 0 0 (some 30))
  generalize σ1 ++ [Obj.arr (.pv [z0, z1, z2, z3]) 0 0 (some 30)] = σ2 at *
  have hlast2 : ∀ (b : Obj), (σ2 ++ [b])[σ2.length]? = some b := fun b => by simp
  have hs2 := set_last σ2
  have e6 : ∃ ρ', exec C L (.seq p3_6 (fstC p3_7)) ⟨ρ5, [], σ2⟩ = some (.normal, ⟨ρ', [], σ2 ++ [.arr (.pv [z0, z1, z2, z3]) 0 0 (some 30)]⟩) ∧ At3 x s st σ1.length σ2.length ρ' 0 :=
    ⟨_, by simp [p3_6, p3_7, fstC, exec, runOps, wantedA, stepOp, pureOp, allocOp, readOp, effOp, ev, evs, evO, Env.get_cons, putE, binA, intBin, unA, AV.fit, AV.toCells, partC, partP, mkCells, allP, mkAgg, Cells.len, target, evParts, fillA, AV.cells, splice, spliceC, finA, leaveA, resA, resV, ansV, extractA, a1, a2, o02, h10, ↓hlast2, ↓hs2]; rfl, ⟨by simp [Env.get_cons, a1], by simp [Env.get_cons, a6], by simp [Env.get_cons, a7], by simp [Env.get_cons, a8], by simp [Env.get_cons], by simp [Env.get_cons], by simp [Env.get_cons]⟩⟩
  obtain ⟨ρ6, e6, h6⟩ := e6
  refine ⟨ρ6, _, σ1.length, σ2.length, by rw [seqN e5]; exact e6, ho2.push _, h6, ⟨_, by rw [List.getElem?_append_left (List.getElem?_eq_some_iff.1 hob).1]; exact hob⟩, _, hlast2 _⟩
theorem last3 (ρ : Env) (σ : Heap) (s : AV) (r : V) (st : List UInt8) (p p' i : Nat) (h : At3 x s st p p' ρ i) (op1 : ∃ ty, σ[p]? = some (.arr (.pv (vc r)) 0 0 ty)) (op2 : ∃ ty, σ[p']? = some (.arr (.pv (vc r)) 0 0 ty)) (h8 : ∀ σ, C 8 [] σ = some (.ret (.p (.bool true)), σ)) :
    ∃ ρ', exec C L p3_r ⟨ρ, [], σ⟩ = some (.ret, ⟨ρ', [], σ⟩) ∧ ρ'.get 4 = some (.p (.bool true)) := by
  obtain ⟨ty, op1⟩ := op1
  obtain ⟨ty', op2⟩ := op2
  have hq := eq_self r
  obtain ⟨z0, z1, z2, z3, hz⟩ := four' r
  rw [hz] at op1 op2 hq
  have hst : strBin .eql st st = some (.bool true) := by simp [strBin]
  exact ⟨_, by simp [p3_r, exec, runOps, wantedA, stepOp, pureOp, allocOp, readOp, effOp, ev, evs, evO, Env.get_cons, putE, binA, intBin, unA, AV.fit, AV.toCells, partC, partP, mkCells, allP, mkAgg, Cells.len, target, h8, h.t7, h.t8, h.t9, h.t10, op1, op2, hq, hst]; rfl, by simp [Env.get_cons]⟩
end
end Go.Ab.Cnt

/- EvalTotals: the law, whole. -/
set_option maxRecDepth 1000000
namespace Go.Ab.Cnt
open Go Go.Ab Go.Ab.Key Go.Proofs
variable [Marks]
def codeOf : Option FImpl → AFunc
  | some (.code af _) => af
  | _ => default
theorem q8 : TC 8 = some (.code (codeOf (TC 8)) true) := by kernel_rfl
theorem fit8 : fits (codeOf (TC 8)) ([].map AV.p) = true := by kernel_rfl
theorem alive (L n : Nat) (σ : Heap) : (cAt TC (L + 100) (n + 30)).1 8 [] σ = some (.ret (.p (.bool true)), σ) :=
  call_ans (ps := []) q8 fit8 (by kernel_rfl) σ
theorem q3 : TC 3 = some (.code lit3 true) := by kernel_rfl
/-- the numbers of right values are the raw ones -/
theorem raws_num {l : List Raw} {x : List V} (h : raws l = vcs x) (hl : x.length = l.length) {b : Int} (hb : V.num b ∈ x) : ∃ r ∈ l, r.n = b := by
  obtain ⟨i, hi, hx⟩ := List.mem_iff_getElem.1 hb
  have h1 := flat_v x i _ (by rw [List.getElem?_eq_getElem hi, hx])
  have hi' : i < l.length := by omega
  have h2 := flat_at Raw.cells (fun r => rfl) l i l[i] (List.getElem?_eq_getElem hi')
  have h3 : ((l.map Raw.cells).flatten.drop (i * 4)).take 4 = vc (.num b) := by
    rw [show (l.map Raw.cells).flatten = raws l from rfl, h]
    exact h1
  rw [h2] at h3
  simp only [Raw.cells, vcn, List.cons.injEq, PV.int.injEq, true_and] at h3
  exact ⟨l[i], List.getElem_mem hi', h3.2.1⟩
theorem seq4R {C : Oracle} {L : Nat} {a b c d : ACode} {st st1 : St} (h : exec C L (.seq a (.seq b c)) st = some (.ret, st1)) : exec C L (.seq a (.seq b (.seq c d))) st = some (.ret, st1) := by
  simp only [exec] at h ⊢
  split at h
  · split at h
    · simp_all
    · simp_all
  · simp_all
theorem fin3 {D : DOracle} {ρ : Env} {σ : Heap} (g : ρ.get 4 = some (.p (.bool true))) : ansV (finX D lit3 (some (.ret, ⟨ρ, [], σ⟩))) = some (.bool true) := by
  simp [finX, finA, leaveA, resA, resV, ansV, lit3, g]
theorem assoc5 {C : Oracle} {L : Nat} (a b c d e : ACode) (st : St) : exec C L (.seq a (.seq b (.seq (.seq c d) e))) st = exec C L (.seq a (.seq b (.seq c (.seq d e)))) st := assoc3 a b c d e st
section
variable (L n : Nat)
theorem law3 (op : List UInt8) (N : ND) (l : List Raw) (hL : l.length < L + 100) (hm : l.length ≤ 9223372036854775807) (ht : ∀ r ∈ l, r.s.length ≤ maxLen) (hin : ∀ r ∈ l, in64 r.n) (hLm : maxLen < L + 100) (σ : Heap) :
    (cAt TC (L + 100) (n + 31)).1 3 [.p (.agg (nodeA op N)), .p (.vsl (raws l) l.length)] σ = some (.ret (.p (.bool true)), σ) := by
  refine call_ans (ps := [.agg (nodeA op N), .vsl (raws l) l.length]) (n := n + 30) q3 rfl ?_ σ
  have h7 := rights7 (L + 100) (n + 28) l hL hm
  have h8 := alive L n
  rw [runFunc_eq, p3_eq]
  simp only [List.map_cons, List.map_nil]
  by_cases hr : l.all Raw.right = false ∨ 400 < l.length
  · obtain ⟨ρ', σ', e, g⟩ := gone3 (cAt TC (L + 100) (n + 30)).1 (L + 100) op N l hr h7 h8
    rw [seq4R e]
    exact fin3 g
  · have hr1 : l.all Raw.right = true := by
      cases h : l.all Raw.right with
      | true => rfl
      | false => exact absurd (.inl h) hr
    have hr2 : l.length ≤ 400 := by
      have : ¬ 400 < l.length := fun h => hr (.inr h)
      omega
    obtain ⟨x, hx, hxl, hxt⟩ := raws_right l hr1
    have hsh : ∀ v ∈ x, short v := fun v hv s hs => by
      obtain ⟨r, hr, hrs⟩ := hxt s (hs ▸ hv)
      rw [← hrs]
      exact ht r hr
    have hnum : ∀ v ∈ x, ∀ b, v = .num b → in64 b := fun v hv b hb => by
      obtain ⟨r, hr, hrn⟩ := raws_num hx hxl (hb ▸ hv)
      rw [← hrn]
      exact hin r hr
    rw [hr1] at h7
    rw [hx, ← hxl] at h7 ⊢
    have hlim : x.length ≤ LIM := Nat.le_trans (by omega) (show 400 ≤ LIM by decide)
    have c9 := fun σ => eval_total (L + 100) (n + 22) op N x hlim (by omega) (by omega) (fun s hs => hsh _ hs s rfl) σ
    have c10 := fun σ => ref_total (L + 100) (n + 22) op N x hlim (by omega) hLm hsh hnum σ
    have h9 : ∀ {σ : Heap} {s : AV}, Lent σ s x → ∃ σ1, (cAt TC (L + 100) (n + 30)).1 9 [.p (.agg (nodeA op N)), s] σ = some (.ret (.p (.tup [.agg (vc (totV op (keptN N x)).1), .str (totV op (keptN N x)).2])), σ1) ∧ Lent σ1 s x ∧ σ1[0]? = σ[0]? ∧ σ1.length = σ.length := by
      intro σ s ho
      obtain ⟨σ1, h1, h2, h3, h4⟩ := lent_frz (.agg (nodeA op N)) ho
      exact ⟨σ1, (cAt_frz (n := n + 29) q9 h1).trans (c9 σ1), h2, h3, h4⟩
    obtain ⟨ρ0, σ0, s, e0, ho, o0, t1, t2, t6⟩ := stay3 (cAt TC (L + 100) (n + 30)).1 (L + 100) op N x (by omega) h7
    generalize (cAt TC (L + 100) (n + 30)).2 = D
    obtain ⟨ρ1, σ1, p, p', e1, ho1, h1, op1, op2⟩ := total3 (cAt TC (L + 100) (n + 30)).1 (L + 100) op N x ρ0 σ0 s _ _ ho o0 t1 t2 t6 (fun ho => h9 ho) c10
    obtain ⟨ρ2, e2, h2⟩ := loop3 (cAt TC (L + 100) (n + 30)).1 (L + 100) x s _ p p' σ1 (by omega) ho1 x.length 0 (L + 100) ρ1 (by omega) (by omega) h1
    obtain ⟨ρ3, e3, g3⟩ := last3 (cAt TC (L + 100) (n + 30)).1 (L + 100) x ρ2 σ1 s _ _ p p' _ h2 op1 op2 h8
    have e2' : exec (cAt TC (L + 100) (n + 30)).1 (L + 100) (.block 0 (.loop none body3)) ⟨ρ1, [], σ1⟩ = some (.normal, ⟨ρ2, [], σ1⟩) := by simp only [exec, e2, if_true]
    rw [p3_7_eq, seq4M e0, assoc5, seq3M e1, seqN e2', e3]
    exact fin3 g3
end
end Go.Ab.Cnt
