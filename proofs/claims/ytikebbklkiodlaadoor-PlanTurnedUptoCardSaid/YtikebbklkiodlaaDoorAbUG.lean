/- PlanTurned: Path's loop over the clauses. -/
import Derived.Test.YtikebbklkiodlaaDoorAbUC
set_option linter.unusedSectionVars false
set_option linter.unusedSimpArgs false
set_option linter.unusedVariables false
set_option maxRecDepth 1000000
namespace Go.Ab.Turn
open Go Go.Ab Go.Ab.Plan Go.Ab.Key Go.Ab.Cnt Go.Proofs
variable [Marks]
abbrev clsC (l : List Cl) : List PV := l.flatMap clC
abbrev saidL (acc : List T) : List Cl := acc.filterMap (read slT)
abbrev K17 : List Nat × ACode × ACode := ([31], xaOf n17_4_2k, xbOf n17_4_2k)
theorem vc_four (v : V) : ∃ a b c d, vc v = [a, b, c, d] := by cases v <;> exact ⟨_, _, _, _, rfl⟩
theorem clC_len (c : Cl) : (clC c).length = 6 := by
  obtain ⟨a, b, c', d, e⟩ := vc_four (litV c.v)
  simp [clC, e]
/-- Path's list, while it is gathered -/
def gath (k : List Nat) (l : Nat) : YInv where
  I acc O σ := ∃ b ts c, O = l :: 0 :: 1 :: 3 :: own b ∧ σ[l]? = some (.loop K17 ts c .ready) ∧ (zipE ts c.toList).get 3 = some (.ptr 0 0 0) ∧ (zipE ts c.toList).get 5 = some (.ptr 1 0 0) ∧ (zipE ts c.toList).get 7 = some (.ptr 3 0 0) ∧
    σ[0]? = some (.arr (.pv (tblC k)) 0 0 none) ∧ σ[1]? = some (.arr (.pv [.int .i64 0]) 0 0 none) ∧ σ[3]? = some (.arr (.av [b]) 0 0 (some 67)) ∧ Buf 75 6 σ b (clsC (saidL acc)) (saidL acc).length ∧ (∀ j ∈ own b, 4 ≤ j ∧ j ≠ l) ∧ 4 ≤ l
  lt := by
    rintro acc O σ ⟨b, ts, c, rfl, h1, _, _, _, h2, h3, h4, h5, _⟩ j hj
    simp only [List.mem_cons] at hj
    rcases hj with rfl | rfl | rfl | rfl | hj
    · exact (List.getElem?_eq_some_iff.1 h1).1
    · exact (List.getElem?_eq_some_iff.1 h2).1
    · exact (List.getElem?_eq_some_iff.1 h3).1
    · exact (List.getElem?_eq_some_iff.1 h4).1
    · exact h5.lt hj
  ext := by
    rintro acc O σ σ' ⟨b, ts, c, rfl, h1, a1, a2, a3, h2, h3, h4, h5, h6⟩ he
    exact ⟨b, ts, c, rfl, by rw [he l (by simp)]; exact h1, a1, a2, a3, by rw [he 0 (by simp)]; exact h2, by rw [he 1 (by simp)]; exact h3, by rw [he 3 (by simp)]; exact h4, h5.same fun j hj => he j (by simp [hj]), h6⟩
theorem gath_ok {Tb : Table} {L m : Nat} (k : List Nat) (hr : Tb 4294967295 = some .rnd) (hraw : Marks.raw 4294967295 = true)
    (h23 : ∀ n, m ≤ n → ∀ t, okT t → ∃ c b, (∀ σ, (cAt Tb L n).1 23 [.p (tbl k), .p (node t), int 0] σ = some (.ret (.p (.tup [.agg c, .bool b])), σ)) ∧ Ok23 (read slT t) c b ∧ c.length = 6) (l : Nat) : YOK Tb L (m + 1) l (gath k l) := by
  intro n hn acc O σ t ht hac hI
  obtain ⟨n, rfl⟩ : ∃ k, n = k + 1 := ⟨n - 1, by omega⟩
  obtain ⟨b, ts, cc, rfl, h1, a3, a5, a7, o0, o1, o3, hb, hob, hl4⟩ := hI
  obtain ⟨c, q, hC, hO, hcl⟩ := h23 n (by omega) t ht
  have hl : l < σ.length := (List.getElem?_eq_some_iff.1 h1).1
  have h3l : 3 < σ.length := (List.getElem?_eq_some_iff.1 o3).1
  have hcell : ∃ p q r s, cells t = [p, q, r, s] := by cases t; exact ⟨_, _, _, _, rfl⟩
  obtain ⟨p1, p2, p3, p4, ec⟩ := hcell
  have hsz : (saidL acc).length ≤ acc.length := List.length_filterMap_le _ _
  have ra : exec (cAt Tb L n).1 L (xaOf n17_4_2k) ⟨rndEnv [31] [.p (node t)] (zipE ts cc.toList), [], σ⟩ = some (.normal, ⟨(8, .ptr σ.length 0 0) :: (31, .p (node t)) :: zipE ts cc.toList, [], σ ++ [.arr (.pv (cells t)) 0 0 (some 45)]⟩) := by
    simp [xaOf, n17_4_2k, rndEnv, exec, runOps, wantedA, stepOp, pureOp, allocOp, readOp, effOp, ev, evs, evO, Env.get_cons, putE, binA, intBin, unA, AV.fit, AV.toCells, partC, partP, mkCells, allP, mkAgg, Cells.len, target, evParts, fillA, AV.cells, splice, spliceC, finA, leaveA, resA, resV, ansV, Cells.toList, node, ec]
  obtain ⟨σb, hσb⟩ : ∃ σb, σb = (σ ++ [Obj.arr (.pv (cells t)) 0 0 (some 45)]).set l (.loop K17 ts cc .busy) := ⟨_, rfl⟩
  have hlen : σb.length = σ.length + 1 := by rw [hσb]; simp
  have hold : ∀ j, j < σ.length → j ≠ l → σb[j]? = σ[j]? := fun j hj hjl => by rw [hσb, List.getElem?_set_ne (Ne.symm hjl), List.getElem?_append_left hj]
  have hbusy : σb[l]? = some (.loop K17 ts cc .busy) := by rw [hσb]; exact List.getElem?_set_self (by simp; omega)
  have gt : σb[σ.length]? = some (.arr (.pv (cells t)) 0 0 (some 45)) := by rw [hσb, List.getElem?_set_ne (by omega)]; simp
  have g0 : σb[0]? = some (.arr (.pv (tblC k)) 0 0 none) := by rw [hold 0 (by omega) (by omega)]; exact o0
  have g1 : σb[1]? = some (.arr (.pv [.int .i64 0]) 0 0 none) := by rw [hold 1 (by omega) (by omega)]; exact o1
  have g3 : σb[3]? = some (.arr (.av [b]) 0 0 (some 67)) := by rw [hold 3 (by omega) (by omega)]; exact o3
  have hbb : Buf 75 6 σb b (clsC (saidL acc)) (saidL acc).length := hb.same fun j hj => hold j (hb.lt hj) (hob j hj).2
  have key : ∃ ρ2 σ2 b2, exec (cAt Tb L n).1 L (xbOf n17_4_2k) ⟨(8, .ptr σ.length 0 0) :: (31, .p (node t)) :: zipE ts cc.toList, [], σb⟩ = some (.normal, ⟨ρ2, [], σ2⟩) ∧ σ2[3]? = some (.arr (.av [b2]) 0 0 (some 67)) ∧ Buf 75 6 σ2 b2 (clsC (saidL (acc ++ [t]))) (saidL (acc ++ [t])).length ∧
      σb.length ≤ σ2.length ∧ (∀ j, j < σb.length → j ≠ 3 → j ∉ own b → σ2[j]? = σb[j]?) ∧ (∀ j ∈ own b2, j ∈ own b ∨ σb.length ≤ j) := by
    have hC' := hC
    generalize zipE ts cc.toList = E at a3 a5 a7 ⊢
    generalize (cAt Tb L n).1 = C at hC' ⊢
    simp only [node, ec, tbl, tblC] at hC' gt g0 ⊢
    obtain ⟨c1, c2, c3, c4, c5, c6, rfl⟩ : ∃ c1 c2 c3 c4 c5 c6, c = [c1, c2, c3, c4, c5, c6] := by
      match c, hcl with
      | [c1, c2, c3, c4, c5, c6], _ => exact ⟨_, _, _, _, _, _, rfl⟩
    cases q with
    | false =>
      have hn : read slT t = none := by
        cases h : read slT t with
        | none => rfl
        | some cl => rw [h] at hO; exact absurd hO.1 (by decide)
      have hs : saidL (acc ++ [t]) = saidL acc := by simp [saidL, hn]
      rw [hs]
      refine ⟨_, σb ++ [.arr (.pv [c1, c2, c3, c4, c5, c6]) 0 0 (some 75)], b, by simp [xbOf, n17_4_2k, exec, runOps, wantedA, stepOp, pureOp, allocOp, readOp, effOp, ev, evs, evO, Env.get_cons, putE, binA, intBin, unA, AV.fit, AV.toCells, partC, partP, mkCells, allP, mkAgg, Cells.len, target, evParts, fillA, AV.cells, splice, spliceC, finA, leaveA, resA, resV, ansV, extractA, takeC, dropC, Cells.get?, Cells.toList, a3, a5, a7, g0, g1, gt, hC']; rfl, ?_, hbb.push _, by simp, fun j hj _ _ => List.getElem?_append_left hj, fun j hj => .inl hj⟩
      rw [List.getElem?_append_left (by omega)]; exact g3
    | true =>
      obtain ⟨cl, hcl, hce⟩ : ∃ cl, read slT t = some cl ∧ [c1, c2, c3, c4, c5, c6] = clC cl := by
        cases h : read slT t with
        | none => rw [h] at hO; exact absurd hO.1 (by decide)
        | some cl => rw [h] at hO; exact ⟨cl, rfl, hO.2⟩
      have hs : saidL (acc ++ [t]) = saidL acc ++ [cl] := by simp [saidL, hcl]
      have hs2 : clsC (saidL acc ++ [cl]) = clsC (saidL acc) ++ [c1, c2, c3, c4, c5, c6] := by simp [clsC, hce]
      rw [hs, hs2, List.length_append]
      obtain ⟨b2, σ2, hA, hb2, hfr, hle, hown⟩ := (hbb.push [.arr (.pv [c1, c2, c3, c4, c5, c6]) 0 0 (some 75), .arr (.pv [c1, c2, c3, c4, c5, c6]) 0 0 none]).app [c1, c2, c3, c4, c5, c6] rfl (by omega)
      have h3b : 3 ∉ own b := fun hm => by have := (hob 3 hm).1; omega
      have f3 : σ2[3]? = some (.arr (.av [b]) 0 0 (some 67)) := by rw [hfr 3 (by simp; omega) h3b, List.getElem?_append_left (by omega)]; exact g3
      have g3' : ∀ τ : Heap, (σb ++ τ)[3]? = some (.arr (.av [b]) 0 0 (some 67)) := fun τ => by rw [List.getElem?_append_left (by omega)]; exact g3
      have h3l2 : 3 < σ2.length := (List.getElem?_eq_some_iff.1 f3).1
      obtain ⟨_, id2, ver2, rfl, _⟩ := hb2.2.resolve_left (by rintro ⟨_, h⟩; omega)
      refine ⟨_, σ2.set 3 (.arr (.av [.sl id2 ver2 0 ((saidL acc).length + 1) 6]) 0 0 (some 67)), .sl id2 ver2 0 ((saidL acc).length + 1) 6, by simp [xbOf, n17_4_2k, exec, runOps, wantedA, stepOp, pureOp, allocOp, readOp, effOp, ev, evs, evO, Env.get_cons, putE, binA, intBin, unA, AV.fit, AV.toCells, partC, partP, mkCells, allP, mkAgg, Cells.len, target, evParts, fillA, AV.cells, splice, spliceC, finA, leaveA, resA, resV, ansV, extractA, repCells, elemsA, takeC, dropC, Cells.get?, Cells.toList, a3, a5, a7, g0, g1, g3', gt, hC', hA, f3]; rfl, List.getElem?_set_self h3l2, hb2.same fun j hj => ?_, ?_, fun j hj hj3 hjb => ?_, fun j hj => ?_⟩
      · have : j ≠ 3 := fun h => by
          subst h
          rcases hown 3 hj with hm | hm
          · exact h3b hm
          · simp at hm; omega
        rw [List.getElem?_set_ne (Ne.symm this)]
      · simp at hle ⊢; omega
      · rw [List.getElem?_set_ne (Ne.symm hj3), hfr j (by simp; omega) hjb, List.getElem?_append_left hj]
      · rcases hown j hj with hm | hm
        · exact .inl hm
        · simp at hm; exact .inr (by omega)
  obtain ⟨ρ2, σ2, b2, rb, f3, hb2, hle, hfr, hown⟩ := key
  have hlb : l ∉ own b := fun hm => (hob l hm).2 rfl
  have gl : σ2[l]? = some (.loop K17 ts cc .busy) := by rw [hfr l (by omega) (by omega) hlb]; exact hbusy
  have hob2 : ∀ j ∈ own b2, 4 ≤ j ∧ j ≠ l := fun j hj => by
    rcases hown j hj with hm | hm
    · exact hob j hm
    · exact ⟨by omega, by omega⟩
  refine ⟨σ2.set l (.loop K17 ts cc .ready), l :: 0 :: 1 :: 3 :: own b2, ?_, ⟨b2, ts, cc, rfl, List.getElem?_set_self (List.getElem?_eq_some_iff.1 gl).1, a3, a5, a7, ?_, ?_, ?_, hb2.same fun j hj => ?_, hob2, hl4⟩, ⟨?_, fun j hj ho => ?_, fun j hj => ?_⟩⟩
  · simp only [cAt, callT, hr, hraw]
    exact round_run h1 rfl ra (by rw [List.getElem?_append_left hl]; exact h1) (by rw [← hσb]; exact rb) gl
  · rw [List.getElem?_set_ne (by omega), hfr 0 (by omega) (by omega) (fun hm => by have := (hob 0 hm).1; omega)]; exact g0
  · rw [List.getElem?_set_ne (by omega), hfr 1 (by omega) (by omega) (fun hm => by have := (hob 1 hm).1; omega)]; exact g1
  · rw [List.getElem?_set_ne (by omega)]; exact f3
  · rw [List.getElem?_set_ne (Ne.symm (hob2 j hj).2)]
  · simp; omega
  · simp only [List.mem_cons, not_or] at ho
    rw [List.getElem?_set_ne (Ne.symm ho.1), hfr j (by omega) ho.2.2.2.1 ho.2.2.2.2, hold j hj ho.1]
  · simp only [List.mem_cons] at hj ⊢
    rcases hj with rfl | rfl | rfl | rfl | hj
    · simp
    · simp
    · simp
    · simp
    · rcases hown j hj with hm | hm
      · simp [hm]
      · exact .inr (by omega)
end Go.Ab.Turn

/- PlanTurned: Encode: the code of a list of values. -/
set_option maxRecDepth 1000000
namespace Go.Ab.Turn.Enc
open Go Go.Ab Go.Ab.Key Go.Ab.Cnt Go.Ab.Turn Go.Proofs
variable [Marks]
def body9n : ACode := (((ACode.region [{ dst := some 30, op := AOp.mv (Opd.t 7), guard := none }, { dst := some 31, op := AOp.bin (Bin.plain BinOp.geq) (Opd.t 30) (Opd.c (AV.p (PV.int IntKind.i64 (0)))), guard := none }]).seq (ACode.cond (Opd.t 31) ACode.skip (ACode.exit 3))).seq ((ACode.block 4 (ACode.region [{ dst := some 34, op := AOp.mv (Opd.t 3), guard := none }, { dst := some 35, op := AOp.mv (Opd.t 6), guard := none }, { dst := some 36, op := AOp.mv (Opd.t 7), guard := none }, { dst := some 37, op := AOp.bin (Bin.plain BinOp.shr) (Opd.t 35) (Opd.t 36), guard := none }, { dst := some 38, op := AOp.convInt IntKind.u8 (Opd.t 37), guard := none }, { dst := some 39, op := AOp.buildSlice [AV.p (PV.int IntKind.u8 (0))] 1 1 [(0, 1, Opd.t 38)], guard := none }, { dst := some 40, op := AOp.append 5 1 [AV.p (PV.int IntKind.u8 (0))] (Opd.t 34) (Opd.t 39), guard := none }, { dst := some 3, op := AOp.mv (Opd.t 40), guard := none }])).seq (ACode.region [{ dst := some 32, op := AOp.mv (Opd.t 7), guard := none }, { dst := some 33, op := AOp.bin (Bin.plain BinOp.sub) (Opd.t 32) (Opd.c (AV.p (PV.int IntKind.i64 (8)))), guard := none }, { dst := some 7, op := AOp.mv (Opd.t 33), guard := none }])))
def body9 : ACode := ((ACode.region [{ dst := some 11, op := AOp.bin (Bin.plain BinOp.lss) (Opd.t 10) (Opd.t 9), guard := none }]).seq ((ACode.cond (Opd.t 11) ACode.skip (ACode.exit 0)).seq ((ACode.block 1 ((ACode.region [{ dst := some 12, op := AOp.idx 4 (Opd.t 8) (Opd.t 10), guard := none }, { dst := some 13, op := AOp.load true 4 (Opd.t 12), guard := none }, { dst := some 5, op := AOp.alloc 73 [AV.p (PV.int IntKind.i64 (0)), AV.p (PV.int IntKind.i64 (0)), AV.p (PV.str []), AV.p (PV.bool false)], guard := none }, { dst := none, op := AOp.store 4 (Opd.t 5) (Opd.t 13), guard := none }]).seq ((ACode.region [{ dst := some 14, op := AOp.fieldAddr 0 (Opd.t 5), guard := none }, { dst := some 15, op := AOp.load false 1 (Opd.t 14), guard := none }]).seq (ACode.block 2 ((ACode.region [{ dst := some 17, op := AOp.bin (Bin.plain BinOp.eql) (Opd.t 15) (Opd.c (AV.p (PV.int IntKind.i64 (0)))), guard := none }, { dst := some 16, op := AOp.mv (Opd.t 17), guard := none }]).seq (ACode.cond (Opd.t 16) (ACode.region [{ dst := some 18, op := AOp.mv (Opd.t 3), guard := none }, { dst := some 19, op := AOp.buildSlice [AV.p (PV.int IntKind.u8 (0))] 1 1 [(0, 1, Opd.c (AV.p (PV.int IntKind.u8 (1))))], guard := none }, { dst := some 20, op := AOp.append 5 1 [AV.p (PV.int IntKind.u8 (0))] (Opd.t 18) (Opd.t 19), guard := none }, { dst := some 3, op := AOp.mv (Opd.t 20), guard := none }]) ((ACode.region [{ dst := some 22, op := AOp.bin (Bin.plain BinOp.eql) (Opd.t 15) (Opd.c (AV.p (PV.int IntKind.i64 (1)))), guard := none }, { dst := some 21, op := AOp.mv (Opd.t 22), guard := none }]).seq (ACode.cond (Opd.t 21) ((ACode.region [{ dst := some 23, op := AOp.mv (Opd.t 3), guard := none }, { dst := some 24, op := AOp.buildSlice [AV.p (PV.int IntKind.u8 (0))] 1 1 [(0, 1, Opd.c (AV.p (PV.int IntKind.u8 (2))))], guard := none }, { dst := some 25, op := AOp.append 5 1 [AV.p (PV.int IntKind.u8 (0))] (Opd.t 23) (Opd.t 24), guard := none }, { dst := some 3, op := AOp.mv (Opd.t 25), guard := none }]).seq ((ACode.region [{ dst := some 26, op := AOp.fieldAddr 1 (Opd.t 5), guard := none }, { dst := some 27, op := AOp.load false 1 (Opd.t 26), guard := none }, { dst := some 28, op := AOp.convInt IntKind.u64 (Opd.t 27), guard := none }, { dst := some 29, op := AOp.bin (Bin.plain BinOp.xor) (Opd.t 28) (Opd.c (AV.p (PV.int IntKind.u64 (9223372036854775808)))), guard := none }, { dst := some 6, op := AOp.mv (Opd.t 29), guard := none }, { dst := some 7, op := AOp.mv (Opd.c (AV.p (PV.int IntKind.i64 (56)))), guard := none }]).seq (ACode.block 3 (ACode.loop none body9n)))) ((ACode.region [{ dst := some 42, op := AOp.bin (Bin.plain BinOp.eql) (Opd.t 15) (Opd.c (AV.p (PV.int IntKind.i64 (2)))), guard := none }, { dst := some 41, op := AOp.mv (Opd.t 42), guard := none }]).seq (ACode.cond (Opd.t 41) ((ACode.region [{ dst := some 43, op := AOp.mv (Opd.t 3), guard := none }, { dst := some 44, op := AOp.buildSlice [AV.p (PV.int IntKind.u8 (0))] 1 1 [(0, 1, Opd.c (AV.p (PV.int IntKind.u8 (3))))], guard := none }, { dst := some 45, op := AOp.append 5 1 [AV.p (PV.int IntKind.u8 (0))] (Opd.t 43) (Opd.t 44), guard := none }, { dst := some 3, op := AOp.mv (Opd.t 45), guard := none }]).seq ((ACode.region [{ dst := some 46, op := AOp.mv (Opd.t 3), guard := none }, { dst := some 47, op := AOp.fieldAddr 2 (Opd.t 5), guard := none }, { dst := some 48, op := AOp.load false 1 (Opd.t 47), guard := none }, { dst := some 49, op := AOp.call (Opd.c (AV.p (PV.fn 34))) [Opd.t 48, Opd.c (AV.p (PV.str [32]))], guard := none }, { dst := some 50, op := AOp.call (Opd.c (AV.p (PV.fn 33))) [Opd.t 49, Opd.c (AV.p (PV.str [0])), Opd.c (AV.p (PV.str [0, 255]))], guard := none }, { dst := some 51, op := AOp.append 5 1 [AV.p (PV.int IntKind.u8 (0))] (Opd.t 46) (Opd.t 50), guard := none }, { dst := some 3, op := AOp.mv (Opd.t 51), guard := none }]).seq (ACode.region [{ dst := some 52, op := AOp.mv (Opd.t 3), guard := none }, { dst := some 53, op := AOp.append 5 1 [AV.p (PV.int IntKind.u8 (0))] (Opd.t 52) (Opd.c (AV.p (PV.str [0, 0]))), guard := none }, { dst := some 3, op := AOp.mv (Opd.t 53), guard := none }]))) ((ACode.region [{ dst := some 55, op := AOp.bin (Bin.plain BinOp.eql) (Opd.t 15) (Opd.c (AV.p (PV.int IntKind.i64 (3)))), guard := none }, { dst := some 54, op := AOp.mv (Opd.t 55), guard := none }]).seq (ACode.cond (Opd.t 54) ((ACode.region [{ dst := some 56, op := AOp.mv (Opd.t 3), guard := none }, { dst := some 57, op := AOp.buildSlice [AV.p (PV.int IntKind.u8 (0))] 2 1 [(0, 1, Opd.c (AV.p (PV.int IntKind.u8 (4)))), (1, 1, Opd.c (AV.p (PV.int IntKind.u8 (0))))], guard := none }, { dst := some 58, op := AOp.append 5 1 [AV.p (PV.int IntKind.u8 (0))] (Opd.t 56) (Opd.t 57), guard := none }, { dst := some 3, op := AOp.mv (Opd.t 58), guard := none }]).seq ((ACode.region [{ dst := some 59, op := AOp.fieldAddr 3 (Opd.t 5), guard := none }, { dst := some 60, op := AOp.load false 1 (Opd.t 59), guard := none }]).seq (ACode.cond (Opd.t 60) (ACode.region [{ dst := some 61, op := AOp.mv (Opd.t 3), guard := none }, { dst := some 62, op := AOp.mv (Opd.t 3), guard := none }, { dst := some 63, op := AOp.len false (Opd.t 62), guard := none }, { dst := some 64, op := AOp.bin (Bin.plain BinOp.sub) (Opd.t 63) (Opd.c (AV.p (PV.int IntKind.i64 (1)))), guard := none }, { dst := some 65, op := AOp.idx 1 (Opd.t 61) (Opd.t 64), guard := none }, { dst := none, op := AOp.store 1 (Opd.t 65) (Opd.c (AV.p (PV.int IntKind.u8 (1)))), guard := none }]) ACode.skip))) ACode.skip)))))))))))).seq (ACode.region [{ dst := some 66, op := AOp.bin (Bin.plain BinOp.add) (Opd.t 10) (Opd.c (AV.p (PV.int IntKind.i64 (1)))), guard := none }, { dst := some 10, op := AOp.mv (Opd.t 66), guard := none }]))))
theorem lit26_eq : lit26.body = (ACode.region [{ dst := some 2, op := AOp.mv (Opd.c (AV.p (PV.str []))), guard := none }]).seq ((ACode.region [{ dst := some 3, op := AOp.mv (Opd.c AV.nil0), guard := none }]).seq (((ACode.region [{ dst := some 8, op := AOp.mv (Opd.t 0), guard := none }, { dst := some 9, op := AOp.len false (Opd.t 8), guard := none }, { dst := some 10, op := AOp.mv (Opd.c (AV.p (PV.int IntKind.i64 (0)))), guard := none }]).seq (ACode.block 0 (ACode.loop none body9))).seq ((ACode.region [{ dst := some 67, op := AOp.mv (Opd.t 3), guard := none }, { dst := some 68, op := AOp.bytesStr (Opd.t 67), guard := none }, { dst := some 2, op := AOp.mv (Opd.t 68), guard := none }]).seq ACode.ret))) := rfl
/-- bytes as cells -/
def bp (l : List UInt8) : List PV := l.map fun b => .int .u8 b.toNat
theorem bp_len (l : List UInt8) : (bp l).length = l.length := by simp [bp]
theorem bp_app (l r : List UInt8) : bp (l ++ r) = bp l ++ bp r := by simp [bp]
/-- a slice of bytes that grows -/
def BBuf (σ : Heap) (b : AV) (l : List UInt8) : Prop := (b = .nil0 ∧ l = []) ∨ (l ≠ [] ∧ ∃ id ver, b = .sl id ver 0 l.length 1 ∧ σ[id]? = some (.arr (.pv (bp l)) ver 0 (some 5)))
/-- an object that is not the slice's -/
def NB (b : AV) (j : Nat) : Prop := ∀ id ver off len esz, b = .sl id ver off len esz → id ≠ j
theorem NB_nil (j : Nat) : NB .nil0 j := fun _ _ _ _ _ h => by cases h
theorem BBuf.grow {σ : Heap} {b : AV} {l : List UInt8} (h : BBuf σ b l) (τ : Heap) : BBuf (σ ++ τ) b l := by
  rcases h with h | ⟨hne, id, ver, rfl, ho⟩
  · exact .inl h
  · exact .inr ⟨hne, id, ver, rfl, by rw [List.getElem?_append_left (List.getElem?_eq_some_iff.1 ho).1]; exact ho⟩
theorem BBuf.lt {σ : Heap} {b : AV} {l : List UInt8} (h : BBuf σ b l) {j : Nat} (hj : σ.length ≤ j) : NB b j := by
  intro id ver off len esz hb
  rcases h with ⟨h, _⟩ | ⟨_, id', ver', h, ho⟩
  · rw [h] at hb; cases hb
  · rw [h] at hb
    cases hb
    have := (List.getElem?_eq_some_iff.1 ho).1
    omega
/-- bytes behind the others -/
theorem app_buf {σ : Heap} {b : AV} {l : List UInt8} (h : BBuf σ b l) (new : List UInt8) (hl : l.length + new.length ≤ LIM) (hn : new ≠ []) :
    ∃ b2 σ2, appendTo σ 5 1 b new.length (.pv (bp new)) = some (b2, σ2) ∧ BBuf σ2 b2 (l ++ new) ∧ (∀ j, j < σ.length → NB b j → σ2[j]? = σ[j]? ∧ NB b2 j) ∧ σ.length ≤ σ2.length := by
  have hlen : new.length ≠ 0 := by simpa using hn
  rcases h with ⟨rfl, rfl⟩ | ⟨hne, id, ver, rfl, ho⟩
  · refine ⟨.sl σ.length 0 0 new.length 1, σ ++ [.arr (.pv (bp new)) 0 0 (some 5)], ?_, .inr ⟨by simpa using hn, σ.length, 0, rfl, by simp⟩, fun j hj _ => ⟨by rw [List.getElem?_append_left hj], ?_⟩, by simp⟩
    · have : new.length ≤ LIM := by simpa using hl
      simp [appendTo, hlen, this]
    · intro id ver off len esz hb
      cases hb
      omega
  · have hid : id < σ.length := (List.getElem?_eq_some_iff.1 ho).1
    refine ⟨.sl id (ver + 1) 0 (l.length + new.length) 1, σ.set id (.arr (.pv (bp l ++ bp new)) (ver + 1) 0 (some 5)), ?_, .inr ⟨by simp [hne], id, ver + 1, by simp, ?_⟩, fun j hj hb => ⟨?_, ?_⟩, by simp⟩
    · have ht : (bp l).take l.length = bp l := List.take_of_length_le (by rw [bp_len]; exact Nat.le_refl _)
      simp [appendTo, ho, hlen, hl, takeC, catC, Cells.len, ht, bp_len]
    · rw [List.getElem?_set_self hid, bp_app]
    · have := hb id ver 0 l.length 1 rfl
      rw [List.getElem?_set_ne this]
    · intro id' ver' off len esz he
      cases he
      exact hb id ver 0 l.length 1 rfl
/-- uint64(n) ^ (1 << 63) -/
theorem xor_low (r : Nat) (h : r < 2 ^ 63) : r ^^^ 2 ^ 63 = 2 ^ 63 + r := by
  apply Nat.eq_of_testBit_eq
  intro i
  rw [Nat.testBit_xor, Nat.testBit_two_pow]
  rcases Nat.lt_trichotomy i 63 with hi | hi | hi
  · rw [Nat.testBit_two_pow_add_gt hi, decide_eq_false (by omega)]
    simp
  · subst hi
    rw [Nat.testBit_two_pow_add_eq, Nat.testBit_lt_two_pow h]
    simp
  · have h1 : r < 2 ^ i := Nat.lt_of_lt_of_le h (Nat.pow_le_pow_right (by decide) (by omega))
    have h2 : 2 ^ 63 + r < 2 ^ i := Nat.lt_of_lt_of_le (show 2 ^ 63 + r < 2 ^ 64 by omega) (Nat.pow_le_pow_right (by decide) (by omega))
    rw [Nat.testBit_lt_two_pow h1, Nat.testBit_lt_two_pow h2, decide_eq_false (by omega)]
    rfl
theorem xor_high (r : Nat) (h : r < 2 ^ 63) : (2 ^ 63 + r) ^^^ 2 ^ 63 = r := by
  rw [← xor_low r h, Nat.xor_assoc, Nat.xor_self, Nat.xor_zero]
theorem wrap_u64 (n : Int) (h1 : 0 ≤ n) (h2 : n < 18446744073709551616) : IntKind.u64.wrap n = n := by
  simp only [IntKind.wrap, IntKind.bits, IntKind.signed]
  simp
  omega
theorem wrap_u64_neg (n : Int) (h1 : -18446744073709551616 ≤ n) (h2 : n < 0) : IntKind.u64.wrap n = n + 18446744073709551616 := by
  simp only [IntKind.wrap, IntKind.bits, IntKind.signed]
  simp
  omega
theorem wrap_u8 (n : Int) (h : 0 ≤ n) : IntKind.u8.wrap n = n % 256 := by
  simp only [IntKind.wrap, IntKind.bits, IntKind.signed]
  simp
theorem xor_off (n : Int) (h : inR n) : IntKind.u64.wrap ((BitVec.ofInt 64 (IntKind.u64.wrap n) ^^^ BitVec.ofInt 64 9223372036854775808).toNat : Int) = (off n : Int) := by
  unfold inR at h
  rw [BitVec.toNat_xor, BitVec.toNat_ofInt, BitVec.toNat_ofInt]
  have e2 : ((9223372036854775808 : Int) % ((2 ^ 64 : Nat) : Int)).toNat = 2 ^ 63 := by decide
  rw [e2]
  by_cases hn : 0 ≤ n
  · rw [wrap_u64 n hn (by omega)]
    have e1 : (n % ((2 ^ 64 : Nat) : Int)).toNat = n.toNat := by
      rw [Int.emod_eq_of_lt hn (by omega)]
    rw [e1, xor_low _ (by omega)]
    unfold off
    rw [wrap_u64 _ (by omega) (by omega)]
    omega
  · rw [wrap_u64_neg n (by omega) (by omega)]
    have e1 : ((n + 18446744073709551616) % ((2 ^ 64 : Nat) : Int)).toNat = 2 ^ 63 + (n + 9223372036854775808).toNat := by
      rw [Int.emod_eq_of_lt (by omega) (by omega)]
      omega
    rw [e1, xor_high _ (by omega)]
    unfold off
    rw [wrap_u64 _ (by omega) (by omega)]
end Go.Ab.Turn.Enc

/- PlanTurned: Encode: the loops of Encode. -/
set_option maxRecDepth 1000000
namespace Go.Ab.Turn.Enc
open Go Go.Ab Go.Ab.Key Go.Ab.Cnt Go.Ab.Turn Go.Proofs
variable [Marks]
theorem two_pow8 (j : Nat) : (2 : Nat) ^ (8 * j) = 256 ^ j := by rw [Nat.pow_mul]
/-- one byte of a number -/
theorem byte_at (u j : Nat) : u % 256 ^ (j + 1) / 256 ^ j = u / 256 ^ j % 256 := by
  rw [Nat.pow_succ, Nat.mod_mul_right_div_self]
theorem be_step (u j : Nat) : be (j + 1) (u % 256 ^ (j + 1)) = UInt8.ofNat (u / 256 ^ j % 256) :: be j (u % 256 ^ j) := by
  rw [be, byte_at, Nat.mod_mod_of_dvd _ (Nat.pow_dvd_pow 256 (Nat.le_succ j))]
section
variable (C : Oracle) (L : Nat) (u : Nat) (ρ : Env) (σ : Heap) (b : AV) (l : List UInt8) (j : Nat)
/-- what the loop over a number's bytes leaves alone -/
def Same (ρ ρ' : Env) : Prop := ρ'.get 0 = ρ.get 0 ∧ ρ'.get 8 = ρ.get 8 ∧ ρ'.get 9 = ρ.get 9 ∧ ρ'.get 10 = ρ.get 10 ∧ ρ'.get 6 = ρ.get 6
theorem Same.trans {ρ1 ρ2 ρ3 : Env} (h : Same ρ1 ρ2) (k : Same ρ2 ρ3) : Same ρ1 ρ3 := ⟨k.1.trans h.1, k.2.1.trans h.2.1, k.2.2.1.trans h.2.2.1, k.2.2.2.1.trans h.2.2.2.1, k.2.2.2.2.trans h.2.2.2.2⟩
theorem stop9n (h7 : ρ.get 7 = some (.p (.int .i64 (-8)))) : ∃ ρ' : Env, exec C L body9n ⟨ρ, [], σ⟩ = some (.exit 3, ⟨ρ', [], σ⟩) ∧ Same ρ ρ' ∧ ρ'.get 3 = ρ.get 3 :=
  ⟨_, by simp [body9n, exec, runOps, wantedA, stepOp, pureOp, allocOp, readOp, effOp, ev, evs, evO, Env.get_cons, putE, binA, intBin, unA, AV.fit, AV.toCells, partC, partP, mkCells, allP, mkAgg, Cells.len, target, h7]; rfl, by simp [Same, Env.get_cons], by simp [Env.get_cons]⟩
theorem go9n (h7 : ρ.get 7 = some (.p (.int .i64 (8 * (j : Int))))) (h6 : ρ.get 6 = some (.p (.int .u64 (u : Int)))) (h3 : ρ.get 3 = some b) (hb : BBuf σ b l) (hj : j < 8) (hl : l.length + 1 ≤ LIM) :
    ∃ (ρ' : Env) (σ' : Heap) (b' : AV), exec C L body9n ⟨ρ, [], σ⟩ = some (.normal, ⟨ρ', [], σ'⟩) ∧ Same ρ ρ' ∧ ρ'.get 7 = some (.p (.int .i64 (8 * (j : Int) - 8))) ∧ ρ'.get 3 = some b' ∧ BBuf σ' b' (l ++ [UInt8.ofNat (u / 256 ^ j % 256)]) ∧ σ.length ≤ σ'.length := by
  have hp : ¬ (8 * (j : Int)) < 0 := by omega
  have hge : (0 : Int) ≤ 8 * (j : Int) := by omega
  have e1 : IntKind.i64.wrap (8 * (j : Int) - 8) = 8 * (j : Int) - 8 := wrap_id _ (by omega) (by omega)
  have hmin : min (8 * (j : Int)).toNat 64 = 8 * j := by omega
  have e2 : (u : Int).fdiv (2 ^ (8 * j)) = ((u / 256 ^ j : Nat) : Int) := by
    rw [show ((2 : Int) ^ (8 * j)) = (((256 ^ j : Nat)) : Int) from by rw [← two_pow8]; simp]
    rw [Int.fdiv_eq_ediv_of_nonneg _ (Int.natCast_nonneg _)]
    rfl
  have e3 : IntKind.u8.wrap ((u / 256 ^ j : Nat) : Int) = (((UInt8.ofNat (u / 256 ^ j % 256)).toNat : Nat) : Int) := by
    have hb8 : (UInt8.ofNat (u / 256 ^ j % 256)).toNat = u / 256 ^ j % 256 := UInt8.toNat_ofNat_of_lt' (Nat.mod_lt _ (by decide))
    rw [wrap_u8 _ (Int.natCast_nonneg _), hb8, Int.natCast_emod]
    rfl
  have e4 : IntKind.u8.wrap ((u : Int) / 256 ^ j) = (((UInt8.ofNat (u / 256 ^ j % 256)).toNat : Nat) : Int) := by
    rw [show ((u : Int) / 256 ^ j) = ((u / 256 ^ j : Nat) : Int) from by simp]
    exact e3
  obtain ⟨b2, σ2, hA, hb2, _, hlen⟩ := app_buf (hb.grow [.arr (.pv (bp [UInt8.ofNat (u / 256 ^ j % 256)])) 0 0 none]) [UInt8.ofNat (u / 256 ^ j % 256)] (by simpa using hl) (by simp)
  generalize UInt8.ofNat (u / 256 ^ j % 256) = c at *
  simp only [bp, List.map_cons, List.map_nil, List.length_cons, List.length_nil, Nat.zero_add] at hA
  have hlen' : σ.length ≤ σ2.length := by simp at hlen; omega
  exact ⟨_, σ2, b2, by simp [body9n, exec, runOps, wantedA, stepOp, pureOp, allocOp, readOp, effOp, ev, evs, evO, Env.get_cons, putE, binA, intBin, unA, AV.fit, AV.toCells, partC, partP, mkCells, allP, mkAgg, Cells.len, target, evParts, fillA, AV.cells, splice, spliceC, finA, leaveA, resA, resV, ansV, intShift, repCells, elemsA, takeC, dropC, IntKind.bits, h7, h6, h3, hp, hge, e1, hmin, e2, e4, hA]; rfl, by simp [Same, Env.get_cons], by simp [Env.get_cons], by simp [Env.get_cons], hb2, hlen'⟩
end
theorem loop9n (C : Oracle) (L u : Nat) : ∀ (j f : Nat) (ρ : Env) (σ : Heap) (b : AV) (l : List UInt8), j < f → j ≤ 8 → ρ.get 7 = some (.p (.int .i64 (8 * (j : Int) - 8))) → ρ.get 6 = some (.p (.int .u64 (u : Int))) → ρ.get 3 = some b → BBuf σ b l → l.length + j ≤ LIM →
    ∃ (ρ' : Env) (σ' : Heap) (b' : AV), iter (exec C L body9n) none f ⟨ρ, [], σ⟩ = some (.exit 3, ⟨ρ', [], σ'⟩) ∧ Same ρ ρ' ∧ ρ'.get 3 = some b' ∧ BBuf σ' b' (l ++ be j (u % 256 ^ j)) ∧ σ.length ≤ σ'.length
  | 0, f, ρ, σ, b, l, hf, _, h7, h6, h3, hb, hl => by
    obtain ⟨f, rfl⟩ : ∃ m, f = m + 1 := ⟨f - 1, by omega⟩
    obtain ⟨ρ', e, hs, g3⟩ := stop9n C L ρ σ (by rw [h7]; rfl)
    exact ⟨ρ', σ, b, by simp only [iter, St.keep, e], hs, g3.trans h3, by simpa [be] using hb, Nat.le_refl _⟩
  | j + 1, f, ρ, σ, b, l, hf, hj, h7, h6, h3, hb, hl => by
    obtain ⟨f, rfl⟩ : ∃ m, f = m + 1 := ⟨f - 1, by omega⟩
    obtain ⟨ρ1, σ1, b1, e, hs, g7, g3, gb, gl⟩ := go9n C L u ρ σ b l j (by rw [h7]; congr 3; omega) h6 h3 hb (by omega) (by omega)
    obtain ⟨ρ', σ', b', e', hs', q3, qb, ql⟩ := loop9n C L u j f ρ1 σ1 b1 _ (by omega) (by omega) g7 (hs.2.2.2.2.trans h6) g3 gb (by simp; omega)
    refine ⟨ρ', σ', b', by simp only [iter, St.keep, e]; exact e', hs.trans hs', q3, ?_, Nat.le_trans gl ql⟩
    rw [be_step]
    simpa using qb
end Go.Ab.Turn.Enc
