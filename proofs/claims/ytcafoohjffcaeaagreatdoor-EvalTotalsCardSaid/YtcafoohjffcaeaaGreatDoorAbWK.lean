/- EvalTotals: Total: the values that differ, one by one. -/
import Derived.Test.YtcafoohjffcaeaaGreatDoorAbWI
set_option linter.unusedSectionVars false
set_option linter.unusedSimpArgs false
set_option linter.unusedVariables false
set_option maxRecDepth 1000000
namespace Go.Ab.Cnt
open Go Go.Ab Go.Ab.Key Go.Proofs
variable [Marks]
/-- the values that are kept so far -/
def Kp (σ : Heap) (b : AV) (k : List V) : Prop := (b = .nil0 ∧ k = []) ∨ ∃ id ver wm, 2 ≤ id ∧ b = .sl id ver 0 k.length 4 ∧ σ[id]? = some (.arr (.pv (vcs k)) ver wm (some 30)) ∧ wm ≤ k.length * 4
theorem Kp.lst {σ : Heap} {b : AV} {k : List V} (h : Kp σ b k) : Lst σ b k := by
  rcases h with ⟨rfl, rfl⟩ | ⟨id, ver, wm, h2, rfl, ho, hw⟩
  · exact .inr (.inl ⟨rfl, rfl⟩)
  · exact .inr (.inr ⟨id, ver, wm, [], some 30, h2, rfl, by simpa using ho, hw⟩)
theorem Kp.push {σ : Heap} {b : AV} {k : List V} (h : Kp σ b k) (τ : Heap) : Kp (σ ++ τ) b k := by
  rcases h with h | ⟨id, ver, wm, h2, hb, ho, hw⟩
  · exact .inl h
  · exact .inr ⟨id, ver, wm, h2, hb, by rw [List.getElem?_append_left (List.getElem?_eq_some_iff.1 ho).1]; exact ho, hw⟩
/-- it grows by one -/
theorem Kp.app {σ : Heap} {b : AV} {k : List V} (h : Kp σ b k) (h2 : 2 ≤ σ.length) (v : V) (hl : k.length + 1 ≤ LIM) : ∃ b1 σ1, appendTo σ 30 4 b 1 (.pv (vc v)) = some (b1, σ1) ∧ Kp σ1 b1 (k ++ [v]) ∧ Two σ σ1 := by
  have hL : LIM = 4294967296 := rfl
  rcases h with ⟨rfl, rfl⟩ | ⟨id, ver, wm, hid2, rfl, ho, hw⟩
  · refine ⟨.sl σ.length 0 0 1 4, σ ++ [.arr (.pv (vc v)) 0 0 (some 30)], by simp [appendTo, hL], .inr ⟨σ.length, 0, 0, h2, rfl, ?_, Nat.zero_le _⟩, .push h2 _⟩
    simp [vcs]
  · have hid : id < σ.length := (List.getElem?_eq_some_iff.1 ho).1
    have hv := vcs_len k
    have ht : (vcs k).take (k.length * 4) = vcs k := List.take_of_length_le (by omega)
    refine ⟨.sl id (ver + 1) 0 (k.length + 1) 4, σ.set id (.arr (.pv (vcs k ++ vc v)) (ver + 1) wm (some 30)), ?_, .inr ⟨id, ver + 1, wm, hid2, by simp, ?_, by simp; omega⟩, .set hid2 _⟩
    · simp [appendTo, ho, Cells.len, hv, hl, hw, takeC, catC, ht]
    · rw [List.getElem?_set_self hid, vcs_snoc]
section
variable (L n : Nat)
/-- is a value like one of those that are kept? -/
theorem has_kp {σ : Heap} {b : AV} {k : List V} (h : Kp σ b k) (v : V) (hm : k.length ≤ 9223372036854775807) (hL : k.length < L) (hx : ∀ s, V.text s ∈ k → s.length ≤ maxLen) (hv : ∀ s, v = .text s → s.length ≤ maxLen)
    {j : Nat} {ty : Option Nat} (ho : σ[j]? = some (.arr (.pv (vc v)) 0 0 ty)) (hne : ∀ ver n, b ≠ .sl j ver 0 n 4) :
    ∃ σ1, Two σ σ1 ∧ σ1.length = σ.length ∧ Kp σ1 b k ∧ σ1[j]? = some (.arr (.pv (vc v)) 0 0 ty) ∧
      (cAt TC L (n + 6)).1 22 [b, .clo 23 [] [.ptr j 0 0]] σ = some (.ret (.p (.bool (k.any fun u => ordV u v == .eq))), σ1) := by
  rcases h with ⟨rfl, rfl⟩ | ⟨id, ver, wm, h2, rfl, hob, hw⟩
  · have hf : frzA (touch σ [.nil0, .clo 23 [] [.ptr j 0 0]]) 9 σ [.nil0, .clo 23 [] [.ptr j 0 0]] = ([.p (.vsl (vcs []) 0), .clo 23 [] [.ptr j 0 0]], σ) := rfl
    refine ⟨σ, .refl _, rfl, .inl ⟨rfl, rfl⟩, ho, ?_⟩
    have := has22 L n [] v hm hL hx hv ho
    rw [← this]
    simp only [cAt, callT, q22]
    refine frz_more hf rfl ?_
    simp [touch, idsL, idsV, collect, idsO, ho]
  · have hid : id < σ.length := (List.getElem?_eq_some_iff.1 hob).1
    have hij : id ≠ j := fun e => by subst e; exact hne ver k.length rfl
    have ht : (touch σ [.sl id ver 0 k.length 4, .clo 23 [] [.ptr j 0 0]]) = [id, j] := by
      have hji : ¬ j = id := fun e => hij e.symm
      simp [touch, idsL, idsV, collect, idsO, ho, hob, hji]
    have hkl : k.length * 4 ≤ (vcs k).length := by rw [vcs_len]; exact Nat.le_refl _
    have htk : (vcs k).take (k.length * 4) = vcs k := List.take_of_length_le (by rw [vcs_len]; exact Nat.le_refl _)
    have hmax : Nat.max wm (k.length * 4) = k.length * 4 := Nat.max_eq_right hw
    have hf1 : Go.Ab.frz [id, j] 9 σ (.sl id ver 0 k.length 4) = some (.vsl (vcs k) k.length, σ.set id (.arr (.pv (vcs k)) ver (k.length * 4) (some 30))) := by
      have hc : [id, j].contains id = true := by simp
      simp only [Go.Ab.frz, hob, Cells.len, hc, List.drop_zero, htk, and_true, true_and, Nat.zero_add, hmax]
      rw [if_pos hkl]
    have hf : frzA (touch σ [.sl id ver 0 k.length 4, .clo 23 [] [.ptr j 0 0]]) 9 σ [.sl id ver 0 k.length 4, .clo 23 [] [.ptr j 0 0]] = ([.p (.vsl (vcs k) k.length), .clo 23 [] [.ptr j 0 0]], σ.set id (.arr (.pv (vcs k)) ver (k.length * 4) (some 30))) := by
      rw [ht]
      simp only [frzA, hf1]
      rfl
    have ho1 : (σ.set id (.arr (.pv (vcs k)) ver (k.length * 4) (some 30)))[j]? = some (.arr (.pv (vc v)) 0 0 ty) := by
      rw [List.getElem?_set_ne hij]; exact ho
    refine ⟨_, .set h2 _, by simp, .inr ⟨id, ver, k.length * 4, h2, rfl, List.getElem?_set_self hid, Nat.le_refl _⟩, ho1, ?_⟩
    have := has22 L n k v hm hL hx hv ho1
    rw [← this]
    simp only [cAt, callT, q22]
    refine frz_more hf rfl ?_
    rw [ht]
    simp [touch, idsL, idsV, collect, idsO, ho1]
end
end Go.Ab.Cnt

/- EvalTotals: Total: the values that differ. -/
set_option maxRecDepth 1000000
namespace Go.Ab.Cnt
open Go Go.Ab Go.Ab.Key Go.Proofs
variable [Marks]
def body9 : ACode := ((ACode.region [{ dst := some 16, op := AOp.bin (Bin.plain BinOp.lss) (Opd.t 15) (Opd.t 14), guard := none }]).seq ((ACode.cond (Opd.t 16) ACode.skip (ACode.exit 0)).seq ((ACode.block 1 ((ACode.region [{ dst := some 17, op := AOp.idx 4 (Opd.t 13) (Opd.t 15), guard := none }, { dst := some 18, op := AOp.load true 4 (Opd.t 17), guard := none }, { dst := some 8, op := AOp.alloc 30 [AV.p (PV.int IntKind.i64 (0)), AV.p (PV.int IntKind.i64 (0)), AV.p (PV.str []), AV.p (PV.bool false)], guard := none }, { dst := none, op := AOp.store 4 (Opd.t 8) (Opd.t 18), guard := none }]).seq ((ACode.region [{ dst := some 19, op := AOp.mv (Opd.t 6), guard := none }, { dst := some 20, op := AOp.mkFunc 23 [] [Opd.t 8], guard := none }, { dst := some 21, op := AOp.call (Opd.c (AV.p (PV.fn 22))) [Opd.t 19, Opd.t 20], guard := none }, { dst := some 22, op := AOp.un UnOp.not (Opd.t 21), guard := none }]).seq (ACode.cond (Opd.t 22) (ACode.region [{ dst := some 23, op := AOp.mv (Opd.t 6), guard := none }, { dst := some 24, op := AOp.load true 4 (Opd.t 8), guard := none }, { dst := some 25, op := AOp.buildSlice [AV.p (PV.int IntKind.i64 (0)), AV.p (PV.int IntKind.i64 (0)), AV.p (PV.str []), AV.p (PV.bool false)] 1 4 [(0, 4, Opd.t 24)], guard := none }, { dst := some 26, op := AOp.append 30 4 [AV.p (PV.int IntKind.i64 (0)), AV.p (PV.int IntKind.i64 (0)), AV.p (PV.str []), AV.p (PV.bool false)] (Opd.t 23) (Opd.t 25), guard := none }, { dst := some 6, op := AOp.mv (Opd.t 26), guard := none }]) ACode.skip)))).seq (ACode.region [{ dst := some 27, op := AOp.bin (Bin.plain BinOp.add) (Opd.t 15) (Opd.c (AV.p (PV.int IntKind.i64 (1)))), guard := none }, { dst := some 15, op := AOp.mv (Opd.t 27), guard := none }]))))
theorem lit9_eq : lit9.body = (ACode.region [{ dst := some 2, op := AOp.box 4 (Opd.t 0), guard := none }, { dst := some 4, op := AOp.alloc 30 [AV.p (PV.int IntKind.i64 (0)), AV.p (PV.int IntKind.i64 (0)), AV.p (PV.str []), AV.p (PV.bool false)], guard := none }, { dst := some 5, op := AOp.mv (Opd.c (AV.p (PV.str []))), guard := none }]).seq (((ACode.region [{ dst := some 10, op := AOp.fieldAddr 2 (Opd.t 2), guard := none }, { dst := some 11, op := AOp.load false 1 (Opd.t 10), guard := none }, { dst := some 12, op := AOp.bin (Bin.plain BinOp.eql) (Opd.t 11) (Opd.c (AV.p (PV.int IntKind.i64 (1)))), guard := none }]).seq (ACode.cond (Opd.t 12) ((ACode.region [{ dst := some 6, op := AOp.mv (Opd.c AV.nil0), guard := none }]).seq (((ACode.region [{ dst := some 13, op := AOp.mv (Opd.t 1), guard := none }, { dst := some 14, op := AOp.len false (Opd.t 13), guard := none }, { dst := some 15, op := AOp.mv (Opd.c (AV.p (PV.int IntKind.i64 (0)))), guard := none }]).seq (ACode.block 0 (ACode.loop none body9))).seq (ACode.region [{ dst := some 28, op := AOp.mv (Opd.t 6), guard := none }, { dst := some 1, op := AOp.mv (Opd.t 28), guard := none }]))) ACode.skip)).seq ((ACode.region [{ dst := some 29, op := AOp.mv (Opd.t 1), guard := none }, { dst := some 30, op := AOp.call (Opd.c (AV.p (PV.fn 26))) [Opd.t 29], guard := none }, { dst := some 31, op := AOp.call (Opd.c (AV.p (PV.fn 25))) [Opd.t 30, Opd.c (AV.p (PV.fn 27))], guard := none }, { dst := some 9, op := AOp.alloc 25 [AV.nil0], guard := none }, { dst := none, op := AOp.store 1 (Opd.t 9) (Opd.t 31), guard := none }]).seq (((ACode.region [{ dst := some 32, op := AOp.fieldAddr 0 (Opd.t 2), guard := none }, { dst := some 33, op := AOp.load false 1 (Opd.t 32), guard := none }]).seq (ACode.block 2 ((ACode.region [{ dst := some 36, op := AOp.bin (Bin.plain BinOp.eql) (Opd.t 33) (Opd.c (AV.p (PV.str [99, 111, 117, 110, 116, 42]))), guard := none }, { dst := some 35, op := AOp.mv (Opd.t 36), guard := none }]).seq (ACode.cond (Opd.t 35) ((ACode.region [{ dst := some 37, op := AOp.mv (Opd.t 1), guard := none }, { dst := some 38, op := AOp.len false (Opd.t 37), guard := none }, { dst := some 39, op := AOp.call (Opd.c (AV.p (PV.fn 28))) [Opd.t 38], guard := none }, { dst := none, op := AOp.store 4 (Opd.t 4) (Opd.t 39), guard := none }, { dst := some 5, op := AOp.mv (Opd.c (AV.p (PV.str [48, 48, 48, 48, 48]))), guard := none }]).seq ACode.ret) ((ACode.region [{ dst := some 41, op := AOp.bin (Bin.plain BinOp.eql) (Opd.t 33) (Opd.c (AV.p (PV.str [99, 111, 117, 110, 116]))), guard := none }, { dst := some 40, op := AOp.mv (Opd.t 41), guard := none }]).seq (ACode.cond (Opd.t 40) ((ACode.region [{ dst := some 42, op := AOp.load false 1 (Opd.t 9), guard := none }, { dst := some 43, op := AOp.len false (Opd.t 42), guard := none }, { dst := some 44, op := AOp.call (Opd.c (AV.p (PV.fn 28))) [Opd.t 43], guard := none }, { dst := none, op := AOp.store 4 (Opd.t 4) (Opd.t 44), guard := none }, { dst := some 5, op := AOp.mv (Opd.c (AV.p (PV.str [48, 48, 48, 48, 48]))), guard := none }]).seq ACode.ret) (((ACode.region [{ dst := some 46, op := AOp.bin (Bin.plain BinOp.eql) (Opd.t 33) (Opd.c (AV.p (PV.str [115, 117, 109]))), guard := none }, { dst := some 45, op := AOp.mv (Opd.t 46), guard := none }]).seq (ACode.cond (Opd.t 45) ACode.skip ((ACode.region [{ dst := some 47, op := AOp.bin (Bin.plain BinOp.eql) (Opd.t 33) (Opd.c (AV.p (PV.str [109, 105, 110]))), guard := none }, { dst := some 45, op := AOp.mv (Opd.t 47), guard := none }]).seq (ACode.cond (Opd.t 45) ACode.skip (ACode.region [{ dst := some 48, op := AOp.bin (Bin.plain BinOp.eql) (Opd.t 33) (Opd.c (AV.p (PV.str [109, 97, 120]))), guard := none }, { dst := some 45, op := AOp.mv (Opd.t 48), guard := none }]))))).seq (ACode.cond (Opd.t 45) ACode.skip ((ACode.region [{ dst := some 34, op := AOp.build [AV.p (PV.int IntKind.i64 (0)), AV.p (PV.int IntKind.i64 (0)), AV.p (PV.str []), AV.p (PV.bool false)] [], guard := none }, { dst := none, op := AOp.store 4 (Opd.t 4) (Opd.t 34), guard := none }, { dst := some 5, op := AOp.mv (Opd.c (AV.p (PV.str [52, 50, 54, 48, 49]))), guard := none }]).seq ACode.ret))))))))).seq (((ACode.region [{ dst := some 49, op := AOp.load false 1 (Opd.t 9), guard := none }, { dst := some 50, op := AOp.len false (Opd.t 49), guard := none }, { dst := some 51, op := AOp.bin (Bin.plain BinOp.eql) (Opd.t 50) (Opd.c (AV.p (PV.int IntKind.i64 (0)))), guard := none }]).seq (ACode.cond (Opd.t 51) ((ACode.region [{ dst := some 52, op := AOp.build [AV.p (PV.int IntKind.i64 (0)), AV.p (PV.int IntKind.i64 (0)), AV.p (PV.str []), AV.p (PV.bool false)] [], guard := none }, { dst := none, op := AOp.store 4 (Opd.t 4) (Opd.t 52), guard := none }, { dst := some 5, op := AOp.mv (Opd.c (AV.p (PV.str [48, 48, 48, 48, 48]))), guard := none }]).seq ACode.ret) ACode.skip)).seq (((ACode.region [{ dst := some 53, op := AOp.fieldAddr 0 (Opd.t 2), guard := none }, { dst := some 54, op := AOp.load false 1 (Opd.t 53), guard := none }]).seq (ACode.block 3 ((ACode.region [{ dst := some 56, op := AOp.bin (Bin.plain BinOp.eql) (Opd.t 54) (Opd.c (AV.p (PV.str [109, 105, 110]))), guard := none }, { dst := some 55, op := AOp.mv (Opd.t 56), guard := none }]).seq (ACode.cond (Opd.t 55) ((ACode.region [{ dst := some 57, op := AOp.load false 1 (Opd.t 9), guard := none }, { dst := some 58, op := AOp.call (Opd.c (AV.p (PV.fn 29))) [Opd.t 57, Opd.c (AV.p (PV.fn 24))], guard := none }, { dst := none, op := AOp.store 4 (Opd.t 4) (Opd.t 58), guard := none }, { dst := some 5, op := AOp.mv (Opd.c (AV.p (PV.str [48, 48, 48, 48, 48]))), guard := none }]).seq ACode.ret) ((ACode.region [{ dst := some 60, op := AOp.bin (Bin.plain BinOp.eql) (Opd.t 54) (Opd.c (AV.p (PV.str [109, 97, 120]))), guard := none }, { dst := some 59, op := AOp.mv (Opd.t 60), guard := none }]).seq (ACode.cond (Opd.t 59) ((ACode.region [{ dst := some 61, op := AOp.load false 1 (Opd.t 9), guard := none }, { dst := some 62, op := AOp.call (Opd.c (AV.p (PV.fn 30))) [Opd.t 61, Opd.c (AV.p (PV.fn 24))], guard := none }, { dst := none, op := AOp.store 4 (Opd.t 4) (Opd.t 62), guard := none }, { dst := some 5, op := AOp.mv (Opd.c (AV.p (PV.str [48, 48, 48, 48, 48]))), guard := none }]).seq ACode.ret) ACode.skip)))))).seq ((ACode.region [{ dst := some 63, op := AOp.mkFunc 32 [] [Opd.t 9], guard := none }, { dst := some 64, op := AOp.call (Opd.c (AV.p (PV.fn 31))) [Opd.t 63], guard := none }, { dst := some 65, op := AOp.extract 0 (Opd.t 64), guard := none }, { dst := some 66, op := AOp.extract 1 (Opd.t 64), guard := none }, { dst := none, op := AOp.store 4 (Opd.t 4) (Opd.t 65), guard := none }, { dst := some 5, op := AOp.mv (Opd.t 66), guard := none }]).seq ACode.ret)))))) := rfl
def thnC : ACode → ACode
  | .cond _ a _ => a
  | c => c
def reg9 : ACode := fstC p9_2
def then9 : ACode := thnC (sndC p9_2)
def pre9 : ACode := fstC then9
def init9 : ACode := fstC (fstC (sndC then9))
def post9 : ACode := sndC (sndC then9)
theorem p9_2_eq : p9_2 = .seq reg9 (.cond (.t 12) then9 .skip) := rfl
theorem then9_eq : then9 = .seq pre9 (.seq (.seq init9 (.block 0 (.loop none body9))) post9) := rfl
/-- one value more -/
def add1 (k : List V) (v : V) : List V := if k.any (fun u => ordV u v == .eq) then k else k ++ [v]
/-- the values that differ -/
def uq (x : List V) : List V := x.foldl add1 []
section
variable (C : Oracle) (L : Nat) (x : List V) (σ0 : Heap)
/-- the loop's state -/
structure AtK (ρ : Env) (σ : Heap) (i : Nat) (k : List V) : Prop where
  t2 : ρ.get 2 = some (.ptr 0 0 0)
  t4 : ρ.get 4 = some (.ptr 1 0 0)
  t13 : ρ.get 13 = some (.p (.vsl (vcs x) x.length))
  t14 : ρ.get 14 = some (.p (.int .i64 (x.length : Int)))
  t15 : ρ.get 15 = some (.p (.int .i64 (i : Int)))
  t6 : ∃ b, ρ.get 6 = some b ∧ Kp σ b k
  two : Two σ0 σ
  sz : 2 ≤ σ.length
theorem stopK (ρ : Env) (σ : Heap) (k : List V) (h : AtK x σ0 ρ σ x.length k) : ∃ ρ', exec C L body9 ⟨ρ, [], σ⟩ = some (.exit 0, ⟨ρ', [], σ⟩) ∧ AtK x σ0 ρ' σ x.length k := by
  obtain ⟨b, t6, hb⟩ := h.t6
  exact ⟨_, by simp [body9, exec, runOps, wantedA, stepOp, pureOp, allocOp, readOp, effOp, ev, evs, evO, Env.get_cons, putE, binA, intBin, unA, AV.fit, AV.toCells, partC, partP, mkCells, allP, mkAgg, Cells.len, target, h.t14, h.t15]; rfl, ⟨by simp [Env.get_cons, h.t2], by simp [Env.get_cons, h.t4], by simp [Env.get_cons, h.t13], by simp [Env.get_cons, h.t14], by simp [Env.get_cons, h.t15], ⟨b, by simp [Env.get_cons, t6], hb⟩, h.two, h.sz⟩⟩
theorem goK (ρ : Env) (σ : Heap) (i : Nat) (k : List V) (v : V) (hv : x[i]? = some v) (hm : x.length ≤ 9223372036854775807) (hk : k.length + 1 ≤ LIM) (h : AtK x σ0 ρ σ i k)
    (hC : ∀ {σ : Heap} {b : AV} (_ : Kp σ b k) {j : Nat} (_ : σ[j]? = some (.arr (.pv (vc v)) 0 0 (some 30))) (_ : ∀ ver n, b ≠ .sl j ver 0 n 4), ∃ σ1, Two σ σ1 ∧ σ1.length = σ.length ∧ Kp σ1 b k ∧ σ1[j]? = some (.arr (.pv (vc v)) 0 0 (some 30)) ∧
      C 22 [b, .clo 23 [] [.ptr j 0 0]] σ = some (.ret (.p (.bool (k.any fun u => ordV u v == .eq))), σ1)) :
    ∃ ρ' σ', exec C L body9 ⟨ρ, [], σ⟩ = some (.normal, ⟨ρ', [], σ'⟩) ∧ AtK x σ0 ρ' σ' (i + 1) (add1 k v) := by
  obtain ⟨b, t6, hb⟩ := h.t6
  have hi : i < x.length := (List.getElem?_eq_some_iff.1 hv).1
  have hi' : (i : Int) < (x.length : Int) := by omega
  have d1 := flat_v x i _ hv
  have d3 : 4 ≤ (vcs x).length - i * 4 := by rw [vcs_len]; omega
  have e1 : IntKind.i64.wrap ((i : Int) + 1) = ((i + 1 : Nat) : Int) := by rw [wrap_id _ (by omega) (by omega)]; omega
  have hlast : ∀ (τ : Heap) (b : Obj), (τ ++ [b])[τ.length]? = some b := fun τ b => by simp
  have hs := set_last
  have hne : ∀ ver n, b ≠ .sl σ.length ver 0 n 4 := by
    intro ver n hbb
    rcases hb with ⟨rfl, _⟩ | ⟨id, ver', wm, _, rfl, ho, _⟩
    · cases hbb
    · cases hbb
      have := (List.getElem?_eq_some_iff.1 ho).1
      omega
  obtain ⟨σ1, w1, w2, w3, w4, hcall⟩ := hC (hb.push [.arr (.pv (vc v)) 0 0 (some 30)]) (hlast σ _) hne
  have hlen1 : σ1.length = σ.length + 1 := by rw [w2]; simp
  have tw1 : Two σ0 σ1 := (h.two.trans (.push h.sz _)).trans w1
  have sz1 : 2 ≤ σ1.length := by have := h.sz; omega
  have hv4 := vc_len v
  cases hq : (k.any fun u => ordV u v == .eq) with
  | true =>
    rw [hq] at hcall
    have ha : add1 k v = k := by simp only [add1, hq, if_true]
    rw [ha]
    generalize hcv : vc v = cv at *
    obtain ⟨x0, x1, x2, x3, rfl⟩ : ∃ x0 x1 x2 x3, cv = [x0, x1, x2, x3] := by
      match cv, hv4 with
      | [x0, x1, x2, x3], _ => exact ⟨x0, x1, x2, x3, rfl⟩
    have key : ∃ ρ', exec C L body9 ⟨ρ, [], σ⟩ = some (.normal, ⟨ρ', [], σ1⟩) ∧ ρ'.get 2 = some (.ptr 0 0 0) ∧ ρ'.get 4 = some (.ptr 1 0 0) ∧ ρ'.get 13 = some (.p (.vsl (vcs x) x.length)) ∧ ρ'.get 14 = some (.p (.int .i64 (x.length : Int))) ∧ ρ'.get 15 = some (.p (.int .i64 ((i + 1 : Nat) : Int))) ∧ ρ'.get 6 = some b :=
      ⟨_, by simp [body9, exec, runOps, wantedA, stepOp, pureOp, allocOp, readOp, effOp, ev, evs, evO, Env.get_cons, putE, binA, intBin, unA, AV.fit, AV.toCells, partC, partP, mkCells, allP, mkAgg, Cells.len, target, evParts, fillA, AV.cells, splice, spliceC, finA, leaveA, resA, resV, ansV, lenA, idxA, h.t13, h.t14, h.t15, t6, hi, hi', d1, d3, ↓hlast, ↓hs, hcall, e1]; rfl, by simp [Env.get_cons, h.t2], by simp [Env.get_cons, h.t4], by simp [Env.get_cons, h.t13], by simp [Env.get_cons, h.t14], by simp [Env.get_cons], by simp [Env.get_cons, t6]⟩
    obtain ⟨ρ', e, a2, a4, a13, a14, a15, a6⟩ := key
    exact ⟨ρ', σ1, e, a2, a4, a13, a14, a15, ⟨b, a6, w3⟩, tw1, sz1⟩
  | false =>
    rw [hq] at hcall
    have ha : add1 k v = k ++ [v] := by simp only [add1, hq, Bool.false_eq_true, if_false]
    rw [ha]
    obtain ⟨b2, σ2, happ, hkp, htw⟩ := (w3.push [.arr (.pv (vc v)) 0 0 none]).app (by simp; omega) v hk
    have tw2 : Two σ0 σ2 := (tw1.trans (.push sz1 _)).trans htw
    have sz2 : 2 ≤ σ2.length := by have := tw2.2.2; have := htw.2.2; simp at this; omega
    generalize hcv : vc v = cv at *
    obtain ⟨x0, x1, x2, x3, rfl⟩ : ∃ x0 x1 x2 x3, cv = [x0, x1, x2, x3] := by
      match cv, hv4 with
      | [x0, x1, x2, x3], _ => exact ⟨x0, x1, x2, x3, rfl⟩
    have key : ∃ ρ', exec C L body9 ⟨ρ, [], σ⟩ = some (.normal, ⟨ρ', [], σ2⟩) ∧ ρ'.get 2 = some (.ptr 0 0 0) ∧ ρ'.get 4 = some (.ptr 1 0 0) ∧ ρ'.get 13 = some (.p (.vsl (vcs x) x.length)) ∧ ρ'.get 14 = some (.p (.int .i64 (x.length : Int))) ∧ ρ'.get 15 = some (.p (.int .i64 ((i + 1 : Nat) : Int))) ∧ ρ'.get 6 = some b2 :=
      ⟨_, by simp [body9, exec, runOps, wantedA, stepOp, pureOp, allocOp, readOp, effOp, ev, evs, evO, Env.get_cons, putE, binA, intBin, unA, AV.fit, AV.toCells, partC, partP, mkCells, allP, mkAgg, Cells.len, target, evParts, fillA, AV.cells, splice, spliceC, finA, leaveA, resA, resV, ansV, lenA, idxA, repCells, elemsA, takeC, dropC, h.t13, h.t14, h.t15, t6, hi, hi', d1, d3, ↓hlast, ↓hs, hcall, w4, happ, e1]; rfl, by simp [Env.get_cons, h.t2], by simp [Env.get_cons, h.t4], by simp [Env.get_cons, h.t13], by simp [Env.get_cons, h.t14], by simp [Env.get_cons], by simp [Env.get_cons]⟩
    obtain ⟨ρ', e, a2, a4, a13, a14, a15, a6⟩ := key
    exact ⟨ρ', σ2, e, a2, a4, a13, a14, a15, ⟨b2, a6, hkp⟩, tw2, sz2⟩
end
end Go.Ab.Cnt
