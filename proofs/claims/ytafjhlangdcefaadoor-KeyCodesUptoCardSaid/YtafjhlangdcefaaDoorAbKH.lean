/- The laws of keys: words, Decode's reader of texts. -/
import Derived.Test.YtafjhlangdcefaaDoorAbKF
set_option linter.unusedSectionVars false
set_option linter.unusedSimpArgs false
set_option linter.unusedVariables false
set_option maxRecDepth 1000000
namespace Go.Ab.Key
open Go Go.Ab Go.Proofs
variable [Marks]
def lit39 : AFunc := { ntmps := 8, results := [ARes.tmp 4], body := (ACode.region [{ dst := some 4, op := AOp.mv (Opd.c (AV.p (PV.bool false))), guard := none }]).seq ((ACode.region [{ dst := some 5, op := AOp.mv (Opd.t 0), guard := none }, { dst := some 6, op := AOp.mv (Opd.t 1), guard := none }, { dst := some 7, op := AOp.call (Opd.c (AV.p (PV.fn 51))) [Opd.t 5, Opd.t 6], guard := none }, { dst := some 4, op := AOp.mv (Opd.t 7), guard := none }]).seq ACode.ret) }
def lit51 : AFunc := { ntmps := 21, results := [ARes.tmp 4], body := (ACode.region [{ dst := some 4, op := AOp.mv (Opd.c (AV.p (PV.bool false))), guard := none }]).seq ((ACode.region [{ dst := some 5, op := AOp.mv (Opd.t 0), guard := none }, { dst := some 6, op := AOp.len true (Opd.t 5), guard := none }, { dst := some 7, op := AOp.mv (Opd.t 1), guard := none }, { dst := some 8, op := AOp.len true (Opd.t 7), guard := none }, { dst := some 9, op := AOp.bin (Bin.plain BinOp.geq) (Opd.t 6) (Opd.t 8), guard := none }, { dst := some 10, op := AOp.mv (Opd.t 9), guard := none }, { dst := some 11, op := AOp.mv (Opd.t 0), guard := some (10, true) }, { dst := some 12, op := AOp.mv (Opd.t 0), guard := some (10, true) }, { dst := some 13, op := AOp.len true (Opd.t 12), guard := some (10, true) }, { dst := some 14, op := AOp.mv (Opd.t 1), guard := some (10, true) }, { dst := some 15, op := AOp.len true (Opd.t 14), guard := some (10, true) }, { dst := some 16, op := AOp.bin (Bin.plain BinOp.sub) (Opd.t 13) (Opd.t 15), guard := some (10, true) }, { dst := some 17, op := AOp.sliceStr (Opd.t 11) (some (Opd.t 16)) none, guard := some (10, true) }, { dst := some 18, op := AOp.mv (Opd.t 1), guard := some (10, true) }, { dst := some 19, op := AOp.bin (Bin.plain BinOp.eql) (Opd.t 17) (Opd.t 18), guard := some (10, true) }, { dst := some 20, op := AOp.pick (Opd.t 10) (Opd.t 19) (Opd.c (AV.p (PV.bool false))), guard := none }, { dst := some 4, op := AOp.mv (Opd.t 20), guard := none }]).seq ACode.ret) }
def lit40 : AFunc := { ntmps := 5, results := [ARes.cell 2 true 4], body := (ACode.region [{ dst := some 2, op := AOp.alloc 39 [AV.p (PV.int IntKind.i64 (0)), AV.p (PV.int IntKind.i64 (0)), AV.p (PV.str []), AV.p (PV.bool false)], guard := none }]).seq ((ACode.region [{ dst := some 3, op := AOp.mv (Opd.t 0), guard := none }, { dst := some 4, op := AOp.build [AV.p (PV.int IntKind.i64 (0)), AV.p (PV.int IntKind.i64 (0)), AV.p (PV.str []), AV.p (PV.bool false)] [(0, 1, Opd.c (AV.p (PV.int IntKind.i64 (2)))), (2, 1, Opd.t 3)], guard := none }, { dst := none, op := AOp.store 4 (Opd.t 2) (Opd.t 4), guard := none }]).seq ACode.ret) }
def lit25 : AFunc := { ntmps := 29, results := [ARes.cell 2 true 4], body := (ACode.region [{ dst := some 2, op := AOp.alloc 39 [AV.p (PV.int IntKind.i64 (0)), AV.p (PV.int IntKind.i64 (0)), AV.p (PV.str []), AV.p (PV.bool false)], guard := none }]).seq ((ACode.region [{ dst := some 3, op := AOp.alloc 71 [AV.p PV.nilptr, AV.nil0], guard := none }]).seq (ACode.block 0 (ACode.loop none (ACode.block 1 ((ACode.region [{ dst := some 6, op := AOp.mv (Opd.t 0), guard := none }, { dst := some 7, op := AOp.call (Opd.t 6) [Opd.c (AV.p (PV.int IntKind.i64 (1)))], guard := none }, { dst := some 4, op := AOp.mv (Opd.t 7), guard := none }]).seq (((ACode.region [{ dst := some 8, op := AOp.mv (Opd.t 4), guard := none }, { dst := some 9, op := AOp.bin (Bin.plain BinOp.neq) (Opd.t 8) (Opd.c (AV.p (PV.str [0]))), guard := none }]).seq (ACode.cond (Opd.t 9) ((ACode.region [{ dst := some 10, op := AOp.mv (Opd.t 4), guard := none }, { dst := some 11, op := AOp.call (Opd.c (AV.p (PV.fn 37))) [Opd.t 3, Opd.t 10], guard := none }]).seq (ACode.exit 1)) ACode.skip)).seq ((ACode.region [{ dst := some 12, op := AOp.mv (Opd.t 0), guard := none }, { dst := some 13, op := AOp.call (Opd.t 12) [Opd.c (AV.p (PV.int IntKind.i64 (1)))], guard := none }, { dst := some 14, op := AOp.atStr (Opd.t 13) (Opd.c (AV.p (PV.int IntKind.i64 (0)))), guard := none }]).seq (ACode.block 2 ((ACode.region [{ dst := some 18, op := AOp.bin (Bin.plain BinOp.eql) (Opd.t 14) (Opd.c (AV.p (PV.int IntKind.u8 (0)))), guard := none }, { dst := some 17, op := AOp.mv (Opd.t 18), guard := none }]).seq (ACode.cond (Opd.t 17) ((ACode.region [{ dst := some 19, op := AOp.call (Opd.c (AV.p (PV.fn 38))) [Opd.t 3], guard := none }, { dst := some 5, op := AOp.mv (Opd.t 19), guard := none }]).seq (((ACode.region [{ dst := some 20, op := AOp.mv (Opd.t 5), guard := none }, { dst := some 21, op := AOp.call (Opd.c (AV.p (PV.fn 39))) [Opd.t 20, Opd.c (AV.p (PV.str [32]))], guard := none }]).seq (ACode.cond (Opd.t 21) (ACode.region [{ dst := some 22, op := AOp.build [] [], guard := none }, { dst := some 23, op := AOp.mkIface 50 (Opd.t 22), guard := none }, { dst := none, op := AOp.panic (Opd.t 23), guard := none }]) ACode.skip)).seq ((ACode.region [{ dst := some 24, op := AOp.mv (Opd.t 5), guard := none }, { dst := some 25, op := AOp.call (Opd.c (AV.p (PV.fn 40))) [Opd.t 24], guard := none }, { dst := none, op := AOp.store 4 (Opd.t 2) (Opd.t 25), guard := none }]).seq ACode.ret))) ((ACode.region [{ dst := some 27, op := AOp.bin (Bin.plain BinOp.eql) (Opd.t 14) (Opd.c (AV.p (PV.int IntKind.u8 (255)))), guard := none }, { dst := some 26, op := AOp.mv (Opd.t 27), guard := none }]).seq (ACode.cond (Opd.t 26) (ACode.region [{ dst := some 28, op := AOp.call (Opd.c (AV.p (PV.fn 41))) [Opd.t 3, Opd.c (AV.p (PV.int IntKind.u8 (0)))], guard := none }]) (ACode.region [{ dst := some 15, op := AOp.build [] [], guard := none }, { dst := some 16, op := AOp.mkIface 50 (Opd.t 15), guard := none }, { dst := none, op := AOp.panic (Opd.t 16), guard := none }]))))))))))))) }
def body25 : ACode := (ACode.block 1 ((ACode.region [{ dst := some 6, op := AOp.mv (Opd.t 0), guard := none }, { dst := some 7, op := AOp.call (Opd.t 6) [Opd.c (AV.p (PV.int IntKind.i64 (1)))], guard := none }, { dst := some 4, op := AOp.mv (Opd.t 7), guard := none }]).seq (((ACode.region [{ dst := some 8, op := AOp.mv (Opd.t 4), guard := none }, { dst := some 9, op := AOp.bin (Bin.plain BinOp.neq) (Opd.t 8) (Opd.c (AV.p (PV.str [0]))), guard := none }]).seq (ACode.cond (Opd.t 9) ((ACode.region [{ dst := some 10, op := AOp.mv (Opd.t 4), guard := none }, { dst := some 11, op := AOp.call (Opd.c (AV.p (PV.fn 37))) [Opd.t 3, Opd.t 10], guard := none }]).seq (ACode.exit 1)) ACode.skip)).seq ((ACode.region [{ dst := some 12, op := AOp.mv (Opd.t 0), guard := none }, { dst := some 13, op := AOp.call (Opd.t 12) [Opd.c (AV.p (PV.int IntKind.i64 (1)))], guard := none }, { dst := some 14, op := AOp.atStr (Opd.t 13) (Opd.c (AV.p (PV.int IntKind.i64 (0)))), guard := none }]).seq (ACode.block 2 ((ACode.region [{ dst := some 18, op := AOp.bin (Bin.plain BinOp.eql) (Opd.t 14) (Opd.c (AV.p (PV.int IntKind.u8 (0)))), guard := none }, { dst := some 17, op := AOp.mv (Opd.t 18), guard := none }]).seq (ACode.cond (Opd.t 17) ((ACode.region [{ dst := some 19, op := AOp.call (Opd.c (AV.p (PV.fn 38))) [Opd.t 3], guard := none }, { dst := some 5, op := AOp.mv (Opd.t 19), guard := none }]).seq (((ACode.region [{ dst := some 20, op := AOp.mv (Opd.t 5), guard := none }, { dst := some 21, op := AOp.call (Opd.c (AV.p (PV.fn 39))) [Opd.t 20, Opd.c (AV.p (PV.str [32]))], guard := none }]).seq (ACode.cond (Opd.t 21) (ACode.region [{ dst := some 22, op := AOp.build [] [], guard := none }, { dst := some 23, op := AOp.mkIface 50 (Opd.t 22), guard := none }, { dst := none, op := AOp.panic (Opd.t 23), guard := none }]) ACode.skip)).seq ((ACode.region [{ dst := some 24, op := AOp.mv (Opd.t 5), guard := none }, { dst := some 25, op := AOp.call (Opd.c (AV.p (PV.fn 40))) [Opd.t 24], guard := none }, { dst := none, op := AOp.store 4 (Opd.t 2) (Opd.t 25), guard := none }]).seq ACode.ret))) ((ACode.region [{ dst := some 27, op := AOp.bin (Bin.plain BinOp.eql) (Opd.t 14) (Opd.c (AV.p (PV.int IntKind.u8 (255)))), guard := none }, { dst := some 26, op := AOp.mv (Opd.t 27), guard := none }]).seq (ACode.cond (Opd.t 26) (ACode.region [{ dst := some 28, op := AOp.call (Opd.c (AV.p (PV.fn 41))) [Opd.t 3, Opd.c (AV.p (PV.int IntKind.u8 (0)))], guard := none }]) (ACode.region [{ dst := some 15, op := AOp.build [] [], guard := none }, { dst := some 16, op := AOp.mkIface 50 (Opd.t 15), guard := none }, { dst := none, op := AOp.panic (Opd.t 16), guard := none }]))))))))))
theorem lit25_eq : lit25.body = (ACode.region [{ dst := some 2, op := AOp.alloc 39 [AV.p (PV.int IntKind.i64 (0)), AV.p (PV.int IntKind.i64 (0)), AV.p (PV.str []), AV.p (PV.bool false)], guard := none }]).seq ((ACode.region [{ dst := some 3, op := AOp.alloc 71 [AV.p PV.nilptr, AV.nil0], guard := none }]).seq (ACode.block 0 (ACode.loop none body25))) := rfl
/-- does a text end in a blank? -/
def endsB (s : List UInt8) : Bool := decide (1 ≤ s.length) && s.drop (s.length - 1) == [32]
abbrev bad : CRes := .pan (.p (.iface 50 (.agg [])))
/-- what words answers, and what it leaves -/
def words : List UInt8 → List UInt8 → CRes × List UInt8
  | [], _ => (bad, [])
  | [c], acc => if c = 0 then (bad, []) else (bad, [])
  | c :: d :: s, acc => if c = 0 then (if d = 0 then (if endsB acc then bad else .ret (.p (.agg (vc (.text acc)))), s) else if d = 255 then words s (acc ++ [0]) else (bad, s)) else words (d :: s) (acc ++ [c])
theorem words_pure : ∀ (s acc : List UInt8), PureR (words s acc).1
  | [], _ => .inr ⟨_, rfl⟩
  | [c], acc => by unfold words; split <;> exact .inr ⟨_, rfl⟩
  | c :: d :: s, acc => by
    unfold words
    split
    · split
      · split
        · exact .inr ⟨_, rfl⟩
        · exact .inl ⟨_, rfl⟩
      · split
        · exact words_pure s _
        · exact .inr ⟨_, rfl⟩
    · exact words_pure (d :: s) _
section
variable (m : Int) (L n : Nat)
theorem q39 : TE (G 0 m) 39 = some (.code lit39 true) := by kernel_rfl
theorem q51 : TE (G 0 m) 51 = some (.code lit51 true) := by kernel_rfl
theorem q40 : TE (G 0 m) 40 = some (.code lit40 true) := by kernel_rfl
theorem q25 : TE (G 0 m) 25 = some (.code lit25 true) := by kernel_rfl
theorem text40 (s : List UInt8) (σ : Heap) : (cAt (TE (G 0 m)) L (n + 1)).1 40 [.p (.str s)] σ = some (.ret (.p (.agg (vc (.text s)))), σ) :=
  call_ans (ps := [.str s]) (q40 m) (by kernel_rfl) (by kernel_rfl) σ
theorem suf51 (s : List UInt8) (hs : s.length ≤ LIM) (σ : Heap) : (cAt (TE (G 0 m)) L (n + 1)).1 51 [.p (.str s), .p (.str [32])] σ = some (.ret (.p (.bool (endsB s))), σ) := by
  have hL : LIM = 4294967296 := rfl
  refine call_ans (ps := [.str s, .str [32]]) (q51 m) (by kernel_rfl) ?_ σ
  unfold endsB
  by_cases h : 1 ≤ s.length
  · have h1 : (1 : Int) ≤ (s.length : Int) := by omega
    have h2 : IntKind.i64.wrap ((s.length : Int) - 1) = (s.length : Int) - 1 := wrap_id _ (by omega) (by omega)
    have h3 : (0 : Int) ≤ (s.length : Int) - 1 := by omega
    have h4 : (s.length : Int) - 1 ≤ (s.length : Int) := by omega
    have h5 : ((s.length : Int) - 1).toNat = s.length - 1 := by omega
    have h6 : (s.drop (s.length - 1)).take (s.length - (s.length - 1)) = s.drop (s.length - 1) := List.take_of_length_le (by simp)
    simp [lit51, runFunc, params, exec, runOps, wantedA, stepOp, pureOp, allocOp, readOp, effOp, ev, evs, evO, Env.get_cons, putE, binA, intBin, unA, AV.fit, AV.toCells, partC, partP, mkCells, allP, mkAgg, Cells.len, target, evParts, fillA, AV.cells, splice, spliceC, finA, leaveA, resA, resV, ansV, strBin, sliceA, boundsA, boundA, h, h1, h2, h3, h4, h5, h6]
  · have h1 : ¬ (1 : Int) ≤ (s.length : Int) := by omega
    simp [lit51, runFunc, params, exec, runOps, wantedA, stepOp, pureOp, allocOp, readOp, effOp, ev, evs, evO, Env.get_cons, putE, binA, intBin, unA, AV.fit, AV.toCells, partC, partP, mkCells, allP, mkAgg, Cells.len, target, evParts, fillA, AV.cells, splice, spliceC, finA, leaveA, resA, resV, ansV, strBin, h, h1]
theorem suf39 (s : List UInt8) (hs : s.length ≤ LIM) (σ : Heap) : (cAt (TE (G 0 m)) L (n + 2)).1 39 [.p (.str s), .p (.str [32])] σ = some (.ret (.p (.bool (endsB s))), σ) := by
  refine call_ans (ps := [.str s, .str [32]]) (n := n + 1) (q39 m) (by kernel_rfl) ?_ σ
  have h := suf51 m L n s hs
  generalize (cAt (TE (G 0 m)) L (n + 1)).1 = C at *
  generalize (cAt (TE (G 0 m)) L (n + 1)).2 = D
  simp [lit39, runFunc, params, exec, runOps, wantedA, stepOp, pureOp, allocOp, readOp, effOp, ev, evs, evO, Env.get_cons, putE, binA, intBin, unA, AV.fit, AV.toCells, partC, partP, mkCells, allP, mkAgg, Cells.len, target, evParts, fillA, AV.cells, splice, spliceC, finA, leaveA, resA, resV, ansV, h]
end
/-- what words asks of the functions below -/
structure C25 (C : Oracle) (ty : Option Nat) : Prop where
  take : ∀ (σ : Heap) (s : List UInt8), σ[0]? = some (.arr (.pv [.str s]) 0 0 ty) → C 23 [.p (.int .i64 1), .ptr 0 0 0] σ = some (takeR s 1, σ.set 0 (.arr (.pv [.str (takeS s 1)]) 0 0 ty))
  write : ∀ (o0 o1 : Obj) (σ : Heap) (l : List UInt8), BH o0 o1 σ l → ∀ c : UInt8, l.length + 1 ≤ LIM → ∃ σ', C 37 [.ptr 2 0 0, .p (.str [c])] σ = some (.ret (.p (.tup [.int .i64 1, .nilif])), σ') ∧ BH o0 o1 σ' (l ++ [c])
  byte : ∀ (o0 o1 : Obj) (σ : Heap) (l : List UInt8), BH o0 o1 σ l → l.length + 1 ≤ LIM → ∃ σ', C 41 [.ptr 2 0 0, .p (.int .u8 0)] σ = some (.ret (.p .nilif), σ') ∧ BH o0 o1 σ' (l ++ [0])
  str : ∀ (o0 o1 : Obj) (σ : Heap) (l : List UInt8), BH o0 o1 σ l → l.length ≤ LIM → ∃ τ, C 38 [.ptr 2 0 0] σ = some (.ret (.p (.str l)), o0 :: o1 :: τ)
  ends : ∀ (s : List UInt8), s.length ≤ LIM → ∀ σ, C 39 [.p (.str s), .p (.str [32])] σ = some (.ret (.p (.bool (endsB s))), σ)
  text : ∀ (s : List UInt8) σ, C 40 [.p (.str s)] σ = some (.ret (.p (.agg (vc (.text s)))), σ)
theorem c25_ok (m : Int) (L n : Nat) (ty : Option Nat) : C25 (cAt (TE (G 0 m)) L (n + 2)).1 ty where
  take σ s h := take_at m L (n + 1) 1 h
  write o0 o1 σ l h c hl := write_at m L n h c hl
  byte o0 o1 σ l h hl := byte_at' m L n h hl
  str o0 o1 σ l h hl := str_at m L (n + 1) h hl
  ends s hs σ := suf39 m L n s hs σ
  text s σ := text40 m L (n + 1) s σ
/-- the loop's state -/
structure At25 (ρ : Env) : Prop where
  t0 : ρ.get 0 = some (.clo 23 [] [.ptr 0 0 0])
  t2 : ρ.get 2 = some (.ptr 1 0 0)
  t3 : ρ.get 3 = some (.ptr 2 0 0)
abbrev box (ty : Option Nat) (s : List UInt8) : Obj := .arr (.pv [.str s]) 0 0 ty
abbrev cell39 : Obj := .arr (.pv (vc .null)) 0 0 (some 39)
theorem BH.split {o0 o1 : Obj} {σ : Heap} {l : List UInt8} (h : BH o0 o1 σ l) : ∃ τ, σ = o0 :: o1 :: τ := by
  cases h <;> exact ⟨_, rfl⟩
section
variable (C : Oracle) (L : Nat) (ty : Option Nat) (hC : C25 C ty) (ρ : Env) (σ : Heap) (acc : List UInt8)
include hC
theorem go25_c (c : UInt8) (s : List UInt8) (h : At25 ρ) (hb : BH (box ty (c :: s)) cell39 σ acc) (hc : c ≠ 0) (hl : acc.length + 1 ≤ LIM) :
    ∃ (ρ' : Env) (σ' : Heap), exec C L body25 ⟨ρ, [], σ⟩ = some (.normal, ⟨ρ', [], σ'⟩) ∧ At25 ρ' ∧ BH (box ty s) cell39 σ' (acc ++ [c]) := by
  have e1 := hC.take σ (c :: s) hb.box
  simp only [takeR, takeS, List.length_cons, Nat.le_add_left, if_true, List.take_succ_cons, List.take_zero, List.drop_succ_cons, List.drop_zero] at e1
  obtain ⟨σ', e2, hb'⟩ := hC.write _ _ _ _ (hb.set (box ty s)) c hl
  have hcb : (c == 0) = false := by simpa using hc
  exact ⟨_, σ', by simp [body25, exec, runOps, wantedA, stepOp, pureOp, allocOp, readOp, effOp, ev, evs, evO, Env.get_cons, putE, binA, intBin, unA, AV.fit, AV.toCells, partC, partP, mkCells, allP, mkAgg, Cells.len, target, h.t0, h.t3, e1, e2, strBin, hcb]; rfl, ⟨by simp [Env.get_cons, h.t0], by simp [Env.get_cons, h.t2], by simp [Env.get_cons, h.t3]⟩, hb'⟩
theorem go25_nil (h : At25 ρ) (hb : BH (box ty []) cell39 σ acc) :
    ∃ (ρ' : Env) (τ : Heap), exec C L body25 ⟨ρ, [], σ⟩ = some (.pan (.p (.iface 50 (.agg []))), ⟨ρ', [], box ty [] :: τ⟩) := by
  have e1 := hC.take σ [] hb.box
  obtain ⟨τ, rfl⟩ := hb.split
  simp only [takeR, takeS, List.length_nil, Nat.not_succ_le_zero, if_false, List.set_cons_zero] at e1
  exact ⟨_, _, by simp [body25, exec, runOps, wantedA, stepOp, pureOp, allocOp, readOp, effOp, ev, evs, evO, Env.get_cons, putE, binA, intBin, unA, AV.fit, AV.toCells, partC, partP, mkCells, allP, mkAgg, Cells.len, target, h.t0, e1]; exact ⟨rfl, rfl⟩⟩
/-- the byte behind a zero -/
theorem go25_z (s : List UInt8) (hb : BH (box ty (0 :: s)) cell39 σ acc) : C 23 [.p (.int .i64 1), .ptr 0 0 0] σ = some (.ret (.p (.str [0])), σ.set 0 (box ty s)) := by
  have e1 := hC.take σ (0 :: s) hb.box
  simpa only [takeR, takeS, List.length_cons, Nat.le_add_left, if_true, List.take_succ_cons, List.take_zero, List.drop_succ_cons, List.drop_zero] using e1
theorem go25_zn (h : At25 ρ) (hb : BH (box ty [0]) cell39 σ acc) :
    ∃ (ρ' : Env) (τ : Heap), exec C L body25 ⟨ρ, [], σ⟩ = some (.pan (.p (.iface 50 (.agg []))), ⟨ρ', [], box ty [] :: τ⟩) := by
  have e1 := go25_z C ty hC σ acc [] hb
  have e2 := hC.take _ [] (hb.set (box ty [])).box
  obtain ⟨τ, rfl⟩ := hb.split
  simp only [takeR, takeS, List.length_nil, Nat.not_succ_le_zero, if_false, List.set_cons_zero] at e1 e2
  exact ⟨_, _, by simp [body25, exec, runOps, wantedA, stepOp, pureOp, allocOp, readOp, effOp, ev, evs, evO, Env.get_cons, putE, binA, intBin, unA, AV.fit, AV.toCells, partC, partP, mkCells, allP, mkAgg, Cells.len, target, atStrA, h.t0, e1, e2, strBin]; exact ⟨rfl, rfl⟩⟩
theorem go25_zd (d : UInt8) (s : List UInt8) (hb : BH (box ty (0 :: d :: s)) cell39 σ acc) : C 23 [.p (.int .i64 1), .ptr 0 0 0] (σ.set 0 (box ty (d :: s))) = some (.ret (.p (.str [d])), σ.set 0 (box ty s)) := by
  have e1 := hC.take _ (d :: s) (hb.set (box ty (d :: s))).box
  simpa only [takeR, takeS, List.length_cons, Nat.le_add_left, if_true, List.take_succ_cons, List.take_zero, List.drop_succ_cons, List.drop_zero, List.set_set] using e1
theorem go25_zz (s : List UInt8) (h : At25 ρ) (hb : BH (box ty (0 :: 0 :: s)) cell39 σ acc) (hl : acc.length ≤ LIM) (he : endsB acc = false) :
    ∃ (ρ' : Env) (τ : Heap), exec C L body25 ⟨ρ, [], σ⟩ = some (.ret, ⟨ρ', [], box ty s :: .arr (.pv (vc (.text acc))) 0 0 (some 39) :: τ⟩) ∧ ρ'.get 2 = some (.ptr 1 0 0) := by
  have e1 := go25_z C ty hC σ acc (0 :: s) hb
  have e2 := go25_zd C ty hC σ acc 0 s hb
  obtain ⟨τ, e3⟩ := hC.str _ _ _ _ (hb.set (box ty s)) hl
  have e4 := hC.ends acc hl
  have e5 := hC.text acc
  simp only [vc] at e5
  exact ⟨_, τ, by simp [body25, exec, runOps, wantedA, stepOp, pureOp, allocOp, readOp, effOp, ev, evs, evO, Env.get_cons, putE, binA, intBin, unA, AV.fit, AV.toCells, partC, partP, mkCells, allP, mkAgg, Cells.len, target, evParts, fillA, AV.cells, splice, spliceC, finA, leaveA, resA, resV, ansV, atStrA, h.t0, h.t2, h.t3, e1, e2, e3, e4, e5, he, strBin, vc]; rfl, by simp [Env.get_cons, h.t2]⟩
theorem go25_ze (s : List UInt8) (h : At25 ρ) (hb : BH (box ty (0 :: 0 :: s)) cell39 σ acc) (hl : acc.length ≤ LIM) (he : endsB acc = true) :
    ∃ (ρ' : Env) (τ : Heap), exec C L body25 ⟨ρ, [], σ⟩ = some (.pan (.p (.iface 50 (.agg []))), ⟨ρ', [], box ty s :: τ⟩) := by
  have e1 := go25_z C ty hC σ acc (0 :: s) hb
  have e2 := go25_zd C ty hC σ acc 0 s hb
  obtain ⟨τ, e3⟩ := hC.str _ _ _ _ (hb.set (box ty s)) hl
  have e4 := hC.ends acc hl
  exact ⟨_, _, by simp [body25, exec, runOps, wantedA, stepOp, pureOp, allocOp, readOp, effOp, ev, evs, evO, Env.get_cons, putE, binA, intBin, unA, AV.fit, AV.toCells, partC, partP, mkCells, allP, mkAgg, Cells.len, target, evParts, fillA, AV.cells, splice, spliceC, finA, leaveA, resA, resV, ansV, atStrA, h.t0, h.t2, h.t3, e1, e2, e3, e4, he, strBin]; exact ⟨rfl, rfl⟩⟩
theorem go25_zf (s : List UInt8) (h : At25 ρ) (hb : BH (box ty (0 :: 255 :: s)) cell39 σ acc) (hl : acc.length + 1 ≤ LIM) :
    ∃ (ρ' : Env) (σ' : Heap), exec C L body25 ⟨ρ, [], σ⟩ = some (.normal, ⟨ρ', [], σ'⟩) ∧ At25 ρ' ∧ BH (box ty s) cell39 σ' (acc ++ [0]) := by
  have e1 := go25_z C ty hC σ acc (255 :: s) hb
  have e2 := go25_zd C ty hC σ acc 255 s hb
  obtain ⟨σ', e3, hb'⟩ := hC.byte _ _ _ _ (hb.set (box ty s)) hl
  exact ⟨_, σ', by simp [body25, exec, runOps, wantedA, stepOp, pureOp, allocOp, readOp, effOp, ev, evs, evO, Env.get_cons, putE, binA, intBin, unA, AV.fit, AV.toCells, partC, partP, mkCells, allP, mkAgg, Cells.len, target, evParts, fillA, AV.cells, splice, spliceC, finA, leaveA, resA, resV, ansV, atStrA, h.t0, h.t2, h.t3, e1, e2, e3, strBin]; rfl, ⟨by simp [Env.get_cons, h.t0], by simp [Env.get_cons, h.t2], by simp [Env.get_cons, h.t3]⟩, hb'⟩
theorem go25_zx (d : UInt8) (s : List UInt8) (h : At25 ρ) (hb : BH (box ty (0 :: d :: s)) cell39 σ acc) (h0 : d ≠ 0) (h255 : d ≠ 255) :
    ∃ (ρ' : Env) (τ : Heap), exec C L body25 ⟨ρ, [], σ⟩ = some (.pan (.p (.iface 50 (.agg []))), ⟨ρ', [], box ty s :: τ⟩) := by
  have e1 := go25_z C ty hC σ acc (d :: s) hb
  have e2 := go25_zd C ty hC σ acc d s hb
  obtain ⟨τ, rfl⟩ := hb.split
  simp only [List.set_cons_zero] at e1 e2
  have d0 : ((d.toNat : Int) == 0) = false := by
    have : d.toNat ≠ 0 := fun e => h0 (UInt8.toNat_inj.1 e)
    simp; omega
  have d1 : ((d.toNat : Int) == 255) = false := by
    have : d.toNat ≠ 255 := fun e => h255 (UInt8.toNat_inj.1 e)
    simp; omega
  exact ⟨_, _, by simp [body25, exec, runOps, wantedA, stepOp, pureOp, allocOp, readOp, effOp, ev, evs, evO, Env.get_cons, putE, binA, intBin, unA, AV.fit, AV.toCells, partC, partP, mkCells, allP, mkAgg, Cells.len, target, evParts, fillA, AV.cells, splice, spliceC, finA, leaveA, resA, resV, ansV, atStrA, h.t0, h.t2, h.t3, e1, e2, strBin, d0, d1, h0, h255]; exact ⟨rfl, rfl⟩⟩
end
/-- how words ends -/
def End25 (ty : Option Nat) (x : CRes × List UInt8) (ex : AExit) (st : St) : Prop := st.defers = [] ∧ ∃ τ, match x.1 with
  | .ret (.p (.agg cs)) => ex = .ret ∧ st.heap = box ty x.2 :: .arr (.pv cs) 0 0 (some 39) :: τ ∧ st.env.get 2 = some (.ptr 1 0 0) ∧ cs.length = 4
  | .pan v => ex = .pan v ∧ st.heap = box ty x.2 :: τ
  | _ => False
theorem loop25 (C : Oracle) (L : Nat) (ty : Option Nat) (hC : C25 C ty) : ∀ (f : Nat) (s acc : List UInt8) (ρ : Env) (σ : Heap), s.length < f → At25 ρ → BH (box ty s) cell39 σ acc → acc.length + s.length ≤ LIM →
    ∃ (ex : AExit) (st : St), iter (exec C L body25) none f ⟨ρ, [], σ⟩ = some (ex, st) ∧ ex ≠ .normal ∧ End25 ty (words s acc) ex st
  | 0, s, acc, ρ, σ, hf, _, _, _ => absurd hf (by omega)
  | f + 1, s, acc, ρ, σ, hf, h, hb, hl => by
    have fin : ∀ {ex : AExit} {st : St}, exec C L body25 ⟨ρ, [], σ⟩ = some (ex, st) → ex ≠ .normal → iter (exec C L body25) none (f + 1) ⟨ρ, [], σ⟩ = some (ex, st) := fun {ex st} e hne => by
      simp only [iter, St.keep, e]
      split
      · rename_i st' he
        cases he
        exact absurd rfl hne
      · rfl
    match s, hf, hb, hl with
    | [], _, hb, hl =>
      obtain ⟨ρ', τ, e⟩ := go25_nil C L ty hC ρ σ acc h hb
      exact ⟨_, _, fin e (by simp), by simp, rfl, τ, rfl, rfl⟩
    | [c], hf, hb, hl =>
      by_cases hc : c = 0
      · subst hc
        obtain ⟨ρ', τ, e⟩ := go25_zn C L ty hC ρ σ acc h hb
        refine ⟨_, _, fin e (by simp), by simp, rfl, τ, ?_⟩
        simp [words]
      · obtain ⟨ρ1, σ1, e, h1, hb1⟩ := go25_c C L ty hC ρ σ acc c [] h hb hc (by simpa using hl)
        obtain ⟨ex, st, e', hne, q⟩ := loop25 C L ty hC f [] (acc ++ [c]) ρ1 σ1 (by simp at hf ⊢; omega) h1 hb1 (by simpa using hl)
        refine ⟨ex, st, by simp only [iter, St.keep, e]; exact e', hne, ?_⟩
        simpa [words, hc] using q
    | c :: d :: s, hf, hb, hl =>
      simp only [List.length_cons] at hf hl
      by_cases hc : c = 0
      · subst hc
        by_cases h0 : d = 0
        · subst h0
          cases he : endsB acc with
          | true =>
            obtain ⟨ρ', τ, e⟩ := go25_ze C L ty hC ρ σ acc s h hb (by omega) he
            refine ⟨_, _, fin e (by simp), by simp, rfl, τ, ?_⟩
            simp [words, he]
          | false =>
            obtain ⟨ρ', τ, e, g2⟩ := go25_zz C L ty hC ρ σ acc s h hb (by omega) he
            refine ⟨_, _, fin e (by simp), by simp, rfl, τ, ?_⟩
            simp [words, he, g2, vc]
        · by_cases h255 : d = 255
          · subst h255
            obtain ⟨ρ1, σ1, e, h1, hb1⟩ := go25_zf C L ty hC ρ σ acc s h hb (by omega)
            obtain ⟨ex, st, e', hne, q⟩ := loop25 C L ty hC f s (acc ++ [0]) ρ1 σ1 (by omega) h1 hb1 (by simp; omega)
            refine ⟨ex, st, by simp only [iter, St.keep, e]; exact e', hne, ?_⟩
            simpa [words] using q
          · obtain ⟨ρ', τ, e⟩ := go25_zx C L ty hC ρ σ acc d s h hb h0 h255
            refine ⟨_, _, fin e (by simp), by simp, rfl, τ, ?_⟩
            simp [words, h0, h255]
      · obtain ⟨ρ1, σ1, e, h1, hb1⟩ := go25_c C L ty hC ρ σ acc c (d :: s) h hb hc (by omega)
        obtain ⟨ex, st, e', hne, q⟩ := loop25 C L ty hC f (d :: s) (acc ++ [c]) ρ1 σ1 (by simp; omega) h1 hb1 (by simp; omega)
        refine ⟨ex, st, by simp only [iter, St.keep, e]; exact e', hne, ?_⟩
        rw [words, if_neg hc]
        exact q
end Go.Ab.Key

/- The laws of keys: what a call of words answers. -/
set_option maxRecDepth 1000000
namespace Go.Ab.Key
open Go Go.Ab Go.Proofs
variable [Marks]
theorem run25 (C : Oracle) (D : DOracle) (L : Nat) (ty : Option Nat) (hC : C25 C ty) (s : List UInt8) (hs : s.length < L) (hl : s.length ≤ LIM) :
    ∃ τ, runFunc C D L lit25 [.clo 23 [] [.ptr 0 0 0]] [box ty s] = some ((words s []).1, box ty (words s []).2 :: τ) := by
  obtain ⟨ex, st, e, hne, hd, τ, q⟩ := loop25 C L ty hC L s [] [(3, .ptr 2 0 0), (2, .ptr 1 0 0), (0, .clo 23 [] [.ptr 0 0 0])] [box ty s, cell39, bld0] hs ⟨rfl, rfl, rfl⟩ .new (by simpa using hl)
  have hp := words_pure s []
  have h0 : runFunc C D L lit25 [.clo 23 [] [.ptr 0 0 0]] [box ty s] = finX D lit25 (exec C L (.block 0 (.loop none body25)) ⟨[(3, .ptr 2 0 0), (2, .ptr 1 0 0), (0, .clo 23 [] [.ptr 0 0 0])], [], [box ty s, cell39, bld0]⟩) := by
    rw [runFunc_eq, lit25_eq]
    rw [seqN (a := .region _) (by simp [params, exec, runOps, wantedA, stepOp, pureOp, allocOp, readOp, effOp, ev, evs, evO, Env.get_cons, putE, binA, intBin, unA, AV.fit, AV.toCells, partC, partP, mkCells, allP, mkAgg, Cells.len, target]; rfl), seqN (a := .region _) (by simp [exec, runOps, wantedA, stepOp, pureOp, allocOp, readOp, effOp, ev, evs, evO, Env.get_cons, putE, binA, intBin, unA, AV.fit, AV.toCells, partC, partP, mkCells, allP, mkAgg, Cells.len, target]; rfl)]
    rfl
  have h1 : exec C L (.block 0 (.loop none body25)) ⟨[(3, .ptr 2 0 0), (2, .ptr 1 0 0), (0, .clo 23 [] [.ptr 0 0 0])], [], [box ty s, cell39, bld0]⟩ = (match (some (ex, st) : Option (AExit × St)) with
      | some (.exit id', st') => if id' = 0 then some (.normal, st') else some (.exit id', st')
      | r => r) := by rw [← e]; rfl
  rw [h0, h1]
  generalize words s [] = x at *
  obtain ⟨r, s'⟩ := x
  obtain ⟨ρ', ds, hh⟩ := st
  simp only at hd
  subst hd
  rcases hp with ⟨v, hv⟩ | ⟨v, hv⟩
  · simp only at hv
    subst hv
    simp only at q
    cases v <;> simp only at q <;> try exact q.elim
    rename_i cs
    obtain ⟨rfl, rfl, h2, h4⟩ := q
    have ht : cs.take 4 = cs := List.take_of_length_le (by omega)
    exact ⟨_, by simp [finX, finA, leaveA, lit25, resA, h2, partC, partP, h4, ht, resV]; rfl⟩
  · simp only at hv
    subst hv
    simp only at q
    obtain ⟨rfl, rfl⟩ := q
    exact ⟨_, by simp [finX, finA, leaveA]; rfl⟩
section
variable (m : Int) (L n : Nat)
theorem words_at {σ : Heap} {id ver : Nat} {s : List UInt8} {ty : Option Nat} (ho : σ[id]? = some (.arr (.pv [.str s]) ver 0 ty)) (hs : s.length < L) (hl : s.length ≤ LIM) :
    (cAt (TE (G 0 m)) L (n + 3)).1 25 [.clo 23 [] [.ptr id ver 0]] σ = some ((words s []).1, σ.set id (.arr (.pv [.str (words s []).2]) ver 0 ty)) := by
  have hC := c25_ok m L n ty
  rw [cAt_succ]
  simp only [callT, q25 m]
  generalize (cAt (TE (G 0 m)) L (n + 2)).1 = C at *
  generalize (cAt (TE (G 0 m)) L (n + 2)).2 = D
  obtain ⟨τ, e⟩ := run25 C D L ty hC s hs hl
  refine wrap_one (as0 := [.clo 23 [] [.ptr 0 0 0]]) (τ := τ) ?_ (words_pure _ _) ho rfl rfl ?_
  · have hf : fits lit25 [.clo 23 [] [.ptr 0 0 0]] = true := rfl
    simp only [runCode, hf]
    exact e
  · have hb : Nat.beq id id = true := Nat.beq_refl id
    simp [renL, renV, fwd, posOf, hb]
end
end Go.Ab.Key
