/- The laws of keys: KeyBack. -/
import Derived.Test.YtafjhlangdcefaaDoorAbKN
set_option linter.unusedSectionVars false
set_option linter.unusedSimpArgs false
set_option linter.unusedVariables false
set_option maxRecDepth 1000000
namespace Go.Ab.Key
open Go Go.Ab Go.Proofs
variable [Marks]
theorem wanted_false {ρ : Env} {j : Nat} (h : ρ.get j = some (.p (.bool false))) : wantedA (some (j, false)) ρ = some true := by
  simp only [wantedA, h]; rfl
def lit4 : AFunc := { ntmps := 49, results := [ARes.tmp 4], body := (ACode.region [{ dst := some 4, op := AOp.mv (Opd.c (AV.p (PV.bool false))), guard := none }]).seq ((ACode.region [{ dst := some 10, op := AOp.mv (Opd.t 0), guard := none }, { dst := some 11, op := AOp.call (Opd.c (AV.p (PV.fn 8))) [Opd.t 10], guard := none }, { dst := some 5, op := AOp.mv (Opd.t 11), guard := none }]).seq ((ACode.region [{ dst := some 13, op := AOp.mv (Opd.t 5), guard := none }, { dst := some 14, op := AOp.call (Opd.c (AV.p (PV.fn 9))) [Opd.t 13], guard := none }, { dst := some 15, op := AOp.call (Opd.c (AV.p (PV.fn 12))) [Opd.t 14], guard := none }, { dst := some 12, op := AOp.mv (Opd.t 15), guard := none }, { dst := some 16, op := AOp.extract 0 (Opd.t 12), guard := none }, { dst := some 17, op := AOp.extract 1 (Opd.t 12), guard := none }, { dst := some 6, op := AOp.mv (Opd.t 16), guard := none }, { dst := some 7, op := AOp.mv (Opd.t 17), guard := none }]).seq (((ACode.region [{ dst := some 18, op := AOp.mv (Opd.t 7), guard := none }, { dst := some 19, op := AOp.bin (Bin.plain BinOp.neq) (Opd.t 18) (Opd.c (AV.p (PV.int IntKind.i64 (0)))), guard := none }, { dst := some 20, op := AOp.mv (Opd.t 19), guard := none }, { dst := some 21, op := AOp.mv (Opd.t 6), guard := some (20, false) }, { dst := some 22, op := AOp.len false (Opd.t 21), guard := some (20, false) }, { dst := some 23, op := AOp.mv (Opd.t 5), guard := some (20, false) }, { dst := some 24, op := AOp.len false (Opd.t 23), guard := some (20, false) }, { dst := some 25, op := AOp.bin (Bin.plain BinOp.neq) (Opd.t 22) (Opd.t 24), guard := some (20, false) }, { dst := some 26, op := AOp.pick (Opd.t 20) (Opd.c (AV.p (PV.bool true))) (Opd.t 25), guard := none }, { dst := some 27, op := AOp.mv (Opd.t 26), guard := none }, { dst := some 28, op := AOp.mv (Opd.t 6), guard := some (27, false) }, { dst := some 29, op := AOp.mv (Opd.t 5), guard := some (27, false) }, { dst := some 30, op := AOp.call (Opd.c (AV.p (PV.fn 10))) [Opd.t 28, Opd.t 29], guard := some (27, false) }, { dst := some 31, op := AOp.bin (Bin.plain BinOp.neq) (Opd.t 30) (Opd.c (AV.p (PV.int IntKind.i64 (0)))), guard := some (27, false) }, { dst := some 32, op := AOp.pick (Opd.t 27) (Opd.c (AV.p (PV.bool true))) (Opd.t 31), guard := none }]).seq (ACode.cond (Opd.t 32) ((ACode.region [{ dst := some 4, op := AOp.mv (Opd.c (AV.p (PV.bool false))), guard := none }]).seq ACode.ret) ACode.skip)).seq ((ACode.region [{ dst := some 34, op := AOp.mv (Opd.t 1), guard := none }, { dst := some 35, op := AOp.call (Opd.c (AV.p (PV.fn 12))) [Opd.t 34], guard := none }, { dst := some 33, op := AOp.mv (Opd.t 35), guard := none }, { dst := some 36, op := AOp.extract 0 (Opd.t 33), guard := none }, { dst := some 37, op := AOp.extract 1 (Opd.t 33), guard := none }, { dst := some 8, op := AOp.mv (Opd.t 36), guard := none }, { dst := some 9, op := AOp.mv (Opd.t 37), guard := none }]).seq ((ACode.region [{ dst := some 38, op := AOp.call (Opd.c (AV.p (PV.fn 11))) [], guard := none }, { dst := some 39, op := AOp.mv (Opd.t 38), guard := none }, { dst := some 40, op := AOp.mv (Opd.t 9), guard := some (39, true) }, { dst := some 41, op := AOp.bin (Bin.plain BinOp.neq) (Opd.t 40) (Opd.c (AV.p (PV.int IntKind.i64 (0)))), guard := some (39, true) }, { dst := some 42, op := AOp.mv (Opd.t 41), guard := some (39, true) }, { dst := some 43, op := AOp.mv (Opd.t 8), guard := some (42, false) }, { dst := some 44, op := AOp.call (Opd.c (AV.p (PV.fn 9))) [Opd.t 43], guard := some (42, false) }, { dst := some 45, op := AOp.mv (Opd.t 1), guard := some (42, false) }, { dst := some 46, op := AOp.bin (Bin.plain BinOp.eql) (Opd.t 44) (Opd.t 45), guard := some (42, false) }, { dst := some 47, op := AOp.pick (Opd.t 42) (Opd.c (AV.p (PV.bool true))) (Opd.t 46), guard := some (39, true) }, { dst := some 48, op := AOp.pick (Opd.t 39) (Opd.t 47) (Opd.c (AV.p (PV.bool false))), guard := none }, { dst := some 4, op := AOp.mv (Opd.t 48), guard := none }]).seq ACode.ret))))) }
section
variable (m : Int)
theorem q4 : TE (G 0 m) 4 = some (.code lit4 true) := by kernel_rfl
set_option maxHeartbeats 2000000 in
theorem law4 (a : List Raw) (s : List UInt8) (ha : ∀ r ∈ a, inR r.k ∧ inR r.n) (hza : szL (raws a) ≤ 1048576) (hs : s.length ≤ 1048576) :
    ∃ L n σ', (cAt (TE (G 0 m)) L n).1 4 [.p (.vsl (raws a) a.length), .p (.str s)] [] = some (.ret (.p (.bool true)), σ') := by
  refine ⟨20000000, 31, [], ?_⟩
  have hxa := ok_row ha
  have hwa := wts_row' hza
  have hx40 : (rowOf' a).length ≤ 40 := by simp [rowOf']; omega
  have hLm : LIM = 4294967296 := rfl
  obtain ⟨v, τ1, e1, s1, _⟩ := row_at' m 20000000 27 (by omega) a (fun r hr => (ha r hr).1) []
  rw [List.nil_append] at e1 s1
  generalize rowOf' a = x at *
  obtain ⟨σ2, e2, k2⟩ := encode_at m 20000000 28 x (by omega) (by omega) hxa (by omega) s1
  have hlx := encL_len x
  have hdec : dec 20000000 (encL x) [] = some (x.map norm) := by
    have := dec_enc x 20000000 [] hxa (by omega)
    rwa [List.nil_append] at this
  obtain ⟨w, τ3, e3, s3⟩ := decode_at m 20000000 26 (encL x) (by omega) (by omega) (by omega) σ2
  rw [hdec] at e3 s3
  simp only [decI, Option.getD_some] at e3 s3
  have s1' := (k2 _ _ s1).push τ3
  obtain ⟨σ4, e4, k4⟩ := order_at m 20000000 27 (x.map norm) x (by simp; omega) (by simp; omega) (fun s hs => by have := norm_text hwa s hs; omega) (fun s hs => by have := wts_text hwa s hs; omega) s3 s1'
  rw [ordL_norm] at e4
  obtain ⟨z, τ5, e5, s5⟩ := decode_at m 20000000 26 s (by omega) (by omega) (by omega) σ4
  have e6 : ∀ l, dec 20000000 s [] = some l → ∃ σ6, (cAt (TE (G 0 m)) 20000000 30).1 9 [z] (σ4 ++ τ5) = some (.ret (.p (.str s)), σ6) := fun l hl => by
    obtain ⟨k, h1, h2, h3, h4, h5⟩ := dec_back _ _ _ _ hl
    rw [List.nil_append] at h1
    subst h1
    rw [hl, Option.getD_some] at s5
    obtain ⟨σ6, e, _⟩ := encode_at m 20000000 28 l (by omega) (by omega) h3 (by omega) s5
    rw [h2] at e
    exact ⟨σ6, e⟩
  have e8 := alive_at m 20000000 30 (by omega) (by omega)
  refine call_ans (ps := [.vsl (raws a) a.length, .str s]) (n := 30) (q4 m) (by kernel_rfl) ?_ []
  have lw := s3.len
  rw [List.length_map] at lw
  have lv := s1'.len
  generalize (cAt (TE (G 0 m)) 20000000 30).1 = C at *
  generalize (cAt (TE (G 0 m)) 20000000 30).2 = D
  rw [runFunc_eq]
  simp only [lit4]
  refine seqE (σ1 := []) (Q := fun ρ => ρ.get 0 = some (.p (.vsl (raws a) a.length)) ∧ ρ.get 1 = some (.p (.str s))) ⟨_, by simp [params, exec, runOps, wantedA, stepOp, pureOp, allocOp, readOp, effOp, ev, evs, evO, Env.get_cons, putE, binA, intBin, unA, AV.fit, AV.toCells, partC, partP, mkCells, allP, mkAgg, Cells.len, target]; rfl, by simp [Env.get_cons]⟩ fun ρ ⟨g0, g1⟩ => ?_
  refine seqE (σ1 := τ1) (Q := fun ρ => ρ.get 5 = some v ∧ ρ.get 1 = some (.p (.str s))) ⟨_, by simp [exec, runOps, wantedA, stepOp, pureOp, allocOp, readOp, effOp, ev, evs, evO, Env.get_cons, putE, binA, intBin, unA, AV.fit, AV.toCells, partC, partP, mkCells, allP, mkAgg, Cells.len, target, g0, e1]; rfl, by simp [Env.get_cons, g1]⟩ fun ρ ⟨g5, g1⟩ => ?_
  refine seqE (σ1 := σ2 ++ τ3) (Q := fun ρ => ρ.get 5 = some v ∧ ρ.get 1 = some (.p (.str s)) ∧ ρ.get 6 = some w ∧ ρ.get 7 = some (.p (.int .i64 0))) ⟨_, by simp [exec, runOps, wantedA, stepOp, pureOp, allocOp, readOp, effOp, ev, evs, evO, Env.get_cons, putE, binA, intBin, unA, AV.fit, AV.toCells, partC, partP, mkCells, allP, mkAgg, Cells.len, target, extractA, g5, e2, e3]; rfl, by simp [Env.get_cons, g1, g5]⟩ fun ρ ⟨g5, g1, g6, g7⟩ => ?_
  have rg1 := fun (d k : Nat) (r : List AOper) (ρ : Env) (σ : Heap) (h : ρ.get 20 = some (.p (.bool false))) => run_len (C := C) (d := d) (k := k) (g := some (20, false)) (r := r) (ρ := ρ) (σ := σ) lw s3.str (wanted_false h)
  have rg2 := fun (d k : Nat) (r : List AOper) (ρ : Env) (σ : Heap) (h : ρ.get 20 = some (.p (.bool false))) => run_len (C := C) (d := d) (k := k) (g := some (20, false)) (r := r) (ρ := ρ) (σ := σ) lv s1'.str (wanted_false h)
  refine seqE (σ1 := σ4) (Q := fun ρ => ρ.get 1 = some (.p (.str s))) ⟨_, by simp [exec, runOps, wantedA, stepOp, pureOp, allocOp, readOp, effOp, ev, evs, evO, Env.get_cons, putE, binA, intBin, unA, AV.fit, AV.toCells, partC, partP, mkCells, allP, mkAgg, Cells.len, target, ↓rg1, ↓rg2, g5, g6, g7, e4, ordI]; rfl, by simp [Env.get_cons, g1]⟩ fun ρ g1 => ?_
  refine seqE (σ1 := σ4 ++ τ5) (Q := fun ρ => ρ.get 1 = some (.p (.str s)) ∧ ρ.get 8 = some z ∧ ρ.get 9 = some (.p (.int .i64 (decI (dec 20000000 s []))))) ⟨_, by simp [exec, runOps, wantedA, stepOp, pureOp, allocOp, readOp, effOp, ev, evs, evO, Env.get_cons, putE, binA, intBin, unA, AV.fit, AV.toCells, partC, partP, mkCells, allP, mkAgg, Cells.len, target, extractA, g1, e5]; rfl, by simp [Env.get_cons, g1]⟩ fun ρ ⟨g1, g8, g9⟩ => ?_
  cases hx : dec 20000000 s [] with
  | none =>
    rw [hx] at g9
    simp [exec, runOps, wantedA, stepOp, pureOp, allocOp, readOp, effOp, ev, evs, evO, Env.get_cons, putE, binA, intBin, unA, AV.fit, AV.toCells, partC, partP, mkCells, allP, mkAgg, Cells.len, target, finX, finA, leaveA, resA, resV, ansV, strBin, decI, g1, g8, g9, e8, lit4]
  | some l =>
    rw [hx] at g9
    obtain ⟨σ6, e6⟩ := e6 l hx
    simp [exec, runOps, wantedA, stepOp, pureOp, allocOp, readOp, effOp, ev, evs, evO, Env.get_cons, putE, binA, intBin, unA, AV.fit, AV.toCells, partC, partP, mkCells, allP, mkAgg, Cells.len, target, finX, finA, leaveA, resA, resV, ansV, strBin, decI, g1, g8, g9, e6, e8, lit4]
end
end Go.Ab.Key
