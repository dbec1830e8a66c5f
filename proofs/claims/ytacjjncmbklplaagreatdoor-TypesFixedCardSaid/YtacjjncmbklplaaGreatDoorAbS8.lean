/- The laws on columns' values: blanks behind a text, by the document. -/
import Derived.Test.YtacjjncmbklplaaGreatDoorAbS7
set_option maxRecDepth 1000000
namespace Go.Ab.Cols
open Go Go.Ab Go.Ab.Names
def body30 : ACode := (((ACode.region [{ dst := some 5, op := AOp.fieldAddr 0 (Opd.t 3), guard := none }, { dst := some 6, op := AOp.load false 1 (Opd.t 5), guard := none }, { dst := some 7, op := AOp.bin (Bin.plain BinOp.eql) (Opd.t 6) (Opd.c (AV.p (PV.int IntKind.i64 (4)))), guard := none }, { dst := some 8, op := AOp.mv (Opd.t 7), guard := none }, { dst := some 9, op := AOp.mv (Opd.t 0), guard := some (8, true) }, { dst := some 10, op := AOp.len true (Opd.t 9), guard := some (8, true) }, { dst := some 11, op := AOp.fieldAddr 1 (Opd.t 3), guard := some (8, true) }, { dst := some 12, op := AOp.load false 1 (Opd.t 11), guard := some (8, true) }, { dst := some 13, op := AOp.bin (Bin.plain BinOp.lss) (Opd.t 10) (Opd.t 12), guard := some (8, true) }, { dst := some 14, op := AOp.pick (Opd.t 8) (Opd.t 13) (Opd.c (AV.p (PV.bool false))), guard := none }]).seq (ACode.cond (Opd.t 14) ACode.skip (ACode.exit 0))).seq (ACode.block 1 (ACode.region [{ dst := some 15, op := AOp.mv (Opd.t 0), guard := none }, { dst := some 16, op := AOp.bin (Bin.plain BinOp.add) (Opd.t 15) (Opd.c (AV.p (PV.str [32]))), guard := none }, { dst := some 0, op := AOp.mv (Opd.t 16), guard := none }])))
def rest30 : ACode := ((ACode.region [{ dst := some 17, op := AOp.mv (Opd.t 0), guard := none }, { dst := some 18, op := AOp.call (Opd.c (AV.p (PV.fn 21))) [Opd.t 17], guard := none }, { dst := none, op := AOp.store 4 (Opd.t 4) (Opd.t 18), guard := none }]).seq ACode.ret)
theorem lit30_eq : lit30.body = .seq (.region [{ dst := some 3, op := AOp.box 2 (Opd.t 1), guard := none }, { dst := some 4, op := AOp.alloc [AV.p (PV.int IntKind.i64 (0)), AV.p (PV.int IntKind.i64 (0)), AV.p (PV.str []), AV.p (PV.bool false)], guard := none }]) (.seq (.block 0 (.loop none body30)) rest30) := rfl
section
variable (C : Oracle) (D : DOracle) (L : Nat) (b sz : Int) (u : List UInt8) (ρ : Env) (X : Obj)
abbrev hp30 (b sz : Int) (X : Obj) : Heap := [Obj.arr (Cells.pv [.int .i64 b, .int .i64 sz]) 0 0, X]
theorem go30 (hb : b = 4) (h0 : ρ.get 0 = some (.p (.str u))) (h3 : ρ.get 3 = some (.ptr 0 0 0)) (hlt : (u.length : Int) < sz) (hs : sz ≤ 100) :
    ∃ ρ' : Env, exec C L body30 ⟨ρ, [], hp30 b sz X⟩ = some (.normal, ⟨ρ', [], hp30 b sz X⟩) ∧ ρ'.get 0 = some (.p (.str (u ++ [32]))) ∧ ρ'.get 3 = some (.ptr 0 0 0) ∧ ρ'.get 4 = ρ.get 4 := by
  have hl : u.length + 1 ≤ LIM := by unfold LIM; omega
  subst hb
  refine ⟨_, by simp [body30, exec, runOps, wantedA, stepOp, pureOp, allocOp, readOp, ev, Env.get_cons, putE, binA, intBin, strBin, partC, partP, h0, h3, hlt, hl]; rfl, ?_, ?_, ?_⟩
  all_goals simp [Env.get_cons, h3]
theorem stop30 (hb : b = 4 ∨ b = 5) (h0 : ρ.get 0 = some (.p (.str u))) (h3 : ρ.get 3 = some (.ptr 0 0 0)) (hlt : b = 5 ∨ ¬ (u.length : Int) < sz) :
    ∃ ρ' : Env, exec C L body30 ⟨ρ, [], hp30 b sz X⟩ = some (.exit 0, ⟨ρ', [], hp30 b sz X⟩) ∧ ρ'.get 0 = some (.p (.str u)) ∧ ρ'.get 4 = ρ.get 4 := by
  rcases hb with rfl | rfl
  · have hlt : ¬ (u.length : Int) < sz := by simpa using hlt
    refine ⟨_, by simp [body30, exec, runOps, wantedA, stepOp, pureOp, allocOp, readOp, ev, Env.get_cons, putE, binA, intBin, partC, partP, h0, h3, hlt]; rfl, ?_, ?_⟩
    all_goals simp [Env.get_cons, h0]
  · refine ⟨_, by simp [body30, exec, runOps, wantedA, stepOp, pureOp, allocOp, readOp, ev, Env.get_cons, putE, binA, intBin, partC, partP, h3]; rfl, ?_, ?_⟩
    all_goals simp [Env.get_cons, h0]
end
theorem loop30 (C : Oracle) (L : Nat) (b sz : Int) (hb : b = 4 ∨ b = 5) (hs : sz ≤ 100) (X : Obj) : ∀ (d n : Nat) (u : List UInt8) (ρ : Env), (b = 5 ∨ sz.toNat - u.length ≤ d) → d < n → ρ.get 0 = some (.p (.str u)) → ρ.get 3 = some (.ptr 0 0 0) →
    ∃ ρ' : Env, iter (exec C L body30) none n ⟨ρ, [], hp30 b sz X⟩ = some (.exit 0, ⟨ρ', [], hp30 b sz X⟩) ∧ ρ'.get 0 = some (.p (.str (padB b sz u))) ∧ ρ'.get 4 = ρ.get 4
  | d, n, u, ρ, hd, hn, h0, h3 => by
    obtain ⟨n, rfl⟩ : ∃ k, n = k + 1 := ⟨n - 1, by omega⟩
    by_cases hstop : b = 5 ∨ ¬ (u.length : Int) < sz
    · obtain ⟨ρ', e, g0, g4⟩ := stop30 C L b sz u ρ X hb h0 h3 hstop
      refine ⟨ρ', ?_, ?_, g4⟩
      · simp only [iter, St.keep, e]
      · rw [g0]
        unfold padB
        split
        · rename_i h4
          rw [show sz.toNat - u.length = 0 from by omega]; simp
        · rfl
    · have h4 : b = 4 := by omega
      have hlt : (u.length : Int) < sz := by omega
      obtain ⟨ρ1, e, g0, g3, g4⟩ := go30 C L b sz u ρ X h4 h0 h3 hlt hs
      obtain ⟨d, rfl⟩ : ∃ k, d = k + 1 := ⟨d - 1, by omega⟩
      obtain ⟨ρ', e', k0, k4⟩ := loop30 C L b sz hb hs X d n (u ++ [32]) ρ1 (.inr (by rw [List.length_append]; simp; omega)) (by omega) g0 g3
      refine ⟨ρ', ?_, ?_, by rw [k4, g4]⟩
      · simp only [iter, St.keep, e]
        exact e'
      · rw [k0]
        unfold padB
        rw [if_pos h4, if_pos h4, List.append_assoc]
        have : sz.toNat - u.length = (sz.toNat - (u ++ [32]).length) + 1 := by rw [List.length_append]; simp; omega
        rw [this, List.replicate_succ]
        rfl
theorem padded30 (b sz : Int) (hb : b = 4 ∨ b = 5) (hs : sz ≤ 100) (s : List UInt8) (L m : Nat) (σ : Heap) :
    (cAt TC (L + 102) (m + 2)).1 30 [.p (.str s), .p (ty b sz)] σ = some (.ret (.p (val 2 0 (padB b sz s) false)), σ) := by
  refine call_ans (ps := [.str s, ty b sz]) (n := m + 1) (af := lit30) (fz := true) rfl (by kernel_rfl) ?_ σ
  have ht := text21 (padB b sz s) (L + 102) m
  generalize (cAt TC (L + 102) (m + 1)).1 = C at ht ⊢
  generalize (cAt TC (L + 102) (m + 1)).2 = D
  unfold runFunc
  rw [lit30_eq]
  rw [seqN (a := .region _) (by simp [ty, params, exec, runOps, wantedA, stepOp, pureOp, allocOp, ev, Env.get_cons, putE, AV.fit, AV.toCells, mkCells, allP, Cells.len]; rfl)]
  obtain ⟨ρ', e, g0, g4⟩ := loop30 C (L + 102) b sz hb hs (Obj.arr (Cells.pv [.int .i64 0, .int .i64 0, .str [], .bool false]) 0 0) 100 (L + 102) s
    [(4, .ptr 1 0 0), (3, .ptr 0 0 0), (0, .p (.str s)), (1, .p (ty b sz))] (.inr (by omega)) (by omega) rfl rfl
  have e2 : exec C (L + 102) (.block 0 (.loop none body30)) ⟨[(4, .ptr 1 0 0), (3, .ptr 0 0 0), (0, .p (.str s)), (1, .p (ty b sz))], [], hp30 b sz (Obj.arr (Cells.pv [.int .i64 0, .int .i64 0, .str [], .bool false]) 0 0)⟩ = some (.normal, ⟨ρ', [], hp30 b sz (Obj.arr (Cells.pv [.int .i64 0, .int .i64 0, .str [], .bool false]) 0 0)⟩) := by
    simp only [exec, e, if_true]
  erw [seqN e2]
  have g4 : ρ'.get 4 = some (.ptr 1 0 0) := g4
  unfold val at ht
  simp [rest30, exec, runOps, wantedA, stepOp, pureOp, allocOp, readOp, effOp, ev, evs, Env.get_cons, putE, AV.fit, AV.toCells, partC, partP, Cells.len, target, g0, g4, ht, finA, leaveA, resA, resV, lit30, ansV, val, spliceC, splice]

end Go.Ab.Cols
