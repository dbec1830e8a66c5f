/- The laws on columns' values: blanks behind a text, by the document. -/
import Derived.Test.YtacjjncmbklplaaGreatDoorAbS6
set_option linter.unusedSectionVars false
set_option linter.unusedSimpArgs false
set_option linter.unusedVariables false
set_option maxRecDepth 1000000
namespace Go.Ab.Cols
open Go Go.Ab Go.Ab.Names
def body30 : ACode := (((ACode.region [{ dst := some 5, op := AOp.fieldAddr 0 (Opd.t 3), guard := none }, { dst := some 6, op := AOp.load false 1 (Opd.t 5), guard := none }, { dst := some 7, op := AOp.bin (Bin.plain BinOp.eql) (Opd.t 6) (Opd.c (AV.p (PV.int IntKind.i64 (4)))), guard := none }, { dst := some 8, op := AOp.mv (Opd.t 7), guard := none }, { dst := some 9, op := AOp.mv (Opd.t 0), guard := some (8, true) }, { dst := some 10, op := AOp.len true (Opd.t 9), guard := some (8, true) }, { dst := some 11, op := AOp.fieldAddr 1 (Opd.t 3), guard := some (8, true) }, { dst := some 12, op := AOp.load false 1 (Opd.t 11), guard := some (8, true) }, { dst := some 13, op := AOp.bin (Bin.plain BinOp.lss) (Opd.t 10) (Opd.t 12), guard := some (8, true) }, { dst := some 14, op := AOp.pick (Opd.t 8) (Opd.t 13) (Opd.c (AV.p (PV.bool false))), guard := none }]).seq (ACode.cond (Opd.t 14) ACode.skip (ACode.exit 0))).seq (ACode.block 1 (ACode.region [{ dst := some 15, op := AOp.mv (Opd.t 0), guard := none }, { dst := some 16, op := AOp.bin (Bin.plain BinOp.add) (Opd.t 15) (Opd.c (AV.p (PV.str [32]))), guard := none }, { dst := some 0, op := AOp.mv (Opd.t 16), guard := none }])))
def rest30 : ACode := ((ACode.region [{ dst := some 17, op := AOp.mv (Opd.t 0), guard := none }, { dst := some 18, op := AOp.call (Opd.c (AV.p (PV.fn 21))) [Opd.t 17], guard := none }, { dst := none, op := AOp.store 4 (Opd.t 4) (Opd.t 18), guard := none }]).seq ACode.ret)
theorem lit30_eq : lit30.body = .seq (.region [{ dst := some 3, op := AOp.box 2 (Opd.t 1), guard := none }, { dst := some 4, op := AOp.alloc [AV.p (PV.int IntKind.i64 (0)), AV.p (PV.int IntKind.i64 (0)), AV.p (PV.str []), AV.p (PV.bool false)], guard := none }]) (.seq (.block 0 (.loop none body30)) rest30) := rfl
section
variable (C : Oracle) (D : DOracle) (L : Nat) (b sz : Int) (u : List UInt8) (ρ : Env) (X : Obj)
abbrev hp30 (b sz : Int) (X : Obj) : Heap := [Obj.arr (Cells.pv [.int .i64 b, .int .i64 sz]) 0 0, X]
theorem go30 (hb : b = 4) (h0 : ρ.get 0 = some (.p (.str u))) (h3 : ρ.get 3 = some (.ptr 0 0 0)) (hlt : (u.length : Int) < sz) (hs : sz ≤ 100) :
    ∃ ρ' : Env, exec C L body30 ⟨ρ, [], hp30 b sz X⟩ = some (.normal, ⟨ρ', [], hp30 b sz X⟩) ∧ ρ'.get 0 = some (.p (.str (u ++ [32]))) ∧ ρ'.get 3 = some (.ptr 0 0 0) ∧ ρ'.get 4 = ρ.get 4 := by
  have hl : u.length + 1 ≤ LIM := by unfold LIM; omega
  subst hb
  refine ⟨_, by simp [body30, exec, runOps, wantedA, stepOp, pureOp, allocOp, readOp, ev, Env.get_cons, putE, binA, intBin, strBin, partC, partP, h0, h3, hlt, hl]; rfl, ?_, ?_, ?_⟩
  all_goals simp [Env.get_cons, h3]
theorem stop30 (hb : b = 4 ∨ b = 5) (h0 : ρ.get 0 = some (.p (.str u))) (h3 : ρ.get 3 = some (.ptr 0 0 0)) (hlt : b = 5 ∨ ¬ (u.length : Int) < sz) :
    ∃ ρ' : Env, exec C L body30 ⟨ρ, [], hp30 b sz X⟩ = some (.exit 0, ⟨ρ', [], hp30 b sz X⟩) ∧ ρ'.get 0 = some (.p (.str u)) ∧ ρ'.get 4 = ρ.get 4 := by
  rcases hb with rfl | rfl
  · have hlt : ¬ (u.length : Int) < sz := by simpa using hlt
    refine ⟨_, by simp [body30, exec, runOps, wantedA, stepOp, pureOp, allocOp, readOp, ev, Env.get_cons, putE, binA, intBin, partC, partP, h0, h3, hlt]; rfl, ?_, ?_⟩
    all_goals simp [Env.get_cons, h0]
  · refine ⟨_, by simp [body30, exec, runOps, wantedA, stepOp, pureOp, allocOp, readOp, ev, Env.get_cons, putE, binA, intBin, partC, partP, h3]; rfl, ?_, ?_⟩
    all_goals simp [Env.get_cons, h0]
end
theorem loop30 (C : Oracle) (L : Nat) (b sz : Int) (hb : b = 4 ∨ b = 5) (hs : sz ≤ 100) (X : Obj) : ∀ (d n : Nat) (u : List UInt8) (ρ : Env), (b = 5 ∨ sz.toNat - u.length ≤ d) → d < n → ρ.get 0 = some (.p (.str u)) → ρ.get 3 = some (.ptr 0 0 0) →
    ∃ ρ' : Env, iter (exec C L body30) none n ⟨ρ, [], hp30 b sz X⟩ = some (.exit 0, ⟨ρ', [], hp30 b sz X⟩) ∧ ρ'.get 0 = some (.p (.str (padB b sz u))) ∧ ρ'.get 4 = ρ.get 4
  | d, n, u, ρ, hd, hn, h0, h3 => by
    obtain ⟨n, rfl⟩ : ∃ k, n = k + 1 := ⟨n - 1, by omega⟩
    by_cases hstop : b = 5 ∨ ¬ (u.length : Int) < sz
    · obtain ⟨ρ', e, g0, g4⟩ := stop30 C L b sz u ρ X hb h0 h3 hstop
      refine ⟨ρ', ?_, ?_, g4⟩
      · simp only [iter, St.keep, e]
      · rw [g0]
        unfold padB
        split
        · rename_i h4
          rw [show sz.toNat - u.length = 0 from by omega]; simp
        · rfl
    · have h4 : b = 4 := by omega
      have hlt : (u.length : Int) < sz := by omega
      obtain ⟨ρ1, e, g0, g3, g4⟩ := go30 C L b sz u ρ X h4 h0 h3 hlt hs
      obtain ⟨d, rfl⟩ : ∃ k, d = k + 1 := ⟨d - 1, by omega⟩
      obtain ⟨ρ', e', k0, k4⟩ := loop30 C L b sz hb hs X d n (u ++ [32]) ρ1 (.inr (by rw [List.length_append]; simp; omega)) (by omega) g0 g3
      refine ⟨ρ', ?_, ?_, by rw [k4, g4]⟩
      · simp only [iter, St.keep, e]
        exact e'
      · rw [k0]
        unfold padB
        rw [if_pos h4, if_pos h4, List.append_assoc]
        have : sz.toNat - u.length = (sz.toNat - (u ++ [32]).length) + 1 := by rw [List.length_append]; simp; omega
        rw [this, List.replicate_succ]
        rfl
theorem padded30 (b sz : Int) (hb : b = 4 ∨ b = 5) (hs : sz ≤ 100) (s : List UInt8) (L m : Nat) (σ : Heap) :
    (cAt TC (L + 102) (m + 2)).1 30 [.p (.str s), .p (ty b sz)] σ = some (.ret (.p (val 2 0 (padB b sz s) false)), σ) := by
  refine call_ans (ps := [.str s, ty b sz]) (n := m + 1) (af := lit30) (fz := true) rfl (by kernel_rfl) ?_ σ
  have ht := text21 (padB b sz s) (L + 102) m
  generalize (cAt TC (L + 102) (m + 1)).1 = C at ht ⊢
  generalize (cAt TC (L + 102) (m + 1)).2 = D
  unfold runFunc
  rw [lit30_eq]
  rw [seqN (a := .region _) (by simp [ty, params, exec, runOps, wantedA, stepOp, pureOp, allocOp, ev, Env.get_cons, putE, AV.fit, AV.toCells, mkCells, allP, Cells.len]; rfl)]
  obtain ⟨ρ', e, g0, g4⟩ := loop30 C (L + 102) b sz hb hs (Obj.arr (Cells.pv [.int .i64 0, .int .i64 0, .str [], .bool false]) 0 0) 100 (L + 102) s
    [(4, .ptr 1 0 0), (3, .ptr 0 0 0), (0, .p (.str s)), (1, .p (ty b sz))] (.inr (by omega)) (by omega) rfl rfl
  have e2 : exec C (L + 102) (.block 0 (.loop none body30)) ⟨[(4, .ptr 1 0 0), (3, .ptr 0 0 0), (0, .p (.str s)), (1, .p (ty b sz))], [], hp30 b sz (Obj.arr (Cells.pv [.int .i64 0, .int .i64 0, .str [], .bool false]) 0 0)⟩ = some (.normal, ⟨ρ', [], hp30 b sz (Obj.arr (Cells.pv [.int .i64 0, .int .i64 0, .str [], .bool false]) 0 0)⟩) := by
    simp only [exec, e, if_true]
  erw [seqN e2]
  have g4 : ρ'.get 4 = some (.ptr 1 0 0) := g4
  unfold val at ht
  simp [rest30, exec, runOps, wantedA, stepOp, pureOp, allocOp, readOp, effOp, ev, evs, Env.get_cons, putE, AV.fit, AV.toCells, partC, partP, Cells.len, target, g0, g4, ht, finA, leaveA, resA, resV, lit30, ansV, val, spliceC, splice]

end Go.Ab.Cols

/- The laws on columns' values: blanks beyond a text's room, by the document. -/
set_option maxRecDepth 1000000
namespace Go.Ab.Cols
open Go Go.Ab Go.Ab.Names
theorem dropWhile_nil (l : List UInt8) (c : UInt8) : l.dropWhile (· == c) = [] ↔ ∀ x ∈ l, x = c := by
  induction l with
  | nil => simp
  | cons a l ih =>
    rw [List.dropWhile_cons]
    by_cases h : a = c
    · simp [h, ih]
    · simp [h]
theorem blank_iff (l : List UInt8) (c : UInt8) : Lib.trimB l c = [] ↔ ∀ x ∈ l, x = c := by
  unfold Lib.trimB Lib.trimLeftB Lib.trimRightB
  constructor
  · intro h
    cases hr : l.reverse.dropWhile (· == c) with
    | nil =>
      have := (dropWhile_nil _ c).1 hr
      intro x hx
      exact this x (by simpa using hx)
    | cons a r =>
      exfalso
      have hne : ¬ a = c := by
        have := List.head_dropWhile_not (p := (· == c)) (l := l.reverse) (by rw [hr]; simp)
        simp only [hr, List.head_cons] at this
        simpa using this
      rw [hr] at h
      have := (dropWhile_nil _ c).1 h a (by simp)
      exact hne this
  · intro h
    have : l.reverse.dropWhile (· == c) = [] := (dropWhile_nil _ c).2 fun x hx => h x (by simpa using hx)
    rw [this]
    rfl
def body16 : ACode := (((ACode.region [{ dst := some 43, op := AOp.mv (Opd.t 8), guard := none }, { dst := some 44, op := AOp.len true (Opd.t 43), guard := none }, { dst := some 45, op := AOp.fieldAddr 1 (Opd.t 3), guard := none }, { dst := some 46, op := AOp.load false 1 (Opd.t 45), guard := none }, { dst := some 47, op := AOp.bin (Bin.plain BinOp.gtr) (Opd.t 44) (Opd.t 46), guard := none }, { dst := some 48, op := AOp.mv (Opd.t 47), guard := none }, { dst := some 49, op := AOp.mv (Opd.t 8), guard := some (48, true) }, { dst := some 50, op := AOp.mv (Opd.t 8), guard := some (48, true) }, { dst := some 51, op := AOp.len true (Opd.t 50), guard := some (48, true) }, { dst := some 52, op := AOp.bin (Bin.plain BinOp.sub) (Opd.t 51) (Opd.c (AV.p (PV.int IntKind.i64 (1)))), guard := some (48, true) }, { dst := some 53, op := AOp.atStr (Opd.t 49) (Opd.t 52), guard := some (48, true) }, { dst := some 54, op := AOp.bin (Bin.plain BinOp.eql) (Opd.t 53) (Opd.c (AV.p (PV.int IntKind.u8 (32)))), guard := some (48, true) }, { dst := some 55, op := AOp.pick (Opd.t 48) (Opd.t 54) (Opd.c (AV.p (PV.bool false))), guard := none }]).seq (ACode.cond (Opd.t 55) ACode.skip (ACode.exit 1))).seq (ACode.block 2 (ACode.region [{ dst := some 56, op := AOp.mv (Opd.t 8), guard := none }, { dst := some 57, op := AOp.mv (Opd.t 8), guard := none }, { dst := some 58, op := AOp.len true (Opd.t 57), guard := none }, { dst := some 59, op := AOp.bin (Bin.plain BinOp.sub) (Opd.t 58) (Opd.c (AV.p (PV.int IntKind.i64 (1)))), guard := none }, { dst := some 60, op := AOp.sliceStr (Opd.t 56) none (some (Opd.t 59)), guard := none }, { dst := some 8, op := AOp.mv (Opd.t 60), guard := none }])))
section
variable (C : Oracle) (L : Nat) (b sz : Int) (w : List UInt8) (x : UInt8) (ρ : Env) (X Y : Obj)
abbrev hp16 (b sz : Int) (X Y : Obj) : Heap := [X, Obj.arr (Cells.pv [.int .i64 b, .int .i64 sz]) 0 0, Y]
theorem go16 (h8 : ρ.get 8 = some (.p (.str (w ++ [32])))) (h3 : ρ.get 3 = some (.ptr 1 0 0)) (hl : w.length < 9223372036854775807) (hlt : sz < (w.length : Int) + 1) :
    ∃ ρ' : Env, exec C L body16 ⟨ρ, [], hp16 b sz X Y⟩ = some (.normal, ⟨ρ', [], hp16 b sz X Y⟩) ∧ ρ'.get 8 = some (.p (.str w)) ∧ ρ'.get 3 = some (.ptr 1 0 0) ∧ ρ'.get 4 = ρ.get 4 := by
  have e := wrap_id (w.length : Int) (by omega) (by omega)
  have hle : (w.length : Int) ≤ (w.length : Int) + 1 := by omega
  refine ⟨_, by simp [body16, exec, runOps, wantedA, stepOp, pureOp, allocOp, readOp, ev, evO, Env.get_cons, putE, binA, intBin, partC, partP, h8, h3, hlt, e, hle, atStrA, sliceA, boundsA, boundA]; rfl, ?_, ?_, ?_⟩
  all_goals simp [Env.get_cons, h3]
theorem stop16_short (u : List UInt8) (h8 : ρ.get 8 = some (.p (.str u))) (h3 : ρ.get 3 = some (.ptr 1 0 0)) (hlt : ¬ sz < (u.length : Int)) :
    ∃ ρ' : Env, exec C L body16 ⟨ρ, [], hp16 b sz X Y⟩ = some (.exit 1, ⟨ρ', [], hp16 b sz X Y⟩) ∧ ρ'.get 8 = some (.p (.str u)) ∧ ρ'.get 3 = some (.ptr 1 0 0) ∧ ρ'.get 4 = ρ.get 4 := by
  refine ⟨_, by simp [body16, exec, runOps, wantedA, stepOp, pureOp, allocOp, readOp, ev, Env.get_cons, putE, binA, intBin, partC, partP, h8, h3, hlt]; rfl, ?_, ?_, ?_⟩
  all_goals simp [Env.get_cons, h3, h8]
theorem stop16_full (h8 : ρ.get 8 = some (.p (.str (w ++ [x])))) (h3 : ρ.get 3 = some (.ptr 1 0 0)) (hl : w.length < 9223372036854775807) (hlt : sz < (w.length : Int) + 1) (hx : ((x.toNat : Int) == 32) = false) :
    ∃ ρ' : Env, exec C L body16 ⟨ρ, [], hp16 b sz X Y⟩ = some (.exit 1, ⟨ρ', [], hp16 b sz X Y⟩) ∧ ρ'.get 8 = some (.p (.str (w ++ [x]))) ∧ ρ'.get 3 = some (.ptr 1 0 0) ∧ ρ'.get 4 = ρ.get 4 := by
  have e := wrap_id (w.length : Int) (by omega) (by omega)
  refine ⟨_, by simp [body16, exec, runOps, wantedA, stepOp, pureOp, allocOp, readOp, ev, Env.get_cons, putE, binA, intBin, partC, partP, h8, h3, hlt, e, atStrA, hx, -beq_eq_false_iff_ne]; rfl, ?_, ?_, ?_⟩
  all_goals simp [Env.get_cons, h3, h8]
end
theorem nil_or_last (u : List UInt8) : u = [] ∨ ∃ w x, u = w ++ [x] := by
  rcases List.eq_nil_or_concat u with h | ⟨w, x, h⟩
  · exact .inl h
  · exact .inr ⟨w, x, by rw [h, List.concat_eq_append]⟩
/-- what the document leaves of a text: the blanks beyond its room are gone, or it's too long still -/
def Left (sz : Int) (u v : List UInt8) : Prop := ((u.length : Int) ≤ sz → v = u) ∧ (sz < (u.length : Int) → Lib.trimB (u.drop sz.toNat) 32 = [] → v = u.take sz.toNat) ∧ (sz < (u.length : Int) → Lib.trimB (u.drop sz.toNat) 32 ≠ [] → sz < (v.length : Int))
theorem loop16 (C : Oracle) (L : Nat) (b sz : Int) (hz : 0 ≤ sz) (X Y : Obj) : ∀ (d n : Nat) (u : List UInt8) (ρ : Env), u.length ≤ d → d < n → u.length ≤ 9223372036854775807 → ρ.get 8 = some (.p (.str u)) → ρ.get 3 = some (.ptr 1 0 0) →
    ∃ (ρ' : Env) (v : List UInt8), iter (exec C L body16) none n ⟨ρ, [], hp16 b sz X Y⟩ = some (.exit 1, ⟨ρ', [], hp16 b sz X Y⟩) ∧ ρ'.get 8 = some (.p (.str v)) ∧ ρ'.get 3 = some (.ptr 1 0 0) ∧ ρ'.get 4 = ρ.get 4 ∧ Left sz u v
  | d, n, u, ρ, hd, hn, hu, h8, h3 => by
    obtain ⟨n, rfl⟩ : ∃ k, n = k + 1 := ⟨n - 1, by omega⟩
    by_cases hlt : sz < (u.length : Int)
    · rcases nil_or_last u with rfl | ⟨w, x, rfl⟩
      · simp at hlt; omega
      · have hw : (w ++ [x]).length = w.length + 1 := by simp
        rw [hw] at hlt hd hu
        by_cases hx : x = 32
        · subst hx
          obtain ⟨ρ1, e, g8, g3, g4⟩ := go16 C L b sz w ρ X Y h8 h3 (by omega) (by omega)
          obtain ⟨d, rfl⟩ : ∃ k, d = k + 1 := ⟨d - 1, by omega⟩
          obtain ⟨ρ', v, e', k8, k3, k4, hv1, hv2, hv3⟩ := loop16 C L b sz hz X Y d n w ρ1 (by omega) (by omega) (by omega) g8 g3
          have hdrop : (w ++ [32]).drop sz.toNat = w.drop sz.toNat ++ [32] := List.drop_append_of_le_length (by omega)
          have htake : (w ++ [32]).take sz.toNat = w.take sz.toNat := List.take_append_of_le_length (by omega)
          have hbl : Lib.trimB ((w ++ [32]).drop sz.toNat) 32 = [] ↔ Lib.trimB (w.drop sz.toNat) 32 = [] := by
            rw [hdrop, blank_iff, blank_iff]
            simp
            constructor
            · exact fun h x hx => h x (.inl hx)
            · rintro h x (hx | rfl)
              · exact h x hx
              · rfl
          refine ⟨ρ', v, ?_, k8, k3, by rw [k4, g4], ?_, ?_, ?_⟩
          · simp only [iter, St.keep, e]
            exact e'
          · intro h; rw [hw] at h; omega
          · intro _ h
            rw [hbl] at h
            rw [htake]
            by_cases hle : (w.length : Int) ≤ sz
            · rw [hv1 hle, List.take_of_length_le (by omega)]
            · exact hv2 (by omega) h
          · intro _ h
            rw [ne_eq, hbl] at h
            by_cases hle : (w.length : Int) ≤ sz
            · exfalso
              apply h
              rw [List.drop_of_length_le (by omega)]
              rfl
            · exact hv3 (by omega) h
        · have hx' : ((x.toNat : Int) == 32) = false := by
            rw [beq_eq_false_iff_ne]
            intro h
            apply hx
            have : x.toNat = 32 := by omega
            exact UInt8.toNat_inj.1 this
          obtain ⟨ρ', e, g8, g3, g4⟩ := stop16_full C L b sz w x ρ X Y h8 h3 (by omega) (by omega) hx'
          refine ⟨ρ', _, ?_, g8, g3, g4, ?_, ?_, ?_⟩
          · simp only [iter, St.keep, e]
          · exact fun _ => rfl
          · intro _ h
            exfalso
            have := (blank_iff _ _).1 h x (by rw [List.drop_append_of_le_length (by omega)]; simp)
            exact hx this
          · intro _ _
            rw [hw]; omega
    · obtain ⟨ρ', e, g8, g3, g4⟩ := stop16_short C L b sz ρ X Y u h8 h3 hlt
      refine ⟨ρ', u, ?_, g8, g3, g4, fun _ => rfl, fun h => absurd h hlt, fun h => absurd h hlt⟩
      simp only [iter, St.keep, e]

end Go.Ab.Cols
