/- The laws on columns' values: blanks beyond a text's room, by the document. -/
import Derived.Test.YtacjjncmbklplaaGreatDoorAbS8
set_option maxRecDepth 1000000
namespace Go.Ab.Cols
open Go Go.Ab Go.Ab.Names
theorem dropWhile_nil (l : List UInt8) (c : UInt8) : l.dropWhile (· == c) = [] ↔ ∀ x ∈ l, x = c := by
  induction l with
  | nil => simp
  | cons a l ih =>
    rw [List.dropWhile_cons]
    by_cases h : a = c
    · simp [h, ih]
    · simp [h]
theorem blank_iff (l : List UInt8) (c : UInt8) : Lib.trimB l c = [] ↔ ∀ x ∈ l, x = c := by
  unfold Lib.trimB Lib.trimLeftB Lib.trimRightB
  constructor
  · intro h
    cases hr : l.reverse.dropWhile (· == c) with
    | nil =>
      have := (dropWhile_nil _ c).1 hr
      intro x hx
      exact this x (by simpa using hx)
    | cons a r =>
      exfalso
      have hne : ¬ a = c := by
        have := List.head_dropWhile_not (p := (· == c)) (l := l.reverse) (by rw [hr]; simp)
        simp only [hr, List.head_cons] at this
        simpa using this
      rw [hr] at h
      have := (dropWhile_nil _ c).1 h a (by simp)
      exact hne this
  · intro h
    have : l.reverse.dropWhile (· == c) = [] := (dropWhile_nil _ c).2 fun x hx => h x (by simpa using hx)
    rw [this]
    rfl
def body16 : ACode := (((ACode.region [{ dst := some 43, op := AOp.mv (Opd.t 8), guard := none }, { dst := some 44, op := AOp.len true (Opd.t 43), guard := none }, { dst := some 45, op := AOp.fieldAddr 1 (Opd.t 3), guard := none }, { dst := some 46, op := AOp.load false 1 (Opd.t 45), guard := none }, { dst := some 47, op := AOp.bin (Bin.plain BinOp.gtr) (Opd.t 44) (Opd.t 46), guard := none }, { dst := some 48, op := AOp.mv (Opd.t 47), guard := none }, { dst := some 49, op := AOp.mv (Opd.t 8), guard := some (48, true) }, { dst := some 50, op := AOp.mv (Opd.t 8), guard := some (48, true) }, { dst := some 51, op := AOp.len true (Opd.t 50), guard := some (48, true) }, { dst := some 52, op := AOp.bin (Bin.plain BinOp.sub) (Opd.t 51) (Opd.c (AV.p (PV.int IntKind.i64 (1)))), guard := some (48, true) }, { dst := some 53, op := AOp.atStr (Opd.t 49) (Opd.t 52), guard := some (48, true) }, { dst := some 54, op := AOp.bin (Bin.plain BinOp.eql) (Opd.t 53) (Opd.c (AV.p (PV.int IntKind.u8 (32)))), guard := some (48, true) }, { dst := some 55, op := AOp.pick (Opd.t 48) (Opd.t 54) (Opd.c (AV.p (PV.bool false))), guard := none }]).seq (ACode.cond (Opd.t 55) ACode.skip (ACode.exit 1))).seq (ACode.block 2 (ACode.region [{ dst := some 56, op := AOp.mv (Opd.t 8), guard := none }, { dst := some 57, op := AOp.mv (Opd.t 8), guard := none }, { dst := some 58, op := AOp.len true (Opd.t 57), guard := none }, { dst := some 59, op := AOp.bin (Bin.plain BinOp.sub) (Opd.t 58) (Opd.c (AV.p (PV.int IntKind.i64 (1)))), guard := none }, { dst := some 60, op := AOp.sliceStr (Opd.t 56) none (some (Opd.t 59)), guard := none }, { dst := some 8, op := AOp.mv (Opd.t 60), guard := none }])))
section
variable (C : Oracle) (L : Nat) (b sz : Int) (w : List UInt8) (x : UInt8) (ρ : Env) (X Y : Obj)
abbrev hp16 (b sz : Int) (X Y : Obj) : Heap := [X, Obj.arr (Cells.pv [.int .i64 b, .int .i64 sz]) 0 0, Y]
theorem go16 (h8 : ρ.get 8 = some (.p (.str (w ++ [32])))) (h3 : ρ.get 3 = some (.ptr 1 0 0)) (hl : w.length < 9223372036854775807) (hlt : sz < (w.length : Int) + 1) :
    ∃ ρ' : Env, exec C L body16 ⟨ρ, [], hp16 b sz X Y⟩ = some (.normal, ⟨ρ', [], hp16 b sz X Y⟩) ∧ ρ'.get 8 = some (.p (.str w)) ∧ ρ'.get 3 = some (.ptr 1 0 0) ∧ ρ'.get 4 = ρ.get 4 := by
  have e := wrap_id (w.length : Int) (by omega) (by omega)
  have hle : (w.length : Int) ≤ (w.length : Int) + 1 := by omega
  refine ⟨_, by simp [body16, exec, runOps, wantedA, stepOp, pureOp, allocOp, readOp, ev, evO, Env.get_cons, putE, binA, intBin, partC, partP, h8, h3, hlt, e, hle, atStrA, sliceA, boundsA, boundA]; rfl, ?_, ?_, ?_⟩
  all_goals simp [Env.get_cons, h3]
theorem stop16_short (u : List UInt8) (h8 : ρ.get 8 = some (.p (.str u))) (h3 : ρ.get 3 = some (.ptr 1 0 0)) (hlt : ¬ sz < (u.length : Int)) :
    ∃ ρ' : Env, exec C L body16 ⟨ρ, [], hp16 b sz X Y⟩ = some (.exit 1, ⟨ρ', [], hp16 b sz X Y⟩) ∧ ρ'.get 8 = some (.p (.str u)) ∧ ρ'.get 3 = some (.ptr 1 0 0) ∧ ρ'.get 4 = ρ.get 4 := by
  refine ⟨_, by simp [body16, exec, runOps, wantedA, stepOp, pureOp, allocOp, readOp, ev, Env.get_cons, putE, binA, intBin, partC, partP, h8, h3, hlt]; rfl, ?_, ?_, ?_⟩
  all_goals simp [Env.get_cons, h3, h8]
theorem stop16_full (h8 : ρ.get 8 = some (.p (.str (w ++ [x])))) (h3 : ρ.get 3 = some (.ptr 1 0 0)) (hl : w.length < 9223372036854775807) (hlt : sz < (w.length : Int) + 1) (hx : ((x.toNat : Int) == 32) = false) :
    ∃ ρ' : Env, exec C L body16 ⟨ρ, [], hp16 b sz X Y⟩ = some (.exit 1, ⟨ρ', [], hp16 b sz X Y⟩) ∧ ρ'.get 8 = some (.p (.str (w ++ [x]))) ∧ ρ'.get 3 = some (.ptr 1 0 0) ∧ ρ'.get 4 = ρ.get 4 := by
  have e := wrap_id (w.length : Int) (by omega) (by omega)
  refine ⟨_, by simp [body16, exec, runOps, wantedA, stepOp, pureOp, allocOp, readOp, ev, Env.get_cons, putE, binA, intBin, partC, partP, h8, h3, hlt, e, atStrA, hx, -beq_eq_false_iff_ne]; rfl, ?_, ?_, ?_⟩
  all_goals simp [Env.get_cons, h3, h8]
end
theorem nil_or_last (u : List UInt8) : u = [] ∨ ∃ w x, u = w ++ [x] := by
  rcases List.eq_nil_or_concat u with h | ⟨w, x, h⟩
  · exact .inl h
  · exact .inr ⟨w, x, by rw [h, List.concat_eq_append]⟩
/-- what the document leaves of a text: the blanks beyond its room are gone, or it's too long still -/
def Left (sz : Int) (u v : List UInt8) : Prop := ((u.length : Int) ≤ sz → v = u) ∧ (sz < (u.length : Int) → Lib.trimB (u.drop sz.toNat) 32 = [] → v = u.take sz.toNat) ∧ (sz < (u.length : Int) → Lib.trimB (u.drop sz.toNat) 32 ≠ [] → sz < (v.length : Int))
theorem loop16 (C : Oracle) (L : Nat) (b sz : Int) (hz : 0 ≤ sz) (X Y : Obj) : ∀ (d n : Nat) (u : List UInt8) (ρ : Env), u.length ≤ d → d < n → u.length ≤ 9223372036854775807 → ρ.get 8 = some (.p (.str u)) → ρ.get 3 = some (.ptr 1 0 0) →
    ∃ (ρ' : Env) (v : List UInt8), iter (exec C L body16) none n ⟨ρ, [], hp16 b sz X Y⟩ = some (.exit 1, ⟨ρ', [], hp16 b sz X Y⟩) ∧ ρ'.get 8 = some (.p (.str v)) ∧ ρ'.get 3 = some (.ptr 1 0 0) ∧ ρ'.get 4 = ρ.get 4 ∧ Left sz u v
  | d, n, u, ρ, hd, hn, hu, h8, h3 => by
    obtain ⟨n, rfl⟩ : ∃ k, n = k + 1 := ⟨n - 1, by omega⟩
    by_cases hlt : sz < (u.length : Int)
    · rcases nil_or_last u with rfl | ⟨w, x, rfl⟩
      · simp at hlt; omega
      · have hw : (w ++ [x]).length = w.length + 1 := by simp
        rw [hw] at hlt hd hu
        by_cases hx : x = 32
        · subst hx
          obtain ⟨ρ1, e, g8, g3, g4⟩ := go16 C L b sz w ρ X Y h8 h3 (by omega) (by omega)
          obtain ⟨d, rfl⟩ : ∃ k, d = k + 1 := ⟨d - 1, by omega⟩
          obtain ⟨ρ', v, e', k8, k3, k4, hv1, hv2, hv3⟩ := loop16 C L b sz hz X Y d n w ρ1 (by omega) (by omega) (by omega) g8 g3
          have hdrop : (w ++ [32]).drop sz.toNat = w.drop sz.toNat ++ [32] := List.drop_append_of_le_length (by omega)
          have htake : (w ++ [32]).take sz.toNat = w.take sz.toNat := List.take_append_of_le_length (by omega)
          have hbl : Lib.trimB ((w ++ [32]).drop sz.toNat) 32 = [] ↔ Lib.trimB (w.drop sz.toNat) 32 = [] := by
            rw [hdrop, blank_iff, blank_iff]
            simp
            constructor
            · exact fun h x hx => h x (.inl hx)
            · rintro h x (hx | rfl)
              · exact h x hx
              · rfl
          refine ⟨ρ', v, ?_, k8, k3, by rw [k4, g4], ?_, ?_, ?_⟩
          · simp only [iter, St.keep, e]
            exact e'
          · intro h; rw [hw] at h; omega
          · intro _ h
            rw [hbl] at h
            rw [htake]
            by_cases hle : (w.length : Int) ≤ sz
            · rw [hv1 hle, List.take_of_length_le (by omega)]
            · exact hv2 (by omega) h
          · intro _ h
            rw [ne_eq, hbl] at h
            by_cases hle : (w.length : Int) ≤ sz
            · exfalso
              apply h
              rw [List.drop_of_length_le (by omega)]
              rfl
            · exact hv3 (by omega) h
        · have hx' : ((x.toNat : Int) == 32) = false := by
            rw [beq_eq_false_iff_ne]
            intro h
            apply hx
            have : x.toNat = 32 := by omega
            exact UInt8.toNat_inj.1 this
          obtain ⟨ρ', e, g8, g3, g4⟩ := stop16_full C L b sz w x ρ X Y h8 h3 (by omega) (by omega) hx'
          refine ⟨ρ', _, ?_, g8, g3, g4, ?_, ?_, ?_⟩
          · simp only [iter, St.keep, e]
          · exact fun _ => rfl
          · intro _ h
            exfalso
            have := (blank_iff _ _).1 h x (by rw [List.drop_append_of_le_length (by omega)]; simp)
            exact hx this
          · intro _ _
            rw [hw]; omega
    · obtain ⟨ρ', e, g8, g3, g4⟩ := stop16_short C L b sz ρ X Y u h8 h3 hlt
      refine ⟨ρ', u, ?_, g8, g3, g4, fun _ => rfl, fun h => absurd h hlt, fun h => absurd h hlt⟩
      simp only [iter, St.keep, e]

end Go.Ab.Cols
