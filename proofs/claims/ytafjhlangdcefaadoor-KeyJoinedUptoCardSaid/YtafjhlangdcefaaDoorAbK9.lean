/- The laws of keys: the loops of Encode. -/
import Derived.Test.YtafjhlangdcefaaDoorAbK8
set_option linter.unusedSectionVars false
set_option linter.unusedSimpArgs false
set_option linter.unusedVariables false
set_option maxRecDepth 1000000
namespace Go.Ab.Key
open Go Go.Ab Go.Proofs
variable [Marks]
theorem two_pow8 (j : Nat) : (2 : Nat) ^ (8 * j) = 256 ^ j := by rw [Nat.pow_mul]
/-- one byte of a number -/
theorem byte_at (u j : Nat) : u % 256 ^ (j + 1) / 256 ^ j = u / 256 ^ j % 256 := by
  rw [Nat.pow_succ, Nat.mod_mul_right_div_self]
theorem be_step (u j : Nat) : be (j + 1) (u % 256 ^ (j + 1)) = UInt8.ofNat (u / 256 ^ j % 256) :: be j (u % 256 ^ j) := by
  rw [be, byte_at, Nat.mod_mod_of_dvd _ (Nat.pow_dvd_pow 256 (Nat.le_succ j))]
section
variable (C : Oracle) (L : Nat) (u : Nat) (ρ : Env) (σ : Heap) (b : AV) (l : List UInt8) (j : Nat)
/-- what the loop over a number's bytes leaves alone -/
def Same (ρ ρ' : Env) : Prop := ρ'.get 0 = ρ.get 0 ∧ ρ'.get 8 = ρ.get 8 ∧ ρ'.get 9 = ρ.get 9 ∧ ρ'.get 10 = ρ.get 10 ∧ ρ'.get 6 = ρ.get 6
theorem Same.trans {ρ1 ρ2 ρ3 : Env} (h : Same ρ1 ρ2) (k : Same ρ2 ρ3) : Same ρ1 ρ3 := ⟨k.1.trans h.1, k.2.1.trans h.2.1, k.2.2.1.trans h.2.2.1, k.2.2.2.1.trans h.2.2.2.1, k.2.2.2.2.trans h.2.2.2.2⟩
theorem stop9n (h7 : ρ.get 7 = some (.p (.int .i64 (-8)))) : ∃ ρ' : Env, exec C L body9n ⟨ρ, [], σ⟩ = some (.exit 3, ⟨ρ', [], σ⟩) ∧ Same ρ ρ' ∧ ρ'.get 3 = ρ.get 3 :=
  ⟨_, by simp [body9n, exec, runOps, wantedA, stepOp, pureOp, allocOp, readOp, effOp, ev, evs, evO, Env.get_cons, putE, binA, intBin, unA, AV.fit, AV.toCells, partC, partP, mkCells, allP, mkAgg, Cells.len, target, h7]; rfl, by simp [Same, Env.get_cons], by simp [Env.get_cons]⟩
theorem go9n (h7 : ρ.get 7 = some (.p (.int .i64 (8 * (j : Int))))) (h6 : ρ.get 6 = some (.p (.int .u64 (u : Int)))) (h3 : ρ.get 3 = some b) (hb : BBuf σ b l) (hj : j < 8) (hl : l.length + 1 ≤ LIM) :
    ∃ (ρ' : Env) (σ' : Heap) (b' : AV), exec C L body9n ⟨ρ, [], σ⟩ = some (.normal, ⟨ρ', [], σ'⟩) ∧ Same ρ ρ' ∧ ρ'.get 7 = some (.p (.int .i64 (8 * (j : Int) - 8))) ∧ ρ'.get 3 = some b' ∧ BBuf σ' b' (l ++ [UInt8.ofNat (u / 256 ^ j % 256)]) ∧ σ.length ≤ σ'.length := by
  have hp : ¬ (8 * (j : Int)) < 0 := by omega
  have hge : (0 : Int) ≤ 8 * (j : Int) := by omega
  have e1 : IntKind.i64.wrap (8 * (j : Int) - 8) = 8 * (j : Int) - 8 := wrap_id _ (by omega) (by omega)
  have hmin : min (8 * (j : Int)).toNat 64 = 8 * j := by omega
  have e2 : (u : Int).fdiv (2 ^ (8 * j)) = ((u / 256 ^ j : Nat) : Int) := by
    rw [show ((2 : Int) ^ (8 * j)) = (((256 ^ j : Nat)) : Int) from by rw [← two_pow8]; simp]
    rw [Int.fdiv_eq_ediv_of_nonneg _ (Int.natCast_nonneg _)]
    rfl
  have e3 : IntKind.u8.wrap ((u / 256 ^ j : Nat) : Int) = (((UInt8.ofNat (u / 256 ^ j % 256)).toNat : Nat) : Int) := by
    have hb8 : (UInt8.ofNat (u / 256 ^ j % 256)).toNat = u / 256 ^ j % 256 := UInt8.toNat_ofNat_of_lt' (Nat.mod_lt _ (by decide))
    rw [wrap_u8 _ (Int.natCast_nonneg _), hb8, Int.natCast_emod]
    rfl
  have e4 : IntKind.u8.wrap ((u : Int) / 256 ^ j) = (((UInt8.ofNat (u / 256 ^ j % 256)).toNat : Nat) : Int) := by
    rw [show ((u : Int) / 256 ^ j) = ((u / 256 ^ j : Nat) : Int) from by simp]
    exact e3
  obtain ⟨b2, σ2, hA, hb2, _, hlen⟩ := app_buf (hb.grow [.arr (.pv (bp [UInt8.ofNat (u / 256 ^ j % 256)])) 0 0 none]) [UInt8.ofNat (u / 256 ^ j % 256)] (by simpa using hl) (by simp)
  generalize UInt8.ofNat (u / 256 ^ j % 256) = c at *
  simp only [bp, List.map_cons, List.map_nil, List.length_cons, List.length_nil, Nat.zero_add] at hA
  have hlen' : σ.length ≤ σ2.length := by simp at hlen; omega
  exact ⟨_, σ2, b2, by simp [body9n, exec, runOps, wantedA, stepOp, pureOp, allocOp, readOp, effOp, ev, evs, evO, Env.get_cons, putE, binA, intBin, unA, AV.fit, AV.toCells, partC, partP, mkCells, allP, mkAgg, Cells.len, target, evParts, fillA, AV.cells, splice, spliceC, finA, leaveA, resA, resV, ansV, intShift, repCells, elemsA, takeC, dropC, IntKind.bits, h7, h6, h3, hp, hge, e1, hmin, e2, e4, hA]; rfl, by simp [Same, Env.get_cons], by simp [Env.get_cons], by simp [Env.get_cons], hb2, hlen'⟩
end
theorem loop9n (C : Oracle) (L u : Nat) : ∀ (j f : Nat) (ρ : Env) (σ : Heap) (b : AV) (l : List UInt8), j < f → j ≤ 8 → ρ.get 7 = some (.p (.int .i64 (8 * (j : Int) - 8))) → ρ.get 6 = some (.p (.int .u64 (u : Int))) → ρ.get 3 = some b → BBuf σ b l → l.length + j ≤ LIM →
    ∃ (ρ' : Env) (σ' : Heap) (b' : AV), iter (exec C L body9n) none f ⟨ρ, [], σ⟩ = some (.exit 3, ⟨ρ', [], σ'⟩) ∧ Same ρ ρ' ∧ ρ'.get 3 = some b' ∧ BBuf σ' b' (l ++ be j (u % 256 ^ j)) ∧ σ.length ≤ σ'.length
  | 0, f, ρ, σ, b, l, hf, _, h7, h6, h3, hb, hl => by
    obtain ⟨f, rfl⟩ : ∃ m, f = m + 1 := ⟨f - 1, by omega⟩
    obtain ⟨ρ', e, hs, g3⟩ := stop9n C L ρ σ (by rw [h7]; rfl)
    exact ⟨ρ', σ, b, by simp only [iter, St.keep, e], hs, g3.trans h3, by simpa [be] using hb, Nat.le_refl _⟩
  | j + 1, f, ρ, σ, b, l, hf, hj, h7, h6, h3, hb, hl => by
    obtain ⟨f, rfl⟩ : ∃ m, f = m + 1 := ⟨f - 1, by omega⟩
    obtain ⟨ρ1, σ1, b1, e, hs, g7, g3, gb, gl⟩ := go9n C L u ρ σ b l j (by rw [h7]; congr 3; omega) h6 h3 hb (by omega) (by omega)
    obtain ⟨ρ', σ', b', e', hs', q3, qb, ql⟩ := loop9n C L u j f ρ1 σ1 b1 _ (by omega) (by omega) g7 (hs.2.2.2.2.trans h6) g3 gb (by simp; omega)
    refine ⟨ρ', σ', b', by simp only [iter, St.keep, e]; exact e', hs.trans hs', q3, ?_, Nat.le_trans gl ql⟩
    rw [be_step]
    simpa using qb
end Go.Ab.Key
