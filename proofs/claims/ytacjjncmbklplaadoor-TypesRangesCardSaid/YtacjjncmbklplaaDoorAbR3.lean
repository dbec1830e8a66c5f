/- The law TypesRanges: numbers' bits. -/
import Derived.Test.YtacjjncmbklplaaDoorAbR2
set_option maxRecDepth 100000
namespace Go.Ab.Ranges
open Go Go.Ab Go.Proofs Go.Proofs.YtacjjncmbklplaaDoor

theorem fits48 (n : Int) (h1 : -9223372036854775808 ≤ n) (h2 : n ≤ 9223372036854775807) : fits 48 n = decide (-32768 ≤ n ∧ n ≤ 32767) := by
  have e : (IntKind.i64.wrap (n * 2 ^ 48)).fdiv (2 ^ 48) = (if (n * 281474976710656) % 18446744073709551616 ≥ 9223372036854775808 then (n * 281474976710656) % 18446744073709551616 - 18446744073709551616 else (n * 281474976710656) % 18446744073709551616) / 281474976710656 := by
    rw [Int.fdiv_eq_ediv_of_nonneg _ (by decide)]
    simp [IntKind.wrap, IntKind.bits, IntKind.signed]
  unfold fits
  rw [e]
  rw [Bool.eq_iff_iff]
  simp only [beq_iff_eq, decide_eq_true_eq]
  split <;> omega
theorem fits32 (n : Int) (h1 : -9223372036854775808 ≤ n) (h2 : n ≤ 9223372036854775807) : fits 32 n = decide (-2147483648 ≤ n ∧ n ≤ 2147483647) := by
  have e : (IntKind.i64.wrap (n * 2 ^ 32)).fdiv (2 ^ 32) = (if (n * 4294967296) % 18446744073709551616 ≥ 9223372036854775808 then (n * 4294967296) % 18446744073709551616 - 18446744073709551616 else (n * 4294967296) % 18446744073709551616) / 4294967296 := by
    rw [Int.fdiv_eq_ediv_of_nonneg _ (by decide)]
    simp [IntKind.wrap, IntKind.bits, IntKind.signed]
  unfold fits
  rw [e]
  rw [Bool.eq_iff_iff]
  simp only [beq_iff_eq, decide_eq_true_eq]
  split <;> omega
theorem fits0 (n : Int) (h1 : -9223372036854775808 ≤ n) (h2 : n ≤ 9223372036854775807) : fits 0 n = true := by
  have e : (IntKind.i64.wrap (n * 2 ^ 0)).fdiv (2 ^ 0) = (if n % 18446744073709551616 ≥ 9223372036854775808 then n % 18446744073709551616 - 18446744073709551616 else n % 18446744073709551616) := by
    rw [Int.fdiv_eq_ediv_of_nonneg _ (by decide)]
    simp [IntKind.wrap, IntKind.bits, IntKind.signed]
  unfold fits
  rw [e]
  simp only [beq_iff_eq]
  split <;> omega

theorem laid_at {P : Program} {w : World} {n : String} {d : DataW Unit} : ∀ {l : List (String × DataW Unit)} {ps : List MemPlace}, DataW.LaidVars P w l ps → (n, d) ∈ l →
    ∃ (g : Nat) (t : TypeId) (cs : Array Value) (fuel : Nat) (p : List MemPlace), P.globalNamed n = some g ∧ (P.globals[g]?).map (·.type) = some t ∧ w.var? P n = some cs ∧ DataW.trod (fun _ => ()) P w 0 (fun _ => true) false fuel t cs.toList = some (d, p)
  | [], _, _, hm => by cases hm
  | (n', d') :: r, ps, h, hm => by
    obtain ⟨g, t, cs, fuel, p, q, h1, h2, h3, h4, h5, _⟩ := h
    rcases List.mem_cons.1 hm with he | hm
    · cases he
      exact ⟨g, t, cs, fuel, p, h1, h2, h3, h4⟩
    · exact laid_at h5 hm

theorem glob_ok {W : World} (h : laidMet Tryd.prog Rows.typesRangesRow.laid W) : GlobOK (Ex W) W G := by
  intro g l hl
  have hg0 : g = 0 ∧ l = basesG := by
    unfold G at hl
    split at hl
    · exact ⟨rfl, (Option.some.inj hl).symm⟩
    · cases hl
  obtain ⟨rfl, rfl⟩ := hg0
  obtain ⟨ps, hv, _⟩ := h
  obtain ⟨g, t, cs, fuel, p, h1, h2, h3, h4⟩ := laid_at (n := "stile/types.bases") (d := Rows.laid_stile_types_bases) hv (by simp [Rows.typesRangesRow])
  obtain rfl : g = 0 := (Option.some.inj (h1.symm.trans (show Tryd.prog.globalNamed "stile/types.bases" = some 0 by kernel_rfl)))
  obtain rfl : t = 53 := (Option.some.inj (h2.symm.trans (show (Tryd.prog.globals[0]?).map (·.type) = some 53 by kernel_rfl)))
  refine repCells_get _ _ fun j v hj => ?_
  obtain ⟨c, k1, k2, k3⟩ := bases_cells h4 j v hj
  refine ⟨c, ?_, k2, k3 _⟩
  rw [Nat.zero_add, World.var?_cell h1 h3 j]
  simpa using k1

end Go.Ab.Ranges
