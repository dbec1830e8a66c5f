/- The plan's laws: the table of functions, the live question. -/
import Derived.Test.YtikebbklkiodlaaDoorAbE3
import Derived.KernelRfl
import Derived.Test.YtikebbklkiodlaaDoorProg
import Derived.Test.YtikebbklkiodlaaDoorAbE1
import Derived.Test.YtikebbklkiodlaaDoorAbE6
import Derived.Test.YtikebbklkiodlaaDoorRows
set_option linter.unusedSectionVars false
set_option linter.unusedSimpArgs false
set_option linter.unusedVariables false
set_option maxRecDepth 1000000
namespace Go.Ab.Plan
open Go Go.Ab Go.Proofs
def basesG : List PV := [.str [], .int .i64 0, .int .i64 0, .str [115, 109, 97, 108, 108, 105, 110, 116], .int .i64 1, .int .i64 16, .str [105, 110, 116, 101, 103, 101, 114], .int .i64 1, .int .i64 32,
  .str [98, 105, 103, 105, 110, 116], .int .i64 1, .int .i64 64, .str [99, 104, 97, 114], .int .i64 2, .int .i64 0, .str [118, 97, 114, 99, 104, 97, 114], .int .i64 2, .int .i64 0, .str [98, 111, 111, 108, 101, 97, 110], .int .i64 3, .int .i64 0]
def G : Globs := fun x => if x = 0 then some basesG else none
section
variable [Marks]
noncomputable def TP : Table := ahead (rowIm Go.Proofs.Tryd.prog G [11]) (rowOf Go.Proofs.Tryd.prog G [] [])
end
def isT : Option (CRes × Heap) → Bool
  | some (.ret (.p (.bool true)), _) => true
  | _ => false
def hasBad : ACode → Bool
  | .bad => true
  | .seq a b => hasBad a || hasBad b
  | .cond _ a b => hasBad a || hasBad b
  | .block _ b => hasBad b
  | .loop _ b => hasBad b
  | .rng _ a b _ _ => hasBad a || hasBad b
  | _ => false
def stat (T : Table) (f : Nat) : Nat := match T f with
  | some (.code af _) => if hasBad af.body then 1 else 0
  | some _ => 3
  | none => 2
end Go.Ab.Plan

/- The plan's laws: the table of types as it lies in the memory. -/
set_option maxRecDepth 100000
namespace Go.Ab.Plan
open Go Go.Ab Go.Proofs Go.Proofs.YtikebbklkiodlaaDoor Go.ChangeShapes Go.RowKit Go.Deep

section
variable [Marks]
variable {H : Type} {enc : TypeId × Value → H} {w : World} {base : Nat} {sp : Nat → Bool} {held : Bool} {fuel : Nat}
theorem row_cells {cs : List Value} {s : List UInt8} {k b : Int} {p : List MemPlace} (h : DataW.trod enc Tryd.prog w base sp held fuel 97 cs = some (.agg [.lit (.string s), .lit (.int .i64 k), .lit (.int .i64 b)], p)) :
    ∃ s' : ByteArray, s'.data.toList = s ∧ cs = [.string s', .int .i64 k, .int .i64 b] := by
  obtain ⟨y0, y1, y2, n, hx, hl, h0, h1, h2⟩ := trod_struct3 (t := 97) (P := Tryd.prog) Tryd.underlying97 h
  have c97 : Tryd.prog.cellsOf 97 = 3 := by kernel_rfl
  rw [c97] at hl
  obtain ⟨a0, a1, a2, rfl⟩ := three hl
  have c9 : Tryd.prog.cellsOf 9 = 1 := by kernel_rfl
  have c71 : Tryd.prog.cellsOf 71 = 1 := by kernel_rfl
  have c3 : Tryd.prog.cellsOf 3 = 1 := by kernel_rfl
  obtain ⟨s', e0, r0, _⟩ := DataW.trod_string Tryd.underlying9 h0
  obtain ⟨k', e1, r1, _⟩ := DataW.trod_int Tryd.underlying71 h1
  obtain ⟨b', e2, r2, _⟩ := DataW.trod_int Tryd.underlying3 h2
  simp only [c9, c71, c3, List.drop_succ_cons, List.drop_zero, List.take_succ_cons, List.take_zero, List.cons.injEq, and_true] at e0 e1 e2
  subst e0 e1 e2
  rw [r0, r1, r2] at hx
  simp only [Prod.mk.injEq, DataW.agg.injEq, List.cons.injEq, DataW.lit.injEq, Lit.string.injEq, Lit.int.injEq, and_true, true_and] at hx
  obtain ⟨⟨h1, h2, h3⟩, _⟩ := hx
  exact ⟨s', h1.symm, by rw [h2, h3]⟩

theorem bases_cells {cs : List Value} {p : List MemPlace} (h : DataW.trod enc Tryd.prog w base sp held fuel 98 cs = some (Rows.laid_stile_types_bases, p)) :
    ∀ (j : Nat) v, basesG[j]? = some v → ∃ c, cs[j]? = some c ∧ one c = true ∧ ∀ S, RepP S w v c := by
  obtain ⟨xs, m, _, hx, hl, hlen, hel⟩ := DataW.trod_array (P := Tryd.prog) Tryd.underlying98 h
  have c98 : Tryd.prog.cellsOf 98 = 21 := by kernel_rfl
  have c97 : Tryd.prog.cellsOf 97 = 3 := by kernel_rfl
  rw [c97] at hel
  simp only [Prod.mk.injEq] at hx
  have hmap : (xs.map (·.1)) = _ := (DataW.agg.inj hx.1).symm
  have rowi : ∀ (i : Nat) (s : List UInt8) (k b : Int), i < 7 → (xs.map (·.1))[i]? = some (.agg [.lit (.string s), .lit (.int .i64 k), .lit (.int .i64 b)]) →
      ∃ s' : ByteArray, s'.data.toList = s ∧ cs[3 * i]? = some (.string s') ∧ cs[3 * i + 1]? = some (.int .i64 k) ∧ cs[3 * i + 2]? = some (.int .i64 b) := by
    intro i s k b hi hd
    have he := hel i hi
    rw [List.getElem?_map, Option.map_eq_some_iff] at hd
    obtain ⟨⟨d, q⟩, h1, h2⟩ := hd
    simp only at h2
    subst h2
    rw [h1] at he
    obtain ⟨s', hs, hc⟩ := row_cells he
    refine ⟨s', hs, ?_, ?_, ?_⟩
    all_goals
      have g := fun (j : Nat) => congrArg (fun l : List Value => l[j]?) hc
      first
        | (have g0 := g 0; simpa [List.getElem?_take, List.getElem?_drop, Nat.mul_comm] using g0)
        | (have g1 := g 1; simpa [List.getElem?_take, List.getElem?_drop, Nat.mul_comm] using g1)
        | (have g2 := g 2; simpa [List.getElem?_take, List.getElem?_drop, Nat.mul_comm] using g2)
  rw [hmap] at rowi
  obtain ⟨s0, t0, a0, b0, d0⟩ := rowi 0 _ _ _ (by omega) rfl
  obtain ⟨s1, t1, a1, b1, d1⟩ := rowi 1 _ _ _ (by omega) rfl
  obtain ⟨s2, t2, a2, b2, d2⟩ := rowi 2 _ _ _ (by omega) rfl
  obtain ⟨s3, t3, a3, b3, d3⟩ := rowi 3 _ _ _ (by omega) rfl
  obtain ⟨s4, t4, a4, b4, d4⟩ := rowi 4 _ _ _ (by omega) rfl
  obtain ⟨s5, t5, a5, b5, d5⟩ := rowi 5 _ _ _ (by omega) rfl
  obtain ⟨s6, t6, a6, b6, d6⟩ := rowi 6 _ _ _ (by omega) rfl
  intro j v hv
  rcases j with _ | _ | _ | _ | _ | _ | _ | _ | _ | _ | _ | _ | _ | _ | _ | _ | _ | _ | _ | _ | _ | j
  case succ.succ.succ.succ.succ.succ.succ.succ.succ.succ.succ.succ.succ.succ.succ.succ.succ.succ.succ.succ.succ => exact absurd hv (by simp [basesG])
  all_goals
    simp only [basesG] at hv
    obtain rfl := Option.some.inj hv
    first
      | exact ⟨_, a0, rfl, fun _ => .str t0⟩ | exact ⟨_, b0, rfl, fun _ => .int _ _⟩ | exact ⟨_, d0, rfl, fun _ => .int _ _⟩
      | exact ⟨_, a1, rfl, fun _ => .str t1⟩ | exact ⟨_, b1, rfl, fun _ => .int _ _⟩ | exact ⟨_, d1, rfl, fun _ => .int _ _⟩
      | exact ⟨_, a2, rfl, fun _ => .str t2⟩ | exact ⟨_, b2, rfl, fun _ => .int _ _⟩ | exact ⟨_, d2, rfl, fun _ => .int _ _⟩
      | exact ⟨_, a3, rfl, fun _ => .str t3⟩ | exact ⟨_, b3, rfl, fun _ => .int _ _⟩ | exact ⟨_, d3, rfl, fun _ => .int _ _⟩
      | exact ⟨_, a4, rfl, fun _ => .str t4⟩ | exact ⟨_, b4, rfl, fun _ => .int _ _⟩ | exact ⟨_, d4, rfl, fun _ => .int _ _⟩
      | exact ⟨_, a5, rfl, fun _ => .str t5⟩ | exact ⟨_, b5, rfl, fun _ => .int _ _⟩ | exact ⟨_, d5, rfl, fun _ => .int _ _⟩
      | exact ⟨_, a6, rfl, fun _ => .str t6⟩ | exact ⟨_, b6, rfl, fun _ => .int _ _⟩ | exact ⟨_, d6, rfl, fun _ => .int _ _⟩
end

theorem bases_ok [Marks] {W : World} {l : List (String × DataW Unit)} (h : laidMet Tryd.prog l W) (hm : ("stile/types.bases", (Rows.laid_stile_types_bases : DataW Unit)) ∈ l) : GlobOK (Ex W) W G := by
  intro g l hl
  obtain ⟨ps, hv, _⟩ := h
  unfold G at hl
  split at hl
  · obtain rfl := Option.some.inj hl
    obtain ⟨g, t, cs, fuel, p, h1, h2, h3, h4⟩ := laid_at (n := "stile/types.bases") (d := Rows.laid_stile_types_bases) hv hm
    obtain rfl : g = 0 := (Option.some.inj (h1.symm.trans (show Tryd.prog.globalNamed "stile/types.bases" = some 0 by kernel_rfl)))
    obtain rfl : t = 98 := (Option.some.inj (h2.symm.trans (show (Tryd.prog.globals[0]?).map (·.type) = some 98 by kernel_rfl)))
    rename_i hg0
    subst hg0
    refine glob_row h1 h3 ?_ (by decide) fun j v hj => ?_
    · obtain ⟨_, _, _, _, hl, _⟩ := DataW.trod_array (P := Tryd.prog) Tryd.underlying98 h4
      rw [show Tryd.prog.cellsOf 98 = 21 by kernel_rfl] at hl
      simpa [basesG] using hl
    · obtain ⟨c, k1, k2, k3⟩ := bases_cells h4 j v hj
      exact ⟨c, by simpa using k1, k2, k3 _⟩
  · cases hl

theorem table_ok [Marks] : TableOK Tryd.prog G TP := ahead_ok rowIm_ok rowOf_ok
end Go.Ab.Plan
