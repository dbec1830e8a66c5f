/- The law TypesNames: the two tables as they lie in the memory. -/
import Derived.Test.YtacjjncmbklplaaGreatDoorAbN1
import Derived.Test.YtacjjncmbklplaaGreatDoorAbE1
import Derived.Lib.LaidTab
import Derived.Stop.LaidErr
import Derived.Test.YtacjjncmbklplaaGreatDoorRows
set_option linter.unusedSectionVars false
set_option linter.unusedSimpArgs false
set_option linter.unusedVariables false
set_option maxRecDepth 100000
namespace Go.Ab.Names
open Go Go.Ab Go.Proofs Go.Proofs.YtacjjncmbklplaaGreatDoor Go.ChangeShapes Go.RowKit Go.Deep

section
variable {H : Type} {enc : TypeId × Value → H} {w : World} {base : Nat} {sp : Nat → Bool} {held : Bool} {fuel : Nat}
theorem row_cells {cs : List Value} {s : List UInt8} {k b : Int} {p : List MemPlace} (h : DataW.trod enc Tryz.prog w base sp held fuel 44 cs = some (.agg [.lit (.string s), .lit (.int .i64 k), .lit (.int .i64 b)], p)) :
    ∃ s' : ByteArray, s'.data.toList = s ∧ cs = [.string s', .int .i64 k, .int .i64 b] := by
  obtain ⟨y0, y1, y2, n, hx, hl, h0, h1, h2⟩ := trod_struct3 (t := 44) (P := Tryz.prog) Tryz.underlying44 h
  have c44 : Tryz.prog.cellsOf 44 = 3 := by kernel_rfl
  rw [c44] at hl
  obtain ⟨a0, a1, a2, rfl⟩ := three hl
  have c9 : Tryz.prog.cellsOf 9 = 1 := by kernel_rfl
  have c28 : Tryz.prog.cellsOf 28 = 1 := by kernel_rfl
  have c3 : Tryz.prog.cellsOf 3 = 1 := by kernel_rfl
  obtain ⟨s', e0, r0, _⟩ := DataW.trod_string Tryz.underlying9 h0
  obtain ⟨k', e1, r1, _⟩ := DataW.trod_int Tryz.underlying28 h1
  obtain ⟨b', e2, r2, _⟩ := DataW.trod_int Tryz.underlying3 h2
  simp only [c9, c28, c3, List.drop_succ_cons, List.drop_zero, List.take_succ_cons, List.take_zero, List.cons.injEq, and_true] at e0 e1 e2
  subst e0 e1 e2
  rw [r0, r1, r2] at hx
  simp only [Prod.mk.injEq, DataW.agg.injEq, List.cons.injEq, DataW.lit.injEq, Lit.string.injEq, Lit.int.injEq, and_true, true_and] at hx
  obtain ⟨⟨h1, h2, h3⟩, _⟩ := hx
  exact ⟨s', h1.symm, by rw [h2, h3]⟩

theorem bases_cells {cs : List Value} {p : List MemPlace} (h : DataW.trod enc Tryz.prog w base sp held fuel 45 cs = some (Rows.laid_stile_types_bases, p)) :
    ∀ (j : Nat) v, basesG[j]? = some v → ∃ c, cs[j]? = some c ∧ one c = true ∧ ∀ S, RepP S w v c := by
  obtain ⟨xs, m, _, hx, hl, hlen, hel⟩ := DataW.trod_array (P := Tryz.prog) Tryz.underlying45 h
  have c45 : Tryz.prog.cellsOf 45 = 21 := by kernel_rfl
  have c44 : Tryz.prog.cellsOf 44 = 3 := by kernel_rfl
  rw [c44] at hel
  simp only [Prod.mk.injEq] at hx
  have hmap : (xs.map (·.1)) = _ := (DataW.agg.inj hx.1).symm
  have rowi : ∀ (i : Nat) (s : List UInt8) (k b : Int), i < 7 → (xs.map (·.1))[i]? = some (.agg [.lit (.string s), .lit (.int .i64 k), .lit (.int .i64 b)]) →
      ∃ s' : ByteArray, s'.data.toList = s ∧ cs[3 * i]? = some (.string s') ∧ cs[3 * i + 1]? = some (.int .i64 k) ∧ cs[3 * i + 2]? = some (.int .i64 b) := by
    intro i s k b hi hd
    have he := hel i hi
    rw [List.getElem?_map, Option.map_eq_some_iff] at hd
    obtain ⟨⟨d, q⟩, h1, h2⟩ := hd
    simp only at h2
    subst h2
    rw [h1] at he
    obtain ⟨s', hs, hc⟩ := row_cells he
    refine ⟨s', hs, ?_, ?_, ?_⟩
    all_goals
      have g := fun (j : Nat) => congrArg (fun l : List Value => l[j]?) hc
      first
        | (have g0 := g 0; simpa [List.getElem?_take, List.getElem?_drop, Nat.mul_comm] using g0)
        | (have g1 := g 1; simpa [List.getElem?_take, List.getElem?_drop, Nat.mul_comm] using g1)
        | (have g2 := g 2; simpa [List.getElem?_take, List.getElem?_drop, Nat.mul_comm] using g2)
  rw [hmap] at rowi
  obtain ⟨s0, t0, a0, b0, d0⟩ := rowi 0 _ _ _ (by omega) rfl
  obtain ⟨s1, t1, a1, b1, d1⟩ := rowi 1 _ _ _ (by omega) rfl
  obtain ⟨s2, t2, a2, b2, d2⟩ := rowi 2 _ _ _ (by omega) rfl
  obtain ⟨s3, t3, a3, b3, d3⟩ := rowi 3 _ _ _ (by omega) rfl
  obtain ⟨s4, t4, a4, b4, d4⟩ := rowi 4 _ _ _ (by omega) rfl
  obtain ⟨s5, t5, a5, b5, d5⟩ := rowi 5 _ _ _ (by omega) rfl
  obtain ⟨s6, t6, a6, b6, d6⟩ := rowi 6 _ _ _ (by omega) rfl
  intro j v hv
  rcases j with _ | _ | _ | _ | _ | _ | _ | _ | _ | _ | _ | _ | _ | _ | _ | _ | _ | _ | _ | _ | _ | j
  case succ.succ.succ.succ.succ.succ.succ.succ.succ.succ.succ.succ.succ.succ.succ.succ.succ.succ.succ.succ.succ => exact absurd hv (by simp [basesG, row])
  all_goals
    simp only [basesG, row] at hv
    obtain rfl := Option.some.inj hv
    first
      | exact ⟨_, a0, rfl, fun _ => .str t0⟩ | exact ⟨_, b0, rfl, fun _ => .int _ _⟩ | exact ⟨_, d0, rfl, fun _ => .int _ _⟩
      | exact ⟨_, a1, rfl, fun _ => .str t1⟩ | exact ⟨_, b1, rfl, fun _ => .int _ _⟩ | exact ⟨_, d1, rfl, fun _ => .int _ _⟩
      | exact ⟨_, a2, rfl, fun _ => .str t2⟩ | exact ⟨_, b2, rfl, fun _ => .int _ _⟩ | exact ⟨_, d2, rfl, fun _ => .int _ _⟩
      | exact ⟨_, a3, rfl, fun _ => .str t3⟩ | exact ⟨_, b3, rfl, fun _ => .int _ _⟩ | exact ⟨_, d3, rfl, fun _ => .int _ _⟩
      | exact ⟨_, a4, rfl, fun _ => .str t4⟩ | exact ⟨_, b4, rfl, fun _ => .int _ _⟩ | exact ⟨_, d4, rfl, fun _ => .int _ _⟩
      | exact ⟨_, a5, rfl, fun _ => .str t5⟩ | exact ⟨_, b5, rfl, fun _ => .int _ _⟩ | exact ⟨_, d5, rfl, fun _ => .int _ _⟩
      | exact ⟨_, a6, rfl, fun _ => .str t6⟩ | exact ⟨_, b6, rfl, fun _ => .int _ _⟩ | exact ⟨_, d6, rfl, fun _ => .int _ _⟩
end


def powZ : List Int := (List.range 20).map fun i => ((10 ^ i : Nat) : Int)
theorem pow_at (j : Nat) (v : PV) (h : powG[j]? = some v) : ∃ z, powZ[j]? = some z ∧ v = .int .u64 z := by
  unfold powG at h
  unfold powZ
  rw [List.getElem?_map] at h ⊢
  cases hr : (List.range 20)[j]? with
  | none => rw [hr] at h; cases h
  | some i => rw [hr] at h; exact ⟨_, rfl, (Option.some.inj h).symm⟩
theorem star : "*" ++ "errors.errorString" = "*errors.errorString" := by decide
theorem name_of (u : TypeId) (h : Tryz.prog.typeName? 3 u = some "*errors.errorString") : u = 158 :=
  typeName_ptr_named (nm := "errors.errorString") (by rw [star]; kernel_rfl) (by kernel_rfl) (by decide) u (by rw [star]; exact h)
theorem err_row {W : World} (h : laidMet Tryz.prog Rows.typesCastsUptoRow.laid W) : RepCells (Ex W) W [.iface 158 (.vptr [])] 1 0 ∧ Ex W 1 1 ∧ W.cell? ⟨1, 1, none⟩ = none := by
  obtain ⟨a, s, hv, hc, _, _⟩ := laid_sentinel (P := Tryz.prog) (n := "strconv.ErrRange") (nm := "*errors.errorString") (g := 1) (ti := 73) (tp := 158) (te := 160) (ts := 9) (laidMet.tail (laidMet.tail (laidMet.tail (laidMet.tail h))))
    (by kernel_rfl) (by kernel_rfl) Tryz.underlying73 name_of Tryz.underlying158 Tryz.underlying160 rfl rfl Tryz.underlying9 (by kernel_rfl) (by kernel_rfl)
  obtain ⟨b, o, spot⟩ := a
  obtain rfl : spot = none := World.cell?_spot hc
  exact glob_row (P := Tryz.prog) (n := "strconv.ErrRange") (by kernel_rfl) hv rfl (by simp) fun j v hj => by
    rcases j with _ | j
    · obtain rfl := Option.some.inj hj
      exact ⟨_, rfl, rfl, .iface (.vptr (.nil b o))⟩
    · simp at hj
theorem glob_ok {W : World} (h : laidMet Tryz.prog Rows.typesCastsUptoRow.laid W) : GlobOK (Ex W) W G := by
  intro g l hl
  have h0 := h
  obtain ⟨ps, hv, _⟩ := h
  unfold G at hl
  split at hl
  · obtain rfl := Option.some.inj hl
    obtain ⟨g, t, cs, fuel, p, h1, h2, h3, h4⟩ := laid_at (n := "stile/types.bases") (d := Rows.laid_stile_types_bases) hv (by simp [Rows.typesCastsUptoRow])
    obtain rfl : g = 0 := (Option.some.inj (h1.symm.trans (show Tryz.prog.globalNamed "stile/types.bases" = some 0 by kernel_rfl)))
    obtain rfl : t = 45 := (Option.some.inj (h2.symm.trans (show (Tryz.prog.globals[0]?).map (·.type) = some 45 by kernel_rfl)))
    refine glob_row h1 h3 ?_ (by decide) fun j v hj => ?_
    · obtain ⟨_, _, _, _, hl, _⟩ := DataW.trod_array (P := Tryz.prog) Tryz.underlying45 h4
      rw [show Tryz.prog.cellsOf 45 = 21 by kernel_rfl] at hl
      show cs.size = 21
      simpa using hl
    · obtain ⟨c, k1, k2, k3⟩ := bases_cells h4 j v hj
      exact ⟨c, by simpa using k1, k2, k3 _⟩
  · obtain rfl := Option.some.inj hl
    exact err_row h0
  · obtain rfl := Option.some.inj hl
    obtain ⟨g, t, cs, fuel, p, h1, h2, h3, h4⟩ := laid_at (n := "internal/strconv.uint64pow10") (d := Rows.laid_internal_strconv_uint64pow10) hv (by simp [Rows.typesCastsUptoRow])
    obtain rfl : g = 3 := (Option.some.inj (h1.symm.trans (show Tryz.prog.globalNamed "internal/strconv.uint64pow10" = some 3 by kernel_rfl)))
    obtain rfl : t = 120 := (Option.some.inj (h2.symm.trans (show (Tryz.prog.globals[3]?).map (·.type) = some 120 by kernel_rfl)))
    have hcs : cs.toList = powZ.map fun z => Value.int .u64 z :=
      Lib.cells_of_tab (zs := powZ) Tryz.underlying120 (show Tryz.prog.underlying 98 = some (.int .u64) by kernel_rfl) (by kernel_rfl) (by kernel_rfl) (show DataW.trod (fun _ => ()) Tryz.prog W 0 (fun _ => true) false fuel 120 cs.toList = some (Lib.tabData .u64 powZ, p) from h4)
    refine glob_row h1 h3 ?_ (by decide) fun j v hj => ?_
    · have := congrArg List.length hcs
      simpa [powZ, powG] using this
    · obtain ⟨z, hz, rfl⟩ := pow_at j v hj
      refine ⟨.int .u64 z, ?_, rfl, .int _ _⟩
      have : cs[j]? = cs.toList[j]? := by simp
      rw [this, hcs, List.getElem?_map, hz]
      rfl
  · cases hl

end Go.Ab.Names
