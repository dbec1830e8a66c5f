/- The laws on columns' values, second seat: the tables in the memory, raw values as they come in. -/
import Derived.Test.YtacjjncmbklplaaDoorAbD11
import Derived.Test.YtacjjncmbklplaaDoorAbE1
import Derived.Lib.LaidTab
import Derived.Lib.SmallJoins
import Derived.Test.YtacjjncmbklplaaDoorRows
set_option maxRecDepth 1000000
namespace Go.Ab.Long
open Go Go.Ab Go.Proofs Go.Proofs.YtacjjncmbklplaaDoor Go.ChangeShapes Go.WideShapes Go.RowKit Go.Deep Go.Joins Go.ChangeMaps

section
variable {H : Type} {enc : TypeId × Value → H} {w : World} {base : Nat} {sp : Nat → Bool} {held : Bool} {fuel : Nat}
theorem row_cells {cs : List Value} {s : List UInt8} {k b : Int} {p : List MemPlace} (h : DataW.trod enc Tryd.prog w base sp held fuel 52 cs = some (.agg [.lit (.string s), .lit (.int .i64 k), .lit (.int .i64 b)], p)) :
    ∃ s' : ByteArray, s'.data.toList = s ∧ cs = [.string s', .int .i64 k, .int .i64 b] := by
  obtain ⟨y0, y1, y2, n, hx, hl, h0, h1, h2⟩ := trod_struct3 (t := 52) (P := Tryd.prog) Tryd.underlying52 h
  have c52 : Tryd.prog.cellsOf 52 = 3 := by kernel_rfl
  rw [c52] at hl
  obtain ⟨a0, a1, a2, rfl⟩ := three hl
  have c9 : Tryd.prog.cellsOf 9 = 1 := by kernel_rfl
  have c27 : Tryd.prog.cellsOf 27 = 1 := by kernel_rfl
  have c3 : Tryd.prog.cellsOf 3 = 1 := by kernel_rfl
  obtain ⟨s', e0, r0, _⟩ := DataW.trod_string Tryd.underlying9 h0
  obtain ⟨k', e1, r1, _⟩ := DataW.trod_int Tryd.underlying27 h1
  obtain ⟨b', e2, r2, _⟩ := DataW.trod_int Tryd.underlying3 h2
  simp only [c9, c27, c3, List.drop_succ_cons, List.drop_zero, List.take_succ_cons, List.take_zero, List.cons.injEq, and_true] at e0 e1 e2
  subst e0 e1 e2
  rw [r0, r1, r2] at hx
  simp only [Prod.mk.injEq, DataW.agg.injEq, List.cons.injEq, DataW.lit.injEq, Lit.string.injEq, Lit.int.injEq, and_true, true_and] at hx
  obtain ⟨⟨h1, h2, h3⟩, _⟩ := hx
  exact ⟨s', h1.symm, by rw [h2, h3]⟩

theorem bases_cells {cs : List Value} {p : List MemPlace} (h : DataW.trod enc Tryd.prog w base sp held fuel 53 cs = some (Rows.laid_stile_types_bases, p)) :
    ∀ (j : Nat) v, basesG[j]? = some v → ∃ c, cs[j]? = some c ∧ Go.Ab.one c = true ∧ ∀ S, RepP S w v c := by
  obtain ⟨xs, m, _, hx, hl, hlen, hel⟩ := DataW.trod_array (P := Tryd.prog) Tryd.underlying53 h
  have c53 : Tryd.prog.cellsOf 53 = 21 := by kernel_rfl
  have c52 : Tryd.prog.cellsOf 52 = 3 := by kernel_rfl
  rw [c52] at hel
  simp only [Prod.mk.injEq] at hx
  have hmap : (xs.map (·.1)) = _ := (DataW.agg.inj hx.1).symm
  have rowi : ∀ (i : Nat) (s : List UInt8) (k b : Int), i < 7 → (xs.map (·.1))[i]? = some (.agg [.lit (.string s), .lit (.int .i64 k), .lit (.int .i64 b)]) →
      ∃ s' : ByteArray, s'.data.toList = s ∧ cs[3 * i]? = some (.string s') ∧ cs[3 * i + 1]? = some (.int .i64 k) ∧ cs[3 * i + 2]? = some (.int .i64 b) := by
    intro i s k b hi hd
    have he := hel i hi
    rw [List.getElem?_map, Option.map_eq_some_iff] at hd
    obtain ⟨⟨d, q⟩, h1, h2⟩ := hd
    simp only at h2
    subst h2
    rw [h1] at he
    obtain ⟨s', hs, hc⟩ := row_cells he
    refine ⟨s', hs, ?_, ?_, ?_⟩
    all_goals
      have g := fun (j : Nat) => congrArg (fun l : List Value => l[j]?) hc
      first
        | (have g0 := g 0; simpa [List.getElem?_take, List.getElem?_drop, Nat.mul_comm] using g0)
        | (have g1 := g 1; simpa [List.getElem?_take, List.getElem?_drop, Nat.mul_comm] using g1)
        | (have g2 := g 2; simpa [List.getElem?_take, List.getElem?_drop, Nat.mul_comm] using g2)
  rw [hmap] at rowi
  obtain ⟨s0, t0, a0, b0, d0⟩ := rowi 0 _ _ _ (by omega) rfl
  obtain ⟨s1, t1, a1, b1, d1⟩ := rowi 1 _ _ _ (by omega) rfl
  obtain ⟨s2, t2, a2, b2, d2⟩ := rowi 2 _ _ _ (by omega) rfl
  obtain ⟨s3, t3, a3, b3, d3⟩ := rowi 3 _ _ _ (by omega) rfl
  obtain ⟨s4, t4, a4, b4, d4⟩ := rowi 4 _ _ _ (by omega) rfl
  obtain ⟨s5, t5, a5, b5, d5⟩ := rowi 5 _ _ _ (by omega) rfl
  obtain ⟨s6, t6, a6, b6, d6⟩ := rowi 6 _ _ _ (by omega) rfl
  intro j v hv
  rcases j with _ | _ | _ | _ | _ | _ | _ | _ | _ | _ | _ | _ | _ | _ | _ | _ | _ | _ | _ | _ | _ | j
  case succ.succ.succ.succ.succ.succ.succ.succ.succ.succ.succ.succ.succ.succ.succ.succ.succ.succ.succ.succ.succ => exact absurd hv (by simp [basesG, row])
  all_goals
    simp only [basesG, row] at hv
    obtain rfl := Option.some.inj hv
    first
      | exact ⟨_, a0, rfl, fun _ => .str t0⟩ | exact ⟨_, b0, rfl, fun _ => .int _ _⟩ | exact ⟨_, d0, rfl, fun _ => .int _ _⟩
      | exact ⟨_, a1, rfl, fun _ => .str t1⟩ | exact ⟨_, b1, rfl, fun _ => .int _ _⟩ | exact ⟨_, d1, rfl, fun _ => .int _ _⟩
      | exact ⟨_, a2, rfl, fun _ => .str t2⟩ | exact ⟨_, b2, rfl, fun _ => .int _ _⟩ | exact ⟨_, d2, rfl, fun _ => .int _ _⟩
      | exact ⟨_, a3, rfl, fun _ => .str t3⟩ | exact ⟨_, b3, rfl, fun _ => .int _ _⟩ | exact ⟨_, d3, rfl, fun _ => .int _ _⟩
      | exact ⟨_, a4, rfl, fun _ => .str t4⟩ | exact ⟨_, b4, rfl, fun _ => .int _ _⟩ | exact ⟨_, d4, rfl, fun _ => .int _ _⟩
      | exact ⟨_, a5, rfl, fun _ => .str t5⟩ | exact ⟨_, b5, rfl, fun _ => .int _ _⟩ | exact ⟨_, d5, rfl, fun _ => .int _ _⟩
      | exact ⟨_, a6, rfl, fun _ => .str t6⟩ | exact ⟨_, b6, rfl, fun _ => .int _ _⟩ | exact ⟨_, d6, rfl, fun _ => .int _ _⟩
end


def powZ : List Int := (List.range 20).map fun i => ((10 ^ i : Nat) : Int)
theorem pow_at (j : Nat) (v : PV) (h : powG[j]? = some v) : ∃ z, powZ[j]? = some z ∧ v = .int .u64 z := by
  unfold powG at h
  unfold powZ
  rw [List.getElem?_map] at h ⊢
  cases hr : (List.range 20)[j]? with
  | none => rw [hr] at h; cases h
  | some i => rw [hr] at h; exact ⟨_, rfl, (Option.some.inj h).symm⟩
theorem glob_ok {W : World} (h : laidMet Tryd.prog Rows.typesLongRow.laid W) : GlobOK (Ex W) W G := by
  intro g l hl
  obtain ⟨ps, hv, _⟩ := h
  unfold G at hl
  split at hl
  · obtain rfl := Option.some.inj hl
    obtain ⟨g, t, cs, fuel, p, h1, h2, h3, h4⟩ := laid_at (n := "stile/types.bases") (d := Rows.laid_stile_types_bases) hv (by simp [Rows.typesLongRow])
    obtain rfl : g = 0 := (Option.some.inj (h1.symm.trans (show Tryd.prog.globalNamed "stile/types.bases" = some 0 by kernel_rfl)))
    obtain rfl : t = 53 := (Option.some.inj (h2.symm.trans (show (Tryd.prog.globals[0]?).map (·.type) = some 53 by kernel_rfl)))
    refine glob_row h1 h3 ?_ (by decide) fun j v hj => ?_
    · obtain ⟨_, _, _, _, hl, _⟩ := DataW.trod_array (P := Tryd.prog) Tryd.underlying53 h4
      rw [show Tryd.prog.cellsOf 53 = 21 by kernel_rfl] at hl
      show cs.size = 21
      simpa using hl
    · obtain ⟨c, k1, k2, k3⟩ := bases_cells h4 j v hj
      exact ⟨c, by simpa using k1, k2, k3 _⟩
  · obtain rfl := Option.some.inj hl
    obtain ⟨g, t, cs, fuel, p, h1, h2, h3, h4⟩ := laid_at (n := "internal/strconv.uint64pow10") (d := Rows.laid_internal_strconv_uint64pow10) hv (by simp [Rows.typesLongRow])
    obtain rfl : g = 2 := (Option.some.inj (h1.symm.trans (show Tryd.prog.globalNamed "internal/strconv.uint64pow10" = some 2 by kernel_rfl)))
    obtain rfl : t = 104 := (Option.some.inj (h2.symm.trans (show (Tryd.prog.globals[2]?).map (·.type) = some 104 by kernel_rfl)))
    have hcs : cs.toList = powZ.map fun z => Value.int .u64 z :=
      Lib.cells_of_tab (zs := powZ) Tryd.underlying104 (show Tryd.prog.underlying 82 = some (.int .u64) by kernel_rfl) (by kernel_rfl) (by kernel_rfl) (show DataW.trod (fun _ => ()) Tryd.prog W 0 (fun _ => true) false fuel 104 cs.toList = some (Lib.tabData .u64 powZ, p) from h4)
    refine glob_row h1 h3 ?_ (by decide) fun j v hj => ?_
    · have := congrArg List.length hcs
      simpa [powZ, powG] using this
    · obtain ⟨z, hz, rfl⟩ := pow_at j v hj
      refine ⟨.int .u64 z, ?_, rfl, .int _ _⟩
      have : cs[j]? = cs.toList[j]? := by simp
      rw [this, hcs, List.getElem?_map, hz]
      rfl
  · cases hl

theorem table_ok : TableOK Tryd.prog G TD := by
  intro f i h
  unfold TD at h
  split at h
  · obtain rfl := Option.some.inj h; exact ⟨Tryd.f3, [], Tryd.func3, c3⟩
  · obtain rfl := Option.some.inj h; exact ⟨Tryd.f5, [], Tryd.func5, c5⟩
  · obtain rfl := Option.some.inj h; exact ⟨Tryd.f6, [], Tryd.func6, c17⟩
  · obtain rfl := Option.some.inj h; exact ⟨Tryd.f7, [], Tryd.func7, c28⟩
  · obtain rfl := Option.some.inj h; exact ⟨Tryd.f8, [], Tryd.func8, c7⟩
  · obtain rfl := Option.some.inj h; exact ⟨Tryd.f9, [], Tryd.func9, c14⟩
  · obtain rfl := Option.some.inj h; exact ⟨Tryd.f10, [], Tryd.func10, c15⟩
  · obtain rfl := Option.some.inj h; exact ⟨Tryd.f11, [], Tryd.func11, c12⟩
  · obtain rfl := Option.some.inj h; exact ⟨Tryd.f12, [], Tryd.func12, c26⟩
  · obtain rfl := Option.some.inj h; exact itoa_ok
  · obtain rfl := Option.some.inj h; exact trim_ok
  · obtain rfl := Option.some.inj h; exact ⟨Tryd.f15, [], Tryd.func15, c32⟩
  · obtain rfl := Option.some.inj h; exact ⟨Tryd.f17, [], Tryd.func17, c21⟩
  · obtain rfl := Option.some.inj h; exact ⟨Tryd.f18, [], Tryd.func18, c10⟩
  · obtain rfl := Option.some.inj h; exact ⟨Tryd.f19, [], Tryd.func19, c24⟩
  · obtain rfl := Option.some.inj h; exact ⟨Tryd.f20, [], Tryd.func20, c27⟩
  · obtain rfl := Option.some.inj h; exact ⟨Tryd.f21, [], Tryd.func21, c8⟩
  · obtain rfl := Option.some.inj h; exact rep_ok
  · obtain rfl := Option.some.inj h; exact ⟨Tryd.f23, [], Tryd.func23, c38⟩
  · obtain rfl := Option.some.inj h; exact ⟨Tryd.f35, [], Tryd.func35, c37⟩
  · cases h
section
variable {H : Type} {enc : TypeId × Value → H} {W : World} {base : Nat} {sp : Nat → Bool} {held : Bool}
theorem open_raw {r : Reach} {b0 : Nat} {v : Value} {d : DataW H} {p : List MemPlace} (hv : Value.okWide Tryd.prog W r b0 38 v) (h : DataW.Trod enc Tryd.prog W base sp held 38 v d p) :
    ∃ (c n : Int) (s : ByteArray) (b : Bool), v = .agg #[.int .i64 c, .int .i64 n, .string s, .bool b] ∧ d = .agg [.lit (.int .i64 c), .lit (.int .i64 n), .lit (.string s.data.toList), .lit (.bool b)] ∧ p = [] ∧
      (Lit.int .i64 c).wf = true ∧ (Lit.int .i64 n).wf = true ∧ s.size ≤ maxLen := by
  obtain ⟨v0, v1, v2, v3, y0, y1, y2, y3, n, rfl, rfl, rfl, h0, h1, h2, h3⟩ := open_agg4 Tryd.underlying38 (by kernel_rfl) (by kernel_rfl) hv h
  obtain ⟨c, e0, rfl, w0⟩ := DataW.trod_int Tryd.underlying3 h0
  obtain ⟨n, e1, rfl, w1⟩ := DataW.trod_int Tryd.underlying2 h1
  obtain ⟨s, e2, rfl, w2⟩ := DataW.trod_string Tryd.underlying9 h2
  obtain ⟨b, e3, rfl⟩ := DataW.trod_bool Tryd.underlying4 h3
  simp only [List.cons.injEq, and_true] at e0 e1 e2 e3
  subst e0 e1 e2 e3
  exact ⟨c, n, s, b, rfl, rfl, rfl, w0, w1, w2⟩
theorem shut_raw {c n : Int} {s : ByteArray} {b : Bool} (w0 : (Lit.int .i64 c).wf = true) (w1 : (Lit.int .i64 n).wf = true) (w2 : s.size ≤ maxLen) :
    DataW.Trod enc Tryd.prog W base sp held 38 (.agg #[.int .i64 c, .int .i64 n, .string s, .bool b]) (.agg [.lit (.int .i64 c), .lit (.int .i64 n), .lit (.string s.data.toList), .lit (.bool b)]) [] :=
  shut_agg4 Tryd.underlying38 (by kernel_rfl) (by kernel_rfl) (field_of_Trod (shut_int Tryd.underlying3 w0) rfl) (field_of_Trod (shut_int Tryd.underlying2 w1) rfl) (field_of_Trod (shut_string Tryd.underlying9 w2) rfl) (field_of_Trod (shut_bool Tryd.underlying4 _) rfl)
end

theorem valOf_form (c n : Int) (s : List UInt8) (b : Bool) (h1 : -9223372036854775808 ≤ n) (h2 : n ≤ 9223372036854775807) :
    ∃ (k m : Int) (x : List UInt8) (t : Bool), valOf c n s b = val k m x t ∧ isVal k m x t ∧ -9223372036854775808 ≤ m ∧ m ≤ 9223372036854775807 ∧ x.length ≤ s.length := by
  unfold valOf
  split
  · exact ⟨1, n, [], false, rfl, .inr (.inl ⟨rfl, rfl, rfl⟩), h1, h2, by simp⟩
  · split
    · exact ⟨2, 0, s, false, rfl, .inr (.inr (.inl ⟨rfl, rfl, rfl⟩)), by omega, by omega, Nat.le_refl _⟩
    · split
      · exact ⟨3, 0, [], b, rfl, .inr (.inr (.inr ⟨rfl, rfl, rfl⟩)), by omega, by omega, by simp⟩
      · exact ⟨0, 0, [], false, rfl, .inl ⟨rfl, rfl, rfl, rfl⟩, by omega, by omega, by simp⟩

end Go.Ab.Long
