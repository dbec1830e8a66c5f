/- The law TypesRanges: the table of types, and numbers' bits. -/
import Derived.Test.YtacjjncmbklplaaDoorAbR1
import Derived.Test.YtacjjncmbklplaaDoorRows
import Derived.Deep.Strs
import Derived.FnData
import Derived.OpenShut
set_option maxRecDepth 100000
namespace Go.Ab.Ranges
open Go Go.Ab Go.Proofs Go.Proofs.YtacjjncmbklplaaDoor Go.ChangeShapes Go.RowKit Go.Deep

theorem repCells_get {w : World} {b : Nat} : ∀ (ps : List PV) (o : Nat), (∀ (j : Nat) v, ps[j]? = some v → ∃ c, w.cell? ⟨b, o + j, none⟩ = some c ∧ one c = true ∧ RepP (Ex w) w v c) → RepCells (Ex w) w ps b o
  | [], o, _ => .nil b o
  | p :: r, o, h => by
    obtain ⟨c, h1, h2, h3⟩ := h 0 p rfl
    refine .cons ⟨c, h1⟩ h1 h2 h3 (repCells_get r (o + 1) fun j v hj => ?_)
    have := h (j + 1) v (by simpa using hj)
    rwa [show o + (j + 1) = o + 1 + j from by omega] at this

theorem three {α : Type} {l : List α} (h : l.length = 3) : ∃ a b c, l = [a, b, c] := by
  cases l with
  | nil => cases h
  | cons a l => cases l with
    | nil => cases h
    | cons b l => cases l with
      | nil => cases h
      | cons c l => cases l with
        | nil => exact ⟨a, b, c, rfl⟩
        | cons d l => simp at h

section
variable {H : Type} {enc : TypeId × Value → H} {w : World} {base : Nat} {sp : Nat → Bool} {held : Bool} {fuel : Nat}
theorem row_cells {cs : List Value} {s : List UInt8} {k b : Int} {p : List MemPlace} (h : DataW.trod enc Tryd.prog w base sp held fuel 52 cs = some (.agg [.lit (.string s), .lit (.int .i64 k), .lit (.int .i64 b)], p)) :
    ∃ s' : ByteArray, s'.data.toList = s ∧ cs = [.string s', .int .i64 k, .int .i64 b] := by
  obtain ⟨y0, y1, y2, n, hx, hl, h0, h1, h2⟩ := trod_struct3 (t := 52) (P := Tryd.prog) Tryd.underlying52 h
  have c52 : Tryd.prog.cellsOf 52 = 3 := by kernel_rfl
  rw [c52] at hl
  obtain ⟨a0, a1, a2, rfl⟩ := three hl
  have c9 : Tryd.prog.cellsOf 9 = 1 := by kernel_rfl
  have c27 : Tryd.prog.cellsOf 27 = 1 := by kernel_rfl
  have c3 : Tryd.prog.cellsOf 3 = 1 := by kernel_rfl
  obtain ⟨s', e0, r0, _⟩ := DataW.trod_string Tryd.underlying9 h0
  obtain ⟨k', e1, r1, _⟩ := DataW.trod_int Tryd.underlying27 h1
  obtain ⟨b', e2, r2, _⟩ := DataW.trod_int Tryd.underlying3 h2
  simp only [c9, c27, c3, List.drop_succ_cons, List.drop_zero, List.take_succ_cons, List.take_zero, List.cons.injEq, and_true] at e0 e1 e2
  subst e0 e1 e2
  rw [r0, r1, r2] at hx
  simp only [Prod.mk.injEq, DataW.agg.injEq, List.cons.injEq, DataW.lit.injEq, Lit.string.injEq, Lit.int.injEq, and_true, true_and] at hx
  obtain ⟨⟨h1, h2, h3⟩, _⟩ := hx
  exact ⟨s', h1.symm, by rw [h2, h3]⟩

theorem bases_cells {cs : List Value} {p : List MemPlace} (h : DataW.trod enc Tryd.prog w base sp held fuel 53 cs = some (Rows.laid_stile_types_bases, p)) :
    ∀ (j : Nat) v, basesG[j]? = some v → ∃ c, cs[j]? = some c ∧ one c = true ∧ ∀ S, RepP S w v c := by
  obtain ⟨xs, m, _, hx, hl, hlen, hel⟩ := DataW.trod_array (P := Tryd.prog) Tryd.underlying53 h
  have c53 : Tryd.prog.cellsOf 53 = 21 := by kernel_rfl
  have c52 : Tryd.prog.cellsOf 52 = 3 := by kernel_rfl
  rw [c52] at hel
  simp only [Prod.mk.injEq] at hx
  have hmap : (xs.map (·.1)) = _ := (DataW.agg.inj hx.1).symm
  have rowi : ∀ (i : Nat) (s : List UInt8) (k b : Int), i < 7 → (xs.map (·.1))[i]? = some (.agg [.lit (.string s), .lit (.int .i64 k), .lit (.int .i64 b)]) →
      ∃ s' : ByteArray, s'.data.toList = s ∧ cs[3 * i]? = some (.string s') ∧ cs[3 * i + 1]? = some (.int .i64 k) ∧ cs[3 * i + 2]? = some (.int .i64 b) := by
    intro i s k b hi hd
    have he := hel i hi
    rw [List.getElem?_map, Option.map_eq_some_iff] at hd
    obtain ⟨⟨d, q⟩, h1, h2⟩ := hd
    simp only at h2
    subst h2
    rw [h1] at he
    obtain ⟨s', hs, hc⟩ := row_cells he
    refine ⟨s', hs, ?_, ?_, ?_⟩
    all_goals
      have g := fun (j : Nat) => congrArg (fun l : List Value => l[j]?) hc
      first
        | (have g0 := g 0; simpa [List.getElem?_take, List.getElem?_drop, Nat.mul_comm] using g0)
        | (have g1 := g 1; simpa [List.getElem?_take, List.getElem?_drop, Nat.mul_comm] using g1)
        | (have g2 := g 2; simpa [List.getElem?_take, List.getElem?_drop, Nat.mul_comm] using g2)
  rw [hmap] at rowi
  obtain ⟨s0, t0, a0, b0, d0⟩ := rowi 0 _ _ _ (by omega) rfl
  obtain ⟨s1, t1, a1, b1, d1⟩ := rowi 1 _ _ _ (by omega) rfl
  obtain ⟨s2, t2, a2, b2, d2⟩ := rowi 2 _ _ _ (by omega) rfl
  obtain ⟨s3, t3, a3, b3, d3⟩ := rowi 3 _ _ _ (by omega) rfl
  obtain ⟨s4, t4, a4, b4, d4⟩ := rowi 4 _ _ _ (by omega) rfl
  obtain ⟨s5, t5, a5, b5, d5⟩ := rowi 5 _ _ _ (by omega) rfl
  obtain ⟨s6, t6, a6, b6, d6⟩ := rowi 6 _ _ _ (by omega) rfl
  intro j v hv
  rcases j with _ | _ | _ | _ | _ | _ | _ | _ | _ | _ | _ | _ | _ | _ | _ | _ | _ | _ | _ | _ | _ | j
  case succ.succ.succ.succ.succ.succ.succ.succ.succ.succ.succ.succ.succ.succ.succ.succ.succ.succ.succ.succ.succ => exact absurd hv (by simp [basesG, row])
  all_goals
    simp only [basesG, row] at hv
    obtain rfl := Option.some.inj hv
    first
      | exact ⟨_, a0, rfl, fun _ => .str t0⟩ | exact ⟨_, b0, rfl, fun _ => .int _ _⟩ | exact ⟨_, d0, rfl, fun _ => .int _ _⟩
      | exact ⟨_, a1, rfl, fun _ => .str t1⟩ | exact ⟨_, b1, rfl, fun _ => .int _ _⟩ | exact ⟨_, d1, rfl, fun _ => .int _ _⟩
      | exact ⟨_, a2, rfl, fun _ => .str t2⟩ | exact ⟨_, b2, rfl, fun _ => .int _ _⟩ | exact ⟨_, d2, rfl, fun _ => .int _ _⟩
      | exact ⟨_, a3, rfl, fun _ => .str t3⟩ | exact ⟨_, b3, rfl, fun _ => .int _ _⟩ | exact ⟨_, d3, rfl, fun _ => .int _ _⟩
      | exact ⟨_, a4, rfl, fun _ => .str t4⟩ | exact ⟨_, b4, rfl, fun _ => .int _ _⟩ | exact ⟨_, d4, rfl, fun _ => .int _ _⟩
      | exact ⟨_, a5, rfl, fun _ => .str t5⟩ | exact ⟨_, b5, rfl, fun _ => .int _ _⟩ | exact ⟨_, d5, rfl, fun _ => .int _ _⟩
      | exact ⟨_, a6, rfl, fun _ => .str t6⟩ | exact ⟨_, b6, rfl, fun _ => .int _ _⟩ | exact ⟨_, d6, rfl, fun _ => .int _ _⟩
end

end Go.Ab.Ranges
