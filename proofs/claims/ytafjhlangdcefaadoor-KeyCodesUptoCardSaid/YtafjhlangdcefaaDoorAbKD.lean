/- The laws of keys: arguments of a caller: raw values, and the library's variable. -/
import Derived.Test.YtafjhlangdcefaaDoorAbKC
import Derived.Test.YtafjhlangdcefaaDoorAbE6
import Derived.Shelf.Vars
import Derived.Test.YtafjhlangdcefaaDoorCards
import Derived.Test.YtafjhlangdcefaaDoorTie
set_option linter.unusedSectionVars false
set_option linter.unusedSimpArgs false
set_option linter.unusedVariables false
set_option maxRecDepth 1000000
namespace Go.Ab.Key
open Go Go.Ab Go.Proofs Go.Proofs.YtafjhlangdcefaaDoor Go.ChangeShapes Go.WideShapes Go.RowKit
theorem glob_ok {W : World} (h : W.ShapedOpen Tryd.prog) : ∃ m, GlobOK (Ex W) W (G 0 m) := by
  obtain ⟨m, hm⟩ := cell_of_shapedOpen_int (P := Tryd.prog) (g := 0) (t := 3) (zero := #[.int .i64 0]) (k := .i64) h (by decide +kernel) (by kernel_rfl) rfl (by kernel_rfl) (by kernel_rfl) (by kernel_rfl)
  obtain ⟨cs, hh, hs, _⟩ := h.1 0 #[.int .i64 0] 3 (by decide +kernel) (by kernel_rfl)
  refine ⟨m, fun g l hl => ?_⟩
  unfold G at hl
  split at hl
  · rename_i hg
    subst hg
    obtain rfl := Option.some.inj hl
    refine ⟨.cons (ex_of hm) hm rfl (.int _ _) (.nil _ _), ?_, ?_⟩
    · exact (Array.getElem?_eq_some_iff.1 hh).1
    · have hs' : cs.size = 1 := hs
      simp [World.cell?, hh, hs']
  · cases hl
theorem bulk_ok {H : Type} : BulkOK (Rows.uptoBulk (H := H)) where
  str l := by simp [Rows.uptoBulk]
  sl es rs := by
    have : ∀ ds : List (DataW H), (ds.map Rows.uptoBulk).sum = Rows.uptoBulkAll ds := by
      intro ds
      induction ds with
      | nil => simp [Rows.uptoBulkAll]
      | cons d r ih => simp [Rows.uptoBulkAll, ih]
    rw [this]
    simp only [Rows.uptoBulk]
    omega
  agg ps := by
    have : ∀ ds : List (DataW H), (ds.map Rows.uptoBulk).sum = Rows.uptoBulkAll ds := by
      intro ds
      induction ds with
      | nil => simp [Rows.uptoBulkAll]
      | cons d r ih => simp [Rows.uptoBulkAll, ih]
    rw [this]
    simp only [Rows.uptoBulk]
    omega
theorem wf_range {n : Int} (h : (Lit.int .i64 n).wf = true) : -9223372036854775808 ≤ n ∧ n ≤ 9223372036854775807 := by
  have h1 : IntKind.i64.min = -9223372036854775808 := rfl
  have h2 : IntKind.i64.max = 9223372036854775807 := rfl
  simp [Lit.wf] at h
  omega
theorem raw_of {ps : List PV} (h : OfT Tryd.prog 41 ps) : ∃ r : Raw, ps = r.cells ∧ inR r.k ∧ inR r.n := by
  obtain ⟨p0, p1, p2, p3, rfl, h0, h1, h2, h3⟩ := h.of_struct4 Tryd.underlying41
  obtain ⟨k, rfl, hk⟩ := h0.of_int Tryd.underlying3
  obtain ⟨n, rfl, hn⟩ := h1.of_int Tryd.underlying2
  obtain ⟨s, rfl, _⟩ := h2.of_str Tryd.underlying9
  obtain ⟨b, rfl⟩ := h3.of_bool Tryd.underlying4
  exact ⟨⟨k, n, s, b⟩, rfl, wf_range hk, wf_range hn⟩
theorem raws_of : ∀ (rows : List (List PV)), (∀ r ∈ rows, OfT Tryd.prog 41 r) → ∃ l : List Raw, rows.flatten = raws l ∧ rows.length = l.length ∧ ∀ r ∈ l, inR r.k ∧ inR r.n
  | [], _ => ⟨[], rfl, rfl, fun r h => by simp at h⟩
  | p :: rows, h => by
    obtain ⟨r, rfl, hk, hn⟩ := raw_of (h p (by simp))
    obtain ⟨l, h1, h2, h3⟩ := raws_of rows (fun q hq => h q (by simp [hq]))
    refine ⟨r :: l, by simp [raws, h1], by simp [h2], fun q hq => ?_⟩
    rcases List.mem_cons.1 hq with rfl | hq
    · exact ⟨hk, hn⟩
    · exact h3 q hq
/-- a slice of raw values -/
theorem slice_of {u : PV} (h : OfT Tryd.prog 22 [u]) : ∃ l : List Raw, u = .vsl (raws l) l.length ∧ ∀ r ∈ l, inR r.k ∧ inR r.n := by
  obtain ⟨rows, e, h1, _, _⟩ := h.of_sl Tryd.underlying22
  obtain ⟨l, e1, e2, h3⟩ := raws_of rows h1
  simp only [List.cons.injEq, and_true] at e
  exact ⟨l, by rw [e, e1, e2], h3⟩
theorem szL_raws : ∀ l : List Raw, szL (raws l) = (l.map fun r => r.s.length).sum
  | [] => rfl
  | r :: l => by
    have ih := szL_raws l
    simp only [raws, List.map_cons, List.flatten_cons, szL_app, List.sum_cons] at *
    rw [ih]
    simp [Raw.cells, rawP, szL, szP]
theorem wt_raw (r : Raw) : wt r.v ≤ 2 * r.s.length + 9 := by
  unfold Raw.v rawV
  split
  · simp [wt]
  · split
    · simp [wt]
    · split <;> simp [wt]
theorem wts_raws (l : List Raw) : wts (l.map Raw.v) ≤ 2 * (l.map fun r => r.s.length).sum + 9 * l.length := by
  induction l with
  | nil => exact Nat.le_refl _
  | cons r l ih =>
    have := wt_raw r
    simp only [wts, List.map_cons, List.sum_cons, List.length_cons] at *
    omega
theorem sum_take (l : List Raw) (n : Nat) : ((l.take n).map fun r => r.s.length).sum ≤ (l.map fun r => r.s.length).sum := by
  have h1 := congrArg (fun l : List Raw => (l.map fun r => r.s.length).sum) (List.take_append_drop n l)
  simp only [List.map_append, List.sum_append] at h1
  omega
/-- a row's code is short -/
theorem wts_row {l : List Raw} (h : szL (raws l) ≤ 1048576) : wts (rowOf' l) ≤ 16777216 := by
  rw [szL_raws] at h
  have h1 := wts_raws (l.take 40)
  have h2 := sum_take l 40
  have h3 : (l.take 40).length ≤ 40 := by simp; omega
  unfold rowOf'
  omega
theorem ok_row {l : List Raw} (h : ∀ r ∈ l, inR r.k ∧ inR r.n) : ∀ v ∈ rowOf' l, v.ok := by
  intro v hv
  unfold rowOf' at hv
  obtain ⟨r, hr, rfl⟩ := List.mem_map.1 hv
  have := (h r (List.mem_of_mem_take hr)).2
  unfold Raw.v rawV
  split
  · exact this
  · split
    · trivial
    · split <;> trivial
theorem closed : closedB Tryd.prog [22, 41, 9, 2, 3, 4] = true := by kernel_rfl
theorem laidOut : laidOutB Tryd.prog = true := by kernel_rfl
theorem own : ownKnob Tryd.prog.godebug = none := by kernel_rfl
theorem table_ok {m : Int} : TableOK Tryd.prog (G 0 m) (TE (G 0 m)) := by
  refine ahead_ok ?_ rowOf_ok
  intro f i h
  unfold TX at h
  split at h
  · obtain rfl := Option.some.inj h; exact repl_ok m
  · obtain rfl := Option.some.inj h; exact trim_ok
  · obtain rfl := Option.some.inj h; exact copy_ok
  · cases h
end Go.Ab.Key
