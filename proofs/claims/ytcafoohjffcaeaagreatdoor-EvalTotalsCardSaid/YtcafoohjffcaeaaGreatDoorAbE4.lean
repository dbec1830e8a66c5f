/- Arguments of structs and slices in a closing text: opened, and read again when the call has ended. -/
import Derived.Test.YtcafoohjffcaeaaGreatDoorAbE3
import Derived.Carry
set_option linter.unusedSectionVars false
set_option linter.unusedSimpArgs false
set_option linter.unusedVariables false
set_option maxRecDepth 100000
namespace Go.Ab
variable [Marks]
open Go Go.Ab Go.ChangeShapes Go.WideShapes Go.RowKit Go.Deep
section
variable {H : Type} {enc : TypeId × Value → H} {P : Program} {W W' : World} {base b : Nat} {spare : Nat → Bool} {held : Bool} {t : TypeId} {v : Value} {d : DataW H} {ps : List MemPlace} {r : Reach}
theorem open_structP {T : List TypeId} {fs : Array Field} (hT : closedB P T = true) (ht : t ∈ T) (hu : P.underlying t = some (.struct fs)) (hv : Value.okWide P W r b t v) (h : DataW.Trod enc P W base spare held t v d ps) :
    ∃ cs vs, v = .agg cs ∧ Rep (Ex W) W (fun _ _ => none) (.p (.agg vs)) v ∧ OfT P t vs := by
  unfold Value.okWide at hv
  rw [hu] at hv
  obtain ⟨cs, rfl, _, _⟩ := hv
  obtain ⟨n, hn⟩ := h
  obtain ⟨vs, h1, h2, h3, _⟩ := trod_rep hT n t cs.toList _ ht hn
  exact ⟨cs, vs, rfl, .p (.agg h1 h2), h3⟩
theorem open_sliceP {T : List TypeId} {e : TypeId} (hT : closedB P T = true) (ht : t ∈ T) (hu : P.underlying t = some (.slice e)) (hv : Value.okWide P W r b t v) (h : DataW.Trod enc P W base spare held t v d ps) :
    ∃ u, Rep (Ex W) W (fun _ _ => none) (.p u) v ∧ OfT P t [u] := by
  obtain ⟨n, hn⟩ := h
  obtain ⟨vs, h1, h2, h3, _⟩ := trod_rep hT n t _ _ ht hn
  obtain ⟨rows, rfl, _, _, _⟩ := h3.of_sl hu
  have hvc : ∃ c, v.cells.toList = [c] ∧ v = c := by
    unfold Value.okWide at hv
    rw [hu] at hv
    simp only [Cell.okWide, Cell.ok, hu] at hv
    cases v <;> first | exact ⟨_, rfl, rfl⟩ | (simp at hv)
  obtain ⟨c, hc, rfl⟩ := hvc
  rw [hc] at h1
  cases h1 with
  | cons h1 _ => exact ⟨_, .p h1, h3⟩
theorem trod_kept (hl : laidOutB P = true) (hr : P.readableRec t = true) (hrow : t < P.types.size) (h : DataW.Trod enc P W 0 (fun _ => true) true t v d ps) (hk : Kept W W') (hlt : ∀ x ∈ ps, x.block < W.heap.size) {sp : Nat → Bool} (hs : ∀ p ∈ ps, sp p.block = true) :
    DataW.Trod enc P W' 0 sp true t v d ps :=
  WideElems.Trod_stays hl hr hrow h (fun x hx => hk.below.same (hlt x hx)) hs
end
end Go.Ab
