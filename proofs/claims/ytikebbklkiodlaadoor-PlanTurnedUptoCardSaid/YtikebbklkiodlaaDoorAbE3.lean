/- A table of functions: each row is the model's own code, turned when it is asked for. -/
import Derived.Test.YtikebbklkiodlaaDoorAbE1
import Derived.Carry
set_option linter.unusedSectionVars false
set_option linter.unusedSimpArgs false
set_option linter.unusedVariables false
set_option maxRecDepth 100000
namespace Go.Ab
variable [Marks]
open Go Go.Ab
/-- a function's row; rcv: those that recover; nofz: those that write into what they are handed -/
def rowOf (P : Program) (G : Globs) (rcv nofz : List Nat) (f : Nat) : Option FImpl := match Nat.beq f 4294967295 with
  | true => some .rnd
  | false => match P.funcs[f]? with
  | some fn => match rcv.contains f with
    | true => match cRec P G [] fn with
      | some rf => some (.rcv rf)
      | none => none
    | false => match cFunc P G [] fn with
      | some af => some (.code af (!nofz.contains f))
      | none => none
  | none => none
theorem rowOf_ok {P : Program} {G : Globs} {rcv nofz : List Nat} : TableOK P G (rowOf P G rcv nofz) := by
  intro f i h
  unfold rowOf at h
  split at h
  · rename_i hf
    obtain rfl := Option.some.inj h
    exact Nat.eq_of_beq_eq_true hf
  rename_i hne
  have hne : f ≠ 4294967295 := fun e => by subst e; cases hne
  split at h
  · rename_i fn hf
    split at h
    · split at h
      · rename_i rf hr
        obtain rfl := Option.some.inj h
        exact ⟨fn, [], hf, hr⟩
      · cases h
    · split at h
      · rename_i af hc
        obtain rfl := Option.some.inj h
        exact ⟨hne, fn, [], hf, hc⟩
      · cases h
  · cases h
/-- a function's row, where the slices that are made are not written -/
def rowIm (P : Program) (G : Globs) (l : List Nat) (f : Nat) : Option FImpl := match Nat.beq f 4294967295 || !l.contains f with
  | true => none
  | false => match P.funcs[f]? with
    | some fn => match cFunc P G [[4294967295]] fn with
      | some af => some (.code af true)
      | none => none
    | none => none
theorem rowIm_ok {P : Program} {G : Globs} {l : List Nat} : TableOK P G (rowIm P G l) := by
  intro f i h
  unfold rowIm at h
  split at h
  · cases h
  · rename_i hne
    have hne : f ≠ 4294967295 := fun e => by subst e; simp at hne
    split at h
    · rename_i fn hf
      split at h
      · rename_i af hc
        obtain rfl := Option.some.inj h
        exact ⟨hne, fn, _, hf, hc⟩
      · cases h
    · cases h
/-- a table whose other rows stand ahead -/
def ahead (E T : Table) : Table := fun f => match E f with
  | some i => some i
  | none => T f
theorem ahead_ok {P : Program} {G : Globs} {E T : Table} (hE : TableOK P G E) (hT : TableOK P G T) : TableOK P G (ahead E T) := by
  intro f i h
  unfold ahead at h
  split at h
  · rename_i j hj
    obtain rfl := Option.some.inj h
    exact hE f _ hj
  · exact hT f i h

/-- marks that know a program's rounds -/
abbrev marksOf (P : Program) (G : Globs) : Marks := { noMarks with rnd := RoundIs P G }
theorem marksOf_ok (P : Program) (G : Globs) : @RoundsOf (marksOf P G) P G := fun _ _ _ _ _ => Iff.rfl
end Go.Ab

/- Arguments of structs and slices in a closing text: opened, and read again when the call has ended. -/
set_option maxRecDepth 100000
namespace Go.Ab
variable [Marks]
open Go Go.Ab Go.ChangeShapes Go.WideShapes Go.RowKit Go.Deep
section
variable {H : Type} {enc : TypeId × Value → H} {P : Program} {W W' : World} {base b : Nat} {spare : Nat → Bool} {held : Bool} {t : TypeId} {v : Value} {d : DataW H} {ps : List MemPlace} {r : Reach}
theorem open_structP {T : List TypeId} {fs : Array Field} (hT : closedB P T = true) (ht : t ∈ T) (hu : P.underlying t = some (.struct fs)) (hv : Value.okWide P W r b t v) (h : DataW.Trod enc P W base spare held t v d ps) :
    ∃ cs vs, v = .agg cs ∧ Rep (Ex W) W (fun _ _ => none) (.p (.agg vs)) v ∧ OfT P t vs := by
  unfold Value.okWide at hv
  rw [hu] at hv
  obtain ⟨cs, rfl, _, _⟩ := hv
  obtain ⟨n, hn⟩ := h
  obtain ⟨vs, h1, h2, h3, _⟩ := trod_rep hT n t cs.toList _ ht hn
  exact ⟨cs, vs, rfl, .p (.agg h1 h2), h3⟩
theorem open_sliceP {T : List TypeId} {e : TypeId} (hT : closedB P T = true) (ht : t ∈ T) (hu : P.underlying t = some (.slice e)) (hv : Value.okWide P W r b t v) (h : DataW.Trod enc P W base spare held t v d ps) :
    ∃ u, Rep (Ex W) W (fun _ _ => none) (.p u) v ∧ OfT P t [u] := by
  obtain ⟨n, hn⟩ := h
  obtain ⟨vs, h1, h2, h3, _⟩ := trod_rep hT n t _ _ ht hn
  obtain ⟨rows, rfl, _, _, _⟩ := h3.of_sl hu
  have hvc : ∃ c, v.cells.toList = [c] ∧ v = c := by
    unfold Value.okWide at hv
    rw [hu] at hv
    simp only [Cell.okWide, Cell.ok, hu] at hv
    cases v <;> first | exact ⟨_, rfl, rfl⟩ | (simp at hv)
  obtain ⟨c, hc, rfl⟩ := hvc
  rw [hc] at h1
  cases h1 with
  | cons h1 _ => exact ⟨_, .p h1, h3⟩
theorem trod_kept (hl : laidOutB P = true) (hr : P.readableRec t = true) (hrow : t < P.types.size) (h : DataW.Trod enc P W 0 (fun _ => true) true t v d ps) (hk : Kept W W') (hlt : ∀ x ∈ ps, x.block < W.heap.size) {sp : Nat → Bool} (hs : ∀ p ∈ ps, sp p.block = true) :
    DataW.Trod enc P W' 0 sp true t v d ps :=
  WideElems.Trod_stays hl hr hrow h (fun x hx => hk.below.same (hlt x hx)) hs
end
end Go.Ab
