/- A table of functions: each row is the model's own code, turned when it is asked for. -/
import Derived.Test.YtikebbklkiodlaaDoorAbE2
set_option linter.unusedSectionVars false
set_option linter.unusedSimpArgs false
set_option linter.unusedVariables false
set_option maxRecDepth 100000
namespace Go.Ab
variable [Marks]
open Go Go.Ab
/-- a function's row; rcv: those that recover; nofz: those that write into what they are handed -/
def rowOf (P : Program) (G : Globs) (rcv nofz : List Nat) (f : Nat) : Option FImpl := match Nat.beq f 4294967295 with
  | true => some .rnd
  | false => match P.funcs[f]? with
  | some fn => match rcv.contains f with
    | true => match cRec P G [] fn with
      | some rf => some (.rcv rf)
      | none => none
    | false => match cFunc P G [] fn with
      | some af => some (.code af (!nofz.contains f))
      | none => none
  | none => none
theorem rowOf_ok {P : Program} {G : Globs} {rcv nofz : List Nat} : TableOK P G (rowOf P G rcv nofz) := by
  intro f i h
  unfold rowOf at h
  split at h
  · rename_i hf
    obtain rfl := Option.some.inj h
    exact Nat.eq_of_beq_eq_true hf
  rename_i hne
  have hne : f ≠ 4294967295 := fun e => by subst e; cases hne
  split at h
  · rename_i fn hf
    split at h
    · split at h
      · rename_i rf hr
        obtain rfl := Option.some.inj h
        exact ⟨fn, [], hf, hr⟩
      · cases h
    · split at h
      · rename_i af hc
        obtain rfl := Option.some.inj h
        exact ⟨hne, fn, [], hf, hc⟩
      · cases h
  · cases h
/-- a function's row, where the slices that are made are not written -/
def rowIm (P : Program) (G : Globs) (l : List Nat) (f : Nat) : Option FImpl := match Nat.beq f 4294967295 || !l.contains f with
  | true => none
  | false => match P.funcs[f]? with
    | some fn => match cFunc P G [[4294967295]] fn with
      | some af => some (.code af true)
      | none => none
    | none => none
theorem rowIm_ok {P : Program} {G : Globs} {l : List Nat} : TableOK P G (rowIm P G l) := by
  intro f i h
  unfold rowIm at h
  split at h
  · cases h
  · rename_i hne
    have hne : f ≠ 4294967295 := fun e => by subst e; simp at hne
    split at h
    · rename_i fn hf
      split at h
      · rename_i af hc
        obtain rfl := Option.some.inj h
        exact ⟨hne, fn, _, hf, hc⟩
      · cases h
    · cases h
/-- a table whose other rows stand ahead -/
def ahead (E T : Table) : Table := fun f => match E f with
  | some i => some i
  | none => T f
theorem ahead_ok {P : Program} {G : Globs} {E T : Table} (hE : TableOK P G E) (hT : TableOK P G T) : TableOK P G (ahead E T) := by
  intro f i h
  unfold ahead at h
  split at h
  · rename_i j hj
    obtain rfl := Option.some.inj h
    exact hE f _ hj
  · exact hT f i h

/-- marks that know a program's rounds -/
abbrev marksOf (P : Program) (G : Globs) : Marks := { noMarks with rnd := RoundIs P G }
theorem marksOf_ok (P : Program) (G : Globs) : @RoundsOf (marksOf P G) P G := fun _ _ _ _ _ => Iff.rfl
end Go.Ab
