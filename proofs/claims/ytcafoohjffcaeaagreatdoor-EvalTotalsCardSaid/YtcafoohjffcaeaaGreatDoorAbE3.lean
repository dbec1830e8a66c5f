/- A table of functions: each row is the model's own code, turned when it is asked for. -/
import Derived.Test.YtcafoohjffcaeaaGreatDoorAbE2
set_option linter.unusedSectionVars false
set_option linter.unusedSimpArgs false
set_option linter.unusedVariables false
set_option maxRecDepth 100000
namespace Go.Ab
variable [Marks]
open Go Go.Ab
/-- a function's row; rcv: those that recover; nofz: those that write into what they are handed -/
def rowOf (P : Program) (G : Globs) (rcv nofz : List Nat) (f : Nat) : Option FImpl := match P.funcs[f]? with
  | some fn => match rcv.contains f with
    | true => match cRec P G [] fn with
      | some rf => some (.rcv rf)
      | none => none
    | false => match cFunc P G [] fn with
      | some af => some (.code af (!nofz.contains f))
      | none => none
  | none => none
theorem rowOf_ok {P : Program} {G : Globs} {rcv nofz : List Nat} : TableOK P G (rowOf P G rcv nofz) := by
  intro f i h
  unfold rowOf at h
  split at h
  · rename_i fn hf
    split at h
    · split at h
      · rename_i rf hr
        obtain rfl := Option.some.inj h
        exact ⟨fn, [], hf, hr⟩
      · cases h
    · split at h
      · rename_i af hc
        obtain rfl := Option.some.inj h
        exact ⟨fn, [], hf, hc⟩
      · cases h
  · cases h
/-- a table whose other rows stand ahead -/
def ahead (E T : Table) : Table := fun f => match E f with
  | some i => some i
  | none => T f
theorem ahead_ok {P : Program} {G : Globs} {E T : Table} (hE : TableOK P G E) (hT : TableOK P G T) : TableOK P G (ahead E T) := by
  intro f i h
  unfold ahead at h
  split at h
  · rename_i j hj
    obtain rfl := Option.some.inj h
    exact hE f _ hj
  · exact hT f i h

end Go.Ab
