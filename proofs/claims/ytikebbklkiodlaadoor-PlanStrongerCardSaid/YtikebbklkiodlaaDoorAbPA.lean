/- The plan's laws: the table of functions, the live question. -/
import Derived.Test.YtikebbklkiodlaaDoorAbE4
import Derived.KernelRfl
import Derived.Test.YtikebbklkiodlaaDoorProg
set_option linter.unusedSectionVars false
set_option linter.unusedSimpArgs false
set_option linter.unusedVariables false
set_option maxRecDepth 1000000
namespace Go.Ab.Plan
open Go Go.Ab Go.Proofs
def basesG : List PV := [.str [], .int .i64 0, .int .i64 0, .str [115, 109, 97, 108, 108, 105, 110, 116], .int .i64 1, .int .i64 16, .str [105, 110, 116, 101, 103, 101, 114], .int .i64 1, .int .i64 32,
  .str [98, 105, 103, 105, 110, 116], .int .i64 1, .int .i64 64, .str [99, 104, 97, 114], .int .i64 2, .int .i64 0, .str [118, 97, 114, 99, 104, 97, 114], .int .i64 2, .int .i64 0, .str [98, 111, 111, 108, 101, 97, 110], .int .i64 3, .int .i64 0]
def G : Globs := fun x => if x = 0 then some basesG else none
section
variable [Marks]
noncomputable def TP : Table := ahead (rowIm Go.Proofs.Tryd.prog G [11]) (rowOf Go.Proofs.Tryd.prog G [] [])
end
def isT : Option (CRes × Heap) → Bool
  | some (.ret (.p (.bool true)), _) => true
  | _ => false
def hasBad : ACode → Bool
  | .bad => true
  | .seq a b => hasBad a || hasBad b
  | .cond _ a b => hasBad a || hasBad b
  | .block _ b => hasBad b
  | .loop _ b => hasBad b
  | .rng _ a b _ _ => hasBad a || hasBad b
  | _ => false
def stat (T : Table) (f : Nat) : Nat := match T f with
  | some (.code af _) => if hasBad af.body then 1 else 0
  | some _ => 3
  | none => 2
end Go.Ab.Plan
