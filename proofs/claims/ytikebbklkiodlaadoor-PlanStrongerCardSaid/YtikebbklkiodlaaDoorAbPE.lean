/- PlanStronger: the run. -/
import Derived.Test.YtikebbklkiodlaaDoorAbPB
set_option linter.unusedSectionVars false
set_option linter.unusedSimpArgs false
set_option linter.unusedVariables false
set_option maxRecDepth 1000000
namespace Go.Ab.Plan
open Go Go.Ab Go.Proofs
section
variable (l : List (List UInt8))
theorem stronger (h : LitsOK 0 0) (a b c : Bool) : isT ((@cAt (mkM 0 l 0 h) TP 400 40).1 4 [.p (.agg [.bool a, .ssym 0, .ssym 1, .bool b]), .p (.bool c)] []) = true := by
  cases a <;> cases b <;> cases c <;> kernel_rfl
end
end Go.Ab.Plan
