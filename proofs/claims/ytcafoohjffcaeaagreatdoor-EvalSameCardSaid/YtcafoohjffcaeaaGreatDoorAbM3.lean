/- The law EvalSame: runs, a comparison and the turned one, of null and numbers. -/
import Derived.Test.YtcafoohjffcaeaaGreatDoorAbM2
import Derived.KernelRfl
set_option linter.unusedSectionVars false
set_option linter.unusedSimpArgs false
set_option linter.unusedVariables false
set_option maxRecDepth 1000000
namespace Go.Ab.Same
open Go Go.Ab
section
variable (ns : Nat → Int) (ss : Nat → List UInt8) (o1 o2 : Ordering)
theorem f3_null (h : MarksOK ns false o1 o2) (c0 c1 c2 c3 : PV) (B : Shape) : sameB (marksOf ns ss false o1 o2 h) false o1 o2 (rowsG .null B [c0, c1, c2, c3]) forms3 = true := by
  cases B <;> kernel_rfl
theorem f3_num (h : MarksOK ns false o1 o2) (c0 c1 c2 c3 : PV) (B : Shape) : sameB (marksOf ns ss false o1 o2 h) false o1 o2 (rowsG .num B [c0, c1, c2, c3]) forms3 = true := by
  cases B with
  | num => cases o1 <;> kernel_rfl
  | _ => kernel_rfl
end
end Go.Ab.Same
