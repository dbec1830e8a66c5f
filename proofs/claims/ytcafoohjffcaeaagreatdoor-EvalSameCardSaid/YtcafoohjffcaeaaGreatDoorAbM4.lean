/- The law EvalSame: runs, a comparison and the turned one, of texts and truths. -/
import Derived.Test.YtcafoohjffcaeaaGreatDoorAbM2
import Derived.KernelRfl
set_option linter.unusedSectionVars false
set_option linter.unusedSimpArgs false
set_option linter.unusedVariables false
set_option maxRecDepth 1000000
namespace Go.Ab.Same
open Go Go.Ab
section
variable (ns : Nat → Int) (ss : Nat → List UInt8) (o1 o2 : Ordering)
theorem f3_text (h : MarksOK ns true o1 o2) (c0 c1 c2 c3 : PV) (B : Shape) : sameB (marksOf ns ss true o1 o2 h) true o1 o2 (rowsG .text B [c0, c1, c2, c3]) forms3 = true := by
  cases B with
  | text => cases o1 <;> kernel_rfl
  | _ => kernel_rfl
theorem f3_yes (h : MarksOK ns false o1 o2) (c0 c1 c2 c3 : PV) (B : Shape) : sameB (marksOf ns ss false o1 o2 h) false o1 o2 (rowsG .yes B [c0, c1, c2, c3]) forms3 = true := by
  cases B <;> kernel_rfl
theorem f3_no (h : MarksOK ns false o1 o2) (c0 c1 c2 c3 : PV) (B : Shape) : sameB (marksOf ns ss false o1 o2 h) false o1 o2 (rowsG .no B [c0, c1, c2, c3]) forms3 = true := by
  cases B <;> kernel_rfl
end
end Go.Ab.Same
