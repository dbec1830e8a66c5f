/- The law EvalSame: runs, BETWEEN and IN of texts. -/
import Derived.Test.YtcafoohjffcaeaaGreatDoorAbM2
import Derived.KernelRfl
set_option linter.unusedSectionVars false
set_option linter.unusedSimpArgs false
set_option linter.unusedVariables false
set_option maxRecDepth 1000000
namespace Go.Ab.Same
open Go Go.Ab
section
variable (ns : Nat → Int) (ss : Nat → List UInt8) (o1 o2 : Ordering)
theorem fC_text_null (h : MarksOK ns true o1 o2) (C : Shape) (ha : alike .text C = true) : sameB (marksOf ns ss true o1 o2 h) true o1 o2 (rowsG .text .null (cellsOf (valS 2 C))) formsC = true := by
  cases C with
  | null => kernel_rfl
  | num => cases ha
  | text => cases o2 <;> kernel_rfl
  | yes => cases ha
  | no => cases ha
theorem fC_text_text (h : MarksOK ns true o1 o2) (C : Shape) (ha : alike .text C = true) : sameB (marksOf ns ss true o1 o2 h) true o1 o2 (rowsG .text .text (cellsOf (valS 2 C))) formsC = true := by
  cases C with
  | null => cases o1 <;> kernel_rfl
  | num => cases ha
  | text => cases o1 <;> cases o2 <;> kernel_rfl
  | yes => cases ha
  | no => cases ha
end
end Go.Ab.Same
