/- The law EvalSame: runs, BETWEEN and IN of numbers. -/
import Derived.Test.YtcafoohjffcaeaaGreatDoorAbM2
import Derived.KernelRfl
set_option linter.unusedSectionVars false
set_option linter.unusedSimpArgs false
set_option linter.unusedVariables false
set_option maxRecDepth 1000000
namespace Go.Ab.Same
open Go Go.Ab
section
variable (ns : Nat → Int) (ss : Nat → List UInt8) (o1 o2 : Ordering)
theorem fC_num_null (h : MarksOK ns false o1 o2) (C : Shape) (ha : alike .num C = true) : sameB (marksOf ns ss false o1 o2 h) false o1 o2 (rowsG .num .null (cellsOf (valS 2 C))) formsC = true := by
  cases C with
  | null => kernel_rfl
  | num => cases o2 <;> kernel_rfl
  | text => cases ha
  | yes => cases ha
  | no => cases ha
theorem fC_num_num (h : MarksOK ns false o1 o2) (C : Shape) (ha : alike .num C = true) : sameB (marksOf ns ss false o1 o2 h) false o1 o2 (rowsG .num .num (cellsOf (valS 2 C))) formsC = true := by
  cases C with
  | null => cases o1 <;> kernel_rfl
  | num => cases o1 <;> cases o2 <;> kernel_rfl
  | text => cases ha
  | yes => cases ha
  | no => cases ha
end
end Go.Ab.Same
