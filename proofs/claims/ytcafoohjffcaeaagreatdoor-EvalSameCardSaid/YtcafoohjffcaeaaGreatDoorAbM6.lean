/- The law EvalSame: runs, BETWEEN and IN of null. -/
import Derived.Test.YtcafoohjffcaeaaGreatDoorAbM2
import Derived.KernelRfl
set_option linter.unusedSectionVars false
set_option linter.unusedSimpArgs false
set_option linter.unusedVariables false
set_option maxRecDepth 1000000
namespace Go.Ab.Same
open Go Go.Ab
section
variable (ns : Nat → Int) (ss : Nat → List UInt8) (o1 o2 : Ordering)
theorem fC_null_null (h : MarksOK ns false o1 o2) (C : Shape) (ha : alike .null C = true) : sameB (marksOf ns ss false o1 o2 h) false o1 o2 (rowsG .null .null (cellsOf (valS 2 C))) formsC = true := by
  cases C with
  | null => kernel_rfl
  | num => kernel_rfl
  | text => kernel_rfl
  | yes => kernel_rfl
  | no => kernel_rfl
theorem fC_null_num (h : MarksOK ns false o1 o2) (C : Shape) (ha : alike .null C = true) : sameB (marksOf ns ss false o1 o2 h) false o1 o2 (rowsG .null .num (cellsOf (valS 2 C))) formsC = true := by
  cases C with
  | null => kernel_rfl
  | num => kernel_rfl
  | text => kernel_rfl
  | yes => kernel_rfl
  | no => kernel_rfl
theorem fC_null_text (h : MarksOK ns false o1 o2) (C : Shape) (ha : alike .null C = true) : sameB (marksOf ns ss false o1 o2 h) false o1 o2 (rowsG .null .text (cellsOf (valS 2 C))) formsC = true := by
  cases C with
  | null => kernel_rfl
  | num => kernel_rfl
  | text => kernel_rfl
  | yes => kernel_rfl
  | no => kernel_rfl
theorem fC_null_yes (h : MarksOK ns false o1 o2) (C : Shape) (ha : alike .null C = true) : sameB (marksOf ns ss false o1 o2 h) false o1 o2 (rowsG .null .yes (cellsOf (valS 2 C))) formsC = true := by
  cases C with
  | null => kernel_rfl
  | num => kernel_rfl
  | text => kernel_rfl
  | yes => kernel_rfl
  | no => kernel_rfl
theorem fC_null_no (h : MarksOK ns false o1 o2) (C : Shape) (ha : alike .null C = true) : sameB (marksOf ns ss false o1 o2 h) false o1 o2 (rowsG .null .no (cellsOf (valS 2 C))) formsC = true := by
  cases C with
  | null => kernel_rfl
  | num => kernel_rfl
  | text => kernel_rfl
  | yes => kernel_rfl
  | no => kernel_rfl
end
end Go.Ab.Same
