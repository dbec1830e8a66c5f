/- The law EvalSame: runs, BETWEEN and IN of truths. -/
import Derived.Test.YtcafoohjffcaeaaGreatDoorAbM2
import Derived.KernelRfl
set_option linter.unusedSectionVars false
set_option linter.unusedSimpArgs false
set_option linter.unusedVariables false
set_option maxRecDepth 1000000
namespace Go.Ab.Same
open Go Go.Ab
section
variable (ns : Nat → Int) (ss : Nat → List UInt8) (o1 o2 : Ordering)
theorem fC_yes_null (h : MarksOK ns false o1 o2) (C : Shape) (ha : alike .yes C = true) : sameB (marksOf ns ss false o1 o2 h) false o1 o2 (rowsG .yes .null (cellsOf (valS 2 C))) formsC = true := by
  cases C with
  | null => kernel_rfl
  | num => cases ha
  | text => cases ha
  | yes => kernel_rfl
  | no => kernel_rfl
theorem fC_yes_yes (h : MarksOK ns false o1 o2) (C : Shape) (ha : alike .yes C = true) : sameB (marksOf ns ss false o1 o2 h) false o1 o2 (rowsG .yes .yes (cellsOf (valS 2 C))) formsC = true := by
  cases C with
  | null => kernel_rfl
  | num => cases ha
  | text => cases ha
  | yes => kernel_rfl
  | no => kernel_rfl
theorem fC_yes_no (h : MarksOK ns false o1 o2) (C : Shape) (ha : alike .yes C = true) : sameB (marksOf ns ss false o1 o2 h) false o1 o2 (rowsG .yes .no (cellsOf (valS 2 C))) formsC = true := by
  cases C with
  | null => kernel_rfl
  | num => cases ha
  | text => cases ha
  | yes => kernel_rfl
  | no => kernel_rfl
theorem fC_no_null (h : MarksOK ns false o1 o2) (C : Shape) (ha : alike .no C = true) : sameB (marksOf ns ss false o1 o2 h) false o1 o2 (rowsG .no .null (cellsOf (valS 2 C))) formsC = true := by
  cases C with
  | null => kernel_rfl
  | num => cases ha
  | text => cases ha
  | yes => kernel_rfl
  | no => kernel_rfl
theorem fC_no_yes (h : MarksOK ns false o1 o2) (C : Shape) (ha : alike .no C = true) : sameB (marksOf ns ss false o1 o2 h) false o1 o2 (rowsG .no .yes (cellsOf (valS 2 C))) formsC = true := by
  cases C with
  | null => kernel_rfl
  | num => cases ha
  | text => cases ha
  | yes => kernel_rfl
  | no => kernel_rfl
theorem fC_no_no (h : MarksOK ns false o1 o2) (C : Shape) (ha : alike .no C = true) : sameB (marksOf ns ss false o1 o2 h) false o1 o2 (rowsG .no .no (cellsOf (valS 2 C))) formsC = true := by
  cases C with
  | null => kernel_rfl
  | num => cases ha
  | text => cases ha
  | yes => kernel_rfl
  | no => kernel_rfl
end
end Go.Ab.Same
