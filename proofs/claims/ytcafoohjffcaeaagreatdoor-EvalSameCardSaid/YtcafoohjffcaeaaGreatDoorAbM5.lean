/- The law EvalSame: runs, NULLIF, COALESCE and CASE. -/
import Derived.Test.YtcafoohjffcaeaaGreatDoorAbM2
import Derived.KernelRfl
set_option linter.unusedSectionVars false
set_option linter.unusedSimpArgs false
set_option linter.unusedVariables false
set_option maxRecDepth 1000000
namespace Go.Ab.Same
open Go Go.Ab
section
variable (ns : Nat → Int) (ss : Nat → List UInt8) (o1 o2 : Ordering)
theorem f2_null (h : MarksOK ns false o1 o2) (c0 c1 c2 c3 : PV) (B : Shape) (ha : alike .null B = true) : sameB (marksOf ns ss false o1 o2 h) false o1 o2 (rowsG .null B [c0, c1, c2, c3]) forms2 = true := by
  cases B with
  | null => kernel_rfl
  | num => kernel_rfl
  | text => kernel_rfl
  | yes => kernel_rfl
  | no => kernel_rfl
theorem f2_num (h : MarksOK ns false o1 o2) (c0 c1 c2 c3 : PV) (B : Shape) (ha : alike .num B = true) : sameB (marksOf ns ss false o1 o2 h) false o1 o2 (rowsG .num B [c0, c1, c2, c3]) forms2 = true := by
  cases B with
  | null => kernel_rfl
  | num => cases o1 <;> kernel_rfl
  | text => cases ha
  | yes => cases ha
  | no => cases ha
theorem f2_text (h : MarksOK ns true o1 o2) (c0 c1 c2 c3 : PV) (B : Shape) (ha : alike .text B = true) : sameB (marksOf ns ss true o1 o2 h) true o1 o2 (rowsG .text B [c0, c1, c2, c3]) forms2 = true := by
  cases B with
  | null => kernel_rfl
  | num => cases ha
  | text => cases o1 <;> kernel_rfl
  | yes => cases ha
  | no => cases ha
theorem f2_yes (h : MarksOK ns false o1 o2) (c0 c1 c2 c3 : PV) (B : Shape) (ha : alike .yes B = true) : sameB (marksOf ns ss false o1 o2 h) false o1 o2 (rowsG .yes B [c0, c1, c2, c3]) forms2 = true := by
  cases B with
  | null => kernel_rfl
  | num => cases ha
  | text => cases ha
  | yes => kernel_rfl
  | no => kernel_rfl
theorem f2_no (h : MarksOK ns false o1 o2) (c0 c1 c2 c3 : PV) (B : Shape) (ha : alike .no B = true) : sameB (marksOf ns ss false o1 o2 h) false o1 o2 (rowsG .no B [c0, c1, c2, c3]) forms2 = true := by
  cases B with
  | null => kernel_rfl
  | num => cases ha
  | text => cases ha
  | yes => kernel_rfl
  | no => kernel_rfl
end
end Go.Ab.Same
