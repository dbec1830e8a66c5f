/- The law EvalSame: the law itself, where its pairs are known to be the same. -/
import Derived.Test.YtcafoohjffcaeaaGreatDoorAbM2
import Derived.KernelRfl
set_option linter.unusedSectionVars false
set_option linter.unusedSimpArgs false
set_option linter.unusedVariables false
set_option maxRecDepth 1000000
namespace Go.Ab.Same
open Go Go.Ab
def rowsP (A B C : Shape) : PV := rowsG A B (cellsOf (valS 2 C))
def formsOf (A B C : Shape) : List (PV × PV) := match alike A B && alike A C with
  | true => forms3 ++ (forms2 ++ formsC)
  | false => forms3
def g18 (A B C : Shape) : List PV → Option PV
  | [m, n, r] => match peq r (rowsP A B C) && (formsOf A B C).any fun f => peq m f.1 && peq n f.2 with
    | true => some (.bool true)
    | false => none
  | _ => none
def g8 : List PV → Option PV
  | [] => some (.bool true)
  | _ => none
section
variable [Marks]
def TR (A B C : Shape) : Table
  | 18 => some (.ext (extP (g18 A B C)) true)
  | 8 => some (.ext (extP g8) true)
  | _ => none
noncomputable def TM (T : Nat → Nat → Option Ordering) (A B C : Shape) : Table := ahead (TR A B C) (TS T)
end
section
variable (ns : Nat → Int) (ss : Nat → List UInt8) (tx : Bool) (o1 o2 : Ordering)
noncomputable def runL (inst : Marks) (T : Nat → Nat → Option Ordering) (A B C : Shape) : Option PV := ansV (runFunc (cAt (TM T A B C) 100 20).1 (cAt (TM T A B C) 100 20).2 100 lit5 [.p (valS 0 A), .p (valS 1 B), .p (valS 2 C)] [])
theorem alive8 (h : MarksOK ns tx o1 o2) : isT ((@cAt (marksOf ns ss tx o1 o2 h) (TS (cmpT tx o1 o2)) 100 20).1 8 [] []) = true := by kernel_rfl
theorem law_null (h : MarksOK ns tx o1 o2) (T : Nat → Nat → Option Ordering) (B C : Shape) : runL (marksOf ns ss tx o1 o2 h) T .null B C = some (.bool true) := by
  cases B <;> cases C <;> kernel_rfl
theorem law_num (h : MarksOK ns tx o1 o2) (T : Nat → Nat → Option Ordering) (B C : Shape) : runL (marksOf ns ss tx o1 o2 h) T .num B C = some (.bool true) := by
  cases B <;> cases C <;> kernel_rfl
theorem law_text (h : MarksOK ns tx o1 o2) (T : Nat → Nat → Option Ordering) (B C : Shape) : runL (marksOf ns ss tx o1 o2 h) T .text B C = some (.bool true) := by
  cases B <;> cases C <;> kernel_rfl
theorem law_yes (h : MarksOK ns tx o1 o2) (T : Nat → Nat → Option Ordering) (B C : Shape) : runL (marksOf ns ss tx o1 o2 h) T .yes B C = some (.bool true) := by
  cases B <;> cases C <;> kernel_rfl
theorem law_no (h : MarksOK ns tx o1 o2) (T : Nat → Nat → Option Ordering) (B C : Shape) : runL (marksOf ns ss tx o1 o2 h) T .no B C = some (.bool true) := by
  cases B <;> cases C <;> kernel_rfl
end
end Go.Ab.Same
