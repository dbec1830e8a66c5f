/- The law EvalSame: the pairs of expressions that it asks about. -/
import Derived.Test.YtcafoohjffcaeaaGreatDoorAbM1
import Derived.Test.YtcafoohjffcaeaaGreatDoorAbE5
set_option linter.unusedSectionVars false
set_option linter.unusedSimpArgs false
set_option linter.unusedVariables false
set_option maxRecDepth 1000000
namespace Go.Ab.Same
open Go Go.Ab
def cellsOf : PV → List PV
  | .agg l => l
  | _ => []
def slotP (n : Int) : PV := .agg [.str [115, 108, 111, 116], .str [], .int .i64 n, .vsl [] 0]
def ndP (op : List UInt8) (l : List PV) : PV := .agg [.str op, .str [], .int .i64 0, .vsl (l.flatMap cellsOf) l.length]
def rowsG (A B : Shape) (cs : List PV) : PV := .vsl [.vsl (cellsOf (valS 0 A) ++ cellsOf (valS 1 B) ++ cs) 3] 1
def X : PV := slotP 0
def Y : PV := slotP 1
def Z : PV := slotP 2
def notP (m : PV) : PV := ndP [110, 111, 116] [m]
def isNullP (m : PV) : PV := .agg [.str [105, 115], .str [110, 117, 108, 108], .int .i64 0, .vsl (cellsOf m) 1]
def whenP (a b : PV) : PV := ndP [119, 104, 101, 110] [a, b]
def caseP (a b : PV) : PV := ndP [99, 97, 115, 101] [a, b]
/-- a comparison and the turned one -/
def forms3 : List (PV × PV) := [(notP (ndP [61] [X, Y]), ndP [60, 62] [X, Y]), (notP (ndP [60] [X, Y]), ndP [62, 61] [X, Y]), (notP (ndP [62] [X, Y]), ndP [60, 61] [X, Y])]
/-- NULLIF, COALESCE and CASE -/
def forms2 : List (PV × PV) := [(ndP [110, 117, 108, 108, 105, 102] [X, Y], caseP (whenP (ndP [61] [X, Y]) (ndP [110, 117, 108, 108] [])) X),
  (ndP [99, 111, 97, 108, 101, 115, 99, 101] [X, Y], caseP (whenP (notP (isNullP X)) X) Y)]
/-- BETWEEN and IN -/
def formsC : List (PV × PV) := [(ndP [98, 101, 116, 119, 101, 101, 110] [X, Y, Z], ndP [97, 110, 100] [ndP [62, 61] [X, Y], ndP [60, 61] [X, Z]]),
  (ndP [105, 110] [X, Y, Z], ndP [111, 114] [ndP [61] [X, Y], ndP [61] [X, Z]])]
/-- are two values of one kind, or is one null? -/
def alike : Shape → Shape → Bool
  | .null, _ => true
  | _, .null => true
  | .num, .num => true
  | .text, .text => true
  | .yes, .yes => true
  | .yes, .no => true
  | .no, .yes => true
  | .no, .no => true
  | _, _ => false
def isT : Option (CRes × Heap) → Bool
  | some (.ret (.p (.bool true)), _) => true
  | _ => false
noncomputable def sameB (inst : Marks) (tx : Bool) (o1 o2 : Ordering) (rows : PV) (l : List (PV × PV)) : Bool := l.all fun f => isT ((cAt (TS (cmpT tx o1 o2)) 100 20).1 18 [.p f.1, .p f.2, .p rows] [])
end Go.Ab.Same
