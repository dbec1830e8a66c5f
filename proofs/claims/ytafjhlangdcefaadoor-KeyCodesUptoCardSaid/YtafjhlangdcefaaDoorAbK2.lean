/- The laws of keys: the table of functions, and the live question. -/
import Derived.Test.YtafjhlangdcefaaDoorAbE4
import Derived.Test.YtafjhlangdcefaaDoorAbK1
import Derived.KernelRfl
import Derived.Test.YtafjhlangdcefaaDoorProg
set_option linter.unusedSectionVars false
set_option linter.unusedSimpArgs false
set_option linter.unusedVariables false
set_option maxRecDepth 1000000
namespace Go.Ab.Key
open Go Go.Ab
/-- what the rows of the library's functions answer -/
def trimO : List PV → Option PV
  | [.str s, .str c] => if c = [32] ∧ s.length ≤ LIM then some (.str (trimB s)) else none
  | _ => none
def replO : List PV → Option PV
  | [.str s, .str o, .str n] => if o = [0] ∧ n = [0, 255] ∧ s.length ≤ 16777216 then some (.str (esc s)) else none
  | _ => none
def voidV : AV := .p (.tup [])
/-- copyCheck: the builder's first cell is its own address -/
def copyO (ty : Nat) (xs : List AV) (σ : Heap) : Option (CRes × Heap) := match xs with
  | [.ptr id ver 0] => match σ[id]? with
    | some (.arr c v wm (some t)) =>
      if v = ver ∧ t = ty ∧ wm = 0 ∧ c.len = 2 then match c.get? 0 with
        | some (.p .nilptr) => some (.ret voidV, σ.set id (.arr (spliceC c 0 (.av [.ptr id ver 0])) v wm (some t)))
        | some (.ptr id' ver' 0) => if id' = id ∧ ver' = ver then some (.ret voidV, σ) else none
        | _ => none
      else none
    | _ => none
  | _ => none
def G (g : Nat) (m : Int) : Globs := fun x => if x = g then some [.int .i64 m] else none
section
variable [Marks]
def TX : Table
  | 18 => some (.ext (extP replO) true)
  | 19 => some (.ext (extP trimO) true)
  | 50 => some (.ext (copyO 71) false)
  | _ => none
noncomputable def TE (G : Globs) : Table := ahead TX (rowOf Go.Proofs.Tryd.prog G [22] [])
end
def isT : Option (CRes × Heap) → Bool
  | some (.ret (.p (.bool true)), _) => true
  | _ => false
theorem alive11 [Marks] (m : Int) (L n : Nat) : isT ((cAt (TE (G 0 m)) (L + 100) (n + 20)).1 11 [] []) = true := by kernel_rfl
end Go.Ab.Key
