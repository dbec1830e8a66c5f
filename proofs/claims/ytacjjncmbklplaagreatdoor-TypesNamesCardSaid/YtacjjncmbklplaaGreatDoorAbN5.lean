/- The law TypesNames: the types that may be, one by one. -/
import Derived.Test.YtacjjncmbklplaaGreatDoorAbN4
set_option maxRecDepth 1000000
namespace Go.Ab.Names
open Go Go.Ab
theorem alive7 (σ : Heap) : (cAt T 100 13).1 7 [] σ = some (.ret (.p (.bool true)), σ) :=
  call_ans (ps := []) (n := 12) (af := af7) (fz := true) rfl (by kernel_rfl) (by kernel_rfl) σ
def sameB : Option PV → Option PV → Bool
  | some (.bool a), some (.bool b) => a == b
  | _, _ => false
def sameN : Option PV → Option PV → Bool
  | some (.int .i64 a), some (.int .i64 b) => a == b
  | _, _ => false
def sameS : Option PV → Option PV → Bool
  | some (.str a), some (.str b) => a == b
  | _, _ => false
noncomputable def run (af : AFunc) (x : Int × Int) : Option PV := ansV (runFunc (cAt T 100 12).1 (cAt T 100 12).2 100 af [.p (ty x.1 x.2)] [])
theorem rights : (pairs.all fun x => sameB (run lit8 x) (run lit9 x)) = true := by kernel_rfl
theorem kinds : (pairs.all fun x => sameN (run lit12 x) (run lit13 x)) = true := by kernel_rfl

end Go.Ab.Names
