/- The law TypesNames: the names of the types that may be. -/
import Derived.Test.YtacjjncmbklplaaGreatDoorAbN5
set_option maxRecDepth 1000000
namespace Go.Ab.Names
open Go Go.Ab
theorem names : (pairs.all fun x => sameS (run lit10 x) (run lit11 x)) = true := by kernel_rfl

end Go.Ab.Names
