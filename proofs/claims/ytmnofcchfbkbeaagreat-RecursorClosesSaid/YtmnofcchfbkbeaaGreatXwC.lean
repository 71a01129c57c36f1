/- The sample of the works of the law: pairs (own work). -/
import Derived.Test.YtmnofcchfbkbeaaGreatXw
namespace Go.Ev
set_option maxRecDepth 1000000
theorem PJ (m:Nat):zU (RN (m + 110)) 1 6=true:=by kernel_rfl
end Go.Ev
