/- The sample of the works of the law: numbers (own work). -/
import Derived.Test.YtmnofcchfbkbeaaGreatXw
namespace Go.Ev
set_option maxRecDepth 1000000
theorem KQ (m:Nat):zU (RN (m + 110)) 0 3=true:=by kernel_rfl
end Go.Ev
