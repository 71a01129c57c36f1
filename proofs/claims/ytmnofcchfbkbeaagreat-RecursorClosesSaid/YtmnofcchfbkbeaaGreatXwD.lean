/- The sample of the works of the law: lists (own work). -/
import Derived.Test.YtmnofcchfbkbeaaGreatXw
namespace Go.Ev
set_option maxRecDepth 1000000
theorem PK (m:Nat):zU (RN (m + 110)) 2 10=true:=by kernel_rfl
end Go.Ev
