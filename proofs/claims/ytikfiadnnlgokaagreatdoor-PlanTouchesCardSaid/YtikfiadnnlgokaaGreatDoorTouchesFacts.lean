import Derived.Test.YtikfiadnnlgokaaGreatDoorRows
import Derived.KernelRfl
import Derived.JoinedCond
/-! The closed facts of the row of PlanTouches: what the row tells of the program is what the program forces. -/
namespace Go.Proofs.YtikfiadnnlgokaaGreatDoor.planTouches
open Go
theorem facts : joinedFacts Tryz.prog 3 Tryz.f3 (OpenSpec.ofChange Rows.planTouchesSpec).bare Rows.planTouchesRow = true := by kernel_rfl
end Go.Proofs.YtikfiadnnlgokaaGreatDoor.planTouches
