import Derived.Test.YtikfiadnnlgokaaGreatDoorTouchesLift
import Derived.Test.YtikfiadnnlgokaaGreatDoorTouchesFacts
/-! The row of PlanTouches. -/
namespace Go.Proofs.YtikfiadnnlgokaaGreatDoor.planTouches
open Go.ChangeShapes Go.WideShapes Go.ChangeAt Go.RowKit
theorem said (hL : TouchesP.LivesAny) : Rows.PlanTouchesSaid :=
  OpenClaim.holds_of_cond 3 Tryz.f3 rfl rfl rfl rfl rfl rfl rfl ⟨rfl, rfl, rfl, rfl, rfl⟩ rfl rfl rfl rfl rfl (by kernel_rfl) Tryz.func3 facts
    (of_decide_eq_true (by kernel_rfl)) (by unfold Func.isWrapper; first | (rw [if_pos (by decide +kernel)]; kernel_rfl) | (rw [if_neg (by decide +kernel)]; exact ⟨rfl, rfl⟩))
    (fun os started H enc _ F => by rw [OpenClaim.pre_eq_preRow]; exact lifted hL os started H enc F)

end Go.Proofs.YtikfiadnnlgokaaGreatDoor.planTouches
