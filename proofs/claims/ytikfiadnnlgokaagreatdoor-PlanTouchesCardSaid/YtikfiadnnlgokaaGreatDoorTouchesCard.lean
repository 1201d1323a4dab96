/-
  PlanTouches (pomace/pomacelaw30): for every graph and every list of numbers the law answers true, and its input reads behind the call as it did. Conditions: none beyond the given row's and card's own cells.
-/
import Derived.Test.YtikfiadnnlgokaaGreatDoorTouchesLast
import Derived.Test.YtikfiadnnlgokaaGreatDoorLivesRun
namespace Go.Proofs.YtikfiadnnlgokaaGreatDoor
/-- THE CARD OF PlanTouches. -/
theorem planTouches_card : Rows.PlanTouchesCardSaid := planTouches.card_of LivesRun.lives_any
end Go.Proofs.YtikfiadnnlgokaaGreatDoor
