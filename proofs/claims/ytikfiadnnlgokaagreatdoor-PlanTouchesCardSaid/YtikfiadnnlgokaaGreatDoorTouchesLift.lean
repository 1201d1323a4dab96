import Derived.Test.YtikfiadnnlgokaaGreatDoorTouchesLaw
/-! The row of PlanTouches: what the form asks of every world. -/
namespace Go.Proofs.YtikfiadnnlgokaaGreatDoor.planTouches
open Go.ChangeShapes Go.WideShapes Go.ChangeAt Go.RowKit
set_option maxRecDepth 100000 in
theorem lifted (hL : TouchesP.LivesAny) (os : Os) (started : os.Started) (H : Type) (enc : TypeId × Value → H) (F : Stop.Interp) :
    ReturnsInHanded {} Tryz.checked os 3 .any ((OpenSpec.ofChange Rows.planTouchesSpec).preRow enc Tryz.prog Tryz.f3 Rows.planTouchesRow.domain false Rows.planTouchesRow.laid) (((OpenSpec.ofChange Rows.planTouchesSpec).at F).post enc Tryz.prog Tryz.f3 false true false false) := by
  obtain ⟨places, hx⟩ := reads os enc
  refine returnsInHanded_of_row (C := Tryz.checked) (s := OpenSpec.ofChange Rows.planTouchesSpec) own started (by kernel_rfl) Tryz.func3
    (witness_row_at (enc := enc) (C := Tryz.checked) false (laidWorld os) start rfl (by kernel_rfl) (by kernel_rfl) (by kernel_rfl)
      (OpenSpec.preRow_of_cond 8 hx (by kernel_rfl) (fun k hk => by cases hk) (by kernel_rfl) (laid_met os))) ?_
  intro W base args ds gs before hval hW _ _ _ _ hsh _
  exact contract hL H enc W base args ds gs before hval hW hsh

end Go.Proofs.YtikfiadnnlgokaaGreatDoor.planTouches
