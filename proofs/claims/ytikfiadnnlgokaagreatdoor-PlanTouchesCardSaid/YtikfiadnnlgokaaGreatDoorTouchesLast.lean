import Derived.Test.YtikfiadnnlgokaaGreatDoorTouchesSaid
/-! The card of PlanTouches, out of what the example run answers. -/
namespace Go.Proofs.YtikfiadnnlgokaaGreatDoor.planTouches
open Go.ChangeShapes Go.WideShapes Go.ChangeAt Go.RowKit
theorem plain (f : FuncId) (fn : Func) (hf : Tryz.pinned.checked.prog.funcNamed "pomace/pomacelaw30.PlanTouches" = some f) (hfn : Tryz.pinned.checked.prog.funcs[f]? = some fn) :
    true = Tryz.pinned.checked.prog.looks [] ∧ ∀ (j : Nat) t, fn.params[j]? = some t → Tryz.pinned.checked.prog.wantsStandIn t = false := by
  obtain rfl : f = 3 := Option.some.inj ((show Tryz.prog.funcNamed "pomace/pomacelaw30.PlanTouches" = some 3 by kernel_rfl).symm.trans hf) |>.symm
  obtain rfl : fn = Tryz.f3 := (Option.some.inj (Tryz.func3.symm.trans hfn)).symm
  refine ⟨by kernel_rfl, fun j t ht => ?_⟩
  rw [Tryz.params3] at ht
  obtain rfl | rfl : t = 22 ∨ t = 23 := by simpa using Array.mem_of_getElem? ht
  · exact (show Tryz.prog.wantsStandIn 22 = false by kernel_rfl)
  · exact (show Tryz.prog.wantsStandIn 23 = false by kernel_rfl)

/-- THE CARD, out of what the example run answers. -/
theorem card_of (hL : TouchesP.LivesAny) : Rows.PlanTouchesCardSaid :=
  Claim7.holds_tied_plain_at .later [] _ _ _ _ (said hL) (fun _ h => by cases h) (by kernel_rfl) (fun _ h => by cases h) planTouches_row_tie rfl ⟨rfl, rfl⟩ (by kernel_rfl) rfl plain (by kernel_rfl)
end Go.Proofs.YtikfiadnnlgokaaGreatDoor.planTouches
