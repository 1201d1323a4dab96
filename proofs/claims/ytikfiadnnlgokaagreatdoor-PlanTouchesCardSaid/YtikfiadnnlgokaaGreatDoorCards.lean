/-
  DERIVED. GIVEN WITH THE SEED: THE CARDS: each row of YtikfiadnnlgokaaGreatDoorRows.lean that lists a variable, with what it lists TIED to the program's text (the seventh form; the later family's looks); each row that meets fmt, with fmt's text TOLD by the authors' own Lean function (tested against real Go, not proved from fmt's source: count such statements apart). THE CARD IS WHAT COUNTS. Prove the row's statement (the work); the ties are given (YtikfiadnnlgokaaGreatDoorTie.lean); close each card by the builder's one call (the guide's Derived/Test/ToyasCard.lean, 'card_holds'). Laid BY PROGRAM, IN A SANDBOX (cutbox-door.mjs). By AI agents, Wed Nov 11 2026. No macro, syntax, notation, axiom, sorry.
-/
import Derived.Test.YtikfiadnnlgokaaGreatDoorRows
import GoSem.ClaimSeven
namespace Go.Proofs.YtikfiadnnlgokaaGreatDoor
namespace Rows

/-- THE TIED CARD OF 'pomacelaw30.PlanTouches'. -/
def planTouchesCard : Claim7 := { stood := { row := planTouchesRow, standIns := [], harness := (true, "477a88fa0ea15e35103ae77f9944c148d400c6695eb95a2273bebe2a6b3a3dfb"), looks := true }, kinds := [], alts := [], laidByText := true, laidKinds := [.data, .pinned], laidTests := true, laidLooks := .later }
def PlanTouchesCardSaid : Prop := Claim7.holds Tryz.pinned (.plain (OpenSpec.ofChange planTouchesSpec)) planTouchesCard

/-- THE SECOND FORM's CARD OF 'pomacelaw30.PlanTouches'. -/
def planTouchesUptoCard : Claim7 := { stood := { row := planTouchesUptoRow, standIns := [], harness := (true, "477a88fa0ea15e35103ae77f9944c148d400c6695eb95a2273bebe2a6b3a3dfb"), looks := true }, kinds := [], alts := [], laidByText := true, laidKinds := [.data, .pinned], laidTests := true, laidLooks := .later }
def PlanTouchesUptoCardSaid : Prop := Claim7.holds Tryz.pinned (.plain (OpenSpec.upto planTouchesSpec)) planTouchesUptoCard
end Rows
end Go.Proofs.YtikfiadnnlgokaaGreatDoor
