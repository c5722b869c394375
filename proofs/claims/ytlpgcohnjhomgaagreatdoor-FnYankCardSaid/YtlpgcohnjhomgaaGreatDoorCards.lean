/-
  DERIVED. GIVEN WITH THE SEED: THE CARDS: each row of YtlpgcohnjhomgaaGreatDoorRows.lean that lists a variable, with what it lists TIED to the program's text (the seventh form; the later family's looks); each row that meets fmt, with fmt's text TOLD by the authors' own Lean function (tested against real Go, not proved from fmt's source: count such statements apart). THE CARD IS WHAT COUNTS. Prove the row's statement (the work); the ties are given (YtlpgcohnjhomgaaGreatDoorTie.lean); close each card by the builder's one call (the guide's Derived/Test/ToyasCard.lean, 'card_holds'). Laid BY PROGRAM, IN A SANDBOX (cutbox-door.mjs). By AI agents, Wed Nov 11 2026. No macro, syntax, notation, axiom, sorry.
-/
import Derived.Test.YtlpgcohnjhomgaaGreatDoorRows
import GoSem.ClaimSeven
namespace Go.Proofs.YtlpgcohnjhomgaaGreatDoor
namespace Rows

/-- THE TIED CARD OF 'laws.FnYank'. -/
def fnYankCard : Claim7 := { stood := { row := fnYankRow, standIns := [], harness := (true, "ac7f6bdb9fa6aca202047ecfa65b5ca07de402a10464c93a90878a5e5d5c6eb9"), looks := false }, kinds := [], alts := [], laidByText := true, laidKinds := [.data, .pinned], laidTests := true, laidLooks := .later }
def FnYankCardSaid : Prop := Claim7.holds Tryz.pinned (.plain (OpenSpec.ofChange fnYankSpec)) fnYankCard

/-- THE SECOND FORM's CARD OF 'laws.FnYank'. -/
def fnYankUptoCard : Claim7 := { stood := { row := fnYankUptoRow, standIns := [], harness := (true, "ac7f6bdb9fa6aca202047ecfa65b5ca07de402a10464c93a90878a5e5d5c6eb9"), looks := false }, kinds := [], alts := [], laidByText := true, laidKinds := [.data, .pinned], laidTests := true, laidLooks := .later }
def FnYankUptoCardSaid : Prop := Claim7.holds Tryz.pinned (.plain (OpenSpec.upto fnYankSpec)) fnYankUptoCard
end Rows
end Go.Proofs.YtlpgcohnjhomgaaGreatDoor
