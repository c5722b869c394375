/-
  DERIVED. GIVEN WITH THE SEED: THE CARDS: each row of YtmgjbhlcejcjeaaDoorRows.lean that lists a variable, with what it lists TIED to the program's text (the seventh form; the later family's looks); each row that meets fmt, with fmt's text TOLD by the authors' own Lean function (tested against real Go, not proved from fmt's source: count such statements apart). THE CARD IS WHAT COUNTS. Prove the row's statement (the work); the ties are given (YtmgjbhlcejcjeaaDoorTie.lean); close each card by the builder's one call (the guide's Derived/Test/ToyasCard.lean, 'card_holds'). Laid BY PROGRAM, IN A SANDBOX (cutbox-door.mjs). By AI agents, Wed Nov 11 2026. No macro, syntax, notation, axiom, sorry.
-/
import Derived.Test.YtmgjbhlcejcjeaaDoorRows
import GoSem.ClaimSeven
namespace Go.Proofs.YtmgjbhlcejcjeaaDoor
namespace Rows

/-- THE TIED CARD OF 'laws.FnExactOpens'. -/
def fnExactOpensCard : Claim7 := { stood := { row := fnExactOpensRow, standIns := [], harness := (true, "bdae59d36338ea300ae32452c4361782ce383cb194f4937c5c36d49d4b63354f"), looks := false }, kinds := [], alts := [], laidByText := true, laidKinds := [.data, .pinned], laidTests := true, laidLooks := .later }
def FnExactOpensCardSaid : Prop := Claim7.holds Tryd.pinned (.plain (OpenSpec.ofChange fnExactOpensSpec)) fnExactOpensCard

/-- THE TIED CARD OF 'laws.FnExactRedirects'. -/
def fnExactRedirectsCard : Claim7 := { stood := { row := fnExactRedirectsRow, standIns := [], harness := (true, "bdae59d36338ea300ae32452c4361782ce383cb194f4937c5c36d49d4b63354f"), looks := false }, kinds := [], alts := [], laidByText := true, laidKinds := [.data, .pinned], laidTests := true, laidLooks := .later }
def FnExactRedirectsCardSaid : Prop := Claim7.holds Tryd.pinned (.plain (OpenSpec.ofChange fnExactRedirectsSpec)) fnExactRedirectsCard

/-- THE TIED CARD OF 'laws.FnExactReserved'. -/
def fnExactReservedCard : Claim7 := { stood := { row := fnExactReservedRow, standIns := [], harness := (true, "bdae59d36338ea300ae32452c4361782ce383cb194f4937c5c36d49d4b63354f"), looks := false }, kinds := [], alts := [], laidByText := true, laidKinds := [.data, .pinned], laidTests := true, laidLooks := .later }
def FnExactReservedCardSaid : Prop := Claim7.holds Tryd.pinned (.plain (OpenSpec.ofChange fnExactReservedSpec)) fnExactReservedCard

/-- THE TIED CARD OF 'laws.FnExactBodyEnd'. -/
def fnExactBodyEndCard : Claim7 := { stood := { row := fnExactBodyEndRow, standIns := [], harness := (true, "bdae59d36338ea300ae32452c4361782ce383cb194f4937c5c36d49d4b63354f"), looks := false }, kinds := [], alts := [], laidByText := true, laidKinds := [.data, .pinned], laidTests := true, laidLooks := .later }
def FnExactBodyEndCardSaid : Prop := Claim7.holds Tryd.pinned (.plain (OpenSpec.ofChange fnExactBodyEndSpec)) fnExactBodyEndCard

/-- THE TIED CARD OF 'laws.FnExactOpAt'. -/
def fnExactOpAtCard : Claim7 := { stood := { row := fnExactOpAtRow, standIns := [], harness := (true, "bdae59d36338ea300ae32452c4361782ce383cb194f4937c5c36d49d4b63354f"), looks := false }, kinds := [], alts := [], laidByText := true, laidKinds := [.data, .pinned], laidTests := true, laidLooks := .later }
def FnExactOpAtCardSaid : Prop := Claim7.holds Tryd.pinned (.plain (OpenSpec.ofChange fnExactOpAtSpec)) fnExactOpAtCard

/-- THE SECOND FORM's CARD OF 'laws.FnExactOpens'. -/
def fnExactOpensUptoCard : Claim7 := { stood := { row := fnExactOpensUptoRow, standIns := [], harness := (true, "bdae59d36338ea300ae32452c4361782ce383cb194f4937c5c36d49d4b63354f"), looks := false }, kinds := [], alts := [], laidByText := true, laidKinds := [.data, .pinned], laidTests := true, laidLooks := .later }
def FnExactOpensUptoCardSaid : Prop := Claim7.holds Tryd.pinned (.plain (OpenSpec.upto fnExactOpensSpec)) fnExactOpensUptoCard

/-- THE SECOND FORM's CARD OF 'laws.FnExactRedirects'. -/
def fnExactRedirectsUptoCard : Claim7 := { stood := { row := fnExactRedirectsUptoRow, standIns := [], harness := (true, "bdae59d36338ea300ae32452c4361782ce383cb194f4937c5c36d49d4b63354f"), looks := false }, kinds := [], alts := [], laidByText := true, laidKinds := [.data, .pinned], laidTests := true, laidLooks := .later }
def FnExactRedirectsUptoCardSaid : Prop := Claim7.holds Tryd.pinned (.plain (OpenSpec.upto fnExactRedirectsSpec)) fnExactRedirectsUptoCard

/-- THE SECOND FORM's CARD OF 'laws.FnExactReserved'. -/
def fnExactReservedUptoCard : Claim7 := { stood := { row := fnExactReservedUptoRow, standIns := [], harness := (true, "bdae59d36338ea300ae32452c4361782ce383cb194f4937c5c36d49d4b63354f"), looks := false }, kinds := [], alts := [], laidByText := true, laidKinds := [.data, .pinned], laidTests := true, laidLooks := .later }
def FnExactReservedUptoCardSaid : Prop := Claim7.holds Tryd.pinned (.plain (OpenSpec.upto fnExactReservedSpec)) fnExactReservedUptoCard

/-- THE SECOND FORM's CARD OF 'laws.FnExactBodyEnd'. -/
def fnExactBodyEndUptoCard : Claim7 := { stood := { row := fnExactBodyEndUptoRow, standIns := [], harness := (true, "bdae59d36338ea300ae32452c4361782ce383cb194f4937c5c36d49d4b63354f"), looks := false }, kinds := [], alts := [], laidByText := true, laidKinds := [.data, .pinned], laidTests := true, laidLooks := .later }
def FnExactBodyEndUptoCardSaid : Prop := Claim7.holds Tryd.pinned (.plain (OpenSpec.upto fnExactBodyEndSpec)) fnExactBodyEndUptoCard

/-- THE SECOND FORM's CARD OF 'laws.FnExactOpAt'. -/
def fnExactOpAtUptoCard : Claim7 := { stood := { row := fnExactOpAtUptoRow, standIns := [], harness := (true, "bdae59d36338ea300ae32452c4361782ce383cb194f4937c5c36d49d4b63354f"), looks := false }, kinds := [], alts := [], laidByText := true, laidKinds := [.data, .pinned], laidTests := true, laidLooks := .later }
def FnExactOpAtUptoCardSaid : Prop := Claim7.holds Tryd.pinned (.plain (OpenSpec.upto fnExactOpAtSpec)) fnExactOpAtUptoCard
end Rows
end Go.Proofs.YtmgjbhlcejcjeaaDoor
