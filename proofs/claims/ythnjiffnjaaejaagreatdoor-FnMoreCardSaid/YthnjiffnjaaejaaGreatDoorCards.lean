/-
  DERIVED. GIVEN WITH THE SEED: THE CARDS: each row of YthnjiffnjaaejaaGreatDoorRows.lean that lists a variable, with what it lists TIED to the program's text (the seventh form; the later family's looks); each row that meets fmt, with fmt's text TOLD by the authors' own Lean function (tested against real Go, not proved from fmt's source: count such statements apart). THE CARD IS WHAT COUNTS. Prove the row's statement (the work); the ties are given (YthnjiffnjaaejaaGreatDoorTie.lean); close each card by the builder's one call (the guide's Derived/Test/ToyasCard.lean, 'card_holds'). Laid BY PROGRAM, IN A SANDBOX (cutbox-door.mjs). By AI agents, Wed Nov 11 2026. No macro, syntax, notation, axiom, sorry.
-/
import Derived.Test.YthnjiffnjaaejaaGreatDoorRows
import GoSem.ClaimSeven
namespace Go.Proofs.YthnjiffnjaaejaaGreatDoor
namespace Rows

/-- THE TIED CARD OF 'laws.FnBad'. -/
def fnBadCard : Claim7 := { stood := { row := fnBadRow, standIns := [], harness := (true, "cd0ed20c88b4c6428a5bc62eeb4debb5a575e6ea32e49102225d6f29914df098"), looks := true }, kinds := [], alts := [], laidByText := true, laidKinds := [.data, .pinned], laidTests := true, laidLooks := .later }
def FnBadCardSaid : Prop := Claim7.holds Tryz.pinned (.plain (OpenSpec.ofChange fnBadSpec)) fnBadCard

/-- THE TIED CARD OF 'laws.FnMore'. -/
def fnMoreCard : Claim7 := { stood := { row := fnMoreRow, standIns := [], harness := (true, "cd0ed20c88b4c6428a5bc62eeb4debb5a575e6ea32e49102225d6f29914df098"), looks := true }, kinds := [], alts := [], laidByText := true, laidKinds := [.data, .pinned], laidTests := true, laidLooks := .later }
def FnMoreCardSaid : Prop := Claim7.holds Tryz.pinned (.plain (OpenSpec.ofChange fnMoreSpec)) fnMoreCard

/-- THE TIED CARD OF 'laws.FnWrap'. -/
def fnWrapCard : Claim7 := { stood := { row := fnWrapRow, standIns := [], harness := (true, "cd0ed20c88b4c6428a5bc62eeb4debb5a575e6ea32e49102225d6f29914df098"), looks := true }, kinds := [], alts := [], laidByText := true, laidKinds := [.data, .pinned], laidTests := true, laidLooks := .later }
def FnWrapCardSaid : Prop := Claim7.holds Tryz.pinned (.plain (OpenSpec.ofChange fnWrapSpec)) fnWrapCard

/-- THE TIED CARD OF 'laws.FnPrefix'. -/
def fnPrefixCard : Claim7 := { stood := { row := fnPrefixRow, standIns := [], harness := (true, "cd0ed20c88b4c6428a5bc62eeb4debb5a575e6ea32e49102225d6f29914df098"), looks := true }, kinds := [], alts := [], laidByText := true, laidKinds := [.data, .pinned], laidTests := true, laidLooks := .later }
def FnPrefixCardSaid : Prop := Claim7.holds Tryz.pinned (.plain (OpenSpec.ofChange fnPrefixSpec)) fnPrefixCard

/-- THE TIED CARD OF 'laws.FnOpen'. -/
def fnOpenCard : Claim7 := { stood := { row := fnOpenRow, standIns := [], harness := (true, "cd0ed20c88b4c6428a5bc62eeb4debb5a575e6ea32e49102225d6f29914df098"), looks := true }, kinds := [], alts := [], laidByText := true, laidKinds := [.data, .pinned], laidTests := true, laidLooks := .later }
def FnOpenCardSaid : Prop := Claim7.holds Tryz.pinned (.plain (OpenSpec.ofChange fnOpenSpec)) fnOpenCard

/-- THE TIED CARD OF 'laws.FnBoth'. -/
def fnBothCard : Claim7 := { stood := { row := fnBothRow, standIns := [], harness := (true, "cd0ed20c88b4c6428a5bc62eeb4debb5a575e6ea32e49102225d6f29914df098"), looks := true }, kinds := [], alts := [], laidByText := true, laidKinds := [.data, .pinned], laidTests := true, laidLooks := .later }
def FnBothCardSaid : Prop := Claim7.holds Tryz.pinned (.plain (OpenSpec.ofChange fnBothSpec)) fnBothCard

/-- THE SECOND FORM's CARD OF 'laws.FnBad'. -/
def fnBadUptoCard : Claim7 := { stood := { row := fnBadUptoRow, standIns := [], harness := (true, "cd0ed20c88b4c6428a5bc62eeb4debb5a575e6ea32e49102225d6f29914df098"), looks := true }, kinds := [], alts := [], laidByText := true, laidKinds := [.data, .pinned], laidTests := true, laidLooks := .later }
def FnBadUptoCardSaid : Prop := Claim7.holds Tryz.pinned (.plain (OpenSpec.upto fnBadSpec)) fnBadUptoCard

/-- THE SECOND FORM's CARD OF 'laws.FnMore'. -/
def fnMoreUptoCard : Claim7 := { stood := { row := fnMoreUptoRow, standIns := [], harness := (true, "cd0ed20c88b4c6428a5bc62eeb4debb5a575e6ea32e49102225d6f29914df098"), looks := true }, kinds := [], alts := [], laidByText := true, laidKinds := [.data, .pinned], laidTests := true, laidLooks := .later }
def FnMoreUptoCardSaid : Prop := Claim7.holds Tryz.pinned (.plain (OpenSpec.upto fnMoreSpec)) fnMoreUptoCard

/-- THE SECOND FORM's CARD OF 'laws.FnWrap'. -/
def fnWrapUptoCard : Claim7 := { stood := { row := fnWrapUptoRow, standIns := [], harness := (true, "cd0ed20c88b4c6428a5bc62eeb4debb5a575e6ea32e49102225d6f29914df098"), looks := true }, kinds := [], alts := [], laidByText := true, laidKinds := [.data, .pinned], laidTests := true, laidLooks := .later }
def FnWrapUptoCardSaid : Prop := Claim7.holds Tryz.pinned (.plain (OpenSpec.upto fnWrapSpec)) fnWrapUptoCard

/-- THE SECOND FORM's CARD OF 'laws.FnPrefix'. -/
def fnPrefixUptoCard : Claim7 := { stood := { row := fnPrefixUptoRow, standIns := [], harness := (true, "cd0ed20c88b4c6428a5bc62eeb4debb5a575e6ea32e49102225d6f29914df098"), looks := true }, kinds := [], alts := [], laidByText := true, laidKinds := [.data, .pinned], laidTests := true, laidLooks := .later }
def FnPrefixUptoCardSaid : Prop := Claim7.holds Tryz.pinned (.plain (OpenSpec.upto fnPrefixSpec)) fnPrefixUptoCard

/-- THE SECOND FORM's CARD OF 'laws.FnOpen'. -/
def fnOpenUptoCard : Claim7 := { stood := { row := fnOpenUptoRow, standIns := [], harness := (true, "cd0ed20c88b4c6428a5bc62eeb4debb5a575e6ea32e49102225d6f29914df098"), looks := true }, kinds := [], alts := [], laidByText := true, laidKinds := [.data, .pinned], laidTests := true, laidLooks := .later }
def FnOpenUptoCardSaid : Prop := Claim7.holds Tryz.pinned (.plain (OpenSpec.upto fnOpenSpec)) fnOpenUptoCard

/-- THE SECOND FORM's CARD OF 'laws.FnBoth'. -/
def fnBothUptoCard : Claim7 := { stood := { row := fnBothUptoRow, standIns := [], harness := (true, "cd0ed20c88b4c6428a5bc62eeb4debb5a575e6ea32e49102225d6f29914df098"), looks := true }, kinds := [], alts := [], laidByText := true, laidKinds := [.data, .pinned], laidTests := true, laidLooks := .later }
def FnBothUptoCardSaid : Prop := Claim7.holds Tryz.pinned (.plain (OpenSpec.upto fnBothSpec)) fnBothUptoCard
end Rows
end Go.Proofs.YthnjiffnjaaejaaGreatDoor
