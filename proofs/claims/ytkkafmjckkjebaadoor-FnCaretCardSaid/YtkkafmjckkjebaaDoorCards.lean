/-
  DERIVED. GIVEN WITH THE SEED: THE CARDS: each row of YtkkafmjckkjebaaDoorRows.lean that lists a variable, with what it lists TIED to the program's text (the seventh form; the later family's looks); each row that meets fmt, with fmt's text TOLD by the authors' own Lean function (tested against real Go, not proved from fmt's source: count such statements apart). THE CARD IS WHAT COUNTS. Prove the row's statement (the work); the ties are given (YtkkafmjckkjebaaDoorTie.lean); close each card by the builder's one call (the guide's Derived/Test/ToyasCard.lean, 'card_holds'). Laid BY PROGRAM, IN A SANDBOX (cutbox-door.mjs). By AI agents, Wed Nov 11 2026. No macro, syntax, notation, axiom, sorry.
-/
import Derived.Test.YtkkafmjckkjebaaDoorRows
import GoSem.ClaimSeven
namespace Go.Proofs.YtkkafmjckkjebaaDoor
namespace Rows

/-- THE TIED CARD OF 'laws.FnExactCaret'. -/
def fnExactCaretCard : Claim7 := { stood := { row := fnExactCaretRow, standIns := [], harness := (true, "17df7e32e606275d63a36cd64373dcc6927a66c82113949fb6477aae1738ee25"), looks := false }, kinds := [], alts := [], laidByText := true, laidKinds := [.data, .pinned], laidTests := true, laidLooks := .later }
def FnExactCaretCardSaid : Prop := Claim7.holds Tryd.pinned (.plain (OpenSpec.ofChange fnExactCaretSpec)) fnExactCaretCard

/-- THE TIED CARD OF 'laws.FnExpand'. -/
def fnExpandCard : Claim7 := { stood := { row := fnExpandRow, standIns := [], harness := (true, "17df7e32e606275d63a36cd64373dcc6927a66c82113949fb6477aae1738ee25"), looks := false }, kinds := [], alts := [], laidByText := true, laidKinds := [.data, .pinned], laidTests := true, laidLooks := .later }
def FnExpandCardSaid : Prop := Claim7.holds Tryd.pinned (.plain (OpenSpec.ofChange fnExpandSpec)) fnExpandCard

/-- THE TIED CARD OF 'laws.FnCaret'. -/
def fnCaretCard : Claim7 := { stood := { row := fnCaretRow, standIns := [], harness := (true, "17df7e32e606275d63a36cd64373dcc6927a66c82113949fb6477aae1738ee25"), looks := false }, kinds := [], alts := [], laidByText := true, laidKinds := [.data, .pinned], laidTests := true, laidLooks := .later }
def FnCaretCardSaid : Prop := Claim7.holds Tryd.pinned (.plain (OpenSpec.ofChange fnCaretSpec)) fnCaretCard

/-- THE SECOND FORM's CARD OF 'laws.FnExactCaret'. -/
def fnExactCaretUptoCard : Claim7 := { stood := { row := fnExactCaretUptoRow, standIns := [], harness := (true, "17df7e32e606275d63a36cd64373dcc6927a66c82113949fb6477aae1738ee25"), looks := false }, kinds := [], alts := [], laidByText := true, laidKinds := [.data, .pinned], laidTests := true, laidLooks := .later }
def FnExactCaretUptoCardSaid : Prop := Claim7.holds Tryd.pinned (.plain (OpenSpec.upto fnExactCaretSpec)) fnExactCaretUptoCard

/-- THE SECOND FORM's CARD OF 'laws.FnExpand'. -/
def fnExpandUptoCard : Claim7 := { stood := { row := fnExpandUptoRow, standIns := [], harness := (true, "17df7e32e606275d63a36cd64373dcc6927a66c82113949fb6477aae1738ee25"), looks := false }, kinds := [], alts := [], laidByText := true, laidKinds := [.data, .pinned], laidTests := true, laidLooks := .later }
def FnExpandUptoCardSaid : Prop := Claim7.holds Tryd.pinned (.plain (OpenSpec.upto fnExpandSpec)) fnExpandUptoCard

/-- THE SECOND FORM's CARD OF 'laws.FnCaret'. -/
def fnCaretUptoCard : Claim7 := { stood := { row := fnCaretUptoRow, standIns := [], harness := (true, "17df7e32e606275d63a36cd64373dcc6927a66c82113949fb6477aae1738ee25"), looks := false }, kinds := [], alts := [], laidByText := true, laidKinds := [.data, .pinned], laidTests := true, laidLooks := .later }
def FnCaretUptoCardSaid : Prop := Claim7.holds Tryd.pinned (.plain (OpenSpec.upto fnCaretSpec)) fnCaretUptoCard
end Rows
end Go.Proofs.YtkkafmjckkjebaaDoor
