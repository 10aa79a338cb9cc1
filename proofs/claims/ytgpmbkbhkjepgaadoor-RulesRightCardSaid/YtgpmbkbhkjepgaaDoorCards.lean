/-
  DERIVED. GIVEN WITH THE SEED: THE CARDS: each row of YtgpmbkbhkjepgaaDoorRows.lean that lists a variable, with what it lists TIED to the program's text (the seventh form; the later family's looks); each row that meets fmt, with fmt's text TOLD by the authors' own Lean function (tested against real Go, not proved from fmt's source: count such statements apart). THE CARD IS WHAT COUNTS. Prove the row's statement (the work); the ties are given (YtgpmbkbhkjepgaaDoorTie.lean); close each card by the builder's one call (the guide's Derived/Test/ToyasCard.lean, 'card_holds'). Laid BY PROGRAM, IN A SANDBOX (cutbox-door.mjs). By AI agents, Wed Nov 11 2026. No macro, syntax, notation, axiom, sorry.
-/
import Derived.Test.YtgpmbkbhkjepgaaDoorRows
import GoSem.ClaimSeven
namespace Go.Proofs.YtgpmbkbhkjepgaaDoor
namespace Rows

/-- THE TIED CARD OF 'librarylaw09.RulesStandard'. -/
def rulesStandardCard : Claim7 := { stood := { row := rulesStandardRow, standIns := [], harness := (true, "d91cade3a87e5a2b560fab77a77e4790ebccc4108527699678b2d17023810141"), looks := false }, kinds := [], alts := [], laidByText := true, laidKinds := [.data, .widerDeep, .pinned], laidTests := true, laidLooks := .later }
def RulesStandardCardSaid : Prop := Claim7.holds Tryd.pinned (.plain (OpenSpec.ofChange rulesStandardSpec)) rulesStandardCard

/-- THE TIED CARD OF 'librarylaw09.RulesRight'. -/
def rulesRightCard : Claim7 := { stood := { row := rulesRightRow, standIns := [], harness := (true, "d91cade3a87e5a2b560fab77a77e4790ebccc4108527699678b2d17023810141"), looks := false }, kinds := [], alts := [], laidByText := true, laidKinds := [.data, .widerDeep, .pinned], laidTests := true, laidLooks := .later }
def RulesRightCardSaid : Prop := Claim7.holds Tryd.pinned (.plain (OpenSpec.ofChange rulesRightSpec)) rulesRightCard

/-- THE SECOND FORM's CARD OF 'librarylaw09.RulesStandard'. -/
def rulesStandardUptoCard : Claim7 := { stood := { row := rulesStandardUptoRow, standIns := [], harness := (true, "d91cade3a87e5a2b560fab77a77e4790ebccc4108527699678b2d17023810141"), looks := false }, kinds := [], alts := [], laidByText := true, laidKinds := [.data, .widerDeep, .pinned], laidTests := true, laidLooks := .later }
def RulesStandardUptoCardSaid : Prop := Claim7.holds Tryd.pinned (.plain (OpenSpec.upto rulesStandardSpec)) rulesStandardUptoCard

/-- THE SECOND FORM's CARD OF 'librarylaw09.RulesRight'. -/
def rulesRightUptoCard : Claim7 := { stood := { row := rulesRightUptoRow, standIns := [], harness := (true, "d91cade3a87e5a2b560fab77a77e4790ebccc4108527699678b2d17023810141"), looks := false }, kinds := [], alts := [], laidByText := true, laidKinds := [.data, .widerDeep, .pinned], laidTests := true, laidLooks := .later }
def RulesRightUptoCardSaid : Prop := Claim7.holds Tryd.pinned (.plain (OpenSpec.upto rulesRightSpec)) rulesRightUptoCard
end Rows
end Go.Proofs.YtgpmbkbhkjepgaaDoor
