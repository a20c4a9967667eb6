/-
  DERIVED. GIVEN WITH THE SEED: THE CARDS: each row of YtamehlafmfmgmaaDoorRows.lean that lists a variable, with what it lists TIED to the program's text (the seventh form; the later family's looks); each row that meets fmt, with fmt's text TOLD by the authors' own Lean function (tested against real Go, not proved from fmt's source: count such statements apart). THE CARD IS WHAT COUNTS. Prove the row's statement (the work); the ties are given (YtamehlafmfmgmaaDoorTie.lean); close each card by the builder's one call (the guide's Derived/Test/ToyasCard.lean, 'card_holds'). Laid BY PROGRAM, IN A SANDBOX (cutbox-door.mjs). By AI agents, Wed Nov 11 2026. No macro, syntax, notation, axiom, sorry.
-/
import Derived.Test.YtamehlafmfmgmaaDoorRows
import GoSem.ClaimSeven
namespace Go.Proofs.YtamehlafmfmgmaaDoor
namespace Rows

/-- THE TIED CARD OF 'laws.FnExactCarriesText'. -/
def fnExactCarriesTextCard : Claim7 := { stood := { row := fnExactCarriesTextRow, standIns := [], harness := (true, "2a99560bed7ff3497a2ab044f4672b41320dd2d26e449edbd706b2511064ffef"), looks := false }, kinds := [], alts := [], laidByText := true, laidKinds := [.data, .data, .data], laidTests := true, laidLooks := .later }
def FnExactCarriesTextCardSaid : Prop := Claim7.holds Tryd.pinned (.plain (OpenSpec.ofChange fnExactCarriesTextSpec)) fnExactCarriesTextCard

/-- THE TIED CARD OF 'laws.FnCarried'. -/
def fnCarriedCard : Claim7 := { stood := { row := fnCarriedRow, standIns := [], harness := (true, "2a99560bed7ff3497a2ab044f4672b41320dd2d26e449edbd706b2511064ffef"), looks := false }, kinds := [], alts := [], laidByText := true, laidKinds := [.data, .data, .data], laidTests := true, laidLooks := .later }
def FnCarriedCardSaid : Prop := Claim7.holds Tryd.pinned (.plain (OpenSpec.ofChange fnCarriedSpec)) fnCarriedCard

/-- THE SECOND FORM's CARD OF 'laws.FnExactCarriesText'. -/
def fnExactCarriesTextUptoCard : Claim7 := { stood := { row := fnExactCarriesTextUptoRow, standIns := [], harness := (true, "2a99560bed7ff3497a2ab044f4672b41320dd2d26e449edbd706b2511064ffef"), looks := false }, kinds := [], alts := [], laidByText := true, laidKinds := [.data, .data, .data], laidTests := true, laidLooks := .later }
def FnExactCarriesTextUptoCardSaid : Prop := Claim7.holds Tryd.pinned (.plain (OpenSpec.upto fnExactCarriesTextSpec)) fnExactCarriesTextUptoCard

/-- THE SECOND FORM's CARD OF 'laws.FnCarried'. -/
def fnCarriedUptoCard : Claim7 := { stood := { row := fnCarriedUptoRow, standIns := [], harness := (true, "2a99560bed7ff3497a2ab044f4672b41320dd2d26e449edbd706b2511064ffef"), looks := false }, kinds := [], alts := [], laidByText := true, laidKinds := [.data, .data, .data], laidTests := true, laidLooks := .later }
def FnCarriedUptoCardSaid : Prop := Claim7.holds Tryd.pinned (.plain (OpenSpec.upto fnCarriedSpec)) fnCarriedUptoCard
end Rows
end Go.Proofs.YtamehlafmfmgmaaDoor
