/-
  DERIVED. GIVEN WITH THE SEED: THE CARDS: each row of YtcmcpiajbamoaaaDoorRows.lean that lists a variable, with what it lists TIED to the program's text (the seventh form; the later family's looks); each row that meets fmt, with fmt's text TOLD by the authors' own Lean function (tested against real Go, not proved from fmt's source: count such statements apart). THE CARD IS WHAT COUNTS. Prove the row's statement (the work); the ties are given (YtcmcpiajbamoaaaDoorTie.lean); close each card by the builder's one call (the guide's Derived/Test/ToyasCard.lean, 'card_holds'). Laid BY PROGRAM, IN A SANDBOX (cutbox-door.mjs). By AI agents, Wed Nov 11 2026. No macro, syntax, notation, axiom, sorry.
-/
import Derived.Test.YtcmcpiajbamoaaaDoorRows
import GoSem.ClaimSeven
namespace Go.Proofs.YtcmcpiajbamoaaaDoor
namespace Rows

/-- THE TIED CARD OF 'laws.FnExactFacingOf'. -/
def fnExactFacingOfCard : Claim7 := { stood := { row := fnExactFacingOfRow, standIns := [], harness := (true, "e025cc4451544215afcbc430813f1e541f1136403f2c052022bc4c41db8a0c1e"), looks := false }, kinds := [], alts := [], laidByText := true, laidKinds := [.data], laidTests := true, laidLooks := .later }
def FnExactFacingOfCardSaid : Prop := Claim7.holds Tryd.pinned (.plain (OpenSpec.ofChange fnExactFacingOfSpec)) fnExactFacingOfCard

/-- THE TIED CARD OF 'laws.FnExactFacingName'. -/
def fnExactFacingNameCard : Claim7 := { stood := { row := fnExactFacingNameRow, standIns := [], harness := (true, "e025cc4451544215afcbc430813f1e541f1136403f2c052022bc4c41db8a0c1e"), looks := false }, kinds := [], alts := [], laidByText := true, laidKinds := [.data], laidTests := true, laidLooks := .later }
def FnExactFacingNameCardSaid : Prop := Claim7.holds Tryd.pinned (.plain (OpenSpec.ofChange fnExactFacingNameSpec)) fnExactFacingNameCard

/-- THE TIED CARD OF 'laws.FnTurns'. -/
def fnTurnsCard : Claim7 := { stood := { row := fnTurnsRow, standIns := [], harness := (true, "e025cc4451544215afcbc430813f1e541f1136403f2c052022bc4c41db8a0c1e"), looks := false }, kinds := [], alts := [], laidByText := true, laidKinds := [.data], laidTests := true, laidLooks := .later }
def FnTurnsCardSaid : Prop := Claim7.holds Tryd.pinned (.plain (OpenSpec.ofChange fnTurnsSpec)) fnTurnsCard

/-- THE SECOND FORM's CARD OF 'laws.FnExactFacingOf'. -/
def fnExactFacingOfUptoCard : Claim7 := { stood := { row := fnExactFacingOfUptoRow, standIns := [], harness := (true, "e025cc4451544215afcbc430813f1e541f1136403f2c052022bc4c41db8a0c1e"), looks := false }, kinds := [], alts := [], laidByText := true, laidKinds := [.data], laidTests := true, laidLooks := .later }
def FnExactFacingOfUptoCardSaid : Prop := Claim7.holds Tryd.pinned (.plain (OpenSpec.upto fnExactFacingOfSpec)) fnExactFacingOfUptoCard

/-- THE SECOND FORM's CARD OF 'laws.FnExactFacingName'. -/
def fnExactFacingNameUptoCard : Claim7 := { stood := { row := fnExactFacingNameUptoRow, standIns := [], harness := (true, "e025cc4451544215afcbc430813f1e541f1136403f2c052022bc4c41db8a0c1e"), looks := false }, kinds := [], alts := [], laidByText := true, laidKinds := [.data], laidTests := true, laidLooks := .later }
def FnExactFacingNameUptoCardSaid : Prop := Claim7.holds Tryd.pinned (.plain (OpenSpec.upto fnExactFacingNameSpec)) fnExactFacingNameUptoCard

/-- THE SECOND FORM's CARD OF 'laws.FnTurns'. -/
def fnTurnsUptoCard : Claim7 := { stood := { row := fnTurnsUptoRow, standIns := [], harness := (true, "e025cc4451544215afcbc430813f1e541f1136403f2c052022bc4c41db8a0c1e"), looks := false }, kinds := [], alts := [], laidByText := true, laidKinds := [.data], laidTests := true, laidLooks := .later }
def FnTurnsUptoCardSaid : Prop := Claim7.holds Tryd.pinned (.plain (OpenSpec.upto fnTurnsSpec)) fnTurnsUptoCard
end Rows
end Go.Proofs.YtcmcpiajbamoaaaDoor
