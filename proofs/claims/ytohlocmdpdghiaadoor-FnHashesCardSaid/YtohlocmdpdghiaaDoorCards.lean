/-
  DERIVED. GIVEN WITH THE SEED: THE CARDS: each row of YtohlocmdpdghiaaDoorRows.lean that lists a variable, with what it lists TIED to the program's text (the seventh form; the later family's looks); each row that meets fmt, with fmt's text TOLD by the authors' own Lean function (tested against real Go, not proved from fmt's source: count such statements apart). THE CARD IS WHAT COUNTS. Prove the row's statement (the work); the ties are given (YtohlocmdpdghiaaDoorTie.lean); close each card by the builder's one call (the guide's Derived/Test/ToyasCard.lean, 'card_holds'). Laid BY PROGRAM, IN A SANDBOX (cutbox-door.mjs). By AI agents, Wed Nov 11 2026. No macro, syntax, notation, axiom, sorry.
-/
import Derived.Test.YtohlocmdpdghiaaDoorRows
import GoSem.ClaimSeven
namespace Go.Proofs.YtohlocmdpdghiaaDoor
namespace Rows

/-- THE TIED CARD OF 'laws.FnExactHash'. -/
def fnExactHashCard : Claim7 := { stood := { row := fnExactHashRow, standIns := [], harness := (true, "0b055e5b250294bbe9b9a040ada84386fcbf2b00ae8fdc81126a4e06ca1fcac4"), looks := false }, kinds := [], alts := [], laidByText := true, laidKinds := [.data], laidTests := true, laidLooks := .later }
def FnExactHashCardSaid : Prop := Claim7.holds Tryd.pinned (.plain (OpenSpec.ofChange fnExactHashSpec)) fnExactHashCard

/-- THE TIED CARD OF 'laws.FnExactPassHash'. -/
def fnExactPassHashCard : Claim7 := { stood := { row := fnExactPassHashRow, standIns := [], harness := (true, "0b055e5b250294bbe9b9a040ada84386fcbf2b00ae8fdc81126a4e06ca1fcac4"), looks := false }, kinds := [], alts := [], laidByText := true, laidKinds := [.data], laidTests := true, laidLooks := .later }
def FnExactPassHashCardSaid : Prop := Claim7.holds Tryd.pinned (.plain (OpenSpec.ofChange fnExactPassHashSpec)) fnExactPassHashCard

/-- THE TIED CARD OF 'laws.FnHashes'. -/
def fnHashesCard : Claim7 := { stood := { row := fnHashesRow, standIns := [], harness := (true, "0b055e5b250294bbe9b9a040ada84386fcbf2b00ae8fdc81126a4e06ca1fcac4"), looks := false }, kinds := [], alts := [], laidByText := true, laidKinds := [.data], laidTests := true, laidLooks := .later }
def FnHashesCardSaid : Prop := Claim7.holds Tryd.pinned (.plain (OpenSpec.ofChange fnHashesSpec)) fnHashesCard

/-- THE SECOND FORM's CARD OF 'laws.FnExactHash'. -/
def fnExactHashUptoCard : Claim7 := { stood := { row := fnExactHashUptoRow, standIns := [], harness := (true, "0b055e5b250294bbe9b9a040ada84386fcbf2b00ae8fdc81126a4e06ca1fcac4"), looks := false }, kinds := [], alts := [], laidByText := true, laidKinds := [.data], laidTests := true, laidLooks := .later }
def FnExactHashUptoCardSaid : Prop := Claim7.holds Tryd.pinned (.plain (OpenSpec.upto fnExactHashSpec)) fnExactHashUptoCard

/-- THE SECOND FORM's CARD OF 'laws.FnExactPassHash'. -/
def fnExactPassHashUptoCard : Claim7 := { stood := { row := fnExactPassHashUptoRow, standIns := [], harness := (true, "0b055e5b250294bbe9b9a040ada84386fcbf2b00ae8fdc81126a4e06ca1fcac4"), looks := false }, kinds := [], alts := [], laidByText := true, laidKinds := [.data], laidTests := true, laidLooks := .later }
def FnExactPassHashUptoCardSaid : Prop := Claim7.holds Tryd.pinned (.plain (OpenSpec.upto fnExactPassHashSpec)) fnExactPassHashUptoCard

/-- THE SECOND FORM's CARD OF 'laws.FnHashes'. -/
def fnHashesUptoCard : Claim7 := { stood := { row := fnHashesUptoRow, standIns := [], harness := (true, "0b055e5b250294bbe9b9a040ada84386fcbf2b00ae8fdc81126a4e06ca1fcac4"), looks := false }, kinds := [], alts := [], laidByText := true, laidKinds := [.data], laidTests := true, laidLooks := .later }
def FnHashesUptoCardSaid : Prop := Claim7.holds Tryd.pinned (.plain (OpenSpec.upto fnHashesSpec)) fnHashesUptoCard
end Rows
end Go.Proofs.YtohlocmdpdghiaaDoor
