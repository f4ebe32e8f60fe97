/-
  DERIVED. GIVEN WITH THE SEED: THE CARDS: each row of YtpnbhgoblgbdkaaDoorRows.lean that lists a variable, with what it lists TIED to the program's text (the seventh form; the later family's looks); each row that meets fmt, with fmt's text TOLD by the authors' own Lean function (tested against real Go, not proved from fmt's source: count such statements apart). THE CARD IS WHAT COUNTS. Prove the row's statement (the work); the ties are given (YtpnbhgoblgbdkaaDoorTie.lean); close each card by the builder's one call (the guide's Derived/Test/ToyasCard.lean, 'card_holds'). Laid BY PROGRAM, IN A SANDBOX (cutbox-door.mjs). By AI agents, Wed Nov 11 2026. No macro, syntax, notation, axiom, sorry.
-/
import Derived.Test.YtpnbhgoblgbdkaaDoorRows
import GoSem.ClaimSeven
namespace Go.Proofs.YtpnbhgoblgbdkaaDoor
namespace Rows

/-- THE TIED CARD OF 'laws.FnExactReadAddress'. -/
def fnExactReadAddressCard : Claim7 := { stood := { row := fnExactReadAddressRow, standIns := [], harness := (true, "152b16bd10be2e4f76398ca5515dfbc2383cdce9af8a2f80c2c2adcbf1c5b938"), looks := true }, kinds := [], alts := [], laidByText := true, laidKinds := [.data, .data, .data, .data, .sentinel, .sentinel, .pinned], laidTests := true, laidLooks := .later }
def FnExactReadAddressCardSaid : Prop := Claim7.holds Tryd.pinned (.plain (OpenSpec.ofChange fnExactReadAddressSpec)) fnExactReadAddressCard

/-- THE TIED CARD OF 'laws.FnExactReadNet'. -/
def fnExactReadNetCard : Claim7 := { stood := { row := fnExactReadNetRow, standIns := [], harness := (true, "152b16bd10be2e4f76398ca5515dfbc2383cdce9af8a2f80c2c2adcbf1c5b938"), looks := true }, kinds := [], alts := [], laidByText := true, laidKinds := [.data, .data, .data, .data, .sentinel, .sentinel, .pinned], laidTests := true, laidLooks := .later }
def FnExactReadNetCardSaid : Prop := Claim7.holds Tryd.pinned (.plain (OpenSpec.ofChange fnExactReadNetSpec)) fnExactReadNetCard

/-- THE TIED CARD OF 'laws.FnExactAddressText'. -/
def fnExactAddressTextCard : Claim7 := { stood := { row := fnExactAddressTextRow, standIns := [], harness := (true, "152b16bd10be2e4f76398ca5515dfbc2383cdce9af8a2f80c2c2adcbf1c5b938"), looks := true }, kinds := [], alts := [], laidByText := true, laidKinds := [.data, .data, .data], laidTests := true, laidLooks := .later }
def FnExactAddressTextCardSaid : Prop := Claim7.holds Tryd.pinned (.plain (OpenSpec.ofChange fnExactAddressTextSpec)) fnExactAddressTextCard

/-- THE TIED CARD OF 'laws.FnExactNetText'. -/
def fnExactNetTextCard : Claim7 := { stood := { row := fnExactNetTextRow, standIns := [], harness := (true, "152b16bd10be2e4f76398ca5515dfbc2383cdce9af8a2f80c2c2adcbf1c5b938"), looks := true }, kinds := [], alts := [], laidByText := true, laidKinds := [.data, .data, .data], laidTests := true, laidLooks := .later }
def FnExactNetTextCardSaid : Prop := Claim7.holds Tryd.pinned (.plain (OpenSpec.ofChange fnExactNetTextSpec)) fnExactNetTextCard

/-- THE TIED CARD OF 'laws.FnExactReadMac'. -/
def fnExactReadMacCard : Claim7 := { stood := { row := fnExactReadMacRow, standIns := [], harness := (true, "152b16bd10be2e4f76398ca5515dfbc2383cdce9af8a2f80c2c2adcbf1c5b938"), looks := true }, kinds := [], alts := [], laidByText := true, laidKinds := [.data, .pinned], laidTests := true, laidLooks := .later }
def FnExactReadMacCardSaid : Prop := Claim7.holds Tryd.pinned (.plain (OpenSpec.ofChange fnExactReadMacSpec)) fnExactReadMacCard

/-- THE TIED CARD OF 'laws.FnExactDnsNameOK'. -/
def fnExactDnsNameOKCard : Claim7 := { stood := { row := fnExactDnsNameOKRow, standIns := [], harness := (true, "152b16bd10be2e4f76398ca5515dfbc2383cdce9af8a2f80c2c2adcbf1c5b938"), looks := true }, kinds := [], alts := [], laidByText := true, laidKinds := [.data, .pinned], laidTests := true, laidLooks := .later }
def FnExactDnsNameOKCardSaid : Prop := Claim7.holds Tryd.pinned (.plain (OpenSpec.ofChange fnExactDnsNameOKSpec)) fnExactDnsNameOKCard

/-- THE TIED CARD OF 'laws.FnExactDnsBytes'. -/
def fnExactDnsBytesCard : Claim7 := { stood := { row := fnExactDnsBytesRow, standIns := [], harness := (true, "152b16bd10be2e4f76398ca5515dfbc2383cdce9af8a2f80c2c2adcbf1c5b938"), looks := true }, kinds := [], alts := [], laidByText := true, laidKinds := [.data, .pinned], laidTests := true, laidLooks := .later }
def FnExactDnsBytesCardSaid : Prop := Claim7.holds Tryd.pinned (.plain (OpenSpec.ofChange fnExactDnsBytesSpec)) fnExactDnsBytesCard

/-- THE TIED CARD OF 'laws.FnExactReadDns'. -/
def fnExactReadDnsCard : Claim7 := { stood := { row := fnExactReadDnsRow, standIns := [], harness := (true, "152b16bd10be2e4f76398ca5515dfbc2383cdce9af8a2f80c2c2adcbf1c5b938"), looks := true }, kinds := [], alts := [], laidByText := true, laidKinds := [.data, .pinned], laidTests := true, laidLooks := .later }
def FnExactReadDnsCardSaid : Prop := Claim7.holds Tryd.pinned (.plain (OpenSpec.ofChange fnExactReadDnsSpec)) fnExactReadDnsCard

/-- THE SECOND FORM's CARD OF 'laws.FnExactReadAddress'. -/
def fnExactReadAddressUptoCard : Claim7 := { stood := { row := fnExactReadAddressUptoRow, standIns := [], harness := (true, "152b16bd10be2e4f76398ca5515dfbc2383cdce9af8a2f80c2c2adcbf1c5b938"), looks := true }, kinds := [], alts := [], laidByText := true, laidKinds := [.data, .data, .data, .data, .sentinel, .sentinel, .pinned], laidTests := true, laidLooks := .later }
def FnExactReadAddressUptoCardSaid : Prop := Claim7.holds Tryd.pinned (.plain (OpenSpec.upto fnExactReadAddressSpec)) fnExactReadAddressUptoCard

/-- THE SECOND FORM's CARD OF 'laws.FnExactReadNet'. -/
def fnExactReadNetUptoCard : Claim7 := { stood := { row := fnExactReadNetUptoRow, standIns := [], harness := (true, "152b16bd10be2e4f76398ca5515dfbc2383cdce9af8a2f80c2c2adcbf1c5b938"), looks := true }, kinds := [], alts := [], laidByText := true, laidKinds := [.data, .data, .data, .data, .sentinel, .sentinel, .pinned], laidTests := true, laidLooks := .later }
def FnExactReadNetUptoCardSaid : Prop := Claim7.holds Tryd.pinned (.plain (OpenSpec.upto fnExactReadNetSpec)) fnExactReadNetUptoCard

/-- THE SECOND FORM's CARD OF 'laws.FnExactAddressText'. -/
def fnExactAddressTextUptoCard : Claim7 := { stood := { row := fnExactAddressTextUptoRow, standIns := [], harness := (true, "152b16bd10be2e4f76398ca5515dfbc2383cdce9af8a2f80c2c2adcbf1c5b938"), looks := true }, kinds := [], alts := [], laidByText := true, laidKinds := [.data, .data, .data], laidTests := true, laidLooks := .later }
def FnExactAddressTextUptoCardSaid : Prop := Claim7.holds Tryd.pinned (.plain (OpenSpec.upto fnExactAddressTextSpec)) fnExactAddressTextUptoCard

/-- THE SECOND FORM's CARD OF 'laws.FnExactNetText'. -/
def fnExactNetTextUptoCard : Claim7 := { stood := { row := fnExactNetTextUptoRow, standIns := [], harness := (true, "152b16bd10be2e4f76398ca5515dfbc2383cdce9af8a2f80c2c2adcbf1c5b938"), looks := true }, kinds := [], alts := [], laidByText := true, laidKinds := [.data, .data, .data], laidTests := true, laidLooks := .later }
def FnExactNetTextUptoCardSaid : Prop := Claim7.holds Tryd.pinned (.plain (OpenSpec.upto fnExactNetTextSpec)) fnExactNetTextUptoCard

/-- THE SECOND FORM's CARD OF 'laws.FnExactReadMac'. -/
def fnExactReadMacUptoCard : Claim7 := { stood := { row := fnExactReadMacUptoRow, standIns := [], harness := (true, "152b16bd10be2e4f76398ca5515dfbc2383cdce9af8a2f80c2c2adcbf1c5b938"), looks := true }, kinds := [], alts := [], laidByText := true, laidKinds := [.data, .pinned], laidTests := true, laidLooks := .later }
def FnExactReadMacUptoCardSaid : Prop := Claim7.holds Tryd.pinned (.plain (OpenSpec.upto fnExactReadMacSpec)) fnExactReadMacUptoCard

/-- THE SECOND FORM's CARD OF 'laws.FnExactDnsNameOK'. -/
def fnExactDnsNameOKUptoCard : Claim7 := { stood := { row := fnExactDnsNameOKUptoRow, standIns := [], harness := (true, "152b16bd10be2e4f76398ca5515dfbc2383cdce9af8a2f80c2c2adcbf1c5b938"), looks := true }, kinds := [], alts := [], laidByText := true, laidKinds := [.data, .pinned], laidTests := true, laidLooks := .later }
def FnExactDnsNameOKUptoCardSaid : Prop := Claim7.holds Tryd.pinned (.plain (OpenSpec.upto fnExactDnsNameOKSpec)) fnExactDnsNameOKUptoCard

/-- THE SECOND FORM's CARD OF 'laws.FnExactDnsBytes'. -/
def fnExactDnsBytesUptoCard : Claim7 := { stood := { row := fnExactDnsBytesUptoRow, standIns := [], harness := (true, "152b16bd10be2e4f76398ca5515dfbc2383cdce9af8a2f80c2c2adcbf1c5b938"), looks := true }, kinds := [], alts := [], laidByText := true, laidKinds := [.data, .pinned], laidTests := true, laidLooks := .later }
def FnExactDnsBytesUptoCardSaid : Prop := Claim7.holds Tryd.pinned (.plain (OpenSpec.upto fnExactDnsBytesSpec)) fnExactDnsBytesUptoCard

/-- THE SECOND FORM's CARD OF 'laws.FnExactReadDns'. -/
def fnExactReadDnsUptoCard : Claim7 := { stood := { row := fnExactReadDnsUptoRow, standIns := [], harness := (true, "152b16bd10be2e4f76398ca5515dfbc2383cdce9af8a2f80c2c2adcbf1c5b938"), looks := true }, kinds := [], alts := [], laidByText := true, laidKinds := [.data, .pinned], laidTests := true, laidLooks := .later }
def FnExactReadDnsUptoCardSaid : Prop := Claim7.holds Tryd.pinned (.plain (OpenSpec.upto fnExactReadDnsSpec)) fnExactReadDnsUptoCard
end Rows
end Go.Proofs.YtpnbhgoblgbdkaaDoor
