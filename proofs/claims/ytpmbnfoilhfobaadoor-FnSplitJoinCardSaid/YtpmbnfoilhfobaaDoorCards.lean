/-
  DERIVED. GIVEN WITH THE SEED: THE CARDS: each row of YtpmbnfoilhfobaaDoorRows.lean that lists a variable, with what it lists TIED to the program's text (the seventh form; the later family's looks); each row that meets fmt, with fmt's text TOLD by the authors' own Lean function (tested against real Go, not proved from fmt's source: count such statements apart). THE CARD IS WHAT COUNTS. Prove the row's statement (the work); the ties are given (YtpmbnfoilhfobaaDoorTie.lean); close each card by the builder's one call (the guide's Derived/Test/ToyasCard.lean, 'card_holds'). Laid BY PROGRAM, IN A SANDBOX (cutbox-door.mjs). By AI agents, Wed Nov 11 2026. No macro, syntax, notation, axiom, sorry.
-/
import Derived.Test.YtpmbnfoilhfobaaDoorRows
import GoSem.ClaimSeven
namespace Go.Proofs.YtpmbnfoilhfobaaDoor
namespace Rows

/-- THE TIED CARD OF 'laws.FnExactParseInt'. -/
def fnExactParseIntCard : Claim7 := { stood := { row := fnExactParseIntRow, standIns := [], harness := (true, "944d53847b98bdbb3615ed9278fc4f3fece7d5fc76696177c1b69d6214a44009"), looks := true }, kinds := [], alts := [], laidByText := true, laidKinds := [.data, .data, .data, .sentinel, .sentinel], laidTests := true, laidLooks := .later }
def FnExactParseIntCardSaid : Prop := Claim7.holds Tryd.pinned (.plain (OpenSpec.ofChange fnExactParseIntSpec)) fnExactParseIntCard

/-- THE TIED CARD OF 'laws.FnExactParseBrine'. -/
def fnExactParseBrineCard : Claim7 := { stood := { row := fnExactParseBrineRow, standIns := [], harness := (true, "944d53847b98bdbb3615ed9278fc4f3fece7d5fc76696177c1b69d6214a44009"), looks := true }, kinds := [], alts := [], laidByText := true, laidKinds := [.data, .data, .data, .data, .pinned], laidTests := true, laidLooks := .later }
def FnExactParseBrineCardSaid : Prop := Claim7.holds Tryd.pinned (.plain (OpenSpec.ofChange fnExactParseBrineSpec)) fnExactParseBrineCard

/-- THE TIED CARD OF 'laws.FnStrings'. -/
def fnStringsCard : Claim7 := { stood := { row := fnStringsRow, standIns := [], harness := (true, "944d53847b98bdbb3615ed9278fc4f3fece7d5fc76696177c1b69d6214a44009"), looks := true }, kinds := [], alts := [], laidByText := true, laidKinds := [.data, .data, .data, .sentinel, .sentinel], laidTests := true, laidLooks := .later }
def FnStringsCardSaid : Prop := Claim7.holds Tryd.pinned (.plain (OpenSpec.ofChange fnStringsSpec)) fnStringsCard

/-- THE TIED CARD OF 'laws.FnExactFormatInt'. -/
def fnExactFormatIntCard : Claim7 := { stood := { row := fnExactFormatIntRow, standIns := [], harness := (true, "944d53847b98bdbb3615ed9278fc4f3fece7d5fc76696177c1b69d6214a44009"), looks := true }, kinds := [], alts := [], laidByText := true, laidKinds := [.data, .data, .data], laidTests := true, laidLooks := .later }
def FnExactFormatIntCardSaid : Prop := Claim7.holds Tryd.pinned (.plain (OpenSpec.ofChange fnExactFormatIntSpec)) fnExactFormatIntCard

/-- THE TIED CARD OF 'laws.FnExactBrineText'. -/
def fnExactBrineTextCard : Claim7 := { stood := { row := fnExactBrineTextRow, standIns := [], harness := (true, "944d53847b98bdbb3615ed9278fc4f3fece7d5fc76696177c1b69d6214a44009"), looks := true }, kinds := [], alts := [], laidByText := true, laidKinds := [.data, .data, .data], laidTests := true, laidLooks := .later }
def FnExactBrineTextCardSaid : Prop := Claim7.holds Tryd.pinned (.plain (OpenSpec.ofChange fnExactBrineTextSpec)) fnExactBrineTextCard

/-- THE TIED CARD OF 'laws.FnExactSplitString'. -/
def fnExactSplitStringCard : Claim7 := { stood := { row := fnExactSplitStringRow, standIns := [], harness := (true, "944d53847b98bdbb3615ed9278fc4f3fece7d5fc76696177c1b69d6214a44009"), looks := true }, kinds := [], alts := [], laidByText := true, laidKinds := [.data, .pinned], laidTests := true, laidLooks := .later }
def FnExactSplitStringCardSaid : Prop := Claim7.holds Tryd.pinned (.plain (OpenSpec.ofChange fnExactSplitStringSpec)) fnExactSplitStringCard

/-- THE TIED CARD OF 'laws.FnExactAppendChecksum'. -/
def fnExactAppendChecksumCard : Claim7 := { stood := { row := fnExactAppendChecksumRow, standIns := [], harness := (true, "944d53847b98bdbb3615ed9278fc4f3fece7d5fc76696177c1b69d6214a44009"), looks := true }, kinds := [], alts := [], laidByText := true, laidKinds := [.data, .data, .data], laidTests := true, laidLooks := .later }
def FnExactAppendChecksumCardSaid : Prop := Claim7.holds Tryd.pinned (.plain (OpenSpec.ofChange fnExactAppendChecksumSpec)) fnExactAppendChecksumCard

/-- THE TIED CARD OF 'laws.FnExactVerifyChecksum'. -/
def fnExactVerifyChecksumCard : Claim7 := { stood := { row := fnExactVerifyChecksumRow, standIns := [], harness := (true, "944d53847b98bdbb3615ed9278fc4f3fece7d5fc76696177c1b69d6214a44009"), looks := true }, kinds := [], alts := [], laidByText := true, laidKinds := [.data, .data, .data], laidTests := true, laidLooks := .later }
def FnExactVerifyChecksumCardSaid : Prop := Claim7.holds Tryd.pinned (.plain (OpenSpec.ofChange fnExactVerifyChecksumSpec)) fnExactVerifyChecksumCard

/-- THE TIED CARD OF 'laws.FnSplitJoin'. -/
def fnSplitJoinCard : Claim7 := { stood := { row := fnSplitJoinRow, standIns := [], harness := (true, "944d53847b98bdbb3615ed9278fc4f3fece7d5fc76696177c1b69d6214a44009"), looks := true }, kinds := [], alts := [], laidByText := true, laidKinds := [.data, .pinned], laidTests := true, laidLooks := .later }
def FnSplitJoinCardSaid : Prop := Claim7.holds Tryd.pinned (.plain (OpenSpec.ofChange fnSplitJoinSpec)) fnSplitJoinCard

/-- THE SECOND FORM's CARD OF 'laws.FnExactParseInt'. -/
def fnExactParseIntUptoCard : Claim7 := { stood := { row := fnExactParseIntUptoRow, standIns := [], harness := (true, "944d53847b98bdbb3615ed9278fc4f3fece7d5fc76696177c1b69d6214a44009"), looks := true }, kinds := [], alts := [], laidByText := true, laidKinds := [.data, .data, .data, .sentinel, .sentinel], laidTests := true, laidLooks := .later }
def FnExactParseIntUptoCardSaid : Prop := Claim7.holds Tryd.pinned (.plain (OpenSpec.upto fnExactParseIntSpec)) fnExactParseIntUptoCard

/-- THE SECOND FORM's CARD OF 'laws.FnExactParseBrine'. -/
def fnExactParseBrineUptoCard : Claim7 := { stood := { row := fnExactParseBrineUptoRow, standIns := [], harness := (true, "944d53847b98bdbb3615ed9278fc4f3fece7d5fc76696177c1b69d6214a44009"), looks := true }, kinds := [], alts := [], laidByText := true, laidKinds := [.data, .data, .data, .data, .pinned], laidTests := true, laidLooks := .later }
def FnExactParseBrineUptoCardSaid : Prop := Claim7.holds Tryd.pinned (.plain (OpenSpec.upto fnExactParseBrineSpec)) fnExactParseBrineUptoCard

/-- THE SECOND FORM's CARD OF 'laws.FnStrings'. -/
def fnStringsUptoCard : Claim7 := { stood := { row := fnStringsUptoRow, standIns := [], harness := (true, "944d53847b98bdbb3615ed9278fc4f3fece7d5fc76696177c1b69d6214a44009"), looks := true }, kinds := [], alts := [], laidByText := true, laidKinds := [.data, .data, .data, .sentinel, .sentinel], laidTests := true, laidLooks := .later }
def FnStringsUptoCardSaid : Prop := Claim7.holds Tryd.pinned (.plain (OpenSpec.upto fnStringsSpec)) fnStringsUptoCard

/-- THE SECOND FORM's CARD OF 'laws.FnExactFormatInt'. -/
def fnExactFormatIntUptoCard : Claim7 := { stood := { row := fnExactFormatIntUptoRow, standIns := [], harness := (true, "944d53847b98bdbb3615ed9278fc4f3fece7d5fc76696177c1b69d6214a44009"), looks := true }, kinds := [], alts := [], laidByText := true, laidKinds := [.data, .data, .data], laidTests := true, laidLooks := .later }
def FnExactFormatIntUptoCardSaid : Prop := Claim7.holds Tryd.pinned (.plain (OpenSpec.upto fnExactFormatIntSpec)) fnExactFormatIntUptoCard

/-- THE SECOND FORM's CARD OF 'laws.FnExactBrineText'. -/
def fnExactBrineTextUptoCard : Claim7 := { stood := { row := fnExactBrineTextUptoRow, standIns := [], harness := (true, "944d53847b98bdbb3615ed9278fc4f3fece7d5fc76696177c1b69d6214a44009"), looks := true }, kinds := [], alts := [], laidByText := true, laidKinds := [.data, .data, .data], laidTests := true, laidLooks := .later }
def FnExactBrineTextUptoCardSaid : Prop := Claim7.holds Tryd.pinned (.plain (OpenSpec.upto fnExactBrineTextSpec)) fnExactBrineTextUptoCard

/-- THE SECOND FORM's CARD OF 'laws.FnExactSplitString'. -/
def fnExactSplitStringUptoCard : Claim7 := { stood := { row := fnExactSplitStringUptoRow, standIns := [], harness := (true, "944d53847b98bdbb3615ed9278fc4f3fece7d5fc76696177c1b69d6214a44009"), looks := true }, kinds := [], alts := [], laidByText := true, laidKinds := [.data, .pinned], laidTests := true, laidLooks := .later }
def FnExactSplitStringUptoCardSaid : Prop := Claim7.holds Tryd.pinned (.plain (OpenSpec.upto fnExactSplitStringSpec)) fnExactSplitStringUptoCard

/-- THE SECOND FORM's CARD OF 'laws.FnExactAppendChecksum'. -/
def fnExactAppendChecksumUptoCard : Claim7 := { stood := { row := fnExactAppendChecksumUptoRow, standIns := [], harness := (true, "944d53847b98bdbb3615ed9278fc4f3fece7d5fc76696177c1b69d6214a44009"), looks := true }, kinds := [], alts := [], laidByText := true, laidKinds := [.data, .data, .data], laidTests := true, laidLooks := .later }
def FnExactAppendChecksumUptoCardSaid : Prop := Claim7.holds Tryd.pinned (.plain (OpenSpec.upto fnExactAppendChecksumSpec)) fnExactAppendChecksumUptoCard

/-- THE SECOND FORM's CARD OF 'laws.FnExactVerifyChecksum'. -/
def fnExactVerifyChecksumUptoCard : Claim7 := { stood := { row := fnExactVerifyChecksumUptoRow, standIns := [], harness := (true, "944d53847b98bdbb3615ed9278fc4f3fece7d5fc76696177c1b69d6214a44009"), looks := true }, kinds := [], alts := [], laidByText := true, laidKinds := [.data, .data, .data], laidTests := true, laidLooks := .later }
def FnExactVerifyChecksumUptoCardSaid : Prop := Claim7.holds Tryd.pinned (.plain (OpenSpec.upto fnExactVerifyChecksumSpec)) fnExactVerifyChecksumUptoCard

/-- THE SECOND FORM's CARD OF 'laws.FnSplitJoin'. -/
def fnSplitJoinUptoCard : Claim7 := { stood := { row := fnSplitJoinUptoRow, standIns := [], harness := (true, "944d53847b98bdbb3615ed9278fc4f3fece7d5fc76696177c1b69d6214a44009"), looks := true }, kinds := [], alts := [], laidByText := true, laidKinds := [.data, .pinned], laidTests := true, laidLooks := .later }
def FnSplitJoinUptoCardSaid : Prop := Claim7.holds Tryd.pinned (.plain (OpenSpec.upto fnSplitJoinSpec)) fnSplitJoinUptoCard
end Rows
end Go.Proofs.YtpmbnfoilhfobaaDoor
