/-
  DERIVED. GIVEN WITH THE SEED: THE CARDS: each row of YtbmfldoobkeieaaDoorRows.lean that lists a variable, with what it lists TIED to the program's text (the seventh form; the later family's looks); each row that meets fmt, with fmt's text TOLD by the authors' own Lean function (tested against real Go, not proved from fmt's source: count such statements apart). THE CARD IS WHAT COUNTS. Prove the row's statement (the work); the ties are given (YtbmfldoobkeieaaDoorTie.lean); close each card by the builder's one call (the guide's Derived/Test/ToyasCard.lean, 'card_holds'). Laid BY PROGRAM, IN A SANDBOX (cutbox-door.mjs). By AI agents, Wed Nov 11 2026. No macro, syntax, notation, axiom, sorry.
-/
import Derived.Test.YtbmfldoobkeieaaDoorRows
import GoSem.ClaimSeven
namespace Go.Proofs.YtbmfldoobkeieaaDoor
namespace Rows

/-- THE TIED CARD OF 'preludelaw02.KeysSplitOne'. -/
def keysSplitOneCard : Claim7 := { stood := { row := keysSplitOneRow, standIns := [], harness := (true, "6dcfebdfa84b7d9fb3ae8ee068ffdead15881f737018ff76e2029f1760b3749d"), looks := true }, kinds := [], alts := [], laidByText := true, laidKinds := [.data, .data, .data], laidTests := true, laidLooks := .later }
def KeysSplitOneCardSaid : Prop := Claim7.holds Tryd.pinned (.plain (OpenSpec.ofChange keysSplitOneSpec)) keysSplitOneCard

/-- THE TIED CARD OF 'preludelaw02.KeysBytesOrder'. -/
def keysBytesOrderCard : Claim7 := { stood := { row := keysBytesOrderRow, standIns := [], harness := (true, "6dcfebdfa84b7d9fb3ae8ee068ffdead15881f737018ff76e2029f1760b3749d"), looks := true }, kinds := [], alts := [], laidByText := true, laidKinds := [.data, .data, .data], laidTests := true, laidLooks := .later }
def KeysBytesOrderCardSaid : Prop := Claim7.holds Tryd.pinned (.plain (OpenSpec.ofChange keysBytesOrderSpec)) keysBytesOrderCard

/-- THE TIED CARD OF 'preludelaw02.KeysTexts'. -/
def keysTextsCard : Claim7 := { stood := { row := keysTextsRow, standIns := [], harness := (true, "6dcfebdfa84b7d9fb3ae8ee068ffdead15881f737018ff76e2029f1760b3749d"), looks := true }, kinds := [], alts := [], laidByText := true, laidKinds := [.data, .data, .data, .sentinel, .sentinel], laidTests := true, laidLooks := .later }
def KeysTextsCardSaid : Prop := Claim7.holds Tryd.pinned (.plain (OpenSpec.ofChange keysTextsSpec)) keysTextsCard

/-- THE TIED CARD OF 'preludelaw02.KeysTextBack'. -/
def keysTextBackCard : Claim7 := { stood := { row := keysTextBackRow, standIns := [], harness := (true, "6dcfebdfa84b7d9fb3ae8ee068ffdead15881f737018ff76e2029f1760b3749d"), looks := true }, kinds := [], alts := [], laidByText := true, laidKinds := [.data, .data, .data, .sentinel, .sentinel], laidTests := true, laidLooks := .later }
def KeysTextBackCardSaid : Prop := Claim7.holds Tryd.pinned (.plain (OpenSpec.ofChange keysTextBackSpec)) keysTextBackCard

/-- THE TIED CARD OF 'preludelaw02.KeysTextPlace'. -/
def keysTextPlaceCard : Claim7 := { stood := { row := keysTextPlaceRow, standIns := [], harness := (true, "6dcfebdfa84b7d9fb3ae8ee068ffdead15881f737018ff76e2029f1760b3749d"), looks := true }, kinds := [], alts := [], laidByText := true, laidKinds := [.data, .data, .data, .sentinel, .sentinel], laidTests := true, laidLooks := .later }
def KeysTextPlaceCardSaid : Prop := Claim7.holds Tryd.pinned (.plain (OpenSpec.ofChange keysTextPlaceSpec)) keysTextPlaceCard

/-- THE TIED CARD OF 'preludelaw02.KeysSetLaws'. -/
def keysSetLawsCard : Claim7 := { stood := { row := keysSetLawsRow, standIns := [], harness := (true, "6dcfebdfa84b7d9fb3ae8ee068ffdead15881f737018ff76e2029f1760b3749d"), looks := true }, kinds := [], alts := [], laidByText := true, laidKinds := [.data, .data, .data], laidTests := true, laidLooks := .later }
def KeysSetLawsCardSaid : Prop := Claim7.holds Tryd.pinned (.plain (OpenSpec.ofChange keysSetLawsSpec)) keysSetLawsCard

/-- THE SECOND FORM's CARD OF 'preludelaw02.KeysSplitOne'. -/
def keysSplitOneUptoCard : Claim7 := { stood := { row := keysSplitOneUptoRow, standIns := [], harness := (true, "6dcfebdfa84b7d9fb3ae8ee068ffdead15881f737018ff76e2029f1760b3749d"), looks := true }, kinds := [], alts := [], laidByText := true, laidKinds := [.data, .data, .data], laidTests := true, laidLooks := .later }
def KeysSplitOneUptoCardSaid : Prop := Claim7.holds Tryd.pinned (.plain (OpenSpec.upto keysSplitOneSpec)) keysSplitOneUptoCard

/-- THE SECOND FORM's CARD OF 'preludelaw02.KeysBytesOrder'. -/
def keysBytesOrderUptoCard : Claim7 := { stood := { row := keysBytesOrderUptoRow, standIns := [], harness := (true, "6dcfebdfa84b7d9fb3ae8ee068ffdead15881f737018ff76e2029f1760b3749d"), looks := true }, kinds := [], alts := [], laidByText := true, laidKinds := [.data, .data, .data], laidTests := true, laidLooks := .later }
def KeysBytesOrderUptoCardSaid : Prop := Claim7.holds Tryd.pinned (.plain (OpenSpec.upto keysBytesOrderSpec)) keysBytesOrderUptoCard

/-- THE SECOND FORM's CARD OF 'preludelaw02.KeysTexts'. -/
def keysTextsUptoCard : Claim7 := { stood := { row := keysTextsUptoRow, standIns := [], harness := (true, "6dcfebdfa84b7d9fb3ae8ee068ffdead15881f737018ff76e2029f1760b3749d"), looks := true }, kinds := [], alts := [], laidByText := true, laidKinds := [.data, .data, .data, .sentinel, .sentinel], laidTests := true, laidLooks := .later }
def KeysTextsUptoCardSaid : Prop := Claim7.holds Tryd.pinned (.plain (OpenSpec.upto keysTextsSpec)) keysTextsUptoCard

/-- THE SECOND FORM's CARD OF 'preludelaw02.KeysTextBack'. -/
def keysTextBackUptoCard : Claim7 := { stood := { row := keysTextBackUptoRow, standIns := [], harness := (true, "6dcfebdfa84b7d9fb3ae8ee068ffdead15881f737018ff76e2029f1760b3749d"), looks := true }, kinds := [], alts := [], laidByText := true, laidKinds := [.data, .data, .data, .sentinel, .sentinel], laidTests := true, laidLooks := .later }
def KeysTextBackUptoCardSaid : Prop := Claim7.holds Tryd.pinned (.plain (OpenSpec.upto keysTextBackSpec)) keysTextBackUptoCard

/-- THE SECOND FORM's CARD OF 'preludelaw02.KeysTextPlace'. -/
def keysTextPlaceUptoCard : Claim7 := { stood := { row := keysTextPlaceUptoRow, standIns := [], harness := (true, "6dcfebdfa84b7d9fb3ae8ee068ffdead15881f737018ff76e2029f1760b3749d"), looks := true }, kinds := [], alts := [], laidByText := true, laidKinds := [.data, .data, .data, .sentinel, .sentinel], laidTests := true, laidLooks := .later }
def KeysTextPlaceUptoCardSaid : Prop := Claim7.holds Tryd.pinned (.plain (OpenSpec.upto keysTextPlaceSpec)) keysTextPlaceUptoCard

/-- THE SECOND FORM's CARD OF 'preludelaw02.KeysSetLaws'. -/
def keysSetLawsUptoCard : Claim7 := { stood := { row := keysSetLawsUptoRow, standIns := [], harness := (true, "6dcfebdfa84b7d9fb3ae8ee068ffdead15881f737018ff76e2029f1760b3749d"), looks := true }, kinds := [], alts := [], laidByText := true, laidKinds := [.data, .data, .data], laidTests := true, laidLooks := .later }
def KeysSetLawsUptoCardSaid : Prop := Claim7.holds Tryd.pinned (.plain (OpenSpec.upto keysSetLawsSpec)) keysSetLawsUptoCard
end Rows
end Go.Proofs.YtbmfldoobkeieaaDoor
