/-
  DERIVED. GIVEN WITH THE SEED: THE CARDS: each row of YtfnkjihbiaonfaaGreatDoorRows.lean that lists a variable, with what it lists TIED to the program's text (the seventh form; the later family's looks); each row that meets fmt, with fmt's text TOLD by the authors' own Lean function (tested against real Go, not proved from fmt's source: count such statements apart). THE CARD IS WHAT COUNTS. Prove the row's statement (the work); the ties are given (YtfnkjihbiaonfaaGreatDoorTie.lean); close each card by the builder's one call (the guide's Derived/Test/ToyasCard.lean, 'card_holds'). Laid BY PROGRAM, IN A SANDBOX (cutbox-door.mjs). By AI agents, Wed Nov 11 2026. No macro, syntax, notation, axiom, sorry.
-/
import Derived.Test.YtfnkjihbiaonfaaGreatDoorRows
import GoSem.ClaimSeven
namespace Go.Proofs.YtfnkjihbiaonfaaGreatDoor
namespace Rows

/-- THE TIED CARD OF 'topiarylaw17.PlainAll'. -/
def plainAllCard : Claim7 := { stood := { row := plainAllRow, standIns := [], harness := (true, "246a5390462a1abe03f6157600680ab0511de89fe38b0ad4bf0b52c5e0ed3e05"), looks := true }, kinds := [], alts := [], laidByText := true, laidKinds := [.data, .listed, .data, .pinned], laidTests := true, laidLooks := .later }
def PlainAllCardSaid : Prop := Claim7.holds Tryz.pinned (.plain (OpenSpec.ofChange plainAllSpec)) plainAllCard

/-- THE TIED CARD OF 'topiarylaw17.PlainBars'. -/
def plainBarsCard : Claim7 := { stood := { row := plainBarsRow, standIns := [], harness := (true, "246a5390462a1abe03f6157600680ab0511de89fe38b0ad4bf0b52c5e0ed3e05"), looks := true }, kinds := [], alts := [], laidByText := true, laidKinds := [.data, .listed, .data, .pinned], laidTests := true, laidLooks := .later }
def PlainBarsCardSaid : Prop := Claim7.holds Tryz.pinned (.plain (OpenSpec.ofChange plainBarsSpec)) plainBarsCard

/-- THE TIED CARD OF 'topiarylaw17.PlainNames'. -/
def plainNamesCard : Claim7 := { stood := { row := plainNamesRow, standIns := [], harness := (true, "246a5390462a1abe03f6157600680ab0511de89fe38b0ad4bf0b52c5e0ed3e05"), looks := true }, kinds := [], alts := [], laidByText := true, laidKinds := [.data, .listed, .data, .pinned], laidTests := true, laidLooks := .later }
def PlainNamesCardSaid : Prop := Claim7.holds Tryz.pinned (.plain (OpenSpec.ofChange plainNamesSpec)) plainNamesCard

/-- THE TIED CARD OF 'topiarylaw17.PlainTables'. -/
def plainTablesCard : Claim7 := { stood := { row := plainTablesRow, standIns := [], harness := (true, "246a5390462a1abe03f6157600680ab0511de89fe38b0ad4bf0b52c5e0ed3e05"), looks := true }, kinds := [], alts := [], laidByText := true, laidKinds := [.data, .listed, .data, .pinned], laidTests := true, laidLooks := .later }
def PlainTablesCardSaid : Prop := Claim7.holds Tryz.pinned (.plain (OpenSpec.ofChange plainTablesSpec)) plainTablesCard

/-- THE TIED CARD OF 'topiarylaw17.PlainTexts'. -/
def plainTextsCard : Claim7 := { stood := { row := plainTextsRow, standIns := [], harness := (true, "246a5390462a1abe03f6157600680ab0511de89fe38b0ad4bf0b52c5e0ed3e05"), looks := true }, kinds := [], alts := [], laidByText := true, laidKinds := [.data, .listed, .data, .pinned], laidTests := true, laidLooks := .later }
def PlainTextsCardSaid : Prop := Claim7.holds Tryz.pinned (.plain (OpenSpec.ofChange plainTextsSpec)) plainTextsCard

/-- THE SECOND FORM's CARD OF 'topiarylaw17.PlainAll'. -/
def plainAllUptoCard : Claim7 := { stood := { row := plainAllUptoRow, standIns := [], harness := (true, "246a5390462a1abe03f6157600680ab0511de89fe38b0ad4bf0b52c5e0ed3e05"), looks := true }, kinds := [], alts := [], laidByText := true, laidKinds := [.data, .listed, .data, .pinned], laidTests := true, laidLooks := .later }
def PlainAllUptoCardSaid : Prop := Claim7.holds Tryz.pinned (.plain (OpenSpec.upto plainAllSpec)) plainAllUptoCard

/-- THE SECOND FORM's CARD OF 'topiarylaw17.PlainBars'. -/
def plainBarsUptoCard : Claim7 := { stood := { row := plainBarsUptoRow, standIns := [], harness := (true, "246a5390462a1abe03f6157600680ab0511de89fe38b0ad4bf0b52c5e0ed3e05"), looks := true }, kinds := [], alts := [], laidByText := true, laidKinds := [.data, .listed, .data, .pinned], laidTests := true, laidLooks := .later }
def PlainBarsUptoCardSaid : Prop := Claim7.holds Tryz.pinned (.plain (OpenSpec.upto plainBarsSpec)) plainBarsUptoCard

/-- THE SECOND FORM's CARD OF 'topiarylaw17.PlainNames'. -/
def plainNamesUptoCard : Claim7 := { stood := { row := plainNamesUptoRow, standIns := [], harness := (true, "246a5390462a1abe03f6157600680ab0511de89fe38b0ad4bf0b52c5e0ed3e05"), looks := true }, kinds := [], alts := [], laidByText := true, laidKinds := [.data, .listed, .data, .pinned], laidTests := true, laidLooks := .later }
def PlainNamesUptoCardSaid : Prop := Claim7.holds Tryz.pinned (.plain (OpenSpec.upto plainNamesSpec)) plainNamesUptoCard

/-- THE SECOND FORM's CARD OF 'topiarylaw17.PlainTables'. -/
def plainTablesUptoCard : Claim7 := { stood := { row := plainTablesUptoRow, standIns := [], harness := (true, "246a5390462a1abe03f6157600680ab0511de89fe38b0ad4bf0b52c5e0ed3e05"), looks := true }, kinds := [], alts := [], laidByText := true, laidKinds := [.data, .listed, .data, .pinned], laidTests := true, laidLooks := .later }
def PlainTablesUptoCardSaid : Prop := Claim7.holds Tryz.pinned (.plain (OpenSpec.upto plainTablesSpec)) plainTablesUptoCard

/-- THE SECOND FORM's CARD OF 'topiarylaw17.PlainTexts'. -/
def plainTextsUptoCard : Claim7 := { stood := { row := plainTextsUptoRow, standIns := [], harness := (true, "246a5390462a1abe03f6157600680ab0511de89fe38b0ad4bf0b52c5e0ed3e05"), looks := true }, kinds := [], alts := [], laidByText := true, laidKinds := [.data, .listed, .data, .pinned], laidTests := true, laidLooks := .later }
def PlainTextsUptoCardSaid : Prop := Claim7.holds Tryz.pinned (.plain (OpenSpec.upto plainTextsSpec)) plainTextsUptoCard
end Rows
end Go.Proofs.YtfnkjihbiaonfaaGreatDoor
