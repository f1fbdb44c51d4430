/-
  DERIVED. GIVEN WITH THE SEED: THE CARDS: each row of YtkiijeobadlnnaaDoorRows.lean that lists a variable, with what it lists TIED to the program's text (the seventh form; the later family's looks); each row that meets fmt, with fmt's text TOLD by the authors' own Lean function (tested against real Go, not proved from fmt's source: count such statements apart). THE CARD IS WHAT COUNTS. Prove the row's statement (the work); the ties are given (YtkiijeobadlnnaaDoorTie.lean); close each card by the builder's one call (the guide's Derived/Test/ToyasCard.lean, 'card_holds'). Laid BY PROGRAM, IN A SANDBOX (cutbox-door.mjs). By AI agents, Wed Nov 11 2026. No macro, syntax, notation, axiom, sorry.
-/
import Derived.Test.YtkiijeobadlnnaaDoorRows
import GoSem.ClaimSeven
namespace Go.Proofs.YtkiijeobadlnnaaDoor
namespace Rows

/-- THE TIED CARD OF 'laws.FnExactFormatOf'. -/
def fnExactFormatOfCard : Claim7 := { stood := { row := fnExactFormatOfRow, standIns := [], harness := (true, "18f9a49076cd73b785da2ee4053212fe7248a588556296e8aeecfcc34e29bc0a"), looks := true }, kinds := [], alts := [], laidByText := true, laidKinds := [.sentinel], laidTests := true, laidLooks := .later }
def FnExactFormatOfCardSaid : Prop := Claim7.holds Tryd.pinned (.plain (OpenSpec.ofChange fnExactFormatOfSpec)) fnExactFormatOfCard

/-- THE TIED CARD OF 'laws.FnFormatOfWhen'. -/
def fnFormatOfWhenCard : Claim7 := { stood := { row := fnFormatOfWhenRow, standIns := [], harness := (true, "18f9a49076cd73b785da2ee4053212fe7248a588556296e8aeecfcc34e29bc0a"), looks := true }, kinds := [], alts := [], laidByText := true, laidKinds := [.sentinel], laidTests := true, laidLooks := .later }
def FnFormatOfWhenCardSaid : Prop := Claim7.holds Tryd.pinned (.plain (OpenSpec.ofChange fnFormatOfWhenSpec)) fnFormatOfWhenCard

/-- THE TIED CARD OF 'laws.FnFormatOf'. -/
def fnFormatOfCard : Claim7 := { stood := { row := fnFormatOfRow, standIns := [], harness := (true, "18f9a49076cd73b785da2ee4053212fe7248a588556296e8aeecfcc34e29bc0a"), looks := true }, kinds := [], alts := [], laidByText := true, laidKinds := [.sentinel], laidTests := true, laidLooks := .later }
def FnFormatOfCardSaid : Prop := Claim7.holds Tryd.pinned (.plain (OpenSpec.ofChange fnFormatOfSpec)) fnFormatOfCard

/-- THE TIED CARD OF 'laws.FnFormatByte'. -/
def fnFormatByteCard : Claim7 := { stood := { row := fnFormatByteRow, standIns := [], harness := (true, "18f9a49076cd73b785da2ee4053212fe7248a588556296e8aeecfcc34e29bc0a"), looks := true }, kinds := [], alts := [], laidByText := true, laidKinds := [.sentinel], laidTests := true, laidLooks := .later }
def FnFormatByteCardSaid : Prop := Claim7.holds Tryd.pinned (.plain (OpenSpec.ofChange fnFormatByteSpec)) fnFormatByteCard

/-- THE SECOND FORM's CARD OF 'laws.FnExactFormatOf'. -/
def fnExactFormatOfUptoCard : Claim7 := { stood := { row := fnExactFormatOfUptoRow, standIns := [], harness := (true, "18f9a49076cd73b785da2ee4053212fe7248a588556296e8aeecfcc34e29bc0a"), looks := true }, kinds := [], alts := [], laidByText := true, laidKinds := [.sentinel], laidTests := true, laidLooks := .later }
def FnExactFormatOfUptoCardSaid : Prop := Claim7.holds Tryd.pinned (.plain (OpenSpec.upto fnExactFormatOfSpec)) fnExactFormatOfUptoCard

/-- THE SECOND FORM's CARD OF 'laws.FnFormatOfWhen'. -/
def fnFormatOfWhenUptoCard : Claim7 := { stood := { row := fnFormatOfWhenUptoRow, standIns := [], harness := (true, "18f9a49076cd73b785da2ee4053212fe7248a588556296e8aeecfcc34e29bc0a"), looks := true }, kinds := [], alts := [], laidByText := true, laidKinds := [.sentinel], laidTests := true, laidLooks := .later }
def FnFormatOfWhenUptoCardSaid : Prop := Claim7.holds Tryd.pinned (.plain (OpenSpec.upto fnFormatOfWhenSpec)) fnFormatOfWhenUptoCard

/-- THE SECOND FORM's CARD OF 'laws.FnFormatOf'. -/
def fnFormatOfUptoCard : Claim7 := { stood := { row := fnFormatOfUptoRow, standIns := [], harness := (true, "18f9a49076cd73b785da2ee4053212fe7248a588556296e8aeecfcc34e29bc0a"), looks := true }, kinds := [], alts := [], laidByText := true, laidKinds := [.sentinel], laidTests := true, laidLooks := .later }
def FnFormatOfUptoCardSaid : Prop := Claim7.holds Tryd.pinned (.plain (OpenSpec.upto fnFormatOfSpec)) fnFormatOfUptoCard

/-- THE SECOND FORM's CARD OF 'laws.FnFormatByte'. -/
def fnFormatByteUptoCard : Claim7 := { stood := { row := fnFormatByteUptoRow, standIns := [], harness := (true, "18f9a49076cd73b785da2ee4053212fe7248a588556296e8aeecfcc34e29bc0a"), looks := true }, kinds := [], alts := [], laidByText := true, laidKinds := [.sentinel], laidTests := true, laidLooks := .later }
def FnFormatByteUptoCardSaid : Prop := Claim7.holds Tryd.pinned (.plain (OpenSpec.upto fnFormatByteSpec)) fnFormatByteUptoCard
end Rows
end Go.Proofs.YtkiijeobadlnnaaDoor
