/-
  DERIVED. GIVEN WITH THE SEED: THE CARDS: each row of YtimioelnnhnbiaaDoorRows.lean that lists a variable, with what it lists TIED to the program's text (the seventh form; the later family's looks); each row that meets fmt, with fmt's text TOLD by the authors' own Lean function (tested against real Go, not proved from fmt's source: count such statements apart). THE CARD IS WHAT COUNTS. Prove the row's statement (the work); the ties are given (YtimioelnnhnbiaaDoorTie.lean); close each card by the builder's one call (the guide's Derived/Test/ToyasCard.lean, 'card_holds'). Laid BY PROGRAM, IN A SANDBOX (cutbox-door.mjs). By AI agents, Wed Nov 11 2026. No macro, syntax, notation, axiom, sorry.
-/
import Derived.Test.YtimioelnnhnbiaaDoorRows
import GoSem.ClaimSeven
namespace Go.Proofs.YtimioelnnhnbiaaDoor
namespace Rows

/-- THE TIED CARD OF 'shipwrightlaw23.JsonEncodes'. -/
def jsonEncodesCard : Claim7 := { stood := { row := jsonEncodesRow, standIns := [], harness := (true, "c0118c29d8542a321362170a91a04b85bfd658734d9c2d2e6fdf2b848a2e1e01"), looks := true }, kinds := [], alts := [], laidByText := true, laidKinds := [.data, .data, .data], laidTests := true, laidLooks := .later }
def JsonEncodesCardSaid : Prop := Claim7.holds Tryd.pinned (.plain (OpenSpec.ofChange jsonEncodesSpec)) jsonEncodesCard

/-- THE TIED CARD OF 'shipwrightlaw23.JsonBack'. -/
def jsonBackCard : Claim7 := { stood := { row := jsonBackRow, standIns := [], harness := (true, "c0118c29d8542a321362170a91a04b85bfd658734d9c2d2e6fdf2b848a2e1e01"), looks := true }, kinds := [], alts := [], laidByText := true, laidKinds := [.data, .data, .data], laidTests := true, laidLooks := .later }
def JsonBackCardSaid : Prop := Claim7.holds Tryd.pinned (.plain (OpenSpec.ofChange jsonBackSpec)) jsonBackCard

/-- THE TIED CARD OF 'shipwrightlaw23.JsonFirst'. -/
def jsonFirstCard : Claim7 := { stood := { row := jsonFirstRow, standIns := [], harness := (true, "c0118c29d8542a321362170a91a04b85bfd658734d9c2d2e6fdf2b848a2e1e01"), looks := true }, kinds := [], alts := [], laidByText := true, laidKinds := [.data, .data, .data], laidTests := true, laidLooks := .later }
def JsonFirstCardSaid : Prop := Claim7.holds Tryd.pinned (.plain (OpenSpec.ofChange jsonFirstSpec)) jsonFirstCard

/-- THE TIED CARD OF 'shipwrightlaw23.JsonTells'. -/
def jsonTellsCard : Claim7 := { stood := { row := jsonTellsRow, standIns := [], harness := (true, "c0118c29d8542a321362170a91a04b85bfd658734d9c2d2e6fdf2b848a2e1e01"), looks := true }, kinds := [], alts := [], laidByText := true, laidKinds := [.data, .data, .data], laidTests := true, laidLooks := .later }
def JsonTellsCardSaid : Prop := Claim7.holds Tryd.pinned (.plain (OpenSpec.ofChange jsonTellsSpec)) jsonTellsCard

/-- THE SECOND FORM's CARD OF 'shipwrightlaw23.JsonEncodes'. -/
def jsonEncodesUptoCard : Claim7 := { stood := { row := jsonEncodesUptoRow, standIns := [], harness := (true, "c0118c29d8542a321362170a91a04b85bfd658734d9c2d2e6fdf2b848a2e1e01"), looks := true }, kinds := [], alts := [], laidByText := true, laidKinds := [.data, .data, .data], laidTests := true, laidLooks := .later }
def JsonEncodesUptoCardSaid : Prop := Claim7.holds Tryd.pinned (.plain (OpenSpec.upto jsonEncodesSpec)) jsonEncodesUptoCard

/-- THE SECOND FORM's CARD OF 'shipwrightlaw23.JsonBack'. -/
def jsonBackUptoCard : Claim7 := { stood := { row := jsonBackUptoRow, standIns := [], harness := (true, "c0118c29d8542a321362170a91a04b85bfd658734d9c2d2e6fdf2b848a2e1e01"), looks := true }, kinds := [], alts := [], laidByText := true, laidKinds := [.data, .data, .data], laidTests := true, laidLooks := .later }
def JsonBackUptoCardSaid : Prop := Claim7.holds Tryd.pinned (.plain (OpenSpec.upto jsonBackSpec)) jsonBackUptoCard

/-- THE SECOND FORM's CARD OF 'shipwrightlaw23.JsonFirst'. -/
def jsonFirstUptoCard : Claim7 := { stood := { row := jsonFirstUptoRow, standIns := [], harness := (true, "c0118c29d8542a321362170a91a04b85bfd658734d9c2d2e6fdf2b848a2e1e01"), looks := true }, kinds := [], alts := [], laidByText := true, laidKinds := [.data, .data, .data], laidTests := true, laidLooks := .later }
def JsonFirstUptoCardSaid : Prop := Claim7.holds Tryd.pinned (.plain (OpenSpec.upto jsonFirstSpec)) jsonFirstUptoCard

/-- THE SECOND FORM's CARD OF 'shipwrightlaw23.JsonTells'. -/
def jsonTellsUptoCard : Claim7 := { stood := { row := jsonTellsUptoRow, standIns := [], harness := (true, "c0118c29d8542a321362170a91a04b85bfd658734d9c2d2e6fdf2b848a2e1e01"), looks := true }, kinds := [], alts := [], laidByText := true, laidKinds := [.data, .data, .data], laidTests := true, laidLooks := .later }
def JsonTellsUptoCardSaid : Prop := Claim7.holds Tryd.pinned (.plain (OpenSpec.upto jsonTellsSpec)) jsonTellsUptoCard
end Rows
end Go.Proofs.YtimioelnnhnbiaaDoor
