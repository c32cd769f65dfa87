/-
  DERIVED. GIVEN WITH THE SEED: THE CARDS: each row of YtimioelnnhnbiaaGreatDoorRows.lean that lists a variable, with what it lists TIED to the program's text (the seventh form; the later family's looks); each row that meets fmt, with fmt's text TOLD by the authors' own Lean function (tested against real Go, not proved from fmt's source: count such statements apart). THE CARD IS WHAT COUNTS. Prove the row's statement (the work); the ties are given (YtimioelnnhnbiaaGreatDoorTie.lean); close each card by the builder's one call (the guide's Derived/Test/ToyasCard.lean, 'card_holds'). Laid BY PROGRAM, IN A SANDBOX (cutbox-door.mjs). By AI agents, Wed Nov 11 2026. No macro, syntax, notation, axiom, sorry.
-/
import Derived.Test.YtimioelnnhnbiaaGreatDoorRows
import GoSem.ClaimSeven
namespace Go.Proofs.YtimioelnnhnbiaaGreatDoor
namespace Rows

/-- THE TIED CARD OF 'shipwrightlaw23.JsonTakes'. -/
def jsonTakesCard : Claim7 := { stood := { row := jsonTakesRow, standIns := [], harness := (true, "8eb81f9e700fb90583417ad7fdb6862e9a17af0933eca87c97b9b3f69ec57cc8"), looks := true }, kinds := [], alts := [], laidByText := true, laidKinds := [.data, .data, .data], laidTests := true, laidLooks := .later }
def JsonTakesCardSaid : Prop := Claim7.holds Tryz.pinned (.plain (OpenSpec.ofChange jsonTakesSpec)) jsonTakesCard

/-- THE TIED CARD OF 'shipwrightlaw23.JsonAsks'. -/
def jsonAsksCard : Claim7 := { stood := { row := jsonAsksRow, standIns := [], harness := (true, "8eb81f9e700fb90583417ad7fdb6862e9a17af0933eca87c97b9b3f69ec57cc8"), looks := true }, kinds := [], alts := [], laidByText := true, laidKinds := [.data, .data, .data], laidTests := true, laidLooks := .later }
def JsonAsksCardSaid : Prop := Claim7.holds Tryz.pinned (.plain (OpenSpec.ofChange jsonAsksSpec)) jsonAsksCard

/-- THE SECOND FORM's CARD OF 'shipwrightlaw23.JsonTakes'. -/
def jsonTakesUptoCard : Claim7 := { stood := { row := jsonTakesUptoRow, standIns := [], harness := (true, "8eb81f9e700fb90583417ad7fdb6862e9a17af0933eca87c97b9b3f69ec57cc8"), looks := true }, kinds := [], alts := [], laidByText := true, laidKinds := [.data, .data, .data], laidTests := true, laidLooks := .later }
def JsonTakesUptoCardSaid : Prop := Claim7.holds Tryz.pinned (.plain (OpenSpec.upto jsonTakesSpec)) jsonTakesUptoCard

/-- THE SECOND FORM's CARD OF 'shipwrightlaw23.JsonAsks'. -/
def jsonAsksUptoCard : Claim7 := { stood := { row := jsonAsksUptoRow, standIns := [], harness := (true, "8eb81f9e700fb90583417ad7fdb6862e9a17af0933eca87c97b9b3f69ec57cc8"), looks := true }, kinds := [], alts := [], laidByText := true, laidKinds := [.data, .data, .data], laidTests := true, laidLooks := .later }
def JsonAsksUptoCardSaid : Prop := Claim7.holds Tryz.pinned (.plain (OpenSpec.upto jsonAsksSpec)) jsonAsksUptoCard
end Rows
end Go.Proofs.YtimioelnnhnbiaaGreatDoor
