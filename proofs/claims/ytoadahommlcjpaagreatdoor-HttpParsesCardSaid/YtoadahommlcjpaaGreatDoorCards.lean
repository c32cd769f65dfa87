/-
  DERIVED. GIVEN WITH THE SEED: THE CARDS: each row of YtoadahommlcjpaaGreatDoorRows.lean that lists a variable, with what it lists TIED to the program's text (the seventh form; the later family's looks); each row that meets fmt, with fmt's text TOLD by the authors' own Lean function (tested against real Go, not proved from fmt's source: count such statements apart). THE CARD IS WHAT COUNTS. Prove the row's statement (the work); the ties are given (YtoadahommlcjpaaGreatDoorTie.lean); close each card by the builder's one call (the guide's Derived/Test/ToyasCard.lean, 'card_holds'). Laid BY PROGRAM, IN A SANDBOX (cutbox-door.mjs). By AI agents, Wed Nov 11 2026. No macro, syntax, notation, axiom, sorry.
-/
import Derived.Test.YtoadahommlcjpaaGreatDoorRows
import GoSem.ClaimSeven
namespace Go.Proofs.YtoadahommlcjpaaGreatDoor
namespace Rows

/-- THE TIED CARD OF 'shipwrightlaw24.HttpAgain'. -/
def httpAgainCard : Claim7 := { stood := { row := httpAgainRow, standIns := [], harness := (true, "10cecc9930c92001451746d2c37cf088a83978a49685bf2b9e4ba2afff834da4"), looks := true }, kinds := [], alts := [], laidByText := true, laidKinds := [.data, .data, .data, .data, .sentinel, .sentinel, .sentinel, .pinned], laidTests := true, laidLooks := .later }
def HttpAgainCardSaid : Prop := Claim7.holds Tryz.pinned (.plain (OpenSpec.ofChange httpAgainSpec)) httpAgainCard

/-- THE TIED CARD OF 'shipwrightlaw24.HttpAnswers'. -/
def httpAnswersCard : Claim7 := { stood := { row := httpAnswersRow, standIns := [], harness := (true, "10cecc9930c92001451746d2c37cf088a83978a49685bf2b9e4ba2afff834da4"), looks := true }, kinds := [], alts := [], laidByText := true, laidKinds := [.data, .data, .data, .data, .sentinel, .sentinel, .sentinel, .pinned], laidTests := true, laidLooks := .later }
def HttpAnswersCardSaid : Prop := Claim7.holds Tryz.pinned (.plain (OpenSpec.ofChange httpAnswersSpec)) httpAnswersCard

/-- THE TIED CARD OF 'shipwrightlaw24.HttpResponses'. -/
def httpResponsesCard : Claim7 := { stood := { row := httpResponsesRow, standIns := [], harness := (true, "10cecc9930c92001451746d2c37cf088a83978a49685bf2b9e4ba2afff834da4"), looks := true }, kinds := [], alts := [], laidByText := true, laidKinds := [.data, .data, .data, .data, .sentinel, .sentinel, .sentinel, .pinned], laidTests := true, laidLooks := .later }
def HttpResponsesCardSaid : Prop := Claim7.holds Tryz.pinned (.plain (OpenSpec.ofChange httpResponsesSpec)) httpResponsesCard

/-- THE TIED CARD OF 'shipwrightlaw24.HttpRequests'. -/
def httpRequestsCard : Claim7 := { stood := { row := httpRequestsRow, standIns := [], harness := (true, "10cecc9930c92001451746d2c37cf088a83978a49685bf2b9e4ba2afff834da4"), looks := true }, kinds := [], alts := [], laidByText := true, laidKinds := [.data, .data, .data, .data, .sentinel, .sentinel, .sentinel, .pinned], laidTests := true, laidLooks := .later }
def HttpRequestsCardSaid : Prop := Claim7.holds Tryz.pinned (.plain (OpenSpec.ofChange httpRequestsSpec)) httpRequestsCard

/-- THE TIED CARD OF 'shipwrightlaw24.HttpParses'. -/
def httpParsesCard : Claim7 := { stood := { row := httpParsesRow, standIns := [], harness := (true, "10cecc9930c92001451746d2c37cf088a83978a49685bf2b9e4ba2afff834da4"), looks := true }, kinds := [], alts := [], laidByText := true, laidKinds := [.data, .data, .data, .data, .sentinel, .sentinel, .sentinel, .pinned], laidTests := true, laidLooks := .later }
def HttpParsesCardSaid : Prop := Claim7.holds Tryz.pinned (.plain (OpenSpec.ofChange httpParsesSpec)) httpParsesCard

/-- THE TIED CARD OF 'shipwrightlaw24.HttpTells'. -/
def httpTellsCard : Claim7 := { stood := { row := httpTellsRow, standIns := [], harness := (true, "10cecc9930c92001451746d2c37cf088a83978a49685bf2b9e4ba2afff834da4"), looks := true }, kinds := [], alts := [], laidByText := true, laidKinds := [.data, .data, .data, .data, .sentinel, .sentinel, .sentinel, .pinned], laidTests := true, laidLooks := .later }
def HttpTellsCardSaid : Prop := Claim7.holds Tryz.pinned (.plain (OpenSpec.ofChange httpTellsSpec)) httpTellsCard

/-- THE TIED CARD OF 'shipwrightlaw24.HttpSame'. -/
def httpSameCard : Claim7 := { stood := { row := httpSameRow, standIns := [], harness := (true, "10cecc9930c92001451746d2c37cf088a83978a49685bf2b9e4ba2afff834da4"), looks := true }, kinds := [], alts := [], laidByText := true, laidKinds := [.data, .data, .data, .data, .sentinel, .sentinel, .sentinel, .pinned], laidTests := true, laidLooks := .later }
def HttpSameCardSaid : Prop := Claim7.holds Tryz.pinned (.plain (OpenSpec.ofChange httpSameSpec)) httpSameCard

/-- THE TIED CARD OF 'shipwrightlaw24.HttpBack'. -/
def httpBackCard : Claim7 := { stood := { row := httpBackRow, standIns := [], harness := (true, "10cecc9930c92001451746d2c37cf088a83978a49685bf2b9e4ba2afff834da4"), looks := true }, kinds := [], alts := [], laidByText := true, laidKinds := [.data, .data, .data, .data, .sentinel, .sentinel, .sentinel, .pinned], laidTests := true, laidLooks := .later }
def HttpBackCardSaid : Prop := Claim7.holds Tryz.pinned (.plain (OpenSpec.ofChange httpBackSpec)) httpBackCard

/-- THE SECOND FORM's CARD OF 'shipwrightlaw24.HttpAgain'. -/
def httpAgainUptoCard : Claim7 := { stood := { row := httpAgainUptoRow, standIns := [], harness := (true, "10cecc9930c92001451746d2c37cf088a83978a49685bf2b9e4ba2afff834da4"), looks := true }, kinds := [], alts := [], laidByText := true, laidKinds := [.data, .data, .data, .data, .sentinel, .sentinel, .sentinel, .pinned], laidTests := true, laidLooks := .later }
def HttpAgainUptoCardSaid : Prop := Claim7.holds Tryz.pinned (.plain (OpenSpec.upto httpAgainSpec)) httpAgainUptoCard

/-- THE SECOND FORM's CARD OF 'shipwrightlaw24.HttpAnswers'. -/
def httpAnswersUptoCard : Claim7 := { stood := { row := httpAnswersUptoRow, standIns := [], harness := (true, "10cecc9930c92001451746d2c37cf088a83978a49685bf2b9e4ba2afff834da4"), looks := true }, kinds := [], alts := [], laidByText := true, laidKinds := [.data, .data, .data, .data, .sentinel, .sentinel, .sentinel, .pinned], laidTests := true, laidLooks := .later }
def HttpAnswersUptoCardSaid : Prop := Claim7.holds Tryz.pinned (.plain (OpenSpec.upto httpAnswersSpec)) httpAnswersUptoCard

/-- THE SECOND FORM's CARD OF 'shipwrightlaw24.HttpResponses'. -/
def httpResponsesUptoCard : Claim7 := { stood := { row := httpResponsesUptoRow, standIns := [], harness := (true, "10cecc9930c92001451746d2c37cf088a83978a49685bf2b9e4ba2afff834da4"), looks := true }, kinds := [], alts := [], laidByText := true, laidKinds := [.data, .data, .data, .data, .sentinel, .sentinel, .sentinel, .pinned], laidTests := true, laidLooks := .later }
def HttpResponsesUptoCardSaid : Prop := Claim7.holds Tryz.pinned (.plain (OpenSpec.upto httpResponsesSpec)) httpResponsesUptoCard

/-- THE SECOND FORM's CARD OF 'shipwrightlaw24.HttpRequests'. -/
def httpRequestsUptoCard : Claim7 := { stood := { row := httpRequestsUptoRow, standIns := [], harness := (true, "10cecc9930c92001451746d2c37cf088a83978a49685bf2b9e4ba2afff834da4"), looks := true }, kinds := [], alts := [], laidByText := true, laidKinds := [.data, .data, .data, .data, .sentinel, .sentinel, .sentinel, .pinned], laidTests := true, laidLooks := .later }
def HttpRequestsUptoCardSaid : Prop := Claim7.holds Tryz.pinned (.plain (OpenSpec.upto httpRequestsSpec)) httpRequestsUptoCard

/-- THE SECOND FORM's CARD OF 'shipwrightlaw24.HttpParses'. -/
def httpParsesUptoCard : Claim7 := { stood := { row := httpParsesUptoRow, standIns := [], harness := (true, "10cecc9930c92001451746d2c37cf088a83978a49685bf2b9e4ba2afff834da4"), looks := true }, kinds := [], alts := [], laidByText := true, laidKinds := [.data, .data, .data, .data, .sentinel, .sentinel, .sentinel, .pinned], laidTests := true, laidLooks := .later }
def HttpParsesUptoCardSaid : Prop := Claim7.holds Tryz.pinned (.plain (OpenSpec.upto httpParsesSpec)) httpParsesUptoCard

/-- THE SECOND FORM's CARD OF 'shipwrightlaw24.HttpTells'. -/
def httpTellsUptoCard : Claim7 := { stood := { row := httpTellsUptoRow, standIns := [], harness := (true, "10cecc9930c92001451746d2c37cf088a83978a49685bf2b9e4ba2afff834da4"), looks := true }, kinds := [], alts := [], laidByText := true, laidKinds := [.data, .data, .data, .data, .sentinel, .sentinel, .sentinel, .pinned], laidTests := true, laidLooks := .later }
def HttpTellsUptoCardSaid : Prop := Claim7.holds Tryz.pinned (.plain (OpenSpec.upto httpTellsSpec)) httpTellsUptoCard

/-- THE SECOND FORM's CARD OF 'shipwrightlaw24.HttpSame'. -/
def httpSameUptoCard : Claim7 := { stood := { row := httpSameUptoRow, standIns := [], harness := (true, "10cecc9930c92001451746d2c37cf088a83978a49685bf2b9e4ba2afff834da4"), looks := true }, kinds := [], alts := [], laidByText := true, laidKinds := [.data, .data, .data, .data, .sentinel, .sentinel, .sentinel, .pinned], laidTests := true, laidLooks := .later }
def HttpSameUptoCardSaid : Prop := Claim7.holds Tryz.pinned (.plain (OpenSpec.upto httpSameSpec)) httpSameUptoCard

/-- THE SECOND FORM's CARD OF 'shipwrightlaw24.HttpBack'. -/
def httpBackUptoCard : Claim7 := { stood := { row := httpBackUptoRow, standIns := [], harness := (true, "10cecc9930c92001451746d2c37cf088a83978a49685bf2b9e4ba2afff834da4"), looks := true }, kinds := [], alts := [], laidByText := true, laidKinds := [.data, .data, .data, .data, .sentinel, .sentinel, .sentinel, .pinned], laidTests := true, laidLooks := .later }
def HttpBackUptoCardSaid : Prop := Claim7.holds Tryz.pinned (.plain (OpenSpec.upto httpBackSpec)) httpBackUptoCard
end Rows
end Go.Proofs.YtoadahommlcjpaaGreatDoor
