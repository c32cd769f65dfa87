/-
  THE WALKS, twenty-first part: slices.EqualFunc over events; Same of package script. CONDITIONS: the events lie as EvsAt says.
-/
import Derived.Test.YthpojljfmipngaaGreatDoorWalkO
namespace Go.Proofs.YthpojljfmipngaaGreatDoor
open Go.RowKit
theorem EvsAt.lt {w : World} {A : Option Addr} {l : List Sc.Ev} (h : EvsAt w A l) (hne : l ≠ []) : ∃ b off, A = some ⟨b, off, none⟩ ∧ b < w.heap.size := by
  obtain ⟨b, off, h1, h2, _⟩ := h hne
  exact ⟨b, off, h1, h2⟩
end Go.Proofs.YthpojljfmipngaaGreatDoor
