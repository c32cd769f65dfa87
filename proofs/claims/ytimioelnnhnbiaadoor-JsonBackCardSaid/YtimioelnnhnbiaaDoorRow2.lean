/-
  A whole number as an argument. CONDITIONS: none.
-/
import Derived.Test.YtimioelnnhnbiaaDoorRow
namespace Go.Proofs.YtimioelnnhnbiaaDoor
open Go.RowKit
theorem open_int3 {H : Type} {enc : TypeId × Value → H} {w : World} {held : Bool} {fuel : Nat} {cs : List Value} {x : DataW H × List MemPlace} (h : DataW.trod enc Tryd.prog w 0 (fun _ => true) held fuel 3 cs = some x) :
    ∃ z : Int, cs = [.int .i64 z] ∧ -9223372036854775808 ≤ z ∧ z ≤ 9223372036854775807 := by
  obtain ⟨z0, e0, _, hw⟩ := DataW.trod_int und3 h
  exact ⟨z0, e0, wf_int hw⟩
end Go.Proofs.YtimioelnnhnbiaaDoor
