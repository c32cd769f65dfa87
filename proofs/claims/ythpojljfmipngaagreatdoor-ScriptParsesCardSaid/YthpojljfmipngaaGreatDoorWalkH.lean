/-
  THE WALKS, eighth part: fields and setup hand over a row of pointers in a block of its own; words; event of script's writer. CONDITIONS: as each says.
-/
import Derived.Test.YthpojljfmipngaaGreatDoorWalkG
namespace Go.Proofs.YthpojljfmipngaaGreatDoor
open Go.RowKit
theorem row_new (w : World) (C : Array Value) (bx : Nat) (os : List Nat) (h : C = (ptrsOf bx os).toArray) : PtrRow (w.alloc (.cells C 72)) (some ⟨w.heap.size, 0, none⟩) bx os := fun _ => ⟨w.heap.size, rfl, by rw [← h]; exact heap_alloc_new w _⟩
theorem PtrRow.drewN {w : World} {A : Option Addr} {bx : Nat} {os : List Nat} (h : PtrRow w A bx os) (q : Nat) : PtrRow (w.drewN q) A bx os := h
theorem PtrRow.next {w w' : World} {A : Option Addr} {bx : Nat} {os : List Nat} (h : PtrRow w A bx os) (hb : Below w.heap.size w w') : PtrRow w' A bx os := fun hne => by
  obtain ⟨g, h1, h2⟩ := h hne
  exact ⟨g, h1, blk_next hb h2⟩
theorem PtrRow.cells {w : World} {A : Option Addr} {bx : Nat} {os : List Nat} (h : PtrRow w A bx os) : CellsAt w A (ptrsOf bx os) := fun hne => by
  obtain ⟨g, h1, h2⟩ := h (by intro e; subst e; exact hne rfl)
  refine ⟨g, 0, h1, (Array.getElem?_eq_some_iff.1 h2).1, fun i v hi => ?_⟩
  rw [Nat.zero_add, blk_cells h2 i, List.getElem?_toArray, hi]
set_option maxRecDepth 100000 in
set_option maxHeartbeats 4000000 in
theorem fields_row (b : Nat) (k : Int) (w : World) (hk : w.cell? ⟨b, 0, none⟩ = some (.int .i64 k)) :
    Calls Tryz.prog 32 #[.pointer (some ⟨b, 0, none⟩)] w fun e w' => ∃ A, e = .returned (.slice A (Sc.offs k).length (Sc.offs k).length) ∧ PtrRow w' A b (Sc.offs k) ∧ Below w.heap.size w w' := by
  by_cases h1 : k = 1
  · subst h1
    go_enter Tryz.func32, Tryz.ntmps32
    go_wp2_with fail
    go_ret
    exact ⟨_, rfl, row_new w _ _ _ rfl, below_box _ _⟩
  by_cases h2 : k = 2
  · subst h2
    go_enter Tryz.func32, Tryz.ntmps32
    go_wp2_with fail
    go_region
    go_wp2_with fail
    go_ret
    exact ⟨_, rfl, (row_new w _ _ _ rfl).drewN 1, below_drewN (below_box _ _) 1⟩
  by_cases h3 : k = 3
  · subst h3
    go_enter Tryz.func32, Tryz.ntmps32
    go_wp2_with fail
    go_ret
    exact ⟨_, rfl, row_new w _ _ _ rfl, below_box _ _⟩
  by_cases h4 : k = 4
  · subst h4
    go_enter Tryz.func32, Tryz.ntmps32
    go_wp2_with fail
    go_ret
    exact ⟨_, rfl, row_new w _ _ _ rfl, below_box _ _⟩
  by_cases h5 : k = 5
  · subst h5
    go_enter Tryz.func32, Tryz.ntmps32
    go_wp2_with fail
    go_ret
    exact ⟨_, rfl, row_new w _ _ _ rfl, below_box _ _⟩
  by_cases h6 : k = 6
  · subst h6
    go_enter Tryz.func32, Tryz.ntmps32
    go_wp2_with fail
    go_region
    go_wp2_with fail
    go_ret
    exact ⟨_, rfl, (row_new w _ _ _ rfl).drewN 1, below_drewN (below_box _ _) 1⟩
  by_cases h8 : k = 8
  · subst h8
    go_enter Tryz.func32, Tryz.ntmps32
    go_wp2_with fail
    go_ret
    exact ⟨_, rfl, row_new w _ _ _ rfl, below_box _ _⟩
  by_cases h9 : k = 9
  · subst h9
    go_enter Tryz.func32, Tryz.ntmps32
    go_wp2_with fail
    go_region
    go_wp2_with fail
    go_ret
    exact ⟨_, rfl, (row_new w _ _ _ rfl).drewN 1, below_drewN (below_box _ _) 1⟩
  by_cases h10 : k = 10
  · subst h10
    go_enter Tryz.func32, Tryz.ntmps32
    go_wp2_with fail
    go_ret
    exact ⟨_, rfl, row_new w _ _ _ rfl, below_box _ _⟩
  by_cases h11 : k = 11
  · subst h11
    go_enter Tryz.func32, Tryz.ntmps32
    go_wp2_with fail
    go_region
    go_wp2_with fail
    go_ret
    exact ⟨_, rfl, (row_new w _ _ _ rfl).drewN 1, below_drewN (below_box _ _) 1⟩
  have e0 : Sc.offs k = [] := by unfold Sc.offs; simp [*]
  have b1 : (k == 1) = false := beq_eq_false_iff_ne.2 h1
  have b2 : (k == 2) = false := beq_eq_false_iff_ne.2 h2
  have b3 : (k == 3) = false := beq_eq_false_iff_ne.2 h3
  have b4 : (k == 4) = false := beq_eq_false_iff_ne.2 h4
  have b5 : (k == 5) = false := beq_eq_false_iff_ne.2 h5
  have b6 : (k == 6) = false := beq_eq_false_iff_ne.2 h6
  have b8 : (k == 8) = false := beq_eq_false_iff_ne.2 h8
  have b9 : (k == 9) = false := beq_eq_false_iff_ne.2 h9
  have b10 : (k == 10) = false := beq_eq_false_iff_ne.2 h10
  have b11 : (k == 11) = false := beq_eq_false_iff_ne.2 h11
  clear h1 h2 h3 h4 h5 h6 h8 h9 h10 h11
  rw [e0]
  go_enter Tryz.func32, Tryz.ntmps32
  go_wp2_with fail
  go_ret
  exact ⟨_, rfl, fun h => absurd rfl h, Below.refl _ _⟩
set_option maxRecDepth 100000 in
set_option maxHeartbeats 1000000 in
theorem setup_row (b : Nat) (w : World) :
    Calls Tryz.prog 15 #[.pointer (some ⟨b, 0, none⟩)] w fun e w' => ∃ A, e = .returned (.slice A 2 2) ∧ PtrRow w' A b [0, 1] ∧ Below w.heap.size w w' := by
  go_enter Tryz.func15, Tryz.ntmps15
  go_wp2_with fail
  go_region
  go_wp2_with fail
  go_ret
  exact ⟨_, rfl, (row_new w _ _ _ rfl).drewN 1, below_drewN (below_box _ _) 1⟩
def wordCells : List Value := Sc.words.map fun s => .string ⟨s.toArray⟩
set_option maxHeartbeats 1000000 in
theorem words_any (w : World) :
    Calls Tryz.prog 31 #[] w fun e w' => e = .returned (.slice (some ⟨w.heap.size, 0, none⟩) 12 12) ∧ w' = w.alloc (.cells wordCells.toArray 9) := by
  go_enter Tryz.func31, Tryz.ntmps31
  go_wp2_with fail
  go_ret
  exact ⟨rfl, rfl⟩
end Go.Proofs.YthpojljfmipngaaGreatDoor
