/-
  THE WALKS, tenth part: the reader's block; token, pair, escaped of script's reader. CONDITIONS: the reader lies in a block of its own; Env; the text is not too long.
-/
import Derived.Test.YthpojljfmipngaaGreatDoorPure2
import Derived.Test.YthpojljfmipngaaGreatDoorWalkF
import Derived.Deep.RegionWith
import Derived.Deep.CutBlock
namespace Go.Proofs.YthpojljfmipngaaGreatDoor
open Go.RowKit
/-- Nothing that stood has turned, but the blocks of S. -/
structure But (S : List Nat) (a w : World) : Prop where
  os : w.os = a.os
  tape : w.tape = a.tape
  output : w.output = a.output
  size : a.heap.size ≤ w.heap.size
  block : ∀ j, j < a.heap.size → j ∉ S → w.heap[j]? = a.heap[j]?
theorem But.refl (S : List Nat) (a : World) : But S a a := ⟨rfl, rfl, rfl, Nat.le_refl _, fun _ _ _ => rfl⟩
theorem But.trans {S : List Nat} {a b c : World} (h : But S a b) (k : But S b c) : But S a c :=
  ⟨k.os.trans h.os, k.tape.trans h.tape, k.output.trans h.output, Nat.le_trans h.size k.size, fun j hj hs => (k.block j (Nat.lt_of_lt_of_le hj h.size) hs).trans (h.block j hj hs)⟩
theorem But.of {S : List Nat} {a w : World} (h : Below a.heap.size a w) : But S a w := ⟨h.os, h.tape, h.output, h.size, fun j hj _ => h.block j hj⟩
theorem But.to {S : List Nat} {a w : World} (h : But S a w) {B : Nat} (hB : B ≤ a.heap.size) (hS : ∀ j ∈ S, B ≤ j) : Below B a w :=
  ⟨h.os, h.tape, h.output, h.size, fun j hj => h.block j (Nat.lt_of_lt_of_le hj hB) (fun hm => by have := hS j hm; omega)⟩
theorem But.mono {S T : List Nat} {a w : World} (h : But S a w) (hST : ∀ j ∈ S, j ∈ T) : But T a w := ⟨h.os, h.tape, h.output, h.size, fun j hj hs => h.block j hj (fun hm => hs (hST j hm))⟩
theorem But.blk {S : List Nat} {a w : World} (h : But S a w) {j : Nat} {o : Obj} (hj : a.heap[j]? = some o) (hs : j ∉ S) : w.heap[j]? = some o :=
  (h.block j (Array.getElem?_eq_some_iff.1 hj).1 hs).trans hj
/-- A store into a block. -/
theorem but_set {w : World} {b i : Nat} {cs : Array Value} {t : TypeId} {fz : Nat × Nat} (v : Value) (h : w.heap[b]? = some (.cells cs t fz)) :
    But [b] w (w.setCell ⟨b, i, none⟩ v) ∧ (w.setCell ⟨b, i, none⟩ v).heap[b]? = some (.cells (cs.setIfInBounds i v) t fz) := by
  rw [setCell_eq_setRow w b i cs t fz v h]
  refine ⟨⟨rfl, rfl, rfl, by simp, fun j hj hs => setRow_other w b j _ (by simpa using hs)⟩, setRow_heap w b cs _ t fz h⟩
/-- A reader in a block of its own. -/
def RdAt (w : World) (b : Nat) (r : Sc.Rd) : Prop := w.heap[b]? = some (.cells #[.string ⟨r.rest.toArray⟩, .bool r.bad] 66 (0, 0))
theorem RdAt.cells {w : World} {b : Nat} {r : Sc.Rd} (h : RdAt w b r) : w.cell? ⟨b, 0, none⟩ = some (.string ⟨r.rest.toArray⟩) ∧ w.cell? ⟨b, 1, none⟩ = some (.bool r.bad) ∧ w.frozen? ⟨b, 0, none⟩ = false ∧ w.frozen? ⟨b, 1, none⟩ = false ∧ b < w.heap.size :=
  ⟨(blk_cells h 0).trans rfl, (blk_cells h 1).trans rfl, blk_free h 0, blk_free h 1, (Array.getElem?_eq_some_iff.1 h).1⟩
theorem RdAt.rest {w : World} {b : Nat} {r : Sc.Rd} (h : RdAt w b r) (l : Sc.Bs) : RdAt (w.setCell ⟨b, 0, none⟩ (.string ⟨l.toArray⟩)) b ⟨l, r.bad⟩ := (but_set (i := 0) (.string ⟨l.toArray⟩) h).2
theorem RdAt.bad {w : World} {b : Nat} {r : Sc.Rd} (h : RdAt w b r) (q : Bool) : RdAt (w.setCell ⟨b, 1, none⟩ (.bool q)) b ⟨r.rest, q⟩ := (but_set (i := 1) (.bool q) h).2
theorem RdAt.next {w w' : World} {b : Nat} {r : Sc.Rd} (h : RdAt w b r) (hb : Below w.heap.size w w') : RdAt w' b r := blk_next hb h
theorem cut_any (l : Sc.Bs) (c : UInt8) (w : World) (henv : Env w) (hlen : l.length < 4294967281) :
    Calls Tryz.prog 10 #[.string ⟨l.toArray⟩, .string ⟨#[c]⟩] w fun e w' => e = .returned (.tuple #[.string ⟨(Sc.upto c l).1.toArray⟩, .string ⟨(Sc.upto c l).2.1.toArray⟩, .bool (Sc.upto c l).2.2]) ∧ Below w.heap.size w w' := by
  obtain ⟨m, hm⟩ := henv.maxLen
  refine (Tryz.strings_Cut _ _ m _ (by rw [Lib.size_eq]; exact hlen) hm).mono ?_
  rintro e w1 ⟨rfl, n, rfl⟩
  rw [← Sc.cut_eq]
  exact ⟨rfl, below_drewN (Below.refl _ _) n⟩
set_option maxRecDepth 100000 in
set_option maxHeartbeats 4000000 in
theorem token_any (b : Nat) (r : Sc.Rd) (w : World) (henv : Env w) (h : RdAt w b r) (hlen : r.rest.length < 4294967281) :
    Calls Tryz.prog 23 #[.pointer (some ⟨b, 0, none⟩)] w fun e w' => e = .returned (.string ⟨(Sc.token r).1.toArray⟩) ∧ RdAt w' b (Sc.token r).2 ∧ But [b] w w' := by
  obtain ⟨c0, c1, f0, f1, hlt⟩ := h.cells
  have HC := Lib.hid (show Sc.token r = ((Sc.upto 32 r.rest).1, ⟨(Sc.upto 32 r.rest).2.1, r.bad || ((Sc.upto 32 r.rest).2.2 && (Sc.upto 32 r.rest).2.1.isEmpty)⟩) from rfl)
  have HR := Lib.hid h
  have HENV := Lib.hid henv
  clear h henv
  go_enter Tryz.func23, Tryz.ntmps23
  go_wp2_with fail
  refine (cut_any r.rest 32 _ HENV.out hlen).mono ?_
  rintro e w1 ⟨rfl, hb1⟩
  have H1 := Lib.hid (HR.out.next hb1)
  have B1 := Lib.hid (But.of (S := [b]) hb1)
  clear c0 c1 f0 f1 HR HENV hb1 hlen hlt
  obtain ⟨c0, c1, f0, f1, hlt⟩ := H1.out.cells
  have H2 := Lib.hid (H1.out.rest (Sc.upto 32 r.rest).2.1)
  have B2 := Lib.hid (B1.out.trans (but_set (i := 0) (.string ⟨(Sc.upto 32 r.rest).2.1.toArray⟩) H1.out).1)
  obtain ⟨d0, d1, g0, g1, hlt2⟩ := H2.out.cells
  generalize Sc.upto 32 r.rest = u at HC H2 B2 d0 d1 g0 g1 hlt2 ⊢
  obtain ⟨s, t, q⟩ := u
  cases q
  · go_wp2_with fail
    go_ret
    refine ⟨show Ending.returned (Value.string ⟨s.toArray⟩) = _ by rw [HC.out], ?_, B2.out⟩
    have := H2.out
    rw [HC.out]
    simpa using this
  cases t
  · go_wp2_with fail
    go_ret
    refine ⟨show Ending.returned (Value.string ⟨s.toArray⟩) = _ by rw [HC.out], ?_, B2.out.trans (but_set (i := 1) (.bool true) H2.out).1⟩
    have := H2.out.bad true
    rw [HC.out]
    simpa using this
  · go_wp2_with fail
    go_ret
    refine ⟨show Ending.returned (Value.string ⟨s.toArray⟩) = _ by rw [HC.out], ?_, B2.out⟩
    have := H2.out
    rw [HC.out]
    simpa using this
end Go.Proofs.YthpojljfmipngaaGreatDoor
