/-
  THE WALKS, first part: rows in memory; fields, setup, wide of package script; slices.Equal over bools.
-/
import Derived.Test.YthpojljfmipngaaGreatDoorRows
import Derived.Test.YthpojljfmipngaaGreatDoorPure
import Derived.WalkKit
import Derived.WalkSpells
import Derived.WalkLawsBesides
import Derived.BigQuiet
import Derived.Lib.Hide
namespace Go.Proofs.YthpojljfmipngaaGreatDoor
open Go.RowKit
theorem ret_bool {a b : Bool} (h : a = b) : Ending.returned (.bool a) = .returned (.bool b) := by rw [h]
theorem ret_boolI {a b : Bool} (h : a = true ↔ b = true) : Ending.returned (.bool a) = .returned (.bool b) := by rw [Bool.eq_iff_iff.2 h]
theorem ret_int {k : IntKind} {a b : Int} (h : a = b) : Ending.returned (.int k a) = .returned (.int k b) := by rw [h]
theorem retv {a b : Value} (h : a = b) : Ending.returned a = .returned b := by rw [h]
theorem below_box (w : World) (o : Obj) : Below w.heap.size w (w.alloc o) := (Below.refl _ _).alloc (Nat.le_refl _) o
theorem below_drewN {B : Nat} {a w : World} (h : Below B a w) (n : Nat) : Below B a (w.drewN n) := ⟨h.os, h.tape, h.output, h.size, h.block⟩
theorem blk_cells {w : World} {b : Nat} {t : TypeId} {cs : Array Value} (h : w.heap[b]? = some (.cells cs t (0, 0))) (i : Nat) : w.cell? ⟨b, i, none⟩ = cs[i]? := cell_of_row w b i cs t (0, 0) h
theorem blk_free {w : World} {b : Nat} {t : TypeId} {cs : Array Value} (h : w.heap[b]? = some (.cells cs t (0, 0))) (i : Nat) : w.frozen? ⟨b, i, none⟩ = false := by simp [World.frozen?, h]
theorem blk_next {w w' : World} {b : Nat} {o : Obj} (hb : Below w.heap.size w w') (h : w.heap[b]? = some o) : w'.heap[b]? = some o := by
  have hlt : b < w.heap.size := (Array.getElem?_eq_some_iff.1 h).1
  exact (hb.block b hlt).trans h
/-- A row of values that each fill one cell. -/
def CellsAt (w : World) (A : Option Addr) (vs : List Value) : Prop :=
  vs ≠ [] → ∃ b off, A = some ⟨b, off, none⟩ ∧ b < w.heap.size ∧ ∀ i v, vs[i]? = some v → w.cell? ⟨b, off + i, none⟩ = some v
theorem CellsAt.nil (w : World) (A : Option Addr) : CellsAt w A [] := fun h => absurd rfl h
theorem CellsAt.next {w w' : World} {A : Option Addr} {vs : List Value} (h : CellsAt w A vs) {B : Nat} (hb : Below B w w') (hB : w.heap.size ≤ B) : CellsAt w' A vs := fun hne => by
  obtain ⟨b, off, h1, h2, h3⟩ := h hne
  exact ⟨b, off, h1, Nat.lt_of_lt_of_le h2 hb.size, fun i v hi => (hb.cell (p := ⟨b, off + i, none⟩) (by show b < B; omega)).trans (h3 i v hi)⟩
theorem CellsAt.at_ {w wr : World} {A : Option Addr} {vs : List Value} (h : CellsAt w A vs) (hb : Below w.heap.size w wr) {k : Nat} {v : Value} (hv : vs[k]? = some v) :
    ∃ b off, A = some ⟨b, off, none⟩ ∧ b < w.heap.size ∧ wr.cell? ⟨b, off + k, none⟩ = some v := by
  obtain ⟨b, off, h1, h2, h3⟩ := h (by intro e; subst e; simp at hv)
  exact ⟨b, off, h1, h2, (hb.cell (p := ⟨b, off + k, none⟩) h2).trans (h3 k v hv)⟩
def boolCells (l : List Bool) : List Value := l.map Value.bool
theorem boolCells_get {l : List Bool} {k : Nat} {b : Bool} (h : l[k]? = some b) : (boolCells l)[k]? = some (.bool b) := by unfold boolCells; rw [List.getElem?_map, h]; rfl

set_option maxHeartbeats 2000000 in
theorem equalBools_any (l m : List Bool) (A B : Option Addr) (c d : Nat) (w : World) (hl : l.length ≤ 9223372036854775807) (hA : CellsAt w A (boolCells l)) (hB : CellsAt w B (boolCells m)) :
    Calls Tryz.prog 65 #[.slice A l.length c, .slice B m.length d] w fun e w' => e = .returned (.bool (decide (l = m))) ∧ ∃ n, w' = w.drewN n := by
  by_cases hlen : l.length = m.length
  · have hb0 : ((l.length : Int) != (m.length : Int)) = false := by rw [hlen]; simp
    have HL := Lib.hid hlen
    have hle : l.length ≤ m.length := by omega
    clear hlen
    go_enter Tryz.func65, Tryz.ntmps65
    go_wp2_with fail
    go_loopw [5, 13] (fun x i wr => ∃ k q : Nat, k ≤ l.length ∧ i = .int .i64 k ∧ Hid (l.take k = m.take k) ∧ wr = w.drewN q) (fun _ i _ => l.length - (intOf i).toNat)
    case atStart => exact ⟨0, 0, Nat.zero_le _, rfl, rfl, rfl⟩
    case round =>
      obtain ⟨k, q, hk, rfl, H, rfl⟩ := hrel
      have hbq : Below w.heap.size w (w.drewN q) := below_drewN (Below.refl _ _) q
      by_cases hlt : k < l.length
      · have hlt2 : k < m.length := by omega
        have h1 : l[k]? = some l[k] := List.getElem?_eq_getElem hlt
        have h2 : m[k]? = some m[k] := List.getElem?_eq_getElem hlt2
        obtain ⟨b1, o1, rfl, hb1, c1⟩ := hA.at_ (Below.refl _ _) (boolCells_get h1)
        obtain ⟨b2, o2, rfl, hb2, c2⟩ := hB.at_ (Below.refl _ _) (boolCells_get h2)
        have HT : Hid (l[k] = m[k] → l.take (k + 1) = m.take (k + 1)) := Lib.hid (fun e => by
          rw [List.take_succ_eq_append_getElem hlt, List.take_succ_eq_append_getElem hlt2, H.out, e])
        have HF : Hid (l[k] ≠ m[k] → l ≠ m) := Lib.hid (fun e he => e (by subst he; rfl))
        generalize l[k] = x at c1 HT HF
        generalize m[k] = y at c2 HT HF
        clear hA hB h1 h2 hbq
        cases x <;> cases y
        · have HR := Lib.hid (HT.out rfl)
          go_wp2_with fail
          go_quiet (fail)
          go_wp2_with fail
          go_roundw
          case rel => exact ⟨k + 1, _, by omega, by go_num, HR, rfl⟩
          case measure => simp [intOf]; omega
        · have HR := Lib.hid (decide_eq_false (HF.out (by decide)))
          go_wp2_with fail
          go_quiet (fail)
          go_wp2_with fail
          go_ret
          exact ⟨ret_bool HR.out.symm, _, World.drewN_drewN _ _ _⟩
        · have HR := Lib.hid (decide_eq_false (HF.out (by decide)))
          go_wp2_with fail
          go_quiet (fail)
          go_wp2_with fail
          go_ret
          exact ⟨ret_bool HR.out.symm, _, World.drewN_drewN _ _ _⟩
        · have HR := Lib.hid (HT.out rfl)
          go_wp2_with fail
          go_quiet (fail)
          go_wp2_with fail
          go_roundw
          case rel => exact ⟨k + 1, _, by omega, by go_num, HR, rfl⟩
          case measure => simp [intOf]; omega
      · have hE : l = m := by
          have h := H.out
          rw [List.take_of_length_le (by omega), List.take_of_length_le (by have := HL.out; omega)] at h
          exact h
        have HR := Lib.hid (decide_eq_true hE)
        clear hE
        go_wp2_with fail
        go_ret
        exact ⟨ret_bool HR.out.symm, q, rfl⟩
  · have hb0 : ((l.length : Int) != (m.length : Int)) = true := by rw [bne_iff_ne]; omega
    have HR := Lib.hid (decide_eq_false (fun e : l = m => hlen (by rw [e])))
    clear hlen
    go_enter Tryz.func65, Tryz.ntmps65
    go_wp2_with fail
    go_ret
    exact ⟨ret_bool HR.out.symm, 0, rfl⟩
def ptrsOf (b : Nat) (l : List Nat) : List Value := l.map fun o => .pointer (some ⟨b, o, none⟩)
theorem cells_new (w : World) (C : Array Value) (vs : List Value) (t : TypeId) (h : C = vs.toArray) : CellsAt (w.alloc (.cells C t)) (some ⟨w.heap.size, 0, none⟩) vs := fun _ => by
  subst h
  refine ⟨w.heap.size, 0, rfl, by simp, fun i v hi => ?_⟩
  rw [Nat.zero_add, blk_cells (heap_alloc_new w _) i, List.getElem?_toArray, hi]
theorem CellsAt.drewN {w : World} {A : Option Addr} {vs : List Value} (h : CellsAt w A vs) (q : Nat) : CellsAt (w.drewN q) A vs := h.next (below_drewN (Below.refl _ _) q) (Nat.le_refl _)
set_option maxRecDepth 100000 in
set_option maxHeartbeats 4000000 in
theorem fields_any (b : Nat) (k : Int) (w : World) (hk : w.cell? ⟨b, 0, none⟩ = some (.int .i64 k)) :
    Calls Tryz.prog 32 #[.pointer (some ⟨b, 0, none⟩)] w fun e w' => ∃ A, e = .returned (.slice A (Sc.offs k).length (Sc.offs k).length) ∧ CellsAt w' A (ptrsOf b (Sc.offs k)) ∧ Below w.heap.size w w' := by
  by_cases h1 : k = 1
  · subst h1
    go_enter Tryz.func32, Tryz.ntmps32
    go_wp2_with fail
    go_ret
    exact ⟨_, rfl, cells_new w _ _ 72 rfl, below_box _ _⟩
  by_cases h2 : k = 2
  · subst h2
    go_enter Tryz.func32, Tryz.ntmps32
    go_wp2_with fail
    go_region
    go_wp2_with fail
    go_ret
    exact ⟨_, rfl, (cells_new w _ _ 72 rfl).drewN 1, below_drewN (below_box _ _) 1⟩
  by_cases h3 : k = 3
  · subst h3
    go_enter Tryz.func32, Tryz.ntmps32
    go_wp2_with fail
    go_ret
    exact ⟨_, rfl, cells_new w _ _ 72 rfl, below_box _ _⟩
  by_cases h4 : k = 4
  · subst h4
    go_enter Tryz.func32, Tryz.ntmps32
    go_wp2_with fail
    go_ret
    exact ⟨_, rfl, cells_new w _ _ 72 rfl, below_box _ _⟩
  by_cases h5 : k = 5
  · subst h5
    go_enter Tryz.func32, Tryz.ntmps32
    go_wp2_with fail
    go_ret
    exact ⟨_, rfl, cells_new w _ _ 72 rfl, below_box _ _⟩
  by_cases h6 : k = 6
  · subst h6
    go_enter Tryz.func32, Tryz.ntmps32
    go_wp2_with fail
    go_region
    go_wp2_with fail
    go_ret
    exact ⟨_, rfl, (cells_new w _ _ 72 rfl).drewN 1, below_drewN (below_box _ _) 1⟩
  by_cases h8 : k = 8
  · subst h8
    go_enter Tryz.func32, Tryz.ntmps32
    go_wp2_with fail
    go_ret
    exact ⟨_, rfl, cells_new w _ _ 72 rfl, below_box _ _⟩
  by_cases h9 : k = 9
  · subst h9
    go_enter Tryz.func32, Tryz.ntmps32
    go_wp2_with fail
    go_region
    go_wp2_with fail
    go_ret
    exact ⟨_, rfl, (cells_new w _ _ 72 rfl).drewN 1, below_drewN (below_box _ _) 1⟩
  by_cases h10 : k = 10
  · subst h10
    go_enter Tryz.func32, Tryz.ntmps32
    go_wp2_with fail
    go_ret
    exact ⟨_, rfl, cells_new w _ _ 72 rfl, below_box _ _⟩
  by_cases h11 : k = 11
  · subst h11
    go_enter Tryz.func32, Tryz.ntmps32
    go_wp2_with fail
    go_region
    go_wp2_with fail
    go_ret
    exact ⟨_, rfl, (cells_new w _ _ 72 rfl).drewN 1, below_drewN (below_box _ _) 1⟩
  have e0 : Sc.offs k = [] := by unfold Sc.offs; simp [*]
  have b1 : (k == 1) = false := beq_eq_false_iff_ne.2 h1
  have b2 : (k == 2) = false := beq_eq_false_iff_ne.2 h2
  have b3 : (k == 3) = false := beq_eq_false_iff_ne.2 h3
  have b4 : (k == 4) = false := beq_eq_false_iff_ne.2 h4
  have b5 : (k == 5) = false := beq_eq_false_iff_ne.2 h5
  have b6 : (k == 6) = false := beq_eq_false_iff_ne.2 h6
  have b8 : (k == 8) = false := beq_eq_false_iff_ne.2 h8
  have b9 : (k == 9) = false := beq_eq_false_iff_ne.2 h9
  have b10 : (k == 10) = false := beq_eq_false_iff_ne.2 h10
  have b11 : (k == 11) = false := beq_eq_false_iff_ne.2 h11
  clear h1 h2 h3 h4 h5 h6 h8 h9 h10 h11
  rw [e0]
  go_enter Tryz.func32, Tryz.ntmps32
  go_wp2_with fail
  go_ret
  exact ⟨_, rfl, CellsAt.nil _ _, Below.refl _ _⟩
set_option maxRecDepth 100000 in
set_option maxHeartbeats 1000000 in
theorem setup_any (b o : Nat) (w : World) :
    Calls Tryz.prog 15 #[.pointer (some ⟨b, o, none⟩)] w fun e w' => ∃ A, e = .returned (.slice A 2 2) ∧ CellsAt w' A [.pointer (some ⟨b, o, none⟩), .pointer (some ⟨b, o + 1, none⟩)] ∧ Below w.heap.size w w' := by
  go_enter Tryz.func15, Tryz.ntmps15
  go_wp2_with fail
  go_region
  go_wp2_with fail
  go_ret
  exact ⟨_, rfl, (cells_new w _ _ 72 rfl).drewN 1, below_drewN (below_box _ _) 1⟩
set_option maxHeartbeats 1000000 in
theorem wideOne_any (p : Addr) (v : Int) (w : World) (hv : w.cell? p = some (.int .i64 v)) :
    Calls Tryz.prog 43 #[.pointer (some p)] w fun e w' => e = .returned (.bool (Sc.wideN v)) ∧ w = w' := by
  go_enter Tryz.func43, Tryz.ntmps43
  go_wp2_with fail
  all_goals go_ret
  all_goals exact ⟨ret_boolI (by simp [Sc.wideN] <;> omega), rfl⟩
/-- The pointers ps point at the numbers vs. -/
def PtsAt (w : World) (ps : List Addr) (vs : List Int) : Prop := ps.length = vs.length ∧ ∀ (i : Nat) p v, ps[i]? = some p → vs[i]? = some v → p.block < w.heap.size ∧ w.cell? p = some (.int .i64 v)
def ptrCells (ps : List Addr) : List Value := ps.map fun p => .pointer (some p)
set_option maxRecDepth 100000 in
set_option maxHeartbeats 2000000 in
theorem wide_any (ps : List Addr) (vs : List Int) (A : Option Addr) (c : Nat) (w : World) (hl : ps.length ≤ 1048576) (hA : CellsAt w A (ptrCells ps)) (hP : PtsAt w ps vs) :
    Calls Tryz.prog 26 #[.slice A ps.length c] w fun e w' => e = .returned (.bool (Sc.wides vs)) ∧ w = w' := by
  have idx : Calls Tryz.prog 63 #[.slice A ps.length c, .func (.func 43) #[] #[]] w fun e w' => (∃ i : Int, e = .returned (.int .i64 i) ∧ (0 ≤ i ↔ Sc.wides vs = true)) ∧ w = w' := by
    go_enter Tryz.func63, Tryz.ntmps63
    go_wp2_with fail
    go_loop [5, 8] (fun x i => ∃ k : Nat, k ≤ ps.length ∧ i = .int .i64 k ∧ Hid (Sc.wides (vs.take k) = false)) (fun _ i => ps.length - (intOf i).toNat)
    case atStart => exact ⟨0, Nat.zero_le _, rfl, rfl⟩
    case round =>
      obtain ⟨k, hk, rfl, H⟩ := hrel
      by_cases hlt : k < ps.length
      · have hp : ps[k]? = some ps[k] := List.getElem?_eq_getElem hlt
        have hlv : k < vs.length := by have := hP.1; omega
        have hv : vs[k]? = some vs[k] := List.getElem?_eq_getElem hlv
        have hpc : (ptrCells ps)[k]? = some (.pointer (some ps[k])) := by unfold ptrCells; rw [List.getElem?_map, hp]; rfl
        obtain ⟨b, off, rfl, hb, c1⟩ := hA.at_ (Below.refl _ _) hpc
        obtain ⟨_, c2⟩ := hP.2 k _ _ hp hv
        have HS : Hid (Sc.wides (vs.take (k + 1)) = Sc.wideN vs[k]) := Lib.hid (by
          have h := H.out; unfold Sc.wides at h ⊢; rw [List.take_succ_eq_append_getElem hlv, List.any_append, h]; simp)
        have HV : Hid (Sc.wideN vs[k] = true → Sc.wides vs = true) := Lib.hid (fun h => by unfold Sc.wides; exact List.any_eq_true.2 ⟨_, List.getElem_mem hlv, h⟩)
        generalize ps[k] = p at c1 c2
        generalize vs[k] = v at c2 HS HV
        clear hA hp hv hpc
        cases hw : Sc.wideN v with
        | true =>
          have HW := Lib.hid hw
          have HR := Lib.hid (HV.out hw)
          clear hw
          go_wp2_with (go_at_call 43; refine (wideOne_any _ v _ c2).mono ?_; rintro e w' ⟨rfl, rfl⟩; rw [HW.out])
          go_ret
          exact ⟨⟨k, rfl, by rw [HR.out]; simp⟩, rfl⟩
        | false =>
          have HW := Lib.hid hw
          have HR := Lib.hid (HS.out.trans hw)
          clear hw
          go_wp2_with (go_at_call 43; refine (wideOne_any _ v _ c2).mono ?_; rintro e w' ⟨rfl, rfl⟩; rw [HW.out])
          go_round
          case rel => exact ⟨k + 1, by omega, by go_num, HR⟩
          case measure => simp [intOf]; omega
      · have HR : Hid (Sc.wides vs = false) := by
          have h := H.out
          have hlen := hP.1
          rw [List.take_of_length_le (by omega)] at h
          exact Lib.hid h
        go_wp2_with fail
        go_ret
        exact ⟨⟨-1, rfl, by rw [HR.out]; simp⟩, rfl⟩
  have con : Calls Tryz.prog 42 #[.slice A ps.length c, .func (.func 43) #[] #[]] w fun e w' => e = .returned (.bool (Sc.wides vs)) ∧ w = w' := by
    go_enter Tryz.func42, Tryz.ntmps42
    go_wp2_with (go_at_call 63; refine idx.mono ?_; rintro e w' ⟨⟨i, rfl, hi⟩, rfl⟩)
    all_goals go_ret
    all_goals exact ⟨ret_boolI (by rw [← hi]), rfl⟩
  go_enter Tryz.func26, Tryz.ntmps26
  go_wp2_with (go_at_call 42; refine con.mono ?_; rintro e w' ⟨rfl, rfl⟩)
  go_ret
  exact ⟨rfl, rfl⟩
end Go.Proofs.YthpojljfmipngaaGreatDoor
