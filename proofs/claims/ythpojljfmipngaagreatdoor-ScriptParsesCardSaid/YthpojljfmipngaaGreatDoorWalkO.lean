/-
  THE WALKS, fifteenth part: rows of events; Check of package script. CONDITIONS: the rows of an event lie as EvAt says, a row of events as EvsAt says.
-/
import Derived.Test.YthpojljfmipngaaGreatDoorWalkN
namespace Go.Proofs.YthpojljfmipngaaGreatDoor
open Go.RowKit
/-- The seven cells of an event from a place on. -/
def EvCells (w : World) (b off : Nat) (x : Sc.Ev) (K A : Option Addr) (kc bc : Nat) : Prop :=
  w.cell? ⟨b, off, none⟩ = some (.int .i64 x.kind) ∧ w.cell? ⟨b, off + 1, none⟩ = some (.int .i64 x.node) ∧ w.cell? ⟨b, off + 2, none⟩ = some (.int .i64 x.to) ∧ w.cell? ⟨b, off + 3, none⟩ = some (.int .i64 x.n) ∧ w.cell? ⟨b, off + 4, none⟩ = some (.int .i64 x.bit) ∧ w.cell? ⟨b, off + 5, none⟩ = some (.slice K x.keep.length kc) ∧ w.cell? ⟨b, off + 6, none⟩ = some (.slice A x.bytes.length bc)
theorem EvCells.same {w w' : World} {b off : Nat} {x : Sc.Ev} {K A : Option Addr} {kc bc : Nat} (h : EvCells w b off x K A kc bc) (hb : w'.heap[b]? = w.heap[b]?) : EvCells w' b off x K A kc bc := by
  have e : ∀ i, w'.cell? ⟨b, i, none⟩ = w.cell? ⟨b, i, none⟩ := fun i => World.cell?_of_block (a := ⟨b, i, none⟩) hb
  unfold EvCells at h ⊢
  simp only [e]
  exact h
/-- A row of events. -/
def EvsAt (w : World) (A : Option Addr) (l : List Sc.Ev) : Prop :=
  l ≠ [] → ∃ b off, A = some ⟨b, off, none⟩ ∧ b < w.heap.size ∧ ∀ i x, l[i]? = some x → ∃ K B kc bc, EvCells w b (off + i * 7) x K B kc bc ∧ EvAt w x K B
theorem EvsAt.nil (w : World) (A : Option Addr) : EvsAt w A [] := fun h => absurd rfl h
theorem EvsAt.next {w w' : World} {A : Option Addr} {l : List Sc.Ev} (h : EvsAt w A l) (hb : Below w.heap.size w w') : EvsAt w' A l := fun hne => by
  obtain ⟨b, off, h1, h2, h3⟩ := h hne
  refine ⟨b, off, h1, Nat.lt_of_lt_of_le h2 hb.size, fun i x hi => ?_⟩
  obtain ⟨K, B, kc, bc, c1, c2⟩ := h3 i x hi
  exact ⟨K, B, kc, bc, c1.same (hb.block b h2), c2.next hb⟩
theorem EvsAt.at_ {w : World} {A : Option Addr} {l : List Sc.Ev} (h : EvsAt w A l) {k : Nat} {x : Sc.Ev} (hx : l[k]? = some x) :
    ∃ b off K B kc bc, A = some ⟨b, off, none⟩ ∧ b < w.heap.size ∧ EvCells w b (off + k * 7) x K B kc bc ∧ EvAt w x K B := by
  obtain ⟨b, off, h1, h2, h3⟩ := h (by intro e; subst e; simp at hx)
  obtain ⟨K, B, kc, bc, c1, c2⟩ := h3 k x hx
  exact ⟨b, off, K, B, kc, bc, h1, h2, c1, c2⟩
set_option maxRecDepth 100000 in
set_option maxHeartbeats 4000000 in
theorem someWrong_any (l : List Sc.Ev) (A : Option Addr) (c : Nat) (w : World) (hl : l.length ≤ 1048576) (hA : EvsAt w A l) :
    Calls Tryz.prog 27 #[.slice A l.length c, .func (.func 28) #[] #[]] w fun e w' => e = .returned (.bool (l.any Sc.wrong)) ∧ Below w.heap.size w w' := by
  have idx : Calls Tryz.prog 44 #[.slice A l.length c, .func (.func 28) #[] #[]] w fun e w' => (∃ i : Int, e = .returned (.int .i64 i) ∧ (0 ≤ i ↔ l.any Sc.wrong = true)) ∧ Below w.heap.size w w' := by
    go_enter Tryz.func44, Tryz.ntmps44
    go_wp2_with fail
    go_loopw [5, 8] (fun _ i wr => ∃ k : Nat, k ≤ l.length ∧ i = .int .i64 k ∧ Hid ((l.take k).any Sc.wrong = false) ∧ Below w.heap.size w wr) (fun _ i _ => l.length - (intOf i).toNat)
    case atStart => exact ⟨0, Nat.zero_le _, rfl, rfl, Below.refl _ _⟩
    case round =>
      obtain ⟨k, hk, rfl, H, hb⟩ := hrel
      by_cases hlt : k < l.length
      · have hx : l[k]? = some l[k] := List.getElem?_eq_getElem hlt
        have HS : Hid ((l.take (k + 1)).any Sc.wrong = Sc.wrong l[k]) := Lib.hid (by
          have h := H.out; rw [List.take_succ_eq_append_getElem hlt, List.any_append, h]; simp)
        have HV : Hid (Sc.wrong l[k] = true → l.any Sc.wrong = true) := Lib.hid (fun h => List.any_eq_true.2 ⟨_, List.getElem_mem hlt, h⟩)
        generalize l[k] = x at hx HS HV
        obtain ⟨b, off, K, B, kc, bc, rfl, hbl, ⟨c0, c1, c2, c3, c4, c5, c6⟩, hev⟩ := (hA.next hb).at_ hx
        have HEV := Lib.hid hev
        have HB := Lib.hid hb
        clear hA hx hev hb H
        go_wp2_with fail
        refine (wrong_any x K B kc bc _ HEV.out).mono ?_
        rintro e w2 ⟨rfl, hb2⟩
        have HB2 := Lib.hid (HB.out.trans (hb2.mono HB.out.size))
        clear hb2 c0 c1 c2 c3 c4 c5 c6 hbl
        cases hw : Sc.wrong x with
        | true =>
          have HR := Lib.hid (HV.out hw)
          clear hw
          go_wp2_with fail
          go_ret
          exact ⟨⟨k, rfl, by rw [HR.out]; simp⟩, HB2.out⟩
        | false =>
          have HR := Lib.hid (HS.out.trans hw)
          clear hw
          go_wp2_with fail
          go_roundw
          case rel => exact ⟨k + 1, by omega, by go_num, HR, HB2.out⟩
          case measure => simp [intOf]; omega
      · have HR : Hid (l.any Sc.wrong = false) := by
          have h := H.out
          rw [List.take_of_length_le (by omega)] at h
          exact Lib.hid h
        go_wp2_with fail
        go_ret
        exact ⟨⟨-1, rfl, by rw [HR.out]; simp⟩, hb⟩
  generalize l.any Sc.wrong = q at idx ⊢
  go_enter Tryz.func27, Tryz.ntmps27
  go_wp2_with (go_at_call 44; refine idx.mono ?_; rintro e w' ⟨⟨i, rfl, hi⟩, hb⟩)
  all_goals go_ret
  all_goals exact ⟨ret_boolI (by rw [← hi]), hb⟩
def scrV (s : Sc.Scr) (A : Option Addr) (c : Nat) : Value := .agg #[.int .i64 s.servers, .int .i64 s.area, .slice A s.events.length c]
/-- A script in a block of its own. -/
def ScrBox (w : World) (b : Nat) (s : Sc.Scr) (A : Option Addr) (c : Nat) : Prop := w.heap[b]? = some (.cells #[.int .i64 s.servers, .int .i64 s.area, .slice A s.events.length c] 30 (0, 0))
theorem ScrBox.cells {w : World} {b : Nat} {s : Sc.Scr} {A : Option Addr} {c : Nat} (h : ScrBox w b s A c) :
    w.cell? ⟨b, 0, none⟩ = some (.int .i64 s.servers) ∧ w.cell? ⟨b, 1, none⟩ = some (.int .i64 s.area) ∧ w.cell? ⟨b, 2, none⟩ = some (.slice A s.events.length c) := by
  unfold ScrBox at h
  exact ⟨(blk_cells h 0).trans rfl, (blk_cells h 1).trans rfl, (blk_cells h 2).trans rfl⟩
theorem ScrBox.next {w w' : World} {b : Nat} {s : Sc.Scr} {A : Option Addr} {c : Nat} (h : ScrBox w b s A c) (hb : Below w.heap.size w w') : ScrBox w' b s A c := blk_next hb h
theorem setup_cells (s : Sc.Scr) (V : Value) : ∀ (i o : Nat) v, [0, 1][i]? = some o → [s.servers, s.area][i]? = some v → (#[.int .i64 s.servers, .int .i64 s.area, V] : Array Value)[o]? = some (.int .i64 v) := by
  intro i o v ho hv
  match i, ho, hv with
  | 0, ho, hv => simp at ho hv; subst ho; subst hv; rfl
  | 1, ho, hv => simp at ho hv; subst ho; subst hv; rfl
set_option maxRecDepth 100000 in
set_option maxHeartbeats 4000000 in
theorem check_any (s : Sc.Scr) (A : Option Addr) (c : Nat) (w : World) (hA : EvsAt w A s.events) :
    Calls Tryz.prog 12 #[scrV s A c] w fun e w' => e = .returned (.int .i64 (Sc.checkOf s)) ∧ Below w.heap.size w w' := by
  have hbx : ScrBox (w.alloc (.cells #[.int .i64 s.servers, .int .i64 s.area, .slice A s.events.length c] 30)) w.heap.size s A c := heap_alloc_new w _
  have hb1 := below_box w (.cells #[.int .i64 s.servers, .int .i64 s.area, .slice A s.events.length c] 30)
  have HA := Lib.hid (hA.next hb1)
  have HB := Lib.hid hb1
  have HX := Lib.hid hbx
  clear hA hb1 hbx
  unfold scrV
  go_enter Tryz.func12, Tryz.ntmps12
  go_wp2_with fail
  generalize w.alloc (.cells #[.int .i64 s.servers, .int .i64 s.area, .slice A s.events.length c] 30) = w1 at HA HB HX ⊢
  generalize hbe : w.heap.size = b at HX ⊢
  refine (setup_row b _).mono ?_
  rintro e w2 ⟨SA, rfl, hrow, hb2⟩
  have HA2 := Lib.hid (HA.out.next hb2)
  have HB2 := Lib.hid (HB.out.trans (hb2.mono HB.out.size))
  have HX2 := Lib.hid (HX.out.next hb2)
  clear hb2 HA HB HX
  go_wp2_with fail
  refine (wide_row b [0, 1] [s.servers, s.area] _ 30 SA _ _ (by decide) rfl hrow HX2.out (setup_cells s _)).mono ?_
  rintro e w' ⟨rfl, rfl⟩
  clear hrow
  obtain ⟨c0, c1, c2⟩ := HX2.out.cells
  cases hw : Sc.wides [s.servers, s.area] with
  | true =>
    have HE : Hid (Sc.checkOf s = 2) := Lib.hid (by unfold Sc.checkOf; simp [hw])
    clear hw
    go_wp2_with fail
    go_ret
    exact ⟨ret_int HE.out.symm, by rw [hbe]; exact hbe ▸ HB2.out⟩
  | false =>
    have HW := Lib.hid hw
    clear hw
    by_cases h3 : (300 : Int) < s.events.length
    · have HE : Hid (Sc.checkOf s = 2) := Lib.hid (by unfold Sc.checkOf; have : 300 < s.events.length := by omega
                                                      simp [this])
      go_wp2_with fail
      go_ret
      exact ⟨ret_int HE.out.symm, by rw [hbe]; exact hbe ▸ HB2.out⟩
    · have HE : Hid (Sc.checkOf s = if s.events.any Sc.wrong then 2 else 0) := Lib.hid (by unfold Sc.checkOf; rw [HW.out, decide_eq_false (by omega)]; rfl)
      go_wp2_with fail
      refine (someWrong_any s.events A c _ (by omega) HA2.out).mono ?_
      rintro e w3 ⟨rfl, hb3⟩
      have HB3 := Lib.hid (HB2.out.trans (hb3.mono HB2.out.size))
      clear hb3
      generalize s.events.any Sc.wrong = q at HE ⊢
      cases q
      · go_wp2_with fail
        go_ret
        exact ⟨ret_int HE.out.symm, by rw [hbe]; exact hbe ▸ HB3.out⟩
      · go_wp2_with fail
        go_ret
        exact ⟨ret_int HE.out.symm, by rw [hbe]; exact hbe ▸ HB3.out⟩
end Go.Proofs.YthpojljfmipngaaGreatDoor
