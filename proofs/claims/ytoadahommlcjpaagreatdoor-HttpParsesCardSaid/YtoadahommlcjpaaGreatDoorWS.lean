/-
  THE WALKS: rows of headers; SameRequest and SameResponse of package http and of the document's answer. CONDITIONS: rows lie as HdsAt and CellsAt say.
-/
import Derived.Test.YtoadahommlcjpaaGreatDoorWI
import Derived.Laws.StructEq
import Derived.ChangeKeysEq
import Derived.Deep.QuietTactic
namespace Go.Proofs.YtoadahommlcjpaaGreatDoor
open Go.RowKit
/-- A row of headers. -/
def HdsAt (w : World) (A : Option Addr) (l : List Ht.Hd) : Prop :=
  l ≠ [] → ∃ b off, A = some ⟨b, off, none⟩ ∧ b < w.heap.size ∧ ∀ i x, l[i]? = some x → w.cell? ⟨b, off + i * 2, none⟩ = some (.string ⟨x.name.toArray⟩) ∧ w.cell? ⟨b, off + i * 2 + 1, none⟩ = some (.string ⟨x.value.toArray⟩)
theorem HdsAt.nil (w : World) (A : Option Addr) : HdsAt w A [] := fun h => absurd rfl h
theorem HdsAt.next {w w' : World} {A : Option Addr} {l : List Ht.Hd} (h : HdsAt w A l) {B : Nat} (hb : Below B w w') (hB : w.heap.size ≤ B) : HdsAt w' A l := fun hne => by
  obtain ⟨b, off, h1, h2, h3⟩ := h hne
  refine ⟨b, off, h1, Nat.lt_of_lt_of_le h2 hb.size, fun i x hi => ?_⟩
  obtain ⟨c1, c2⟩ := h3 i x hi
  exact ⟨(hb.cell (p := ⟨b, _, none⟩) (by show b < B; omega)).trans c1, (hb.cell (p := ⟨b, _, none⟩) (by show b < B; omega)).trans c2⟩
theorem HdsAt.at_ {w : World} {A : Option Addr} {l : List Ht.Hd} (h : HdsAt w A l) {k : Nat} {x : Ht.Hd} (hx : l[k]? = some x) :
    ∃ b off, A = some ⟨b, off, none⟩ ∧ b < w.heap.size ∧ w.cell? ⟨b, off + k * 2, none⟩ = some (.string ⟨x.name.toArray⟩) ∧ w.cell? ⟨b, off + k * 2 + 1, none⟩ = some (.string ⟨x.value.toArray⟩) := by
  obtain ⟨b, off, h1, h2, h3⟩ := h (by intro e; subst e; simp at hx)
  exact ⟨b, off, h1, h2, (h3 k x hx).1, (h3 k x hx).2⟩
theorem hdCells_get : ∀ (l : List Ht.Hd) (i : Nat) (x : Ht.Hd), l[i]? = some x → (hdCells l)[i * 2]? = some (bstr x.name) ∧ (hdCells l)[i * 2 + 1]? = some (bstr x.value)
  | [], i, x, h => by simp at h
  | y :: t, 0, x, h => by
    simp at h
    subst h
    exact ⟨rfl, rfl⟩
  | y :: t, i + 1, x, h => by
    have ih := hdCells_get t i x (by simpa using h)
    have e : hdCells (y :: t) = bstr y.name :: bstr y.value :: hdCells t := rfl
    rw [e, show (i + 1) * 2 = i * 2 + 1 + 1 by omega]
    simpa using ih
/-- A row that a call has grown is a row of headers. -/
theorem Own.heads {B : Nat} {v : Value} {l : List Ht.Hd} {w : World} (h : Own 65 2 B v l.length (hdCells l) w) : ∃ A c, v = .slice A l.length c ∧ l.length ≤ c ∧ HdsAt w A l := by
  rcases h.own.2 with ⟨rfl, hn⟩ | ⟨g, cap, cur, rfl, hb, hg, hcap, rest⟩
  · have : l = [] := List.eq_nil_of_length_eq_zero hn
    subst this
    exact ⟨_, _, rfl, Nat.zero_le _, HdsAt.nil _ _⟩
  · refine ⟨_, _, rfl, hcap, fun _ => ⟨g, 0, rfl, (Array.getElem?_eq_some_iff.1 hg).1, fun i x hi => ?_⟩⟩
    obtain ⟨k1, k2⟩ := hdCells_get l i x hi
    have hadd : ∀ j, (⟨g, 0, none⟩ : Addr).add j = ⟨g, 0 + j, none⟩ := fun j => by unfold Addr.add; split <;> simp_all
    have c1 := h.own.cells (g := g) rfl _ _ k1
    have c2 := h.own.cells (g := g) rfl _ _ k2
    rw [hadd] at c1 c2
    exact ⟨c1, c2⟩
theorem bytesIn_of {w : World} {A : Option Addr} {l : List UInt8} (h : CellsAt w A (Lib.byteCells l)) : Lib.BytesIn w A l.length (l.map fun c => (c.toNat : Int)) := fun hl => by
  obtain ⟨b, o, h1, _, h3⟩ := h (by
    intro e
    unfold Lib.byteCells at e
    rw [List.map_eq_nil_iff.1 e] at hl
    simp at hl)
  refine ⟨b, o, h1, fun i hi => ?_⟩
  rw [h3 i (.int .u8 (l[i].toNat : Int)) (by simp [Lib.byteCells, hi])]
  simp [hi]
theorem bytesEqual_any (l m : List UInt8) (A B : Option Addr) (c d : Nat) (w : World) (hA : CellsAt w A (Lib.byteCells l)) (hB : CellsAt w B (Lib.byteCells m)) {q : Bool} (hq : decide (l = m) = q) :
    Calls Tryz.prog 14 #[.slice A l.length c, .slice B m.length d] w fun e w' => e = .returned (.bool q) ∧ w = w' := by
  refine (Tryz.bytes_Equal_all A B l.length c m.length d _ _ w (by simp) (by simp) (bytesIn_of hA) (bytesIn_of hB)).mono ?_
  rintro e' w' ⟨rfl, rfl⟩
  refine ⟨ret_boolI ?_, rfl⟩
  rw [bytesOf_ints, bytesOf_ints]
  cases q <;> simpa using hq
set_option maxRecDepth 100000 in
set_option maxHeartbeats 4000000 in
theorem equalHeads_any (l m : List Ht.Hd) (A B : Option Addr) (c d : Nat) (w : World) (hl : l.length ≤ 1048576) (hA : HdsAt w A l) (hB : HdsAt w B m) {q : Bool} (hq : decide (l = m) = q) :
    Calls Tryz.prog 42 #[.slice A l.length c, .slice B m.length d] w fun e w' => e = .returned (.bool q) ∧ Below w.heap.size w w' := by
  by_cases hlen : l.length = m.length
  · have hb0 : ((l.length : Int) != (m.length : Int)) = false := by rw [hlen]; simp
    have HL := Lib.hid hlen
    have hle : l.length ≤ m.length := by omega
    have HQ := Lib.hid hq
    have HA := Lib.hid hA
    have HB := Lib.hid hB
    clear hlen hq hA hB
    go_enter Tryz.func42, Tryz.ntmps42
    go_wp2_with fail
    go_loopw [5, 13] (fun _ i wr => ∃ k : Nat, k ≤ l.length ∧ i = .int .i64 k ∧ Hid (l.take k = m.take k) ∧ Below w.heap.size w wr) (fun _ i _ => l.length - (intOf i).toNat)
    case atStart => exact ⟨0, Nat.zero_le _, rfl, rfl, Below.refl _ _⟩
    case round =>
      obtain ⟨k, hk, rfl, H, hb⟩ := hrel
      by_cases hlt : k < l.length
      · have hlt2 : k < m.length := by omega
        have h1 : l[k]? = some l[k] := List.getElem?_eq_getElem hlt
        have h2 : m[k]? = some m[k] := List.getElem?_eq_getElem hlt2
        have HT : Hid (l[k] = m[k] → l.take (k + 1) = m.take (k + 1)) := Lib.hid (fun e => by
          rw [List.take_succ_eq_append_getElem hlt, List.take_succ_eq_append_getElem hlt2, H.out, e])
        have HF : Hid (l[k] ≠ m[k] → q = false) := Lib.hid (fun e => by
          rw [← HQ.out, decide_eq_false_iff_not]
          intro he; subst he; exact e rfl)
        generalize l[k] = x at h1 HT HF
        generalize m[k] = y at h2 HT HF
        obtain ⟨b1, o1, rfl, hl1, c0, c1⟩ := (HA.out.next hb (Nat.le_refl _)).at_ h1
        obtain ⟨b2, o2, rfl, hl2, d0, d1⟩ := (HB.out.next hb (Nat.le_refl _)).at_ h2
        have HBr := Lib.hid hb
        obtain ⟨x1, x2⟩ := x
        obtain ⟨y1, y2⟩ := y
        dsimp only at c0 c1 d0 d1
        clear h1 h2 hb H
        by_cases e1 : x1 = y1
        · by_cases e2 : x2 = y2
          · subst e1 e2
            have HR := Lib.hid (HT.out rfl)
            go_wp2_with fail
            go_quiet (fail)
            go_wp2_with fail
            go_roundw
            case rel => exact ⟨k + 1, by omega, by go_num, HR, below_drewN HBr.out _⟩
            case measure => simp [intOf]; omega
          · subst e1
            have HR := Lib.hid (HF.out (fun h => e2 (by injection h)))
            go_wp2_with fail
            go_quiet (fail)
            go_wp2_with fail
            go_ret
            exact ⟨ret_bool HR.out.symm, below_drewN HBr.out _⟩
        · have HR := Lib.hid (HF.out (fun h => e1 (by injection h)))
          go_wp2_with fail
          go_quiet (fail)
          go_wp2_with fail
          go_ret
          exact ⟨ret_bool HR.out.symm, below_drewN HBr.out _⟩
      · have HR : Hid (q = true) := Lib.hid (by
          have h := H.out
          rw [List.take_of_length_le (by omega), List.take_of_length_le (by have := HL.out; omega)] at h
          rw [← HQ.out, h]; simp)
        go_wp2_with fail
        go_ret
        exact ⟨ret_bool HR.out.symm, hb⟩
  · have hb0 : ((l.length : Int) != (m.length : Int)) = true := by simp; omega
    have hqf : q = false := by rw [← hq, decide_eq_false_iff_not]; intro h; exact hlen (by rw [h])
    subst hqf
    clear hq
    go_enter Tryz.func42, Tryz.ntmps42
    go_wp2_with fail
    go_ret
    exact ⟨rfl, Below.refl _ _⟩
end Go.Proofs.YtoadahommlcjpaaGreatDoor
