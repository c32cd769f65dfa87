/-
  THE WALKS, ninth part: read, ParseRequest: its two closures.
-/
import Derived.Test.YtoadahommlcjpaaGreatDoorWH
import Derived.Shelf.Bytes.SlIndexSmall
namespace Go.Proofs.YtoadahommlcjpaaGreatDoor
open Go.RowKit
def endI (s : Ht.Bs) : Int := match Ht.endAt s with | some p => (p : Int) | none => -1
theorem endI_some {s : Ht.Bs} {p : Nat} (h : Ht.endAt s = some p) : endI s = (p : Int) := by unfold endI; rw [h]
theorem endI_none {s : Ht.Bs} (h : Ht.endAt s = none) : endI s = -1 := by unfold endI; rw [h]
theorem index_end : ∀ s : Ht.Bs, Lib.index s [13, 10, 13, 10] = endI s
  | [] => by rfl
  | c :: t => by
    have ih := index_end t
    unfold endI at ih ⊢
    rw [Ht.endAt_cons]
    unfold Lib.index
    by_cases h : (c :: t).take 4 = [13, 10, 13, 10]
    · have hp : ([13, 10, 13, 10] : List UInt8).isPrefixOf (c :: t) = true := by
        rw [List.isPrefixOf_iff_prefix]
        exact ⟨(c :: t).drop 4, by rw [← h]; exact List.take_append_drop 4 _⟩
      rw [if_pos hp, if_pos h]
      rfl
    · have hp : ([13, 10, 13, 10] : List UInt8).isPrefixOf (c :: t) = false := by
        rw [← Bool.not_eq_true, List.isPrefixOf_iff_prefix]
        rintro ⟨r, hr⟩
        apply h
        rw [← hr]
        rfl
      rw [hp, if_neg h, ih]
      cases Ht.endAt t with
      | none => rfl
      | some p =>
        have hne : ((p : Int) == -1) = false := by rw [beq_eq_false_iff_ne]; omega
        simp only [Bool.false_eq_true, if_false, Option.map_some, hne]
        push_cast
        rfl
theorem bytesOf_ints (l : Ht.Bs) : Lib.bytesOf (l.map fun x => (x.toNat : Int)) = l := by
  unfold Lib.bytesOf
  rw [List.map_map]
  conv => rhs; rw [← List.map_id l]
  refine List.map_congr_left (fun x _ => ?_)
  simp
theorem ints_cell {l : Ht.Bs} {w : World} {g o : Nat} (h : ∀ i v, (Lib.byteCells l)[i]? = some v → w.cell? ⟨g, o + i, none⟩ = some v) (i : Nat) (hi : i < l.length) :
    w.cell? ((⟨g, o, none⟩ : Addr).add i) = some (.int .u8 ((l.map fun x => (x.toNat : Int)).getD i 0)) := by
  have hadd : (⟨g, o, none⟩ : Addr).add i = ⟨g, o + i, none⟩ := by unfold Addr.add; split <;> simp_all
  rw [hadd]
  refine h i _ ?_
  unfold Lib.byteCells
  simp [List.getElem?_map, List.getElem?_eq_getElem hi, List.getD_eq_getElem?_getD]
theorem ints_range (l : Ht.Bs) : ∀ x ∈ l.map (fun x => (x.toNat : Int)), 0 ≤ x ∧ x < 256 := by
  intro x hx
  obtain ⟨c, _, rfl⟩ := List.mem_map.1 hx
  have := c.toNat_lt
  omega
theorem findEnd_any (l : Ht.Bs) (B : Option Addr) (c g : Nat) (w : World) (henv : Env w) (hlen : l.length ≤ c) (hl : l.length < 4294967281) (hc : CellsAt w B (Lib.byteCells l))
    (hg : ∀ i v, (Lib.byteCells [13, 10, 13, 10])[i]? = some v → w.cell? ⟨g, 0 + i, none⟩ = some v) :
    Calls Tryz.prog 63 #[.slice B l.length c, .slice (some ⟨g, 0, none⟩) 4 4] w fun e w' => e = .returned (.int .i64 (endI l)) ∧ ∃ n, w' = w.drewN n := by
  by_cases h4 : l.length < 4
  · have hn : Ht.endAt l = none := by
      cases h : Ht.endAt l with
      | none => rfl
      | some p => have := (Ht.endAt_le l p h).1; omega
    have h := Any.bytes_Index_longer Tryz.lays185 B (some ⟨g, 0, none⟩) l.length c 4 4 w (by omega) (by omega) (by omega)
    refine Calls.mono h ?_
    rintro e w' ⟨rfl, rfl⟩
    exact ⟨by rw [endI_none hn], 0, rfl⟩
  · have hne : Lib.byteCells l ≠ [] := by
      intro h
      unfold Lib.byteCells at h
      rw [List.map_eq_nil_iff.1 h] at h4
      simp at h4
    obtain ⟨b, o, rfl, hb, hcell⟩ := hc hne
    obtain ⟨m, hm⟩ := henv.maxLen
    have h := Tryz.bytes_Index_at ⟨b, o, none⟩ ⟨g, 0, none⟩ l.length c 4 4 (l.map fun x => (x.toNat : Int)) (([13, 10, 13, 10] : Ht.Bs).map fun x => (x.toNat : Int)) m w (by simp) (by simp)
      (ints_range l) (ints_range _) (ints_cell hcell) (ints_cell (l := [13, 10, 13, 10]) hg) hlen hl (by omega) hm
    rw [bytesOf_ints, bytesOf_ints, index_end] at h
    exact h
/-- string(b[:k]). -/
theorem toStr {l : Ht.Bs} {B : Option Addr} {w : World} (h : CellsAt w B (Lib.byteCells l)) (c : Nat) : (convert 22 9 (.slice B l.length c)).run Tryz.prog w = .ok (.string ⟨l.toArray⟩) w := by
  by_cases h0 : l = []
  · subst h0
    cases B with
    | none =>
      show (convert 22 9 (.slice none 0 c)).run Tryz.prog w = _
      rw [run_convert_bytes_string w 22 9 5 none 0 c Tryz.underlying22 Tryz.underlying5 Tryz.underlying9]
      simp [Conv.bytesToString]
      rfl
    | some a => exact run_convert_bytes_back w 22 9 5 a c [] Tryz.underlying22 Tryz.underlying5 Tryz.underlying9 (fun j hj => absurd hj (Nat.not_lt_zero j))
  · have hne : Lib.byteCells l ≠ [] := by
      intro h
      unfold Lib.byteCells at h
      exact h0 (List.map_eq_nil_iff.1 h)
    obtain ⟨g, o, rfl, hg, hcell⟩ := h hne
    refine run_convert_bytes_back w 22 9 5 _ c l Tryz.underlying22 Tryz.underlying5 Tryz.underlying9 ?_
    intro j hj
    have hadd : (⟨g, o, none⟩ : Addr).add j = ⟨g, o + j, none⟩ := by unfold Addr.add; split <;> simp_all
    rw [hadd]
    exact hcell j _ (by simp [Lib.byteCells, hj])
theorem cells_take {l : Ht.Bs} {B : Option Addr} {w : World} (h : CellsAt w B (Lib.byteCells l)) (k : Nat) : CellsAt w B (Lib.byteCells (l.take k)) := by
  intro hne
  have hne2 : Lib.byteCells l ≠ [] := fun h0 => hne (by unfold Lib.byteCells at h0 ⊢; rw [List.map_eq_nil_iff.1 h0, List.take_nil]; rfl)
  obtain ⟨g, o, h1, h2, h3⟩ := h hne2
  refine ⟨g, o, h1, h2, fun i v hi => h3 i v ?_⟩
  unfold Lib.byteCells at hi ⊢
  rw [List.map_take, List.getElem?_take] at hi
  split at hi
  · exact hi
  · cases hi
theorem cells_drop {l : Ht.Bs} {g o : Nat} {w : World} (h : CellsAt w (some ⟨g, o, none⟩) (Lib.byteCells l)) (k : Nat) : CellsAt w (some ⟨g, o + k, none⟩) (Lib.byteCells (l.drop k)) := by
  intro hne
  have hne2 : Lib.byteCells l ≠ [] := fun h0 => hne (by unfold Lib.byteCells at h0 ⊢; rw [List.map_eq_nil_iff.1 h0, List.drop_nil]; rfl)
  obtain ⟨g', o', h1, h2, h3⟩ := h hne2
  cases h1
  refine ⟨g, o + k, rfl, h2, fun i v hi => ?_⟩
  rw [Nat.add_assoc]
  refine h3 (k + i) v ?_
  unfold Lib.byteCells at hi ⊢
  rw [List.map_drop, List.getElem?_drop] at hi
  exact hi
end Go.Proofs.YtoadahommlcjpaaGreatDoor
