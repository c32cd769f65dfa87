/-
  PROVED: how an argument that is a row of texts, or a row of rows of tokens, lies in memory. CONDITION: as the argument's datum says.
-/
import Derived.Test.YtoppkhkdbkkldaaDoorRow
import Derived.Test.YtoppkhkdbkkldaaDoorArgs
import Derived.SliceStrings
namespace Go.Proofs.YtoppkhkdbkkldaaDoor
open Go.ChangeShapes Go.WideShapes Go.ChangeAt Go.RowKit
theorem open_texts {H : Type} {enc : TypeId × Value → H} {w : World} {held : Bool} {fuel : Nat} {cs : List Value} {x : DataW H × List MemPlace} (h : DataW.trod enc Tryd.prog w 0 (fun _ => true) held fuel 22 cs = some x) :
    ∃ (l : List ByteArray) (A : Option Addr) (c : Nat), cs = [.slice A l.length c] ∧ l.length ≤ 9223372036854775807 ∧ (∀ s ∈ l, s.size ≤ 9223372036854775807) ∧ ArgTexts w A l := by
  rcases open_strings Tryd.underlying22 Tryd.underlying9 (by kernel_rfl) h with ⟨rfl, _⟩ | ⟨a, len, cap, ss, rfl, _, hlc, hcm, hss, _, hget, hsz⟩
  · exact ⟨[], none, 0, rfl, by simp, by simp, fun h => absurd rfl h⟩
  · have hss' : ss.length = cap := by simpa using hss
    have htl : (ss.take len).length = len := by rw [List.length_take]; omega
    have hg : ∀ i s, (ss.take len)[i]? = some s → w.cell? (a.add i) = some (.string s) := by
      intro i s hi
      rw [List.getElem?_take] at hi
      split at hi
      · have hlt : i < ss.length := (List.getElem?_eq_some_iff.1 hi).1
        rw [hget i hlt, List.getD_eq_getElem?_getD, hi]; rfl
      · cases hi
    refine ⟨ss.take len, some a, cap, by rw [htl], ?_, ?_, ?_⟩
    · rw [htl]; simp [maxLen] at hcm; omega
    · intro s hs
      have := hsz s (List.mem_of_mem_take hs)
      simpa [maxLen] using this
    · intro hne
      obtain ⟨t0, ht0⟩ : ∃ t, (ss.take len)[0]? = some t := ⟨_, List.getElem?_eq_getElem (List.length_pos_iff.2 hne)⟩
      have h0 := hg 0 t0 ht0
      obtain ⟨b, off, spot⟩ := a
      have hspot : spot = none := by simpa [Addr.add] using World.cell?_spot h0
      subst hspot
      have hadd : ∀ j, (⟨b, off, none⟩ : Addr).add j = ⟨b, off + j, none⟩ := fun j => by simp [Addr.add]
      refine ⟨b, off, rfl, World.block_lt_of_cell? _ _ h0, fun i t ht => ?_⟩
      have h1 := hg i t ht
      rw [hadd] at h1
      exact h1
theorem open_rows {H : Type} {enc : TypeId × Value → H} {w : World} {held : Bool} {fuel : Nat} {cs : List Value} {x : DataW H × List MemPlace} (h : DataW.trod enc Tryd.prog w 0 (fun _ => true) held fuel 35 cs = some x) :
    ∃ (l : List (List Lx.Tok)) (A : Option Addr) (c : Nat), cs = [.slice A l.length c] ∧ l.length ≤ 9223372036854775807 ∧ ArgRows w A l := by
  have c24 : Tryd.prog.cellsOf 24 = 1 := by kernel_rfl
  rcases Go.Deep.open_slice Tryd.underlying35 h with ⟨rfl, _⟩ | ⟨a, len, cap, m, n, D, Pl, rfl, _, hlc, hcm, hm, _, hi⟩
  · exact ⟨[], none, 0, rfl, by simp, fun h => absurd rfl h⟩
  · have hm' : m = cap := by simpa using hm
    have each : ∀ i, i < len → ∃ r : List Lx.Tok, ∃ A c, w.cell? (a.add i) = some (.slice A r.length c) ∧ RowOk w A r := by
      intro i hil
      obtain ⟨cs', hc, ht⟩ := hi i (by omega)
      rw [c24, Nat.mul_one] at hc
      obtain ⟨_, hcl, hat⟩ := World.cells?_some hc
      obtain ⟨r, A, c, hcs, h1, h2, h3⟩ := open_toks ht
      refine ⟨r, A, c, ?_, h1, h2, h3⟩
      have h0 := hat 0 (by omega)
      rw [hcs] at h0
      simpa [Addr.add] using h0
    let l : List (List Lx.Tok) := (List.range len).map fun i => if hi : i < len then (each i hi).choose else []
    have hl : l.length = len := by simp [l]
    have hget : ∀ i r, l[i]? = some r → ∃ A c, w.cell? (a.add i) = some (.slice A r.length c) ∧ RowOk w A r := by
      intro i r hr
      have hil : i < len := by rw [← hl]; exact (List.getElem?_eq_some_iff.1 hr).1
      have e : r = (each i hil).choose := by
        have := hr
        simp only [l, List.getElem?_map, List.getElem?_range hil, Option.map_some, hil, dif_pos, Option.some.injEq] at this
        exact this.symm
      rw [e]
      exact (each i hil).choose_spec
    refine ⟨l, some a, cap, by rw [hl], ?_, ?_⟩
    · rw [hl]; simp [maxLen] at hcm; omega
    · intro hne
      obtain ⟨t0, ht0⟩ : ∃ t, l[0]? = some t := ⟨_, List.getElem?_eq_getElem (List.length_pos_iff.2 hne)⟩
      obtain ⟨A0, c0, h0, _⟩ := hget 0 t0 ht0
      obtain ⟨b, off, spot⟩ := a
      have hspot : spot = none := by simpa [Addr.add] using World.cell?_spot h0
      subst hspot
      have hadd : ∀ j, (⟨b, off, none⟩ : Addr).add j = ⟨b, off + j, none⟩ := fun j => by simp [Addr.add]
      refine ⟨b, off, rfl, World.block_lt_of_cell? _ _ h0, fun i r hr => ?_⟩
      obtain ⟨A, c, h1, h2⟩ := hget i r hr
      rw [hadd] at h1
      exact ⟨A, c, h1, h2⟩
end Go.Proofs.YtoppkhkdbkkldaaDoor
