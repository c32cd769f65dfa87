/-
  How rows of texts and rows of rows of tokens lie in memory.
-/
import Derived.Test.YtoppkhkdbkkldaaDoorWalkL
namespace Go.Proofs.YtoppkhkdbkkldaaDoor
open Go.RowKit
def ArgTexts (w : World) (A : Option Addr) (l : List ByteArray) : Prop :=
  l ≠ [] → ∃ b off, A = some ⟨b, off, none⟩ ∧ b < w.heap.size ∧ ∀ i s, l[i]? = some s → w.cell? ⟨b, off + i, none⟩ = some (.string s)
theorem ArgTexts.at_ {w wr : World} {A : Option Addr} {l : List ByteArray} (h : ArgTexts w A l) (hb : Below w.heap.size w wr) {k : Nat} {s : ByteArray} (hs : l[k]? = some s) :
    ∃ b off, A = some ⟨b, off, none⟩ ∧ b < w.heap.size ∧ wr.cell? ⟨b, off + k, none⟩ = some (.string s) := by
  obtain ⟨b, off, hA, hg, hc⟩ := h (by intro e; subst e; simp at hs)
  exact ⟨b, off, hA, hg, (hb.cell (p := ⟨b, off + k, none⟩) hg).trans (hc k s hs)⟩
def RowOk (w : World) (A : Option Addr) (r : List Lx.Tok) : Prop := r.length ≤ 9223372036854775807 ∧ (∀ t ∈ r, t.text.length ≤ 9223372036854775807) ∧ ArgToks w A r
def ArgRows (w : World) (A : Option Addr) (l : List (List Lx.Tok)) : Prop :=
  l ≠ [] → ∃ b off, A = some ⟨b, off, none⟩ ∧ b < w.heap.size ∧ ∀ i r, l[i]? = some r → ∃ A' c', w.cell? ⟨b, off + i, none⟩ = some (.slice A' r.length c') ∧ RowOk w A' r
theorem ArgRows.at_ {w wr : World} {A : Option Addr} {l : List (List Lx.Tok)} (h : ArgRows w A l) (hb : Below w.heap.size w wr) {k : Nat} {r : List Lx.Tok} (hr : l[k]? = some r) :
    ∃ b off A' c', A = some ⟨b, off, none⟩ ∧ b < w.heap.size ∧ wr.cell? ⟨b, off + k, none⟩ = some (.slice A' r.length c') ∧ RowOk wr A' r := by
  obtain ⟨b, off, hA, hg, hc⟩ := h (by intro e; subst e; simp at hr)
  obtain ⟨A', c', h1, h2, h3, h4⟩ := hc k r hr
  exact ⟨b, off, A', c', hA, hg, (hb.cell (p := ⟨b, off + k, none⟩) hg).trans h1, h2, h3, h4.below hb (Nat.le_refl _)⟩
end Go.Proofs.YtoppkhkdbkkldaaDoor
