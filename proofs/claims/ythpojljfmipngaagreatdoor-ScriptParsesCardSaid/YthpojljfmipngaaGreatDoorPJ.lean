/-
  THE LAW ScriptParses, walked; its row of texts. CONDITION: Env; the texts lie as ArgTexts says.
-/
import Derived.Test.YthpojljfmipngaaGreatDoorPI
import Derived.SliceStrings
import Derived.WalkKit
import Derived.ProofKit
import Derived.OpenShut
import Derived.Deep.Slices
namespace Go.Proofs.YthpojljfmipngaaGreatDoor
open Go.RowKit
def ArgTexts (w : World) (A : Option Addr) (l : List ByteArray) : Prop :=
  l ≠ [] → ∃ b off, A = some ⟨b, off, none⟩ ∧ b < w.heap.size ∧ ∀ i s, l[i]? = some s → w.cell? ⟨b, off + i, none⟩ = some (.string s)
theorem ArgTexts.at_ {w wr : World} {A : Option Addr} {l : List ByteArray} (h : ArgTexts w A l) (hb : Below w.heap.size w wr) {k : Nat} {s : ByteArray} (hs : l[k]? = some s) :
    ∃ b off, A = some ⟨b, off, none⟩ ∧ b < w.heap.size ∧ wr.cell? ⟨b, off + k, none⟩ = some (.string s) := by
  obtain ⟨b, off, hA, hg, hc⟩ := h (by intro e; subst e; simp at hs)
  exact ⟨b, off, hA, hg, (hb.cell (p := ⟨b, off + k, none⟩) hg).trans (hc k s hs)⟩
set_option maxRecDepth 100000 in
set_option maxHeartbeats 8000000 in
theorem lawParses_any (l : List ByteArray) (A : Option Addr) (c : Nat) (w : World) (henv : Env w) (_hl : l.length ≤ 9223372036854775807) (_hls : ∀ s ∈ l, s.size ≤ 9223372036854775807) (hA : ArgTexts w A l) :
    Calls Tryz.prog 3 #[.slice A l.length c] w fun e w' => e = .returned (.bool true) ∧ Below w.heap.size w w' := by
  have HENV := Lib.hid henv
  clear henv
  go_enter Tryz.func3, Tryz.ntmps3
  go_wp2_with fail
  refine (wakes_any w HENV.out).mono ?_
  rintro e w1 ⟨rfl, hb1⟩
  go_wp2_with fail
  go_loopw [9] (fun i wr => ∃ k : Nat, k ≤ l.length ∧ i = .int .i64 k ∧ Below w.heap.size w wr) (fun i _ => l.length - (intOf i).toNat)
  case atStart => exact ⟨0, Nat.zero_le _, rfl, hb1⟩
  case round =>
    obtain ⟨k, hk, rfl, hb⟩ := hrel
    clear hb1
    by_cases hlt : k < l.length
    · obtain ⟨s0, ht⟩ : ∃ t, l[k]? = some t := ⟨_, List.getElem?_eq_getElem hlt⟩
      obtain ⟨b, off, hA', hg, c1⟩ := hA.at_ hb ht
      subst hA'
      have HB := Lib.hid hb
      have HE := Lib.hid (HENV.out.next hb)
      clear hb ht
      by_cases h16 : k < 16
      · have h16i : (k : Int) < 16 := by omega
        go_wp2_with fail
        refine (parses_any s0 _ HE.out).mono ?_
        rintro e w2 ⟨rfl, hb2⟩
        have HB2 := Lib.hid (HB.out.trans (hb2.mono HB.out.size))
        clear hb2
        go_wp2_with fail
        go_roundw
        case rel => exact ⟨k + 1, by omega, by go_num, HB2.out⟩
        case measure => simp [intOf]; omega
      · have h16i : ¬ (k : Int) < 16 := by omega
        go_wp2_with fail
        go_roundw
        case rel => exact ⟨k + 1, by omega, by go_num, HB.out⟩
        case measure => simp [intOf]; omega
    · have HB := Lib.hid hb
      clear hb
      go_wp2_with fail
      go_ret
      exact ⟨rfl, HB.out⟩
open Go.ChangeShapes Go.WideShapes Go.ChangeAt Go.RowKit
theorem open_texts {H : Type} {enc : TypeId × Value → H} {w : World} {held : Bool} {fuel : Nat} {cs : List Value} {x : DataW H × List MemPlace} (h : DataW.trod enc Tryz.prog w 0 (fun _ => true) held fuel 22 cs = some x) :
    ∃ (l : List ByteArray) (A : Option Addr) (c : Nat), cs = [.slice A l.length c] ∧ l.length ≤ 9223372036854775807 ∧ (∀ s ∈ l, s.size ≤ 9223372036854775807) ∧ ArgTexts w A l := by
  rcases open_strings Tryz.underlying22 Tryz.underlying9 (by kernel_rfl) h with ⟨rfl, _⟩ | ⟨a, len, cap, ss, rfl, _, hlc, hcm, hss, _, hget, hsz⟩
  · exact ⟨[], none, 0, rfl, by simp, by simp, fun h => absurd rfl h⟩
  · have hss' : ss.length = cap := by simpa using hss
    have htl : (ss.take len).length = len := by rw [List.length_take]; omega
    have hg : ∀ i s, (ss.take len)[i]? = some s → w.cell? (a.add i) = some (.string s) := by
      intro i s hi
      rw [List.getElem?_take] at hi
      split at hi
      · have hlt : i < ss.length := (List.getElem?_eq_some_iff.1 hi).1
        rw [hget i hlt, List.getD_eq_getElem?_getD, hi]; rfl
      · cases hi
    refine ⟨ss.take len, some a, cap, by rw [htl], ?_, ?_, ?_⟩
    · rw [htl]; simp [maxLen] at hcm; omega
    · intro s hs
      have := hsz s (List.mem_of_mem_take hs)
      simpa [maxLen] using this
    · intro hne
      obtain ⟨t0, ht0⟩ : ∃ t, (ss.take len)[0]? = some t := ⟨_, List.getElem?_eq_getElem (List.length_pos_iff.2 hne)⟩
      have h0 := hg 0 t0 ht0
      obtain ⟨b, off, spot⟩ := a
      have hspot : spot = none := by simpa [Addr.add] using World.cell?_spot h0
      subst hspot
      have hadd : ∀ j, (⟨b, off, none⟩ : Addr).add j = ⟨b, off + j, none⟩ := fun j => by simp [Addr.add]
      refine ⟨b, off, rfl, World.block_lt_of_cell? _ _ h0, fun i t ht => ?_⟩
      have h1 := hg i t ht
      rw [hadd] at h1
      exact h1
end Go.Proofs.YthpojljfmipngaaGreatDoor
