/-
  PROVED: what Quote of package lex makes. CONDITION: the text's length is at most 2^28.
-/
import Derived.Test.YtoppkhkdbkkldaaDoorBld2
import Derived.Laws.IdiomStrings
namespace Go.Proofs.YtoppkhkdbkkldaaDoor
open Go.RowKit
def quoteRes (L : List UInt8) : Value :=
  match Lx.quoteOf L with
  | some q => .tuple #[.string ⟨q.toArray⟩, .int .i64 0]
  | none => .tuple #[.string ⟨#[]⟩, .int .i64 2]
theorem quoteRes_some {L q : List UInt8} (h : Lx.quoteOf L = some q) : quoteRes L = .tuple #[.string ⟨q.toArray⟩, .int .i64 0] := by unfold quoteRes; rw [h]
theorem quoteRes_none {L : List UInt8} (h : Lx.quoteOf L = none) : quoteRes L = .tuple #[.string ⟨#[]⟩, .int .i64 2] := by unfold quoteRes; rw [h]
/-- The state behind k letters. -/
def QuoteAt (L : List UInt8) (k : Nat) (out : List UInt8) : Prop := Lx.quoteOf L = (Lx.quoteBody (L.drop k)).map (out ++ ·)
theorem QuoteAt.start (L : List UInt8) : QuoteAt L 0 [34] := by unfold QuoteAt Lx.quoteOf; rw [List.drop_zero]; rfl
theorem QuoteAt.step {L out : List UInt8} {k : Nat} {c : UInt8} (h : QuoteAt L k out) (hc : L[k]? = some c) {add : List UInt8}
    (hq : ∀ r, Lx.quoteBody (c :: r) = (Lx.quoteBody r).map (add ++ ·)) : QuoteAt L (k + 1) (out ++ add) := by
  obtain ⟨hk, rfl⟩ := List.getElem?_eq_some_iff.1 hc
  unfold QuoteAt at h ⊢
  rw [h, List.drop_eq_getElem_cons hk, hq]
  cases Lx.quoteBody (L.drop (k + 1)) <;> simp
theorem QuoteAt.bad {L out : List UInt8} {k : Nat} {c : UInt8} (h : QuoteAt L k out) (hc : L[k]? = some c) (hq : ∀ r, Lx.quoteBody (c :: r) = none) : Lx.quoteOf L = none := by
  obtain ⟨hk, rfl⟩ := List.getElem?_eq_some_iff.1 hc
  unfold QuoteAt at h
  rw [h, List.drop_eq_getElem_cons hk, hq]; rfl
theorem QuoteAt.ends {L out : List UInt8} (h : QuoteAt L L.length out) : Lx.quoteOf L = some (out ++ [34]) := by
  unfold QuoteAt at h
  rw [h, List.drop_length]; rfl
theorem qb_feed {c : UInt8} (h : c.toNat = 10) (r : List UInt8) : Lx.quoteBody (c :: r) = (Lx.quoteBody r).map ([92, 110] ++ ·) := by rw [Lx.quoteBody, if_pos h]
theorem qb_pair {c : UInt8} (h1 : ¬ c.toNat = 10) (h : c.toNat = 34 ∨ c.toNat = 92) (r : List UInt8) : Lx.quoteBody (c :: r) = (Lx.quoteBody r).map ([92, c] ++ ·) := by rw [Lx.quoteBody, if_neg h1, if_pos h]
theorem qb_bad {c : UInt8} (h1 : ¬ c.toNat = 10) (h2 : ¬ (c.toNat = 34 ∨ c.toNat = 92)) (h : c.toNat < 32 ∨ 126 < c.toNat) (r : List UInt8) : Lx.quoteBody (c :: r) = none := by rw [Lx.quoteBody, if_neg h1, if_neg h2, if_pos h]
theorem qb_one {c : UInt8} (h1 : ¬ c.toNat = 10) (h2 : ¬ (c.toNat = 34 ∨ c.toNat = 92)) (h : ¬ (c.toNat < 32 ∨ 126 < c.toNat)) (r : List UInt8) : Lx.quoteBody (c :: r) = (Lx.quoteBody r).map ([c] ++ ·) := by rw [Lx.quoteBody, if_neg h1, if_neg h2, if_neg h]
theorem bytesRow_get (s : ByteArray) (cap : Nat) {k : Nat} {c : UInt8} (h : s.data.toList[k]? = some c) : (bytesRow s cap)[k]? = some (.int .u8 c.toNat) := by
  have hk : k < s.data.size := by have := (List.getElem?_eq_some_iff.1 h).1; simpa using this
  unfold bytesRow
  rw [Array.getElem?_append_left (by simpa using hk), Array.getElem?_map]
  rw [Array.getElem?_toList] at h
  rw [h]; rfl
theorem blk_cells2 {w : World} {b : Nat} {t : TypeId} {cs : Array Value} {fz : Nat × Nat} (h : w.heap[b]? = some (.cells cs t fz)) (i : Nat) : w.cell? ⟨b, i, none⟩ = cs[i]? := cell_of_row w b i cs t fz h

set_option maxRecDepth 100000 in
set_option maxHeartbeats 4000000 in
theorem quote_any (s : ByteArray) (w : World) (hs : s.size ≤ 268435456) :
    Calls Tryd.prog 21 #[.string s] w fun e w' => e = .returned (quoteRes s.data.toList) ∧ Below w.heap.size w w' := by
  have hL : s.data.toList.length = s.size := (Lib.size_eq s).symm
  have hQ0 := Lib.hid (QuoteAt.start s.data.toList)
  go_enter Tryd.func21, Tryd.ntmps21
  go_wp2_with fail
  refine (writeByte_mat _ _ [] 34 34 rfl _ (isB_new w) (by decide)).mono ?_
  rintro e w1 ⟨rfl, hB1, hb1, _⟩
  have hcv := run_bytes_of_string (P := Tryd.prog) w1 9 61 5 s Tryd.underlying9 Tryd.underlying61 Tryd.underlying5
  have hw1 : w.heap.size < w1.heap.size := hB1.lt
  have hb01 : Below w.heap.size w w1 := (below_box w _).trans hb1
  generalize hcap : grownCap w1 s.size 0 5 = cap at hcv
  go_wp2_with fail
  have hBx : IsB w.heap.size w.heap.size [34] (w1.alloc (.cells (bytesRow s cap) 5 ((bytesRow s cap).size, (bytesRow s cap).size + 1))).drew := (hB1.alloc _).drew
  have hbx : Below w.heap.size w (w1.alloc (.cells (bytesRow s cap) 5 ((bytesRow s cap).size, (bytesRow s cap).size + 1))).drew := (hb01.alloc (by omega) _).drew
  have hX : (w1.alloc (.cells (bytesRow s cap) 5 ((bytesRow s cap).size, (bytesRow s cap).size + 1))).drew.heap[w1.heap.size]? = some (.cells (bytesRow s cap) 5 ((bytesRow s cap).size, (bytesRow s cap).size + 1)) := heap_alloc_new w1 _
  generalize (w1.alloc (.cells (bytesRow s cap) 5 ((bytesRow s cap).size, (bytesRow s cap).size + 1))).drew = w2 at hBx hbx hX ⊢
  clear hcv hcap hB1 hb1 hb01
  go_loopw [6, 11] (fun x i wr => ∃ (k : Nat) (out : List UInt8), k ≤ s.size ∧ i = .int .i64 k ∧ out.length ≤ 2 * k + 1 ∧ Hid (QuoteAt s.data.toList k out) ∧ IsB w.heap.size w.heap.size out wr ∧ Below w.heap.size w wr ∧ wr.heap[w1.heap.size]? = some (.cells (bytesRow s cap) 5 ((bytesRow s cap).size, (bytesRow s cap).size + 1))) (fun _ i _ => s.size - (intOf i).toNat)
  case atStart => exact ⟨0, [34], Nat.zero_le _, rfl, by simp, hQ0, hBx, hbx, hX⟩
  case round =>
    obtain ⟨k, out, hk, rfl, hout, H, hB, hb, hXr⟩ := hrel
    by_cases hlt : k < s.size
    · obtain ⟨c, hc⟩ : ∃ c, s.data.toList[k]? = some c := ⟨_, List.getElem?_eq_getElem (by omega)⟩
      have hcell : wr.cell? ⟨w1.heap.size, k, none⟩ = some (.int .u8 c.toNat) := (blk_cells2 hXr k).trans (bytesRow_get s cap hc)
      have HC := Lib.hid hc
      have HX := Lib.hid hXr
      clear hc hXr hX
      by_cases h10 : c.toNat = 10
      · have b10 : ((c.toNat : Int) == 10) = true := by rw [h10]; rfl
        have HS := Lib.hid (H.out.step HC.out (qb_feed h10))
        clear h10
        go_wp2_with fail
        refine (writeString_mat _ _ out [92, 110] _ rfl _ hB (by simp; omega)).mono ?_
        rintro e w3 ⟨rfl, hB3, hb3, hm3⟩
        go_wp2_with fail
        go_roundw
        case rel => exact ⟨k + 1, out ++ [92, 110], by omega, by go_num, by simp; omega, HS, hB3, hb.trans hb3, hm3 _ _ (by omega) HX.out⟩
        case measure => simp [intOf]; omega
      have b10 : ((c.toNat : Int) == 10) = false := by rw [beq_eq_false_iff_ne]; omega
      by_cases h34 : c.toNat = 34 ∨ c.toNat = 92
      · have HS := Lib.hid (H.out.step HC.out (qb_pair h10 h34))
        clear h10
        have tail2 : ∀ W, IsB w.heap.size w.heap.size (out ++ [92]) W → Below w.heap.size wr W → MarkKept w.heap.size wr W → Calls Tryd.prog 40 #[.pointer (some ⟨w.heap.size, 0, none⟩), .int .u8 c.toNat] W fun e w' => e = .returned .nilIface ∧ IsB w.heap.size w.heap.size (out ++ [92, c]) w' ∧ Below w.heap.size w w' ∧ w'.heap[w1.heap.size]? = some (.cells (bytesRow s cap) 5 ((bytesRow s cap).size, (bytesRow s cap).size + 1)) := by
          intro W hW hbW hmW
          refine (writeByte_mat _ _ (out ++ [92]) _ c rfl W hW (by simp; omega)).mono ?_
          rintro e w4 ⟨rfl, hB4, hb4, hm4⟩
          exact ⟨rfl, by simpa using hB4, (hb.trans hbW).trans hb4, (hmW.trans hm4) _ _ (by omega) HX.out⟩
        by_cases hq : c.toNat = 34
        · have b34 : ((c.toNat : Int) == 34) = true := by rw [hq]; rfl
          clear hq h34
          go_wp2_with fail
          refine (writeByte_mat _ _ out 92 92 rfl _ hB (by omega)).mono ?_
          rintro e w3 ⟨rfl, hB3, hb3, hm3⟩
          go_wp2_with fail
          refine (tail2 w3 hB3 hb3 hm3).mono ?_
          rintro e w4 ⟨rfl, hB4, hb4, hX4⟩
          go_wp2_with fail
          go_roundw
          case rel => exact ⟨k + 1, out ++ [92, c], by omega, by go_num, by simp; omega, HS, hB4, hb4, hX4⟩
          case measure => simp [intOf]; omega
        · have b34 : ((c.toNat : Int) == 34) = false := by rw [beq_eq_false_iff_ne]; omega
          have h92 : c.toNat = 92 := by omega
          have b92 : ((c.toNat : Int) == 92) = true := by rw [h92]; rfl
          clear hq h34 h92
          go_wp2_with fail
          refine (writeByte_mat _ _ out 92 92 rfl _ hB (by omega)).mono ?_
          rintro e w3 ⟨rfl, hB3, hb3, hm3⟩
          go_wp2_with fail
          refine (tail2 w3 hB3 hb3 hm3).mono ?_
          rintro e w4 ⟨rfl, hB4, hb4, hX4⟩
          go_wp2_with fail
          go_roundw
          case rel => exact ⟨k + 1, out ++ [92, c], by omega, by go_num, by simp; omega, HS, hB4, hb4, hX4⟩
          case measure => simp [intOf]; omega
      rw [not_or] at h34
      have b34 : ((c.toNat : Int) == 34) = false := by rw [beq_eq_false_iff_ne]; omega
      have b92 : ((c.toNat : Int) == 92) = false := by rw [beq_eq_false_iff_ne]; omega
      by_cases hbad : c.toNat < 32 ∨ 126 < c.toNat
      · have HN := Lib.hid (H.out.bad HC.out (qb_bad h10 (by rw [not_or]; exact h34) hbad))
        clear h10 h34
        by_cases hlow : c.toNat < 32
        · have l32 : (c.toNat : Int) < 32 := by omega
          clear hlow hbad
          go_wp2_with fail
          go_ret2
          exact ⟨retv (quoteRes_none HN.out).symm, hb⟩
        · have l32 : ¬ (c.toNat : Int) < 32 := by omega
          have l126 : (126 : Int) < c.toNat := by omega
          clear hlow hbad
          go_wp2_with fail
          go_ret2
          exact ⟨retv (quoteRes_none HN.out).symm, hb⟩
      · have HS := Lib.hid (H.out.step HC.out (qb_one h10 (by rw [not_or]; exact h34) hbad))
        have l32 : ¬ (c.toNat : Int) < 32 := by omega
        have l126 : ¬ (126 : Int) < c.toNat := by omega
        clear h10 h34 hbad
        go_wp2_with fail
        refine (writeByte_mat _ _ out _ c rfl _ hB (by omega)).mono ?_
        rintro e w3 ⟨rfl, hB3, hb3, hm3⟩
        go_wp2_with fail
        go_roundw
        case rel => exact ⟨k + 1, out ++ [c], by omega, by go_num, by simp; omega, HS, hB3, hb.trans hb3, hm3 _ _ (by omega) HX.out⟩
        case measure => simp [intOf]; omega
    · obtain rfl : k = s.size := by omega
      have HE := Lib.hid (show Lx.quoteOf s.data.toList = some (out ++ [34]) from QuoteAt.ends (by rw [hL]; exact H.out))
      clear hXr
      go_wp2_with fail
      refine (writeByte_mat _ _ out 34 34 rfl _ hB (by omega)).mono ?_
      rintro e w3 ⟨rfl, hB3, hb3, _⟩
      go_wp2_with fail
      refine (bldString_any _ _ _ _ hB3).mono ?_
      rintro e w4 ⟨rfl, _, hb4, _⟩
      go_wp2_with fail
      go_ret2
      exact ⟨retv (quoteRes_some HE.out).symm, (hb.trans hb3).trans hb4⟩

end Go.Proofs.YtoppkhkdbkkldaaDoor
