/-
  THE WALKS, fifth part: quote of script's writer. CONDITIONS: the builder is the call's own; lengths as it says.
-/
import Derived.Test.YthpojljfmipngaaGreatDoorWalkD
namespace Go.Proofs.YthpojljfmipngaaGreatDoor
open Go.RowKit
set_option maxRecDepth 100000 in
set_option maxHeartbeats 8000000 in
theorem wquote_any (B b : Nat) (l : List UInt8) (s : ByteArray) (w : World) (hs : s.size ≤ 1073741824) (h : IsB B b l w) (hlen : l.length ≤ 1099511627776) :
    Calls Tryz.prog 33 #[.pointer (some ⟨b, 0, none⟩), .string s] w fun e w' => e = .returned (.tuple #[]) ∧ IsB B b (l ++ Sc.quoteT s.data.toList) w' ∧ Below B w w' := by
  have hL : s.data.toList.length = s.size := (Lib.size_eq s).symm
  have hel := fun k => escTo_len s.data.toList k
  go_enter Tryz.func33, Tryz.ntmps33
  go_wp2_with fail
  refine (writeString_at B b l [32, 34] _ rfl _ h (by simp; omega)).mono ?_
  rintro e w1 ⟨rfl, h1, hb1, _⟩
  go_wp2_with fail
  go_loopw [12] (fun i wr => ∃ k : Nat, k ≤ s.size ∧ i = .int .i64 k ∧ IsB B b ((l ++ [32, 34]) ++ escTo s.data.toList k) wr ∧ Below B w wr) (fun i _ => s.size - (intOf i).toNat)
  case atStart => exact ⟨0, Nat.zero_le _, rfl, by simpa [escTo] using h1, hb1⟩
  case round =>
    obtain ⟨k, hk, rfl, hI, hb⟩ := hrel
    have hek := hel k
    have hlk : ((l ++ [32, 34]) ++ escTo s.data.toList k).length ≤ 1099511627778 + 4 * k := by simp; omega
    generalize hout : (l ++ [32, 34]) ++ escTo s.data.toList k = out at hI hlk
    by_cases hlt : k < s.size
    · have hc : s.data.toList[k]? = some s[k] := by rw [Array.getElem?_toList]; exact Array.getElem?_eq_getElem hlt
      have hS : ∀ m, Sc.esc s[k] = m → (l ++ [32, 34]) ++ escTo s.data.toList (k + 1) = out ++ m := fun m hm => by rw [escTo_succ hc, hm, ← List.append_assoc, hout]
      have HS := Lib.hid hS
      have HOUT := Lib.hid hout
      clear hc hS hout hek hel
      generalize hcc : s[k] = c at HS ⊢
      by_cases h34 : c.toNat = 34 ∨ c.toNat = 92
      · have HN := Lib.hid (HS.out _ (esc_pair h34))
        have hcase : ((c.toNat : Int) == 34) = true ∨ (((c.toNat : Int) == 34) = false ∧ ((c.toNat : Int) == 92) = true) := by
          by_cases a : c.toNat = 34
          · exact .inl (by rw [a]; rfl)
          · refine .inr ⟨by rw [beq_eq_false_iff_ne]; omega, ?_⟩
            rw [h34.resolve_left a]; rfl
        clear h34
        rcases hcase with b1 | ⟨b1, b2⟩
        all_goals
          go_wp2_with fail
          refine (writeByte_at B b out 92 92 rfl _ hI (by omega)).mono ?_
          rintro e w2 ⟨rfl, h2, hb2, _⟩
          go_wp2_with fail
          refine (writeByte_at B b _ _ c rfl _ h2 (by simp; omega)).mono ?_
          rintro e w3 ⟨rfl, h3, hb3, _⟩
          go_wp2_with fail
          go_roundw
          case rel => exact ⟨k + 1, by omega, by go_num, by rw [HN.out]; simpa using h3, hb.trans (hb2.trans hb3)⟩
          case measure => simp [intOf]; omega
      · have b34 : ((c.toNat : Int) == 34) = false := by rw [beq_eq_false_iff_ne]; omega
        have b92 : ((c.toNat : Int) == 92) = false := by rw [beq_eq_false_iff_ne]; omega
        by_cases h10 : c.toNat = 10
        · have HN := Lib.hid (HS.out _ (esc_feed h10))
          have b10 : ((c.toNat : Int) == 10) = true := by rw [h10]; rfl
          clear h34 h10
          go_wp2_with fail
          refine (writeString_at B b out [92, 110] _ rfl _ hI (by simp; omega)).mono ?_
          rintro e w2 ⟨rfl, h2, hb2, _⟩
          go_wp2_with fail
          go_roundw
          case rel => exact ⟨k + 1, by omega, by go_num, by rw [HN.out]; exact h2, hb.trans hb2⟩
          case measure => simp [intOf]; omega
        have b10 : ((c.toNat : Int) == 10) = false := by rw [beq_eq_false_iff_ne]; omega
        by_cases h13 : c.toNat = 13
        · have HN := Lib.hid (HS.out _ (esc_back h13))
          have b13 : ((c.toNat : Int) == 13) = true := by rw [h13]; rfl
          clear h34 h10 h13
          go_wp2_with fail
          refine (writeString_at B b out [92, 114] _ rfl _ hI (by simp; omega)).mono ?_
          rintro e w2 ⟨rfl, h2, hb2, _⟩
          go_wp2_with fail
          go_roundw
          case rel => exact ⟨k + 1, by omega, by go_num, by rw [HN.out]; exact h2, hb.trans hb2⟩
          case measure => simp [intOf]; omega
        have b13 : ((c.toNat : Int) == 13) = false := by rw [beq_eq_false_iff_ne]; omega
        by_cases hbad : c.toNat < 32 ∨ 126 < c.toNat
        · have HN := Lib.hid (HS.out _ (esc_hex h34 h10 h13 hbad))
          have hcase : (c.toNat : Int) < 32 ∨ (¬ (c.toNat : Int) < 32 ∧ (126 : Int) < c.toNat) := by omega
          clear h34 h10 h13 hbad
          rcases hcase with l1 | ⟨l1, l2⟩
          all_goals
            go_wp2_with fail
            refine (writeString_at B b out [92, 120] _ rfl _ hI (by simp; omega)).mono ?_
            rintro e w2 ⟨rfl, h2, hb2, _⟩
            go_wp2_with fail
            refine (digits_any B b _ c _ h2 (by simp; omega)).mono ?_
            rintro e w3 ⟨rfl, h3, hb3⟩
            go_wp2_with fail
            go_roundw
            case rel => exact ⟨k + 1, by omega, by go_num, by rw [HN.out]; simpa using h3, hb.trans (hb2.trans hb3)⟩
            case measure => simp [intOf]; omega
        · have HN := Lib.hid (HS.out _ (esc_one h34 h10 h13 hbad))
          have l1 : ¬ (c.toNat : Int) < 32 := by omega
          have l2 : ¬ (126 : Int) < c.toNat := by omega
          clear h34 h10 h13 hbad
          go_wp2_with fail
          refine (writeByte_at B b out _ c rfl _ hI (by omega)).mono ?_
          rintro e w2 ⟨rfl, h2, hb2, _⟩
          go_wp2_with fail
          go_roundw
          case rel => exact ⟨k + 1, by omega, by go_num, by rw [HN.out]; exact h2, hb.trans hb2⟩
          case measure => simp [intOf]; omega
    · obtain rfl : k = s.size := by omega
      have hfin : out ++ [34] = l ++ Sc.quoteT s.data.toList := by
        rw [← hout]
        unfold Sc.quoteT escTo
        rw [List.take_of_length_le (by omega)]
        simp
      have HF := Lib.hid hfin
      clear hfin hout hel
      go_wp2_with fail
      refine (writeByte_at B b out 34 34 rfl _ hI (by omega)).mono ?_
      rintro e w2 ⟨rfl, h2, hb2, _⟩
      go_wp2_with fail
      go_end0
      exact ⟨rfl, by rw [← HF.out]; exact h2, hb.trans hb2⟩
end Go.Proofs.YthpojljfmipngaaGreatDoor
