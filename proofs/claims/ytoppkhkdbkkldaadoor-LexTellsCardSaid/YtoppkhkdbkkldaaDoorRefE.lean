/-
  PROVED: what the reference's Quote makes. CONDITION: the text's length is at most 2^28.
-/
import Derived.Test.YtoppkhkdbkkldaaDoorBuf
import Derived.Test.YtoppkhkdbkkldaaDoorWalkM
namespace Go.Proofs.YtoppkhkdbkkldaaDoor
open Go.RowKit
def refQuoteRes (L : List UInt8) : Value :=
  match Lx.quoteOf L with
  | some q => .tuple #[.string ⟨q.toArray⟩, .bool true]
  | none => .tuple #[.string ⟨#[]⟩, .bool false]
theorem refQuoteRes_some {L q : List UInt8} (h : Lx.quoteOf L = some q) : refQuoteRes L = .tuple #[.string ⟨q.toArray⟩, .bool true] := by unfold refQuoteRes; rw [h]
theorem refQuoteRes_none {L : List UInt8} (h : Lx.quoteOf L = none) : refQuoteRes L = .tuple #[.string ⟨#[]⟩, .bool false] := by unfold refQuoteRes; rw [h]
set_option maxRecDepth 100000 in
set_option maxHeartbeats 4000000 in
theorem refQuote_any (s : ByteArray) (w : World) (hs : s.size ≤ 268435456) :
    Calls Tryd.prog 26 #[.string s] w fun e w' => e = .returned (refQuoteRes s.data.toList) ∧ Below w.heap.size w w' := by
  have hL : s.data.toList.length = s.size := (Lib.size_eq s).symm
  have hQ0 := Lib.hid (QuoteAt.start s.data.toList)
  go_enter Tryd.func26, Tryd.ntmps26
  go_wp2_with fail
  have hB0 : Buf w.heap.size (.slice (some ⟨w.heap.size, 0, none⟩) 1 1) [34] w (w.alloc (.cells #[.int .u8 34] 5)) := Buf.lit w [34] (by decide) rfl
  go_loopw [4, 10] (fun x i wr => ∃ (k : Nat) (out : List UInt8), k ≤ s.size ∧ i = .int .i64 k ∧ out.length ≤ 2 * k + 1 ∧ Hid (QuoteAt s.data.toList k out) ∧ Buf w.heap.size x out w wr) (fun _ i _ => s.size - (intOf i).toNat)
  case atStart => exact ⟨0, [34], by omega, rfl, by simp, hQ0, hB0⟩
  case round =>
    obtain ⟨k, out, hk, rfl, hout, H, hB⟩ := hrel
    clear hB0
    by_cases hlt : k < s.size
    · have hc : s.data.toList[k]? = some s[k] := by rw [Array.getElem?_toList]; exact Array.getElem?_eq_getElem hlt
      have HC := Lib.hid hc
      clear hc
      by_cases h10 : s[k].toNat = 10
      · have b10 : ((s[k].toNat : Int) == 10) = true := by rw [h10]; rfl
        have HS := Lib.hid (H.out.step HC.out (qb_feed h10))
        clear h10
        go_wp2_with (at_builtin; refine wpList_buf_append rfl _ _ rfl hB rfl [92, 110] rfl rfl (by simp; omega) ?_; intro v' w' hB')
        go_roundw
        case rel => exact ⟨k + 1, _, by omega, by go_num, by simp; omega, HS, hB'⟩
        case measure => simp [intOf]; omega
      · have b10 : ((s[k].toNat : Int) == 10) = false := by rw [beq_eq_false_iff_ne]; omega
        by_cases h34 : s[k].toNat = 34 ∨ s[k].toNat = 92
        · have HS := Lib.hid (H.out.step HC.out (qb_pair h10 h34))
          have hcase : ((s[k].toNat : Int) == 34) = true ∨ (((s[k].toNat : Int) == 34) = false ∧ ((s[k].toNat : Int) == 92) = true) := by
            by_cases a : s[k].toNat = 34
            · exact .inl (by rw [a]; rfl)
            · refine .inr ⟨by rw [beq_eq_false_iff_ne]; omega, ?_⟩
              rw [h34.resolve_left a]; rfl
          clear h10 h34
          rcases hcase with b1 | ⟨b1, b2⟩
          all_goals
            go_wp2_with (at_builtin; refine wpList_buf_append rfl _ _ rfl hB rfl [92, s[k]] rfl rfl (by simp; omega) ?_; intro v' w' hB')
            go_roundw
            case rel => exact ⟨k + 1, _, by omega, by go_num, by simp; omega, HS, hB'⟩
            case measure => simp [intOf]; omega
        · have b34 : ((s[k].toNat : Int) == 34) = false := by rw [beq_eq_false_iff_ne]; omega
          have b92 : ((s[k].toNat : Int) == 92) = false := by rw [beq_eq_false_iff_ne]; omega
          by_cases hbad : s[k].toNat < 32 ∨ 126 < s[k].toNat
          · have HN := Lib.hid (H.out.bad HC.out (qb_bad h10 h34 hbad))
            clear h10 h34
            by_cases hlow : s[k].toNat < 32
            · have l32 : (s[k].toNat : Int) < 32 := by omega
              clear hlow hbad
              go_wp2_with fail
              go_ret2
              exact ⟨retv (refQuoteRes_none HN.out).symm, hB.below⟩
            · have l32 : ¬ (s[k].toNat : Int) < 32 := by omega
              have l126 : (126 : Int) < s[k].toNat := by omega
              clear hlow hbad
              go_wp2_with fail
              go_ret2
              exact ⟨retv (refQuoteRes_none HN.out).symm, hB.below⟩
          · have HS := Lib.hid (H.out.step HC.out (qb_one h10 h34 hbad))
            have l32 : ¬ (s[k].toNat : Int) < 32 := by omega
            have l126 : ¬ (126 : Int) < s[k].toNat := by omega
            clear h10 h34 hbad
            go_wp2_with (at_builtin; refine wpList_buf_append rfl _ _ rfl hB rfl [s[k]] rfl rfl (by simp; omega) ?_; intro v' w' hB')
            go_roundw
            case rel => exact ⟨k + 1, _, by omega, by go_num, by simp; omega, HS, hB'⟩
            case measure => simp [intOf]; omega
    · obtain rfl : k = s.size := by omega
      have HE := Lib.hid (show Lx.quoteOf s.data.toList = some (out ++ [34]) from QuoteAt.ends (by rw [hL]; exact H.out))
      go_wp2_with (at_builtin; refine wpList_buf_append rfl _ _ rfl hB rfl [34] rfl rfl (by simp; omega) ?_; intro v' w' hB'; have hcv := hB'.string)
      go_ret2
      exact ⟨retv (refQuoteRes_some HE.out).symm, hB'.below⟩
end Go.Proofs.YtoppkhkdbkkldaaDoor
