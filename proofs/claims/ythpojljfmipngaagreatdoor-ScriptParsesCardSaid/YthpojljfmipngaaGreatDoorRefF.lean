/-
  THE WALKS of the document's answer, sixth part: Quote. CONDITION: the text's length.
-/
import Derived.Test.YthpojljfmipngaaGreatDoorRefE
import Derived.Test.YthpojljfmipngaaGreatDoorWalkE
namespace Go.Proofs.YthpojljfmipngaaGreatDoor
open Go.RowKit
theorem Bf.two {B : Nat} {v : Value} {out : Sc.Bs} {c : UInt8} {w : World} (h : Own 5 1 B v (out.length + 2) (Lib.byteCells out ++ [.int .u8 92, .int .u8 (c.toNat : Int)]) w) : Bf B v (out ++ [92, c]) w := by
  unfold Bf
  rw [List.length_append, byteCells_app]; exact h
def refQuote (s : Sc.Bs) : Sc.Bs := [34] ++ s.flatMap Sc.esc ++ [34]
set_option maxRecDepth 100000 in
set_option maxHeartbeats 8000000 in
theorem refQuote_any (s : ByteArray) (w : World) (hs : s.size ≤ 1073741824) :
    Calls Tryz.prog 70 #[.string s] w fun e w' => e = .returned (.string ⟨(refQuote s.data.toList).toArray⟩) ∧ Below w.heap.size w w' := by
  have hL : s.data.toList.length = s.size := (Lib.size_eq s).symm
  have hel := fun k => escTo_len s.data.toList k
  have hb0 := bf_lit w [34] (by simp) (C := #[.int .u8 34]) rfl
  have hbb := below_box w (.cells #[.int .u8 34] 5)
  have HB0 := Lib.hid hb0
  have HBB := Lib.hid hbb
  clear hb0 hbb
  go_enter Tryz.func70, Tryz.ntmps70
  go_wp2_with fail
  go_loopw [3, 4, 5, 9] (fun bv _ _ i wr => ∃ k : Nat, k ≤ s.size ∧ i = .int .i64 k ∧ Bf w.heap.size bv ([34] ++ escTo s.data.toList k) wr ∧ Below w.heap.size w wr) (fun _ _ _ i _ => s.size - (intOf i).toNat)
  case atStart => exact ⟨0, Nat.zero_le _, rfl, HB0.out, HBB.out⟩
  case round =>
    obtain ⟨k, hk, rfl, hB, hb⟩ := hrel
    have HB := Lib.hid hB
    have HBW := Lib.hid hb
    have hek := hel k
    have hlk : ([34] ++ escTo s.data.toList k).length ≤ 4294967297 := by simp; omega
    clear hB hb hel
    generalize hout : [34] ++ escTo s.data.toList k = out at HB hlk
    by_cases hlt : k < s.size
    · have hc : s.data.toList[k]? = some s[k] := by rw [Array.getElem?_toList]; exact Array.getElem?_eq_getElem hlt
      have HS : Hid (∀ m, Sc.esc s[k] = m → [34] ++ escTo s.data.toList (k + 1) = out ++ m) := Lib.hid (fun m hm => by rw [escTo_succ hc, hm, ← List.append_assoc, hout])
      clear hc hout hek
      generalize hcc : s[k] = c at HS ⊢
      by_cases h34 : c.toNat = 34 ∨ c.toNat = 92
      · have HN := Lib.hid (HS.out _ (esc_pair h34))
        have hcase : ((c.toNat : Int) == 34) = true ∨ (((c.toNat : Int) == 34) = false ∧ ((c.toNat : Int) == 92) = true) := by
          by_cases a : c.toNat = 34
          · exact .inl (by rw [a]; rfl)
          · refine .inr ⟨by rw [beq_eq_false_iff_ne]; omega, ?_⟩
            rw [h34.resolve_left a]; rfl
        clear h34
        rcases hcase with b1 | ⟨b1, b2⟩
        all_goals
          go_wp2_with (at_builtin; refine wpList_own_append rfl _ _ 37 5 (.int .u8 0) 1 1 rfl Tryz.underlying37 info5 rfl (by decide) HB.out rfl [.int .u8 92, .int .u8 (c.toNat : Int)] 2 rfl rfl (by simp [Value.oneCell']) rfl (by unfold maxLen; omega) (by omega) ?_)
          intro v' w3 hO3 hb3
          have HB3 := Lib.hid (Bf.two hO3)
          have HBW3 := Lib.hid (HBW.out.trans hb3)
          clear hO3 hb3
          go_wp2_with fail
          go_roundw
          case rel => exact ⟨k + 1, by omega, by go_num, by rw [HN.out]; exact HB3.out, HBW3.out⟩
          case measure => simp [intOf]; omega
      · have b34 : ((c.toNat : Int) == 34) = false := by rw [beq_eq_false_iff_ne]; omega
        have b92 : ((c.toNat : Int) == 92) = false := by rw [beq_eq_false_iff_ne]; omega
        by_cases h10 : c.toNat = 10
        · have HN := Lib.hid (HS.out _ (esc_feed h10))
          have b10 : ((c.toNat : Int) == 10) = true := by rw [h10]; rfl
          clear h34 h10
          go_wp2_with (at_builtin; refine wpList_bf_str rfl _ _ rfl HB.out rfl [92, 110] _ rfl rfl (by simp only [List.length_cons, List.length_nil]; omega) ?_)
          intro v' w3 hO3 hb3
          have HB3 := Lib.hid hO3
          have HBW3 := Lib.hid (HBW.out.trans hb3)
          clear hO3 hb3
          go_wp2_with fail
          go_roundw
          case rel => exact ⟨k + 1, by omega, by go_num, by rw [HN.out]; exact HB3.out, HBW3.out⟩
          case measure => simp [intOf]; omega
        have b10 : ((c.toNat : Int) == 10) = false := by rw [beq_eq_false_iff_ne]; omega
        by_cases h13 : c.toNat = 13
        · have HN := Lib.hid (HS.out _ (esc_back h13))
          have b13 : ((c.toNat : Int) == 13) = true := by rw [h13]; rfl
          clear h34 h10 h13
          go_wp2_with (at_builtin; refine wpList_bf_str rfl _ _ rfl HB.out rfl [92, 114] _ rfl rfl (by simp only [List.length_cons, List.length_nil]; omega) ?_)
          intro v' w3 hO3 hb3
          have HB3 := Lib.hid hO3
          have HBW3 := Lib.hid (HBW.out.trans hb3)
          clear hO3 hb3
          go_wp2_with fail
          go_roundw
          case rel => exact ⟨k + 1, by omega, by go_num, by rw [HN.out]; exact HB3.out, HBW3.out⟩
          case measure => simp [intOf]; omega
        have b13 : ((c.toNat : Int) == 13) = false := by rw [beq_eq_false_iff_ne]; omega
        by_cases hbad : c.toNat < 32 ∨ 126 < c.toNat
        · have HN := Lib.hid (HS.out _ (esc_hex h34 h10 h13 hbad))
          have hcase : (c.toNat : Int) < 32 ∨ (¬ (c.toNat : Int) < 32 ∧ (126 : Int) < c.toNat) := by omega
          clear h34 h10 h13 hbad
          rcases hcase with l1 | ⟨l1, l2⟩
          all_goals
            go_wp2_with fail
            refine (refHex_any [c] _ _ _ (by simp) (cells_new wr _ _ 5 rfl)).mono ?_
            rintro e w2 ⟨rfl, hb2⟩
            have HB2 := Lib.hid ((HB.out.next (below_box wr _)).next hb2)
            have HBW2 := Lib.hid (HBW.out.trans ((below_box wr _ |>.mono HBW.out.size).trans (hb2.mono (Nat.le_trans HBW.out.size (below_box wr _).size))))
            clear hb2
            have eh : ([c].flatMap hex2) = hex2 c := by simp
            rw [eh]
            have hh2 : (hex2 c).length = 2 := rfl
            go_wp2_with (at_builtin; refine wpList_bf_str rfl _ _ rfl HB2.out rfl ([92, 120] ++ hex2 c) _ (by simp) rfl (by simp only [List.length_append, List.length_cons, List.length_nil, hh2]; omega) ?_)
            intro v' w3 hO3 hb3
            have HB3 := Lib.hid hO3
            have HBW3 := Lib.hid (HBW2.out.trans hb3)
            clear hO3 hb3
            go_wp2_with fail
            go_roundw
            case rel => exact ⟨k + 1, by omega, by go_num, by rw [HN.out]; exact HB3.out, HBW3.out⟩
            case measure => simp [intOf]; omega
        · have HN := Lib.hid (HS.out _ (esc_one h34 h10 h13 hbad))
          have l1 : ¬ (c.toNat : Int) < 32 := by omega
          have l2 : ¬ (126 : Int) < c.toNat := by omega
          clear h34 h10 h13 hbad
          go_wp2_with (at_builtin; refine wpList_own_append rfl _ _ 37 5 (.int .u8 0) 1 1 rfl Tryz.underlying37 info5 rfl (by decide) HB.out rfl [.int .u8 (c.toNat : Int)] 1 rfl rfl (by simp [Value.oneCell']) rfl (by unfold maxLen; omega) (by omega) ?_)
          intro v' w3 hO3 hb3
          have HB3 : Hid (Bf w.heap.size v' (out ++ [c]) w3) := Lib.hid (Own.byte hO3)
          have HBW3 := Lib.hid (HBW.out.trans hb3)
          clear hO3 hb3
          go_wp2_with fail
          go_roundw
          case rel => exact ⟨k + 1, by omega, by go_num, by rw [HN.out]; exact HB3.out, HBW3.out⟩
          case measure => simp [intOf]; omega
    · have HF : Hid (out ++ [34] = refQuote s.data.toList) := Lib.hid (by
        rw [← hout]; unfold refQuote escTo; rw [List.take_of_length_le (by omega)])
      clear hout hek
      go_wp2_with (at_builtin; refine wpList_own_append rfl _ _ 37 5 (.int .u8 0) 1 1 rfl Tryz.underlying37 info5 rfl (by decide) HB.out rfl [.int .u8 34] 1 rfl rfl (by simp [Value.oneCell']) rfl (by unfold maxLen; omega) (by omega) ?_)
      intro v' w3 hO3 hb3
      have HB3 : Bf w.heap.size v' (out ++ [34]) w3 := Own.byte (c := 34) hO3
      have hcv := bf_string HB3
      rw [HF.out] at hcv
      have HBW3 := Lib.hid (HBW.out.trans hb3)
      clear hO3 hb3 HB3
      go_wp2_with fail
      go_ret
      exact ⟨rfl, HBW3.out⟩
end Go.Proofs.YthpojljfmipngaaGreatDoor
