import Derived.Test.YtoppkhkdbkkldaaDoorWalkA
namespace Go.Proofs.YtoppkhkdbkkldaaDoor
open Go.RowKit
def TextInv (s : ByteArray) (k : Nat) : Prop := Lx.textLen s.data.toList = match Lx.quoteTail (s.data.toList.drop k) with | some n => n + k | none => 0
theorem textInv_start (s : ByteArray) : TextInv s 1 := by
  unfold TextInv Lx.textLen
  rw [List.drop_one]
  cases Lx.quoteTail s.data.toList.tail <;> rfl
theorem text_quote {s : ByteArray} {k : Nat} (H : TextInv s k) (h : k < s.size) (h1 : (s[k].toNat : Int) = 34) : Lx.textLen s.data.toList = k + 1 := by
  unfold TextInv at H
  rw [drop_byte s k h, Lx.quoteTail_cons, if_pos (by omega)] at H
  exact H.trans (Nat.add_comm 1 k)
theorem text_pair {s : ByteArray} {k : Nat} (H : TextInv s k) (h : k + 1 < s.size) (h1 : (s[k].toNat : Int) = 92) (h2 : (s[k + 1].toNat : Int) = 34 ∨ (s[k + 1].toNat : Int) = 92 ∨ (s[k + 1].toNat : Int) = 110) : TextInv s (k + 1 + 1) := by
  unfold TextInv at H ⊢
  rw [drop_byte s k (by omega), drop_byte s (k + 1) h, Lx.quoteTail_cons, if_neg (by omega), if_pos (by omega)] at H
  dsimp only at H
  rw [if_pos (by omega)] at H
  rw [H]
  cases Lx.quoteTail (s.data.toList.drop (k + 1 + 1)) with
  | none => rfl
  | some n => show n + 2 + k = n + (k + 1 + 1); omega
theorem text_badpair {s : ByteArray} {k : Nat} (H : TextInv s k) (h : k + 1 < s.size) (h1 : (s[k].toNat : Int) = 92) (h2 : ¬ ((s[k + 1].toNat : Int) = 34 ∨ (s[k + 1].toNat : Int) = 92 ∨ (s[k + 1].toNat : Int) = 110)) : Lx.textLen s.data.toList = 0 := by
  unfold TextInv at H
  rw [drop_byte s k (by omega), drop_byte s (k + 1) h, Lx.quoteTail_cons, if_neg (by omega), if_pos (by omega)] at H
  dsimp only at H
  rw [if_neg (by omega)] at H
  exact H
theorem text_lastpair {s : ByteArray} {k : Nat} (H : TextInv s k) (h : k < s.size) (h1 : (s[k].toNat : Int) = 92) (h2 : s.size ≤ k + 1) : Lx.textLen s.data.toList = 0 := by
  unfold TextInv at H
  rw [drop_byte s k h, drop_end s (k + 1) h2, Lx.quoteTail_cons, if_neg (by omega), if_pos (by omega)] at H
  exact H
theorem text_bad {s : ByteArray} {k : Nat} (H : TextInv s k) (h : k < s.size) (h2 : (s[k].toNat : Int) < 32 ∨ 126 < (s[k].toNat : Int)) : Lx.textLen s.data.toList = 0 := by
  unfold TextInv at H
  rw [drop_byte s k h, Lx.quoteTail_cons, if_neg (by omega), if_neg (by omega), if_pos (by omega)] at H
  exact H
theorem text_plain {s : ByteArray} {k : Nat} (H : TextInv s k) (h : k < s.size) (h0 : ¬ (s[k].toNat : Int) = 34) (h1 : ¬ (s[k].toNat : Int) = 92) (h2 : 32 ≤ (s[k].toNat : Int)) (h3 : (s[k].toNat : Int) ≤ 126) : TextInv s (k + 1) := by
  unfold TextInv at H ⊢
  rw [drop_byte s k h, Lx.quoteTail_cons, if_neg (by omega), if_neg (by omega), if_neg (by omega)] at H
  rw [H]
  cases Lx.quoteTail (s.data.toList.drop (k + 1)) with
  | none => rfl
  | some n => show n + 1 + k = n + (k + 1); omega
theorem text_end {s : ByteArray} {k : Nat} (H : TextInv s k) (h : ¬ k < s.size) : Lx.textLen s.data.toList = 0 := by
  unfold TextInv at H
  rw [drop_end s k (by omega)] at H
  exact H

set_option maxHeartbeats 400000 in
theorem text_any (s : ByteArray) (hs : s.size ≤ 4294967296) (w : World) :
    Calls Tryd.prog 59 #[.string s] w fun e w' => e = .returned (.int .i64 (Lx.textLen s.data.toList)) ∧ w = w' := by
  go_enter Tryd.func59, Tryd.ntmps59
  go_wp2_with fail
  go_loop [3] (fun n => ∃ k : Nat, 1 ≤ k ∧ k ≤ s.size + 1 ∧ n = .int .i64 k ∧ TextInv s k) (fun n => s.size - (intOf n).toNat)
  case atStart => exact ⟨1, by omega, by omega, rfl, textInv_start s⟩
  case round =>
    obtain ⟨k, hk1, hk, rfl, H⟩ := hrel
    by_cases hlt : k < s.size
    · by_cases e0 : (s[k].toNat : Int) = 34
      · go_wp2_with fail
        go_ret
        exact ⟨ret_int (by rw [text_quote H hlt e0]; omega), rfl⟩
      by_cases e1 : (s[k].toNat : Int) = 92
      · by_cases e2 : k + 1 < s.size
        · by_cases e3 : (s[k + 1].toNat : Int) = 34 ∨ (s[k + 1].toNat : Int) = 92 ∨ (s[k + 1].toNat : Int) = 110
          · have HP := text_pair H e2 e1 e3
            rcases e3 with e3 | e3 | e3
            all_goals
              go_wp2_with fail
              go_round
              case rel => exact ⟨k + 1 + 1, by omega, by omega, by go_num, HP⟩
              case measure => simp [intOf]; omega
          · have b1 : ((s[k + 1].toNat : Int) == 34) = false := by rw [beq_eq_false_iff_ne]; omega
            have b2 : ((s[k + 1].toNat : Int) == 92) = false := by rw [beq_eq_false_iff_ne]; omega
            have b3 : ((s[k + 1].toNat : Int) == 110) = false := by rw [beq_eq_false_iff_ne]; omega
            have E := Lib.hid (text_badpair H e2 e1 e3)
            clear e3
            go_wp2_with fail
            go_ret
            exact ⟨ret_int (by rw [E.out]; rfl), rfl⟩
        · go_wp2_with fail
          go_ret
          exact ⟨ret_int (by rw [text_lastpair H hlt e1 (by omega)]; rfl), rfl⟩
      · by_cases e2 : (s[k].toNat : Int) < 32
        · go_wp2_with fail
          go_ret
          exact ⟨ret_int (by rw [text_bad H hlt (Or.inl e2)]; rfl), rfl⟩
        by_cases e3 : 126 < (s[k].toNat : Int)
        · go_wp2_with fail
          go_ret
          exact ⟨ret_int (by rw [text_bad H hlt (Or.inr e3)]; rfl), rfl⟩
        have HP := text_plain H hlt e0 e1 (by omega) (by omega)
        go_wp2_with fail
        go_round
        case rel => exact ⟨k + 1, by omega, by omega, by go_num, HP⟩
        case measure => simp [intOf]; omega
    · go_wp2_with fail
      go_ret
      exact ⟨ret_int (by rw [text_end H hlt]; rfl), rfl⟩
end Go.Proofs.YtoppkhkdbkkldaaDoor
