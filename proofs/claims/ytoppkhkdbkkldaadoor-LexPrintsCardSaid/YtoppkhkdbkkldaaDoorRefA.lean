/-
  PROVED: what the reference's byte tests, word and digits compute. CONDITION: the text's length is at most 2^32.
-/
import Derived.Test.YtoppkhkdbkkldaaDoorWalkC
namespace Go.Proofs.YtoppkhkdbkkldaaDoor
open Go.RowKit
set_option maxHeartbeats 400000 in
theorem refBlank_any (c : UInt8) (w : World) :
    Calls Tryd.prog 29 #[.int .u8 c.toNat] w fun e w' => e = .returned (.bool (Lx.isBlank c)) ∧ w = w' := by
  go_enter Tryd.func29, Tryd.ntmps29
  go_wp2
  all_goals go_ret
  all_goals refine ⟨ret_boolI ?_, rfl⟩
  all_goals simp [Lx.isBlank]; omega
set_option maxHeartbeats 400000 in
theorem refLetter_any (c : UInt8) (w : World) :
    Calls Tryd.prog 52 #[.int .u8 c.toNat] w fun e w' => e = .returned (.bool (Lx.isLetter c)) ∧ w = w' := by
  go_enter Tryd.func52, Tryd.ntmps52
  go_wp2
  all_goals go_ret
  all_goals refine ⟨ret_boolI ?_, rfl⟩
  all_goals simp [Lx.isLetter]; omega
set_option maxHeartbeats 400000 in
theorem refDigit_any (c : UInt8) (w : World) :
    Calls Tryd.prog 64 #[.int .u8 c.toNat] w fun e w' => e = .returned (.bool (Lx.isDigit c)) ∧ w = w' := by
  go_enter Tryd.func64, Tryd.ntmps64
  go_wp2
  all_goals go_ret
  all_goals refine ⟨ret_boolI ?_, rfl⟩
  all_goals simp [Lx.isDigit]; omega

theorem run_more0 {p : UInt8 → Bool} {s : ByteArray} {k : Nat} (H : Hid (Lx.runLen p s.data.toList = k + Lx.runLen p (s.data.toList.drop k))) (h : k < s.size) (hp : p s[k] = true) :
    Hid (Lx.runLen p s.data.toList = k + 1 + Lx.runLen p (s.data.toList.drop (k + 1))) := by
  have e := H.out
  rw [drop_byte s k h, Lx.runLen, if_pos hp] at e
  exact e.trans (by omega)
theorem run_done0 {p : UInt8 → Bool} {s : ByteArray} {k : Nat} (H : Hid (Lx.runLen p s.data.toList = k + Lx.runLen p (s.data.toList.drop k))) (h : k < s.size) (hp : p s[k] = false) :
    Lx.runLen p s.data.toList = k := by
  have e := H.out
  rw [drop_byte s k h, Lx.runLen, if_neg (by rw [hp]; exact Bool.false_ne_true)] at e
  exact e
theorem run_end0 {p : UInt8 → Bool} {s : ByteArray} {k : Nat} (H : Hid (Lx.runLen p s.data.toList = k + Lx.runLen p (s.data.toList.drop k))) (h : ¬ k < s.size) :
    Lx.runLen p s.data.toList = k := by
  have e := H.out
  rw [drop_end s k (by omega)] at e
  exact e

set_option maxHeartbeats 1000000 in
theorem refDigits_any (s : ByteArray) (hs : s.size ≤ 4294967296) (w : World) :
    Calls Tryd.prog 51 #[.string s] w fun e w' => e = .returned (.int .i64 (Lx.runLen Lx.isDigit s.data.toList)) ∧ w = w' := by
  go_enter Tryd.func51, Tryd.ntmps51
  go_wp2_with fail
  go_loop [3] (fun n => ∃ k : Nat, k ≤ s.size ∧ n = .int .i64 k ∧ Hid (Lx.runLen Lx.isDigit s.data.toList = k + Lx.runLen Lx.isDigit (s.data.toList.drop k))) (fun n => s.size - (intOf n).toNat)
  case atStart => exact ⟨0, by omega, rfl, by simp [Hid]⟩
  case round =>
    obtain ⟨k, hk, rfl, H⟩ := hrel
    by_cases hlt : k < s.size
    · go_wp2_with (go_at_call 64; refine (refDigit_any _ _).mono ?_; rintro e w' ⟨rfl, rfl⟩)
      · have hp : Lx.isDigit s[k] = true := by assumption
        go_round
        case rel => exact ⟨k + 1, by omega, by go_num, run_more0 H hlt hp⟩
        case measure => simp [intOf]; omega
      · have hp : Lx.isDigit s[k] = false := by assumption
        go_ret
        exact ⟨ret_int (by rw [run_done0 H hlt hp]), rfl⟩
    · go_wp2_with fail
      go_ret
      exact ⟨ret_int (by rw [run_end0 H hlt]), rfl⟩

def wordLen (L : List UInt8) : Nat :=
  match L with
  | [] => 0
  | c :: _ => if Lx.isLetter c then Lx.runLen Lx.isWord L else 0
set_option maxHeartbeats 2000000 in
theorem refWord_any (s : ByteArray) (hs : s.size ≤ 4294967296) (w : World) :
    Calls Tryd.prog 50 #[.string s] w fun e w' => e = .returned (.int .i64 (wordLen s.data.toList)) ∧ w = w' := by
  by_cases h0 : 0 < s.size
  · have hL : s.data.toList = s[0] :: s.data.toList.drop 1 := by
      have := drop_byte s 0 h0
      rw [List.drop_zero] at this; exact this
    have hne : (s.toList == []) = false := by
      rw [Lib.toList_data, hL]; rfl
    cases hl : Lx.isLetter s[0] with
    | false =>
      have HW := Lib.hid (show wordLen s.data.toList = 0 by rw [hL]; simp [wordLen, hl])
      have HL := Lib.hid hl
      clear hl hL
      go_enter Tryd.func50, Tryd.ntmps50
      go_wp2_with (go_at_call 52; refine (refLetter_any _ _).mono ?_; rintro e w' ⟨rfl, rfl⟩; rw [HL.out])
      go_ret
      exact ⟨ret_int (by rw [HW.out]; rfl), rfl⟩
    | true =>
      have HW := Lib.hid (show wordLen s.data.toList = Lx.runLen Lx.isWord s.data.toList by rw [hL]; simp [wordLen, hl])
      have H1 : Hid (Lx.runLen Lx.isWord s.data.toList = 1 + Lx.runLen Lx.isWord (s.data.toList.drop 1)) := by
        have e : Lx.runLen Lx.isWord (s[0] :: s.data.toList.drop 1) = Lx.runLen Lx.isWord (s.data.toList.drop 1) + 1 := by rw [Lx.runLen, if_pos (by simp [Lx.isWord, hl])]
        rw [← hL] at e
        exact Lib.hid (by omega)
      have HL := Lib.hid hl
      clear hl hL
      go_enter Tryd.func50, Tryd.ntmps50
      go_wp2_with (go_at_call 52; refine (refLetter_any _ _).mono ?_; rintro e w' ⟨rfl, rfl⟩; rw [HL.out])
      go_loop [3] (fun n => ∃ k : Nat, k ≤ s.size ∧ n = .int .i64 k ∧ Hid (Lx.runLen Lx.isWord s.data.toList = k + Lx.runLen Lx.isWord (s.data.toList.drop k))) (fun n => s.size - (intOf n).toNat)
      case atStart => exact ⟨1, by omega, rfl, H1⟩
      case round =>
        obtain ⟨k, hk, rfl, H⟩ := hrel
        by_cases hlt : k < s.size
        · cases hlk : Lx.isLetter s[k] with
          | true =>
            have HK := Lib.hid hlk
            have HP := Lib.hid (run_more0 H hlt (by rw [Lx.isWord, hlk]; rfl))
            clear hlk
            go_wp2_with (go_at_call 52; refine (refLetter_any _ _).mono ?_; rintro e w' ⟨rfl, rfl⟩; rw [HK.out])
            go_round
            case rel => exact ⟨k + 1, by omega, by go_num, HP.out⟩
            case measure => simp [intOf]; omega
          | false =>
            have HK := Lib.hid hlk
            cases hdk : Lx.isDigit s[k] with
            | true =>
              have HD := Lib.hid hdk
              have HP := Lib.hid (run_more0 H hlt (by rw [Lx.isWord, hdk, Bool.or_true]))
              clear hlk hdk
              go_wp2_with (first | (go_at_call 52; refine (refLetter_any _ _).mono ?_; rintro e w' ⟨rfl, rfl⟩; rw [HK.out]) | (go_at_call 64; refine (refDigit_any _ _).mono ?_; rintro e w' ⟨rfl, rfl⟩; rw [HD.out]))
              go_round
              case rel => exact ⟨k + 1, by omega, by go_num, HP.out⟩
              case measure => simp [intOf]; omega
            | false =>
              have HD := Lib.hid hdk
              have HP := Lib.hid (run_done0 H hlt (by rw [Lx.isWord, hlk, hdk]; rfl))
              clear hlk hdk
              go_wp2_with (first | (go_at_call 52; refine (refLetter_any _ _).mono ?_; rintro e w' ⟨rfl, rfl⟩; rw [HK.out]) | (go_at_call 64; refine (refDigit_any _ _).mono ?_; rintro e w' ⟨rfl, rfl⟩; rw [HD.out]))
              go_ret
              exact ⟨ret_int (by rw [HW.out, HP.out]), rfl⟩
        · have HP := Lib.hid (run_end0 H hlt)
          go_wp2_with fail
          go_ret
          exact ⟨ret_int (by rw [HW.out, HP.out]), rfl⟩
  · have hL : s.data.toList = [] := List.length_eq_zero_iff.1 (by rw [← Lib.size_eq]; omega)
    have hne : (s.toList == []) = true := by rw [Lib.toList_data, hL]; rfl
    have HW := Lib.hid (show wordLen s.data.toList = 0 by rw [hL]; rfl)
    clear hL
    go_enter Tryd.func50, Tryd.ntmps50
    go_wp2_with fail
    go_ret
    exact ⟨ret_int (by rw [HW.out]; rfl), rfl⟩

end Go.Proofs.YtoppkhkdbkkldaaDoor
