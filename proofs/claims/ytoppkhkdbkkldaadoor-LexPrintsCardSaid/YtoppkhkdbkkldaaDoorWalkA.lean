/-
  THE WALKS, first part: what the byte predicates and 'run' of package lex compute, in every world.
-/
import Derived.Test.YtoppkhkdbkkldaaDoorRows
import Derived.Test.YtoppkhkdbkkldaaDoorPure
import Derived.WalkKit
import Derived.WalkSpells
import Derived.WalkLawsBesides
import Derived.Lib.Hide
namespace Go.Proofs.YtoppkhkdbkkldaaDoor
open Go.RowKit

theorem ret_bool {a b : Bool} (h : a = b) : Ending.returned (.bool a) = .returned (.bool b) := by rw [h]
theorem ret_boolI {a b : Bool} (h : a = true ↔ b = true) : Ending.returned (.bool a) = .returned (.bool b) := by rw [Bool.eq_iff_iff.2 h]
theorem ret_int {k : IntKind} {a b : Int} (h : a = b) : Ending.returned (.int k a) = .returned (.int k b) := by rw [h]

set_option maxHeartbeats 400000 in
theorem blank_any (c : UInt8) (w : World) :
    Calls Tryd.prog 33 #[.int .u8 c.toNat] w fun e w' => e = .returned (.bool (Lx.isBlank c)) ∧ w = w' := by
  go_enter Tryd.func33, Tryd.ntmps33
  go_wp2
  all_goals go_ret
  all_goals refine ⟨ret_boolI ?_, rfl⟩
  all_goals simp [Lx.isBlank]; omega

theorem or32 (c : UInt8) : bits .or .u8 (c.toNat : Int) 32 = ((c.toNat ||| 32 : Nat) : Int) := u8_or_nat _ 32 (by have := c.toNat_lt; omega) (by omega)
theorem or32_lt (c : UInt8) : (c.toNat ||| 32) < 256 := by have := c.toNat_lt; exact Nat.or_lt_two_pow (n := 8) (by omega) (by omega)

theorem letter_or : ∀ n : Fin 256, ((decide (97 ≤ (n.val ||| 32)) && decide ((n.val ||| 32) ≤ 122)) || n.val == 95) = ((decide (97 ≤ n.val) && decide (n.val ≤ 122)) || (decide (65 ≤ n.val) && decide (n.val ≤ 90)) || n.val == 95) := by decide +kernel
theorem isLetter_or (c : UInt8) : ((decide (97 ≤ (c.toNat ||| 32)) && decide ((c.toNat ||| 32) ≤ 122)) || c.toNat == 95) = Lx.isLetter c := letter_or ⟨c.toNat, c.toNat_lt⟩

set_option maxHeartbeats 400000 in
theorem letter_any (c : UInt8) (w : World) :
    Calls Tryd.prog 56 #[.int .u8 c.toNat] w fun e w' => e = .returned (.bool (Lx.isLetter c)) ∧ w = w' := by
  have h := or32 c
  rw [← isLetter_or]
  go_enter Tryd.func56, Tryd.ntmps56
  go_wp2
  all_goals go_ret
  all_goals refine ⟨ret_boolI ?_, rfl⟩
  all_goals simp; omega

set_option maxHeartbeats 400000 in
theorem digit_any (c : UInt8) (w : World) :
    Calls Tryd.prog 58 #[.int .u8 c.toNat] w fun e w' => e = .returned (.bool (Lx.isDigit c)) ∧ w = w' := by
  go_enter Tryd.func58, Tryd.ntmps58
  go_wp2
  all_goals go_ret
  all_goals refine ⟨ret_boolI ?_, rfl⟩
  all_goals simp [Lx.isDigit]; omega

set_option maxHeartbeats 400000 in
theorem feed_any (c : UInt8) (w : World) :
    Calls Tryd.prog 35 #[.int .u8 c.toNat] w fun e w' => e = .returned (.bool (Lx.notFeed c)) ∧ w = w' := by
  go_enter Tryd.func35, Tryd.ntmps35
  go_wp2
  all_goals go_ret
  all_goals refine ⟨ret_boolI ?_, rfl⟩
  all_goals simp [Lx.notFeed]; omega

set_option maxHeartbeats 400000 in
theorem wordc_any (c : UInt8) (w : World) :
    Calls Tryd.prog 57 #[.int .u8 c.toNat] w fun e w' => e = .returned (.bool (Lx.isWord c)) ∧ w = w' := by
  unfold Lx.isWord
  cases h : Lx.isLetter c
  all_goals
    have H := Lib.hid h
    clear h
    go_enter Tryd.func57, Tryd.ntmps57
    go_wp2_with (first | (go_at_call 56; refine (letter_any _ _).mono ?_; rintro e w' ⟨rfl, rfl⟩; rw [H.out]) | (go_at_call 58; refine (digit_any _ _).mono ?_; rintro e w' ⟨rfl, rfl⟩))
    all_goals go_ret
    all_goals exact ⟨ret_bool (by simp), rfl⟩

theorem drop_byte (s : ByteArray) (i : Nat) (h : i < s.size) : s.data.toList.drop i = s[i] :: s.data.toList.drop (i + 1) := by
  have h' : i < s.data.toList.length := by rw [← Lib.size_eq]; exact h
  rw [List.drop_eq_getElem_cons h']; rfl
theorem drop_end (s : ByteArray) (i : Nat) (h : s.size ≤ i) : s.data.toList.drop i = [] := List.drop_eq_nil_of_le (by rw [← Lib.size_eq]; exact h)
theorem run_more {p : UInt8 → Bool} {s : ByteArray} {i k : Nat} (H : Hid (Lx.runLen p (s.data.toList.drop i) = k + Lx.runLen p (s.data.toList.drop (i + k)))) (h : i + k < s.size) (hp : p s[i + k] = true) :
    Hid (Lx.runLen p (s.data.toList.drop i) = k + 1 + Lx.runLen p (s.data.toList.drop (i + (k + 1)))) := by
  have e := H.out
  rw [drop_byte s (i + k) h, Lx.runLen, if_pos hp] at e
  have : i + k + 1 = i + (k + 1) := by omega
  rw [this] at e
  exact e.trans (by omega)
theorem run_done {p : UInt8 → Bool} {s : ByteArray} {i k : Nat} (H : Hid (Lx.runLen p (s.data.toList.drop i) = k + Lx.runLen p (s.data.toList.drop (i + k)))) (h : i + k < s.size) (hp : p s[i + k] = false) :
    Lx.runLen p (s.data.toList.drop i) = k := by
  have e := H.out
  rw [drop_byte s (i + k) h, Lx.runLen, if_neg (by rw [hp]; exact Bool.false_ne_true)] at e
  exact e
theorem run_end {p : UInt8 → Bool} {s : ByteArray} {i k : Nat} (H : Hid (Lx.runLen p (s.data.toList.drop i) = k + Lx.runLen p (s.data.toList.drop (i + k)))) (h : ¬ i + k < s.size) :
    Lx.runLen p (s.data.toList.drop i) = k := by
  have e := H.out
  rw [drop_end s (i + k) (by omega)] at e
  exact e

set_option maxHeartbeats 400000 in
theorem run_blank (s : ByteArray) (a : Int) (ha0 : 0 ≤ a) (ha : a ≤ s.size) (hs : s.size ≤ 4294967296) (w : World) :
    Calls Tryd.prog 32 #[.string s, .int .i64 a, .func (.func 33) #[] #[]] w fun e w' => e = .returned (.int .i64 (Lx.runLen Lx.isBlank (s.data.toList.drop a.toNat))) ∧ w = w' := by
  obtain ⟨at_, rfl⟩ := Int.eq_ofNat_of_zero_le ha0
  rw [Int.toNat_natCast]
  go_enter Tryd.func32, Tryd.ntmps32
  go_wp2_with fail
  go_loop [7] (fun n => ∃ k : Nat, at_ + k ≤ s.size ∧ n = .int .i64 k ∧ Hid (Lx.runLen Lx.isBlank (s.data.toList.drop at_) = k + Lx.runLen Lx.isBlank (s.data.toList.drop (at_ + k)))) (fun n => s.size - (intOf n).toNat)
  case atStart => exact ⟨0, by omega, rfl, by simp [Hid]⟩
  case round =>
    obtain ⟨k, hk, rfl, H⟩ := hrel
    by_cases hlt : at_ + k < s.size
    · go_wp2_with (go_at_call 33; refine (blank_any _ _).mono ?_; rintro e w' ⟨rfl, rfl⟩)
      · have hp : Lx.isBlank s[at_ + k] = true := by assumption
        go_round
        case rel => exact ⟨k + 1, by omega, by go_num, run_more H hlt hp⟩
        case measure => simp [intOf]; omega
      · have hp : Lx.isBlank s[at_ + k] = false := by assumption
        go_ret
        exact ⟨ret_int (by rw [run_done H hlt hp]), rfl⟩
    · go_wp2_with fail
      go_ret
      exact ⟨ret_int (by rw [run_end H hlt]), rfl⟩

set_option maxHeartbeats 400000 in
theorem run_feed (s : ByteArray) (a : Int) (ha0 : 0 ≤ a) (ha : a ≤ s.size) (hs : s.size ≤ 4294967296) (w : World) :
    Calls Tryd.prog 32 #[.string s, .int .i64 a, .func (.func 35) #[] #[]] w fun e w' => e = .returned (.int .i64 (Lx.runLen Lx.notFeed (s.data.toList.drop a.toNat))) ∧ w = w' := by
  obtain ⟨at_, rfl⟩ := Int.eq_ofNat_of_zero_le ha0
  rw [Int.toNat_natCast]
  go_enter Tryd.func32, Tryd.ntmps32
  go_wp2_with fail
  go_loop [7] (fun n => ∃ k : Nat, at_ + k ≤ s.size ∧ n = .int .i64 k ∧ Hid (Lx.runLen Lx.notFeed (s.data.toList.drop at_) = k + Lx.runLen Lx.notFeed (s.data.toList.drop (at_ + k)))) (fun n => s.size - (intOf n).toNat)
  case atStart => exact ⟨0, by omega, rfl, by simp [Hid]⟩
  case round =>
    obtain ⟨k, hk, rfl, H⟩ := hrel
    by_cases hlt : at_ + k < s.size
    · go_wp2_with (go_at_call 35; refine (feed_any _ _).mono ?_; rintro e w' ⟨rfl, rfl⟩)
      · have hp : Lx.notFeed s[at_ + k] = true := by assumption
        go_round
        case rel => exact ⟨k + 1, by omega, by go_num, run_more H hlt hp⟩
        case measure => simp [intOf]; omega
      · have hp : Lx.notFeed s[at_ + k] = false := by assumption
        go_ret
        exact ⟨ret_int (by rw [run_done H hlt hp]), rfl⟩
    · go_wp2_with fail
      go_ret
      exact ⟨ret_int (by rw [run_end H hlt]), rfl⟩

set_option maxHeartbeats 400000 in
theorem run_wordc (s : ByteArray) (a : Int) (ha0 : 0 ≤ a) (ha : a ≤ s.size) (hs : s.size ≤ 4294967296) (w : World) :
    Calls Tryd.prog 32 #[.string s, .int .i64 a, .func (.func 57) #[] #[]] w fun e w' => e = .returned (.int .i64 (Lx.runLen Lx.isWord (s.data.toList.drop a.toNat))) ∧ w = w' := by
  obtain ⟨at_, rfl⟩ := Int.eq_ofNat_of_zero_le ha0
  rw [Int.toNat_natCast]
  go_enter Tryd.func32, Tryd.ntmps32
  go_wp2_with fail
  go_loop [7] (fun n => ∃ k : Nat, at_ + k ≤ s.size ∧ n = .int .i64 k ∧ Hid (Lx.runLen Lx.isWord (s.data.toList.drop at_) = k + Lx.runLen Lx.isWord (s.data.toList.drop (at_ + k)))) (fun n => s.size - (intOf n).toNat)
  case atStart => exact ⟨0, by omega, rfl, by simp [Hid]⟩
  case round =>
    obtain ⟨k, hk, rfl, H⟩ := hrel
    by_cases hlt : at_ + k < s.size
    · go_wp2_with (go_at_call 57; refine (wordc_any _ _).mono ?_; rintro e w' ⟨rfl, rfl⟩)
      · have hp : Lx.isWord s[at_ + k] = true := by assumption
        go_round
        case rel => exact ⟨k + 1, by omega, by go_num, run_more H hlt hp⟩
        case measure => simp [intOf]; omega
      · have hp : Lx.isWord s[at_ + k] = false := by assumption
        go_ret
        exact ⟨ret_int (by rw [run_done H hlt hp]), rfl⟩
    · go_wp2_with fail
      go_ret
      exact ⟨ret_int (by rw [run_end H hlt]), rfl⟩

set_option maxHeartbeats 400000 in
theorem run_digit (s : ByteArray) (a : Int) (ha0 : 0 ≤ a) (ha : a ≤ s.size) (hs : s.size ≤ 4294967296) (w : World) :
    Calls Tryd.prog 32 #[.string s, .int .i64 a, .func (.func 58) #[] #[]] w fun e w' => e = .returned (.int .i64 (Lx.runLen Lx.isDigit (s.data.toList.drop a.toNat))) ∧ w = w' := by
  obtain ⟨at_, rfl⟩ := Int.eq_ofNat_of_zero_le ha0
  rw [Int.toNat_natCast]
  go_enter Tryd.func32, Tryd.ntmps32
  go_wp2_with fail
  go_loop [7] (fun n => ∃ k : Nat, at_ + k ≤ s.size ∧ n = .int .i64 k ∧ Hid (Lx.runLen Lx.isDigit (s.data.toList.drop at_) = k + Lx.runLen Lx.isDigit (s.data.toList.drop (at_ + k)))) (fun n => s.size - (intOf n).toNat)
  case atStart => exact ⟨0, by omega, rfl, by simp [Hid]⟩
  case round =>
    obtain ⟨k, hk, rfl, H⟩ := hrel
    by_cases hlt : at_ + k < s.size
    · go_wp2_with (go_at_call 58; refine (digit_any _ _).mono ?_; rintro e w' ⟨rfl, rfl⟩)
      · have hp : Lx.isDigit s[at_ + k] = true := by assumption
        go_round
        case rel => exact ⟨k + 1, by omega, by go_num, run_more H hlt hp⟩
        case measure => simp [intOf]; omega
      · have hp : Lx.isDigit s[at_ + k] = false := by assumption
        go_ret
        exact ⟨ret_int (by rw [run_done H hlt hp]), rfl⟩
    · go_wp2_with fail
      go_ret
      exact ⟨ret_int (by rw [run_end H hlt]), rfl⟩
end Go.Proofs.YtoppkhkdbkkldaaDoor
