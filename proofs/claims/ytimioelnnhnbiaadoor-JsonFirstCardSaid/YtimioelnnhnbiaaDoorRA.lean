/-
  The document's Digits. CONDITIONS: an int64.
-/
import Derived.Test.YtimioelnnhnbiaaDoorWX
import Derived.Lib.ItoaLen
import Derived.Laws.Concat
namespace Go.Proofs.YtimioelnnhnbiaaDoor
open Go.RowKit
theorem dec_small {u : Nat} (h : u < 10) : Lib.decDigits u = [UInt8.ofNat (48 + u)] := by rw [Lib.decDigits, dif_pos h]
theorem dec_big {u : Nat} (h : ¬ u < 10) : Lib.decDigits u = Lib.decDigits (u / 10) ++ [UInt8.ofNat (48 + u % 10)] := by rw [Lib.decDigits, dif_neg h]
/-- What is left of a number, and what of its digits stands already. -/
def DigInv (N u : Nat) (s : Js.Bs) : Prop := (u = 0 → s = Lib.decDigits N) ∧ (u ≠ 0 → Lib.decDigits u ++ s = Lib.decDigits N)
theorem DigInv.start (N : Nat) : DigInv N (N / 10) [UInt8.ofNat (48 + N % 10)] := by
  by_cases h : N < 10
  · have h0 : N / 10 = 0 := by omega
    have h1 : N % 10 = N := by omega
    exact ⟨fun _ => by rw [dec_small h, h1], fun hn => absurd h0 hn⟩
  · exact ⟨fun hz => by omega, fun _ => by rw [dec_big h]⟩
theorem DigInv.next {N u : Nat} {s : Js.Bs} (h : DigInv N u s) (hu : u ≠ 0) : DigInv N (u / 10) (UInt8.ofNat (48 + u % 10) :: s) := by
  have h2 := h.2 hu
  by_cases h9 : u < 10
  · have h0 : u / 10 = 0 := by omega
    have h1 : u % 10 = u := by omega
    refine ⟨fun _ => ?_, fun hn => absurd h0 hn⟩
    rw [dec_small h9] at h2
    rw [h1, ← h2]; rfl
  · refine ⟨fun hz => by omega, fun _ => ?_⟩
    rw [dec_big h9, List.append_assoc] at h2
    exact h2
theorem DigInv.len {N u : Nat} {s : Js.Bs} (h : DigInv N u s) (hN : N ≤ 9223372036854775807) : s.length ≤ 21 := by
  have hl := Lib.itoa_length_le (N : Int) (by omega) (by omega)
  rw [Lib.itoa_nonneg] at hl
  by_cases hu : u = 0
  · rw [h.1 hu]; exact hl
  · rw [← h.2 hu, List.length_append] at hl; omega
theorem cut_digit {d : Nat} (hd : d < 10) : (⟨#[48, 49, 50, 51, 52, 53, 54, 55, 56, 57]⟩ : ByteArray).extract d (d + 1) = str [UInt8.ofNat (48 + d)] := by
  match d, hd with
  | 0, _ => rfl
  | 1, _ => rfl
  | 2, _ => rfl
  | 3, _ => rfl
  | 4, _ => rfl
  | 5, _ => rfl
  | 6, _ => rfl
  | 7, _ => rfl
  | 8, _ => rfl
  | 9, _ => rfl
  | n + 10, h => omega
theorem str_app (x y : Js.Bs) : str x ++ str y = str (x ++ y) := by
  apply ByteArray.ext
  simp [str]
theorem add_str (x y : Js.Bs) (h : x.length + y.length ≤ 9223372036854775807) (w : World) : (Op.stringOp .add (str x) (str y)).run Tryd.prog w = .ok (.string (str (x ++ y))) w := by
  rw [run_string_add_sum w _ _ (by rw [str_size, str_size]; exact h), str_app]
set_option maxRecDepth 100000 in
set_option maxHeartbeats 4000000 in
theorem digits_pos (N : Nat) (w : World) (hN : N ≤ 9223372036854775807) :
    Calls Tryd.prog 22 #[.int .i64 N] w fun e w' => e = .returned (.string (str (Lib.itoa N))) ∧ w' = w := by
  go_enter Tryd.func22, Tryd.ntmps22
  go_wp2_with fail
  go_loopw [0, 5] (fun n s wr => ∃ (u : Nat) (t : Js.Bs), u ≤ 9223372036854775807 ∧ n = .int .i64 u ∧ s = .string (str t) ∧ DigInv N u t ∧ wr = w) (fun n _ _ => (intOf n).toNat)
  case atStart => exact ⟨N / 10, [UInt8.ofNat (48 + N % 10)], by omega, by go_num, by rw [cut_digit (Nat.mod_lt _ (by decide))], DigInv.start N, rfl⟩
  case round =>
    obtain ⟨u, t, hu, rfl, rfl, hi, rfl⟩ := hrel
    have hlen := hi.len hN
    by_cases h0 : u = 0
    · subst h0
      have ht := Lib.hid (hi.1 rfl)
      go_wp2_with fail
      go_ret
      exact ⟨by rw [Lib.itoa_nonneg, ← ht.out]; rfl, rfl⟩
    · have hn := Lib.hid (hi.next h0)
      have hT : ∀ w, (Op.stringOp .add ((⟨#[48, 49, 50, 51, 52, 53, 54, 55, 56, 57]⟩ : ByteArray).extract (u % 10) (u % 10 + 1)) (str t)).run Tryd.prog w = .ok (.string (str (UInt8.ofNat (48 + u % 10) :: t))) w := fun w => by
        rw [cut_digit (Nat.mod_lt _ (by decide))]
        exact add_str [_] t (by simp; omega) w
      have h1 : 0 < (u : Int) := by omega
      clear hi
      go_wp2_with fail
      go_roundw
      case rel => exact ⟨u / 10, UInt8.ofNat (48 + u % 10) :: t, by omega, by go_num, (by simp [UInt8.ofNat_add]), hn.out, trivial⟩
      case measure => simp [intOf]; omega
theorem neg_rem (N : Nat) : Int.tmod (-(N : Int)) 10 = -((N % 10 : Nat) : Int) := by
  rw [Int.neg_tmod]; rfl
theorem neg_quo (N : Nat) : Int.tdiv (-(N : Int)) 10 = -((N / 10 : Nat) : Int) := by
  rw [Int.neg_tdiv]; rfl
set_option maxRecDepth 100000 in
set_option maxHeartbeats 4000000 in
theorem digits_neg (N : Nat) (w : World) (h0 : 1 ≤ N) (hN : N ≤ 9223372036854775808) :
    Calls Tryd.prog 22 #[.int .i64 (-(N : Int))] w fun e w' => e = .returned (.string (str (45 :: Lib.decDigits N))) ∧ w' = w := by
  have hr := neg_rem N
  have hq := neg_quo N
  have hneg : decide (-(N : Int) < 0) = true := by simp; omega
  have hd := cut_digit (Nat.mod_lt N (by decide : 10 > 0))
  have hml : N % 10 < 10 := Nat.mod_lt N (by decide : 10 > 0)
  obtain ⟨d, hd'⟩ : ∃ d, N % 10 = d := ⟨_, rfl⟩
  obtain ⟨q, hq'⟩ : ∃ q, N / 10 = q := ⟨_, rfl⟩
  rw [hd'] at hr hd hml
  rw [hq'] at hq
  have hqN : q ≤ 922337203685477580 := by omega
  have HC := Lib.hid (digits_pos q w (by omega))
  have hw1 : wrap64 (-(q : Int)) = -(q : Int) := by unfold wrap64; omega
  have hw2 : wrap64 (- -(q : Int)) = (q : Int) := by unfold wrap64; omega
  have HE : Hid (Lib.decDigits N = if q = 0 then [UInt8.ofNat (48 + d)] else Lib.decDigits q ++ [UInt8.ofNat (48 + d)]) := Lib.hid (by
    subst hd' hq'
    by_cases h9 : N < 10
    · have h1 : N / 10 = 0 := by omega
      have h2 : N % 10 = N := by omega
      rw [if_pos h1, dec_small h9, h2]
    · have h1 : N / 10 ≠ 0 := by omega
      rw [if_neg h1, dec_big h9])
  rw [Lib.itoa_nonneg] at HC
  have hlq := Lib.itoa_length_le (q : Int) (by omega) (by omega)
  rw [Lib.itoa_nonneg] at hlq
  obtain ⟨c, hc⟩ : ∃ c, UInt8.ofNat (48 + d) = c := ⟨_, rfl⟩
  rw [hc] at hd HE
  clear hd' hq' hc
  by_cases hz : q = 0
  · have HR : Hid (Lib.decDigits N = [c]) := Lib.hid (by rw [HE.out, if_pos hz])
    have hne : (-(q : Int) != 0) = false := by subst hz; rfl
    have hT : ∀ w, (Op.stringOp .add (⟨#[45]⟩ : ByteArray) (str [c])).run Tryd.prog w = .ok (.string (str [45, c])) w := fun w => add_str [45] [c] (by simp) w
    clear hz
    go_enter Tryd.func22, Tryd.ntmps22
    go_wp2_with fail
    go_ret
    exact ⟨by rw [HR.out]; rfl, rfl⟩
  · have HR : Hid (Lib.decDigits N = Lib.decDigits q ++ [c]) := Lib.hid (by rw [HE.out, if_neg hz])
    have hne : (-(q : Int) != 0) = true := by simp; omega
    have hU : ∀ w, (Op.stringOp .add (str (Lib.decDigits q)) (str [c])).run Tryd.prog w = .ok (.string (str (Lib.decDigits q ++ [c]))) w := fun w => add_str _ [c] (by simp; omega) w
    have hT : ∀ w, (Op.stringOp .add (⟨#[45]⟩ : ByteArray) (str (Lib.decDigits q ++ [c]))).run Tryd.prog w = .ok (.string (str (45 :: (Lib.decDigits q ++ [c])))) w := fun w => add_str [45] _ (by simp; omega) w
    clear hz
    go_enter Tryd.func22, Tryd.ntmps22
    go_wp2_with fail
    refine HC.out.mono ?_
    rintro e w' ⟨rfl, rfl⟩
    go_wp2_with fail
    go_ret
    exact ⟨by rw [HR.out]; rfl, rfl⟩
theorem digits_any (n : Int) (w : World) (h1 : -9223372036854775808 ≤ n) (h2 : n ≤ 9223372036854775807) :
    Calls Tryd.prog 22 #[.int .i64 n] w fun e w' => e = .returned (.string (str (Lib.itoa n))) ∧ w' = w := by
  by_cases h : 0 ≤ n
  · obtain ⟨N, rfl⟩ : ∃ N : Nat, n = N := ⟨n.toNat, by omega⟩
    exact digits_pos N w (by omega)
  · obtain ⟨N, rfl⟩ : ∃ N : Nat, n = -(N : Int) := ⟨(-n).toNat, by omega⟩
    have hi : Lib.itoa (-(N : Int)) = 45 :: Lib.decDigits N := by
      unfold Lib.itoa
      rw [if_pos (by omega)]
      simp
    rw [hi]
    exact digits_neg N w (by omega) (by omega)
end Go.Proofs.YtimioelnnhnbiaaDoor
