/-
  THE WALKS of the document's answer, third part: Number. CONDITION: the number is no less than the least but one of 63 bits.
-/
import Derived.Test.YthpojljfmipngaaGreatDoorLawLines
namespace Go.Proofs.YthpojljfmipngaaGreatDoor
open Go.RowKit
def digitB (d : Nat) : UInt8 := UInt8.ofNat (48 + d)
theorem enc_digit (d : Nat) (hd : d < 10) : Utf8.encode (48 + (d : Int)) = ⟨#[digitB d]⟩ := by
  obtain rfl | rfl | rfl | rfl | rfl | rfl | rfl | rfl | rfl | rfl : d = 0 ∨ d = 1 ∨ d = 2 ∨ d = 3 ∨ d = 4 ∨ d = 5 ∨ d = 6 ∨ d = 7 ∨ d = 8 ∨ d = 9 := by omega
  all_goals rfl
theorem conv_digit (d : Nat) (hd : d < 10) (W : World) : (convert 21 9 (.int .i32 (48 + (d : Int)))).run Tryz.prog W = .ok (.string ⟨#[digitB d]⟩) W := by
  simp [convert, run_underlying Tryz.underlying21, run_underlying Tryz.underlying9, Conv.intToString, enc_digit d hd]
theorem dec_small {u : Nat} (h : u < 10) : Lib.decDigits u = [digitB u] := by rw [Lib.decDigits, dif_pos h]; rfl
theorem dec_big {u : Nat} (h : ¬ u < 10) : Lib.decDigits u = Lib.decDigits (u / 10) ++ [digitB (u % 10)] := by rw [Lib.decDigits, dif_neg h]; rfl
theorem dec_len (u : Nat) (h : u ≤ 9223372036854775807) : (Lib.decDigits u).length ≤ 21 := by
  have := Lib.itoa_length_le (u : Int) (by omega) (by omega)
  rwa [Lib.itoa_nonneg] at this
set_option maxRecDepth 100000 in
set_option maxHeartbeats 4000000 in
theorem number_any (n : Int) (h1 : -4611686018427387904 ≤ n) (h2 : n ≤ 9223372036854775807) (w : World) :
    Calls Tryz.prog 68 #[.int .i64 n] w fun e w' => e = .returned (.string ⟨(Lib.itoa n).toArray⟩) ∧ w' = w := by
  by_cases hneg : n < 0
  · skip
    obtain ⟨u0, hu0⟩ : ∃ u : Nat, -n = (u : Int) := ⟨(-n).toNat, by omega⟩
    have HE : Hid (Lib.itoa n = 45 :: Lib.decDigits u0) := Lib.hid (by
      have := Lib.itoa_neg u0 (by omega)
      rwa [← hu0, Int.neg_neg] at this)
    have hub : u0 ≤ 9223372036854775807 := by omega
    have HDL := Lib.hid (dec_len u0 hub)
    have HN := Lib.hid hu0
    go_enter Tryz.func68, Tryz.ntmps68
    go_wp2_with fail
    go_loopw [0, 3] (fun nv sv wr => ∃ (u : Nat) (l : Sc.Bs), u ≤ 9223372036854775807 ∧ l.length ≤ 21 ∧ nv = .int .i64 u ∧ sv = .string ⟨l.toArray⟩ ∧ Hid (Lib.decDigits u0 = Lib.decDigits u ++ l) ∧ wr = w) (fun nv _ _ => (intOf nv).toNat)
    case atStart => exact ⟨u0, [], hub, by simp, rfl, rfl, Lib.hid (by simp), rfl⟩
    case round =>
      obtain ⟨u, l, hu, hl, rfl, rfl, H, rfl⟩ := hrel
      by_cases hbig : u < 10
      · have hi : ¬ (9 : Int) < u := by omega
        have hcv := conv_digit u hbig wr
        have HF : Hid (Lib.decDigits u0 = digitB u :: l) := Lib.hid (by rw [H.out, dec_small hbig]; rfl)
        clear H
        go_wp2_with fail
        go_ret
        refine ⟨retv ?_, rfl⟩
        rw [HE.out, HF.out]
        show Value.string _ = Value.string _
        congr 1
      · have hi : (9 : Int) < u := by omega
        have hcv := conv_digit (u % 10) (by omega) wr
        have e1 : (((u % 10 : Nat) : Int)) = (u : Int) % 10 := by omega
        rw [e1] at hcv
        have HF : Hid (Lib.decDigits u0 = Lib.decDigits (u / 10) ++ digitB (u % 10) :: l) := Lib.hid (by rw [H.out, dec_big hbig, List.append_assoc]; rfl)
        have HL : Hid (l.length + 1 ≤ 21) := Lib.hid (by
          have h1 := HDL.out
          rw [H.out, List.length_append] at h1
          have := List.length_pos_iff.2 (Sc.dec_ne u)
          omega)
        clear H
        go_wp2_with fail
        refine ⟨⟨u / 10, digitB (u % 10) :: l, by omega, HL.out, by go_num, ?_, HF, trivial⟩, ?_⟩
        · rw [show (⟨#[digitB (u % 10)]⟩ : ByteArray) = ⟨[digitB (u % 10)].toArray⟩ from rfl, app_str]; rfl
        · simp [intOf]; omega
  · skip
    obtain ⟨u0, hu0⟩ : ∃ u : Nat, n = (u : Int) := ⟨n.toNat, by omega⟩
    subst hu0
    have HE : Hid (Lib.itoa (u0 : Int) = Lib.decDigits u0) := Lib.hid (Lib.itoa_nonneg u0)
    have hub : u0 ≤ 9223372036854775807 := by omega
    have HDL := Lib.hid (dec_len u0 hub)
    skip
    go_enter Tryz.func68, Tryz.ntmps68
    go_wp2_with fail
    go_loopw [0, 3] (fun nv sv wr => ∃ (u : Nat) (l : Sc.Bs), u ≤ 9223372036854775807 ∧ l.length ≤ 21 ∧ nv = .int .i64 u ∧ sv = .string ⟨l.toArray⟩ ∧ Hid (Lib.decDigits u0 = Lib.decDigits u ++ l) ∧ wr = w) (fun nv _ _ => (intOf nv).toNat)
    case atStart => exact ⟨u0, [], hub, by simp, rfl, rfl, Lib.hid (by simp), rfl⟩
    case round =>
      obtain ⟨u, l, hu, hl, rfl, rfl, H, rfl⟩ := hrel
      by_cases hbig : u < 10
      · have hi : ¬ (9 : Int) < u := by omega
        have hcv := conv_digit u hbig wr
        have HF : Hid (Lib.decDigits u0 = digitB u :: l) := Lib.hid (by rw [H.out, dec_small hbig]; rfl)
        clear H
        go_wp2_with fail
        go_ret
        refine ⟨retv ?_, rfl⟩
        rw [HE.out, HF.out]
        show Value.string _ = Value.string _
        congr 1
      · have hi : (9 : Int) < u := by omega
        have hcv := conv_digit (u % 10) (by omega) wr
        have e1 : (((u % 10 : Nat) : Int)) = (u : Int) % 10 := by omega
        rw [e1] at hcv
        have HF : Hid (Lib.decDigits u0 = Lib.decDigits (u / 10) ++ digitB (u % 10) :: l) := Lib.hid (by rw [H.out, dec_big hbig, List.append_assoc]; rfl)
        have HL : Hid (l.length + 1 ≤ 21) := Lib.hid (by
          have h1 := HDL.out
          rw [H.out, List.length_append] at h1
          have := List.length_pos_iff.2 (Sc.dec_ne u)
          omega)
        clear H
        go_wp2_with fail
        refine ⟨⟨u / 10, digitB (u % 10) :: l, by omega, HL.out, by go_num, ?_, HF, trivial⟩, ?_⟩
        · rw [show (⟨#[digitB (u % 10)]⟩ : ByteArray) = ⟨[digitB (u % 10)].toArray⟩ from rfl, app_str]; rfl
        · simp [intOf]; omega
end Go.Proofs.YthpojljfmipngaaGreatDoor
