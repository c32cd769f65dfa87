/-
  THE WALKS, first part: bytes and texts of kinds: in, all, small, token, target, valued, alike of package http; their counterparts of the document. NO CONDITIONS but lengths.
-/
import Derived.Test.YtoadahommlcjpaaGreatDoorBase
namespace Go.Proofs.YtoadahommlcjpaaGreatDoor
open Go.RowKit
set_option maxHeartbeats 1000000 in
theorem in_any (c lo hi : Int) (w : World) :
    Calls Tryz.prog 66 #[.int .u8 c, .int .u8 lo, .int .u8 hi] w fun e w' => e = .returned (.bool (decide (lo ≤ c) && decide (c ≤ hi))) ∧ w' = w := by
  by_cases h1 : lo ≤ c
  · by_cases h2 : c ≤ hi
    · have HE : Hid ((decide (lo ≤ c) && decide (c ≤ hi)) = true) := Lib.hid (by simp [h1, h2])
      go_enter Tryz.func66, Tryz.ntmps66
      go_wp2_with fail
      go_ret
      exact ⟨ret_bool HE.out.symm, rfl⟩
    · have HE : Hid ((decide (lo ≤ c) && decide (c ≤ hi)) = false) := Lib.hid (by simp [h2])
      go_enter Tryz.func66, Tryz.ntmps66
      go_wp2_with fail
      go_ret
      first | exact ⟨ret_bool HE.out.symm, rfl⟩ | exact ⟨ret_bool (by simp [h2]), rfl⟩
  · have HE : Hid ((decide (lo ≤ c) && decide (c ≤ hi)) = false) := Lib.hid (by simp [h1])
    go_enter Tryz.func66, Tryz.ntmps66
    go_wp2_with fail
    go_ret
    exact ⟨ret_bool HE.out.symm, rfl⟩
theorem in_is {c lo hi : Int} {b : Bool} (w : World) (h : (decide (lo ≤ c) && decide (c ≤ hi)) = b) :
    Calls Tryz.prog 66 #[.int .u8 c, .int .u8 lo, .int .u8 hi] w fun e w' => e = .returned (.bool b) ∧ w' = w := by
  have := in_any c lo hi w
  rwa [h] at this
def inB (c : UInt8) (lo hi : Nat) : Bool := decide (lo ≤ c.toNat) && decide (c.toNat ≤ hi)
theorem inB_int (c : UInt8) (lo hi : Nat) : (decide ((lo : Int) ≤ (c.toNat : Int)) && decide ((c.toNat : Int) ≤ (hi : Int))) = inB c lo hi := by
  unfold inB
  rw [Bool.eq_iff_iff]
  simp only [Bool.and_eq_true, decide_eq_true_eq]
  omega
theorem drop_get {s : ByteArray} {k : Nat} (h : k < s.size) : s.data.toList.drop k = (s[k]'h) :: s.data.toList.drop (k + 1) := by
  have h2 : k < s.data.toList.length := by rw [← Lib.size_eq]; exact h
  have hget : s.data.toList[k]'h2 = s[k]'h := by simp only [Array.getElem_toList]; rfl
  rw [← hget]; exact List.drop_eq_getElem_cons h2
theorem take_get {s : ByteArray} {k : Nat} (h : k < s.size) : s.data.toList.take (k + 1) = s.data.toList.take k ++ [s[k]'h] := by
  have h2 : k < s.data.toList.length := by rw [← Lib.size_eq]; exact h
  have hget : s.data.toList[k]'h2 = s[k]'h := by simp only [Array.getElem_toList]; rfl
  rw [List.take_succ_eq_append_getElem h2, hget]
/-- A text all of whose first k bytes are of a kind. -/
theorem all_take {s : ByteArray} {p : UInt8 → Bool} {k : Nat} (h : k < s.size) (hk : (s.data.toList.take k).all p = true) (hc : p (s[k]'h) = true) : (s.data.toList.take (k + 1)).all p = true := by
  rw [take_get h, List.all_append, hk]; simp [hc]
theorem all_not {s : ByteArray} {p : UInt8 → Bool} {k : Nat} (h : k < s.size) (hc : p (s[k]'h) = false) : s.data.toList.all p = false := by
  have h2 : k < s.data.toList.length := by rw [← Lib.size_eq]; exact h
  have hget : s.data.toList[k]'h2 = s[k]'h := by simp only [Array.getElem_toList]; rfl
  rw [List.all_eq_false]
  exact ⟨_, List.getElem_mem h2, by rw [hget, hc]; simp⟩
theorem all_end {s : ByteArray} {p : UInt8 → Bool} {k : Nat} (h : ¬ k < s.size) (hk : (s.data.toList.take k).all p = true) : s.data.toList.all p = true := by
  rwa [List.take_of_length_le (by rw [← Lib.size_eq]; omega)] at hk
set_option maxRecDepth 100000 in
set_option maxHeartbeats 2000000 in
theorem all_any (s : ByteArray) (lo hi : Nat) (w : World) (hs : s.size ≤ 9223372036854775807) :
    Calls Tryz.prog 49 #[.string s, .int .u8 lo, .int .u8 hi] w fun e w' => e = .returned (.bool (Ht.allB s.data.toList lo hi)) ∧ w' = w := by
  have HA : Hid (Ht.allB s.data.toList lo hi = s.data.toList.all fun c => inB c lo hi) := Lib.hid rfl
  generalize Ht.allB s.data.toList lo hi = R at HA ⊢
  go_enter Tryz.func49, Tryz.ntmps49
  go_wp2_with fail
  go_loop [10] (fun i => ∃ k : Nat, k ≤ s.size ∧ i = .int .i64 k ∧ Hid ((s.data.toList.take k).all (fun c => inB c lo hi) = true)) (fun i => s.size - (intOf i).toNat)
  case atStart => exact ⟨0, Nat.zero_le _, rfl, Lib.hid rfl⟩
  case round =>
    obtain ⟨k, hk, rfl, H⟩ := hrel
    by_cases hlt : k < s.size
    · have HN : Hid (inB (s[k]'hlt) lo hi = true → (s.data.toList.take (k + 1)).all (fun c => inB c lo hi) = true) := Lib.hid (fun h => all_take hlt H.out h)
      have HF : Hid (inB (s[k]'hlt) lo hi = false → R = false) := Lib.hid (fun h => by rw [HA.out]; exact all_not (p := fun c => inB c lo hi) hlt h)
      obtain ⟨c, hc⟩ : ∃ c, s[k]'hlt = c := ⟨_, rfl⟩
      rw [hc] at HN HF
      obtain ⟨q, hq⟩ : ∃ q, inB c lo hi = q := ⟨_, rfl⟩
      have HC := Lib.hid (fun W => in_is (b := q) W ((inB_int c lo hi).trans hq))
      rw [hq] at HN HF
      clear H hq
      go_wp2_with fail
      refine (HC.out _).mono ?_
      rintro e w' ⟨rfl, rfl⟩
      cases q
      · have HR := Lib.hid (HF.out rfl)
        go_wp2_with fail
        go_ret
        exact ⟨ret_bool HR.out.symm, rfl⟩
      · have HR := Lib.hid (HN.out rfl)
        go_wp2_with fail
        go_round
        case rel => exact ⟨k + 1, by omega, by go_num, HR⟩
        case measure => simp [intOf]; omega
    · have HR : Hid (R = true) := Lib.hid (by rw [HA.out]; exact all_end hlt H.out)
      clear H
      go_wp2_with fail
      go_ret
      exact ⟨ret_bool HR.out.symm, rfl⟩
theorem or32 : ∀ n : Fin 256, 65 ≤ n.val → n.val ≤ 90 → (bits .or .u8 (n.val : Int) 32) = ((UInt8.ofNat n.val + 32).toNat : Int) := by decide +kernel
theorem small_bits {c : UInt8} (h1 : 65 ≤ c.toNat) (h2 : c.toNat ≤ 90) : bits .or .u8 (c.toNat : Int) 32 = ((Ht.small c).toNat : Int) := by
  have := or32 ⟨c.toNat, c.toNat_lt⟩ h1 h2
  simp only [UInt8.ofNat_toNat] at this
  rw [this]
  unfold Ht.small
  rw [if_pos ⟨h1, h2⟩]
set_option maxHeartbeats 1000000 in
theorem small_any (c : UInt8) (w : World) :
    Calls Tryz.prog 67 #[.int .u8 (c.toNat : Int)] w fun e w' => e = .returned (.int .u8 ((Ht.small c).toNat : Int)) ∧ w' = w := by
  by_cases h : 65 ≤ c.toNat ∧ c.toNat ≤ 90
  · have HE : Hid (bits .or .u8 (c.toNat : Int) 32 = ((Ht.small c).toNat : Int)) := Lib.hid (small_bits h.1 h.2)
    have HC := Lib.hid (fun W => in_is (c := (c.toNat : Int)) (lo := 65) (hi := 90) (b := true) W (by simp; omega))
    clear h
    go_enter Tryz.func67, Tryz.ntmps67
    go_wp2_with fail
    refine (HC.out _).mono ?_
    rintro e w' ⟨rfl, rfl⟩
    go_wp2_with fail
    go_ret
    exact ⟨ret_int (by rw [← HE.out]), rfl⟩
  · have HE : Hid (Ht.small c = c) := Lib.hid (by unfold Ht.small; rw [if_neg h])
    have HC := Lib.hid (fun W => in_is (c := (c.toNat : Int)) (lo := 65) (hi := 90) (b := false) W (by rw [Bool.and_eq_false_iff, decide_eq_false_iff_not, decide_eq_false_iff_not]; omega))
    clear h
    go_enter Tryz.func67, Tryz.ntmps67
    go_wp2_with fail
    refine (HC.out _).mono ?_
    rintro e w' ⟨rfl, rfl⟩
    go_wp2_with fail
    go_ret
    exact ⟨ret_int (by rw [HE.out]), rfl⟩
end Go.Proofs.YtoadahommlcjpaaGreatDoor
