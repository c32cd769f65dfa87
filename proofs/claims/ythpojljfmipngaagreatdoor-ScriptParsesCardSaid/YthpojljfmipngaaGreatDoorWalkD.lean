/-
  THE WALKS, fourth part: digits and quote of script's writer. CONDITION: the builder is the call's own.
-/
import Derived.Test.YthpojljfmipngaaGreatDoorBld
import Derived.Deep.RegionWith
namespace Go.Proofs.YthpojljfmipngaaGreatDoor
open Go.RowKit
theorem hexd_lt (n : Nat) (h : n < 16) : ((⟨#[48, 49, 50, 51, 52, 53, 54, 55, 56, 57, 97, 98, 99, 100, 101, 102]⟩ : ByteArray)[n]'h) = Sc.hexd n := by
  have : ∀ k : Fin 16, ((⟨#[48, 49, 50, 51, 52, 53, 54, 55, 56, 57, 97, 98, 99, 100, 101, 102]⟩ : ByteArray)[k.val]'k.isLt) = Sc.hexd k.val := by decide
  exact this ⟨n, h⟩
theorem hexd_at {m n : Nat} (e : m = n) (h : m < 16) : ((Sc.hexd n).toNat : Int) = (((⟨#[48, 49, 50, 51, 52, 53, 54, 55, 56, 57, 97, 98, 99, 100, 101, 102]⟩ : ByteArray)[m]'h).toNat : Int) := by
  subst e
  rw [hexd_lt]
set_option maxRecDepth 100000 in
set_option maxHeartbeats 4000000 in
theorem digits_any (B b : Nat) (l : List UInt8) (c : UInt8) (w : World) (h : IsB B b l w) (hlen : l.length + 2 ≤ 140737488355328) :
    Calls Tryz.prog 48 #[.pointer (some ⟨b, 0, none⟩), .int .u8 c.toNat] w fun e w' => e = .returned (.tuple #[]) ∧ IsB B b (l ++ [Sc.hexd (c.toNat / 16), Sc.hexd (c.toNat % 16)]) w' ∧ Below B w w' := by
  have hc : c.toNat < 256 := c.toNat_lt
  have e1 : ((c.toNat : Int) / 16).toNat = c.toNat / 16 := by omega
  have e2 : ((c.toNat : Int) % 16).toNat = c.toNat % 16 := by omega
  have E1 := Lib.hid e1
  have hand : bits .and .u8 (c.toNat : Int) 15 = ((c.toNat % 16 : Nat) : Int) := by
    rw [show (15 : Int) = ((15 : Nat) : Int) from rfl, u8_and_nat c.toNat 15 (by omega) (by omega)]
    rw [show (15 : Nat) = 2 ^ 4 - 1 from rfl, Nat.and_two_pow_sub_one_eq_mod]
  have hm16 : ((c.toNat % 16 : Nat) : Int) < 16 := by omega
  have E2 := Lib.hid e2
  clear e1 e2
  go_enter Tryz.func48, Tryz.ntmps48
  go_wp2_with fail
  go_region_with ((go_at_call 16; refine (writeByte_at B b l _ (Sc.hexd (c.toNat / 16)) (hexd_at E1.out _) _ h.drew (by omega)).mono ?_; rintro e w1 ⟨rfl, h1, hb1, _⟩))
  all_goals go_wp2_with fail
  all_goals have hl2 : (l ++ [Sc.hexd (c.toNat / 16)]).length + 1 ≤ 140737488355328 := by simp; omega
  all_goals go_region_with ((go_at_call 16; refine (writeByte_at B b _ _ (Sc.hexd (c.toNat % 16)) (hexd_at E2.out _) _ h1.drew hl2).mono ?_; rintro e w2 ⟨rfl, h2, hb2, _⟩))
  all_goals go_wp2_with fail
  all_goals go_end0
  all_goals exact ⟨rfl, by simpa using h2, (below_drewN (Below.refl _ _) 1 : Below B w w.drew).trans (hb1.trans ((below_drewN (Below.refl _ _) 1 : Below B w1 w1.drew).trans hb2))⟩

theorem esc_pair {c : UInt8} (h : c.toNat = 34 ∨ c.toNat = 92) : Sc.esc c = [92, c] := by unfold Sc.esc; rw [if_pos h]
theorem esc_feed {c : UInt8} (h : c.toNat = 10) : Sc.esc c = [92, 110] := by unfold Sc.esc; rw [if_neg (by omega), if_pos h]
theorem esc_back {c : UInt8} (h : c.toNat = 13) : Sc.esc c = [92, 114] := by unfold Sc.esc; rw [if_neg (by omega), if_neg (by omega), if_pos h]
theorem esc_hex {c : UInt8} (h1 : ¬ (c.toNat = 34 ∨ c.toNat = 92)) (h2 : ¬ c.toNat = 10) (h3 : ¬ c.toNat = 13) (h : c.toNat < 32 ∨ 126 < c.toNat) : Sc.esc c = [92, 120] ++ [Sc.hexd (c.toNat / 16), Sc.hexd (c.toNat % 16)] := by
  unfold Sc.esc; rw [if_neg h1, if_neg h2, if_neg h3, if_pos h]; rfl
theorem esc_one {c : UInt8} (h1 : ¬ (c.toNat = 34 ∨ c.toNat = 92)) (h2 : ¬ c.toNat = 10) (h3 : ¬ c.toNat = 13) (h : ¬ (c.toNat < 32 ∨ 126 < c.toNat)) : Sc.esc c = [c] := by
  unfold Sc.esc; rw [if_neg h1, if_neg h2, if_neg h3, if_neg h]
/-- What the first k letters are written as. -/
def escTo (L : List UInt8) (k : Nat) : List UInt8 := (L.take k).flatMap Sc.esc
theorem escTo_succ {L : List UInt8} {k : Nat} {c : UInt8} (h : L[k]? = some c) : escTo L (k + 1) = escTo L k ++ Sc.esc c := by
  obtain ⟨hk, rfl⟩ := List.getElem?_eq_some_iff.1 h
  unfold escTo
  rw [List.take_succ_eq_append_getElem hk, List.flatMap_append]
  simp
theorem esc_len (c : UInt8) : (Sc.esc c).length ≤ 4 := by
  unfold Sc.esc
  repeat' split
  all_goals simp
theorem escTo_len (L : List UInt8) (k : Nat) : (escTo L k).length ≤ 4 * k := by
  induction k with
  | zero => simp [escTo]
  | succ k ih =>
    by_cases hk : k < L.length
    · rw [escTo_succ (List.getElem?_eq_getElem hk), List.length_append]
      have := esc_len L[k]
      omega
    · have e : escTo L (k + 1) = escTo L k := by unfold escTo; rw [List.take_of_length_le (by omega), List.take_of_length_le (by omega)]
      rw [e]; omega
end Go.Proofs.YthpojljfmipngaaGreatDoor
