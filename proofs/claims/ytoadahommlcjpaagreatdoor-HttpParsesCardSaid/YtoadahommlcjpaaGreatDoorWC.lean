/-
  THE WALKS, third part: alike; the document's kinds of texts.
-/
import Derived.Test.YtoadahommlcjpaaGreatDoorWB
namespace Go.Proofs.YtoadahommlcjpaaGreatDoor
open Go.RowKit
theorem drewN_more {w w' : World} (h : ∃ n, w' = w.drewN n) (m : Nat) : ∃ n, w'.drewN m = w.drewN n := by
  obtain ⟨n, rfl⟩ := h
  exact ⟨n + m, World.drewN_drewN _ _ _⟩
theorem small_inj (c d : UInt8) : decide (((Ht.small c).toNat : Int) ≠ ((Ht.small d).toNat : Int)) = !decide (Ht.small c = Ht.small d) := by
  by_cases h : Ht.small c = Ht.small d
  · simp [h]
  · have : (Ht.small c).toNat ≠ (Ht.small d).toNat := fun hn => h (UInt8.toNat_inj.1 hn)
    simp [h]; omega
theorem alike_step {a b : ByteArray} {k : Nat} (hk : k < a.size) (hk2 : k < b.size) (h : (a.data.toList.take k).map Ht.small = (b.data.toList.take k).map Ht.small) (hc : Ht.small (a[k]'hk) = Ht.small (b[k]'hk2)) :
    (a.data.toList.take (k + 1)).map Ht.small = (b.data.toList.take (k + 1)).map Ht.small := by
  rw [take_get hk, take_get hk2, List.map_append, List.map_append, h]; simp [hc]
theorem alike_not {a b : ByteArray} {k : Nat} (hk : k < a.size) (hk2 : k < b.size) (hc : Ht.small (a[k]'hk) ≠ Ht.small (b[k]'hk2)) : Ht.alikeB a.data.toList b.data.toList = false := by
  unfold Ht.alikeB
  rw [decide_eq_false_iff_not]
  intro h
  have h1 : k < a.data.toList.length := by rw [← Lib.size_eq]; exact hk
  have h2 : k < b.data.toList.length := by rw [← Lib.size_eq]; exact hk2
  have := congrArg (fun l => l[k]?) h
  simp only [List.getElem?_map, List.getElem?_eq_getElem h1, List.getElem?_eq_getElem h2, Option.map_some, Option.some.injEq, Array.getElem_toList] at this
  exact hc this
theorem alike_end {a b : ByteArray} {k : Nat} (hs : a.size = b.size) (hk : ¬ k < a.size) (h : (a.data.toList.take k).map Ht.small = (b.data.toList.take k).map Ht.small) : Ht.alikeB a.data.toList b.data.toList = true := by
  rw [List.take_of_length_le (by rw [← Lib.size_eq]; omega), List.take_of_length_le (by rw [← Lib.size_eq]; omega)] at h
  unfold Ht.alikeB
  rw [h]; simp
theorem alike_len {a b : ByteArray} (h : a.size ≠ b.size) : Ht.alikeB a.data.toList b.data.toList = false := by
  unfold Ht.alikeB
  rw [decide_eq_false_iff_not]
  intro he
  have := congrArg List.length he
  rw [List.length_map, List.length_map, ← Lib.size_eq, ← Lib.size_eq] at this
  exact h this
set_option maxRecDepth 100000 in
set_option maxHeartbeats 4000000 in
theorem alike_any (a b : ByteArray) (w : World) (ha : a.size ≤ 9223372036854775807) (_hb : b.size ≤ 9223372036854775807) :
    Calls Tryz.prog 61 #[.string a, .string b] w fun e w' => e = .returned (.bool (Ht.alikeB a.data.toList b.data.toList)) ∧ ∃ n, w' = w.drewN n := by
  by_cases hs : a.size = b.size
  · obtain ⟨R, hR⟩ : ∃ R, Ht.alikeB a.data.toList b.data.toList = R := ⟨_, rfl⟩
    have HE : Hid (∀ k, ¬ k < a.size → (a.data.toList.take k).map Ht.small = (b.data.toList.take k).map Ht.small → R = true) := Lib.hid (fun k hk h => by rw [← hR]; exact alike_end hs hk h)
    have HN : Hid (∀ k (hk : k < a.size) (hk2 : k < b.size), Ht.small (a[k]'hk) ≠ Ht.small (b[k]'hk2) → R = false) := Lib.hid (fun k hk hk2 h => by rw [← hR]; exact alike_not hk hk2 h)
    rw [hR]
    clear hR
    have hsi : (a.size : Int) = b.size := by rw [hs]
    go_enter Tryz.func61, Tryz.ntmps61
    go_wp2_with fail
    go_loopw [13] (fun i wr => ∃ k : Nat, k ≤ a.size ∧ i = .int .i64 k ∧ Hid (∃ n, wr = w.drewN n) ∧ Hid ((a.data.toList.take k).map Ht.small = (b.data.toList.take k).map Ht.small)) (fun i _ => a.size - (intOf i).toNat)
    case atStart => exact ⟨0, Nat.zero_le _, rfl, Lib.hid ⟨0, rfl⟩, Lib.hid rfl⟩
    case round =>
      obtain ⟨k, hk, rfl, Hn, H⟩ := hrel
      by_cases hlt : k < a.size
      · have hlt2 : k < b.size := by omega
        have HT : Hid (Ht.small (a[k]'hlt) = Ht.small (b[k]'hlt2) → (a.data.toList.take (k + 1)).map Ht.small = (b.data.toList.take (k + 1)).map Ht.small) := Lib.hid (fun h => alike_step hlt hlt2 H.out h)
        have HF : Hid (Ht.small (a[k]'hlt) ≠ Ht.small (b[k]'hlt2) → R = false) := Lib.hid (fun h => HN.out k hlt hlt2 h)
        clear H
        obtain ⟨c, hc⟩ : ∃ c, a[k]'hlt = c := ⟨_, rfl⟩
        obtain ⟨d, hd⟩ : ∃ d, b[k]'hlt2 = d := ⟨_, rfl⟩
        rw [hc, hd] at HT HF
        have HA := Lib.hid (fun W => small_any c W)
        have HB := Lib.hid (fun W => small_any d W)
        have HX := Lib.hid (small_inj c d)
        go_wp2_with fail
        go_quiet ((go_at_call 67; first | exact Calls.quiet_of_same (HA.out _) | exact Calls.quiet_of_same (HB.out _)))
        by_cases hq : Ht.small c = Ht.small d
        · have hX : decide (((Ht.small c).toNat : Int) ≠ ((Ht.small d).toNat : Int)) = false := by rw [HX.out]; simp [hq]
          have HR := Lib.hid (HT.out hq)
          have he : ((Ht.small c).toNat : Int) = ((Ht.small d).toNat : Int) := by rw [hq]
          go_wp2_with fail
          go_roundw
          case rel => exact ⟨k + 1, by omega, by go_num, Lib.hid (drewN_more Hn.out _), HR⟩
          case measure => simp [intOf]; omega
        · have he : ((Ht.small c).toNat : Int) ≠ ((Ht.small d).toNat : Int) := by have := small_inj c d; simpa [hq] using this
          have HR := Lib.hid (HF.out hq)
          go_wp2_with fail
          go_ret
          exact ⟨ret_bool HR.out.symm, drewN_more Hn.out _⟩
      · have HR := Lib.hid (HE.out k hlt H.out)
        clear H
        go_wp2_with fail
        go_ret
        exact ⟨ret_bool HR.out.symm, Hn.out⟩
  · rw [alike_len hs]
    go_enter Tryz.func61, Tryz.ntmps61
    go_wp2_with fail
    go_ret
    exact ⟨rfl, ⟨0, rfl⟩⟩
/-! ### the document's -/
set_option maxHeartbeats 1000000 in
theorem refSmall_any (c : UInt8) (w : World) :
    Calls Tryz.prog 88 #[.int .u8 (c.toNat : Int)] w fun e w' => e = .returned (.int .u8 ((Ht.small c).toNat : Int)) ∧ w' = w := by
  have hc := c.toNat_lt
  by_cases h1 : 65 ≤ c.toNat
  · by_cases h2 : c.toNat ≤ 90
    · have HE : Hid ((c.toNat : Int) + 32 = ((Ht.small c).toNat : Int)) := Lib.hid (by
        unfold Ht.small
        rw [if_pos ⟨h1, h2⟩, UInt8.toNat_add]
        simp; omega)
      go_enter Tryz.func88, Tryz.ntmps88
      go_wp2_with fail
      go_ret
      exact ⟨ret_int (by rw [← HE.out]), rfl⟩
    · have HE : Hid (Ht.small c = c) := Lib.hid (by unfold Ht.small; rw [if_neg (by omega)])
      go_enter Tryz.func88, Tryz.ntmps88
      go_wp2_with fail
      go_ret
      exact ⟨ret_int (by rw [HE.out]), rfl⟩
  · have HE : Hid (Ht.small c = c) := Lib.hid (by unfold Ht.small; rw [if_neg (by omega)])
    go_enter Tryz.func88, Tryz.ntmps88
    go_wp2_with fail
    go_ret
    exact ⟨ret_int (by rw [HE.out]), rfl⟩
set_option maxHeartbeats 1000000 in
theorem refDigit_q (c : UInt8) {q : Bool} (h : inB c 48 57 = q) (w : World) :
    Calls Tryz.prog 84 #[.int .u8 (c.toNat : Int)] w fun e w' => e = .returned (.bool q) ∧ w' = w := by
  by_cases h1 : 48 ≤ c.toNat
  · by_cases h2 : c.toNat ≤ 57
    · have HE : Hid (q = true) := Lib.hid (by rw [← h]; unfold inB; simp [h1, h2])
      clear h
      go_enter Tryz.func84, Tryz.ntmps84
      go_wp2_with fail
      go_ret
      exact ⟨ret_bool (by rw [HE.out] <;> first | rfl | (rw [Bool.eq_iff_iff]; simp; done) | (rw [Bool.eq_iff_iff]; simp; omega)), rfl⟩
    · have HE : Hid (q = false) := Lib.hid (by rw [← h]; unfold inB; simp [h1, h2])
      clear h
      go_enter Tryz.func84, Tryz.ntmps84
      go_wp2_with fail
      go_ret
      exact ⟨ret_bool (by rw [HE.out] <;> first | rfl | (rw [Bool.eq_iff_iff]; simp; done) | (rw [Bool.eq_iff_iff]; simp; omega)), rfl⟩
  · have HE : Hid (q = false) := Lib.hid (by rw [← h]; unfold inB; simp [h1])
    clear h
    go_enter Tryz.func84, Tryz.ntmps84
    go_wp2_with fail
    go_ret
    exact ⟨ret_bool (by rw [HE.out] <;> first | rfl | (rw [Bool.eq_iff_iff]; simp; done) | (rw [Bool.eq_iff_iff]; simp; omega)), rfl⟩
theorem letter_fin : ∀ n : Fin 256, inB (Ht.small (UInt8.ofNat n.val)) 97 122 = ((decide (97 ≤ n.val) && decide (n.val ≤ 122)) || (decide (65 ≤ n.val) && decide (n.val ≤ 90))) := by decide +kernel
theorem letter_eq (c : UInt8) : inB (Ht.small c) 97 122 = ((decide (97 ≤ c.toNat) && decide (c.toNat ≤ 122)) || (decide (65 ≤ c.toNat) && decide (c.toNat ≤ 90))) := by
  have := letter_fin ⟨c.toNat, c.toNat_lt⟩
  simpa only [UInt8.ofNat_toNat] using this
set_option maxHeartbeats 1000000 in
theorem refLetter_q (c : UInt8) {q : Bool} (h : inB (Ht.small c) 97 122 = q) (w : World) :
    Calls Tryz.prog 83 #[.int .u8 (c.toNat : Int)] w fun e w' => e = .returned (.bool q) ∧ w' = w := by
  rw [letter_eq] at h
  by_cases h1 : 97 ≤ c.toNat
  · by_cases h2 : c.toNat ≤ 122
    · have HE : Hid (q = true) := Lib.hid (by rw [← h]; simp [h1, h2])
      clear h
      go_enter Tryz.func83, Tryz.ntmps83
      go_wp2_with fail
      go_ret
      exact ⟨ret_bool (by rw [HE.out] <;> first | rfl | (rw [Bool.eq_iff_iff]; simp; done) | (rw [Bool.eq_iff_iff]; simp; omega)), rfl⟩
    · have h3 : 65 ≤ c.toNat := by omega
      have h4 : ¬ c.toNat ≤ 90 := by omega
      have HE : Hid (q = false) := Lib.hid (by rw [← h]; simp [h2, h4])
      clear h
      go_enter Tryz.func83, Tryz.ntmps83
      go_wp2_with fail
      go_ret
      exact ⟨ret_bool (by rw [HE.out] <;> first | rfl | (rw [Bool.eq_iff_iff]; simp; done) | (rw [Bool.eq_iff_iff]; simp; omega)), rfl⟩
  · by_cases h3 : 65 ≤ c.toNat
    · by_cases h4 : c.toNat ≤ 90
      · have HE : Hid (q = true) := Lib.hid (by rw [← h]; simp [h3, h4])
        clear h
        go_enter Tryz.func83, Tryz.ntmps83
        go_wp2_with fail
        go_ret
        exact ⟨ret_bool (by rw [HE.out] <;> first | rfl | (rw [Bool.eq_iff_iff]; simp; done) | (rw [Bool.eq_iff_iff]; simp; omega)), rfl⟩
      · have HE : Hid (q = false) := Lib.hid (by rw [← h]; simp [h1, h4])
        clear h
        go_enter Tryz.func83, Tryz.ntmps83
        go_wp2_with fail
        go_ret
        exact ⟨ret_bool (by rw [HE.out] <;> first | rfl | (rw [Bool.eq_iff_iff]; simp; done) | (rw [Bool.eq_iff_iff]; simp; omega)), rfl⟩
    · have HE : Hid (q = false) := Lib.hid (by rw [← h]; simp [h1, h3])
      clear h
      go_enter Tryz.func83, Tryz.ntmps83
      go_wp2_with fail
      go_ret
      exact ⟨ret_bool (by rw [HE.out] <;> first | rfl | (rw [Bool.eq_iff_iff]; simp; done) | (rw [Bool.eq_iff_iff]; simp; omega)), rfl⟩
set_option maxRecDepth 100000 in
set_option maxHeartbeats 2000000 in
theorem between_any (s : ByteArray) (lo hi : Nat) (w : World) (hs : s.size ≤ 9223372036854775807) :
    Calls Tryz.prog 85 #[.string s, .int .u8 lo, .int .u8 hi] w fun e w' => e = .returned (.bool (Ht.allB s.data.toList lo hi)) ∧ ∃ n, w' = w.drewN n := by
  have HA : Hid (Ht.allB s.data.toList lo hi = s.data.toList.all fun c => inB c lo hi) := Lib.hid rfl
  generalize Ht.allB s.data.toList lo hi = R at HA ⊢
  go_enter Tryz.func85, Tryz.ntmps85
  go_wp2_with fail
  go_loopw [10] (fun i wr => ∃ k : Nat, k ≤ s.size ∧ i = .int .i64 k ∧ Hid (∃ n, wr = w.drewN n) ∧ Hid ((s.data.toList.take k).all (fun c => inB c lo hi) = true)) (fun i _ => s.size - (intOf i).toNat)
  case atStart => exact ⟨0, Nat.zero_le _, rfl, Lib.hid ⟨0, rfl⟩, Lib.hid rfl⟩
  case round =>
    obtain ⟨k, hk, rfl, Hn, H⟩ := hrel
    by_cases hlt : k < s.size
    · have HN : Hid (inB (s[k]'hlt) lo hi = true → (s.data.toList.take (k + 1)).all (fun c => inB c lo hi) = true) := Lib.hid (fun h => all_take hlt H.out h)
      have HF : Hid (inB (s[k]'hlt) lo hi = false → R = false) := Lib.hid (fun h => by rw [HA.out]; exact all_not (p := fun c => inB c lo hi) hlt h)
      obtain ⟨c, hc⟩ : ∃ c, s[k]'hlt = c := ⟨_, rfl⟩
      rw [hc] at HN HF
      clear H
      by_cases h1 : c.toNat < lo
      · have HR := Lib.hid (HF.out (by unfold inB; simp; omega))
        go_wp2_with fail
        go_ret
        exact ⟨ret_bool HR.out.symm, Hn.out⟩
      · by_cases h2 : hi < c.toNat
        · have HR := Lib.hid (HF.out (by unfold inB; simp; omega))
          go_wp2_with fail
          go_ret
          exact ⟨ret_bool HR.out.symm, Hn.out⟩
        · have HR := Lib.hid (HN.out (by unfold inB; simp; omega))
          go_wp2_with fail
          go_roundw
          case rel => exact ⟨k + 1, by omega, by go_num, Hn, HR⟩
          case measure => simp [intOf]; omega
    · have HR : Hid (R = true) := Lib.hid (by rw [HA.out]; exact all_end hlt H.out)
      clear H
      go_wp2_with fail
      go_ret
      exact ⟨ret_bool HR.out.symm, Hn.out⟩
theorem between_q (s : ByteArray) (lo hi : Nat) (w : World) (hs : s.size ≤ 9223372036854775807) {q : Bool} (h : Ht.allB s.data.toList lo hi = q) :
    Calls Tryz.prog 85 #[.string s, .int .u8 (lo : Int), .int .u8 (hi : Int)] w fun e w' => e = .returned (.bool q) ∧ ∃ n, w' = w.drewN n := by
  have := between_any s lo hi w hs
  rwa [h] at this
theorem head_get {s : ByteArray} (h : 0 < s.size) : s.data.toList.head? = some (s[0]'h) := by
  have := drop_get h
  rw [List.drop_zero] at this
  rw [this]; rfl
theorem last_get {s : ByteArray} (h : 0 < s.size) : s.data.toList.getLast? = some (s[s.size - 1]'(by omega)) := by
  have h2 : s.size - 1 < s.data.toList.length := by rw [← Lib.size_eq]; omega
  rw [List.getLast?_eq_getElem?, ← Lib.size_eq, List.getElem?_eq_getElem h2]
  simp only [Array.getElem_toList]; rfl
theorem u8_eq (c : UInt8) (n : Nat) (hn : n < 256) : ((c.toNat : Int) = (n : Int)) ↔ c = UInt8.ofNat n := by
  constructor
  · intro h
    apply UInt8.toNat_inj.1
    rw [UInt8.toNat_ofNat']
    omega
  · rintro rfl
    rw [UInt8.toNat_ofNat']
    omega
theorem u8_ne32 (c : UInt8) : ((c.toNat : Int) != 32) = !decide (c = (32 : UInt8)) := by
  have := u8_eq c 32 (by omega)
  by_cases h : c = 32
  · simp [h]
  · have h2 : ¬ ((c.toNat : Int) = 32) := fun hn => h (this.1 hn)
    simp [h]; omega
set_option maxRecDepth 100000 in
set_option maxHeartbeats 4000000 in
theorem refTarget_any (s : ByteArray) (w : World) (hs : s.size ≤ 9223372036854775807) :
    Calls Tryz.prog 56 #[.string s] w fun e w' => e = .returned (.bool (Ht.targetB s.data.toList)) ∧ ∃ n, w' = w.drewN n := by
  obtain ⟨q1, hq1⟩ : ∃ q, decide (s.data.toList.head? = some 47) = q := ⟨_, rfl⟩
  obtain ⟨q2, hq2⟩ : ∃ q, Ht.allB s.data.toList 33 126 = q := ⟨_, rfl⟩
  have HR : Hid (Ht.targetB s.data.toList = (decide (s.size ≤ 200) && q1 && q2)) := Lib.hid (by rw [← hq1, ← hq2, Lib.size_eq]; rfl)
  have HC := Lib.hid (fun W => between_q s 33 126 W hs hq2)
  generalize Ht.targetB s.data.toList = R at HR ⊢
  by_cases h0 : 1 ≤ s.size
  · have H1 : Hid (q1 = decide (s[0]'(by omega) = (47 : UInt8))) := Lib.hid (by rw [← hq1, head_get (by omega)]; simp)
    obtain ⟨c, hc⟩ : ∃ c, s[0]'(by omega) = c := ⟨_, rfl⟩
    rw [hc] at H1
    clear hq1 hq2
    go_enter Tryz.func56, Tryz.ntmps56
    by_cases h2 : s.size ≤ 200
    · by_cases h3 : (c.toNat : Int) = 47
      · have h4 : q1 = true := by rw [H1.out, decide_eq_true_eq]; exact (u8_eq c 47 (by omega)).1 h3
        go_wp2_with fail
        refine (HC.out _).mono ?_
        rintro e w' ⟨rfl, hn⟩
        go_wp2_with fail
        go_ret
        exact ⟨ret_bool (by rw [HR.out, h4]; simp [h2]), hn⟩
      · have h4 : q1 = false := by rw [H1.out, decide_eq_false_iff_not]; exact fun h => h3 ((u8_eq c 47 (by omega)).2 h)
        go_wp2_with fail
        go_ret
        exact ⟨ret_bool (by rw [HR.out, h4]; simp), ⟨0, rfl⟩⟩
    · go_wp2_with fail
      go_ret
      exact ⟨ret_bool (by rw [HR.out]; simp [h2]), ⟨0, rfl⟩⟩
  · have h4 : q1 = false := by
      rw [← hq1, decide_eq_false_iff_not]
      have : s.data.toList = [] := List.eq_nil_of_length_eq_zero (by rw [← Lib.size_eq]; omega)
      rw [this]; simp
    clear hq1 hq2
    go_enter Tryz.func56, Tryz.ntmps56
    go_wp2_with fail
    go_ret
    exact ⟨ret_bool (by rw [HR.out, h4]; simp), ⟨0, rfl⟩⟩
set_option maxRecDepth 100000 in
set_option maxHeartbeats 4000000 in
theorem refValue_any (s : ByteArray) (w : World) (hs : s.size ≤ 9223372036854775807) :
    Calls Tryz.prog 82 #[.string s] w fun e w' => e = .returned (.bool (Ht.valuedB s.data.toList)) ∧ ∃ n, w' = w.drewN n := by
  obtain ⟨q1, hq1⟩ : ∃ q, Ht.allB s.data.toList 32 126 = q := ⟨_, rfl⟩
  obtain ⟨q2, hq2⟩ : ∃ q, decide (s.data.toList.head? = some 32) = q := ⟨_, rfl⟩
  obtain ⟨q3, hq3⟩ : ∃ q, decide (s.data.toList.getLast? = some 32) = q := ⟨_, rfl⟩
  have HR : Hid (Ht.valuedB s.data.toList = (decide (s.size ≤ 200) && q1 && !q2 && !q3)) := Lib.hid (by rw [← hq1, ← hq2, ← hq3, Lib.size_eq]; rfl)
  have HC := Lib.hid (fun W => between_q s 32 126 W hs hq1)
  generalize Ht.valuedB s.data.toList = R at HR ⊢
  by_cases h2 : s.size ≤ 200
  · by_cases h0 : 0 < s.size
    · have H2 : Hid (q2 = decide (s[0]'h0 = (32 : UInt8))) := Lib.hid (by rw [← hq2, head_get h0]; simp)
      have H3 : Hid (q3 = decide (s[s.size - 1]'(by omega) = (32 : UInt8))) := Lib.hid (by rw [← hq3, last_get h0]; simp)
      have hne : (s.toList == []) = false := by rw [Lib.toList_data]; have : s.data.toList ≠ [] := fun h => by rw [Lib.size_eq, h] at h0; cases h0
                                                simpa using this
      obtain ⟨c, hc⟩ : ∃ c, s[0]'h0 = c := ⟨_, rfl⟩
      obtain ⟨d, hd⟩ : ∃ d, s[s.size - 1]'(by omega) = d := ⟨_, rfl⟩
      rw [hc] at H2
      rw [hd] at H3
      clear hq1 hq2 hq3
      go_enter Tryz.func82, Tryz.ntmps82
      go_wp2_with fail
      refine (HC.out _).mono ?_
      rintro e w' ⟨rfl, hn⟩
      have Hn := Lib.hid hn
      clear hn
      cases q1
      · go_wp2_with fail
        go_ret
        exact ⟨ret_bool (by rw [HR.out]; simp), Hn.out⟩
      · go_wp2_with fail
        · rename_i hce
          have h5 : q2 = true := by rw [H2.out, decide_eq_true_eq]; exact (u8_eq c 32 (by omega)).1 hce
          go_ret
          exact ⟨ret_bool (by rw [HR.out, h5]; simp), Hn.out⟩
        · go_ret
          exact ⟨ret_bool (by rw [HR.out, H2.out, H3.out, u8_ne32, u8_ne32]; simp [h2]), Hn.out⟩
    · have hnil : s.data.toList = [] := List.eq_nil_of_length_eq_zero (by rw [← Lib.size_eq]; omega)
      have hne : (s.toList == []) = true := by rw [Lib.toList_data, hnil]; rfl
      have h4 : q2 = false := by rw [← hq2, hnil]; rfl
      have h5 : q3 = false := by rw [← hq3, hnil]; rfl
      clear hq1 hq2 hq3 hnil
      go_enter Tryz.func82, Tryz.ntmps82
      go_wp2_with fail
      refine (HC.out _).mono ?_
      rintro e w' ⟨rfl, hn⟩
      have Hn := Lib.hid hn
      clear hn
      cases q1
      · go_wp2_with fail
        go_ret
        exact ⟨ret_bool (by rw [HR.out]; simp), Hn.out⟩
      · go_wp2_with fail
        go_ret
        exact ⟨ret_bool (by rw [HR.out, h4, h5]; simp [h2]), Hn.out⟩
  · clear hq1 hq2 hq3
    go_enter Tryz.func82, Tryz.ntmps82
    go_wp2_with fail
    go_ret
    exact ⟨ret_bool (by rw [HR.out]; simp [h2]), ⟨0, rfl⟩⟩
end Go.Proofs.YtoadahommlcjpaaGreatDoor
