/-
  THE WALKS of the document's Parse, first part: half, number. CONDITIONS: none.
-/
import Derived.Test.YthpojljfmipngaaGreatDoorRefC
namespace Go.Proofs.YthpojljfmipngaaGreatDoor
open Go.RowKit
namespace Rf
open Sc (Bs)
def halfOf (c : UInt8) : Int := if 48 ≤ c.toNat ∧ c.toNat ≤ 57 then (c.toNat : Int) - 48 else if 97 ≤ c.toNat ∧ c.toNat ≤ 102 then (c.toNat : Int) - 87 else -1
def isDig (c : UInt8) : Bool := decide (48 ≤ c.toNat) && decide (c.toNat ≤ 57)
def digs (l : Bs) (n : Int) : Int := l.foldl (fun n c => 10 * n + ((c.toNat : Int) - 48)) n
def bodyOf (s : Bs) : Bs := if s.head? = some 45 then s.tail else s
def valOf (s : Bs) : Int := if s.head? = some 45 then -(digs (bodyOf s) 0) else digs (bodyOf s) 0
def numR (s : Bs) : Int × Bool :=
  if 11 < s.length ∨ s = [] ∨ (bodyOf s).all isDig = false then (0, false)
  else (valOf s, decide (Lib.itoa (valOf s) = s) && decide (valOf s ≤ 9999999999) && decide (-9999999999 ≤ valOf s))
theorem digs_snoc (l : Bs) (c : UInt8) (n : Int) : digs (l ++ [c]) n = 10 * digs l n + ((c.toNat : Int) - 48) := by unfold digs; rw [List.foldl_append]; rfl
theorem digs_bound : ∀ (l : Bs) (n : Int), (∀ c ∈ l, isDig c = true) → 0 ≤ n → 0 ≤ digs l n ∧ digs l n + 1 ≤ (n + 1) * 10 ^ l.length
  | [], n, _, h => by unfold digs; simp; exact h
  | c :: l, n, h, h0 => by
    have hc := h c (by simp)
    unfold isDig at hc
    simp only [Bool.and_eq_true, decide_eq_true_eq] at hc
    have ih := digs_bound l (10 * n + ((c.toNat : Int) - 48)) (fun d hd => h d (by simp [hd])) (by omega)
    have e : digs (c :: l) n = digs l (10 * n + ((c.toNat : Int) - 48)) := rfl
    rw [e]
    refine ⟨ih.1, Int.le_trans ih.2 ?_⟩
    have : (10 * n + ((c.toNat : Int) - 48) + 1) ≤ (n + 1) * 10 := by omega
    calc (10 * n + ((c.toNat : Int) - 48) + 1) * 10 ^ l.length ≤ ((n + 1) * 10) * 10 ^ l.length := Int.mul_le_mul_of_nonneg_right this (Int.le_of_lt (Int.pow_pos (by decide)))
      _ = (n + 1) * 10 ^ (c :: l).length := by rw [List.length_cons, Int.pow_succ, Int.mul_assoc, Int.mul_comm 10]
end Rf
set_option maxRecDepth 100000 in
set_option maxHeartbeats 4000000 in
theorem half_any (c : UInt8) (w : World) :
    Calls Tryz.prog 85 #[.int .u8 (c.toNat : Int)] w fun e w' => e = .returned (.int .i64 (Rf.halfOf c)) ∧ w' = w := by
  have hc : c.toNat < 256 := c.toNat_lt
  by_cases h1 : 48 ≤ c.toNat ∧ c.toNat ≤ 57
  · have HE : Hid (Rf.halfOf c = (c.toNat : Int) - 48) := Lib.hid (by unfold Rf.halfOf; rw [if_pos h1])
    have l1 : (48 : Int) ≤ c.toNat := by omega
    have l2 : (c.toNat : Int) ≤ 57 := by omega
    have hw : IntKind.u8.wrap ((c.toNat : Int) - 48) = (c.toNat : Int) - 48 := by rw [IntKind.wrap_u8]; omega
    have hw2 : IntKind.i64.wrap ((c.toNat : Int) - 48) = (c.toNat : Int) - 48 := by rw [IntKind.wrap_i64]; omega
    clear h1
    go_enter Tryz.func85, Tryz.ntmps85
    go_wp2_with fail
    go_ret
    rw [HE.out]
    exact ⟨rfl, rfl⟩
  by_cases h2 : 97 ≤ c.toNat ∧ c.toNat ≤ 102
  · have HE : Hid (Rf.halfOf c = (c.toNat : Int) - 87) := Lib.hid (by unfold Rf.halfOf; rw [if_neg h1, if_pos h2])
    have l1 : (48 : Int) ≤ c.toNat := by omega
    have l2 : ¬ (c.toNat : Int) ≤ 57 := by omega
    have l3 : (97 : Int) ≤ c.toNat := by omega
    have l4 : (c.toNat : Int) ≤ 102 := by omega
    have hw : IntKind.u8.wrap ((c.toNat : Int) - 97) = (c.toNat : Int) - 97 := by rw [IntKind.wrap_u8]; omega
    have hw2 : IntKind.i64.wrap ((c.toNat : Int) - 97) = (c.toNat : Int) - 97 := by rw [IntKind.wrap_i64]; omega
    have hw3 : IntKind.i64.wrap ((c.toNat : Int) - 97 + 10) = (c.toNat : Int) - 87 := by rw [IntKind.wrap_i64]; omega
    clear h1 h2
    go_enter Tryz.func85, Tryz.ntmps85
    go_wp2_with fail
    go_ret
    rw [HE.out]
    exact ⟨rfl, rfl⟩
  · have HE : Hid (Rf.halfOf c = -1) := Lib.hid (by unfold Rf.halfOf; rw [if_neg h1, if_neg h2])
    have hcase : ¬ (48 : Int) ≤ c.toNat ∨ ((48 : Int) ≤ c.toNat ∧ ¬ (c.toNat : Int) ≤ 57 ∧ ¬ (97 : Int) ≤ c.toNat) ∨ ((48 : Int) ≤ c.toNat ∧ ¬ (c.toNat : Int) ≤ 57 ∧ (97 : Int) ≤ c.toNat ∧ ¬ (c.toNat : Int) ≤ 102) := by omega
    clear h1 h2
    rcases hcase with l1 | ⟨l1, l2, l3⟩ | ⟨l1, l2, l3, l4⟩
    · have l3 : ¬ (97 : Int) ≤ c.toNat := by omega
      go_enter Tryz.func85, Tryz.ntmps85
      go_wp2_with fail
      go_ret
      rw [HE.out]
      exact ⟨rfl, rfl⟩
    all_goals
      go_enter Tryz.func85, Tryz.ntmps85
      go_wp2_with fail
      go_ret
      rw [HE.out]
      exact ⟨rfl, rfl⟩
theorem dig_of {c : UInt8} (h : Rf.isDig c = true) : (48 : Int) ≤ c.toNat ∧ (c.toNat : Int) ≤ 57 := by
  unfold Rf.isDig at h; simp only [Bool.and_eq_true, decide_eq_true_eq] at h; omega
theorem head_45 (s : ByteArray) (h : 0 < s.size) : (s.data.toList.head? = some 45) ↔ s[0] = 45 := by
  have hl : 0 < s.data.toList.length := by rw [← Lib.size_eq]; exact h
  rw [List.head?_eq_getElem?, List.getElem?_eq_getElem hl]
  simp only [Option.some.injEq, Array.getElem_toList]
  rfl
theorem ba_eq (s t : ByteArray) : (s == t) = decide (s.data.toList = t.data.toList) := by
  rw [Bool.eq_iff_iff, decide_eq_true_eq]
  show (s.data == t.data) = true ↔ _
  rw [beq_iff_eq]
  exact ⟨fun h => by rw [h], fun h => Array.toList_inj.1 h⟩
theorem ba_eq' (s : ByteArray) (V : Int) : ((⟨(Lib.itoa V).toArray⟩ : ByteArray) == s) = decide (Lib.itoa V = s.data.toList) := ba_eq _ _
set_option maxRecDepth 100000 in
set_option maxHeartbeats 8000000 in
theorem refNum_any (s : ByteArray) (w : World) :
    Calls Tryz.prog 49 #[.string s] w fun e w' => e = .returned (.tuple #[.int .i64 (Rf.numR s.data.toList).1, .bool (Rf.numR s.data.toList).2]) ∧ w' = w := by
  have hsz : s.data.toList.length = s.size := (Lib.size_eq s).symm
  by_cases h11 : (11 : Int) < s.size
  · have HE : Hid (Rf.numR s.data.toList = (0, false)) := Lib.hid (by unfold Rf.numR; rw [if_pos (.inl (by omega))])
    clear hsz
    go_enter Tryz.func49, Tryz.ntmps49
    go_wp2_with fail
    rw [HE.out]
    exact bodyPost_ret (v := .tuple #[.int .i64 0, .bool false]) (by simp [results, Tryz.results49, go_sem]) rfl ⟨rfl, rfl⟩
  by_cases hem : s.size = 0
  · have hl0 : s.data.toList = [] := List.eq_nil_of_length_eq_zero (by omega)
    have HE : Hid (Rf.numR s.data.toList = (0, false)) := Lib.hid (by unfold Rf.numR; rw [if_pos (.inr (.inl hl0))])
    have hse : s.toList.isEmpty = true := by rw [ByteArray.toList_eq, hl0]; rfl
    clear hsz hl0 hem
    go_enter Tryz.func49, Tryz.ntmps49
    go_wp2_with fail
    rw [HE.out]
    exact bodyPost_ret (v := .tuple #[.int .i64 0, .bool false]) (by simp [results, Tryz.results49, go_sem]) rfl ⟨rfl, rfl⟩
  have h0 : 0 < s.size := by omega
  have hse : s.toList.isEmpty = false := by
    rw [ByteArray.toList_eq]
    cases h : s.data.toList with
    | nil => rw [h] at hsz; simp at hsz; omega
    | cons a b => rfl
  have hle : s.size ≤ 11 := by omega
  have hhd := head_45 s h0
  obtain ⟨z, hz⟩ : ∃ z : Nat, z = if s[0] = 45 then 1 else 0 := ⟨_, rfl⟩
  have hbody : Rf.bodyOf s.data.toList = s.data.toList.drop z := by
    unfold Rf.bodyOf
    by_cases h : s[0] = 45
    · rw [if_pos (hhd.2 h), hz, if_pos h]; rw [List.drop_one]
    · rw [if_neg (fun e => h (hhd.1 e)), hz, if_neg h]; rfl
  have hval : Rf.valOf s.data.toList = if z = 1 then -(Rf.digs (s.data.toList.drop z) 0) else Rf.digs (s.data.toList.drop z) 0 := by
    unfold Rf.valOf
    rw [hbody]
    by_cases h : s[0] = 45
    · rw [if_pos (hhd.2 h), if_pos (by rw [hz, if_pos h])]
    · rw [if_neg (fun e => h (hhd.1 e)), if_neg (by rw [hz, if_neg h]; decide)]
  have HN0 : Hid ((s.data.toList.drop z).all Rf.isDig = false → Rf.numR s.data.toList = (0, false)) := Lib.hid (fun h => by unfold Rf.numR; rw [if_pos (.inr (.inr (by rw [hbody]; exact h)))])
  have HN1 : Hid ((s.data.toList.drop z).all Rf.isDig = true → Rf.numR s.data.toList = (Rf.valOf s.data.toList, decide (Lib.itoa (Rf.valOf s.data.toList) = s.data.toList) && decide (Rf.valOf s.data.toList ≤ 9999999999) && decide (-9999999999 ≤ Rf.valOf s.data.toList))) := Lib.hid (fun h => by
    unfold Rf.numR
    rw [if_neg (by
      rw [hbody, h, hsz]
      simp only [not_or, Bool.true_eq_false, not_false_eq_true, and_true]
      refine ⟨by omega, fun e => ?_⟩
      rw [e] at hsz; simp at hsz; omega)])
  have HV := Lib.hid hval
  have hzl : z ≤ s.size := by rw [hz]; split <;> omega
  have hz2 : z = 0 ∨ z = 1 := by rw [hz]; split <;> simp
  have hb0 : ((s[0].toNat : Int) == 45) = decide (z = 1) := by
    rw [Bool.eq_iff_iff, hz]
    have : (s[0].toNat : Int) = 45 ↔ s[0] = 45 := ⟨fun e => UInt8.toNat_inj.1 (by simp; omega), fun e => by rw [e]; rfl⟩
    simp only [beq_iff_eq, decide_eq_true_eq]
    rw [this]
    split <;> simp [*]
  have HSZ := Lib.hid hsz
  clear hhd hbody hval hz hsz hem
  generalize hc0 : s[0] = c0 at hb0
  rcases hz2 with rfl | rfl
  all_goals
    simp only [decide_true, decide_false, Nat.zero_ne_one] at hb0
    go_enter Tryz.func49, Tryz.ntmps49
    go_wp2_with fail
  · go_loopw [4, 5] (fun n i wr => ∃ k : Nat, 0 ≤ k ∧ k ≤ s.size ∧ i = .int .i64 k ∧ n = .int .i64 (Rf.digs ((s.data.toList.drop 0).take (k - 0)) 0) ∧ Hid (((s.data.toList.drop 0).take (k - 0)).all Rf.isDig = true) ∧ wr = w) (fun _ i _ => s.size - (intOf i).toNat)
    case atStart => exact ⟨0, Nat.le_refl _, hzl, rfl, by simp [Rf.digs], Lib.hid (by simp), rfl⟩
    case round =>
      obtain ⟨k, hzk, hk, rfl, rfl, H, rfl⟩ := hrel
      obtain ⟨N, hN⟩ : ∃ N, Rf.digs ((s.data.toList.drop 0).take (k - 0)) 0 = N := ⟨_, rfl⟩
      have hbd := Rf.digs_bound ((s.data.toList.drop 0).take (k - 0)) 0 (by have := H.out; simpa [List.all_eq_true] using this) (Int.le_refl _)
      rw [hN] at hbd
      have hp : (10 : Int) ^ ((s.data.toList.drop 0).take (k - 0)).length ≤ 10 ^ 11 := by
        have hl : ((s.data.toList.drop 0).take (k - 0)).length ≤ 11 := by rw [List.length_take, List.length_drop, HSZ.out]; omega
        exact_mod_cast Nat.pow_le_pow_right (by decide : 0 < 10) hl
      have hN0 : 0 ≤ N := hbd.1
      have hN1 : N ≤ 100000000000 := by have := hbd.2; omega
      clear hbd hp
      by_cases hlt : k < s.size
      · have hlt2 : k - 0 < (s.data.toList.drop 0).length := by rw [List.length_drop, HSZ.out]; omega
        obtain ⟨c, hcc⟩ : ∃ c, s[k]'hlt = c := ⟨_, rfl⟩
        have hget : (s.data.toList.drop 0)[k - 0]'hlt2 = c := by
          rw [← hcc]
          rw [List.getElem_drop]
          simp only [Array.getElem_toList, show 0 + (k - 0) = k by omega]
          rfl
        have HTS : Hid ((s.data.toList.drop 0).take (k + 1 - 0) = (s.data.toList.drop 0).take (k - 0) ++ [c]) := Lib.hid (by
          rw [show k + 1 - 0 = (k - 0) + 1 by omega, List.take_succ_eq_append_getElem hlt2, hget])
        have HNO : Hid (Rf.isDig c = false → Rf.numR s.data.toList = (0, false)) := Lib.hid (fun h => HN0.out (List.all_eq_false.2 ⟨_, List.getElem_mem hlt2, by rw [hget, h]; simp⟩))
        have HND := Lib.hid hN
        clear hlt2 hget
        rw [hN]
        clear hN
        have hcl : c.toNat < 256 := c.toNat_lt
        by_cases g1 : (c.toNat : Int) < 48
        · have HE := Lib.hid (HNO.out (by unfold Rf.isDig; rw [decide_eq_false (by omega)]; rfl))
          go_wp2_with fail
          rw [HE.out]
          exact bodyPost_ret (v := .tuple #[.int .i64 0, .bool false]) (by simp [results, Tryz.results49, go_sem]) rfl ⟨rfl, rfl⟩
        by_cases g2 : (57 : Int) < c.toNat
        · have HE := Lib.hid (HNO.out (by unfold Rf.isDig; rw [decide_eq_false (show ¬ c.toNat ≤ 57 by omega), Bool.and_false]))
          go_wp2_with fail
          rw [HE.out]
          exact bodyPost_ret (v := .tuple #[.int .i64 0, .bool false]) (by simp [results, Tryz.results49, go_sem]) rfl ⟨rfl, rfl⟩
        have hdg : Rf.isDig c = true := by unfold Rf.isDig; rw [decide_eq_true (by omega), decide_eq_true (by omega)]; rfl
        have HD := Lib.hid hdg
        have w1 : IntKind.u8.wrap ((c.toNat : Int) - 48) = (c.toNat : Int) - 48 := by rw [IntKind.wrap_u8]; omega
        have w2 : IntKind.i64.wrap ((c.toNat : Int) - 48) = (c.toNat : Int) - 48 := by rw [IntKind.wrap_i64]; omega
        have w3 : IntKind.i64.wrap (10 * N) = 10 * N := by rw [IntKind.wrap_i64]; omega
        have w4 : IntKind.i64.wrap (10 * N + ((c.toNat : Int) - 48)) = 10 * N + ((c.toNat : Int) - 48) := by rw [IntKind.wrap_i64]; omega
        clear hdg
        go_wp2_with fail
        go_roundw
        case rel =>
          refine ⟨k + 1, by omega, by omega, by go_num, ?_, Lib.hid ?_, by first | rfl | trivial⟩
          · rw [HTS.out, Rf.digs_snoc, HND.out]
          · rw [HTS.out, List.all_append, H.out]; simp [HD.out]
        case measure => simp [intOf]; omega
      · have hkz : (s.data.toList.drop 0).take (k - 0) = s.data.toList.drop 0 := List.take_of_length_le (by rw [List.length_drop, HSZ.out]; omega)
        rw [hkz] at hN H
        have HE := Lib.hid (HN1.out H.out)
        obtain ⟨V, hV⟩ : ∃ V, Rf.valOf s.data.toList = V := ⟨_, rfl⟩
        have hVN : V = N := by rw [← hV, HV.out, if_neg (by decide), hN]
        rw [hV] at HE
        rw [← ba_eq' s V] at HE
        rw [hkz, hN]
        have w5 : IntKind.i64.wrap (-N) = -N := by rw [IntKind.wrap_i64]; omega
        clear hkz hV H hN
        go_wp2_with fail
        refine (number_any N (by omega) (by omega) _).mono ?_
        rintro e w2 ⟨rfl, rfl⟩
        rw [← hVN]
        generalize (⟨(Lib.itoa V).toArray⟩ : ByteArray) = S9 at HE ⊢
        clear hVN
        cases hb : (S9 == s) with
        | false =>
          rw [hb] at HE
          have hbt : ¬ S9.toList = s.toList := by rw [ba_eq] at hb; rw [ByteArray.toList_eq, ByteArray.toList_eq]; exact of_decide_eq_false hb
          go_wp2_with fail
          rw [HE.out]
          exact bodyPost_ret (v := .tuple #[.int .i64 V, .bool false]) (by simp [results, Tryz.results49, go_sem]) rfl ⟨rfl, rfl⟩
        | true =>
          rw [hb] at HE
          have hbt : S9.toList = s.toList := by rw [ba_eq] at hb; rw [ByteArray.toList_eq, ByteArray.toList_eq]; exact of_decide_eq_true hb
          by_cases g1 : V ≤ 9999999999
          · by_cases g2 : -9999999999 ≤ V
            · rw [decide_eq_true g1, decide_eq_true g2] at HE
              go_wp2_with fail
              rw [HE.out]
              exact bodyPost_ret (v := .tuple #[.int .i64 V, .bool true]) (by simp [results, Tryz.results49, go_sem]) rfl ⟨rfl, rfl⟩
            · rw [decide_eq_true g1, decide_eq_false g2] at HE
              go_wp2_with fail
              rw [HE.out]
              exact bodyPost_ret (v := .tuple #[.int .i64 V, .bool false]) (by simp [results, Tryz.results49, go_sem, g2]) rfl ⟨rfl, rfl⟩
          · rw [decide_eq_false g1] at HE
            go_wp2_with fail
            rw [HE.out]
            exact bodyPost_ret (v := .tuple #[.int .i64 V, .bool false]) (by simp [results, Tryz.results49, go_sem]) rfl ⟨by simp, rfl⟩
  · go_loopw [4, 5] (fun n i wr => ∃ k : Nat, 1 ≤ k ∧ k ≤ s.size ∧ i = .int .i64 k ∧ n = .int .i64 (Rf.digs ((s.data.toList.drop 1).take (k - 1)) 0) ∧ Hid (((s.data.toList.drop 1).take (k - 1)).all Rf.isDig = true) ∧ wr = w) (fun _ i _ => s.size - (intOf i).toNat)
    case atStart => exact ⟨1, Nat.le_refl _, hzl, rfl, by simp [Rf.digs], Lib.hid (by simp), rfl⟩
    case round =>
      obtain ⟨k, hzk, hk, rfl, rfl, H, rfl⟩ := hrel
      obtain ⟨N, hN⟩ : ∃ N, Rf.digs ((s.data.toList.drop 1).take (k - 1)) 0 = N := ⟨_, rfl⟩
      have hbd := Rf.digs_bound ((s.data.toList.drop 1).take (k - 1)) 0 (by have := H.out; simpa [List.all_eq_true] using this) (Int.le_refl _)
      rw [hN] at hbd
      have hp : (10 : Int) ^ ((s.data.toList.drop 1).take (k - 1)).length ≤ 10 ^ 11 := by
        have hl : ((s.data.toList.drop 1).take (k - 1)).length ≤ 11 := by rw [List.length_take, List.length_drop, HSZ.out]; omega
        exact_mod_cast Nat.pow_le_pow_right (by decide : 0 < 10) hl
      have hN0 : 0 ≤ N := hbd.1
      have hN1 : N ≤ 100000000000 := by have := hbd.2; omega
      clear hbd hp
      by_cases hlt : k < s.size
      · have hlt2 : k - 1 < (s.data.toList.drop 1).length := by rw [List.length_drop, HSZ.out]; omega
        obtain ⟨c, hcc⟩ : ∃ c, s[k]'hlt = c := ⟨_, rfl⟩
        have hget : (s.data.toList.drop 1)[k - 1]'hlt2 = c := by
          rw [← hcc]
          rw [List.getElem_drop]
          simp only [Array.getElem_toList, show 1 + (k - 1) = k by omega]
          rfl
        have HTS : Hid ((s.data.toList.drop 1).take (k + 1 - 1) = (s.data.toList.drop 1).take (k - 1) ++ [c]) := Lib.hid (by
          rw [show k + 1 - 1 = (k - 1) + 1 by omega, List.take_succ_eq_append_getElem hlt2, hget])
        have HNO : Hid (Rf.isDig c = false → Rf.numR s.data.toList = (0, false)) := Lib.hid (fun h => HN0.out (List.all_eq_false.2 ⟨_, List.getElem_mem hlt2, by rw [hget, h]; simp⟩))
        have HND := Lib.hid hN
        clear hlt2 hget
        rw [hN]
        clear hN
        have hcl : c.toNat < 256 := c.toNat_lt
        by_cases g1 : (c.toNat : Int) < 48
        · have HE := Lib.hid (HNO.out (by unfold Rf.isDig; rw [decide_eq_false (by omega)]; rfl))
          go_wp2_with fail
          rw [HE.out]
          exact bodyPost_ret (v := .tuple #[.int .i64 0, .bool false]) (by simp [results, Tryz.results49, go_sem]) rfl ⟨rfl, rfl⟩
        by_cases g2 : (57 : Int) < c.toNat
        · have HE := Lib.hid (HNO.out (by unfold Rf.isDig; rw [decide_eq_false (show ¬ c.toNat ≤ 57 by omega), Bool.and_false]))
          go_wp2_with fail
          rw [HE.out]
          exact bodyPost_ret (v := .tuple #[.int .i64 0, .bool false]) (by simp [results, Tryz.results49, go_sem]) rfl ⟨rfl, rfl⟩
        have hdg : Rf.isDig c = true := by unfold Rf.isDig; rw [decide_eq_true (by omega), decide_eq_true (by omega)]; rfl
        have HD := Lib.hid hdg
        have w1 : IntKind.u8.wrap ((c.toNat : Int) - 48) = (c.toNat : Int) - 48 := by rw [IntKind.wrap_u8]; omega
        have w2 : IntKind.i64.wrap ((c.toNat : Int) - 48) = (c.toNat : Int) - 48 := by rw [IntKind.wrap_i64]; omega
        have w3 : IntKind.i64.wrap (10 * N) = 10 * N := by rw [IntKind.wrap_i64]; omega
        have w4 : IntKind.i64.wrap (10 * N + ((c.toNat : Int) - 48)) = 10 * N + ((c.toNat : Int) - 48) := by rw [IntKind.wrap_i64]; omega
        clear hdg
        go_wp2_with fail
        go_roundw
        case rel =>
          refine ⟨k + 1, by omega, by omega, by go_num, ?_, Lib.hid ?_, by first | rfl | trivial⟩
          · rw [HTS.out, Rf.digs_snoc, HND.out]
          · rw [HTS.out, List.all_append, H.out]; simp [HD.out]
        case measure => simp [intOf]; omega
      · have hkz : (s.data.toList.drop 1).take (k - 1) = s.data.toList.drop 1 := List.take_of_length_le (by rw [List.length_drop, HSZ.out]; omega)
        rw [hkz] at hN H
        have HE := Lib.hid (HN1.out H.out)
        obtain ⟨V, hV⟩ : ∃ V, Rf.valOf s.data.toList = V := ⟨_, rfl⟩
        have hVN : V = (-N) := by rw [← hV, HV.out, if_pos trivial, hN]
        rw [hV] at HE
        rw [← ba_eq' s V] at HE
        rw [hkz, hN]
        have w5 : IntKind.i64.wrap (-N) = -N := by rw [IntKind.wrap_i64]; omega
        clear hkz hV H hN
        go_wp2_with fail
        refine (number_any (-N) (by omega) (by omega) _).mono ?_
        rintro e w2 ⟨rfl, rfl⟩
        rw [← hVN]
        generalize (⟨(Lib.itoa V).toArray⟩ : ByteArray) = S9 at HE ⊢
        clear hVN
        cases hb : (S9 == s) with
        | false =>
          rw [hb] at HE
          have hbt : ¬ S9.toList = s.toList := by rw [ba_eq] at hb; rw [ByteArray.toList_eq, ByteArray.toList_eq]; exact of_decide_eq_false hb
          go_wp2_with fail
          rw [HE.out]
          exact bodyPost_ret (v := .tuple #[.int .i64 V, .bool false]) (by simp [results, Tryz.results49, go_sem]) rfl ⟨rfl, rfl⟩
        | true =>
          rw [hb] at HE
          have hbt : S9.toList = s.toList := by rw [ba_eq] at hb; rw [ByteArray.toList_eq, ByteArray.toList_eq]; exact of_decide_eq_true hb
          by_cases g1 : V ≤ 9999999999
          · by_cases g2 : -9999999999 ≤ V
            · rw [decide_eq_true g1, decide_eq_true g2] at HE
              go_wp2_with fail
              rw [HE.out]
              exact bodyPost_ret (v := .tuple #[.int .i64 V, .bool true]) (by simp [results, Tryz.results49, go_sem]) rfl ⟨rfl, rfl⟩
            · rw [decide_eq_true g1, decide_eq_false g2] at HE
              go_wp2_with fail
              rw [HE.out]
              exact bodyPost_ret (v := .tuple #[.int .i64 V, .bool false]) (by simp [results, Tryz.results49, go_sem, g2]) rfl ⟨rfl, rfl⟩
          · rw [decide_eq_false g1] at HE
            go_wp2_with fail
            rw [HE.out]
            exact bodyPost_ret (v := .tuple #[.int .i64 V, .bool false]) (by simp [results, Tryz.results49, go_sem]) rfl ⟨by simp, rfl⟩
end Go.Proofs.YthpojljfmipngaaGreatDoor
