/-
  THE WALKS, second part: token, target, valued, alike.
-/
import Derived.Test.YtoadahommlcjpaaGreatDoorWA
import Derived.Test.YtoadahommlcjpaaGreatDoorShelf
namespace Go.Proofs.YtoadahommlcjpaaGreatDoor
open Go.RowKit
theorem in_q (c : UInt8) (lo hi : Nat) {q : Bool} (h : inB c lo hi = q) (w : World) :
    Calls Tryz.prog 66 #[.int .u8 (c.toNat : Int), .int .u8 (lo : Int), .int .u8 (hi : Int)] w fun e w' => e = .returned (.bool q) ∧ w' = w := in_is w ((inB_int c lo hi).trans h)
def sgn (c : UInt8) : Int := Lib.indexByte Ht.signs c
theorem sgn_lt {c : UInt8} {q : Bool} (h : Ht.signs.contains c = q) : decide (sgn c < 0) = !q := by
  unfold sgn
  cases q
  · have : ¬ (0 ≤ Lib.indexByte Ht.signs c) := by
      intro hge
      obtain ⟨o, ho⟩ : ∃ o : Nat, Lib.indexByte Ht.signs c = o := ⟨_, (Int.toNat_of_nonneg hge).symm⟩
      have := (Lib.indexByte_some ho).1
      have hm : c ∈ Ht.signs := List.mem_of_getElem? this
      rw [List.contains_iff_mem.2 hm] at h
      cases h
    simp; omega
  · have hm : c ∈ Ht.signs := List.contains_iff_mem.1 h
    obtain ⟨k, hk⟩ := List.getElem?_of_mem hm
    have hge := Lib.indexByte_ge Ht.signs c
    have : Lib.indexByte Ht.signs c ≠ -1 := fun hn => Lib.indexByte_none hn k hk
    simp; omega
theorem sgn_any (c : UInt8) (s : ByteArray) (w : World) (hs : s.data.toList = Ht.signs) :
    Calls Tryz.prog 68 #[.string s, .int .u8 (c.toNat : Int)] w fun e w' => e = .returned (.int .i64 (sgn c)) ∧ w' = w := by
  have h := Tryz.strings_IndexByte s c.toNat w
  have hc : (c.toNat : Int).toNat.toUInt8 = c := by simp
  rw [hc, hs] at h
  exact h
theorem tok_split {c : UInt8} {q1 q2 q3 : Bool} (h1 : inB (Ht.small c) 97 122 = q1) (h2 : inB c 48 57 = q2) (h3 : Ht.signs.contains c = q3) : Ht.tokC c = (q1 || q2 || q3) := by
  rw [← h1, ← h2, ← h3]; rfl
set_option maxRecDepth 100000 in
set_option maxHeartbeats 4000000 in
theorem token_any (s : ByteArray) (w : World) (hs : s.size ≤ 9223372036854775807) :
    Calls Tryz.prog 39 #[.string s] w fun e w' => e = .returned (.bool (Ht.tokenB s.data.toList)) ∧ w' = w := by
  have HA : Hid (Ht.tokenB s.data.toList = (s.data.toList.all Ht.tokC && decide (0 < s.size) && decide (s.size ≤ 40))) := Lib.hid (by rw [Lib.size_eq]; rfl)
  generalize Ht.tokenB s.data.toList = R at HA ⊢
  go_enter Tryz.func39, Tryz.ntmps39
  go_wp2_with fail
  go_loop [7] (fun i => ∃ k : Nat, k ≤ s.size ∧ i = .int .i64 k ∧ Hid ((s.data.toList.take k).all Ht.tokC = true)) (fun i => s.size - (intOf i).toNat)
  case atStart => exact ⟨0, Nat.zero_le _, rfl, Lib.hid rfl⟩
  case round =>
    obtain ⟨k, hk, rfl, H⟩ := hrel
    by_cases hlt : k < s.size
    · have HN : Hid (Ht.tokC (s[k]'hlt) = true → (s.data.toList.take (k + 1)).all Ht.tokC = true) := Lib.hid (fun h => all_take hlt H.out h)
      have HF : Hid (Ht.tokC (s[k]'hlt) = false → R = false) := Lib.hid (fun h => by rw [HA.out, all_not (p := Ht.tokC) hlt h]; rfl)
      obtain ⟨c, hc⟩ : ∃ c, s[k]'hlt = c := ⟨_, rfl⟩
      rw [hc] at HN HF
      obtain ⟨q1, hq1⟩ : ∃ q, inB (Ht.small c) 97 122 = q := ⟨_, rfl⟩
      obtain ⟨q2, hq2⟩ : ∃ q, inB c 48 57 = q := ⟨_, rfl⟩
      obtain ⟨q3, hq3⟩ : ∃ q, Ht.signs.contains c = q := ⟨_, rfl⟩
      have HS := Lib.hid (fun W => small_any c W)
      have HC1 := Lib.hid (fun W => in_q (Ht.small c) 97 122 hq1 W)
      have HC2 := Lib.hid (fun W => in_q c 48 57 hq2 W)
      have HC3 := Lib.hid (fun s W hs => sgn_any c s W hs)
      have HG := Lib.hid (sgn_lt hq3)
      rw [tok_split hq1 hq2 hq3] at HN HF
      generalize sgn c = g at HC3 HG
      clear H hq1 hq2 hq3
      go_wp2_with fail
      refine (HS.out _).mono ?_
      rintro e w' ⟨rfl, rfl⟩
      go_wp2_with fail
      refine (HC1.out _).mono ?_
      rintro e w' ⟨rfl, rfl⟩
      cases q1
      · go_wp2_with fail
        refine (HC2.out _).mono ?_
        rintro e w' ⟨rfl, rfl⟩
        cases q2
        · go_wp2_with fail
          refine (HC3.out _ _ (by rfl)).mono ?_
          rintro e w' ⟨rfl, rfl⟩
          cases q3
          · have hg : g < 0 := by simpa using HG.out
            have HR := Lib.hid (HF.out rfl)
            go_wp2_with fail
            go_ret
            exact ⟨ret_bool HR.out.symm, rfl⟩
          · have hg : ¬ g < 0 := by simpa using HG.out
            have HR := Lib.hid (HN.out rfl)
            go_wp2_with fail
            go_round
            case rel => exact ⟨k + 1, by omega, by go_num, HR⟩
            case measure => simp [intOf]; omega
        · have HR := Lib.hid (HN.out rfl)
          go_wp2_with fail
          go_round
          case rel => exact ⟨k + 1, by omega, by go_num, HR⟩
          case measure => simp [intOf]; omega
      · have HR := Lib.hid (HN.out rfl)
        go_wp2_with fail
        go_round
        case rel => exact ⟨k + 1, by omega, by go_num, HR⟩
        case measure => simp [intOf]; omega
    · have HR : Hid (R = (decide (0 < s.size) && decide (s.size ≤ 40))) := Lib.hid (by rw [HA.out, all_end hlt H.out]; rfl)
      clear H
      by_cases h0 : 0 < s.size
      · by_cases h4 : s.size ≤ 40
        · go_wp2_with fail
          go_ret
          exact ⟨ret_bool (by rw [HR.out, Bool.eq_iff_iff]; first | (simp [h0, h4]; done) | (simp [h0, h4]; omega)), rfl⟩
        · go_wp2_with fail
          go_ret
          exact ⟨ret_bool (by rw [HR.out, Bool.eq_iff_iff]; first | (simp [h0, h4]; done) | (simp [h0, h4]; omega)), rfl⟩
      · go_wp2_with fail
        go_ret
        exact ⟨ret_bool (by rw [HR.out]; simp [h0]), rfl⟩
theorem allB_any (s : ByteArray) (lo hi : Nat) (w : World) (hs : s.size ≤ 9223372036854775807) {q : Bool} (h : Ht.allB s.data.toList lo hi = q) :
    Calls Tryz.prog 49 #[.string s, .int .u8 (lo : Int), .int .u8 (hi : Int)] w fun e w' => e = .returned (.bool q) ∧ w' = w := by
  have := all_any s lo hi w hs
  rwa [h] at this
theorem hasPrefix_one (l : List UInt8) (c : UInt8) : Lib.hasPrefix l [c] = decide (l.head? = some c) := by
  cases l with
  | nil => rfl
  | cons x t =>
    rw [Bool.eq_iff_iff]
    simp only [Lib.hasPrefix, List.isPrefixOf, List.head?_cons, Option.some.injEq, decide_eq_true_eq, Bool.and_true, beq_iff_eq]
    exact eq_comm
theorem pre_any (s p : ByteArray) (c : UInt8) (w : World) (hp : p.data.toList = [c]) {q : Bool} (h : decide (s.data.toList.head? = some c) = q) :
    Calls Tryz.prog 69 #[.string s, .string p] w fun e w' => e = .returned (.bool q) ∧ w' = w := by
  have h1 := Tryz.strings_HasPrefix s p w
  rw [hp, hasPrefix_one, h] at h1
  exact h1
theorem hasSuffix_one (l : List UInt8) (c : UInt8) : Lib.hasSuffix l [c] = decide (l.getLast? = some c) := by
  have : Lib.hasSuffix l [c] = Lib.hasPrefix l.reverse [c] := rfl
  rw [this, hasPrefix_one, List.head?_reverse]
theorem suf_any (s p : ByteArray) (c : UInt8) (w : World) (hs : s.size ≤ 9223372036854775807) (hp : p.data.toList = [c]) {q : Bool} (h : decide (s.data.toList.getLast? = some c) = q) :
    Calls Tryz.prog 99 #[.string s, .string p] w fun e w' => e = .returned (.bool q) ∧ w' = w := by
  have h1 := Tryz.strings_HasSuffix s p w hs
  rw [hp, hasSuffix_one, h] at h1
  exact h1
set_option maxRecDepth 100000 in
set_option maxHeartbeats 4000000 in
theorem target_any (s : ByteArray) (w : World) (hs : s.size ≤ 9223372036854775807) :
    Calls Tryz.prog 40 #[.string s] w fun e w' => e = .returned (.bool (Ht.targetB s.data.toList)) ∧ w' = w := by
  obtain ⟨q1, hq1⟩ : ∃ q, decide (s.data.toList.head? = some 47) = q := ⟨_, rfl⟩
  obtain ⟨q2, hq2⟩ : ∃ q, Ht.allB s.data.toList 33 126 = q := ⟨_, rfl⟩
  have HR : Hid (Ht.targetB s.data.toList = (decide (s.size ≤ 200) && q1 && q2)) := Lib.hid (by rw [← hq1, ← hq2, Lib.size_eq]; rfl)
  have HP := Lib.hid (fun p W hp => pre_any s p 47 W hp hq1)
  have HC := Lib.hid (fun W => allB_any s 33 126 W hs hq2)
  generalize Ht.targetB s.data.toList = R at HR ⊢
  clear hq1 hq2
  go_enter Tryz.func40, Tryz.ntmps40
  by_cases h2 : s.size ≤ 200
  · go_wp2_with fail
    refine (HP.out _ _ (by rfl)).mono ?_
    rintro e w' ⟨rfl, rfl⟩
    cases q1
    · go_wp2_with fail
      go_ret
      exact ⟨ret_bool (by rw [HR.out]; simp), rfl⟩
    · go_wp2_with fail
      refine (HC.out _).mono ?_
      rintro e w' ⟨rfl, rfl⟩
      go_wp2_with fail
      go_ret
      exact ⟨ret_bool (by rw [HR.out]; simp [h2]), rfl⟩
  · go_wp2_with fail
    go_ret
    exact ⟨ret_bool (by rw [HR.out]; simp [h2]), rfl⟩
set_option maxRecDepth 100000 in
set_option maxHeartbeats 4000000 in
theorem valued_any (s : ByteArray) (w : World) (hs : s.size ≤ 9223372036854775807) :
    Calls Tryz.prog 71 #[.string s] w fun e w' => e = .returned (.bool (Ht.valuedB s.data.toList)) ∧ w' = w := by
  obtain ⟨q1, hq1⟩ : ∃ q, Ht.allB s.data.toList 32 126 = q := ⟨_, rfl⟩
  obtain ⟨q2, hq2⟩ : ∃ q, decide (s.data.toList.head? = some 32) = q := ⟨_, rfl⟩
  obtain ⟨q3, hq3⟩ : ∃ q, decide (s.data.toList.getLast? = some 32) = q := ⟨_, rfl⟩
  have HR : Hid (Ht.valuedB s.data.toList = (decide (s.size ≤ 200) && q1 && !q2 && !q3)) := Lib.hid (by rw [← hq1, ← hq2, ← hq3, Lib.size_eq]; rfl)
  have HC := Lib.hid (fun W => allB_any s 32 126 W hs hq1)
  have HP := Lib.hid (fun p W hp => pre_any s p 32 W hp hq2)
  have HS := Lib.hid (fun p W hp => suf_any s p 32 W hs hp hq3)
  generalize Ht.valuedB s.data.toList = R at HR ⊢
  clear hq1 hq2 hq3
  go_enter Tryz.func71, Tryz.ntmps71
  by_cases h2 : s.size ≤ 200
  · go_wp2_with fail
    refine (HC.out _).mono ?_
    rintro e w' ⟨rfl, rfl⟩
    cases q1
    · go_wp2_with fail
      go_ret
      exact ⟨ret_bool (by rw [HR.out]; simp), rfl⟩
    · go_wp2_with fail
      refine (HP.out _ _ (by rfl)).mono ?_
      rintro e w' ⟨rfl, rfl⟩
      cases q2
      · go_wp2_with fail
        refine (HS.out _ _ (by rfl)).mono ?_
        rintro e w' ⟨rfl, rfl⟩
        go_wp2_with fail
        go_ret
        exact ⟨ret_bool (by rw [HR.out]; simp [h2]), rfl⟩
      · go_wp2_with fail
        go_ret
        exact ⟨ret_bool (by rw [HR.out]; simp), rfl⟩
  · go_wp2_with fail
    go_ret
    exact ⟨ret_bool (by rw [HR.out]; simp [h2]), rfl⟩
end Go.Proofs.YtoadahommlcjpaaGreatDoor
