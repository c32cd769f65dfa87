/-
  PROVED: what the reference's whole computes. CONDITION: the text's length is at most 2^32.
-/
import Derived.Test.YtoppkhkdbkkldaaDoorRefA
import Derived.Test.YtoppkhkdbkkldaaDoorBack
import Derived.Test.YtoppkhkdbkkldaaDoorWalkD
namespace Go.Proofs.YtoppkhkdbkkldaaDoor
open Go.RowKit
namespace Lx
theorem numVal_snoc (l : Bs) (c : UInt8) : numVal (l ++ [c]) = 10 * numVal l + (c.toNat - 48) := by unfold numVal; rw [List.foldl_append]; rfl
theorem numVal_lt : ∀ (k : Nat) (l : Bs), l.length = k → (∀ c ∈ l, isDigit c = true) → numVal l < 10 ^ k := by
  intro k
  induction k with
  | zero =>
    intro l hl _
    obtain rfl : l = [] := List.length_eq_zero_iff.1 hl
    decide
  | succ k ih =>
    intro l hl h
    have hne : l ≠ [] := by intro e; rw [e] at hl; cases hl
    obtain ⟨m, c, rfl⟩ : ∃ m c, l = m ++ [c] := ⟨l.dropLast, l.getLast hne, (List.dropLast_concat_getLast hne).symm⟩
    have hm := ih m (by simpa using hl) (fun d hd => h d (List.mem_append_left _ hd))
    have hc := digit_bounds (h c (by simp))
    rw [numVal_snoc, Nat.pow_succ]
    omega
theorem numVal_ge : ∀ (l : Bs) (c : UInt8), 49 ≤ c.toNat → (∀ d ∈ l, isDigit d = true) → 10 ^ l.length ≤ numVal (c :: l) := by
  intro l c hc
  have key : ∀ (k : Nat) (l : Bs), l.length = k → 10 ^ l.length ≤ numVal (c :: l) := by
    intro k
    induction k with
    | zero =>
      intro l hl
      obtain rfl : l = [] := List.length_eq_zero_iff.1 hl
      have : numVal [c] = c.toNat - 48 := by unfold numVal; simp
      rw [this]
      simp; omega
    | succ k ih =>
      intro l hl
      have hne : l ≠ [] := by intro e; rw [e] at hl; cases hl
      obtain ⟨m, d, rfl⟩ : ∃ m d, l = m ++ [d] := ⟨l.dropLast, l.getLast hne, (List.dropLast_concat_getLast hne).symm⟩
      have hm := ih m (by simpa using hl)
      rw [← List.cons_append, numVal_snoc, List.length_append, List.length_singleton, Nat.pow_succ]
      omega
  intro _
  exact key _ l rfl
theorem wholeNum_long {l : Bs} (hd : ∀ c ∈ l, isDigit c = true) (hl : 19 < l.length) : wholeNum l = none := by
  by_cases h : 1 < l.length ∧ l.head? = some 48
  · exact wholeNum_none h
  · refine wholeNum_big ?_
    cases l with
    | nil => simp at hl
    | cons c l =>
      have hc := digit_bounds (hd c (by simp))
      have hc0 : c.toNat ≠ 48 := by
        intro e
        apply h
        refine ⟨by omega, ?_⟩
        rw [List.head?_cons]
        congr 1
        exact UInt8.toNat_inj.1 e
      have := numVal_ge l c (by omega) (fun d hd' => hd d (List.mem_cons_of_mem _ hd'))
      have h19 : 10 ^ 19 ≤ 10 ^ l.length := Nat.pow_le_pow_right (by decide) (by simp at hl; omega)
      have : (10 : Nat) ^ 19 ≤ numVal (c :: l) := Nat.le_trans h19 this
      have e : (10 : Nat) ^ 19 = 10000000000000000000 := by decide
      rw [e] at this
      show ¬ numVal (c :: l) ≤ 9223372036854775807
      omega
def refWhole (l : Bs) : Option Nat := if l = [] ∨ runLen isDigit l ≠ l.length then none else wholeNum l
theorem refWhole_bad {l : Bs} (h : l = [] ∨ runLen isDigit l ≠ l.length) : refWhole l = none := by unfold refWhole; rw [if_pos h]
theorem refWhole_ok {l : Bs} (h0 : l ≠ []) (h : runLen isDigit l = l.length) : refWhole l = wholeNum l := by unfold refWhole; rw [if_neg (by rw [not_or]; exact ⟨h0, by simpa using h⟩)]
theorem digits_all {l : Bs} (h : runLen isDigit l = l.length) : ∀ c ∈ l, isDigit c = true := by
  have := runLen_all isDigit l
  rw [h, List.take_length] at this
  exact this
end Lx
def refWholeRes (L : List UInt8) : Value :=
  match Lx.refWhole L with
  | some v => .tuple #[.int .i64 v, .bool true]
  | none => .tuple #[.int .i64 0, .bool false]
theorem refWholeRes_some {L : List UInt8} {v : Nat} (h : Lx.refWhole L = some v) : refWholeRes L = .tuple #[.int .i64 v, .bool true] := by unfold refWholeRes; rw [h]
theorem refWholeRes_none {L : List UInt8} (h : Lx.refWhole L = none) : refWholeRes L = .tuple #[.int .i64 0, .bool false] := by unfold refWholeRes; rw [h]
set_option maxHeartbeats 4000000 in
set_option maxRecDepth 100000 in
theorem refWhole_any (s : ByteArray) (hs : s.size ≤ 4294967296) (w : World) :
    Calls Tryd.prog 48 #[.string s] w fun e w' => e = .returned (refWholeRes s.data.toList) ∧ w = w' := by
  have hL : s.data.toList.length = s.size := (Lib.size_eq s).symm
  by_cases h0 : s.data.toList = []
  · have hne : (s.toList == []) = true := by rw [Lib.toList_data, h0]; rfl
    have HW := Lib.hid (Lx.refWhole_bad (.inl h0))
    clear h0
    go_enter Tryd.func48, Tryd.ntmps48
    go_wp2_with fail
    go_ret2
    exact ⟨retv (refWholeRes_none HW.out).symm, rfl⟩
  have hne : (s.toList == []) = false := by rw [Lib.toList_data]; simpa using h0
  have hpos : 0 < s.size := by rw [← hL]; exact List.length_pos_iff.2 h0
  by_cases hr : Lx.runLen Lx.isDigit s.data.toList = s.data.toList.length
  · have hR : Hid ((Lx.runLen Lx.isDigit s.data.toList : Int) = (s.size : Int)) := Lib.hid (by rw [hr, hL])
    have hb : ((s.size : Int) != (s.size : Int)) = false := by simp
    have hd := Lx.digits_all hr
    have HO := Lib.hid (Lx.refWhole_ok h0 hr)
    by_cases h19 : 19 < s.size
    · have HW := Lib.hid (show Lx.refWhole s.data.toList = none by rw [HO.out]; exact Lx.wholeNum_long hd (by omega))
      clear hd hr h0
      go_enter Tryd.func48, Tryd.ntmps48
      go_wp2_with (go_at_call 51; refine (refDigits_any _ hs _).mono ?_; rintro e w' ⟨rfl, rfl⟩; rw [hR.out])
      go_ret2
      exact ⟨retv (refWholeRes_none HW.out).symm, rfl⟩
    have h19' : ¬ (19 : Int) < s.size := by omega
    have hL0 : s.data.toList = s[0] :: s.data.toList.drop 1 := by
      have := drop_byte s 0 hpos
      rw [List.drop_zero] at this; exact this
    by_cases hz : 1 < s.size ∧ s[0].toNat = 48
    · have HW := Lib.hid (show Lx.refWhole s.data.toList = none by
        rw [HO.out]
        refine Lx.wholeNum_none ⟨by omega, ?_⟩
        rw [hL0, List.head?_cons]
        congr 1
        exact UInt8.toNat_inj.1 hz.2)
      have b48 : ((s[0].toNat : Int) == 48) = true := by rw [hz.2]; rfl
      have h1 : (1 : Int) < s.size := by omega
      clear hz hL0 hd hr h0 h19 HO
      go_enter Tryd.func48, Tryd.ntmps48
      go_wp2_with (go_at_call 51; refine (refDigits_any _ hs _).mono ?_; rintro e w' ⟨rfl, rfl⟩; rw [hR.out])
      go_ret2
      exact ⟨retv (refWholeRes_none HW.out).symm, rfl⟩
    have hb0 : s.size ≤ 1 ∨ ((s[0].toNat : Int) == 48) = false := by
      by_cases h : s.size ≤ 1
      · exact .inl h
      · refine .inr ?_
        rw [beq_eq_false_iff_ne]
        intro e
        exact hz ⟨by omega, by omega⟩
    have HN : Hid (Lx.refWhole s.data.toList = if Lx.numVal s.data.toList ≤ 9223372036854775807 then some (Lx.numVal s.data.toList) else none) := by
      refine Lib.hid ?_
      rw [HO.out, Lx.wholeNum, if_neg]
      intro h
      rw [hL0, List.head?_cons] at h
      refine hz ⟨by have := h.1; rw [← hL0, hL] at this; exact this, ?_⟩
      have := Option.some.inj h.2
      rw [this]; rfl
    have HD := Lib.hid hd
    have step : ∀ (k : Nat) (hk : k < s.size), 48 ≤ (s[k]'hk).toNat ∧ (s[k]'hk).toNat ≤ 57 ∧ Lx.numVal (s.data.toList.take (k + 1)) = 10 * Lx.numVal (s.data.toList.take k) + ((s[k]'hk).toNat - 48) ∧ Lx.numVal (s.data.toList.take k) < 10 ^ 18 := by
      intro k hk
      have hk' : k < s.data.toList.length := by omega
      have hg : s.data.toList[k] = s[k]'hk := rfl
      have hdk := Lx.digit_bounds (HD.out _ (List.getElem_mem hk'))
      rw [hg] at hdk
      refine ⟨hdk.1, hdk.2, ?_, ?_⟩
      · rw [List.take_succ_eq_append_getElem hk', Lx.numVal_snoc, hg]
      · have h1 := Lx.numVal_lt k (s.data.toList.take k) (by rw [List.length_take]; omega) (fun c hc => HD.out c (List.mem_of_mem_take hc))
        exact Nat.lt_of_lt_of_le h1 (Nat.pow_le_pow_right (by decide) (by omega))
    have e18 : (10 : Nat) ^ 18 = 1000000000000000000 := by decide
    rw [e18] at step
    have STEP := Lib.hid step
    have hr19 : s.size ≤ 19 := by omega
    clear step hz hL0 hd hr h0 HO e18 h19
    go_enter Tryd.func48, Tryd.ntmps48
    have hcase : ¬ (1 : Int) < s.size ∨ ((1 : Int) < s.size ∧ ((s[0].toNat : Int) == 48) = false) := by
      by_cases h1 : (1 : Int) < s.size
      · exact .inr ⟨h1, hb0.resolve_left (by omega)⟩
      · exact .inl h1
    clear hb0
    rcases hcase with h1 | ⟨h1, hb0⟩
    all_goals go_wp2_with (go_at_call 51; refine (refDigits_any _ hs _).mono ?_; rintro e w' ⟨rfl, rfl⟩; rw [hR.out])
    all_goals go_loop [4, 5, 32] (fun n x i => ∃ k : Nat, k ≤ s.size ∧ i = .int .i64 k ∧ n = .int .u64 (Lx.numVal (s.data.toList.take k))) (fun n x i => s.size - (intOf i).toNat)
    case atStart => exact ⟨0, by omega, rfl, rfl⟩
    case atStart => exact ⟨0, by omega, rfl, rfl⟩
    all_goals
      obtain ⟨k, hk, rfl, rfl⟩ := hrel
      by_cases hlt : k < s.size
      · obtain ⟨d1, d2, d3, d4⟩ := STEP.out k hlt
        have D3 := Lib.hid d3
        clear d3
        generalize hv : Lx.numVal (s.data.toList.take k) = v at d4 D3
        go_wp2_with fail
        go_round
        case rel => exact ⟨k + 1, by omega, by go_num, by rw [D3.out]; congr 1; omega⟩
        case measure => simp [intOf]; omega
      · obtain rfl : k = s.size := by omega
        have ht : s.data.toList.take s.size = s.data.toList := List.take_of_length_le (by omega)
        rw [ht]
        have hbig : Lx.numVal s.data.toList < 10000000000000000000 := by
          have := Nat.lt_of_lt_of_le (Lx.numVal_lt s.size s.data.toList hL HD.out) (Nat.pow_le_pow_right (by decide) hr19)
          rw [show (10 : Nat) ^ 19 = 10000000000000000000 by decide] at this
          exact this
        clear ht
        generalize Lx.numVal s.data.toList = v at HN hbig ⊢
        by_cases hm : v ≤ 9223372036854775807
        · have HS := Lib.hid (HN.out.trans (if_pos hm))
          have hm' : ¬ (9223372036854775807 : Int) < v := by omega
          clear HN
          go_wp2_with fail
          go_ret2
          exact ⟨retv (refWholeRes_some HS.out).symm, rfl⟩
        · have HS := Lib.hid (HN.out.trans (if_neg hm))
          have hm' : (9223372036854775807 : Int) < v := by omega
          clear HN
          go_wp2_with fail
          go_ret2
          exact ⟨retv (refWholeRes_none HS.out).symm, rfl⟩
  · have HW := Lib.hid (Lx.refWhole_bad (.inr hr))
    have hb : ((Lx.runLen Lx.isDigit s.data.toList : Int) != (s.size : Int)) = true := by rw [bne_iff_ne, ← hL]; omega
    clear hr h0
    go_enter Tryd.func48, Tryd.ntmps48
    go_wp2_with (go_at_call 51; refine (refDigits_any _ hs _).mono ?_; rintro e w' ⟨rfl, rfl⟩)
    go_ret2
    exact ⟨retv (refWholeRes_none HW.out).symm, rfl⟩

end Go.Proofs.YtoppkhkdbkkldaaDoor
