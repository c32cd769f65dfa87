/-
  Plain facts on digits: what strconv.ParseInt's plain function says of a list of digits, and on membership in the lists of signs.
-/
import Derived.Test.YtoppkhkdbkkldaaDoorPure
import Derived.Lib.ParseIntB
namespace Go.Proofs.YtoppkhkdbkkldaaDoor
namespace Lx

def valFrom (n : Nat) (l : Bs) : Nat := l.foldl (fun n c => 10 * n + (c.toNat - 48)) n
theorem numVal_eq (l : Bs) : numVal l = valFrom 0 l := rfl
theorem valFrom_cons (n : Nat) (c : UInt8) (l : Bs) : valFrom n (c :: l) = valFrom (10 * n + (c.toNat - 48)) l := by unfold valFrom; rw [List.foldl_cons]
theorem valFrom_le (l : Bs) : ∀ n, n ≤ valFrom n l := by
  induction l with
  | nil => intro n; exact Nat.le_refl _
  | cons c l ih => intro n; rw [valFrom_cons]; have := ih (10 * n + (c.toNat - 48)); omega

def maxU : Nat := 18446744073709551615
def maxI : Nat := 9223372036854775807

theorem digit_bounds {c : UInt8} (h : isDigit c = true) : 48 ≤ c.toNat ∧ c.toNat ≤ 57 := by
  simpa [isDigit] using h

theorem parseUintM_fits (l : Bs) : ∀ n, (∀ c ∈ l, isDigit c = true) → valFrom n l ≤ maxI → Lib.parseUintM maxU n l = .ok (valFrom n l) := by
  induction l with
  | nil => intro n _ _; rfl
  | cons c l ih =>
    intro n hd hv
    have hc := digit_bounds (hd c (List.mem_cons_self ..))
    rw [valFrom_cons] at hv
    have hle := valFrom_le l (10 * n + (c.toNat - 48))
    have hcomm : n * 10 + (c.toNat - 48) = 10 * n + (c.toNat - 48) := by omega
    rw [Lib.parseUintM, if_pos hc, if_neg (by unfold maxI at hv; omega), if_neg (by unfold maxI at hv; unfold maxU; omega), hcomm, valFrom_cons]
    exact ih _ (fun d hd' => hd d (List.mem_cons_of_mem _ hd')) hv

theorem parseUintM_ends (l : Bs) : ∀ n, (∀ c ∈ l, isDigit c = true) → Lib.parseUintM maxU n l = .range ∨ Lib.parseUintM maxU n l = .ok (valFrom n l) := by
  induction l with
  | nil => intro n _; exact .inr rfl
  | cons c l ih =>
    intro n hd
    have hc := digit_bounds (hd c (List.mem_cons_self ..))
    have hcomm : n * 10 + (c.toNat - 48) = 10 * n + (c.toNat - 48) := by omega
    rw [Lib.parseUintM, if_pos hc]
    split
    · exact .inl rfl
    split
    · exact .inl rfl
    rw [hcomm, valFrom_cons]
    exact ih _ (fun d hd' => hd d (List.mem_cons_of_mem _ hd'))

theorem pow64 : (2 ^ 64 - 1 : Nat) = maxU := by decide
theorem pow63 : (2 ^ (64 - 1) : Nat) = maxI + 1 := by decide

theorem parseIntB_of (l : Bs) (h0 : l ≠ []) (hd : ∀ c ∈ l, isDigit c = true) : Lib.parseIntB 64 l = if numVal l ≤ maxI then .ok (numVal l : Int) else .range := by
  cases l with
  | nil => exact absurd rfl h0
  | cons c r =>
    have hc := digit_bounds (hd c (List.mem_cons_self ..))
    unfold Lib.parseIntB
    simp only []
    rw [if_neg (show ¬ (c.toNat = 43 ∨ c.toNat = 45) by omega)]
    unfold Lib.parseUintB
    rw [if_neg h0, pow64, pow63]
    by_cases hv : numVal (c :: r) ≤ maxI
    · rw [if_pos hv, parseUintM_fits _ 0 hd hv]
      simp only []
      rw [numVal_eq] at hv ⊢
      rw [if_neg (by omega), if_neg (by omega), if_neg (by omega)]
    · rw [if_neg hv]
      rcases parseUintM_ends (c :: r) 0 hd with e | e
      · rw [e]
      · rw [e]
        simp only []
        rw [numVal_eq] at hv
        rw [if_pos (by omega)]

theorem wholeNum_none {l : Bs} (h : 1 < l.length ∧ l.head? = some 48) : wholeNum l = none := by rw [wholeNum, if_pos h]
theorem wholeNum_big {l : Bs} (h : ¬ numVal l ≤ maxI) : wholeNum l = none := by
  rw [wholeNum]
  split
  · rfl
  · rw [if_neg (by unfold maxI at h; exact h)]
theorem wholeNum_some {l : Bs} (h1 : ¬ (1 < l.length ∧ l.head? = some 48)) (h : numVal l ≤ maxI) : wholeNum l = some (numVal l) := by
  rw [wholeNum, if_neg h1, if_pos (by unfold maxI at h; exact h)]

theorem runLen_all (p : UInt8 → Bool) (l : Bs) : ∀ c ∈ l.take (runLen p l), p c = true := by
  induction l with
  | nil => intro c hc; simp [runLen] at hc
  | cons a l ih =>
    intro c hc
    unfold runLen at hc
    split at hc
    · rename_i h
      rw [List.take_succ_cons, List.mem_cons] at hc
      rcases hc with rfl | hc
      · exact h
      · exact ih c hc
    · simp at hc
theorem runLen_pos {p : UInt8 → Bool} {c : UInt8} {l : Bs} (h : p c = true) : 0 < runLen p (c :: l) := by rw [runLen, if_pos h]; omega

theorem quoteTail_le : ∀ (k : Nat) (l : Bs), l.length ≤ k → ∀ n, quoteTail l = some n → n ≤ l.length ∧ 1 ≤ n := by
  intro k
  induction k with
  | zero =>
    intro l hl n h
    obtain rfl : l = [] := List.eq_nil_of_length_eq_zero (by omega)
    simp [quoteTail] at h
  | succ k ih =>
    intro l hl n h
    cases l with
    | nil => simp [quoteTail] at h
    | cons c r =>
      rw [quoteTail_cons] at h
      rw [List.length_cons] at hl ⊢
      split at h
      · obtain rfl : 1 = n := Option.some.inj h
        omega
      split at h
      · cases r with
        | nil => cases h
        | cons d r' =>
          simp only [] at h
          rw [List.length_cons] at hl ⊢
          split at h
          · obtain ⟨m, hm, rfl⟩ := Option.map_eq_some_iff.1 h
            have := ih r' (by omega) m hm
            omega
          · cases h
      split at h
      · cases h
      · obtain ⟨m, hm, rfl⟩ := Option.map_eq_some_iff.1 h
        have := ih r (by omega) m hm
        omega
theorem textLen_le (l : Bs) : textLen l ≤ l.length := by
  unfold textLen
  split
  · rename_i n h
    have := quoteTail_le _ _ (Nat.le_refl _) n h
    have hl : l.tail.length = l.length - 1 := List.length_tail
    omega
  · omega
theorem signLen_le (l : Bs) : signLen l ≤ l.length := by
  rw [signLen.eq_def]
  split
  · rename_i h
    match l, h with
    | [], h => simp [twoSigns] at h
    | [a], h => simp [twoSigns] at h
    | a :: b :: r, _ => simp
  · cases l with
    | nil => simp
    | cons c r => simp only []; split <;> simp

/-- indexByte at a list of bytes: 0 or more just where the byte is in it. -/
theorem indexByte_ge (l : Bs) (c : UInt8) : -1 ≤ Lib.indexByte l c := by
  induction l with
  | nil => exact Int.le_refl _
  | cons b l ih => rw [Lib.indexByte]; split <;> (try split) <;> omega
theorem indexByte_nonneg (l : Bs) (c : UInt8) : (0 ≤ Lib.indexByte l c) ↔ l.contains c = true := by
  induction l with
  | nil => simp [Lib.indexByte]
  | cons b l ih =>
    have hge := indexByte_ge l c
    rw [Lib.indexByte]
    by_cases h : b = c
    · subst h; simp
    · have hb : (b == c) = false := by simpa using h
      have hc : (c == b) = false := by simpa using fun e => h e.symm
      rw [hb, List.contains_cons, hc, Bool.false_or, ← ih]
      simp only [Bool.false_eq_true, if_false]
      split
      · rename_i he
        have : Lib.indexByte l c = -1 := by simpa using he
        omega
      · rename_i he
        have : Lib.indexByte l c ≠ -1 := by simpa using he
        omega
end Lx
end Go.Proofs.YtoppkhkdbkkldaaDoor
