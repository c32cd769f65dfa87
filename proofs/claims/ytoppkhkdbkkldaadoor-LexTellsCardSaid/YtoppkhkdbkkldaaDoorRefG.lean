/-
  PROVED: what Number and Word of package lex, and the reference's Number, Word and alone say; that they say the same. CONDITION: the text's length is at most 2^32.
-/
import Derived.Test.YtoppkhkdbkkldaaDoorRefF
namespace Go.Proofs.YtoppkhkdbkkldaaDoor
open Go.RowKit
namespace Lx
/-- The token that a text begins with, by its first letter. -/
theorem tokenOf_kind2 {l : Bs} (h : (tokenOf l).1 = 2) : ∃ c m, l = c :: m ∧ isLetter c = false ∧ isDigit c = true ∧ (tokenOf l).2.1 = runLen isDigit l ∧ (tokenOf l).2.2 = 0 ∧ ∃ v, wholeNum (l.take (runLen isDigit l)) = some v := by
  cases l with
  | nil => cases h
  | cons c m =>
    rw [tokenOf.eq_def] at h ⊢
    simp only [] at h ⊢
    cases hL : isLetter c with
    | true =>
      rw [hL, if_pos rfl] at h
      split at h <;> cases h
    | false =>
      rw [hL, if_neg Bool.false_ne_true] at h
      cases hD : isDigit c with
      | false =>
        rw [hD, if_neg Bool.false_ne_true] at h
        split at h
        · split at h <;> cases h
        · split at h
          · cases h
          · split at h <;> cases h
      | true =>
        rw [hD, if_pos rfl] at h
        split at h
        · cases h
        · rename_i hh
          split at h
          · cases h
          · rename_i hw
            simp only [Bool.false_eq_true, if_false, if_true]
            rw [if_neg hh, if_neg hw]
            refine ⟨c, m, rfl, hL, hD, rfl, rfl, ?_⟩
            cases hv : wholeNum ((c :: m).take (runLen isDigit (c :: m))) with
            | none => rw [hv] at hw; exact absurd rfl hw
            | some v => exact ⟨v, rfl⟩
theorem alone_number {t : Tok} (h2 : t.kind = 2) (h : isAlone t = true) : t.text ≠ [] ∧ (∀ c ∈ t.text, isDigit c = true) ∧ ∃ v, wholeNum t.text = some v := by
  unfold isAlone at h
  by_cases h0 : t.text.isEmpty = true
  · rw [if_pos h0, h2] at h; cases h
  rw [if_neg h0] at h
  simp only [Bool.and_eq_true, beq_iff_eq, decide_eq_true_eq] at h
  obtain ⟨e1, e2, e3⟩ := h
  obtain ⟨c, m, hl, -, -, hn, -, v, hv⟩ := tokenOf_kind2 (e2.trans h2)
  rw [hn] at e3
  rw [e3] at hv
  refine ⟨by intro e; rw [e] at h0; exact h0 rfl, ?_, v, hv⟩
  have := runLen_all isDigit t.text
  rw [e3] at this
  exact this
theorem digit_letter {c : UInt8} (h : isDigit c = true) : isLetter c = false := by
  have hb := digit_bounds h
  cases hL : isLetter c with
  | false => rfl
  | true =>
    exfalso
    unfold isLetter at hL
    simp at hL
    omega
theorem number_alone {t : Tok} (h2 : t.kind = 2) {v : Nat} (h : refWhole t.text = some v) : isAlone t = true ∧ wholeNum t.text = some v := by
  have h0 : t.text ≠ [] := by intro e; rw [refWhole_bad (.inl e)] at h; cases h
  have hr : runLen isDigit t.text = t.text.length := by
    by_cases hr : runLen isDigit t.text = t.text.length
    · exact hr
    · rw [refWhole_bad (.inr hr)] at h; cases h
  rw [refWhole_ok h0 hr] at h
  refine ⟨?_, h⟩
  have ht : tokenOf t.text = (2, t.text.length, 0) := by
    cases hx : t.text with
    | nil => exact absurd hx h0
    | cons c m =>
      have hd := digits_all hr c (by rw [hx]; simp)
      rw [hx] at hr h
      rw [tokenOf.eq_def]
      simp only []
      rw [if_neg (by rw [digit_letter hd]; exact Bool.false_ne_true), if_pos hd, hr, List.drop_length, List.take_length, h]
      rfl
  unfold isAlone
  rw [if_neg (by simpa using h0), ht, h2, List.take_length]
  simp
def refNumberOf (t : Tok) : Option Nat := if t.kind = 2 then refWhole t.text else none
theorem refNumber_same (t : Tok) : refNumberOf t = numberOf t := by
  unfold refNumberOf numberOf
  by_cases h2 : t.kind = 2
  · rw [if_pos h2]
    cases ha : isAlone t with
    | true =>
      obtain ⟨h0, hd, v, hv⟩ := alone_number h2 ha
      rw [refWhole_ok h0 (runLen_allp hd), if_pos (by rw [h2]; rfl)]
    | false =>
      rw [if_neg (by simp)]
      cases hw : refWhole t.text with
      | none => rfl
      | some v => rw [(number_alone h2 hw).1] at ha; cases ha
  · rw [if_neg h2, if_neg (by simp [h2])]
theorem tokenOf_quote {l : Bs} : ((tokenOf l).1 = 3 ∧ (tokenOf l).2.1 = l.length) ↔ (l ≠ [] ∧ quotedLen l = l.length) := by
  cases l with
  | nil => simp [tokenOf]
  | cons c m =>
    rw [tokenOf.eq_def]
    simp only [quotedLen, ne_eq, reduceCtorEq, not_false_eq_true, true_and]
    by_cases h34 : c.toNat = 34
    · have hL : isLetter c = false := by unfold isLetter; simp [h34]
      have hD : isDigit c = false := by unfold isDigit; simp [h34]
      rw [hL, hD]
      simp only [Bool.false_eq_true, if_false, h34, if_true]
      by_cases h : textLen (c :: m) = 0
      · rw [if_pos h]; simp [h]
      · rw [if_neg h]; simp
    · rw [if_neg h34]
      constructor
      · rintro ⟨h, -⟩
        exfalso
        split at h
        · split at h <;> cases h
        · split at h
          · split at h
            · cases h
            · split at h <;> cases h
          · split at h
            · cases h
            · split at h <;> cases h
      · intro h; rw [if_neg h34] at h; simp at h
theorem tokenOf_ok3 {l : Bs} (h : (tokenOf l).1 = 3) : (tokenOf l).2.2 = 0 := by
  cases l with
  | nil => cases h
  | cons c m =>
    rw [tokenOf.eq_def] at h ⊢
    simp only [] at h ⊢
    split at h
    · split at h <;> cases h
    · split at h
      · split at h
        · cases h
        · split at h <;> cases h
      · split at h
        · split at h
          · cases h
          · rename_i a b c d; rw [if_neg a, if_neg b, if_pos c, if_neg d]
        · split at h
          · cases h
          · split at h <;> cases h
theorem alone_quote {t : Tok} (h3 : t.kind = 3) : isAlone t = true ↔ (t.text ≠ [] ∧ quotedLen t.text = t.text.length) := by
  unfold isAlone
  by_cases h0 : t.text = []
  · rw [if_pos (by rw [h0]; rfl), h3]; simp [h0]
  rw [if_neg (by simpa using h0), ← tokenOf_quote]
  simp only [Bool.and_eq_true, beq_iff_eq, decide_eq_true_eq, h3]
  constructor
  · rintro ⟨e1, e2, e3⟩
    refine ⟨e2, ?_⟩
    have hp := (tokenOf_pos e1).2
    have := congrArg List.length e3
    rw [List.length_take] at this; omega
  · rintro ⟨e1, e2⟩
    exact ⟨tokenOf_ok3 e1, e1, by rw [e2, List.take_length]⟩
theorem refValue_same (t : Tok) : refValueOf t = valueOf t := by
  unfold refValueOf valueOf
  by_cases h3 : t.kind = 3
  · cases ha : isAlone t with
    | true =>
      obtain ⟨a, b⟩ := (alone_quote h3).1 ha
      rw [if_pos ⟨h3, a, b⟩, if_pos (by rw [h3]; rfl)]
    | false =>
      rw [if_neg, if_neg (by simp)]
      rintro ⟨-, a, b⟩
      rw [(alone_quote h3).2 ⟨a, b⟩] at ha; cases ha
  · rw [if_neg (fun h => h3 h.1), if_neg (by simp [h3])]
def refIsWord (l : Bs) : Bool := !l.isEmpty && (decide (wordLen l = l.length) && decide (l.length ≤ 24))
theorem refWord_same (l : Bs) (a : Int) : isAlone ⟨1, l, a⟩ = refIsWord l := by
  unfold isAlone refIsWord
  cases l with
  | nil => rfl
  | cons c m =>
    rw [if_neg (by simp)]
    simp only [List.isEmpty_cons, Bool.not_false, Bool.true_and]
    rw [Bool.eq_iff_iff]
    simp only [Bool.and_eq_true, beq_iff_eq, decide_eq_true_eq]
    cases hL : isLetter c with
    | true =>
      have hT : tokenOf (c :: m) = if 24 < runLen isWord (c :: m) then (0, 0, 3) else (1, runLen isWord (c :: m), 0) := by
        rw [tokenOf.eq_def]; simp only []; rw [if_pos hL]
      have hW : wordLen (c :: m) = runLen isWord (c :: m) := by simp only [wordLen]; rw [if_pos hL]
      rw [hW, hT]
      have hle := runLen_le isWord (c :: m)
      by_cases h24 : 24 < runLen isWord (c :: m)
      · rw [if_pos h24]; constructor
        · rintro ⟨h, -⟩; cases h
        · rintro ⟨h1, h2⟩; omega
      · rw [if_neg h24]
        constructor
        · rintro ⟨-, -, h⟩
          have h' : (c :: m).take (runLen isWord (c :: m)) = c :: m := h
          have := congrArg List.length h'
          rw [List.length_take] at this
          exact ⟨by omega, by omega⟩
        · rintro ⟨h1, -⟩
          exact ⟨rfl, rfl, by rw [h1, List.take_length]⟩
    | false =>
      have hW : wordLen (c :: m) = 0 := by simp only [wordLen]; rw [if_neg (by rw [hL]; exact Bool.false_ne_true)]
      rw [hW]
      constructor
      · rintro ⟨-, h, -⟩
        exfalso
        rw [tokenOf.eq_def] at h
        simp only [] at h
        rw [if_neg (by rw [hL]; exact Bool.false_ne_true)] at h
        split at h
        · split at h
          · cases h
          · split at h <;> cases h
        · split at h
          · split at h <;> cases h
          · split at h
            · cases h
            · split at h <;> cases h
      · rintro ⟨h, -⟩; simp at h
end Lx
end Go.Proofs.YtoppkhkdbkkldaaDoor
