/-
  Plain facts: one round of the reference's Lex, as package lex's one pass has it.
-/
import Derived.Test.YtoppkhkdbkkldaaDoorRefC
import Derived.Test.YtoppkhkdbkkldaaDoorStands
namespace Go.Proofs.YtoppkhkdbkkldaaDoor
namespace Lx
/-- What comes of the rest, from a place on: behind the end nothing. -/
def refStep (L : Bs) (acc : List Tok) (a : Nat) : List Tok × Int × Nat := if a ≤ L.length then lexFrom L acc a else (acc, 0, 0)
theorem refStep_in {L : Bs} {acc : List Tok} {a : Nat} (h : a ≤ L.length) : refStep L acc a = lexFrom L acc a := by unfold refStep; rw [if_pos h]
theorem refStep_out {L : Bs} {acc : List Tok} {a : Nat} (h : ¬ a ≤ L.length) : refStep L acc a = (acc, 0, 0) := by unfold refStep; rw [if_neg h]
theorem refStep_next (L : Bs) (acc : List Tok) (a : Nat) : refStep L acc (a + 1) = lexStep L acc a := by
  unfold refStep lexStep
  by_cases h : a < L.length
  · rw [if_pos h, if_pos (by omega)]
  · rw [if_neg h, if_neg (by omega)]
theorem lexFrom_place {L : Bs} {acc : List Tok} {a b : Nat} (h : placeOf L a = placeOf L b) : lexFrom L acc a = lexFrom L acc b := by
  unfold lexFrom
  rw [lexGo_succ, lexGo_succ, drop_place, drop_place]
  have e1 : a + skipLen (L.drop a) = placeOf L a := rfl
  have e2 : b + skipLen (L.drop b) = placeOf L b := rfl
  rw [e1, e2, h]
theorem drop_cons {L : Bs} {a : Nat} {c : UInt8} (h : L[a]? = some c) : L.drop a = c :: L.drop (a + 1) := by
  obtain ⟨hk, rfl⟩ := List.getElem?_eq_some_iff.1 h
  exact List.drop_eq_getElem_cons hk
theorem skip_head {c : UInt8} {r : Bs} (hb : isBlank c = false) (h : Lib.hasPrefix (c :: r) [47, 47] = false) : skipLen (c :: r) = 0 := by
  unfold skipLen
  have e : runLen isBlank (c :: r) = 0 := by rw [runLen, if_neg (by rw [hb]; exact Bool.false_ne_true)]
  rw [e, List.drop_zero, h]; rfl
theorem skip_blank {c : UInt8} {r : Bs} (hb : isBlank c = true) : skipLen (c :: r) = skipLen r + 1 := by
  unfold skipLen
  have e : runLen isBlank (c :: r) = runLen isBlank r + 1 := by rw [runLen, if_pos hb]
  rw [e, List.drop_succ_cons]
  omega
theorem feed_plain {c : UInt8} {r : Bs} (h : c.toNat = 10) : isBlank c = false ∧ Lib.hasPrefix (c :: r) [47, 47] = false := by
  obtain rfl : c = 10 := UInt8.toNat_inj.1 h
  exact ⟨rfl, rfl⟩
/-- At the end or a line feed. -/
theorem place_line {L : Bs} {a : Nat} (h : a = L.length ∨ ∃ c, L[a]? = some c ∧ c.toNat = 10) : placeOf L a = a ∧ (placeOf L a = L.length ∨ (L.drop (placeOf L a)).head? = some 10) := by
  rcases h with rfl | ⟨c, hc, h10⟩
  · have e : placeOf L L.length = L.length := by unfold placeOf; rw [List.drop_length, skip_nil]; rfl
    exact ⟨e, .inl e⟩
  · obtain ⟨h1, h2⟩ := feed_plain (r := L.drop (a + 1)) h10
    have e : placeOf L a = a := by unfold placeOf; rw [drop_cons hc, skip_head h1 h2]; rfl
    refine ⟨e, .inr ?_⟩
    rw [e, drop_cons hc, List.head?_cons]
    congr 1
    exact UInt8.toNat_inj.1 h10
theorem from_blank {L : Bs} {acc : List Tok} {a : Nat} {c : UInt8} (hc : L[a]? = some c) (hb : isBlank c = true) : lexFrom L acc a = refStep L acc (a + 1) := by
  have hk := (List.getElem?_eq_some_iff.1 hc).1
  rw [refStep_in (by omega)]
  refine lexFrom_place ?_
  unfold placeOf
  rw [drop_cons hc, skip_blank hb]
  omega
theorem runLen_split (p : UInt8 → Bool) (l : Bs) : l.drop (runLen p l) = [] ∨ ∃ c r, l.drop (runLen p l) = c :: r ∧ p c = false := by
  induction l with
  | nil => exact .inl rfl
  | cons c l ih =>
    rw [runLen]
    cases h : p c with
    | true =>
      rw [if_pos rfl, List.drop_succ_cons]
      exact ih
    | false =>
      rw [if_neg Bool.false_ne_true, List.drop_zero]
      exact .inr ⟨c, l, rfl, h⟩
theorem from_comment {L : Bs} {acc : List Tok} {a : Nat} {c : UInt8} (hc : L[a]? = some c) (hb : isBlank c = false) (h : Lib.hasPrefix (L.drop a) [47, 47] = true) : lexFrom L acc a = refStep L acc (a + runLen notFeed (L.drop a)) := by
  have hk := (List.getElem?_eq_some_iff.1 hc).1
  have hle := runLen_le notFeed (L.drop a)
  rw [List.length_drop] at hle
  rw [refStep_in (by omega)]
  refine lexFrom_place ?_
  have e1 : skipLen (L.drop a) = runLen notFeed (L.drop a) := by
    unfold skipLen
    have e : runLen isBlank (L.drop a) = 0 := by rw [drop_cons hc, runLen, if_neg (by rw [hb]; exact Bool.false_ne_true)]
    rw [e, List.drop_zero, if_pos h, Nat.zero_add]
  have e2 : placeOf L a = a + runLen notFeed (L.drop a) := by unfold placeOf; rw [e1]
  rw [e2]
  have hd : L.drop (a + runLen notFeed (L.drop a)) = (L.drop a).drop (runLen notFeed (L.drop a)) := by rw [List.drop_drop]
  unfold placeOf
  rw [hd]
  rcases runLen_split notFeed (L.drop a) with e | ⟨d, r, e, hd⟩
  · rw [e, skip_nil]; rfl
  · rw [e]
    have h10 : d.toNat = 10 := by simpa [notFeed] using hd
    obtain ⟨g1, g2⟩ := feed_plain (r := r) h10
    rw [skip_head g1 g2]; rfl
theorem place_token {L : Bs} {a : Nat} {c : UInt8} (hc : L[a]? = some c) (hb : isBlank c = false) (h : Lib.hasPrefix (L.drop a) [47, 47] = false) : placeOf L a = a := by
  unfold placeOf
  rw [drop_cons hc] at h ⊢
  rw [skip_head hb h]; rfl

/-! ### which tokens close -/
theorem sign_closing (l : Bs) (a : Int) (h : signLen l ≠ 0) : refClosing 4 (l.take (signLen l)) = isClosing ⟨4, l.take (signLen l), a⟩ := by
  unfold signLen at h ⊢
  by_cases h2 : twoSigns.contains (l.take 2) = true
  · rw [if_pos h2] at h ⊢
    have : ∀ m, twoSigns.contains m = true → refClosing 4 m = isClosing ⟨4, m, a⟩ := by
      intro m hm
      simp only [twoSigns, List.contains_cons, List.contains_nil, Bool.or_false, Bool.or_eq_true, beq_iff_eq] at hm
      rcases hm with rfl | rfl | rfl | rfl | rfl | rfl | rfl <;> rfl
    exact this _ h2
  · rw [if_neg h2] at h ⊢
    cases l with
    | nil => exact absurd rfl h
    | cons c r =>
      simp only [] at h ⊢
      by_cases hc : oneSigns.contains c = true
      · rw [if_pos hc]
        have : ∀ d, oneSigns.contains d = true → refClosing 4 [d] = isClosing ⟨4, [d], a⟩ := by
          intro d hd
          simp only [oneSigns, List.contains_cons, List.contains_nil, Bool.or_false, Bool.or_eq_true, beq_iff_eq] at hd
          rcases hd with rfl | rfl | rfl | rfl | rfl | rfl | rfl | rfl | rfl | rfl | rfl | rfl | rfl | rfl | rfl | rfl | rfl | rfl <;> rfl
        exact this c hc
      · rw [if_neg hc] at h; exact absurd rfl h
theorem token_closing (l : Bs) (a : Int) : refClosing (tokenOf l).1 (l.take (tokenOf l).2.1) = isClosing ⟨(tokenOf l).1, l.take (tokenOf l).2.1, a⟩ := by
  by_cases h4 : (tokenOf l).1 = 4
  · have hn : (tokenOf l).2.1 = signLen l ∧ signLen l ≠ 0 := by
      cases l with
      | nil => cases h4
      | cons c m =>
        rw [tokenOf.eq_def] at h4 ⊢
        simp only [] at h4 ⊢
        split at h4
        · split at h4 <;> cases h4
        · rename_i a1
          split at h4
          · split at h4
            · cases h4
            · split at h4 <;> cases h4
          · rename_i a2
            split at h4
            · split at h4 <;> cases h4
            · rename_i a3
              split at h4
              · cases h4
              · rename_i a4
                split at h4
                · cases h4
                · rename_i a5
                  rw [if_neg a1, if_neg a2, if_neg a3, if_neg a4, if_neg a5]
                  exact ⟨rfl, a5⟩
    rw [h4, hn.1]
    exact sign_closing l a hn.2
  · unfold refClosing isClosing
    have : ((tokenOf l).1 == 4) = false := beq_eq_false_iff_ne.2 h4
    rw [this]; simp
/-- The last token closes here as there. -/
def Agree (acc : List Tok) : Prop := ∀ t, acc.getLast? = some t → refClosing t.kind t.text = isClosing t
theorem Agree.nil : Agree [] := fun _ h => by cases h
theorem Agree.snoc (acc : List Tok) {t : Tok} (h : refClosing t.kind t.text = isClosing t) : Agree (acc ++ [t]) := fun u hu => by
  rw [List.getLast?_append] at hu
  obtain rfl : t = u := by simpa using hu
  exact h
end Lx
end Go.Proofs.YtoppkhkdbkkldaaDoor
