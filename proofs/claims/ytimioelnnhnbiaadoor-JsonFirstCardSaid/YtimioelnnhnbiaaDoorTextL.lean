/-
  Texts of values, part by part; their lengths; numbers in range. No program in sight.
-/
import Derived.Test.YtimioelnnhnbiaaDoorMeas
namespace Go.Proofs.YtimioelnnhnbiaaDoor
namespace Js
mutual
/-- Is each number one of 64 bits? -/
def inR : J → Bool
  | .mk k _ n _ l m => decide (-9223372036854775808 ≤ n) && decide (n ≤ 9223372036854775807) && decide (-9223372036854775808 ≤ k) && decide (k ≤ 9223372036854775807) && inRL l && inRM m
def inRL : List J → Bool
  | [] => true
  | x :: t => inR x && inRL t
def inRM : List (Bs × J) → Bool
  | [] => true
  | (_, x) :: t => inR x && inRM t
end
theorem inRL_at : ∀ {l : List J} {k : Nat} {y : J}, inRL l = true → l[k]? = some y → inR y = true
  | [], k, y, _, h => by simp at h
  | x :: t, 0, y, hr, h => by
    simp at h; subst h
    have hr : (inR x && inRL t) = true := hr
    rw [Bool.and_eq_true] at hr; exact hr.1
  | x :: t, k + 1, y, hr, h => by
    have hr : (inR x && inRL t) = true := hr
    rw [Bool.and_eq_true] at hr; exact inRL_at hr.2 (by simpa using h)
theorem inRM_at : ∀ {l : List (Bs × J)} {k : Nat} {n : Bs} {y : J}, inRM l = true → l[k]? = some (n, y) → inR y = true
  | [], k, n, y, _, h => by simp at h
  | (n0, x) :: t, 0, n, y, hr, h => by
    simp at h; obtain ⟨rfl, rfl⟩ := h
    have hr : (inR x && inRM t) = true := hr
    rw [Bool.and_eq_true] at hr; exact hr.1
  | (n0, x) :: t, k + 1, n, y, hr, h => by
    have hr : (inR x && inRM t) = true := hr
    rw [Bool.and_eq_true] at hr; exact inRM_at hr.2 (by simpa using h)
theorem goodL_at : ∀ {l : List J} {k : Nat} {y : J}, goodL l = true → l[k]? = some y → good y = true
  | [], k, y, _, h => by simp at h
  | x :: t, 0, y, hr, h => by
    simp at h; subst h
    have hr : (good x && goodL t) = true := hr
    rw [Bool.and_eq_true] at hr; exact hr.1
  | x :: t, k + 1, y, hr, h => by
    have hr : (good x && goodL t) = true := hr
    rw [Bool.and_eq_true] at hr; exact goodL_at hr.2 (by simpa using h)
theorem goodM_at : ∀ {l : List (Bs × J)} {k : Nat} {n : Bs} {y : J}, goodM l = true → l[k]? = some (n, y) → good y = true
  | [], k, n, y, _, h => by simp at h
  | (n0, x) :: t, 0, n, y, hr, h => by
    simp at h; obtain ⟨rfl, rfl⟩ := h
    have hr : (good x && goodM t) = true := hr
    rw [Bool.and_eq_true] at hr; exact hr.1
  | (n0, x) :: t, k + 1, n, y, hr, h => by
    have hr : (good x && goodM t) = true := hr
    rw [Bool.and_eq_true] at hr; exact goodM_at hr.2 (by simpa using h)
theorem textL_app : ∀ (a b : List J) (f : Bool), textL (a ++ b) f = textL a f ++ textL b (f && a.isEmpty)
  | [], b, f => by simp [textL]
  | x :: t, b, f => by
    show (if f then [] else [44]) ++ (textOf x ++ textL (t ++ b) false) = ((if f then [] else [44]) ++ (textOf x ++ textL t false)) ++ textL b (f && false)
    rw [textL_app t b false]; simp
theorem textM_app : ∀ (a b : List (Bs × J)) (f : Bool), textM (a ++ b) f = textM a f ++ textM b (f && a.isEmpty)
  | [], b, f => by simp [textM]
  | (n, x) :: t, b, f => by
    show (if f then [] else [44]) ++ (quote n ++ (58 :: (textOf x ++ textM (t ++ b) false))) = ((if f then [] else [44]) ++ (quote n ++ (58 :: (textOf x ++ textM t false)))) ++ textM b (f && false)
    rw [textM_app t b false]; simp
theorem textL_snoc {l : List J} {k : Nat} {y : J} (h : l[k]? = some y) : textL (l.take (k + 1)) true = textL (l.take k) true ++ ((if k = 0 then [] else [44]) ++ textOf y) := by
  have hk := (List.getElem?_eq_some_iff.1 h).1
  rw [List.take_add_one, h, Option.toList_some, textL_app]
  congr 1
  show (if (true && (l.take k).isEmpty) = true then [] else [44]) ++ (textOf y ++ []) = _
  rw [List.append_nil]
  by_cases h0 : k = 0
  · subst h0; simp
  · have : (l.take k).isEmpty = false := by rw [List.isEmpty_eq_false_iff]; intro e; rw [List.take_eq_nil_iff] at e; rcases e with e | e; exact h0 e; subst e; simp at hk
    rw [this, if_neg h0]; rfl
theorem textM_snoc {l : List (Bs × J)} {k : Nat} {n : Bs} {y : J} (h : l[k]? = some (n, y)) : textM (l.take (k + 1)) true = textM (l.take k) true ++ ((if k = 0 then [] else [44]) ++ (quote n ++ (58 :: textOf y))) := by
  have hk := (List.getElem?_eq_some_iff.1 h).1
  rw [List.take_add_one, h, Option.toList_some, textM_app]
  congr 1
  show (if (true && (l.take k).isEmpty) = true then [] else [44]) ++ (quote n ++ (58 :: (textOf y ++ []))) = _
  rw [List.append_nil]
  by_cases h0 : k = 0
  · subst h0; simp
  · have : (l.take k).isEmpty = false := by rw [List.isEmpty_eq_false_iff]; intro e; rw [List.take_eq_nil_iff] at e; rcases e with e | e; exact h0 e; subst e; simp at hk
    rw [this, if_neg h0]; rfl
theorem textL_le (l : List J) (k : Nat) : (textL (l.take k) true).length ≤ (textL l true).length := by
  conv => rhs; rw [← List.take_append_drop k l, textL_app, List.length_append]
  omega
theorem textM_le (l : List (Bs × J)) (k : Nat) : (textM (l.take k) true).length ≤ (textM l true).length := by
  conv => rhs; rw [← List.take_append_drop k l, textM_app, List.length_append]
  omega
theorem textL_ge (l : List J) : ∀ k, k ≤ l.length → k ≤ (textL (l.take k) true).length + 1
  | 0, _ => Nat.zero_le _
  | k + 1, h => by
    obtain ⟨y, hy⟩ : ∃ y, l[k]? = some y := ⟨l[k], List.getElem?_eq_getElem (by omega)⟩
    have ih := textL_ge l k (by omega)
    rw [textL_snoc hy, List.length_append, List.length_append]
    by_cases h0 : k = 0
    · subst h0; omega
    · rw [if_neg h0, List.length_singleton]; omega
theorem textM_ge (l : List (Bs × J)) : ∀ k, k ≤ l.length → k ≤ (textM (l.take k) true).length + 1
  | 0, _ => Nat.zero_le _
  | k + 1, h => by
    obtain ⟨n, y, hy⟩ : ∃ n y, l[k]? = some (n, y) := ⟨l[k].1, l[k].2, List.getElem?_eq_getElem (by omega)⟩
    have ih := textM_ge l k (by omega)
    rw [textM_snoc hy, List.length_append, List.length_append]
    by_cases h0 : k = 0
    · subst h0; omega
    · rw [if_neg h0, List.length_singleton]; omega
theorem quote_len (s : Bs) : s.length + 2 ≤ (quote s).length := by
  unfold quote
  have h : ∀ l : Bs, l.length ≤ (l.flatMap esc).length := by
    intro l
    induction l with
    | nil => simp
    | cons c t ih =>
      rw [List.flatMap_cons, List.length_append, List.length_cons]
      have : 1 ≤ (esc c).length := by unfold esc; repeat' split
                                      all_goals simp
      omega
  have := h s
  rw [List.length_cons, List.length_append, List.length_singleton]; omega
end Js
end Go.Proofs.YtimioelnnhnbiaaDoor
