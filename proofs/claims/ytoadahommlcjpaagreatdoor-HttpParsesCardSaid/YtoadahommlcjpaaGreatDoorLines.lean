/-
  Plain: lines of a head, as the document's reader finds them and as the program does. No program in sight.
-/
import Derived.Test.YtoadahommlcjpaaGreatDoorPure
namespace Go.Proofs.YtoadahommlcjpaaGreatDoor
namespace Ht
/-- As the document finds them: the lines, and how many bytes the head has. -/
def refLines : Bs → Bs → List Bs → Nat → Option (List Bs × Nat)
  | [], _, _, _ => none
  | [_], _, _, _ => none
  | x :: y :: t, cur, out, pos =>
    if x = 13 ∧ y = 10 then (if cur = [] ∧ out ≠ [] then some (out, pos + 2) else refLines t [] (out ++ [cur]) (pos + 2))
    else refLines (y :: t) (cur ++ [x]) out (pos + 1)
def spl : Bs → Bs → List Bs
  | cur, [] => if cur = [] then [] else [cur]
  | cur, [x] => [cur ++ [x]]
  | cur, x :: y :: t => if x = 13 ∧ y = 10 then cur :: spl [] t else spl (cur ++ [x]) (y :: t)
theorem endAt_cons (c : UInt8) (t : Bs) : endAt (c :: t) = if (c :: t).take 4 = [13, 10, 13, 10] then some 0 else (endAt t).map (· + 1) := by rw [endAt]
theorem refLines_eq (b cur : Bs) (out : List Bs) (pos : Nat) :
    refLines b cur out pos = if (cur = [] ∧ out ≠ []) ∧ b.take 2 = [13, 10] then some (out, pos + 2) else (endAt b).map fun p => (out ++ spl cur (b.take (p + 2)), pos + p + 4) := by
  induction b, cur, out, pos using refLines.induct with
  | case1 cur out pos => rw [refLines, if_neg (by simp)]; rfl
  | case2 x cur out pos =>
    rw [refLines, if_neg (by simp), endAt_cons, if_neg (by simp)]; rfl
  | case3 x y t cur out pos h1 h2 =>
    rw [refLines, if_pos h1, if_pos h2, if_pos ⟨h2, by simp [h1.1, h1.2]⟩]
  | case4 x y t cur out pos h1 h2 ih =>
    rw [refLines, if_pos h1, if_neg h2, ih]
    obtain ⟨rfl, rfl⟩ := h1
    have hno : ¬ ((cur = [] ∧ out ≠ []) ∧ List.take 2 (13 :: 10 :: t) = [13, 10]) := fun h => h2 h.1
    rw [if_neg hno, endAt_cons]
    by_cases ht : t.take 2 = [13, 10]
    · have hyes : (([] : Bs) = [] ∧ out ++ [cur] ≠ []) ∧ t.take 2 = [13, 10] := ⟨⟨rfl, by simp⟩, ht⟩
      rw [if_pos hyes, if_pos (by simp [ht])]
      simp [spl]
    · have hno2 : ¬ ((([] : Bs) = [] ∧ out ++ [cur] ≠ []) ∧ t.take 2 = [13, 10]) := fun h => ht h.2
      rw [if_neg hno2, if_neg (by simpa using ht), endAt_cons, if_neg (by simp)]
      cases endAt t with
      | none => rfl
      | some p =>
        simp only [Option.map_some]
        rw [show p + 1 + 1 + 2 = (p + 2) + 1 + 1 by omega, List.take_succ_cons, List.take_succ_cons, spl, if_pos ⟨rfl, rfl⟩]
        simp; omega
  | case5 x y t cur out pos h1 ih =>
    have hne : ¬ (x :: y :: t).take 4 = [13, 10, 13, 10] := by
      intro h
      simp at h
      exact h1 ⟨h.1, h.2.1⟩
    have hn2 : ¬ ((cur = [] ∧ out ≠ []) ∧ List.take 2 (x :: y :: t) = [13, 10]) := by
      intro h
      have h2 := h.2
      simp at h2
      exact h1 h2
    rw [refLines, if_neg h1, ih, if_neg (by simp), if_neg hn2, endAt_cons x (y :: t), if_neg hne]
    cases endAt (y :: t) with
    | none => rfl
    | some p =>
      simp only [Option.map_some]
      have e : spl cur (x :: y :: List.take (p + 1) t) = spl (cur ++ [x]) (y :: List.take (p + 1) t) := by rw [spl.eq_def]; simp only; rw [if_neg h1]
      have e2 : List.take (p + 2) (y :: t) = y :: List.take (p + 1) t := rfl
      have e3 : List.take (p + 1 + 2) (x :: y :: t) = x :: y :: List.take (p + 1) t := rfl
      rw [e2, e3, e]
      simp; omega
theorem refLines_0 (b : Bs) : refLines b [] [] 0 = (endAt b).map fun p => (spl [] (b.take (p + 2)), p + 4) := by
  rw [refLines_eq, if_neg (by simp)]
  simp
/-! ### upto2 -/
theorem upto2_split (c d : UInt8) (s : Bs) : (upto2 c d s).2.2 = true → s = (upto2 c d s).1 ++ c :: d :: (upto2 c d s).2.1 := by
  induction s using upto2.induct c d with
  | case1 => intro h; simp [upto2] at h
  | case2 x => intro h; simp [upto2] at h
  | case3 x y t h => intro _; rw [upto2, if_pos h, h.1, h.2]; rfl
  | case4 x y t h ih =>
    intro h2
    rw [upto2, if_neg h] at h2 ⊢
    rw [List.cons_append, ← ih h2]
theorem upto2_none (c d : UInt8) (s : Bs) : (upto2 c d s).2.2 = false → (upto2 c d s).1 = s ∧ (upto2 c d s).2.1 = [] := by
  induction s using upto2.induct c d with
  | case1 => intro _; exact ⟨rfl, rfl⟩
  | case2 x => intro _; exact ⟨rfl, rfl⟩
  | case3 x y t h => intro h2; rw [upto2, if_pos h] at h2; cases h2
  | case4 x y t h ih =>
    intro h2
    rw [upto2, if_neg h] at h2 ⊢
    obtain ⟨a, b⟩ := ih h2
    exact ⟨by rw [a], b⟩
theorem upto2_lt (c d : UInt8) (s : Bs) (h : s ≠ []) : (upto2 c d s).2.1.length < s.length := by
  cases hq : (upto2 c d s).2.2 with
  | true =>
    have := congrArg List.length (upto2_split c d s hq)
    simp at this; omega
  | false =>
    rw [(upto2_none c d s hq).2]
    exact List.length_pos_iff.2 h
theorem linesOf_nil : linesOf [] = [] := by rw [linesOf]; simp
theorem linesOf_cons {s : Bs} (h : s ≠ []) : linesOf s = (upto2 13 10 s).1 :: linesOf (upto2 13 10 s).2.1 := by
  rw [linesOf, dif_neg h, if_pos (upto2_lt 13 10 s h)]
theorem spl_eq (cur s : Bs) : spl cur s = if cur ++ s = [] then [] else (cur ++ (upto2 13 10 s).1) :: linesOf (upto2 13 10 s).2.1 := by
  induction cur, s using spl.induct with
  | case1 => rw [spl]; simp
  | case2 cur h => rw [spl, if_neg h]; simp [h, upto2, linesOf_nil]
  | case3 cur x => rw [spl]; simp [upto2, linesOf_nil]
  | case4 cur x y t h ih =>
    have hne : ¬ cur ++ x :: y :: t = [] := by simp
    rw [spl, if_pos h, ih, if_neg hne, upto2, if_pos h]
    simp only [List.nil_append, List.append_nil]
    by_cases ht : t = []
    · rw [if_pos ht, ht, linesOf_nil]
    · rw [if_neg ht, linesOf_cons ht]
  | case5 cur x y t h ih =>
    rw [spl, if_neg h, ih, if_neg (by simp), if_neg (by simp), upto2, if_neg h]
    simp
theorem spl_0 {s : Bs} (h : s ≠ []) : spl [] s = (upto2 13 10 s).1 :: linesOf (upto2 13 10 s).2.1 := by
  rw [spl_eq, if_neg (by simpa using h)]; rfl
/-! ### where the head ends -/
theorem endAt_le (b : Bs) (p : Nat) (h : endAt b = some p) : p + 4 ≤ b.length ∧ (b.drop p).take 4 = [13, 10, 13, 10] := by
  induction b generalizing p with
  | nil => simp [endAt] at h
  | cons c t ih =>
    rw [endAt_cons] at h
    split at h
    · rename_i hc
      injection h with h
      subst h
      have := congrArg List.length hc
      rw [List.length_take] at this
      simp only [List.length_cons, List.length_nil] at this
      exact ⟨by rw [List.length_cons]; omega, hc⟩
    · cases ht : endAt t with
      | none => rw [ht] at h; cases h
      | some q =>
        rw [ht] at h
        simp only [Option.map_some, Option.some.injEq] at h
        subst h
        obtain ⟨a, b⟩ := ih q ht
        exact ⟨by rw [List.length_cons]; omega, by rw [List.drop_succ_cons]; exact b⟩
theorem endAt_take (b : Bs) (k : Nat) : endAt (b.take k) = (endAt b).bind fun p => if p + 4 ≤ k then some p else none := by
  induction b generalizing k with
  | nil => simp [endAt]
  | cons c t ih =>
    cases k with
    | zero =>
      rw [List.take_zero]
      cases endAt (c :: t) with
      | none => rfl
      | some p => simp [endAt]
    | succ k =>
      rw [List.take_succ_cons, endAt_cons, endAt_cons, ih]
      by_cases hc : (c :: t).take 4 = [13, 10, 13, 10]
      · rw [if_pos hc]
        by_cases hk : 4 ≤ k + 1
        · rw [if_pos (by rw [← List.take_succ_cons, List.take_take, Nat.min_eq_left hk]; exact hc)]
          simp; omega
        · have hne : ¬ (c :: List.take k t).take 4 = [13, 10, 13, 10] := by
            intro h
            have := congrArg List.length h
            rw [List.length_take] at this
            simp at this; omega
          rw [if_neg hne]
          simp only [Option.bind_some]
          rw [if_neg (by omega)]
          cases endAt t with
          | none => rfl
          | some q => simp only [Option.bind_some]; rw [if_neg (by omega)]; rfl
      · rw [if_neg hc]
        have hne : ¬ (c :: List.take k t).take 4 = [13, 10, 13, 10] := by
          intro h
          apply hc
          have hl := congrArg List.length h
          rw [List.length_take] at hl
          simp only [List.length_cons, List.length_nil, List.length_take] at hl
          rw [← List.take_succ_cons, List.take_take, Nat.min_eq_left (by omega)] at h
          exact h
        rw [if_neg hne]
        cases endAt t with
        | none => rfl
        | some q =>
          simp only [Option.bind_some, Option.map_some]
          by_cases hq : q + 4 ≤ k
          · rw [if_pos hq, if_pos (by omega)]; rfl
          · rw [if_neg hq, if_neg (by omega)]; rfl
end Ht
end Go.Proofs.YtoadahommlcjpaaGreatDoor
