/-
  Plain: a response that was read may be printed; one that was not is the zero response. No program in sight.
-/
import Derived.Test.YtoadahommlcjpaaGreatDoorRefLaw
namespace Go.Proofs.YtoadahommlcjpaaGreatDoor
namespace Ht
theorem rsp_right (b : Bs) (h : (parseRsp b).2.2 = 0) : 200 ≤ (parseRsp b).1.status ∧ (parseRsp b).1.status ≤ 599 ∧ checkedB (parseRsp b).1.heads (parseRsp b).1.body = true := by
  unfold parseRsp readOf at h ⊢
  cases he : endAt (b.take 2048) with
  | none =>
    rw [he] at h
    simp only at h
    split at h <;> exact absurd h (by decide)
  | some p =>
    rw [he] at h
    simp only at h ⊢
    by_cases h1 : (firstP (upto2 13 10 (b.take (p + 2))).1).2 = true
    · rw [if_pos h1] at h ⊢
      by_cases h2 : (restOf (upto2 13 10 (b.take (p + 2))).2.1 (b.drop (p + 4))).2 = 0
      · rw [if_pos h2]
        have h3 := (rest_right h2).1
        unfold firstP at h1
        simp only [Bool.and_eq_true, decide_eq_true_eq] at h1
        exact ⟨h1.1.1.2, h1.1.2, h3⟩
      · rw [if_neg h2] at h
        exact absurd h h2
    · rw [if_neg h1] at h
      exact absurd h (by decide)
theorem zero_rsp (b : Bs) (h : (parseRsp b).2.2 ≠ 0) : (parseRsp b).1 = zRsp ∧ (parseRsp b).2.1 = 0 := by
  unfold parseRsp readOf at h ⊢
  cases he : endAt (b.take 2048) with
  | none => exact ⟨rfl, rfl⟩
  | some p =>
    rw [he] at h
    simp only at h ⊢
    by_cases h1 : (firstP (upto2 13 10 (b.take (p + 2))).1).2 = true
    · rw [if_pos h1] at h ⊢
      by_cases h2 : (restOf (upto2 13 10 (b.take (p + 2))).2.1 (b.drop (p + 4))).2 = 0
      · rw [if_pos h2] at h
        exact absurd rfl h
      · rw [if_neg h2]
        exact ⟨rfl, rfl⟩
    · rw [if_neg h1]
      exact ⟨rfl, rfl⟩
end Ht
end Go.Proofs.YtoadahommlcjpaaGreatDoor
