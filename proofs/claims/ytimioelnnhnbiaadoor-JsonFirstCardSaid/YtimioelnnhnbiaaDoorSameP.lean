/-
  Which values are the same: item by item, member by member; each is the same as itself. No program in sight.
-/
import Derived.Test.YtimioelnnhnbiaaDoorSizeP
namespace Go.Proofs.YtimioelnnhnbiaaDoor
namespace Js
theorem sameL_app : ∀ (a a' b b' : List J), a.length = a'.length → sameL (a ++ b) (a' ++ b') = (sameL a a' && sameL b b')
  | [], [], b, b', _ => by simp [sameL]
  | x :: t, [], b, b', h => by simp at h
  | [], y :: u, b, b', h => by simp at h
  | x :: t, y :: u, b, b', h => by
    rw [List.cons_append, List.cons_append, sameL, sameL, sameL_app t u b b' (by simpa using h), Bool.and_assoc]
theorem sameM_app : ∀ (a a' b b' : List (Bs × J)), a.length = a'.length → sameM (a ++ b) (a' ++ b') = (sameM a a' && sameM b b')
  | [], [], b, b', _ => by simp [sameM]
  | x :: t, [], b, b', h => by simp at h
  | [], y :: u, b, b', h => by simp at h
  | (n, x) :: t, (n', y) :: u, b, b', h => by
    rw [List.cons_append, List.cons_append, sameM, sameM, sameM_app t u b b' (by simpa using h), Bool.and_assoc, Bool.and_assoc, Bool.and_assoc]
theorem sameL_len : ∀ {l l' : List J}, sameL l l' = true → l.length = l'.length
  | [], [], _ => rfl
  | x :: t, [], h => by simp [sameL] at h
  | [], y :: u, h => by simp [sameL] at h
  | x :: t, y :: u, h => by
    rw [sameL, Bool.and_eq_true] at h
    simp [sameL_len h.2]
theorem sameM_len : ∀ {l l' : List (Bs × J)}, sameM l l' = true → l.length = l'.length
  | [], [], _ => rfl
  | (n, x) :: t, [], h => by simp [sameM] at h
  | [], (n, y) :: u, h => by simp [sameM] at h
  | (n, x) :: t, (n', y) :: u, h => by
    rw [sameM, Bool.and_eq_true] at h
    simp [sameM_len h.2]
theorem sameL_snoc {l l' : List J} {k : Nat} {x y : J} (hl : l.length = l'.length) (hx : l[k]? = some x) (hy : l'[k]? = some y) : sameL (l.take (k + 1)) (l'.take (k + 1)) = (sameL (l.take k) (l'.take k) && same x y) := by
  rw [List.take_add_one, List.take_add_one, hx, hy, sameL_app _ _ _ _ (by rw [List.length_take, List.length_take, hl])]
  simp [sameL]
theorem sameM_snoc {l l' : List (Bs × J)} {k : Nat} {n n' : Bs} {x y : J} (hl : l.length = l'.length) (hx : l[k]? = some (n, x)) (hy : l'[k]? = some (n', y)) : sameM (l.take (k + 1)) (l'.take (k + 1)) = (sameM (l.take k) (l'.take k) && (decide (n = n') && same x y)) := by
  rw [List.take_add_one, List.take_add_one, hx, hy, sameM_app _ _ _ _ (by rw [List.length_take, List.length_take, hl])]
  simp [sameM]
theorem sameL_false {l l' : List J} {k : Nat} (hl : l.length = l'.length) (h : sameL (l.take k) (l'.take k) = false) : sameL l l' = false := by
  rw [← List.take_append_drop k l, ← List.take_append_drop k l', sameL_app _ _ _ _ (by rw [List.length_take, List.length_take, hl]), h]; rfl
theorem sameM_false {l l' : List (Bs × J)} {k : Nat} (hl : l.length = l'.length) (h : sameM (l.take k) (l'.take k) = false) : sameM l l' = false := by
  rw [← List.take_append_drop k l, ← List.take_append_drop k l', sameM_app _ _ _ _ (by rw [List.length_take, List.length_take, hl]), h]; rfl
mutual
theorem same_self : ∀ x : J, same x x = true
  | .mk k b n t l m => by rw [same, sameL_self l, sameM_self m]; simp
theorem sameL_self : ∀ l : List J, sameL l l = true
  | [] => rfl
  | x :: t => by rw [sameL, same_self x, sameL_self t]; rfl
theorem sameM_self : ∀ l : List (Bs × J), sameM l l = true
  | [] => rfl
  | (n, x) :: t => by rw [sameM, same_self x, sameM_self t]; simp
end
theorem sameL_nlen {l l' : List J} (h : ¬ l.length = l'.length) : sameL l l' = false := by
  cases hs : sameL l l' with
  | false => rfl
  | true => exact absurd (sameL_len hs) h
theorem sameM_nlen {l l' : List (Bs × J)} (h : ¬ l.length = l'.length) : sameM l l' = false := by
  cases hs : sameM l l' with
  | false => rfl
  | true => exact absurd (sameM_len hs) h
end Js
end Go.Proofs.YtimioelnnhnbiaaDoor
