/-
  The counts of a beginning of a value's items or members, one more at a time. No program in sight.
-/
import Derived.Test.YtimioelnnhnbiaaDoorLarge
namespace Go.Proofs.YtimioelnnhnbiaaDoor
namespace Js
theorem listL_append : ∀ (a b : List J), nodesL (a ++ b) = nodesL a + nodesL b ∧ deepL (a ++ b) = max (deepL a) (deepL b) ∧ bytesL (a ++ b) = bytesL a + bytesL b ∧ goodL (a ++ b) = (goodL a && goodL b)
  | [], b => by simp [nodesL, deepL, bytesL, goodL]
  | x :: t, b => by
    obtain ⟨h1, h2, h3, h4⟩ := listL_append t b
    rw [List.cons_append, nodesL, deepL, bytesL, goodL, nodesL, deepL, bytesL, goodL, h1, h2, h3, h4, Bool.and_assoc]
    exact ⟨by omega, by omega, by omega, rfl⟩
theorem listM_append : ∀ (a b : List (Bs × J)), nodesM (a ++ b) = nodesM a + nodesM b ∧ deepM (a ++ b) = max (deepM a) (deepM b) ∧ bytesM (a ++ b) = bytesM a + bytesM b ∧ goodM (a ++ b) = (goodM a && goodM b)
  | [], b => by simp [nodesM, deepM, bytesM, goodM]
  | (n, x) :: t, b => by
    obtain ⟨h1, h2, h3, h4⟩ := listM_append t b
    rw [List.cons_append, nodesM, deepM, bytesM, goodM, nodesM, deepM, bytesM, goodM, h1, h2, h3, h4, Bool.and_assoc]
    exact ⟨by omega, by omega, by omega, rfl⟩
theorem listL_snoc {l : List J} {k : Nat} {y : J} (hy : l[k]? = some y) : nodesL (l.take (k + 1)) = nodesL (l.take k) + nodes y ∧ deepL (l.take (k + 1)) = max (deepL (l.take k)) (deep y) ∧ bytesL (l.take (k + 1)) = bytesL (l.take k) + bytes y ∧ goodL (l.take (k + 1)) = (goodL (l.take k) && good y) := by
  have h := listL_append (l.take k) [y]
  rw [List.take_add_one, hy]
  simpa [nodesL, deepL, bytesL, goodL] using h
theorem listM_snoc {l : List (Bs × J)} {k : Nat} {nm : Bs} {y : J} (hy : l[k]? = some (nm, y)) : nodesM (l.take (k + 1)) = nodesM (l.take k) + nodes y ∧ deepM (l.take (k + 1)) = max (deepM (l.take k)) (deep y) ∧ bytesM (l.take (k + 1)) = bytesM (l.take k) + bytes y + nm.length ∧ goodM (l.take (k + 1)) = (goodM (l.take k) && good y) := by
  have h := listM_append (l.take k) [(nm, y)]
  rw [List.take_add_one, hy]
  obtain ⟨h1, h2, h3, h4⟩ := h
  refine ⟨by simpa [nodesM] using h1, by simpa [deepM] using h2, ?_, by simpa [goodM] using h4⟩
  rw [show [(nm, y)] = (some (nm, y)).toList from rfl] at h3
  rw [h3]
  simp [bytesM]
  omega
/-- Has none of these this name? -/
def none_ (l : List (Bs × J)) (nm : Bs) : Bool := l.all fun p => !decide (p.1 = nm)
theorem none_snoc {l : List (Bs × J)} {k : Nat} {n1 nm : Bs} {y : J} (hy : l[k]? = some (n1, y)) : none_ (l.take (k + 1)) nm = (none_ (l.take k) nm && !decide (n1 = nm)) := by
  unfold none_
  rw [List.take_add_one, hy, List.all_append]
  simp
def goodK (p : Bool) (l : List J) (m : List (Bs × J)) : Bool := p && goodL l && goodM m && decide ((m.map (·.1)).Nodup)
theorem goodK_snoc {p : Bool} {l : List J} {m : List (Bs × J)} {k : Nat} {nm : Bs} {y : J} (hy : m[k]? = some (nm, y)) : goodK p l (m.take (k + 1)) = (goodK p l (m.take k) && good y && none_ (m.take k) nm) := by
  have h4 := (listM_snoc hy).2.2.2
  have h5 : decide (((m.take (k + 1)).map (·.1)).Nodup) = (decide (((m.take k).map (·.1)).Nodup) && none_ (m.take k) nm) := by
    rw [Bool.eq_iff_iff, Bool.and_eq_true, decide_eq_true_iff, decide_eq_true_iff, List.take_add_one, hy]
    unfold none_
    simp only [Option.toList_some, List.map_append, List.map_cons, List.map_nil, List.all_eq_true, Bool.not_eq_true', decide_eq_false_iff_not, List.nodup_append, List.mem_map, List.mem_singleton]
    constructor
    · rintro ⟨h1, -, h3⟩
      exact ⟨h1, fun x hx he => h3 x.1 ⟨x, hx, rfl⟩ nm rfl he⟩
    · rintro ⟨h1, h2⟩
      refine ⟨h1, by simp, ?_⟩
      rintro a ⟨x, hx, rfl⟩ b rfl
      exact h2 x hx
  unfold goodK
  rw [h4, h5]
  cases p <;> cases goodL l <;> cases goodM (m.take k) <;> cases good y <;> simp
end Js
end Go.Proofs.YtimioelnnhnbiaaDoor
