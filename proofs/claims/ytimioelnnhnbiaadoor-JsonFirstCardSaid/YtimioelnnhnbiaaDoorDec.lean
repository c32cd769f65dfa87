/-
  What Decode says, as a plain function; what the laws of chapter 23 ask of it. CONDITIONS: as each law says.
-/
import Derived.Test.YtimioelnnhnbiaaDoorRightP
import Derived.Test.YtimioelnnhnbiaaDoorWV
namespace Go.Proofs.YtimioelnnhnbiaaDoor
open Go.RowKit
def Dec (s : Js.Bs) : Js.J × Int × Int :=
  match run s with
  | .out => (Js.zero, 0, 0)
  | .bad k => (Js.zero, 330, k)
  | .ok x st => if st.at_ < s.length then (Js.zero, 330, st.at_) else if st.large = true then (Js.zero, 2, 0) else (x, 0, 0)
theorem dec_back {x : Js.J} (h : Js.right x = true) (hr : Js.inR x = true) : Dec (Js.textOf x) = (x, 0, 0) := by
  unfold Dec
  rw [run_back h hr]
  show (if 0 + (Js.textOf x).length < (Js.textOf x).length then _ else if false = true then _ else _) = _
  rw [if_neg (by omega), if_neg (by decide)]
theorem dec_begin {x : Js.J} (h : Js.right x = true) (hr : Js.inR x = true) (hk : x.kind = 4 ∨ x.kind = 5 ∨ x.kind = 6) {k : Nat} (hlt : k < (Js.textOf x).length) : Dec ((Js.textOf x).take k) = (Js.zero, 330, (k : Int)) := by
  unfold Dec
  rw [run_begin h hr hk hlt]
theorem agree_take (s more : Js.Bs) (k : Nat) (hk : k ≤ s.length) : Agree k s (s.take k ++ more) := by
  intro i hi
  rw [List.getElem?_append_left (by rw [List.length_take]; omega), List.getElem?_take, if_pos hi]
theorem dec_cases (s : Js.Bs) : (∃ y, Dec s = (y, 0, 0) ∧ Js.right y = true ∧ Js.inR y = true) ∨ Dec s = (Js.zero, 2, 0) ∨
    ∃ A : Nat, Dec s = (Js.zero, 330, (A : Int)) ∧ A ≤ s.length ∧ (A < s.length → ∀ more, Dec (s.take (A + 1) ++ more) = (Js.zero, 330, (A : Int))) := by
  obtain ⟨r, hr⟩ : ∃ r, run s = r := ⟨_, rfl⟩
  cases r with
  | out => exact absurd hr (run_out s)
  | bad k =>
    refine .inr (.inr ⟨k, by unfold Dec; rw [hr], run_bad_le hr, fun hlt more => ?_⟩)
    unfold Dec
    rw [run_bad_agree (agree_take s more (k + 1) hlt) hr (Nat.lt_succ_self k)]
  | ok x st =>
    by_cases hlt : st.at_ < s.length
    · refine .inr (.inr ⟨st.at_, by unfold Dec; rw [hr]; exact if_pos hlt, Nat.le_of_lt hlt, fun _ more => ?_⟩)
      unfold Dec
      rw [run_ok_agree (agree_take s more (st.at_ + 1) hlt) hr (Nat.lt_succ_self _)]
      exact if_pos (by rw [List.length_append, List.length_take]; omega)
    · by_cases hl : st.large = true
      · exact .inr (.inl (by unfold Dec; rw [hr]; exact (if_neg hlt).trans (if_pos hl)))
      · have hl' : st.large = false := by simpa using hl
        obtain ⟨h1, h2⟩ := run_right hr hl'
        exact .inl ⟨x, by unfold Dec; rw [hr]; exact (if_neg hlt).trans (if_neg hl), h1, h2⟩
theorem dec_out {w w' : World} {s : Js.Bs} {e : Ending} (h : DOut w s (run s) e w') : Below w.heap.size w w' ∧ ∃ us, e = .returned (.tuple #[.agg us.toArray, spot (Dec s).2.1 (Dec s).2.2]) ∧ JV w' (fun g => w.heap.size ≤ g) (Dec s).1 us := by
  obtain ⟨r, hr⟩ : ∃ r, run s = r := ⟨_, rfl⟩
  have hz : JV w' (fun g => w.heap.size ≤ g) Js.zero [.int .i64 0, .bool false, .int .i64 0, .string (str []), .slice none 0 0, .slice none 0 0] := JV.leaf w' _ 0 false 0 []
  unfold Dec
  rw [hr] at h ⊢
  cases r with
  | out => exact h.elim
  | bad k => exact ⟨h.1, _, h.2, hz⟩
  | ok x st =>
    obtain ⟨hb, ho⟩ := h
    refine ⟨hb, ?_⟩
    simp only
    split at ho
    · rename_i h1
      rw [if_pos h1]
      exact ⟨_, ho, hz⟩
    · rename_i h1
      rw [if_neg h1]
      split at ho
      · rename_i h2
        rw [if_pos h2]
        exact ⟨_, ho, hz⟩
      · rename_i h2
        rw [if_neg h2]
        exact ho
/-- Decode, whatever the text. -/
theorem dec_any (s : Js.Bs) (hlen : s.length ≤ 1073741824) (w : World) : Calls Tryd.prog 13 #[.string (str s)] w fun e w' => Below w.heap.size w w' ∧ ∃ us, e = .returned (.tuple #[.agg us.toArray, .agg #[.int .i64 (Dec s).2.1, .int .i64 (Dec s).2.2]]) ∧ JV w' (fun g => w.heap.size ≤ g) (Dec s).1 us :=
  (decode_run s hlen w).mono fun _ _ h => dec_out h
end Go.Proofs.YtimioelnnhnbiaaDoor
