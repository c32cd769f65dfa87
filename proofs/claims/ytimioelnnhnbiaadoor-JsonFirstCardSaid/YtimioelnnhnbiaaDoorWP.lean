/-
  THE WALKS, fifteenth part: plain of package json and of the document's answer. CONDITIONS: the value lies as JV says.
-/
import Derived.Test.YtimioelnnhnbiaaDoorWO
namespace Go.Proofs.YtimioelnnhnbiaaDoor
open Go.RowKit
/-- An item's cells. -/
theorem JL.elem {w : World} {S : Nat → Prop} {A : Option Addr} {l : List Js.J} {k : Nat} {y : Js.J} (h : JL w S A 0 l) (hy : l[k]? = some y) :
    ∃ g o k0 b0 n0 t0 A5 l5 c5 A6 l6 c6, A = some ⟨g, o, none⟩ ∧ S g ∧ g < w.heap.size ∧ w.cell? ⟨g, o + k * 6, none⟩ = some (.int .i64 k0) ∧ w.cell? ⟨g, o + k * 6 + 1, none⟩ = some (.bool b0) ∧ w.cell? ⟨g, o + k * 6 + 2, none⟩ = some (.int .i64 n0) ∧ w.cell? ⟨g, o + k * 6 + 3, none⟩ = some (.string t0) ∧ w.cell? ⟨g, o + k * 6 + 4, none⟩ = some (.slice A5 l5 c5) ∧ w.cell? ⟨g, o + k * 6 + 5, none⟩ = some (.slice A6 l6 c6) ∧ JV w S y [.int .i64 k0, .bool b0, .int .i64 n0, .string t0, .slice A5 l5 c5, .slice A6 l6 c6] := by
  obtain ⟨g, o, vs, h1, h2, h3, h4, h5⟩ := h.at_ hy
  obtain ⟨A5, c5, A6, c6, k0, b0, n0, t0, l5, l6, rfl⟩ := h5.shape
  rw [Nat.zero_add] at h4
  exact ⟨g, o, k0, b0, n0, t0, A5, l5, c5, A6, l6, c6, h1, h2, h3, h4 0 _ rfl, h4 1 _ rfl, h4 2 _ rfl, h4 3 _ rfl, h4 4 _ rfl, h4 5 _ rfl, h5⟩
theorem JM.elem {w : World} {S : Nat → Prop} {A : Option Addr} {l : List (Js.Bs × Js.J)} {k : Nat} {nm : Js.Bs} {y : Js.J} (h : JM w S A 0 l) (hy : l[k]? = some (nm, y)) :
    ∃ g o k0 b0 n0 t0 A5 l5 c5 A6 l6 c6, A = some ⟨g, o, none⟩ ∧ S g ∧ g < w.heap.size ∧ w.cell? ⟨g, o + k * 7, none⟩ = some (.string (str nm)) ∧ w.cell? ⟨g, o + k * 7 + 1, none⟩ = some (.int .i64 k0) ∧ w.cell? ⟨g, o + k * 7 + 2, none⟩ = some (.bool b0) ∧ w.cell? ⟨g, o + k * 7 + 3, none⟩ = some (.int .i64 n0) ∧ w.cell? ⟨g, o + k * 7 + 4, none⟩ = some (.string t0) ∧ w.cell? ⟨g, o + k * 7 + 5, none⟩ = some (.slice A5 l5 c5) ∧ w.cell? ⟨g, o + k * 7 + 6, none⟩ = some (.slice A6 l6 c6) ∧ JV w S y [.int .i64 k0, .bool b0, .int .i64 n0, .string t0, .slice A5 l5 c5, .slice A6 l6 c6] := by
  obtain ⟨g, o, vs, h1, h2, h3, h4, h5⟩ := h.at_ hy
  obtain ⟨A5, c5, A6, c6, k0, b0, n0, t0, l5, l6, rfl⟩ := h5.shape
  rw [Nat.zero_add] at h4
  exact ⟨g, o, k0, b0, n0, t0, A5, l5, c5, A6, l6, c6, h1, h2, h3, h4 0 _ rfl, h4 1 _ rfl, h4 2 _ rfl, h4 3 _ rfl, h4 4 _ rfl, h4 5 _ rfl, h4 6 _ rfl, h5⟩
theorem nat_beq (m : Nat) : ((m : Int) == 0) = decide (m = 0) := by rw [Bool.eq_iff_iff]; simp
/-- plain, by the fields alone. -/
def plainF (k : Int) (b : Bool) (n : Int) (t : Js.Bs) (l m : Nat) : Bool :=
  decide (1 ≤ k) && decide (k ≤ 6) && (decide (k = 2) || !b) && (decide (k = 3) || decide (n = 0)) && (decide (k = 4) || decide (t = [])) && (decide (k = 5) || decide (l = 0)) && (decide (k = 6) || decide (m = 0))
set_option maxRecDepth 100000 in
set_option maxHeartbeats 8000000 in
theorem plainF_any (k : Int) (b : Bool) (n : Int) (t : Js.Bs) (A A' : Option Addr) (l c m c' : Nat) (w : World) :
    Calls Tryd.prog 36 #[.agg #[.int .i64 k, .bool b, .int .i64 n, .string (str t), .slice A l c, .slice A' m c']] w fun e w' => e = .returned (.bool (plainF k b n t l m)) ∧ Below w.heap.size w w' := by
  by_cases h1 : 1 ≤ k
  · by_cases h6 : k ≤ 6
    · have hk : k = 1 ∨ k = 2 ∨ k = 3 ∨ k = 4 ∨ k = 5 ∨ k = 6 := by omega
      clear h1 h6
      rcases hk with rfl | rfl | rfl | rfl | rfl | rfl
      all_goals
        go_enter Tryd.func36, Tryd.ntmps36
        go_wp2_with fail
      all_goals
        go_ret
        refine ⟨ret_bool ?_, below_box _ _⟩
        unfold plainF
        simp_all [str_list]
        try exact nat_beq _
    · have hp := Lib.hid (show plainF k b n t l m = false by unfold plainF; rw [decide_eq_false h6]; simp)
      go_enter Tryd.func36, Tryd.ntmps36
      go_wp2_with fail
      go_ret
      exact ⟨ret_bool hp.out.symm, below_box _ _⟩
  · have hp := Lib.hid (show plainF k b n t l m = false by unfold plainF; rw [decide_eq_false h1]; simp)
    go_enter Tryd.func36, Tryd.ntmps36
    go_wp2_with fail
    go_ret
    exact ⟨ret_bool hp.out.symm, below_box _ _⟩
set_option maxRecDepth 100000 in
set_option maxHeartbeats 8000000 in
theorem plainR_any (k : Int) (b : Bool) (n : Int) (t : Js.Bs) (A A' : Option Addr) (l c m c' : Nat) (w : World) :
    Calls Tryd.prog 35 #[.agg #[.int .i64 k, .bool b, .int .i64 n, .string (str t), .slice A l c, .slice A' m c']] w fun e w' => e = .returned (.bool (plainF k b n t l m)) ∧ Below w.heap.size w w' := by
  by_cases h1 : 1 ≤ k
  · by_cases h6 : k ≤ 6
    · have hk : k = 1 ∨ k = 2 ∨ k = 3 ∨ k = 4 ∨ k = 5 ∨ k = 6 := by omega
      clear h1 h6
      rcases hk with rfl | rfl | rfl | rfl | rfl | rfl
      all_goals
        go_enter Tryd.func35, Tryd.ntmps35
        go_wp2_with fail
      all_goals
        go_ret
        refine ⟨ret_bool ?_, below_box _ _⟩
        unfold plainF
        simp_all [str_list]
        try exact nat_beq _
    · have hp := Lib.hid (show plainF k b n t l m = false by unfold plainF; rw [decide_eq_false h6]; simp)
      go_enter Tryd.func35, Tryd.ntmps35
      go_wp2_with fail
      go_ret
      exact ⟨ret_bool hp.out.symm, below_box _ _⟩
  · have hp := Lib.hid (show plainF k b n t l m = false by unfold plainF; rw [decide_eq_false h1]; simp)
    go_enter Tryd.func35, Tryd.ntmps35
    go_wp2_with fail
    go_ret
    exact ⟨ret_bool hp.out.symm, below_box _ _⟩
theorem plainF_eq (k : Int) (b : Bool) (n : Int) (t : Js.Bs) (l : List Js.J) (m : List (Js.Bs × Js.J)) : plainF k b n t l.length m.length = Js.plain (.mk k b n t l m) := by
  have e : ∀ {α : Type} (x : List α), decide (x.length = 0) = x.isEmpty := fun x => by cases x <;> simp
  unfold plainF Js.plain
  rw [e, e]
  rfl
theorem plain_any {w : World} {S : Nat → Prop} {x : Js.J} {vs : List Value} (h : JV w S x vs) : Calls Tryd.prog 36 #[.agg vs.toArray] w fun e w' => e = .returned (.bool (Js.plain x)) ∧ Below w.heap.size w w' := by
  cases x with | mk k b n t l m =>
  unfold JV at h
  obtain ⟨A, c, A', c', rfl, _⟩ := h
  rw [← plainF_eq]
  exact plainF_any k b n t A A' l.length c m.length c' w
theorem plainRef_any {w : World} {S : Nat → Prop} {x : Js.J} {vs : List Value} (h : JV w S x vs) : Calls Tryd.prog 35 #[.agg vs.toArray] w fun e w' => e = .returned (.bool (Js.plain x)) ∧ Below w.heap.size w w' := by
  cases x with | mk k b n t l m =>
  unfold JV at h
  obtain ⟨A, c, A', c', rfl, _⟩ := h
  rw [← plainF_eq]
  exact plainR_any k b n t A A' l.length c m.length c' w
end Go.Proofs.YtimioelnnhnbiaaDoor
