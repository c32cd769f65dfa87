/-
  THE WALKS: With of the reference of chapter 28, at an event's own numbers. CONDITIONS: the numbers lie as CellsAt says.
-/
import Derived.Test.YthpojljfmipngaaGreatDoorRefG
import Derived.Deep.RegionHeld3
namespace Go.Proofs.YthpojljfmipngaaGreatDoor
open Go.RowKit
def bare (x : Sc.Ev) : Sc.Ev := { Sc.clean x with keep := [], bytes := [] }
def bareV (x : Sc.Ev) : Value := .agg #[.int .i64 (bare x).kind, .int .i64 (bare x).node, .int .i64 (bare x).to, .int .i64 (bare x).n, .int .i64 (bare x).bit, .slice none 0 0, .slice none 0 0]
theorem bare_of {k a b n d : Int} {kp : List Bool} {bs : Sc.Bs} {os : List Nat} (h : Sc.offs k = os) : bareV ⟨k, a, b, n, d, kp, bs⟩ = .agg #[.int .i64 k, .int .i64 (if 1 ∈ os then a else 0), .int .i64 (if 2 ∈ os then b else 0), .int .i64 (if 3 ∈ os then n else 0), .int .i64 (if 4 ∈ os then d else 0), .slice none 0 0, .slice none 0 0] := by
  subst h; rfl
theorem below_two (w : World) (o p : Obj) : Below w.heap.size w ((w.alloc o).alloc p) := (below_box w o).trans ((below_box _ p).mono (below_box w o).size)
set_option maxRecDepth 100000 in
set_option maxHeartbeats 4000000 in
theorem refWith_any (x : Sc.Ev) (F : Option Addr) (fc : Nat) (w : World) (hF : CellsAt w F (intCells (Sc.nums x))) :
    Calls Tryz.prog 52 #[.int .i64 x.kind, .slice F (Sc.nums x).length fc] w fun e w' => e = .returned (bareV x) ∧ Below w.heap.size w w' := by
  obtain ⟨k, a, b, n, d, kp, bs⟩ := x
  by_cases h1 : k = 1 ∨ k = 8 ∨ k = 10
  · have hos : Sc.offs k = [1] := by unfold Sc.offs; rw [if_pos h1]
    have HE := Lib.hid (bare_of (a := a) (b := b) (n := n) (d := d) (kp := kp) (bs := bs) hos)
    have hN : Sc.nums ⟨k, a, b, n, d, kp, bs⟩ = [a] := by unfold Sc.nums; rw [hos]; rfl
    rw [hN] at hF ⊢
    obtain ⟨g, o, rfl, hg, c1⟩ := hF.at_ (Below.refl _ _) (k := 0) rfl
    rw [Nat.add_zero] at c1
    simp only [List.length_cons, List.length_nil]
    clear hF hN hos
    rcases h1 with rfl | rfl | rfl
    all_goals
      go_enter Tryz.func52, Tryz.ntmps52
      go_wp2_with fail
      refine bodyPost_ret (v := bareV _) ?_ rfl ⟨rfl, ?_⟩
      · rw [HE.out]; simp [results, Tryz.results52, go_sem]
      · exact below_two _ _ _
  by_cases h2 : k = 2 ∨ k = 9
  · have hos : Sc.offs k = [1, 3] := by unfold Sc.offs; rw [if_neg h1, if_pos h2]
    have HE := Lib.hid (bare_of (a := a) (b := b) (n := n) (d := d) (kp := kp) (bs := bs) hos)
    have hN : Sc.nums ⟨k, a, b, n, d, kp, bs⟩ = [a, n] := by unfold Sc.nums; rw [hos]; rfl
    rw [hN] at hF ⊢
    obtain ⟨g, o, rfl, hg, c1⟩ := hF.at_ (Below.refl _ _) (k := 0) rfl
    obtain ⟨g', o', e, _, c2⟩ := hF.at_ (Below.refl _ _) (k := 1) rfl
    cases e
    rw [Nat.add_zero] at c1
    simp only [List.length_cons, List.length_nil]
    clear hF hN hos h1
    rcases h2 with rfl | rfl
    all_goals
      go_enter Tryz.func52, Tryz.ntmps52
      go_wp2_with fail
      go_region
      go_wp2_with fail
      refine bodyPost_ret (v := bareV _) ?_ rfl ⟨rfl, ?_⟩
      · rw [HE.out]; simp [results, Tryz.results52, go_sem]
      · exact (below_two _ _ _).trans (below_drewN (Below.refl _ _) 1)
  by_cases h3 : k = 3 ∨ k = 4 ∨ k = 5
  · have hos : Sc.offs k = [3] := by unfold Sc.offs; rw [if_neg h1, if_neg h2, if_pos h3]
    have HE := Lib.hid (bare_of (a := a) (b := b) (n := n) (d := d) (kp := kp) (bs := bs) hos)
    have hN : Sc.nums ⟨k, a, b, n, d, kp, bs⟩ = [n] := by unfold Sc.nums; rw [hos]; rfl
    rw [hN] at hF ⊢
    obtain ⟨g, o, rfl, hg, c1⟩ := hF.at_ (Below.refl _ _) (k := 0) rfl
    rw [Nat.add_zero] at c1
    simp only [List.length_cons, List.length_nil]
    clear hF hN hos h1 h2
    rcases h3 with rfl | rfl | rfl
    all_goals
      go_enter Tryz.func52, Tryz.ntmps52
      go_wp2_with fail
      refine bodyPost_ret (v := bareV _) ?_ rfl ⟨rfl, ?_⟩
      · rw [HE.out]; simp [results, Tryz.results52, go_sem]
      · exact below_two _ _ _
  by_cases h4 : k = 6
  · have hos : Sc.offs k = [3, 4] := by unfold Sc.offs; rw [if_neg h1, if_neg h2, if_neg h3, if_pos h4]
    have HE := Lib.hid (bare_of (a := a) (b := b) (n := n) (d := d) (kp := kp) (bs := bs) hos)
    have hN : Sc.nums ⟨k, a, b, n, d, kp, bs⟩ = [n, d] := by unfold Sc.nums; rw [hos]; rfl
    rw [hN] at hF ⊢
    obtain ⟨g, o, rfl, hg, c1⟩ := hF.at_ (Below.refl _ _) (k := 0) rfl
    obtain ⟨g', o', e, _, c2⟩ := hF.at_ (Below.refl _ _) (k := 1) rfl
    cases e
    rw [Nat.add_zero] at c1
    simp only [List.length_cons, List.length_nil]
    clear hF hN hos h1 h2 h3
    subst h4
    go_enter Tryz.func52, Tryz.ntmps52
    go_wp2_with fail
    go_region
    go_wp2_with fail
    refine bodyPost_ret (v := bareV _) ?_ rfl ⟨rfl, ?_⟩
    · rw [HE.out]; simp [results, Tryz.results52, go_sem]
    · exact (below_two _ _ _).trans (below_drewN (Below.refl _ _) 1)
  by_cases h5 : k = 11
  · have hos : Sc.offs k = [1, 2] := by unfold Sc.offs; rw [if_neg h1, if_neg h2, if_neg h3, if_neg h4, if_pos h5]
    have HE := Lib.hid (bare_of (a := a) (b := b) (n := n) (d := d) (kp := kp) (bs := bs) hos)
    have hN : Sc.nums ⟨k, a, b, n, d, kp, bs⟩ = [a, b] := by unfold Sc.nums; rw [hos]; rfl
    rw [hN] at hF ⊢
    obtain ⟨g, o, rfl, hg, c1⟩ := hF.at_ (Below.refl _ _) (k := 0) rfl
    obtain ⟨g', o', e, _, c2⟩ := hF.at_ (Below.refl _ _) (k := 1) rfl
    cases e
    rw [Nat.add_zero] at c1
    simp only [List.length_cons, List.length_nil]
    clear hF hN hos h1 h2 h3 h4
    subst h5
    go_enter Tryz.func52, Tryz.ntmps52
    go_wp2_with fail
    go_region
    go_wp2_with fail
    refine bodyPost_ret (v := bareV _) ?_ rfl ⟨rfl, ?_⟩
    · rw [HE.out]; simp [results, Tryz.results52, go_sem]
    · exact (below_two _ _ _).trans (below_drewN (Below.refl _ _) 1)
  have hos : Sc.offs k = [] := by unfold Sc.offs; rw [if_neg h1, if_neg h2, if_neg h3, if_neg h4, if_neg h5]
  have HE := Lib.hid (bare_of (a := a) (b := b) (n := n) (d := d) (kp := kp) (bs := bs) hos)
  have hN : Sc.nums ⟨k, a, b, n, d, kp, bs⟩ = [] := by unfold Sc.nums; rw [hos]; rfl
  rw [hN]
  have hb : (k == 1) = false ∧ (k == 8) = false ∧ (k == 10) = false ∧ (k == 2) = false ∧ (k == 9) = false ∧ (k == 3) = false ∧ (k == 4) = false ∧ (k == 5) = false ∧ (k == 6) = false ∧ (k == 11) = false := by
    simp only [beq_eq_false_iff_ne]; omega
  obtain ⟨q1, q2, q3, q4, q5, q6, q7, q8, q9, q10⟩ := hb
  clear h1 h2 h3 h4 h5 hN hos hF
  go_enter Tryz.func52, Tryz.ntmps52
  go_wp2_with fail
  refine bodyPost_ret (v := bareV _) ?_ rfl ⟨rfl, ?_⟩
  · rw [HE.out]; simp [results, Tryz.results52, go_sem]
  · exact below_two _ _ _
end Go.Proofs.YthpojljfmipngaaGreatDoor
