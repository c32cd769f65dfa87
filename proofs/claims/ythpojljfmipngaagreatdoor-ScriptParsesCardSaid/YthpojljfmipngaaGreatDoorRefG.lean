/-
  THE WALKS: word, wide and Fields of the reference of chapter 28. CONDITIONS: rows lie as CellsAt says.
-/
import Derived.Test.YthpojljfmipngaaGreatDoorRefD
namespace Go.Proofs.YthpojljfmipngaaGreatDoor
open Go.RowKit
theorem cells_lit (w : World) (t : TypeId) {C : Array Value} {vs : List Value} (h : C = vs.toArray) {j : Nat} (hj : j = w.heap.size) : CellsAt (w.alloc (.cells C t)) (some ⟨j, 0, none⟩) vs := fun _ => by
  subst h hj
  refine ⟨w.heap.size, 0, rfl, by simp, fun i v hi => ?_⟩
  rw [blk_cells (heap_alloc_new w _), Nat.zero_add, List.getElem?_toArray]; exact hi
theorem run_index119 (cs : Array Value) (i : Nat) (hi : i < 11) (s : ByteArray) (hv : cs[i]? = some (.string s)) (w : World) : (Instr.index 111 (.agg cs) (.int .i64 i)).run Tryz.prog w = .ok (.string s) w := by
  have hs : (sizeOf 9).run Tryz.prog w = .ok 1 w := by simp [go_sem]
  have h0 : (0 : Int) ≤ i ∧ (i : Int) < 11 := by omega
  simp [Instr.index, run_underlying Tryz.underlying111, asIntOf, go_sem, hs, h0]
  rw [if_pos hi, hv]; rfl
namespace Sc
def wordOf (k : Int) : Bs := if k < 1 ∨ 11 < k then [] else words.getD k.toNat []
end Sc
set_option maxRecDepth 100000 in
set_option maxHeartbeats 4000000 in
theorem refWord_any (k : Int) (w : World) :
    Calls Tryz.prog 50 #[.int .i64 k] w fun e w' => e = .returned (.string ⟨(Sc.wordOf k).toArray⟩) ∧ w' = w := by
  by_cases h1 : k < 1
  · have HE : Hid (Sc.wordOf k = []) := Lib.hid (by unfold Sc.wordOf; rw [if_pos (.inl h1)])
    go_enter Tryz.func50, Tryz.ntmps50
    go_wp2_with fail
    go_ret
    rw [HE.out]
    exact ⟨rfl, rfl⟩
  by_cases h2 : 11 < k
  · have HE : Hid (Sc.wordOf k = []) := Lib.hid (by unfold Sc.wordOf; rw [if_pos (.inr h2)])
    go_enter Tryz.func50, Tryz.ntmps50
    go_wp2_with fail
    go_ret
    rw [HE.out]
    exact ⟨rfl, rfl⟩
  have hk : k = 1 ∨ k = 2 ∨ k = 3 ∨ k = 4 ∨ k = 5 ∨ k = 6 ∨ k = 7 ∨ k = 8 ∨ k = 9 ∨ k = 10 ∨ k = 11 := by omega
  clear h1 h2
  have hix : ∀ (i : Nat) (s : ByteArray), i < 11 → (#[.string ⟨#[97, 115, 107]⟩, .string ⟨#[116, 117, 114, 110]⟩, .string ⟨#[100, 101, 108, 105, 118, 101, 114]⟩, .string ⟨#[108, 111, 115, 101]⟩, .string ⟨#[100, 111, 117, 98, 108, 101]⟩, .string ⟨#[115, 112, 111, 105, 108]⟩, .string ⟨#[116, 105, 99, 107]⟩, .string ⟨#[99, 114, 97, 115, 104]⟩, .string ⟨#[97, 114, 109]⟩, .string ⟨#[115, 116, 97, 114, 116]⟩, .string ⟨#[118, 105, 101, 119]⟩] : Array Value)[i]? = some (.string s) → ∀ w : World, (Instr.index 111 (.agg #[.string ⟨#[97, 115, 107]⟩, .string ⟨#[116, 117, 114, 110]⟩, .string ⟨#[100, 101, 108, 105, 118, 101, 114]⟩, .string ⟨#[108, 111, 115, 101]⟩, .string ⟨#[100, 111, 117, 98, 108, 101]⟩, .string ⟨#[115, 112, 111, 105, 108]⟩, .string ⟨#[116, 105, 99, 107]⟩, .string ⟨#[99, 114, 97, 115, 104]⟩, .string ⟨#[97, 114, 109]⟩, .string ⟨#[115, 116, 97, 114, 116]⟩, .string ⟨#[118, 105, 101, 119]⟩]) (.int .i64 i)).run Tryz.prog w = .ok (.string s) w := fun i s hi hv w => run_index119 _ i hi s hv w
  have HIX := Lib.hid hix
  clear hix
  rcases hk with rfl | rfl | rfl | rfl | rfl | rfl | rfl | rfl | rfl | rfl | rfl
  · have hi := HIX.out 0 _ (by decide) rfl
    simp only [Int.cast_ofNat_Int] at hi
    go_enter Tryz.func50, Tryz.ntmps50
    go_wp2_with fail
    go_ret
    exact ⟨rfl, rfl⟩
  · have hi := HIX.out 1 _ (by decide) rfl
    simp only [Int.cast_ofNat_Int] at hi
    go_enter Tryz.func50, Tryz.ntmps50
    go_wp2_with fail
    go_ret
    exact ⟨rfl, rfl⟩
  · have hi := HIX.out 2 _ (by decide) rfl
    simp only [Int.cast_ofNat_Int] at hi
    go_enter Tryz.func50, Tryz.ntmps50
    go_wp2_with fail
    go_ret
    exact ⟨rfl, rfl⟩
  · have hi := HIX.out 3 _ (by decide) rfl
    simp only [Int.cast_ofNat_Int] at hi
    go_enter Tryz.func50, Tryz.ntmps50
    go_wp2_with fail
    go_ret
    exact ⟨rfl, rfl⟩
  · have hi := HIX.out 4 _ (by decide) rfl
    simp only [Int.cast_ofNat_Int] at hi
    go_enter Tryz.func50, Tryz.ntmps50
    go_wp2_with fail
    go_ret
    exact ⟨rfl, rfl⟩
  · have hi := HIX.out 5 _ (by decide) rfl
    simp only [Int.cast_ofNat_Int] at hi
    go_enter Tryz.func50, Tryz.ntmps50
    go_wp2_with fail
    go_ret
    exact ⟨rfl, rfl⟩
  · have hi := HIX.out 6 _ (by decide) rfl
    simp only [Int.cast_ofNat_Int] at hi
    go_enter Tryz.func50, Tryz.ntmps50
    go_wp2_with fail
    go_ret
    exact ⟨rfl, rfl⟩
  · have hi := HIX.out 7 _ (by decide) rfl
    simp only [Int.cast_ofNat_Int] at hi
    go_enter Tryz.func50, Tryz.ntmps50
    go_wp2_with fail
    go_ret
    exact ⟨rfl, rfl⟩
  · have hi := HIX.out 8 _ (by decide) rfl
    simp only [Int.cast_ofNat_Int] at hi
    go_enter Tryz.func50, Tryz.ntmps50
    go_wp2_with fail
    go_ret
    exact ⟨rfl, rfl⟩
  · have hi := HIX.out 9 _ (by decide) rfl
    simp only [Int.cast_ofNat_Int] at hi
    go_enter Tryz.func50, Tryz.ntmps50
    go_wp2_with fail
    go_ret
    exact ⟨rfl, rfl⟩
  · have hi := HIX.out 10 _ (by decide) rfl
    simp only [Int.cast_ofNat_Int] at hi
    go_enter Tryz.func50, Tryz.ntmps50
    go_wp2_with fail
    go_ret
    exact ⟨rfl, rfl⟩
set_option maxRecDepth 100000 in
set_option maxHeartbeats 4000000 in
theorem refWide_any (l : List Int) (A : Option Addr) (c : Nat) (w : World) (hl : l.length ≤ 1048576) (hA : CellsAt w A (intCells l)) :
    Calls Tryz.prog 71 #[.slice A l.length c] w fun e w' => e = .returned (.bool (!Sc.wides l)) ∧ w' = w := by
  go_enter Tryz.func71, Tryz.ntmps71
  go_wp2_with fail
  go_loopw [4, 7] (fun _ i wr => ∃ k : Nat, k ≤ l.length ∧ i = .int .i64 k ∧ Hid ((l.take k).any Sc.wideN = false) ∧ wr = w) (fun _ i _ => l.length - (intOf i).toNat)
  case atStart => exact ⟨0, Nat.zero_le _, rfl, rfl, rfl⟩
  case round =>
    obtain ⟨k, hk, rfl, H, rfl⟩ := hrel
    by_cases hlt : k < l.length
    · have h1 : l[k]? = some l[k] := List.getElem?_eq_getElem hlt
      have HS : Hid ((l.take (k + 1)).any Sc.wideN = Sc.wideN l[k]) := Lib.hid (by
        have h := H.out; rw [List.take_succ_eq_append_getElem hlt, List.any_append, h]; simp)
      have HV : Hid (Sc.wideN l[k] = true → Sc.wides l = true) := Lib.hid (fun h => List.any_eq_true.2 ⟨_, List.getElem_mem hlt, h⟩)
      obtain ⟨b, o, rfl, hbl, c1⟩ := hA.at_ (Below.refl _ _) (intCells_get h1)
      generalize l[k] = n at HS HV c1
      clear hA h1
      by_cases g1 : n < -9999999999
      · have HR := Lib.hid (HV.out (by unfold Sc.wideN; simp [g1]))
        go_wp2_with fail
        go_ret
        rw [HR.out]
        exact ⟨rfl, rfl⟩
      by_cases g2 : 9999999999 < n
      · have HR := Lib.hid (HV.out (by unfold Sc.wideN; simp [g2]))
        go_wp2_with fail
        go_ret
        rw [HR.out]
        exact ⟨rfl, rfl⟩
      have HR : Hid ((l.take (k + 1)).any Sc.wideN = false) := Lib.hid (by rw [HS.out]; unfold Sc.wideN; simp [g1, g2])
      go_wp2_with fail
      go_roundw
      case rel => exact ⟨k + 1, by omega, by go_num, HR, trivial⟩
      case measure => simp [intOf]; omega
    · have HR : Hid (Sc.wides l = false) := by
        have h := H.out
        rw [List.take_of_length_le (by omega)] at h
        exact Lib.hid h
      go_wp2_with fail
      go_ret
      rw [HR.out]
      exact ⟨rfl, rfl⟩
set_option maxRecDepth 100000 in
set_option maxHeartbeats 4000000 in
theorem refFields_any (x : Sc.Ev) (K A : Option Addr) (kc bc : Nat) (w : World) :
    Calls Tryz.prog 51 #[evV x K A kc bc] w fun e w' => ∃ F fc, e = .returned (.slice F (Sc.nums x).length fc) ∧ CellsAt w' F (intCells (Sc.nums x)) ∧ Below w.heap.size w w' := by
  obtain ⟨k, a, b, n, d, kp, bs⟩ := x
  unfold evV
  simp only []
  have hb0 := below_box w (.cells #[.int .i64 k, .int .i64 a, .int .i64 b, .int .i64 n, .int .i64 d, .slice K kp.length kc, .slice A bs.length bc] 39)
  have HB := Lib.hid hb0
  have HBL : Hid (∀ C t, Below w.heap.size w ((w.alloc (.cells #[.int .i64 k, .int .i64 a, .int .i64 b, .int .i64 n, .int .i64 d, .slice K kp.length kc, .slice A bs.length bc] 39)).alloc (.cells C t))) := Lib.hid (fun C t => hb0.trans ((below_box _ _).mono hb0.size))
  clear hb0
  by_cases h1 : k = 1 ∨ k = 8 ∨ k = 10
  · have HE : Hid (Sc.nums ⟨k, a, b, n, d, kp, bs⟩ = [a]) := Lib.hid (by unfold Sc.nums Sc.offs; rw [if_pos h1]; rfl)
    rcases h1 with rfl | rfl | rfl
    all_goals
      go_enter Tryz.func51, Tryz.ntmps51
      go_wp2_with fail
      go_ret
      rw [HE.out]
      exact ⟨_, _, rfl, cells_lit _ 3 rfl (by simp), HBL.out _ _⟩
  by_cases h2 : k = 2 ∨ k = 9
  · have HE : Hid (Sc.nums ⟨k, a, b, n, d, kp, bs⟩ = [a, n]) := Lib.hid (by unfold Sc.nums Sc.offs; rw [if_neg h1, if_pos h2]; rfl)
    rcases h2 with rfl | rfl
    all_goals
      clear h1
      go_enter Tryz.func51, Tryz.ntmps51
      go_wp2_with fail
      go_ret
      rw [HE.out]
      exact ⟨_, _, rfl, cells_lit _ 3 rfl (by simp), HBL.out _ _⟩
  by_cases h3 : k = 3 ∨ k = 4 ∨ k = 5
  · have HE : Hid (Sc.nums ⟨k, a, b, n, d, kp, bs⟩ = [n]) := Lib.hid (by unfold Sc.nums Sc.offs; rw [if_neg h1, if_neg h2, if_pos h3]; rfl)
    rcases h3 with rfl | rfl | rfl
    all_goals
      clear h1 h2
      go_enter Tryz.func51, Tryz.ntmps51
      go_wp2_with fail
      go_ret
      rw [HE.out]
      exact ⟨_, _, rfl, cells_lit _ 3 rfl (by simp), HBL.out _ _⟩
  by_cases h4 : k = 6
  · have HE : Hid (Sc.nums ⟨k, a, b, n, d, kp, bs⟩ = [n, d]) := Lib.hid (by unfold Sc.nums Sc.offs; rw [if_neg h1, if_neg h2, if_neg h3, if_pos h4]; rfl)
    subst h4
    clear h1 h2 h3
    go_enter Tryz.func51, Tryz.ntmps51
    go_wp2_with fail
    go_ret
    rw [HE.out]
    exact ⟨_, _, rfl, cells_lit _ 3 rfl (by simp), HBL.out _ _⟩
  by_cases h5 : k = 11
  · have HE : Hid (Sc.nums ⟨k, a, b, n, d, kp, bs⟩ = [a, b]) := Lib.hid (by unfold Sc.nums Sc.offs; rw [if_neg h1, if_neg h2, if_neg h3, if_neg h4, if_pos h5]; rfl)
    subst h5
    clear h1 h2 h3 h4
    go_enter Tryz.func51, Tryz.ntmps51
    go_wp2_with fail
    go_ret
    rw [HE.out]
    exact ⟨_, _, rfl, cells_lit _ 3 rfl (by simp), HBL.out _ _⟩
  have HE : Hid (Sc.nums ⟨k, a, b, n, d, kp, bs⟩ = []) := Lib.hid (by unfold Sc.nums Sc.offs; rw [if_neg h1, if_neg h2, if_neg h3, if_neg h4, if_neg h5]; rfl)
  have hb : (k == 1) = false ∧ (k == 8) = false ∧ (k == 10) = false ∧ (k == 2) = false ∧ (k == 9) = false ∧ (k == 3) = false ∧ (k == 4) = false ∧ (k == 5) = false ∧ (k == 6) = false ∧ (k == 11) = false := by
    simp only [beq_eq_false_iff_ne]; omega
  obtain ⟨q1, q2, q3, q4, q5, q6, q7, q8, q9, q10⟩ := hb
  clear h1 h2 h3 h4 h5
  go_enter Tryz.func51, Tryz.ntmps51
  go_wp2_with fail
  go_ret
  rw [HE.out]
  exact ⟨_, _, rfl, CellsAt.nil _ _, HB.out⟩
end Go.Proofs.YthpojljfmipngaaGreatDoor
