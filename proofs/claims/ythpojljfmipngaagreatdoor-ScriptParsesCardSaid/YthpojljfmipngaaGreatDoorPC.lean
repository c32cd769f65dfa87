/-
  THE WALKS of the document's Parse: nums, unhex of two digits. CONDITIONS: rows lie as CellsAt says.
-/
import Derived.Test.YthpojljfmipngaaGreatDoorPA
import Derived.Test.YthpojljfmipngaaGreatDoorPB
import Derived.Test.YthpojljfmipngaaGreatDoorRefG
namespace Go.Proofs.YthpojljfmipngaaGreatDoor
open Go.RowKit
namespace Rf
def allNum (l : List Sc.Bs) : Bool := l.all fun p => (numR p).2
def vals (l : List Sc.Bs) : List Int := l.map fun p => (numR p).1
end Rf
theorem info3 : (Tryz.prog.info? 3).map (fun i => (i.zero, i.size, i.bytes)) = some (some (.int .i64 0), 1, 8) := by kernel_rfl
set_option maxRecDepth 100000 in
set_option maxHeartbeats 8000000 in
theorem refNums_any (l : List Sc.Bs) (A : Option Addr) (c : Nat) (n : Nat) (w : World) (hl : l.length ≤ 1073741824) (_hn : n ≤ 100) (hA : CellsAt w A (l.map strV)) :
    Calls Tryz.prog 35 #[.slice A l.length c, .int .i64 n] w fun e w' => ∃ F fc vs, e = .returned (.tuple #[.slice F vs fc, .bool (Rf.allNum l && decide (l.length = n))]) ∧ (Rf.allNum l = true → vs = l.length ∧ CellsAt w' F (intCells (Rf.vals l))) ∧ Below w.heap.size w w' := by
  go_enter Tryz.func35, Tryz.ntmps35
  go_wp2_with fail
  go_loopw [6, 8, 9, 10, 13] (fun out _ _ _ i wr => ∃ k : Nat, k ≤ l.length ∧ i = .int .i64 k ∧ Own 3 1 w.heap.size out k (intCells (Rf.vals (l.take k))) wr ∧ Hid (Rf.allNum (l.take k) = true) ∧ Below w.heap.size w wr) (fun _ _ _ _ i _ => l.length - (intOf i).toNat)
  case atStart => exact ⟨0, Nat.zero_le _, rfl, Own.nil _ _ _, rfl, Below.refl _ _⟩
  case round =>
    obtain ⟨k, hk, rfl, hO, H, hb⟩ := hrel
    have HO := Lib.hid hO
    have HB := Lib.hid hb
    clear hO
    by_cases hlt : k < l.length
    · have hx : l[k]? = some l[k] := List.getElem?_eq_getElem hlt
      have HTS : Hid (l.take (k + 1) = l.take k ++ [l[k]]) := Lib.hid (List.take_succ_eq_append_getElem hlt)
      have HNO : Hid ((Rf.numR l[k]).2 = false → Rf.allNum l = false) := Lib.hid (fun h => List.all_eq_false.2 ⟨_, List.getElem_mem hlt, by rw [h]; simp⟩)
      obtain ⟨b, o, rfl, hbl, c1⟩ := hA.at_ hb (k := k) (v := strV l[k]) (by rw [List.getElem?_map, hx]; rfl)
      generalize l[k] = p at HTS HNO c1
      unfold strV at c1
      clear hA hx hb
      go_wp2_with fail
      refine (refNum_any ⟨p.toArray⟩ _).mono ?_
      rintro e w2 ⟨rfl, rfl⟩
      simp only []
      obtain ⟨⟨V, ok⟩, hp⟩ : ∃ q, Rf.numR p = q := ⟨_, rfl⟩
      rw [hp] at HNO ⊢
      have HP := Lib.hid hp
      simp only at HNO ⊢
      clear hp c1 hbl
      cases ok with
      | false =>
        have HF := Lib.hid (HNO.out rfl)
        go_wp2_with fail
        refine bodyPost_ret (v := .tuple #[.slice none 0 0, .bool false]) (by simp [results, Tryz.results35, go_sem]) rfl ⟨none, 0, 0, ?_, fun h => ?_, HB.out⟩
        · rw [HF.out]; rfl
        · rw [HF.out] at h; cases h
      | true =>
        have HVS : Hid (intCells (Rf.vals (l.take (k + 1))) = intCells (Rf.vals (l.take k)) ++ [.int .i64 V]) := Lib.hid (by
          rw [HTS.out]; unfold intCells Rf.vals; rw [List.map_append, List.map_append]; simp [HP.out])
        have HAN : Hid (Rf.allNum (l.take (k + 1)) = true) := Lib.hid (by
          have := H.out
          unfold Rf.allNum at this ⊢
          rw [HTS.out, List.all_append, this]; simp [HP.out])
        go_wp2_with (at_builtin; refine wpList_own_append rfl _ _ 80 3 (.int .i64 0) 1 8 rfl Tryz.underlying80 info3 rfl (by decide) HO.out rfl [.int .i64 V] 1 rfl rfl (by simp [Value.oneCell']) rfl (by unfold maxLen; omega) (by omega) ?_)
        intro v' w3 hO3 hb3
        have HO3 := Lib.hid hO3
        have HB3 := Lib.hid (HB.out.trans hb3)
        clear hO3 hb3
        go_wp2_with fail
        go_roundw
        case rel => exact ⟨k + 1, by omega, by go_num, by rw [HVS.out]; exact HO3.out, HAN, HB3.out⟩
        case measure => simp [intOf]; omega
    · have hke : k = l.length := by omega
      subst hke
      have HF : Hid (Rf.allNum l = true) := by have := H.out; rw [List.take_length] at this; exact Lib.hid this
      have hO2 := HO.out
      rw [List.take_length] at hO2
      obtain ⟨F, fc, rfl, hrow⟩ := hO2.slice
      have HROW := Lib.hid hrow
      clear hb hO2 hrow H HO
      by_cases hln : l.length = n
      · have hln2 : ((l.length : Int) == (n : Int)) = true := by rw [hln]; simp
        have HD : Hid (decide (l.length = n) = true) := Lib.hid (decide_eq_true hln)
        clear hln
        go_wp2_with fail
        all_goals
          refine bodyPost_ret (v := .tuple #[.slice F l.length fc, .bool true]) (by simp [results, Tryz.results35, go_sem]) rfl ⟨F, fc, l.length, ?_, fun _ => ⟨rfl, HROW.out⟩, HB.out⟩
          rw [HF.out, HD.out]; rfl
      · have hln2 : ((l.length : Int) == (n : Int)) = false := by rw [beq_eq_false_iff_ne]; omega
        have HD : Hid (decide (l.length = n) = false) := Lib.hid (decide_eq_false hln)
        clear hln
        go_wp2_with fail
        all_goals
          refine bodyPost_ret (v := .tuple #[.slice F l.length fc, .bool false]) (by simp [results, Tryz.results35, go_sem]) rfl ⟨F, fc, l.length, ?_, fun _ => ⟨rfl, HROW.out⟩, HB.out⟩
          rw [HF.out, HD.out]; rfl
end Go.Proofs.YthpojljfmipngaaGreatDoor
