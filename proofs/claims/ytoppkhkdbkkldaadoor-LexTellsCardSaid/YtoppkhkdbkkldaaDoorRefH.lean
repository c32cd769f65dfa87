/-
  PROVED: what the walks of Number and Word of package lex, and of the reference's Number and Word, hand back. CONDITION: the text's length is at most 2^32.
-/
import Derived.Test.YtoppkhkdbkkldaaDoorRefG
namespace Go.Proofs.YtoppkhkdbkkldaaDoor
open Go.RowKit
def numberRes (t : Lx.Tok) : Value :=
  match Lx.numberOf t with
  | some v => .tuple #[.int .i64 v, .int .i64 0]
  | none => .tuple #[.int .i64 0, .int .i64 201]
theorem numberRes_some {t : Lx.Tok} {v : Nat} (h : Lx.numberOf t = some v) : numberRes t = .tuple #[.int .i64 v, .int .i64 0] := by unfold numberRes; rw [h]
theorem numberRes_none {t : Lx.Tok} (h : Lx.numberOf t = none) : numberRes t = .tuple #[.int .i64 0, .int .i64 201] := by unfold numberRes; rw [h]
def refNumberRes (t : Lx.Tok) : Value :=
  match Lx.numberOf t with
  | some v => .tuple #[.int .i64 v, .bool true]
  | none => .tuple #[.int .i64 0, .bool false]
theorem refNumberRes_some {t : Lx.Tok} {v : Nat} (h : Lx.numberOf t = some v) : refNumberRes t = .tuple #[.int .i64 v, .bool true] := by unfold refNumberRes; rw [h]
theorem refNumberRes_none {t : Lx.Tok} (h : Lx.numberOf t = none) : refNumberRes t = .tuple #[.int .i64 0, .bool false] := by unfold refNumberRes; rw [h]
set_option maxRecDepth 100000 in
set_option maxHeartbeats 2000000 in
theorem number_any (k a : Int) (s : ByteArray) (w : World) (henv : Env w) (hs : s.size ≤ 4294967296) :
    Calls Tryd.prog 23 #[.agg #[.int .i64 k, .string s, .int .i64 a]] w fun e w' => e = .returned (numberRes ⟨k, s.data.toList, a⟩) ∧ Below w.heap.size w w' := by
  have hbox := below_box w (.cells #[.int .i64 k, .string s, .int .i64 a] 32)
  have hEB := henv.below hbox henv.big
  by_cases h2 : k = 2
  · have b2 : (k != 2) = false := by rw [h2]; rfl
    cases hal : Lx.isAlone ⟨k, s.data.toList, a⟩ with
    | false =>
      have HN := Lib.hid (show Lx.numberOf ⟨k, s.data.toList, a⟩ = none by unfold Lx.numberOf; rw [hal]; simp)
      have HA := Lib.hid hal
      clear hal h2
      go_enter Tryd.func23, Tryd.ntmps23
      go_wp2_with fail
      refine (alone_any k a s (by omega) _ hEB).mono ?_
      rintro e w1 ⟨rfl, hb1⟩
      rw [HA.out]
      go_wp2_with fail
      go_ret2
      exact ⟨retv (numberRes_none HN.out).symm, hbox.trans (hb1.mono (by simp))⟩
    | true =>
      obtain ⟨h0, hd, v, hv⟩ := Lx.alone_number (t := ⟨k, s.data.toList, a⟩) h2 hal
      have HN := Lib.hid (show Lx.numberOf ⟨k, s.data.toList, a⟩ = some v by unfold Lx.numberOf; rw [hal, h2]; exact hv)
      have HA := Lib.hid hal
      have HW := Lib.hid (wholeRes_some hv)
      have hpos : 0 < s.size := by
        rw [Lib.size_eq]; exact List.length_pos_iff.2 h0
      have HD := Lib.hid hd
      clear hal h0 hd hv h2
      go_enter Tryd.func23, Tryd.ntmps23
      go_wp2_with fail
      refine (alone_any k a s (by omega) _ hEB).mono ?_
      rintro e w1 ⟨rfl, hb1⟩
      rw [HA.out]
      have c0 : w1.cell? ⟨w.heap.size, 1, none⟩ = some (.string s) := by
        rw [hb1.cell (p := ⟨w.heap.size, 1, none⟩) (by simp)]
        exact (blk_cells (heap_alloc_new w _) 1).trans rfl
      have hE1 := hEB.next hb1
      have hb01 := hbox.trans (hb1.mono (by simp))
      go_wp2_with fail
      refine (whole_any s hpos hs HD.out _ hE1).mono ?_
      rintro e w2 ⟨rfl, hb2⟩
      rw [HW.out]
      go_wp2_with fail
      go_ret2
      exact ⟨retv (numberRes_some HN.out).symm, hb01.trans (hb2.mono hb01.size)⟩
  · have b2 : (k != 2) = true := by rw [bne_iff_ne]; exact h2
    have HN := Lib.hid (show Lx.numberOf ⟨k, s.data.toList, a⟩ = none by unfold Lx.numberOf; simp [h2])
    clear h2
    go_enter Tryd.func23, Tryd.ntmps23
    go_wp2_with fail
    go_ret2
    exact ⟨retv (numberRes_none HN.out).symm, hbox⟩
set_option maxHeartbeats 2000000 in
theorem refNumber_any (k a : Int) (s : ByteArray) (w : World) (hs : s.size ≤ 4294967296) :
    Calls Tryd.prog 24 #[.agg #[.int .i64 k, .string s, .int .i64 a]] w fun e w' => e = .returned (refNumberRes ⟨k, s.data.toList, a⟩) ∧ Below w.heap.size w w' := by
  have hbox := below_box w (.cells #[.int .i64 k, .string s, .int .i64 a] 32)
  have hsame := Lx.refNumber_same ⟨k, s.data.toList, a⟩
  by_cases h2 : k = 2
  · have b2 : (k != 2) = false := by rw [h2]; rfl
    cases hw : Lx.refWhole s.data.toList with
    | none =>
      have HN := Lib.hid (hsame.symm.trans (show Lx.refNumberOf ⟨k, s.data.toList, a⟩ = none by unfold Lx.refNumberOf; rw [if_pos h2]; exact hw))
      have HW := Lib.hid (refWholeRes_none hw)
      clear hsame hw h2
      go_enter Tryd.func24, Tryd.ntmps24
      go_wp2_with (go_at_call 48; refine (refWhole_any _ hs _).mono ?_; rintro e w' ⟨rfl, rfl⟩; rw [HW.out])
      go_ret2
      exact ⟨retv (refNumberRes_none HN.out).symm, hbox⟩
    | some v =>
      have HN := Lib.hid (hsame.symm.trans (show Lx.refNumberOf ⟨k, s.data.toList, a⟩ = some v by unfold Lx.refNumberOf; rw [if_pos h2]; exact hw))
      have HW := Lib.hid (refWholeRes_some hw)
      clear hsame hw h2
      go_enter Tryd.func24, Tryd.ntmps24
      go_wp2_with (go_at_call 48; refine (refWhole_any _ hs _).mono ?_; rintro e w' ⟨rfl, rfl⟩; rw [HW.out])
      go_ret2
      exact ⟨retv (refNumberRes_some HN.out).symm, hbox⟩
  · have b2 : (k != 2) = true := by rw [bne_iff_ne]; exact h2
    have HN := Lib.hid (hsame.symm.trans (show Lx.refNumberOf ⟨k, s.data.toList, a⟩ = none by unfold Lx.refNumberOf; rw [if_neg h2]))
    clear hsame h2
    go_enter Tryd.func24, Tryd.ntmps24
    go_wp2_with fail
    go_ret2
    exact ⟨retv (refNumberRes_none HN.out).symm, hbox⟩
set_option maxHeartbeats 2000000 in
theorem refIsWord_any (s : ByteArray) (w : World) (hs : s.size ≤ 4294967296) :
    Calls Tryd.prog 28 #[.string s] w fun e w' => e = .returned (.bool (Lx.isAlone ⟨1, s.data.toList, 0⟩)) ∧ w = w' := by
  have hL : s.data.toList.length = s.size := (Lib.size_eq s).symm
  rw [Lx.refWord_same]
  by_cases h0 : s.data.toList = []
  · have hne : s.toList = [] := by rw [Lib.toList_data]; exact h0
    have HN := Lib.hid (show Lx.refIsWord s.data.toList = false by rw [h0]; rfl)
    clear h0
    go_enter Tryd.func28, Tryd.ntmps28
    go_wp2_with fail
    go_ret
    exact ⟨ret_bool HN.out.symm, rfl⟩
  · have hne : ¬ s.toList = [] := by rw [Lib.toList_data]; exact h0
    have hne2 : s.toList.isEmpty = false := by rw [Lib.toList_data]; simpa using h0
    have hi : s.data.toList.isEmpty = false := by simpa using h0
    by_cases hw : wordLen s.data.toList = s.data.toList.length
    · have HW := Lib.hid (show ((wordLen s.data.toList : Nat) : Int) = (s.size : Int) by rw [hw, hL])
      have hb : ((s.size : Int) == (s.size : Int)) = true := by simp
      have HN := Lib.hid (show Lx.refIsWord s.data.toList = decide ((s.size : Int) ≤ 24) by unfold Lx.refIsWord; rw [hi, hw, hL]; simp; omega)
      clear h0 hw hi
      go_enter Tryd.func28, Tryd.ntmps28
      go_wp2_with (go_at_call 50; refine (refWord_any _ hs _).mono ?_; rintro e w' ⟨rfl, rfl⟩; rw [HW.out])
      all_goals go_ret
      all_goals exact ⟨ret_bool (by rw [HN.out]), rfl⟩
    · have hb : ((wordLen s.data.toList : Int) == (s.size : Int)) = false := by rw [beq_eq_false_iff_ne, ← hL]; omega
      have HN := Lib.hid (show Lx.refIsWord s.data.toList = false by unfold Lx.refIsWord; rw [decide_eq_false hw]; simp)
      clear h0 hw hi
      go_enter Tryd.func28, Tryd.ntmps28
      go_wp2_with (go_at_call 50; refine (refWord_any _ hs _).mono ?_; rintro e w' ⟨rfl, rfl⟩)
      go_ret
      exact ⟨ret_bool HN.out.symm, rfl⟩
end Go.Proofs.YtoppkhkdbkkldaaDoor
