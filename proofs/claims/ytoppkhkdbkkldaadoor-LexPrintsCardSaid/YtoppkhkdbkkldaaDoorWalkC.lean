/-
  THE WALKS, third part: closing and sign of package lex; what the package-level variables hold.
-/
import Derived.Test.YtoppkhkdbkkldaaDoorWalkB
import Derived.Test.YtoppkhkdbkkldaaDoorNum
import Derived.Test.YtoppkhkdbkkldaaDoorBld
namespace Go.Proofs.YtoppkhkdbkkldaaDoor
open Go.RowKit
/-- What the package-level variables hold that the walks come to. -/
structure Env (w : World) : Prop where
  maxLen : ∃ m, w.cell? ⟨0, 0, none⟩ = some (.int .i64 m)
  errRange : ∃ ev, w.cell? ⟨2, 0, none⟩ = some ev ∧ (ev = .nilIface ∨ ∃ te pe, ev = .iface te pe)
  big : 6 ≤ w.heap.size
theorem Env.below {B : Nat} {w w' : World} (h : Env w) (hb : Below B w w') (hB : 6 ≤ B) : Env w' := by
  obtain ⟨⟨m, hm⟩, ⟨ev, hev, hk⟩, hbig⟩ := h
  exact ⟨⟨m, (hb.cell (p := ⟨0, 0, none⟩) (by show 0 < B; omega)).trans hm⟩, ⟨ev, (hb.cell (p := ⟨2, 0, none⟩) (by show 2 < B; omega)).trans hev, hk⟩, Nat.le_trans hbig hb.size⟩
theorem Env.next {w w' : World} (h : Env w) (hb : Below w.heap.size w w') : Env w' := h.below hb h.big
theorem Env.drew {w : World} (h : Env w) : Env w.drew := ⟨h.maxLen, h.errRange, h.big⟩
theorem Env.alloc {w : World} (h : Env w) (o : Obj) : Env (w.alloc o) := h.next ((Below.refl _ _).alloc (Nat.le_refl _) o)
theorem below_box (w : World) (o : Obj) : Below w.heap.size w (w.alloc o) := (Below.refl _ _).alloc (Nat.le_refl _) o

set_option maxHeartbeats 400000 in
theorem closing_any (k a : Int) (t : ByteArray) (w : World) (henv : Env w) :
    Calls Tryd.prog 36 #[.agg #[.int .i64 k, .string t, .int .i64 a]] w fun e w' => e = .returned (.bool (Lx.isClosing ⟨k, t.data.toList, a⟩)) ∧ Below w.heap.size w w' := by
  have he := henv.alloc (.cells #[.int .i64 k, .string t, .int .i64 a] 32)
  obtain ⟨m, hm⟩ := he.maxLen
  by_cases e4 : k = 4
  · subst e4
    go_enter Tryd.func36, Tryd.ntmps36
    go_wp2_with (go_at_call 55; refine (Tryd.strings_Contains _ _ m _ (by decide) hm).mono ?_; rintro e w' ⟨rfl, rfl⟩)
    · have h : Lib.contains [41, 93, 125] t.data.toList = true := by assumption
      go_ret
      exact ⟨ret_bool (by simp [Lx.isClosing, h, Lib.toList_data]), below_box _ _⟩
    · have h : ¬ Lib.contains [41, 93, 125] t.data.toList = true := by assumption
      go_ret
      exact ⟨ret_bool (by simp [Lx.isClosing, h]), below_box _ _⟩
  · go_enter Tryd.func36, Tryd.ntmps36
    go_wp2_with fail
    all_goals go_ret
    all_goals exact ⟨ret_boolI (by simp [Lx.isClosing] at *; omega), below_box _ _⟩

theorem beq_dec (a b : List UInt8) : (a == b) = decide (a = b) := by
  by_cases h : a = b
  · subst h; simp
  · rw [beq_eq_false_iff_ne.2 h]; simp [h]
theorem sign_mem2 (s : ByteArray) : Lx.twoSigns.contains (s.data.toList.take 2) = ((s.extract 0 2).toList == [58, 61] || (s.extract 0 2).toList == [61, 61] || (s.extract 0 2).toList == [33, 61] || (s.extract 0 2).toList == [60, 61] || (s.extract 0 2).toList == [62, 61] || (s.extract 0 2).toList == [38, 38] || (s.extract 0 2).toList == [124, 124]) := by
  have e : s.data.toList.take 2 = (s.extract 0 2).toList := by rw [Lib.extract_toList]; simp
  rw [e]
  simp [Lx.twoSigns, Bool.or_assoc, beq_dec]
theorem sign_two {s : ByteArray} (h : Lx.twoSigns.contains (s.data.toList.take 2) = true) : Lx.signLen s.data.toList = 2 := by rw [Lx.signLen.eq_def, if_pos h]
theorem sign_one {s : ByteArray} (h : Lx.twoSigns.contains (s.data.toList.take 2) = false) (h0 : 0 < s.size) (h1 : 0 ≤ Lib.indexByte [40, 41, 123, 125, 91, 93, 44, 46, 58, 61, 43, 45, 42, 47, 37, 60, 62, 33] s[0]) : Lx.signLen s.data.toList = 1 := by
  have e := drop_byte s 0 h0
  rw [List.drop_zero] at e
  have hc : Lx.oneSigns.contains s[0] = true := (Lx.indexByte_nonneg _ _).1 h1
  rw [Lx.signLen.eq_def, if_neg (by rw [h]; exact Bool.false_ne_true), e]
  simp only []
  rw [if_pos hc]
theorem sign_none {s : ByteArray} (h : Lx.twoSigns.contains (s.data.toList.take 2) = false) (h0 : 0 < s.size) (h1 : Lib.indexByte [40, 41, 123, 125, 91, 93, 44, 46, 58, 61, 43, 45, 42, 47, 37, 60, 62, 33] s[0] < 0) : Lx.signLen s.data.toList = 0 := by
  have e := drop_byte s 0 h0
  rw [List.drop_zero] at e
  have hc : ¬ Lx.oneSigns.contains s[0] = true := fun hc => by have := (Lx.indexByte_nonneg _ _).2 hc; unfold Lx.oneSigns at this; omega
  rw [Lx.signLen.eq_def, if_neg (by rw [h]; exact Bool.false_ne_true), e]
  simp only []
  rw [if_neg hc]
theorem sign_short {s : ByteArray} (h : ¬ 1 < s.size) : Lx.twoSigns.contains (s.data.toList.take 2) = false := by
  have hl : (s.data.toList.take 2).length ≤ 1 := by rw [List.length_take, ← Lib.size_eq]; omega
  generalize s.data.toList.take 2 = l at hl
  match l, hl with
  | [], _ => rfl
  | [a], _ => simp [Lx.twoSigns]

set_option maxHeartbeats 1000000 in
theorem sign_any (s : ByteArray) (h0 : 0 < s.size) (w : World) :
    Calls Tryd.prog 60 #[.string s] w fun e w' => e = .returned (.int .i64 (Lx.signLen s.data.toList)) ∧ w = w' := by
  by_cases h1 : 1 < s.size
  · go_enter Tryd.func60, Tryd.ntmps60
    go_wp2_with (go_at_call 66; refine (Tryd.strings_IndexByte _ _ _).mono ?_; rintro e w' ⟨rfl, rfl⟩)
    all_goals go_ret
    all_goals first
      | (exfalso; simp_all; done)
      | exact ⟨ret_int (by rw [sign_two (by rw [sign_mem2]; simp [*])]; rfl), rfl⟩
      | exact ⟨ret_int (by rw [sign_one (by rw [sign_mem2]; simp [*]) h0 (by assumption)]; rfl), rfl⟩
      | exact ⟨ret_int (by rw [sign_none (by rw [sign_mem2]; simp [*]) h0 (by assumption)]; rfl), rfl⟩
  · have hs := Lib.hid (sign_short h1)
    go_enter Tryd.func60, Tryd.ntmps60
    go_wp2_with (go_at_call 66; refine (Tryd.strings_IndexByte _ _ _).mono ?_; rintro e w' ⟨rfl, rfl⟩)
    all_goals go_ret
    all_goals first
      | exact ⟨ret_int (by rw [sign_one hs.out h0 (by assumption)]; rfl), rfl⟩
      | exact ⟨ret_int (by rw [sign_none hs.out h0 (by assumption)]; rfl), rfl⟩
end Go.Proofs.YtoppkhkdbkkldaaDoor
