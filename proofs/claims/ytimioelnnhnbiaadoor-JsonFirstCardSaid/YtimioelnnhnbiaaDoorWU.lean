/-
  THE WALKS, twentieth part: Check, Encode of package json. CONDITIONS: the value lies as JV says, its numbers in range; it is not too large.
-/
import Derived.Test.YtimioelnnhnbiaaDoorWT
import Derived.Lib.ItoaLen
namespace Go.Proofs.YtimioelnnhnbiaaDoor
open Go.RowKit
namespace Js
mutual
theorem text_len : ∀ (x : J), inR x = true → (textOf x).length + 6 ≤ 30 * nodes x + 6 * bytes x
  | .mk k b n t l m, h => by
    have hh : (decide (-9223372036854775808 ≤ n) && decide (n ≤ 9223372036854775807) && decide (-9223372036854775808 ≤ k) && decide (k ≤ 9223372036854775807) && inRL l && inRM m) = true := h
    simp only [Bool.and_eq_true, decide_eq_true_eq] at hh
    obtain ⟨⟨⟨⟨⟨h1, h2⟩, _⟩, _⟩, h3⟩, h4⟩ := hh
    have hl := textL_len l true h3
    have hm := textM_len m true h4
    have hi := Lib.itoa_length_le n h1 h2
    have hq := quote_le t
    unfold textOf nodes bytes
    split
    · show 4 + 6 ≤ _; omega
    split
    · split
      · show 4 + 6 ≤ _; omega
      · show 5 + 6 ≤ _; omega
    split
    · omega
    split
    · omega
    split
    · rw [List.length_cons, List.length_append, List.length_singleton]; omega
    · rw [List.length_cons, List.length_append, List.length_singleton]; omega
theorem textL_len : ∀ (l : List J) (f : Bool), inRL l = true → (textL l f).length ≤ 30 * nodesL l + 6 * bytesL l
  | [], f, _ => by unfold textL; exact Nat.zero_le _
  | x :: t, f, h => by
    have hh : (inR x && inRL t) = true := h
    rw [Bool.and_eq_true] at hh
    have h1 := text_len x hh.1
    have h2 := textL_len t false hh.2
    unfold textL nodesL bytesL
    rw [List.length_append, List.length_append]
    cases f <;> simp <;> omega
theorem textM_len : ∀ (l : List (Bs × J)) (f : Bool), inRM l = true → (textM l f).length ≤ 30 * nodesM l + 6 * bytesM l
  | [], f, _ => by unfold textM; exact Nat.zero_le _
  | (n, x) :: t, f, h => by
    have hh : (inR x && inRM t) = true := h
    rw [Bool.and_eq_true] at hh
    have h1 := text_len x hh.1
    have h2 := textM_len t false hh.2
    have h3 := quote_le n
    unfold textM nodesM bytesM
    rw [List.length_append, List.length_append, List.length_cons, List.length_append]
    cases f <;> simp <;> omega
theorem quote_le (s : Bs) : (quote s).length ≤ 6 * s.length + 2 := by
  unfold quote
  have h := flat_esc_len s s.length
  rw [List.take_length] at h
  rw [List.length_cons, List.length_append, List.length_singleton]; omega
end
end Js
/-- What Encode makes of a value. -/
def encText (x : Js.J) : Js.Bs := if Js.right x then Js.textOf x else []
def encErr (x : Js.J) : Int := if Js.right x then 0 else 2
set_option maxRecDepth 100000 in
set_option maxHeartbeats 4000000 in
theorem check_any (x : Js.J) (vs : List Value) (S : Nat → Prop) (w : World) (hjv : JV w S x vs) (hS : ∀ g, S g → g < w.heap.size) (hn : Js.nodes x ≤ 1073741824) (hb : Js.bytes x ≤ 1073741824) (hd : Js.deep x ≤ 1073741823) :
    Calls Tryd.prog 11 #[.agg vs.toArray] w fun e w' => e = .returned (.int .i64 (encErr x)) ∧ Below w.heap.size w w' := by
  have HJ := Lib.hid hjv
  obtain ⟨A5, c5, A6, c6, k0, b0, n0, t0, l5, l6, rfl⟩ := hjv.shape
  have b1 := below_box w (.cells #[.int .i64 k0, .bool b0, .int .i64 n0, .string t0, .slice A5 l5 c5, .slice A6 l6 c6] 25)
  have s1 : (w.alloc (.cells #[.int .i64 k0, .bool b0, .int .i64 n0, .string t0, .slice A5 l5 c5, .slice A6 l6 c6] 25)).heap.size = w.heap.size + 1 := by simp
  have b2 := below_box (w.alloc (.cells #[.int .i64 k0, .bool b0, .int .i64 n0, .string t0, .slice A5 l5 c5, .slice A6 l6 c6] 25)) (.cells #[.int .i64 0, .int .i64 0, .bool false] 57)
  have n2 : MsAt _ _ ⟨0, 0, false⟩ := heap_alloc_new (w.alloc (.cells #[.int .i64 k0, .bool b0, .int .i64 n0, .string t0, .slice A5 l5 c5, .slice A6 l6 c6] 25)) (.cells #[.int .i64 0, .int .i64 0, .bool false] 57)
  rw [s1] at n2
  have HM := Lib.hid n2
  have HB := Lib.hid (b1.trans (b2.mono b1.size))
  have HJ2 := Lib.hid ((HJ.out.next b1).next b2)
  have HR := Lib.hid (Js.check_right x)
  clear hjv HJ b1 s1 b2 n2
  go_enter Tryd.func11, Tryd.ntmps11
  go_wp2_with fail
  generalize ((w.alloc (.cells #[.int .i64 k0, .bool b0, .int .i64 n0, .string t0, .slice A5 l5 c5, .slice A6 l6 c6] 25)).alloc (.cells #[.int .i64 0, .int .i64 0, .bool false] 57)) = w2 at HM HB HJ2 ⊢
  have hSn : ¬ S (w.heap.size + 1) := fun h => by have := hS _ h; omega
  refine (add_any _ x _ S 1 ⟨0, 0, false⟩ _ (w.heap.size + 1) (Nat.le_refl _) HJ2.out hSn HM.out (by show 0 + _ ≤ _; omega) (by show 0 + _ ≤ _; omega) (by omega)).mono ?_
  rintro e w3 ⟨rfl, hm3, hk3⟩
  have hml := Js.meas_le x 1 ⟨0, 0, false⟩
  have hb3 : (Js.meas x 1 ⟨0, 0, false⟩).bytes ≤ 1073741824 := by have : (⟨0, 0, false⟩ : Js.Ms).bytes = 0 := rfl; omega
  generalize Js.meas x 1 ⟨0, 0, false⟩ = s at hm3 HR hb3
  have HM3 := Lib.hid hm3
  have HB3 := Lib.hid (HB.out.trans (hk3.to (by have := HB.out.size; have := HM.out.lt; omega) (by intro j hj; simp at hj; omega)))
  clear hm3 hk3 hml HM HB HJ2
  obtain ⟨c0, c1, c2, -⟩ := HM3.out.cells
  obtain ⟨q, hq⟩ : ∃ q, s.wrong = q := ⟨_, rfl⟩
  rw [hq] at c2 HR
  clear hq
  cases q
  · by_cases hbig : 32768 < s.bytes
    · have qb : decide ((32768 : Int) < (s.bytes : Int)) = true := by simp; omega
      have HE : Hid (Js.right x = false) := Lib.hid (by rw [← HR.out, decide_eq_true hbig]; rfl)
      clear hbig
      go_wp2_with fail
      go_ret
      exact ⟨ret_int (by unfold encErr; rw [HE.out]; rfl), HB3.out⟩
    · have qb : decide ((32768 : Int) < (s.bytes : Int)) = false := by simp; omega
      have HE : Hid (Js.right x = true) := Lib.hid (by rw [← HR.out, decide_eq_false hbig]; rfl)
      clear hbig
      go_wp2_with fail
      go_ret
      exact ⟨ret_int (by unfold encErr; rw [HE.out]; rfl), HB3.out⟩
  · have HE : Hid (Js.right x = false) := Lib.hid (by rw [← HR.out]; rfl)
    go_wp2_with fail
    go_ret
    exact ⟨ret_int (by unfold encErr; rw [HE.out]; rfl), HB3.out⟩
set_option maxRecDepth 100000 in
set_option maxHeartbeats 4000000 in
theorem encode_any (x : Js.J) (vs : List Value) (S : Nat → Prop) (w : World) (hjv : JV w S x vs) (hS : ∀ g, S g → g < w.heap.size) (hn : Js.nodes x ≤ 1073741824) (hb : Js.bytes x ≤ 1073741824) (hd : Js.deep x ≤ 1073741823) (hr : Js.inR x = true) (henv : Env w) :
    Calls Tryd.prog 9 #[.agg vs.toArray] w fun e w' => e = .returned (.tuple #[.string (str (encText x)), .int .i64 (encErr x)]) ∧ Below w.heap.size w w' := by
  obtain ⟨A5, c5, A6, c6, k0, b0, n0, t0, l5, l6, rfl⟩ := hjv.shape
  have b1 := below_box w (.cells #[.int .i64 k0, .bool b0, .int .i64 n0, .string t0, .slice A5 l5 c5, .slice A6 l6 c6] 25)
  have HX1 : Hid (JBox _ w.heap.size _ _ _ _ _ _) := Lib.hid (heap_alloc_new w (.cells #[.int .i64 k0, .bool b0, .int .i64 n0, .string t0, .slice A5 l5 c5, .slice A6 l6 c6] 25))
  have HJ1 := Lib.hid (hjv.next b1)
  have HB1 := Lib.hid b1
  have HE1 := Lib.hid (henv.next b1)
  clear hjv b1
  go_enter Tryd.func9, Tryd.ntmps9
  go_wp2_with fail
  generalize (w.alloc (.cells #[.int .i64 k0, .bool b0, .int .i64 n0, .string t0, .slice A5 l5 c5, .slice A6 l6 c6] 25)) = w1 at HX1 HJ1 HB1 HE1 ⊢
  have hS1 : ∀ g, S g → g < w1.heap.size := fun g h => Nat.lt_of_lt_of_le (hS g h) HB1.out.size
  refine (check_any x _ S _ HJ1.out hS1 hn hb hd).mono ?_
  rintro e w2 ⟨rfl, hb2⟩
  have HJ2 := Lib.hid (HJ1.out.next hb2)
  have HX2 := Lib.hid (HX1.out.next hb2)
  have HB2 := Lib.hid (HB1.out.trans (hb2.mono HB1.out.size))
  have HE2 := Lib.hid (HE1.out.next hb2)
  have hS2 : ∀ g, S g → g < w2.heap.size := fun g h => Nat.lt_of_lt_of_le (hS1 g h) hb2.size
  clear hb2 HJ1 HX1 HB1 HE1 hS1
  by_cases hright : Js.right x = true
  · have HT : Hid (encText x = Js.textOf x) := Lib.hid (by unfold encText; rw [if_pos hright])
    have HC : Hid (encErr x = 0) := Lib.hid (by unfold encErr; rw [if_pos hright])
    have HG : Hid (Js.good x = true ∧ (Js.textOf x).length ≤ 1073741824) := Lib.hid (by
      have h1 := hright
      unfold Js.right at h1
      simp only [Bool.and_eq_true, decide_eq_true_eq] at h1
      have h2 := Js.text_len x hr
      exact ⟨h1.1.1.1, by omega⟩)
    rw [HC.out]
    clear hright
    obtain ⟨x0, x1, x2, x3, x4, x5⟩ := HX2.out.cells
    have hXl := HX2.out.lt
    have b3 := below_box w2 (.cells #[.pointer none, .slice none 0 0] 50)
    have HN3 := Lib.hid (isB_new w2)
    have HJ3 := Lib.hid (HJ2.out.next b3)
    have HB3 := Lib.hid (HB2.out.trans (b3.mono HB2.out.size))
    have HE3 := Lib.hid (HE2.out.next b3)
    clear b3 HJ2 HX2 hn hb hd
    go_wp2_with fail
    generalize (w2.alloc (.cells #[.pointer none, .slice none 0 0] 50)) = w3 at HN3 HJ3 HB3 HE3 ⊢
    obtain ⟨N, hN⟩ : ∃ N, w2.heap.size = N := ⟨_, rfl⟩
    have h4 := HE2.out.big
    rw [hN] at HN3 hS2 h4 ⊢
    have hwN : w.heap.size ≤ N := by rw [← hN]; exact HB2.out.size
    clear hN
    refine (write_any _ x _ S N N [] _ (Nat.le_refl _) HJ3.out hS2 HN3.out HE3.out h4 HG.out.1 hr (by simpa using HG.out.2)).mono ?_
    rintro e w4 ⟨rfl, h5, b5, k5⟩
    have H5 : Hid (IsB N N (Js.textOf x) w4) := Lib.hid (by simpa using h5)
    have HB5 := Lib.hid (HB3.out.trans (b5.mono hwN))
    clear h5 b5 k5 HN3 HJ3 HB3 HE3
    go_wp2_with fail
    refine (bldString_any N N _ _ H5.out).mono ?_
    rintro e w6 ⟨rfl, -, b6, -⟩
    have HB6 := Lib.hid (HB5.out.trans (b6.mono hwN))
    clear b6
    go_wp2_with fail
    go_ret2
    exact ⟨by rw [HT.out, HC.out]; rfl, HB6.out⟩
  · have HT : Hid (encText x = []) := Lib.hid (by unfold encText; rw [if_neg hright])
    have HC : Hid (encErr x = 2) := Lib.hid (by unfold encErr; rw [if_neg hright])
    rw [HC.out]
    clear hright
    go_wp2_with fail
    go_ret2
    exact ⟨by rw [HT.out, HC.out]; rfl, HB2.out⟩
end Go.Proofs.YtimioelnnhnbiaaDoor
