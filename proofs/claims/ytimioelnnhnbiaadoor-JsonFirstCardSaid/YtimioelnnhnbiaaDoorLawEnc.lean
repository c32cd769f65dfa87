/-
  THE LAW JsonEncodes, walked. CONDITIONS: the value lies as JV says, its numbers are in range; Env.
-/
import Derived.Test.YtimioelnnhnbiaaDoorRC
import Derived.Test.YtimioelnnhnbiaaDoorWV
import Derived.Test.YtimioelnnhnbiaaDoorWY
import Derived.Test.YtimioelnnhnbiaaDoorWZ
namespace Go.Proofs.YtimioelnnhnbiaaDoor
open Go.RowKit
set_option maxRecDepth 100000 in
set_option maxHeartbeats 8000000 in
theorem encodes_law (x : Js.J) (vs : List Value) (S : Nat → Prop) (w : World) (hjv : JV w S x vs) (hS : ∀ g, S g → g < w.heap.size) (hr : Js.inR x = true) (henv : Env w) :
    Calls Tryd.prog 3 #[.agg vs.toArray] w fun e w' => e = .returned (.bool true) ∧ Below w.heap.size w w' := by
  have HX := hjv
  obtain ⟨A5, c5, A6, c6, k0, b0, n0, t0, l5, l6, rfl⟩ := hjv.shape
  have b1 := below_box w (.cells #[.int .i64 k0, .bool b0, .int .i64 n0, .string t0, .slice A5 l5 c5, .slice A6 l6 c6] 25)
  have HB1 : Hid (JBox (w.alloc (.cells #[.int .i64 k0, .bool b0, .int .i64 n0, .string t0, .slice A5 l5 c5, .slice A6 l6 c6] 25)) w.heap.size (.int .i64 k0) (.bool b0) (.int .i64 n0) (.string t0) (.slice A5 l5 c5) (.slice A6 l6 c6)) := Lib.hid (heap_alloc_new w (.cells #[.int .i64 k0, .bool b0, .int .i64 n0, .string t0, .slice A5 l5 c5, .slice A6 l6 c6] 25))
  have HW1 := Lib.hid b1
  clear hjv
  have HALL : Hid (∀ W, Below w.heap.size w W → JV W S x [.int .i64 k0, .bool b0, .int .i64 n0, .string t0, .slice A5 l5 c5, .slice A6 l6 c6] ∧ (∀ g, S g → g < W.heap.size) ∧ Env W) :=
    Lib.hid (fun W hW => ⟨HX.next hW, fun g hg => Nat.lt_of_lt_of_le (hS g hg) hW.size, henv.next hW⟩)
  clear b1 HX hS henv
  go_enter Tryd.func3, Tryd.ntmps3
  go_upto_region 1 with fail
  generalize (w.alloc (.cells #[.int .i64 k0, .bool b0, .int .i64 n0, .string t0, .slice A5 l5 c5, .slice A6 l6 c6] 25)) = w1 at HB1 HW1 ⊢
  obtain ⟨M, hM⟩ : ∃ M, w.heap.size = M := ⟨_, rfl⟩
  rw [hM] at HB1 ⊢
  have HMM := Lib.hid hM
  clear hM
  go_wp2_with fail
  refine (wakes_any w1 (HALL.out _ HW1.out).2.2).mono ?_
  rintro e w2 ⟨rfl, hb2⟩
  have HW2 := Lib.hid (HW1.out.trans (hb2.mono HW1.out.size))
  have HB2 := Lib.hid (HB1.out.next hb2)
  clear hb2 HB1 HW1
  obtain ⟨x0, x1, x2, x3, x4, x5⟩ := HB2.out.cells
  go_wp2_with fail
  obtain ⟨j2, s2, -⟩ := HALL.out _ HW2.out
  refine (over_any x _ S w2 j2 s2).mono ?_
  rintro e w3 ⟨rfl, hb3⟩
  have HW3 := Lib.hid (HW2.out.trans (hb3.mono HW2.out.size))
  have HB3 := Lib.hid (HB2.out.next hb3)
  clear hb3 HB2 HW2 x0 x1 x2 x3 x4 x5 j2 s2
  obtain ⟨ov, hov⟩ : ∃ ov, Js.over x = ov := ⟨_, rfl⟩
  rw [hov]
  cases ov
  rotate_left
  · go_wp2_with fail
    go_ret
    exact ⟨rfl, HW3.out⟩
  have hsm := Js.over_small hov
  have HSM := Lib.hid (show Js.nodes x ≤ 1073741824 ∧ Js.bytes x ≤ 1073741824 ∧ Js.deep x ≤ 1073741823 by omega)
  clear hsm hov
  obtain ⟨x0, x1, x2, x3, x4, x5⟩ := HB3.out.cells
  go_wp2_with fail
  obtain ⟨j3, s3, e3⟩ := HALL.out _ HW3.out
  refine (encode_any x _ S w3 j3 s3 HSM.out.1 HSM.out.2.1 HSM.out.2.2 hr e3).mono ?_
  rintro e w4 ⟨rfl, hb4⟩
  have HW4 := Lib.hid (HW3.out.trans (hb4.mono HW3.out.size))
  have HB4 := Lib.hid (HB3.out.next hb4)
  clear hb4 HB3 HW3 x0 x1 x2 x3 x4 x5 j3 s3 e3
  have HET : Hid (encText x = if Js.right x then Js.textOf x else []) := Lib.hid rfl
  have HEE : Hid (encErr x = if Js.right x then 0 else 2) := Lib.hid rfl
  have HCK := Lib.hid (fun W hj hs => check_any x [.int .i64 k0, .bool b0, .int .i64 n0, .string t0, .slice A5 l5 c5, .slice A6 l6 c6] S W hj hs HSM.out.1 HSM.out.2.1 HSM.out.2.2)
  generalize encText x = T at HET ⊢
  generalize encErr x = E at HEE HCK ⊢
  obtain ⟨x0, x1, x2, x3, x4, x5⟩ := HB4.out.cells
  go_wp2_with fail
  obtain ⟨j4, s4, e4⟩ := HALL.out _ HW4.out
  refine (right_any x _ S w4 j4 HSM.out.1 HSM.out.2.1 (by have := HSM.out.2.2; omega)).mono ?_
  rintro e w5 ⟨rfl, hb5⟩
  have HW5 := Lib.hid (HW4.out.trans (hb5.mono HW4.out.size))
  have HB5 := Lib.hid (HB4.out.next hb5)
  clear hb5 HB4 HW4 x0 x1 x2 x3 x4 x5 j4 s4 e4
  obtain ⟨x0, x1, x2, x3, x4, x5⟩ := HB5.out.cells
  obtain ⟨rt, hrt⟩ : ∃ rt, Js.right x = rt := ⟨_, rfl⟩
  rw [hrt] at HET HEE ⊢
  have HRT := Lib.hid hrt
  clear hrt
  cases rt
  · have ht : T = [] := HET.out
    have he : E = 2 := HEE.out
    subst ht he
    have hw : (str []).toList.isEmpty = true := by rw [str_list]; rfl
    go_wp2_with fail
    obtain ⟨j5, s5, e5⟩ := HALL.out _ HW5.out
    refine (HCK.out w5 j5 s5).mono ?_
    rintro e w6 ⟨rfl, hb6⟩
    have HW6 := Lib.hid (HW5.out.trans (hb6.mono HW5.out.size))
    clear hb6 j5 s5 e5
    go_wp2_with fail
    go_ret
    exact ⟨rfl, HW6.out⟩
  · have ht : T = Js.textOf x := HET.out
    have he : E = 0 := HEE.out
    subst ht he
    have hgd : Js.good x = true := by
      have := HRT.out
      unfold Js.right at this
      simp only [Bool.and_eq_true] at this
      exact this.1.1.1
    have htl := Js.text_len x hr
    have htl2 : (Js.textOf x).length ≤ 1073741824 := by
      have := HRT.out
      unfold Js.right at this
      simp only [Bool.and_eq_true, decide_eq_true_eq] at this
      omega
    go_wp2_with fail
    obtain ⟨j5, s5, e5⟩ := HALL.out _ HW5.out
    refine (HCK.out w5 j5 s5).mono ?_
    rintro e w6 ⟨rfl, hb6⟩
    have HW6 := Lib.hid (HW5.out.trans (hb6.mono HW5.out.size))
    have HB6 := Lib.hid (HB5.out.next hb6)
    clear hb6 j5 s5 e5 HB5 HW5 x0 x1 x2 x3 x4 x5
    obtain ⟨x0, x1, x2, x3, x4, x5⟩ := HB6.out.cells
    go_wp2_with fail
    obtain ⟨j6, s6, e6⟩ := HALL.out _ HW6.out
    refine (reftext_any _ x _ S w6 (Nat.le_refl _) j6 hgd hr htl2).mono ?_
    rintro e w7 ⟨rfl, hb7⟩
    have HW7 := Lib.hid (HW6.out.trans (hb7.mono HW6.out.size))
    clear hb7
    go_wp2_with fail
    go_ret
    exact ⟨rfl, HW7.out⟩
theorem encodes_at (x : Js.J) (vs : List Value) (w : World) (henv : Env w) (hjv : JV w (fun g => g < w.heap.size) x vs) (hr : Js.inR x = true) :
    Calls Tryd.prog 3 #[.agg vs.toArray] w fun e w' => e = .returned (.bool true) ∧ Below w.heap.size w w' := encodes_law x vs _ w hjv (fun _ h => h) hr henv
end Go.Proofs.YtimioelnnhnbiaaDoor
