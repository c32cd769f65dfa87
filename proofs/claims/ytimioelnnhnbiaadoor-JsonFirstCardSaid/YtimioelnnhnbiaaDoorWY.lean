/-
  THE WALKS, twenty-third part: over of the law's package. CONDITIONS: the value lies as JV says.
-/
import Derived.Test.YtimioelnnhnbiaaDoorWX
namespace Go.Proofs.YtimioelnnhnbiaaDoor
open Go.RowKit
set_option maxRecDepth 100000 in
set_option maxHeartbeats 400000 in
theorem over_any (x : Js.J) (vs : List Value) (S : Nat → Prop) (w : World) (hjv : JV w S x vs) (hS : ∀ g, S g → g < w.heap.size) :
    Calls Tryd.prog 8 #[.agg vs.toArray] w fun e w' => e = .returned (.bool (Js.over x)) ∧ Below w.heap.size w w' := by
  obtain ⟨A5, c5, A6, c6, k0, b0, n0, t0, l5, l6, rfl⟩ := hjv.shape
  have b1 := below_box w (.cells #[.int .i64 k0, .bool b0, .int .i64 n0, .string t0, .slice A5 l5 c5, .slice A6 l6 c6] 25)
  have s1 : (w.alloc (.cells #[.int .i64 k0, .bool b0, .int .i64 n0, .string t0, .slice A5 l5 c5, .slice A6 l6 c6] 25)).heap.size = w.heap.size + 1 := by simp
  have HB1 : Hid (JBox (w.alloc (.cells #[.int .i64 k0, .bool b0, .int .i64 n0, .string t0, .slice A5 l5 c5, .slice A6 l6 c6] 25)) w.heap.size (.int .i64 k0) (.bool b0) (.int .i64 n0) (.string t0) (.slice A5 l5 c5) (.slice A6 l6 c6)) := Lib.hid (heap_alloc_new w (.cells #[.int .i64 k0, .bool b0, .int .i64 n0, .string t0, .slice A5 l5 c5, .slice A6 l6 c6] 25))
  have HJ1 := Lib.hid (hjv.next b1)
  have HX1 := Lib.hid b1
  clear b1 hjv
  go_enter Tryd.func8, Tryd.ntmps8
  go_upto_region 1 with fail
  generalize (w.alloc (.cells #[.int .i64 k0, .bool b0, .int .i64 n0, .string t0, .slice A5 l5 c5, .slice A6 l6 c6] 25)) = w1 at HB1 HJ1 HX1 s1 ⊢
  have b2 := below_box w1 (.cells #[.int .i64 70000] 3)
  have HN2 : Hid (NAt (w1.alloc (.cells #[.int .i64 70000] 3)) w1.heap.size 70000) := Lib.hid (heap_alloc_new w1 (.cells #[.int .i64 70000] 3))
  have HJ2 := Lib.hid (HJ1.out.next b2)
  have HB2 := Lib.hid (HB1.out.next b2)
  have HX2 := Lib.hid (HX1.out.trans (b2.mono (by omega)))
  clear b2
  obtain ⟨x0, x1, x2, x3, x4, x5⟩ := HB2.out.cells
  have hns : ¬ S w1.heap.size := fun h => absurd (hS _ h) (by omega)
  have HL := Lib.hid (lrg_any (Js.nodes x) x _ S 0 70000 _ w1.heap.size (Nat.le_refl _) HJ2.out hns HN2.out (by decide) (by decide) (by decide))
  have hsz : (w1.alloc (.cells #[.int .i64 70000] 3)).heap.size = w1.heap.size + 1 := by simp
  go_upto_region 2 with fail
  generalize (w1.alloc (.cells #[.int .i64 70000] 3)) = w2 at HL HB2 HX2 hsz x0 x1 x2 x3 x4 x5 ⊢
  clear HN2 HJ2
  rw [s1] at hsz
  rw [s1] at HL
  go_wp2_with fail
  refine HL.out.mono ?_
  rintro e2 w7 ⟨rfl, -, hk7⟩
  have HW7 := Lib.hid (HX2.out.trans (hk7.to (B := w.heap.size) (by omega) (by intro j hj; simp at hj; omega)))
  clear hk7
  go_wp2_with fail
  go_ret
  exact ⟨rfl, HW7.out⟩
end Go.Proofs.YtimioelnnhnbiaaDoor
