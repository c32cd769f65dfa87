/-
  THE WALKS, twenty-first part: wakes of the law's package. CONDITIONS: Env.
-/
import Derived.Test.YtimioelnnhnbiaaDoorEnough
import Derived.Test.YtimioelnnhnbiaaDoorWU
import Derived.Laws.StructEq
import Derived.ChangeKeysEq
namespace Go.Proofs.YtimioelnnhnbiaaDoor
open Go.RowKit
def wakeS : Js.Bs := [123, 34, 97, 34, 58, 91, 49, 44, 45, 50, 44, 110, 117, 108, 108, 93, 44, 34, 98, 34, 58, 34, 92, 117, 48, 48, 52, 49, 92, 110, 34, 125]
def wakeT : Js.Bs := [123, 34, 97, 34, 58, 91, 49, 44, 45, 50, 44, 110, 117, 108, 108, 93, 44, 34, 98, 34, 58, 34, 65, 92, 110, 34, 125]
def wakeOk : Js.Res Js.J → Bool
  | .ok x st => decide (st.at_ = 32) && !st.large && Js.right x && Js.inR x && decide (Js.textOf x = wakeT)
  | _ => false
theorem wake_run : wakeOk (run wakeS) = true := by decide +kernel
theorem wake_parse : ∃ x st, run wakeS = .ok x st ∧ ¬ st.at_ < wakeS.length ∧ st.large = false ∧ Js.right x = true ∧ Js.inR x = true ∧ Js.textOf x = wakeT := by
  have h := wake_run
  cases hr : run wakeS with
  | ok x st =>
    rw [hr] at h
    unfold wakeOk at h
    simp only [Bool.and_eq_true, decide_eq_true_eq, Bool.not_eq_true'] at h
    obtain ⟨⟨⟨⟨h1, h2⟩, h3⟩, h4⟩, h5⟩ := h
    exact ⟨x, st, rfl, by rw [h1]; decide, h2, h3, h4, h5⟩
  | bad k => rw [hr] at h; cases h
  | out => rw [hr] at h; cases h
theorem right_small {x : Js.J} (h : Js.right x = true) : Js.nodes x ≤ 1073741824 ∧ Js.bytes x ≤ 1073741824 ∧ Js.deep x ≤ 1073741823 := by
  unfold Js.right at h
  simp only [Bool.and_eq_true, decide_eq_true_eq] at h
  omega
set_option maxRecDepth 100000 in
set_option maxHeartbeats 4000000 in
theorem wakes_any (w : World) (henv : Env w) : Calls Tryd.prog 7 #[] w fun e w' => e = .returned (.bool true) ∧ Below w.heap.size w w' := by
  obtain ⟨x, st, hrun, hat, hlg, hrt, hin, htx⟩ := wake_parse
  have HD := Lib.hid (decode_run wakeS (by decide) w)
  rw [hrun] at HD
  have HRT := Lib.hid hrt
  have HTX := Lib.hid htx
  have HAT := Lib.hid hat
  have HLG := Lib.hid hlg
  clear hrun hat hlg hrt htx
  go_enter Tryd.func7, Tryd.ntmps7
  go_wp2_with fail
  refine HD.out.mono ?_
  rintro e w1 ⟨hb1, ho⟩
  rw [if_neg HAT.out, if_neg (by rw [HLG.out]; simp)] at ho
  obtain ⟨vs, rfl, hjv⟩ := ho
  obtain ⟨A5, c5, A6, c6, k0, b0, n0, t0, l5, l6, rfl⟩ := hjv.shape
  have b2 := below_box w1 (.cells #[.int .i64 k0, .bool b0, .int .i64 n0, .string t0, .slice A5 l5 c5, .slice A6 l6 c6] 25)
  have s2 : (w1.alloc (.cells #[.int .i64 k0, .bool b0, .int .i64 n0, .string t0, .slice A5 l5 c5, .slice A6 l6 c6] 25)).heap.size = w1.heap.size + 1 := by simp
  have b3 := below_box (w1.alloc (.cells #[.int .i64 k0, .bool b0, .int .i64 n0, .string t0, .slice A5 l5 c5, .slice A6 l6 c6] 25)) (.cells #[.int .i64 0, .int .i64 0] 34)
  have n3 : SBox _ _ 0 0 := heap_alloc_new (w1.alloc (.cells #[.int .i64 k0, .bool b0, .int .i64 n0, .string t0, .slice A5 l5 c5, .slice A6 l6 c6] 25)) (.cells #[.int .i64 0, .int .i64 0] 34)
  rw [s2] at n3
  have HJ3 := Lib.hid (((hjv.next b2).next b3).wide (T := fun g => g < ((w1.alloc (.cells #[.int .i64 k0, .bool b0, .int .i64 n0, .string t0, .slice A5 l5 c5, .slice A6 l6 c6] 25)).alloc (.cells #[.int .i64 0, .int .i64 0] 34)).heap.size) (fun g _ h => h))
  have HB3 := Lib.hid ((hb1.trans (b2.mono hb1.size)).trans (b3.mono (by rw [s2]; have := hb1.size; omega)))
  have HS3 := Lib.hid n3
  have HE3 := Lib.hid (((henv.next hb1).next b2).next b3)
  clear hjv b2 b3 n3 s2 hb1 HD henv
  unfold spot
  go_wp2_with fail
  generalize ((w1.alloc (.cells #[.int .i64 k0, .bool b0, .int .i64 n0, .string t0, .slice A5 l5 c5, .slice A6 l6 c6] 25)).alloc (.cells #[.int .i64 0, .int .i64 0] 34)) = w3 at HJ3 HB3 HS3 HE3 ⊢
  obtain ⟨h1, h2, h3⟩ := right_small HRT.out
  refine (encode_any x _ _ _ HJ3.out (fun g h => h) h1 h2 h3 hin HE3.out).mono ?_
  rintro e w4 ⟨rfl, hb4⟩
  have HB4 := Lib.hid (HB3.out.trans (hb4.mono HB3.out.size))
  have HS4 : Hid (SBox w4 (w1.heap.size + 1) 0 0) := Lib.hid (blk_next hb4 HS3.out)
  have he : encErr x = 0 := by unfold encErr; rw [HRT.out]; rfl
  have ht : encText x = wakeT := by unfold encText; rw [HRT.out]; exact HTX.out
  rw [he, ht]
  clear hb4 he ht h1 h2 h3 HJ3 HB3 HS3 HE3
  obtain ⟨d0, d1, -, -⟩ := HS4.out.cells
  have hw : (str wakeT == (⟨#[123, 34, 97, 34, 58, 91, 49, 44, 45, 50, 44, 110, 117, 108, 108, 93, 44, 34, 98, 34, 58, 34, 65, 92, 110, 34, 125]⟩ : ByteArray)) = true := by decide
  unfold str wakeT
  go_wp2_with fail
  go_ret
  exact ⟨rfl, HB4.out⟩
end Go.Proofs.YtimioelnnhnbiaaDoor
