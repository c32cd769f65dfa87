/-
  Joined: WU WV Row. CONDITIONS: as each law says.
-/
import Derived.Test.YtimioelnnhnbiaaGreatDoorQ13
import Derived.Lib.ItoaLen
import Derived.Test.YtimioelnnhnbiaaGreatDoorQ10
import Derived.Laws.StructEq
import Derived.ChangeKeysEq
import Derived.Test.YtimioelnnhnbiaaGreatDoorCards
import Derived.Test.YtimioelnnhnbiaaGreatDoorTie
import Derived.Test.YtimioelnnhnbiaaGreatDoorQ00
import Derived.WalkKit
import Derived.ProofKit
import Derived.OpenShut
import Derived.OpenVars
import Derived.Deep.DeepHandedRow
import Derived.Deep.DeepWitnessRowRef
import Derived.Deep.Slices
import Derived.Deep.Fields
import Derived.ChangeSame
import Derived.Shelf.Vars
import Derived.Stop.LaidErr
import Derived.LaidMore
import Derived.Lib.LaidTab
namespace Go.Proofs.YtimioelnnhnbiaaGreatDoor
open Go.RowKit
namespace Js
mutual
theorem text_len : ∀ (x : J), inR x = true → (textOf x).length + 6 ≤ 30 * nodes x + 6 * bytes x
 | .mk k b n t l m, h => by
  have hh : (decide (-9223372036854775808 ≤ n) && decide (n ≤ 9223372036854775807) && decide (-9223372036854775808 ≤ k) && decide (k ≤ 9223372036854775807) && inRL l && inRM m) = true := h
  simp only [Bool.and_eq_true, decide_eq_true_eq] at hh
  obtain ⟨⟨⟨⟨⟨h1, h2⟩, _⟩, _⟩, h3⟩, h4⟩ := hh
  have hl := textL_len l true h3
  have hm := textM_len m true h4
  have hi := Lib.itoa_length_le n h1 h2
  have hq := quote_le t
  unfold textOf nodes bytes
  split
  ·show 4 + 6 ≤ _; omega
  split
  ·split
   ·show 4 + 6 ≤ _; omega
   ·show 5 + 6 ≤ _; omega
  split
  ·omega
  split
  ·omega
  split
  ·rw [List.length_cons, List.length_append, List.length_singleton]; omega
  ·rw [List.length_cons, List.length_append, List.length_singleton]; omega
theorem textL_len : ∀ (l : List J) (f : Bool), inRL l = true → (textL l f).length ≤ 30 * nodesL l + 6 * bytesL l
 | [], f, _ => by unfold textL; exact Nat.zero_le _
 | x :: t, f, h => by
  have hh : (inR x && inRL t) = true := h
  rw [Bool.and_eq_true] at hh
  have h1 := text_len x hh.1
  have h2 := textL_len t false hh.2
  unfold textL nodesL bytesL
  rw [List.length_append, List.length_append]
  cases f <;> simp <;> omega
theorem textM_len : ∀ (l : List (Bs × J)) (f : Bool), inRM l = true → (textM l f).length ≤ 30 * nodesM l + 6 * bytesM l
 | [], f, _ => by unfold textM; exact Nat.zero_le _
 | (n, x) :: t, f, h => by
  have hh : (inR x && inRM t) = true := h
  rw [Bool.and_eq_true] at hh
  have h1 := text_len x hh.1
  have h2 := textM_len t false hh.2
  have h3 := quote_le n
  unfold textM nodesM bytesM
  rw [List.length_append, List.length_append, List.length_cons, List.length_append]
  cases f <;> simp <;> omega
theorem quote_le (s : Bs) : (quote s).length ≤ 6 * s.length + 2 := by
 unfold quote
 have h := flat_esc_len s s.length
 rw [List.take_length] at h
 rw [List.length_cons, List.length_append, List.length_singleton]; omega
end
end Js
/-- What Encode makes of a value. -/
def encText (x : Js.J) : Js.Bs := if Js.right x then Js.textOf x else []
def encErr (x : Js.J) : Int := if Js.right x then 0 else 2
set_option maxRecDepth 100000 in
set_option maxHeartbeats 4000000 in
theorem check_any (x : Js.J) (vs : List Value) (S : Nat → Prop) (w : World) (hjv : JV w S x vs) (hS : ∀ g, S g → g < w.heap.size) (hn : Js.nodes x ≤ 1073741824) (hb : Js.bytes x ≤ 1073741824) (hd : Js.deep x ≤ 1073741823) :
  Calls Tryz.prog 19 #[.agg vs.toArray] w fun e w' => e = .returned (.int .i64 (encErr x)) ∧ Below w.heap.size w w' := by
 have HJ := Lib.hid hjv
 obtain ⟨A5, c5, A6, c6, k0, b0, n0, t0, l5, l6, rfl⟩ := hjv.shape
 have b1 := below_box w (.cells #[.int .i64 k0, .bool b0, .int .i64 n0, .string t0, .slice A5 l5 c5, .slice A6 l6 c6] 25)
 have s1 : (w.alloc (.cells #[.int .i64 k0, .bool b0, .int .i64 n0, .string t0, .slice A5 l5 c5, .slice A6 l6 c6] 25)).heap.size = w.heap.size + 1 := by simp
 have b2 := below_box (w.alloc (.cells #[.int .i64 k0, .bool b0, .int .i64 n0, .string t0, .slice A5 l5 c5, .slice A6 l6 c6] 25)) (.cells #[.int .i64 0, .int .i64 0, .bool false] 117)
 have n2 : MsAt _ _ ⟨0, 0, false⟩ := heap_alloc_new (w.alloc (.cells #[.int .i64 k0, .bool b0, .int .i64 n0, .string t0, .slice A5 l5 c5, .slice A6 l6 c6] 25)) (.cells #[.int .i64 0, .int .i64 0, .bool false] 117)
 rw [s1] at n2
 have HM := Lib.hid n2
 have HB := Lib.hid (b1.trans (b2.mono b1.size))
 have HJ2 := Lib.hid ((HJ.out.next b1).next b2)
 have HR := Lib.hid (Js.check_right x)
 clear hjv HJ b1 s1 b2 n2
 go_enter Tryz.func19, Tryz.ntmps19
 go_wp2_with fail
 generalize ((w.alloc (.cells #[.int .i64 k0, .bool b0, .int .i64 n0, .string t0, .slice A5 l5 c5, .slice A6 l6 c6] 25)).alloc (.cells #[.int .i64 0, .int .i64 0, .bool false] 117)) = w2 at HM HB HJ2 ⊢
 have hSn : ¬ S (w.heap.size + 1) := fun h => by have := hS _ h; omega
 refine (add_any _ x _ S 1 ⟨0, 0, false⟩ _ (w.heap.size + 1) (Nat.le_refl _) HJ2.out hSn HM.out (by show 0 + _ ≤ _; omega) (by show 0 + _ ≤ _; omega) (by omega)).mono ?_
 rintro e w3 ⟨rfl, hm3, hk3⟩
 have hml := Js.meas_le x 1 ⟨0, 0, false⟩
 have hb3 : (Js.meas x 1 ⟨0, 0, false⟩).bytes ≤ 1073741824 := by have : (⟨0, 0, false⟩ : Js.Ms).bytes = 0 := rfl; omega
 generalize Js.meas x 1 ⟨0, 0, false⟩ = s at hm3 HR hb3
 have HM3 := Lib.hid hm3
 have HB3 := Lib.hid (HB.out.trans (hk3.to (by have := HB.out.size; have := HM.out.lt; omega) (by intro j hj; simp at hj; omega)))
 clear hm3 hk3 hml HM HB HJ2
 obtain ⟨c0, c1, c2, -⟩ := HM3.out.cells
 obtain ⟨q, hq⟩ : ∃ q, s.wrong = q := ⟨_, rfl⟩
 rw [hq] at c2 HR
 clear hq
 cases q
 ·by_cases hbig : 32768 < s.bytes
  ·have qb : decide ((32768 : Int) < (s.bytes : Int)) = true := by simp; omega
   have HE : Hid (Js.right x = false) := Lib.hid (by rw [← HR.out, decide_eq_true hbig]; rfl)
   clear hbig
   go_wp2_with fail
   go_ret
   exact ⟨ret_int (by unfold encErr; rw [HE.out]; rfl), HB3.out⟩
  ·have qb : decide ((32768 : Int) < (s.bytes : Int)) = false := by simp; omega
   have HE : Hid (Js.right x = true) := Lib.hid (by rw [← HR.out, decide_eq_false hbig]; rfl)
   clear hbig
   go_wp2_with fail
   go_ret
   exact ⟨ret_int (by unfold encErr; rw [HE.out]; rfl), HB3.out⟩
 ·have HE : Hid (Js.right x = false) := Lib.hid (by rw [← HR.out]; rfl)
  go_wp2_with fail
  go_ret
  exact ⟨ret_int (by unfold encErr; rw [HE.out]; rfl), HB3.out⟩
set_option maxRecDepth 100000 in
set_option maxHeartbeats 4000000 in
theorem encode_any (x : Js.J) (vs : List Value) (S : Nat → Prop) (w : World) (hjv : JV w S x vs) (hS : ∀ g, S g → g < w.heap.size) (hn : Js.nodes x ≤ 1073741824) (hb : Js.bytes x ≤ 1073741824) (hd : Js.deep x ≤ 1073741823) (hr : Js.inR x = true) (henv : Env w) :
  Calls Tryz.prog 17 #[.agg vs.toArray] w fun e w' => e = .returned (.tuple #[.string (str (encText x)), .int .i64 (encErr x)]) ∧ Below w.heap.size w w' := by
 obtain ⟨A5, c5, A6, c6, k0, b0, n0, t0, l5, l6, rfl⟩ := hjv.shape
 have b1 := below_box w (.cells #[.int .i64 k0, .bool b0, .int .i64 n0, .string t0, .slice A5 l5 c5, .slice A6 l6 c6] 25)
 have HX1 : Hid (JBox _ w.heap.size _ _ _ _ _ _) := Lib.hid (heap_alloc_new w (.cells #[.int .i64 k0, .bool b0, .int .i64 n0, .string t0, .slice A5 l5 c5, .slice A6 l6 c6] 25))
 have HJ1 := Lib.hid (hjv.next b1)
 have HB1 := Lib.hid b1
 have HE1 := Lib.hid (henv.next b1)
 clear hjv b1
 go_enter Tryz.func17, Tryz.ntmps17
 go_wp2_with fail
 generalize (w.alloc (.cells #[.int .i64 k0, .bool b0, .int .i64 n0, .string t0, .slice A5 l5 c5, .slice A6 l6 c6] 25)) = w1 at HX1 HJ1 HB1 HE1 ⊢
 have hS1 : ∀ g, S g → g < w1.heap.size := fun g h => Nat.lt_of_lt_of_le (hS g h) HB1.out.size
 refine (check_any x _ S _ HJ1.out hS1 hn hb hd).mono ?_
 rintro e w2 ⟨rfl, hb2⟩
 have HJ2 := Lib.hid (HJ1.out.next hb2)
 have HX2 := Lib.hid (HX1.out.next hb2)
 have HB2 := Lib.hid (HB1.out.trans (hb2.mono HB1.out.size))
 have HE2 := Lib.hid (HE1.out.next hb2)
 have hS2 : ∀ g, S g → g < w2.heap.size := fun g h => Nat.lt_of_lt_of_le (hS1 g h) hb2.size
 clear hb2 HJ1 HX1 HB1 HE1 hS1
 by_cases hright : Js.right x = true
 ·have HT : Hid (encText x = Js.textOf x) := Lib.hid (by unfold encText; rw [if_pos hright])
  have HC : Hid (encErr x = 0) := Lib.hid (by unfold encErr; rw [if_pos hright])
  have HG : Hid (Js.good x = true ∧ (Js.textOf x).length ≤ 1073741824) := Lib.hid (by
   have h1 := hright
   unfold Js.right at h1
   simp only [Bool.and_eq_true, decide_eq_true_eq] at h1
   have h2 := Js.text_len x hr
   exact ⟨h1.1.1.1, by omega⟩)
  rw [HC.out]
  clear hright
  obtain ⟨x0, x1, x2, x3, x4, x5⟩ := HX2.out.cells
  have hXl := HX2.out.lt
  have b3 := below_box w2 (.cells #[.pointer none, .slice none 0 0] 112)
  have HN3 := Lib.hid (isB_new w2)
  have HJ3 := Lib.hid (HJ2.out.next b3)
  have HB3 := Lib.hid (HB2.out.trans (b3.mono HB2.out.size))
  have HE3 := Lib.hid (HE2.out.next b3)
  clear b3 HJ2 HX2 hn hb hd
  go_wp2_with fail
  generalize (w2.alloc (.cells #[.pointer none, .slice none 0 0] 112)) = w3 at HN3 HJ3 HB3 HE3 ⊢
  obtain ⟨N, hN⟩ : ∃ N, w2.heap.size = N := ⟨_, rfl⟩
  have h4 := HE2.out.big
  rw [hN] at HN3 hS2 h4 ⊢
  have hwN : w.heap.size ≤ N := by rw [← hN]; exact HB2.out.size
  clear hN
  refine (write_any _ x _ S N N [] _ (Nat.le_refl _) HJ3.out hS2 HN3.out HE3.out h4 HG.out.1 hr (by simpa using HG.out.2)).mono ?_
  rintro e w4 ⟨rfl, h5, b5, k5⟩
  have H5 : Hid (IsB N N (Js.textOf x) w4) := Lib.hid (by simpa using h5)
  have HB5 := Lib.hid (HB3.out.trans (b5.mono hwN))
  clear h5 b5 k5 HN3 HJ3 HB3 HE3
  go_wp2_with fail
  refine (bldString_any N N _ _ H5.out).mono ?_
  rintro e w6 ⟨rfl, -, b6, -⟩
  have HB6 := Lib.hid (HB5.out.trans (b6.mono hwN))
  clear b6
  go_wp2_with fail
  go_ret2
  exact ⟨by rw [HT.out, HC.out]; rfl, HB6.out⟩
 ·have HT : Hid (encText x = []) := Lib.hid (by unfold encText; rw [if_neg hright])
  have HC : Hid (encErr x = 2) := Lib.hid (by unfold encErr; rw [if_neg hright])
  rw [HC.out]
  clear hright
  go_wp2_with fail
  go_ret2
  exact ⟨by rw [HT.out, HC.out]; rfl, HB2.out⟩
end Go.Proofs.YtimioelnnhnbiaaGreatDoor
namespace Go.Proofs.YtimioelnnhnbiaaGreatDoor
open Go.RowKit
def wakeS : Js.Bs := [123, 34, 97, 34, 58, 91, 49, 44, 45, 50, 44, 110, 117, 108, 108, 93, 44, 34, 98, 34, 58, 34, 92, 117, 48, 48, 52, 49, 92, 110, 34, 125]
def wakeT : Js.Bs := [123, 34, 97, 34, 58, 91, 49, 44, 45, 50, 44, 110, 117, 108, 108, 93, 44, 34, 98, 34, 58, 34, 65, 92, 110, 34, 125]
def wakeOk : Js.Res Js.J → Bool
 | .ok x st => decide (st.at_ = 32) && !st.large && Js.right x && Js.inR x && decide (Js.textOf x = wakeT)
 | _ => false
theorem wake_run : wakeOk (run wakeS) = true := by decide +kernel
theorem wake_parse : ∃ x st, run wakeS = .ok x st ∧ ¬ st.at_ < wakeS.length ∧ st.large = false ∧ Js.right x = true ∧ Js.inR x = true ∧ Js.textOf x = wakeT := by
 have h := wake_run
 cases hr : run wakeS with
 | ok x st =>
  rw [hr] at h
  unfold wakeOk at h
  simp only [Bool.and_eq_true, decide_eq_true_eq, Bool.not_eq_true'] at h
  obtain ⟨⟨⟨⟨h1, h2⟩, h3⟩, h4⟩, h5⟩ := h
  exact ⟨x, st, rfl, by rw [h1]; decide, h2, h3, h4, h5⟩
 | bad k => rw [hr] at h; cases h
 | out => rw [hr] at h; cases h
theorem right_small {x : Js.J} (h : Js.right x = true) : Js.nodes x ≤ 1073741824 ∧ Js.bytes x ≤ 1073741824 ∧ Js.deep x ≤ 1073741823 := by
 unfold Js.right at h
 simp only [Bool.and_eq_true, decide_eq_true_eq] at h
 omega
set_option maxRecDepth 100000 in
set_option maxHeartbeats 4000000 in
theorem wakes_any (w : World) (henv : Env w) : Calls Tryz.prog 5 #[] w fun e w' => e = .returned (.bool true) ∧ Below w.heap.size w w' := by
 obtain ⟨x, st, hrun, hat, hlg, hrt, hin, htx⟩ := wake_parse
 have HD := Lib.hid (decode_run wakeS (by decide) w)
 rw [hrun] at HD
 have HRT := Lib.hid hrt
 have HTX := Lib.hid htx
 have HAT := Lib.hid hat
 have HLG := Lib.hid hlg
 clear hrun hat hlg hrt htx
 go_enter Tryz.func5, Tryz.ntmps5
 go_wp2_with fail
 refine HD.out.mono ?_
 rintro e w1 ⟨hb1, ho⟩
 rw [if_neg HAT.out, if_neg (by rw [HLG.out]; simp)] at ho
 obtain ⟨vs, rfl, hjv⟩ := ho
 obtain ⟨A5, c5, A6, c6, k0, b0, n0, t0, l5, l6, rfl⟩ := hjv.shape
 have b2 := below_box w1 (.cells #[.int .i64 k0, .bool b0, .int .i64 n0, .string t0, .slice A5 l5 c5, .slice A6 l6 c6] 25)
 have s2 : (w1.alloc (.cells #[.int .i64 k0, .bool b0, .int .i64 n0, .string t0, .slice A5 l5 c5, .slice A6 l6 c6] 25)).heap.size = w1.heap.size + 1 := by simp
 have b3 := below_box (w1.alloc (.cells #[.int .i64 k0, .bool b0, .int .i64 n0, .string t0, .slice A5 l5 c5, .slice A6 l6 c6] 25)) (.cells #[.int .i64 0, .int .i64 0] 61)
 have n3 : SBox _ _ 0 0 := heap_alloc_new (w1.alloc (.cells #[.int .i64 k0, .bool b0, .int .i64 n0, .string t0, .slice A5 l5 c5, .slice A6 l6 c6] 25)) (.cells #[.int .i64 0, .int .i64 0] 61)
 rw [s2] at n3
 have HJ3 := Lib.hid (((hjv.next b2).next b3).wide (T := fun g => g < ((w1.alloc (.cells #[.int .i64 k0, .bool b0, .int .i64 n0, .string t0, .slice A5 l5 c5, .slice A6 l6 c6] 25)).alloc (.cells #[.int .i64 0, .int .i64 0] 61)).heap.size) (fun g _ h => h))
 have HB3 := Lib.hid ((hb1.trans (b2.mono hb1.size)).trans (b3.mono (by rw [s2]; have := hb1.size; omega)))
 have HS3 := Lib.hid n3
 have HE3 := Lib.hid (((henv.next hb1).next b2).next b3)
 clear hjv b2 b3 n3 s2 hb1 HD henv
 unfold spot
 go_wp2_with fail
 generalize ((w1.alloc (.cells #[.int .i64 k0, .bool b0, .int .i64 n0, .string t0, .slice A5 l5 c5, .slice A6 l6 c6] 25)).alloc (.cells #[.int .i64 0, .int .i64 0] 61)) = w3 at HJ3 HB3 HS3 HE3 ⊢
 obtain ⟨h1, h2, h3⟩ := right_small HRT.out
 refine (encode_any x _ _ _ HJ3.out (fun g h => h) h1 h2 h3 hin HE3.out).mono ?_
 rintro e w4 ⟨rfl, hb4⟩
 have HB4 := Lib.hid (HB3.out.trans (hb4.mono HB3.out.size))
 have HS4 : Hid (SBox w4 (w1.heap.size + 1) 0 0) := Lib.hid (blk_next hb4 HS3.out)
 have he : encErr x = 0 := by unfold encErr; rw [HRT.out]; rfl
 have ht : encText x = wakeT := by unfold encText; rw [HRT.out]; exact HTX.out
 rw [he, ht]
 clear hb4 he ht h1 h2 h3 HJ3 HB3 HS3 HE3
 obtain ⟨d0, d1, -, -⟩ := HS4.out.cells
 have hw : (str wakeT == (⟨#[123, 34, 97, 34, 58, 91, 49, 44, 45, 50, 44, 110, 117, 108, 108, 93, 44, 34, 98, 34, 58, 34, 65, 92, 110, 34, 125]⟩ : ByteArray)) = true := by decide
 unfold str wakeT
 go_wp2_with fail
 go_ret
 exact ⟨rfl, HB4.out⟩
end Go.Proofs.YtimioelnnhnbiaaGreatDoor
namespace Go.Proofs.YtimioelnnhnbiaaGreatDoor
open Go.ChangeShapes Go.WideShapes Go.ChangeAt Go.RowKit Go.Deep

theorem own : ownKnob Tryz.prog.godebug = none := by kernel_rfl
theorem laidOut : laidOutB Tryz.prog = true := by kernel_rfl

/-- The arguments read behind the call as they did: below the heap's old size nothing has turned. -/
theorem below_trodAll {H : Type} {enc : TypeId × Value → H} {P : Program} (hl : laidOutB P = true) {W W' : World} (hb : Below W.heap.size W W') {sp' : Nat → Bool} :
  ∀ {ts : List TypeId} {vs : List Value} {ds : List (DataW H)} {ps : List MemPlace}, ts.all (fun t => P.readableRec t && decide (t < P.types.size)) = true → DataW.TrodAll enc P W 0 (fun _ => true) true ts vs ds ps →
   (∀ p ∈ ps, p.block < W.heap.size) → (∀ p ∈ ps, sp' p.block = true) → DataW.TrodAll enc P W' 0 sp' true ts vs ds ps
 | [], [], [], _, _, h, _, _ => h
 | [], [], _ :: _, _, _, h, _, _ => h.elim
 | [], _ :: _, _, _, _, h, _, _ => by cases ‹List (DataW H)› <;> exact h.elim
 | _ :: _, [], _, _, _, h, _, _ => by cases ‹List (DataW H)› <;> exact h.elim
 | _ :: _, _ :: _, [], _, _, h, _, _ => h.elim
 | t :: ts, v :: vs, d :: ds, ps, hr, h, hlt, hs => by
  obtain ⟨p, q, ⟨fuel, h1⟩, h2, rfl⟩ := h
  simp only [List.all_cons, Bool.and_eq_true, decide_eq_true_eq] at hr
  refine ⟨p, q, ⟨fuel, ?_⟩, below_trodAll hl hb (by simpa using hr.2) h2 (fun x hx => hlt x (List.mem_append_right _ hx)) (fun x hx => hs x (List.mem_append_right _ hx)), rfl⟩
  exact DataW.trod_stays (kids_book hl hr.1.1) (book_sized hr.1.1) (fun h => by cases h) ⟨hr.1.2, book_self t⟩ h1 (fun x hx => hb.same (hlt x (List.mem_append_left _ hx))) (fun x hx => hs x (List.mem_append_left _ hx))

section
variable {H : Type} {enc : TypeId × Value → H} {P : Program}
/-- The last step: the law returned true and below the heap's old size nothing has turned. -/
theorem post_true {f : Func} {s : ChangeSpec} {apart fresh handsOn again : Bool} {W W' : World} {args : Array Value} {ds gs : List (DataW H)} {before : List MemPlace} (hl : laidOutB P = true) (hbool : P.underlying 4 = some .bool)
  (hvn : s.vars = []) (hW : DataW.Whole enc P f.params.toList s.vars apart W args.toList ds gs before) (hts : f.params.toList.all (fun t => P.readableRec t && decide (t < P.types.size)) = true) (hrt : f.resultTypes = #[4])
  (hf1 : (s.fn H ds).results = [.lit (.bool true)]) (hf2 : (s.fn H ds).args = ds) (hf3 : (s.fn H ds).vars = []) (hb : Below W.heap.size W W') :
  s.post enc P f apart fresh handsOn again W args (.bool true) W' := by
 have hW' := hW
 obtain ⟨p, q, hA, hV, rfl, hz, hn⟩ := hW
 rw [hvn] at hV
 obtain ⟨rfl, rfl⟩ := trodVars_none hV
 have hlt : ∀ x ∈ p ++ [], x.block < W.heap.size := fun x hx => hW'.lt x hx
 have hlt' : ∀ x ∈ p, x.block < W.heap.size := fun x hx => hlt x (List.mem_append_left _ hx)
 have hold : ∀ x ∈ p, (fun b => decide (b < W.heap.size)) x.block = true := fun x hx => by simpa using hlt' x hx
 have hargs := fun (sp : Nat → Bool) (hsp : ∀ x ∈ p, sp x.block = true) => below_trodAll hl hb (sp' := sp) hts hA hlt' hsp
 have hres : ∀ (b : Nat) (sp : Nat → Bool) (hd : Bool), DataW.TrodAll enc P W' b sp hd f.resultTypes.toList ((Value.bool true).resultList f.resultTypes.size) (s.fn H (ds ++ [])).results [] := by
  intro b sp hd
  rw [List.append_nil, hrt, hf1]
  exact trodAll_cons_mk (shut_bool hbool _) trodAll_mk0
 have hok : ∀ (j : Nat) (t : TypeId) (r : Value), f.resultTypes[j]? = some t → ((Value.bool true).resultList f.resultTypes.size)[j]? = some r → Value.okWide P W' .any 0 t r := ok_one hrt rfl (okWide_bool_mk hbool _)
 have ha2 : (s.fn H (ds ++ [])).args = ds := by rw [List.append_nil]; exact hf2
 have hv2 : (s.fn H (ds ++ [])).vars = [] := by rw [List.append_nil]; exact hf3
 have hargs' : ∀ sp : Nat → Bool, (∀ x ∈ p, sp x.block = true) → DataW.TrodAll enc P W' 0 sp true f.params.toList args.toList (s.fn H (ds ++ [])).args p := by rw [ha2]; exact hargs
 have hvars' : ∀ sp : Nat → Bool, DataW.TrodVars enc P W' sp s.vars (s.fn H (ds ++ [])).vars [] := by rw [hv2, hvn]; exact fun _ => rfl
 refine ⟨ds, [], p ++ [], [], p, [], hW', hres _ _ _, hargs' _ hold, hvars' _, World.keptBut_mono (fun x hx => ⟨hx, ?_⟩) (hb.frame (· ∈ p ++ [])), fun _ => ?_⟩
 ·simpa using hx
 ·refine ⟨hok, _, _, ([] ++ p) ++ [], ⟨[] ++ p, [], trodAll_append (hargs' _ (fun _ _ => rfl)) (hres _ _ _), hvars' _, rfl, ?_, ?_⟩, ?_⟩
  ·intro b off hp
   have hin : MemPlace.cell b off ∈ p ++ [] := by simpa using hp
   rw [hb.frozen (hlt _ hin)]
   exact hz b off hin
  ·intro ha
   have := hn ha
   simpa using this
  ·intro x hx _
   simpa using hx
end

/-- The fields of a struct, as (type, offset). -/
def fieldsOf (fs : Array Field) : List (TypeId × Nat) := fs.toList.map fun f => (f.type, f.offset)
theorem struct_of {t : TypeId} {l : List (TypeId × Nat)} (h : (match Tryz.prog.underlying t with | some (.struct fs) => decide (fieldsOf fs = l) | _ => false) = true) : ∃ fs, Tryz.prog.underlying t = some (.struct fs) ∧ fieldsOf fs = l := by
 revert h
 cases hu : Tryz.prog.underlying t with
 | none => intro h; cases h
 | some u => cases u <;> intro h <;> first | exact ⟨_, rfl, of_decide_eq_true h⟩ | cases h
theorem field_at {fs : Array Field} {l : List (TypeId × Nat)} (h : fieldsOf fs = l) {j : Nat} {p : TypeId × Nat} (hj : l[j]? = some p) : ∃ f, fs[j]? = some f ∧ f.type = p.1 ∧ f.offset = p.2 := by
 subst h
 unfold fieldsOf at hj
 rw [List.getElem?_map] at hj
 cases hf : fs.toList[j]? with
 | none => rw [hf] at hj; cases hj
 | some f =>
  rw [hf] at hj
  simp only [Option.map_some, Option.some.injEq] at hj
  exact ⟨f, by rw [← hf, Array.getElem?_toList], by rw [← hj], by rw [← hj]⟩
theorem list_of {α : Type} [Inhabited α] (len : Nat) (Q : Nat → α → Prop) (h : ∀ i, i < len → ∃ a, Q i a) : ∃ l : List α, l.length = len ∧ ∀ i a, l[i]? = some a → Q i a := by
 refine ⟨(List.range len).map fun i => if hi : i < len then (h i hi).choose else default, by simp, fun i a ha => ?_⟩
 rw [List.getElem?_map] at ha
 have hil : i < len := by
  rcases Nat.lt_or_ge i len with h' | h'
  ·exact h'
  ·rw [List.getElem?_eq_none (by simpa using h')] at ha; cases ha
 simp only [List.getElem?_range hil, Option.map_some, hil, dif_pos, Option.some.injEq] at ha
 rw [← ha]
 exact (h i hil).choose_spec
theorem spot_none {w : World} {a : Addr} {v : Value} (h : w.cell? (a.add 0) = some v) : a.spot = none := by
 obtain ⟨b, off, spot⟩ := a
 have := World.cell?_spot h
 simpa [Addr.add] using this
theorem fs_len {fs : Array Field} {l : List (TypeId × Nat)} (hk : fieldsOf fs = l) : fs.size = l.length := by
 have := congrArg List.length hk
 unfold fieldsOf at this
 rw [List.length_map, Array.length_toList] at this
 exact this
theorem bytes_list (s : ByteArray) : s = ⟨s.data.toList.toArray⟩ := by cases s; simp
theorem wf_int {z : Int} (hw : (Lit.int .i64 z).wf = true) : -9223372036854775808 ≤ z ∧ z ≤ 9223372036854775807 := by
 have hm : IntKind.i64.min = -9223372036854775808 := rfl
 have hM : IntKind.i64.max = 9223372036854775807 := rfl
 simp only [Lit.wf, hm, hM, Bool.and_eq_true, decide_eq_true_eq] at hw
 exact hw
theorem und25 : ∃ fs, Tryz.prog.underlying 25 = some (.struct fs) ∧ fieldsOf fs = [(3, 0), (4, 1), (2, 2), (9, 3), (22, 4), (23, 5)] := struct_of (by kernel_rfl)
theorem und43 : ∃ fs, Tryz.prog.underlying 89 = some (.struct fs) ∧ fieldsOf fs = [(9, 0), (25, 1)] := struct_of (by kernel_rfl)
theorem und22 : Tryz.prog.underlying 22 = some (.slice 25) := by kernel_rfl
theorem und23 : Tryz.prog.underlying 23 = some (.slice 89) := by kernel_rfl
theorem und2 : Tryz.prog.underlying 2 = some (.int .i64) := by kernel_rfl
theorem und3 : Tryz.prog.underlying 3 = some (.int .i64) := by kernel_rfl
theorem und4 : Tryz.prog.underlying 4 = some .bool := by kernel_rfl
theorem und9 : Tryz.prog.underlying 9 = some .string := by kernel_rfl
theorem cells25 : Tryz.prog.cellsOf 25 = 6 := by kernel_rfl
theorem cells43 : Tryz.prog.cellsOf 89 = 7 := by kernel_rfl
theorem cells2 : Tryz.prog.cellsOf 2 = 1 := by kernel_rfl
theorem cells3 : Tryz.prog.cellsOf 3 = 1 := by kernel_rfl
theorem cells4 : Tryz.prog.cellsOf 4 = 1 := by kernel_rfl
theorem cells9 : Tryz.prog.cellsOf 9 = 1 := by kernel_rfl
theorem cells22 : Tryz.prog.cellsOf 22 = 1 := by kernel_rfl
theorem cells23 : Tryz.prog.cellsOf 23 = 1 := by kernel_rfl
theorem len6 {α : Type} {l : List α} (h : l.length = 6) : ∃ a b c d e f, l = [a, b, c, d, e, f] := by
 match l, h with
 | [a, b, c, d, e, f], _ => exact ⟨a, b, c, d, e, f, rfl⟩
theorem len7 {α : Type} {l : List α} (h : l.length = 7) : ∃ a b c d e f g, l = [a, b, c, d, e, f, g] := by
 match l, h with
 | [a, b, c, d, e, f, g], _ => exact ⟨a, b, c, d, e, f, g, rfl⟩
instance : Inhabited Js.J := ⟨Js.zero⟩
theorem JL.of_at {w : World} {S : Nat → Prop} {A : Option Addr} : ∀ (l : List Js.J) (i : Nat), (∀ k y, l[k]? = some y → ∃ g o vs, A = some ⟨g, o, none⟩ ∧ S g ∧ g < w.heap.size ∧ (∀ j u, vs[j]? = some u → w.cell? ⟨g, o + (i + k) * 6 + j, none⟩ = some u) ∧ JV w S y vs) → JL w S A i l
 | [], _, _ => by unfold JL; trivial
 | x :: t, i, h => by
  unfold JL
  refine ⟨h 0 x rfl, JL.of_at t (i + 1) (fun k y hy => ?_)⟩
  have := h (k + 1) y (by simpa using hy)
  rwa [show i + (k + 1) = i + 1 + k by omega] at this
theorem JM.of_at {w : World} {S : Nat → Prop} {A : Option Addr} : ∀ (l : List (Js.Bs × Js.J)) (i : Nat), (∀ k n y, l[k]? = some (n, y) → ∃ g o vs, A = some ⟨g, o, none⟩ ∧ S g ∧ g < w.heap.size ∧ (∀ j u, (Value.string (str n) :: vs)[j]? = some u → w.cell? ⟨g, o + (i + k) * 7 + j, none⟩ = some u) ∧ JV w S y vs) → JM w S A i l
 | [], _, _ => by unfold JM; trivial
 | (n0, x) :: t, i, h => by
  unfold JM
  refine ⟨h 0 n0 x rfl, JM.of_at t (i + 1) (fun k n y hy => ?_)⟩
  have := h (k + 1) n y (by simpa using hy)
  rwa [show i + (k + 1) = i + 1 + k by omega] at this
theorem inRL_of : ∀ {l : List Js.J}, (∀ (k : Nat) (y : Js.J), l[k]? = some y → Js.inR y = true) → Js.inRL l = true
 | [], _ => rfl
 | x :: t, h => by
  show (Js.inR x && Js.inRL t) = true
  rw [h 0 x rfl, inRL_of (fun k y hy => h (k + 1) y (by simpa using hy))]; rfl
theorem inRM_of : ∀ {l : List (Js.Bs × Js.J)}, (∀ (k : Nat) (n : Js.Bs) (y : Js.J), l[k]? = some (n, y) → Js.inR y = true) → Js.inRM l = true
 | [], _ => rfl
 | (n0, x) :: t, h => by
  show (Js.inR x && Js.inRM t) = true
  rw [h 0 n0 x rfl, inRM_of (fun k n y hy => h (k + 1) n y (by simpa using hy))]; rfl
section
variable {H : Type} {enc : TypeId × Value → H} {w : World} {held : Bool}
/-- A value as an argument. -/
def OpenJ (H : Type) (enc : TypeId × Value → H) (w : World) (held : Bool) (fuel : Nat) : Prop := ∀ (cs : List Value) (x : DataW H × List MemPlace), DataW.trod enc Tryz.prog w 0 (fun _ => true) held fuel 25 cs = some x →
 ∃ y : Js.J, JV w (fun g => g < w.heap.size) y cs ∧ Js.inR y = true
theorem open_items {fuel : Nat} (ih : ∀ n, n < fuel → OpenJ H enc w held n) {cs : List Value} {x : DataW H × List MemPlace} (h : DataW.trod enc Tryz.prog w 0 (fun _ => true) held fuel 22 cs = some x) :
  ∃ (l : List Js.J) (A : Option Addr) (c : Nat), cs = [.slice A l.length c] ∧ l.length ≤ c ∧ JL w (fun g => g < w.heap.size) A 0 l ∧ Js.inRL l = true := by
 rcases DataW.trod_slice und22 h with ⟨rfl, _⟩ | ⟨a, len, cap, elems, rest, n, rfl, rfl, _, _, hlc, _, hlen, hel, _, _⟩
 ·exact ⟨[], none, 0, rfl, Nat.le_refl _, by unfold JL; trivial, rfl⟩
 ·obtain ⟨l, hl, hget⟩ := list_of (α := Js.J) len (fun i y => (∃ vs, (∀ j u, vs[j]? = some u → w.cell? (a.add (i * 6 + j)) = some u) ∧ vs.length = 6 ∧ JV w (fun g => g < w.heap.size) y vs) ∧ Js.inR y = true) (fun i hil => by
   have he := hel i hil
   rw [List.getElem?_eq_getElem (by omega), cells25] at he
   obtain ⟨cs', hcs, htr⟩ := Option.bind_eq_some_iff.1 he
   obtain ⟨_, hcl, hat⟩ := World.cells?_some hcs
   obtain ⟨y, hy, hr⟩ := ih n (by omega) cs' _ htr
   refine ⟨y, ⟨cs', fun j u hj => ?_, hy.len, hy⟩, hr⟩
   have hj2 : j < 6 := by have := (List.getElem?_eq_some_iff.1 hj).1; rw [hy.len] at this; exact this
   have := hat j hj2
   rw [hj, Go.Deep.add_add] at this
   exact this)
  refine ⟨l, some a, cap, by rw [hl], by rw [hl]; exact hlc, ?_, inRL_of (fun k y hy => (hget k y hy).2)⟩
  refine JL.of_at l 0 (fun k y hy => ?_)
  obtain ⟨⟨vs, hc, hvl, hjv⟩, _⟩ := hget k y hy
  obtain ⟨y0, hy0⟩ : ∃ y, l[0]? = some y := ⟨_, List.getElem?_eq_getElem (by have := (List.getElem?_eq_some_iff.1 hy).1; omega)⟩
  obtain ⟨⟨vs0, hc0, hvl0, _⟩, _⟩ := hget 0 y0 hy0
  obtain ⟨u0, hu0⟩ : ∃ u, vs0[0]? = some u := ⟨_, List.getElem?_eq_getElem (by omega)⟩
  have h0 := hc0 0 u0 hu0
  have hs := spot_none h0
  obtain ⟨b, off, spot⟩ := a
  have hs : spot = none := hs
  subst hs
  have hadd : ∀ j, (⟨b, off, none⟩ : Addr).add j = ⟨b, off + j, none⟩ := fun j => by simp [Addr.add]
  rw [hadd] at h0
  have hb := World.block_lt_of_cell? _ _ h0
  refine ⟨b, off, vs, rfl, hb, hb, fun j u hj => ?_, hjv⟩
  have := hc j u hj
  rw [hadd, ← Nat.add_assoc] at this
  rw [Nat.zero_add]; exact this
theorem open_members {fuel : Nat} (ih : ∀ n, n < fuel → OpenJ H enc w held n) {cs : List Value} {x : DataW H × List MemPlace} (h : DataW.trod enc Tryz.prog w 0 (fun _ => true) held fuel 23 cs = some x) :
  ∃ (l : List (Js.Bs × Js.J)) (A : Option Addr) (c : Nat), cs = [.slice A l.length c] ∧ l.length ≤ c ∧ JM w (fun g => g < w.heap.size) A 0 l ∧ Js.inRM l = true := by
 rcases DataW.trod_slice und23 h with ⟨rfl, _⟩ | ⟨a, len, cap, elems, rest, n, rfl, rfl, _, _, hlc, _, hlen, hel, _, _⟩
 ·exact ⟨[], none, 0, rfl, Nat.le_refl _, by unfold JM; trivial, rfl⟩
 ·obtain ⟨l, hl, hget⟩ := list_of (α := Js.Bs × Js.J) len (fun i y => (∃ vs, (∀ j u, (Value.string (str y.1) :: vs)[j]? = some u → w.cell? (a.add (i * 7 + j)) = some u) ∧ JV w (fun g => g < w.heap.size) y.2 vs) ∧ Js.inR y.2 = true) (fun i hil => by
   have he := hel i hil
   rw [List.getElem?_eq_getElem (by omega), cells43] at he
   obtain ⟨cs', hcs, htr⟩ := Option.bind_eq_some_iff.1 he
   obtain ⟨_, hcl, hat⟩ := World.cells?_some hcs
   obtain ⟨fs, hfs, hk⟩ := und43
   obtain ⟨xs, n2, hn2, _, hl2, hlen2, hf⟩ := DataW.trod_struct hfs htr
   rw [cells43] at hl2
   obtain ⟨a0, a1, a2, a3, a4, a5, a6, rfl⟩ := len7 hl2
   have hxl : xs.length = 2 := by have := fs_len hk; simp at this; omega
   obtain ⟨f0, g1, g2, g3⟩ := field_at hk (j := 0) rfl
   obtain ⟨f1, g4, g5, g6⟩ := field_at hk (j := 1) rfl
   have t0 := (hf 0 f0 g1).trans (List.getElem?_eq_getElem (show 0 < xs.length by omega))
   have t1 := (hf 1 f1 g4).trans (List.getElem?_eq_getElem (show 1 < xs.length by omega))
   simp only [g2, g3, cells9] at t0
   simp only [g5, g6, cells25] at t1
   obtain ⟨s0, e0, _, z0⟩ := DataW.trod_string und9 t0
   simp at e0
   subst e0
   obtain ⟨y, hy, hr⟩ := ih n2 (by omega) _ _ t1
   refine ⟨(s0.data.toList, y), ⟨_, fun j u hj => ?_, hy⟩, hr⟩
   have hj2 : j < 7 := by have := (List.getElem?_eq_some_iff.1 hj).1; simpa using this
   have := hat j hj2
   rw [Go.Deep.add_add] at this
   rw [this, ← hj]
   show _ = (Value.string ⟨s0.data.toList.toArray⟩ :: _)[j]?
   rw [← bytes_list]
   rfl)
  refine ⟨l, some a, cap, by rw [hl], by rw [hl]; exact hlc, ?_, inRM_of (fun k nm y hy => (hget k (nm, y) hy).2)⟩
  refine JM.of_at l 0 (fun k nm y hy => ?_)
  obtain ⟨⟨vs, hc, hjv⟩, _⟩ := hget k (nm, y) hy
  obtain ⟨y0, hy0⟩ : ∃ y, l[0]? = some y := ⟨_, List.getElem?_eq_getElem (by have := (List.getElem?_eq_some_iff.1 hy).1; omega)⟩
  obtain ⟨⟨vs0, hc0, _⟩, _⟩ := hget 0 y0 hy0
  have h0 := hc0 0 _ rfl
  have hs := spot_none h0
  obtain ⟨b, off, spot⟩ := a
  have hs : spot = none := hs
  subst hs
  have hadd : ∀ j, (⟨b, off, none⟩ : Addr).add j = ⟨b, off + j, none⟩ := fun j => by simp [Addr.add]
  rw [hadd] at h0
  have hb := World.block_lt_of_cell? _ _ h0
  refine ⟨b, off, vs, rfl, hb, hb, fun j u hj => ?_, hjv⟩
  have := hc j u hj
  rw [hadd, ← Nat.add_assoc] at this
  rw [Nat.zero_add]; exact this
theorem open_json (fuel : Nat) : OpenJ H enc w held fuel := by
 induction fuel using Nat.strongRecOn with
 | ind fuel ih =>
 intro cs x h
 obtain ⟨fs, hfs, hk⟩ := und25
 obtain ⟨xs, n, hn, _, hl, hlen, hf⟩ := DataW.trod_struct hfs h
 rw [cells25] at hl
 obtain ⟨a0, a1, a2, a3, a4, a5, rfl⟩ := len6 hl
 have hxl : xs.length = 6 := by have := fs_len hk; simp at this; omega
 obtain ⟨f0, g0a, g0b, g0c⟩ := field_at hk (j := 0) rfl
 have t0 := (hf 0 f0 g0a).trans (List.getElem?_eq_getElem (show 0 < xs.length by omega))
 simp only [g0b, g0c, cells3] at t0
 obtain ⟨f1, g1a, g1b, g1c⟩ := field_at hk (j := 1) rfl
 have t1 := (hf 1 f1 g1a).trans (List.getElem?_eq_getElem (show 1 < xs.length by omega))
 simp only [g1b, g1c, cells4] at t1
 obtain ⟨f2, g2a, g2b, g2c⟩ := field_at hk (j := 2) rfl
 have t2 := (hf 2 f2 g2a).trans (List.getElem?_eq_getElem (show 2 < xs.length by omega))
 simp only [g2b, g2c, cells2] at t2
 obtain ⟨f3, g3a, g3b, g3c⟩ := field_at hk (j := 3) rfl
 have t3 := (hf 3 f3 g3a).trans (List.getElem?_eq_getElem (show 3 < xs.length by omega))
 simp only [g3b, g3c, cells9] at t3
 obtain ⟨f4, g4a, g4b, g4c⟩ := field_at hk (j := 4) rfl
 have t4 := (hf 4 f4 g4a).trans (List.getElem?_eq_getElem (show 4 < xs.length by omega))
 simp only [g4b, g4c, cells22] at t4
 obtain ⟨f5, g5a, g5b, g5c⟩ := field_at hk (j := 5) rfl
 have t5 := (hf 5 f5 g5a).trans (List.getElem?_eq_getElem (show 5 < xs.length by omega))
 simp only [g5b, g5c, cells23] at t5
 obtain ⟨z0, e0, _, w0⟩ := DataW.trod_int und3 t0
 obtain ⟨z1, e1, _⟩ := DataW.trod_bool und4 t1
 obtain ⟨z2, e2, _, w2⟩ := DataW.trod_int und2 t2
 obtain ⟨z3, e3, _, _⟩ := DataW.trod_string und9 t3
 obtain ⟨l, A, c, e4, hlc, hjl, hil⟩ := open_items (fun m hm => ih m (by omega)) t4
 obtain ⟨l', A', c', e5, hlc', hjm, him⟩ := open_members (fun m hm => ih m (by omega)) t5
 simp at e0 e1 e2 e3 e4 e5
 subst e0 e1 e2 e3 e4 e5
 refine ⟨.mk z0 z1 z2 z3.data.toList l l', ?_, ?_⟩
 ·unfold JV
  refine ⟨A, c, A', c', ?_, hlc, hlc', hjl, hjm⟩
  unfold str
  rw [← bytes_list]
 ·show (decide (-9223372036854775808 ≤ z2) && decide (z2 ≤ 9223372036854775807) && decide (-9223372036854775808 ≤ z0) && decide (z0 ≤ 9223372036854775807) && Js.inRL l && Js.inRM l') = true
  obtain ⟨p1, p2⟩ := wf_int w0
  obtain ⟨p3, p4⟩ := wf_int w2
  rw [hil, him]
  simp [p1, p2, p3, p4]
end
/-! ### the package's variables -/
theorem shaped_size {W : World} (h : W.ShapedOpen Tryz.prog) : 4 ≤ W.heap.size := by
 have hs : (((begin Tryz.prog (fun _ _ => 0) default).world.heap[3]?).bind Obj.row?).isSome = true := by kernel_rfl
 obtain ⟨⟨z, t⟩, hz⟩ := Option.isSome_iff_exists.1 hs
 obtain ⟨cs, hh, _⟩ := h.1 3 z t (of_decide_eq_true (by kernel_rfl)) hz
 have := (Array.getElem?_eq_some_iff.1 hh).1
 omega
theorem gPowType : (Tryz.prog.globals[0]?).map (·.type) = some 168 := by kernel_rfl
theorem und101 : Tryz.prog.underlying 168 = some (.array 20 161) := by kernel_rfl
theorem und93 : Tryz.prog.underlying 161 = some (.int .u64) := by kernel_rfl
theorem cells93 : Tryz.prog.cellsOf 161 = 1 := by kernel_rfl
theorem cells101 : Tryz.prog.cellsOf 168 = 20 := by kernel_rfl
theorem pow_data : (Rows.laid_internal_strconv_uint64pow10 : DataW Unit) = Lib.tabData .u64 Lib.pow10Tab := by rfl
theorem env_tab {W : World} (h : laidMetH Tryz.prog Rows.jsonTakesRow.laid W) : Lib.TabIs Tryz.prog W "internal/strconv.uint64pow10" .u64 Lib.pow10Tab := by
 have h' : laidMet Tryz.prog Rows.jsonTakesRow.laid W := h
 have h2 := laidMet.tail (laidMet.tail h')
 exact Lib.tabIs_of_head tab_named gPowType und101 und93 cells93 cells101 h2
theorem env_of {W : World} (hs : W.ShapedOpen Tryz.prog) (h : laidMetH Tryz.prog Rows.jsonTakesRow.laid W) : Env W := ⟨env_tab h, shaped_size hs⟩
theorem door_met (os : Os) (args : Array Value) : laidMet Tryz.prog Rows.jsonTakesRow.laid ((World.doorLaid Tryz.prog 400 os).forCall (fun _ _ => 0) ⟨#[], args, []⟩).memory :=
 laidMet_of_run' 8 (by kernel_rfl) (by kernel_rfl)
end Go.Proofs.YtimioelnnhnbiaaGreatDoor
