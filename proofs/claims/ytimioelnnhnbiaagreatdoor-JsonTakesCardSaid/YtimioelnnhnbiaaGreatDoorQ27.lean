/-
  Joined: ZO ZKclash ZL. CONDITIONS: as each law says.
-/
import Derived.Test.YtimioelnnhnbiaaGreatDoorQ22
import Derived.Test.YtimioelnnhnbiaaGreatDoorQ25
import Derived.Test.YtimioelnnhnbiaaGreatDoorQ06
import Derived.Deep.AppendLies
import Derived.Test.YtimioelnnhnbiaaGreatDoorQ21
namespace Go.Proofs.YtimioelnnhnbiaaGreatDoor
open Go.RowKit
def clashOf (y : Js.J) : PClash := ⟨(ofP y [112, 97, 116, 104]).text, (ofP y [98, 97, 115, 101]).text, (ofP y [111, 117, 114, 115]).text, (ofP y [116, 104, 101, 105, 114, 115]).text, (ofP y [105, 110, 66, 97, 115, 101]).bool, (ofP y [105, 110, 79, 117, 114, 115]).bool, (ofP y [105, 110, 84, 104, 101, 105, 114, 115]).bool⟩
theorem kept_clash : Kept 7 (RC clashC) := kept_C (fun _ => rfl) (fun x v hv => by simp [clashC] at hv; rcases hv with rfl | rfl | rfl | rfl | rfl | rfl | rfl <;> rfl)
set_option maxRecDepth 100000 in
set_option maxHeartbeats 8000000 in
theorem from_clash : FromC 34 (fun x => .agg (clashC x).toArray) clashOf := by
 intro y vs S w hjv hSw hn
 have HJ0 := Lib.hid hjv
 have HSS := Lib.hid hSw
 obtain ⟨A5, c5, A6, c6, k0, b0, n0, t0, l5, l6, rfl⟩ := hjv.shape
 have b1 := below_box w (.cells #[.int .i64 k0, .bool b0, .int .i64 n0, .string t0, .slice A5 l5 c5, .slice A6 l6 c6] 25)
 have s1 : (w.alloc (.cells #[.int .i64 k0, .bool b0, .int .i64 n0, .string t0, .slice A5 l5 c5, .slice A6 l6 c6] 25)).heap.size = w.heap.size + 1 := by simp
 have e1 : JBox _ _ _ _ _ _ _ _ := heap_alloc_new w (.cells #[.int .i64 k0, .bool b0, .int .i64 n0, .string t0, .slice A5 l5 c5, .slice A6 l6 c6] 25)
 have b2 := below_box (w.alloc (.cells #[.int .i64 k0, .bool b0, .int .i64 n0, .string t0, .slice A5 l5 c5, .slice A6 l6 c6] 25)) (.cells #[.string ⟨#[]⟩, .string ⟨#[]⟩, .string ⟨#[]⟩, .string ⟨#[]⟩, .bool false, .bool false, .bool false] 84)
 have e2 := heap_alloc_new (w.alloc (.cells #[.int .i64 k0, .bool b0, .int .i64 n0, .string t0, .slice A5 l5 c5, .slice A6 l6 c6] 25)) (.cells #[.string ⟨#[]⟩, .string ⟨#[]⟩, .string ⟨#[]⟩, .string ⟨#[]⟩, .bool false, .bool false, .bool false] 84)
 rw [s1] at e2
 have HE1 := Lib.hid (e1.next b2)
 have HE2 := Lib.hid e2
 have HJ2 := Lib.hid ((HJ0.out.next b1).next b2)
 have HW2 := Lib.hid (b1.trans (b2.mono (by rw [s1]; omega)))
 clear b1 s1 e1 b2 e2 HJ0 hSw hjv
 go_enter Tryz.func34, Tryz.ntmps34
 go_upto_region 1 with fail
 generalize ((w.alloc (.cells #[.int .i64 k0, .bool b0, .int .i64 n0, .string t0, .slice A5 l5 c5, .slice A6 l6 c6] 25)).alloc (.cells #[.string ⟨#[]⟩, .string ⟨#[]⟩, .string ⟨#[]⟩, .string ⟨#[]⟩, .bool false, .bool false, .bool false] 84)) = w2 at HE1 HE2 HJ2 HW2 ⊢
 obtain ⟨N, hN⟩ : ∃ N, w.heap.size = N := ⟨_, rfl⟩
 rw [hN] at HE1 HE2 ⊢
 have HN := Lib.hid hN
 clear hN
 go_wp2_with fail
 refine wp_region_any (by kernel_rfl) ?_
 change wpAny _ _ _ _ _ _ _ (World.drew _)
 have hbd : Below w2.heap.size w2 w2.drew := below_drewN (Below.refl _ _) 1
 have HS : Hid ((fun W => JBox W N (.int .i64 k0) (.bool b0) (.int .i64 n0) (.string t0) (.slice A5 l5 c5) (.slice A6 l6 c6)) w2.drew) := Lib.hid (JBox.next HE1.out hbd)
 have HZ : Hid (w2.drew.heap[N + 1]? = some (.cells #[.string ⟨#[]⟩, .string ⟨#[]⟩, .string ⟨#[]⟩, .string ⟨#[]⟩, .bool false, .bool false, .bool false] 84 (0, 0))) := Lib.hid (blk_next hbd HE2.out)
 have HW : Hid (Below N w w2.drew) := Lib.hid (HN.out ▸ (HW2.out.trans (hbd.mono HW2.out.size)))
 have HJ := Lib.hid (HJ2.out.next hbd)
 clear hbd HE1 HE2 HW2 HJ2
 generalize w2.drew = W at HS HZ HW HJ ⊢
 refine wpAny_of_till (S := fun W => JBox W N (.int .i64 k0) (.bool b0) (.int .i64 n0) (.string t0) (.slice A5 l5 c5) (.slice A6 l6 c6)) (st := (fun _ => false)) _ _ _ _ ?_
 change wpTill _ _ _ _ _ _ _ #[false, false, false, false, false, false, false, false, false, false, false, false, false, false, false, false, false, false, false] _ _
 refine wpTill_take (i := 0) (v := .agg #[.int .i64 k0, .bool b0, .int .i64 n0, .string t0, .slice A5 l5 c5, .slice A6 l6 c6]) rfl (by kernel_rfl) (by kernel_rfl) (by kernel_rfl) (shut_of (by kernel_rfl)) (fun l _ h9 => by cases h9) (fun l => rfl) (fun _ _ _ h => h) (Or.inl ⟨by rfl, ?yb0⟩) HS.out (fun _ => ?_)
 case yb0 => (intro W0 hS; obtain ⟨x0, x1, x2, x3, x4, x5⟩ := JBox.cells hS; go_simp; (try with_reducible rfl))
 simp only [Act.put, CL]
 refine wpTill_take (i := 2) (v := .agg #[.int .i64 k0, .bool b0, .int .i64 n0, .string t0, .slice A5 l5 c5, .slice A6 l6 c6]) rfl (by kernel_rfl) (by kernel_rfl) (by kernel_rfl) (shut_of (by kernel_rfl)) (fun l _ h9 => by cases h9) (fun l => rfl) (fun _ _ _ h => h) (Or.inl ⟨by rfl, ?yb2⟩) HS.out (fun _ => ?_)
 case yb2 => (intro W0 hS; obtain ⟨x0, x1, x2, x3, x4, x5⟩ := JBox.cells hS; go_simp; (try with_reducible rfl))
 simp only [Act.put, CL]
 refine wpTill_take (i := 4) (v := .agg #[.int .i64 k0, .bool b0, .int .i64 n0, .string t0, .slice A5 l5 c5, .slice A6 l6 c6]) rfl (by kernel_rfl) (by kernel_rfl) (by kernel_rfl) (shut_of (by kernel_rfl)) (fun l _ h9 => by cases h9) (fun l => rfl) (fun _ _ _ h => h) (Or.inl ⟨by rfl, ?yb4⟩) HS.out (fun _ => ?_)
 case yb4 => (intro W0 hS; obtain ⟨x0, x1, x2, x3, x4, x5⟩ := JBox.cells hS; go_simp; (try with_reducible rfl))
 simp only [Act.put, CL]
 refine wpTill_take (i := 6) (v := .agg #[.int .i64 k0, .bool b0, .int .i64 n0, .string t0, .slice A5 l5 c5, .slice A6 l6 c6]) rfl (by kernel_rfl) (by kernel_rfl) (by kernel_rfl) (shut_of (by kernel_rfl)) (fun l _ h9 => by cases h9) (fun l => rfl) (fun _ _ _ h => h) (Or.inl ⟨by rfl, ?yb6⟩) HS.out (fun _ => ?_)
 case yb6 => (intro W0 hS; obtain ⟨x0, x1, x2, x3, x4, x5⟩ := JBox.cells hS; go_simp; (try with_reducible rfl))
 simp only [Act.put, CL]
 refine wpTill_take (i := 8) (v := .agg #[.int .i64 k0, .bool b0, .int .i64 n0, .string t0, .slice A5 l5 c5, .slice A6 l6 c6]) rfl (by kernel_rfl) (by kernel_rfl) (by kernel_rfl) (shut_of (by kernel_rfl)) (fun l _ h9 => by cases h9) (fun l => rfl) (fun _ _ _ h => h) (Or.inl ⟨by rfl, ?yb8⟩) HS.out (fun _ => ?_)
 case yb8 => (intro W0 hS; obtain ⟨x0, x1, x2, x3, x4, x5⟩ := JBox.cells hS; go_simp; (try with_reducible rfl))
 simp only [Act.put, CL]
 refine wpTill_take (i := 11) (v := .agg #[.int .i64 k0, .bool b0, .int .i64 n0, .string t0, .slice A5 l5 c5, .slice A6 l6 c6]) rfl (by kernel_rfl) (by kernel_rfl) (by kernel_rfl) (shut_of (by kernel_rfl)) (fun l _ h9 => by cases h9) (fun l => rfl) (fun _ _ _ h => h) (Or.inl ⟨by rfl, ?yb11⟩) HS.out (fun _ => ?_)
 case yb11 => (intro W0 hS; obtain ⟨x0, x1, x2, x3, x4, x5⟩ := JBox.cells hS; go_simp; (try with_reducible rfl))
 simp only [Act.put, CL]
 refine wpTill_take (i := 14) (v := .agg #[.int .i64 k0, .bool b0, .int .i64 n0, .string t0, .slice A5 l5 c5, .slice A6 l6 c6]) rfl (by kernel_rfl) (by kernel_rfl) (by kernel_rfl) (shut_of (by kernel_rfl)) (fun l _ h9 => by cases h9) (fun l => rfl) (fun _ _ _ h => h) (Or.inl ⟨by rfl, ?yb14⟩) HS.out (fun _ => ?_)
 case yb14 => (intro W0 hS; obtain ⟨x0, x1, x2, x3, x4, x5⟩ := JBox.cells hS; go_simp; (try with_reducible rfl))
 simp only [Act.put, CL]
 refine wpTill_ready (rs := [1]) (by kernel_rfl) (by simp) ?_
 refine (AllTill.cons rfl (fun KK hKK => ?_) AllTill.nil)
 rw [if_pos (by rfl)]
 go_simp
 refine (str_any y [112, 97, 116, 104] _ S W HJ.out (fun g hg => Nat.lt_of_lt_of_le (HSS.out g hg) (HN.out ▸ HW.out.size)) hn).mono ?_
 rintro e W1 ⟨rfl, hb⟩
 have HJ1 := Lib.hid (HJ.out.next hb)
 have HS1 : Hid ((fun W => JBox W N (.int .i64 k0) (.bool b0) (.int .i64 n0) (.string t0) (.slice A5 l5 c5) (.slice A6 l6 c6)) W1) := Lib.hid (JBox.next HS.out hb)
 have HZ1 : Hid (W1.heap[N + 1]? = some (.cells #[.string ⟨#[]⟩, .string ⟨#[]⟩, .string ⟨#[]⟩, .string ⟨#[]⟩, .bool false, .bool false, .bool false] 84 (0, 0))) := Lib.hid (blk_next hb HZ.out)
 have HW1 : Hid (Below N w W1) := Lib.hid (HW.out.trans (hb.mono (by have := JBox.lt HS.out; omega)))
 clear hb HS HZ HW HJ
 have HS := HS1
 have HZ := HZ1
 have HW := HW1
 have HJ := HJ1
 clear HS1 HZ1 HW1 HJ1
 refine hKK _ _ (fun _ => HS.out) ?_
 clear hKK KK
 simp only [Act.put, CL]
 refine wpTill_ready (rs := [3]) (by kernel_rfl) (by simp) ?_
 refine (AllTill.cons rfl (fun KK hKK => ?_) AllTill.nil)
 rw [if_pos (by rfl)]
 go_simp
 refine (str_any y [98, 97, 115, 101] _ S W1 HJ.out (fun g hg => Nat.lt_of_lt_of_le (HSS.out g hg) (HN.out ▸ HW.out.size)) hn).mono ?_
 rintro e W2 ⟨rfl, hb⟩
 have HJ1 := Lib.hid (HJ.out.next hb)
 have HS1 : Hid ((fun W => JBox W N (.int .i64 k0) (.bool b0) (.int .i64 n0) (.string t0) (.slice A5 l5 c5) (.slice A6 l6 c6)) W2) := Lib.hid (JBox.next HS.out hb)
 have HZ1 : Hid (W2.heap[N + 1]? = some (.cells #[.string ⟨#[]⟩, .string ⟨#[]⟩, .string ⟨#[]⟩, .string ⟨#[]⟩, .bool false, .bool false, .bool false] 84 (0, 0))) := Lib.hid (blk_next hb HZ.out)
 have HW1 : Hid (Below N w W2) := Lib.hid (HW.out.trans (hb.mono (by have := JBox.lt HS.out; omega)))
 clear hb HS HZ HW HJ
 have HS := HS1
 have HZ := HZ1
 have HW := HW1
 have HJ := HJ1
 clear HS1 HZ1 HW1 HJ1
 refine hKK _ _ (fun _ => HS.out) ?_
 clear hKK KK
 simp only [Act.put, CL]
 refine wpTill_ready (rs := [5]) (by kernel_rfl) (by simp) ?_
 refine (AllTill.cons rfl (fun KK hKK => ?_) AllTill.nil)
 rw [if_pos (by rfl)]
 go_simp
 refine (str_any y [111, 117, 114, 115] _ S W2 HJ.out (fun g hg => Nat.lt_of_lt_of_le (HSS.out g hg) (HN.out ▸ HW.out.size)) hn).mono ?_
 rintro e W3 ⟨rfl, hb⟩
 have HJ1 := Lib.hid (HJ.out.next hb)
 have HS1 : Hid ((fun W => JBox W N (.int .i64 k0) (.bool b0) (.int .i64 n0) (.string t0) (.slice A5 l5 c5) (.slice A6 l6 c6)) W3) := Lib.hid (JBox.next HS.out hb)
 have HZ1 : Hid (W3.heap[N + 1]? = some (.cells #[.string ⟨#[]⟩, .string ⟨#[]⟩, .string ⟨#[]⟩, .string ⟨#[]⟩, .bool false, .bool false, .bool false] 84 (0, 0))) := Lib.hid (blk_next hb HZ.out)
 have HW1 : Hid (Below N w W3) := Lib.hid (HW.out.trans (hb.mono (by have := JBox.lt HS.out; omega)))
 clear hb HS HZ HW HJ
 have HS := HS1
 have HZ := HZ1
 have HW := HW1
 have HJ := HJ1
 clear HS1 HZ1 HW1 HJ1
 refine hKK _ _ (fun _ => HS.out) ?_
 clear hKK KK
 simp only [Act.put, CL]
 refine wpTill_ready (rs := [7]) (by kernel_rfl) (by simp) ?_
 refine (AllTill.cons rfl (fun KK hKK => ?_) AllTill.nil)
 rw [if_pos (by rfl)]
 go_simp
 refine (str_any y [116, 104, 101, 105, 114, 115] _ S W3 HJ.out (fun g hg => Nat.lt_of_lt_of_le (HSS.out g hg) (HN.out ▸ HW.out.size)) hn).mono ?_
 rintro e W4 ⟨rfl, hb⟩
 have HJ1 := Lib.hid (HJ.out.next hb)
 have HS1 : Hid ((fun W => JBox W N (.int .i64 k0) (.bool b0) (.int .i64 n0) (.string t0) (.slice A5 l5 c5) (.slice A6 l6 c6)) W4) := Lib.hid (JBox.next HS.out hb)
 have HZ1 : Hid (W4.heap[N + 1]? = some (.cells #[.string ⟨#[]⟩, .string ⟨#[]⟩, .string ⟨#[]⟩, .string ⟨#[]⟩, .bool false, .bool false, .bool false] 84 (0, 0))) := Lib.hid (blk_next hb HZ.out)
 have HW1 : Hid (Below N w W4) := Lib.hid (HW.out.trans (hb.mono (by have := JBox.lt HS.out; omega)))
 clear hb HS HZ HW HJ
 have HS := HS1
 have HZ := HZ1
 have HW := HW1
 have HJ := HJ1
 clear HS1 HZ1 HW1 HJ1
 refine hKK _ _ (fun _ => HS.out) ?_
 clear hKK KK
 simp only [Act.put, CL]
 refine wpTill_ready (rs := [9]) (by kernel_rfl) (by simp) ?_
 refine (AllTill.cons rfl (fun KK hKK => ?_) AllTill.nil)
 rw [if_pos (by rfl)]
 go_simp
 refine (of_any y [105, 110, 66, 97, 115, 101] _ S W4 HJ.out (fun g hg => Nat.lt_of_lt_of_le (HSS.out g hg) (HN.out ▸ HW.out.size)) hn).mono ?_
 rintro e W5 ⟨hb, us, rfl, hju⟩
 obtain ⟨C5, d5, C6, d6, rfl, -, -, -⟩ := jv_open hju
 clear hju
 have HJ1 := Lib.hid (HJ.out.next hb)
 have HS1 : Hid ((fun W => JBox W N (.int .i64 k0) (.bool b0) (.int .i64 n0) (.string t0) (.slice A5 l5 c5) (.slice A6 l6 c6)) W5) := Lib.hid (JBox.next HS.out hb)
 have HZ1 : Hid (W5.heap[N + 1]? = some (.cells #[.string ⟨#[]⟩, .string ⟨#[]⟩, .string ⟨#[]⟩, .string ⟨#[]⟩, .bool false, .bool false, .bool false] 84 (0, 0))) := Lib.hid (blk_next hb HZ.out)
 have HW1 : Hid (Below N w W5) := Lib.hid (HW.out.trans (hb.mono (by have := JBox.lt HS.out; omega)))
 clear hb HS HZ HW HJ
 have HS := HS1
 have HZ := HZ1
 have HW := HW1
 have HJ := HJ1
 clear HS1 HZ1 HW1 HJ1
 refine hKK _ _ (fun _ => HS.out) ?_
 clear hKK KK
 simp only [Act.put, CL]
 refine wpTill_takeF (i := 10) (v := .bool (ofP y [105, 110, 66, 97, 115, 101]).bool) rfl (by kernel_rfl) (by kernel_rfl) (by kernel_rfl) (fun l => rfl) (fun _ _ _ h => h) (Or.inl ⟨by rfl, ?yb10⟩) (fun _ => HS.out) ?_
 case yb10 => (intro W0 _; have hfl := fld1; go_simp; (try with_reducible rfl))
 simp only [Act.put, CL]
 refine wpTill_ready (rs := [12]) (by kernel_rfl) (by simp) ?_
 refine (AllTill.cons rfl (fun KK hKK => ?_) AllTill.nil)
 rw [if_pos (by rfl)]
 go_simp
 refine (of_any y [105, 110, 79, 117, 114, 115] _ S W5 HJ.out (fun g hg => Nat.lt_of_lt_of_le (HSS.out g hg) (HN.out ▸ HW.out.size)) hn).mono ?_
 rintro e W6 ⟨hb, us, rfl, hju⟩
 obtain ⟨C5, d5, C6, d6, rfl, -, -, -⟩ := jv_open hju
 clear hju
 have HJ1 := Lib.hid (HJ.out.next hb)
 have HS1 : Hid ((fun W => JBox W N (.int .i64 k0) (.bool b0) (.int .i64 n0) (.string t0) (.slice A5 l5 c5) (.slice A6 l6 c6)) W6) := Lib.hid (JBox.next HS.out hb)
 have HZ1 : Hid (W6.heap[N + 1]? = some (.cells #[.string ⟨#[]⟩, .string ⟨#[]⟩, .string ⟨#[]⟩, .string ⟨#[]⟩, .bool false, .bool false, .bool false] 84 (0, 0))) := Lib.hid (blk_next hb HZ.out)
 have HW1 : Hid (Below N w W6) := Lib.hid (HW.out.trans (hb.mono (by have := JBox.lt HS.out; omega)))
 clear hb HS HZ HW HJ
 have HS := HS1
 have HZ := HZ1
 have HW := HW1
 have HJ := HJ1
 clear HS1 HZ1 HW1 HJ1
 refine hKK _ _ (fun _ => HS.out) ?_
 clear hKK KK
 simp only [Act.put, CL]
 refine wpTill_takeF (i := 13) (v := .bool (ofP y [105, 110, 79, 117, 114, 115]).bool) rfl (by kernel_rfl) (by kernel_rfl) (by kernel_rfl) (fun l => rfl) (fun _ _ _ h => h) (Or.inl ⟨by rfl, ?yb13⟩) (fun _ => HS.out) ?_
 case yb13 => (intro W0 _; have hfl := fld1; go_simp; (try with_reducible rfl))
 simp only [Act.put, CL]
 refine wpTill_ready (rs := [15]) (by kernel_rfl) (by simp) ?_
 refine (AllTill.cons rfl (fun KK hKK => ?_) AllTill.nil)
 rw [if_pos (by rfl)]
 go_simp
 refine (of_any y [105, 110, 84, 104, 101, 105, 114, 115] _ S W6 HJ.out (fun g hg => Nat.lt_of_lt_of_le (HSS.out g hg) (HN.out ▸ HW.out.size)) hn).mono ?_
 rintro e W7 ⟨hb, us, rfl, hju⟩
 obtain ⟨C5, d5, C6, d6, rfl, -, -, -⟩ := jv_open hju
 clear hju
 have HJ1 := Lib.hid (HJ.out.next hb)
 have HS1 : Hid ((fun W => JBox W N (.int .i64 k0) (.bool b0) (.int .i64 n0) (.string t0) (.slice A5 l5 c5) (.slice A6 l6 c6)) W7) := Lib.hid (JBox.next HS.out hb)
 have HZ1 : Hid (W7.heap[N + 1]? = some (.cells #[.string ⟨#[]⟩, .string ⟨#[]⟩, .string ⟨#[]⟩, .string ⟨#[]⟩, .bool false, .bool false, .bool false] 84 (0, 0))) := Lib.hid (blk_next hb HZ.out)
 have HW1 : Hid (Below N w W7) := Lib.hid (HW.out.trans (hb.mono (by have := JBox.lt HS.out; omega)))
 clear hb HS HZ HW HJ
 have HS := HS1
 have HZ := HZ1
 have HW := HW1
 have HJ := HJ1
 clear HS1 HZ1 HW1 HJ1
 refine hKK _ _ (fun _ => HS.out) ?_
 clear hKK KK
 simp only [Act.put, CL]
 refine wpTill_takeF (i := 16) (v := .bool (ofP y [105, 110, 84, 104, 101, 105, 114, 115]).bool) rfl (by kernel_rfl) (by kernel_rfl) (by kernel_rfl) (fun l => rfl) (fun _ _ _ h => h) (Or.inl ⟨by rfl, ?yb16⟩) (fun _ => HS.out) ?_
 case yb16 => (intro W0 _; have hfl := fld1; go_simp; (try with_reducible rfl))
 simp only [Act.put, CL]
 refine wpTill_takeF (i := 17) (v := .agg #[.string (str (ofP y [112, 97, 116, 104]).text), .string (str (ofP y [98, 97, 115, 101]).text), .string (str (ofP y [111, 117, 114, 115]).text), .string (str (ofP y [116, 104, 101, 105, 114, 115]).text), .bool (ofP y [105, 110, 66, 97, 115, 101]).bool, .bool (ofP y [105, 110, 79, 117, 114, 115]).bool, .bool (ofP y [105, 110, 84, 104, 101, 105, 114, 115]).bool]) rfl (by kernel_rfl) (by kernel_rfl) (by kernel_rfl) (fun l => rfl) (fun _ _ _ h => h) (Or.inl ⟨by rfl, ?yb17⟩) (fun _ => HS.out) ?_
 case yb17 => (intro W0 _; go_simp; (try with_reducible rfl))
 simp only [Act.put, CL]
 refine wpTill_ready (rs := [18]) (by kernel_rfl) (by simp) ?_
 refine (AllTill.cons rfl (fun KK hKK => ?_) AllTill.nil)
 rw [if_pos (by rfl)]
 obtain ⟨hk0, hx0⟩ := but_set (i := 0) (.string (str (ofP y [112, 97, 116, 104]).text)) HZ.out
 obtain ⟨hk1, hx1⟩ := but_set (i := 1) (.string (str (ofP y [98, 97, 115, 101]).text)) hx0
 obtain ⟨hk2, hx2⟩ := but_set (i := 2) (.string (str (ofP y [111, 117, 114, 115]).text)) hx1
 obtain ⟨hk3, hx3⟩ := but_set (i := 3) (.string (str (ofP y [116, 104, 101, 105, 114, 115]).text)) hx2
 obtain ⟨hk4, hx4⟩ := but_set (i := 4) (.bool (ofP y [105, 110, 66, 97, 115, 101]).bool) hx3
 obtain ⟨hk5, hx5⟩ := but_set (i := 5) (.bool (ofP y [105, 110, 79, 117, 114, 115]).bool) hx4
 obtain ⟨hk6, hx6⟩ := but_set (i := 6) (.bool (ofP y [105, 110, 84, 104, 101, 105, 114, 115]).bool) hx5
 have HK9 := Lib.hid ((((((hk0.trans hk1).trans hk2).trans hk3).trans hk4).trans hk5).trans hk6)
 have HX9 := Lib.hid hx6
 have z0 : W7.cell? ⟨N + 1, 0, none⟩ = some (.string ⟨#[]⟩) := (blk_cells HZ.out 0).trans rfl
 have f0 : W7.frozen? ⟨N + 1, 0, none⟩ = false := blk_free HZ.out 0
 have z1 : W7.cell? ⟨N + 1, 1, none⟩ = some (.string ⟨#[]⟩) := (blk_cells HZ.out 1).trans rfl
 have f1 : W7.frozen? ⟨N + 1, 1, none⟩ = false := blk_free HZ.out 1
 have z2 : W7.cell? ⟨N + 1, 2, none⟩ = some (.string ⟨#[]⟩) := (blk_cells HZ.out 2).trans rfl
 have f2 : W7.frozen? ⟨N + 1, 2, none⟩ = false := blk_free HZ.out 2
 have z3 : W7.cell? ⟨N + 1, 3, none⟩ = some (.string ⟨#[]⟩) := (blk_cells HZ.out 3).trans rfl
 have f3 : W7.frozen? ⟨N + 1, 3, none⟩ = false := blk_free HZ.out 3
 have z4 : W7.cell? ⟨N + 1, 4, none⟩ = some (.bool false) := (blk_cells HZ.out 4).trans rfl
 have f4 : W7.frozen? ⟨N + 1, 4, none⟩ = false := blk_free HZ.out 4
 have z5 : W7.cell? ⟨N + 1, 5, none⟩ = some (.bool false) := (blk_cells HZ.out 5).trans rfl
 have f5 : W7.frozen? ⟨N + 1, 5, none⟩ = false := blk_free HZ.out 5
 have z6 : W7.cell? ⟨N + 1, 6, none⟩ = some (.bool false) := (blk_cells HZ.out 6).trans rfl
 have f6 : W7.frozen? ⟨N + 1, 6, none⟩ = false := blk_free HZ.out 6
 clear hk0 hx0 hk1 hx1 hk2 hx2 hk3 hx3 hk4 hx4 hk5 hx5 hk6 hx6
 go_simp
 clear z0 f0 z1 f1 z2 f2 z3 f3 z4 f4 z5 f5 z6 f6
 refine hKK _ _ (fun _ => HK9.out.blk HS.out (by simp)) ?_
 clear hKK KK
 simp only [Act.put, CL]
 refine wpTill_done (by kernel_rfl) ?_ _
 (try simp only [Exit.then])
 go_wp2_with fail
 refine bodyPost_ret (results_row1 rfl _ _ _ (N + 1) #[.string (str (ofP y [112, 97, 116, 104]).text), .string (str (ofP y [98, 97, 115, 101]).text), .string (str (ofP y [111, 117, 114, 115]).text), .string (str (ofP y [116, 104, 101, 105, 114, 115]).text), .bool (ofP y [105, 110, 66, 97, 115, 101]).bool, .bool (ofP y [105, 110, 79, 117, 114, 115]).bool, .bool (ofP y [105, 110, 84, 104, 101, 105, 114, 115]).bool] rfl (run_loadVar_row _ (N + 1) 84 84 #[.string (str (ofP y [112, 97, 116, 104]).text), .string (str (ofP y [98, 97, 115, 101]).text), .string (str (ofP y [111, 117, 114, 115]).text), .string (str (ofP y [116, 104, 101, 105, 114, 115]).text), .bool (ofP y [105, 110, 66, 97, 115, 101]).bool, .bool (ofP y [105, 110, 79, 117, 114, 115]).bool, .bool (ofP y [105, 110, 84, 104, 101, 105, 114, 115]).bool] (0, 0) _ HX9.out Tryz.underlying84 rfl (by kernel_rfl))) rfl ?_
 exact ⟨rfl, (HN.out ▸ HW.out).trans (HK9.out.to (by rw [HN.out]; have := JBox.lt HS.out; omega) (by rw [HN.out]; intro j hj; simp at hj; omega))⟩
end Go.Proofs.YtimioelnnhnbiaaGreatDoor
namespace Go.Proofs.YtimioelnnhnbiaaGreatDoor
open Go.RowKit
theorem infoclashE : (Tryz.prog.info? 84).map (fun i => (i.zero, i.size, i.bytes)) = some (some (.agg #[.string ⟨#[]⟩, .string ⟨#[]⟩, .string ⟨#[]⟩, .string ⟨#[]⟩, .bool false, .bool false, .bool false]), 7, 72) := by kernel_rfl
set_option maxRecDepth 100000 in
set_option maxHeartbeats 8000000 in
theorem each_clash (x : Js.J) (nm : Js.Bs) (vs : List Value) (S : Nat → Prop) (w : World) (hjv : JV w S x vs) (hSw : ∀ g, S g → g < w.heap.size) (hn : Js.nodes x ≤ 1000000) :
  Calls Tryz.prog 33 #[.agg vs.toArray, .string (str nm), .func (.func 34) #[] #[]] w fun e w' => Below w.heap.size w w' ∧ ∃ (Av : Option Addr) (cv : Nat), e = .returned (.slice Av (ofP x nm).items.length cv) ∧ (ofP x nm).items.length ≤ cv ∧ RowAt 7 clashC w' Av ((ofP x nm).items.map clashOf) ∧ (∀ a, Av = some a → w.heap.size ≤ a.block ∧ a.block < w'.heap.size) := by
 have HMADE : Hid (FromC 34 (fun x => .agg #[.string (str x.path), .string (str x.base), .string (str x.ours), .string (str x.theirs), .bool x.inBase, .bool x.inOurs, .bool x.inTheirs]) clashOf) := Lib.hid from_clash
 have HJ := Lib.hid hjv
 have HSS := Lib.hid hSw
 obtain ⟨A5, c5, A6, c6, k0, b0, n0, t0, l5, l6, rfl⟩ := hjv.shape
 have b1 := below_box w (.cells #[.int .i64 k0, .bool b0, .int .i64 n0, .string t0, .slice A5 l5 c5, .slice A6 l6 c6] 25)
 have e1 : JBox _ _ _ _ _ _ _ _ := heap_alloc_new w (.cells #[.int .i64 k0, .bool b0, .int .i64 n0, .string t0, .slice A5 l5 c5, .slice A6 l6 c6] 25)
 have HE1 := Lib.hid e1
 have HJ1 := Lib.hid (HJ.out.next b1)
 have HW1 := Lib.hid b1
 have HON := Lib.hid (of_nodes x nm)
 clear b1 e1 HJ hSw hjv
 go_enter Tryz.func33, Tryz.ntmps33
 go_upto_region 1 with fail
 generalize (w.alloc (.cells #[.int .i64 k0, .bool b0, .int .i64 n0, .string t0, .slice A5 l5 c5, .slice A6 l6 c6] 25)) = w1 at HE1 HJ1 HW1 ⊢
 obtain ⟨x0, x1, x2, x3, x4, x5⟩ := HE1.out.cells
 go_wp2_with fail
 refine (of_any x nm _ S w1 HJ1.out (fun g hg => Nat.lt_of_lt_of_le (HSS.out g hg) HW1.out.size) (by omega)).mono ?_
 rintro e w2 ⟨hb2, us, rfl, hju⟩
 obtain ⟨C5, d5, C6, d6, rfl, -, hil, -⟩ := jv_open hju
 have HIL := Lib.hid hil
 have HW2 := Lib.hid (HW1.out.trans (hb2.mono HW1.out.size))
 have HIT := Lib.hid (items_le (ofP x nm))
 clear hju hb2 HJ1 HE1 HW1 x0 x1 x2 x3 x4 x5 hil
 obtain ⟨z, hz⟩ : ∃ z, ofP x nm = z := ⟨_, rfl⟩
 rw [hz] at HIL HIT HON ⊢
 have hfl := fld4
 have hsmall : z.items.length ≤ 1000000 := by have h1 := HIT.out.1; have h2 := HON.out; omega
 have HZE := Lib.hid hz
 clear hz
 have HZN : Hid (∀ (k : Nat) (y : Js.J), z.items[k]? = some y → Js.nodes y ≤ 1073741824) := Lib.hid (fun k y hy => by have h1 := HIT.out.2 k y hy; have h2 := HON.out; omega)
 have HSW : Hid (∀ W, Below w.heap.size w W → ∀ g, S g → g < W.heap.size) := Lib.hid (fun W hW g hg => Nat.lt_of_lt_of_le (HSS.out g hg) hW.size)
 clear HIT HON hn HSS
 obtain ⟨items, hit⟩ : ∃ l, z.items = l := ⟨_, rfl⟩
 rw [hit] at HIL HZN hsmall ⊢
 have HEQ : Hid ((ofP x nm).items = items) := Lib.hid (by rw [HZE.out]; exact hit)
 clear HZE
 have HG0 : Hid (Gr 84 7 (RC clashC) (fun _ => False) w2.heap.size ((items.take 0).map clashOf) (.slice none 0 0) [] w2) := Lib.hid Gr.nil
 go_wp2_with fail
 clear hfl
 go_loopw [7, 15] (fun a i wr => ∃ (k : Nat) (Av : Option Addr) (cv : Nat) (rs : List (List Value)), k ≤ items.length ∧ a = .slice Av k cv ∧ i = .int .i64 k ∧ Hid (Gr 84 7 (RC clashC) (fun _ => False) w2.heap.size ((items.take k).map clashOf) (.slice Av k cv) rs wr) ∧
  Hid (Below w2.heap.size w2 wr)) (fun _ i _ => items.length - (intOf i).toNat)
 case atStart => exact ⟨0, none, 0, [], by omega, rfl, rfl, HG0, Lib.hid (Below.refl _ _)⟩
 case round =>
  obtain ⟨k, Av, cv, rs, hk, rfl, rfl, HG, HW⟩ := hrel
  by_cases hlt : k < items.length
  ·have hcon : decide ((k : Int) < (items.length : Int)) = true := by simp; omega
   obtain ⟨y, hy⟩ : ∃ y, items[k]? = some y := ⟨items[k], List.getElem?_eq_getElem hlt⟩
   obtain ⟨g, o, k1, b1, n1, t1, A7, l7, c7, A8, l8, c8, hA, hSg, hg, q0, q1, q2, q3, q4, q5, hjy⟩ := (JL.next HIL.out HW.out).elem hy
   subst hA
   have HY := Lib.hid hy
   have hyl := below_box wr (.cells #[.int .i64 k1, .bool b1, .int .i64 n1, .string t1, .slice A7 l7 c7, .slice A8 l8 c8] 25)
   have HB : Hid (JBox _ wr.heap.size _ _ _ _ _ _) := Lib.hid (heap_alloc_new wr (.cells #[.int .i64 k1, .bool b1, .int .i64 n1, .string t1, .slice A7 l7 c7, .slice A8 l8 c8] 25))
   have HG1 := Lib.hid (HG.out.next kept_clash hyl)
   have HW1 := Lib.hid (HW.out.trans (hyl.mono HW.out.size))
   have HJ1 := Lib.hid (hjy.next hyl)
   clear hyl hjy hSg hy HG HW
   go_upto_region 5 with fail
   generalize (wr.alloc (.cells #[.int .i64 k1, .bool b1, .int .i64 n1, .string t1, .slice A7 l7 c7, .slice A8 l8 c8] 25)) = w3 at HB HG1 HW1 HJ1 ⊢
   generalize wr.heap.size = Q at HB ⊢
   clear q0 q1 q2 q3 q4 q5 hg
   obtain ⟨x0, x1, x2, x3, x4, x5⟩ := HB.out.cells
   go_wp2_with fail
   refine (HMADE.out y _ S w3 HJ1.out (HSW.out w3 (HW2.out.trans (HW1.out.mono HW2.out.size))) (HZN.out k y HY.out)).mono ?_
   rintro e w4 ⟨rfl, hb4⟩
   have HG4 := Lib.hid (HG1.out.next kept_clash hb4)
   have HW4 := Lib.hid (HW1.out.trans (hb4.mono HW1.out.size))
   clear hb4 HG1 HW1 HJ1 HB x0 x1 x2 x3 x4 x5
   have hal := below_box w4 (.cells #[.string (str (clashOf y).path), .string (str (clashOf y).base), .string (str (clashOf y).ours), .string (str (clashOf y).theirs), .bool (clashOf y).inBase, .bool (clashOf y).inOurs, .bool (clashOf y).inTheirs] 84)
   have HQ := Lib.hid (heap_alloc_new w4 (.cells #[.string (str (clashOf y).path), .string (str (clashOf y).base), .string (str (clashOf y).ours), .string (str (clashOf y).theirs), .bool (clashOf y).inBase, .bool (clashOf y).inOurs, .bool (clashOf y).inTheirs] 84))
   have HG5 := Lib.hid (HG4.out.next kept_clash hal)
   have HW5 := Lib.hid (HW4.out.trans (hal.mono HW4.out.size))
   clear hal HG4 HW4
   obtain ⟨i0, hi, hz0, hz1, hz2⟩ := info_parts infoclashE
   have hlk : ((items.take k).map clashOf).length = k := by rw [List.length_map, List.length_take]; omega
   have hown := HG5.out.own.own
   rw [hlk] at hown
   generalize hW2 : (w4.alloc (.cells #[.string (str (clashOf y).path), .string (str (clashOf y).base), .string (str (clashOf y).ours), .string (str (clashOf y).theirs), .bool (clashOf y).inBase, .bool (clashOf y).inOurs, .bool (clashOf y).inTheirs] 84)) = W2 at HQ HG5 HW5 hown
   generalize hM : w4.heap.size = M at HQ
   go_wp2_with (at_builtin; refine wpList_append_lies W2 rfl (.tmp 19) (.tmp 23) 44 rfl w2.heap.size 84 i0 (.agg #[.string ⟨#[]⟩, .string ⟨#[]⟩, .string ⟨#[]⟩, .string ⟨#[]⟩, .bool false, .bool false, .bool false]) 7 72 Tryz.underlying44 hi hz0 hz1 hz2 rfl (by decide) (.slice Av k cv) k rs.flatten rfl hown ⟨M, 0, none⟩ 1 1 [.string (str (clashOf y).path), .string (str (clashOf y).base), .string (str (clashOf y).ours), .string (str (clashOf y).theirs), .bool (clashOf y).inBase, .bool (clashOf y).inOurs, .bool (clashOf y).inTheirs] rfl rfl (World.news_of_block HQ.out) (by intro u hu; simp at hu; rcases hu with rfl | rfl | rfl | rfl | rfl | rfl | rfl <;> rfl) (by decide) (by unfold maxLen; omega) (by omega) HG5.out.own.le W2.heap.size rfl ?_; intro g9 cap W3 hown3 hgrow hat3 hlt3)
   obtain ⟨hG6, hk6⟩ := HG5.out.push kept_clash (x := clashOf y) (vs := [.string (str (clashOf y).path), .string (str (clashOf y).base), .string (str (clashOf y).ours), .string (str (clashOf y).theirs), .bool (clashOf y).inBase, .bool (clashOf y).inOurs, .bool (clashOf y).inTheirs]) rfl (by rw [hlk]; exact hown3) hgrow hat3
   rw [hlk] at hG6
   have htk : (items.take k).map clashOf ++ [clashOf y] = (items.take (k + 1)).map clashOf := by rw [List.take_add_one, HY.out, List.map_append]; rfl
   rw [htk] at hG6
   have HG6 := Lib.hid hG6
   have HW6 := Lib.hid (HW5.out.trans (hk6.to HW5.out.size (by
    intro j hj
    have hm : (Value.slice Av k cv).ownBlock = some j := by simpa using hj
    have := (HG5.out.own.lt j hm).1
    omega)))
   go_roundw
   case rel => exact ⟨k + 1, _, _, _, by omega, rfl, by go_num, HG6, HW6⟩
   case measure => simp [intOf]; omega
  ·obtain rfl : k = items.length := by omega
   have hcon : decide (((items.length : Nat) : Int) < (items.length : Int)) = false := by simp
   have HR : Hid (RowAt 7 clashC wr Av (items.map clashOf) ∧ items.length ≤ cv ∧ ∀ a, Av = some a → w2.heap.size ≤ a.block ∧ a.block < wr.heap.size) := Lib.hid (by
    have h1 := HG.out
    rw [List.take_length] at h1
    have h2 := h1.own
    rw [List.length_map] at h2
    exact ⟨h1.rowAt kept_clash, (own_cap h2).1, fun a ha => h1.own.lt a.block (by rw [ha]; rfl)⟩)
   go_wp2_with fail
   go_ret
   rw [HEQ.out]
   exact ⟨HW2.out.trans (HW.out.mono HW2.out.size), Av, cv, rfl, HR.out.2.1, HR.out.1, fun a ha => ⟨Nat.le_trans HW2.out.size (HR.out.2.2 a ha).1, (HR.out.2.2 a ha).2⟩⟩
end Go.Proofs.YtimioelnnhnbiaaGreatDoor
namespace Go.Proofs.YtimioelnnhnbiaaGreatDoor
open Go.RowKit
def fileOf (y : Js.J) : Js.Bs × Js.Bs := ((ofP y [112, 97, 116, 104]).text, (ofP y [116, 101, 120, 116]).text)
theorem kept_file : Kept 2 (RC fileC) := kept_C (fun _ => rfl) (fun x v hv => by simp [fileC] at hv; rcases hv with rfl | rfl <;> rfl)
set_option maxRecDepth 100000 in
set_option maxHeartbeats 8000000 in
theorem from_file : FromC 25 (fun x => .agg #[.string (str x.1), .string (str x.2)]) fileOf := by
 intro y vs S w hjv hSw hn
 have HJ0 := Lib.hid hjv
 have HSS := Lib.hid hSw
 obtain ⟨A5, c5, A6, c6, k0, b0, n0, t0, l5, l6, rfl⟩ := hjv.shape
 have b1 := below_box w (.cells #[.int .i64 k0, .bool b0, .int .i64 n0, .string t0, .slice A5 l5 c5, .slice A6 l6 c6] 25)
 have s1 : (w.alloc (.cells #[.int .i64 k0, .bool b0, .int .i64 n0, .string t0, .slice A5 l5 c5, .slice A6 l6 c6] 25)).heap.size = w.heap.size + 1 := by simp
 have e1 : JBox _ _ _ _ _ _ _ _ := heap_alloc_new w (.cells #[.int .i64 k0, .bool b0, .int .i64 n0, .string t0, .slice A5 l5 c5, .slice A6 l6 c6] 25)
 have b2 := below_box (w.alloc (.cells #[.int .i64 k0, .bool b0, .int .i64 n0, .string t0, .slice A5 l5 c5, .slice A6 l6 c6] 25)) (.cells #[.string ⟨#[]⟩, .string ⟨#[]⟩] 75)
 have e2 := heap_alloc_new (w.alloc (.cells #[.int .i64 k0, .bool b0, .int .i64 n0, .string t0, .slice A5 l5 c5, .slice A6 l6 c6] 25)) (.cells #[.string ⟨#[]⟩, .string ⟨#[]⟩] 75)
 rw [s1] at e2
 have HE1 := Lib.hid (e1.next b2)
 have HE2 := Lib.hid e2
 have HJ2 := Lib.hid ((HJ0.out.next b1).next b2)
 have HW2 := Lib.hid (b1.trans (b2.mono (by rw [s1]; omega)))
 clear b1 s1 e1 b2 e2 HJ0 hSw hjv
 go_enter Tryz.func25, Tryz.ntmps25
 go_upto_region 1 with fail
 generalize ((w.alloc (.cells #[.int .i64 k0, .bool b0, .int .i64 n0, .string t0, .slice A5 l5 c5, .slice A6 l6 c6] 25)).alloc (.cells #[.string ⟨#[]⟩, .string ⟨#[]⟩] 75)) = w2 at HE1 HE2 HJ2 HW2 ⊢
 obtain ⟨N, hN⟩ : ∃ N, w.heap.size = N := ⟨_, rfl⟩
 rw [hN] at HE1 HE2 ⊢
 have HN := Lib.hid hN
 clear hN
 go_wp2_with fail
 refine wp_region_any (by kernel_rfl) ?_
 change wpAny _ _ _ _ _ _ _ (World.drew _)
 have hbd : Below w2.heap.size w2 w2.drew := below_drewN (Below.refl _ _) 1
 have HS : Hid ((fun W => JBox W N (.int .i64 k0) (.bool b0) (.int .i64 n0) (.string t0) (.slice A5 l5 c5) (.slice A6 l6 c6)) w2.drew) := Lib.hid (JBox.next HE1.out hbd)
 have HZ : Hid (w2.drew.heap[N + 1]? = some (.cells #[.string ⟨#[]⟩, .string ⟨#[]⟩] 75 (0, 0))) := Lib.hid (blk_next hbd HE2.out)
 have HW : Hid (Below N w w2.drew) := Lib.hid (HN.out ▸ (HW2.out.trans (hbd.mono HW2.out.size)))
 have HJ := Lib.hid (HJ2.out.next hbd)
 clear hbd HE1 HE2 HW2 HJ2
 generalize w2.drew = W at HS HZ HW HJ ⊢
 refine wpAny_of_till (S := fun W => JBox W N (.int .i64 k0) (.bool b0) (.int .i64 n0) (.string t0) (.slice A5 l5 c5) (.slice A6 l6 c6)) (st := (fun _ => false)) _ _ _ _ ?_
 change wpTill _ _ _ _ _ _ _ #[false, false, false, false, false, false] _ _
 refine wpTill_take (i := 0) (v := .agg #[.int .i64 k0, .bool b0, .int .i64 n0, .string t0, .slice A5 l5 c5, .slice A6 l6 c6]) rfl (by kernel_rfl) (by kernel_rfl) (by kernel_rfl) (shut_of (by kernel_rfl)) (fun l _ h9 => by cases h9) (fun l => rfl) (fun _ _ _ h => h) (Or.inl ⟨by rfl, ?yb0⟩) HS.out (fun _ => ?_)
 case yb0 => (intro W0 hS; obtain ⟨x0, x1, x2, x3, x4, x5⟩ := JBox.cells hS; go_simp; (try with_reducible rfl))
 simp only [Act.put, CL]
 refine wpTill_take (i := 2) (v := .agg #[.int .i64 k0, .bool b0, .int .i64 n0, .string t0, .slice A5 l5 c5, .slice A6 l6 c6]) rfl (by kernel_rfl) (by kernel_rfl) (by kernel_rfl) (shut_of (by kernel_rfl)) (fun l _ h9 => by cases h9) (fun l => rfl) (fun _ _ _ h => h) (Or.inl ⟨by rfl, ?yb2⟩) HS.out (fun _ => ?_)
 case yb2 => (intro W0 hS; obtain ⟨x0, x1, x2, x3, x4, x5⟩ := JBox.cells hS; go_simp; (try with_reducible rfl))
 simp only [Act.put, CL]
 refine wpTill_ready (rs := [1]) (by kernel_rfl) (by simp) ?_
 refine (AllTill.cons rfl (fun KK hKK => ?_) AllTill.nil)
 rw [if_pos (by rfl)]
 go_simp
 refine (str_any y [112, 97, 116, 104] _ S W HJ.out (fun g hg => Nat.lt_of_lt_of_le (HSS.out g hg) (HN.out ▸ HW.out.size)) hn).mono ?_
 rintro e W1 ⟨rfl, hb⟩
 have HJ1 := Lib.hid (HJ.out.next hb)
 have HS1 : Hid ((fun W => JBox W N (.int .i64 k0) (.bool b0) (.int .i64 n0) (.string t0) (.slice A5 l5 c5) (.slice A6 l6 c6)) W1) := Lib.hid (JBox.next HS.out hb)
 have HZ1 : Hid (W1.heap[N + 1]? = some (.cells #[.string ⟨#[]⟩, .string ⟨#[]⟩] 75 (0, 0))) := Lib.hid (blk_next hb HZ.out)
 have HW1 : Hid (Below N w W1) := Lib.hid (HW.out.trans (hb.mono (by have := JBox.lt HS.out; omega)))
 clear hb HS HZ HW HJ
 have HS := HS1
 have HZ := HZ1
 have HW := HW1
 have HJ := HJ1
 clear HS1 HZ1 HW1 HJ1
 refine hKK _ _ (fun _ => HS.out) ?_
 clear hKK KK
 simp only [Act.put, CL]
 refine wpTill_ready (rs := [3]) (by kernel_rfl) (by simp) ?_
 refine (AllTill.cons rfl (fun KK hKK => ?_) AllTill.nil)
 rw [if_pos (by rfl)]
 go_simp
 refine (str_any y [116, 101, 120, 116] _ S W1 HJ.out (fun g hg => Nat.lt_of_lt_of_le (HSS.out g hg) (HN.out ▸ HW.out.size)) hn).mono ?_
 rintro e W2 ⟨rfl, hb⟩
 have HJ1 := Lib.hid (HJ.out.next hb)
 have HS1 : Hid ((fun W => JBox W N (.int .i64 k0) (.bool b0) (.int .i64 n0) (.string t0) (.slice A5 l5 c5) (.slice A6 l6 c6)) W2) := Lib.hid (JBox.next HS.out hb)
 have HZ1 : Hid (W2.heap[N + 1]? = some (.cells #[.string ⟨#[]⟩, .string ⟨#[]⟩] 75 (0, 0))) := Lib.hid (blk_next hb HZ.out)
 have HW1 : Hid (Below N w W2) := Lib.hid (HW.out.trans (hb.mono (by have := JBox.lt HS.out; omega)))
 clear hb HS HZ HW HJ
 have HS := HS1
 have HZ := HZ1
 have HW := HW1
 have HJ := HJ1
 clear HS1 HZ1 HW1 HJ1
 refine hKK _ _ (fun _ => HS.out) ?_
 clear hKK KK
 simp only [Act.put, CL]
 refine wpTill_takeF (i := 4) (v := .agg #[.string (str (ofP y [112, 97, 116, 104]).text), .string (str (ofP y [116, 101, 120, 116]).text)]) rfl (by kernel_rfl) (by kernel_rfl) (by kernel_rfl) (fun l => rfl) (fun _ _ _ h => h) (Or.inl ⟨by rfl, ?yb4⟩) (fun _ => HS.out) ?_
 case yb4 => (intro W0 _; go_simp; (try with_reducible rfl))
 simp only [Act.put, CL]
 refine wpTill_ready (rs := [5]) (by kernel_rfl) (by simp) ?_
 refine (AllTill.cons rfl (fun KK hKK => ?_) AllTill.nil)
 rw [if_pos (by rfl)]
 obtain ⟨hk0, hx0⟩ := but_set (i := 0) (.string (str (ofP y [112, 97, 116, 104]).text)) HZ.out
 obtain ⟨hk1, hx1⟩ := but_set (i := 1) (.string (str (ofP y [116, 101, 120, 116]).text)) hx0
 have HK9 := Lib.hid (hk0.trans hk1)
 have HX9 := Lib.hid hx1
 have z0 : W2.cell? ⟨N + 1, 0, none⟩ = some (.string ⟨#[]⟩) := (blk_cells HZ.out 0).trans rfl
 have f0 : W2.frozen? ⟨N + 1, 0, none⟩ = false := blk_free HZ.out 0
 have z1 : W2.cell? ⟨N + 1, 1, none⟩ = some (.string ⟨#[]⟩) := (blk_cells HZ.out 1).trans rfl
 have f1 : W2.frozen? ⟨N + 1, 1, none⟩ = false := blk_free HZ.out 1
 clear hk0 hx0 hk1 hx1
 go_simp
 clear z0 f0 z1 f1
 refine hKK _ _ (fun _ => HK9.out.blk HS.out (by simp)) ?_
 clear hKK KK
 simp only [Act.put, CL]
 refine wpTill_done (by kernel_rfl) ?_ _
 (try simp only [Exit.then])
 go_wp2_with fail
 refine bodyPost_ret (results_row1 rfl _ _ _ (N + 1) #[.string (str (ofP y [112, 97, 116, 104]).text), .string (str (ofP y [116, 101, 120, 116]).text)] rfl (run_loadVar_row _ (N + 1) 75 75 #[.string (str (ofP y [112, 97, 116, 104]).text), .string (str (ofP y [116, 101, 120, 116]).text)] (0, 0) _ HX9.out Tryz.underlying75 rfl (by kernel_rfl))) rfl ?_
 exact ⟨rfl, (HN.out ▸ HW.out).trans (HK9.out.to (by rw [HN.out]; have := JBox.lt HS.out; omega) (by rw [HN.out]; intro j hj; simp at hj; omega))⟩
end Go.Proofs.YtimioelnnhnbiaaGreatDoor
