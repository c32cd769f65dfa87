/-
  Joined: ZL ZKfile ZKlong YA YAp.
-/
import Derived.Test.YtimioelnnhnbiaaGreatDoorS18
import Derived.Test.YtimioelnnhnbiaaGreatDoorS17
import Derived.Test.YtimioelnnhnbiaaGreatDoorS05
import Derived.Deep.AppendLies
import Derived.Test.YtimioelnnhnbiaaGreatDoorS22
import Derived.Test.YtimioelnnhnbiaaGreatDoorS19
import Derived.Test.YtimioelnnhnbiaaGreatDoorS23
namespace Go.Proofs.YtimioelnnhnbiaaGreatDoor
open Go.RowKit
def fileOf (y : Js.J) : Js.Bs × Js.Bs := ((ofP y [112, 97, 116, 104]).text, (ofP y [116, 101, 120, 116]).text)
theorem kept_file : Kept 2 (RC fileC) := kept_C (fun _ => rfl) (fun x v hv => by simp [fileC] at hv; rcases hv with rfl | rfl <;> rfl)
set_option maxRecDepth 100000 in
set_option maxHeartbeats 8000000 in
theorem from_file : FromC 25 (fun x => .agg #[.string (str x.1), .string (str x.2)]) fileOf := by
 intro y vs S w hjv hSw hn
 have HJ0 := Lib.hid hjv
 have HSS := Lib.hid hSw
 obtain ⟨A5, c5, A6, c6, k0, b0, n0, t0, l5, l6, rfl⟩ := hjv.shape
 have b1 := below_box w (.cells #[.int .i64 k0, .bool b0, .int .i64 n0, .string t0, .slice A5 l5 c5, .slice A6 l6 c6] 25)
 have s1 : (w.alloc (.cells #[.int .i64 k0, .bool b0, .int .i64 n0, .string t0, .slice A5 l5 c5, .slice A6 l6 c6] 25)).heap.size = w.heap.size + 1 := by simp
 have e1 : JBox _ _ _ _ _ _ _ _ := heap_alloc_new w (.cells #[.int .i64 k0, .bool b0, .int .i64 n0, .string t0, .slice A5 l5 c5, .slice A6 l6 c6] 25)
 have b2 := below_box (w.alloc (.cells #[.int .i64 k0, .bool b0, .int .i64 n0, .string t0, .slice A5 l5 c5, .slice A6 l6 c6] 25)) (.cells #[.string ⟨#[]⟩, .string ⟨#[]⟩] 75)
 have e2 := heap_alloc_new (w.alloc (.cells #[.int .i64 k0, .bool b0, .int .i64 n0, .string t0, .slice A5 l5 c5, .slice A6 l6 c6] 25)) (.cells #[.string ⟨#[]⟩, .string ⟨#[]⟩] 75)
 rw [s1] at e2
 have HE1 := Lib.hid (e1.next b2)
 have HE2 := Lib.hid e2
 have HJ2 := Lib.hid ((HJ0.out.next b1).next b2)
 have HW2 := Lib.hid (b1.trans (b2.mono (by rw [s1]; omega)))
 clear b1 s1 e1 b2 e2 HJ0 hSw hjv
 go_enter Tryz.func25, Tryz.ntmps25
 go_upto_region 1 with fail
 generalize ((w.alloc (.cells #[.int .i64 k0, .bool b0, .int .i64 n0, .string t0, .slice A5 l5 c5, .slice A6 l6 c6] 25)).alloc (.cells #[.string ⟨#[]⟩, .string ⟨#[]⟩] 75)) = w2 at HE1 HE2 HJ2 HW2 ⊢
 obtain ⟨N, hN⟩ : ∃ N, w.heap.size = N := ⟨_, rfl⟩
 rw [hN] at HE1 HE2 ⊢
 have HN := Lib.hid hN
 clear hN
 go_wp2_with fail
 refine wp_region_any (by kernel_rfl) ?_
 change wpAny _ _ _ _ _ _ _ (World.drew _)
 have hbd : Below w2.heap.size w2 w2.drew := below_drewN (Below.refl _ _) 1
 have HS : Hid ((fun W => JBox W N (.int .i64 k0) (.bool b0) (.int .i64 n0) (.string t0) (.slice A5 l5 c5) (.slice A6 l6 c6)) w2.drew) := Lib.hid (JBox.next HE1.out hbd)
 have HZ : Hid (w2.drew.heap[N + 1]? = some (.cells #[.string ⟨#[]⟩, .string ⟨#[]⟩] 75 (0, 0))) := Lib.hid (blk_next hbd HE2.out)
 have HW : Hid (Below N w w2.drew) := Lib.hid (HN.out ▸ (HW2.out.trans (hbd.mono HW2.out.size)))
 have HJ := Lib.hid (HJ2.out.next hbd)
 clear hbd HE1 HE2 HW2 HJ2
 generalize w2.drew = W at HS HZ HW HJ ⊢
 refine wpAny_of_till (S := fun W => JBox W N (.int .i64 k0) (.bool b0) (.int .i64 n0) (.string t0) (.slice A5 l5 c5) (.slice A6 l6 c6)) (st := (fun _ => false)) _ _ _ _ ?_
 change wpTill _ _ _ _ _ _ _ #[false, false, false, false, false, false] _ _
 refine tk0 0 (.agg #[.int .i64 k0, .bool b0, .int .i64 n0, .string t0, .slice A5 l5 c5, .slice A6 l6 c6]) rfl (Or.inl ⟨by rfl, ?yb0⟩) HS.out (fun _ => ?_)
 case yb0 => (intro W0 hS; obtain ⟨x0, x1, x2, x3, x4, x5⟩ := JBox.cells hS; go_simp; (try with_reducible rfl))
 simp only [Act.put, CL]
 refine tk0 2 (.agg #[.int .i64 k0, .bool b0, .int .i64 n0, .string t0, .slice A5 l5 c5, .slice A6 l6 c6]) rfl (Or.inl ⟨by rfl, ?yb2⟩) HS.out (fun _ => ?_)
 case yb2 => (intro W0 hS; obtain ⟨x0, x1, x2, x3, x4, x5⟩ := JBox.cells hS; go_simp; (try with_reducible rfl))
 simp only [Act.put, CL]
 refine rdy 1 rfl (fun KK hKK => ?_)
 go_simp
 refine (str_any y [112, 97, 116, 104] _ S W HJ.out (fun g hg => Nat.lt_of_lt_of_le (HSS.out g hg) (HN.out ▸ HW.out.size)) hn).mono ?_
 rintro e W1 ⟨rfl, hb⟩
 have HJ1 := Lib.hid (HJ.out.next hb)
 have HS1 : Hid ((fun W => JBox W N (.int .i64 k0) (.bool b0) (.int .i64 n0) (.string t0) (.slice A5 l5 c5) (.slice A6 l6 c6)) W1) := Lib.hid (JBox.next HS.out hb)
 have HZ1 : Hid (W1.heap[N + 1]? = some (.cells #[.string ⟨#[]⟩, .string ⟨#[]⟩] 75 (0, 0))) := Lib.hid (blk_next hb HZ.out)
 have HW1 : Hid (Below N w W1) := Lib.hid (HW.out.trans (hb.mono (by have := JBox.lt HS.out; omega)))
 clear hb HS HZ HW HJ
 have HS := HS1
 have HZ := HZ1
 have HW := HW1
 have HJ := HJ1
 clear HS1 HZ1 HW1 HJ1
 refine hKK _ _ (fun _ => HS.out) ?_
 clear hKK KK
 simp only [Act.put, CL]
 refine rdy 3 rfl (fun KK hKK => ?_)
 go_simp
 refine (str_any y [116, 101, 120, 116] _ S W1 HJ.out (fun g hg => Nat.lt_of_lt_of_le (HSS.out g hg) (HN.out ▸ HW.out.size)) hn).mono ?_
 rintro e W2 ⟨rfl, hb⟩
 have HJ1 := Lib.hid (HJ.out.next hb)
 have HS1 : Hid ((fun W => JBox W N (.int .i64 k0) (.bool b0) (.int .i64 n0) (.string t0) (.slice A5 l5 c5) (.slice A6 l6 c6)) W2) := Lib.hid (JBox.next HS.out hb)
 have HZ1 : Hid (W2.heap[N + 1]? = some (.cells #[.string ⟨#[]⟩, .string ⟨#[]⟩] 75 (0, 0))) := Lib.hid (blk_next hb HZ.out)
 have HW1 : Hid (Below N w W2) := Lib.hid (HW.out.trans (hb.mono (by have := JBox.lt HS.out; omega)))
 clear hb HS HZ HW HJ
 have HS := HS1
 have HZ := HZ1
 have HW := HW1
 have HJ := HJ1
 clear HS1 HZ1 HW1 HJ1
 refine hKK _ _ (fun _ => HS.out) ?_
 clear hKK KK
 simp only [Act.put, CL]
 refine tkF 4 (.agg #[.string (str (ofP y [112, 97, 116, 104]).text), .string (str (ofP y [116, 101, 120, 116]).text)]) rfl ?yb4 (fun _ => HS.out) ?_
 case yb4 => (intro W0 _; go_simp; (try with_reducible rfl))
 simp only [Act.put, CL]
 refine rdy 5 rfl (fun KK hKK => ?_)
 obtain ⟨hk0, hx0⟩ := but_set (i := 0) (.string (str (ofP y [112, 97, 116, 104]).text)) HZ.out
 obtain ⟨hk1, hx1⟩ := but_set (i := 1) (.string (str (ofP y [116, 101, 120, 116]).text)) hx0
 have HK9 := Lib.hid (hk0.trans hk1)
 have HX9 := Lib.hid hx1
 have z0 : W2.cell? ⟨N + 1, 0, none⟩ = some (.string ⟨#[]⟩) := (blk_cells HZ.out 0).trans rfl
 have f0 : W2.frozen? ⟨N + 1, 0, none⟩ = false := blk_free HZ.out 0
 have z1 : W2.cell? ⟨N + 1, 1, none⟩ = some (.string ⟨#[]⟩) := (blk_cells HZ.out 1).trans rfl
 have f1 : W2.frozen? ⟨N + 1, 1, none⟩ = false := blk_free HZ.out 1
 clear hk0 hx0 hk1 hx1
 go_simp
 clear z0 f0 z1 f1
 refine hKK _ _ (fun _ => HK9.out.blk HS.out (by simp)) ?_
 clear hKK KK
 simp only [Act.put, CL]
 refine wpTill_done (by kernel_rfl) ?_ _
 (try simp only [Exit.then])
 go_wp2_with fail
 refine bodyPost_ret (results_row1 rfl _ _ _ (N + 1) #[.string (str (ofP y [112, 97, 116, 104]).text), .string (str (ofP y [116, 101, 120, 116]).text)] rfl (run_loadVar_row _ (N + 1) 75 75 #[.string (str (ofP y [112, 97, 116, 104]).text), .string (str (ofP y [116, 101, 120, 116]).text)] (0, 0) _ HX9.out Tryz.underlying75 rfl (by kernel_rfl))) rfl ?_
 exact ⟨rfl, (HN.out ▸ HW.out).trans (HK9.out.to (by rw [HN.out]; have := JBox.lt HS.out; omega) (by rw [HN.out]; intro j hj; simp at hj; omega))⟩
end Go.Proofs.YtimioelnnhnbiaaGreatDoor
namespace Go.Proofs.YtimioelnnhnbiaaGreatDoor
open Go.RowKit
theorem infofileE : (Tryz.prog.info? 75).map (fun i => (i.zero, i.size, i.bytes)) = some (some (.agg #[.string ⟨#[]⟩, .string ⟨#[]⟩]), 2, 32) := by kernel_rfl
set_option maxRecDepth 100000 in
set_option maxHeartbeats 8000000 in
theorem each_file (x : Js.J) (nm : Js.Bs) (vs : List Value) (S : Nat → Prop) (w : World) (hjv : JV w S x vs) (hSw : ∀ g, S g → g < w.heap.size) (hn : Js.nodes x ≤ 1000000) :
  Calls Tryz.prog 24 #[.agg vs.toArray, .string (str nm), .func (.func 25) #[] #[]] w fun e w' => Below w.heap.size w w' ∧ ∃ (Av : Option Addr) (cv : Nat), e = .returned (.slice Av (ofP x nm).items.length cv) ∧ (ofP x nm).items.length ≤ cv ∧ RowAt 2 fileC w' Av ((ofP x nm).items.map fileOf) ∧ (∀ a, Av = some a → w.heap.size ≤ a.block ∧ a.block < w'.heap.size) := by
 have HMADE := Lib.hid from_file
 have HJ := Lib.hid hjv
 have HSS := Lib.hid hSw
 obtain ⟨A5, c5, A6, c6, k0, b0, n0, t0, l5, l6, rfl⟩ := hjv.shape
 have b1 := below_box w (.cells #[.int .i64 k0, .bool b0, .int .i64 n0, .string t0, .slice A5 l5 c5, .slice A6 l6 c6] 25)
 have e1 : JBox _ _ _ _ _ _ _ _ := heap_alloc_new w (.cells #[.int .i64 k0, .bool b0, .int .i64 n0, .string t0, .slice A5 l5 c5, .slice A6 l6 c6] 25)
 have HE1 := Lib.hid e1
 have HJ1 := Lib.hid (HJ.out.next b1)
 have HW1 := Lib.hid b1
 have HON := Lib.hid (of_nodes x nm)
 clear b1 e1 HJ hSw hjv
 go_enter Tryz.func24, Tryz.ntmps24
 go_upto_region 1 with fail
 generalize (w.alloc (.cells #[.int .i64 k0, .bool b0, .int .i64 n0, .string t0, .slice A5 l5 c5, .slice A6 l6 c6] 25)) = w1 at HE1 HJ1 HW1 ⊢
 obtain ⟨x0, x1, x2, x3, x4, x5⟩ := HE1.out.cells
 go_wp2_with fail
 refine (of_any x nm _ S w1 HJ1.out (fun g hg => Nat.lt_of_lt_of_le (HSS.out g hg) HW1.out.size) (by omega)).mono ?_
 rintro e w2 ⟨hb2, us, rfl, hju⟩
 obtain ⟨C5, d5, C6, d6, rfl, -, hil, -⟩ := jv_open hju
 have HIL := Lib.hid hil
 have HW2 := Lib.hid (HW1.out.trans (hb2.mono HW1.out.size))
 have HIT := Lib.hid (items_le (ofP x nm))
 clear hju hb2 HJ1 HE1 HW1 x0 x1 x2 x3 x4 x5 hil
 obtain ⟨z, hz⟩ : ∃ z, ofP x nm = z := ⟨_, rfl⟩
 rw [hz] at HIL HIT HON ⊢
 have hfl := fld4
 have hsmall : z.items.length ≤ 1000000 := by have h1 := HIT.out.1; have h2 := HON.out; omega
 have HZE := Lib.hid hz
 clear hz
 have HZN : Hid (∀ (k : Nat) (y : Js.J), z.items[k]? = some y → Js.nodes y ≤ 1073741824) := Lib.hid (fun k y hy => by have h1 := HIT.out.2 k y hy; have h2 := HON.out; omega)
 have HSW : Hid (∀ W, Below w.heap.size w W → ∀ g, S g → g < W.heap.size) := Lib.hid (fun W hW g hg => Nat.lt_of_lt_of_le (HSS.out g hg) hW.size)
 clear HIT HON hn HSS
 obtain ⟨items, hit⟩ : ∃ l, z.items = l := ⟨_, rfl⟩
 rw [hit] at HIL HZN hsmall ⊢
 have HEQ : Hid ((ofP x nm).items = items) := Lib.hid (by rw [HZE.out]; exact hit)
 clear HZE
 have HG0 : Hid (Gr 75 2 (RC fileC) (fun _ => False) w2.heap.size ((items.take 0).map fileOf) (.slice none 0 0) [] w2) := Lib.hid Gr.nil
 go_wp2_with fail
 clear hfl
 go_loopw [7, 15] (fun a i wr => ∃ (k : Nat) (Av : Option Addr) (cv : Nat) (rs : List (List Value)), k ≤ items.length ∧ a = .slice Av k cv ∧ i = .int .i64 k ∧ Hid (Gr 75 2 (RC fileC) (fun _ => False) w2.heap.size ((items.take k).map fileOf) (.slice Av k cv) rs wr) ∧
  Hid (Below w2.heap.size w2 wr)) (fun _ i _ => items.length - (intOf i).toNat)
 case atStart => exact ⟨0, none, 0, [], by omega, rfl, rfl, HG0, Lib.hid (Below.refl _ _)⟩
 case round =>
  obtain ⟨k, Av, cv, rs, hk, rfl, rfl, HG, HW⟩ := hrel
  by_cases hlt : k < items.length
  ·have hcon : decide ((k : Int) < (items.length : Int)) = true := by simp; omega
   obtain ⟨y, hy⟩ : ∃ y, items[k]? = some y := ⟨items[k], List.getElem?_eq_getElem hlt⟩
   obtain ⟨g, o, k1, b1, n1, t1, A7, l7, c7, A8, l8, c8, hA, hSg, hg, q0, q1, q2, q3, q4, q5, hjy⟩ := (JL.next HIL.out HW.out).elem hy
   subst hA
   have HY := Lib.hid hy
   have hyl := below_box wr (.cells #[.int .i64 k1, .bool b1, .int .i64 n1, .string t1, .slice A7 l7 c7, .slice A8 l8 c8] 25)
   have HB : Hid (JBox _ wr.heap.size _ _ _ _ _ _) := Lib.hid (heap_alloc_new wr (.cells #[.int .i64 k1, .bool b1, .int .i64 n1, .string t1, .slice A7 l7 c7, .slice A8 l8 c8] 25))
   have HG1 := Lib.hid (HG.out.next kept_file hyl)
   have HW1 := Lib.hid (HW.out.trans (hyl.mono HW.out.size))
   have HJ1 := Lib.hid (hjy.next hyl)
   clear hyl hjy hSg hy HG HW
   go_upto_region 5 with fail
   generalize (wr.alloc (.cells #[.int .i64 k1, .bool b1, .int .i64 n1, .string t1, .slice A7 l7 c7, .slice A8 l8 c8] 25)) = w3 at HB HG1 HW1 HJ1 ⊢
   generalize wr.heap.size = Q at HB ⊢
   clear q0 q1 q2 q3 q4 q5 hg
   obtain ⟨x0, x1, x2, x3, x4, x5⟩ := HB.out.cells
   go_wp2_with fail
   refine (HMADE.out y _ S w3 HJ1.out (HSW.out w3 (HW2.out.trans (HW1.out.mono HW2.out.size))) (HZN.out k y HY.out)).mono ?_
   rintro e w4 ⟨rfl, hb4⟩
   have HG4 := Lib.hid (HG1.out.next kept_file hb4)
   have HW4 := Lib.hid (HW1.out.trans (hb4.mono HW1.out.size))
   clear hb4 HG1 HW1 HJ1 HB x0 x1 x2 x3 x4 x5
   have hal := below_box w4 (.cells #[.string (str (fileOf y).1), .string (str (fileOf y).2)] 75)
   have HQ := Lib.hid (heap_alloc_new w4 (.cells #[.string (str (fileOf y).1), .string (str (fileOf y).2)] 75))
   have HG5 := Lib.hid (HG4.out.next kept_file hal)
   have HW5 := Lib.hid (HW4.out.trans (hal.mono HW4.out.size))
   clear hal HG4 HW4
   obtain ⟨i0, hi, hz0, hz1, hz2⟩ := info_parts infofileE
   have hlk : ((items.take k).map fileOf).length = k := by rw [List.length_map, List.length_take]; omega
   have hown := HG5.out.own.own
   rw [hlk] at hown
   generalize hW2 : (w4.alloc (.cells #[.string (str (fileOf y).1), .string (str (fileOf y).2)] 75)) = W2 at HQ HG5 HW5 hown
   generalize hM : w4.heap.size = M at HQ
   go_wp2_with (at_builtin; refine wpList_append_lies W2 rfl (.tmp 19) (.tmp 23) 30 rfl w2.heap.size 75 i0 (.agg #[.string ⟨#[]⟩, .string ⟨#[]⟩]) 2 32 Tryz.underlying30 hi hz0 hz1 hz2 rfl (by decide) (.slice Av k cv) k rs.flatten rfl hown ⟨M, 0, none⟩ 1 1 [.string (str (fileOf y).1), .string (str (fileOf y).2)] rfl rfl (World.news_of_block HQ.out) (by intro u hu; simp at hu; rcases hu with rfl | rfl <;> rfl) (by decide) (by unfold maxLen; omega) (by omega) HG5.out.own.le W2.heap.size rfl ?_; intro g9 cap W3 hown3 hgrow hat3 hlt3)
   obtain ⟨hG6, hk6⟩ := HG5.out.push kept_file (x := fileOf y) (vs := [.string (str (fileOf y).1), .string (str (fileOf y).2)]) rfl (by rw [hlk]; exact hown3) hgrow hat3
   rw [hlk] at hG6
   have htk : (items.take k).map fileOf ++ [fileOf y] = (items.take (k + 1)).map fileOf := by rw [List.take_add_one, HY.out, List.map_append]; rfl
   rw [htk] at hG6
   have HG6 := Lib.hid hG6
   have HW6 := Lib.hid (HW5.out.trans (hk6.to HW5.out.size (by
    intro j hj
    have hm : (Value.slice Av k cv).ownBlock = some j := by simpa using hj
    have := (HG5.out.own.lt j hm).1
    omega)))
   go_roundw
   case rel => exact ⟨k + 1, _, _, _, by omega, rfl, by go_num, HG6, HW6⟩
   case measure => simp [intOf]; omega
  ·obtain rfl : k = items.length := by omega
   have hcon : decide (((items.length : Nat) : Int) < (items.length : Int)) = false := by simp
   have HR : Hid (RowAt 2 fileC wr Av (items.map fileOf) ∧ items.length ≤ cv ∧ ∀ a, Av = some a → w2.heap.size ≤ a.block ∧ a.block < wr.heap.size) := Lib.hid (by
    have h1 := HG.out
    rw [List.take_length] at h1
    have h2 := h1.own
    rw [List.length_map] at h2
    exact ⟨h1.rowAt kept_file, (own_cap h2).1, fun a ha => h1.own.lt a.block (by rw [ha]; rfl)⟩)
   go_wp2_with fail
   go_ret
   rw [HEQ.out]
   exact ⟨HW2.out.trans (HW.out.mono HW2.out.size), Av, cv, rfl, HR.out.2.1, HR.out.1, fun a ha => ⟨Nat.le_trans HW2.out.size (HR.out.2.2 a ha).1, (HR.out.2.2 a ha).2⟩⟩
end Go.Proofs.YtimioelnnhnbiaaGreatDoor
namespace Go.Proofs.YtimioelnnhnbiaaGreatDoor
open Go.RowKit
theorem infolongE : (Tryz.prog.info? 2).map (fun i => (i.zero, i.size, i.bytes)) = some (some (.int .i64 0), 1, 8) := by kernel_rfl
set_option maxRecDepth 100000 in
set_option maxHeartbeats 8000000 in
theorem each_long (x : Js.J) (nm : Js.Bs) (vs : List Value) (S : Nat → Prop) (w : World) (hjv : JV w S x vs) (hSw : ∀ g, S g → g < w.heap.size) (hn : Js.nodes x ≤ 1000000) :
  Calls Tryz.prog 28 #[.agg vs.toArray, .string (str nm), .func (.func 29) #[] #[]] w fun e w' => Below w.heap.size w w' ∧ ∃ (Av : Option Addr) (cv : Nat), e = .returned (.slice Av (ofP x nm).items.length cv) ∧ (ofP x nm).items.length ≤ cv ∧ RowAt 1 intC w' Av ((ofP x nm).items.map Js.J.num) ∧ (∀ a, Av = some a → w.heap.size ≤ a.block ∧ a.block < w'.heap.size) := by
 have HMADE := Lib.hid from_ask2
 have HJ := Lib.hid hjv
 have HSS := Lib.hid hSw
 obtain ⟨A5, c5, A6, c6, k0, b0, n0, t0, l5, l6, rfl⟩ := hjv.shape
 have b1 := below_box w (.cells #[.int .i64 k0, .bool b0, .int .i64 n0, .string t0, .slice A5 l5 c5, .slice A6 l6 c6] 25)
 have e1 : JBox _ _ _ _ _ _ _ _ := heap_alloc_new w (.cells #[.int .i64 k0, .bool b0, .int .i64 n0, .string t0, .slice A5 l5 c5, .slice A6 l6 c6] 25)
 have HE1 := Lib.hid e1
 have HJ1 := Lib.hid (HJ.out.next b1)
 have HW1 := Lib.hid b1
 have HON := Lib.hid (of_nodes x nm)
 clear b1 e1 HJ hSw hjv
 go_enter Tryz.func28, Tryz.ntmps28
 go_upto_region 1 with fail
 generalize (w.alloc (.cells #[.int .i64 k0, .bool b0, .int .i64 n0, .string t0, .slice A5 l5 c5, .slice A6 l6 c6] 25)) = w1 at HE1 HJ1 HW1 ⊢
 obtain ⟨x0, x1, x2, x3, x4, x5⟩ := HE1.out.cells
 go_wp2_with fail
 refine (of_any x nm _ S w1 HJ1.out (fun g hg => Nat.lt_of_lt_of_le (HSS.out g hg) HW1.out.size) (by omega)).mono ?_
 rintro e w2 ⟨hb2, us, rfl, hju⟩
 obtain ⟨C5, d5, C6, d6, rfl, -, hil, -⟩ := jv_open hju
 have HIL := Lib.hid hil
 have HW2 := Lib.hid (HW1.out.trans (hb2.mono HW1.out.size))
 have HIT := Lib.hid (items_le (ofP x nm))
 clear hju hb2 HJ1 HE1 HW1 x0 x1 x2 x3 x4 x5 hil
 obtain ⟨z, hz⟩ : ∃ z, ofP x nm = z := ⟨_, rfl⟩
 rw [hz] at HIL HIT HON ⊢
 have hfl := fld4
 have hsmall : z.items.length ≤ 1000000 := by have h1 := HIT.out.1; have h2 := HON.out; omega
 have HZE := Lib.hid hz
 clear hz
 have HZN : Hid (∀ (k : Nat) (y : Js.J), z.items[k]? = some y → Js.nodes y ≤ 1073741824) := Lib.hid (fun k y hy => by have h1 := HIT.out.2 k y hy; have h2 := HON.out; omega)
 have HSW : Hid (∀ W, Below w.heap.size w W → ∀ g, S g → g < W.heap.size) := Lib.hid (fun W hW g hg => Nat.lt_of_lt_of_le (HSS.out g hg) hW.size)
 clear HIT HON hn HSS
 obtain ⟨items, hit⟩ : ∃ l, z.items = l := ⟨_, rfl⟩
 rw [hit] at HIL HZN hsmall ⊢
 have HEQ : Hid ((ofP x nm).items = items) := Lib.hid (by rw [HZE.out]; exact hit)
 clear HZE
 have HG0 : Hid (Gr 2 1 (RC intC) (fun _ => False) w2.heap.size ((items.take 0).map Js.J.num) (.slice none 0 0) [] w2) := Lib.hid Gr.nil
 go_wp2_with fail
 clear hfl
 go_loopw [7, 15] (fun a i wr => ∃ (k : Nat) (Av : Option Addr) (cv : Nat) (rs : List (List Value)), k ≤ items.length ∧ a = .slice Av k cv ∧ i = .int .i64 k ∧ Hid (Gr 2 1 (RC intC) (fun _ => False) w2.heap.size ((items.take k).map Js.J.num) (.slice Av k cv) rs wr) ∧
  Hid (Below w2.heap.size w2 wr)) (fun _ i _ => items.length - (intOf i).toNat)
 case atStart => exact ⟨0, none, 0, [], by omega, rfl, rfl, HG0, Lib.hid (Below.refl _ _)⟩
 case round =>
  obtain ⟨k, Av, cv, rs, hk, rfl, rfl, HG, HW⟩ := hrel
  by_cases hlt : k < items.length
  ·have hcon : decide ((k : Int) < (items.length : Int)) = true := by simp; omega
   obtain ⟨y, hy⟩ : ∃ y, items[k]? = some y := ⟨items[k], List.getElem?_eq_getElem hlt⟩
   obtain ⟨g, o, k1, b1, n1, t1, A7, l7, c7, A8, l8, c8, hA, hSg, hg, q0, q1, q2, q3, q4, q5, hjy⟩ := (JL.next HIL.out HW.out).elem hy
   subst hA
   have HY := Lib.hid hy
   have hyl := below_box wr (.cells #[.int .i64 k1, .bool b1, .int .i64 n1, .string t1, .slice A7 l7 c7, .slice A8 l8 c8] 25)
   have HB : Hid (JBox _ wr.heap.size _ _ _ _ _ _) := Lib.hid (heap_alloc_new wr (.cells #[.int .i64 k1, .bool b1, .int .i64 n1, .string t1, .slice A7 l7 c7, .slice A8 l8 c8] 25))
   have HG1 := Lib.hid (HG.out.next kept_int hyl)
   have HW1 := Lib.hid (HW.out.trans (hyl.mono HW.out.size))
   have HJ1 := Lib.hid (hjy.next hyl)
   clear hyl hjy hSg hy HG HW
   go_upto_region 5 with fail
   generalize (wr.alloc (.cells #[.int .i64 k1, .bool b1, .int .i64 n1, .string t1, .slice A7 l7 c7, .slice A8 l8 c8] 25)) = w3 at HB HG1 HW1 HJ1 ⊢
   generalize wr.heap.size = Q at HB ⊢
   clear q0 q1 q2 q3 q4 q5 hg
   obtain ⟨x0, x1, x2, x3, x4, x5⟩ := HB.out.cells
   go_wp2_with fail
   refine (HMADE.out y _ S w3 HJ1.out (HSW.out w3 (HW2.out.trans (HW1.out.mono HW2.out.size))) (HZN.out k y HY.out)).mono ?_
   rintro e w4 ⟨rfl, hb4⟩
   have HG4 := Lib.hid (HG1.out.next kept_int hb4)
   have HW4 := Lib.hid (HW1.out.trans (hb4.mono HW1.out.size))
   clear hb4 HG1 HW1 HJ1 HB x0 x1 x2 x3 x4 x5
   have hal := below_box w4 (.cells #[.int .i64 y.num] 2)
   have HQ := Lib.hid (heap_alloc_new w4 (.cells #[.int .i64 y.num] 2))
   have HG5 := Lib.hid (HG4.out.next kept_int hal)
   have HW5 := Lib.hid (HW4.out.trans (hal.mono HW4.out.size))
   clear hal HG4 HW4
   obtain ⟨i0, hi, hz0, hz1, hz2⟩ := info_parts infolongE
   have hlk : ((items.take k).map Js.J.num).length = k := by rw [List.length_map, List.length_take]; omega
   have hown := HG5.out.own.own
   rw [hlk] at hown
   generalize hW2 : (w4.alloc (.cells #[.int .i64 y.num] 2)) = W2 at HQ HG5 HW5 hown
   generalize hM : w4.heap.size = M at HQ
   go_wp2_with (at_builtin; refine wpList_append_lies W2 rfl (.tmp 19) (.tmp 23) 36 rfl w2.heap.size 2 i0 (.int .i64 0) 1 8 Tryz.underlying36 hi hz0 hz1 hz2 rfl (by decide) (.slice Av k cv) k rs.flatten rfl hown ⟨M, 0, none⟩ 1 1 [.int .i64 y.num] rfl rfl (World.news_of_block HQ.out) (by intro u hu; simp at hu; subst hu; rfl) (by decide) (by unfold maxLen; omega) (by omega) HG5.out.own.le W2.heap.size rfl ?_; intro g9 cap W3 hown3 hgrow hat3 hlt3)
   obtain ⟨hG6, hk6⟩ := HG5.out.push kept_int (x := Js.J.num y) (vs := [.int .i64 y.num]) rfl (by rw [hlk]; exact hown3) hgrow hat3
   rw [hlk] at hG6
   have htk : (items.take k).map Js.J.num ++ [Js.J.num y] = (items.take (k + 1)).map Js.J.num := by rw [List.take_add_one, HY.out, List.map_append]; rfl
   rw [htk] at hG6
   have HG6 := Lib.hid hG6
   have HW6 := Lib.hid (HW5.out.trans (hk6.to HW5.out.size (by
    intro j hj
    have hm : (Value.slice Av k cv).ownBlock = some j := by simpa using hj
    have := (HG5.out.own.lt j hm).1
    omega)))
   go_roundw
   case rel => exact ⟨k + 1, _, _, _, by omega, rfl, by go_num, HG6, HW6⟩
   case measure => simp [intOf]; omega
  ·obtain rfl : k = items.length := by omega
   have hcon : decide (((items.length : Nat) : Int) < (items.length : Int)) = false := by simp
   have HR : Hid (RowAt 1 intC wr Av (items.map Js.J.num) ∧ items.length ≤ cv ∧ ∀ a, Av = some a → w2.heap.size ≤ a.block ∧ a.block < wr.heap.size) := Lib.hid (by
    have h1 := HG.out
    rw [List.take_length] at h1
    have h2 := h1.own
    rw [List.length_map] at h2
    exact ⟨h1.rowAt kept_int, (own_cap h2).1, fun a ha => h1.own.lt a.block (by rw [ha]; rfl)⟩)
   go_wp2_with fail
   go_ret
   rw [HEQ.out]
   exact ⟨HW2.out.trans (HW.out.mono HW2.out.size), Av, cv, rfl, HR.out.2.1, HR.out.1, fun a ha => ⟨Nat.le_trans HW2.out.size (HR.out.2.2 a ha).1, (HR.out.2.2 a ha).2⟩⟩
end Go.Proofs.YtimioelnnhnbiaaGreatDoor
namespace Go.Proofs.YtimioelnnhnbiaaGreatDoor
open Go.RowKit
def zAsk : PAsk := ⟨0, [], [], noId, [], [], [], [], [], 0, [], [], [], [], 0, [], [], [], []⟩
def zAns : PAnswer := ⟨0, 0, 0, 0, noId, [], [], 0, [], [], 0, []⟩
def askZ : Array Value := askA zAsk none 0 none 0 none 0
def ansZ : Array Value := ansA zAns none 0 none 0 none 0
def askP5 (x : Js.J) : PAsk := { zAsk with kind := (ofP x [107, 105, 110, 100]).num, branch := (ofP x [98, 114, 97, 110, 99, 104]).text, other := (ofP x [111, 116, 104, 101, 114]).text, base := idOf (ofP x [98, 97, 115, 101]), files := (ofP x [102, 105, 108, 101, 115]).items.map fileOf, note := (ofP x [110, 111, 116, 101]).text, folder := (ofP x [102, 111, 108, 100, 101, 114]).text, name := (ofP x [110, 97, 109, 101]).text }
def askP6 (x : Js.J) : PAsk := { askP5 x with sFolder := (ofP (ofP x [115, 121, 109, 98, 111, 108]) [102, 111, 108, 100, 101, 114]).text, sStruct := (ofP (ofP x [115, 121, 109, 98, 111, 108]) [115, 116, 114, 117, 99, 116]).text, sName := (ofP (ofP x [115, 121, 109, 98, 111, 108]) [110, 97, 109, 101]).text, sLocal := (ofP (ofP x [115, 121, 109, 98, 111, 108]) [108, 111, 99, 97, 108]).num, sFile := (ofP (ofP x [115, 121, 109, 98, 111, 108]) [102, 105, 108, 101]).text }
def askP7 (x : Js.J) : PAsk := { askP6 x with pAt := (ofP (ofP x [112, 97, 114, 97, 109]) [97, 116]).num, pName := (ofP (ofP x [112, 97, 114, 97, 109]) [110, 97, 109, 101]).text, pType := (ofP (ofP x [112, 97, 114, 97, 109]) [116, 121, 112, 101]).text, pValue := (ofP (ofP x [112, 97, 114, 97, 109]) [118, 97, 108, 117, 101]).text }
def askP8 (x : Js.J) : PAsk := { askP7 x with order := (ofP x [111, 114, 100, 101, 114]).items.map Js.J.num }
def askP (x : Js.J) : PAsk := { askP8 x with args := (ofP x [97, 114, 103, 115]).items.map Js.J.num }
def ansP5 (x : Js.J) : PAnswer := { zAns with err := (ofP x [101, 114, 114]).num, commit := idOf (ofP x [99, 111, 109, 109, 105, 116]), files := (ofP x [102, 105, 108, 101, 115]).items.map fileOf, ids := (ofP x [105, 100, 115]).items.map idOf }
def ansP6 (x : Js.J) : PAnswer := { ansP5 x with plErr := (ofP (ofP x [112, 108, 97, 99, 101]) [101, 114, 114]).num, plFile := (ofP (ofP x [112, 108, 97, 99, 101]) [102, 105, 108, 101]).num, plAt := (ofP (ofP x [112, 108, 97, 99, 101]) [97, 116]).num }
def ansP7 (x : Js.J) : PAnswer := { ansP6 x with rEnd := (ofP (ofP x [114, 97, 110]) [101, 110, 100]).num, rOut := (ofP (ofP x [114, 97, 110]) [111, 117, 116]).text, rWhy := (ofP (ofP x [114, 97, 110]) [119, 104, 121]).text, rSteps := (ofP (ofP x [114, 97, 110]) [115, 116, 101, 112, 115]).num }
def ansP (x : Js.J) : PAnswer := { ansP7 x with clashes := (ofP x [99, 108, 97, 115, 104, 101, 115]).items.map clashOf }
def toAskE (x : Js.J) : Int := if Js.right x then (if Js.same (askJ (askP x)) x then 0 else 2) else 2
def toAnsE (x : Js.J) : Int := if Js.right x then (if Js.same (ansJ (ansP x)) x then 0 else 2) else 2
def setsA (cs : Array Value) : Nat → List Value → Array Value
 | _, [] => cs
 | o, v :: r => setsA (cs.setIfInBounds o v) (o + 1) r
theorem sets_row {b : Nat} {t : TypeId} {fz : Nat × Nat} : ∀ (vs : List Value) (o : Nat) (w : World) (cs : Array Value), w.heap[b]? = some (.cells cs t fz) →
  But [b] w (w.setCells b o vs) ∧ (w.setCells b o vs).heap[b]? = some (.cells (setsA cs o vs) t fz)
 | [], o, w, cs, h => ⟨But.refl _ _, h⟩
 | v :: r, o, w, cs, h => by
  obtain ⟨h1, h2⟩ := but_set (i := o) v h
  obtain ⟨h3, h4⟩ := sets_row r (o + 1) (w.setCell ⟨b, o, none⟩ v) _ h2
  exact ⟨h1.trans h3, h4⟩
section
variable {op : Oper} {a : Act} {w : World} {K : Act → World → Prop} {Q : Exit → Act → World → Prop}
theorem wp_store_midd (t : TypeId) (x y : Operand) (ho : op.op = .store t x y) (b o : Nat) (hx : a.eval x = .pointer (some ⟨b, o, none⟩)) (C D : Array Value) (ta : TypeId) (hy : a.eval y = .agg D) (h : w.heap[b]? = some (.cells C ta (0, 0)))
  (hsz : o + D.size ≤ C.size) (hi : (Tryz.prog.info? t).map (·.size) = some D.size) (h1 : D.all (·.oneCell') = true) (k : ∀ w', But [b] w w' → w'.heap[b]? = some (.cells (setsA C o D.toList) ta (0, 0)) → K (a.put op.dst undef) w') : op.wp Tryz.prog a w K Q := by
 obtain ⟨h2, h3⟩ := sets_row D.toList o w C h
 refine wp_store_mid t x y ho b o D hx hy (fun j hj => ?_) hi h1 (k _ h2 h3)
 refine ⟨?_, blk_free h _⟩
 rw [blk_cells h (o + j), Array.getElem?_eq_getElem (by omega)]
 rfl
end
theorem built38z : Tryz.prog.built 38 [] = some askZ := by kernel_rfl
theorem built49z : Tryz.prog.built 49 [] = some ansZ := by kernel_rfl
theorem RowAt.but {α : Type} {size : Nat} {cells : α → List Value} {w w' : World} {A : Option Addr} {l : List α} {K : List Nat} (h : RowAt size cells w A l) (hk : But K w w') (hA : ∀ a, A = some a → a.block ∉ K) : RowAt size cells w' A l := by
 intro k x hx
 obtain ⟨g, o, h1, h2, h3⟩ := h k x hx
 refine ⟨g, o, h1, Nat.lt_of_lt_of_le h2 hk.size, fun j u hj => ?_⟩
 have hg := hk.block g h2 (hA _ h1)
 have h9 := h3 j u hj
 rw [← h9]
 exact World.cell?_of_block (a := ⟨g, o + k * size + j, none⟩) hg
structure Ta (w0 : World) (N : Nat) (vs : List Value) (CZ : Array Value) (tz : TypeId) (W : World) : Prop where
 arg : W.heap[N]? = some (.cells vs.toArray 25 (0, 0))
 res : W.heap[N + 1]? = some (.cells CZ tz (0, 0))
 low : Below N w0 W
section
variable {w0 W W' : World} {N : Nat} {vs : List Value} {CZ : Array Value} {tz : TypeId}
theorem Ta.size (h : Ta w0 N vs CZ tz W) : N + 2 ≤ W.heap.size := (Array.getElem?_eq_some_iff.1 h.res).1
theorem Ta.next (h : Ta w0 N vs CZ tz W) (hb : Below W.heap.size W W') : Ta w0 N vs CZ tz W' := ⟨blk_next hb h.arg, blk_next hb h.res, h.low.trans (hb.mono (by have := h.size; omega))⟩
theorem Ta.but {K : List Nat} (h : Ta w0 N vs CZ tz W) (hk : But K W W') (h1 : ∀ j ∈ K, N + 2 ≤ j) : Ta w0 N vs CZ tz W' :=
 ⟨hk.blk h.arg (fun hm => by have := h1 _ hm; omega), hk.blk h.res (fun hm => by have := h1 _ hm; omega), h.low.trans (hk.to (by have := h.size; omega) (fun j hj => by have := h1 j hj; omega))⟩
end
theorem each_file_L (x : Js.J) (nm : Js.Bs) (vs : List Value) (S : Nat → Prop) (w : World) (hjv : JV w S x vs) (hSw : ∀ g, S g → g < w.heap.size) (hn : Js.nodes x ≤ 1000000) :
  Calls Tryz.prog 24 #[.agg vs.toArray, .string (str nm), .func (.func 25) #[] #[]] w fun e w' => Below w.heap.size w w' ∧ ∃ (Av : Option Addr) (cv : Nat), e = .returned (.slice Av ((ofP x nm).items.map fileOf).length cv) ∧ ((ofP x nm).items.map fileOf).length ≤ cv ∧ RowAt 2 fileC w' Av ((ofP x nm).items.map fileOf) ∧ (∀ a, Av = some a → w.heap.size ≤ a.block ∧ a.block < w'.heap.size) := by
 rw [List.length_map]; exact each_file x nm vs S w hjv hSw hn
theorem each_int_L (x : Js.J) (nm : Js.Bs) (vs : List Value) (S : Nat → Prop) (w : World) (hjv : JV w S x vs) (hSw : ∀ g, S g → g < w.heap.size) (hn : Js.nodes x ≤ 1000000) :
  Calls Tryz.prog 26 #[.agg vs.toArray, .string (str nm), .func (.func 27) #[] #[]] w fun e w' => Below w.heap.size w w' ∧ ∃ (Av : Option Addr) (cv : Nat), e = .returned (.slice Av ((ofP x nm).items.map Js.J.num).length cv) ∧ ((ofP x nm).items.map Js.J.num).length ≤ cv ∧ RowAt 1 intC w' Av ((ofP x nm).items.map Js.J.num) ∧ (∀ a, Av = some a → w.heap.size ≤ a.block ∧ a.block < w'.heap.size) := by
 rw [List.length_map]; exact each_int x nm vs S w hjv hSw hn
theorem each_long_L (x : Js.J) (nm : Js.Bs) (vs : List Value) (S : Nat → Prop) (w : World) (hjv : JV w S x vs) (hSw : ∀ g, S g → g < w.heap.size) (hn : Js.nodes x ≤ 1000000) :
  Calls Tryz.prog 28 #[.agg vs.toArray, .string (str nm), .func (.func 29) #[] #[]] w fun e w' => Below w.heap.size w w' ∧ ∃ (Av : Option Addr) (cv : Nat), e = .returned (.slice Av ((ofP x nm).items.map Js.J.num).length cv) ∧ ((ofP x nm).items.map Js.J.num).length ≤ cv ∧ RowAt 1 intC w' Av ((ofP x nm).items.map Js.J.num) ∧ (∀ a, Av = some a → w.heap.size ≤ a.block ∧ a.block < w'.heap.size) := by
 rw [List.length_map]; exact each_long x nm vs S w hjv hSw hn
theorem each_clash_L (x : Js.J) (nm : Js.Bs) (vs : List Value) (S : Nat → Prop) (w : World) (hjv : JV w S x vs) (hSw : ∀ g, S g → g < w.heap.size) (hn : Js.nodes x ≤ 1000000) :
  Calls Tryz.prog 33 #[.agg vs.toArray, .string (str nm), .func (.func 34) #[] #[]] w fun e w' => Below w.heap.size w w' ∧ ∃ (Av : Option Addr) (cv : Nat), e = .returned (.slice Av ((ofP x nm).items.map clashOf).length cv) ∧ ((ofP x nm).items.map clashOf).length ≤ cv ∧ RowAt 7 clashC w' Av ((ofP x nm).items.map clashOf) ∧ (∀ a, Av = some a → w.heap.size ≤ a.block ∧ a.block < w'.heap.size) := by
 rw [List.length_map]; exact each_clash x nm vs S w hjv hSw hn
theorem each_id_L (x : Js.J) (nm : Js.Bs) (vs : List Value) (S : Nat → Prop) (w : World) (hjv : JV w S x vs) (hSw : ∀ g, S g → g < w.heap.size) (hn : Js.nodes x ≤ 1000000) (hby : Js.bytes x ≤ 1073741824) :
  Calls Tryz.prog 32 #[.agg vs.toArray, .string (str nm), .func (.func 23) #[] #[]] w fun e w' => Below w.heap.size w w' ∧ ∃ (Av : Option Addr) (cv : Nat), e = .returned (.slice Av ((ofP x nm).items.map idOf).length cv) ∧ ((ofP x nm).items.map idOf).length ≤ cv ∧ RowAt 32 idC w' Av ((ofP x nm).items.map idOf) ∧ (∀ a, Av = some a → w.heap.size ≤ a.block ∧ a.block < w'.heap.size) := by
 rw [List.length_map]; exact each_id x nm vs S w hjv hSw hn hby
theorem nodesL_map {α : Type} (f : α → Js.J) (c : Nat) (h : ∀ x, Js.nodes (f x) = c) : ∀ l : List α, Js.nodesL (l.map f) = c * l.length
 | [] => rfl
 | x :: t => by
  rw [List.map_cons, Js.nodesL, nodesL_map f c h t, h, List.length_cons, Nat.mul_succ]; omega
theorem askJ_nodes (a : PAsk) : Js.nodes (askJ a) ≤ 22 + 3 * a.files.length + a.order.length + a.args.length := by
 have h1 := nodesL_map jFile 3 (fun _ => rfl) a.files
 have h2 := nodesL_map jNum 1 (fun _ => rfl) a.order
 have h3 := nodesL_map jNum 1 (fun _ => rfl) a.args
 simp only [askJ, jSym, jParam, jList, jText, jNum, jId, Js.nodes, Js.nodesL, Js.nodesM, h1, h2, h3]
 omega
theorem ansJ_nodes (b : PAnswer) : Js.nodes (ansJ b) ≤ 22 + 3 * b.files.length + 8 * b.clashes.length + b.ids.length := by
 have h1 := nodesL_map jFile 3 (fun _ => rfl) b.files
 have h2 := nodesL_map jClash 8 (fun _ => rfl) b.clashes
 have h3 := nodesL_map jId 1 (fun _ => rfl) b.ids
 simp only [ansJ, jPlace, jRan, jList, jText, jNum, jId, Js.nodes, Js.nodesL, Js.nodesM] at h3 ⊢
 rw [h1, h2, h3]
 omega
end Go.Proofs.YtimioelnnhnbiaaGreatDoor
namespace Go.Proofs.YtimioelnnhnbiaaGreatDoor
open Go.RowKit
theorem Ta.sub {w0 W : World} {N : Nat} {vs : List Value} {CZ : Array Value} {tz : TypeId} {S : Nat → Prop} (h : Ta w0 N vs CZ tz W) (hS : ∀ g, S g → g < N) : ∀ g, S g → g < W.heap.size := fun g hg => by
 have := hS g hg
 have := h.size
 omega
structure Tb (w0 : World) (N : Nat) (vs : List Value) (CZ : Array Value) (tz : TypeId) (S : Nat → Prop) (x x5 x6 : Js.J) (Y5 Y6 : Nat) (us5 us6 : List Value) (W : World) : Prop where
 t : Ta w0 N vs CZ tz W
 x : JV W S x vs
 b5 : W.heap[Y5]? = some (.cells us5.toArray 25 (0, 0))
 b6 : W.heap[Y6]? = some (.cells us6.toArray 25 (0, 0))
 u5 : JV W S x5 us5
 u6 : JV W S x6 us6
section
variable {w0 W W' : World} {N : Nat} {vs : List Value} {CZ : Array Value} {tz : TypeId} {S : Nat → Prop} {x x5 x6 : Js.J} {Y5 Y6 : Nat} {us5 us6 : List Value}
theorem Tb.next (h : Tb w0 N vs CZ tz S x x5 x6 Y5 Y6 us5 us6 W) (hb : Below W.heap.size W W') : Tb w0 N vs CZ tz S x x5 x6 Y5 Y6 us5 us6 W' :=
 ⟨h.t.next hb, h.x.next hb, blk_next hb h.b5, blk_next hb h.b6, h.u5.next hb, h.u6.next hb⟩
theorem Tb.but {K : List Nat} (h : Tb w0 N vs CZ tz S x x5 x6 Y5 Y6 us5 us6 W) (hk : But K W W') (hS : ∀ g, S g → g < N) (h1 : ∀ j ∈ K, N + 2 ≤ j ∧ j ≠ Y5 ∧ j ≠ Y6) : Tb w0 N vs CZ tz S x x5 x6 Y5 Y6 us5 us6 W' := by
 have h2 : ∀ j ∈ K, ¬ S j := fun j hj hs => by have := hS j hs; have := (h1 j hj).1; omega
 exact ⟨h.t.but hk (fun j hj => (h1 j hj).1), h.x.but hk h2, hk.blk h.b5 (fun hm => (h1 _ hm).2.1 rfl), hk.blk h.b6 (fun hm => (h1 _ hm).2.2 rfl), h.u5.but hk h2, h.u6.but hk h2⟩
variable {op : Oper} {a : Act} {w : World} {K : Act → World → Prop} {Q : Exit → Act → World → Prop}
end
theorem items_nodes (x : Js.J) : x.items.length ≤ Js.nodes x := by
 obtain ⟨k, b, n, t, l, m⟩ := x
 have h : ∀ l : List Js.J, l.length ≤ Js.nodesL l := fun l => by
  induction l with
  | nil => exact Nat.zero_le _
  | cons y r ih => have := Js.nodes_pos y; show r.length + 1 ≤ Js.nodes y + Js.nodesL r; omega
 have := h l
 show l.length ≤ _
 simp only [Js.nodes]
 omega
theorem of_items (x : Js.J) (nm : Js.Bs) : (ofP x nm).items.length ≤ Js.nodes x := Nat.le_trans (items_nodes _) (of_nodes x nm)
theorem askP_len (x : Js.J) : (askP x).files.length ≤ Js.nodes x ∧ (askP x).order.length ≤ Js.nodes x ∧ (askP x).args.length ≤ Js.nodes x :=
 ⟨by show (List.map _ _).length ≤ _; rw [List.length_map]; exact of_items x _, by show (List.map _ _).length ≤ _; rw [List.length_map]; exact of_items x _, by show (List.map _ _).length ≤ _; rw [List.length_map]; exact of_items x _⟩
theorem ansP_len (x : Js.J) : (ansP x).files.length ≤ Js.nodes x ∧ (ansP x).clashes.length ≤ Js.nodes x ∧ (ansP x).ids.length ≤ Js.nodes x :=
 ⟨by show (List.map _ _).length ≤ _; rw [List.length_map]; exact of_items x _, by show (List.map _ _).length ≤ _; rw [List.length_map]; exact of_items x _, by show (List.map _ _).length ≤ _; rw [List.length_map]; exact of_items x _⟩
theorem ofP_text (x : Js.J) (nm : Js.Bs) : (ofP x nm).text.length ≤ Js.bytes x := Nat.le_trans (text_bytes _) (of_bytes x nm)
section
variable {ops : Array Oper} {rest : List Oper} {op : Oper} {a : Act} {w : World} {Q : Exit → Act → World → Prop}
theorem wpList_build38z (hg : op.guard = none) (ho : op.op = .build 38 #[]) (k : wpList Tryz.prog ops Q rest (a.put op.dst (.agg askZ)) w) : wpList Tryz.prog ops Q (op :: rest) a w :=
 wpList_buildTo hg 38 #[] ho _ (by rw [show (Array.map (fun (x : Nat × Operand) => (x.1, a.eval x.2)) #[]).toList = [] from by simp]; exact built38z) k
theorem wpList_build49z (hg : op.guard = none) (ho : op.op = .build 49 #[]) (k : wpList Tryz.prog ops Q rest (a.put op.dst (.agg ansZ)) w) : wpList Tryz.prog ops Q (op :: rest) a w :=
 wpList_buildTo hg 49 #[] ho _ (by rw [show (Array.map (fun (x : Nat × Operand) => (x.1, a.eval x.2)) #[]).toList = [] from by simp]; exact built49z) k
end
theorem sharedB {F G : World → Nat → Nat → List Value → List Value → Prop} {goal : Prop} (tree : (∀ W Y Z us vs, F W Y Z us vs → G W Y Z us vs) → goal) (key : ∀ W Y Z us vs, F W Y Z us vs → G W Y Z us vs) : goal := tree key
theorem sharedC {F G : World → Nat → List Value → Option Addr → Nat → Prop} {goal : Prop} (tree : (∀ W Y u A c, F W Y u A c → G W Y u A c) → goal) (key : ∀ W Y u A c, F W Y u A c → G W Y u A c) : goal := tree key
theorem sharedD {F G : World → Nat → List Value → Option Addr → Nat → Option Addr → Nat → Prop} {goal : Prop} (tree : (∀ W Y u A c B d, F W Y u A c B d → G W Y u A c B d) → goal) (key : ∀ W Y u A c B d, F W Y u A c B d → G W Y u A c B d) : goal := tree key
end Go.Proofs.YtimioelnnhnbiaaGreatDoor
