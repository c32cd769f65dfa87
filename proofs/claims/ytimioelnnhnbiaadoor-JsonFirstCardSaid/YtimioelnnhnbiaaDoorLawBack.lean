/-
  THE LAW JsonBack, walked. CONDITIONS: the value lies as JV says, its numbers are in range; Env.
-/
import Derived.Test.YtimioelnnhnbiaaDoorDec
import Derived.Test.YtimioelnnhnbiaaDoorSA
import Derived.Test.YtimioelnnhnbiaaDoorWY
namespace Go.Proofs.YtimioelnnhnbiaaDoor
open Go.RowKit
theorem str_take (T : Js.Bs) (n : Nat) : (str T).extract 0 n = str (T.take n) := by
  have h : ∀ s : ByteArray, s.extract 0 n = ⟨(s.data.toList.take n).toArray⟩ := fun s => by
    apply ByteArray.ext
    rw [ByteArray.data_extract]
    apply Array.toList_inj.1
    simp [List.extract_eq_take_drop]
  rw [h]
  unfold str
  simp
theorem jv_kind {w : World} {S : Nat → Prop} {x : Js.J} {k : Int} {b t : Value} {n : Value} {l m : Value} (h : JV w S x [.int .i64 k, b, n, t, l, m]) : x.kind = k := by
  obtain ⟨kx, bx, nx, tx, l, m⟩ := x
  unfold JV at h
  obtain ⟨_, _, _, _, hvs, -⟩ := h
  simp only [List.cons.injEq, Value.int.injEq, true_and] at hvs
  exact hvs.1.symm
set_option maxRecDepth 100000 in
set_option maxHeartbeats 8000000 in
theorem back_law (x : Js.J) (cut : Int) (vs : List Value) (S : Nat → Prop) (w : World) (hjx : JV w S x vs) (hS : ∀ g, S g → g < w.heap.size) (hr : Js.inR x = true) (hc0 : -9223372036854775808 ≤ cut) (hc1 : cut ≤ 9223372036854775807) (henv : Env w) :
    Calls Tryd.prog 4 #[.agg vs.toArray, .int .i64 cut] w fun e w' => e = .returned (.bool true) ∧ Below w.heap.size w w' := by
  have HX := hjx
  obtain ⟨A5, c5, A6, c6, k0, b0, n0, t0, l5, l6, rfl⟩ := hjx.shape
  have HKD := Lib.hid (jv_kind hjx)
  have b1 := below_box w (.cells #[.int .i64 k0, .bool b0, .int .i64 n0, .string t0, .slice A5 l5 c5, .slice A6 l6 c6] 25)
  have HB1 : Hid (JBox (w.alloc (.cells #[.int .i64 k0, .bool b0, .int .i64 n0, .string t0, .slice A5 l5 c5, .slice A6 l6 c6] 25)) w.heap.size (.int .i64 k0) (.bool b0) (.int .i64 n0) (.string t0) (.slice A5 l5 c5) (.slice A6 l6 c6)) := Lib.hid (heap_alloc_new w (.cells #[.int .i64 k0, .bool b0, .int .i64 n0, .string t0, .slice A5 l5 c5, .slice A6 l6 c6] 25))
  have HW1 := Lib.hid b1
  clear hjx
  have HALL : Hid (∀ W, Below w.heap.size w W → JV W S x [.int .i64 k0, .bool b0, .int .i64 n0, .string t0, .slice A5 l5 c5, .slice A6 l6 c6] ∧ (∀ g, S g → g < W.heap.size) ∧ Env W) :=
    Lib.hid (fun W hW => ⟨HX.next hW, fun g hg => Nat.lt_of_lt_of_le (hS g hg) hW.size, henv.next hW⟩)
  clear b1 HX hS henv
  go_enter Tryd.func4, Tryd.ntmps4
  go_upto_region 1 with fail
  generalize (w.alloc (.cells #[.int .i64 k0, .bool b0, .int .i64 n0, .string t0, .slice A5 l5 c5, .slice A6 l6 c6] 25)) = w1 at HB1 HW1 ⊢
  obtain ⟨M, hM⟩ : ∃ M, w.heap.size = M := ⟨_, rfl⟩
  rw [hM] at HB1 ⊢
  have HMM := Lib.hid hM
  clear hM
  go_wp2_with fail
  refine (wakes_any w1 (HALL.out _ HW1.out).2.2).mono ?_
  rintro e w2 ⟨rfl, hb2⟩
  have HW2 := Lib.hid (HW1.out.trans (hb2.mono HW1.out.size))
  have HB2 := Lib.hid (HB1.out.next hb2)
  clear hb2 HB1 HW1
  obtain ⟨x0, x1, x2, x3, x4, x5⟩ := HB2.out.cells
  go_wp2_with fail
  obtain ⟨j2, s2, -⟩ := HALL.out _ HW2.out
  refine (over_any x _ S w2 j2 s2).mono ?_
  rintro e w3 ⟨rfl, hb3⟩
  have HW3 := Lib.hid (HW2.out.trans (hb3.mono HW2.out.size))
  have HB3 := Lib.hid (HB2.out.next hb3)
  clear hb3 HB2 HW2 x0 x1 x2 x3 x4 x5 j2 s2
  obtain ⟨ov, hov⟩ : ∃ ov, Js.over x = ov := ⟨_, rfl⟩
  rw [hov]
  cases ov
  rotate_left
  · go_wp2_with fail
    go_ret
    exact ⟨rfl, HMM.out ▸ HW3.out⟩
  have hsm := Js.over_small hov
  have HSM := Lib.hid (show Js.nodes x ≤ 1073741824 ∧ Js.bytes x ≤ 1073741824 ∧ Js.deep x ≤ 1073741823 by omega)
  clear hsm hov
  obtain ⟨x0, x1, x2, x3, x4, x5⟩ := HB3.out.cells
  go_wp2_with fail
  obtain ⟨j3, s3, e3⟩ := HALL.out _ HW3.out
  refine (encode_any x _ S w3 j3 s3 HSM.out.1 HSM.out.2.1 HSM.out.2.2 hr e3).mono ?_
  rintro e w4 ⟨rfl, hb4⟩
  have HW4 := Lib.hid (HW3.out.trans (hb4.mono HW3.out.size))
  have HB4 := Lib.hid (HB3.out.next hb4)
  clear hb4 HB3 HW3 x0 x1 x2 x3 x4 x5 j3 s3 e3
  have HET : Hid (encText x = if Js.right x then Js.textOf x else []) := Lib.hid rfl
  have HEE : Hid (encErr x = if Js.right x then 0 else 2) := Lib.hid rfl
  generalize encText x = T at HET ⊢
  generalize encErr x = E at HEE ⊢
  obtain ⟨rt, hrt⟩ : ∃ rt, Js.right x = rt := ⟨_, rfl⟩
  rw [hrt] at HET HEE
  have HRT := Lib.hid hrt
  clear hrt
  cases rt
  · have ht : T = [] := HET.out
    have he : E = 2 := HEE.out
    subst ht he
    have hw : (str []).toList.isEmpty = true := by rw [str_list]; rfl
    go_wp2_with fail
    go_ret
    exact ⟨rfl, HMM.out ▸ HW4.out⟩
  have ht : T = Js.textOf x := HET.out
  have he : E = 0 := HEE.out
  have htl := Js.text_len x hr
  obtain ⟨_, g1, _, g2⟩ := right_parts HRT.out
  rw [← ht] at htl
  have hlenT : T.length ≤ 1073741824 := by omega
  have hone := Js.nodes_pos x
  have HDB : Hid (Dec T = (x, 0, 0)) := Lib.hid (by rw [ht]; exact dec_back HRT.out hr)
  have HDG : Hid (∀ k, k < T.length → (k0 = 4 ∨ k0 = 5 ∨ k0 = 6) → Dec (T.take k) = (Js.zero, 330, (k : Int))) := Lib.hid (fun k hk hkd => by
    rw [ht] at hk ⊢
    exact dec_begin HRT.out hr (by rw [HKD.out]; exact hkd) hk)
  have HPOS : Hid (0 < T.length) := Lib.hid (by
    obtain ⟨c, t', h1, _⟩ := textOf_head (right_parts HRT.out).1
    rw [ht, h1]; simp)
  subst he
  clear ht htl g1 g2 hone HET HEE
  have hz := str_size T
  go_wp2_with fail
  refine (dec_any T hlenT w4).mono ?_
  rintro e w5 ⟨hb5, us, rfl, hju⟩
  rw [HDB.out] at hju ⊢
  obtain ⟨C5, d5, C6, d6, k9, b9, n9, t9, m5, m6, rfl⟩ := hju.shape
  have b6 := below_box w5 (.cells #[.int .i64 k9, .bool b9, .int .i64 n9, .string t9, .slice C5 m5 d5, .slice C6 m6 d6] 25)
  have n6 : JBox _ _ _ _ _ _ _ _ := heap_alloc_new w5 (.cells #[.int .i64 k9, .bool b9, .int .i64 n9, .string t9, .slice C5 m5 d5, .slice C6 m6 d6] 25)
  have s6 : (w5.alloc (.cells #[.int .i64 k9, .bool b9, .int .i64 n9, .string t9, .slice C5 m5 d5, .slice C6 m6 d6] 25)).heap.size = w5.heap.size + 1 := by simp
  have b7 := below_box (w5.alloc (.cells #[.int .i64 k9, .bool b9, .int .i64 n9, .string t9, .slice C5 m5 d5, .slice C6 m6 d6] 25)) (.cells #[.int .i64 0, .int .i64 0] 34)
  have n7 : SBox _ _ 0 0 := heap_alloc_new (w5.alloc (.cells #[.int .i64 k9, .bool b9, .int .i64 n9, .string t9, .slice C5 m5 d5, .slice C6 m6 d6] 25)) (.cells #[.int .i64 0, .int .i64 0] 34)
  have HJU := Lib.hid ((hju.next b6).next b7)
  have HB7 := Lib.hid (((HB4.out.next hb5).next b6).next b7)
  have HN7 := Lib.hid (n6.next b7)
  have HW7 := Lib.hid (((HW4.out.trans (hb5.mono HW4.out.size)).trans (b6.mono (Nat.le_trans HW4.out.size hb5.size))).trans (b7.mono (by rw [s6]; have := HW4.out.size; have := hb5.size; omega)))
  rw [s6] at n7
  have HS7 := Lib.hid n7
  have HMN := Lib.hid (show M ≤ w5.heap.size by rw [← HMM.out]; exact Nat.le_trans HW4.out.size hb5.size)
  clear hb5 hju b6 n6 s6 b7 n7 HB4 HW4
  go_upto_region 9 with fail
  generalize ((w5.alloc (.cells #[.int .i64 k9, .bool b9, .int .i64 n9, .string t9, .slice C5 m5 d5, .slice C6 m6 d6] 25)).alloc (.cells #[.int .i64 0, .int .i64 0] 34)) = w7 at HJU HB7 HN7 HW7 HS7 ⊢
  generalize w5.heap.size = N at HN7 HS7 HMN ⊢
  obtain ⟨x0, x1, x2, x3, x4, x5⟩ := HB7.out.cells
  obtain ⟨z0, z1, z2, z3, z4, z5⟩ := HN7.out.cells
  obtain ⟨d0, d1, d2, d3⟩ := HS7.out.cells
  go_wp2_with fail
  obtain ⟨j7, s7, -⟩ := HALL.out _ HW7.out
  refine (same_any _ x x _ _ (fun g => g < w7.heap.size) w7 (Nat.le_refl _) HSM.out.1 (j7.wide (fun g hg _ => s7 g hg)) (HJU.out.wide (fun g _ h => h))).mono ?_
  rintro e w8 ⟨rfl, hb8⟩
  rw [Js.same_self]
  have HW8 := Lib.hid (HW7.out.trans (hb8.mono HW7.out.size))
  have HB8 := Lib.hid (HB7.out.next hb8)
  have HS8 : Hid (SBox w8 (N + 1) 0 0) := Lib.hid (blk_next hb8 HS7.out)
  clear j7 s7 hb8 HW7 HB7 HS7 HN7 HJU x0 x1 x2 x3 x4 x5 z0 z1 z2 z3 z4 z5 d0 d1 d2 d3 HDB HSM HRT
  obtain ⟨x0, x1, x2, x3, x4, x5⟩ := HB8.out.cells
  obtain ⟨d0, d1, d2, d3⟩ := HS8.out.cells
  by_cases hk : k0 = 4 ∨ k0 = 5 ∨ k0 = 6
  rotate_left
  · have q4 : (k0 != 4) = true := by simp; omega
    have q5 : (k0 != 5) = true := by simp; omega
    have q6 : (k0 != 6) = true := by simp; omega
    clear hk
    go_wp2_with fail
    go_ret
    exact ⟨rfl, HMM.out ▸ HW8.out⟩
  have HDK : Hid (∀ k, k < T.length → Dec (T.take k) = (Js.zero, 330, (k : Int))) := Lib.hid (fun k h => HDG.out k h hk)
  clear HDG HKD HALL
  have hT : ¬ T = [] := fun e => by have := HPOS.out; rw [e] at this; exact absurd this (by simp)
  have hP := HPOS.out
  have hb : 0 ≤ max cut 0 % (T.length : Int) ∧ max cut 0 % (T.length : Int) ≤ (T.length : Int) := ⟨Int.emod_nonneg _ (by omega), Int.le_of_lt (Int.emod_lt_of_pos _ (by omega))⟩
  have hq : ∃ q : Nat, max cut 0 % (T.length : Int) = q ∧ q < T.length := by
    have := Int.emod_lt_of_pos (max cut 0) (show (0 : Int) < (T.length : Int) by omega)
    exact ⟨(max cut 0 % (T.length : Int)).toNat, by omega, by omega⟩
  have HQQ := Lib.hid hq
  have HMW := Lib.hid (show w.heap.size ≤ N by rw [HMM.out]; exact HMN.out)
  clear hP hq
  have HCT := Lib.hid (str_take T)
  rcases hk with rfl | rfl | rfl
  all_goals
    go_wp2_with fail
    obtain ⟨q, hq1, hq2⟩ := HQQ.out
    rw [hq1, Int.toNat_natCast, HCT.out q]
    refine (dec_any (T.take q) (by rw [List.length_take]; omega) w8).mono ?_
    rintro e w9 ⟨hb9, us9, rfl, hj9⟩
    rw [HDK.out q hq2]
    obtain ⟨D5, g5, D6, g6, k2, b2, n2, t2, p5, p6, rfl⟩ := hj9.shape
    have hs9 : SBox w9 (N + 1) 0 0 := blk_next hb9 HS8.out
    have HW9 := Lib.hid (HW8.out.trans (hb9.mono HW8.out.size))
    obtain ⟨hk9, hx9⟩ := s34_set 330 (q : Int) hs9
    have HK9 := Lib.hid hk9
    clear hj9 hb9 HB8 hk9 hb HW8 HS8 d0 d1 d2 d3
    obtain ⟨d0, d1, d2, d3⟩ := hs9.cells
    obtain ⟨y0, y1, -, -⟩ := hx9.cells
    clear hs9 hx9 x0 x1 x2 x3 x4 x5
    go_wp2_with fail
    go_ret
    exact ⟨rfl, HW9.out.trans (HK9.out.to HW9.out.size (by intro j hj; simp at hj; have := HMW.out; omega))⟩
theorem back_at (x : Js.J) (vs : List Value) (cut : Int) (w : World) (henv : Env w) (hjx : JV w (fun g => g < w.heap.size) x vs) (hr : Js.inR x = true) (hc0 : -9223372036854775808 ≤ cut) (hc1 : cut ≤ 9223372036854775807) :
    Calls Tryd.prog 4 #[.agg vs.toArray, .int .i64 cut] w fun e w' => e = .returned (.bool true) ∧ Below w.heap.size w w' :=
  back_law x cut vs _ w hjx (fun _ h => h) hr hc0 hc1 henv
end Go.Proofs.YtimioelnnhnbiaaDoor
