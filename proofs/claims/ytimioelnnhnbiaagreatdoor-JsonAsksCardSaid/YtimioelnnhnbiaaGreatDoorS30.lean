/-
  Joined: SB YT YE YG YH.
-/
import Derived.Test.YtimioelnnhnbiaaGreatDoorS15
import Derived.StillTailTactics
import Derived.Deep.RegionHeld3
import Derived.Test.YtimioelnnhnbiaaGreatDoorS27
import Derived.Test.YtimioelnnhnbiaaGreatDoorS29
import Derived.Test.YtimioelnnhnbiaaGreatDoorS25
import Derived.Test.YtimioelnnhnbiaaGreatDoorS22
namespace Go.Proofs.YtimioelnnhnbiaaGreatDoor
open Go.RowKit
set_option maxRecDepth 100000 in
set_option maxHeartbeats 16000000 in
theorem rsame_step (N : Nat) (ih : SameC 10 N) : SameC 10 (N + 1) := by
 intro x y vs us S w hN hn hjx hjy
 cases x with | mk k0 b0 n0 t0 l m =>
 cases y with | mk k9 b9 n9 t9 l' m' =>
 have HX := hjx
 have HY := hjy
 unfold JV at hjx hjy
 obtain ⟨A5, c5, A6, c6, rfl, -, -, -, -⟩ := hjx
 obtain ⟨B5, d5, B6, d6, rfl, -, -, -, -⟩ := hjy
 have hb1 := below_box w (.cells #[.int .i64 k0, .bool b0, .int .i64 n0, .string (str t0), .slice A5 l.length c5, .slice A6 m.length c6] 25)
 have s1 : (w.alloc (.cells #[.int .i64 k0, .bool b0, .int .i64 n0, .string (str t0), .slice A5 l.length c5, .slice A6 m.length c6] 25)).heap.size = w.heap.size + 1 := by simp
 have e1 := heap_alloc_new w (.cells #[.int .i64 k0, .bool b0, .int .i64 n0, .string (str t0), .slice A5 l.length c5, .slice A6 m.length c6] 25)
 have hb2 := below_box (w.alloc (.cells #[.int .i64 k0, .bool b0, .int .i64 n0, .string (str t0), .slice A5 l.length c5, .slice A6 m.length c6] 25)) (.cells #[.int .i64 k9, .bool b9, .int .i64 n9, .string (str t9), .slice B5 l'.length d5, .slice B6 m'.length d6] 25)
 have e2 := heap_alloc_new (w.alloc (.cells #[.int .i64 k0, .bool b0, .int .i64 n0, .string (str t0), .slice A5 l.length c5, .slice A6 m.length c6] 25)) (.cells #[.int .i64 k9, .bool b9, .int .i64 n9, .string (str t9), .slice B5 l'.length d5, .slice B6 m'.length d6] 25)
 rw [s1] at e2
 have HE1 := Lib.hid (blk_next hb2 e1)
 have HE2 := Lib.hid e2
 have HX2 := Lib.hid ((HX.next hb1).next hb2)
 have HY2 := Lib.hid ((HY.next hb1).next hb2)
 have HW2 := Lib.hid (hb1.trans (hb2.mono (by rw [s1]; omega)))
 have hst := str_beq t0 t9
 have hnodes : 1 + Js.nodesL l + Js.nodesM m ≤ N + 1 := hN
 have hnodes2 : 1 + Js.nodesL l + Js.nodesM m ≤ 1073741824 := hn
 clear hb1 hb2 e1 e2 s1 HX HY hN hn
 have IH := Lib.hid ih
 clear ih
 have HS : Hid (Js.same (.mk k0 b0 n0 t0 l m) (.mk k9 b9 n9 t9 l' m') = (decide (k0 = k9) && (decide (k0 ≠ 2) || decide (b0 = b9)) && (decide (k0 ≠ 3) || decide (n0 = n9)) && (decide (k0 ≠ 4) || decide (t0 = t9)) && (decide (k0 ≠ 5) || Js.sameL l l') && (decide (k0 ≠ 6) || Js.sameM m m'))) := Lib.hid (by rw [Js.same])
 generalize Js.same (.mk k0 b0 n0 t0 l m) (.mk k9 b9 n9 t9 l' m') = R at HS ⊢
 go_enter Tryz.func10, Tryz.ntmps10
 go_upto_region 1 with fail
 generalize ((w.alloc (.cells #[.int .i64 k0, .bool b0, .int .i64 n0, .string (str t0), .slice A5 l.length c5, .slice A6 m.length c6] 25)).alloc (.cells #[.int .i64 k9, .bool b9, .int .i64 n9, .string (str t9), .slice B5 l'.length d5, .slice B6 m'.length d6] 25)) = w2 at HE1 HE2 HX2 HY2 HW2 ⊢
 obtain ⟨x0, x1, x2, x3, x4, x5⟩ := blk6 HE1.out
 obtain ⟨z0, z1, z2, z3, z4, z5⟩ := blk6 HE2.out
 by_cases hk : k0 = k9
 rotate_left
 ·have hR : R = false := by rw [HS.out, decide_eq_false hk]; simp
  have hb : (k0 != k9) = true := by simpa using hk
  subst hR
  clear hk
  go_wp2_with fail
  go_ret
  exact ⟨rfl, HW2.out⟩
 subst hk
 have hkk : (k0 != k0) = false := by simp
 by_cases h2 : k0 = 2
 ·subst h2
  have hR : R = decide (b0 = b9) := by rw [HS.out]; simp
  subst hR
  cases b0 <;> cases b9
  all_goals
   go_wp2_with fail
   go_ret
   exact ⟨rfl, HW2.out⟩
 have q2 : (k0 == 2) = false := by rw [beq_eq_false_iff_ne]; exact h2
 by_cases h3 : k0 = 3
 ·subst h3
  have hR : R = decide (n0 = n9) := by rw [HS.out]; simp
  subst hR
  by_cases hn : n0 = n9
  ·have hb : (n0 != n9) = false := by simpa using hn
   have HD := Lib.hid (show decide (n0 = n9) = true by simpa using hn)
   clear hn
   go_wp2_with fail
   go_ret
   exact ⟨ret_bool HD.out.symm, HW2.out⟩
  ·have hb : (n0 != n9) = true := by simpa using hn
   have HD := Lib.hid (show decide (n0 = n9) = false by simpa using hn)
   clear hn
   go_wp2_with fail
   go_ret
   exact ⟨ret_bool HD.out.symm, HW2.out⟩
 have q3 : (k0 == 3) = false := by rw [beq_eq_false_iff_ne]; exact h3
 by_cases h4 : k0 = 4
 ·subst h4
  have hR : R = decide (t0 = t9) := by rw [HS.out]; simp
  subst hR
  obtain ⟨q, hq⟩ : ∃ q, decide (t0 = t9) = q := ⟨_, rfl⟩
  rw [hq] at hst
  have HQ := Lib.hid hq
  clear hq
  cases q
  ·go_wp2_with fail
   go_ret
   exact ⟨ret_bool HQ.out.symm, HW2.out⟩
  ·go_wp2_with fail
   go_ret
   exact ⟨ret_bool HQ.out.symm, HW2.out⟩
 have q4 : (k0 == 4) = false := by rw [beq_eq_false_iff_ne]; exact h4
 by_cases h5 : k0 = 5
 ·subst h5
  have hR : R = Js.sameL l l' := by rw [HS.out]; simp
  have HRR := Lib.hid hR
  clear hR HS
  have hl := HX2.out
  have hl' := HY2.out
  unfold JV at hl hl'
  obtain ⟨_, _, _, _, hvs, -, -, hl, -⟩ := hl
  simp only [List.cons.injEq, Value.slice.injEq, and_true, true_and] at hvs
  obtain ⟨⟨rfl, rfl⟩, rfl, rfl⟩ := hvs
  obtain ⟨_, _, _, _, hvs, -, -, hl', -⟩ := hl'
  simp only [List.cons.injEq, Value.slice.injEq, and_true, true_and] at hvs
  obtain ⟨⟨rfl, rfl⟩, rfl, rfl⟩ := hvs
  have HLL := Lib.hid hl
  have HLR := Lib.hid hl'
  have hll := Js.length_nodesL l
  clear hl hl'
  by_cases heq : l.length = l'.length
  rotate_left
  ·have hb : ((l.length : Int) != (l'.length : Int)) = true := by simp; omega
   have HF : Hid (R = false) := Lib.hid (by rw [HRR.out]; exact Js.sameL_nlen heq)
   go_wp2_with fail
   go_ret
   exact ⟨ret_bool HF.out.symm, HW2.out⟩
  have hb : ((l.length : Int) != (l'.length : Int)) = false := by simp; omega
  have HEQ := Lib.hid heq
  clear heq
  go_wp2_with fail
  clear x0 x1 x2 x3 x4 x5 z0 z1 z2 z3 z4 z5
  have hszw : w.heap.size + 1 < w2.heap.size := (Array.getElem?_eq_some_iff.1 HE2.out).1
  go_loopw [5] (fun i wr => ∃ k : Nat, k ≤ l.length ∧ i = .int .i64 k ∧ Hid (Js.sameL (l.take k) (l'.take k) = true) ∧ Hid (Below w2.heap.size w2 wr)) (fun i _ => l.length - (intOf i).toNat)
  case atStart => exact ⟨0, Nat.zero_le _, rfl, Lib.hid (by simp [Js.sameL]), Lib.hid (Below.refl _ _)⟩
  case round =>
   obtain ⟨k, hk, rfl, HS, HW⟩ := hrel
   obtain ⟨x0, x1, x2, x3, x4, x5⟩ := blk6 (blk_next HW.out HE1.out)
   obtain ⟨z0, z1, z2, z3, z4, z5⟩ := blk6 (blk_next HW.out HE2.out)
   by_cases hlt : k < l.length
   ·obtain ⟨x, hx⟩ : ∃ x, l[k]? = some x := ⟨l[k], List.getElem?_eq_getElem hlt⟩
    obtain ⟨y, hy⟩ : ∃ y, l'[k]? = some y := ⟨l'[k], List.getElem?_eq_getElem (by have := HEQ.out; omega)⟩
    have hlt' : k < l'.length := by have := HEQ.out; omega
    obtain ⟨g, o, k1, b1, n1, t1, A7, l7, c7, A8, l8, c8, hA, hSg, hg, q0_, q1, q2_, q3_, q4_, q5_, hjx⟩ := (HLL.out.next HW.out).elem hx
    subst hA
    obtain ⟨g2, o2, k2, b2, n2, t2, B7, m7, d7, B8, m8, d8, hA, hSg2, hg2, r0, r1, r2, r3, r4, r5, hjy⟩ := (HLR.out.next HW.out).elem hy
    subst hA
    obtain ⟨p1, p2, p3⟩ := Js.nodesL_split l k x hx
    have hsn := Js.sameL_snoc HEQ.out hx hy
    rw [HS.out, Bool.true_and] at hsn
    have HSN := Lib.hid hsn
    have hpn : Js.nodes x ≤ N := by omega
    have hpn2 : Js.nodes x ≤ 1073741824 := by omega
    have hdr : Below wr.heap.size wr wr.drew := below_drewN (Below.refl _ _) 1
    have HJx := Lib.hid (hjx.next hdr)
    have HJy := Lib.hid (hjy.next hdr)
    have HWd := Lib.hid (HW.out.trans (hdr.mono HW.out.size))
    clear p1 p2 p3 hSg hSg2 hsn hx hy hjx hjy hg hg2 hdr
    go_upto_region 9 with fail
    go_still_tail 10, (by kernel_rfl)
    go_wp2_with fail
    refine (IH.out x y _ _ S wr.drew hpn hpn2 HJx.out HJy.out).mono ?_
    rintro e w3 ⟨rfl, hb3⟩
    have HW3 := Lib.hid (HWd.out.trans (hb3.mono HWd.out.size))
    obtain ⟨q, hq⟩ : ∃ q, Js.same x y = q := ⟨_, rfl⟩
    rw [hq] at HSN ⊢
    clear hb3 HJx HJy hq HW HWd
    cases q
    ·have HF : Hid (R = false) := Lib.hid (by rw [HRR.out]; exact Js.sameL_false HEQ.out HSN.out)
     go_wp2_with fail
     go_ret
     exact ⟨ret_bool HF.out.symm, HW2.out.trans (HW3.out.mono HW2.out.size)⟩
    ·go_wp2_with fail
     go_roundw
     case rel => exact ⟨k + 1, by omega, by go_num, HSN, HW3⟩
     case measure => simp [intOf]; omega
   ·obtain rfl : k = l.length := by omega
    have HF : Hid (R = true) := Lib.hid (by
     rw [HRR.out]
     have := HS.out
     rw [List.take_length, HEQ.out, List.take_length] at this
     exact this)
    go_wp2_with fail
    go_ret
    exact ⟨ret_bool HF.out.symm, HW2.out.trans (HW.out.mono HW2.out.size)⟩
 have q5 : (k0 == 5) = false := by rw [beq_eq_false_iff_ne]; exact h5
 by_cases h6 : k0 = 6
 ·subst h6
  have hR : R = Js.sameM m m' := by rw [HS.out]; simp
  have HRR := Lib.hid hR
  clear hR HS
  have hl := HX2.out
  have hl' := HY2.out
  unfold JV at hl hl'
  obtain ⟨_, _, _, _, hvs, -, -, -, hl⟩ := hl
  simp only [List.cons.injEq, Value.slice.injEq, and_true, true_and] at hvs
  obtain ⟨⟨rfl, rfl⟩, rfl, rfl⟩ := hvs
  obtain ⟨_, _, _, _, hvs, -, -, -, hl'⟩ := hl'
  simp only [List.cons.injEq, Value.slice.injEq, and_true, true_and] at hvs
  obtain ⟨⟨rfl, rfl⟩, rfl, rfl⟩ := hvs
  have HLL := Lib.hid hl
  have HLR := Lib.hid hl'
  have hll := Js.length_nodesM m
  clear hl hl'
  by_cases heq : m.length = m'.length
  rotate_left
  ·have hb : ((m.length : Int) != (m'.length : Int)) = true := by simp; omega
   have HF : Hid (R = false) := Lib.hid (by rw [HRR.out]; exact Js.sameM_nlen heq)
   go_wp2_with fail
   go_ret
   exact ⟨ret_bool HF.out.symm, HW2.out⟩
  have hb : ((m.length : Int) != (m'.length : Int)) = false := by simp; omega
  have HEQ := Lib.hid heq
  clear heq
  go_wp2_with fail
  clear x0 x1 x2 x3 x4 x5 z0 z1 z2 z3 z4 z5
  have hszw : w.heap.size + 1 < w2.heap.size := (Array.getElem?_eq_some_iff.1 HE2.out).1
  go_loopw [6] (fun i wr => ∃ k : Nat, k ≤ m.length ∧ i = .int .i64 k ∧ Hid (Js.sameM (m.take k) (m'.take k) = true) ∧ Hid (Below w2.heap.size w2 wr)) (fun i _ => m.length - (intOf i).toNat)
  case atStart => exact ⟨0, Nat.zero_le _, rfl, Lib.hid (by simp [Js.sameM]), Lib.hid (Below.refl _ _)⟩
  case round =>
   obtain ⟨k, hk, rfl, HS, HW⟩ := hrel
   obtain ⟨x0, x1, x2, x3, x4, x5⟩ := blk6 (blk_next HW.out HE1.out)
   obtain ⟨z0, z1, z2, z3, z4, z5⟩ := blk6 (blk_next HW.out HE2.out)
   by_cases hlt : k < m.length
   ·obtain ⟨nm, x, hx⟩ : ∃ nm x, m[k]? = some (nm, x) := ⟨m[k].1, m[k].2, List.getElem?_eq_getElem hlt⟩
    obtain ⟨nm2, y, hy⟩ : ∃ nm2 y, m'[k]? = some (nm2, y) := ⟨m'[k].1, m'[k].2, List.getElem?_eq_getElem (by have := HEQ.out; omega)⟩
    have hlt' : k < m'.length := by have := HEQ.out; omega
    obtain ⟨g, o, k1, b1, n1, t1, A7, l7, c7, A8, l8, c8, hA, hSg, hg, q0_, q1, q2_, q3_, q4_, q5_, q6_, hjx⟩ := (HLL.out.next HW.out).elem hx
    subst hA
    obtain ⟨g2, o2, k2, b2, n2, t2, B7, m7, d7, B8, m8, d8, hA, hSg2, hg2, r0, r1, r2, r3, r4, r5, r6, hjy⟩ := (HLR.out.next HW.out).elem hy
    subst hA
    obtain ⟨p1, p2, p3⟩ := Js.nodesM_split m k nm x hx
    have hsn := Js.sameM_snoc HEQ.out hx hy
    rw [HS.out, Bool.true_and] at hsn
    have HSN := Lib.hid hsn
    have hpn : Js.nodes x ≤ N := by omega
    have hpn2 : Js.nodes x ≤ 1073741824 := by omega
    have HSW : Hid (∀ W, Below wr.heap.size wr W → W.cell? ⟨w.heap.size, 5, none⟩ = some (.slice (some ⟨g, o, none⟩) m.length c6) ∧ W.cell? ⟨w.heap.size + 1, 5, none⟩ = some (.slice (some ⟨g2, o2, none⟩) m'.length d6) ∧ W.cell? ⟨g, o + k * 7, none⟩ = some (.string (str nm)) ∧ W.cell? ⟨g, o + k * 7 + 1, none⟩ = some (.int .i64 k1) ∧ W.cell? ⟨g, o + k * 7 + 2, none⟩ = some (.bool b1) ∧ W.cell? ⟨g, o + k * 7 + 3, none⟩ = some (.int .i64 n1) ∧ W.cell? ⟨g, o + k * 7 + 4, none⟩ = some (.string t1) ∧ W.cell? ⟨g, o + k * 7 + 5, none⟩ = some (.slice A7 l7 c7) ∧ W.cell? ⟨g, o + k * 7 + 6, none⟩ = some (.slice A8 l8 c8) ∧ W.cell? ⟨g2, o2 + k * 7, none⟩ = some (.string (str nm2)) ∧ W.cell? ⟨g2, o2 + k * 7 + 1, none⟩ = some (.int .i64 k2) ∧ W.cell? ⟨g2, o2 + k * 7 + 2, none⟩ = some (.bool b2) ∧ W.cell? ⟨g2, o2 + k * 7 + 3, none⟩ = some (.int .i64 n2) ∧ W.cell? ⟨g2, o2 + k * 7 + 4, none⟩ = some (.string t2) ∧ W.cell? ⟨g2, o2 + k * 7 + 5, none⟩ = some (.slice B7 m7 d7) ∧ W.cell? ⟨g2, o2 + k * 7 + 6, none⟩ = some (.slice B8 m8 d8) ∧ Hid (Below wr.heap.size wr W)) := Lib.hid (fun W hW => by
     have hk1 := fun i => World.cell?_of_block (a := ⟨g, i, none⟩) (hW.block g hg)
     have hk2 := fun i => World.cell?_of_block (a := ⟨g2, i, none⟩) (hW.block g2 hg2)
     exact ⟨(blk6 (blk_next hW (blk_next HW.out HE1.out))).2.2.2.2.2, (blk6 (blk_next hW (blk_next HW.out HE2.out))).2.2.2.2.2, (hk1 _).trans q0_, (hk1 _).trans q1, (hk1 _).trans q2_, (hk1 _).trans q3_, (hk1 _).trans q4_, (hk1 _).trans q5_, (hk1 _).trans q6_, (hk2 _).trans r0, (hk2 _).trans r1, (hk2 _).trans r2, (hk2 _).trans r3, (hk2 _).trans r4, (hk2 _).trans r5, (hk2 _).trans r6, Lib.hid hW⟩)
    have HCC : Hid (∀ W, Below wr.heap.size wr W → _) := Lib.hid (fun W hW => IH.out x y _ _ S W hpn hpn2 (hjx.next hW) (hjy.next hW))
    have hdr : Below wr.heap.size wr wr.drew := below_drewN (Below.refl _ _) 1
    have HJx := Lib.hid (hjx.next hdr)
    have HJy := Lib.hid (hjy.next hdr)
    have HWd := Lib.hid (HW.out.trans (hdr.mono HW.out.size))
    clear p1 p2 p3 hSg hSg2 hsn hx hy hjx hjy hg hg2 hdr
    have hst2 := str_beq nm nm2
    by_cases hnm : nm = nm2
    rotate_left
    ·rw [decide_eq_false hnm] at hst2 HSN
     have HF : Hid (R = false) := Lib.hid (by rw [HRR.out]; exact Js.sameM_false HEQ.out HSN.out)
     clear hnm
     go_wp2_with fail
     go_quiet (fail)
     (try simp only [Exit.then])
     go_wp2_with fail
     go_ret
     exact ⟨ret_bool HF.out.symm, HW2.out.trans ((below_drewN HW.out _).mono HW2.out.size)⟩
    rw [decide_eq_true hnm, Bool.true_and] at HSN
    rw [decide_eq_true hnm] at hst2
    clear hnm
    go_wp2_with fail
    go_region_held3 (fun W => W.cell? ⟨w.heap.size, 5, none⟩ = some (.slice (some ⟨g, o, none⟩) m.length c6) ∧ W.cell? ⟨w.heap.size + 1, 5, none⟩ = some (.slice (some ⟨g2, o2, none⟩) m'.length d6) ∧ W.cell? ⟨g, o + k * 7, none⟩ = some (.string (str nm)) ∧ W.cell? ⟨g, o + k * 7 + 1, none⟩ = some (.int .i64 k1) ∧ W.cell? ⟨g, o + k * 7 + 2, none⟩ = some (.bool b1) ∧ W.cell? ⟨g, o + k * 7 + 3, none⟩ = some (.int .i64 n1) ∧ W.cell? ⟨g, o + k * 7 + 4, none⟩ = some (.string t1) ∧ W.cell? ⟨g, o + k * 7 + 5, none⟩ = some (.slice A7 l7 c7) ∧ W.cell? ⟨g, o + k * 7 + 6, none⟩ = some (.slice A8 l8 c8) ∧ W.cell? ⟨g2, o2 + k * 7, none⟩ = some (.string (str nm2)) ∧ W.cell? ⟨g2, o2 + k * 7 + 1, none⟩ = some (.int .i64 k2) ∧ W.cell? ⟨g2, o2 + k * 7 + 2, none⟩ = some (.bool b2) ∧ W.cell? ⟨g2, o2 + k * 7 + 3, none⟩ = some (.int .i64 n2) ∧ W.cell? ⟨g2, o2 + k * 7 + 4, none⟩ = some (.string t2) ∧ W.cell? ⟨g2, o2 + k * 7 + 5, none⟩ = some (.slice B7 m7 d7) ∧ W.cell? ⟨g2, o2 + k * 7 + 6, none⟩ = some (.slice B8 m8 d8) ∧ Hid (Below wr.heap.size wr W)) (first
       | assumption
       | exact HSW.out _ (below_drewN (Below.refl _ _) 1)
       | (obtain ⟨_, _, _, _, _, _, _, _, _, _, _, _, _, _, _, _, hbl⟩ := ‹_ ∧ _ ∧ _ ∧ _ ∧ _ ∧ _ ∧ _ ∧ _ ∧ _ ∧ _ ∧ _ ∧ _ ∧ _ ∧ _ ∧ _ ∧ _ ∧ Hid _›; exact HSW.out _ (hbl.out.trans (hb3.mono hbl.out.size)))) (first
       | (go_at_call 10; refine (HCC.out _ (by obtain ⟨_, _, _, _, _, _, _, _, _, _, _, _, _, _, _, _, hbl⟩ := ‹_ ∧ _ ∧ _ ∧ _ ∧ _ ∧ _ ∧ _ ∧ _ ∧ _ ∧ _ ∧ _ ∧ _ ∧ _ ∧ _ ∧ _ ∧ _ ∧ Hid _›; exact hbl.out)).mono ?_; rintro e w3 ⟨rfl, hb3⟩))
    obtain ⟨_, _, _, _, _, _, _, _, _, _, _, _, _, _, _, _, hbl⟩ := ‹_ ∧ _ ∧ _ ∧ _ ∧ _ ∧ _ ∧ _ ∧ _ ∧ _ ∧ _ ∧ _ ∧ _ ∧ _ ∧ _ ∧ _ ∧ _ ∧ Hid _›
    have HW3 := Lib.hid (HW.out.trans (hbl.out.mono HW.out.size))
    (try simp only [Exit.then])
    obtain ⟨q, hq⟩ : ∃ q, Js.same x y = q := ⟨_, rfl⟩
    rw [hq] at HSN ⊢
    clear hbl hb3 HJx HJy hq HW HWd HSW HCC
    clear x0 x1 x2 x3 x4 x5 z0 z1 z2 z3 z4 z5 q0_ q1 q2_ q3_ q4_ q5_ q6_ r0 r1 r2 r3 r4 r5 r6
    cases q
    ·have HF : Hid (R = false) := Lib.hid (by rw [HRR.out]; exact Js.sameM_false HEQ.out HSN.out)
     go_wp2_with fail
     go_ret
     exact ⟨ret_bool HF.out.symm, HW2.out.trans (HW3.out.mono HW2.out.size)⟩
    ·go_wp2_with fail
     go_roundw
     case rel => exact ⟨k + 1, by omega, by go_num, HSN, HW3⟩
     case measure => simp [intOf]; omega
   ·obtain rfl : k = m.length := by omega
    have HF : Hid (R = true) := Lib.hid (by
     rw [HRR.out]
     have := HS.out
     rw [List.take_length, HEQ.out, List.take_length] at this
     exact this)
    go_wp2_with fail
    go_ret
    exact ⟨ret_bool HF.out.symm, HW2.out.trans (HW.out.mono HW2.out.size)⟩
 have q6 : (k0 == 6) = false := by rw [beq_eq_false_iff_ne]; exact h6
 have hR : R = true := by rw [HS.out]; simp [h2, h3, h4, h5, h6]
 subst hR
 clear h2 h3 h4 h5 h6
 go_wp2_with fail
 go_ret
 exact ⟨rfl, HW2.out⟩
theorem rsame_any : ∀ N, SameC 10 N
 | 0 => fun x y vs us S w hN => absurd hN (by have := Js.nodes_pos x; omega)
 | N + 1 => rsame_step N (rsame_any N)
end Go.Proofs.YtimioelnnhnbiaaGreatDoor
namespace Go.Proofs.YtimioelnnhnbiaaGreatDoor
open Go.RowKit
section
variable {ops : Array Oper} {Q : Exit → Act → World → Prop} {md : Region.Mode} {S : World → Prop} {fuel : Nat} {listed : Array Bool} {a : Act} {w : World} {o : Oper}
end
def AskSt (W : World) (x : Js.J) (p : PAsk) (Af : Option Addr) (cf : Nat) (Ao : Option Addr) (co : Nat) (Aa : Option Addr) (ca : Nat) : Prop :=
 (toAskE x = 0 ∧ p = askP x ∧ AskRows W p Af cf Ao co Aa ca) ∨ (toAskE x = 2 ∧ p = zAsk)
def AnsSt (W : World) (x : Js.J) (q : PAnswer) (Bf : Option Addr) (df : Nat) (Bc : Option Addr) (dc : Nat) (Bi : Option Addr) (di : Nat) : Prop :=
 (toAnsE x = 0 ∧ q = ansP x ∧ AnsRows W q Bf df Bc dc Bi di) ∨ (toAnsE x = 2 ∧ q = zAns)
theorem nx_askst {x : Js.J} {p : PAsk} {Af : Option Addr} {cf : Nat} {Ao : Option Addr} {co : Nat} {Aa : Option Addr} {ca : Nat} : Nx fun W => AskSt W x p Af cf Ao co Aa ca :=
 fun _ _ h hb => h.elim (fun k => Or.inl ⟨k.1, k.2.1, k.2.2.next hb⟩) Or.inr
theorem nx_ansst {x : Js.J} {q : PAnswer} {Bf : Option Addr} {df : Nat} {Bc : Option Addr} {dc : Nat} {Bi : Option Addr} {di : Nat} : Nx fun W => AnsSt W x q Bf df Bc dc Bi di :=
 fun _ _ h hb => h.elim (fun k => Or.inl ⟨k.1, k.2.1, k.2.2.next hb⟩) Or.inr
theorem toAsk_st (x : Js.J) (vs : List Value) (S : Nat → Prop) (w : World) (hjv : JV w S x vs) (hSw : ∀ g, S g → g < w.heap.size) (hno : Js.nodes x ≤ 70000 ∧ Js.bytes x ≤ 70000 ∧ Js.deep x ≤ 70000) :
  Calls Tryz.prog 7 #[.agg vs.toArray] w fun e w' => Below w.heap.size w w' ∧ ∃ p Af cf Ao co Aa ca, e = .returned (.tuple #[.agg (askA p Af cf Ao co Aa ca), .int .i64 (toAskE x)]) ∧ AskSt w' x p Af cf Ao co Aa ca :=
 (toAsk_any x vs S w hjv hSw hno).mono fun e w' ⟨hb, h⟩ => ⟨hb, h.elim
  (fun ⟨h0, Af, cf, Ao, co, Aa, ca, he, hr⟩ => ⟨_, Af, cf, Ao, co, Aa, ca, by rw [he, h0], Or.inl ⟨h0, rfl, hr⟩⟩)
  (fun ⟨h0, he⟩ => ⟨zAsk, none, 0, none, 0, none, 0, by rw [he, h0]; rfl, Or.inr ⟨h0, rfl⟩⟩)⟩
theorem toAnswer_st (x : Js.J) (vs : List Value) (S : Nat → Prop) (w : World) (hjv : JV w S x vs) (hSw : ∀ g, S g → g < w.heap.size) (hno : Js.nodes x ≤ 70000 ∧ Js.bytes x ≤ 70000 ∧ Js.deep x ≤ 70000) :
  Calls Tryz.prog 8 #[.agg vs.toArray] w fun e w' => Below w.heap.size w w' ∧ ∃ q Bf df Bc dc Bi di, e = .returned (.tuple #[.agg (ansA q Bf df Bc dc Bi di), .int .i64 (toAnsE x)]) ∧ AnsSt w' x q Bf df Bc dc Bi di :=
 (toAnswer_any x vs S w hjv hSw hno).mono fun e w' ⟨hb, h⟩ => ⟨hb, h.elim
  (fun ⟨h0, Af, cf, Ac, cc, Ai, ci, he, hr⟩ => ⟨_, Af, cf, Ac, cc, Ai, ci, by rw [he, h0], Or.inl ⟨h0, rfl, hr⟩⟩)
  (fun ⟨h0, he⟩ => ⟨zAns, none, 0, none, 0, none, 0, by rw [he, h0]; rfl, Or.inr ⟨h0, rfl⟩⟩)⟩
theorem same9 {x y : Js.J} {w : World} {f : FuncId} {args : Array Value} (hr : Js.same x y = true) (h : Calls Tryz.prog f args w fun e w' => e = .returned (.bool (Js.same x y)) ∧ Below w.heap.size w w') : Calls Tryz.prog f args w fun e w' => e = .returned (.bool true) ∧ Below w.heap.size w w' := by
 rw [hr] at h; exact h
theorem AskSt.rows {W : World} {x : Js.J} {p : PAsk} {Af : Option Addr} {cf : Nat} {Ao : Option Addr} {co : Nat} {Aa : Option Addr} {ca : Nat} (h : AskSt W x p Af cf Ao co Aa ca) (hA : toAskE x = 0) : AskRows W p Af cf Ao co Aa ca :=
 h.elim (fun k => k.2.2) (fun k => by have := k.1; omega)
theorem AnsSt.rows {W : World} {x : Js.J} {q : PAnswer} {Bf : Option Addr} {df : Nat} {Bc : Option Addr} {dc : Nat} {Bi : Option Addr} {di : Nat} (h : AnsSt W x q Bf df Bc dc Bi di) (hA : toAnsE x = 0) : AnsRows W q Bf df Bc dc Bi di :=
 h.elim (fun k => k.2.2) (fun k => by have := k.1; omega)
end Go.Proofs.YtimioelnnhnbiaaGreatDoor
namespace Go.Proofs.YtimioelnnhnbiaaGreatDoor
open Go.RowKit
theorem run_neq9 {o : Oper} {a : Act} {W : World} {t t2 : TypeId} {x y : Operand} {C D : Array Value} {r : Value} (ho : o.op = .binOp .neq t x y t2) (hx : a.eval x = .agg C) (hy : a.eval y = .agg D) (hg : Tryz.prog.eqGuardType Tryz.prog.depth t = false) (h : (binOp .neq t (.agg C) (.agg D)).run Tryz.prog W = .ok r W) : (execOp a.eval o).run Tryz.prog W = .ok (.value r) W := by
 unfold execOp
 simp only [ho, hx, hy, Sem.run_bind, run_eqGuard_agg W .neq t x y C D hg, h, Result.andThen_ok]
 rfl
theorem rowAt_at {α : Type} {size : Nat} {cells : α → List Value} {w : World} {g o k : Nat} {l : List α} {y : α} (h : RowAt size cells w (some ⟨g, o, none⟩) l) (hy : l[k]? = some y) : ∀ (j : Nat) (u : Value), (cells y)[j]? = some u → w.cell? ⟨g, o + k * size + j, none⟩ = some u := by
 obtain ⟨g', o', he, -, h3⟩ := h k y hy
 injection he with he
 injection he with h1 h2
 subst h1 h2
 exact h3
set_option maxRecDepth 100000 in
theorem neq_45 (y : Js.Bs × Js.Bs) (w : World) : (binOp .neq 75 (.agg (fileC y).toArray) (.agg (fileC y).toArray)).run Tryz.prog w = .ok (.bool false) w := by
 unfold fileC
 go_simp
set_option maxRecDepth 100000 in
set_option maxHeartbeats 8000000 in
theorem equal_45 (l : List (Js.Bs × Js.Bs)) (A B : Option Addr) (c d : Nat) (w : World) (hA : RowAt 2 fileC w A l) (hB : RowAt 2 fileC w B l) (hlen : l.length ≤ 1000000) (hc : l.length ≤ c) (hd : l.length ≤ d) :
  Calls Tryz.prog 45 #[.slice A l.length c, .slice B l.length d] w fun e w' => e = .returned (.bool true) ∧ Below w.heap.size w w' := by
 have HA := Lib.hid hA
 have HB := Lib.hid hB
 have HC := Lib.hid hc
 have HD := Lib.hid hd
 clear hA hB hc hd
 go_enter Tryz.func45, Tryz.ntmps45
 go_wp2_with fail
 go_loopw [13] (fun i wr => ∃ k : Nat, k ≤ l.length ∧ i = .int .i64 k ∧ Hid (Below w.heap.size w wr)) (fun i _ => l.length - (intOf i).toNat)
 case atStart => exact ⟨0, by omega, rfl, Lib.hid (Below.refl _ _)⟩
 case round =>
  obtain ⟨k, hk, rfl, HW⟩ := hrel
  by_cases hlt : k < l.length
  ·obtain ⟨y, hy⟩ : ∃ y, l[k]? = some y := ⟨_, List.getElem?_eq_getElem hlt⟩
   have HY := Lib.hid hy
   have h1 := HA.out.next HW.out
   have h2 := HB.out.next HW.out
   obtain ⟨g, o, hg, -⟩ := HA.out k y hy
   obtain ⟨g2, o2, hg2, -⟩ := HB.out k y hy
   subst hg
   subst hg2
   have H0 := Lib.hid (show (fun W => RowAt 2 fileC W (some ⟨g, o, none⟩) l ∧ RowAt 2 fileC W (some ⟨g2, o2, none⟩) l) wr from ⟨h1, h2⟩)
   clear h1 h2 hy
   go_wp2_with fail
   apply shared1 (F := fun W => Below w.heap.size w W)
   case tree =>
    have hy := HY.out
    have nx : Nx fun W => Below w.heap.size w W ∧ RowAt 2 fileC W (some ⟨g, o, none⟩) l ∧ RowAt 2 fileC W (some ⟨g2, o2, none⟩) l := nx_and (fun _ _ h hb => h.trans (hb.mono h.size)) (nx_and nx_row nx_row)
    intro KEY
    refine region_till (S := fun W => RowAt 2 fileC W (some ⟨g, o, none⟩) l ∧ RowAt 2 fileC W (some ⟨g2, o2, none⟩) l) 9 rfl nx ⟨HW.out, H0.out⟩ (fun _ h => h.2) fun W H sh => ?_
    refine takeQ 0 (v := .slice (some ⟨g, o, none⟩) l.length c) rfl H.2 sh fun sh => ?_
    refine takeQ 1 (v := .int .i64 k) rfl H.2 sh fun sh => ?_
    refine takeY 2 (v := .pointer (some ⟨g, o + k * 2, none⟩)) rfl (Or.inl ⟨by kernel_rfl, fun W0 hS => ?yb2⟩) H.2 sh fun sh => ?_
    case yb2 => (simp only [Act.put, CL]; clear KEY nx H sh; go_simp; (try with_reducible rfl))
    refine takeY 3 (v := .agg (fileC y).toArray) rfl (yieldsIf_load_mid (by kernel_rfl) 75 _ rfl g (o + k * 2) (by kernel_rfl) (fileC y) _ (fun W hS => rowAt_at hS.1 hy) Tryz.underlying75 rfl (by kernel_rfl)) H.2 sh fun sh => ?_
    refine takeQ 4 (v := .slice (some ⟨g2, o2, none⟩) l.length d) rfl H.2 sh fun sh => ?_
    refine takeQ 5 (v := .int .i64 k) rfl H.2 sh fun sh => ?_
    refine takeY 6 (v := .pointer (some ⟨g2, o2 + k * 2, none⟩)) rfl (Or.inl ⟨by kernel_rfl, fun W0 hS => ?yb6⟩) H.2 sh fun sh => ?_
    case yb6 => (simp only [Act.put, CL]; clear KEY nx H sh; go_simp; (try with_reducible rfl))
    refine takeY 7 (v := .agg (fileC y).toArray) rfl (yieldsIf_load_mid (by kernel_rfl) 75 _ rfl g2 (o2 + k * 2) (by kernel_rfl) (fileC y) _ (fun W hS => rowAt_at hS.2 hy) Tryz.underlying75 rfl (by kernel_rfl)) H.2 sh fun sh => ?_
    refine takeY 8 (v := .bool false) rfl (Or.inl ⟨by kernel_rfl, fun W0 hS => run_neq9 rfl (by kernel_rfl) (by kernel_rfl) (by kernel_rfl) (neq_45 y W0)⟩) H.2 sh fun sh => ?_
    refine wpTill_done (by kernel_rfl) ?_ _
    simp only [Exit.then, Act.put, CL]
    exact KEY W H.1
   case key =>
    clear HW H0
    intro W9 HW
    replace HW := Lib.hid HW
    go_wp2_with fail
    go_roundw
    case rel => exact ⟨k + 1, by omega, by go_num, HW⟩
    case measure => simp [intOf]; omega
  ·obtain rfl : k = l.length := by omega
   have hcon : decide (((l.length : Nat) : Int) < (l.length : Int)) = false := by simp
   go_wp2_with fail
   go_ret
   exact ⟨rfl, HW.out⟩
set_option maxRecDepth 100000 in
theorem neq_46 (y : PClash) (w : World) : (binOp .neq 84 (.agg (clashC y).toArray) (.agg (clashC y).toArray)).run Tryz.prog w = .ok (.bool false) w := by
 unfold clashC
 go_simp
set_option maxRecDepth 100000 in
set_option maxHeartbeats 8000000 in
theorem equal_46 (l : List (PClash)) (A B : Option Addr) (c d : Nat) (w : World) (hA : RowAt 7 clashC w A l) (hB : RowAt 7 clashC w B l) (hlen : l.length ≤ 1000000) (hc : l.length ≤ c) (hd : l.length ≤ d) :
  Calls Tryz.prog 46 #[.slice A l.length c, .slice B l.length d] w fun e w' => e = .returned (.bool true) ∧ Below w.heap.size w w' := by
 have HA := Lib.hid hA
 have HB := Lib.hid hB
 have HC := Lib.hid hc
 have HD := Lib.hid hd
 clear hA hB hc hd
 go_enter Tryz.func46, Tryz.ntmps46
 go_wp2_with fail
 go_loopw [13] (fun i wr => ∃ k : Nat, k ≤ l.length ∧ i = .int .i64 k ∧ Hid (Below w.heap.size w wr)) (fun i _ => l.length - (intOf i).toNat)
 case atStart => exact ⟨0, by omega, rfl, Lib.hid (Below.refl _ _)⟩
 case round =>
  obtain ⟨k, hk, rfl, HW⟩ := hrel
  by_cases hlt : k < l.length
  ·obtain ⟨y, hy⟩ : ∃ y, l[k]? = some y := ⟨_, List.getElem?_eq_getElem hlt⟩
   have HY := Lib.hid hy
   have h1 := HA.out.next HW.out
   have h2 := HB.out.next HW.out
   obtain ⟨g, o, hg, -⟩ := HA.out k y hy
   obtain ⟨g2, o2, hg2, -⟩ := HB.out k y hy
   subst hg
   subst hg2
   have H0 := Lib.hid (show (fun W => RowAt 7 clashC W (some ⟨g, o, none⟩) l ∧ RowAt 7 clashC W (some ⟨g2, o2, none⟩) l) wr from ⟨h1, h2⟩)
   clear h1 h2 hy
   go_wp2_with fail
   apply shared1 (F := fun W => Below w.heap.size w W)
   case tree =>
    have hy := HY.out
    have nx : Nx fun W => Below w.heap.size w W ∧ RowAt 7 clashC W (some ⟨g, o, none⟩) l ∧ RowAt 7 clashC W (some ⟨g2, o2, none⟩) l := nx_and (fun _ _ h hb => h.trans (hb.mono h.size)) (nx_and nx_row nx_row)
    intro KEY
    refine region_till (S := fun W => RowAt 7 clashC W (some ⟨g, o, none⟩) l ∧ RowAt 7 clashC W (some ⟨g2, o2, none⟩) l) 9 rfl nx ⟨HW.out, H0.out⟩ (fun _ h => h.2) fun W H sh => ?_
    refine takeQ 0 (v := .slice (some ⟨g, o, none⟩) l.length c) rfl H.2 sh fun sh => ?_
    refine takeQ 1 (v := .int .i64 k) rfl H.2 sh fun sh => ?_
    refine takeY 2 (v := .pointer (some ⟨g, o + k * 7, none⟩)) rfl (Or.inl ⟨by kernel_rfl, fun W0 hS => ?yb2⟩) H.2 sh fun sh => ?_
    case yb2 => (simp only [Act.put, CL]; clear KEY nx H sh; go_simp; (try with_reducible rfl))
    refine takeY 3 (v := .agg (clashC y).toArray) rfl (yieldsIf_load_mid (by kernel_rfl) 84 _ rfl g (o + k * 7) (by kernel_rfl) (clashC y) _ (fun W hS => rowAt_at hS.1 hy) Tryz.underlying84 rfl (by kernel_rfl)) H.2 sh fun sh => ?_
    refine takeQ 4 (v := .slice (some ⟨g2, o2, none⟩) l.length d) rfl H.2 sh fun sh => ?_
    refine takeQ 5 (v := .int .i64 k) rfl H.2 sh fun sh => ?_
    refine takeY 6 (v := .pointer (some ⟨g2, o2 + k * 7, none⟩)) rfl (Or.inl ⟨by kernel_rfl, fun W0 hS => ?yb6⟩) H.2 sh fun sh => ?_
    case yb6 => (simp only [Act.put, CL]; clear KEY nx H sh; go_simp; (try with_reducible rfl))
    refine takeY 7 (v := .agg (clashC y).toArray) rfl (yieldsIf_load_mid (by kernel_rfl) 84 _ rfl g2 (o2 + k * 7) (by kernel_rfl) (clashC y) _ (fun W hS => rowAt_at hS.2 hy) Tryz.underlying84 rfl (by kernel_rfl)) H.2 sh fun sh => ?_
    refine takeY 8 (v := .bool false) rfl (Or.inl ⟨by kernel_rfl, fun W0 hS => run_neq9 rfl (by kernel_rfl) (by kernel_rfl) (by kernel_rfl) (neq_46 y W0)⟩) H.2 sh fun sh => ?_
    refine wpTill_done (by kernel_rfl) ?_ _
    simp only [Exit.then, Act.put, CL]
    exact KEY W H.1
   case key =>
    clear HW H0
    intro W9 HW
    replace HW := Lib.hid HW
    go_wp2_with fail
    go_roundw
    case rel => exact ⟨k + 1, by omega, by go_num, HW⟩
    case measure => simp [intOf]; omega
  ·obtain rfl : k = l.length := by omega
   have hcon : decide (((l.length : Nat) : Int) < (l.length : Int)) = false := by simp
   go_wp2_with fail
   go_ret
   exact ⟨rfl, HW.out⟩
theorem neq_47 (y : Nat → UInt8) (w : World) : (binOp .neq 29 (.agg (idC y).toArray) (.agg (idC y).toArray)).run Tryz.prog w = .ok (.bool false) w := by
 rw [run_neq_struct]
 have h := eqIn29 y y w
 rw [show alikeId y y = true from by unfold alikeId; simp] at h
 have h' : (Op.equalIn 10000 29 (.agg (idC y).toArray) (.agg (idC y).toArray)).run Tryz.prog w = .ok true w := h
 rw [h']
 rfl
set_option maxRecDepth 100000 in
set_option maxHeartbeats 8000000 in
theorem equal_47 (l : List (Nat → UInt8)) (A B : Option Addr) (c d : Nat) (w : World) (hA : RowAt 32 idC w A l) (hB : RowAt 32 idC w B l) (hlen : l.length ≤ 1000000) (hc : l.length ≤ c) (hd : l.length ≤ d) :
  Calls Tryz.prog 47 #[.slice A l.length c, .slice B l.length d] w fun e w' => e = .returned (.bool true) ∧ Below w.heap.size w w' := by
 have HA := Lib.hid hA
 have HB := Lib.hid hB
 have HC := Lib.hid hc
 have HD := Lib.hid hd
 clear hA hB hc hd
 go_enter Tryz.func47, Tryz.ntmps47
 go_wp2_with fail
 go_loopw [13] (fun i wr => ∃ k : Nat, k ≤ l.length ∧ i = .int .i64 k ∧ Hid (Below w.heap.size w wr)) (fun i _ => l.length - (intOf i).toNat)
 case atStart => exact ⟨0, by omega, rfl, Lib.hid (Below.refl _ _)⟩
 case round =>
  obtain ⟨k, hk, rfl, HW⟩ := hrel
  by_cases hlt : k < l.length
  ·obtain ⟨y, hy⟩ : ∃ y, l[k]? = some y := ⟨_, List.getElem?_eq_getElem hlt⟩
   have HY := Lib.hid hy
   have h1 := HA.out.next HW.out
   have h2 := HB.out.next HW.out
   obtain ⟨g, o, hg, -⟩ := HA.out k y hy
   obtain ⟨g2, o2, hg2, -⟩ := HB.out k y hy
   subst hg
   subst hg2
   have H0 := Lib.hid (show (fun W => RowAt 32 idC W (some ⟨g, o, none⟩) l ∧ RowAt 32 idC W (some ⟨g2, o2, none⟩) l) wr from ⟨h1, h2⟩)
   clear h1 h2 hy
   go_wp2_with fail
   apply shared1 (F := fun W => Below w.heap.size w W)
   case tree =>
    have hy := HY.out
    have nx : Nx fun W => Below w.heap.size w W ∧ RowAt 32 idC W (some ⟨g, o, none⟩) l ∧ RowAt 32 idC W (some ⟨g2, o2, none⟩) l := nx_and (fun _ _ h hb => h.trans (hb.mono h.size)) (nx_and nx_row nx_row)
    intro KEY
    refine region_till (S := fun W => RowAt 32 idC W (some ⟨g, o, none⟩) l ∧ RowAt 32 idC W (some ⟨g2, o2, none⟩) l) 9 rfl nx ⟨HW.out, H0.out⟩ (fun _ h => h.2) fun W H sh => ?_
    refine takeQ 0 (v := .slice (some ⟨g, o, none⟩) l.length c) rfl H.2 sh fun sh => ?_
    refine takeQ 1 (v := .int .i64 k) rfl H.2 sh fun sh => ?_
    refine takeY 2 (v := .pointer (some ⟨g, o + k * 32, none⟩)) rfl (Or.inl ⟨by kernel_rfl, fun W0 hS => ?yb2⟩) H.2 sh fun sh => ?_
    case yb2 => (simp only [Act.put, CL]; clear KEY nx H sh; go_simp; (try with_reducible rfl))
    refine takeY 3 (v := .agg (idC y).toArray) rfl (yieldsIf_load_mid (by kernel_rfl) 29 _ rfl g (o + k * 32) (by kernel_rfl) (idC y) _ (fun W hS => rowAt_at hS.1 hy) und29 rfl (by kernel_rfl)) H.2 sh fun sh => ?_
    refine takeQ 4 (v := .slice (some ⟨g2, o2, none⟩) l.length d) rfl H.2 sh fun sh => ?_
    refine takeQ 5 (v := .int .i64 k) rfl H.2 sh fun sh => ?_
    refine takeY 6 (v := .pointer (some ⟨g2, o2 + k * 32, none⟩)) rfl (Or.inl ⟨by kernel_rfl, fun W0 hS => ?yb6⟩) H.2 sh fun sh => ?_
    case yb6 => (simp only [Act.put, CL]; clear KEY nx H sh; go_simp; (try with_reducible rfl))
    refine takeY 7 (v := .agg (idC y).toArray) rfl (yieldsIf_load_mid (by kernel_rfl) 29 _ rfl g2 (o2 + k * 32) (by kernel_rfl) (idC y) _ (fun W hS => rowAt_at hS.2 hy) und29 rfl (by kernel_rfl)) H.2 sh fun sh => ?_
    refine takeY 8 (v := .bool false) rfl (Or.inl ⟨by kernel_rfl, fun W0 hS => run_neq9 rfl (by kernel_rfl) (by kernel_rfl) (by kernel_rfl) (neq_47 y W0)⟩) H.2 sh fun sh => ?_
    refine wpTill_done (by kernel_rfl) ?_ _
    simp only [Exit.then, Act.put, CL]
    exact KEY W H.1
   case key =>
    clear HW H0
    intro W9 HW
    replace HW := Lib.hid HW
    go_wp2_with fail
    go_roundw
    case rel => exact ⟨k + 1, by omega, by go_num, HW⟩
    case measure => simp [intOf]; omega
  ·obtain rfl : k = l.length := by omega
   have hcon : decide (((l.length : Nat) : Int) < (l.length : Int)) = false := by simp
   go_wp2_with fail
   go_ret
   exact ⟨rfl, HW.out⟩
end Go.Proofs.YtimioelnnhnbiaaGreatDoor
namespace Go.Proofs.YtimioelnnhnbiaaGreatDoor
open Go.RowKit
def restL (b : PAnswer) : List Value := .int .i64 b.err :: .int .i64 b.plErr :: .int .i64 b.plFile :: .int .i64 b.plAt :: (idC b.commit ++ [.int .i64 b.rEnd, .string (str b.rOut), .string (str b.rWhy), .int .i64 b.rSteps])
def restA (b : PAnswer) : Array Value := (restL b).toArray
theorem eqItemsR (D : Nat) (I : Nat → UInt8) (w : World) : ∀ is : List Nat, (∀ j ∈ is, j < 32) → (Op.eqItems (D + 1) 5 1 (idA I) (idA I) is).run Tryz.prog w = .ok true w
 | [], _ => by simp [Op.eqItems]
 | j :: is, h => by
  have hj := h j (by simp)
  have ih := eqItemsR D I w is (fun k hk => h k (by simp [hk]))
  simp only [Op.eqItems, Sem.run_bind, part29 I w j hj, Result.andThen_ok, run_equalIn_int w D 5 .u8 .u8 _ _ und5, beq_self_eq_true, Bool.not_true, Bool.false_eq_true, if_false]
  exact ih
theorem refl29 (D : Nat) (I : Nat → UInt8) (w : World) : (Op.equalIn (D + 2) 29 (.agg (idA I)) (.agg (idA I))).run Tryz.prog w = .ok true w := by
 obtain ⟨i, hi⟩ := info5_some
 rw [run_equalIn_array w (D + 1) (idA I) (idA I) und29 hi, cells5]
 exact eqItemsR D I w _ (fun j hj => List.mem_range.1 hj)
theorem eqFields_refl (d : Nat) (xs : Array Value) : ∀ fs : List Field, (∀ f ∈ fs, ∃ v, ∀ w, (part f.type xs f.offset).run Tryz.prog w = .ok v w ∧ (Op.equalIn d f.type v v).run Tryz.prog w = .ok true w) → ∀ w, (Op.eqFields d xs xs fs).run Tryz.prog w = .ok true w
 | [], _, w => by simp [Op.eqFields]
 | f :: fs, h, w => by
  obtain ⟨v, hv⟩ := h f (by simp)
  have ih := eqFields_refl d xs fs (fun g hg => h g (by simp [hg])) w
  simp only [Op.eqFields]
  split
  ·simp only [Sem.run_bind, (hv w).1, (hv w).2, Result.andThen_ok, Bool.not_true, Bool.false_eq_true, if_false]
   exact ih
  ·exact ih
set_option maxRecDepth 100000 in
theorem eql98 (b : PAnswer) (w : World) : (binOp .eql 98 (.agg (restA b)) (.agg (restA b))).run Tryz.prog w = .ok (.bool true) w := by
 have h : (Op.equalIn 10000 98 (.agg (restA b)) (.agg (restA b))).run Tryz.prog w = .ok true w := by
  rw [run_equalIn_agg w 9999 98 _ _ (by kernel_rfl) (by kernel_rfl)]
  refine eqFields_refl 9999 _ _ (fun f hf => ?_) w
  simp only [Program.fieldsOf, Tryz.underlying98] at hf
  simp only [List.mem_cons, List.not_mem_nil, or_false] at hf
  rcases hf with rfl | rfl | rfl | rfl
  ·exact ⟨.int .i64 b.err, fun w => ⟨by kernel_rfl, by go_simp⟩⟩
  ·exact ⟨.agg #[.int .i64 b.plErr, .int .i64 b.plFile, .int .i64 b.plAt], fun w => ⟨by kernel_rfl, by go_simp⟩⟩
  ·exact ⟨.agg (idA b.commit), fun w => ⟨by kernel_rfl, refl29 9997 b.commit w⟩⟩
  ·exact ⟨.agg #[.int .i64 b.rEnd, .string (str b.rOut), .string (str b.rWhy), .int .i64 b.rSteps], fun w => ⟨by kernel_rfl, by go_simp⟩⟩
 rw [run_eql_struct, h]
 rfl
end Go.Proofs.YtimioelnnhnbiaaGreatDoor
namespace Go.Proofs.YtimioelnnhnbiaaGreatDoor
open Go.RowKit
section
variable (b : PAnswer) (Af : Option Addr) (cf : Nat) (Ac : Option Addr) (cc : Nat) (Ai : Option Addr) (ci : Nat)
theorem ans_place : ∀ (j : Nat) (v : Value), [Value.int .i64 b.plErr, .int .i64 b.plFile, .int .i64 b.plAt][j]? = some v → (ansA b Af cf Ac cc Ai ci)[1 + j]? = some v
 | 0, _, h => h
 | 1, _, h => h
 | 2, _, h => h
 | n + 3, _, h => by simp at h
theorem ans_ran : ∀ (j : Nat) (v : Value), [Value.int .i64 b.rEnd, .string (str b.rOut), .string (str b.rWhy), .int .i64 b.rSteps][j]? = some v → (ansA b Af cf Ac cc Ai ci)[38 + j]? = some v
 | 0, _, h => h
 | 1, _, h => h
 | 2, _, h => h
 | 3, _, h => h
 | n + 4, _, h => by simp at h
end
theorem rest_one (b : PAnswer) : ∀ v ∈ (restA b).toList, v.oneCell' = true := by
 intro v hv
 have hv : v ∈ restL b := by unfold restA at hv; simpa using hv
 unfold restL at hv
 rcases List.mem_cons.1 hv with rfl | hv
 ·rfl
 rcases List.mem_cons.1 hv with rfl | hv
 ·rfl
 rcases List.mem_cons.1 hv with rfl | hv
 ·rfl
 rcases List.mem_cons.1 hv with rfl | hv
 ·rfl
 rcases List.mem_append.1 hv with hv | hv
 ·exact idC_oneL _ v hv
 simp only [List.mem_cons, List.not_mem_nil, or_false] at hv
 rcases hv with rfl | rfl | rfl | rfl <;> rfl
theorem info98 : (Tryz.prog.info? 98).map (·.size) = some 40 := by kernel_rfl
def restZ : Array Value := restA zAns
set_option maxRecDepth 100000 in
set_option maxHeartbeats 8000000 in
theorem rest_any (b : PAnswer) (Af : Option Addr) (cf : Nat) (Ac : Option Addr) (cc : Nat) (Ai : Option Addr) (ci : Nat) (w : World) :
  Calls Tryz.prog 44 #[.agg (ansA b Af cf Ac cc Ai ci)] w fun e w' => e = .returned (.agg (restA b)) ∧ Below w.heap.size w w' := by
 have b1 := below_box w (.cells (ansA b Af cf Ac cc Ai ci) 49)
 have s1 : (w.alloc (.cells (ansA b Af cf Ac cc Ai ci) 49)).heap.size = w.heap.size + 1 := by simp
 have e1 := heap_alloc_new w (.cells (ansA b Af cf Ac cc Ai ci) 49)
 have b2 := below_box (w.alloc (.cells (ansA b Af cf Ac cc Ai ci) 49)) (.cells restZ 98)
 have e2 := heap_alloc_new (w.alloc (.cells (ansA b Af cf Ac cc Ai ci) 49)) (.cells restZ 98)
 rw [s1] at e2
 have hF0 : ((w.alloc (.cells (ansA b Af cf Ac cc Ai ci) 49)).alloc (.cells #[.int .i64 0, .int .i64 0, .int .i64 0, .int .i64 0, .int .u8 0, .int .u8 0, .int .u8 0, .int .u8 0, .int .u8 0, .int .u8 0, .int .u8 0, .int .u8 0, .int .u8 0, .int .u8 0, .int .u8 0, .int .u8 0, .int .u8 0, .int .u8 0, .int .u8 0, .int .u8 0, .int .u8 0, .int .u8 0, .int .u8 0, .int .u8 0, .int .u8 0, .int .u8 0, .int .u8 0, .int .u8 0, .int .u8 0, .int .u8 0, .int .u8 0, .int .u8 0, .int .u8 0, .int .u8 0, .int .u8 0, .int .u8 0, .int .i64 0, .string ⟨#[]⟩, .string ⟨#[]⟩, .int .i64 0] 98)).heap[w.heap.size]? = some (.cells (ansA b Af cf Ac cc Ai ci) 49 (0, 0)) := blk_next b2 e1
 have hF1 : ((w.alloc (.cells (ansA b Af cf Ac cc Ai ci) 49)).alloc (.cells #[.int .i64 0, .int .i64 0, .int .i64 0, .int .i64 0, .int .u8 0, .int .u8 0, .int .u8 0, .int .u8 0, .int .u8 0, .int .u8 0, .int .u8 0, .int .u8 0, .int .u8 0, .int .u8 0, .int .u8 0, .int .u8 0, .int .u8 0, .int .u8 0, .int .u8 0, .int .u8 0, .int .u8 0, .int .u8 0, .int .u8 0, .int .u8 0, .int .u8 0, .int .u8 0, .int .u8 0, .int .u8 0, .int .u8 0, .int .u8 0, .int .u8 0, .int .u8 0, .int .u8 0, .int .u8 0, .int .u8 0, .int .u8 0, .int .i64 0, .string ⟨#[]⟩, .string ⟨#[]⟩, .int .i64 0] 98)).heap[w.heap.size + 1]? = some (.cells restZ 98 (0, 0)) := e2
 have hF2 : Below w.heap.size w ((w.alloc (.cells (ansA b Af cf Ac cc Ai ci) 49)).alloc (.cells #[.int .i64 0, .int .i64 0, .int .i64 0, .int .i64 0, .int .u8 0, .int .u8 0, .int .u8 0, .int .u8 0, .int .u8 0, .int .u8 0, .int .u8 0, .int .u8 0, .int .u8 0, .int .u8 0, .int .u8 0, .int .u8 0, .int .u8 0, .int .u8 0, .int .u8 0, .int .u8 0, .int .u8 0, .int .u8 0, .int .u8 0, .int .u8 0, .int .u8 0, .int .u8 0, .int .u8 0, .int .u8 0, .int .u8 0, .int .u8 0, .int .u8 0, .int .u8 0, .int .u8 0, .int .u8 0, .int .u8 0, .int .u8 0, .int .i64 0, .string ⟨#[]⟩, .string ⟨#[]⟩, .int .i64 0] 98)) := b1.trans (b2.mono (by rw [s1]; omega))
 clear b1 s1 e1 b2 e2
 go_enter Tryz.func44, Tryz.ntmps44
 go_upto_region 1 with fail
 generalize ((w.alloc (.cells (ansA b Af cf Ac cc Ai ci) 49)).alloc (.cells #[.int .i64 0, .int .i64 0, .int .i64 0, .int .i64 0, .int .u8 0, .int .u8 0, .int .u8 0, .int .u8 0, .int .u8 0, .int .u8 0, .int .u8 0, .int .u8 0, .int .u8 0, .int .u8 0, .int .u8 0, .int .u8 0, .int .u8 0, .int .u8 0, .int .u8 0, .int .u8 0, .int .u8 0, .int .u8 0, .int .u8 0, .int .u8 0, .int .u8 0, .int .u8 0, .int .u8 0, .int .u8 0, .int .u8 0, .int .u8 0, .int .u8 0, .int .u8 0, .int .u8 0, .int .u8 0, .int .u8 0, .int .u8 0, .int .i64 0, .string ⟨#[]⟩, .string ⟨#[]⟩, .int .i64 0] 98)) = w2 at hF0 hF1 hF2 ⊢
 have H0 := Lib.hid hF0
 have H1 := Lib.hid hF1
 have H2 := Lib.hid hF2
 clear hF0 hF1 hF2
 obtain ⟨N, hN⟩ : ∃ N, w.heap.size = N := ⟨_, rfl⟩
 rw [hN] at H0 H1 H2 ⊢
 have HN := Lib.hid hN
 clear hN
 have q0 : w2.cell? ⟨N, 0, none⟩ = some (.int .i64 b.err) := (blk_cells H0.out 0).trans rfl
 go_wp2_with (first | (refine wpList_load_mid rfl 43 _ rfl N 1 rfl [.int .i64 b.plErr, .int .i64 b.plFile, .int .i64 b.plAt] _ (fun j v hv => (blk_cells H0.out (1 + j)).trans (ans_place b Af cf Ac cc Ai ci j v hv)) Tryz.underlying43 rfl (by kernel_rfl) ?_) | (refine wpList_load_mid rfl 29 _ rfl N 4 rfl (idC b.commit) _ (fun j v hv => (blk_cells H0.out (4 + j)).trans (ans_id b Af cf Ac cc Ai ci j v hv)) und29 rfl (by rw [info29]; rfl) ?_) | (refine wpList_load_mid rfl 46 _ rfl N 38 rfl [.int .i64 b.rEnd, .string (str b.rOut), .string (str b.rWhy), .int .i64 b.rSteps] _ (fun j v hv => (blk_cells H0.out (38 + j)).trans (ans_ran b Af cf Ac cc Ai ci j v hv)) Tryz.underlying46 rfl (by kernel_rfl) ?_) | (refine wpList_buildTo rfl 98 #[(0, .tmp 4), (1, .tmp 6), (2, .tmp 8), (3, .tmp 10)] rfl (restA b) (by kernel_rfl) ?_) | (refine wpList_store_row rfl 98 _ _ rfl (N + 1) rfl restZ (restA b) rfl H1.out rfl info98 (rest_one b) ?_; intro w8 hk8 hx8))
 refine bodyPost_ret (results_row1 rfl _ _ _ (N + 1) (restA b) rfl (run_loadVar_row _ (N + 1) 98 98 (restA b) (0, 0) _ hx8 Tryz.underlying98 rfl info98)) rfl ?_
 (try rw [HN.out])
 exact ⟨rfl, H2.out.trans (hk8.to (by have := (Array.getElem?_eq_some_iff.1 H1.out).1; omega) (by intro j hj; simp at hj; omega))⟩
end Go.Proofs.YtimioelnnhnbiaaGreatDoor
