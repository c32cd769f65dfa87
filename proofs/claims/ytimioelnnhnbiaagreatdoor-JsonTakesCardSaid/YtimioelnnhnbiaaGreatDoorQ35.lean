/-
  Joined: SB YT YV. CONDITIONS: as each law says.
-/
import Derived.Test.YtimioelnnhnbiaaGreatDoorQ18
import Derived.StillTailTactics
import Derived.Deep.RegionHeld3
import Derived.Test.YtimioelnnhnbiaaGreatDoorQ32
import Derived.Test.YtimioelnnhnbiaaGreatDoorQ34
import Derived.Test.YtimioelnnhnbiaaGreatDoorQ29
namespace Go.Proofs.YtimioelnnhnbiaaGreatDoor
open Go.RowKit
set_option maxRecDepth 100000 in
set_option maxHeartbeats 16000000 in
theorem rsame_step (N : Nat) (ih : SameC 10 N) : SameC 10 (N + 1) := by
 intro x y vs us S w hN hn hjx hjy
 cases x with | mk k0 b0 n0 t0 l m =>
 cases y with | mk k9 b9 n9 t9 l' m' =>
 have HX := hjx
 have HY := hjy
 unfold JV at hjx hjy
 obtain ⟨A5, c5, A6, c6, rfl, -, -, -, -⟩ := hjx
 obtain ⟨B5, d5, B6, d6, rfl, -, -, -, -⟩ := hjy
 have hb1 := below_box w (.cells #[.int .i64 k0, .bool b0, .int .i64 n0, .string (str t0), .slice A5 l.length c5, .slice A6 m.length c6] 25)
 have s1 : (w.alloc (.cells #[.int .i64 k0, .bool b0, .int .i64 n0, .string (str t0), .slice A5 l.length c5, .slice A6 m.length c6] 25)).heap.size = w.heap.size + 1 := by simp
 have e1 := heap_alloc_new w (.cells #[.int .i64 k0, .bool b0, .int .i64 n0, .string (str t0), .slice A5 l.length c5, .slice A6 m.length c6] 25)
 have hb2 := below_box (w.alloc (.cells #[.int .i64 k0, .bool b0, .int .i64 n0, .string (str t0), .slice A5 l.length c5, .slice A6 m.length c6] 25)) (.cells #[.int .i64 k9, .bool b9, .int .i64 n9, .string (str t9), .slice B5 l'.length d5, .slice B6 m'.length d6] 25)
 have e2 := heap_alloc_new (w.alloc (.cells #[.int .i64 k0, .bool b0, .int .i64 n0, .string (str t0), .slice A5 l.length c5, .slice A6 m.length c6] 25)) (.cells #[.int .i64 k9, .bool b9, .int .i64 n9, .string (str t9), .slice B5 l'.length d5, .slice B6 m'.length d6] 25)
 rw [s1] at e2
 have HE1 := Lib.hid (blk_next hb2 e1)
 have HE2 := Lib.hid e2
 have HX2 := Lib.hid ((HX.next hb1).next hb2)
 have HY2 := Lib.hid ((HY.next hb1).next hb2)
 have HW2 := Lib.hid (hb1.trans (hb2.mono (by rw [s1]; omega)))
 have hst := str_beq t0 t9
 have hnodes : 1 + Js.nodesL l + Js.nodesM m ≤ N + 1 := hN
 have hnodes2 : 1 + Js.nodesL l + Js.nodesM m ≤ 1073741824 := hn
 clear hb1 hb2 e1 e2 s1 HX HY hN hn
 have IH := Lib.hid ih
 clear ih
 have HS : Hid (Js.same (.mk k0 b0 n0 t0 l m) (.mk k9 b9 n9 t9 l' m') = (decide (k0 = k9) && (decide (k0 ≠ 2) || decide (b0 = b9)) && (decide (k0 ≠ 3) || decide (n0 = n9)) && (decide (k0 ≠ 4) || decide (t0 = t9)) && (decide (k0 ≠ 5) || Js.sameL l l') && (decide (k0 ≠ 6) || Js.sameM m m'))) := Lib.hid (by rw [Js.same])
 generalize Js.same (.mk k0 b0 n0 t0 l m) (.mk k9 b9 n9 t9 l' m') = R at HS ⊢
 go_enter Tryz.func10, Tryz.ntmps10
 go_upto_region 1 with fail
 generalize ((w.alloc (.cells #[.int .i64 k0, .bool b0, .int .i64 n0, .string (str t0), .slice A5 l.length c5, .slice A6 m.length c6] 25)).alloc (.cells #[.int .i64 k9, .bool b9, .int .i64 n9, .string (str t9), .slice B5 l'.length d5, .slice B6 m'.length d6] 25)) = w2 at HE1 HE2 HX2 HY2 HW2 ⊢
 obtain ⟨x0, x1, x2, x3, x4, x5⟩ := blk6 HE1.out
 obtain ⟨z0, z1, z2, z3, z4, z5⟩ := blk6 HE2.out
 by_cases hk : k0 = k9
 rotate_left
 ·have hR : R = false := by rw [HS.out, decide_eq_false hk]; simp
  have hb : (k0 != k9) = true := by simpa using hk
  subst hR
  clear hk
  go_wp2_with fail
  go_ret
  exact ⟨rfl, HW2.out⟩
 subst hk
 have hkk : (k0 != k0) = false := by simp
 by_cases h2 : k0 = 2
 ·subst h2
  have hR : R = decide (b0 = b9) := by rw [HS.out]; simp
  subst hR
  cases b0 <;> cases b9
  all_goals
   go_wp2_with fail
   go_ret
   exact ⟨rfl, HW2.out⟩
 have q2 : (k0 == 2) = false := by rw [beq_eq_false_iff_ne]; exact h2
 by_cases h3 : k0 = 3
 ·subst h3
  have hR : R = decide (n0 = n9) := by rw [HS.out]; simp
  subst hR
  by_cases hn : n0 = n9
  ·have hb : (n0 != n9) = false := by simpa using hn
   have HD := Lib.hid (show decide (n0 = n9) = true by simpa using hn)
   clear hn
   go_wp2_with fail
   go_ret
   exact ⟨ret_bool HD.out.symm, HW2.out⟩
  ·have hb : (n0 != n9) = true := by simpa using hn
   have HD := Lib.hid (show decide (n0 = n9) = false by simpa using hn)
   clear hn
   go_wp2_with fail
   go_ret
   exact ⟨ret_bool HD.out.symm, HW2.out⟩
 have q3 : (k0 == 3) = false := by rw [beq_eq_false_iff_ne]; exact h3
 by_cases h4 : k0 = 4
 ·subst h4
  have hR : R = decide (t0 = t9) := by rw [HS.out]; simp
  subst hR
  obtain ⟨q, hq⟩ : ∃ q, decide (t0 = t9) = q := ⟨_, rfl⟩
  rw [hq] at hst
  have HQ := Lib.hid hq
  clear hq
  cases q
  ·go_wp2_with fail
   go_ret
   exact ⟨ret_bool HQ.out.symm, HW2.out⟩
  ·go_wp2_with fail
   go_ret
   exact ⟨ret_bool HQ.out.symm, HW2.out⟩
 have q4 : (k0 == 4) = false := by rw [beq_eq_false_iff_ne]; exact h4
 by_cases h5 : k0 = 5
 ·subst h5
  have hR : R = Js.sameL l l' := by rw [HS.out]; simp
  have HRR := Lib.hid hR
  clear hR HS
  have hl := HX2.out
  have hl' := HY2.out
  unfold JV at hl hl'
  obtain ⟨_, _, _, _, hvs, -, -, hl, -⟩ := hl
  simp only [List.cons.injEq, Value.slice.injEq, and_true, true_and] at hvs
  obtain ⟨⟨rfl, rfl⟩, rfl, rfl⟩ := hvs
  obtain ⟨_, _, _, _, hvs, -, -, hl', -⟩ := hl'
  simp only [List.cons.injEq, Value.slice.injEq, and_true, true_and] at hvs
  obtain ⟨⟨rfl, rfl⟩, rfl, rfl⟩ := hvs
  have HLL := Lib.hid hl
  have HLR := Lib.hid hl'
  have hll := Js.length_nodesL l
  clear hl hl'
  by_cases heq : l.length = l'.length
  rotate_left
  ·have hb : ((l.length : Int) != (l'.length : Int)) = true := by simp; omega
   have HF : Hid (R = false) := Lib.hid (by rw [HRR.out]; exact Js.sameL_nlen heq)
   go_wp2_with fail
   go_ret
   exact ⟨ret_bool HF.out.symm, HW2.out⟩
  have hb : ((l.length : Int) != (l'.length : Int)) = false := by simp; omega
  have HEQ := Lib.hid heq
  clear heq
  go_wp2_with fail
  clear x0 x1 x2 x3 x4 x5 z0 z1 z2 z3 z4 z5
  have hszw : w.heap.size + 1 < w2.heap.size := (Array.getElem?_eq_some_iff.1 HE2.out).1
  go_loopw [5] (fun i wr => ∃ k : Nat, k ≤ l.length ∧ i = .int .i64 k ∧ Hid (Js.sameL (l.take k) (l'.take k) = true) ∧ Hid (Below w2.heap.size w2 wr)) (fun i _ => l.length - (intOf i).toNat)
  case atStart => exact ⟨0, Nat.zero_le _, rfl, Lib.hid (by simp [Js.sameL]), Lib.hid (Below.refl _ _)⟩
  case round =>
   obtain ⟨k, hk, rfl, HS, HW⟩ := hrel
   obtain ⟨x0, x1, x2, x3, x4, x5⟩ := blk6 (blk_next HW.out HE1.out)
   obtain ⟨z0, z1, z2, z3, z4, z5⟩ := blk6 (blk_next HW.out HE2.out)
   by_cases hlt : k < l.length
   ·obtain ⟨x, hx⟩ : ∃ x, l[k]? = some x := ⟨l[k], List.getElem?_eq_getElem hlt⟩
    obtain ⟨y, hy⟩ : ∃ y, l'[k]? = some y := ⟨l'[k], List.getElem?_eq_getElem (by have := HEQ.out; omega)⟩
    have hlt' : k < l'.length := by have := HEQ.out; omega
    obtain ⟨g, o, k1, b1, n1, t1, A7, l7, c7, A8, l8, c8, hA, hSg, hg, q0_, q1, q2_, q3_, q4_, q5_, hjx⟩ := (HLL.out.next HW.out).elem hx
    subst hA
    obtain ⟨g2, o2, k2, b2, n2, t2, B7, m7, d7, B8, m8, d8, hA, hSg2, hg2, r0, r1, r2, r3, r4, r5, hjy⟩ := (HLR.out.next HW.out).elem hy
    subst hA
    obtain ⟨p1, p2, p3⟩ := Js.nodesL_split l k x hx
    have hsn := Js.sameL_snoc HEQ.out hx hy
    rw [HS.out, Bool.true_and] at hsn
    have HSN := Lib.hid hsn
    have hpn : Js.nodes x ≤ N := by omega
    have hpn2 : Js.nodes x ≤ 1073741824 := by omega
    have hdr : Below wr.heap.size wr wr.drew := below_drewN (Below.refl _ _) 1
    have HJx := Lib.hid (hjx.next hdr)
    have HJy := Lib.hid (hjy.next hdr)
    have HWd := Lib.hid (HW.out.trans (hdr.mono HW.out.size))
    clear p1 p2 p3 hSg hSg2 hsn hx hy hjx hjy hg hg2 hdr
    go_upto_region 9 with fail
    go_still_tail 10, (by kernel_rfl)
    go_wp2_with fail
    refine (IH.out x y _ _ S wr.drew hpn hpn2 HJx.out HJy.out).mono ?_
    rintro e w3 ⟨rfl, hb3⟩
    have HW3 := Lib.hid (HWd.out.trans (hb3.mono HWd.out.size))
    obtain ⟨q, hq⟩ : ∃ q, Js.same x y = q := ⟨_, rfl⟩
    rw [hq] at HSN ⊢
    clear hb3 HJx HJy hq HW HWd
    cases q
    ·have HF : Hid (R = false) := Lib.hid (by rw [HRR.out]; exact Js.sameL_false HEQ.out HSN.out)
     go_wp2_with fail
     go_ret
     exact ⟨ret_bool HF.out.symm, HW2.out.trans (HW3.out.mono HW2.out.size)⟩
    ·go_wp2_with fail
     go_roundw
     case rel => exact ⟨k + 1, by omega, by go_num, HSN, HW3⟩
     case measure => simp [intOf]; omega
   ·obtain rfl : k = l.length := by omega
    have HF : Hid (R = true) := Lib.hid (by
     rw [HRR.out]
     have := HS.out
     rw [List.take_length, HEQ.out, List.take_length] at this
     exact this)
    go_wp2_with fail
    go_ret
    exact ⟨ret_bool HF.out.symm, HW2.out.trans (HW.out.mono HW2.out.size)⟩
 have q5 : (k0 == 5) = false := by rw [beq_eq_false_iff_ne]; exact h5
 by_cases h6 : k0 = 6
 ·subst h6
  have hR : R = Js.sameM m m' := by rw [HS.out]; simp
  have HRR := Lib.hid hR
  clear hR HS
  have hl := HX2.out
  have hl' := HY2.out
  unfold JV at hl hl'
  obtain ⟨_, _, _, _, hvs, -, -, -, hl⟩ := hl
  simp only [List.cons.injEq, Value.slice.injEq, and_true, true_and] at hvs
  obtain ⟨⟨rfl, rfl⟩, rfl, rfl⟩ := hvs
  obtain ⟨_, _, _, _, hvs, -, -, -, hl'⟩ := hl'
  simp only [List.cons.injEq, Value.slice.injEq, and_true, true_and] at hvs
  obtain ⟨⟨rfl, rfl⟩, rfl, rfl⟩ := hvs
  have HLL := Lib.hid hl
  have HLR := Lib.hid hl'
  have hll := Js.length_nodesM m
  clear hl hl'
  by_cases heq : m.length = m'.length
  rotate_left
  ·have hb : ((m.length : Int) != (m'.length : Int)) = true := by simp; omega
   have HF : Hid (R = false) := Lib.hid (by rw [HRR.out]; exact Js.sameM_nlen heq)
   go_wp2_with fail
   go_ret
   exact ⟨ret_bool HF.out.symm, HW2.out⟩
  have hb : ((m.length : Int) != (m'.length : Int)) = false := by simp; omega
  have HEQ := Lib.hid heq
  clear heq
  go_wp2_with fail
  clear x0 x1 x2 x3 x4 x5 z0 z1 z2 z3 z4 z5
  have hszw : w.heap.size + 1 < w2.heap.size := (Array.getElem?_eq_some_iff.1 HE2.out).1
  go_loopw [6] (fun i wr => ∃ k : Nat, k ≤ m.length ∧ i = .int .i64 k ∧ Hid (Js.sameM (m.take k) (m'.take k) = true) ∧ Hid (Below w2.heap.size w2 wr)) (fun i _ => m.length - (intOf i).toNat)
  case atStart => exact ⟨0, Nat.zero_le _, rfl, Lib.hid (by simp [Js.sameM]), Lib.hid (Below.refl _ _)⟩
  case round =>
   obtain ⟨k, hk, rfl, HS, HW⟩ := hrel
   obtain ⟨x0, x1, x2, x3, x4, x5⟩ := blk6 (blk_next HW.out HE1.out)
   obtain ⟨z0, z1, z2, z3, z4, z5⟩ := blk6 (blk_next HW.out HE2.out)
   by_cases hlt : k < m.length
   ·obtain ⟨nm, x, hx⟩ : ∃ nm x, m[k]? = some (nm, x) := ⟨m[k].1, m[k].2, List.getElem?_eq_getElem hlt⟩
    obtain ⟨nm2, y, hy⟩ : ∃ nm2 y, m'[k]? = some (nm2, y) := ⟨m'[k].1, m'[k].2, List.getElem?_eq_getElem (by have := HEQ.out; omega)⟩
    have hlt' : k < m'.length := by have := HEQ.out; omega
    obtain ⟨g, o, k1, b1, n1, t1, A7, l7, c7, A8, l8, c8, hA, hSg, hg, q0_, q1, q2_, q3_, q4_, q5_, q6_, hjx⟩ := (HLL.out.next HW.out).elem hx
    subst hA
    obtain ⟨g2, o2, k2, b2, n2, t2, B7, m7, d7, B8, m8, d8, hA, hSg2, hg2, r0, r1, r2, r3, r4, r5, r6, hjy⟩ := (HLR.out.next HW.out).elem hy
    subst hA
    obtain ⟨p1, p2, p3⟩ := Js.nodesM_split m k nm x hx
    have hsn := Js.sameM_snoc HEQ.out hx hy
    rw [HS.out, Bool.true_and] at hsn
    have HSN := Lib.hid hsn
    have hpn : Js.nodes x ≤ N := by omega
    have hpn2 : Js.nodes x ≤ 1073741824 := by omega
    have HSW : Hid (∀ W, Below wr.heap.size wr W → W.cell? ⟨w.heap.size, 5, none⟩ = some (.slice (some ⟨g, o, none⟩) m.length c6) ∧ W.cell? ⟨w.heap.size + 1, 5, none⟩ = some (.slice (some ⟨g2, o2, none⟩) m'.length d6) ∧ W.cell? ⟨g, o + k * 7, none⟩ = some (.string (str nm)) ∧ W.cell? ⟨g, o + k * 7 + 1, none⟩ = some (.int .i64 k1) ∧ W.cell? ⟨g, o + k * 7 + 2, none⟩ = some (.bool b1) ∧ W.cell? ⟨g, o + k * 7 + 3, none⟩ = some (.int .i64 n1) ∧ W.cell? ⟨g, o + k * 7 + 4, none⟩ = some (.string t1) ∧ W.cell? ⟨g, o + k * 7 + 5, none⟩ = some (.slice A7 l7 c7) ∧ W.cell? ⟨g, o + k * 7 + 6, none⟩ = some (.slice A8 l8 c8) ∧ W.cell? ⟨g2, o2 + k * 7, none⟩ = some (.string (str nm2)) ∧ W.cell? ⟨g2, o2 + k * 7 + 1, none⟩ = some (.int .i64 k2) ∧ W.cell? ⟨g2, o2 + k * 7 + 2, none⟩ = some (.bool b2) ∧ W.cell? ⟨g2, o2 + k * 7 + 3, none⟩ = some (.int .i64 n2) ∧ W.cell? ⟨g2, o2 + k * 7 + 4, none⟩ = some (.string t2) ∧ W.cell? ⟨g2, o2 + k * 7 + 5, none⟩ = some (.slice B7 m7 d7) ∧ W.cell? ⟨g2, o2 + k * 7 + 6, none⟩ = some (.slice B8 m8 d8) ∧ Hid (Below wr.heap.size wr W)) := Lib.hid (fun W hW => by
     have hk1 := fun i => World.cell?_of_block (a := ⟨g, i, none⟩) (hW.block g hg)
     have hk2 := fun i => World.cell?_of_block (a := ⟨g2, i, none⟩) (hW.block g2 hg2)
     exact ⟨(blk6 (blk_next hW (blk_next HW.out HE1.out))).2.2.2.2.2, (blk6 (blk_next hW (blk_next HW.out HE2.out))).2.2.2.2.2, (hk1 _).trans q0_, (hk1 _).trans q1, (hk1 _).trans q2_, (hk1 _).trans q3_, (hk1 _).trans q4_, (hk1 _).trans q5_, (hk1 _).trans q6_, (hk2 _).trans r0, (hk2 _).trans r1, (hk2 _).trans r2, (hk2 _).trans r3, (hk2 _).trans r4, (hk2 _).trans r5, (hk2 _).trans r6, Lib.hid hW⟩)
    have HCC : Hid (∀ W, Below wr.heap.size wr W → _) := Lib.hid (fun W hW => IH.out x y _ _ S W hpn hpn2 (hjx.next hW) (hjy.next hW))
    have hdr : Below wr.heap.size wr wr.drew := below_drewN (Below.refl _ _) 1
    have HJx := Lib.hid (hjx.next hdr)
    have HJy := Lib.hid (hjy.next hdr)
    have HWd := Lib.hid (HW.out.trans (hdr.mono HW.out.size))
    clear p1 p2 p3 hSg hSg2 hsn hx hy hjx hjy hg hg2 hdr
    have hst2 := str_beq nm nm2
    by_cases hnm : nm = nm2
    rotate_left
    ·rw [decide_eq_false hnm] at hst2 HSN
     have HF : Hid (R = false) := Lib.hid (by rw [HRR.out]; exact Js.sameM_false HEQ.out HSN.out)
     clear hnm
     go_wp2_with fail
     go_quiet (fail)
     (try simp only [Exit.then])
     go_wp2_with fail
     go_ret
     exact ⟨ret_bool HF.out.symm, HW2.out.trans ((below_drewN HW.out _).mono HW2.out.size)⟩
    rw [decide_eq_true hnm, Bool.true_and] at HSN
    rw [decide_eq_true hnm] at hst2
    clear hnm
    go_wp2_with fail
    go_region_held3 (fun W => W.cell? ⟨w.heap.size, 5, none⟩ = some (.slice (some ⟨g, o, none⟩) m.length c6) ∧ W.cell? ⟨w.heap.size + 1, 5, none⟩ = some (.slice (some ⟨g2, o2, none⟩) m'.length d6) ∧ W.cell? ⟨g, o + k * 7, none⟩ = some (.string (str nm)) ∧ W.cell? ⟨g, o + k * 7 + 1, none⟩ = some (.int .i64 k1) ∧ W.cell? ⟨g, o + k * 7 + 2, none⟩ = some (.bool b1) ∧ W.cell? ⟨g, o + k * 7 + 3, none⟩ = some (.int .i64 n1) ∧ W.cell? ⟨g, o + k * 7 + 4, none⟩ = some (.string t1) ∧ W.cell? ⟨g, o + k * 7 + 5, none⟩ = some (.slice A7 l7 c7) ∧ W.cell? ⟨g, o + k * 7 + 6, none⟩ = some (.slice A8 l8 c8) ∧ W.cell? ⟨g2, o2 + k * 7, none⟩ = some (.string (str nm2)) ∧ W.cell? ⟨g2, o2 + k * 7 + 1, none⟩ = some (.int .i64 k2) ∧ W.cell? ⟨g2, o2 + k * 7 + 2, none⟩ = some (.bool b2) ∧ W.cell? ⟨g2, o2 + k * 7 + 3, none⟩ = some (.int .i64 n2) ∧ W.cell? ⟨g2, o2 + k * 7 + 4, none⟩ = some (.string t2) ∧ W.cell? ⟨g2, o2 + k * 7 + 5, none⟩ = some (.slice B7 m7 d7) ∧ W.cell? ⟨g2, o2 + k * 7 + 6, none⟩ = some (.slice B8 m8 d8) ∧ Hid (Below wr.heap.size wr W)) (first
       | assumption
       | exact HSW.out _ (below_drewN (Below.refl _ _) 1)
       | (obtain ⟨_, _, _, _, _, _, _, _, _, _, _, _, _, _, _, _, hbl⟩ := ‹_ ∧ _ ∧ _ ∧ _ ∧ _ ∧ _ ∧ _ ∧ _ ∧ _ ∧ _ ∧ _ ∧ _ ∧ _ ∧ _ ∧ _ ∧ _ ∧ Hid _›; exact HSW.out _ (hbl.out.trans (hb3.mono hbl.out.size)))) (first
       | (go_at_call 10; refine (HCC.out _ (by obtain ⟨_, _, _, _, _, _, _, _, _, _, _, _, _, _, _, _, hbl⟩ := ‹_ ∧ _ ∧ _ ∧ _ ∧ _ ∧ _ ∧ _ ∧ _ ∧ _ ∧ _ ∧ _ ∧ _ ∧ _ ∧ _ ∧ _ ∧ _ ∧ Hid _›; exact hbl.out)).mono ?_; rintro e w3 ⟨rfl, hb3⟩))
    obtain ⟨_, _, _, _, _, _, _, _, _, _, _, _, _, _, _, _, hbl⟩ := ‹_ ∧ _ ∧ _ ∧ _ ∧ _ ∧ _ ∧ _ ∧ _ ∧ _ ∧ _ ∧ _ ∧ _ ∧ _ ∧ _ ∧ _ ∧ _ ∧ Hid _›
    have HW3 := Lib.hid (HW.out.trans (hbl.out.mono HW.out.size))
    (try simp only [Exit.then])
    obtain ⟨q, hq⟩ : ∃ q, Js.same x y = q := ⟨_, rfl⟩
    rw [hq] at HSN ⊢
    clear hbl hb3 HJx HJy hq HW HWd HSW HCC
    clear x0 x1 x2 x3 x4 x5 z0 z1 z2 z3 z4 z5 q0_ q1 q2_ q3_ q4_ q5_ q6_ r0 r1 r2 r3 r4 r5 r6
    cases q
    ·have HF : Hid (R = false) := Lib.hid (by rw [HRR.out]; exact Js.sameM_false HEQ.out HSN.out)
     go_wp2_with fail
     go_ret
     exact ⟨ret_bool HF.out.symm, HW2.out.trans (HW3.out.mono HW2.out.size)⟩
    ·go_wp2_with fail
     go_roundw
     case rel => exact ⟨k + 1, by omega, by go_num, HSN, HW3⟩
     case measure => simp [intOf]; omega
   ·obtain rfl : k = m.length := by omega
    have HF : Hid (R = true) := Lib.hid (by
     rw [HRR.out]
     have := HS.out
     rw [List.take_length, HEQ.out, List.take_length] at this
     exact this)
    go_wp2_with fail
    go_ret
    exact ⟨ret_bool HF.out.symm, HW2.out.trans (HW.out.mono HW2.out.size)⟩
 have q6 : (k0 == 6) = false := by rw [beq_eq_false_iff_ne]; exact h6
 have hR : R = true := by rw [HS.out]; simp [h2, h3, h4, h5, h6]
 subst hR
 clear h2 h3 h4 h5 h6
 go_wp2_with fail
 go_ret
 exact ⟨rfl, HW2.out⟩
theorem rsame_any : ∀ N, SameC 10 N
 | 0 => fun x y vs us S w hN => absurd hN (by have := Js.nodes_pos x; omega)
 | N + 1 => rsame_step N (rsame_any N)
end Go.Proofs.YtimioelnnhnbiaaGreatDoor
namespace Go.Proofs.YtimioelnnhnbiaaGreatDoor
open Go.RowKit
section
variable {ops : Array Oper} {Q : Exit → Act → World → Prop} {md : Region.Mode} {S : World → Prop} {fuel : Nat} {listed : Array Bool} {a : Act} {w : World} {o : Oper}
theorem takeN (i : Nat) (hi : ops[i]? = some o) (hS : S w) (hsh : Shutd md ops listed) (h : Shutd md ops (listed.setIfInBounds i true) → wpTill Tryz.prog md ops Q S (fun _ => false) fuel (listed.setIfInBounds i true) (a.put o.dst undef) w) (hc : mayT md ops listed i = true := by kernel_rfl) (hQ : ∀ c a w, Q (.panic c) (a.put o.dst undef) w → Q (.panic c) a w := by exact fun _ _ _ h => h) (hw : Region.wanted o (yielded ops a.tmps) = false := by kernel_rfl) : wpTill Tryz.prog md ops Q S (fun _ => false) (fuel + 1) listed a w :=
 takeY i hi (hc := hc) (hQ := hQ) (Or.inr ⟨hw, rfl⟩) hS hsh h
end
/-- What ToAsk gives. -/
def AskSt (W : World) (x : Js.J) (p : PAsk) (Af : Option Addr) (cf : Nat) (Ao : Option Addr) (co : Nat) (Aa : Option Addr) (ca : Nat) : Prop :=
 (toAskE x = 0 ∧ p = askP x ∧ AskRows W p Af cf Ao co Aa ca) ∨ (toAskE x = 2 ∧ p = zAsk)
def AnsSt (W : World) (x : Js.J) (q : PAnswer) (Bf : Option Addr) (df : Nat) (Bc : Option Addr) (dc : Nat) (Bi : Option Addr) (di : Nat) : Prop :=
 (toAnsE x = 0 ∧ q = ansP x ∧ AnsRows W q Bf df Bc dc Bi di) ∨ (toAnsE x = 2 ∧ q = zAns)
theorem nx_askst {x : Js.J} {p : PAsk} {Af : Option Addr} {cf : Nat} {Ao : Option Addr} {co : Nat} {Aa : Option Addr} {ca : Nat} : Nx fun W => AskSt W x p Af cf Ao co Aa ca :=
 fun _ _ h hb => h.elim (fun k => Or.inl ⟨k.1, k.2.1, k.2.2.next hb⟩) Or.inr
theorem nx_ansst {x : Js.J} {q : PAnswer} {Bf : Option Addr} {df : Nat} {Bc : Option Addr} {dc : Nat} {Bi : Option Addr} {di : Nat} : Nx fun W => AnsSt W x q Bf df Bc dc Bi di :=
 fun _ _ h hb => h.elim (fun k => Or.inl ⟨k.1, k.2.1, k.2.2.next hb⟩) Or.inr
theorem toAsk_st (x : Js.J) (vs : List Value) (S : Nat → Prop) (w : World) (hjv : JV w S x vs) (hSw : ∀ g, S g → g < w.heap.size) (hno : Js.nodes x ≤ 70000 ∧ Js.bytes x ≤ 70000 ∧ Js.deep x ≤ 70000) :
  Calls Tryz.prog 7 #[.agg vs.toArray] w fun e w' => Below w.heap.size w w' ∧ ∃ p Af cf Ao co Aa ca, e = .returned (.tuple #[.agg (askA p Af cf Ao co Aa ca), .int .i64 (toAskE x)]) ∧ AskSt w' x p Af cf Ao co Aa ca :=
 (toAsk_any x vs S w hjv hSw hno).mono fun e w' ⟨hb, h⟩ => ⟨hb, h.elim
  (fun ⟨h0, Af, cf, Ao, co, Aa, ca, he, hr⟩ => ⟨_, Af, cf, Ao, co, Aa, ca, by rw [he, h0], Or.inl ⟨h0, rfl, hr⟩⟩)
  (fun ⟨h0, he⟩ => ⟨zAsk, none, 0, none, 0, none, 0, by rw [he, h0]; rfl, Or.inr ⟨h0, rfl⟩⟩)⟩
theorem toAnswer_st (x : Js.J) (vs : List Value) (S : Nat → Prop) (w : World) (hjv : JV w S x vs) (hSw : ∀ g, S g → g < w.heap.size) (hno : Js.nodes x ≤ 70000 ∧ Js.bytes x ≤ 70000 ∧ Js.deep x ≤ 70000) :
  Calls Tryz.prog 8 #[.agg vs.toArray] w fun e w' => Below w.heap.size w w' ∧ ∃ q Bf df Bc dc Bi di, e = .returned (.tuple #[.agg (ansA q Bf df Bc dc Bi di), .int .i64 (toAnsE x)]) ∧ AnsSt w' x q Bf df Bc dc Bi di :=
 (toAnswer_any x vs S w hjv hSw hno).mono fun e w' ⟨hb, h⟩ => ⟨hb, h.elim
  (fun ⟨h0, Af, cf, Ac, cc, Ai, ci, he, hr⟩ => ⟨_, Af, cf, Ac, cc, Ai, ci, by rw [he, h0], Or.inl ⟨h0, rfl, hr⟩⟩)
  (fun ⟨h0, he⟩ => ⟨zAns, none, 0, none, 0, none, 0, by rw [he, h0]; rfl, Or.inr ⟨h0, rfl⟩⟩)⟩
theorem askE_ok {x : Js.J} (h : toAskE x = 0) : Js.right x = true ∧ Js.same (askJ (askP x)) x = true := by
 unfold toAskE at h
 split at h
 ·rename_i h1
  split at h
  ·rename_i h2; exact ⟨h1, h2⟩
  ·cases h
 ·cases h
theorem ansE_ok {x : Js.J} (h : toAnsE x = 0) : Js.right x = true ∧ Js.same (ansJ (ansP x)) x = true := by
 unfold toAnsE at h
 split at h
 ·rename_i h1
  split at h
  ·rename_i h2; exact ⟨h1, h2⟩
  ·cases h
 ·cases h
theorem same6 {m : List (Js.Bs × Js.J)} {x : Js.J} (h : Js.same (.mk 6 false 0 [] [] m) x = true) : m.length = x.members.length := by
 obtain ⟨k, b, n, t, l, m'⟩ := x
 simp only [Js.same, Bool.and_eq_true, Bool.or_eq_true, decide_eq_true_eq] at h
 obtain ⟨-, h6⟩ := h
 exact Js.sameM_len (h6.elim (fun h => absurd rfl h) id)
/-- No value is both. -/
theorem not_both {x : Js.J} (h : toAskE x = 0) (k : toAnsE x = 0) : False := by
 have h1 := same6 (askE_ok h).2
 have h2 := same6 (ansE_ok k).2
 simp at h1 h2
 omega
end Go.Proofs.YtimioelnnhnbiaaGreatDoor
namespace Go.Proofs.YtimioelnnhnbiaaGreatDoor
open Go.RowKit
theorem run_ld1 {o : Oper} {a : Act} {W : World} {t : TypeId} {x : Operand} {d : TypeDesc} {b off : Nat} {v : Value} {C : Array Value} {ta : TypeId} (ho : o.op = .load t x) (hx : a.eval x = .pointer (some ⟨b, off, none⟩)) (hu : Tryz.prog.underlying t = some d) (hd : d.isRow = false) (hC : W.heap[b]? = some (.cells C ta (0, 0))) (hv : C[off]? = some v) :
  (execOp a.eval o).run Tryz.prog W = .ok (.value v) W := by
 unfold execOp
 simp only [ho, hx, Instr.loadAt, Instr.sureAddr, Sem.run_bind, Sem.run_pure, Result.andThen_ok, run_loadVar_one W b off t v d ((blk_cells hC off).trans hv) hu hd]
theorem run_ldi {o : Oper} {a : Act} {W : World} {x : Operand} {b off : Nat} {I : Nat → UInt8} {C : Array Value} {ta : TypeId} (ho : o.op = .load 29 x) (hx : a.eval x = .pointer (some ⟨b, off, none⟩)) (hC : W.heap[b]? = some (.cells C ta (0, 0))) (hv : ∀ j v, (idC I)[j]? = some v → C[off + j]? = some v) :
  (execOp a.eval o).run Tryz.prog W = .ok (.value (.agg (idC I).toArray)) W := by
 unfold execOp
 simp only [ho, hx, Instr.loadAt, Instr.sureAddr, Sem.run_bind, Sem.run_pure, Result.andThen_ok, run_loadVar_mid (P := Tryz.prog) W b off 29 (idC I) _ (fun j v hj => (blk_cells hC (off + j)).trans (hv j v hj)) und29 rfl (by rw [info29]; rfl)]
/-- A leaf's contract, as a stage wants it. -/
theorem lf_of {f : FuncId} {arg : Value} {us : List Value} {S : Nat → Prop} {v : Js.J} {W : World} (h : Calls Tryz.prog f #[arg] W fun e w' => e = .returned (.agg us.toArray) ∧ Below W.heap.size W w') (hv : ∀ W, JV W S v us) : Calls Tryz.prog f #[arg] W fun e w' => Below W.heap.size W w' ∧ ∃ us, e = .returned (.agg us.toArray) ∧ JV w' S v us :=
 h.mono fun _ w' hR => ⟨hR.2, us, hR.1, hv w'⟩
theorem sharedG {F G : World → List Value → List Value → Prop} {goal : Prop} (tree : (∀ W u v, F W u v → G W u v) → goal) (key : ∀ W u v, F W u v → G W u v) : goal := tree key
theorem stageF {id : Nat} {ops : Array Oper} {Q : Exit → Act → World → Prop} {a : Act} {W : World} {G : World → Prop} {S : Nat → Prop} {X v : Js.J} {vs : List Value} {o0 o1 o2 o3 o4 o5 : Oper} {x0 x5 y5 : Operand} (Y lf : Nat) (p1 val arg : Value) (nm : Js.Bs)
  (hm : Tryz.prog.follows .mixedOrders = true) (hn : ops.size = 6) (i0 : ops[0]? = some o0) (i1 : ops[1]? = some o1) (i2 : ops[2]? = some o2) (i3 : ops[3]? = some o3) (i4 : ops[4]? = some o4) (i5 : ops[5]? = some o5) (e0 : o0.op = .load 25 x0) (e5 : o5.op = .store 25 x5 y5)
  (hG : Nx G) (hB : ∀ W W', G W → But [Y] W W' → G W') (hSY : ¬ S Y) (HG : G W) (HY : W.heap[Y]? = some (.cells vs.toArray 25 (0, 0))) (HJ : JV W S X vs) (hX : Nat.ble X.members.length 1000000 = true) (hnew : ∀ W, G W → ∀ g, W.heap.size ≤ g → S g)
  (hlf : ∀ W, G W → Calls Tryz.prog lf #[arg] W fun e w' => Below W.heap.size W w' ∧ ∃ us, e = .returned (.agg us.toArray) ∧ JV w' S v us)
  (hld : ∀ W, G W → (execOp ((a.put o0.dst (.agg vs.toArray)).put o1.dst p1).eval o2).run Tryz.prog W = .ok (.value val) W)
  (hc : (mayT .any ops (Array.replicate 6 false) 0 = true ∧ Region.wanted o0 (yielded ops a.tmps) = true ∧ a.eval x0 = .pointer (some ⟨Y, 0, none⟩) ∧ waits .any ops 5 0 = true) ∧ (mayT .any ops ((Array.replicate 6 false).setIfInBounds 0 true) 1 = true ∧ Region.wanted o1 (yielded ops (a.put o0.dst (.agg vs.toArray)).tmps) = true ∧ (∀ w, (execOp (a.put o0.dst (.agg vs.toArray)).eval o1).run Tryz.prog w = .ok (.value p1) w) ∧ waits .any ops 5 1 = true) ∧ (mayT .any ops (((Array.replicate 6 false).setIfInBounds 0 true).setIfInBounds 1 true) 2 = true ∧ Region.wanted o2 (yielded ops ((a.put o0.dst (.agg vs.toArray)).put o1.dst p1).tmps) = true ∧ waits .any ops 5 2 = true) ∧ (Region.ready .any ops ((((Array.replicate 6 false).setIfInBounds 0 true).setIfInBounds 1 true).setIfInBounds 2 true) = [3] ∧ Region.wanted o3 (yielded ops (((a.put o0.dst (.agg vs.toArray)).put o1.dst p1).put o2.dst val).tmps) = true ∧ ∀ w, (execOp (((a.put o0.dst (.agg vs.toArray)).put o1.dst p1).put o2.dst val).eval o3).run Tryz.prog w = .ok (.enter lf #[arg]) w) ∧ (∀ us : List Value, Region.ready .any ops (((((Array.replicate 6 false).setIfInBounds 0 true).setIfInBounds 1 true).setIfInBounds 2 true).setIfInBounds 3 true) = [4] ∧ Region.wanted o4 (yielded ops ((((a.put o0.dst (.agg vs.toArray)).put o1.dst p1).put o2.dst val).put o3.dst (.agg us.toArray)).tmps) = true ∧ ∀ w, (execOp ((((a.put o0.dst (.agg vs.toArray)).put o1.dst p1).put o2.dst val).put o3.dst (.agg us.toArray)).eval o4).run Tryz.prog w = .ok (.enter 37 #[.agg vs.toArray, .string (str nm), .agg us.toArray]) w) ∧ (∀ us us9 : List Value, Region.ready .any ops ((((((Array.replicate 6 false).setIfInBounds 0 true).setIfInBounds 1 true).setIfInBounds 2 true).setIfInBounds 3 true).setIfInBounds 4 true) = [5] ∧ Region.wanted o5 (yielded ops (((((a.put o0.dst (.agg vs.toArray)).put o1.dst p1).put o2.dst val).put o3.dst (.agg us.toArray)).put o4.dst (.agg us9.toArray)).tmps) = true ∧ (((((a.put o0.dst (.agg vs.toArray)).put o1.dst p1).put o2.dst val).put o3.dst (.agg us.toArray)).put o4.dst (.agg us9.toArray)).eval x5 = .pointer (some ⟨Y, 0, none⟩) ∧ (((((a.put o0.dst (.agg vs.toArray)).put o1.dst p1).put o2.dst val).put o3.dst (.agg us.toArray)).put o4.dst (.agg us9.toArray)).eval y5 = .agg us9.toArray ∧ Region.ready .any ops (((((((Array.replicate 6 false).setIfInBounds 0 true).setIfInBounds 1 true).setIfInBounds 2 true).setIfInBounds 3 true).setIfInBounds 4 true).setIfInBounds 5 true) = []))
  (hQ : ∀ c a w v, Q (.panic c) (a.put o0.dst v) w → Q (.panic c) a w) (hQ1 : ∀ c a w v, Q (.panic c) (a.put o1.dst v) w → Q (.panic c) a w) (hQ2 : ∀ c a w v, Q (.panic c) (a.put o2.dst v) w → Q (.panic c) a w)
  (h : ∀ (us : List Value) (W : World) (us9 : List Value), G W → W.heap[Y]? = some (.cells us9.toArray 25 (0, 0)) → JV W S (withP X nm v) us9 → Q .normal ((((((a.put o0.dst (.agg vs.toArray)).put o1.dst p1).put o2.dst val).put o3.dst (.agg us.toArray)).put o4.dst (.agg us9.toArray)).put o5.dst undef) W) : (Code.region id ops true).wp Tryz.prog Q a W := by
 obtain ⟨⟨c0, w0, x0e, t0⟩, ⟨c1, w1, r1, t1⟩, ⟨c2, w2, t2⟩, ⟨c3, w3, r3⟩, k4, k5⟩ := hc
 have hvs := HJ.len
 refine wp_region_any hm ?_
 rw [hn]
 change wpAny _ _ _ _ _ _ _ (World.drew _)
 have hb : Below W.heap.size W W.drew := below_drewN (Below.refl _ _) 1
 have G1 := hG _ _ HG hb
 have Y1 := blk_next hb HY
 have J1 := HJ.next hb
 clear hb HG HY HJ
 generalize W.drew = W1 at G1 Y1 J1 ⊢
 refine wpAny_of_till (S := fun W => G W ∧ W.heap[Y]? = some (.cells vs.toArray 25 (0, 0))) (st := fun l => l.getD 5 false) _ _ _ _ ?_
 have s0 : Shutd .any ops (Array.replicate 6 false) := Shutd.start 6
 simp only [mayT, Bool.and_eq_true] at c0
 refine wpTill_take (v := .agg vs.toArray) i0 c0.1.1 c0.1.2 c0.2 s0 (fun l h9 h8 => Shutd.step h9 t0 h8) (fun l => getD_set_ne false (by decide)) (fun c a w => hQ c a w _) (yieldsIf_load_mid w0 25 _ e0 Y 0 x0e vs _ (fun W hS j v hv => (blk_cells hS.2 (0 + j)).trans (by rw [Nat.zero_add, List.getElem?_toArray]; exact hv)) Tryz.underlying25 rfl (by rw [info25s, hvs])) ⟨G1, Y1⟩ (fun s1 => ?_)
 simp only [mayT, Bool.and_eq_true] at c1
 refine wpTill_take (v := p1) i1 c1.1.1 c1.1.2 c1.2 s1 (fun l h9 h8 => Shutd.step h9 t1 h8) (fun l => getD_set_ne false (by decide)) (fun c a w => hQ1 c a w _) (Or.inl ⟨w1, fun w _ => r1 w⟩) ⟨G1, Y1⟩ (fun s2 => ?_)
 simp only [mayT, Bool.and_eq_true] at c2
 refine wpTill_take (v := val) i2 c2.1.1 c2.1.2 c2.2 s2 (fun l h9 h8 => Shutd.step h9 t2 h8) (fun l => getD_set_ne false (by decide)) (fun c a w => hQ2 c a w _) (Or.inl ⟨w2, fun w hS => hld w hS.1⟩) ⟨G1, Y1⟩ (fun s3 => ?_)
 refine wpTill_ready c3 (by simp) (AllTill.cons i3 (fun KK hKK => ?_) AllTill.nil)
 rw [if_pos w3]
 refine wp_callR lf #[arg] (r3 _) (hlf W1 G1) ?_
 rintro e W2 ⟨hb, us, rfl, ju⟩
 have G2 := hG _ _ G1 hb
 have Y2 := blk_next hb Y1
 have J2 := J1.next hb
 refine ⟨_, rfl, hKK _ _ (fun _ => ⟨G2, Y2⟩) ?_⟩
 clear hKK KK
 obtain ⟨c4, w4, r4⟩ := k4 us
 refine wpTill_ready c4 (by simp) (AllTill.cons i4 (fun KK hKK => ?_) AllTill.nil)
 rw [if_pos w4]
 refine wp_callR 37 _ (r4 _) (with_S X nm v vs us S W2 J2 ju (hnew _ G2) (Nat.le_of_ble_eq_true hX)) ?_
 rintro e W3 ⟨hb, us9, rfl, j9⟩
 have G3 := hG _ _ G2 hb
 have Y3 := blk_next hb Y2
 refine ⟨_, rfl, hKK _ _ (fun _ => ⟨G3, Y3⟩) ?_⟩
 clear hKK KK
 obtain ⟨c5, w5, x5e, y5e, ce⟩ := k5 us us9
 refine wpTill_ready c5 (by simp) (AllTill.cons i5 (fun KK hKK => ?_) AllTill.nil)
 rw [if_pos w5]
 refine wp_store_rowd 25 _ _ e5 Y x5e vs.toArray us9.toArray y5e Y3 (by simp [hvs, j9.len]) (by rw [info25s]; simp [j9.len]) (by simpa using j9.one) ?_
 intro W4 hk hx
 refine hKK _ _ (fun h0 => ?_) ?_
 ·exact absurd h0 (by decide)
 ·exact wpTill_done ce (h us W4 us9 (hB _ _ G3 hk) hx (j9.but hk (by intro j hj; simp at hj; subst hj; exact hSY))) _
theorem stageN {id : Nat} {ops : Array Oper} {Q : Exit → Act → World → Prop} {a : Act} {W : World} {G : World → Prop} {S : Nat → Prop} {X v : Js.J} {vs : List Value} {o0 o1 o2 o3 o4 o5 o6 : Oper} {x0 x5 y5 : Operand} (Y lf : Nat) (p1 p2 val arg : Value) (nm : Js.Bs)
  (hm : Tryz.prog.follows .mixedOrders = true) (hn : ops.size = 7) (i0 : ops[0]? = some o0) (i1 : ops[1]? = some o1) (i2 : ops[2]? = some o2) (i3 : ops[3]? = some o3) (i4 : ops[4]? = some o4) (i5 : ops[5]? = some o5) (i6 : ops[6]? = some o6) (e0 : o0.op = .load 25 x0) (e5 : o6.op = .store 25 x5 y5)
  (hG : Nx G) (hB : ∀ W W', G W → But [Y] W W' → G W') (hSY : ¬ S Y) (HG : G W) (HY : W.heap[Y]? = some (.cells vs.toArray 25 (0, 0))) (HJ : JV W S X vs) (hX : Nat.ble X.members.length 1000000 = true) (hnew : ∀ W, G W → ∀ g, W.heap.size ≤ g → S g)
  (hlf : ∀ W, G W → Calls Tryz.prog lf #[arg] W fun e w' => Below W.heap.size W w' ∧ ∃ us, e = .returned (.agg us.toArray) ∧ JV w' S v us)
  (hld : ∀ W, G W → (execOp (((a.put o0.dst (.agg vs.toArray)).put o1.dst p1).put o2.dst p2).eval o3).run Tryz.prog W = .ok (.value val) W)
  (hc : (mayT .any ops (Array.replicate 7 false) 0 = true ∧ Region.wanted o0 (yielded ops a.tmps) = true ∧ a.eval x0 = .pointer (some ⟨Y, 0, none⟩) ∧ waits .any ops 6 0 = true) ∧ (mayT .any ops ((Array.replicate 7 false).setIfInBounds 0 true) 1 = true ∧ Region.wanted o1 (yielded ops (a.put o0.dst (.agg vs.toArray)).tmps) = true ∧ (∀ w, (execOp (a.put o0.dst (.agg vs.toArray)).eval o1).run Tryz.prog w = .ok (.value p1) w) ∧ waits .any ops 6 1 = true) ∧ (mayT .any ops (((Array.replicate 7 false).setIfInBounds 0 true).setIfInBounds 1 true) 2 = true ∧ Region.wanted o2 (yielded ops ((a.put o0.dst (.agg vs.toArray)).put o1.dst p1).tmps) = true ∧ (∀ w, (execOp ((a.put o0.dst (.agg vs.toArray)).put o1.dst p1).eval o2).run Tryz.prog w = .ok (.value p2) w) ∧ waits .any ops 6 2 = true) ∧ (mayT .any ops ((((Array.replicate 7 false).setIfInBounds 0 true).setIfInBounds 1 true).setIfInBounds 2 true) 3 = true ∧ Region.wanted o3 (yielded ops (((a.put o0.dst (.agg vs.toArray)).put o1.dst p1).put o2.dst p2).tmps) = true ∧ waits .any ops 6 3 = true) ∧ (Region.ready .any ops (((((Array.replicate 7 false).setIfInBounds 0 true).setIfInBounds 1 true).setIfInBounds 2 true).setIfInBounds 3 true) = [4] ∧ Region.wanted o4 (yielded ops ((((a.put o0.dst (.agg vs.toArray)).put o1.dst p1).put o2.dst p2).put o3.dst val).tmps) = true ∧ ∀ w, (execOp ((((a.put o0.dst (.agg vs.toArray)).put o1.dst p1).put o2.dst p2).put o3.dst val).eval o4).run Tryz.prog w = .ok (.enter lf #[arg]) w) ∧ (∀ us : List Value, Region.ready .any ops ((((((Array.replicate 7 false).setIfInBounds 0 true).setIfInBounds 1 true).setIfInBounds 2 true).setIfInBounds 3 true).setIfInBounds 4 true) = [5] ∧ Region.wanted o5 (yielded ops (((((a.put o0.dst (.agg vs.toArray)).put o1.dst p1).put o2.dst p2).put o3.dst val).put o4.dst (.agg us.toArray)).tmps) = true ∧ ∀ w, (execOp (((((a.put o0.dst (.agg vs.toArray)).put o1.dst p1).put o2.dst p2).put o3.dst val).put o4.dst (.agg us.toArray)).eval o5).run Tryz.prog w = .ok (.enter 37 #[.agg vs.toArray, .string (str nm), .agg us.toArray]) w) ∧ (∀ us us9 : List Value, Region.ready .any ops (((((((Array.replicate 7 false).setIfInBounds 0 true).setIfInBounds 1 true).setIfInBounds 2 true).setIfInBounds 3 true).setIfInBounds 4 true).setIfInBounds 5 true) = [6] ∧ Region.wanted o6 (yielded ops ((((((a.put o0.dst (.agg vs.toArray)).put o1.dst p1).put o2.dst p2).put o3.dst val).put o4.dst (.agg us.toArray)).put o5.dst (.agg us9.toArray)).tmps) = true ∧ ((((((a.put o0.dst (.agg vs.toArray)).put o1.dst p1).put o2.dst p2).put o3.dst val).put o4.dst (.agg us.toArray)).put o5.dst (.agg us9.toArray)).eval x5 = .pointer (some ⟨Y, 0, none⟩) ∧ ((((((a.put o0.dst (.agg vs.toArray)).put o1.dst p1).put o2.dst p2).put o3.dst val).put o4.dst (.agg us.toArray)).put o5.dst (.agg us9.toArray)).eval y5 = .agg us9.toArray ∧ Region.ready .any ops ((((((((Array.replicate 7 false).setIfInBounds 0 true).setIfInBounds 1 true).setIfInBounds 2 true).setIfInBounds 3 true).setIfInBounds 4 true).setIfInBounds 5 true).setIfInBounds 6 true) = []))
  (hQ : ∀ c a w v, Q (.panic c) (a.put o0.dst v) w → Q (.panic c) a w) (hQ1 : ∀ c a w v, Q (.panic c) (a.put o1.dst v) w → Q (.panic c) a w) (hQ2 : ∀ c a w v, Q (.panic c) (a.put o2.dst v) w → Q (.panic c) a w) (hQ3 : ∀ c a w v, Q (.panic c) (a.put o3.dst v) w → Q (.panic c) a w)
  (h : ∀ (us : List Value) (W : World) (us9 : List Value), G W → W.heap[Y]? = some (.cells us9.toArray 25 (0, 0)) → JV W S (withP X nm v) us9 → Q .normal (((((((a.put o0.dst (.agg vs.toArray)).put o1.dst p1).put o2.dst p2).put o3.dst val).put o4.dst (.agg us.toArray)).put o5.dst (.agg us9.toArray)).put o6.dst undef) W) : (Code.region id ops true).wp Tryz.prog Q a W := by
 obtain ⟨⟨c0, w0, x0e, t0⟩, ⟨c1, w1, r1, t1⟩, ⟨c2, w2, r2, t2⟩, ⟨c3, w3, t3⟩, ⟨c4, w4, r4⟩, k5, k6⟩ := hc
 have hvs := HJ.len
 refine wp_region_any hm ?_
 rw [hn]
 change wpAny _ _ _ _ _ _ _ (World.drew _)
 have hb : Below W.heap.size W W.drew := below_drewN (Below.refl _ _) 1
 have G1 := hG _ _ HG hb
 have Y1 := blk_next hb HY
 have J1 := HJ.next hb
 clear hb HG HY HJ
 generalize W.drew = W1 at G1 Y1 J1 ⊢
 refine wpAny_of_till (S := fun W => G W ∧ W.heap[Y]? = some (.cells vs.toArray 25 (0, 0))) (st := fun l => l.getD 6 false) _ _ _ _ ?_
 have s0 : Shutd .any ops (Array.replicate 7 false) := Shutd.start 7
 simp only [mayT, Bool.and_eq_true] at c0
 refine wpTill_take (v := .agg vs.toArray) i0 c0.1.1 c0.1.2 c0.2 s0 (fun l h9 h8 => Shutd.step h9 t0 h8) (fun l => getD_set_ne false (by decide)) (fun c a w => hQ c a w _) (yieldsIf_load_mid w0 25 _ e0 Y 0 x0e vs _ (fun W hS j v hv => (blk_cells hS.2 (0 + j)).trans (by rw [Nat.zero_add, List.getElem?_toArray]; exact hv)) Tryz.underlying25 rfl (by rw [info25s, hvs])) ⟨G1, Y1⟩ (fun s1 => ?_)
 simp only [mayT, Bool.and_eq_true] at c1
 refine wpTill_take (v := p1) i1 c1.1.1 c1.1.2 c1.2 s1 (fun l h9 h8 => Shutd.step h9 t1 h8) (fun l => getD_set_ne false (by decide)) (fun c a w => hQ1 c a w _) (Or.inl ⟨w1, fun w _ => r1 w⟩) ⟨G1, Y1⟩ (fun s2 => ?_)
 simp only [mayT, Bool.and_eq_true] at c2
 refine wpTill_take (v := p2) i2 c2.1.1 c2.1.2 c2.2 s2 (fun l h9 h8 => Shutd.step h9 t2 h8) (fun l => getD_set_ne false (by decide)) (fun c a w => hQ2 c a w _) (Or.inl ⟨w2, fun w _ => r2 w⟩) ⟨G1, Y1⟩ (fun s3 => ?_)
 simp only [mayT, Bool.and_eq_true] at c3
 refine wpTill_take (v := val) i3 c3.1.1 c3.1.2 c3.2 s3 (fun l h9 h8 => Shutd.step h9 t3 h8) (fun l => getD_set_ne false (by decide)) (fun c a w => hQ3 c a w _) (Or.inl ⟨w3, fun w hS => hld w hS.1⟩) ⟨G1, Y1⟩ (fun s4 => ?_)
 refine wpTill_ready c4 (by simp) (AllTill.cons i4 (fun KK hKK => ?_) AllTill.nil)
 rw [if_pos w4]
 refine wp_callR lf #[arg] (r4 _) (hlf W1 G1) ?_
 rintro e W2 ⟨hb, us, rfl, ju⟩
 have G2 := hG _ _ G1 hb
 have Y2 := blk_next hb Y1
 have J2 := J1.next hb
 refine ⟨_, rfl, hKK _ _ (fun _ => ⟨G2, Y2⟩) ?_⟩
 clear hKK KK
 obtain ⟨c5, w5, r5⟩ := k5 us
 refine wpTill_ready c5 (by simp) (AllTill.cons i5 (fun KK hKK => ?_) AllTill.nil)
 rw [if_pos w5]
 refine wp_callR 37 _ (r5 _) (with_S X nm v vs us S W2 J2 ju (hnew _ G2) (Nat.le_of_ble_eq_true hX)) ?_
 rintro e W3 ⟨hb, us9, rfl, j9⟩
 have G3 := hG _ _ G2 hb
 have Y3 := blk_next hb Y2
 refine ⟨_, rfl, hKK _ _ (fun _ => ⟨G3, Y3⟩) ?_⟩
 clear hKK KK
 obtain ⟨c6, w6, x5e, y5e, ce⟩ := k6 us us9
 refine wpTill_ready c6 (by simp) (AllTill.cons i6 (fun KK hKK => ?_) AllTill.nil)
 rw [if_pos w6]
 refine wp_store_rowd 25 _ _ e5 Y x5e vs.toArray us9.toArray y5e Y3 (by simp [hvs, j9.len]) (by rw [info25s]; simp [j9.len]) (by simpa using j9.one) ?_
 intro W4 hk hx
 refine hKK _ _ (fun h0 => ?_) ?_
 ·exact absurd h0 (by decide)
 ·exact wpTill_done ce (h us W4 us9 (hB _ _ G3 hk) hx (j9.but hk (by intro j hj; simp at hj; subst hj; exact hSY))) _
end Go.Proofs.YtimioelnnhnbiaaGreatDoor
