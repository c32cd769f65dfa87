/-
  The document's Same. CONDITIONS: the values lie as JV says; counts stay small.
-/
import Derived.Test.YtimioelnnhnbiaaDoorSA
import Derived.StillTailTactics
import Derived.Deep.RegionHeld3
namespace Go.Proofs.YtimioelnnhnbiaaDoor
open Go.RowKit
set_option maxRecDepth 100000 in
set_option maxHeartbeats 16000000 in
theorem rsame_step (N : Nat) (ih : SameC 15 N) : SameC 15 (N + 1) := by
  intro x y vs us S w hN hn hjx hjy
  cases x with | mk k0 b0 n0 t0 l m =>
  cases y with | mk k9 b9 n9 t9 l' m' =>
  have HX := hjx
  have HY := hjy
  unfold JV at hjx hjy
  obtain ⟨A5, c5, A6, c6, rfl, -, -, -, -⟩ := hjx
  obtain ⟨B5, d5, B6, d6, rfl, -, -, -, -⟩ := hjy
  have hb1 := below_box w (.cells #[.int .i64 k0, .bool b0, .int .i64 n0, .string (str t0), .slice A5 l.length c5, .slice A6 m.length c6] 25)
  have s1 : (w.alloc (.cells #[.int .i64 k0, .bool b0, .int .i64 n0, .string (str t0), .slice A5 l.length c5, .slice A6 m.length c6] 25)).heap.size = w.heap.size + 1 := by simp
  have e1 := heap_alloc_new w (.cells #[.int .i64 k0, .bool b0, .int .i64 n0, .string (str t0), .slice A5 l.length c5, .slice A6 m.length c6] 25)
  have hb2 := below_box (w.alloc (.cells #[.int .i64 k0, .bool b0, .int .i64 n0, .string (str t0), .slice A5 l.length c5, .slice A6 m.length c6] 25)) (.cells #[.int .i64 k9, .bool b9, .int .i64 n9, .string (str t9), .slice B5 l'.length d5, .slice B6 m'.length d6] 25)
  have e2 := heap_alloc_new (w.alloc (.cells #[.int .i64 k0, .bool b0, .int .i64 n0, .string (str t0), .slice A5 l.length c5, .slice A6 m.length c6] 25)) (.cells #[.int .i64 k9, .bool b9, .int .i64 n9, .string (str t9), .slice B5 l'.length d5, .slice B6 m'.length d6] 25)
  rw [s1] at e2
  have HE1 := Lib.hid (blk_next hb2 e1)
  have HE2 := Lib.hid e2
  have HX2 := Lib.hid ((HX.next hb1).next hb2)
  have HY2 := Lib.hid ((HY.next hb1).next hb2)
  have HW2 := Lib.hid (hb1.trans (hb2.mono (by rw [s1]; omega)))
  have hst := str_beq t0 t9
  have hnodes : 1 + Js.nodesL l + Js.nodesM m ≤ N + 1 := hN
  have hnodes2 : 1 + Js.nodesL l + Js.nodesM m ≤ 1073741824 := hn
  clear hb1 hb2 e1 e2 s1 HX HY hN hn
  have IH := Lib.hid ih
  clear ih
  have HS : Hid (Js.same (.mk k0 b0 n0 t0 l m) (.mk k9 b9 n9 t9 l' m') = (decide (k0 = k9) && (decide (k0 ≠ 2) || decide (b0 = b9)) && (decide (k0 ≠ 3) || decide (n0 = n9)) && (decide (k0 ≠ 4) || decide (t0 = t9)) && (decide (k0 ≠ 5) || Js.sameL l l') && (decide (k0 ≠ 6) || Js.sameM m m'))) := Lib.hid (by rw [Js.same])
  generalize Js.same (.mk k0 b0 n0 t0 l m) (.mk k9 b9 n9 t9 l' m') = R at HS ⊢
  go_enter Tryd.func15, Tryd.ntmps15
  go_upto_region 1 with fail
  generalize ((w.alloc (.cells #[.int .i64 k0, .bool b0, .int .i64 n0, .string (str t0), .slice A5 l.length c5, .slice A6 m.length c6] 25)).alloc (.cells #[.int .i64 k9, .bool b9, .int .i64 n9, .string (str t9), .slice B5 l'.length d5, .slice B6 m'.length d6] 25)) = w2 at HE1 HE2 HX2 HY2 HW2 ⊢
  obtain ⟨x0, x1, x2, x3, x4, x5⟩ := blk6 HE1.out
  obtain ⟨z0, z1, z2, z3, z4, z5⟩ := blk6 HE2.out
  by_cases hk : k0 = k9
  rotate_left
  · have hR : R = false := by rw [HS.out, decide_eq_false hk]; simp
    have hb : (k0 != k9) = true := by simpa using hk
    subst hR
    clear hk
    go_wp2_with fail
    go_ret
    exact ⟨rfl, HW2.out⟩
  subst hk
  have hkk : (k0 != k0) = false := by simp
  by_cases h2 : k0 = 2
  · subst h2
    have hR : R = decide (b0 = b9) := by rw [HS.out]; simp
    subst hR
    cases b0 <;> cases b9
    all_goals
      go_wp2_with fail
      go_ret
      exact ⟨rfl, HW2.out⟩
  have q2 : (k0 == 2) = false := by rw [beq_eq_false_iff_ne]; exact h2
  by_cases h3 : k0 = 3
  · subst h3
    have hR : R = decide (n0 = n9) := by rw [HS.out]; simp
    subst hR
    by_cases hn : n0 = n9
    · have hb : (n0 != n9) = false := by simpa using hn
      have HD := Lib.hid (show decide (n0 = n9) = true by simpa using hn)
      clear hn
      go_wp2_with fail
      go_ret
      exact ⟨ret_bool HD.out.symm, HW2.out⟩
    · have hb : (n0 != n9) = true := by simpa using hn
      have HD := Lib.hid (show decide (n0 = n9) = false by simpa using hn)
      clear hn
      go_wp2_with fail
      go_ret
      exact ⟨ret_bool HD.out.symm, HW2.out⟩
  have q3 : (k0 == 3) = false := by rw [beq_eq_false_iff_ne]; exact h3
  by_cases h4 : k0 = 4
  · subst h4
    have hR : R = decide (t0 = t9) := by rw [HS.out]; simp
    subst hR
    obtain ⟨q, hq⟩ : ∃ q, decide (t0 = t9) = q := ⟨_, rfl⟩
    rw [hq] at hst
    have HQ := Lib.hid hq
    clear hq
    cases q
    · go_wp2_with fail
      go_ret
      exact ⟨ret_bool HQ.out.symm, HW2.out⟩
    · go_wp2_with fail
      go_ret
      exact ⟨ret_bool HQ.out.symm, HW2.out⟩
  have q4 : (k0 == 4) = false := by rw [beq_eq_false_iff_ne]; exact h4
  by_cases h5 : k0 = 5
  · subst h5
    have hR : R = Js.sameL l l' := by rw [HS.out]; simp
    have HRR := Lib.hid hR
    clear hR HS
    have hl := HX2.out
    have hl' := HY2.out
    unfold JV at hl hl'
    obtain ⟨_, _, _, _, hvs, -, -, hl, -⟩ := hl
    simp only [List.cons.injEq, Value.slice.injEq, and_true, true_and] at hvs
    obtain ⟨⟨rfl, rfl⟩, rfl, rfl⟩ := hvs
    obtain ⟨_, _, _, _, hvs, -, -, hl', -⟩ := hl'
    simp only [List.cons.injEq, Value.slice.injEq, and_true, true_and] at hvs
    obtain ⟨⟨rfl, rfl⟩, rfl, rfl⟩ := hvs
    have HLL := Lib.hid hl
    have HLR := Lib.hid hl'
    have hll := Js.length_nodesL l
    clear hl hl'
    by_cases heq : l.length = l'.length
    rotate_left
    · have hb : ((l.length : Int) != (l'.length : Int)) = true := by simp; omega
      have HF : Hid (R = false) := Lib.hid (by rw [HRR.out]; exact Js.sameL_nlen heq)
      go_wp2_with fail
      go_ret
      exact ⟨ret_bool HF.out.symm, HW2.out⟩
    have hb : ((l.length : Int) != (l'.length : Int)) = false := by simp; omega
    have HEQ := Lib.hid heq
    clear heq
    go_wp2_with fail
    clear x0 x1 x2 x3 x4 x5 z0 z1 z2 z3 z4 z5
    have hszw : w.heap.size + 1 < w2.heap.size := (Array.getElem?_eq_some_iff.1 HE2.out).1
    go_loopw [5] (fun i wr => ∃ k : Nat, k ≤ l.length ∧ i = .int .i64 k ∧ Hid (Js.sameL (l.take k) (l'.take k) = true) ∧ Hid (Below w2.heap.size w2 wr)) (fun i _ => l.length - (intOf i).toNat)
    case atStart => exact ⟨0, Nat.zero_le _, rfl, Lib.hid (by simp [Js.sameL]), Lib.hid (Below.refl _ _)⟩
    case round =>
      obtain ⟨k, hk, rfl, HS, HW⟩ := hrel
      obtain ⟨x0, x1, x2, x3, x4, x5⟩ := blk6 (blk_next HW.out HE1.out)
      obtain ⟨z0, z1, z2, z3, z4, z5⟩ := blk6 (blk_next HW.out HE2.out)
      by_cases hlt : k < l.length
      · obtain ⟨x, hx⟩ : ∃ x, l[k]? = some x := ⟨l[k], List.getElem?_eq_getElem hlt⟩
        obtain ⟨y, hy⟩ : ∃ y, l'[k]? = some y := ⟨l'[k], List.getElem?_eq_getElem (by have := HEQ.out; omega)⟩
        have hlt' : k < l'.length := by have := HEQ.out; omega
        obtain ⟨g, o, k1, b1, n1, t1, A7, l7, c7, A8, l8, c8, hA, hSg, hg, q0_, q1, q2_, q3_, q4_, q5_, hjx⟩ := (HLL.out.next HW.out).elem hx
        subst hA
        obtain ⟨g2, o2, k2, b2, n2, t2, B7, m7, d7, B8, m8, d8, hA, hSg2, hg2, r0, r1, r2, r3, r4, r5, hjy⟩ := (HLR.out.next HW.out).elem hy
        subst hA
        obtain ⟨p1, p2, p3⟩ := Js.nodesL_split l k x hx
        have hsn := Js.sameL_snoc HEQ.out hx hy
        rw [HS.out, Bool.true_and] at hsn
        have HSN := Lib.hid hsn
        have hpn : Js.nodes x ≤ N := by omega
        have hpn2 : Js.nodes x ≤ 1073741824 := by omega
        have hdr : Below wr.heap.size wr wr.drew := below_drewN (Below.refl _ _) 1
        have HJx := Lib.hid (hjx.next hdr)
        have HJy := Lib.hid (hjy.next hdr)
        have HWd := Lib.hid (HW.out.trans (hdr.mono HW.out.size))
        clear p1 p2 p3 hSg hSg2 hsn hx hy hjx hjy hg hg2 hdr
        go_upto_region 9 with fail
        go_still_tail 10, (by kernel_rfl)
        go_wp2_with fail
        refine (IH.out x y _ _ S wr.drew hpn hpn2 HJx.out HJy.out).mono ?_
        rintro e w3 ⟨rfl, hb3⟩
        have HW3 := Lib.hid (HWd.out.trans (hb3.mono HWd.out.size))
        obtain ⟨q, hq⟩ : ∃ q, Js.same x y = q := ⟨_, rfl⟩
        rw [hq] at HSN ⊢
        clear hb3 HJx HJy hq HW HWd
        cases q
        · have HF : Hid (R = false) := Lib.hid (by rw [HRR.out]; exact Js.sameL_false HEQ.out HSN.out)
          go_wp2_with fail
          go_ret
          exact ⟨ret_bool HF.out.symm, HW2.out.trans (HW3.out.mono HW2.out.size)⟩
        · go_wp2_with fail
          go_roundw
          case rel => exact ⟨k + 1, by omega, by go_num, HSN, HW3⟩
          case measure => simp [intOf]; omega
      · obtain rfl : k = l.length := by omega
        have HF : Hid (R = true) := Lib.hid (by
          rw [HRR.out]
          have := HS.out
          rw [List.take_length, HEQ.out, List.take_length] at this
          exact this)
        go_wp2_with fail
        go_ret
        exact ⟨ret_bool HF.out.symm, HW2.out.trans (HW.out.mono HW2.out.size)⟩
  have q5 : (k0 == 5) = false := by rw [beq_eq_false_iff_ne]; exact h5
  by_cases h6 : k0 = 6
  · subst h6
    have hR : R = Js.sameM m m' := by rw [HS.out]; simp
    have HRR := Lib.hid hR
    clear hR HS
    have hl := HX2.out
    have hl' := HY2.out
    unfold JV at hl hl'
    obtain ⟨_, _, _, _, hvs, -, -, -, hl⟩ := hl
    simp only [List.cons.injEq, Value.slice.injEq, and_true, true_and] at hvs
    obtain ⟨⟨rfl, rfl⟩, rfl, rfl⟩ := hvs
    obtain ⟨_, _, _, _, hvs, -, -, -, hl'⟩ := hl'
    simp only [List.cons.injEq, Value.slice.injEq, and_true, true_and] at hvs
    obtain ⟨⟨rfl, rfl⟩, rfl, rfl⟩ := hvs
    have HLL := Lib.hid hl
    have HLR := Lib.hid hl'
    have hll := Js.length_nodesM m
    clear hl hl'
    by_cases heq : m.length = m'.length
    rotate_left
    · have hb : ((m.length : Int) != (m'.length : Int)) = true := by simp; omega
      have HF : Hid (R = false) := Lib.hid (by rw [HRR.out]; exact Js.sameM_nlen heq)
      go_wp2_with fail
      go_ret
      exact ⟨ret_bool HF.out.symm, HW2.out⟩
    have hb : ((m.length : Int) != (m'.length : Int)) = false := by simp; omega
    have HEQ := Lib.hid heq
    clear heq
    go_wp2_with fail
    clear x0 x1 x2 x3 x4 x5 z0 z1 z2 z3 z4 z5
    have hszw : w.heap.size + 1 < w2.heap.size := (Array.getElem?_eq_some_iff.1 HE2.out).1
    go_loopw [6] (fun i wr => ∃ k : Nat, k ≤ m.length ∧ i = .int .i64 k ∧ Hid (Js.sameM (m.take k) (m'.take k) = true) ∧ Hid (Below w2.heap.size w2 wr)) (fun i _ => m.length - (intOf i).toNat)
    case atStart => exact ⟨0, Nat.zero_le _, rfl, Lib.hid (by simp [Js.sameM]), Lib.hid (Below.refl _ _)⟩
    case round =>
      obtain ⟨k, hk, rfl, HS, HW⟩ := hrel
      obtain ⟨x0, x1, x2, x3, x4, x5⟩ := blk6 (blk_next HW.out HE1.out)
      obtain ⟨z0, z1, z2, z3, z4, z5⟩ := blk6 (blk_next HW.out HE2.out)
      by_cases hlt : k < m.length
      · obtain ⟨nm, x, hx⟩ : ∃ nm x, m[k]? = some (nm, x) := ⟨m[k].1, m[k].2, List.getElem?_eq_getElem hlt⟩
        obtain ⟨nm2, y, hy⟩ : ∃ nm2 y, m'[k]? = some (nm2, y) := ⟨m'[k].1, m'[k].2, List.getElem?_eq_getElem (by have := HEQ.out; omega)⟩
        have hlt' : k < m'.length := by have := HEQ.out; omega
        obtain ⟨g, o, k1, b1, n1, t1, A7, l7, c7, A8, l8, c8, hA, hSg, hg, q0_, q1, q2_, q3_, q4_, q5_, q6_, hjx⟩ := (HLL.out.next HW.out).elem hx
        subst hA
        obtain ⟨g2, o2, k2, b2, n2, t2, B7, m7, d7, B8, m8, d8, hA, hSg2, hg2, r0, r1, r2, r3, r4, r5, r6, hjy⟩ := (HLR.out.next HW.out).elem hy
        subst hA
        obtain ⟨p1, p2, p3⟩ := Js.nodesM_split m k nm x hx
        have hsn := Js.sameM_snoc HEQ.out hx hy
        rw [HS.out, Bool.true_and] at hsn
        have HSN := Lib.hid hsn
        have hpn : Js.nodes x ≤ N := by omega
        have hpn2 : Js.nodes x ≤ 1073741824 := by omega
        have HSW : Hid (∀ W, Below wr.heap.size wr W → W.cell? ⟨w.heap.size, 5, none⟩ = some (.slice (some ⟨g, o, none⟩) m.length c6) ∧ W.cell? ⟨w.heap.size + 1, 5, none⟩ = some (.slice (some ⟨g2, o2, none⟩) m'.length d6) ∧ W.cell? ⟨g, o + k * 7, none⟩ = some (.string (str nm)) ∧ W.cell? ⟨g, o + k * 7 + 1, none⟩ = some (.int .i64 k1) ∧ W.cell? ⟨g, o + k * 7 + 2, none⟩ = some (.bool b1) ∧ W.cell? ⟨g, o + k * 7 + 3, none⟩ = some (.int .i64 n1) ∧ W.cell? ⟨g, o + k * 7 + 4, none⟩ = some (.string t1) ∧ W.cell? ⟨g, o + k * 7 + 5, none⟩ = some (.slice A7 l7 c7) ∧ W.cell? ⟨g, o + k * 7 + 6, none⟩ = some (.slice A8 l8 c8) ∧ W.cell? ⟨g2, o2 + k * 7, none⟩ = some (.string (str nm2)) ∧ W.cell? ⟨g2, o2 + k * 7 + 1, none⟩ = some (.int .i64 k2) ∧ W.cell? ⟨g2, o2 + k * 7 + 2, none⟩ = some (.bool b2) ∧ W.cell? ⟨g2, o2 + k * 7 + 3, none⟩ = some (.int .i64 n2) ∧ W.cell? ⟨g2, o2 + k * 7 + 4, none⟩ = some (.string t2) ∧ W.cell? ⟨g2, o2 + k * 7 + 5, none⟩ = some (.slice B7 m7 d7) ∧ W.cell? ⟨g2, o2 + k * 7 + 6, none⟩ = some (.slice B8 m8 d8) ∧ Hid (Below wr.heap.size wr W)) := Lib.hid (fun W hW => by
          have hk1 := fun i => World.cell?_of_block (a := ⟨g, i, none⟩) (hW.block g hg)
          have hk2 := fun i => World.cell?_of_block (a := ⟨g2, i, none⟩) (hW.block g2 hg2)
          exact ⟨(blk6 (blk_next hW (blk_next HW.out HE1.out))).2.2.2.2.2, (blk6 (blk_next hW (blk_next HW.out HE2.out))).2.2.2.2.2, (hk1 _).trans q0_, (hk1 _).trans q1, (hk1 _).trans q2_, (hk1 _).trans q3_, (hk1 _).trans q4_, (hk1 _).trans q5_, (hk1 _).trans q6_, (hk2 _).trans r0, (hk2 _).trans r1, (hk2 _).trans r2, (hk2 _).trans r3, (hk2 _).trans r4, (hk2 _).trans r5, (hk2 _).trans r6, Lib.hid hW⟩)
        have HCC : Hid (∀ W, Below wr.heap.size wr W → _) := Lib.hid (fun W hW => IH.out x y _ _ S W hpn hpn2 (hjx.next hW) (hjy.next hW))
        have hdr : Below wr.heap.size wr wr.drew := below_drewN (Below.refl _ _) 1
        have HJx := Lib.hid (hjx.next hdr)
        have HJy := Lib.hid (hjy.next hdr)
        have HWd := Lib.hid (HW.out.trans (hdr.mono HW.out.size))
        clear p1 p2 p3 hSg hSg2 hsn hx hy hjx hjy hg hg2 hdr
        have hst2 := str_beq nm nm2
        by_cases hnm : nm = nm2
        rotate_left
        · rw [decide_eq_false hnm] at hst2 HSN
          have HF : Hid (R = false) := Lib.hid (by rw [HRR.out]; exact Js.sameM_false HEQ.out HSN.out)
          clear hnm
          go_wp2_with fail
          go_quiet (fail)
          (try simp only [Exit.then])
          go_wp2_with fail
          go_ret
          exact ⟨ret_bool HF.out.symm, HW2.out.trans ((below_drewN HW.out _).mono HW2.out.size)⟩
        rw [decide_eq_true hnm, Bool.true_and] at HSN
        rw [decide_eq_true hnm] at hst2
        clear hnm
        go_wp2_with fail
        go_region_held3 (fun W => W.cell? ⟨w.heap.size, 5, none⟩ = some (.slice (some ⟨g, o, none⟩) m.length c6) ∧ W.cell? ⟨w.heap.size + 1, 5, none⟩ = some (.slice (some ⟨g2, o2, none⟩) m'.length d6) ∧ W.cell? ⟨g, o + k * 7, none⟩ = some (.string (str nm)) ∧ W.cell? ⟨g, o + k * 7 + 1, none⟩ = some (.int .i64 k1) ∧ W.cell? ⟨g, o + k * 7 + 2, none⟩ = some (.bool b1) ∧ W.cell? ⟨g, o + k * 7 + 3, none⟩ = some (.int .i64 n1) ∧ W.cell? ⟨g, o + k * 7 + 4, none⟩ = some (.string t1) ∧ W.cell? ⟨g, o + k * 7 + 5, none⟩ = some (.slice A7 l7 c7) ∧ W.cell? ⟨g, o + k * 7 + 6, none⟩ = some (.slice A8 l8 c8) ∧ W.cell? ⟨g2, o2 + k * 7, none⟩ = some (.string (str nm2)) ∧ W.cell? ⟨g2, o2 + k * 7 + 1, none⟩ = some (.int .i64 k2) ∧ W.cell? ⟨g2, o2 + k * 7 + 2, none⟩ = some (.bool b2) ∧ W.cell? ⟨g2, o2 + k * 7 + 3, none⟩ = some (.int .i64 n2) ∧ W.cell? ⟨g2, o2 + k * 7 + 4, none⟩ = some (.string t2) ∧ W.cell? ⟨g2, o2 + k * 7 + 5, none⟩ = some (.slice B7 m7 d7) ∧ W.cell? ⟨g2, o2 + k * 7 + 6, none⟩ = some (.slice B8 m8 d8) ∧ Hid (Below wr.heap.size wr W)) (first
              | assumption
              | exact HSW.out _ (below_drewN (Below.refl _ _) 1)
              | (obtain ⟨_, _, _, _, _, _, _, _, _, _, _, _, _, _, _, _, hbl⟩ := ‹_ ∧ _ ∧ _ ∧ _ ∧ _ ∧ _ ∧ _ ∧ _ ∧ _ ∧ _ ∧ _ ∧ _ ∧ _ ∧ _ ∧ _ ∧ _ ∧ Hid _›; exact HSW.out _ (hbl.out.trans (hb3.mono hbl.out.size)))) (first
              | (go_at_call 15; refine (HCC.out _ (by obtain ⟨_, _, _, _, _, _, _, _, _, _, _, _, _, _, _, _, hbl⟩ := ‹_ ∧ _ ∧ _ ∧ _ ∧ _ ∧ _ ∧ _ ∧ _ ∧ _ ∧ _ ∧ _ ∧ _ ∧ _ ∧ _ ∧ _ ∧ _ ∧ Hid _›; exact hbl.out)).mono ?_; rintro e w3 ⟨rfl, hb3⟩))
        obtain ⟨_, _, _, _, _, _, _, _, _, _, _, _, _, _, _, _, hbl⟩ := ‹_ ∧ _ ∧ _ ∧ _ ∧ _ ∧ _ ∧ _ ∧ _ ∧ _ ∧ _ ∧ _ ∧ _ ∧ _ ∧ _ ∧ _ ∧ _ ∧ Hid _›
        have HW3 := Lib.hid (HW.out.trans (hbl.out.mono HW.out.size))
        (try simp only [Exit.then])
        obtain ⟨q, hq⟩ : ∃ q, Js.same x y = q := ⟨_, rfl⟩
        rw [hq] at HSN ⊢
        clear hbl hb3 HJx HJy hq HW HWd HSW HCC
        clear x0 x1 x2 x3 x4 x5 z0 z1 z2 z3 z4 z5 q0_ q1 q2_ q3_ q4_ q5_ q6_ r0 r1 r2 r3 r4 r5 r6
        cases q
        · have HF : Hid (R = false) := Lib.hid (by rw [HRR.out]; exact Js.sameM_false HEQ.out HSN.out)
          go_wp2_with fail
          go_ret
          exact ⟨ret_bool HF.out.symm, HW2.out.trans (HW3.out.mono HW2.out.size)⟩
        · go_wp2_with fail
          go_roundw
          case rel => exact ⟨k + 1, by omega, by go_num, HSN, HW3⟩
          case measure => simp [intOf]; omega
      · obtain rfl : k = m.length := by omega
        have HF : Hid (R = true) := Lib.hid (by
          rw [HRR.out]
          have := HS.out
          rw [List.take_length, HEQ.out, List.take_length] at this
          exact this)
        go_wp2_with fail
        go_ret
        exact ⟨ret_bool HF.out.symm, HW2.out.trans (HW.out.mono HW2.out.size)⟩
  have q6 : (k0 == 6) = false := by rw [beq_eq_false_iff_ne]; exact h6
  have hR : R = true := by rw [HS.out]; simp [h2, h3, h4, h5, h6]
  subst hR
  clear h2 h3 h4 h5 h6
  go_wp2_with fail
  go_ret
  exact ⟨rfl, HW2.out⟩
theorem rsame_any : ∀ N, SameC 15 N
  | 0 => fun x y vs us S w hN => absurd hN (by have := Js.nodes_pos x; omega)
  | N + 1 => rsame_step N (rsame_any N)
end Go.Proofs.YtimioelnnhnbiaaDoor
