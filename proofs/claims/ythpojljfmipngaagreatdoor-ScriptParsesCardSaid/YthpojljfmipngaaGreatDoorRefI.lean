/-
  THE WALKS: Event of the reference of chapter 28. CONDITIONS: the event lies as EvAt says.
-/
import Derived.Test.YthpojljfmipngaaGreatDoorRefH
import Derived.Test.YthpojljfmipngaaGreatDoorRefA
import Derived.Test.YthpojljfmipngaaGreatDoorTill
namespace Go.Proofs.YthpojljfmipngaaGreatDoor
open Go.RowKit
theorem Shutd.put' {ops : Array Oper} {md : Region.Mode} {l : Array Bool} {j : Nat} (h : Shutd md ops l) (hj : (Region.ready md ops l).contains j = true) : Shutd md ops (l.setIfInBounds j true) := h.set (by simpa using hj)
theorem set7 {w : World} {b : Nat} {c0 c1 c2 c3 c4 c5 c6 : Value} (h : w.heap[b]? = some (.cells #[c0, c1, c2, c3, c4, c5, c6] 39 (0, 0))) (a0 a1 a2 a3 a4 a5 a6 : Value) :
    But [b] w (((((((w.setCell ⟨b, 0, none⟩ a0).setCell ⟨b, 1, none⟩ a1).setCell ⟨b, 2, none⟩ a2).setCell ⟨b, 3, none⟩ a3).setCell ⟨b, 4, none⟩ a4).setCell ⟨b, 5, none⟩ a5).setCell ⟨b, 6, none⟩ a6) ∧ (((((((w.setCell ⟨b, 0, none⟩ a0).setCell ⟨b, 1, none⟩ a1).setCell ⟨b, 2, none⟩ a2).setCell ⟨b, 3, none⟩ a3).setCell ⟨b, 4, none⟩ a4).setCell ⟨b, 5, none⟩ a5).setCell ⟨b, 6, none⟩ a6).heap[b]? = some (.cells #[a0, a1, a2, a3, a4, a5, a6] 39 (0, 0)) := by
  have h0 := but_set (i := 0) a0 h
  have e0 : (w.setCell ⟨b, 0, none⟩ a0).heap[b]? = some (.cells #[a0, c1, c2, c3, c4, c5, c6] 39 (0, 0)) := h0.2
  have h1 := but_set (i := 1) a1 e0
  have e1 : ((w.setCell ⟨b, 0, none⟩ a0).setCell ⟨b, 1, none⟩ a1).heap[b]? = some (.cells #[a0, a1, c2, c3, c4, c5, c6] 39 (0, 0)) := h1.2
  have h2 := but_set (i := 2) a2 e1
  have e2 : (((w.setCell ⟨b, 0, none⟩ a0).setCell ⟨b, 1, none⟩ a1).setCell ⟨b, 2, none⟩ a2).heap[b]? = some (.cells #[a0, a1, a2, c3, c4, c5, c6] 39 (0, 0)) := h2.2
  have h3 := but_set (i := 3) a3 e2
  have e3 : ((((w.setCell ⟨b, 0, none⟩ a0).setCell ⟨b, 1, none⟩ a1).setCell ⟨b, 2, none⟩ a2).setCell ⟨b, 3, none⟩ a3).heap[b]? = some (.cells #[a0, a1, a2, a3, c4, c5, c6] 39 (0, 0)) := h3.2
  have h4 := but_set (i := 4) a4 e3
  have e4 : (((((w.setCell ⟨b, 0, none⟩ a0).setCell ⟨b, 1, none⟩ a1).setCell ⟨b, 2, none⟩ a2).setCell ⟨b, 3, none⟩ a3).setCell ⟨b, 4, none⟩ a4).heap[b]? = some (.cells #[a0, a1, a2, a3, a4, c5, c6] 39 (0, 0)) := h4.2
  have h5 := but_set (i := 5) a5 e4
  have e5 : ((((((w.setCell ⟨b, 0, none⟩ a0).setCell ⟨b, 1, none⟩ a1).setCell ⟨b, 2, none⟩ a2).setCell ⟨b, 3, none⟩ a3).setCell ⟨b, 4, none⟩ a4).setCell ⟨b, 5, none⟩ a5).heap[b]? = some (.cells #[a0, a1, a2, a3, a4, a5, c6] 39 (0, 0)) := h5.2
  have h6 := but_set (i := 6) a6 e5
  have e6 : (((((((w.setCell ⟨b, 0, none⟩ a0).setCell ⟨b, 1, none⟩ a1).setCell ⟨b, 2, none⟩ a2).setCell ⟨b, 3, none⟩ a3).setCell ⟨b, 4, none⟩ a4).setCell ⟨b, 5, none⟩ a5).setCell ⟨b, 6, none⟩ a6).heap[b]? = some (.cells #[a0, a1, a2, a3, a4, a5, a6] 39 (0, 0)) := h6.2
  exact ⟨h0.1.trans (h1.1.trans (h2.1.trans (h3.1.trans (h4.1.trans (h5.1.trans h6.1))))), e6⟩
theorem word_in {k : Int} (h1 : 1 ≤ k) (h2 : k ≤ 11) : (Sc.wordOf k).isEmpty = false := by
  have hk : k = 1 ∨ k = 2 ∨ k = 3 ∨ k = 4 ∨ k = 5 ∨ k = 6 ∨ k = 7 ∨ k = 8 ∨ k = 9 ∨ k = 10 ∨ k = 11 := by omega
  rcases hk with rfl | rfl | rfl | rfl | rfl | rfl | rfl | rfl | rfl | rfl | rfl <;> decide
theorem word_out {k : Int} (h : k < 1 ∨ 11 < k) : Sc.wordOf k = [] := by unfold Sc.wordOf; rw [if_pos h]
theorem numsx_len (x : Sc.Ev) : (Sc.nums x).length ≤ 2 := by
  unfold Sc.nums Sc.offs
  rw [List.length_map]
  split
  · decide
  split
  · decide
  split
  · decide
  split
  · decide
  split
  · decide
  · decide
/-- The event's fields in the second box. -/
structure EG (w0 : World) (yb : Nat) (W : World) : Prop where
  below : Below w0.heap.size w0 W
  le : w0.heap.size ≤ yb
  box : W.heap[yb]? = some (.cells #[.int .i64 0, .int .i64 0, .int .i64 0, .int .i64 0, .int .i64 0, .slice none 0 0, .slice none 0 0] 39 (0, 0))
set_option maxRecDepth 100000 in
set_option maxHeartbeats 8000000 in
theorem refEvent_any (x : Sc.Ev) (K A : Option Addr) (kc bc : Nat) (w : World) (hx : EvAt w x K A) :
    Calls Tryz.prog 54 #[evV x K A kc bc] w fun e w' => e = .returned (.bool (!Sc.wrong x)) ∧ Below w.heap.size w w' := by
  have hb1 := below_box w (.cells #[.int .i64 x.kind, .int .i64 x.node, .int .i64 x.to, .int .i64 x.n, .int .i64 x.bit, .slice K x.keep.length kc, .slice A x.bytes.length bc] 39)
  have hx1 : EvBox (w.alloc (.cells #[.int .i64 x.kind, .int .i64 x.node, .int .i64 x.to, .int .i64 x.n, .int .i64 x.bit, .slice K x.keep.length kc, .slice A x.bytes.length bc] 39)) w.heap.size x K A kc bc := heap_alloc_new w _
  have HX1 := Lib.hid hx1
  have HB1 := Lib.hid hb1
  have HEV := Lib.hid hx
  clear hb1 hx1 hx
  unfold evV
  by_cases hout : x.kind < 1 ∨ 11 < x.kind
  · have HR : Hid (Sc.wrong x = true) := Lib.hid (by unfold Sc.wrong; rcases hout with h | h <;> simp [h])
    have HW := Lib.hid (word_out hout)
    clear hout
    obtain ⟨c0, c1, c2, c3, c4, c5, c6⟩ := HX1.out.cells
    go_enter Tryz.func54, Tryz.ntmps54
    go_wp2_with fail
    refine (refWord_any x.kind _).mono ?_
    rintro e w2 ⟨rfl, rfl⟩
    rw [HW.out]
    go_wp2_with fail
    go_ret
    rw [HR.out]
    exact ⟨rfl, HB1.out⟩
  · have hk : 1 ≤ x.kind ∧ x.kind ≤ 11 := by omega
    have hwd := word_in hk.1 hk.2
    have HR : Hid (Sc.wrong x = (Sc.wides (Sc.nums x) || !decide (x = Sc.clean x) || decide (10240 < x.bytes.length) || decide (2048 < x.keep.length))) := Lib.hid (by
      unfold Sc.wrong
      rw [decide_eq_false (show ¬ x.kind < 1 by omega), decide_eq_false (show ¬ 11 < x.kind by omega), Bool.false_or, Bool.false_or])
    clear hout hk
    obtain ⟨c0, c1, c2, c3, c4, c5, c6⟩ := HX1.out.cells
    go_enter Tryz.func54, Tryz.ntmps54
    go_wp2_with fail
    refine (refWord_any x.kind _).mono ?_
    rintro e w2 ⟨rfl, rfl⟩
    generalize Sc.wordOf x.kind = wd at hwd ⊢
    go_wp2_with fail
    generalize w.alloc (.cells #[.int .i64 x.kind, .int .i64 x.node, .int .i64 x.to, .int .i64 x.n, .int .i64 x.bit, .slice K x.keep.length kc, .slice A x.bytes.length bc] 39) = w1 at HX1 HB1 ⊢
    generalize hsb : w.heap.size = sb at HX1 ⊢
    refine (refFields_any x K A kc bc _).mono ?_
    rintro e w3 ⟨F, fc, rfl, hF, hb3⟩
    go_wp2_with fail
    refine (refWide_any (Sc.nums x) F fc _ (Nat.le_trans (numsx_len x) (by decide)) hF).mono ?_
    rintro e w9 ⟨rfl, hww⟩
    have hww := hww.symm
    subst hww
    have HX4 := Lib.hid (HX1.out.next hb3)
    have HB4 := Lib.hid (HB1.out.trans (hb3.mono HB1.out.size))
    clear hF hb3 c0 c1 c2 c3 c4 c5 c6 HX1 HB1 hwd
    cases hw : Sc.wides (Sc.nums x) with
    | true =>
      rw [hw] at HR
      clear hw
      go_wp2_with fail
      go_ret
      rw [HR.out]
      exact ⟨rfl, hsb ▸ HB4.out⟩
    | false =>
      rw [hw] at HR
      clear hw
      obtain ⟨c0, c1, c2, c3, c4, c5, c6⟩ := HX4.out.cells
      go_wp2_with fail
      clear c0 c1 c2 c3 c4 c5 c6
      have HXW : Hid (EvBox w3.drew sb x K A kc bc) := Lib.hid (HX4.out.next (below_drewN (Below.refl _ _) 1))
      have HBX : Hid (Below w.heap.size w w3.drew) := Lib.hid (HB4.out.trans (below_drewN (Below.refl _ _) 1))
      clear HX4 HB4
      refine wp_region_any (by kernel_rfl) ?_
      change wpAny _ _ _ _ _ _ _ (World.drew _)
      generalize w3.drew = w4 at HXW HBX ⊢
      have hxl : sb < w4.heap.size := (Array.getElem?_eq_some_iff.1 HXW.out).1
      have HSW : Hid (∀ W, Below w4.heap.size w4 W → W.cell? ⟨sb, 0, none⟩ = some (.int .i64 x.kind) ∧ W.cell? ⟨sb, 1, none⟩ = some (.int .i64 x.node) ∧ W.cell? ⟨sb, 2, none⟩ = some (.int .i64 x.to) ∧ W.cell? ⟨sb, 3, none⟩ = some (.int .i64 x.n) ∧ W.cell? ⟨sb, 4, none⟩ = some (.int .i64 x.bit) ∧ W.cell? ⟨sb, 5, none⟩ = some (.slice K x.keep.length kc) ∧ W.cell? ⟨sb, 6, none⟩ = some (.slice A x.bytes.length bc)) := Lib.hid (fun W h => EvBox.cells ((h.block sb hxl).trans HXW.out))
      have HCF : Hid (∀ W, Calls Tryz.prog 51 #[.agg #[.int .i64 x.kind, .int .i64 x.node, .int .i64 x.to, .int .i64 x.n, .int .i64 x.bit, .slice K x.keep.length kc, .slice A x.bytes.length bc]] W fun e w' => ∃ F fc, e = .returned (.slice F (Sc.nums x).length fc) ∧ CellsAt w' F (intCells (Sc.nums x)) ∧ Below W.heap.size W w') := Lib.hid (fun W => refFields_any x K A kc bc W)
      have HCH : Hid (∀ W F fc, CellsAt W F (intCells (Sc.nums x)) → Calls Tryz.prog 52 #[.int .i64 x.kind, .slice F (Sc.nums x).length fc] W fun e w' => e = .returned (.agg #[.int .i64 x.kind, .int .i64 (Sc.clean x).node, .int .i64 (Sc.clean x).to, .int .i64 (Sc.clean x).n, .int .i64 (Sc.clean x).bit, .slice none 0 0, .slice none 0 0]) ∧ Below W.heap.size W w') := Lib.hid (fun W F fc h => refWith_any x F fc W h)
      refine wpAny_of_till (S := fun W => W.cell? ⟨sb, 0, none⟩ = some (.int .i64 x.kind) ∧ W.cell? ⟨sb, 1, none⟩ = some (.int .i64 x.node) ∧ W.cell? ⟨sb, 2, none⟩ = some (.int .i64 x.to) ∧ W.cell? ⟨sb, 3, none⟩ = some (.int .i64 x.n) ∧ W.cell? ⟨sb, 4, none⟩ = some (.int .i64 x.bit) ∧ W.cell? ⟨sb, 5, none⟩ = some (.slice K x.keep.length kc) ∧ W.cell? ⟨sb, 6, none⟩ = some (.slice A x.bytes.length bc)) (st := fun l => l.getD 6 false) _ _ _ _ ?_
      change wpTill _ _ _ _ _ _ _ #[false, false, false, false, false, false, false] _ _
      refine wpTill_take (i := 0) (v := ?va0) rfl (by kernel_rfl) (by kernel_rfl) (by kernel_rfl) (show Shutd _ _ #[false, false, false, false, false, false, false] from Shutd.start 7) (fun l h h9 => (Shutd.step h (j := 1) (k := 0) (by kernel_rfl) (Shutd.step h (j := 4) (k := 1) (by kernel_rfl) (Shutd.step h (j := 6) (k := 4) (by kernel_rfl) h9)))) (fun l => getD_set_ne false (by decide)) (fun _ _ _ h => h) (Or.inl ⟨by rfl, ?ya0⟩) (HSW.out _ (Below.refl _ _)) (fun hsh0 => ?_)
      case ya0 => (intro w hS; obtain ⟨s0, s1, s2, s3, s4, s5, s6⟩ := hS; go_simp; (try with_reducible rfl))
      simp only [Act.put, List.getElem_toArray, List.getElem_cons_zero, List.setIfInBounds_toArray, List.set_cons_zero, List.set_cons_succ] at hsh0 ⊢
      refine wpTill_take (i := 1) (v := ?va1) rfl (by kernel_rfl) (by kernel_rfl) (by kernel_rfl) hsh0 (fun l h h9 => (Shutd.step h (j := 4) (k := 1) (by kernel_rfl) (Shutd.step h (j := 6) (k := 4) (by kernel_rfl) h9))) (fun l => getD_set_ne false (by decide)) (fun _ _ _ h => h) (Or.inl ⟨by rfl, ?ya1⟩) (HSW.out _ (Below.refl _ _)) (fun hsh1 => ?_)
      case ya1 => (intro w hS; obtain ⟨s0, s1, s2, s3, s4, s5, s6⟩ := hS; go_simp; (try with_reducible rfl))
      simp only [Act.put, List.getElem_toArray, List.getElem_cons_zero, List.getElem_cons_succ, List.setIfInBounds_toArray, List.set_cons_zero, List.set_cons_succ] at hsh1 ⊢
      refine wpTill_take (i := 2) (v := ?va2) rfl (by kernel_rfl) (by kernel_rfl) (by kernel_rfl) hsh1 (fun l h h9 => (Shutd.step h (j := 3) (k := 2) (by kernel_rfl) (Shutd.step h (j := 4) (k := 3) (by kernel_rfl) (Shutd.step h (j := 6) (k := 4) (by kernel_rfl) h9)))) (fun l => getD_set_ne false (by decide)) (fun _ _ _ h => h) (Or.inl ⟨by rfl, ?ya2⟩) (HSW.out _ (Below.refl _ _)) (fun hsh2 => ?_)
      case ya2 => (intro w hS; obtain ⟨s0, s1, s2, s3, s4, s5, s6⟩ := hS; go_simp; (try with_reducible rfl))
      simp only [Act.put, List.getElem_toArray, List.getElem_cons_zero, List.getElem_cons_succ, List.setIfInBounds_toArray, List.set_cons_zero, List.set_cons_succ] at hsh2 ⊢
      clear hsh0 hsh1 hsh2
      refine (fun (key : ∀ (vF : Value) (yb : Nat) (W : World), EG w4 yb W → (?HH : Value → Nat → World → Prop) vF yb W) => ?main) ?fin
      case main =>
        have HU0 := Lib.hid (Below.refl w4.heap.size w4)
        refine wpTill_ready (rs := [3, 5]) (by kernel_rfl) (by simp) ?_
        refine (AllTill.cons rfl (fun KK hKK => ?_) (AllTill.cons rfl (fun KK hKK => ?_) AllTill.nil))
        · rw [if_pos (by rfl)]
          go_simp
          refine (HCF.out w4).mono ?_
          rintro e U1 ⟨F, fc, rfl, hF, hbn⟩
          have HF1 := Lib.hid hF
          have HU1 := Lib.hid (HU0.out.trans (hbn.mono HU0.out.size))
          clear hbn hF
          simp only []
          refine hKK _ _ (fun _ => HSW.out _ HU1.out) ?_
          clear hKK KK HU0
          simp only [List.setIfInBounds_toArray, List.set_cons_zero, List.set_cons_succ]
          refine wpTill_ready (rs := [4, 5]) (by kernel_rfl) (by simp) ?_
          refine (AllTill.cons rfl (fun KK hKK => ?_) (AllTill.cons rfl (fun KK hKK => ?_) AllTill.nil))
          · rw [if_pos (by rfl)]
            go_simp
            refine (HCH.out U1 F fc HF1.out).mono ?_
            rintro e U2 ⟨rfl, hbn⟩
            have HU2 := Lib.hid (HU1.out.trans (hbn.mono HU1.out.size))
            clear hbn
            simp only []
            refine hKK _ _ (fun _ => HSW.out _ HU2.out) ?_
            clear hKK KK HU1 HF1
            simp only [List.setIfInBounds_toArray, List.set_cons_zero, List.set_cons_succ]
            refine wpTill_ready (rs := [5]) (by kernel_rfl) (by simp) ?_
            refine (AllTill.cons rfl (fun KK hKK => ?_) AllTill.nil)
            · rw [if_pos (by rfl)]
              go_simp
              have hYY3 : (U2.alloc (.cells #[.int .i64 0, .int .i64 0, .int .i64 0, .int .i64 0, .int .i64 0, .slice none 0 0, .slice none 0 0] 39)).heap[U2.heap.size]? = some (.cells #[.int .i64 0, .int .i64 0, .int .i64 0, .int .i64 0, .int .i64 0, .slice none 0 0, .slice none 0 0] 39 (0, 0)) := heap_alloc_new _ _
              have hbn := below_box U2 (.cells #[.int .i64 0, .int .i64 0, .int .i64 0, .int .i64 0, .int .i64 0, .slice none 0 0, .slice none 0 0] 39)
              have HU3 := Lib.hid (HU2.out.trans (hbn.mono HU2.out.size))
              have HY3 := Lib.hid hYY3
              obtain ⟨yb, hyb⟩ : ∃ yb, U2.heap.size = yb := ⟨_, rfl⟩
              have HYL : Hid (w4.heap.size ≤ yb) := Lib.hid (by rw [← hyb]; exact HU2.out.size)
              rw [hyb] at HY3 ⊢
              clear hYY3 hbn hyb
              refine hKK _ _ (fun _ => HSW.out _ HU3.out) ?_
              clear hKK KK HU2
              simp only [List.setIfInBounds_toArray, List.set_cons_zero, List.set_cons_succ]
              generalize U2.alloc (.cells #[.int .i64 0, .int .i64 0, .int .i64 0, .int .i64 0, .int .i64 0, .slice none 0 0, .slice none 0 0] 39) = U3 at HU3 HY3 ⊢
              generalize (Value.slice F (Sc.nums x).length fc) = vF
              exact key vF yb _ ⟨HU3.out, HYL.out, HY3.out⟩
          · rw [if_pos (by rfl)]
            go_simp
            have hYY4 : (U1.alloc (.cells #[.int .i64 0, .int .i64 0, .int .i64 0, .int .i64 0, .int .i64 0, .slice none 0 0, .slice none 0 0] 39)).heap[U1.heap.size]? = some (.cells #[.int .i64 0, .int .i64 0, .int .i64 0, .int .i64 0, .int .i64 0, .slice none 0 0, .slice none 0 0] 39 (0, 0)) := heap_alloc_new _ _
            have hbn := below_box U1 (.cells #[.int .i64 0, .int .i64 0, .int .i64 0, .int .i64 0, .int .i64 0, .slice none 0 0, .slice none 0 0] 39)
            have HU4 := Lib.hid (HU1.out.trans (hbn.mono HU1.out.size))
            have HF4 := Lib.hid (HF1.out.next hbn (Nat.le_refl _))
            have HY4 := Lib.hid hYY4
            obtain ⟨yb, hyb⟩ : ∃ yb, U1.heap.size = yb := ⟨_, rfl⟩
            have HYL : Hid (w4.heap.size ≤ yb) := Lib.hid (by rw [← hyb]; exact HU1.out.size)
            rw [hyb] at HY4 ⊢
            clear hYY4 hbn hyb
            refine hKK _ _ (fun _ => HSW.out _ HU4.out) ?_
            clear hKK KK HU1 HF1
            simp only [List.setIfInBounds_toArray, List.set_cons_zero, List.set_cons_succ]
            generalize U1.alloc (.cells #[.int .i64 0, .int .i64 0, .int .i64 0, .int .i64 0, .int .i64 0, .slice none 0 0, .slice none 0 0] 39) = U4 at HU4 HY4 HF4 ⊢
            refine wpTill_ready (rs := [4]) (by kernel_rfl) (by simp) ?_
            refine (AllTill.cons rfl (fun KK hKK => ?_) AllTill.nil)
            · rw [if_pos (by rfl)]
              go_simp
              refine (HCH.out U4 F fc HF4.out).mono ?_
              rintro e U5 ⟨rfl, hbn⟩
              have HU5 := Lib.hid (HU4.out.trans (hbn.mono HU4.out.size))
              have HY5 := Lib.hid (blk_next hbn HY4.out)
              clear hbn
              simp only []
              refine hKK _ _ (fun _ => HSW.out _ HU5.out) ?_
              clear hKK KK HU4 HF4 HY4
              simp only [List.setIfInBounds_toArray, List.set_cons_zero, List.set_cons_succ]
              generalize (Value.slice F (Sc.nums x).length fc) = vF
              exact key vF yb _ ⟨HU5.out, HYL.out, HY5.out⟩
        · rw [if_pos (by rfl)]
          go_simp
          have hYY6 : (w4.alloc (.cells #[.int .i64 0, .int .i64 0, .int .i64 0, .int .i64 0, .int .i64 0, .slice none 0 0, .slice none 0 0] 39)).heap[w4.heap.size]? = some (.cells #[.int .i64 0, .int .i64 0, .int .i64 0, .int .i64 0, .int .i64 0, .slice none 0 0, .slice none 0 0] 39 (0, 0)) := heap_alloc_new _ _
          have hbn := below_box w4 (.cells #[.int .i64 0, .int .i64 0, .int .i64 0, .int .i64 0, .int .i64 0, .slice none 0 0, .slice none 0 0] 39)
          have HU6 := Lib.hid (HU0.out.trans (hbn.mono HU0.out.size))
          have HY6 := Lib.hid hYY6
          obtain ⟨yb, hyb⟩ : ∃ yb, w4.heap.size = yb := ⟨_, rfl⟩
          have HYL : Hid (w4.heap.size ≤ yb) := Lib.hid (by rw [← hyb]; exact HU0.out.size)
          rw [hyb] at HY6 ⊢
          clear hYY6 hbn hyb
          refine hKK _ _ (fun _ => HSW.out _ HU6.out) ?_
          clear hKK KK HU0
          simp only [List.setIfInBounds_toArray, List.set_cons_zero, List.set_cons_succ]
          generalize w4.alloc (.cells #[.int .i64 0, .int .i64 0, .int .i64 0, .int .i64 0, .int .i64 0, .slice none 0 0, .slice none 0 0] 39) = U6 at HU6 HY6 ⊢
          refine wpTill_ready (rs := [3]) (by kernel_rfl) (by simp) ?_
          refine (AllTill.cons rfl (fun KK hKK => ?_) AllTill.nil)
          · rw [if_pos (by rfl)]
            go_simp
            refine (HCF.out U6).mono ?_
            rintro e U7 ⟨F, fc, rfl, hF, hbn⟩
            have HF7 := Lib.hid hF
            have HU7 := Lib.hid (HU6.out.trans (hbn.mono HU6.out.size))
            have HY7 := Lib.hid (blk_next hbn HY6.out)
            clear hbn hF
            simp only []
            refine hKK _ _ (fun _ => HSW.out _ HU7.out) ?_
            clear hKK KK HU6 HY6
            simp only [List.setIfInBounds_toArray, List.set_cons_zero, List.set_cons_succ]
            refine wpTill_ready (rs := [4]) (by kernel_rfl) (by simp) ?_
            refine (AllTill.cons rfl (fun KK hKK => ?_) AllTill.nil)
            · rw [if_pos (by rfl)]
              go_simp
              refine (HCH.out U7 F fc HF7.out).mono ?_
              rintro e U8 ⟨rfl, hbn⟩
              have HU8 := Lib.hid (HU7.out.trans (hbn.mono HU7.out.size))
              have HY8 := Lib.hid (blk_next hbn HY7.out)
              clear hbn
              simp only []
              refine hKK _ _ (fun _ => HSW.out _ HU8.out) ?_
              clear hKK KK HU7 HF7 HY7
              simp only [List.setIfInBounds_toArray, List.set_cons_zero, List.set_cons_succ]
              generalize (Value.slice F (Sc.nums x).length fc) = vF
              exact key vF yb _ ⟨HU8.out, HYL.out, HY8.out⟩
      case fin =>
        intro vF yb W hg
        have hne : sb ≠ yb := by have := hg.le; omega
        have hxW : EvBox W sb x K A kc bc := (hg.below.block sb hxl).trans HXW.out
        have hyl : yb < W.heap.size := (Array.getElem?_eq_some_iff.1 hg.box).1
        have h7 := set7 hg.box (.int .i64 x.kind) (.int .i64 (Sc.clean x).node) (.int .i64 (Sc.clean x).to) (.int .i64 (Sc.clean x).n) (.int .i64 (Sc.clean x).bit) (.slice none 0 0) (.slice none 0 0)
        have hbW : Below w.heap.size w W := HBX.out.trans (hg.below.mono HBX.out.size)
        have HX7 : Hid (EvBox (((((((W.setCell ⟨yb, 0, none⟩ (.int .i64 x.kind)).setCell ⟨yb, 1, none⟩ (.int .i64 (Sc.clean x).node)).setCell ⟨yb, 2, none⟩ (.int .i64 (Sc.clean x).to)).setCell ⟨yb, 3, none⟩ (.int .i64 (Sc.clean x).n)).setCell ⟨yb, 4, none⟩ (.int .i64 (Sc.clean x).bit)).setCell ⟨yb, 5, none⟩ (.slice none 0 0)).setCell ⟨yb, 6, none⟩ (.slice none 0 0)) sb x K A kc bc) := Lib.hid (h7.1.blk hxW (by simpa using hne))
        have HY7 : Hid ((((((((W.setCell ⟨yb, 0, none⟩ (.int .i64 x.kind)).setCell ⟨yb, 1, none⟩ (.int .i64 (Sc.clean x).node)).setCell ⟨yb, 2, none⟩ (.int .i64 (Sc.clean x).to)).setCell ⟨yb, 3, none⟩ (.int .i64 (Sc.clean x).n)).setCell ⟨yb, 4, none⟩ (.int .i64 (Sc.clean x).bit)).setCell ⟨yb, 5, none⟩ (.slice none 0 0)).setCell ⟨yb, 6, none⟩ (.slice none 0 0)).heap[yb]? = some (.cells #[.int .i64 x.kind, .int .i64 (Sc.clean x).node, .int .i64 (Sc.clean x).to, .int .i64 (Sc.clean x).n, .int .i64 (Sc.clean x).bit, .slice none 0 0, .slice none 0 0] 39 (0, 0))) := Lib.hid h7.2
        have HB7 : Hid (Below w.heap.size w (((((((W.setCell ⟨yb, 0, none⟩ (.int .i64 x.kind)).setCell ⟨yb, 1, none⟩ (.int .i64 (Sc.clean x).node)).setCell ⟨yb, 2, none⟩ (.int .i64 (Sc.clean x).to)).setCell ⟨yb, 3, none⟩ (.int .i64 (Sc.clean x).n)).setCell ⟨yb, 4, none⟩ (.int .i64 (Sc.clean x).bit)).setCell ⟨yb, 5, none⟩ (.slice none 0 0)).setCell ⟨yb, 6, none⟩ (.slice none 0 0))) := Lib.hid (hbW.trans (h7.1.to hbW.size (by have := hg.le; have := HBX.out.size; intro j hj; simp at hj; omega)))
        have d0 := (blk_cells hg.box 0).trans rfl
        have d1 := (blk_cells hg.box 1).trans rfl
        have d2 := (blk_cells hg.box 2).trans rfl
        have d3 := (blk_cells hg.box 3).trans rfl
        have d4 := (blk_cells hg.box 4).trans rfl
        have d5 := (blk_cells hg.box 5).trans rfl
        have d6 := (blk_cells hg.box 6).trans rfl
        have df := fun i => blk_free hg.box i
        have HLE : Hid (w.heap.size ≤ yb) := Lib.hid (by have := hg.le; have := HBX.out.size; omega)
        clear hg hxW h7 hbW HSW HCF HCH HXW HBX hxl
        refine wpTill_ready (rs := [6]) (by kernel_rfl) (by simp) ?_
        refine (AllTill.cons rfl (fun KK hKK => ?_) AllTill.nil)
        rw [if_pos (by rfl)]
        go_simp
        refine hKK _ _ (fun h => absurd h (by decide)) ?_
        clear hKK KK d0 d1 d2 d3 d4 d5 d6 df hyl
        refine wpTill_done (by kernel_rfl) ?_ _
        generalize (((((((W.setCell ⟨yb, 0, none⟩ (.int .i64 x.kind)).setCell ⟨yb, 1, none⟩ (.int .i64 (Sc.clean x).node)).setCell ⟨yb, 2, none⟩ (.int .i64 (Sc.clean x).to)).setCell ⟨yb, 3, none⟩ (.int .i64 (Sc.clean x).n)).setCell ⟨yb, 4, none⟩ (.int .i64 (Sc.clean x).bit)).setCell ⟨yb, 5, none⟩ (.slice none 0 0)).setCell ⟨yb, 6, none⟩ (.slice none 0 0)) = w7 at HX7 HY7 HB7 ⊢
        obtain ⟨c0, c1, c2, c3, c4, c5, c6⟩ := HX7.out.cells
        have f5 := blk_free HY7.out 5
        have f6 := blk_free HY7.out 6
        have y5 := (blk_cells HY7.out 5).trans rfl
        have y6 := (blk_cells HY7.out 6).trans rfl
        have ylt : yb < w7.heap.size := (Array.getElem?_eq_some_iff.1 HY7.out).1
        by_cases hk1 : x.kind = 1
        · have hkb : (x.kind == 1) = true := by rw [hk1]; rfl
          have hst := but_set (i := 6) (.slice A x.bytes.length bc) HY7.out
          have HX8 : Hid (EvBox (w7.setCell ⟨yb, 6, none⟩ (.slice A x.bytes.length bc)) sb x K A kc bc) := Lib.hid (hst.1.blk HX7.out (by simpa using hne))
          have hcb : (Sc.clean x).bytes = x.bytes := by unfold Sc.clean; simp only; rw [if_pos hk1]
          have hck : (Sc.clean x).keep = [] := by unfold Sc.clean; simp only; rw [if_neg (by omega)]
          have HY8 : Hid (EvBox (w7.setCell ⟨yb, 6, none⟩ (.slice A x.bytes.length bc)) yb (Sc.clean x) none A 0 bc) := Lib.hid (by unfold EvBox; rw [hck, hcb, hst.2]; rfl)
          have HB8 : Hid (Below w.heap.size w (w7.setCell ⟨yb, 6, none⟩ (.slice A x.bytes.length bc))) := Lib.hid (HB7.out.trans (hst.1.to HB7.out.size (by have := HLE.out; intro j hj; simp at hj; omega)))
          have HCL : Hid (EvAt (w7.setCell ⟨yb, 6, none⟩ (.slice A x.bytes.length bc)) (Sc.clean x) none A) := Lib.hid ⟨by rw [hck]; exact CellsAt.nil _ _, by rw [hcb]; exact (HEV.out.next HB8.out).bytes, by rw [hck]; decide, by rw [hcb]; exact HEV.out.bl⟩
          clear hst hcb hck hk1
          go_upto_region 9 with (fail)
          generalize (w7.setCell ⟨yb, 6, none⟩ (.slice A x.bytes.length bc)) = w8 at HX8 HY8 HB8 HCL ⊢
          clear c0 c1 c2 c3 c4 c5 c6 f5 f6 y5 y6 ylt hkb HX7 HY7 HB7
          obtain ⟨a0, a1, a2, a3, a4, a5, a6⟩ := HX8.out.cells
          obtain ⟨b0, b1, b2, b3, b4, b5, b6⟩ := HY8.out.cells
          go_wp2_with fail
          refine (refSameEv_any x (Sc.clean x) K A none A kc bc 0 bc _ (HEV.out.next HB8.out) HCL.out).mono ?_
          rintro e w9 ⟨rfl, hb9⟩
          have HX9 := Lib.hid (HX8.out.next hb9)
          have HB9 := Lib.hid (HB8.out.trans (hb9.mono HB8.out.size))
          clear hb9 a0 a1 a2 a3 a4 a5 a6 b0 b1 b2 b3 b4 b5 b6 HX8 HY8 HB8 HCL
          obtain ⟨a0, a1, a2, a3, a4, a5, a6⟩ := HX9.out.cells
          cases hq : decide (x = Sc.clean x) with
          | false =>
            rw [hq] at HR
            clear hq
            go_wp2_with fail
            go_ret
            rw [HR.out]
            exact ⟨rfl, hsb ▸ HB9.out⟩
          | true =>
            rw [hq] at HR
            clear hq
            by_cases hl1 : (x.bytes.length : Int) ≤ 10240
            · by_cases hl2 : (x.keep.length : Int) ≤ 2048
              · have HF : Hid (Sc.wrong x = false) := Lib.hid (by rw [HR.out, decide_eq_false (show ¬ 10240 < x.bytes.length by omega), decide_eq_false (show ¬ 2048 < x.keep.length by omega)]; rfl)
                go_wp2_with fail
                go_ret
                rw [HF.out]
                exact ⟨by simp [], hsb ▸ HB9.out⟩
              · have HF : Hid (Sc.wrong x = true) := Lib.hid (by rw [HR.out, decide_eq_true (show 2048 < x.keep.length by omega)]; simp)
                go_wp2_with fail
                go_ret
                rw [HF.out]
                exact ⟨by simp [hl2], hsb ▸ HB9.out⟩
            · have HF : Hid (Sc.wrong x = true) := Lib.hid (by rw [HR.out, decide_eq_true (show 10240 < x.bytes.length by omega)]; simp)
              go_wp2_with fail
              go_ret
              rw [HF.out]
              exact ⟨by simp [], hsb ▸ HB9.out⟩
        by_cases hk8 : x.kind = 8
        · have hkb : (x.kind == 8) = true := by rw [hk8]; rfl
          have hk1b : (x.kind == 1) = false := by rw [hk8]; rfl
          have hst := but_set (i := 5) (.slice K x.keep.length kc) HY7.out
          have HX8 : Hid (EvBox (w7.setCell ⟨yb, 5, none⟩ (.slice K x.keep.length kc)) sb x K A kc bc) := Lib.hid (hst.1.blk HX7.out (by simpa using hne))
          have hcb : (Sc.clean x).bytes = [] := by unfold Sc.clean; simp only; rw [if_neg (by omega)]
          have hck : (Sc.clean x).keep = x.keep := by unfold Sc.clean; simp only; rw [if_pos hk8]
          have HY8 : Hid (EvBox (w7.setCell ⟨yb, 5, none⟩ (.slice K x.keep.length kc)) yb (Sc.clean x) K none kc 0) := Lib.hid (by unfold EvBox; rw [hck, hcb, hst.2]; rfl)
          have HB8 : Hid (Below w.heap.size w (w7.setCell ⟨yb, 5, none⟩ (.slice K x.keep.length kc))) := Lib.hid (HB7.out.trans (hst.1.to HB7.out.size (by have := HLE.out; intro j hj; simp at hj; omega)))
          have HCL : Hid (EvAt (w7.setCell ⟨yb, 5, none⟩ (.slice K x.keep.length kc)) (Sc.clean x) K none) := Lib.hid ⟨by rw [hck]; exact (HEV.out.next HB8.out).keep, by rw [hcb]; exact CellsAt.nil _ _, by rw [hck]; exact HEV.out.kl, by rw [hcb]; decide⟩
          clear hst hcb hck hk8 hk1
          go_upto_region 9 with (fail)
          generalize (w7.setCell ⟨yb, 5, none⟩ (.slice K x.keep.length kc)) = w8 at HX8 HY8 HB8 HCL ⊢
          clear c0 c1 c2 c3 c4 c5 c6 f5 f6 y5 y6 ylt hkb HX7 HY7 HB7 hk1b
          obtain ⟨a0, a1, a2, a3, a4, a5, a6⟩ := HX8.out.cells
          obtain ⟨b0, b1, b2, b3, b4, b5, b6⟩ := HY8.out.cells
          go_wp2_with fail
          refine (refSameEv_any x (Sc.clean x) K A K none kc bc kc 0 _ (HEV.out.next HB8.out) HCL.out).mono ?_
          rintro e w9 ⟨rfl, hb9⟩
          have HX9 := Lib.hid (HX8.out.next hb9)
          have HB9 := Lib.hid (HB8.out.trans (hb9.mono HB8.out.size))
          clear hb9 a0 a1 a2 a3 a4 a5 a6 b0 b1 b2 b3 b4 b5 b6 HX8 HY8 HB8 HCL
          obtain ⟨a0, a1, a2, a3, a4, a5, a6⟩ := HX9.out.cells
          cases hq : decide (x = Sc.clean x) with
          | false =>
            rw [hq] at HR
            clear hq
            go_wp2_with fail
            go_ret
            rw [HR.out]
            exact ⟨rfl, hsb ▸ HB9.out⟩
          | true =>
            rw [hq] at HR
            clear hq
            by_cases hl1 : (x.bytes.length : Int) ≤ 10240
            · by_cases hl2 : (x.keep.length : Int) ≤ 2048
              · have HF : Hid (Sc.wrong x = false) := Lib.hid (by rw [HR.out, decide_eq_false (show ¬ 10240 < x.bytes.length by omega), decide_eq_false (show ¬ 2048 < x.keep.length by omega)]; rfl)
                go_wp2_with fail
                go_ret
                rw [HF.out]
                exact ⟨by simp [], hsb ▸ HB9.out⟩
              · have HF : Hid (Sc.wrong x = true) := Lib.hid (by rw [HR.out, decide_eq_true (show 2048 < x.keep.length by omega)]; simp)
                go_wp2_with fail
                go_ret
                rw [HF.out]
                exact ⟨by simp [hl2], hsb ▸ HB9.out⟩
            · have HF : Hid (Sc.wrong x = true) := Lib.hid (by rw [HR.out, decide_eq_true (show 10240 < x.bytes.length by omega)]; simp)
              go_wp2_with fail
              go_ret
              rw [HF.out]
              exact ⟨by simp [], hsb ▸ HB9.out⟩
        have hk1b : (x.kind == 1) = false := by rw [beq_eq_false_iff_ne]; exact hk1
        have hk8b : (x.kind == 8) = false := by rw [beq_eq_false_iff_ne]; exact hk8
        have hcb : (Sc.clean x).bytes = [] := by unfold Sc.clean; simp only; rw [if_neg hk1]
        have hck : (Sc.clean x).keep = [] := by unfold Sc.clean; simp only; rw [if_neg hk8]
        have HX8 := HX7
        have HB8 := HB7
        have HY8 : Hid (EvBox w7 yb (Sc.clean x) none none 0 0) := Lib.hid (by unfold EvBox; rw [hck, hcb, HY7.out]; rfl)
        have HCL : Hid (EvAt w7 (Sc.clean x) none none) := Lib.hid ⟨by rw [hck]; exact CellsAt.nil _ _, by rw [hcb]; exact CellsAt.nil _ _, by rw [hck]; decide, by rw [hcb]; decide⟩
        clear hcb hck hk1 hk8 f5 f6 y5 y6 ylt HX7 HY7 HB7 c1 c2 c3 c4 c5 c6
        obtain ⟨a0, a1, a2, a3, a4, a5, a6⟩ := HX8.out.cells
        obtain ⟨b0, b1, b2, b3, b4, b5, b6⟩ := HY8.out.cells
        go_wp2_with fail
        refine (refSameEv_any x (Sc.clean x) K A none none kc bc 0 0 _ (HEV.out.next HB8.out) HCL.out).mono ?_
        rintro e w9 ⟨rfl, hb9⟩
        have HX9 := Lib.hid (HX8.out.next hb9)
        have HB9 := Lib.hid (HB8.out.trans (hb9.mono HB8.out.size))
        clear hb9 a0 a1 a2 a3 a4 a5 a6 b0 b1 b2 b3 b4 b5 b6 HX8 HY8 HB8 HCL
        obtain ⟨a0, a1, a2, a3, a4, a5, a6⟩ := HX9.out.cells
        cases hq : decide (x = Sc.clean x) with
        | false =>
          rw [hq] at HR
          clear hq
          go_wp2_with fail
          go_ret
          rw [HR.out]
          exact ⟨rfl, hsb ▸ HB9.out⟩
        | true =>
          rw [hq] at HR
          clear hq
          by_cases hl1 : (x.bytes.length : Int) ≤ 10240
          · by_cases hl2 : (x.keep.length : Int) ≤ 2048
            · have HF : Hid (Sc.wrong x = false) := Lib.hid (by rw [HR.out, decide_eq_false (show ¬ 10240 < x.bytes.length by omega), decide_eq_false (show ¬ 2048 < x.keep.length by omega)]; rfl)
              go_wp2_with fail
              go_ret
              rw [HF.out]
              exact ⟨by simp [], hsb ▸ HB9.out⟩
            · have HF : Hid (Sc.wrong x = true) := Lib.hid (by rw [HR.out, decide_eq_true (show 2048 < x.keep.length by omega)]; simp)
              go_wp2_with fail
              go_ret
              rw [HF.out]
              exact ⟨by simp [hl2], hsb ▸ HB9.out⟩
          · have HF : Hid (Sc.wrong x = true) := Lib.hid (by rw [HR.out, decide_eq_true (show 10240 < x.bytes.length by omega)]; simp)
            go_wp2_with fail
            go_ret
            rw [HF.out]
            exact ⟨by simp [], hsb ▸ HB9.out⟩
end Go.Proofs.YthpojljfmipngaaGreatDoor
