/-
  THE WALKS of the document's answer, first part: sameEvent, Same. CONDITIONS: the events lie as EvAt, EvsAt say.
-/
import Derived.Test.YthpojljfmipngaaGreatDoorWalkU
import Derived.Test.YthpojljfmipngaaGreatDoorWalkI
namespace Go.Proofs.YthpojljfmipngaaGreatDoor
open Go.RowKit
theorem str_beq (a b : Sc.Bs) : ((⟨a.toArray⟩ : ByteArray).toList == (⟨b.toArray⟩ : ByteArray).toList) = decide (a = b) := by
  rw [Bool.eq_iff_iff, beq_iff_eq, ByteArray.toList_eq, ByteArray.toList_eq, decide_eq_true_iff]
set_option maxRecDepth 100000 in
set_option maxHeartbeats 8000000 in
theorem refSameEv_any (x y : Sc.Ev) (K A K' A' : Option Addr) (kc bc kc' bc' : Nat) (w : World) (hx : EvAt w x K A) (hy : EvAt w y K' A') :
    Calls Tryz.prog 21 #[evV x K A kc bc, evV y K' A' kc' bc'] w fun e w' => e = .returned (.bool (decide (x = y))) ∧ Below w.heap.size w w' := by
  have hb1 := below_box w (.cells #[.int .i64 x.kind, .int .i64 x.node, .int .i64 x.to, .int .i64 x.n, .int .i64 x.bit, .slice K x.keep.length kc, .slice A x.bytes.length bc] 39)
  have hb2 := below_box (w.alloc (.cells #[.int .i64 x.kind, .int .i64 x.node, .int .i64 x.to, .int .i64 x.n, .int .i64 x.bit, .slice K x.keep.length kc, .slice A x.bytes.length bc] 39)) (.cells #[.int .i64 y.kind, .int .i64 y.node, .int .i64 y.to, .int .i64 y.n, .int .i64 y.bit, .slice K' y.keep.length kc', .slice A' y.bytes.length bc'] 39)
  have hX : EvBox ((w.alloc (.cells #[.int .i64 x.kind, .int .i64 x.node, .int .i64 x.to, .int .i64 x.n, .int .i64 x.bit, .slice K x.keep.length kc, .slice A x.bytes.length bc] 39)).alloc (.cells #[.int .i64 y.kind, .int .i64 y.node, .int .i64 y.to, .int .i64 y.n, .int .i64 y.bit, .slice K' y.keep.length kc', .slice A' y.bytes.length bc'] 39)) w.heap.size x K A kc bc := blk_next hb2 (heap_alloc_new w _)
  have hY : EvBox ((w.alloc (.cells #[.int .i64 x.kind, .int .i64 x.node, .int .i64 x.to, .int .i64 x.n, .int .i64 x.bit, .slice K x.keep.length kc, .slice A x.bytes.length bc] 39)).alloc (.cells #[.int .i64 y.kind, .int .i64 y.node, .int .i64 y.to, .int .i64 y.n, .int .i64 y.bit, .slice K' y.keep.length kc', .slice A' y.bytes.length bc'] 39)) (w.heap.size + 1) y K' A' kc' bc' := by
    have := heap_alloc_new (w.alloc (.cells #[.int .i64 x.kind, .int .i64 x.node, .int .i64 x.to, .int .i64 x.n, .int .i64 x.bit, .slice K x.keep.length kc, .slice A x.bytes.length bc] 39)) (.cells #[.int .i64 y.kind, .int .i64 y.node, .int .i64 y.to, .int .i64 y.n, .int .i64 y.bit, .slice K' y.keep.length kc', .slice A' y.bytes.length bc'] 39)
    simpa [EvBox] using this
  have hbw := hb1.trans (hb2.mono hb1.size)
  have HB := Lib.hid hbw
  have HX := Lib.hid hX
  have HY := Lib.hid hY
  have HEX := Lib.hid (hx.next hbw)
  have HEY := Lib.hid (hy.next hbw)
  have hkl := hx.kl
  clear hb1 hb2 hX hY hbw hx hy
  unfold evV
  by_cases hlen : x.keep.length = y.keep.length
  · have hb0 : ((x.keep.length : Int) != (y.keep.length : Int)) = false := by rw [hlen]; simp
    have HL := Lib.hid hlen
    have hle : x.keep.length ≤ y.keep.length := by omega
    clear hlen
    go_enter Tryz.func21, Tryz.ntmps21
    go_wp2_with fail
    generalize (w.alloc (.cells #[.int .i64 x.kind, .int .i64 x.node, .int .i64 x.to, .int .i64 x.n, .int .i64 x.bit, .slice K x.keep.length kc, .slice A x.bytes.length bc] 39)).alloc (.cells #[.int .i64 y.kind, .int .i64 y.node, .int .i64 y.to, .int .i64 y.n, .int .i64 y.bit, .slice K' y.keep.length kc', .slice A' y.bytes.length bc'] 39) = w2 at HB HX HY HEX HEY ⊢
    generalize hyb : w.heap.size + 1 = yb at HY ⊢
    generalize hxb : w.heap.size = xb at HX ⊢
    go_loopw [5, 16] (fun _ i wr => ∃ k q : Nat, k ≤ x.keep.length ∧ i = .int .i64 k ∧ Hid (x.keep.take k = y.keep.take k) ∧ wr = w2.drewN q) (fun _ i _ => x.keep.length - (intOf i).toNat)
    case atStart => exact ⟨0, 0, Nat.zero_le _, rfl, rfl, rfl⟩
    case round =>
      obtain ⟨k, q, hk, rfl, H, rfl⟩ := hrel
      have hbq : Below w2.heap.size w2 (w2.drewN q) := below_drewN (Below.refl _ _) q
      obtain ⟨c0, c1, c2, c3, c4, c5, c6⟩ := HX.out.cells
      obtain ⟨d0, d1, d2, d3, d4, d5, d6⟩ := HY.out.cells
      by_cases hlt : k < x.keep.length
      · have hlt2 : k < y.keep.length := by omega
        have h1 : x.keep[k]? = some x.keep[k] := List.getElem?_eq_getElem hlt
        have h2 : y.keep[k]? = some y.keep[k] := List.getElem?_eq_getElem hlt2
        obtain ⟨b1, o1, rfl, hb1, e1⟩ := HEX.out.keep.at_ (Below.refl _ _) (boolCells_get h1)
        obtain ⟨b2, o2, rfl, hb2, e2⟩ := HEY.out.keep.at_ (Below.refl _ _) (boolCells_get h2)
        have HT : Hid (x.keep[k] = y.keep[k] → x.keep.take (k + 1) = y.keep.take (k + 1)) := Lib.hid (fun e => by
          rw [List.take_succ_eq_append_getElem hlt, List.take_succ_eq_append_getElem hlt2, H.out, e])
        have HF : Hid (x.keep[k] ≠ y.keep[k] → x ≠ y) := Lib.hid (fun e he => e (by subst he; rfl))
        generalize x.keep[k] = p at e1 HT HF
        generalize y.keep[k] = r at e2 HT HF
        clear h1 h2 hbq
        cases p <;> cases r
        · have HR := Lib.hid (HT.out rfl)
          go_wp2_with fail
          go_quiet (fail)
          go_wp2_with fail
          go_roundw
          case rel => exact ⟨k + 1, _, by omega, by go_num, HR, rfl⟩
          case measure => simp [intOf]; omega
        · have HR := Lib.hid (decide_eq_false (HF.out (by decide)))
          go_wp2_with fail
          go_quiet (fail)
          go_wp2_with fail
          go_ret
          exact ⟨ret_bool HR.out.symm, by rw [hxb]; exact hxb ▸ below_drewN (below_drewN HB.out _) _⟩
        · have HR := Lib.hid (decide_eq_false (HF.out (by decide)))
          go_wp2_with fail
          go_quiet (fail)
          go_wp2_with fail
          go_ret
          exact ⟨ret_bool HR.out.symm, by rw [hxb]; exact hxb ▸ below_drewN (below_drewN HB.out _) _⟩
        · have HR := Lib.hid (HT.out rfl)
          go_wp2_with fail
          go_quiet (fail)
          go_wp2_with fail
          go_roundw
          case rel => exact ⟨k + 1, _, by omega, by go_num, HR, rfl⟩
          case measure => simp [intOf]; omega
      · have hE : x.keep = y.keep := by
          have h := H.out
          rw [List.take_of_length_le (by omega), List.take_of_length_le (by have := HL.out; omega)] at h
          exact h
        have HE := Lib.hid hE
        have v1 := conv_bytes (HEX.out.next hbq).bytes bc
        have v2 := conv_bytes (HEY.out.next hbq).bytes bc'
        have HBF := Lib.hid (below_drewN HB.out q)
        have HSB := Lib.hid (str_beq x.bytes y.bytes)
        clear hE hbq HEX HEY HX HY H
        have HDE : Hid (x.kind = y.kind → x.node = y.node → x.to = y.to → x.n = y.n → x.bit = y.bit → decide (x = y) = decide (x.bytes = y.bytes)) := Lib.hid (by
          intro h1 h2 h3 h4 h5
          have h6 := HE.out
          rw [← sameEv_eq]
          unfold sameEv five
          rw [h1, h2, h3, h4, h5, h6]
          simp)
        by_cases m0 : x.kind = y.kind
        rotate_left
        · have HR : Hid (decide (x = y) = false) := Lib.hid (decide_eq_false (fun e => m0 (by rw [e])))
          have b0 : (x.kind == y.kind) = false := beq_eq_false_iff_ne.2 m0
          clear m0
          go_wp2_with fail
          go_ret
          exact ⟨ret_bool HR.out.symm, by rw [hxb]; exact hxb ▸ HBF.out⟩
        have b0 : (x.kind == y.kind) = true := beq_iff_eq.2 m0
        have M0 := Lib.hid m0
        clear m0
        by_cases m1 : x.node = y.node
        rotate_left
        · have HR : Hid (decide (x = y) = false) := Lib.hid (decide_eq_false (fun e => m1 (by rw [e])))
          have b1 : (x.node == y.node) = false := beq_eq_false_iff_ne.2 m1
          clear m1
          go_wp2_with fail
          go_ret
          exact ⟨ret_bool HR.out.symm, by rw [hxb]; exact hxb ▸ HBF.out⟩
        have b1 : (x.node == y.node) = true := beq_iff_eq.2 m1
        have M1 := Lib.hid m1
        clear m1
        by_cases m2 : x.to = y.to
        rotate_left
        · have HR : Hid (decide (x = y) = false) := Lib.hid (decide_eq_false (fun e => m2 (by rw [e])))
          have b2 : (x.to == y.to) = false := beq_eq_false_iff_ne.2 m2
          clear m2
          go_wp2_with fail
          go_ret
          exact ⟨ret_bool HR.out.symm, by rw [hxb]; exact hxb ▸ HBF.out⟩
        have b2 : (x.to == y.to) = true := beq_iff_eq.2 m2
        have M2 := Lib.hid m2
        clear m2
        by_cases m3 : x.n = y.n
        rotate_left
        · have HR : Hid (decide (x = y) = false) := Lib.hid (decide_eq_false (fun e => m3 (by rw [e])))
          have b3 : (x.n == y.n) = false := beq_eq_false_iff_ne.2 m3
          clear m3
          go_wp2_with fail
          go_ret
          exact ⟨ret_bool HR.out.symm, by rw [hxb]; exact hxb ▸ HBF.out⟩
        have b3 : (x.n == y.n) = true := beq_iff_eq.2 m3
        have M3 := Lib.hid m3
        clear m3
        by_cases m4 : x.bit = y.bit
        rotate_left
        · have HR : Hid (decide (x = y) = false) := Lib.hid (decide_eq_false (fun e => m4 (by rw [e])))
          have b4 : (x.bit == y.bit) = false := beq_eq_false_iff_ne.2 m4
          clear m4
          go_wp2_with fail
          go_ret
          exact ⟨ret_bool HR.out.symm, by rw [hxb]; exact hxb ▸ HBF.out⟩
        have b4 : (x.bit == y.bit) = true := beq_iff_eq.2 m4
        have M4 := Lib.hid m4
        clear m4
        have HR := Lib.hid (HDE.out M0.out M1.out M2.out M3.out M4.out)
        have hsb := HSB.out
        generalize (⟨x.bytes.toArray⟩ : ByteArray) = st at v1 hsb
        generalize (⟨y.bytes.toArray⟩ : ByteArray) = su at v2 hsb
        generalize decide (x.bytes = y.bytes) = q at hsb HR
        go_wp2_with fail
        all_goals go_ret
        all_goals exact ⟨ret_bool HR.out.symm, by rw [hxb]; exact hxb ▸ HBF.out⟩
  · have hb0 : ((x.keep.length : Int) != (y.keep.length : Int)) = true := by rw [bne_iff_ne]; omega
    have HR := Lib.hid (decide_eq_false (fun e : x = y => hlen (by rw [e])))
    clear hlen
    go_enter Tryz.func21, Tryz.ntmps21
    go_wp2_with fail
    go_ret
    exact ⟨ret_bool HR.out.symm, HB.out⟩
end Go.Proofs.YthpojljfmipngaaGreatDoor
