/-
  THE WALKS of the document's answer, second part: Same. CONDITIONS: the events lie as EvsAt says.
-/
import Derived.Test.YthpojljfmipngaaGreatDoorRefA
namespace Go.Proofs.YthpojljfmipngaaGreatDoor
open Go.RowKit
set_option maxRecDepth 100000 in
set_option maxHeartbeats 8000000 in
theorem refSame_any (s t : Sc.Scr) (A B : Option Addr) (c d : Nat) (w : World) (hl : s.events.length ≤ 9223372036854775807) (hA : EvsAt w A s.events) (hB : EvsAt w B t.events) :
    Calls Tryz.prog 9 #[scrV s A c, scrV t B d] w fun e w' => e = .returned (.bool (decide (s = t))) ∧ Below w.heap.size w w' := by
  obtain ⟨sv, ar, evs⟩ := s
  obtain ⟨sv', ar', evs'⟩ := t
  simp only at hl hA hB
  have hb1 := below_box w (.cells #[.int .i64 sv, .int .i64 ar, .slice A evs.length c] 30)
  have hb2 := below_box (w.alloc (.cells #[.int .i64 sv, .int .i64 ar, .slice A evs.length c] 30)) (.cells #[.int .i64 sv', .int .i64 ar', .slice B evs'.length d] 30)
  have hX : ScrBox ((w.alloc (.cells #[.int .i64 sv, .int .i64 ar, .slice A evs.length c] 30)).alloc (.cells #[.int .i64 sv', .int .i64 ar', .slice B evs'.length d] 30)) w.heap.size ⟨sv, ar, evs⟩ A c := blk_next hb2 (heap_alloc_new w _)
  have hY : ScrBox ((w.alloc (.cells #[.int .i64 sv, .int .i64 ar, .slice A evs.length c] 30)).alloc (.cells #[.int .i64 sv', .int .i64 ar', .slice B evs'.length d] 30)) (w.heap.size + 1) ⟨sv', ar', evs'⟩ B d := by
    have := heap_alloc_new (w.alloc (.cells #[.int .i64 sv, .int .i64 ar, .slice A evs.length c] 30)) (.cells #[.int .i64 sv', .int .i64 ar', .slice B evs'.length d] 30)
    simpa [ScrBox] using this
  have hbw := hb1.trans (hb2.mono hb1.size)
  have HB := Lib.hid hbw
  have HX := Lib.hid hX
  have HY := Lib.hid hY
  have HA := Lib.hid (hA.next hbw)
  have HBB := Lib.hid (hB.next hbw)
  clear hb1 hb2 hX hY hbw hA hB
  unfold scrV
  by_cases h1 : sv = sv'
  · by_cases h2 : ar = ar'
    · subst h1
      subst h2
      by_cases hlen : evs.length = evs'.length
      · have hb0 : ((evs.length : Int) != (evs'.length : Int)) = false := by rw [hlen]; simp
        have HL := Lib.hid hlen
        have hle : evs.length ≤ evs'.length := by omega
        clear hlen
        go_enter Tryz.func9, Tryz.ntmps9
        go_wp2_with fail
        generalize (w.alloc (.cells #[.int .i64 sv, .int .i64 ar, .slice A evs.length c] 30)).alloc (.cells #[.int .i64 sv, .int .i64 ar, .slice B evs'.length d] 30) = w2 at HB HX HY HA HBB ⊢
        generalize hyb : w.heap.size + 1 = yb at HY ⊢
        generalize hxb : w.heap.size = xb at HX ⊢
        go_loopw [5, 23] (fun _ i wr => ∃ k : Nat, k ≤ evs.length ∧ i = .int .i64 k ∧ Hid (evs.take k = evs'.take k) ∧ Below w2.heap.size w2 wr) (fun _ i _ => evs.length - (intOf i).toNat)
        case atStart => exact ⟨0, Nat.zero_le _, rfl, rfl, Below.refl _ _⟩
        case round =>
          obtain ⟨k, hk, rfl, H, hb⟩ := hrel
          by_cases hlt : k < evs.length
          · have hlt2 : k < evs'.length := by omega
            have h1 : evs[k]? = some evs[k] := List.getElem?_eq_getElem hlt
            have h2 : evs'[k]? = some evs'[k] := List.getElem?_eq_getElem hlt2
            have HT : Hid (evs[k] = evs'[k] → evs.take (k + 1) = evs'.take (k + 1)) := Lib.hid (fun e => by
              rw [List.take_succ_eq_append_getElem hlt, List.take_succ_eq_append_getElem hlt2, H.out, e])
            have HF : Hid (evs[k] ≠ evs'[k] → (⟨sv, ar, evs⟩ : Sc.Scr) ≠ ⟨sv, ar, evs'⟩) := Lib.hid (fun e he => e (by injection he with _ _ he; subst he; rfl))
            generalize evs[k] = x at h1 HT HF
            generalize evs'[k] = y at h2 HT HF
            obtain ⟨b1, o1, K1, A1, kc1, bc1, rfl, hl1, hcl1, hev1⟩ := (HA.out.next hb).at_ h1
            obtain ⟨b2, o2, K2, A2, kc2, bc2, rfl, hl2, hcl2, hev2⟩ := (HBB.out.next hb).at_ h2
            obtain ⟨c0, c1, c2, c3, c4, c5, c6⟩ := hcl1
            obtain ⟨d0, d1, d2, d3, d4, d5, d6⟩ := hcl2
            obtain ⟨_, _, e2⟩ := (HX.out.next hb).cells
            obtain ⟨_, _, f2⟩ := (HY.out.next hb).cells
            simp only at e2 f2
            have HEV1 := Lib.hid hev1
            have HEV2 := Lib.hid hev2
            have HBr := Lib.hid (HB.out.trans (hb.mono HB.out.size))
            have HBs := Lib.hid hb
            clear h1 h2 hev1 hev2 hb H
            go_wp2_with fail
            have hCALL : Hid (∀ W, Below wr.heap.size wr W → Calls Tryz.prog 21 #[.agg #[.int .i64 x.kind, .int .i64 x.node, .int .i64 x.to, .int .i64 x.n, .int .i64 x.bit, .slice K1 x.keep.length kc1, .slice A1 x.bytes.length bc1], .agg #[.int .i64 y.kind, .int .i64 y.node, .int .i64 y.to, .int .i64 y.n, .int .i64 y.bit, .slice K2 y.keep.length kc2, .slice A2 y.bytes.length bc2]] W fun e w' => e = .returned (.bool (decide (x = y))) ∧ Below W.heap.size W w') :=
              Lib.hid (fun W hW => refSameEv_any x y K1 A1 K2 A2 kc1 bc1 kc2 bc2 W (HEV1.out.next hW) (HEV2.out.next hW))
            cases hq : decide (x = y) with
            | true =>
              rw [hq] at hCALL
              have HR := Lib.hid (HT.out (of_decide_eq_true hq))
              clear hq
              go_region_with (go_at_call 21; refine (hCALL.out _ (below_drewN (Below.refl _ _) 1)).mono ?_; rintro e w3 ⟨rfl, hb3⟩)
              all_goals
                have HB3 := Lib.hid (HBs.out.trans ((below_drewN (Below.refl wr.heap.size wr) 1).trans hb3 |>.mono HBs.out.size))
                clear hb3
                go_wp2_with fail
                go_roundw
                case rel => exact ⟨k + 1, by omega, by go_num, HR, HB3.out⟩
                case measure => simp [intOf]; omega
            | false =>
              rw [hq] at hCALL
              have HR := Lib.hid (decide_eq_false (HF.out (of_decide_eq_false hq)))
              clear hq
              go_region_with (go_at_call 21; refine (hCALL.out _ (below_drewN (Below.refl _ _) 1)).mono ?_; rintro e w3 ⟨rfl, hb3⟩)
              all_goals
                have HB3 := Lib.hid (HBr.out.trans ((below_drewN (Below.refl wr.heap.size wr) 1).trans hb3 |>.mono HBr.out.size))
                clear hb3
                go_wp2_with fail
                go_ret
                exact ⟨ret_bool HR.out.symm, by rw [hxb]; exact hxb ▸ HB3.out⟩
          · have hE : evs = evs' := by
              have h := H.out
              rw [List.take_of_length_le (by omega), List.take_of_length_le (by have := HL.out; omega)] at h
              exact h
            have HR : Hid (decide ((⟨sv, ar, evs⟩ : Sc.Scr) = ⟨sv, ar, evs'⟩) = true) := Lib.hid (decide_eq_true (by rw [hE]))
            have HBF := Lib.hid (HB.out.trans (hb.mono HB.out.size))
            clear hE hb
            go_wp2_with fail
            go_ret
            exact ⟨ret_bool HR.out.symm, by rw [hxb]; exact hxb ▸ HBF.out⟩
      · have hb0 : ((evs.length : Int) != (evs'.length : Int)) = true := by rw [bne_iff_ne]; omega
        have HR : Hid (decide ((⟨sv, ar, evs⟩ : Sc.Scr) = ⟨sv, ar, evs'⟩) = false) := Lib.hid (decide_eq_false (fun e => hlen (by injection e with _ _ e; rw [e])))
        clear hlen
        go_enter Tryz.func9, Tryz.ntmps9
        go_wp2_with fail
        go_ret
        exact ⟨ret_bool HR.out.symm, HB.out⟩
    · have HE : Hid (decide ((⟨sv, ar, evs⟩ : Sc.Scr) = ⟨sv', ar', evs'⟩) = false) := Lib.hid (by rw [decide_eq_false_iff_not]; simp [h2])
      subst h1
      go_enter Tryz.func9, Tryz.ntmps9
      go_wp2_with fail
      go_ret
      exact ⟨ret_bool HE.out.symm, HB.out⟩
  · have HE : Hid (decide ((⟨sv, ar, evs⟩ : Sc.Scr) = ⟨sv', ar', evs'⟩) = false) := Lib.hid (by rw [decide_eq_false_iff_not]; simp [h1])
    go_enter Tryz.func9, Tryz.ntmps9
    go_wp2_with fail
    go_ret
    exact ⟨ret_bool HE.out.symm, HB.out⟩
end Go.Proofs.YthpojljfmipngaaGreatDoor
