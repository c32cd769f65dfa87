/-
  THE WALKS, twenty-first part: slices.EqualFunc over events; Same of package script. CONDITIONS: the events lie as EvsAt says.
-/
import Derived.Test.YthpojljfmipngaaDoorWalkO
namespace Go.Proofs.YthpojljfmipngaaDoor
open Go.RowKit
theorem EvsAt.lt {w : World} {A : Option Addr} {l : List Sc.Ev} (h : EvsAt w A l) (hne : l ≠ []) : ∃ b off, A = some ⟨b, off, none⟩ ∧ b < w.heap.size := by
  obtain ⟨b, off, h1, h2, _⟩ := h hne
  exact ⟨b, off, h1, h2⟩
set_option maxRecDepth 100000 in
set_option maxHeartbeats 4000000 in
theorem equalEvs_any (l m : List Sc.Ev) (A B : Option Addr) (c d : Nat) (w : World) (hl : l.length ≤ 9223372036854775807) (hA : EvsAt w A l) (hB : EvsAt w B m) :
    Calls Tryd.prog 25 #[.slice A l.length c, .slice B m.length d, .func (.func 26) #[] #[]] w fun e w' => e = .returned (.bool (decide (l = m))) ∧ Below w.heap.size w w' := by
  by_cases hlen : l.length = m.length
  · have hb0 : ((l.length : Int) != (m.length : Int)) = false := by rw [hlen]; simp
    have HL := Lib.hid hlen
    have hle : l.length ≤ m.length := by omega
    clear hlen
    go_enter Tryd.func25, Tryd.ntmps25
    go_wp2_with fail
    go_loopw [7, 8, 9, 17] (fun _ _ _ i wr => ∃ k : Nat, k ≤ l.length ∧ i = .int .i64 k ∧ Hid (l.take k = m.take k) ∧ Below w.heap.size w wr) (fun _ _ _ i _ => l.length - (intOf i).toNat)
    case atStart => exact ⟨0, Nat.zero_le _, rfl, rfl, Below.refl _ _⟩
    case round =>
      obtain ⟨k, hk, rfl, H, hb⟩ := hrel
      by_cases hlt : k < l.length
      · have hlt2 : k < m.length := by omega
        have h1 : l[k]? = some l[k] := List.getElem?_eq_getElem hlt
        have h2 : m[k]? = some m[k] := List.getElem?_eq_getElem hlt2
        have HT : Hid (l[k] = m[k] → l.take (k + 1) = m.take (k + 1)) := Lib.hid (fun e => by
          rw [List.take_succ_eq_append_getElem hlt, List.take_succ_eq_append_getElem hlt2, H.out, e])
        have HF : Hid (l[k] ≠ m[k] → l ≠ m) := Lib.hid (fun e he => e (by subst he; rfl))
        generalize l[k] = x at h1 HT HF
        generalize m[k] = y at h2 HT HF
        obtain ⟨b1, o1, K1, A1, kc1, bc1, rfl, hl1, hcl1, hev1⟩ := (hA.next hb).at_ h1
        obtain ⟨b2, o2, K2, A2, kc2, bc2, rfl, hl2, hcl2, hev2⟩ := (hB.next hb).at_ h2
        obtain ⟨c0, c1, c2, c3, c4, c5, c6⟩ := hcl1
        have hbw := below_box wr (.cells #[.int .i64 x.kind, .int .i64 x.node, .int .i64 x.to, .int .i64 x.n, .int .i64 x.bit, .slice K1 x.keep.length kc1, .slice A1 x.bytes.length bc1] 45)
        obtain ⟨d0, d1, d2, d3, d4, d5, d6⟩ := hcl2
        have hl3 := Nat.lt_of_lt_of_le hl2 hbw.size
        have HEV1 := Lib.hid hev1
        have HEV2 := Lib.hid hev2
        have HB := Lib.hid hb
        have HBW := Lib.hid hbw
        clear hA hB h1 h2 hev1 hev2 hb hbw H
        go_wp2_with fail
        have hbw2 := (below_box wr (.cells #[.int .i64 x.kind, .int .i64 x.node, .int .i64 x.to, .int .i64 x.n, .int .i64 x.bit, .slice K1 x.keep.length kc1, .slice A1 x.bytes.length bc1] 45)).alloc (by simp) (.cells #[.int .i64 y.kind, .int .i64 y.node, .int .i64 y.to, .int .i64 y.n, .int .i64 y.bit, .slice K2 y.keep.length kc2, .slice A2 y.bytes.length bc2] 45)
        refine (same_any x y K1 A1 K2 A2 kc1 bc1 kc2 bc2 _ (HEV1.out.next hbw2) (HEV2.out.next hbw2)).mono ?_
        rintro e w3 ⟨rfl, hb3⟩
        have HB3 := Lib.hid (HB.out.trans ((hbw2.trans (hb3.mono hbw2.size)).mono HB.out.size))
        rw [sameEv_eq]
        clear hbw2 hb3 c0 c1 c2 c3 c4 c5 c6 d0 d1 d2 d3 d4 d5 d6
        cases hq : decide (x = y) with
        | true =>
          have HR := Lib.hid (HT.out (of_decide_eq_true hq))
          clear hq
          go_wp2_with fail
          go_roundw
          case rel => exact ⟨k + 1, by omega, by go_num, HR, HB3.out⟩
          case measure => simp [intOf]; omega
        | false =>
          have HR := Lib.hid (decide_eq_false (HF.out (of_decide_eq_false hq)))
          clear hq
          go_wp2_with fail
          go_ret
          exact ⟨ret_bool HR.out.symm, HB3.out⟩
      · have hE : l = m := by
          have h := H.out
          rw [List.take_of_length_le (by omega), List.take_of_length_le (by have := HL.out; omega)] at h
          exact h
        have HR := Lib.hid (decide_eq_true hE)
        clear hE
        go_wp2_with fail
        go_ret
        exact ⟨ret_bool HR.out.symm, hb⟩
  · have hb0 : ((l.length : Int) != (m.length : Int)) = true := by rw [bne_iff_ne]; omega
    have HR := Lib.hid (decide_eq_false (fun e : l = m => hlen (by rw [e])))
    clear hlen
    go_enter Tryd.func25, Tryd.ntmps25
    go_wp2_with fail
    go_ret
    exact ⟨ret_bool HR.out.symm, Below.refl _ _⟩
set_option maxRecDepth 100000 in
set_option maxHeartbeats 4000000 in
theorem sameScr_any (s t : Sc.Scr) (A B : Option Addr) (c d : Nat) (w : World) (hl : s.events.length ≤ 9223372036854775807) (hA : EvsAt w A s.events) (hB : EvsAt w B t.events) :
    Calls Tryd.prog 13 #[scrV s A c, scrV t B d] w fun e w' => e = .returned (.bool (decide (s = t))) ∧ Below w.heap.size w w' := by
  obtain ⟨sv, ar, evs⟩ := s
  obtain ⟨sv', ar', evs'⟩ := t
  simp only at hl hA hB
  have hb2 := (below_box w (.cells #[.int .i64 sv, .int .i64 ar, .slice A evs.length c] 28)).alloc (by simp) (.cells #[.int .i64 sv', .int .i64 ar', .slice B evs'.length d] 28)
  have HA := Lib.hid (hA.next hb2)
  have HB := Lib.hid (hB.next hb2)
  have HBW := Lib.hid hb2
  clear hA hB hb2
  unfold scrV
  by_cases h1 : sv = sv'
  · subst h1
    by_cases h2 : ar = ar'
    · subst h2
      have HE : Hid (decide ((⟨sv, ar, evs⟩ : Sc.Scr) = ⟨sv, ar, evs'⟩) = decide (evs = evs')) := Lib.hid (by rw [Bool.eq_iff_iff]; simp)
      go_enter Tryd.func13, Tryd.ntmps13
      go_wp2_with fail
      refine (equalEvs_any evs evs' A B c d _ hl HA.out HB.out).mono ?_
      rintro e w3 ⟨rfl, hb3⟩
      have HB3 := Lib.hid (HBW.out.trans (hb3.mono HBW.out.size))
      generalize decide (evs = evs') = q at HE ⊢
      clear hb3
      go_wp2_with fail
      go_ret
      exact ⟨ret_bool HE.out.symm, HB3.out⟩
    · have HE : Hid (decide ((⟨sv, ar, evs⟩ : Sc.Scr) = ⟨sv, ar', evs'⟩) = false) := Lib.hid (by rw [decide_eq_false_iff_not]; simp [h2])
      go_enter Tryd.func13, Tryd.ntmps13
      go_wp2_with fail
      go_ret
      exact ⟨ret_bool HE.out.symm, HBW.out⟩
  · have HE : Hid (decide ((⟨sv, ar, evs⟩ : Sc.Scr) = ⟨sv', ar', evs'⟩) = false) := Lib.hid (by rw [decide_eq_false_iff_not]; simp [h1])
    go_enter Tryd.func13, Tryd.ntmps13
    go_wp2_with fail
    go_ret
    exact ⟨ret_bool HE.out.symm, HBW.out⟩
end Go.Proofs.YthpojljfmipngaaDoor
