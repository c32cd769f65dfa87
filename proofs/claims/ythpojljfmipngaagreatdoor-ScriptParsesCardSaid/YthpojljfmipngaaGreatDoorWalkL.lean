/-
  THE WALKS, twelfth part: numbers of script's reader. CONDITIONS: the reader and the block that is written lie in blocks of their own; the row of pointers in a third; Env.
-/
import Derived.Test.YthpojljfmipngaaGreatDoorWalkK
import Derived.Test.YthpojljfmipngaaGreatDoorWalkH
namespace Go.Proofs.YthpojljfmipngaaGreatDoor
open Go.RowKit
theorem upto_le (c : UInt8) : ∀ l : Sc.Bs, (Sc.upto c l).1.length ≤ l.length ∧ (Sc.upto c l).2.1.length ≤ l.length
  | [] => ⟨Nat.le_refl _, Nat.le_refl _⟩
  | x :: t => by
    have := upto_le c t
    rw [Sc.upto]
    split
    · simp
    · simp; omega
theorem token_le (r : Sc.Rd) : (Sc.token r).1.length ≤ r.rest.length ∧ (Sc.token r).2.rest.length ≤ r.rest.length := upto_le 32 r.rest
theorem numsRd_le (k : Nat) (r : Sc.Rd) : (Sc.numsRd k r).2.rest.length ≤ r.rest.length := by
  induction k with
  | zero => exact Nat.le_refl _
  | succ k ih => exact Nat.le_trans (token_le _).2 ih
theorem atoi_any (s : Sc.Bs) (w : World) (henv : Env w) (hlen : s.length ≤ 281474976710656) :
    Calls Tryz.prog 38 #[.string ⟨s.toArray⟩] w fun e w' => (∃ v ev, e = .returned (.tuple #[.int .i64 v, ev]) ∧ ((ev = .nilIface ∧ inI v ∧ Sc.numOf s = (v, decide (s ≠ Lib.itoa v) || (decide (9999999999 < v) || decide (v < -9999999999)))) ∨ (∃ tp p, ev = .iface tp p ∧ Sc.numOf s = (v, true)))) ∧ Below w.heap.size w w' := by
  have hsz : (⟨s.toArray⟩ : ByteArray).size ≤ 281474976710656 := by rw [Lib.size_eq]; exact hlen
  cases h : Lib.atoiAll s with
  | ok v =>
    refine (Tryz.strconv_Atoi_ok _ (by omega) v h w).mono ?_
    rintro e w' ⟨rfl, hw⟩
    refine ⟨⟨v, _, rfl, .inl ⟨rfl, Lib.atoiAll_bounds h, by unfold Sc.numOf; rw [h]⟩⟩, ?_⟩
    rcases hw with rfl | ⟨t, rfl⟩
    · exact Below.refl _ _
    · exact Joins.below_bytesWorld _ _ _ _ (Nat.le_refl _)
  | range =>
    obtain ⟨ev, h1, h2⟩ := henv.errRange
    refine (Tryz.strconv_Atoi_range _ hsz h ev w h1 h2).mono ?_
    rintro e w' ⟨N, rfl, _, _, hb⟩
    exact ⟨⟨_, _, rfl, .inr ⟨_, _, rfl, by unfold Sc.numOf; rw [h]⟩⟩, hb⟩
  | _ =>
    obtain ⟨ev, h1, h2⟩ := henv.errSyntax
    refine (Tryz.strconv_Atoi_syntax _ hsz h ev w h1 h2).mono ?_
    rintro e w' ⟨N, rfl, _, _, hb⟩
    exact ⟨⟨_, _, rfl, .inr ⟨_, _, rfl, by unfold Sc.numOf; rw [h]⟩⟩, hb⟩
/-- The block's cells behind k numbers. -/
def filled (cs : Array Value) (os : List Nat) (r : Sc.Rd) : Nat → Array Value
  | 0 => cs
  | k + 1 => (filled cs os r k).setIfInBounds (os.getD k 0) (.int .i64 (Sc.numOf (Sc.token (Sc.numsRd k r).2).1).1)
theorem filled_size (cs : Array Value) (os : List Nat) (r : Sc.Rd) (k : Nat) : (filled cs os r k).size = cs.size := by
  induction k with
  | zero => rfl
  | succ k ih => rw [filled, Array.size_setIfInBounds, ih]
theorem PtrRow.but {S : List Nat} {a w : World} {A : Option Addr} {bx : Nat} {os : List Nat} (h : PtrRow a A bx os) (hk : But S a w) (hS : ∀ j ∈ S, ∀ cs fz, a.heap[j]? ≠ some (.cells cs 72 fz)) : PtrRow w A bx os := fun hne => by
  obtain ⟨g, h1, h2⟩ := h hne
  exact ⟨g, h1, hk.blk h2 (fun hm => hS g hm _ _ h2)⟩
set_option maxRecDepth 100000 in
set_option maxHeartbeats 8000000 in
theorem rnumbers_any (b : Nat) (r : Sc.Rd) (A : Option Addr) (bx : Nat) (os : List Nat) (cs : Array Value) (T : TypeId) (c : Nat) (w : World) (henv : Env w) (hb6 : 6 ≤ b) (hx6 : 6 ≤ bx) (hbb : bx ≠ b) (h : RdAt w b r) (hlen : r.rest.length < 4294967281)
    (hos : os.length ≤ 1048576) (hrow : PtrRow w A bx os) (hbox : w.heap[bx]? = some (.cells cs T (0, 0))) (hT : T ≠ 72) (hin : ∀ o ∈ os, o < cs.size) :
    Calls Tryz.prog 24 #[.pointer (some ⟨b, 0, none⟩), .slice A os.length c] w fun e w' => e = .returned (.tuple #[]) ∧ RdAt w' b (Sc.numsRd os.length r).2 ∧ w'.heap[bx]? = some (.cells (filled cs os r os.length) T (0, 0)) ∧ But [b, bx] w w' := by
  have hS : ∀ j ∈ [b, bx], ∀ cs' fz, w.heap[j]? ≠ some (.cells cs' 72 fz) := by
    intro j hj cs' fz e
    simp at hj
    rcases hj with rfl | rfl
    · have := h.symm.trans e; injection this with this; injection this with _ this; cases this
    · have := hbox.symm.trans e; injection this with this; injection this with _ this; exact hT this
  go_enter Tryz.func24, Tryz.ntmps24
  go_wp2_with fail
  go_loopw [11] (fun i wr => ∃ k : Nat, k ≤ os.length ∧ i = .int .i64 k ∧ RdAt wr b (Sc.numsRd k r).2 ∧ wr.heap[bx]? = some (.cells (filled cs os r k) T (0, 0)) ∧ But [b, bx] w wr) (fun i _ => os.length - (intOf i).toNat)
  case atStart => exact ⟨0, Nat.zero_le _, rfl, h, hbox, But.refl _ _⟩
  case round =>
    obtain ⟨k, hk, rfl, hR, hB, hko⟩ := hrel
    by_cases hlt : k < os.length
    · obtain ⟨o, ho⟩ : ∃ o, os[k]? = some o := ⟨_, List.getElem?_eq_getElem hlt⟩
      have hod : os.getD k 0 = o := by rw [List.getD_eq_getElem?_getD, ho]; rfl
      obtain ⟨g, rfl, hg⟩ := (hrow.but hko hS) (by intro e; subst e; simp at ho)
      have c1 : wr.cell? ⟨g, k, none⟩ = some (.pointer (some ⟨bx, o, none⟩)) := by
        rw [blk_cells hg k, List.getElem?_toArray]; unfold ptrsOf; rw [List.getElem?_map, ho]; rfl
      have hle := Nat.lt_of_le_of_lt (numsRd_le k r) hlen
      have he := henv.below (hko.to (B := 6) henv.big (by intro j hj; simp at hj; rcases hj with rfl | rfl <;> assumption)) (Nat.le_refl _)
      have HE : Hid ((Sc.numsRd (k + 1) r).2 = ⟨(Sc.token (Sc.numsRd k r).2).2.rest, (Sc.token (Sc.numsRd k r).2).2.bad || (Sc.numOf (Sc.token (Sc.numsRd k r).2).1).2⟩) := Lib.hid rfl
      have HF : Hid (filled cs os r (k + 1) = (filled cs os r k).setIfInBounds o (.int .i64 (Sc.numOf (Sc.token (Sc.numsRd k r).2).1).1)) := Lib.hid (by rw [filled, hod])
      have htk := (token_le (Sc.numsRd k r).2).1
      have hfs : o < (filled cs os r k).size := by rw [filled_size]; exact hin o (List.mem_of_getElem? ho)
      generalize hrk : (Sc.numsRd k r).2 = rk at hR hle HE HF htk
      generalize hfk : filled cs os r k = fk at hB HF hfs
      have HK := Lib.hid hko
      have HB := Lib.hid hB
      have HR := Lib.hid hR
      have HG := Lib.hid hg
      have HENV := Lib.hid he
      have hlt64 : k ≤ 1048576 := by omega
      have HOS := Lib.hid hin
      clear hko hB hR hg he hrow hbox h hin henv hS ho
      go_wp2_with fail
      refine (token_any b rk _ HENV.out HR.out hle).mono ?_
      rintro e w1 ⟨rfl, hR1, hk1⟩
      have HK1 := Lib.hid (HK.out.trans (hk1.mono (T := [b, bx]) (by simp)))
      have HB1 := Lib.hid (hk1.blk HB.out (by simpa using hbb))
      have HR1 := Lib.hid hR1
      have he1 := HENV.out.below (hk1.to (B := 6) HENV.out.big (by simpa using hb6)) (Nat.le_refl _)
      clear hk1 hR1 HENV HR HB HK HG c1
      generalize htt : Sc.token rk = tt at HE HF htk HR1 ⊢
      obtain ⟨s, r2⟩ := tt
      replace HE : Hid ((Sc.numsRd (k + 1) r).2 = ⟨r2.rest, r2.bad || (Sc.numOf s).2⟩) := HE
      replace HF : Hid (filled cs os r (k + 1) = fk.setIfInBounds o (.int .i64 (Sc.numOf s).1)) := HF
      replace HR1 : Hid (RdAt w1 b r2) := HR1
      simp only at htk
      go_wp2_with fail
      refine (atoi_any s _ he1 (by omega)).mono ?_
      rintro e w2 ⟨⟨v, ev, rfl, hev⟩, hb2⟩
      have HK2 := Lib.hid (HK1.out.trans (But.of hb2))
      have HB2 := Lib.hid (blk_next hb2 HB1.out)
      have HR2 := Lib.hid (HR1.out.next hb2)
      have HE2 := Lib.hid (he1.next hb2)
      clear he1 hb2 HK1 HB1 HR1
      obtain ⟨old, hold⟩ : ∃ old, fk[o]? = some old := ⟨_, Array.getElem?_eq_getElem hfs⟩
      have HOLD := Lib.hid hold
      clear hold htk hle hlen
      rcases hev with ⟨rfl, hin, hn⟩ | ⟨tp, p, rfl, hn⟩
      · obtain ⟨hin1, hin2⟩ := hin
        go_wp2_with fail
        refine (itoa_any v hin1 hin2 _ HE2.out).mono ?_
        rintro e w3 ⟨rfl, hb3⟩
        have HK3 := Lib.hid (HK2.out.trans (But.of hb3))
        have HB3 := Lib.hid (blk_next hb3 HB2.out)
        have HR3 := Lib.hid (HR2.out.next hb3)
        clear hb3 HK2 HB2 HR2 HE2
        obtain ⟨d0, d1, g0, g1, hltd⟩ := HR3.out.cells
        have cx := (blk_cells HB3.out o).trans HOLD.out
        have fx := blk_free HB3.out o
        have hltx : bx < w3.heap.size := (Array.getElem?_eq_some_iff.1 HB3.out).1
        have HR4 := Lib.hid (HR3.out.bad true)
        have HK4 := Lib.hid (HK3.out.trans ((but_set (i := 1) (.bool true) HR3.out).1.mono (T := [b, bx]) (by simp)))
        have HB4 := Lib.hid ((but_set (i := 1) (.bool true) HR3.out).1.blk HB3.out (by simpa using hbb))
        by_cases hs : s = Lib.itoa v
        · subst hs
          by_cases hm : (9999999999 : Int) < v
          · have HN : Hid (Sc.numOf (Lib.itoa v) = (v, true)) := Lib.hid (by rw [hn]; simp [hm])
            clear hn
            go_wp2_with fail
            go_roundw
            case rel =>
              have hst := but_set (i := o) (.int .i64 v) HB4.out
              refine ⟨k + 1, by omega, by go_num, ?_, ?_, HK4.out.trans (hst.1.mono (T := [b, bx]) (by simp))⟩
              · rw [HE.out, HN.out]
                have := hst.1.blk HR4.out (by simpa using Ne.symm hbb)
                simpa [RdAt] using this
              · rw [HF.out, HN.out]; exact hst.2
            case measure => simp [intOf]; omega
          · by_cases hm2 : v < (-9999999999 : Int)
            · have HN : Hid (Sc.numOf (Lib.itoa v) = (v, true)) := Lib.hid (by rw [hn]; simp [hm2])
              clear hn
              go_wp2_with fail
              go_roundw
              case rel =>
                have hst := but_set (i := o) (.int .i64 v) HB4.out
                refine ⟨k + 1, by omega, by go_num, ?_, ?_, HK4.out.trans (hst.1.mono (T := [b, bx]) (by simp))⟩
                · rw [HE.out, HN.out]
                  have := hst.1.blk HR4.out (by simpa using Ne.symm hbb)
                  simpa [RdAt] using this
                · rw [HF.out, HN.out]; exact hst.2
              case measure => simp [intOf]; omega
            · have HN : Hid (Sc.numOf (Lib.itoa v) = (v, false)) := Lib.hid (by rw [hn]; simp [hm, hm2])
              clear hn
              go_wp2_with fail
              go_roundw
              case rel =>
                have hst := but_set (i := o) (.int .i64 v) HB3.out
                refine ⟨k + 1, by omega, by go_num, ?_, ?_, HK3.out.trans (hst.1.mono (T := [b, bx]) (by simp))⟩
                · rw [HE.out, HN.out]
                  have := hst.1.blk HR3.out (by simpa using Ne.symm hbb)
                  simpa [RdAt] using this
                · rw [HF.out, HN.out]; exact hst.2
              case measure => simp [intOf]; omega
        · have HN : Hid (Sc.numOf s = (v, true)) := Lib.hid (by rw [hn]; simp [hs])
          clear hn
          have hs1 : ¬ (Lib.itoa v = s) := fun e => hs e.symm
          have hs2 : (s == Lib.itoa v) = false := by rw [beq_eq_false_iff_ne]; exact hs
          have hs3 : (Lib.itoa v == s) = false := by rw [beq_eq_false_iff_ne]; exact hs1
          go_wp2_with fail
          go_roundw
          case rel =>
            have hst := but_set (i := o) (.int .i64 v) HB4.out
            refine ⟨k + 1, by omega, by go_num, ?_, ?_, HK4.out.trans (hst.1.mono (T := [b, bx]) (by simp))⟩
            · rw [HE.out, HN.out]
              have := hst.1.blk HR4.out (by simpa using Ne.symm hbb)
              simpa [RdAt] using this
            · rw [HF.out, HN.out]; exact hst.2
          case measure => simp [intOf]; omega
      · have HN : Hid (Sc.numOf s = (v, true)) := Lib.hid hn
        obtain ⟨d0, d1, g0, g1, hltd⟩ := HR2.out.cells
        have cx := (blk_cells HB2.out o).trans HOLD.out
        have fx := blk_free HB2.out o
        have hltx : bx < w2.heap.size := (Array.getElem?_eq_some_iff.1 HB2.out).1
        have HR4 := Lib.hid (HR2.out.bad true)
        have HK4 := Lib.hid (HK2.out.trans ((but_set (i := 1) (.bool true) HR2.out).1.mono (T := [b, bx]) (by simp)))
        have HB4 := Lib.hid ((but_set (i := 1) (.bool true) HR2.out).1.blk HB2.out (by simpa using hbb))
        clear hn HE2
        go_wp2_with fail
        go_roundw
        case rel =>
          have hst := but_set (i := o) (.int .i64 v) HB4.out
          refine ⟨k + 1, by omega, by go_num, ?_, ?_, HK4.out.trans (hst.1.mono (T := [b, bx]) (by simp))⟩
          · rw [HE.out, HN.out]
            have := hst.1.blk HR4.out (by simpa using Ne.symm hbb)
            simpa [RdAt] using this
          · rw [HF.out, HN.out]; exact hst.2
        case measure => simp [intOf]; omega
    · have hk2 : k = os.length := by omega
      subst hk2
      clear hrow hbox h henv
      go_wp2_with fail
      go_end0
      exact ⟨rfl, hR, hB, hko⟩
end Go.Proofs.YthpojljfmipngaaGreatDoor
