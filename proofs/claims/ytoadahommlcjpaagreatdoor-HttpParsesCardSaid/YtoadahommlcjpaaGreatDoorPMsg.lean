/-
  THE WALK: Message of the document. CONDITIONS: the row lies as said; lengths.
-/
import Derived.Test.YtoadahommlcjpaaGreatDoorPMsgA
namespace Go.Proofs.YtoadahommlcjpaaGreatDoor
open Go.RowKit
set_option maxRecDepth 100000 in
set_option maxHeartbeats 16000000 in
theorem refMsg_any (b : Ht.Bs) (B : Option Addr) (c : Nat) (w : World) (hB : CellsAt w B (Lib.byteCells b)) (hb : b.length ≤ 12000) (hc : b.length ≤ c) (hc2 : c ≤ 9223372036854775807) :
    Calls Tryz.prog 86 #[.slice B b.length c] w (MsgOut w (Ht.refMsg b)) := by
  obtain ⟨M, hM⟩ : ∃ M, Ht.refMsg b = M := ⟨_, rfl⟩
  rw [hM]
  have HC := Lib.hid hB
  have HW0 := Lib.hid (below_box w (.cells #[.string ⟨#[]⟩, .slice none 0 0, .slice none 0 0, .int .i64 0, .int .i64 0, .bool false] 119))
  have HB0 := Lib.hid (heap_alloc_new w (.cells #[.string ⟨#[]⟩, .slice none 0 0, .slice none 0 0, .int .i64 0, .int .i64 0, .bool false] 119))
  obtain ⟨R, hR⟩ : ∃ R, Ht.refLines b [] [] 0 = R := ⟨_, rfl⟩
  have HMS : Hid (M = Ht.msgOf b R) := Lib.hid (by rw [← hM, Ht.refMsg_of, hR])
  have HL := Lib.hid (fun W (hW : Below w.heap.size w W) => by
    have h := refLines_any b B c W (HC.out.next hW (Nat.le_refl _)) (by omega) hc hc2
    rw [hR] at h
    exact h)
  have HRR := Lib.hid hR
  clear hM hB hR
  go_enter Tryz.func86, Tryz.ntmps86
  go_wp2_with fail
  generalize w.alloc (.cells #[.string ⟨#[]⟩, .slice none 0 0, .slice none 0 0, .int .i64 0, .int .i64 0, .bool false] 119) = w1 at HW0 HB0 ⊢
  refine (HL.out _ HW0.out).mono ?_
  rintro e w2 ⟨hR1, hb2⟩
  have HW2 := Lib.hid (HW0.out.trans (hb2.mono HW0.out.size))
  have HB2 := Lib.hid (blk_next hb2 HB0.out)
  have hw1 : w.heap.size < w1.heap.size := (Array.getElem?_eq_some_iff.1 HB0.out).1
  have HSZ := Lib.hid hb2.size
  clear hb2 HW0 HB0 HL
  cases R with
  | none =>
    simp only at hR1
    subst hR1
    have HME : Hid (M = ⟨[], [], [], 0, if 2048 ≤ b.length then 342 else 341, true⟩) := Lib.hid HMS.out
    clear HMS
    obtain ⟨c0, c1, c2, c3, c4, c5⟩ := blk6 HB2.out
    obtain ⟨f0, f1, f2, f3, f4, f5⟩ := blk6_free HB2.out
    by_cases h20 : 2048 ≤ b.length
    · have HS := Lib.hid (m119_set (x0 := .string ⟨#[]⟩) (x1 := .slice none 0 0) (x2 := .slice none 0 0) (x3 := .int .i64 0) (x4 := .int .i64 342) (x5 := .bool true) HB2.out)
      have HT := Lib.hid (HW2.out.trans (HS.out.1.to HW2.out.size (by simp)))
      go_wp2_with fail
      (try simp only [Exit.inBlock, Exit.then])
      refine bodyPost_ret (results_row1 rfl _ _ _ w.heap.size #[.string ⟨#[]⟩, .slice none 0 0, .slice none 0 0, .int .i64 0, .int .i64 342, .bool true] rfl (m119_load HS.out.2)) rfl ?_
      refine ⟨.slice none 0 0, .slice none 0 0, [], ?_, own_none 65 2 _ HT.out.size, fun h => ?_, ?_, HT.out⟩
      · rw [HME.out, if_pos h20]; rfl
      · rw [HME.out]
      · rw [HME.out]; exact own_none 5 1 _ HT.out.size
    · have HS := Lib.hid (m119_set (x0 := .string ⟨#[]⟩) (x1 := .slice none 0 0) (x2 := .slice none 0 0) (x3 := .int .i64 0) (x4 := .int .i64 341) (x5 := .bool true) HB2.out)
      have HT := Lib.hid (HW2.out.trans (HS.out.1.to HW2.out.size (by simp)))
      go_wp2_with fail
      (try simp only [Exit.inBlock, Exit.then])
      refine bodyPost_ret (results_row1 rfl _ _ _ w.heap.size #[.string ⟨#[]⟩, .slice none 0 0, .slice none 0 0, .int .i64 0, .int .i64 341, .bool true] rfl (m119_load HS.out.2)) rfl ?_
      refine ⟨.slice none 0 0, .slice none 0 0, [], ?_, own_none 65 2 _ HT.out.size, fun h => ?_, ?_, HT.out⟩
      · rw [HME.out, if_neg h20]; rfl
      · rw [HME.out]
      · rw [HME.out]; exact own_none 5 1 _ HT.out.size
  | some p =>
    obtain ⟨l, n⟩ := p
    obtain ⟨LA, lc, rfl, hO⟩ := hR1
    obtain ⟨hfit, hfl, hfn⟩ := Ht.refLines_fit b [] [] 0 b.length HRR.out (by simp) (by simp)
    have hne := Ht.refLines_ne b [] [] 0 HRR.out
    simp only [List.length_nil, Nat.zero_add] at hfl hfn
    have HFIT := Lib.hid hfit
    clear hfit HRR
    by_cases hn : 2048 < n
    · have HME : Hid (M = ⟨[], [], [], 0, if 2048 ≤ b.length then 342 else 341, true⟩) := Lib.hid (HMS.out.trans (if_pos hn))
      clear HMS hO hne hfl HFIT
      obtain ⟨c0, c1, c2, c3, c4, c5⟩ := blk6 HB2.out
      obtain ⟨f0, f1, f2, f3, f4, f5⟩ := blk6_free HB2.out
      by_cases h20 : 2048 ≤ b.length
      · have HS := Lib.hid (m119_set (x0 := .string ⟨#[]⟩) (x1 := .slice none 0 0) (x2 := .slice none 0 0) (x3 := .int .i64 0) (x4 := .int .i64 342) (x5 := .bool true) HB2.out)
        have HT := Lib.hid (HW2.out.trans (HS.out.1.to HW2.out.size (by simp)))
        go_wp2_with fail
        (try simp only [Exit.inBlock, Exit.then])
        refine bodyPost_ret (results_row1 rfl _ _ _ w.heap.size #[.string ⟨#[]⟩, .slice none 0 0, .slice none 0 0, .int .i64 0, .int .i64 342, .bool true] rfl (m119_load HS.out.2)) rfl ?_
        refine ⟨.slice none 0 0, .slice none 0 0, [], ?_, own_none 65 2 _ HT.out.size, fun h => ?_, ?_, HT.out⟩
        · rw [HME.out, if_pos h20]; rfl
        · rw [HME.out]
        · rw [HME.out]; exact own_none 5 1 _ HT.out.size
      · exact absurd (Nat.le_of_lt (Nat.lt_of_lt_of_le hn hfn)) h20
    · obtain ⟨f, ls, rfl⟩ : ∃ f ls, l = f :: ls := by cases l with | nil => exact absurd rfl hne | cons f ls => exact ⟨f, ls, rfl⟩
      have HMF : Hid (M = Ht.msgFin f (Ht.linesR ls Ht.accR0) b n) := Lib.hid (HMS.out.trans (if_neg hn))
      clear HMS hne
      obtain ⟨A9, c9, he9, hcells⟩ := hO.slice
      injection he9 with h91 h92 h93
      subst h91 h93
      obtain ⟨lb, loff, rfl, hlb, hlc⟩ := hcells (by simp)
      have HLC := Lib.hid hlc
      have hlt9 : ls.length + 1 ≤ b.length := by simpa using hfl
      have hcap : ls.length + 1 ≤ lc := by
        rcases hO.own.2 with ⟨h0, _⟩ | ⟨g, cap, cur, h0, _, _, hcap, _⟩
        · cases h0
        · injection h0 with _ _ h1; subst h1; simpa using hcap
      have c0 := hlc 0 _ rfl
      rw [Nat.add_zero] at c0
      unfold bstr at c0
      obtain ⟨O, hO9⟩ : ∃ O, w2.heap.size = O := ⟨_, rfl⟩
      have hb3 := below_box w2 (.cells #[.string ⟨f.toArray⟩, .slice none 0 0, .slice none 0 0, .int .i64 0, .int .i64 0, .bool false] 119)
      have hz3 := heap_alloc_new w2 (.cells #[.string ⟨f.toArray⟩, .slice none 0 0, .slice none 0 0, .int .i64 0, .int .i64 0, .bool false] 119)
      have hs3 : (w2.alloc (.cells #[.string ⟨f.toArray⟩, .slice none 0 0, .slice none 0 0, .int .i64 0, .int .i64 0, .bool false] 119)).heap.size = O + 1 := by rw [← hO9]; simp
      have hNO : w.heap.size < O := by rw [← hO9]; exact Nat.lt_of_lt_of_le hw1 HSZ.out
      have HW3 := Lib.hid (HW2.out.trans (hb3.mono HW2.out.size))
      have HN3 := Lib.hid (blk_next hb3 HB2.out)
      have HB3 := Lib.hid hb3
      rw [hO9] at hz3 hlb
      have HZ3 := Lib.hid hz3
      clear hlc hcells hb3 hz3 hO HW2 HB2 HSZ hw1 hfl
      simp only [List.length_cons]
      have hn0 : ¬ (n : Int) < 0 := by omega
      have hni : ¬ (2048 : Int) < n := by omega
      go_upto_region 9 with (fail)
      (try rw [hO9])
      generalize hw3 : w2.alloc (.cells #[.string ⟨f.toArray⟩, .slice none 0 0, .slice none 0 0, .int .i64 0, .int .i64 0, .bool false] 119) = w3 at HW3 HN3 HB3 HZ3 hs3 ⊢
      clear hw3
      have HLW : Hid (∀ W, Below O w3 W → ∀ k s, ls[k]? = some s → W.cell? ⟨lb, loff + 1 + k, none⟩ = some (.string ⟨s.toArray⟩)) := Lib.hid (fun W hW k s hs => by
        have h1 := HLC.out (k + 1) (bstr s) (by rw [List.map_cons, List.getElem?_cons_succ, List.getElem?_map, hs]; rfl)
        rw [show loff + 1 + k = loff + (k + 1) by omega]
        exact (hW.cell (p := ⟨lb, loff + (k + 1), none⟩) hlb).trans ((HB3.out.cell (p := ⟨lb, loff + (k + 1), none⟩) (by rw [hO9]; exact hlb)).trans h1))
      clear HLC HB3 c0
      have HST0 : Hid (MSt O w3 f [] [] none 0 none 0 w3) := Lib.hid ⟨Below.refl _ _, HZ3.out, by rw [← hs3]; exact Own.nil 65 2 w3, by rw [← hs3]; exact Own.nil 9 1 w3⟩
      clear HZ3
      go_cut [3, 37, 38, 39] from 16 (fun _ v m i wx => m = .int .i64 ls.length ∧ i = .int .i64 0 ∧ (ls.length ≠ 0 → v = .slice (some ⟨lb, loff + 1, none⟩) ls.length (lc - 1)) ∧ wx = w3)
      case first =>
        by_cases hl1 : lc = 1
        · have hl0 : ls.length = 0 := by omega
          subst hl1
          go_wp2_with fail
          go_meet
          case rel => exact ⟨by simp [hl0], by first | rfl | trivial, fun h => absurd hl0 h, by first | rfl | trivial⟩
        · go_wp2_with fail
          go_meet
          case rel => exact ⟨rfl, rfl, fun _ => rfl, rfl⟩
      case rest =>
        obtain ⟨rfl, rfl, hv, hwc⟩ := hcut
        subst hwc
        go_wp2_with fail
        go_loopw [6, 7, 39] (fun ln cd i wr => ∃ (k : Nat) (a : Ht.AccR) (HA : Option Addr) (hc : Nat) (LB : Option Addr) (lc2 : Nat), k ≤ ls.length ∧ i = .int .i64 k ∧ ln = .slice LB a.lens.length lc2 ∧ cd = .bool a.coded ∧ a.heads.length ≤ k ∧ a.lens.length ≤ k ∧ Hid (Ht.linesR (ls.take k) Ht.accR0 = some a) ∧ Hid (MSt O wc f a.heads a.lens HA hc LB lc2 wr)) (fun _ _ i _ => ls.length - (intOf i).toNat)
        case atStart => exact ⟨0, Ht.accR0, none, 0, none, 0, Nat.zero_le _, rfl, rfl, rfl, Nat.le_refl _, Nat.le_refl _, Lib.hid rfl, HST0⟩
        case round =>
          obtain ⟨k, ⟨ah, al, ac⟩, HA, hc9, LB, lc2, hk, rfl, rfl, rfl, hhk, hlk, HI, HST⟩ := hrel
          dsimp only at hhk hlk HST ⊢
          by_cases hlt : k < ls.length
          · have hs : ls[k]? = some ls[k] := List.getElem?_eq_getElem hlt
            have hsl := HFIT.out ls[k] (List.mem_cons_of_mem _ (List.getElem_mem hlt))
            generalize ls[k] = s at hs hsl
            have HSS := Lib.hid hs
            have d0 := HLW.out _ HST.out.below k s hs
            have hvv := hv (by omega)
            subst hvv
            clear hs hv
            have HFD := Lib.hid (refField_any ⟨s.toArray⟩ wr (by rw [Lib.size_eq]; show s.length ≤ _; omega))
            go_wp2_with fail
            refine HFD.out.mono ?_
            rintro e w4 ⟨nm, vl, rfl, hfo, hb4⟩
            have HFO := Lib.hid hfo
            replace HST := Lib.hid (HST.out.next hb4)
            clear hb4 HFD d0 hfo
            dsimp only at HFO ⊢
            have HBX := Lib.hid (below_box w4 (.cells #[.string ⟨nm.toArray⟩, .string ⟨vl.toArray⟩] 65))
            have HHB := Lib.hid (heap_alloc_new w4 (.cells #[.string ⟨nm.toArray⟩, .string ⟨vl.toArray⟩] 65))
            replace HST := Lib.hid (HST.out.next HBX.out)
            obtain ⟨okb, hokb⟩ : ∃ q, (Ht.fieldOf s).2 = q := ⟨_, rfl⟩
            have HOK := Lib.hid hokb
            rw [hokb]
            clear hokb
            go_upto_if 49 with (fail)
            generalize w4.alloc (.cells #[.string ⟨nm.toArray⟩, .string ⟨vl.toArray⟩] 65) = w5 at HST HHB HBX ⊢
            generalize w4.heap.size = H at HHB HBX ⊢
            clear HBX
            cases okb with
            | false =>
              have HME : Hid (M = ⟨f, [], [], 0, 340, false⟩) := Lib.hid (by rw [HMF.out, Ht.linesR_bad HSS.out HI.out HOK.out]; rfl)
              clear HMF HI HSS HOK HHB
              have HOB := HST.out.box
              have HNB := (HST.out.below.block w.heap.size hNO).trans HN3.out
              obtain ⟨c0, c1, c2, c3, c4, c5⟩ := blk6 HOB
              have f4 := blk_free HOB 4
              obtain ⟨n0, n1, n2, n3, n4, n5⟩ := blk6 HNB
              obtain ⟨m0, m1, m2, m3, m4, m5⟩ := blk6_free HNB
              obtain ⟨hk1, hz1⟩ := but_set (i := 4) (.int .i64 340) HOB
              have hn1 := hk1.blk HNB (by simp; omega)
              have HS := Lib.hid (m119_set (x0 := .string ⟨f.toArray⟩) (x1 := .slice HA ah.length hc9) (x2 := .slice none 0 0) (x3 := .int .i64 0) (x4 := .int .i64 340) (x5 := .bool false) hn1)
              have HE := Lib.hid (HST.out.last HW3.out hNO hk1 HS.out.1)
              clear HOB HNB hk1 hz1 hn1
              go_wp2_with fail
              (try simp only [Exit.inBlock, Exit.then])
              refine bodyPost_ret (results_row1 rfl _ _ _ w.heap.size #[.string ⟨f.toArray⟩, .slice HA ah.length hc9, .slice none 0 0, .int .i64 0, .int .i64 340, .bool false] rfl (m119_load HS.out.2)) rfl ?_
              refine ⟨.slice HA ah.length hc9, .slice none 0 0, ah, ?_, HE.out.1, fun h => ?_, ?_, HE.out.2⟩
              · rw [HME.out]; rfl
              · rw [HME.out] at h; simp at h
              · rw [HME.out]; exact own_none 5 1 _ HE.out.2.size
            | true =>
              have HX : Hid ((⟨nm, vl⟩ : Ht.Hd) = (Ht.fieldOf s).1) := Lib.hid (HFO.out HOK.out)
              have HN := Lib.hid (Ht.linesR_hit HSS.out HI.out HOK.out)
              rw [← HX.out] at HN
              have hnl : nm.length ≤ 1073741824 := by
                have h1 := (upto_len 58 s).1
                have h2 : nm = (Ht.upto 58 s).1 := by have h3 := congrArg Ht.Hd.name HX.out; exact h3
                rw [h2]; omega
              clear HI HFO HX HSS HOK
              have HA1 := Lib.hid (fun W => refAlike_c nm Ht.lenW W hnl (by decide) rfl)
              have HA2 := Lib.hid (fun W => refAlike_c nm Ht.codW W hnl (by decide) rfl)
              unfold Ht.stepR at HN
              dsimp only at HN
              obtain ⟨q1, hq1⟩ : ∃ q, Ht.alikeB nm Ht.lenW = q := ⟨_, rfl⟩
              obtain ⟨q2, hq2⟩ : ∃ q, Ht.alikeB nm Ht.codW = q := ⟨_, rfl⟩
              rw [hq1, hq2] at HN
              rw [hq1] at HA1
              rw [hq2] at HA2
              clear hq1 hq2 hnl
              obtain ⟨e0, e1⟩ := blk2 HHB.out
              go_wp2_with fail
              refine (HA1.out _).mono ?_
              rintro e w6 ⟨rfl, n6, rfl⟩
              replace HST := Lib.hid (HST.out.next (below_drewN (Below.refl _ _) n6))
              replace HHB : Hid ((w5.drewN n6).heap[H]? = some (.cells #[.string ⟨nm.toArray⟩, .string ⟨vl.toArray⟩] 65 (0, 0))) := HHB
              generalize w5.drewN n6 = w6 at HST HHB ⊢
              clear e0 e1 HA1
              obtain ⟨e0, e1⟩ := blk2 HHB.out
              cases q1 with
              | true =>
                simp only [if_true] at HN
                have HOL := Lib.hid HST.out.lens
                go_wp2_with (at_builtin; refine wpList_own_append2 rfl _ _ 106 9 (.string ⟨#[]⟩) 1 16 rfl Tryz.underlying106 info9 rfl (by decide) HOL.out rfl [bstr vl] 1 rfl rfl (by simp [Value.oneCell', bstr]) rfl (by unfold maxLen; omega) (by omega) ?_)
                intro v7 w7 hO7 hk7
                obtain ⟨LB7, lc7, rfl⟩ := own_shape hO7
                have HST7 := Lib.hid (HST.out.put_len hO7 hk7)
                clear hO7 hk7 HOL HST
                go_wp2_with fail
                go_roundw
                case rel => exact ⟨k + 1, ⟨ah, al ++ [vl], ac⟩, HA, hc9, LB7, lc7, by omega, by go_num, by simp, rfl, by show ah.length ≤ k + 1; omega, by simp; omega, HN, HST7⟩
                case measure => simp [intOf]; omega
              | false =>
                simp only [Bool.false_eq_true, if_false] at HN
                go_wp2_with fail
                refine (HA2.out _).mono ?_
                rintro e w7 ⟨rfl, n7, rfl⟩
                replace HST := Lib.hid (HST.out.next (below_drewN (Below.refl _ _) n7))
                replace HHB : Hid ((w6.drewN n7).heap[H]? = some (.cells #[.string ⟨nm.toArray⟩, .string ⟨vl.toArray⟩] 65 (0, 0))) := HHB
                generalize w6.drewN n7 = w7 at HST HHB ⊢
                clear e0 e1 HA2
                obtain ⟨e0, e1⟩ := blk2 HHB.out
                cases q2 with
                | true =>
                  simp only [if_true] at HN
                  go_wp2_with fail
                  go_roundw
                  case rel => exact ⟨k + 1, ⟨ah, al, true⟩, HA, hc9, LB, lc2, by omega, by go_num, rfl, rfl, by show ah.length ≤ k + 1; omega, by show al.length ≤ k + 1; omega, HN, HST⟩
                  case measure => simp [intOf]; omega
                | false =>
                  simp only [Bool.false_eq_true, if_false] at HN
                  have HOH := Lib.hid HST.out.heads
                  obtain ⟨c0, c1, c2, c3, c4, c5⟩ := blk6 HST.out.box
                  go_wp2_with (at_builtin; refine wpList_hds_append2 (h := ⟨nm, vl⟩) rfl _ _ rfl rfl HOH.out rfl rfl (by omega) ?_)
                  intro A8 c8 w8 hO8 hk8
                  have HS8 := Lib.hid (HST.out.put_hd hk8)
                  obtain ⟨hb8, hx8, hl8⟩ := HS8.out
                  clear c0 c1 c2 c3 c4 c5 e0 e1
                  obtain ⟨c0, c1, c2, c3, c4, c5⟩ := blk6 hx8
                  have f1 := blk_free hx8 1
                  obtain ⟨hk9, hz9⟩ := but_set (i := 1) (.slice A8 (ah.length + 1) c8) hx8
                  simp only [List.setIfInBounds_toArray, List.set_cons_succ, List.set_cons_zero] at hz9
                  have HST9 : Hid (MSt O wc f (ah ++ [⟨nm, vl⟩]) al A8 c8 LB lc2 (w8.setCell ⟨O, 1, none⟩ (.slice A8 (ah.length + 1) c8))) := Lib.hid (MSt.filled hb8 hz9 hk9 hO8 hl8 (by omega))
                  clear hO8 hk8 HS8 hb8 hx8 hl8 hk9 hz9 HOH HST
                  go_wp2_with fail
                  go_roundw
                  case rel => exact ⟨k + 1, ⟨ah ++ [⟨nm, vl⟩], al, ac⟩, A8, c8, LB, lc2, by omega, by go_num, by simp, rfl, by simp; omega, by show al.length ≤ k + 1; omega, HN, HST9⟩
                  case measure => simp [intOf]; omega
          · obtain rfl : k = ls.length := by omega
            have HR0 := HI.out
            rw [List.take_of_length_le (Nat.le_refl _)] at HR0
            have HMG : Hid (M = Ht.msgFin f (some ⟨ah, al, ac⟩) b n) := Lib.hid (by rw [HMF.out, HR0])
            obtain ⟨bb, off, rfl, hbb, hbc⟩ := HC.out (byteCells_nz (by intro h0; rw [h0] at hlt9; simp at hlt9))
            have HBC : Hid (∀ W, Below w.heap.size w W → CellsAt W (some ⟨bb, off, none⟩) (Lib.byteCells b)) := Lib.hid (fun W hW => HC.out.next hW (Nat.le_refl _))
            clear hbc HLW HFIT HI HR0 HMF hv HST0
            go_upto_if 77 with (fail)
            go_cut [6, 12, 13] from 14 (fun _ z q wx => ∃ (sz : Nat) (qb : Bool), z = .int .i64 sz ∧ q = .bool qb ∧ sz < 1000000000 ∧ Hid (MLen M f ah ac b n qb sz) ∧ Hid (MSt O wc f ah al HA hc9 LB lc2 wx))
            case first =>
              rcases al with _ | ⟨v0, _ | ⟨v1, vs⟩⟩
              · skip
                have HM : Hid (MLen M f ah ac b n false 0) := Lib.hid (by unfold MLen; rw [HMG.out]; exact Ht.msgFin_eq f ⟨ah, [], ac⟩ b n false 0 (rfl) (rfl))
                go_wp2_with fail
                go_meet
                case rel => exact ⟨0, false, rfl, rfl, by omega, HM, HST⟩
              · obtain ⟨A9, c9, he9, hcl9⟩ := HST.out.lens.slice
                injection he9 with h91 h92 h93
                subst h91 h93
                obtain ⟨vb, voff, rfl, hvb, hvc⟩ := hcl9 (by simp)
                have v0c := hvc 0 _ rfl
                rw [Nat.add_zero] at v0c
                unfold bstr at v0c
                clear hvc hcl9
                obtain ⟨hok, hokl⟩ : ∃ q, Ht.okLen v0 = q := ⟨_, rfl⟩
                have HOKL : Hid (hok = (decide (1 ≤ v0.length) && decide (v0.length ≤ 9) && Ht.allB v0 48 57)) := Lib.hid (by rw [← hokl]; rfl)
                have HK := Lib.hid hokl
                clear hokl
                by_cases h1 : v0.length < 1
                · have HF : Hid (hok = false) := Lib.hid (by rw [HOKL.out]; simp; omega)
                  have HM : Hid (MLen M f ah ac b n true 0) := Lib.hid (by unfold MLen; rw [HMG.out]; exact Ht.msgFin_eq f ⟨ah, [v0], ac⟩ b n true 0 (by simp only [List.length_cons, List.length_nil, List.headD_cons]; rw [HK.out, HF.out]; rfl) (by simp only [List.length_cons, List.length_nil, List.headD_cons]; rw [HK.out, HF.out]; rfl))
                  have hv : ¬ (0 : Int) < v0.length := by omega
                  have hv1 : (v0.length : Int) < 1 := by omega
                  go_wp2_with fail
                  go_loopw [12, 15] (fun z i wr => z = .int .i64 0 ∧ i = .int .i64 0 ∧ Hid (MSt O wc f ah [v0] HA hc9 (some ⟨vb, voff, none⟩) lc2 wr)) (fun _ _ _ => 0)
                  case atStart => exact ⟨rfl, rfl, HST⟩
                  case round =>
                    obtain ⟨rfl, rfl, HST⟩ := hrel
                    go_wp2_with fail
                    go_meet
                    case rel => exact ⟨0, true, rfl, rfl, by omega, HM, HST⟩
                · have hv : (0 : Int) < v0.length := by omega
                  have hv1 : ¬ (v0.length : Int) < 1 := by omega
                  by_cases h9 : 9 < v0.length
                  · have HF : Hid (hok = false) := Lib.hid (by rw [HOKL.out]; simp; omega)
                    have HM : Hid (MLen M f ah ac b n true 0) := Lib.hid (by unfold MLen; rw [HMG.out]; exact Ht.msgFin_eq f ⟨ah, [v0], ac⟩ b n true 0 (by simp only [List.length_cons, List.length_nil, List.headD_cons]; rw [HK.out, HF.out]; rfl) (by simp only [List.length_cons, List.length_nil, List.headD_cons]; rw [HK.out, HF.out]; rfl))
                    have hv9 : (9 : Int) < v0.length := by omega
                    go_wp2_with fail
                    go_loopw [12, 15] (fun z i wr => z = .int .i64 0 ∧ i = .int .i64 0 ∧ Hid (MSt O wc f ah [v0] HA hc9 (some ⟨vb, voff, none⟩) lc2 wr)) (fun _ _ _ => 0)
                    case atStart => exact ⟨rfl, rfl, HST⟩
                    case round =>
                      obtain ⟨rfl, rfl, HST⟩ := hrel
                      go_wp2_with fail
                      go_meet
                      case rel => exact ⟨0, true, rfl, rfl, by omega, HM, HST⟩
                  · obtain ⟨qa, hqa⟩ : ∃ q, Ht.allB v0 48 57 = q := ⟨_, rfl⟩
                    have hv9 : ¬ (9 : Int) < v0.length := by omega
                    have HQA := Lib.hid hqa
                    have HBT := Lib.hid (fun W => between_q ⟨v0.toArray⟩ 48 57 W (by rw [Lib.size_eq]; show v0.length ≤ _; omega) hqa)
                    clear hqa
                    go_wp2_with fail
                    refine (HBT.out _).mono ?_
                    rintro e w6 ⟨rfl, n6, rfl⟩
                    replace HST := Lib.hid (HST.out.next (below_drewN (Below.refl _ _) n6))
                    generalize wr.drewN n6 = w6 at HST ⊢
                    clear HBT v0c
                    cases qa with
                    | false =>
                      have HF : Hid (hok = false) := Lib.hid (by rw [HOKL.out, HQA.out]; simp)
                      have HM : Hid (MLen M f ah ac b n true 0) := Lib.hid (by unfold MLen; rw [HMG.out]; exact Ht.msgFin_eq f ⟨ah, [v0], ac⟩ b n true 0 (by simp only [List.length_cons, List.length_nil, List.headD_cons]; rw [HK.out, HF.out]; rfl) (by simp only [List.length_cons, List.length_nil, List.headD_cons]; rw [HK.out, HF.out]; rfl))
                      go_wp2_with fail
                      go_loopw [12, 15] (fun z i wr => z = .int .i64 0 ∧ i = .int .i64 0 ∧ Hid (MSt O wc f ah [v0] HA hc9 (some ⟨vb, voff, none⟩) lc2 wr)) (fun _ _ _ => 0)
                      case atStart => exact ⟨rfl, rfl, HST⟩
                      case round =>
                        obtain ⟨rfl, rfl, HST⟩ := hrel
                        go_wp2_with fail
                        go_meet
                        case rel => exact ⟨0, true, rfl, rfl, by omega, HM, HST⟩
                    | true =>
                      have HF : Hid (hok = true) := Lib.hid (by rw [HOKL.out, HQA.out]; simp; omega)
                      have HM : Hid (MLen M f ah ac b n false (Ht.valR v0 0)) := Lib.hid (by unfold MLen; rw [HMG.out]; exact Ht.msgFin_eq f ⟨ah, [v0], ac⟩ b n false (Ht.valR v0 0) (by simp only [List.length_cons, List.length_nil, List.headD_cons]; rw [HK.out, HF.out]; rfl) (by simp only [List.length_cons, List.length_nil, List.headD_cons]; rw [HK.out, HF.out]; rfl))
                      go_wp2_with fail
                      go_loopw [12, 15] (fun z i wr => ∃ j : Nat, j ≤ v0.length ∧ i = .int .i64 j ∧ z = .int .i64 (Ht.valR (v0.take j) 0 : Nat) ∧ Hid (MSt O wc f ah [v0] HA hc9 (some ⟨vb, voff, none⟩) lc2 wr)) (fun _ i _ => v0.length - (intOf i).toNat)
                      case atStart => exact ⟨0, Nat.zero_le _, rfl, rfl, HST⟩
                      case round =>
                        obtain ⟨j, hj, rfl, rfl, HST⟩ := hrel
                        have hzb := Ht.valR_small (Ht.allB_take HQA.out j) (by rw [List.length_take]; omega)
                        by_cases hjl : j < v0.length
                        · have hgj := get_list (s := ⟨v0.toArray⟩) (k := j) (by rw [Lib.size_eq]; exact hjl)
                          obtain ⟨d, hd⟩ : ∃ d, (⟨v0.toArray⟩ : ByteArray)[j]'(by rw [Lib.size_eq]; exact hjl) = d := ⟨_, rfl⟩
                          rw [hd] at hgj
                          have hgj2 : v0[j]? = some d := hgj
                          have hdr := Ht.all_mem HQA.out d (List.mem_of_getElem? hgj2)
                          have HN : Hid (Ht.valR (v0.take (j + 1)) 0 = 10 * Ht.valR (v0.take j) 0 + (d.toNat - 48)) := Lib.hid (by
                            obtain ⟨h5, h6⟩ := List.getElem?_eq_some_iff.1 hgj2
                            rw [List.take_succ_eq_append_getElem h5, Ht.valR_snoc, h6])
                          generalize Ht.valR (v0.take j) 0 = zz at HN hzb ⊢
                          clear hgj hgj2
                          go_wp2_with fail
                          go_roundw
                          case rel => exact ⟨j + 1, by omega, by go_num, by rw [HN.out]; go_num, HST⟩
                          case measure => simp [intOf]; omega
                        · obtain rfl : j = v0.length := by omega
                          rw [List.take_length] at hzb ⊢
                          generalize Ht.valR v0 0 = sz at HM hzb ⊢
                          go_wp2_with fail
                          go_meet
                          case rel => exact ⟨sz, false, rfl, rfl, hzb, HM, HST⟩
              · skip
                have HM : Hid (MLen M f ah ac b n true 0) := Lib.hid (by unfold MLen; rw [HMG.out]; exact Ht.msgFin_eq f ⟨ah, v0 :: v1 :: vs, ac⟩ b n true 0 (by simp) (by simp))
                go_wp2_with fail
                go_meet
                case rel => exact ⟨0, true, rfl, by simp; omega, by omega, HM, HST⟩
            case rest =>
              obtain ⟨sz, qb, rfl, rfl, hsz, HM, HST⟩ := hcut
              clear HMG
              go_upto_block 5 with fail
              go_cut [0, 7, 12, 13] from 14 (fun _ _ _ _ wx => Hid (MFin w O f ah HA hc9 M wx))
              case first =>
                cases ac with
                | true =>
                  have HME : M = ⟨f, ah, [], 0, 344, false⟩ := by have h := HM.out; unfold MLen at h; rwa [if_pos rfl] at h
                  have HX := Lib.hid (MFin.err (E := 344) HST.out HW3.out hNO HN3.out HME)
                  obtain ⟨c0, c1, c2, c3, c4, c5⟩ := blk6 HST.out.box
                  have f4 := blk_free HST.out.box 4
                  clear HME HM HST
                  go_wp2_with fail
                  go_meet
                  case rel => exact HX
                | false =>
                  cases qb with
                  | true =>
                    have HME : M = ⟨f, ah, [], 0, 340, false⟩ := by have h := HM.out; unfold MLen at h; rwa [if_neg (by simp), if_pos rfl] at h
                    have HX := Lib.hid (MFin.err (E := 340) HST.out HW3.out hNO HN3.out HME)
                    obtain ⟨c0, c1, c2, c3, c4, c5⟩ := blk6 HST.out.box
                    have f4 := blk_free HST.out.box 4
                    clear HME HM HST
                    go_wp2_with fail
                    go_meet
                    case rel => exact HX
                  | false =>
                    by_cases h16 : 16 < ah.length
                    · have h16i : (16 : Int) < ah.length := by omega
                      have HME : M = ⟨f, ah, [], 0, 342, false⟩ := by have h := HM.out; unfold MLen at h; rwa [if_neg (by simp), if_neg (by simp), if_pos h16] at h
                      have HX := Lib.hid (MFin.err (E := 342) HST.out HW3.out hNO HN3.out HME)
                      obtain ⟨c0, c1, c2, c3, c4, c5⟩ := blk6 HST.out.box
                      have f4 := blk_free HST.out.box 4
                      clear HME HM HST
                      go_wp2_with fail
                      go_meet
                      case rel => exact HX
                    · have h16i : ¬ (16 : Int) < ah.length := by omega
                      by_cases h81 : 8192 < sz
                      · have h81i : (8192 : Int) < sz := by omega
                        have HME : M = ⟨f, ah, [], 0, 343, false⟩ := by have h := HM.out; unfold MLen at h; rwa [if_neg (by simp), if_neg (by simp), if_neg h16, if_pos h81] at h
                        have HX := Lib.hid (MFin.err (E := 343) HST.out HW3.out hNO HN3.out HME)
                        obtain ⟨c0, c1, c2, c3, c4, c5⟩ := blk6 HST.out.box
                        have f4 := blk_free HST.out.box 4
                        clear HME HM HST
                        go_wp2_with fail
                        go_meet
                        case rel => exact HX
                      · have h81i : ¬ (8192 : Int) < sz := by omega
                        by_cases hsh : b.length - n < sz
                        · have hshi : (b.length : Int) - n < sz := by omega
                          have HME : M = ⟨f, ah, [], 0, 341, false⟩ := by have h := HM.out; unfold MLen at h; rwa [if_neg (by simp), if_neg (by simp), if_neg h16, if_neg h81, if_pos hsh] at h
                          have HX := Lib.hid (MFin.err (E := 341) HST.out HW3.out hNO HN3.out HME)
                          obtain ⟨c0, c1, c2, c3, c4, c5⟩ := blk6 HST.out.box
                          have f4 := blk_free HST.out.box 4
                          clear HME HM HST
                          go_wp2_with fail
                          go_meet
                          case rel => exact HX
                        · have hshi : ¬ (b.length : Int) - n < sz := by omega
                          have HME : M = ⟨f, ah, (b.drop n).take sz, n + sz, 0, false⟩ := by have h := HM.out; unfold MLen at h; rwa [if_neg (by simp), if_neg (by simp), if_neg h16, if_neg h81, if_neg hsh] at h
                          have HM2 := Lib.hid HME
                          clear HM HME
                          obtain ⟨bd, hbd⟩ : ∃ bd, (b.drop n).take sz = bd := ⟨_, rfl⟩
                          have hbl : bd.length = sz := by rw [← hbd, List.length_take, List.length_drop]; omega
                          rw [hbd] at HM2
                          have HWc := Lib.hid (HW3.out.trans (HST.out.below.mono (Nat.le_of_lt hNO)))
                          have HBR : Hid (∀ W, Below w.heap.size w W → CellsAt W (some ⟨bb, off + n, none⟩) (Lib.byteCells bd)) := Lib.hid (fun W hW => by rw [← hbd]; exact cells_take (cells_drop (HBC.out W hW) n) sz)
                          obtain ⟨c0, c1, c2, c3, c4, c5⟩ := blk6 HST.out.box
                          have HBL := Lib.hid hbl
                          clear hbd hbl
                          have hOz := HST.out.size
                          by_cases hcn : c = n
                          · have hs0 : sz = 0 := by omega
                            have hb0 : bd = [] := List.eq_nil_of_length_eq_zero (by rw [HBL.out]; exact hs0)
                            subst hb0
                            have HST7 := Lib.hid (HST.out.next (below_box _ (.cells #[] 5)))
                            have HX := Lib.hid (MFin.full (bd := []) HST7.out HW3.out hNO HN3.out HM2.out hOz (own_empty _ (Nat.le_refl _)))
                            have HX2 := HX.out
                            rw [World.setCell_alloc_past _ O 2 _ hOz, World.setCell_alloc_past _ O 3 _ (by simpa using hOz)] at HX2
                            have HX3 := Lib.hid HX2
                            clear HX2 HX
                            have f2 := blk_free HST.out.box 2
                            have f3 := blk_free HST.out.box 3
                            obtain ⟨d0, d1, d2, d3, d4, d5⟩ := blk6 HST7.out.box
                            have g2 := blk_free HST7.out.box 2
                            have g3 := blk_free HST7.out.box 3
                            subst hs0
                            clear HST7 HM2 HBL HBR HST
                            go_wp2_with fail
                            go_meet
                            case rel => simpa using HX3
                          · skip
                            go_wp2_with (at_builtin; refine wpList_app_row rfl _ _ rfl (own_empty _ (Nat.le_refl _)) rfl bd (some ⟨bb, off + n, none⟩) (c - n) (by rw [show bd.length = n + sz - n by rw [HBL.out]; omega]; rfl) (HBR.out _ (HWc.out.trans ((below_box _ _).mono HWc.out.size))) (by have := HBL.out; omega) ?_)
                            intro v7 w7 hO7 hb7 _
                            obtain ⟨A7, c7, rfl⟩ := own_shape hO7
                            have HST7 := Lib.hid (HST.out.next ((below_box _ (.cells #[] 5)).trans hb7))
                            have HME : M = ⟨f, ah, bd, n + sz, 0, false⟩ := HM2.out
                            have HX := Lib.hid (MFin.full HST7.out HW3.out hNO HN3.out HME hOz (by simpa using hO7))
                            clear c0 c1 c2 c3 c4 c5 hb7 HST
                            obtain ⟨c0, c1, c2, c3, c4, c5⟩ := blk6 HST7.out.box
                            have f2 := blk_free HST7.out.box 2
                            have f3 := blk_free HST7.out.box 3
                            clear hO7 HST7 HME
                            go_wp2_with fail
                            go_meet
                            case rel => simpa using HX
              case rest =>
                have HFX := hcut
                obtain ⟨bA, bc, hbx, hob⟩ := HFX.out.box
                have HNB := HFX.out.nb
                have HOB := Lib.hid hob
                obtain ⟨c0, c1, c2, c3, c4, c5⟩ := blk6 hbx
                obtain ⟨n0, n1, n2, n3, n4, n5⟩ := blk6 HNB
                obtain ⟨m0, m1, m2, m3, m4, m5⟩ := blk6_free HNB
                have HS := Lib.hid (m119_set (x0 := .string ⟨f.toArray⟩) (x1 := .slice HA ah.length hc9) (x2 := .slice bA M.body.length bc) (x3 := .int .i64 (M.used : Int)) (x4 := .int .i64 M.err) (x5 := .bool false) HNB)
                clear hcut hbx hob HNB
                go_wp2_with fail
                (try simp only [Exit.inBlock, Exit.then])
                refine bodyPost_ret (results_row1 rfl _ _ _ w.heap.size #[.string ⟨f.toArray⟩, .slice HA ah.length hc9, .slice bA M.body.length bc, .int .i64 (M.used : Int), .int .i64 M.err, .bool false] rfl (m119_load HS.out.2)) rfl ?_
                refine ⟨.slice HA ah.length hc9, .slice bA M.body.length bc, ah, ?_, own_lower (HFX.out.heads.but HS.out.1 (by simp)) (by omega), fun _ => HFX.out.same.symm, own_lower (HOB.out.but HS.out.1 (by simp)) (by omega), HFX.out.below.trans (HS.out.1.to HFX.out.below.size (by simp))⟩
                · rw [HFX.out.first, HFX.out.head]
end Go.Proofs.YtoadahommlcjpaaGreatDoor
