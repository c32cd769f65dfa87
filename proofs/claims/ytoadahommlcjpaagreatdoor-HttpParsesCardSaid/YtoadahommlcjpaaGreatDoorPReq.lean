/-
  THE WALK: Request of the document. CONDITIONS: the row lies as said; lengths.
-/
import Derived.Test.YtoadahommlcjpaaGreatDoorPMsg
namespace Go.Proofs.YtoadahommlcjpaaGreatDoor
open Go.RowKit
theorem msgFin_first (f : Ht.Bs) (x : Option Ht.AccR) (b : Ht.Bs) (n : Nat) : (Ht.msgFin f x b n).first = f := by
  unfold Ht.msgFin
  cases x with
  | none => rfl
  | some a =>
    simp only
    repeat' split
    all_goals rfl
theorem msg_first (b : Ht.Bs) : (Ht.refMsg b).first.length ≤ b.length := by
  unfold Ht.refMsg
  cases hR : Ht.refLines b [] [] 0 with
  | none => simp
  | some p =>
    obtain ⟨l, n⟩ := p
    simp only
    split
    · simp
    · rw [msgFin_first]
      have h := (Ht.refLines_fit b [] [] 0 b.length hR (by simp) (by simp)).1
      cases l with
      | nil => simp
      | cons f ls => exact h f (by simp)
set_option maxRecDepth 100000 in
set_option maxHeartbeats 8000000 in
theorem refReq_any (b : Ht.Bs) (B : Option Addr) (c : Nat) (w : World) (hB : CellsAt w B (Lib.byteCells b)) (hb : b.length ≤ 12000) (hc : b.length ≤ c) (hc2 : c ≤ 9223372036854775807) :
    Calls Tryz.prog 57 #[.slice B b.length c] w (ReqOut w (Ht.refReq b)) := by
  obtain ⟨R, hR⟩ : ∃ R, Ht.refReq b = R := ⟨_, rfl⟩
  rw [hR]
  obtain ⟨M, hM⟩ : ∃ M, Ht.refMsg b = M := ⟨_, rfl⟩
  have hfl : M.first.length ≤ 12000 := by rw [← hM]; exact Nat.le_trans (msg_first b) hb
  have HRQ : Hid (R = if M.head then (Ht.zReq, 0, M.err) else if (Ht.threeOf M.first).2.2.2 && Ht.tokenB (Ht.threeOf M.first).1 && Ht.targetB (Ht.threeOf M.first).2.1 && decide ((Ht.threeOf M.first).2.2.1 = Ht.verW) then (if M.err = 0 then (⟨(Ht.threeOf M.first).1, (Ht.threeOf M.first).2.1, M.heads, M.body⟩, M.used, 0) else (Ht.zReq, 0, M.err)) else (Ht.zReq, 0, 340)) := Lib.hid (by rw [← hR, ← hM]; rfl)
  have HW0 := Lib.hid (below_box w (.cells #[.string ⟨#[]⟩, .string ⟨#[]⟩, .slice none 0 0, .slice none 0 0] 26))
  have HB0 := Lib.hid (heap_alloc_new w (.cells #[.string ⟨#[]⟩, .string ⟨#[]⟩, .slice none 0 0, .slice none 0 0] 26))
  have HMG := Lib.hid (fun W (hW : Below w.heap.size w W) => by
    have h := refMsg_any b B c W (hB.next hW (Nat.le_refl _)) hb hc hc2
    rw [hM] at h
    exact h)
  clear hM hB hR
  go_enter Tryz.func57, Tryz.ntmps57
  go_wp2_with fail
  generalize w.alloc (.cells #[.string ⟨#[]⟩, .string ⟨#[]⟩, .slice none 0 0, .slice none 0 0] 26) = w1 at HW0 HB0 ⊢
  refine (HMG.out _ HW0.out).mono ?_
  rintro e w2 ⟨hv, bv, hs, rfl, hO1, hhs, hO2, hb2⟩
  obtain ⟨mf, mh, mb, mu, me, mhd⟩ := M
  dsimp only at hfl hhs hO2 HRQ ⊢
  obtain ⟨HA, hc9, rfl⟩ := own_shape hO1
  obtain ⟨HB, hd9, rfl⟩ := own_shape hO2
  have hw1 := (Array.getElem?_eq_some_iff.1 HB0.out).1
  have HW2 := HW0.out.trans (hb2.mono HW0.out.size)
  have HB2 := blk_next hb2 HB0.out
  have hb3 := below_box w2 (.cells #[.string ⟨mf.toArray⟩, .slice HA hs.length hc9, .slice HB mb.length hd9, .int .i64 (mu : Int), .int .i64 me, .bool mhd] 119)
  have HM3 := Lib.hid (heap_alloc_new w2 (.cells #[.string ⟨mf.toArray⟩, .slice HA hs.length hc9, .slice HB mb.length hd9, .int .i64 (mu : Int), .int .i64 me, .bool mhd] 119))
  have HN3 := Lib.hid (blk_next hb3 HB2)
  have HW3 := Lib.hid (HW2.trans (hb3.mono HW2.size))
  have HO3 := Lib.hid ((own_lower hO1 (show w.heap.size + 1 ≤ w1.heap.size by omega)).next hb3)
  have HP3 := Lib.hid ((own_lower hO2 (show w.heap.size + 1 ≤ w1.heap.size by omega)).next hb3)
  have hNQ : w.heap.size < w2.heap.size := Nat.lt_of_lt_of_le hw1 hb2.size
  have HHS := Lib.hid hhs
  clear hb2 hb3 HB2 HW2 HW0 HB0 hO1 hO2 HMG hw1 hhs
  go_upto_if 15 with (fail)
  generalize w2.alloc (.cells #[.string ⟨mf.toArray⟩, .slice HA hs.length hc9, .slice HB mb.length hd9, .int .i64 (mu : Int), .int .i64 me, .bool mhd] 119) = w3 at HM3 HN3 HW3 HO3 HP3 ⊢
  generalize w2.heap.size = Q at HM3 hNQ ⊢
  obtain ⟨c0, c1, c2, c3, c4, c5⟩ := blk6 HM3.out
  cases mhd with
  | true =>
    have HRE : Hid (R = (Ht.zReq, 0, me)) := Lib.hid (by rw [HRQ.out]; rfl)
    clear HRQ HHS
    go_wp2_with fail
    refine wp_region_any (by kernel_rfl) ?_
    change wpAny _ _ _ _ _ _ _ (World.drew _)
    replace HM3 : Hid (w3.drew.heap[Q]? = some (.cells #[.string ⟨mf.toArray⟩, .slice HA hs.length hc9, .slice HB mb.length hd9, .int .i64 (mu : Int), .int .i64 me, .bool true] 119 (0, 0))) := HM3
    replace HN3 : Hid (w3.drew.heap[w.heap.size]? = some (.cells #[.string ⟨#[]⟩, .string ⟨#[]⟩, .slice none 0 0, .slice none 0 0] 26 (0, 0))) := HN3
    replace HW3 : Hid (Below w.heap.size w w3.drew) := Lib.hid (below_drewN HW3.out 1)
    replace HO3 : Hid (Own 65 2 (w.heap.size + 1) (.slice HA hs.length hc9) hs.length (hdCells hs) w3.drew) := Lib.hid (HO3.out.next (below_drewN (Below.refl _ _) 1))
    replace HP3 : Hid (Own 5 1 (w.heap.size + 1) (.slice HB mb.length hd9) mb.length (Lib.byteCells mb) w3.drew) := Lib.hid (HP3.out.next (below_drewN (Below.refl _ _) 1))
    generalize w3.drew = w3 at HM3 HN3 HW3 HO3 HP3 ⊢
    refine wpAny_of_till (S := fun W => W.heap[Q]? = some (.cells #[.string ⟨mf.toArray⟩, .slice HA hs.length hc9, .slice HB mb.length hd9, .int .i64 (mu : Int), .int .i64 me, .bool true] 119 (0, 0))) (st := fun _ => false) _ _ _ _ ?_
    change wpTill _ _ _ _ _ _ _ #[false, false, false, false, false, false] _ _
    refine wpTill_take (i := 0) (v := .agg #[.string ⟨#[]⟩, .string ⟨#[]⟩, .slice none 0 0, .slice none 0 0]) rfl (by kernel_rfl) (by kernel_rfl) (by kernel_rfl) (show Shutd _ _ #[false, false, false, false, false, false] from Shutd.start 6) (fun l h h9 => by cases h9) (fun l => rfl) (fun _ _ _ h => h) (Or.inl ⟨by rfl, ?yb0⟩) HM3.out (fun hsh' => ?_)
    case yb0 => (intro w hS; obtain ⟨s0, s1, s2, s3, s4, s5⟩ := blk6 hS; go_simp; (try with_reducible rfl))
    have hsh := hsh'
    clear hsh'
    simp only [Act.put, List.getElem_toArray, List.getElem_cons_zero, List.setIfInBounds_toArray, List.set_cons_zero, List.set_cons_succ] at hsh ⊢
    refine wpTill_take (i := 1) (v := .pointer (some ⟨Q, 4, none⟩)) rfl (by kernel_rfl) (by kernel_rfl) (by kernel_rfl) hsh (fun l h h9 => by cases h9) (fun l => rfl) (fun _ _ _ h => h) (Or.inl ⟨by rfl, ?yb1⟩) HM3.out (fun hsh' => ?_)
    case yb1 => (intro w hS; obtain ⟨s0, s1, s2, s3, s4, s5⟩ := blk6 hS; go_simp; (try with_reducible rfl))
    have hsh := hsh'
    clear hsh'
    simp only [Act.put, List.getElem_toArray, List.getElem_cons_zero, List.getElem_cons_succ, List.setIfInBounds_toArray, List.set_cons_zero, List.set_cons_succ] at hsh ⊢
    refine wpTill_take (i := 2) (v := .int .i64 me) rfl (by kernel_rfl) (by kernel_rfl) (by kernel_rfl) hsh (fun l h h9 => by cases h9) (fun l => rfl) (fun _ _ _ h => h) (Or.inl ⟨by rfl, ?yb2⟩) HM3.out (fun hsh' => ?_)
    case yb2 => (intro w hS; obtain ⟨s0, s1, s2, s3, s4, s5⟩ := blk6 hS; go_simp; (try with_reducible rfl))
    have hsh := hsh'
    clear hsh'
    simp only [Act.put, List.getElem_toArray, List.getElem_cons_zero, List.getElem_cons_succ, List.setIfInBounds_toArray, List.set_cons_zero, List.set_cons_succ] at hsh ⊢
    clear hsh
    obtain ⟨f0, f1, f2, f3⟩ := blk4_free HN3.out
    obtain ⟨n0, n1, n2, n3⟩ := blk4 HN3.out
    have HS := Lib.hid (rq_set (x := .string ⟨#[]⟩) (y := .string ⟨#[]⟩) (z := .slice none 0 0) (u := .slice none 0 0) HN3.out)
    have HT := Lib.hid (HW3.out.trans (HS.out.1.to HW3.out.size (by simp)))
    have HS2 := Lib.hid (HS.out.1.blk HM3.out (by simp; omega))
    refine wpTill_ready (rs := [3]) (by kernel_rfl) (by simp) ?_
    refine (AllTill.cons rfl (fun KK hKK => ?_) AllTill.nil)
    rw [if_pos (by rfl)]
    go_simp
    refine hKK _ _ (fun _ => HS2.out) ?_
    clear hKK KK
    simp only [List.setIfInBounds_toArray, List.set_cons_zero, List.set_cons_succ]
    refine wpTill_ready (rs := [4]) (by kernel_rfl) (by simp) ?_
    refine (AllTill.cons rfl (fun KK hKK => ?_) AllTill.nil)
    rw [if_pos (by rfl)]
    go_simp
    refine hKK _ _ (fun _ => HS2.out) ?_
    clear hKK KK
    simp only [List.setIfInBounds_toArray, List.set_cons_zero, List.set_cons_succ]
    refine wpTill_ready (rs := [5]) (by kernel_rfl) (by simp) ?_
    refine (AllTill.cons rfl (fun KK hKK => ?_) AllTill.nil)
    rw [if_pos (by rfl)]
    go_simp
    refine hKK _ _ (fun _ => HS2.out) ?_
    clear hKK KK
    simp only [List.setIfInBounds_toArray, List.set_cons_zero, List.set_cons_succ]
    refine wpTill_done (by kernel_rfl) ?_ _
    (try simp only [noPanic])
    simp only [Exit.then]
    go_wp2_with fail
    (try simp only [Exit.inBlock, Exit.then])
    refine bodyPost_ret (results_row_tmp2 rfl _ _ _ w.heap.size #[.string ⟨#[]⟩, .string ⟨#[]⟩, .slice none 0 0, .slice none 0 0] rfl (rq_load HS.out.2)) rfl ?_
    rw [HRE.out]
    exact ReqOut.err HT.out
  | false =>
    obtain ⟨⟨x1, x2, x3⟩, hx⟩ : ∃ x, Ht.upto 32 mf = x := ⟨_, rfl⟩
    obtain ⟨⟨y1, y2, y3⟩, hy⟩ : ∃ y, Ht.upto 32 x2 = y := ⟨_, rfl⟩
    have hx1 : x1.length ≤ 12000 := by have := (upto_len 32 mf).1; rw [hx] at this; dsimp only at this; omega
    have hx2 : x2.length ≤ 12000 := by have := (upto_len 32 mf).2; rw [hx] at this; dsimp only at this; omega
    have hy1 : y1.length ≤ 12000 := by have := (upto_len 32 x2).1; rw [hy] at this; dsimp only at this; omega
    have hy2 : y2.length ≤ 12000 := by have := (upto_len 32 x2).2; rw [hy] at this; dsimp only at this; omega
    have H3 : Ht.threeOf mf = (x1, y1, y2, x3 && y3) := by unfold Ht.threeOf; rw [hx]; dsimp only; rw [hy]
    have HC1 := Lib.hid (fun W => by
      have h := refCut_any ⟨mf.toArray⟩ W (by rw [Lib.size_eq]; show mf.length ≤ _; omega)
      rw [show (⟨mf.toArray⟩ : ByteArray).data.toList = mf from rfl, hx] at h
      exact h)
    have HC2 := Lib.hid (fun W => by
      have h := refCut_any ⟨x2.toArray⟩ W (by rw [Lib.size_eq]; show x2.length ≤ _; omega)
      rw [show (⟨x2.toArray⟩ : ByteArray).data.toList = x2 from rfl, hy] at h
      exact h)
    have h0 := HRQ.out
    rw [if_neg (by simp), H3] at h0
    have HR2 := Lib.hid h0
    clear h0 HRQ H3 hx hy
    obtain ⟨q1, hq1⟩ : ∃ q, Ht.tokenB x1 = q := ⟨_, rfl⟩
    obtain ⟨q2, hq2⟩ : ∃ q, Ht.targetB y1 = q := ⟨_, rfl⟩
    have HQ1 := Lib.hid (fun W => refToken_b x1 W (by omega) hq1)
    have HQ2 := Lib.hid (fun W => refTarget_b y1 W (by omega) hq2)
    dsimp only at HR2
    rw [hq1, hq2] at HR2
    clear hq1 hq2
    go_wp2_with fail
    refine (HC1.out _).mono ?_
    rintro e w4 ⟨rfl, hb4⟩
    replace HM3 := Lib.hid (blk_next hb4 HM3.out)
    replace HN3 := Lib.hid (blk_next hb4 HN3.out)
    replace HO3 := Lib.hid (HO3.out.next hb4)
    replace HP3 := Lib.hid (HP3.out.next hb4)
    replace HW3 := Lib.hid (HW3.out.trans (hb4.mono HW3.out.size))
    clear hb4 c0 c1 c2 c3 c4 c5
    obtain ⟨c0, c1, c2, c3, c4, c5⟩ := blk6 HM3.out
    go_wp2_with fail
    refine (HC2.out _).mono ?_
    rintro e w5 ⟨rfl, hb4⟩
    replace HM3 := Lib.hid (blk_next hb4 HM3.out)
    replace HN3 := Lib.hid (blk_next hb4 HN3.out)
    replace HO3 := Lib.hid (HO3.out.next hb4)
    replace HP3 := Lib.hid (HP3.out.next hb4)
    replace HW3 := Lib.hid (HW3.out.trans (hb4.mono HW3.out.size))
    clear hb4 c0 c1 c2 c3 c4 c5
    obtain ⟨c0, c1, c2, c3, c4, c5⟩ := blk6 HM3.out
    clear HC1 HC2
    cases x3 with
    | false =>
      have HRB : Hid (R = (Ht.zReq, 0, 340)) := Lib.hid (by rw [HR2.out]; simp)
      obtain ⟨f0, f1, f2, f3⟩ := blk4_free HN3.out
      obtain ⟨n0, n1, n2, n3⟩ := blk4 HN3.out
      have HS := Lib.hid (rq_set (x := .string ⟨#[]⟩) (y := .string ⟨#[]⟩) (z := .slice none 0 0) (u := .slice none 0 0) HN3.out)
      have HT := Lib.hid (HW3.out.trans (HS.out.1.to HW3.out.size (by simp)))
      go_wp2_with fail
      (try simp only [Exit.inBlock, Exit.then])
      refine bodyPost_ret (results_row_tmp2 rfl _ _ _ w.heap.size #[.string ⟨#[]⟩, .string ⟨#[]⟩, .slice none 0 0, .slice none 0 0] rfl (rq_load HS.out.2)) rfl ?_
      rw [HRB.out]
      exact ReqOut.err HT.out
    | true =>
      cases y3 with
      | false =>
        have HRB : Hid (R = (Ht.zReq, 0, 340)) := Lib.hid (by rw [HR2.out]; simp)
        obtain ⟨f0, f1, f2, f3⟩ := blk4_free HN3.out
        obtain ⟨n0, n1, n2, n3⟩ := blk4 HN3.out
        have HS := Lib.hid (rq_set (x := .string ⟨#[]⟩) (y := .string ⟨#[]⟩) (z := .slice none 0 0) (u := .slice none 0 0) HN3.out)
        have HT := Lib.hid (HW3.out.trans (HS.out.1.to HW3.out.size (by simp)))
        go_wp2_with fail
        (try simp only [Exit.inBlock, Exit.then])
        refine bodyPost_ret (results_row_tmp2 rfl _ _ _ w.heap.size #[.string ⟨#[]⟩, .string ⟨#[]⟩, .slice none 0 0, .slice none 0 0] rfl (rq_load HS.out.2)) rfl ?_
        rw [HRB.out]
        exact ReqOut.err HT.out
      | true =>
        go_wp2_with fail
        refine (HQ1.out _).mono ?_
        rintro e w6 ⟨rfl, hb4⟩
        replace HM3 := Lib.hid (blk_next hb4 HM3.out)
        replace HN3 := Lib.hid (blk_next hb4 HN3.out)
        replace HO3 := Lib.hid (HO3.out.next hb4)
        replace HP3 := Lib.hid (HP3.out.next hb4)
        replace HW3 := Lib.hid (HW3.out.trans (hb4.mono HW3.out.size))
        clear hb4 c0 c1 c2 c3 c4 c5
        obtain ⟨c0, c1, c2, c3, c4, c5⟩ := blk6 HM3.out
        cases q1 with
        | false =>
          have HRB : Hid (R = (Ht.zReq, 0, 340)) := Lib.hid (by rw [HR2.out]; simp)
          obtain ⟨f0, f1, f2, f3⟩ := blk4_free HN3.out
          obtain ⟨n0, n1, n2, n3⟩ := blk4 HN3.out
          have HS := Lib.hid (rq_set (x := .string ⟨#[]⟩) (y := .string ⟨#[]⟩) (z := .slice none 0 0) (u := .slice none 0 0) HN3.out)
          have HT := Lib.hid (HW3.out.trans (HS.out.1.to HW3.out.size (by simp)))
          go_wp2_with fail
          (try simp only [Exit.inBlock, Exit.then])
          refine bodyPost_ret (results_row_tmp2 rfl _ _ _ w.heap.size #[.string ⟨#[]⟩, .string ⟨#[]⟩, .slice none 0 0, .slice none 0 0] rfl (rq_load HS.out.2)) rfl ?_
          rw [HRB.out]
          exact ReqOut.err HT.out
        | true =>
          go_wp2_with fail
          refine (HQ2.out _).mono ?_
          rintro e w7 ⟨rfl, n7, rfl⟩
          have hb4 := below_drewN (Below.refl w6.heap.size w6) n7
          generalize w6.drewN n7 = w7 at hb4 ⊢
          replace HM3 := Lib.hid (blk_next hb4 HM3.out)
          replace HN3 := Lib.hid (blk_next hb4 HN3.out)
          replace HO3 := Lib.hid (HO3.out.next hb4)
          replace HP3 := Lib.hid (HP3.out.next hb4)
          replace HW3 := Lib.hid (HW3.out.trans (hb4.mono HW3.out.size))
          clear hb4 c0 c1 c2 c3 c4 c5
          obtain ⟨c0, c1, c2, c3, c4, c5⟩ := blk6 HM3.out
          cases q2 with
          | false =>
            have HRB : Hid (R = (Ht.zReq, 0, 340)) := Lib.hid (by rw [HR2.out]; simp)
            obtain ⟨f0, f1, f2, f3⟩ := blk4_free HN3.out
            obtain ⟨n0, n1, n2, n3⟩ := blk4 HN3.out
            have HS := Lib.hid (rq_set (x := .string ⟨#[]⟩) (y := .string ⟨#[]⟩) (z := .slice none 0 0) (u := .slice none 0 0) HN3.out)
            have HT := Lib.hid (HW3.out.trans (HS.out.1.to HW3.out.size (by simp)))
            go_wp2_with fail
            (try simp only [Exit.inBlock, Exit.then])
            refine bodyPost_ret (results_row_tmp2 rfl _ _ _ w.heap.size #[.string ⟨#[]⟩, .string ⟨#[]⟩, .slice none 0 0, .slice none 0 0] rfl (rq_load HS.out.2)) rfl ?_
            rw [HRB.out]
            exact ReqOut.err HT.out
          | true =>
            by_cases hver : y2 = Ht.verW
            · have hv1 : (y2 == ([72, 84, 84, 80, 47, 49, 46, 49] : Ht.Bs)) = true := by rw [hver]; rfl
              have hv2 : (!(y2 == ([72, 84, 84, 80, 47, 49, 46, 49] : Ht.Bs))) = false := by rw [hv1]; rfl
              have HR3 : Hid (R = if me = 0 then (⟨x1, y1, mh, mb⟩, mu, 0) else (Ht.zReq, 0, me)) := Lib.hid (by rw [HR2.out]; simp [hver])
              clear HR2
              by_cases hme : me = 0
              · have hH := HHS.out hme
                subst hH
                have HRR : Hid (R = (⟨x1, y1, hs, mb⟩, mu, 0)) := Lib.hid (by rw [HR3.out, if_pos hme])
                clear HR3 HHS
                go_wp2_with fail
                refine wp_region_any (by kernel_rfl) ?_
                change wpAny _ _ _ _ _ _ _ (World.drew _)
                replace HM3 : Hid (w7.drew.heap[Q]? = some (.cells #[.string ⟨mf.toArray⟩, .slice HA hs.length hc9, .slice HB mb.length hd9, .int .i64 (mu : Int), .int .i64 me, .bool false] 119 (0, 0))) := HM3
                replace HN3 : Hid (w7.drew.heap[w.heap.size]? = some (.cells #[.string ⟨#[]⟩, .string ⟨#[]⟩, .slice none 0 0, .slice none 0 0] 26 (0, 0))) := HN3
                replace HW3 : Hid (Below w.heap.size w w7.drew) := Lib.hid (below_drewN HW3.out 1)
                replace HO3 : Hid (Own 65 2 (w.heap.size + 1) (.slice HA hs.length hc9) hs.length (hdCells hs) w7.drew) := Lib.hid (HO3.out.next (below_drewN (Below.refl _ _) 1))
                replace HP3 : Hid (Own 5 1 (w.heap.size + 1) (.slice HB mb.length hd9) mb.length (Lib.byteCells mb) w7.drew) := Lib.hid (HP3.out.next (below_drewN (Below.refl _ _) 1))
                generalize w7.drew = w3 at HM3 HN3 HW3 HO3 HP3 ⊢
                refine wpAny_of_till (S := fun W => W.heap[Q]? = some (.cells #[.string ⟨mf.toArray⟩, .slice HA hs.length hc9, .slice HB mb.length hd9, .int .i64 (mu : Int), .int .i64 me, .bool false] 119 (0, 0))) (st := fun _ => false) _ _ _ _ ?_
                change wpTill _ _ _ _ _ _ _ #[false, false, false, false, false, false, false, false, false, false, false, false] _ _
                refine wpTill_take (i := 0) (v := .string ⟨x1.toArray⟩) rfl (by kernel_rfl) (by kernel_rfl) (by kernel_rfl) (show Shutd _ _ #[false, false, false, false, false, false, false, false, false, false, false, false] from Shutd.start 12) (fun l h h9 => by cases h9) (fun l => rfl) (fun _ _ _ h => h) (Or.inl ⟨by rfl, ?yb0⟩) HM3.out (fun hsh' => ?_)
                case yb0 => (intro w hS; obtain ⟨s0, s1, s2, s3, s4, s5⟩ := blk6 hS; go_simp; (try with_reducible rfl))
                have hsh := hsh'
                clear hsh'
                simp only [Act.put, List.getElem_toArray, List.getElem_cons_zero, List.setIfInBounds_toArray, List.set_cons_zero, List.set_cons_succ] at hsh ⊢
                refine wpTill_take (i := 1) (v := .string ⟨y1.toArray⟩) rfl (by kernel_rfl) (by kernel_rfl) (by kernel_rfl) hsh (fun l h h9 => by cases h9) (fun l => rfl) (fun _ _ _ h => h) (Or.inl ⟨by rfl, ?yb1⟩) HM3.out (fun hsh' => ?_)
                case yb1 => (intro w hS; obtain ⟨s0, s1, s2, s3, s4, s5⟩ := blk6 hS; go_simp; (try with_reducible rfl))
                have hsh := hsh'
                clear hsh'
                simp only [Act.put, List.getElem_toArray, List.getElem_cons_zero, List.getElem_cons_succ, List.setIfInBounds_toArray, List.set_cons_zero, List.set_cons_succ] at hsh ⊢
                refine wpTill_take (i := 2) (v := .pointer (some ⟨Q, 1, none⟩)) rfl (by kernel_rfl) (by kernel_rfl) (by kernel_rfl) hsh (fun l h h9 => by cases h9) (fun l => rfl) (fun _ _ _ h => h) (Or.inl ⟨by rfl, ?yb2⟩) HM3.out (fun hsh' => ?_)
                case yb2 => (intro w hS; obtain ⟨s0, s1, s2, s3, s4, s5⟩ := blk6 hS; go_simp; (try with_reducible rfl))
                have hsh := hsh'
                clear hsh'
                simp only [Act.put, List.getElem_toArray, List.getElem_cons_zero, List.getElem_cons_succ, List.setIfInBounds_toArray, List.set_cons_zero, List.set_cons_succ] at hsh ⊢
                refine wpTill_take (i := 3) (v := .slice HA hs.length hc9) rfl (by kernel_rfl) (by kernel_rfl) (by kernel_rfl) hsh (fun l h h9 => by cases h9) (fun l => rfl) (fun _ _ _ h => h) (Or.inl ⟨by rfl, ?yb3⟩) HM3.out (fun hsh' => ?_)
                case yb3 => (intro w hS; obtain ⟨s0, s1, s2, s3, s4, s5⟩ := blk6 hS; go_simp; (try with_reducible rfl))
                have hsh := hsh'
                clear hsh'
                simp only [Act.put, List.getElem_toArray, List.getElem_cons_zero, List.getElem_cons_succ, List.setIfInBounds_toArray, List.set_cons_zero, List.set_cons_succ] at hsh ⊢
                refine wpTill_take (i := 4) (v := .pointer (some ⟨Q, 2, none⟩)) rfl (by kernel_rfl) (by kernel_rfl) (by kernel_rfl) hsh (fun l h h9 => by cases h9) (fun l => rfl) (fun _ _ _ h => h) (Or.inl ⟨by rfl, ?yb4⟩) HM3.out (fun hsh' => ?_)
                case yb4 => (intro w hS; obtain ⟨s0, s1, s2, s3, s4, s5⟩ := blk6 hS; go_simp; (try with_reducible rfl))
                have hsh := hsh'
                clear hsh'
                simp only [Act.put, List.getElem_toArray, List.getElem_cons_zero, List.getElem_cons_succ, List.setIfInBounds_toArray, List.set_cons_zero, List.set_cons_succ] at hsh ⊢
                refine wpTill_take (i := 5) (v := .slice HB mb.length hd9) rfl (by kernel_rfl) (by kernel_rfl) (by kernel_rfl) hsh (fun l h h9 => by cases h9) (fun l => rfl) (fun _ _ _ h => h) (Or.inl ⟨by rfl, ?yb5⟩) HM3.out (fun hsh' => ?_)
                case yb5 => (intro w hS; obtain ⟨s0, s1, s2, s3, s4, s5⟩ := blk6 hS; go_simp; (try with_reducible rfl))
                have hsh := hsh'
                clear hsh'
                simp only [Act.put, List.getElem_toArray, List.getElem_cons_zero, List.getElem_cons_succ, List.setIfInBounds_toArray, List.set_cons_zero, List.set_cons_succ] at hsh ⊢
                refine wpTill_take (i := 6) (v := .agg #[.string ⟨x1.toArray⟩, .string ⟨y1.toArray⟩, .slice HA hs.length hc9, .slice HB mb.length hd9]) rfl (by kernel_rfl) (by kernel_rfl) (by kernel_rfl) hsh (fun l h h9 => by cases h9) (fun l => rfl) (fun _ _ _ h => h) (Or.inl ⟨by rfl, ?yb6⟩) HM3.out (fun hsh' => ?_)
                case yb6 => (intro w hS; obtain ⟨s0, s1, s2, s3, s4, s5⟩ := blk6 hS; go_simp; (try with_reducible rfl))
                have hsh := hsh'
                clear hsh'
                simp only [Act.put, List.getElem_toArray, List.getElem_cons_zero, List.getElem_cons_succ, List.setIfInBounds_toArray, List.set_cons_zero, List.set_cons_succ] at hsh ⊢
                refine wpTill_take (i := 7) (v := .pointer (some ⟨Q, 3, none⟩)) rfl (by kernel_rfl) (by kernel_rfl) (by kernel_rfl) hsh (fun l h h9 => by cases h9) (fun l => rfl) (fun _ _ _ h => h) (Or.inl ⟨by rfl, ?yb7⟩) HM3.out (fun hsh' => ?_)
                case yb7 => (intro w hS; obtain ⟨s0, s1, s2, s3, s4, s5⟩ := blk6 hS; go_simp; (try with_reducible rfl))
                have hsh := hsh'
                clear hsh'
                simp only [Act.put, List.getElem_toArray, List.getElem_cons_zero, List.getElem_cons_succ, List.setIfInBounds_toArray, List.set_cons_zero, List.set_cons_succ] at hsh ⊢
                refine wpTill_take (i := 8) (v := .int .i64 (mu : Int)) rfl (by kernel_rfl) (by kernel_rfl) (by kernel_rfl) hsh (fun l h h9 => by cases h9) (fun l => rfl) (fun _ _ _ h => h) (Or.inl ⟨by rfl, ?yb8⟩) HM3.out (fun hsh' => ?_)
                case yb8 => (intro w hS; obtain ⟨s0, s1, s2, s3, s4, s5⟩ := blk6 hS; go_simp; (try with_reducible rfl))
                have hsh := hsh'
                clear hsh'
                simp only [Act.put, List.getElem_toArray, List.getElem_cons_zero, List.getElem_cons_succ, List.setIfInBounds_toArray, List.set_cons_zero, List.set_cons_succ] at hsh ⊢
                clear hsh
                obtain ⟨f0, f1, f2, f3⟩ := blk4_free HN3.out
                obtain ⟨n0, n1, n2, n3⟩ := blk4 HN3.out
                have HS := Lib.hid (rq_set (x := .string ⟨x1.toArray⟩) (y := .string ⟨y1.toArray⟩) (z := .slice HA hs.length hc9) (u := .slice HB mb.length hd9) HN3.out)
                have HT := Lib.hid (HW3.out.trans (HS.out.1.to HW3.out.size (by simp)))
                have HS2 := Lib.hid (HS.out.1.blk HM3.out (by simp; omega))
                refine wpTill_ready (rs := [9]) (by kernel_rfl) (by simp) ?_
                refine (AllTill.cons rfl (fun KK hKK => ?_) AllTill.nil)
                rw [if_pos (by rfl)]
                go_simp
                refine hKK _ _ (fun _ => HS2.out) ?_
                clear hKK KK
                simp only [List.setIfInBounds_toArray, List.set_cons_zero, List.set_cons_succ]
                refine wpTill_ready (rs := [10]) (by kernel_rfl) (by simp) ?_
                refine (AllTill.cons rfl (fun KK hKK => ?_) AllTill.nil)
                rw [if_pos (by rfl)]
                go_simp
                refine hKK _ _ (fun _ => HS2.out) ?_
                clear hKK KK
                simp only [List.setIfInBounds_toArray, List.set_cons_zero, List.set_cons_succ]
                refine wpTill_ready (rs := [11]) (by kernel_rfl) (by simp) ?_
                refine (AllTill.cons rfl (fun KK hKK => ?_) AllTill.nil)
                rw [if_pos (by rfl)]
                go_simp
                refine hKK _ _ (fun _ => HS2.out) ?_
                clear hKK KK
                simp only [List.setIfInBounds_toArray, List.set_cons_zero, List.set_cons_succ]
                refine wpTill_done (by kernel_rfl) ?_ _
                (try simp only [noPanic])
                simp only [Exit.then]
                go_wp2_with fail
                (try simp only [Exit.inBlock, Exit.then])
                refine bodyPost_ret (results_row_tmp2 rfl _ _ _ w.heap.size #[.string ⟨x1.toArray⟩, .string ⟨y1.toArray⟩, .slice HA hs.length hc9, .slice HB mb.length hd9] rfl (rq_load HS.out.2)) rfl ?_
                rw [HRR.out]
                exact ReqOut.mk' rfl rfl (own_lower (HO3.out.but HS.out.1 (by simp)) (by omega)) (own_lower (HP3.out.but HS.out.1 (by simp)) (by omega)) HT.out
              · have HRE : Hid (R = (Ht.zReq, 0, me)) := Lib.hid (by rw [HR3.out, if_neg hme])
                have hmi : (me != 0) = true := by simpa using hme
                go_wp2_with fail
                refine wp_region_any (by kernel_rfl) ?_
                change wpAny _ _ _ _ _ _ _ (World.drew _)
                replace HM3 : Hid (w7.drew.heap[Q]? = some (.cells #[.string ⟨mf.toArray⟩, .slice HA hs.length hc9, .slice HB mb.length hd9, .int .i64 (mu : Int), .int .i64 me, .bool false] 119 (0, 0))) := HM3
                replace HN3 : Hid (w7.drew.heap[w.heap.size]? = some (.cells #[.string ⟨#[]⟩, .string ⟨#[]⟩, .slice none 0 0, .slice none 0 0] 26 (0, 0))) := HN3
                replace HW3 : Hid (Below w.heap.size w w7.drew) := Lib.hid (below_drewN HW3.out 1)
                replace HO3 : Hid (Own 65 2 (w.heap.size + 1) (.slice HA hs.length hc9) hs.length (hdCells hs) w7.drew) := Lib.hid (HO3.out.next (below_drewN (Below.refl _ _) 1))
                replace HP3 : Hid (Own 5 1 (w.heap.size + 1) (.slice HB mb.length hd9) mb.length (Lib.byteCells mb) w7.drew) := Lib.hid (HP3.out.next (below_drewN (Below.refl _ _) 1))
                generalize w7.drew = w3 at HM3 HN3 HW3 HO3 HP3 ⊢
                refine wpAny_of_till (S := fun W => W.heap[Q]? = some (.cells #[.string ⟨mf.toArray⟩, .slice HA hs.length hc9, .slice HB mb.length hd9, .int .i64 (mu : Int), .int .i64 me, .bool false] 119 (0, 0))) (st := fun _ => false) _ _ _ _ ?_
                change wpTill _ _ _ _ _ _ _ #[false, false, false, false, false, false] _ _
                refine wpTill_take (i := 0) (v := .agg #[.string ⟨#[]⟩, .string ⟨#[]⟩, .slice none 0 0, .slice none 0 0]) rfl (by kernel_rfl) (by kernel_rfl) (by kernel_rfl) (show Shutd _ _ #[false, false, false, false, false, false] from Shutd.start 6) (fun l h h9 => by cases h9) (fun l => rfl) (fun _ _ _ h => h) (Or.inl ⟨by rfl, ?yb0⟩) HM3.out (fun hsh' => ?_)
                case yb0 => (intro w hS; obtain ⟨s0, s1, s2, s3, s4, s5⟩ := blk6 hS; go_simp; (try with_reducible rfl))
                have hsh := hsh'
                clear hsh'
                simp only [Act.put, List.getElem_toArray, List.getElem_cons_zero, List.setIfInBounds_toArray, List.set_cons_zero, List.set_cons_succ] at hsh ⊢
                refine wpTill_take (i := 1) (v := .pointer (some ⟨Q, 4, none⟩)) rfl (by kernel_rfl) (by kernel_rfl) (by kernel_rfl) hsh (fun l h h9 => by cases h9) (fun l => rfl) (fun _ _ _ h => h) (Or.inl ⟨by rfl, ?yb1⟩) HM3.out (fun hsh' => ?_)
                case yb1 => (intro w hS; obtain ⟨s0, s1, s2, s3, s4, s5⟩ := blk6 hS; go_simp; (try with_reducible rfl))
                have hsh := hsh'
                clear hsh'
                simp only [Act.put, List.getElem_toArray, List.getElem_cons_zero, List.getElem_cons_succ, List.setIfInBounds_toArray, List.set_cons_zero, List.set_cons_succ] at hsh ⊢
                refine wpTill_take (i := 2) (v := .int .i64 me) rfl (by kernel_rfl) (by kernel_rfl) (by kernel_rfl) hsh (fun l h h9 => by cases h9) (fun l => rfl) (fun _ _ _ h => h) (Or.inl ⟨by rfl, ?yb2⟩) HM3.out (fun hsh' => ?_)
                case yb2 => (intro w hS; obtain ⟨s0, s1, s2, s3, s4, s5⟩ := blk6 hS; go_simp; (try with_reducible rfl))
                have hsh := hsh'
                clear hsh'
                simp only [Act.put, List.getElem_toArray, List.getElem_cons_zero, List.getElem_cons_succ, List.setIfInBounds_toArray, List.set_cons_zero, List.set_cons_succ] at hsh ⊢
                clear hsh
                obtain ⟨f0, f1, f2, f3⟩ := blk4_free HN3.out
                obtain ⟨n0, n1, n2, n3⟩ := blk4 HN3.out
                have HS := Lib.hid (rq_set (x := .string ⟨#[]⟩) (y := .string ⟨#[]⟩) (z := .slice none 0 0) (u := .slice none 0 0) HN3.out)
                have HT := Lib.hid (HW3.out.trans (HS.out.1.to HW3.out.size (by simp)))
                have HS2 := Lib.hid (HS.out.1.blk HM3.out (by simp; omega))
                refine wpTill_ready (rs := [3]) (by kernel_rfl) (by simp) ?_
                refine (AllTill.cons rfl (fun KK hKK => ?_) AllTill.nil)
                rw [if_pos (by rfl)]
                go_simp
                refine hKK _ _ (fun _ => HS2.out) ?_
                clear hKK KK
                simp only [List.setIfInBounds_toArray, List.set_cons_zero, List.set_cons_succ]
                refine wpTill_ready (rs := [4]) (by kernel_rfl) (by simp) ?_
                refine (AllTill.cons rfl (fun KK hKK => ?_) AllTill.nil)
                rw [if_pos (by rfl)]
                go_simp
                refine hKK _ _ (fun _ => HS2.out) ?_
                clear hKK KK
                simp only [List.setIfInBounds_toArray, List.set_cons_zero, List.set_cons_succ]
                refine wpTill_ready (rs := [5]) (by kernel_rfl) (by simp) ?_
                refine (AllTill.cons rfl (fun KK hKK => ?_) AllTill.nil)
                rw [if_pos (by rfl)]
                go_simp
                refine hKK _ _ (fun _ => HS2.out) ?_
                clear hKK KK
                simp only [List.setIfInBounds_toArray, List.set_cons_zero, List.set_cons_succ]
                refine wpTill_done (by kernel_rfl) ?_ _
                (try simp only [noPanic])
                simp only [Exit.then]
                go_wp2_with fail
                (try simp only [Exit.inBlock, Exit.then])
                refine bodyPost_ret (results_row_tmp2 rfl _ _ _ w.heap.size #[.string ⟨#[]⟩, .string ⟨#[]⟩, .slice none 0 0, .slice none 0 0] rfl (rq_load HS.out.2)) rfl ?_
                rw [HRE.out]
                exact ReqOut.err HT.out
            · have hv1 : (y2 == ([72, 84, 84, 80, 47, 49, 46, 49] : Ht.Bs)) = false := by simpa [Ht.verW] using hver
              have hv2 : (!(y2 == ([72, 84, 84, 80, 47, 49, 46, 49] : Ht.Bs))) = true := by rw [hv1]; rfl
              have HRB : Hid (R = (Ht.zReq, 0, 340)) := Lib.hid (by rw [HR2.out]; simp [hver])
              obtain ⟨f0, f1, f2, f3⟩ := blk4_free HN3.out
              obtain ⟨n0, n1, n2, n3⟩ := blk4 HN3.out
              have HS := Lib.hid (rq_set (x := .string ⟨#[]⟩) (y := .string ⟨#[]⟩) (z := .slice none 0 0) (u := .slice none 0 0) HN3.out)
              have HT := Lib.hid (HW3.out.trans (HS.out.1.to HW3.out.size (by simp)))
              go_wp2_with fail
              (try simp only [Exit.inBlock, Exit.then])
              refine bodyPost_ret (results_row_tmp2 rfl _ _ _ w.heap.size #[.string ⟨#[]⟩, .string ⟨#[]⟩, .slice none 0 0, .slice none 0 0] rfl (rq_load HS.out.2)) rfl ?_
              rw [HRB.out]
              exact ReqOut.err HT.out
end Go.Proofs.YtoadahommlcjpaaGreatDoor
