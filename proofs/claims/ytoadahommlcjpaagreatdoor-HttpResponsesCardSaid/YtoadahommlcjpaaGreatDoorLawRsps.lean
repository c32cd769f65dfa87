/-
  THE LAW: every row of responses is printed as the document says. CONDITIONS: as the arguments' readings say.
-/
import Derived.Test.YtoadahommlcjpaaGreatDoorXor
namespace Go.Proofs.YtoadahommlcjpaaGreatDoor
open Go.RowKit
theorem print_rsp (rc : Ht.Rsp) {q : Bool} (hq : (decide (200 ≤ rc.status) && decide (rc.status ≤ 599) && Ht.checkedB rc.heads rc.body) = q) : Ht.printRsp rc = if q then Ht.printedOf rc.heads rc.body (Ht.firstRsp rc) else ([], 2) := by
  subst hq; rfl
set_option maxRecDepth 100000 in
set_option maxHeartbeats 8000000 in
theorem responses_law (l : List PArg) (A : Option Addr) (c : Nat) (w : World) (henv : Env w) (hl : PArgsAt w A l) :
    Calls Tryz.prog 5 #[.slice A l.length c] w fun e w' => e = .returned (.bool true) ∧ Below w.heap.size w w' := by
  have HWK := Lib.hid (wakes_any w henv)
  have HE := Lib.hid (fun W (hW : Below w.heap.size w W) => henv.next hW)
  have HL := Lib.hid hl
  have hll := hl.len
  clear henv hl
  go_enter Tryz.func5, Tryz.ntmps5
  go_wp2_with fail
  refine HWK.out.mono ?_
  rintro e w1 ⟨rfl, hb1⟩
  have HW1 := Lib.hid hb1
  clear hb1 HWK
  go_wp2_with fail
  go_loopw [16] (fun i wr => ∃ k : Nat, k ≤ l.length ∧ k ≤ 8 ∧ i = .int .i64 k ∧ Hid (Below w.heap.size w wr)) (fun i _ => l.length - (intOf i).toNat)
  case atStart => exact ⟨0, Nat.zero_le _, by omega, rfl, HW1⟩
  case round =>
    obtain ⟨k, hk, hk8, rfl, HW⟩ := hrel
    by_cases hlt : k < l.length
    · have hx : l[k]? = some l[k] := List.getElem?_eq_getElem hlt
      have HXI := Lib.hid (HL.out.each _ (List.getElem_mem hlt))
      obtain ⟨bb, off, rfl, hbl, hrow⟩ := HL.out.row (fun h0 => by rw [h0] at hlt; simp at hlt)
      have hcx := hrow k _ hx
      clear hrow
      generalize l[k] = x at hx HXI hcx
      obtain ⟨g0, g1, g2⟩ := hcx
      replace g0 := (HW.out.cell (p := ⟨bb, off + k * 3, none⟩) hbl).trans g0
      replace g1 := (HW.out.cell (p := ⟨bb, off + k * 3 + 1, none⟩) hbl).trans g1
      replace g2 := (HW.out.cell (p := ⟨bb, off + k * 3 + 2, none⟩) hbl).trans g2
      have HN0 := Lib.hid (below_box wr (.cells #[.int .i64 x.r.status, .slice x.A x.r.heads.length x.x, .slice x.B x.r.body.length x.y] 36))
      have HB0 := Lib.hid (heap_alloc_new wr (.cells #[.int .i64 x.r.status, .slice x.A x.r.heads.length x.x, .slice x.B x.r.body.length x.y] 36))
      have HWA := Lib.hid (HW.out.trans (HN0.out.mono HW.out.size))
      clear HW HN0 hx
      by_cases h8 : k = 8
      · subst h8
        have HW := HWA
        go_wp2_with fail
        go_ret
        exact ⟨rfl, HW.out⟩
      · have h8i : ((k : Int) == 8) = false := by simp; omega
        go_wp2_with fail
        generalize hwa : wr.alloc (.cells #[.int .i64 x.r.status, .slice x.A x.r.heads.length x.x, .slice x.B x.r.body.length x.y] 36) = wa at HB0 HWA ⊢
        clear hwa g0 g1 g2
        obtain ⟨X, hX⟩ : ∃ X, wr.heap.size = X := ⟨_, rfl⟩
        rw [hX] at HB0 ⊢
        clear hX
        refine wp_region_any (by kernel_rfl) ?_
        change wpAny _ _ _ _ _ _ _ (World.drew _)
        have HS : Hid (wa.drew.heap[X]? = some (.cells #[.int .i64 x.r.status, .slice x.A x.r.heads.length x.x, .slice x.B x.r.body.length x.y] 36 (0, 0))) := HB0
        have HW : Hid (Below w.heap.size w wa.drew) := Lib.hid (below_drewN HWA.out 1)
        generalize wa.drew = W at HS HW ⊢
        clear HB0 HWA
        obtain ⟨rc, hrc⟩ : ∃ rc, cutP x.r = rc := ⟨_, rfl⟩
        have HCL : Hid (∀ W, Below w.heap.size w W → Calls Tryz.prog 16 #[rspV x.r x.A x.x x.B x.y] W fun e w' => ∃ A' c' B' d', e = .returned (rspV rc A' c' B' d') ∧ RspAt w' rc A' B' ∧ NewAt W.heap.size A' ∧ NewAt W.heap.size B' ∧ Below W.heap.size W w' ∧ rc.body.length ≤ d') := Lib.hid (fun W hW => by
          rw [← hrc]; exact response_full x.r x.A x.x x.B x.y W (HXI.out.at_.up hW) HXI.out.cap)
        clear HXI
        apply shared (F := fun W P Q A3 x3 B3 y3 A4 x4 B4 y4 => Below w.heap.size w W ∧ w.heap.size ≤ P ∧ w.heap.size ≤ Q ∧ W.heap[P]? = some (.cells #[.int .i64 rc.status, .slice A3 rc.heads.length x3, .slice B3 rc.body.length y3] 36 (0, 0)) ∧ W.heap[Q]? = some (.cells #[.int .i64 rc.status, .slice A4 rc.heads.length x4, .slice B4 rc.body.length y4] 36 (0, 0)) ∧ RspAt W rc A3 B3 ∧ RspAt W rc A4 B4)
        case tree =>
          intro hkey
          have HKEY := Lib.hid hkey
          clear hkey
          refine wpAny_of_till (S := fun W => W.heap[X]? = some (.cells #[.int .i64 x.r.status, .slice x.A x.r.heads.length x.x, .slice x.B x.r.body.length x.y] 36 (0, 0))) (st := fun _ => false) _ _ _ _ ?_
          change wpTill _ _ _ _ _ _ _ #[false, false, false, false, false, false, false, false] _ _
          refine wpTill_take (i := 0) (v := .agg #[.int .i64 x.r.status, .slice x.A x.r.heads.length x.x, .slice x.B x.r.body.length x.y]) rfl (by kernel_rfl) (by kernel_rfl) (by kernel_rfl) (show Shutd _ _ #[false, false, false, false, false, false, false, false] from Shutd.start 8) (fun l h h9 => by cases h9) (fun l => rfl) (fun _ _ _ h => h) (Or.inl ⟨by rfl, ?yb0⟩) HS.out (fun hsh' => ?_)
          case yb0 => (intro w hS; obtain ⟨s0, s1, s2⟩ := blk3 hS; go_simp; (try with_reducible rfl))
          have hsh := hsh'
          clear hsh'
          simp only [Act.put, List.getElem_toArray, List.getElem_cons_zero, List.setIfInBounds_toArray, List.set_cons_zero, List.set_cons_succ] at hsh ⊢
          refine wpTill_take (i := 2) (v := .agg #[.int .i64 x.r.status, .slice x.A x.r.heads.length x.x, .slice x.B x.r.body.length x.y]) rfl (by kernel_rfl) (by kernel_rfl) (by kernel_rfl) hsh (fun l h h9 => by cases h9) (fun l => rfl) (fun _ _ _ h => h) (Or.inl ⟨by rfl, ?yb2⟩) HS.out (fun hsh' => ?_)
          case yb2 => (intro w hS; obtain ⟨s0, s1, s2⟩ := blk3 hS; go_simp; (try with_reducible rfl))
          have hsh := hsh'
          clear hsh'
          simp only [Act.put, List.getElem_toArray, List.getElem_cons_zero, List.getElem_cons_succ, List.setIfInBounds_toArray, List.set_cons_zero, List.set_cons_succ] at hsh ⊢
          clear hsh
          refine wpTill_ready (rs := [1, 4, 5]) (by kernel_rfl) (by simp) ?_
          refine (AllTill.cons rfl (fun KK hKK => ?_) (AllTill.cons rfl (fun KK hKK => ?_) (AllTill.cons rfl (fun KK hKK => ?_) AllTill.nil)))
          · rw [if_pos (by rfl)]
            go_simp
            refine (HCL.out _ HW.out).mono ?_
            rintro e W1 ⟨A3, x3, B3, y3, rfl, hr, hn, hm, hb, -⟩
            replace HW := Lib.hid (HW.out.trans (hb.mono HW.out.size))
            replace HS := Lib.hid (blk_next hb HS.out)
            have HR := Lib.hid hr
            clear hr hn hm hb
            refine hKK _ _ (fun _ => HS.out) ?_
            clear hKK KK
            simp only [List.setIfInBounds_toArray, List.set_cons_zero, List.set_cons_succ]
            refine wpTill_ready (rs := [3, 4, 5]) (by kernel_rfl) (by simp) ?_
            refine (AllTill.cons rfl (fun KK hKK => ?_) (AllTill.cons rfl (fun KK hKK => ?_) (AllTill.cons rfl (fun KK hKK => ?_) AllTill.nil)))
            · rw [if_pos (by rfl)]
              go_simp
              refine (HCL.out _ HW.out).mono ?_
              rintro e W2 ⟨A4, x4, B4, y4, rfl, hr, hn, hm, hb, -⟩
              replace HW := Lib.hid (HW.out.trans (hb.mono HW.out.size))
              replace HS := Lib.hid (blk_next hb HS.out)
              replace HR := Lib.hid (HR.out.next hb)
              have HT := Lib.hid hr
              clear hr hn hm hb
              refine hKK _ _ (fun _ => HS.out) ?_
              clear hKK KK
              simp only [List.setIfInBounds_toArray, List.set_cons_zero, List.set_cons_succ]
              refine wpTill_ready (rs := [4, 5]) (by kernel_rfl) (by simp) ?_
              refine (AllTill.cons rfl (fun KK hKK => ?_) (AllTill.cons rfl (fun KK hKK => ?_) AllTill.nil))
              · rw [if_pos (by rfl)]
                go_simp
                have hb := below_box W2 (.cells #[.int .i64 0, .slice none 0 0, .slice none 0 0] 36)
                have hz := heap_alloc_new W2 (.cells #[.int .i64 0, .slice none 0 0, .slice none 0 0] 36)
                obtain ⟨P, hP⟩ : ∃ P, W2.heap.size = P := ⟨_, rfl⟩
                rw [hP] at hz ⊢
                have hNP : w.heap.size ≤ P := by rw [← hP]; exact HW.out.size
                have hXP : X < P := by rw [← hP]; exact (Array.getElem?_eq_some_iff.1 HS.out).1
                have HRP := Lib.hid (RowOff.lt HR.out.heads HR.out.body (Nat.le_of_eq hP))
                have HTP := Lib.hid (RowOff.lt HT.out.heads HT.out.body (Nat.le_of_eq hP))
                replace HW := Lib.hid (HW.out.trans (hb.mono HW.out.size))
                replace HS := Lib.hid (blk_next hb HS.out)
                replace HR := Lib.hid (HR.out.next hb)
                replace HT := Lib.hid (HT.out.next hb)
                have HP := Lib.hid hz
                clear hz hb
                refine hKK _ _ (fun _ => HS.out) ?_
                clear hKK KK hP
                simp only [List.setIfInBounds_toArray, List.set_cons_zero, List.set_cons_succ]
                generalize W2.alloc (.cells #[.int .i64 0, .slice none 0 0, .slice none 0 0] 36) = W3 at HW HS HR HT HP ⊢
                refine wpTill_ready (rs := [5]) (by kernel_rfl) (by simp) ?_
                refine (AllTill.cons rfl (fun KK hKK => ?_) AllTill.nil)
                · rw [if_pos (by rfl)]
                  go_simp
                  have hb := below_box W3 (.cells #[.int .i64 0, .slice none 0 0, .slice none 0 0] 36)
                  have hz := heap_alloc_new W3 (.cells #[.int .i64 0, .slice none 0 0, .slice none 0 0] 36)
                  obtain ⟨Q, hQ⟩ : ∃ P, W3.heap.size = P := ⟨_, rfl⟩
                  rw [hQ] at hz ⊢
                  have hNQ : w.heap.size ≤ Q := by rw [← hQ]; exact HW.out.size
                  have hXQ : X < Q := by rw [← hQ]; exact (Array.getElem?_eq_some_iff.1 HS.out).1
                  have hPQ : P < Q := by rw [← hQ]; exact (Array.getElem?_eq_some_iff.1 HP.out).1
                  have HRQ := Lib.hid (RowOff.lt HR.out.heads HR.out.body (Nat.le_of_eq hQ))
                  have HTQ := Lib.hid (RowOff.lt HT.out.heads HT.out.body (Nat.le_of_eq hQ))
                  replace HW := Lib.hid (HW.out.trans (hb.mono HW.out.size))
                  replace HS := Lib.hid (blk_next hb HS.out)
                  replace HR := Lib.hid (HR.out.next hb)
                  replace HT := Lib.hid (HT.out.next hb)
                  replace HP := Lib.hid (blk_next hb HP.out)
                  have HQ := Lib.hid hz
                  clear hz hb
                  refine hKK _ _ (fun _ => HS.out) ?_
                  clear hKK KK hQ
                  simp only [List.setIfInBounds_toArray, List.set_cons_zero, List.set_cons_succ]
                  generalize W3.alloc (.cells #[.int .i64 0, .slice none 0 0, .slice none 0 0] 36) = W4 at HW HS HR HT HP HQ ⊢
                  refine wpTill_ready (rs := [6]) (by kernel_rfl) (by simp) ?_
                  refine (AllTill.cons rfl (fun KK hKK => ?_) AllTill.nil)
                  · rw [if_pos (by rfl)]
                    obtain ⟨c0, c1, c2⟩ := blk3 HP.out
                    obtain ⟨f0, f1, f2⟩ := blk3_free HP.out
                    go_simp
                    have hst := rp_set (x := .int .i64 rc.status) (y := .slice A3 rc.heads.length x3) (z := .slice B3 rc.body.length y3) HP.out
                    clear c0 c1 c2 f0 f1 f2
                    obtain ⟨W5, hW5⟩ : ∃ W, (((W4.setCell ⟨P, 0, none⟩ (.int .i64 rc.status)).setCell ⟨P, 1, none⟩ (.slice A3 rc.heads.length x3)).setCell ⟨P, 2, none⟩ (.slice B3 rc.body.length y3)) = W := ⟨_, rfl⟩
                    rw [hW5] at hst ⊢
                    clear hW5
                    obtain ⟨hk, hz⟩ := hst
                    replace HW := Lib.hid (HW.out.trans (hk.to HW.out.size (by simpa using hNP)))
                    replace HS := Lib.hid (hk.blk HS.out (by simp; omega))
                    replace HR := Lib.hid (HR.out.put hk HRP.out)
                    replace HT := Lib.hid (HT.out.put hk HTP.out)
                    replace HQ := Lib.hid (hk.blk HQ.out (by simp; omega))
                    replace HP := Lib.hid hz
                    clear hk hz
                    refine hKK _ _ (fun _ => HS.out) ?_
                    clear hKK KK
                    simp only [List.setIfInBounds_toArray, List.set_cons_zero, List.set_cons_succ]
                    refine wpTill_ready (rs := [7]) (by kernel_rfl) (by simp) ?_
                    refine (AllTill.cons rfl (fun KK hKK => ?_) AllTill.nil)
                    · rw [if_pos (by rfl)]
                      obtain ⟨c0, c1, c2⟩ := blk3 HQ.out
                      obtain ⟨f0, f1, f2⟩ := blk3_free HQ.out
                      go_simp
                      have hst := rp_set (x := .int .i64 rc.status) (y := .slice A4 rc.heads.length x4) (z := .slice B4 rc.body.length y4) HQ.out
                      clear c0 c1 c2 f0 f1 f2
                      obtain ⟨W6, hW6⟩ : ∃ W, (((W5.setCell ⟨Q, 0, none⟩ (.int .i64 rc.status)).setCell ⟨Q, 1, none⟩ (.slice A4 rc.heads.length x4)).setCell ⟨Q, 2, none⟩ (.slice B4 rc.body.length y4)) = W := ⟨_, rfl⟩
                      rw [hW6] at hst ⊢
                      clear hW6
                      obtain ⟨hk, hz⟩ := hst
                      replace HW := Lib.hid (HW.out.trans (hk.to HW.out.size (by simpa using hNQ)))
                      replace HS := Lib.hid (hk.blk HS.out (by simp; omega))
                      replace HR := Lib.hid (HR.out.put hk HRQ.out)
                      replace HT := Lib.hid (HT.out.put hk HTQ.out)
                      replace HP := Lib.hid (hk.blk HP.out (by simp; omega))
                      replace HQ := Lib.hid hz
                      clear hk hz
                      refine hKK _ _ (fun _ => HS.out) ?_
                      clear hKK KK
                      simp only [List.setIfInBounds_toArray, List.set_cons_zero, List.set_cons_succ]
                      refine wpTill_done (by kernel_rfl) ?_ _
                      (try simp only [noPanic])
                      simp only [Exit.then]
                      exact HKEY.out _ P Q A3 x3 B3 y3 A4 x4 B4 y4 ⟨HW.out, hNP, hNQ, HP.out, HQ.out, HR.out, HT.out⟩
              · rw [if_pos (by rfl)]
                go_simp
                have hb := below_box W2 (.cells #[.int .i64 0, .slice none 0 0, .slice none 0 0] 36)
                have hz := heap_alloc_new W2 (.cells #[.int .i64 0, .slice none 0 0, .slice none 0 0] 36)
                obtain ⟨Q, hQ⟩ : ∃ P, W2.heap.size = P := ⟨_, rfl⟩
                rw [hQ] at hz ⊢
                have hNQ : w.heap.size ≤ Q := by rw [← hQ]; exact HW.out.size
                have hXQ : X < Q := by rw [← hQ]; exact (Array.getElem?_eq_some_iff.1 HS.out).1
                have HRQ := Lib.hid (RowOff.lt HR.out.heads HR.out.body (Nat.le_of_eq hQ))
                have HTQ := Lib.hid (RowOff.lt HT.out.heads HT.out.body (Nat.le_of_eq hQ))
                replace HW := Lib.hid (HW.out.trans (hb.mono HW.out.size))
                replace HS := Lib.hid (blk_next hb HS.out)
                replace HR := Lib.hid (HR.out.next hb)
                replace HT := Lib.hid (HT.out.next hb)
                have HQ := Lib.hid hz
                clear hz hb
                refine hKK _ _ (fun _ => HS.out) ?_
                clear hKK KK hQ
                simp only [List.setIfInBounds_toArray, List.set_cons_zero, List.set_cons_succ]
                generalize W2.alloc (.cells #[.int .i64 0, .slice none 0 0, .slice none 0 0] 36) = W7 at HW HS HR HT HQ ⊢
                refine wpTill_ready (rs := [4]) (by kernel_rfl) (by simp) ?_
                refine (AllTill.cons rfl (fun KK hKK => ?_) AllTill.nil)
                · rw [if_pos (by rfl)]
                  go_simp
                  have hb := below_box W7 (.cells #[.int .i64 0, .slice none 0 0, .slice none 0 0] 36)
                  have hz := heap_alloc_new W7 (.cells #[.int .i64 0, .slice none 0 0, .slice none 0 0] 36)
                  obtain ⟨P, hP⟩ : ∃ P, W7.heap.size = P := ⟨_, rfl⟩
                  rw [hP] at hz ⊢
                  have hNP : w.heap.size ≤ P := by rw [← hP]; exact HW.out.size
                  have hXP : X < P := by rw [← hP]; exact (Array.getElem?_eq_some_iff.1 HS.out).1
                  have hPQ : Q < P := by rw [← hP]; exact (Array.getElem?_eq_some_iff.1 HQ.out).1
                  have HRP := Lib.hid (RowOff.lt HR.out.heads HR.out.body (Nat.le_of_eq hP))
                  have HTP := Lib.hid (RowOff.lt HT.out.heads HT.out.body (Nat.le_of_eq hP))
                  replace HW := Lib.hid (HW.out.trans (hb.mono HW.out.size))
                  replace HS := Lib.hid (blk_next hb HS.out)
                  replace HR := Lib.hid (HR.out.next hb)
                  replace HT := Lib.hid (HT.out.next hb)
                  replace HQ := Lib.hid (blk_next hb HQ.out)
                  have HP := Lib.hid hz
                  clear hz hb
                  refine hKK _ _ (fun _ => HS.out) ?_
                  clear hKK KK hP
                  simp only [List.setIfInBounds_toArray, List.set_cons_zero, List.set_cons_succ]
                  generalize W7.alloc (.cells #[.int .i64 0, .slice none 0 0, .slice none 0 0] 36) = W8 at HW HS HR HT HQ HP ⊢
                  refine wpTill_ready (rs := [6]) (by kernel_rfl) (by simp) ?_
                  refine (AllTill.cons rfl (fun KK hKK => ?_) AllTill.nil)
                  · rw [if_pos (by rfl)]
                    obtain ⟨c0, c1, c2⟩ := blk3 HP.out
                    obtain ⟨f0, f1, f2⟩ := blk3_free HP.out
                    go_simp
                    have hst := rp_set (x := .int .i64 rc.status) (y := .slice A3 rc.heads.length x3) (z := .slice B3 rc.body.length y3) HP.out
                    clear c0 c1 c2 f0 f1 f2
                    obtain ⟨W9, hW9⟩ : ∃ W, (((W8.setCell ⟨P, 0, none⟩ (.int .i64 rc.status)).setCell ⟨P, 1, none⟩ (.slice A3 rc.heads.length x3)).setCell ⟨P, 2, none⟩ (.slice B3 rc.body.length y3)) = W := ⟨_, rfl⟩
                    rw [hW9] at hst ⊢
                    clear hW9
                    obtain ⟨hk, hz⟩ := hst
                    replace HW := Lib.hid (HW.out.trans (hk.to HW.out.size (by simpa using hNP)))
                    replace HS := Lib.hid (hk.blk HS.out (by simp; omega))
                    replace HR := Lib.hid (HR.out.put hk HRP.out)
                    replace HT := Lib.hid (HT.out.put hk HTP.out)
                    replace HQ := Lib.hid (hk.blk HQ.out (by simp; omega))
                    replace HP := Lib.hid hz
                    clear hk hz
                    refine hKK _ _ (fun _ => HS.out) ?_
                    clear hKK KK
                    simp only [List.setIfInBounds_toArray, List.set_cons_zero, List.set_cons_succ]
                    refine wpTill_ready (rs := [7]) (by kernel_rfl) (by simp) ?_
                    refine (AllTill.cons rfl (fun KK hKK => ?_) AllTill.nil)
                    · rw [if_pos (by rfl)]
                      obtain ⟨c0, c1, c2⟩ := blk3 HQ.out
                      obtain ⟨f0, f1, f2⟩ := blk3_free HQ.out
                      go_simp
                      have hst := rp_set (x := .int .i64 rc.status) (y := .slice A4 rc.heads.length x4) (z := .slice B4 rc.body.length y4) HQ.out
                      clear c0 c1 c2 f0 f1 f2
                      obtain ⟨W10, hW10⟩ : ∃ W, (((W9.setCell ⟨Q, 0, none⟩ (.int .i64 rc.status)).setCell ⟨Q, 1, none⟩ (.slice A4 rc.heads.length x4)).setCell ⟨Q, 2, none⟩ (.slice B4 rc.body.length y4)) = W := ⟨_, rfl⟩
                      rw [hW10] at hst ⊢
                      clear hW10
                      obtain ⟨hk, hz⟩ := hst
                      replace HW := Lib.hid (HW.out.trans (hk.to HW.out.size (by simpa using hNQ)))
                      replace HS := Lib.hid (hk.blk HS.out (by simp; omega))
                      replace HR := Lib.hid (HR.out.put hk HRQ.out)
                      replace HT := Lib.hid (HT.out.put hk HTQ.out)
                      replace HP := Lib.hid (hk.blk HP.out (by simp; omega))
                      replace HQ := Lib.hid hz
                      clear hk hz
                      refine hKK _ _ (fun _ => HS.out) ?_
                      clear hKK KK
                      simp only [List.setIfInBounds_toArray, List.set_cons_zero, List.set_cons_succ]
                      refine wpTill_done (by kernel_rfl) ?_ _
                      (try simp only [noPanic])
                      simp only [Exit.then]
                      exact HKEY.out _ P Q A3 x3 B3 y3 A4 x4 B4 y4 ⟨HW.out, hNP, hNQ, HP.out, HQ.out, HR.out, HT.out⟩
            · rw [if_pos (by rfl)]
              go_simp
              have hb := below_box W1 (.cells #[.int .i64 0, .slice none 0 0, .slice none 0 0] 36)
              have hz := heap_alloc_new W1 (.cells #[.int .i64 0, .slice none 0 0, .slice none 0 0] 36)
              obtain ⟨P, hP⟩ : ∃ P, W1.heap.size = P := ⟨_, rfl⟩
              rw [hP] at hz ⊢
              have hNP : w.heap.size ≤ P := by rw [← hP]; exact HW.out.size
              have hXP : X < P := by rw [← hP]; exact (Array.getElem?_eq_some_iff.1 HS.out).1
              have HRP := Lib.hid (RowOff.lt HR.out.heads HR.out.body (Nat.le_of_eq hP))
              replace HW := Lib.hid (HW.out.trans (hb.mono HW.out.size))
              replace HS := Lib.hid (blk_next hb HS.out)
              replace HR := Lib.hid (HR.out.next hb)
              have HP := Lib.hid hz
              clear hz hb
              refine hKK _ _ (fun _ => HS.out) ?_
              clear hKK KK hP
              simp only [List.setIfInBounds_toArray, List.set_cons_zero, List.set_cons_succ]
              generalize W1.alloc (.cells #[.int .i64 0, .slice none 0 0, .slice none 0 0] 36) = W11 at HW HS HR HP ⊢
              refine wpTill_ready (rs := [3, 5]) (by kernel_rfl) (by simp) ?_
              refine (AllTill.cons rfl (fun KK hKK => ?_) (AllTill.cons rfl (fun KK hKK => ?_) AllTill.nil))
              · rw [if_pos (by rfl)]
                go_simp
                refine (HCL.out _ HW.out).mono ?_
                rintro e W12 ⟨A4, x4, B4, y4, rfl, hr, hn, hm, hb, -⟩
                have HTP := Lib.hid (RowOff.fresh (hs := rc.heads) (bd := rc.body) hn hm (Array.getElem?_eq_some_iff.1 HP.out).1)
                replace HW := Lib.hid (HW.out.trans (hb.mono HW.out.size))
                replace HS := Lib.hid (blk_next hb HS.out)
                replace HR := Lib.hid (HR.out.next hb)
                replace HP := Lib.hid (blk_next hb HP.out)
                have HT := Lib.hid hr
                clear hr hn hm hb
                refine hKK _ _ (fun _ => HS.out) ?_
                clear hKK KK
                simp only [List.setIfInBounds_toArray, List.set_cons_zero, List.set_cons_succ]
                refine wpTill_ready (rs := [5]) (by kernel_rfl) (by simp) ?_
                refine (AllTill.cons rfl (fun KK hKK => ?_) AllTill.nil)
                · rw [if_pos (by rfl)]
                  go_simp
                  have hb := below_box W12 (.cells #[.int .i64 0, .slice none 0 0, .slice none 0 0] 36)
                  have hz := heap_alloc_new W12 (.cells #[.int .i64 0, .slice none 0 0, .slice none 0 0] 36)
                  obtain ⟨Q, hQ⟩ : ∃ P, W12.heap.size = P := ⟨_, rfl⟩
                  rw [hQ] at hz ⊢
                  have hNQ : w.heap.size ≤ Q := by rw [← hQ]; exact HW.out.size
                  have hXQ : X < Q := by rw [← hQ]; exact (Array.getElem?_eq_some_iff.1 HS.out).1
                  have hPQ : P < Q := by rw [← hQ]; exact (Array.getElem?_eq_some_iff.1 HP.out).1
                  have HRQ := Lib.hid (RowOff.lt HR.out.heads HR.out.body (Nat.le_of_eq hQ))
                  have HTQ := Lib.hid (RowOff.lt HT.out.heads HT.out.body (Nat.le_of_eq hQ))
                  replace HW := Lib.hid (HW.out.trans (hb.mono HW.out.size))
                  replace HS := Lib.hid (blk_next hb HS.out)
                  replace HR := Lib.hid (HR.out.next hb)
                  replace HT := Lib.hid (HT.out.next hb)
                  replace HP := Lib.hid (blk_next hb HP.out)
                  have HQ := Lib.hid hz
                  clear hz hb
                  refine hKK _ _ (fun _ => HS.out) ?_
                  clear hKK KK hQ
                  simp only [List.setIfInBounds_toArray, List.set_cons_zero, List.set_cons_succ]
                  generalize W12.alloc (.cells #[.int .i64 0, .slice none 0 0, .slice none 0 0] 36) = W13 at HW HS HR HT HP HQ ⊢
                  refine wpTill_ready (rs := [6]) (by kernel_rfl) (by simp) ?_
                  refine (AllTill.cons rfl (fun KK hKK => ?_) AllTill.nil)
                  · rw [if_pos (by rfl)]
                    obtain ⟨c0, c1, c2⟩ := blk3 HP.out
                    obtain ⟨f0, f1, f2⟩ := blk3_free HP.out
                    go_simp
                    have hst := rp_set (x := .int .i64 rc.status) (y := .slice A3 rc.heads.length x3) (z := .slice B3 rc.body.length y3) HP.out
                    clear c0 c1 c2 f0 f1 f2
                    obtain ⟨W14, hW14⟩ : ∃ W, (((W13.setCell ⟨P, 0, none⟩ (.int .i64 rc.status)).setCell ⟨P, 1, none⟩ (.slice A3 rc.heads.length x3)).setCell ⟨P, 2, none⟩ (.slice B3 rc.body.length y3)) = W := ⟨_, rfl⟩
                    rw [hW14] at hst ⊢
                    clear hW14
                    obtain ⟨hk, hz⟩ := hst
                    replace HW := Lib.hid (HW.out.trans (hk.to HW.out.size (by simpa using hNP)))
                    replace HS := Lib.hid (hk.blk HS.out (by simp; omega))
                    replace HR := Lib.hid (HR.out.put hk HRP.out)
                    replace HT := Lib.hid (HT.out.put hk HTP.out)
                    replace HQ := Lib.hid (hk.blk HQ.out (by simp; omega))
                    replace HP := Lib.hid hz
                    clear hk hz
                    refine hKK _ _ (fun _ => HS.out) ?_
                    clear hKK KK
                    simp only [List.setIfInBounds_toArray, List.set_cons_zero, List.set_cons_succ]
                    refine wpTill_ready (rs := [7]) (by kernel_rfl) (by simp) ?_
                    refine (AllTill.cons rfl (fun KK hKK => ?_) AllTill.nil)
                    · rw [if_pos (by rfl)]
                      obtain ⟨c0, c1, c2⟩ := blk3 HQ.out
                      obtain ⟨f0, f1, f2⟩ := blk3_free HQ.out
                      go_simp
                      have hst := rp_set (x := .int .i64 rc.status) (y := .slice A4 rc.heads.length x4) (z := .slice B4 rc.body.length y4) HQ.out
                      clear c0 c1 c2 f0 f1 f2
                      obtain ⟨W15, hW15⟩ : ∃ W, (((W14.setCell ⟨Q, 0, none⟩ (.int .i64 rc.status)).setCell ⟨Q, 1, none⟩ (.slice A4 rc.heads.length x4)).setCell ⟨Q, 2, none⟩ (.slice B4 rc.body.length y4)) = W := ⟨_, rfl⟩
                      rw [hW15] at hst ⊢
                      clear hW15
                      obtain ⟨hk, hz⟩ := hst
                      replace HW := Lib.hid (HW.out.trans (hk.to HW.out.size (by simpa using hNQ)))
                      replace HS := Lib.hid (hk.blk HS.out (by simp; omega))
                      replace HR := Lib.hid (HR.out.put hk HRQ.out)
                      replace HT := Lib.hid (HT.out.put hk HTQ.out)
                      replace HP := Lib.hid (hk.blk HP.out (by simp; omega))
                      replace HQ := Lib.hid hz
                      clear hk hz
                      refine hKK _ _ (fun _ => HS.out) ?_
                      clear hKK KK
                      simp only [List.setIfInBounds_toArray, List.set_cons_zero, List.set_cons_succ]
                      refine wpTill_done (by kernel_rfl) ?_ _
                      (try simp only [noPanic])
                      simp only [Exit.then]
                      exact HKEY.out _ P Q A3 x3 B3 y3 A4 x4 B4 y4 ⟨HW.out, hNP, hNQ, HP.out, HQ.out, HR.out, HT.out⟩
              · rw [if_pos (by rfl)]
                go_simp
                have hb := below_box W11 (.cells #[.int .i64 0, .slice none 0 0, .slice none 0 0] 36)
                have hz := heap_alloc_new W11 (.cells #[.int .i64 0, .slice none 0 0, .slice none 0 0] 36)
                obtain ⟨Q, hQ⟩ : ∃ P, W11.heap.size = P := ⟨_, rfl⟩
                rw [hQ] at hz ⊢
                have hNQ : w.heap.size ≤ Q := by rw [← hQ]; exact HW.out.size
                have hXQ : X < Q := by rw [← hQ]; exact (Array.getElem?_eq_some_iff.1 HS.out).1
                have hPQ : P < Q := by rw [← hQ]; exact (Array.getElem?_eq_some_iff.1 HP.out).1
                have HRQ := Lib.hid (RowOff.lt HR.out.heads HR.out.body (Nat.le_of_eq hQ))
                replace HW := Lib.hid (HW.out.trans (hb.mono HW.out.size))
                replace HS := Lib.hid (blk_next hb HS.out)
                replace HR := Lib.hid (HR.out.next hb)
                replace HP := Lib.hid (blk_next hb HP.out)
                have HQ := Lib.hid hz
                clear hz hb
                refine hKK _ _ (fun _ => HS.out) ?_
                clear hKK KK hQ
                simp only [List.setIfInBounds_toArray, List.set_cons_zero, List.set_cons_succ]
                generalize W11.alloc (.cells #[.int .i64 0, .slice none 0 0, .slice none 0 0] 36) = W16 at HW HS HR HP HQ ⊢
                refine wpTill_ready (rs := [3]) (by kernel_rfl) (by simp) ?_
                refine (AllTill.cons rfl (fun KK hKK => ?_) AllTill.nil)
                · rw [if_pos (by rfl)]
                  go_simp
                  refine (HCL.out _ HW.out).mono ?_
                  rintro e W17 ⟨A4, x4, B4, y4, rfl, hr, hn, hm, hb, -⟩
                  have HTP := Lib.hid (RowOff.fresh (hs := rc.heads) (bd := rc.body) hn hm (Array.getElem?_eq_some_iff.1 HP.out).1)
                  have HTQ := Lib.hid (RowOff.fresh (hs := rc.heads) (bd := rc.body) hn hm (Array.getElem?_eq_some_iff.1 HQ.out).1)
                  replace HW := Lib.hid (HW.out.trans (hb.mono HW.out.size))
                  replace HS := Lib.hid (blk_next hb HS.out)
                  replace HR := Lib.hid (HR.out.next hb)
                  replace HP := Lib.hid (blk_next hb HP.out)
                  replace HQ := Lib.hid (blk_next hb HQ.out)
                  have HT := Lib.hid hr
                  clear hr hn hm hb
                  refine hKK _ _ (fun _ => HS.out) ?_
                  clear hKK KK
                  simp only [List.setIfInBounds_toArray, List.set_cons_zero, List.set_cons_succ]
                  refine wpTill_ready (rs := [6]) (by kernel_rfl) (by simp) ?_
                  refine (AllTill.cons rfl (fun KK hKK => ?_) AllTill.nil)
                  · rw [if_pos (by rfl)]
                    obtain ⟨c0, c1, c2⟩ := blk3 HP.out
                    obtain ⟨f0, f1, f2⟩ := blk3_free HP.out
                    go_simp
                    have hst := rp_set (x := .int .i64 rc.status) (y := .slice A3 rc.heads.length x3) (z := .slice B3 rc.body.length y3) HP.out
                    clear c0 c1 c2 f0 f1 f2
                    obtain ⟨W18, hW18⟩ : ∃ W, (((W17.setCell ⟨P, 0, none⟩ (.int .i64 rc.status)).setCell ⟨P, 1, none⟩ (.slice A3 rc.heads.length x3)).setCell ⟨P, 2, none⟩ (.slice B3 rc.body.length y3)) = W := ⟨_, rfl⟩
                    rw [hW18] at hst ⊢
                    clear hW18
                    obtain ⟨hk, hz⟩ := hst
                    replace HW := Lib.hid (HW.out.trans (hk.to HW.out.size (by simpa using hNP)))
                    replace HS := Lib.hid (hk.blk HS.out (by simp; omega))
                    replace HR := Lib.hid (HR.out.put hk HRP.out)
                    replace HT := Lib.hid (HT.out.put hk HTP.out)
                    replace HQ := Lib.hid (hk.blk HQ.out (by simp; omega))
                    replace HP := Lib.hid hz
                    clear hk hz
                    refine hKK _ _ (fun _ => HS.out) ?_
                    clear hKK KK
                    simp only [List.setIfInBounds_toArray, List.set_cons_zero, List.set_cons_succ]
                    refine wpTill_ready (rs := [7]) (by kernel_rfl) (by simp) ?_
                    refine (AllTill.cons rfl (fun KK hKK => ?_) AllTill.nil)
                    · rw [if_pos (by rfl)]
                      obtain ⟨c0, c1, c2⟩ := blk3 HQ.out
                      obtain ⟨f0, f1, f2⟩ := blk3_free HQ.out
                      go_simp
                      have hst := rp_set (x := .int .i64 rc.status) (y := .slice A4 rc.heads.length x4) (z := .slice B4 rc.body.length y4) HQ.out
                      clear c0 c1 c2 f0 f1 f2
                      obtain ⟨W19, hW19⟩ : ∃ W, (((W18.setCell ⟨Q, 0, none⟩ (.int .i64 rc.status)).setCell ⟨Q, 1, none⟩ (.slice A4 rc.heads.length x4)).setCell ⟨Q, 2, none⟩ (.slice B4 rc.body.length y4)) = W := ⟨_, rfl⟩
                      rw [hW19] at hst ⊢
                      clear hW19
                      obtain ⟨hk, hz⟩ := hst
                      replace HW := Lib.hid (HW.out.trans (hk.to HW.out.size (by simpa using hNQ)))
                      replace HS := Lib.hid (hk.blk HS.out (by simp; omega))
                      replace HR := Lib.hid (HR.out.put hk HRQ.out)
                      replace HT := Lib.hid (HT.out.put hk HTQ.out)
                      replace HP := Lib.hid (hk.blk HP.out (by simp; omega))
                      replace HQ := Lib.hid hz
                      clear hk hz
                      refine hKK _ _ (fun _ => HS.out) ?_
                      clear hKK KK
                      simp only [List.setIfInBounds_toArray, List.set_cons_zero, List.set_cons_succ]
                      refine wpTill_done (by kernel_rfl) ?_ _
                      (try simp only [noPanic])
                      simp only [Exit.then]
                      exact HKEY.out _ P Q A3 x3 B3 y3 A4 x4 B4 y4 ⟨HW.out, hNP, hNQ, HP.out, HQ.out, HR.out, HT.out⟩
            · rw [if_pos (by rfl)]
              go_simp
              have hb := below_box W1 (.cells #[.int .i64 0, .slice none 0 0, .slice none 0 0] 36)
              have hz := heap_alloc_new W1 (.cells #[.int .i64 0, .slice none 0 0, .slice none 0 0] 36)
              obtain ⟨Q, hQ⟩ : ∃ P, W1.heap.size = P := ⟨_, rfl⟩
              rw [hQ] at hz ⊢
              have hNQ : w.heap.size ≤ Q := by rw [← hQ]; exact HW.out.size
              have hXQ : X < Q := by rw [← hQ]; exact (Array.getElem?_eq_some_iff.1 HS.out).1
              have HRQ := Lib.hid (RowOff.lt HR.out.heads HR.out.body (Nat.le_of_eq hQ))
              replace HW := Lib.hid (HW.out.trans (hb.mono HW.out.size))
              replace HS := Lib.hid (blk_next hb HS.out)
              replace HR := Lib.hid (HR.out.next hb)
              have HQ := Lib.hid hz
              clear hz hb
              refine hKK _ _ (fun _ => HS.out) ?_
              clear hKK KK hQ
              simp only [List.setIfInBounds_toArray, List.set_cons_zero, List.set_cons_succ]
              generalize W1.alloc (.cells #[.int .i64 0, .slice none 0 0, .slice none 0 0] 36) = W20 at HW HS HR HQ ⊢
              refine wpTill_ready (rs := [3, 4]) (by kernel_rfl) (by simp) ?_
              refine (AllTill.cons rfl (fun KK hKK => ?_) (AllTill.cons rfl (fun KK hKK => ?_) AllTill.nil))
              · rw [if_pos (by rfl)]
                go_simp
                refine (HCL.out _ HW.out).mono ?_
                rintro e W21 ⟨A4, x4, B4, y4, rfl, hr, hn, hm, hb, -⟩
                have HTQ := Lib.hid (RowOff.fresh (hs := rc.heads) (bd := rc.body) hn hm (Array.getElem?_eq_some_iff.1 HQ.out).1)
                replace HW := Lib.hid (HW.out.trans (hb.mono HW.out.size))
                replace HS := Lib.hid (blk_next hb HS.out)
                replace HR := Lib.hid (HR.out.next hb)
                replace HQ := Lib.hid (blk_next hb HQ.out)
                have HT := Lib.hid hr
                clear hr hn hm hb
                refine hKK _ _ (fun _ => HS.out) ?_
                clear hKK KK
                simp only [List.setIfInBounds_toArray, List.set_cons_zero, List.set_cons_succ]
                refine wpTill_ready (rs := [4]) (by kernel_rfl) (by simp) ?_
                refine (AllTill.cons rfl (fun KK hKK => ?_) AllTill.nil)
                · rw [if_pos (by rfl)]
                  go_simp
                  have hb := below_box W21 (.cells #[.int .i64 0, .slice none 0 0, .slice none 0 0] 36)
                  have hz := heap_alloc_new W21 (.cells #[.int .i64 0, .slice none 0 0, .slice none 0 0] 36)
                  obtain ⟨P, hP⟩ : ∃ P, W21.heap.size = P := ⟨_, rfl⟩
                  rw [hP] at hz ⊢
                  have hNP : w.heap.size ≤ P := by rw [← hP]; exact HW.out.size
                  have hXP : X < P := by rw [← hP]; exact (Array.getElem?_eq_some_iff.1 HS.out).1
                  have hPQ : Q < P := by rw [← hP]; exact (Array.getElem?_eq_some_iff.1 HQ.out).1
                  have HRP := Lib.hid (RowOff.lt HR.out.heads HR.out.body (Nat.le_of_eq hP))
                  have HTP := Lib.hid (RowOff.lt HT.out.heads HT.out.body (Nat.le_of_eq hP))
                  replace HW := Lib.hid (HW.out.trans (hb.mono HW.out.size))
                  replace HS := Lib.hid (blk_next hb HS.out)
                  replace HR := Lib.hid (HR.out.next hb)
                  replace HT := Lib.hid (HT.out.next hb)
                  replace HQ := Lib.hid (blk_next hb HQ.out)
                  have HP := Lib.hid hz
                  clear hz hb
                  refine hKK _ _ (fun _ => HS.out) ?_
                  clear hKK KK hP
                  simp only [List.setIfInBounds_toArray, List.set_cons_zero, List.set_cons_succ]
                  generalize W21.alloc (.cells #[.int .i64 0, .slice none 0 0, .slice none 0 0] 36) = W22 at HW HS HR HT HQ HP ⊢
                  refine wpTill_ready (rs := [6]) (by kernel_rfl) (by simp) ?_
                  refine (AllTill.cons rfl (fun KK hKK => ?_) AllTill.nil)
                  · rw [if_pos (by rfl)]
                    obtain ⟨c0, c1, c2⟩ := blk3 HP.out
                    obtain ⟨f0, f1, f2⟩ := blk3_free HP.out
                    go_simp
                    have hst := rp_set (x := .int .i64 rc.status) (y := .slice A3 rc.heads.length x3) (z := .slice B3 rc.body.length y3) HP.out
                    clear c0 c1 c2 f0 f1 f2
                    obtain ⟨W23, hW23⟩ : ∃ W, (((W22.setCell ⟨P, 0, none⟩ (.int .i64 rc.status)).setCell ⟨P, 1, none⟩ (.slice A3 rc.heads.length x3)).setCell ⟨P, 2, none⟩ (.slice B3 rc.body.length y3)) = W := ⟨_, rfl⟩
                    rw [hW23] at hst ⊢
                    clear hW23
                    obtain ⟨hk, hz⟩ := hst
                    replace HW := Lib.hid (HW.out.trans (hk.to HW.out.size (by simpa using hNP)))
                    replace HS := Lib.hid (hk.blk HS.out (by simp; omega))
                    replace HR := Lib.hid (HR.out.put hk HRP.out)
                    replace HT := Lib.hid (HT.out.put hk HTP.out)
                    replace HQ := Lib.hid (hk.blk HQ.out (by simp; omega))
                    replace HP := Lib.hid hz
                    clear hk hz
                    refine hKK _ _ (fun _ => HS.out) ?_
                    clear hKK KK
                    simp only [List.setIfInBounds_toArray, List.set_cons_zero, List.set_cons_succ]
                    refine wpTill_ready (rs := [7]) (by kernel_rfl) (by simp) ?_
                    refine (AllTill.cons rfl (fun KK hKK => ?_) AllTill.nil)
                    · rw [if_pos (by rfl)]
                      obtain ⟨c0, c1, c2⟩ := blk3 HQ.out
                      obtain ⟨f0, f1, f2⟩ := blk3_free HQ.out
                      go_simp
                      have hst := rp_set (x := .int .i64 rc.status) (y := .slice A4 rc.heads.length x4) (z := .slice B4 rc.body.length y4) HQ.out
                      clear c0 c1 c2 f0 f1 f2
                      obtain ⟨W24, hW24⟩ : ∃ W, (((W23.setCell ⟨Q, 0, none⟩ (.int .i64 rc.status)).setCell ⟨Q, 1, none⟩ (.slice A4 rc.heads.length x4)).setCell ⟨Q, 2, none⟩ (.slice B4 rc.body.length y4)) = W := ⟨_, rfl⟩
                      rw [hW24] at hst ⊢
                      clear hW24
                      obtain ⟨hk, hz⟩ := hst
                      replace HW := Lib.hid (HW.out.trans (hk.to HW.out.size (by simpa using hNQ)))
                      replace HS := Lib.hid (hk.blk HS.out (by simp; omega))
                      replace HR := Lib.hid (HR.out.put hk HRQ.out)
                      replace HT := Lib.hid (HT.out.put hk HTQ.out)
                      replace HP := Lib.hid (hk.blk HP.out (by simp; omega))
                      replace HQ := Lib.hid hz
                      clear hk hz
                      refine hKK _ _ (fun _ => HS.out) ?_
                      clear hKK KK
                      simp only [List.setIfInBounds_toArray, List.set_cons_zero, List.set_cons_succ]
                      refine wpTill_done (by kernel_rfl) ?_ _
                      (try simp only [noPanic])
                      simp only [Exit.then]
                      exact HKEY.out _ P Q A3 x3 B3 y3 A4 x4 B4 y4 ⟨HW.out, hNP, hNQ, HP.out, HQ.out, HR.out, HT.out⟩
              · rw [if_pos (by rfl)]
                go_simp
                have hb := below_box W20 (.cells #[.int .i64 0, .slice none 0 0, .slice none 0 0] 36)
                have hz := heap_alloc_new W20 (.cells #[.int .i64 0, .slice none 0 0, .slice none 0 0] 36)
                obtain ⟨P, hP⟩ : ∃ P, W20.heap.size = P := ⟨_, rfl⟩
                rw [hP] at hz ⊢
                have hNP : w.heap.size ≤ P := by rw [← hP]; exact HW.out.size
                have hXP : X < P := by rw [← hP]; exact (Array.getElem?_eq_some_iff.1 HS.out).1
                have hPQ : Q < P := by rw [← hP]; exact (Array.getElem?_eq_some_iff.1 HQ.out).1
                have HRP := Lib.hid (RowOff.lt HR.out.heads HR.out.body (Nat.le_of_eq hP))
                replace HW := Lib.hid (HW.out.trans (hb.mono HW.out.size))
                replace HS := Lib.hid (blk_next hb HS.out)
                replace HR := Lib.hid (HR.out.next hb)
                replace HQ := Lib.hid (blk_next hb HQ.out)
                have HP := Lib.hid hz
                clear hz hb
                refine hKK _ _ (fun _ => HS.out) ?_
                clear hKK KK hP
                simp only [List.setIfInBounds_toArray, List.set_cons_zero, List.set_cons_succ]
                generalize W20.alloc (.cells #[.int .i64 0, .slice none 0 0, .slice none 0 0] 36) = W25 at HW HS HR HQ HP ⊢
                refine wpTill_ready (rs := [3]) (by kernel_rfl) (by simp) ?_
                refine (AllTill.cons rfl (fun KK hKK => ?_) AllTill.nil)
                · rw [if_pos (by rfl)]
                  go_simp
                  refine (HCL.out _ HW.out).mono ?_
                  rintro e W26 ⟨A4, x4, B4, y4, rfl, hr, hn, hm, hb, -⟩
                  have HTP := Lib.hid (RowOff.fresh (hs := rc.heads) (bd := rc.body) hn hm (Array.getElem?_eq_some_iff.1 HP.out).1)
                  have HTQ := Lib.hid (RowOff.fresh (hs := rc.heads) (bd := rc.body) hn hm (Array.getElem?_eq_some_iff.1 HQ.out).1)
                  replace HW := Lib.hid (HW.out.trans (hb.mono HW.out.size))
                  replace HS := Lib.hid (blk_next hb HS.out)
                  replace HR := Lib.hid (HR.out.next hb)
                  replace HP := Lib.hid (blk_next hb HP.out)
                  replace HQ := Lib.hid (blk_next hb HQ.out)
                  have HT := Lib.hid hr
                  clear hr hn hm hb
                  refine hKK _ _ (fun _ => HS.out) ?_
                  clear hKK KK
                  simp only [List.setIfInBounds_toArray, List.set_cons_zero, List.set_cons_succ]
                  refine wpTill_ready (rs := [6]) (by kernel_rfl) (by simp) ?_
                  refine (AllTill.cons rfl (fun KK hKK => ?_) AllTill.nil)
                  · rw [if_pos (by rfl)]
                    obtain ⟨c0, c1, c2⟩ := blk3 HP.out
                    obtain ⟨f0, f1, f2⟩ := blk3_free HP.out
                    go_simp
                    have hst := rp_set (x := .int .i64 rc.status) (y := .slice A3 rc.heads.length x3) (z := .slice B3 rc.body.length y3) HP.out
                    clear c0 c1 c2 f0 f1 f2
                    obtain ⟨W27, hW27⟩ : ∃ W, (((W26.setCell ⟨P, 0, none⟩ (.int .i64 rc.status)).setCell ⟨P, 1, none⟩ (.slice A3 rc.heads.length x3)).setCell ⟨P, 2, none⟩ (.slice B3 rc.body.length y3)) = W := ⟨_, rfl⟩
                    rw [hW27] at hst ⊢
                    clear hW27
                    obtain ⟨hk, hz⟩ := hst
                    replace HW := Lib.hid (HW.out.trans (hk.to HW.out.size (by simpa using hNP)))
                    replace HS := Lib.hid (hk.blk HS.out (by simp; omega))
                    replace HR := Lib.hid (HR.out.put hk HRP.out)
                    replace HT := Lib.hid (HT.out.put hk HTP.out)
                    replace HQ := Lib.hid (hk.blk HQ.out (by simp; omega))
                    replace HP := Lib.hid hz
                    clear hk hz
                    refine hKK _ _ (fun _ => HS.out) ?_
                    clear hKK KK
                    simp only [List.setIfInBounds_toArray, List.set_cons_zero, List.set_cons_succ]
                    refine wpTill_ready (rs := [7]) (by kernel_rfl) (by simp) ?_
                    refine (AllTill.cons rfl (fun KK hKK => ?_) AllTill.nil)
                    · rw [if_pos (by rfl)]
                      obtain ⟨c0, c1, c2⟩ := blk3 HQ.out
                      obtain ⟨f0, f1, f2⟩ := blk3_free HQ.out
                      go_simp
                      have hst := rp_set (x := .int .i64 rc.status) (y := .slice A4 rc.heads.length x4) (z := .slice B4 rc.body.length y4) HQ.out
                      clear c0 c1 c2 f0 f1 f2
                      obtain ⟨W28, hW28⟩ : ∃ W, (((W27.setCell ⟨Q, 0, none⟩ (.int .i64 rc.status)).setCell ⟨Q, 1, none⟩ (.slice A4 rc.heads.length x4)).setCell ⟨Q, 2, none⟩ (.slice B4 rc.body.length y4)) = W := ⟨_, rfl⟩
                      rw [hW28] at hst ⊢
                      clear hW28
                      obtain ⟨hk, hz⟩ := hst
                      replace HW := Lib.hid (HW.out.trans (hk.to HW.out.size (by simpa using hNQ)))
                      replace HS := Lib.hid (hk.blk HS.out (by simp; omega))
                      replace HR := Lib.hid (HR.out.put hk HRQ.out)
                      replace HT := Lib.hid (HT.out.put hk HTQ.out)
                      replace HP := Lib.hid (hk.blk HP.out (by simp; omega))
                      replace HQ := Lib.hid hz
                      clear hk hz
                      refine hKK _ _ (fun _ => HS.out) ?_
                      clear hKK KK
                      simp only [List.setIfInBounds_toArray, List.set_cons_zero, List.set_cons_succ]
                      refine wpTill_done (by kernel_rfl) ?_ _
                      (try simp only [noPanic])
                      simp only [Exit.then]
                      exact HKEY.out _ P Q A3 x3 B3 y3 A4 x4 B4 y4 ⟨HW.out, hNP, hNQ, HP.out, HQ.out, HR.out, HT.out⟩
          · rw [if_pos (by rfl)]
            go_simp
            have hb := below_box W (.cells #[.int .i64 0, .slice none 0 0, .slice none 0 0] 36)
            have hz := heap_alloc_new W (.cells #[.int .i64 0, .slice none 0 0, .slice none 0 0] 36)
            obtain ⟨P, hP⟩ : ∃ P, W.heap.size = P := ⟨_, rfl⟩
            rw [hP] at hz ⊢
            have hNP : w.heap.size ≤ P := by rw [← hP]; exact HW.out.size
            have hXP : X < P := by rw [← hP]; exact (Array.getElem?_eq_some_iff.1 HS.out).1
            replace HW := Lib.hid (HW.out.trans (hb.mono HW.out.size))
            replace HS := Lib.hid (blk_next hb HS.out)
            have HP := Lib.hid hz
            clear hz hb
            refine hKK _ _ (fun _ => HS.out) ?_
            clear hKK KK hP
            simp only [List.setIfInBounds_toArray, List.set_cons_zero, List.set_cons_succ]
            generalize W.alloc (.cells #[.int .i64 0, .slice none 0 0, .slice none 0 0] 36) = W29 at HW HS HP ⊢
            refine wpTill_ready (rs := [1, 5]) (by kernel_rfl) (by simp) ?_
            refine (AllTill.cons rfl (fun KK hKK => ?_) (AllTill.cons rfl (fun KK hKK => ?_) AllTill.nil))
            · rw [if_pos (by rfl)]
              go_simp
              refine (HCL.out _ HW.out).mono ?_
              rintro e W30 ⟨A3, x3, B3, y3, rfl, hr, hn, hm, hb, -⟩
              have HRP := Lib.hid (RowOff.fresh (hs := rc.heads) (bd := rc.body) hn hm (Array.getElem?_eq_some_iff.1 HP.out).1)
              replace HW := Lib.hid (HW.out.trans (hb.mono HW.out.size))
              replace HS := Lib.hid (blk_next hb HS.out)
              replace HP := Lib.hid (blk_next hb HP.out)
              have HR := Lib.hid hr
              clear hr hn hm hb
              refine hKK _ _ (fun _ => HS.out) ?_
              clear hKK KK
              simp only [List.setIfInBounds_toArray, List.set_cons_zero, List.set_cons_succ]
              refine wpTill_ready (rs := [3, 5]) (by kernel_rfl) (by simp) ?_
              refine (AllTill.cons rfl (fun KK hKK => ?_) (AllTill.cons rfl (fun KK hKK => ?_) AllTill.nil))
              · rw [if_pos (by rfl)]
                go_simp
                refine (HCL.out _ HW.out).mono ?_
                rintro e W31 ⟨A4, x4, B4, y4, rfl, hr, hn, hm, hb, -⟩
                have HTP := Lib.hid (RowOff.fresh (hs := rc.heads) (bd := rc.body) hn hm (Array.getElem?_eq_some_iff.1 HP.out).1)
                replace HW := Lib.hid (HW.out.trans (hb.mono HW.out.size))
                replace HS := Lib.hid (blk_next hb HS.out)
                replace HR := Lib.hid (HR.out.next hb)
                replace HP := Lib.hid (blk_next hb HP.out)
                have HT := Lib.hid hr
                clear hr hn hm hb
                refine hKK _ _ (fun _ => HS.out) ?_
                clear hKK KK
                simp only [List.setIfInBounds_toArray, List.set_cons_zero, List.set_cons_succ]
                refine wpTill_ready (rs := [5]) (by kernel_rfl) (by simp) ?_
                refine (AllTill.cons rfl (fun KK hKK => ?_) AllTill.nil)
                · rw [if_pos (by rfl)]
                  go_simp
                  have hb := below_box W31 (.cells #[.int .i64 0, .slice none 0 0, .slice none 0 0] 36)
                  have hz := heap_alloc_new W31 (.cells #[.int .i64 0, .slice none 0 0, .slice none 0 0] 36)
                  obtain ⟨Q, hQ⟩ : ∃ P, W31.heap.size = P := ⟨_, rfl⟩
                  rw [hQ] at hz ⊢
                  have hNQ : w.heap.size ≤ Q := by rw [← hQ]; exact HW.out.size
                  have hXQ : X < Q := by rw [← hQ]; exact (Array.getElem?_eq_some_iff.1 HS.out).1
                  have hPQ : P < Q := by rw [← hQ]; exact (Array.getElem?_eq_some_iff.1 HP.out).1
                  have HRQ := Lib.hid (RowOff.lt HR.out.heads HR.out.body (Nat.le_of_eq hQ))
                  have HTQ := Lib.hid (RowOff.lt HT.out.heads HT.out.body (Nat.le_of_eq hQ))
                  replace HW := Lib.hid (HW.out.trans (hb.mono HW.out.size))
                  replace HS := Lib.hid (blk_next hb HS.out)
                  replace HR := Lib.hid (HR.out.next hb)
                  replace HT := Lib.hid (HT.out.next hb)
                  replace HP := Lib.hid (blk_next hb HP.out)
                  have HQ := Lib.hid hz
                  clear hz hb
                  refine hKK _ _ (fun _ => HS.out) ?_
                  clear hKK KK hQ
                  simp only [List.setIfInBounds_toArray, List.set_cons_zero, List.set_cons_succ]
                  generalize W31.alloc (.cells #[.int .i64 0, .slice none 0 0, .slice none 0 0] 36) = W32 at HW HS HR HT HP HQ ⊢
                  refine wpTill_ready (rs := [6]) (by kernel_rfl) (by simp) ?_
                  refine (AllTill.cons rfl (fun KK hKK => ?_) AllTill.nil)
                  · rw [if_pos (by rfl)]
                    obtain ⟨c0, c1, c2⟩ := blk3 HP.out
                    obtain ⟨f0, f1, f2⟩ := blk3_free HP.out
                    go_simp
                    have hst := rp_set (x := .int .i64 rc.status) (y := .slice A3 rc.heads.length x3) (z := .slice B3 rc.body.length y3) HP.out
                    clear c0 c1 c2 f0 f1 f2
                    obtain ⟨W33, hW33⟩ : ∃ W, (((W32.setCell ⟨P, 0, none⟩ (.int .i64 rc.status)).setCell ⟨P, 1, none⟩ (.slice A3 rc.heads.length x3)).setCell ⟨P, 2, none⟩ (.slice B3 rc.body.length y3)) = W := ⟨_, rfl⟩
                    rw [hW33] at hst ⊢
                    clear hW33
                    obtain ⟨hk, hz⟩ := hst
                    replace HW := Lib.hid (HW.out.trans (hk.to HW.out.size (by simpa using hNP)))
                    replace HS := Lib.hid (hk.blk HS.out (by simp; omega))
                    replace HR := Lib.hid (HR.out.put hk HRP.out)
                    replace HT := Lib.hid (HT.out.put hk HTP.out)
                    replace HQ := Lib.hid (hk.blk HQ.out (by simp; omega))
                    replace HP := Lib.hid hz
                    clear hk hz
                    refine hKK _ _ (fun _ => HS.out) ?_
                    clear hKK KK
                    simp only [List.setIfInBounds_toArray, List.set_cons_zero, List.set_cons_succ]
                    refine wpTill_ready (rs := [7]) (by kernel_rfl) (by simp) ?_
                    refine (AllTill.cons rfl (fun KK hKK => ?_) AllTill.nil)
                    · rw [if_pos (by rfl)]
                      obtain ⟨c0, c1, c2⟩ := blk3 HQ.out
                      obtain ⟨f0, f1, f2⟩ := blk3_free HQ.out
                      go_simp
                      have hst := rp_set (x := .int .i64 rc.status) (y := .slice A4 rc.heads.length x4) (z := .slice B4 rc.body.length y4) HQ.out
                      clear c0 c1 c2 f0 f1 f2
                      obtain ⟨W34, hW34⟩ : ∃ W, (((W33.setCell ⟨Q, 0, none⟩ (.int .i64 rc.status)).setCell ⟨Q, 1, none⟩ (.slice A4 rc.heads.length x4)).setCell ⟨Q, 2, none⟩ (.slice B4 rc.body.length y4)) = W := ⟨_, rfl⟩
                      rw [hW34] at hst ⊢
                      clear hW34
                      obtain ⟨hk, hz⟩ := hst
                      replace HW := Lib.hid (HW.out.trans (hk.to HW.out.size (by simpa using hNQ)))
                      replace HS := Lib.hid (hk.blk HS.out (by simp; omega))
                      replace HR := Lib.hid (HR.out.put hk HRQ.out)
                      replace HT := Lib.hid (HT.out.put hk HTQ.out)
                      replace HP := Lib.hid (hk.blk HP.out (by simp; omega))
                      replace HQ := Lib.hid hz
                      clear hk hz
                      refine hKK _ _ (fun _ => HS.out) ?_
                      clear hKK KK
                      simp only [List.setIfInBounds_toArray, List.set_cons_zero, List.set_cons_succ]
                      refine wpTill_done (by kernel_rfl) ?_ _
                      (try simp only [noPanic])
                      simp only [Exit.then]
                      exact HKEY.out _ P Q A3 x3 B3 y3 A4 x4 B4 y4 ⟨HW.out, hNP, hNQ, HP.out, HQ.out, HR.out, HT.out⟩
              · rw [if_pos (by rfl)]
                go_simp
                have hb := below_box W30 (.cells #[.int .i64 0, .slice none 0 0, .slice none 0 0] 36)
                have hz := heap_alloc_new W30 (.cells #[.int .i64 0, .slice none 0 0, .slice none 0 0] 36)
                obtain ⟨Q, hQ⟩ : ∃ P, W30.heap.size = P := ⟨_, rfl⟩
                rw [hQ] at hz ⊢
                have hNQ : w.heap.size ≤ Q := by rw [← hQ]; exact HW.out.size
                have hXQ : X < Q := by rw [← hQ]; exact (Array.getElem?_eq_some_iff.1 HS.out).1
                have hPQ : P < Q := by rw [← hQ]; exact (Array.getElem?_eq_some_iff.1 HP.out).1
                have HRQ := Lib.hid (RowOff.lt HR.out.heads HR.out.body (Nat.le_of_eq hQ))
                replace HW := Lib.hid (HW.out.trans (hb.mono HW.out.size))
                replace HS := Lib.hid (blk_next hb HS.out)
                replace HR := Lib.hid (HR.out.next hb)
                replace HP := Lib.hid (blk_next hb HP.out)
                have HQ := Lib.hid hz
                clear hz hb
                refine hKK _ _ (fun _ => HS.out) ?_
                clear hKK KK hQ
                simp only [List.setIfInBounds_toArray, List.set_cons_zero, List.set_cons_succ]
                generalize W30.alloc (.cells #[.int .i64 0, .slice none 0 0, .slice none 0 0] 36) = W35 at HW HS HR HP HQ ⊢
                refine wpTill_ready (rs := [3]) (by kernel_rfl) (by simp) ?_
                refine (AllTill.cons rfl (fun KK hKK => ?_) AllTill.nil)
                · rw [if_pos (by rfl)]
                  go_simp
                  refine (HCL.out _ HW.out).mono ?_
                  rintro e W36 ⟨A4, x4, B4, y4, rfl, hr, hn, hm, hb, -⟩
                  have HTP := Lib.hid (RowOff.fresh (hs := rc.heads) (bd := rc.body) hn hm (Array.getElem?_eq_some_iff.1 HP.out).1)
                  have HTQ := Lib.hid (RowOff.fresh (hs := rc.heads) (bd := rc.body) hn hm (Array.getElem?_eq_some_iff.1 HQ.out).1)
                  replace HW := Lib.hid (HW.out.trans (hb.mono HW.out.size))
                  replace HS := Lib.hid (blk_next hb HS.out)
                  replace HR := Lib.hid (HR.out.next hb)
                  replace HP := Lib.hid (blk_next hb HP.out)
                  replace HQ := Lib.hid (blk_next hb HQ.out)
                  have HT := Lib.hid hr
                  clear hr hn hm hb
                  refine hKK _ _ (fun _ => HS.out) ?_
                  clear hKK KK
                  simp only [List.setIfInBounds_toArray, List.set_cons_zero, List.set_cons_succ]
                  refine wpTill_ready (rs := [6]) (by kernel_rfl) (by simp) ?_
                  refine (AllTill.cons rfl (fun KK hKK => ?_) AllTill.nil)
                  · rw [if_pos (by rfl)]
                    obtain ⟨c0, c1, c2⟩ := blk3 HP.out
                    obtain ⟨f0, f1, f2⟩ := blk3_free HP.out
                    go_simp
                    have hst := rp_set (x := .int .i64 rc.status) (y := .slice A3 rc.heads.length x3) (z := .slice B3 rc.body.length y3) HP.out
                    clear c0 c1 c2 f0 f1 f2
                    obtain ⟨W37, hW37⟩ : ∃ W, (((W36.setCell ⟨P, 0, none⟩ (.int .i64 rc.status)).setCell ⟨P, 1, none⟩ (.slice A3 rc.heads.length x3)).setCell ⟨P, 2, none⟩ (.slice B3 rc.body.length y3)) = W := ⟨_, rfl⟩
                    rw [hW37] at hst ⊢
                    clear hW37
                    obtain ⟨hk, hz⟩ := hst
                    replace HW := Lib.hid (HW.out.trans (hk.to HW.out.size (by simpa using hNP)))
                    replace HS := Lib.hid (hk.blk HS.out (by simp; omega))
                    replace HR := Lib.hid (HR.out.put hk HRP.out)
                    replace HT := Lib.hid (HT.out.put hk HTP.out)
                    replace HQ := Lib.hid (hk.blk HQ.out (by simp; omega))
                    replace HP := Lib.hid hz
                    clear hk hz
                    refine hKK _ _ (fun _ => HS.out) ?_
                    clear hKK KK
                    simp only [List.setIfInBounds_toArray, List.set_cons_zero, List.set_cons_succ]
                    refine wpTill_ready (rs := [7]) (by kernel_rfl) (by simp) ?_
                    refine (AllTill.cons rfl (fun KK hKK => ?_) AllTill.nil)
                    · rw [if_pos (by rfl)]
                      obtain ⟨c0, c1, c2⟩ := blk3 HQ.out
                      obtain ⟨f0, f1, f2⟩ := blk3_free HQ.out
                      go_simp
                      have hst := rp_set (x := .int .i64 rc.status) (y := .slice A4 rc.heads.length x4) (z := .slice B4 rc.body.length y4) HQ.out
                      clear c0 c1 c2 f0 f1 f2
                      obtain ⟨W38, hW38⟩ : ∃ W, (((W37.setCell ⟨Q, 0, none⟩ (.int .i64 rc.status)).setCell ⟨Q, 1, none⟩ (.slice A4 rc.heads.length x4)).setCell ⟨Q, 2, none⟩ (.slice B4 rc.body.length y4)) = W := ⟨_, rfl⟩
                      rw [hW38] at hst ⊢
                      clear hW38
                      obtain ⟨hk, hz⟩ := hst
                      replace HW := Lib.hid (HW.out.trans (hk.to HW.out.size (by simpa using hNQ)))
                      replace HS := Lib.hid (hk.blk HS.out (by simp; omega))
                      replace HR := Lib.hid (HR.out.put hk HRQ.out)
                      replace HT := Lib.hid (HT.out.put hk HTQ.out)
                      replace HP := Lib.hid (hk.blk HP.out (by simp; omega))
                      replace HQ := Lib.hid hz
                      clear hk hz
                      refine hKK _ _ (fun _ => HS.out) ?_
                      clear hKK KK
                      simp only [List.setIfInBounds_toArray, List.set_cons_zero, List.set_cons_succ]
                      refine wpTill_done (by kernel_rfl) ?_ _
                      (try simp only [noPanic])
                      simp only [Exit.then]
                      exact HKEY.out _ P Q A3 x3 B3 y3 A4 x4 B4 y4 ⟨HW.out, hNP, hNQ, HP.out, HQ.out, HR.out, HT.out⟩
            · rw [if_pos (by rfl)]
              go_simp
              have hb := below_box W29 (.cells #[.int .i64 0, .slice none 0 0, .slice none 0 0] 36)
              have hz := heap_alloc_new W29 (.cells #[.int .i64 0, .slice none 0 0, .slice none 0 0] 36)
              obtain ⟨Q, hQ⟩ : ∃ P, W29.heap.size = P := ⟨_, rfl⟩
              rw [hQ] at hz ⊢
              have hNQ : w.heap.size ≤ Q := by rw [← hQ]; exact HW.out.size
              have hXQ : X < Q := by rw [← hQ]; exact (Array.getElem?_eq_some_iff.1 HS.out).1
              have hPQ : P < Q := by rw [← hQ]; exact (Array.getElem?_eq_some_iff.1 HP.out).1
              replace HW := Lib.hid (HW.out.trans (hb.mono HW.out.size))
              replace HS := Lib.hid (blk_next hb HS.out)
              replace HP := Lib.hid (blk_next hb HP.out)
              have HQ := Lib.hid hz
              clear hz hb
              refine hKK _ _ (fun _ => HS.out) ?_
              clear hKK KK hQ
              simp only [List.setIfInBounds_toArray, List.set_cons_zero, List.set_cons_succ]
              generalize W29.alloc (.cells #[.int .i64 0, .slice none 0 0, .slice none 0 0] 36) = W39 at HW HS HP HQ ⊢
              refine wpTill_ready (rs := [1]) (by kernel_rfl) (by simp) ?_
              refine (AllTill.cons rfl (fun KK hKK => ?_) AllTill.nil)
              · rw [if_pos (by rfl)]
                go_simp
                refine (HCL.out _ HW.out).mono ?_
                rintro e W40 ⟨A3, x3, B3, y3, rfl, hr, hn, hm, hb, -⟩
                have HRP := Lib.hid (RowOff.fresh (hs := rc.heads) (bd := rc.body) hn hm (Array.getElem?_eq_some_iff.1 HP.out).1)
                have HRQ := Lib.hid (RowOff.fresh (hs := rc.heads) (bd := rc.body) hn hm (Array.getElem?_eq_some_iff.1 HQ.out).1)
                replace HW := Lib.hid (HW.out.trans (hb.mono HW.out.size))
                replace HS := Lib.hid (blk_next hb HS.out)
                replace HP := Lib.hid (blk_next hb HP.out)
                replace HQ := Lib.hid (blk_next hb HQ.out)
                have HR := Lib.hid hr
                clear hr hn hm hb
                refine hKK _ _ (fun _ => HS.out) ?_
                clear hKK KK
                simp only [List.setIfInBounds_toArray, List.set_cons_zero, List.set_cons_succ]
                refine wpTill_ready (rs := [3]) (by kernel_rfl) (by simp) ?_
                refine (AllTill.cons rfl (fun KK hKK => ?_) AllTill.nil)
                · rw [if_pos (by rfl)]
                  go_simp
                  refine (HCL.out _ HW.out).mono ?_
                  rintro e W41 ⟨A4, x4, B4, y4, rfl, hr, hn, hm, hb, -⟩
                  have HTP := Lib.hid (RowOff.fresh (hs := rc.heads) (bd := rc.body) hn hm (Array.getElem?_eq_some_iff.1 HP.out).1)
                  have HTQ := Lib.hid (RowOff.fresh (hs := rc.heads) (bd := rc.body) hn hm (Array.getElem?_eq_some_iff.1 HQ.out).1)
                  replace HW := Lib.hid (HW.out.trans (hb.mono HW.out.size))
                  replace HS := Lib.hid (blk_next hb HS.out)
                  replace HR := Lib.hid (HR.out.next hb)
                  replace HP := Lib.hid (blk_next hb HP.out)
                  replace HQ := Lib.hid (blk_next hb HQ.out)
                  have HT := Lib.hid hr
                  clear hr hn hm hb
                  refine hKK _ _ (fun _ => HS.out) ?_
                  clear hKK KK
                  simp only [List.setIfInBounds_toArray, List.set_cons_zero, List.set_cons_succ]
                  refine wpTill_ready (rs := [6]) (by kernel_rfl) (by simp) ?_
                  refine (AllTill.cons rfl (fun KK hKK => ?_) AllTill.nil)
                  · rw [if_pos (by rfl)]
                    obtain ⟨c0, c1, c2⟩ := blk3 HP.out
                    obtain ⟨f0, f1, f2⟩ := blk3_free HP.out
                    go_simp
                    have hst := rp_set (x := .int .i64 rc.status) (y := .slice A3 rc.heads.length x3) (z := .slice B3 rc.body.length y3) HP.out
                    clear c0 c1 c2 f0 f1 f2
                    obtain ⟨W42, hW42⟩ : ∃ W, (((W41.setCell ⟨P, 0, none⟩ (.int .i64 rc.status)).setCell ⟨P, 1, none⟩ (.slice A3 rc.heads.length x3)).setCell ⟨P, 2, none⟩ (.slice B3 rc.body.length y3)) = W := ⟨_, rfl⟩
                    rw [hW42] at hst ⊢
                    clear hW42
                    obtain ⟨hk, hz⟩ := hst
                    replace HW := Lib.hid (HW.out.trans (hk.to HW.out.size (by simpa using hNP)))
                    replace HS := Lib.hid (hk.blk HS.out (by simp; omega))
                    replace HR := Lib.hid (HR.out.put hk HRP.out)
                    replace HT := Lib.hid (HT.out.put hk HTP.out)
                    replace HQ := Lib.hid (hk.blk HQ.out (by simp; omega))
                    replace HP := Lib.hid hz
                    clear hk hz
                    refine hKK _ _ (fun _ => HS.out) ?_
                    clear hKK KK
                    simp only [List.setIfInBounds_toArray, List.set_cons_zero, List.set_cons_succ]
                    refine wpTill_ready (rs := [7]) (by kernel_rfl) (by simp) ?_
                    refine (AllTill.cons rfl (fun KK hKK => ?_) AllTill.nil)
                    · rw [if_pos (by rfl)]
                      obtain ⟨c0, c1, c2⟩ := blk3 HQ.out
                      obtain ⟨f0, f1, f2⟩ := blk3_free HQ.out
                      go_simp
                      have hst := rp_set (x := .int .i64 rc.status) (y := .slice A4 rc.heads.length x4) (z := .slice B4 rc.body.length y4) HQ.out
                      clear c0 c1 c2 f0 f1 f2
                      obtain ⟨W43, hW43⟩ : ∃ W, (((W42.setCell ⟨Q, 0, none⟩ (.int .i64 rc.status)).setCell ⟨Q, 1, none⟩ (.slice A4 rc.heads.length x4)).setCell ⟨Q, 2, none⟩ (.slice B4 rc.body.length y4)) = W := ⟨_, rfl⟩
                      rw [hW43] at hst ⊢
                      clear hW43
                      obtain ⟨hk, hz⟩ := hst
                      replace HW := Lib.hid (HW.out.trans (hk.to HW.out.size (by simpa using hNQ)))
                      replace HS := Lib.hid (hk.blk HS.out (by simp; omega))
                      replace HR := Lib.hid (HR.out.put hk HRQ.out)
                      replace HT := Lib.hid (HT.out.put hk HTQ.out)
                      replace HP := Lib.hid (hk.blk HP.out (by simp; omega))
                      replace HQ := Lib.hid hz
                      clear hk hz
                      refine hKK _ _ (fun _ => HS.out) ?_
                      clear hKK KK
                      simp only [List.setIfInBounds_toArray, List.set_cons_zero, List.set_cons_succ]
                      refine wpTill_done (by kernel_rfl) ?_ _
                      (try simp only [noPanic])
                      simp only [Exit.then]
                      exact HKEY.out _ P Q A3 x3 B3 y3 A4 x4 B4 y4 ⟨HW.out, hNP, hNQ, HP.out, HQ.out, HR.out, HT.out⟩
          · rw [if_pos (by rfl)]
            go_simp
            have hb := below_box W (.cells #[.int .i64 0, .slice none 0 0, .slice none 0 0] 36)
            have hz := heap_alloc_new W (.cells #[.int .i64 0, .slice none 0 0, .slice none 0 0] 36)
            obtain ⟨Q, hQ⟩ : ∃ P, W.heap.size = P := ⟨_, rfl⟩
            rw [hQ] at hz ⊢
            have hNQ : w.heap.size ≤ Q := by rw [← hQ]; exact HW.out.size
            have hXQ : X < Q := by rw [← hQ]; exact (Array.getElem?_eq_some_iff.1 HS.out).1
            replace HW := Lib.hid (HW.out.trans (hb.mono HW.out.size))
            replace HS := Lib.hid (blk_next hb HS.out)
            have HQ := Lib.hid hz
            clear hz hb
            refine hKK _ _ (fun _ => HS.out) ?_
            clear hKK KK hQ
            simp only [List.setIfInBounds_toArray, List.set_cons_zero, List.set_cons_succ]
            generalize W.alloc (.cells #[.int .i64 0, .slice none 0 0, .slice none 0 0] 36) = W44 at HW HS HQ ⊢
            refine wpTill_ready (rs := [1, 4]) (by kernel_rfl) (by simp) ?_
            refine (AllTill.cons rfl (fun KK hKK => ?_) (AllTill.cons rfl (fun KK hKK => ?_) AllTill.nil))
            · rw [if_pos (by rfl)]
              go_simp
              refine (HCL.out _ HW.out).mono ?_
              rintro e W45 ⟨A3, x3, B3, y3, rfl, hr, hn, hm, hb, -⟩
              have HRQ := Lib.hid (RowOff.fresh (hs := rc.heads) (bd := rc.body) hn hm (Array.getElem?_eq_some_iff.1 HQ.out).1)
              replace HW := Lib.hid (HW.out.trans (hb.mono HW.out.size))
              replace HS := Lib.hid (blk_next hb HS.out)
              replace HQ := Lib.hid (blk_next hb HQ.out)
              have HR := Lib.hid hr
              clear hr hn hm hb
              refine hKK _ _ (fun _ => HS.out) ?_
              clear hKK KK
              simp only [List.setIfInBounds_toArray, List.set_cons_zero, List.set_cons_succ]
              refine wpTill_ready (rs := [3, 4]) (by kernel_rfl) (by simp) ?_
              refine (AllTill.cons rfl (fun KK hKK => ?_) (AllTill.cons rfl (fun KK hKK => ?_) AllTill.nil))
              · rw [if_pos (by rfl)]
                go_simp
                refine (HCL.out _ HW.out).mono ?_
                rintro e W46 ⟨A4, x4, B4, y4, rfl, hr, hn, hm, hb, -⟩
                have HTQ := Lib.hid (RowOff.fresh (hs := rc.heads) (bd := rc.body) hn hm (Array.getElem?_eq_some_iff.1 HQ.out).1)
                replace HW := Lib.hid (HW.out.trans (hb.mono HW.out.size))
                replace HS := Lib.hid (blk_next hb HS.out)
                replace HR := Lib.hid (HR.out.next hb)
                replace HQ := Lib.hid (blk_next hb HQ.out)
                have HT := Lib.hid hr
                clear hr hn hm hb
                refine hKK _ _ (fun _ => HS.out) ?_
                clear hKK KK
                simp only [List.setIfInBounds_toArray, List.set_cons_zero, List.set_cons_succ]
                refine wpTill_ready (rs := [4]) (by kernel_rfl) (by simp) ?_
                refine (AllTill.cons rfl (fun KK hKK => ?_) AllTill.nil)
                · rw [if_pos (by rfl)]
                  go_simp
                  have hb := below_box W46 (.cells #[.int .i64 0, .slice none 0 0, .slice none 0 0] 36)
                  have hz := heap_alloc_new W46 (.cells #[.int .i64 0, .slice none 0 0, .slice none 0 0] 36)
                  obtain ⟨P, hP⟩ : ∃ P, W46.heap.size = P := ⟨_, rfl⟩
                  rw [hP] at hz ⊢
                  have hNP : w.heap.size ≤ P := by rw [← hP]; exact HW.out.size
                  have hXP : X < P := by rw [← hP]; exact (Array.getElem?_eq_some_iff.1 HS.out).1
                  have hPQ : Q < P := by rw [← hP]; exact (Array.getElem?_eq_some_iff.1 HQ.out).1
                  have HRP := Lib.hid (RowOff.lt HR.out.heads HR.out.body (Nat.le_of_eq hP))
                  have HTP := Lib.hid (RowOff.lt HT.out.heads HT.out.body (Nat.le_of_eq hP))
                  replace HW := Lib.hid (HW.out.trans (hb.mono HW.out.size))
                  replace HS := Lib.hid (blk_next hb HS.out)
                  replace HR := Lib.hid (HR.out.next hb)
                  replace HT := Lib.hid (HT.out.next hb)
                  replace HQ := Lib.hid (blk_next hb HQ.out)
                  have HP := Lib.hid hz
                  clear hz hb
                  refine hKK _ _ (fun _ => HS.out) ?_
                  clear hKK KK hP
                  simp only [List.setIfInBounds_toArray, List.set_cons_zero, List.set_cons_succ]
                  generalize W46.alloc (.cells #[.int .i64 0, .slice none 0 0, .slice none 0 0] 36) = W47 at HW HS HR HT HQ HP ⊢
                  refine wpTill_ready (rs := [6]) (by kernel_rfl) (by simp) ?_
                  refine (AllTill.cons rfl (fun KK hKK => ?_) AllTill.nil)
                  · rw [if_pos (by rfl)]
                    obtain ⟨c0, c1, c2⟩ := blk3 HP.out
                    obtain ⟨f0, f1, f2⟩ := blk3_free HP.out
                    go_simp
                    have hst := rp_set (x := .int .i64 rc.status) (y := .slice A3 rc.heads.length x3) (z := .slice B3 rc.body.length y3) HP.out
                    clear c0 c1 c2 f0 f1 f2
                    obtain ⟨W48, hW48⟩ : ∃ W, (((W47.setCell ⟨P, 0, none⟩ (.int .i64 rc.status)).setCell ⟨P, 1, none⟩ (.slice A3 rc.heads.length x3)).setCell ⟨P, 2, none⟩ (.slice B3 rc.body.length y3)) = W := ⟨_, rfl⟩
                    rw [hW48] at hst ⊢
                    clear hW48
                    obtain ⟨hk, hz⟩ := hst
                    replace HW := Lib.hid (HW.out.trans (hk.to HW.out.size (by simpa using hNP)))
                    replace HS := Lib.hid (hk.blk HS.out (by simp; omega))
                    replace HR := Lib.hid (HR.out.put hk HRP.out)
                    replace HT := Lib.hid (HT.out.put hk HTP.out)
                    replace HQ := Lib.hid (hk.blk HQ.out (by simp; omega))
                    replace HP := Lib.hid hz
                    clear hk hz
                    refine hKK _ _ (fun _ => HS.out) ?_
                    clear hKK KK
                    simp only [List.setIfInBounds_toArray, List.set_cons_zero, List.set_cons_succ]
                    refine wpTill_ready (rs := [7]) (by kernel_rfl) (by simp) ?_
                    refine (AllTill.cons rfl (fun KK hKK => ?_) AllTill.nil)
                    · rw [if_pos (by rfl)]
                      obtain ⟨c0, c1, c2⟩ := blk3 HQ.out
                      obtain ⟨f0, f1, f2⟩ := blk3_free HQ.out
                      go_simp
                      have hst := rp_set (x := .int .i64 rc.status) (y := .slice A4 rc.heads.length x4) (z := .slice B4 rc.body.length y4) HQ.out
                      clear c0 c1 c2 f0 f1 f2
                      obtain ⟨W49, hW49⟩ : ∃ W, (((W48.setCell ⟨Q, 0, none⟩ (.int .i64 rc.status)).setCell ⟨Q, 1, none⟩ (.slice A4 rc.heads.length x4)).setCell ⟨Q, 2, none⟩ (.slice B4 rc.body.length y4)) = W := ⟨_, rfl⟩
                      rw [hW49] at hst ⊢
                      clear hW49
                      obtain ⟨hk, hz⟩ := hst
                      replace HW := Lib.hid (HW.out.trans (hk.to HW.out.size (by simpa using hNQ)))
                      replace HS := Lib.hid (hk.blk HS.out (by simp; omega))
                      replace HR := Lib.hid (HR.out.put hk HRQ.out)
                      replace HT := Lib.hid (HT.out.put hk HTQ.out)
                      replace HP := Lib.hid (hk.blk HP.out (by simp; omega))
                      replace HQ := Lib.hid hz
                      clear hk hz
                      refine hKK _ _ (fun _ => HS.out) ?_
                      clear hKK KK
                      simp only [List.setIfInBounds_toArray, List.set_cons_zero, List.set_cons_succ]
                      refine wpTill_done (by kernel_rfl) ?_ _
                      (try simp only [noPanic])
                      simp only [Exit.then]
                      exact HKEY.out _ P Q A3 x3 B3 y3 A4 x4 B4 y4 ⟨HW.out, hNP, hNQ, HP.out, HQ.out, HR.out, HT.out⟩
              · rw [if_pos (by rfl)]
                go_simp
                have hb := below_box W45 (.cells #[.int .i64 0, .slice none 0 0, .slice none 0 0] 36)
                have hz := heap_alloc_new W45 (.cells #[.int .i64 0, .slice none 0 0, .slice none 0 0] 36)
                obtain ⟨P, hP⟩ : ∃ P, W45.heap.size = P := ⟨_, rfl⟩
                rw [hP] at hz ⊢
                have hNP : w.heap.size ≤ P := by rw [← hP]; exact HW.out.size
                have hXP : X < P := by rw [← hP]; exact (Array.getElem?_eq_some_iff.1 HS.out).1
                have hPQ : Q < P := by rw [← hP]; exact (Array.getElem?_eq_some_iff.1 HQ.out).1
                have HRP := Lib.hid (RowOff.lt HR.out.heads HR.out.body (Nat.le_of_eq hP))
                replace HW := Lib.hid (HW.out.trans (hb.mono HW.out.size))
                replace HS := Lib.hid (blk_next hb HS.out)
                replace HR := Lib.hid (HR.out.next hb)
                replace HQ := Lib.hid (blk_next hb HQ.out)
                have HP := Lib.hid hz
                clear hz hb
                refine hKK _ _ (fun _ => HS.out) ?_
                clear hKK KK hP
                simp only [List.setIfInBounds_toArray, List.set_cons_zero, List.set_cons_succ]
                generalize W45.alloc (.cells #[.int .i64 0, .slice none 0 0, .slice none 0 0] 36) = W50 at HW HS HR HQ HP ⊢
                refine wpTill_ready (rs := [3]) (by kernel_rfl) (by simp) ?_
                refine (AllTill.cons rfl (fun KK hKK => ?_) AllTill.nil)
                · rw [if_pos (by rfl)]
                  go_simp
                  refine (HCL.out _ HW.out).mono ?_
                  rintro e W51 ⟨A4, x4, B4, y4, rfl, hr, hn, hm, hb, -⟩
                  have HTP := Lib.hid (RowOff.fresh (hs := rc.heads) (bd := rc.body) hn hm (Array.getElem?_eq_some_iff.1 HP.out).1)
                  have HTQ := Lib.hid (RowOff.fresh (hs := rc.heads) (bd := rc.body) hn hm (Array.getElem?_eq_some_iff.1 HQ.out).1)
                  replace HW := Lib.hid (HW.out.trans (hb.mono HW.out.size))
                  replace HS := Lib.hid (blk_next hb HS.out)
                  replace HR := Lib.hid (HR.out.next hb)
                  replace HP := Lib.hid (blk_next hb HP.out)
                  replace HQ := Lib.hid (blk_next hb HQ.out)
                  have HT := Lib.hid hr
                  clear hr hn hm hb
                  refine hKK _ _ (fun _ => HS.out) ?_
                  clear hKK KK
                  simp only [List.setIfInBounds_toArray, List.set_cons_zero, List.set_cons_succ]
                  refine wpTill_ready (rs := [6]) (by kernel_rfl) (by simp) ?_
                  refine (AllTill.cons rfl (fun KK hKK => ?_) AllTill.nil)
                  · rw [if_pos (by rfl)]
                    obtain ⟨c0, c1, c2⟩ := blk3 HP.out
                    obtain ⟨f0, f1, f2⟩ := blk3_free HP.out
                    go_simp
                    have hst := rp_set (x := .int .i64 rc.status) (y := .slice A3 rc.heads.length x3) (z := .slice B3 rc.body.length y3) HP.out
                    clear c0 c1 c2 f0 f1 f2
                    obtain ⟨W52, hW52⟩ : ∃ W, (((W51.setCell ⟨P, 0, none⟩ (.int .i64 rc.status)).setCell ⟨P, 1, none⟩ (.slice A3 rc.heads.length x3)).setCell ⟨P, 2, none⟩ (.slice B3 rc.body.length y3)) = W := ⟨_, rfl⟩
                    rw [hW52] at hst ⊢
                    clear hW52
                    obtain ⟨hk, hz⟩ := hst
                    replace HW := Lib.hid (HW.out.trans (hk.to HW.out.size (by simpa using hNP)))
                    replace HS := Lib.hid (hk.blk HS.out (by simp; omega))
                    replace HR := Lib.hid (HR.out.put hk HRP.out)
                    replace HT := Lib.hid (HT.out.put hk HTP.out)
                    replace HQ := Lib.hid (hk.blk HQ.out (by simp; omega))
                    replace HP := Lib.hid hz
                    clear hk hz
                    refine hKK _ _ (fun _ => HS.out) ?_
                    clear hKK KK
                    simp only [List.setIfInBounds_toArray, List.set_cons_zero, List.set_cons_succ]
                    refine wpTill_ready (rs := [7]) (by kernel_rfl) (by simp) ?_
                    refine (AllTill.cons rfl (fun KK hKK => ?_) AllTill.nil)
                    · rw [if_pos (by rfl)]
                      obtain ⟨c0, c1, c2⟩ := blk3 HQ.out
                      obtain ⟨f0, f1, f2⟩ := blk3_free HQ.out
                      go_simp
                      have hst := rp_set (x := .int .i64 rc.status) (y := .slice A4 rc.heads.length x4) (z := .slice B4 rc.body.length y4) HQ.out
                      clear c0 c1 c2 f0 f1 f2
                      obtain ⟨W53, hW53⟩ : ∃ W, (((W52.setCell ⟨Q, 0, none⟩ (.int .i64 rc.status)).setCell ⟨Q, 1, none⟩ (.slice A4 rc.heads.length x4)).setCell ⟨Q, 2, none⟩ (.slice B4 rc.body.length y4)) = W := ⟨_, rfl⟩
                      rw [hW53] at hst ⊢
                      clear hW53
                      obtain ⟨hk, hz⟩ := hst
                      replace HW := Lib.hid (HW.out.trans (hk.to HW.out.size (by simpa using hNQ)))
                      replace HS := Lib.hid (hk.blk HS.out (by simp; omega))
                      replace HR := Lib.hid (HR.out.put hk HRQ.out)
                      replace HT := Lib.hid (HT.out.put hk HTQ.out)
                      replace HP := Lib.hid (hk.blk HP.out (by simp; omega))
                      replace HQ := Lib.hid hz
                      clear hk hz
                      refine hKK _ _ (fun _ => HS.out) ?_
                      clear hKK KK
                      simp only [List.setIfInBounds_toArray, List.set_cons_zero, List.set_cons_succ]
                      refine wpTill_done (by kernel_rfl) ?_ _
                      (try simp only [noPanic])
                      simp only [Exit.then]
                      exact HKEY.out _ P Q A3 x3 B3 y3 A4 x4 B4 y4 ⟨HW.out, hNP, hNQ, HP.out, HQ.out, HR.out, HT.out⟩
            · rw [if_pos (by rfl)]
              go_simp
              have hb := below_box W44 (.cells #[.int .i64 0, .slice none 0 0, .slice none 0 0] 36)
              have hz := heap_alloc_new W44 (.cells #[.int .i64 0, .slice none 0 0, .slice none 0 0] 36)
              obtain ⟨P, hP⟩ : ∃ P, W44.heap.size = P := ⟨_, rfl⟩
              rw [hP] at hz ⊢
              have hNP : w.heap.size ≤ P := by rw [← hP]; exact HW.out.size
              have hXP : X < P := by rw [← hP]; exact (Array.getElem?_eq_some_iff.1 HS.out).1
              have hPQ : Q < P := by rw [← hP]; exact (Array.getElem?_eq_some_iff.1 HQ.out).1
              replace HW := Lib.hid (HW.out.trans (hb.mono HW.out.size))
              replace HS := Lib.hid (blk_next hb HS.out)
              replace HQ := Lib.hid (blk_next hb HQ.out)
              have HP := Lib.hid hz
              clear hz hb
              refine hKK _ _ (fun _ => HS.out) ?_
              clear hKK KK hP
              simp only [List.setIfInBounds_toArray, List.set_cons_zero, List.set_cons_succ]
              generalize W44.alloc (.cells #[.int .i64 0, .slice none 0 0, .slice none 0 0] 36) = W54 at HW HS HQ HP ⊢
              refine wpTill_ready (rs := [1]) (by kernel_rfl) (by simp) ?_
              refine (AllTill.cons rfl (fun KK hKK => ?_) AllTill.nil)
              · rw [if_pos (by rfl)]
                go_simp
                refine (HCL.out _ HW.out).mono ?_
                rintro e W55 ⟨A3, x3, B3, y3, rfl, hr, hn, hm, hb, -⟩
                have HRP := Lib.hid (RowOff.fresh (hs := rc.heads) (bd := rc.body) hn hm (Array.getElem?_eq_some_iff.1 HP.out).1)
                have HRQ := Lib.hid (RowOff.fresh (hs := rc.heads) (bd := rc.body) hn hm (Array.getElem?_eq_some_iff.1 HQ.out).1)
                replace HW := Lib.hid (HW.out.trans (hb.mono HW.out.size))
                replace HS := Lib.hid (blk_next hb HS.out)
                replace HP := Lib.hid (blk_next hb HP.out)
                replace HQ := Lib.hid (blk_next hb HQ.out)
                have HR := Lib.hid hr
                clear hr hn hm hb
                refine hKK _ _ (fun _ => HS.out) ?_
                clear hKK KK
                simp only [List.setIfInBounds_toArray, List.set_cons_zero, List.set_cons_succ]
                refine wpTill_ready (rs := [3]) (by kernel_rfl) (by simp) ?_
                refine (AllTill.cons rfl (fun KK hKK => ?_) AllTill.nil)
                · rw [if_pos (by rfl)]
                  go_simp
                  refine (HCL.out _ HW.out).mono ?_
                  rintro e W56 ⟨A4, x4, B4, y4, rfl, hr, hn, hm, hb, -⟩
                  have HTP := Lib.hid (RowOff.fresh (hs := rc.heads) (bd := rc.body) hn hm (Array.getElem?_eq_some_iff.1 HP.out).1)
                  have HTQ := Lib.hid (RowOff.fresh (hs := rc.heads) (bd := rc.body) hn hm (Array.getElem?_eq_some_iff.1 HQ.out).1)
                  replace HW := Lib.hid (HW.out.trans (hb.mono HW.out.size))
                  replace HS := Lib.hid (blk_next hb HS.out)
                  replace HR := Lib.hid (HR.out.next hb)
                  replace HP := Lib.hid (blk_next hb HP.out)
                  replace HQ := Lib.hid (blk_next hb HQ.out)
                  have HT := Lib.hid hr
                  clear hr hn hm hb
                  refine hKK _ _ (fun _ => HS.out) ?_
                  clear hKK KK
                  simp only [List.setIfInBounds_toArray, List.set_cons_zero, List.set_cons_succ]
                  refine wpTill_ready (rs := [6]) (by kernel_rfl) (by simp) ?_
                  refine (AllTill.cons rfl (fun KK hKK => ?_) AllTill.nil)
                  · rw [if_pos (by rfl)]
                    obtain ⟨c0, c1, c2⟩ := blk3 HP.out
                    obtain ⟨f0, f1, f2⟩ := blk3_free HP.out
                    go_simp
                    have hst := rp_set (x := .int .i64 rc.status) (y := .slice A3 rc.heads.length x3) (z := .slice B3 rc.body.length y3) HP.out
                    clear c0 c1 c2 f0 f1 f2
                    obtain ⟨W57, hW57⟩ : ∃ W, (((W56.setCell ⟨P, 0, none⟩ (.int .i64 rc.status)).setCell ⟨P, 1, none⟩ (.slice A3 rc.heads.length x3)).setCell ⟨P, 2, none⟩ (.slice B3 rc.body.length y3)) = W := ⟨_, rfl⟩
                    rw [hW57] at hst ⊢
                    clear hW57
                    obtain ⟨hk, hz⟩ := hst
                    replace HW := Lib.hid (HW.out.trans (hk.to HW.out.size (by simpa using hNP)))
                    replace HS := Lib.hid (hk.blk HS.out (by simp; omega))
                    replace HR := Lib.hid (HR.out.put hk HRP.out)
                    replace HT := Lib.hid (HT.out.put hk HTP.out)
                    replace HQ := Lib.hid (hk.blk HQ.out (by simp; omega))
                    replace HP := Lib.hid hz
                    clear hk hz
                    refine hKK _ _ (fun _ => HS.out) ?_
                    clear hKK KK
                    simp only [List.setIfInBounds_toArray, List.set_cons_zero, List.set_cons_succ]
                    refine wpTill_ready (rs := [7]) (by kernel_rfl) (by simp) ?_
                    refine (AllTill.cons rfl (fun KK hKK => ?_) AllTill.nil)
                    · rw [if_pos (by rfl)]
                      obtain ⟨c0, c1, c2⟩ := blk3 HQ.out
                      obtain ⟨f0, f1, f2⟩ := blk3_free HQ.out
                      go_simp
                      have hst := rp_set (x := .int .i64 rc.status) (y := .slice A4 rc.heads.length x4) (z := .slice B4 rc.body.length y4) HQ.out
                      clear c0 c1 c2 f0 f1 f2
                      obtain ⟨W58, hW58⟩ : ∃ W, (((W57.setCell ⟨Q, 0, none⟩ (.int .i64 rc.status)).setCell ⟨Q, 1, none⟩ (.slice A4 rc.heads.length x4)).setCell ⟨Q, 2, none⟩ (.slice B4 rc.body.length y4)) = W := ⟨_, rfl⟩
                      rw [hW58] at hst ⊢
                      clear hW58
                      obtain ⟨hk, hz⟩ := hst
                      replace HW := Lib.hid (HW.out.trans (hk.to HW.out.size (by simpa using hNQ)))
                      replace HS := Lib.hid (hk.blk HS.out (by simp; omega))
                      replace HR := Lib.hid (HR.out.put hk HRQ.out)
                      replace HT := Lib.hid (HT.out.put hk HTQ.out)
                      replace HP := Lib.hid (hk.blk HP.out (by simp; omega))
                      replace HQ := Lib.hid hz
                      clear hk hz
                      refine hKK _ _ (fun _ => HS.out) ?_
                      clear hKK KK
                      simp only [List.setIfInBounds_toArray, List.set_cons_zero, List.set_cons_succ]
                      refine wpTill_done (by kernel_rfl) ?_ _
                      (try simp only [noPanic])
                      simp only [Exit.then]
                      exact HKEY.out _ P Q A3 x3 B3 y3 A4 x4 B4 y4 ⟨HW.out, hNP, hNQ, HP.out, HQ.out, HR.out, HT.out⟩
        clear HCL HS HW
        intro W P Q A3 x3 B3 y3 A4 x4 B4 y4 hF
        obtain ⟨hW, hNP, hNQ, hP, hQ, hR, hT⟩ := hF
        have HW := Lib.hid hW
        have HP := Lib.hid hP
        have HQ := Lib.hid hQ
        have HR := Lib.hid hR
        have HT := Lib.hid hT
        clear hW hP hQ hR hT
        obtain ⟨q, hq⟩ : ∃ q, (decide (200 ≤ rc.status) && decide (rc.status ≤ 599) && Ht.checkedB rc.heads rc.body) = q := ⟨_, rfl⟩
        have hpl := print_rsp rc hq
        have HPR := Lib.hid (printRsp_any rc A3 x3 B3 y3 W (HE.out W HW.out) HR.out)
        have HQR := Lib.hid (fun W' (hb : Below W.heap.size W W') => refRightRsp_any rc A4 x4 B4 y4 W' (HT.out.next hb) hq)
        have HSM := Lib.hid (fun W' (hb : Below W.heap.size W W') => refSameRsp_any rc rc A3 x3 B3 y3 A4 x4 B4 y4 W' (HR.out.next hb) (HT.out.next hb) (q := true) (by simp))
        have HHD := Lib.hid (fun W' (hb : Below W.heap.size W W') (h0 : 0 ≤ rc.status) => refRspHead_any rc A4 x4 B4 y4 W' (HT.out.next hb) h0)
        have HST : Hid (q = true → 0 ≤ rc.status) := Lib.hid (fun h => by rw [← hq] at h; simp at h; omega)
        have HBD := Lib.hid (fun W' (hb : Below W.heap.size W W') => toStr (HT.out.next hb).body y4)
        have hbl := HR.out.bl
        have HHL : Hid ((Ht.headOf (Ht.firstRsp rc) rc.heads rc.body.length).length ≤ 9223372036854775000) := Lib.hid (rp_len HR.out)
        unfold Ht.printedOf at hpl
        generalize Ht.headOf (Ht.firstRsp rc) rc.heads rc.body.length = hd at hpl HHD HHL
        obtain ⟨pr, hpr⟩ : ∃ pr, Ht.printRsp rc = pr := ⟨_, rfl⟩
        rw [hpr] at hpl HPR
        clear hpr
        obtain ⟨pb, pe⟩ := pr
        obtain ⟨c0, c1, c2⟩ := blk3 HP.out
        go_wp2_with fail
        refine HPR.out.mono ?_
        rintro e W1 ⟨v, rfl, hO, hb1⟩
        obtain ⟨Ab, cb, rfl, hcb, hcc, hsr⟩ := hO.srow
        have HBW := Lib.hid hb1
        have HCC := Lib.hid hcc
        have HSR := Lib.hid hsr
        clear hO hb1 hcc hsr HPR c0 c1 c2
        obtain ⟨c0, c1, c2⟩ := blk3 (blk_next HBW.out HP.out)
        obtain ⟨d0, d1, d2⟩ := blk3 (blk_next HBW.out HQ.out)
        go_wp2_with fail
        refine (HSM.out _ HBW.out).mono ?_
        rintro e W2 ⟨rfl, hb⟩
        replace HCC := Lib.hid (HCC.out.next hb (Nat.le_refl _))
        replace HSR := Lib.hid (HSR.out.next hb)
        replace HBW := Lib.hid (HBW.out.trans (hb.mono HBW.out.size))
        clear hb c0 c1 c2 d0 d1 d2
        obtain ⟨c0, c1, c2⟩ := blk3 (blk_next HBW.out HP.out)
        obtain ⟨d0, d1, d2⟩ := blk3 (blk_next HBW.out HQ.out)
        go_wp2_with fail
        refine (HQR.out _ HBW.out).mono ?_
        rintro e W3 ⟨rfl, hb⟩
        replace HCC := Lib.hid (HCC.out.next hb (Nat.le_refl _))
        replace HSR := Lib.hid (HSR.out.next hb)
        replace HBW := Lib.hid (HBW.out.trans (hb.mono HBW.out.size))
        clear hb c0 c1 c2 d0 d1 d2
        obtain ⟨c0, c1, c2⟩ := blk3 (blk_next HBW.out HP.out)
        obtain ⟨d0, d1, d2⟩ := blk3 (blk_next HBW.out HQ.out)
        have hkb := toStr HCC.out cb
        have hkd := HBD.out _ HBW.out
        cases q
        · simp only [Bool.false_eq_true, if_false, Prod.mk.injEq] at hpl
          obtain ⟨rfl, rfl⟩ := hpl
          simp only [List.length_nil] at HSR hcb ⊢
          go_wp2_with fail
          go_loopw [72] (fun i wr => ∃ j : Nat, j ≤ 0 ∧ i = .int .i64 j ∧ Hid (Below W.heap.size W wr) ∧ Hid (SRow W.heap.size Ab 0 wr)) (fun i _ => 0 - (intOf i).toNat)
          case atStart => exact ⟨0, Nat.zero_le _, rfl, HBW, HSR⟩
          case round =>
            obtain ⟨j, hj, rfl, HBr, HSr⟩ := hrel
            by_cases hjl : j < 0
            · exact absurd hjl (by omega)
            · obtain rfl : j = 0 := by omega
              clear c0 c1 c2 d0 d1 d2
              obtain ⟨c0, c1, c2⟩ := blk3 (blk_next HBr.out HP.out)
              obtain ⟨d0, d1, d2⟩ := blk3 (blk_next HBr.out HQ.out)
              go_wp2_with fail
              refine (HSM.out _ HBr.out).mono ?_
              rintro e W9 ⟨rfl, hb⟩
              replace HBr := Lib.hid (HBr.out.trans (hb.mono HBr.out.size))
              have HWr := Lib.hid (HW.out.trans (HBr.out.mono HW.out.size))
              clear hb
              go_wp2_with fail
              go_roundw
              case rel => exact ⟨k + 1, by omega, by omega, by go_num, HWr⟩
              case measure => simp [intOf]; omega
        · simp only [if_true] at hpl
          go_wp2_with fail
          refine (HHD.out _ HBW.out (HST.out (by simp))).mono ?_
          rintro e W4 ⟨rfl, hb⟩
          replace HCC := Lib.hid (HCC.out.next hb (Nat.le_refl _))
          replace HSR := Lib.hid (HSR.out.next hb)
          replace HBW := Lib.hid (HBW.out.trans (hb.mono HBW.out.size))
          clear hb c0 c1 c2 d0 d1 d2
          obtain ⟨c0, c1, c2⟩ := blk3 (blk_next HBW.out HP.out)
          obtain ⟨d0, d1, d2⟩ := blk3 (blk_next HBW.out HQ.out)
          clear hkb hkd
          have hkb := toStr HCC.out cb
          have hkd := HBD.out _ HBW.out
          have hhl := HHL.out
          by_cases h2 : 2048 < hd.length
          · rw [if_pos h2] at hpl
            simp only [Prod.mk.injEq] at hpl
            obtain ⟨rfl, rfl⟩ := hpl
            simp only [List.length_nil] at HSR hcb ⊢
            go_wp2_with fail
            go_loopw [72] (fun i wr => ∃ j : Nat, j ≤ 0 ∧ i = .int .i64 j ∧ Hid (Below W.heap.size W wr) ∧ Hid (SRow W.heap.size Ab 0 wr)) (fun i _ => 0 - (intOf i).toNat)
            case atStart => exact ⟨0, Nat.zero_le _, rfl, HBW, HSR⟩
            case round =>
              obtain ⟨j, hj, rfl, HBr, HSr⟩ := hrel
              by_cases hjl : j < 0
              · exact absurd hjl (by omega)
              · obtain rfl : j = 0 := by omega
                clear c0 c1 c2 d0 d1 d2
                obtain ⟨c0, c1, c2⟩ := blk3 (blk_next HBr.out HP.out)
                obtain ⟨d0, d1, d2⟩ := blk3 (blk_next HBr.out HQ.out)
                go_wp2_with fail
                refine (HSM.out _ HBr.out).mono ?_
                rintro e W9 ⟨rfl, hb⟩
                replace HBr := Lib.hid (HBr.out.trans (hb.mono HBr.out.size))
                have HWr := Lib.hid (HW.out.trans (HBr.out.mono HW.out.size))
                clear hb
                go_wp2_with fail
                go_roundw
                case rel => exact ⟨k + 1, by omega, by omega, by go_num, HWr⟩
                case measure => simp [intOf]; omega
          · rw [if_neg h2] at hpl
            simp only [Prod.mk.injEq] at hpl
            obtain ⟨hpb, rfl⟩ := hpl
            have HPB := Lib.hid hpb
            clear hpb
            have hpbl : pb.length ≤ 1050624 := by rw [HPB.out, List.length_append]; omega
            have hcmp : (!pb == ((⟨hd.toArray⟩ : ByteArray) ++ ⟨rc.body.toArray⟩).toList) = false := by rw [app_bs, Lib.toList_data, ← HPB.out]; simp
            go_wp2_with fail
            go_loopw [72] (fun i wr => ∃ j : Nat, j ≤ pb.length ∧ i = .int .i64 j ∧ Hid (Below W.heap.size W wr) ∧ Hid (SRow W.heap.size Ab pb.length wr)) (fun i _ => pb.length - (intOf i).toNat)
            case atStart => exact ⟨0, Nat.zero_le _, rfl, HBW, HSR⟩
            case round =>
              obtain ⟨j, hj, rfl, HBr, HSr⟩ := hrel
              by_cases hjl : j < pb.length
              · obtain ⟨g, cs, rfl, hg1, hg2, hg3⟩ := HSr.out (by omega)
                obtain ⟨z, hz⟩ := hg3 j hjl
                have hz2 : wr.cell? ⟨g, j, none⟩ = some (.int .u8 z) := by rw [blk_cells hg2]; exact hz
                have hfr := blk_free hg2 j
                have HST := Lib.hid (fun y : Int => SRow.set (n := pb.length) (j := j) y hg1 hg2 hg3)
                clear hg2 hg3 hz
                go_wp2_with fail
                go_roundw
                case rel => exact ⟨j + 1, by omega, by go_num, Lib.hid (HBr.out.trans ((HST.out _).2.to HBr.out.size (by simpa using hg1))), Lib.hid (HST.out _).1⟩
                case measure => simp [intOf]; omega
              · obtain rfl : j = pb.length := by omega
                clear c0 c1 c2 d0 d1 d2
                obtain ⟨c0, c1, c2⟩ := blk3 (blk_next HBr.out HP.out)
                obtain ⟨d0, d1, d2⟩ := blk3 (blk_next HBr.out HQ.out)
                go_wp2_with fail
                refine (HSM.out _ HBr.out).mono ?_
                rintro e W9 ⟨rfl, hb⟩
                replace HBr := Lib.hid (HBr.out.trans (hb.mono HBr.out.size))
                have HWr := Lib.hid (HW.out.trans (HBr.out.mono HW.out.size))
                clear hb
                go_wp2_with fail
                go_roundw
                case rel => exact ⟨k + 1, by omega, by omega, by go_num, HWr⟩
                case measure => simp [intOf]; omega
    · obtain rfl : k = l.length := by omega
      go_wp2_with fail
      go_ret
      exact ⟨rfl, HW.out⟩
end Go.Proofs.YtoadahommlcjpaaGreatDoor
