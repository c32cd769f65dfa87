/-
  THE WALKS: PrintResponse of package http. CONDITIONS: rows lie as said; lengths.
-/
import Derived.Test.YtoadahommlcjpaaGreatDoorWN
namespace Go.Proofs.YtoadahommlcjpaaGreatDoor
open Go.RowKit
/-- A response in memory: its rows, and that it is not too long. -/
structure RspAt (w : World) (r : Ht.Rsp) (A B : Option Addr) : Prop where
  heads : HdsAt w A r.heads
  body : CellsAt w B (Lib.byteCells r.body)
  hl : r.heads.length ≤ 1048576
  hL : HdsLen r.heads
  bl : r.body.length ≤ 1048576
  s0 : -9223372036854775808 ≤ r.status
  s1 : r.status ≤ 9223372036854775807
  fl : (r.heads.flatMap Ht.hdLine).length ≤ 1099511627776
theorem RspAt.next {w w' : World} {r : Ht.Rsp} {A B : Option Addr} (h : RspAt w r A B) (hb : Below w.heap.size w w') : RspAt w' r A B :=
  ⟨h.heads.next hb (Nat.le_refl _), h.body.next hb (Nat.le_refl _), h.hl, h.hL, h.bl, h.s0, h.s1, h.fl⟩
abbrev rspV (r : Ht.Rsp) (A : Option Addr) (c : Nat) (B : Option Addr) (d : Nat) : Value := .agg #[.int .i64 r.status, .slice A r.heads.length c, .slice B r.body.length d]
theorem blk3 {w : World} {b : Nat} {t : TypeId} {x y z : Value} (h : w.heap[b]? = some (.cells #[x, y, z] t (0, 0))) :
    w.cell? ⟨b, 0, none⟩ = some x ∧ w.cell? ⟨b, 1, none⟩ = some y ∧ w.cell? ⟨b, 2, none⟩ = some z :=
  ⟨by rw [blk_cells h 0]; rfl, by rw [blk_cells h 1]; rfl, by rw [blk_cells h 2]; rfl⟩
theorem reason_len (n : Int) : (Ht.reasonOf n).length ≤ 40 := by
  by_cases h200 : n = 200
  · subst h200; decide
  by_cases h201 : n = 201
  · subst h201; decide
  by_cases h400 : n = 400
  · subst h400; decide
  by_cases h403 : n = 403
  · subst h403; decide
  by_cases h404 : n = 404
  · subst h404; decide
  by_cases h405 : n = 405
  · subst h405; decide
  by_cases h409 : n = 409
  · subst h409; decide
  by_cases h413 : n = 413
  · subst h413; decide
  by_cases h422 : n = 422
  · subst h422; decide
  by_cases h431 : n = 431
  · subst h431; decide
  by_cases h500 : n = 500
  · subst h500; decide
  by_cases h501 : n = 501
  · subst h501; decide
  by_cases h503 : n = 503
  · subst h503; decide
  by_cases h507 : n = 507
  · subst h507; decide
  have h : Ht.reasonOf n = [85, 110, 107, 110, 111, 119, 110] := by simp [Ht.reasonOf, h200, h201, h400, h403, h404, h405, h409, h413, h422, h431, h500, h501, h503, h507]
  rw [h]; decide
set_option maxRecDepth 100000 in
set_option maxHeartbeats 4000000 in
theorem printRsp_any (r : Ht.Rsp) (A : Option Addr) (c : Nat) (B : Option Addr) (d : Nat) (w : World) (henv : Env w) (h : RspAt w r A B) :
    Calls Tryz.prog 17 #[rspV r A c B d] w (PrintOut w (Ht.printRsp r)) := by
  obtain ⟨R, hR⟩ : ∃ R, Ht.printRsp r = R := ⟨_, rfl⟩
  rw [hR]
  obtain ⟨s, hs, bd⟩ := r
  have hs0 := h.s0
  have hs1 := h.s1
  dsimp only [rspV] at hs0 hs1 ⊢
  obtain ⟨q3, hq3⟩ : ∃ q, Ht.checkedB hs bd = q := ⟨_, rfl⟩
  have HR : Hid (R = if decide (200 ≤ s) && decide (s ≤ 599) && q3 then Ht.printedOf hs bd (Ht.verW ++ 32 :: (Lib.itoa s ++ 32 :: Ht.reasonOf s)) else ([], 2)) := Lib.hid (by
    rw [← hR]; unfold Ht.printRsp Ht.firstRsp; rw [hq3])
  have HB0 := Lib.hid (heap_alloc_new w (.cells #[.int .i64 s, .slice A hs.length c, .slice B bd.length d] 36))
  have HW0 := Lib.hid (below_box w (.cells #[.int .i64 s, .slice A hs.length c, .slice B bd.length d] 36))
  have HA := Lib.hid h
  have HE := Lib.hid henv
  have H3 := Lib.hid (fun W (hW : Below w.heap.size w W) => checked_any hs A c bd B d W h.hl (h.next hW).heads h.hL h.bl hq3)
  clear hq3 hR h henv
  go_enter Tryz.func17, Tryz.ntmps17
  by_cases h2 : s < 200
  · have hr := HR.out
    rw [if_neg (by simp; omega)] at hr
    have HRR := Lib.hid hr
    have HX := Lib.hid (PrintOut.err (w := w) HRR.out HW0.out)
    clear hr HR
    have c0 := (blk3 HB0.out).1
    go_wp2_with fail
    go_ret2
    exact HX.out
  · by_cases h5 : s ≤ 599
    · obtain ⟨c0, c1, c2⟩ := blk3 HB0.out
      go_wp2_with fail
      generalize w.alloc (.cells #[.int .i64 s, .slice A hs.length c, .slice B bd.length d] 36) = w1 at HB0 HW0 c0 c1 c2 ⊢
      refine (H3.out _ HW0.out).mono ?_
      rintro e w2 ⟨rfl, hb2⟩
      have HW2 := Lib.hid (HW0.out.trans (hb2.mono HW0.out.size))
      have HB2 := Lib.hid (blk_next hb2 HB0.out)
      clear hb2 HB0 HW0 c0 c1 c2
      obtain ⟨c0, c1, c2⟩ := blk3 HB2.out
      cases q3
      · have hr := HR.out
        simp only [Bool.and_false, Bool.false_eq_true, if_false] at hr
        have HRR := Lib.hid hr
        clear hr HR
        go_wp2_with fail
        go_ret2
        exact PrintOut.err HRR.out HW2.out
      · have hr := HR.out
        rw [if_pos (by simp; omega)] at hr
        have HRR := Lib.hid hr
        clear hr HR
        have HI := Lib.hid (fun W (hW : Below w2.heap.size w2 W) => itoa_any s (by omega) (by omega) W (HE.out.next (HW2.out.trans (hW.mono HW2.out.size))))
        have HRe := Lib.hid (fun W => reason_any s W)
        have hil : (Lib.itoa s).length ≤ 40 := by
          obtain ⟨k, rfl⟩ : ∃ k : Nat, s = k := ⟨s.toNat, (Int.toNat_of_nonneg (by omega)).symm⟩
          rw [Ht.itoa_nat]
          exact Nat.le_trans (Ht.dec_short 6 _ (by omega)) (by decide)
        have hrl := reason_len s
        have HP : Hid (∀ W : World, Below w2.heap.size w2 (W.alloc (.cells #[.string ⟨#[72, 84, 84, 80, 47, 49, 46, 49]⟩, .string ⟨(Lib.itoa s).toArray⟩, .string ⟨(Ht.reasonOf s).toArray⟩] 9)) → Calls Tryz.prog 44 #[.slice A hs.length c, .slice B bd.length d, .slice (some ⟨W.heap.size, 0, none⟩) 3 3] (W.alloc (.cells #[.string ⟨#[72, 84, 84, 80, 47, 49, 46, 49]⟩, .string ⟨(Lib.itoa s).toArray⟩, .string ⟨(Ht.reasonOf s).toArray⟩] 9)) fun e w' => PrintOut w R e w' ∧ Below w2.heap.size w2 w') := Lib.hid (fun W hW => by
          have hw4 := HW2.out.trans (hW.mono HW2.out.size)
          have hA3 := HA.out.next hw4
          have hg := heap_alloc_new W (.cells #[.string ⟨#[72, 84, 84, 80, 47, 49, 46, 49]⟩, .string ⟨(Lib.itoa s).toArray⟩, .string ⟨(Ht.reasonOf s).toArray⟩] 9)
          refine (printed_any hs A c bd B d Ht.verW (Lib.itoa s) (Ht.reasonOf s) W.heap.size _ (HE.out.next hw4) hA3.hl hA3.heads hA3.hL hA3.body hA3.bl hA3.fl (by simp [Ht.verW]; omega) (by simp) (fun j t hj => by
            rw [Nat.zero_add, blk_cells hg j]
            match j, hj with
            | 0, hj => simp at hj; subst hj; rfl
            | 1, hj => simp at hj; subst hj; rfl
            | 2, hj => simp at hj; subst hj; rfl)).mono ?_
          intro e w' hp
          rw [← HRR.out] at hp
          obtain ⟨v, _, _, hb⟩ := id hp
          exact ⟨hp.lower hw4, hW.trans (hb.mono hW.size)⟩)
        have HSW : Hid (∀ W, Below w2.heap.size w2 W → W.cell? ⟨w.heap.size, 0, none⟩ = some (.int .i64 s) ∧ W.cell? ⟨w.heap.size, 1, none⟩ = some (.slice A hs.length c) ∧ W.cell? ⟨w.heap.size, 2, none⟩ = some (.slice B bd.length d) ∧ Hid (Below w2.heap.size w2 W)) := Lib.hid (fun W hW => by
          obtain ⟨d0, d1, d2⟩ := blk3 (blk_next hW HB2.out)
          exact ⟨d0, d1, d2, Lib.hid hW⟩)
        generalize (⟨(Lib.itoa s).toArray⟩ : ByteArray) = S1 at HI HP
        generalize (⟨(Ht.reasonOf s).toArray⟩ : ByteArray) = S2 at HRe HP
        clear hil hrl c0 c1 c2 hs0 hs1
        obtain ⟨c0, c1, c2, _⟩ := HSW.out _ (Below.refl _ _)
        go_wp2_with fail
        go_region_held3 (fun w' => w'.cell? ⟨w.heap.size, 0, none⟩ = some (.int .i64 s) ∧ w'.cell? ⟨w.heap.size, 1, none⟩ = some (.slice A hs.length c) ∧ w'.cell? ⟨w.heap.size, 2, none⟩ = some (.slice B bd.length d) ∧ Hid (Below w2.heap.size w2 w')) (first
            | assumption
            | exact HSW.out _ hb4
            | exact HSW.out _ (below_drewN (Below.refl _ _) 1)
            | (obtain ⟨_, _, _, hbl⟩ := ‹_ ∧ _ ∧ _ ∧ Hid _›; exact HSW.out _ (hbl.out.trans (hb3.mono hbl.out.size)))
            | (obtain ⟨_, _, _, hbl⟩ := ‹_ ∧ _ ∧ _ ∧ Hid _›; exact HSW.out _ (hbl.out.trans ((below_box _ _).mono hbl.out.size)))) (first
            | (go_at_call 45; refine (HI.out _ (by obtain ⟨_, _, _, hbl⟩ := ‹_ ∧ _ ∧ _ ∧ Hid _›; exact hbl.out)).mono ?_; rintro e w3 ⟨rfl, hb3⟩)
            | (go_at_call 31; refine (HRe.out _).mono ?_; rintro e w3 ⟨rfl, hb3⟩)
            | (go_at_call 44; refine (HP.out _ (by obtain ⟨_, _, _, hbl⟩ := ‹_ ∧ _ ∧ _ ∧ Hid _›; exact hbl.out)).mono ?_; rintro e w3 ⟨⟨v, rfl, hO, hb0⟩, hb4⟩))
        all_goals
          simp only [Exit.then]
          go_wp2_with fail
          go_ret2
          exact ⟨_, rfl, hO, hb0⟩
    · have hr := HR.out
      rw [if_neg (by simp; omega)] at hr
      have HRR := Lib.hid hr
      have HX := Lib.hid (PrintOut.err (w := w) HRR.out HW0.out)
      clear hr HR
      have c0 := (blk3 HB0.out).1
      have h5' : 599 < s := by omega
      go_wp2_with fail
      go_ret2
      exact HX.out
end Go.Proofs.YtoadahommlcjpaaGreatDoor
