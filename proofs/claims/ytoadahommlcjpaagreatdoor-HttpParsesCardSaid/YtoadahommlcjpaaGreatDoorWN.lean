/-
  THE WALKS: PrintRequest, PrintResponse, SameRequest, SameResponse of package http. CONDITIONS: rows lie as said; lengths.
-/
import Derived.Test.YtoadahommlcjpaaGreatDoorWV
import Derived.Test.YtoadahommlcjpaaGreatDoorWM
import Derived.Test.YtoadahommlcjpaaGreatDoorWK
import Derived.Deep.RegionHeld3
namespace Go.Proofs.YtoadahommlcjpaaGreatDoor
open Go.RowKit
/-- A request in memory: its rows, and that it is not too long. -/
structure ReqAt (w : World) (r : Ht.Req) (A B : Option Addr) : Prop where
  heads : HdsAt w A r.heads
  body : CellsAt w B (Lib.byteCells r.body)
  hl : r.heads.length ≤ 1048576
  hL : HdsLen r.heads
  bl : r.body.length ≤ 1048576
  ml : r.method.length ≤ 268435456
  tl : r.target.length ≤ 268435456
  fl : (r.heads.flatMap Ht.hdLine).length ≤ 1099511627776
theorem ReqAt.next {w w' : World} {r : Ht.Req} {A B : Option Addr} (h : ReqAt w r A B) (hb : Below w.heap.size w w') : ReqAt w' r A B :=
  ⟨h.heads.next hb (Nat.le_refl _), h.body.next hb (Nat.le_refl _), h.hl, h.hL, h.bl, h.ml, h.tl, h.fl⟩
abbrev reqV (r : Ht.Req) (A : Option Addr) (c : Nat) (B : Option Addr) (d : Nat) : Value := .agg #[.string ⟨r.method.toArray⟩, .string ⟨r.target.toArray⟩, .slice A r.heads.length c, .slice B r.body.length d]
theorem PrintOut.lower {w w0 w' : World} {R : Ht.Bs × Int} {e : Ending} (h : PrintOut w R e w') (hw : Below w0.heap.size w0 w) : PrintOut w0 R e w' := by
  obtain ⟨v, h1, h2, h3⟩ := h
  exact ⟨v, h1, own_lower h2 hw.size, hw.trans (h3.mono hw.size)⟩
set_option maxRecDepth 100000 in
set_option maxHeartbeats 4000000 in
theorem printReq_any (r : Ht.Req) (A : Option Addr) (c : Nat) (B : Option Addr) (d : Nat) (w : World) (henv : Env w) (h : ReqAt w r A B) :
    Calls Tryz.prog 15 #[reqV r A c B d] w (PrintOut w (Ht.printReq r)) := by
  obtain ⟨R, hR⟩ : ∃ R, Ht.printReq r = R := ⟨_, rfl⟩
  rw [hR]
  obtain ⟨m, t, hs, bd⟩ := r
  have hml := h.ml
  have htl := h.tl
  dsimp only [reqV] at hml htl ⊢
  obtain ⟨q1, hq1⟩ : ∃ q, Ht.tokenB m = q := ⟨_, rfl⟩
  obtain ⟨q2, hq2⟩ : ∃ q, Ht.targetB t = q := ⟨_, rfl⟩
  obtain ⟨q3, hq3⟩ : ∃ q, Ht.checkedB hs bd = q := ⟨_, rfl⟩
  have HR : Hid (R = if q1 && q2 && q3 then Ht.printedOf hs bd (m ++ 32 :: (t ++ 32 :: Ht.verW)) else ([], 2)) := Lib.hid (by
    rw [← hR]; unfold Ht.printReq Ht.firstReq; rw [hq1, hq2, hq3])
  have HB0 := Lib.hid (heap_alloc_new w (.cells #[.string ⟨m.toArray⟩, .string ⟨t.toArray⟩, .slice A hs.length c, .slice B bd.length d] 26))
  have HW0 := Lib.hid (below_box w (.cells #[.string ⟨m.toArray⟩, .string ⟨t.toArray⟩, .slice A hs.length c, .slice B bd.length d] 26))
  have H1 := Lib.hid (fun W => token_q m W (by omega) hq1)
  have H2 := Lib.hid (fun W => target_q t W (by omega) hq2)
  have HA := Lib.hid h
  have HE := Lib.hid henv
  have H3 := Lib.hid (fun W (hW : Below w.heap.size w W) => checked_any hs A c bd B d W h.hl (h.next hW).heads h.hL h.bl hq3)
  clear hq1 hq2 hq3 hR h henv
  go_enter Tryz.func15, Tryz.ntmps15
  go_wp2_with fail
  generalize w.alloc (.cells #[.string ⟨m.toArray⟩, .string ⟨t.toArray⟩, .slice A hs.length c, .slice B bd.length d] 26) = w1 at HB0 HW0 ⊢
  obtain ⟨c0, c1, c2, c3⟩ := blk4 HB0.out
  refine (H1.out _).mono ?_
  rintro e w' ⟨rfl, rfl⟩
  cases q1
  · have hr := HR.out
    simp only [Bool.false_and, Bool.false_eq_true, if_false] at hr
    have HRR := Lib.hid hr
    clear hr HR
    go_wp2_with fail
    go_ret2
    exact PrintOut.err HRR.out HW0.out
  · go_wp2_with fail
    refine (H2.out _).mono ?_
    rintro e w' ⟨rfl, rfl⟩
    cases q2
    · have hr := HR.out
      simp only [Bool.and_false, Bool.false_and, Bool.false_eq_true, if_false] at hr
      have HRR := Lib.hid hr
      clear hr HR
      go_wp2_with fail
      go_ret2
      exact PrintOut.err HRR.out HW0.out
    · go_wp2_with fail
      refine (H3.out _ HW0.out).mono ?_
      rintro e w2 ⟨rfl, hb2⟩
      have HW2 := Lib.hid (HW0.out.trans (hb2.mono HW0.out.size))
      have HB2 := Lib.hid (blk_next hb2 HB0.out)
      clear hb2 HB0 HW0 c0 c1 c2 c3
      obtain ⟨c0, c1, c2, c3⟩ := blk4 HB2.out
      cases q3
      · have hr := HR.out
        simp only [Bool.and_false, Bool.false_eq_true, if_false] at hr
        have HRR := Lib.hid hr
        clear hr HR
        go_wp2_with fail
        go_ret2
        exact PrintOut.err HRR.out HW2.out
      · have hr := HR.out
        simp only [Bool.and_true, if_true] at hr
        have HRR := Lib.hid hr
        clear hr HR
        go_wp2_with fail
        have HW3 := Lib.hid (HW2.out.trans ((below_box w2 (.cells #[.string ⟨m.toArray⟩, .string ⟨t.toArray⟩, .string ⟨#[72, 84, 84, 80, 47, 49, 46, 49]⟩] 9)).mono HW2.out.size))
        have HG3 := Lib.hid (heap_alloc_new w2 (.cells #[.string ⟨m.toArray⟩, .string ⟨t.toArray⟩, .string ⟨#[72, 84, 84, 80, 47, 49, 46, 49]⟩] 9))
        have hlt3 : w2.heap.size < (w2.alloc (.cells #[.string ⟨m.toArray⟩, .string ⟨t.toArray⟩, .string ⟨#[72, 84, 84, 80, 47, 49, 46, 49]⟩] 9)).heap.size := by simp
        have HA3 := HA.out.next HW3.out
        have HP := Lib.hid (printed_any hs A c bd B d m t Ht.verW w2.heap.size _ (HE.out.next HW3.out) HA3.hl HA3.heads HA3.hL HA3.body HA3.bl HA3.fl (by simp [Ht.verW]; omega) hlt3 (fun j s hj => by
          rw [Nat.zero_add, blk_cells HG3.out j]
          match j, hj with
          | 0, hj => simp at hj; subst hj; rfl
          | 1, hj => simp at hj; subst hj; rfl
          | 2, hj => simp at hj; subst hj; rfl))
        rw [← HRR.out] at HP
        clear HA3 hlt3
        refine HP.out.mono ?_
        rintro e w4 ⟨v, rfl, hO, hb4⟩
        have HF := Lib.hid (PrintOut.lower ⟨v, rfl, hO, hb4⟩ HW3.out)
        clear hO hb4 HP
        go_wp2_with fail
        go_ret2
        exact HF.out
end Go.Proofs.YtoadahommlcjpaaGreatDoor
