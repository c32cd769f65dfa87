/-
  THE WALKS: ParseResponse as it is used; SameResponse; response of the laws of chapter 24. CONDITIONS: as RspIn says.
-/
import Derived.Test.YtoadahommlcjpaaGreatDoorReqCut
import Derived.Test.YtoadahommlcjpaaGreatDoorWKP
import Derived.Test.YtoadahommlcjpaaGreatDoorRspLaw
namespace Go.Proofs.YtoadahommlcjpaaGreatDoor
open Go.RowKit
theorem RspAt.of_small {w : World} {r : Ht.Rsp} {A B : Option Addr} (h0 : -9223372036854775808 ≤ r.status) (h1 : r.status ≤ 9223372036854775807) (l1 : r.heads.length ≤ 20) (l2 : r.body.length ≤ 8193) (l3 : ∀ x ∈ r.heads, x.name.length ≤ 50 ∧ x.value.length ≤ 210)
    (hA : HdsAt w A r.heads) (hB : CellsAt w B (Lib.byteCells r.body)) : RspAt w r A B := by
  obtain ⟨m1, m2⟩ := heads_len l3
  exact ⟨hA, hB, by omega, m2, by omega, h0, h1, by omega⟩
theorem RspAt.zero (w : World) : RspAt w Ht.zRsp none none := ⟨HdsAt.nil _ _, CellsAt.nil _ _, by decide, fun h hh => by simp [Ht.zRsp] at hh, by decide, by decide, by decide, by decide⟩
theorem parseRsp_at (b : Ht.Bs) (B : Option Addr) (c : Nat) (w : World) (henv : Env w) (hbc : b.length ≤ c) (hc : b.length ≤ 140737488355328) (hcells : CellsAt w B (Lib.byteCells b)) :
    Calls Tryz.prog 18 #[.slice B b.length c] w fun e w' => ∃ A c' B' d, e = .returned (.tuple #[.agg #[.int .i64 (Ht.parseRsp b).1.status, .slice A (Ht.parseRsp b).1.heads.length c', .slice B' (Ht.parseRsp b).1.body.length d], .int .i64 ((Ht.parseRsp b).2.1 : Int), .int .i64 (Ht.parseRsp b).2.2]) ∧ RspAt w' (Ht.parseRsp b).1 A B' ∧ Below w.heap.size w w' := by
  have hr := Ht.rsp_right b
  have hz := Ht.zero_rsp b
  refine (parseRsp_any b B c w henv hbc hc hcells).mono ?_
  generalize Ht.parseRsp b = R at hr hz
  rintro e w' ⟨hv, bv, h1, h2, h3, h4⟩
  obtain ⟨A, k, rfl, hk, h5⟩ := h2.heads
  obtain ⟨B', d, rfl, hd, _, h6⟩ := h3.bytes
  refine ⟨A, k, B', d, h1, ?_, h4⟩
  by_cases h0 : R.2.2 = 0
  · obtain ⟨s1, s2, s3⟩ := hr h0
    obtain ⟨l1, l2, l3⟩ := right_heads s3
    exact RspAt.of_small (by omega) (by omega) (by omega) (by omega) l3 h5 h6
  · have hz' := (hz h0).1
    rw [hz'] at h5 h6 ⊢
    exact ⟨HdsAt.nil _ _, CellsAt.nil _ _, by decide, fun h hh => by simp [Ht.zRsp] at hh, by decide, by decide, by decide, by decide⟩
theorem RspAt.but {S : List Nat} {w w' : World} {r : Ht.Rsp} {A B : Option Addr} (h : RspAt w r A B) (hk : But S w w') (hA : ∀ b o, A = some ⟨b, o, none⟩ → b ∉ S) (hB : ∀ b o, B = some ⟨b, o, none⟩ → b ∉ S) : RspAt w' r A B :=
  ⟨h.heads.but hk hA, h.body.but hk hB, h.hl, h.hL, h.bl, h.s0, h.s1, h.fl⟩
theorem RspIn.next {w w' : World} {r : Ht.Rsp} {A B : Option Addr} (h : RspIn w r A B) (hb : Below w.heap.size w w') : RspIn w' r A B :=
  ⟨h.heads.next hb (Nat.le_refl _), h.body.next hb (Nat.le_refl _), h.hl, h.hF, h.s0, h.s1⟩
set_option maxRecDepth 100000 in
set_option maxHeartbeats 4000000 in
theorem sameRsp_any (r s : Ht.Rsp) (A : Option Addr) (c : Nat) (B : Option Addr) (d : Nat) (A' : Option Addr) (c' : Nat) (B' : Option Addr) (d' : Nat) (w : World) (h : RspAt w r A B) (k : RspAt w s A' B') {q : Bool} (hq : decide (r = s) = q) :
    Calls Tryz.prog 19 #[rspV r A c B d, rspV s A' c' B' d'] w fun e w' => e = .returned (.bool q) ∧ Below w.heap.size w w' := by
  obtain ⟨m, hs, bd⟩ := r
  obtain ⟨m', hs', bd'⟩ := s
  dsimp only [rspV]
  obtain ⟨q3, hq3⟩ : ∃ q, decide (hs = hs') = q := ⟨_, rfl⟩
  obtain ⟨q4, hq4⟩ : ∃ q, decide (bd = bd') = q := ⟨_, rfl⟩
  have HQ : Hid (q = (decide (m = m') && q3 && q4)) := Lib.hid (by
    rw [← hq, ← hq3, ← hq4, Bool.eq_iff_iff]
    simp [Bool.and_eq_true, and_assoc])
  have HB0 := Lib.hid (blk_next (below_box _ (.cells #[.int .i64 m', .slice A' hs'.length c', .slice B' bd'.length d'] 36)) (heap_alloc_new w (.cells #[.int .i64 m, .slice A hs.length c, .slice B bd.length d] 36)))
  have HB1 := Lib.hid (heap_alloc_new (w.alloc (.cells #[.int .i64 m, .slice A hs.length c, .slice B bd.length d] 36)) (.cells #[.int .i64 m', .slice A' hs'.length c', .slice B' bd'.length d'] 36))
  have HW : Hid (Below w.heap.size w ((w.alloc (.cells #[.int .i64 m, .slice A hs.length c, .slice B bd.length d] 36)).alloc (.cells #[.int .i64 m', .slice A' hs'.length c', .slice B' bd'.length d'] 36))) := Lib.hid (((Below.refl _ w).alloc (Nat.le_refl _) _).alloc (by simp) _)
  rw [show (w.alloc (.cells #[.int .i64 m, .slice A hs.length c, .slice B bd.length d] 36)).heap.size = w.heap.size + 1 by simp] at HB1
  have H3 := Lib.hid (fun W (hW : Below w.heap.size w W) => equalHeads_any hs hs' A A' c c' W h.hl (h.next hW).heads (k.next hW).heads hq3)
  have H4 := Lib.hid (fun W (hW : Below w.heap.size w W) => bytesEqual_any bd bd' B B' d d' W (h.next hW).body (k.next hW).body hq4)
  clear hq3 hq4 hq h k
  go_enter Tryz.func19, Tryz.ntmps19
  obtain ⟨c0, c1, c2⟩ := blk3 HB0.out
  obtain ⟨d0, d1, d2⟩ := blk3 HB1.out
  by_cases e1 : m = m'
  · subst e1
    clear c0 c1 c2 d0 d1 d2
    have he : (m == m) = true := by simp
    obtain ⟨w1, hw1⟩ : ∃ w1, (w.alloc (.cells #[.int .i64 m, .slice A hs.length c, .slice B bd.length d] 36)).alloc (.cells #[.int .i64 m, .slice A' hs'.length c', .slice B' bd'.length d'] 36) = w1 := ⟨_, rfl⟩
    rw [hw1] at HB0 HB1 HW
    obtain ⟨c0, c1, c2⟩ := blk3 HB0.out
    obtain ⟨d0, d1, d2⟩ := blk3 HB1.out
    go_wp2_with fail
    clear hw1
    refine (H3.out _ HW.out).mono ?_
    rintro e w2 ⟨rfl, hb2⟩
    have HW2 := Lib.hid (HW.out.trans (hb2.mono HW.out.size))
    have HB2 := Lib.hid (blk_next hb2 HB0.out)
    have HB3 := Lib.hid (blk_next hb2 HB1.out)
    clear hb2 HB0 HB1 c0 c1 c2 d0 d1 d2
    obtain ⟨c0, c1, c2⟩ := blk3 HB2.out
    obtain ⟨d0, d1, d2⟩ := blk3 HB3.out
    cases q3
    · go_wp2_with fail
      go_ret
      exact ⟨ret_bool (by rw [HQ.out]; simp), HW2.out⟩
    · go_wp2_with fail
      refine (H4.out _ HW2.out).mono ?_
      rintro e w3 ⟨rfl, rfl⟩
      go_wp2_with fail
      go_ret
      exact ⟨ret_bool (by rw [HQ.out]; simp), HW2.out⟩
  · have he : (m == m') = false := by rw [beq_eq_false_iff_ne]; exact e1
    go_wp2_with fail
    go_ret
    exact ⟨ret_bool (by rw [HQ.out]; simp [e1]), HW.out⟩
def cutP (r : Ht.Rsp) : Ht.Rsp := ⟨r.status, cutHs r.heads, r.body.take 8193⟩
set_option maxRecDepth 100000 in
set_option maxHeartbeats 8000000 in
theorem response_full (r : Ht.Rsp) (A : Option Addr) (c : Nat) (B : Option Addr) (d : Nat) (w : World) (h : RspIn w r A B) (hbd : r.body.length ≤ d) :
    Calls Tryz.prog 16 #[rspV r A c B d] w fun e w' => ∃ A' c' B' d', e = .returned (rspV (cutP r) A' c' B' d') ∧ RspAt w' (cutP r) A' B' ∧ NewAt w.heap.size A' ∧ NewAt w.heap.size B' ∧ Below w.heap.size w w' ∧ (cutP r).body.length ≤ d' := by
  obtain ⟨s, hs, bd⟩ := r
  have hhl := h.hl
  dsimp only [rspV] at hbd hhl ⊢
  have HIN := Lib.hid h
  have HX0 := Lib.hid (blk_next (below_box _ (.cells #[.int .i64 0, .slice none 0 0, .slice none 0 0] 36)) (heap_alloc_new w (.cells #[.int .i64 s, .slice A hs.length c, .slice B bd.length d] 36)))
  have HZ0 := Lib.hid (heap_alloc_new (w.alloc (.cells #[.int .i64 s, .slice A hs.length c, .slice B bd.length d] 36)) (.cells #[.int .i64 0, .slice none 0 0, .slice none 0 0] 36))
  rw [show (w.alloc (.cells #[.int .i64 s, .slice A hs.length c, .slice B bd.length d] 36)).heap.size = w.heap.size + 1 by simp] at HZ0
  have HW0 : Hid (Below w.heap.size w ((w.alloc (.cells #[.int .i64 s, .slice A hs.length c, .slice B bd.length d] 36)).alloc (.cells #[.int .i64 0, .slice none 0 0, .slice none 0 0] 36))) := Lib.hid (((Below.refl _ w).alloc (Nat.le_refl _) _).alloc (by simp) _)
  obtain ⟨b1, hb1e⟩ : ∃ x, bd.take 8193 = x := ⟨_, rfl⟩
  have hm3 : min (bd.length : Int) 8193 = (b1.length : Int) := by rw [← hb1e, List.length_take]; omega
  have ht3 : b1.length ≤ bd.length := by rw [← hb1e]; exact List.length_take_le' _ _
  have ht4 : b1.length ≤ 8193 := by rw [← hb1e]; exact List.length_take_le _ _
  have HCB : Hid (∀ W, Below w.heap.size w W → CellsAt W B (Lib.byteCells b1)) := Lib.hid (fun W hW => by
    rw [← hb1e]; exact cells_take (HIN.out.body.next hW (Nat.le_refl _)) 8193)
  have HC2 : Hid (cutP ⟨s, hs, bd⟩ = ⟨s, cutHs hs, b1⟩) := Lib.hid (by rw [← hb1e]; rfl)
  have HFIN : Hid (∀ (W : World) A' B', HdsAt W A' (cutHs hs) → CellsAt W B' (Lib.byteCells b1) → RspAt W ⟨s, cutHs hs, b1⟩ A' B') := Lib.hid (fun W A' B' h1 h2 => RspAt.of_small HIN.out.s0 HIN.out.s1 (cutHs_small hs).1 ht4 (cutHs_small hs).2 h1 h2)
  rw [HC2.out]
  clear hb1e HC2 h
  go_enter Tryz.func16, Tryz.ntmps16
  obtain ⟨c0, c1, c2⟩ := blk3 HX0.out
  go_wp2_with fail
  generalize (w.alloc (.cells #[.int .i64 s, .slice A hs.length c, .slice B bd.length d] 36)).alloc (.cells #[.int .i64 0, .slice none 0 0, .slice none 0 0] 36) = W2 at HX0 HZ0 HW0 c0 c1 c2 ⊢
  have HHD := Lib.hid (headers_any hs A c W2 hhl (HIN.out.heads.next HW0.out (Nat.le_refl _)) HIN.out.hF)
  have hbig : w.heap.size + 1 < W2.heap.size := (Array.getElem?_eq_some_iff.1 HZ0.out).1
  refine HHD.out.mono ?_
  rintro e W3 ⟨vh, rfl, hO3, hb3⟩
  obtain ⟨A3, n3, rfl⟩ := own_shape hO3
  have HB3 := Lib.hid (blk_next hb3 HX0.out)
  have HZ3 := Lib.hid (blk_next hb3 HZ0.out)
  have HW3 := Lib.hid (HW0.out.trans (hb3.mono HW0.out.size))
  have hsz3 := hb3.size
  obtain ⟨k1, g1⟩ := but_set (i := 1) (.slice A3 (cutHs hs).length n3) HB3.out
  have HK4 := Lib.hid k1
  have HB4 : Hid ((W3.setCell ⟨w.heap.size, 1, none⟩ (.slice A3 (cutHs hs).length n3)).heap[w.heap.size]? = some (.cells #[.int .i64 s, .slice A3 (cutHs hs).length n3, .slice B bd.length d] 36 (0, 0))) := Lib.hid g1
  have HO4 := Lib.hid (hO3.but k1 (by simp; omega))
  have HZ4 := Lib.hid (k1.blk HZ3.out (by simp))
  have HW4 := Lib.hid (HW3.out.trans (k1.to HW3.out.size (by simp)))
  clear k1 g1 hO3 hb3 c0 c1 c2 HHD HX0 HZ0 HW0
  obtain ⟨c0, c1, c2⟩ := blk3 HB3.out
  have f1 := blk_free HB3.out 1
  obtain ⟨A4', c4', hA4', _, hH4⟩ := HO4.out.heads
  obtain ⟨rfl, rfl⟩ : A4' = A3 ∧ c4' = n3 := by injection hA4' with e1 e2 e3; exact ⟨e1.symm, e3.symm⟩
  have HH4 := Lib.hid hH4
  have hA3 : Hid (∀ b o, A4' = some ⟨b, o, none⟩ → W2.heap.size ≤ b) := Lib.hid (HO4.out.addr)
  have hs24 : W2.heap.size ≤ (W3.setCell ⟨w.heap.size, 1, none⟩ (.slice A4' (cutHs hs).length c4')).heap.size := by have := HK4.out.size; omega
  clear hA4' hH4
  obtain ⟨W4, hW4⟩ : ∃ W4, W3.setCell ⟨w.heap.size, 1, none⟩ (.slice A4' (cutHs hs).length c4') = W4 := ⟨_, rfl⟩
  rw [hW4] at HK4 HB4 HO4 HZ4 HW4 HH4 hs24
  have HB4b := Lib.hid (below_box W4 (.cells #[] 5))
  have hw44 := HW4.out.size
  have HCBB := Lib.hid (HCB.out _ (HW4.out.trans (HB4b.out.mono HW4.out.size)))
  have HOWN := Lib.hid (own_empty (B := W4.heap.size) W4 (Nat.le_refl _))
  have H5X : Hid (∀ W5, Below W4.heap.size (W4.alloc (.cells #[] 5)) W5 → Below W4.heap.size W4 W5 ∧ W5.heap[w.heap.size]? = some (.cells #[.int .i64 s, .slice A4' (cutHs hs).length c4', .slice B bd.length d] 36 (0, 0)) ∧ W5.heap[w.heap.size + 1]? = some (.cells #[.int .i64 0, .slice none 0 0, .slice none 0 0] 36 (0, 0))) := Lib.hid (fun W5 hb => by
    have hx := HB4b.out.trans hb
    exact ⟨hx, (hx.block w.heap.size (by omega)).trans HB4.out, (hx.block (w.heap.size + 1) (by omega)).trans HZ4.out⟩)
  go_upto_region 2 with fail
  (try rw [hW4])
  clear hW4 c0 c1 c2 f1
  obtain ⟨c0, c1, c2⟩ := blk3 (blk_next HB4b.out HB4.out)
  go_wp2_with (at_builtin; refine wpList_app_row rfl _ _ rfl HOWN.out rfl b1 _ _ rfl HCBB.out (by omega) ?_; intro v5 W5 hO5 hb5 hg5; rw [Nat.zero_add, List.nil_append] at hO5; obtain ⟨A5, n5, rfl⟩ := own_shape hO5; have HO5 := Lib.hid hO5; have HX5 := Lib.hid (H5X.out W5 hb5); clear hO5 hb5 hg5 c0 c1 c2; obtain ⟨c0, c1, c2⟩ := blk3 HX5.out.2.1; obtain ⟨e0, e1, e2⟩ := blk3_free HX5.out.2.1; obtain ⟨d0, d1, d2⟩ := blk3 HX5.out.2.2; obtain ⟨f0, f1, f2⟩ := blk3_free HX5.out.2.2)
  obtain ⟨k1, g1⟩ := but_set (i := 2) (.slice A5 b1.length n5) HX5.out.2.1
  have g2 := k1.blk HX5.out.2.2 (by simp)
  have HS := Lib.hid (rp_set (x := .int .i64 s) (y := .slice A4' (cutHs hs).length c4') (z := .slice A5 b1.length n5) g2)
  have HK6 := Lib.hid k1
  clear k1 g1 g2
  (try simp only [Exit.inBlock, Exit.then])
  refine bodyPost_ret (results_row1 rfl _ _ _ (w.heap.size + 1) _ rfl (rp_load HS.out.2)) rfl ?_
  have hA := hA3.out
  have hx := HX5.out.1
  have hh := ((HH4.out.next hx (Nat.le_refl _)).but HK6.out (fun b o e => by have := hA b o e; simp; omega)).but HS.out.1 (fun b o e => by have := hA b o e; simp; omega)
  have ho := (HO5.out.but HK6.out (by simp; omega)).but HS.out.1 (by simp; omega)
  obtain ⟨A9, n9, e9, hcap, _, hc9⟩ := ho.bytes
  obtain ⟨rfl, rfl⟩ : A9 = A5 ∧ n9 = n5 := by injection e9 with e1 e2 e3; exact ⟨e1.symm, e3.symm⟩
  have hz := HW4.out.trans (hx.mono HW4.out.size)
  have hz2 := hz.trans (HK6.out.to hz.size (by simp))
  exact ⟨A4', c4', A9, n9, rfl, HFIN.out _ _ _ hh hc9, fun b o e => by have := hA b o e; omega, fun b o e => by have := HO5.out.addr b o e; omega, hz2.trans (HS.out.1.to hz2.size (by simp)), hcap⟩
theorem response_any (r : Ht.Rsp) (A : Option Addr) (c : Nat) (B : Option Addr) (d : Nat) (w : World) (h : RspIn w r A B) (hbd : r.body.length ≤ d) :
    Calls Tryz.prog 16 #[rspV r A c B d] w fun e w' => ∃ A' c' B' d', e = .returned (rspV (cutP r) A' c' B' d') ∧ RspAt w' (cutP r) A' B' ∧ NewAt w.heap.size A' ∧ NewAt w.heap.size B' ∧ Below w.heap.size w w' := by
  refine (response_full r A c B d w h hbd).mono ?_
  rintro e w' ⟨A', c', B', d', h1, h2, h3, h4, h5, _⟩
  exact ⟨A', c', B', d', h1, h2, h3, h4, h5⟩
end Go.Proofs.YtoadahommlcjpaaGreatDoor
