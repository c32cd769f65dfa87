/-
  THE WALKS: same, SameRequest and SameResponse of the document's answer. CONDITIONS: requests and responses lie as ReqAt and RspAt say.
-/
import Derived.Test.YtoadahommlcjpaaGreatDoorWP
import Derived.Test.YtoadahommlcjpaaGreatDoorWO
namespace Go.Proofs.YtoadahommlcjpaaGreatDoor
open Go.RowKit
set_option maxRecDepth 100000 in
set_option maxHeartbeats 8000000 in
theorem refSame_any (l m : List Ht.Hd) (x y : Ht.Bs) (A B X Y : Option Addr) (c d c' d' : Nat) (w : World) (hl : l.length ≤ 1048576) (hA : HdsAt w A l) (hB : HdsAt w B m) (hX : CellsAt w X (Lib.byteCells x)) (hY : CellsAt w Y (Lib.byteCells y)) {q : Bool} (hq : (decide (l = m) && decide (x = y)) = q) :
    Calls Tryz.prog 51 #[.slice A l.length c, .slice B m.length d, .slice X x.length c', .slice Y y.length d'] w fun e w' => e = .returned (.bool q) ∧ Below w.heap.size w w' := by
  have kx := toStr hX c'
  have ky := toStr hY d'
  by_cases hlen : l.length = m.length
  · by_cases hxy : x = y
    · subst hxy
      simp only [decide_true, Bool.and_true] at hq
      have hb0 : ((l.length : Int) != (m.length : Int)) = false := by rw [hlen]; simp
      have HL := Lib.hid hlen
      have hle : l.length ≤ m.length := by omega
      have HQ := Lib.hid hq
      have HA := Lib.hid hA
      have HB := Lib.hid hB
      clear hlen hq hA hB hX hY
      go_enter Tryz.func51, Tryz.ntmps51
      go_wp2_with fail
      go_loopw [9, 24] (fun _ i wr => ∃ k : Nat, k ≤ l.length ∧ i = .int .i64 k ∧ Hid (l.take k = m.take k) ∧ Below w.heap.size w wr) (fun _ i _ => l.length - (intOf i).toNat)
      case atStart => exact ⟨0, Nat.zero_le _, rfl, rfl, Below.refl _ _⟩
      case round =>
        obtain ⟨k, hk, rfl, H, hb⟩ := hrel
        by_cases hlt : k < l.length
        · have hlt2 : k < m.length := by omega
          have h1 : l[k]? = some l[k] := List.getElem?_eq_getElem hlt
          have h2 : m[k]? = some m[k] := List.getElem?_eq_getElem hlt2
          have HT : Hid (l[k] = m[k] → l.take (k + 1) = m.take (k + 1)) := Lib.hid (fun e => by
            rw [List.take_succ_eq_append_getElem hlt, List.take_succ_eq_append_getElem hlt2, H.out, e])
          have HF : Hid (l[k] ≠ m[k] → q = false) := Lib.hid (fun e => by
            rw [← HQ.out, decide_eq_false_iff_not]
            intro he; subst he; exact e rfl)
          generalize l[k] = x at h1 HT HF
          generalize m[k] = y at h2 HT HF
          obtain ⟨b1, o1, rfl, hl1, c0, c1⟩ := (HA.out.next hb (Nat.le_refl _)).at_ h1
          obtain ⟨b2, o2, rfl, hl2, d0, d1⟩ := (HB.out.next hb (Nat.le_refl _)).at_ h2
          have HBr := Lib.hid hb
          obtain ⟨x1, x2⟩ := x
          obtain ⟨y1, y2⟩ := y
          dsimp only at c0 c1 d0 d1
          clear h1 h2 hb H
          by_cases e1 : x1 = y1
          · by_cases e2 : x2 = y2
            · subst e1 e2
              have HR := Lib.hid (HT.out rfl)
              go_wp2_with fail
              go_quiet (fail)
              go_wp2_with fail
              go_roundw
              case rel => exact ⟨k + 1, by omega, by go_num, HR, below_drewN HBr.out _⟩
              case measure => simp [intOf]; omega
            · subst e1
              have HR := Lib.hid (HF.out (fun h => e2 (by injection h)))
              go_wp2_with fail
              go_quiet (fail)
              go_wp2_with fail
              go_ret
              exact ⟨ret_bool HR.out.symm, below_drewN HBr.out _⟩
          · have HR := Lib.hid (HF.out (fun h => e1 (by injection h)))
            go_wp2_with fail
            go_quiet (fail)
            go_wp2_with fail
            go_ret
            exact ⟨ret_bool HR.out.symm, below_drewN HBr.out _⟩
        · have HR : Hid (q = true) := Lib.hid (by
            have h := H.out
            rw [List.take_of_length_le (by omega), List.take_of_length_le (by have := HL.out; omega)] at h
            rw [← HQ.out, h]; simp)
          go_wp2_with fail
          go_ret
          exact ⟨ret_bool HR.out.symm, hb⟩
    · have hb0 : ((l.length : Int) != (m.length : Int)) = false := by rw [hlen]; simp
      have hqf : q = false := by rw [← hq]; simp [hxy]
      have hx0 : (x == y) = false := beq_eq_false_iff_ne.2 hxy
      have hx1 : (!(x == y)) = true := by rw [hx0]; rfl
      subst hqf
      clear hq hlen
      go_enter Tryz.func51, Tryz.ntmps51
      go_wp2_with fail
      go_ret
      exact ⟨rfl, Below.refl _ _⟩
  · have hb0 : ((l.length : Int) != (m.length : Int)) = true := by simp; omega
    have hqf : q = false := by
      rw [← hq, decide_eq_false (fun h => hlen (by rw [h]))]; rfl
    subst hqf
    clear hq
    go_enter Tryz.func51, Tryz.ntmps51
    go_wp2_with fail
    go_ret
    exact ⟨rfl, Below.refl _ _⟩
set_option maxRecDepth 100000 in
set_option maxHeartbeats 8000000 in
theorem refSameReq_any (r s : Ht.Req) (A : Option Addr) (c : Nat) (B : Option Addr) (d : Nat) (A' : Option Addr) (c' : Nat) (B' : Option Addr) (d' : Nat) (w : World) (h : ReqAt w r A B) (k : ReqAt w s A' B') {q : Bool} (hq : decide (r = s) = q) :
    Calls Tryz.prog 24 #[reqV r A c B d, reqV s A' c' B' d'] w fun e w' => e = .returned (.bool q) ∧ Below w.heap.size w w' := by
  obtain ⟨m, t, hs, bd⟩ := r
  obtain ⟨m', t', hs', bd'⟩ := s
  dsimp only [reqV]
  obtain ⟨q3, hq3⟩ : ∃ q, (decide (hs = hs') && decide (bd = bd')) = q := ⟨_, rfl⟩
  have HQ : Hid (q = (decide (m = m') && decide (t = t') && q3)) := Lib.hid (by
    rw [← hq, ← hq3, Bool.eq_iff_iff]
    simp [Bool.and_eq_true, and_assoc])
  have HB0 := Lib.hid (blk_next (below_box _ (.cells #[.string ⟨m'.toArray⟩, .string ⟨t'.toArray⟩, .slice A' hs'.length c', .slice B' bd'.length d'] 26)) (heap_alloc_new w (.cells #[.string ⟨m.toArray⟩, .string ⟨t.toArray⟩, .slice A hs.length c, .slice B bd.length d] 26)))
  have HB1 := Lib.hid (heap_alloc_new (w.alloc (.cells #[.string ⟨m.toArray⟩, .string ⟨t.toArray⟩, .slice A hs.length c, .slice B bd.length d] 26)) (.cells #[.string ⟨m'.toArray⟩, .string ⟨t'.toArray⟩, .slice A' hs'.length c', .slice B' bd'.length d'] 26))
  have HW : Hid (Below w.heap.size w ((w.alloc (.cells #[.string ⟨m.toArray⟩, .string ⟨t.toArray⟩, .slice A hs.length c, .slice B bd.length d] 26)).alloc (.cells #[.string ⟨m'.toArray⟩, .string ⟨t'.toArray⟩, .slice A' hs'.length c', .slice B' bd'.length d'] 26))) := Lib.hid (((Below.refl _ w).alloc (Nat.le_refl _) _).alloc (by simp) _)
  rw [show (w.alloc (.cells #[.string ⟨m.toArray⟩, .string ⟨t.toArray⟩, .slice A hs.length c, .slice B bd.length d] 26)).heap.size = w.heap.size + 1 by simp] at HB1
  have H3 := Lib.hid (fun W (hW : Below w.heap.size w W) => refSame_any hs hs' bd bd' A A' B B' c c' d d' W h.hl (h.next hW).heads (k.next hW).heads (h.next hW).body (k.next hW).body hq3)
  clear hq3 hq h k
  go_enter Tryz.func24, Tryz.ntmps24
  obtain ⟨c0, c1, c2, c3⟩ := blk4 HB0.out
  obtain ⟨d0, d1, d2, d3⟩ := blk4 HB1.out
  by_cases e1 : m = m'
  · by_cases e2 : t = t'
    · subst e1 e2
      clear c0 c1 c2 c3 d0 d1 d2 d3
      obtain ⟨w1, hw1⟩ : ∃ w1, (w.alloc (.cells #[.string ⟨m.toArray⟩, .string ⟨t.toArray⟩, .slice A hs.length c, .slice B bd.length d] 26)).alloc (.cells #[.string ⟨m.toArray⟩, .string ⟨t.toArray⟩, .slice A' hs'.length c', .slice B' bd'.length d'] 26) = w1 := ⟨_, rfl⟩
      rw [hw1] at HB0 HB1 HW
      obtain ⟨c0, c1, c2, c3⟩ := blk4 HB0.out
      obtain ⟨d0, d1, d2, d3⟩ := blk4 HB1.out
      go_wp2_with fail
      clear hw1
      refine (H3.out _ HW.out).mono ?_
      rintro e w2 ⟨rfl, hb2⟩
      have HW2 := Lib.hid (HW.out.trans (hb2.mono HW.out.size))
      clear hb2 HB0 HB1
      go_wp2_with fail
      go_ret
      exact ⟨ret_bool (by rw [HQ.out]; simp), HW2.out⟩
    · subst e1
      go_wp2_with fail
      go_ret
      exact ⟨ret_bool (by rw [HQ.out]; simp [e2]), HW.out⟩
  · go_wp2_with fail
    go_ret
    exact ⟨ret_bool (by rw [HQ.out]; simp [e1]), HW.out⟩
set_option maxRecDepth 100000 in
set_option maxHeartbeats 8000000 in
theorem refSameRsp_any (r s : Ht.Rsp) (A : Option Addr) (c : Nat) (B : Option Addr) (d : Nat) (A' : Option Addr) (c' : Nat) (B' : Option Addr) (d' : Nat) (w : World) (h : RspAt w r A B) (k : RspAt w s A' B') {q : Bool} (hq : decide (r = s) = q) :
    Calls Tryz.prog 20 #[rspV r A c B d, rspV s A' c' B' d'] w fun e w' => e = .returned (.bool q) ∧ Below w.heap.size w w' := by
  obtain ⟨m, hs, bd⟩ := r
  obtain ⟨m', hs', bd'⟩ := s
  dsimp only [rspV]
  obtain ⟨q3, hq3⟩ : ∃ q, (decide (hs = hs') && decide (bd = bd')) = q := ⟨_, rfl⟩
  have HQ : Hid (q = (decide (m = m') && q3)) := Lib.hid (by
    rw [← hq, ← hq3, Bool.eq_iff_iff]
    simp [Bool.and_eq_true])
  have HB0 := Lib.hid (blk_next (below_box _ (.cells #[.int .i64 m', .slice A' hs'.length c', .slice B' bd'.length d'] 36)) (heap_alloc_new w (.cells #[.int .i64 m, .slice A hs.length c, .slice B bd.length d] 36)))
  have HB1 := Lib.hid (heap_alloc_new (w.alloc (.cells #[.int .i64 m, .slice A hs.length c, .slice B bd.length d] 36)) (.cells #[.int .i64 m', .slice A' hs'.length c', .slice B' bd'.length d'] 36))
  have HW : Hid (Below w.heap.size w ((w.alloc (.cells #[.int .i64 m, .slice A hs.length c, .slice B bd.length d] 36)).alloc (.cells #[.int .i64 m', .slice A' hs'.length c', .slice B' bd'.length d'] 36))) := Lib.hid (((Below.refl _ w).alloc (Nat.le_refl _) _).alloc (by simp) _)
  rw [show (w.alloc (.cells #[.int .i64 m, .slice A hs.length c, .slice B bd.length d] 36)).heap.size = w.heap.size + 1 by simp] at HB1
  have H3 := Lib.hid (fun W (hW : Below w.heap.size w W) => refSame_any hs hs' bd bd' A A' B B' c c' d d' W h.hl (h.next hW).heads (k.next hW).heads (h.next hW).body (k.next hW).body hq3)
  clear hq3 hq h k
  go_enter Tryz.func20, Tryz.ntmps20
  obtain ⟨c0, c1, c2⟩ := blk3 HB0.out
  obtain ⟨d0, d1, d2⟩ := blk3 HB1.out
  by_cases e1 : m = m'
  · subst e1
    clear c0 c1 c2 d0 d1 d2
    have he : (m == m) = true := by simp
    obtain ⟨w1, hw1⟩ : ∃ w1, (w.alloc (.cells #[.int .i64 m, .slice A hs.length c, .slice B bd.length d] 36)).alloc (.cells #[.int .i64 m, .slice A' hs'.length c', .slice B' bd'.length d'] 36) = w1 := ⟨_, rfl⟩
    rw [hw1] at HB0 HB1 HW
    obtain ⟨c0, c1, c2⟩ := blk3 HB0.out
    obtain ⟨d0, d1, d2⟩ := blk3 HB1.out
    go_wp2_with fail
    clear hw1
    refine (H3.out _ HW.out).mono ?_
    rintro e w2 ⟨rfl, hb2⟩
    have HW2 := Lib.hid (HW.out.trans (hb2.mono HW.out.size))
    clear hb2 HB0 HB1
    go_wp2_with fail
    go_ret
    exact ⟨ret_bool (by rw [HQ.out]; simp), HW2.out⟩
  · have he : (m == m') = false := by rw [beq_eq_false_iff_ne]; exact e1
    go_wp2_with fail
    go_ret
    exact ⟨ret_bool (by rw [HQ.out]; simp [e1]), HW.out⟩
end Go.Proofs.YtoadahommlcjpaaGreatDoor
