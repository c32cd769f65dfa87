/-
  THE WALKS: SameRequest of package http; wakes of the laws of chapter 24.
-/
import Derived.Test.YtoadahommlcjpaaGreatDoorWO
import Derived.Lib.SlBytesConst
namespace Go.Proofs.YtoadahommlcjpaaGreatDoor
open Go.RowKit
set_option maxRecDepth 100000 in
set_option maxHeartbeats 4000000 in
theorem sameReq_any (r s : Ht.Req) (A : Option Addr) (c : Nat) (B : Option Addr) (d : Nat) (A' : Option Addr) (c' : Nat) (B' : Option Addr) (d' : Nat) (w : World) (h : ReqAt w r A B) (k : ReqAt w s A' B') {q : Bool} (hq : decide (r = s) = q) :
    Calls Tryz.prog 13 #[reqV r A c B d, reqV s A' c' B' d'] w fun e w' => e = .returned (.bool q) ∧ Below w.heap.size w w' := by
  obtain ⟨m, t, hs, bd⟩ := r
  obtain ⟨m', t', hs', bd'⟩ := s
  dsimp only [reqV]
  obtain ⟨q3, hq3⟩ : ∃ q, decide (hs = hs') = q := ⟨_, rfl⟩
  obtain ⟨q4, hq4⟩ : ∃ q, decide (bd = bd') = q := ⟨_, rfl⟩
  have HQ : Hid (q = (decide (m = m') && decide (t = t') && q3 && q4)) := Lib.hid (by
    rw [← hq, ← hq3, ← hq4, Bool.eq_iff_iff]
    simp [Bool.and_eq_true, and_assoc])
  have HB0 := Lib.hid (blk_next (below_box _ (.cells #[.string ⟨m'.toArray⟩, .string ⟨t'.toArray⟩, .slice A' hs'.length c', .slice B' bd'.length d'] 26)) (heap_alloc_new w (.cells #[.string ⟨m.toArray⟩, .string ⟨t.toArray⟩, .slice A hs.length c, .slice B bd.length d] 26)))
  have HB1 := Lib.hid (heap_alloc_new (w.alloc (.cells #[.string ⟨m.toArray⟩, .string ⟨t.toArray⟩, .slice A hs.length c, .slice B bd.length d] 26)) (.cells #[.string ⟨m'.toArray⟩, .string ⟨t'.toArray⟩, .slice A' hs'.length c', .slice B' bd'.length d'] 26))
  have HW : Hid (Below w.heap.size w ((w.alloc (.cells #[.string ⟨m.toArray⟩, .string ⟨t.toArray⟩, .slice A hs.length c, .slice B bd.length d] 26)).alloc (.cells #[.string ⟨m'.toArray⟩, .string ⟨t'.toArray⟩, .slice A' hs'.length c', .slice B' bd'.length d'] 26))) := Lib.hid (((Below.refl _ w).alloc (Nat.le_refl _) _).alloc (by simp) _)
  rw [show (w.alloc (.cells #[.string ⟨m.toArray⟩, .string ⟨t.toArray⟩, .slice A hs.length c, .slice B bd.length d] 26)).heap.size = w.heap.size + 1 by simp] at HB1
  have H3 := Lib.hid (fun W (hW : Below w.heap.size w W) => equalHeads_any hs hs' A A' c c' W h.hl (h.next hW).heads (k.next hW).heads hq3)
  have H4 := Lib.hid (fun W (hW : Below w.heap.size w W) => bytesEqual_any bd bd' B B' d d' W (h.next hW).body (k.next hW).body hq4)
  clear hq3 hq4 hq h k
  go_enter Tryz.func13, Tryz.ntmps13
  obtain ⟨c0, c1, c2, c3⟩ := blk4 HB0.out
  obtain ⟨d0, d1, d2, d3⟩ := blk4 HB1.out
  by_cases e1 : m = m'
  · by_cases e2 : t = t'
    · subst e1 e2
      clear c0 c1 c2 c3 d0 d1 d2 d3
      obtain ⟨w1, hw1⟩ : ∃ w1, (w.alloc (.cells #[.string ⟨m.toArray⟩, .string ⟨t.toArray⟩, .slice A hs.length c, .slice B bd.length d] 26)).alloc (.cells #[.string ⟨m.toArray⟩, .string ⟨t.toArray⟩, .slice A' hs'.length c', .slice B' bd'.length d'] 26) = w1 := ⟨_, rfl⟩
      rw [hw1] at HB0 HB1 HW
      obtain ⟨c0, c1, c2, c3⟩ := blk4 HB0.out
      obtain ⟨d0, d1, d2, d3⟩ := blk4 HB1.out
      go_wp2_with fail
      clear hw1
      refine (H3.out _ HW.out).mono ?_
      rintro e w2 ⟨rfl, hb2⟩
      have HW2 := Lib.hid (HW.out.trans (hb2.mono HW.out.size))
      have HB2 := Lib.hid (blk_next hb2 HB0.out)
      have HB3 := Lib.hid (blk_next hb2 HB1.out)
      clear hb2 HB0 HB1 c0 c1 c2 c3 d0 d1 d2 d3
      obtain ⟨c0, c1, c2, c3⟩ := blk4 HB2.out
      obtain ⟨d0, d1, d2, d3⟩ := blk4 HB3.out
      cases q3
      · go_wp2_with fail
        go_ret
        exact ⟨ret_bool (by rw [HQ.out]; simp), HW2.out⟩
      · go_wp2_with fail
        refine (H4.out _ HW2.out).mono ?_
        rintro e w3 ⟨rfl, rfl⟩
        go_wp2_with fail
        go_ret
        exact ⟨ret_bool (by rw [HQ.out]; simp), HW2.out⟩
    · subst e1
      go_wp2_with fail
      go_ret
      exact ⟨ret_bool (by rw [HQ.out]; simp [e2]), HW.out⟩
  · go_wp2_with fail
    go_ret
    exact ⟨ret_bool (by rw [HQ.out]; simp [e1]), HW.out⟩
def wakeB : Ht.Bs := [71, 69, 84, 32, 47, 97, 32, 72, 84, 84, 80, 47, 49, 46, 49, 13, 10, 72, 111, 115, 116, 58, 32, 32, 120, 32, 32, 13, 10, 13, 10, 122]
def wakeP : Ht.Bs := [72, 84, 84, 80, 47, 49, 46, 49, 32, 52, 48, 52, 32, 78, 111, 116, 32, 70, 111, 117, 110, 100, 13, 10, 67, 111, 110, 116, 101, 110, 116, 45, 76, 101, 110, 103, 116, 104, 58, 32, 48, 13, 10, 13, 10]
theorem wake_parse : Ht.parseReq wakeB = (⟨[71, 69, 84], [47, 97], [⟨[72, 111, 115, 116], [120]⟩], []⟩, 31, 0) := by decide +kernel
theorem wake_print : Ht.printRsp ⟨404, [], []⟩ = (wakeP, 0) := by decide +kernel

def wakeC : Array Value := #[.int .u8 71, .int .u8 69, .int .u8 84, .int .u8 32, .int .u8 47, .int .u8 97, .int .u8 32, .int .u8 72, .int .u8 84, .int .u8 84, .int .u8 80, .int .u8 47, .int .u8 49, .int .u8 46, .int .u8 49, .int .u8 13, .int .u8 10, .int .u8 72, .int .u8 111, .int .u8 115, .int .u8 116, .int .u8 58, .int .u8 32, .int .u8 32, .int .u8 120, .int .u8 32, .int .u8 32, .int .u8 13, .int .u8 10, .int .u8 13, .int .u8 10, .int .u8 122]
def wakeD : Array Value := #[.int .u8 72, .int .u8 84, .int .u8 84, .int .u8 80, .int .u8 47, .int .u8 49, .int .u8 46, .int .u8 49, .int .u8 32, .int .u8 52, .int .u8 48, .int .u8 52, .int .u8 32, .int .u8 78, .int .u8 111, .int .u8 116, .int .u8 32, .int .u8 70, .int .u8 111, .int .u8 117, .int .u8 110, .int .u8 100, .int .u8 13, .int .u8 10, .int .u8 67, .int .u8 111, .int .u8 110, .int .u8 116, .int .u8 101, .int .u8 110, .int .u8 116, .int .u8 45, .int .u8 76, .int .u8 101, .int .u8 110, .int .u8 103, .int .u8 116, .int .u8 104, .int .u8 58, .int .u8 32, .int .u8 48, .int .u8 13, .int .u8 10, .int .u8 13, .int .u8 10]
theorem wakeC_eq : wakeC = (Lib.byteCells wakeB).toArray := by rfl
theorem wakeD_eq : wakeD = (Lib.byteCells wakeP).toArray := by rfl
theorem const_cells (w : World) (l : Ht.Bs) (C : Array Value) (fz : Nat × Nat) (hC : C = (Lib.byteCells l).toArray) : CellsAt (w.alloc (.cells C 5 fz)) (some ⟨w.heap.size, 0, none⟩) (Lib.byteCells l) := fun _ => by
  subst hC
  refine ⟨w.heap.size, 0, rfl, by simp, fun i v hi => ?_⟩
  rw [Nat.zero_add, cell_of_row _ _ i _ 5 fz (heap_alloc_new w _), List.getElem?_toArray, hi]
theorem hasPre_any (l m : Ht.Bs) (A B : Option Addr) (c d : Nat) (w : World) (hc : l.length ≤ c) (hA : CellsAt w A (Lib.byteCells l)) (hB : CellsAt w B (Lib.byteCells m)) {q : Bool} (hq : Lib.hasPrefix l m = q) :
    Calls Tryz.prog 35 #[.slice A l.length c, .slice B m.length d] w fun e w' => e = .returned (.bool q) ∧ w = w' := by
  refine (Tryz.bytes_HasPrefix_all A B l.length c m.length d _ _ w (by simp) (by simp) hc (bytesIn_of hA) (bytesIn_of hB)).mono ?_
  rintro e' w' ⟨rfl, rfl⟩
  refine ⟨ret_boolI ?_, rfl⟩
  rw [bytesOf_ints, bytesOf_ints, hq]
theorem Own.bytes {B : Nat} {v : Value} {l : Ht.Bs} {w : World} (h : Own 5 1 B v l.length (Lib.byteCells l) w) : ∃ A c, v = .slice A l.length c ∧ l.length ≤ c ∧ c ≤ 9223372036854775807 ∧ CellsAt w A (Lib.byteCells l) := by
  rcases h.own.2 with ⟨rfl, hn⟩ | ⟨g, cap, cur, rfl, hb, hg, hcap, hmax, rest⟩
  · have : l = [] := List.eq_nil_of_length_eq_zero hn
    subst this
    exact ⟨_, _, rfl, Nat.zero_le _, by omega, CellsAt.nil _ _⟩
  · obtain ⟨A, c, h1, h2⟩ := h.slice
    cases h1
    exact ⟨_, _, rfl, hcap, hmax, h2⟩
set_option maxRecDepth 100000 in
set_option maxHeartbeats 4000000 in
theorem wakes_any (w : World) (henv : Env w) : Calls Tryz.prog 11 #[] w fun e w' => e = .returned (.bool true) ∧ Below w.heap.size w w' := by
  have kc := Lib.run_convert_bytes_const (P := Tryz.prog) w 22 5 wakeC 32 32 Tryz.underlying22 Tryz.underlying5
  have kd := fun W : World => Lib.run_convert_bytes_const (P := Tryz.prog) W 22 5 wakeD 45 45 Tryz.underlying22 Tryz.underlying5
  have hb1 := below_box w (.cells wakeC 5 (32, 33))
  have HP := Lib.hid (parseReq_any wakeB (some ⟨w.heap.size, 0, none⟩) 32 (w.alloc (.cells wakeC 5 (32, 33))) (henv.next hb1) (by decide) (by decide) (const_cells w wakeB wakeC (32, 33) wakeC_eq))
  rw [wake_parse] at HP
  have HB1 := Lib.hid hb1
  have HE := Lib.hid henv
  rw [show wakeC.size = 32 from rfl] at kc
  rw [show wakeD.size = 45 from rfl] at kd
  have KD := Lib.hid kd
  clear kd henv hb1
  unfold wakeC at kc HP HB1
  go_enter Tryz.func11, Tryz.ntmps11
  go_wp2_with fail
  have HP2 : Calls Tryz.prog 12 _ _ fun e w' => ∃ hv A2 n2, e = .returned (.tuple #[.agg #[.string ⟨#[71, 69, 84]⟩, .string ⟨#[47, 97]⟩, hv, .slice A2 0 n2], .int .i64 31, .int .i64 0]) ∧ Own 65 2 _ hv ([⟨[72, 111, 115, 116], [120]⟩] : List Ht.Hd).length (hdCells [⟨[72, 111, 115, 116], [120]⟩]) w' ∧ Below _ _ w' := HP.out.mono (fun e w' h => by
    obtain ⟨hv, bv, h1, h2, h3, h4⟩ := h
    obtain ⟨A2, n2, rfl⟩ := own_shape h3
    exact ⟨hv, A2, n2, h1, h2, h4⟩)
  clear HP
  refine HP2.mono ?_
  rintro e w2 ⟨hv, A2, n2, rfl, hO1, hb⟩
  have HW2 := Lib.hid (HB1.out.trans (hb.mono HB1.out.size))
  obtain ⟨A1, n1, rfl, hn1, hds⟩ := hO1.heads
  have HD := Lib.hid hds
  clear hO1 hb HP2 hds kc HB1
  obtain ⟨bb, off, rfl, hbl, c0, c1⟩ := (HD.out.next (below_box w2 (.cells #[.string ⟨#[71, 69, 84]⟩, .string ⟨#[47, 97]⟩, .slice A1 1 n1, .slice A2 0 n2] 26)) (Nat.le_refl _)).at_ (k := 0) rfl
  rw [Nat.zero_mul, Nat.add_zero] at c0 c1
  dsimp only at c0 c1
  have HW3 := Lib.hid (HW2.out.trans ((below_box w2 (.cells #[.string ⟨#[71, 69, 84]⟩, .string ⟨#[47, 97]⟩, .slice (some ⟨bb, off, none⟩) 1 n1, .slice A2 0 n2] 26)).mono HW2.out.size))
  have HB3 := Lib.hid (heap_alloc_new w2 (.cells #[.string ⟨#[71, 69, 84]⟩, .string ⟨#[47, 97]⟩, .slice (some ⟨bb, off, none⟩) 1 n1, .slice A2 0 n2] 26))
  obtain ⟨d0, d1, d2, d3⟩ := blk4 HB3.out
  clear HD
  have HPr := Lib.hid (fun W (hW : Below w.heap.size w W) => printRsp_any ⟨404, [], []⟩ none 0 none 0 W (HE.out.next hW) ⟨HdsAt.nil _ _, CellsAt.nil _ _, by decide, fun h hh => by simp at hh, by decide, by decide, by decide, by decide⟩)
  rw [wake_print] at HPr
  have HC2 : Hid (∀ W, Below w.heap.size w W → Calls Tryz.prog 17 #[.agg #[.int .i64 404, .slice none 0 0, .slice none 0 0]] W fun e w' => ∃ A c, e = .returned (.tuple #[.slice A wakeP.length c, .int .i64 0]) ∧ wakeP.length ≤ c ∧ CellsAt w' A (Lib.byteCells wakeP) ∧ Below w.heap.size w w') := Lib.hid (fun W hW => (HPr.out W hW).mono (fun e w' h => by
    obtain ⟨v, h1, h2, h3⟩ := h
    obtain ⟨A, c, rfl, h4, h5, h6⟩ := h2.bytes
    exact ⟨A, c, h1, h4, h6, hW.trans (h3.mono hW.size)⟩))
  clear HPr
  go_wp2_with fail
  refine (HC2.out _ HW3.out).mono ?_
  rintro e w4 ⟨A4, n4, rfl, hn4, hc4, hb4⟩
  have HC4 := Lib.hid hc4
  have HW4 := Lib.hid hb4
  have kd := KD.out w4
  unfold wakeD at kd
  have hb5 := below_box w4 (.cells wakeD 5 (45, 46))
  have HHP := Lib.hid (hasPre_any wakeP wakeP A4 (some ⟨w4.heap.size, 0, none⟩) n4 45 (w4.alloc (.cells wakeD 5 (45, 46))) hn4 (hc4.next hb5 (Nat.le_refl _)) (const_cells w4 wakeP wakeD (45, 46) wakeD_eq) (q := true) (by decide))
  have HW5 := Lib.hid (hb4.trans (hb5.mono hb4.size))
  unfold wakeD at HHP HW5
  clear hc4 hb4 hb5 HC2 HW3 HB3 c0 c1 d0 d1 d2 d3
  go_wp2_with fail
  refine HHP.out.mono ?_
  rintro e w5 ⟨rfl, rfl⟩
  go_wp2_with fail
  go_ret
  exact ⟨rfl, HW5.out⟩
end Go.Proofs.YtoadahommlcjpaaGreatDoor
