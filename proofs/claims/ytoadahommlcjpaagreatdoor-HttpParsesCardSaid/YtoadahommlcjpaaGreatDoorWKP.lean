/-
  THE WALKS, ParseResponse.
-/
import Derived.Test.YtoadahommlcjpaaGreatDoorWJP
namespace Go.Proofs.YtoadahommlcjpaaGreatDoor
open Go.RowKit
set_option maxRecDepth 100000 in
set_option maxHeartbeats 4000000 in
theorem parseRsp_any (b : Ht.Bs) (B : Option Addr) (c : Nat) (w : World) (henv : Env w) (hbc : b.length ≤ c) (hc : b.length ≤ 140737488355328) (hcells : CellsAt w B (Lib.byteCells b)) :
    Calls Tryz.prog 18 #[.slice B b.length c] w (RspOut w (Ht.parseRsp b)) := by
  have HB0 := Lib.hid (heap_alloc_new w (.cells #[.int .i64 0, .slice none 0 0, .slice none 0 0] 36))
  have HW0 := Lib.hid (below_box w (.cells #[.int .i64 0, .slice none 0 0, .slice none 0 0] 36))
  have HR := Lib.hid (readP_any b B c _ (henv.next HW0.out) hbc hc (hcells.next HW0.out (Nat.le_refl _)))
  generalize Ht.parseRsp b = R at HR ⊢
  clear henv hbc hc hcells
  go_enter Tryz.func18, Tryz.ntmps18
  go_wp2_with fail
  refine HR.out.mono ?_
  rintro e w1 ⟨hv, bv, rfl, hO1, hO2, hb⟩
  obtain ⟨A1, n1, rfl⟩ := own_shape hO1
  obtain ⟨A2, n2, rfl⟩ := own_shape hO2
  have HO1 := Lib.hid hO1
  have HO2 := Lib.hid hO2
  have HB1 := Lib.hid (blk_next hb HB0.out)
  have HW1 := Lib.hid (HW0.out.trans (hb.mono HW0.out.size))
  have hs0 : (w.alloc (.cells #[.int .i64 0, .slice none 0 0, .slice none 0 0] 36)).heap.size = w.heap.size + 1 := by simp
  rw [hs0] at HO1 HO2
  clear hO1 hO2 hb HR HB0 hs0
  obtain ⟨c0, c1, c2⟩ := blk3 HB1.out
  obtain ⟨f0, f1, f2⟩ := blk3_free HB1.out
  have HS := Lib.hid (rp_set (x := .int .i64 R.1.status) (y := .slice A1 R.1.heads.length n1) (z := .slice A2 R.1.body.length n2) HB1.out)
  go_wp2_with fail
  (try simp only [Exit.inBlock, Exit.then])
  refine bodyPost_ret (results_row_tmp2 rfl _ _ _ w.heap.size _ rfl (rp_load HS.out.2)) rfl ?_
  exact ⟨_, _, rfl, own_lower (HO1.out.but HS.out.1 (by simp)) (by omega), own_lower (HO2.out.but HS.out.1 (by simp)) (by omega), HW1.out.trans (HS.out.1.to HW1.out.size (by simp))⟩
end Go.Proofs.YtoadahommlcjpaaGreatDoor
