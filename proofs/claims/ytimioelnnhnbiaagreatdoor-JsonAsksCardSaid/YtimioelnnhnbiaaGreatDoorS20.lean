/-
  Joined: ZDfile ZDid.
-/
import Derived.Test.YtimioelnnhnbiaaGreatDoorS17
import Derived.Test.YtimioelnnhnbiaaGreatDoorS05
import Derived.Deep.AppendLies
import Derived.Test.YtimioelnnhnbiaaGreatDoorS19
import Derived.Deep.MidRow
namespace Go.Proofs.YtimioelnnhnbiaaGreatDoor
open Go.RowKit
set_option maxRecDepth 100000 in
set_option maxHeartbeats 8000000 in
theorem list_file (l : List (Js.Bs × Js.Bs)) (A : Option Addr) (c : Nat) (w : World) (hR : RowAt 2 fileC w A l) (hlen : l.length ≤ 1000000) :
  Calls Tryz.prog 63 #[.slice A l.length c, .func (.func 64) #[] #[]] w fun e w' => Below w.heap.size w w' ∧ ∃ (Av : Option Addr) (cv : Nat), e = .returned (.agg #[.int .i64 5, .bool false, .int .i64 0, .string ⟨#[]⟩, .slice Av l.length cv, .slice none 0 0]) ∧
   JV w' (fun g => w.heap.size ≤ g) (.mk 5 false 0 [] (l.map jFile) []) [.int .i64 5, .bool false, .int .i64 0, .string ⟨#[]⟩, .slice Av l.length cv, .slice none 0 0] := by
 have HMADE := Lib.hid made_file
 have HR : Hid (∀ W, Below w.heap.size w W → RowAt 2 fileC W A l) := Lib.hid (fun W hW => hR.next hW)
 have b1 := below_box w (.cells #[.int .i64 0, .bool false, .int .i64 0, .string ⟨#[]⟩, .slice none 0 0, .slice none 0 0] 25)
 have s1 : (w.alloc (.cells #[.int .i64 0, .bool false, .int .i64 0, .string ⟨#[]⟩, .slice none 0 0, .slice none 0 0] 25)).heap.size = w.heap.size + 1 := by simp
 have e1 : JBox _ _ _ _ _ _ _ _ := heap_alloc_new w (.cells #[.int .i64 0, .bool false, .int .i64 0, .string ⟨#[]⟩, .slice none 0 0, .slice none 0 0] 25)
 have b2 := below_box (w.alloc (.cells #[.int .i64 0, .bool false, .int .i64 0, .string ⟨#[]⟩, .slice none 0 0, .slice none 0 0] 25)) (.cells #[.int .i64 5, .bool false, .int .i64 0, .string ⟨#[]⟩, .slice none 0 0, .slice none 0 0] 25)
 have e2 : JBox _ _ _ _ _ _ _ _ := heap_alloc_new (w.alloc (.cells #[.int .i64 0, .bool false, .int .i64 0, .string ⟨#[]⟩, .slice none 0 0, .slice none 0 0] 25)) (.cells #[.int .i64 5, .bool false, .int .i64 0, .string ⟨#[]⟩, .slice none 0 0, .slice none 0 0] 25)
 have s2 : ((w.alloc (.cells #[.int .i64 0, .bool false, .int .i64 0, .string ⟨#[]⟩, .slice none 0 0, .slice none 0 0] 25)).alloc (.cells #[.int .i64 5, .bool false, .int .i64 0, .string ⟨#[]⟩, .slice none 0 0, .slice none 0 0] 25)).heap.size = w.heap.size + 2 := by simp
 rw [s1] at e2
 have HE1 := Lib.hid (e1.next b2)
 have HE2 := Lib.hid e2
 have HW2 := Lib.hid (b1.trans (b2.mono (by rw [s1]; omega)))
 have HS2 := Lib.hid s2
 clear b1 s1 e1 b2 e2 s2 hR
 go_enter Tryz.func63, Tryz.ntmps63
 go_upto_region 2 with fail
 generalize ((w.alloc (.cells #[.int .i64 0, .bool false, .int .i64 0, .string ⟨#[]⟩, .slice none 0 0, .slice none 0 0] 25)).alloc (.cells #[.int .i64 5, .bool false, .int .i64 0, .string ⟨#[]⟩, .slice none 0 0, .slice none 0 0] 25)) = w2 at HE1 HE2 HW2 HS2 ⊢
 obtain ⟨N, hN⟩ : ∃ N, w.heap.size = N := ⟨_, rfl⟩
 rw [hN] at HE1 HE2 HS2 ⊢
 have HN := Lib.hid hN
 clear hN
 have HG0 : Hid (Gr 25 6 JV (fun g => N + 2 ≤ g) (N + 2) ((l.take 0).map jFile) (.slice none 0 0) [] w2) := Lib.hid (by rw [← HS2.out]; exact Gr.nil)
 go_wp2_with fail
 go_loopw [11] (fun i wr => ∃ (k : Nat) (Av : Option Addr) (cv : Nat) (rs : List (List Value)), k ≤ l.length ∧ i = .int .i64 k ∧ Hid (Gr 25 6 JV (fun g => N + 2 ≤ g) (N + 2) ((l.take k).map jFile) (.slice Av k cv) rs wr) ∧
  Hid (JBox wr N (.int .i64 0) (.bool false) (.int .i64 0) (.string ⟨#[]⟩) (.slice none 0 0) (.slice none 0 0)) ∧ Hid (JBox wr (N + 1) (.int .i64 5) (.bool false) (.int .i64 0) (.string ⟨#[]⟩) (.slice Av k cv) (.slice none 0 0)) ∧ Hid (Below N w wr)) (fun i _ => l.length - (intOf i).toNat)
 case atStart => exact ⟨0, none, 0, [], by omega, rfl, HG0, HE1, HE2, HN.out ▸ HW2⟩
 case round =>
  obtain ⟨k, Av, cv, rs, hk, rfl, HG, HZ, HX, HW⟩ := hrel
  by_cases hlt : k < l.length
  ·obtain ⟨x, hx⟩ : ∃ x, l[k]? = some x := ⟨l[k], List.getElem?_eq_getElem hlt⟩
   obtain ⟨g, o, hA1, hg, hcell⟩ := HR.out wr (by rw [HN.out]; exact HW.out) k x hx
   subst hA1
   have q0 : wr.cell? ⟨g, o + k * 2, none⟩ = some (.string (str x.1)) := hcell 0 _ rfl
   have q1 : wr.cell? ⟨g, o + k * 2 + 1, none⟩ = some (.string (str x.2)) := hcell 1 _ rfl
   have HY := Lib.hid hx
   clear hx hcell hg
   have hyl := below_box wr (.cells #[.string (str x.1), .string (str x.2)] 75)
   have hHB := heap_alloc_new wr (.cells #[.string (str x.1), .string (str x.2)] 75)
   have hYL : wr.heap.size < (wr.alloc (.cells #[.string (str x.1), .string (str x.2)] 75)).heap.size := by simp
   have HGa := Lib.hid (HG.out.next kept_I hyl)
   have HZa := Lib.hid (HZ.out.next hyl)
   have HXa := Lib.hid (HX.out.next hyl)
   have hwsz : N ≤ wr.heap.size := by have := HX.out.lt; omega
   have HWa : Hid (Below N w _) := Lib.hid (HW.out.trans (hyl.mono hwsz))
   have HHB := Lib.hid hHB
   have HYLa := Lib.hid hYL
   clear hyl hHB hYL HG HZ HX HW
   go_upto_region 5 with fail
   clear q0 q1
   generalize (wr.alloc (.cells #[.string (str x.1), .string (str x.2)] 75)) = wq at HGa HZa HXa HWa HHB HYLa ⊢
   generalize wr.heap.size = Y at HHB HYLa hwsz ⊢
   go_wp2_with fail
   refine wp_region_any (by kernel_rfl) ?_
   change wpAny _ _ _ _ _ _ _ (World.drew _)
   have hbd : Below wq.heap.size wq wq.drew := below_drewN (Below.refl _ _) 1
   have HG1 := Lib.hid (HGa.out.next kept_I hbd)
   have HZ1 := Lib.hid (HZa.out.next hbd)
   have HX1 := Lib.hid (HXa.out.next hbd)
   have HW1 : Hid (Below N w wq.drew) := Lib.hid (HWa.out.trans (hbd.mono (by have := HXa.out.lt; omega)))
   have HYL : Hid (Y < wq.drew.heap.size) := Lib.hid (Nat.lt_of_lt_of_le HYLa.out hbd.size)
   have hs5 : wq.drew.cell? ⟨N + 1, 4, none⟩ = some (.slice Av k cv) := HX1.out.cells.2.2.2.2.1
   have HS := Lib.hid (show (fun W => W.cell? ⟨N + 1, 4, none⟩ = some (.slice Av k cv) ∧ W.cell? ⟨Y, 0, none⟩ = some (.string (str x.1)) ∧ W.cell? ⟨Y, 1, none⟩ = some (.string (str x.2))) wq.drew from ⟨hs5, (blk_cells (blk_next hbd HHB.out) 0).trans rfl, (blk_cells (blk_next hbd HHB.out) 1).trans rfl⟩)
   clear hbd hs5 HGa HZa HXa HWa HHB HYLa hwsz
   generalize wq.drew = W at HG1 HZ1 HX1 HW1 HS HYL ⊢
   refine wpAny_of_till (S := fun W => W.cell? ⟨N + 1, 4, none⟩ = some (.slice Av k cv) ∧ W.cell? ⟨Y, 0, none⟩ = some (.string (str x.1)) ∧ W.cell? ⟨Y, 1, none⟩ = some (.string (str x.2))) (st := (fun l => l.getD 6 false)) _ _ _ _ ?_
   change wpTill _ _ _ _ _ _ _ #[false, false, false, false, false, false, false, false, false] _ _
   refine tkF 0 (.pointer (some ⟨N + 1, 4, none⟩)) rfl ?yb0 (fun _ => HS.out) ?_
   case yb0 => (intro W0 _; go_simp; (try with_reducible rfl))
   simp only [Act.put, CL]
   refine tk 1 (.slice Av k cv) rfl (fun l h h9 => (Shutd.step h (j := 6) (k := 1) (by kernel_rfl) h9)) (Or.inl ⟨by rfl, ?yb1⟩) HS.out (fun _ => ?_)
   case yb1 => (intro W0 hS; obtain ⟨s1, e0, e1⟩ := hS; go_simp; (try with_reducible rfl))
   simp only [Act.put, CL]
   refine tkF 2 (.func (.func 64) #[] #[]) rfl ?yb2 (fun _ => HS.out) ?_
   case yb2 => (intro W0 _; go_simp; (try with_reducible rfl))
   simp only [Act.put, CL]
   refine tk 3 (.agg #[.string (str x.1), .string (str x.2)]) rfl (fun l h h9 => (Shutd.step h (j := 4) (k := 3) (by kernel_rfl) (Shutd.step h (j := 6) (k := 4) (by kernel_rfl) h9))) (Or.inl ⟨by rfl, ?yb3⟩) HS.out (fun _ => ?_)
   case yb3 => (intro W0 hS; obtain ⟨s1, e0, e1⟩ := hS; go_simp; (try with_reducible rfl))
   simp only [Act.put, CL]
   refine rdy 4 rfl (fun KK hKK => ?_)
   go_simp
   refine (HMADE.out x W).mono ?_
   rintro e W1 ⟨hb, us, rfl, hju⟩
   have HG2 := Lib.hid (HG1.out.next kept_I hb)
   have HZ2 := Lib.hid (HZ1.out.next hb)
   have HX2 := Lib.hid (HX1.out.next hb)
   have hwsz : N + 2 ≤ W.heap.size := by have := HX1.out.lt; omega
   have HW2 := Lib.hid (HW1.out.trans (hb.mono (by omega)))
   have HS2 : Hid ((fun W => W.cell? ⟨N + 1, 4, none⟩ = some (.slice Av k cv) ∧ W.cell? ⟨Y, 0, none⟩ = some (.string (str x.1)) ∧ W.cell? ⟨Y, 1, none⟩ = some (.string (str x.2))) W1) := Lib.hid (⟨hb.cell (p := ⟨N + 1, 4, none⟩) HX1.out.lt |>.trans HS.out.1, hb.cell (p := ⟨Y, 0, none⟩) HYL.out |>.trans HS.out.2.1, hb.cell (p := ⟨Y, 1, none⟩) HYL.out |>.trans HS.out.2.2⟩)
   have HYL2 := Lib.hid (Nat.lt_of_lt_of_le HYL.out hb.size)
   have HJ2 : Hid (JV W1 (fun g => N + 2 ≤ g ∧ (Value.slice Av k cv).ownBlock ≠ some g) (jFile x) us) := Lib.hid (hju.wide (fun g hg _ => ⟨by omega, HG1.out.fresh hg⟩))
   clear hb hju hwsz HG1 HZ1 HX1 HW1 HS HYL
   obtain ⟨A7, c7, A8, c8, k1, b1, n1, t1, l7, l8, rfl⟩ := HJ2.out.shape
   refine hKK _ _ (fun _ => HS2.out) ?_
   clear hKK KK
   simp only [Act.put, CL]
   refine rdy 5 rfl (fun KK hKK => ?_)
   go_simp
   have hal := below_box W1 (.cells #[.int .i64 k1, .bool b1, .int .i64 n1, .string t1, .slice A7 l7 c7, .slice A8 l8 c8] 25)
   have HQ := Lib.hid (heap_alloc_new W1 (.cells #[.int .i64 k1, .bool b1, .int .i64 n1, .string t1, .slice A7 l7 c7, .slice A8 l8 c8] 25))
   have HG3 := Lib.hid (HG2.out.next kept_I hal)
   have HZ3 := Lib.hid (HZ2.out.next hal)
   have HX3 := Lib.hid (HX2.out.next hal)
   have HW3 := Lib.hid (HW2.out.trans (hal.mono (by have := HX2.out.lt; omega)))
   have HJ3 := Lib.hid (HJ2.out.next hal)
   have HS3 : Hid ((fun W => W.cell? ⟨N + 1, 4, none⟩ = some (.slice Av k cv) ∧ W.cell? ⟨Y, 0, none⟩ = some (.string (str x.1)) ∧ W.cell? ⟨Y, 1, none⟩ = some (.string (str x.2))) (W1.alloc (.cells #[.int .i64 k1, .bool b1, .int .i64 n1, .string t1, .slice A7 l7 c7, .slice A8 l8 c8] 25))) := Lib.hid (⟨hal.cell (p := ⟨N + 1, 4, none⟩) HX2.out.lt |>.trans HS2.out.1, hal.cell (p := ⟨Y, 0, none⟩) HYL2.out |>.trans HS2.out.2.1, hal.cell (p := ⟨Y, 1, none⟩) HYL2.out |>.trans HS2.out.2.2⟩)
   clear hal HG2 HZ2 HX2 HW2 HJ2 HS2 HYL2
   generalize (W1.alloc (.cells #[.int .i64 k1, .bool b1, .int .i64 n1, .string t1, .slice A7 l7 c7, .slice A8 l8 c8] 25)) = W2 at HQ HG3 HZ3 HX3 HW3 HJ3 HS3 ⊢
   obtain ⟨M, hM⟩ : ∃ M, W1.heap.size = M := ⟨_, rfl⟩
   rw [hM] at HQ ⊢
   clear hM
   refine hKK _ _ (fun _ => HS3.out) ?_
   clear hKK KK
   simp only [Act.put, CL]
   refine rdy 6 rfl (fun KK hKK => ?_)
   obtain ⟨i0, hi, hz0, hz1, hz2⟩ := info_parts info25
   have hlk : ((l.take k).map jFile).length = k := by rw [List.length_map, List.length_take]; omega
   have hown := HG3.out.own.own
   rw [hlk] at hown
   refine wp_append_lies W2 (.tmp 16) (.tmp 20) 22 rfl (N + 2) 25 i0 zeroJ 6 88 Tryz.underlying22 hi hz0 hz1 hz2 rfl (by decide) (.slice Av k cv) k rs.flatten rfl hown ⟨M, 0, none⟩ 1 1 [.int .i64 k1, .bool b1, .int .i64 n1, .string t1, .slice A7 l7 c7, .slice A8 l8 c8] rfl rfl (World.news_of_block HQ.out) (by intro u hu; simp at hu; rcases hu with rfl | rfl | rfl | rfl | rfl | rfl <;> rfl) (by decide) (by unfold maxLen; omega) (by omega) HG3.out.own.le W2.heap.size rfl ?_
   intro g9 cap W3 hown3 hgrow hat3 hlt3
   have hNo : ∀ j, j < N + 2 → j ∉ (Value.slice Av k cv).ownBlock.toList := by
    intro j hj hm
    have hm : (Value.slice Av k cv).ownBlock = some j := by simpa using hm
    have := (HG3.out.own.lt j hm).1
    omega
   obtain ⟨hG4, hk3⟩ := HG3.out.push kept_I (x := jFile x) (vs := [.int .i64 k1, .bool b1, .int .i64 n1, .string t1, .slice A7 l7 c7, .slice A8 l8 c8]) HJ3.out (by rw [hlk]; exact hown3) hgrow hat3
   rw [hlk] at hG4
   have htk : (l.take k).map jFile ++ [jFile x] = (l.take (k + 1)).map jFile := by rw [List.take_add_one, HY.out, List.map_append]; rfl
   rw [htk] at hG4
   have HG4 := Lib.hid hG4
   have HZ4 : Hid (JBox W3 N _ _ _ _ _ _) := Lib.hid (HZ3.out.but hk3 (hNo N (by omega)))
   have HX4 : Hid (JBox W3 (N + 1) _ _ _ _ _ _) := Lib.hid (HX3.out.but hk3 (hNo (N + 1) (by omega)))
   have HW4 : Hid (Below N w W3) := Lib.hid (HW3.out.trans (hk3.to (by have := HX3.out.lt; omega) (by
    intro j hj
    have hm : (Value.slice Av k cv).ownBlock = some j := by simpa using hj
    have := (HG3.out.own.lt j hm).1
    omega)))
   clear hG4 hk3 hNo hgrow hown3 hown htk hat3 hlt3 hi hz0 hz1 hz2 hlk HG3 HZ3 HX3 HW3 HJ3 HS3 HQ
   refine hKK _ _ (fun h0 => absurd h0 (by decide)) ?_
   clear hKK KK
   simp only [Act.put, CL]
   refine tkF 7 (.pointer (some ⟨N + 1, 4, none⟩)) rfl ?yb7 (fun h0 => absurd h0 (by decide)) ?_
   case yb7 => (intro W0 _; go_simp; (try with_reducible rfl))
   simp only [Act.put, CL]
   refine rdy 8 rfl (fun KK hKK => ?_)
   obtain ⟨hk4, hx4⟩ := but_set (i := 4) (.slice (some ⟨g9, 0, none⟩) (k + 1) cap) HX4.out
   have HG5 : Hid (Gr 25 6 JV (fun g => N + 2 ≤ g) (N + 2) ((l.take (k + 1)).map jFile) (.slice (some ⟨g9, 0, none⟩) (k + 1) cap) (rs ++ [[.int .i64 k1, .bool b1, .int .i64 n1, .string t1, .slice A7 l7 c7, .slice A8 l8 c8]]) (W3.setCell ⟨N + 1, 4, none⟩ (.slice (some ⟨g9, 0, none⟩) (k + 1) cap))) := Lib.hid (HG4.out.but kept_I hk4 (by intro j hj; simp at hj; omega) (by intro j hj; simp at hj; omega))
   have HZ5 : Hid (JBox (W3.setCell ⟨N + 1, 4, none⟩ (.slice (some ⟨g9, 0, none⟩) (k + 1) cap)) N _ _ _ _ _ _) := Lib.hid (HZ4.out.but hk4 (by simp))
   have HX5 : Hid (JBox (W3.setCell ⟨N + 1, 4, none⟩ (.slice (some ⟨g9, 0, none⟩) (k + 1) cap)) (N + 1) (.int .i64 5) (.bool false) (.int .i64 0) (.string ⟨#[]⟩) (.slice (some ⟨g9, 0, none⟩) (k + 1) cap) (.slice none 0 0)) := Lib.hid hx4
   have HW5 := Lib.hid (HW4.out.trans (hk4.to (by have := HX4.out.lt; omega) (by intro j hj; simp at hj; omega)))
   obtain ⟨x0, x1, x2, x3, x4, x5⟩ := HX4.out.cells
   obtain ⟨f0, f1, f2, f3, f4, f5⟩ := HX4.out.frees
   clear hk4 hx4
   go_simp
   clear x0 x1 x2 x3 x4 x5 f0 f1 f2 f3 f4 f5
   refine hKK _ _ (fun h0 => absurd h0 (by decide)) ?_
   clear hKK KK
   simp only [Act.put, CL]
   refine wpTill_done (by kernel_rfl) ?_ _
   (try simp only [Exit.then])
   go_wp2_with fail
   go_roundw
   case rel => exact ⟨k + 1, _, _, _, by omega, by go_num, HG5, HZ5, HX5, HW5⟩
   case measure => simp [intOf]; omega
  ·obtain rfl : k = l.length := by omega
   obtain ⟨x0, x1, x2, x3, x4, x5⟩ := HX.out.cells
   obtain ⟨z0, z1, z2, z3, z4, z5⟩ := HZ.out.cells
   obtain ⟨f0, f1, f2, f3, f4, f5⟩ := HZ.out.frees
   obtain ⟨hk9, hx9⟩ := j25_set (.int .i64 5) (.bool false) (.int .i64 0) (.string ⟨#[]⟩) (.slice Av l.length cv) (.slice none 0 0) HZ.out
   have HK9 := Lib.hid hk9
   have HX9 := Lib.hid hx9
   have HV : Hid (JV wr (fun g => N + 2 ≤ g ∨ N + 2 ≤ g) (.mk 5 false 0 [] (l.map jFile) []) [.int .i64 5, .bool false, .int .i64 0, .string ⟨#[]⟩, .slice Av l.length cv, .slice none 0 0]) := Lib.hid (by
    have h1 := HG.out.list 5 false 0 []
    rw [List.take_length] at h1
    exact h1)
   clear hk9 hx9
   go_wp2_with fail
   refine bodyPost_ret (results_row1 rfl _ _ _ N #[.int .i64 5, .bool false, .int .i64 0, .string ⟨#[]⟩, .slice Av l.length cv, .slice none 0 0] rfl (j25_load HX9.out)) rfl ?_
   rw [HN.out]
   refine ⟨HW.out.trans (HK9.out.to (by have := HX.out.lt; omega) (by intro j hj; simp at hj; omega)), Av, cv, rfl, ?_⟩
   exact (HV.out.but HK9.out (by intro j hj; simp at hj; omega)).wide (fun g hg _ => by omega)
end Go.Proofs.YtimioelnnhnbiaaGreatDoor
namespace Go.Proofs.YtimioelnnhnbiaaGreatDoor
open Go.RowKit
set_option maxRecDepth 100000 in
set_option maxHeartbeats 8000000 in
theorem list_id (l : List (Nat → UInt8)) (A : Option Addr) (c : Nat) (w : World) (hR : RowAt 32 idC w A l) (hlen : l.length ≤ 1000000) :
  Calls Tryz.prog 70 #[.slice A l.length c, .func (.func 62) #[] #[]] w fun e w' => Below w.heap.size w w' ∧ ∃ (Av : Option Addr) (cv : Nat), e = .returned (.agg #[.int .i64 5, .bool false, .int .i64 0, .string ⟨#[]⟩, .slice Av l.length cv, .slice none 0 0]) ∧
   JV w' (fun g => w.heap.size ≤ g) (.mk 5 false 0 [] (l.map jId) []) [.int .i64 5, .bool false, .int .i64 0, .string ⟨#[]⟩, .slice Av l.length cv, .slice none 0 0] := by
 have HMADE := Lib.hid made_id
 have HR : Hid (∀ W, Below w.heap.size w W → RowAt 32 idC W A l) := Lib.hid (fun W hW => hR.next hW)
 have b1 := below_box w (.cells #[.int .i64 0, .bool false, .int .i64 0, .string ⟨#[]⟩, .slice none 0 0, .slice none 0 0] 25)
 have s1 : (w.alloc (.cells #[.int .i64 0, .bool false, .int .i64 0, .string ⟨#[]⟩, .slice none 0 0, .slice none 0 0] 25)).heap.size = w.heap.size + 1 := by simp
 have e1 : JBox _ _ _ _ _ _ _ _ := heap_alloc_new w (.cells #[.int .i64 0, .bool false, .int .i64 0, .string ⟨#[]⟩, .slice none 0 0, .slice none 0 0] 25)
 have b2 := below_box (w.alloc (.cells #[.int .i64 0, .bool false, .int .i64 0, .string ⟨#[]⟩, .slice none 0 0, .slice none 0 0] 25)) (.cells #[.int .i64 5, .bool false, .int .i64 0, .string ⟨#[]⟩, .slice none 0 0, .slice none 0 0] 25)
 have e2 : JBox _ _ _ _ _ _ _ _ := heap_alloc_new (w.alloc (.cells #[.int .i64 0, .bool false, .int .i64 0, .string ⟨#[]⟩, .slice none 0 0, .slice none 0 0] 25)) (.cells #[.int .i64 5, .bool false, .int .i64 0, .string ⟨#[]⟩, .slice none 0 0, .slice none 0 0] 25)
 have s2 : ((w.alloc (.cells #[.int .i64 0, .bool false, .int .i64 0, .string ⟨#[]⟩, .slice none 0 0, .slice none 0 0] 25)).alloc (.cells #[.int .i64 5, .bool false, .int .i64 0, .string ⟨#[]⟩, .slice none 0 0, .slice none 0 0] 25)).heap.size = w.heap.size + 2 := by simp
 rw [s1] at e2
 have HE1 := Lib.hid (e1.next b2)
 have HE2 := Lib.hid e2
 have HW2 := Lib.hid (b1.trans (b2.mono (by rw [s1]; omega)))
 have HS2 := Lib.hid s2
 clear b1 s1 e1 b2 e2 s2 hR
 go_enter Tryz.func70, Tryz.ntmps70
 go_upto_region 2 with fail
 generalize ((w.alloc (.cells #[.int .i64 0, .bool false, .int .i64 0, .string ⟨#[]⟩, .slice none 0 0, .slice none 0 0] 25)).alloc (.cells #[.int .i64 5, .bool false, .int .i64 0, .string ⟨#[]⟩, .slice none 0 0, .slice none 0 0] 25)) = w2 at HE1 HE2 HW2 HS2 ⊢
 obtain ⟨N, hN⟩ : ∃ N, w.heap.size = N := ⟨_, rfl⟩
 rw [hN] at HE1 HE2 HS2 ⊢
 have HN := Lib.hid hN
 clear hN
 have HG0 : Hid (Gr 25 6 JV (fun g => N + 2 ≤ g) (N + 2) ((l.take 0).map jId) (.slice none 0 0) [] w2) := Lib.hid (by rw [← HS2.out]; exact Gr.nil)
 go_wp2_with fail
 go_loopw [11] (fun i wr => ∃ (k : Nat) (Av : Option Addr) (cv : Nat) (rs : List (List Value)), k ≤ l.length ∧ i = .int .i64 k ∧ Hid (Gr 25 6 JV (fun g => N + 2 ≤ g) (N + 2) ((l.take k).map jId) (.slice Av k cv) rs wr) ∧
  Hid (JBox wr N (.int .i64 0) (.bool false) (.int .i64 0) (.string ⟨#[]⟩) (.slice none 0 0) (.slice none 0 0)) ∧ Hid (JBox wr (N + 1) (.int .i64 5) (.bool false) (.int .i64 0) (.string ⟨#[]⟩) (.slice Av k cv) (.slice none 0 0)) ∧ Hid (Below N w wr)) (fun i _ => l.length - (intOf i).toNat)
 case atStart => exact ⟨0, none, 0, [], by omega, rfl, HG0, HE1, HE2, HN.out ▸ HW2⟩
 case round =>
  obtain ⟨k, Av, cv, rs, hk, rfl, HG, HZ, HX, HW⟩ := hrel
  by_cases hlt : k < l.length
  ·obtain ⟨x, hx⟩ : ∃ x, l[k]? = some x := ⟨l[k], List.getElem?_eq_getElem hlt⟩
   obtain ⟨g, o, hA1, hg, hcell⟩ := HR.out wr (by rw [HN.out]; exact HW.out) k x hx
   subst hA1
   have hrange : wr.rangeAt g (o + k * 32) (idC x) := fun j v hv => hcell j v hv
   have HY := Lib.hid hx
   clear hx hcell hg
   have hyl := below_box wr (.cells #[.int .u8 0, .int .u8 0, .int .u8 0, .int .u8 0, .int .u8 0, .int .u8 0, .int .u8 0, .int .u8 0, .int .u8 0, .int .u8 0, .int .u8 0, .int .u8 0, .int .u8 0, .int .u8 0, .int .u8 0, .int .u8 0, .int .u8 0, .int .u8 0, .int .u8 0, .int .u8 0, .int .u8 0, .int .u8 0, .int .u8 0, .int .u8 0, .int .u8 0, .int .u8 0, .int .u8 0, .int .u8 0, .int .u8 0, .int .u8 0, .int .u8 0, .int .u8 0] 29)
   have hHB : (wr.alloc (.cells #[.int .u8 0, .int .u8 0, .int .u8 0, .int .u8 0, .int .u8 0, .int .u8 0, .int .u8 0, .int .u8 0, .int .u8 0, .int .u8 0, .int .u8 0, .int .u8 0, .int .u8 0, .int .u8 0, .int .u8 0, .int .u8 0, .int .u8 0, .int .u8 0, .int .u8 0, .int .u8 0, .int .u8 0, .int .u8 0, .int .u8 0, .int .u8 0, .int .u8 0, .int .u8 0, .int .u8 0, .int .u8 0, .int .u8 0, .int .u8 0, .int .u8 0, .int .u8 0] 29)).heap[wr.heap.size]? = some (.cells (idA noId) 29 (0, 0)) := heap_alloc_new wr (.cells #[.int .u8 0, .int .u8 0, .int .u8 0, .int .u8 0, .int .u8 0, .int .u8 0, .int .u8 0, .int .u8 0, .int .u8 0, .int .u8 0, .int .u8 0, .int .u8 0, .int .u8 0, .int .u8 0, .int .u8 0, .int .u8 0, .int .u8 0, .int .u8 0, .int .u8 0, .int .u8 0, .int .u8 0, .int .u8 0, .int .u8 0, .int .u8 0, .int .u8 0, .int .u8 0, .int .u8 0, .int .u8 0, .int .u8 0, .int .u8 0, .int .u8 0, .int .u8 0] 29)
   go_upto_region 5 with (first | (refine wpList_load_mid rfl 29 _ rfl g (o + k * 32) rfl (idC x) _ hrange und29 rfl (by rw [info29]; rfl) ?_) | (refine wpList_store_row rfl 29 _ _ rfl wr.heap.size rfl (idA noId) (idA x) rfl hHB rfl (by rw [info29]; rfl) (idC_one _) ?_; intro wq hk9 hx9))
   have hB9 : Below wr.heap.size wr wq := hyl.trans (hk9.to (by simp) (by intro j hj; simp at hj; omega))
   have hYL : wr.heap.size < wq.heap.size := (Array.getElem?_eq_some_iff.1 hx9).1
   have HGa := Lib.hid (HG.out.next kept_I hB9)
   have HZa := Lib.hid (HZ.out.next hB9)
   have HXa := Lib.hid (HX.out.next hB9)
   have hwsz : N ≤ wr.heap.size := by have := HX.out.lt; omega
   have HWa : Hid (Below N w wq) := Lib.hid (HW.out.trans (hB9.mono hwsz))
   have HHB := Lib.hid hx9
   have HYLa := Lib.hid hYL
   clear hyl hHB hYL HG HZ HX HW hk9 hx9 hB9 hrange
   generalize wr.heap.size = Y at HHB HYLa hwsz ⊢
   go_wp2_with fail
   refine wp_region_any (by kernel_rfl) ?_
   change wpAny _ _ _ _ _ _ _ (World.drew _)
   have hbd : Below wq.heap.size wq wq.drew := below_drewN (Below.refl _ _) 1
   have HG1 := Lib.hid (HGa.out.next kept_I hbd)
   have HZ1 := Lib.hid (HZa.out.next hbd)
   have HX1 := Lib.hid (HXa.out.next hbd)
   have HW1 : Hid (Below N w wq.drew) := Lib.hid (HWa.out.trans (hbd.mono (by have := HXa.out.lt; omega)))
   have HYL : Hid (Y < wq.drew.heap.size) := Lib.hid (Nat.lt_of_lt_of_le HYLa.out hbd.size)
   have hs5 : wq.drew.cell? ⟨N + 1, 4, none⟩ = some (.slice Av k cv) := HX1.out.cells.2.2.2.2.1
   have HS := Lib.hid (show (fun W => W.cell? ⟨N + 1, 4, none⟩ = some (.slice Av k cv) ∧ W.heap[Y]? = some (.cells (idA x) 29 (0, 0))) wq.drew from ⟨hs5, blk_next hbd HHB.out⟩)
   clear hbd hs5 HGa HZa HXa HWa HHB HYLa hwsz
   generalize wq.drew = W at HG1 HZ1 HX1 HW1 HS HYL ⊢
   refine wpAny_of_till (S := fun W => W.cell? ⟨N + 1, 4, none⟩ = some (.slice Av k cv) ∧ W.heap[Y]? = some (.cells (idA x) 29 (0, 0))) (st := (fun l => l.getD 6 false)) _ _ _ _ ?_
   change wpTill _ _ _ _ _ _ _ #[false, false, false, false, false, false, false, false, false] _ _
   refine tkF 0 (.pointer (some ⟨N + 1, 4, none⟩)) rfl ?yb0 (fun _ => HS.out) ?_
   case yb0 => (intro W0 _; go_simp; (try with_reducible rfl))
   simp only [Act.put, CL]
   refine tk 1 (.slice Av k cv) rfl (fun l h h9 => (Shutd.step h (j := 6) (k := 1) (by kernel_rfl) h9)) (Or.inl ⟨by rfl, ?yb1⟩) HS.out (fun _ => ?_)
   case yb1 => (intro W0 hS; obtain ⟨s1, e0⟩ := hS; go_simp; (try with_reducible rfl))
   simp only [Act.put, CL]
   refine tkF 2 (.func (.func 62) #[] #[]) rfl ?yb2 (fun _ => HS.out) ?_
   case yb2 => (intro W0 _; go_simp; (try with_reducible rfl))
   simp only [Act.put, CL]
   refine tk 3 (.agg (idC x).toArray) rfl (fun l h h9 => (Shutd.step h (j := 4) (k := 3) (by kernel_rfl) (Shutd.step h (j := 6) (k := 4) (by kernel_rfl) h9))) (yieldsIf_load_mid rfl 29 _ rfl Y 0 rfl (idC x) _ (fun W hS j v hv => (blk_cells hS.2 (0 + j)).trans (by rw [Nat.zero_add]; unfold idA; rw [List.getElem?_toArray]; exact hv)) und29 rfl (by rw [info29]; rfl)) HS.out (fun _ => ?_)
   simp only [Act.put, CL]
   refine rdy 4 rfl (fun KK hKK => ?_)
   go_simp
   refine (HMADE.out x W).mono ?_
   rintro e W1 ⟨hb, us, rfl, hju⟩
   have HG2 := Lib.hid (HG1.out.next kept_I hb)
   have HZ2 := Lib.hid (HZ1.out.next hb)
   have HX2 := Lib.hid (HX1.out.next hb)
   have hwsz : N + 2 ≤ W.heap.size := by have := HX1.out.lt; omega
   have HW2 := Lib.hid (HW1.out.trans (hb.mono (by omega)))
   have HS2 : Hid ((fun W => W.cell? ⟨N + 1, 4, none⟩ = some (.slice Av k cv) ∧ W.heap[Y]? = some (.cells (idA x) 29 (0, 0))) W1) := Lib.hid (⟨hb.cell (p := ⟨N + 1, 4, none⟩) HX1.out.lt |>.trans HS.out.1, blk_next hb HS.out.2⟩)
   have HYL2 := Lib.hid (Nat.lt_of_lt_of_le HYL.out hb.size)
   have HJ2 : Hid (JV W1 (fun g => N + 2 ≤ g ∧ (Value.slice Av k cv).ownBlock ≠ some g) (jId x) us) := Lib.hid (hju.wide (fun g hg _ => ⟨by omega, HG1.out.fresh hg⟩))
   clear hb hju hwsz HG1 HZ1 HX1 HW1 HS HYL
   obtain ⟨A7, c7, A8, c8, k1, b1, n1, t1, l7, l8, rfl⟩ := HJ2.out.shape
   refine hKK _ _ (fun _ => HS2.out) ?_
   clear hKK KK
   simp only [Act.put, CL]
   refine rdy 5 rfl (fun KK hKK => ?_)
   go_simp
   have hal := below_box W1 (.cells #[.int .i64 k1, .bool b1, .int .i64 n1, .string t1, .slice A7 l7 c7, .slice A8 l8 c8] 25)
   have HQ := Lib.hid (heap_alloc_new W1 (.cells #[.int .i64 k1, .bool b1, .int .i64 n1, .string t1, .slice A7 l7 c7, .slice A8 l8 c8] 25))
   have HG3 := Lib.hid (HG2.out.next kept_I hal)
   have HZ3 := Lib.hid (HZ2.out.next hal)
   have HX3 := Lib.hid (HX2.out.next hal)
   have HW3 := Lib.hid (HW2.out.trans (hal.mono (by have := HX2.out.lt; omega)))
   have HJ3 := Lib.hid (HJ2.out.next hal)
   have HS3 : Hid ((fun W => W.cell? ⟨N + 1, 4, none⟩ = some (.slice Av k cv) ∧ W.heap[Y]? = some (.cells (idA x) 29 (0, 0))) (W1.alloc (.cells #[.int .i64 k1, .bool b1, .int .i64 n1, .string t1, .slice A7 l7 c7, .slice A8 l8 c8] 25))) := Lib.hid (⟨hal.cell (p := ⟨N + 1, 4, none⟩) HX2.out.lt |>.trans HS2.out.1, blk_next hal HS2.out.2⟩)
   clear hal HG2 HZ2 HX2 HW2 HJ2 HS2 HYL2
   generalize (W1.alloc (.cells #[.int .i64 k1, .bool b1, .int .i64 n1, .string t1, .slice A7 l7 c7, .slice A8 l8 c8] 25)) = W2 at HQ HG3 HZ3 HX3 HW3 HJ3 HS3 ⊢
   obtain ⟨M, hM⟩ : ∃ M, W1.heap.size = M := ⟨_, rfl⟩
   rw [hM] at HQ ⊢
   clear hM
   refine hKK _ _ (fun _ => HS3.out) ?_
   clear hKK KK
   simp only [Act.put, CL]
   refine rdy 6 rfl (fun KK hKK => ?_)
   obtain ⟨i0, hi, hz0, hz1, hz2⟩ := info_parts info25
   have hlk : ((l.take k).map jId).length = k := by rw [List.length_map, List.length_take]; omega
   have hown := HG3.out.own.own
   rw [hlk] at hown
   refine wp_append_lies W2 (.tmp 16) (.tmp 20) 22 rfl (N + 2) 25 i0 zeroJ 6 88 Tryz.underlying22 hi hz0 hz1 hz2 rfl (by decide) (.slice Av k cv) k rs.flatten rfl hown ⟨M, 0, none⟩ 1 1 [.int .i64 k1, .bool b1, .int .i64 n1, .string t1, .slice A7 l7 c7, .slice A8 l8 c8] rfl rfl (World.news_of_block HQ.out) (by intro u hu; simp at hu; rcases hu with rfl | rfl | rfl | rfl | rfl | rfl <;> rfl) (by decide) (by unfold maxLen; omega) (by omega) HG3.out.own.le W2.heap.size rfl ?_
   intro g9 cap W3 hown3 hgrow hat3 hlt3
   have hNo : ∀ j, j < N + 2 → j ∉ (Value.slice Av k cv).ownBlock.toList := by
    intro j hj hm
    have hm : (Value.slice Av k cv).ownBlock = some j := by simpa using hm
    have := (HG3.out.own.lt j hm).1
    omega
   obtain ⟨hG4, hk3⟩ := HG3.out.push kept_I (x := jId x) (vs := [.int .i64 k1, .bool b1, .int .i64 n1, .string t1, .slice A7 l7 c7, .slice A8 l8 c8]) HJ3.out (by rw [hlk]; exact hown3) hgrow hat3
   rw [hlk] at hG4
   have htk : (l.take k).map jId ++ [jId x] = (l.take (k + 1)).map jId := by rw [List.take_add_one, HY.out, List.map_append]; rfl
   rw [htk] at hG4
   have HG4 := Lib.hid hG4
   have HZ4 : Hid (JBox W3 N _ _ _ _ _ _) := Lib.hid (HZ3.out.but hk3 (hNo N (by omega)))
   have HX4 : Hid (JBox W3 (N + 1) _ _ _ _ _ _) := Lib.hid (HX3.out.but hk3 (hNo (N + 1) (by omega)))
   have HW4 : Hid (Below N w W3) := Lib.hid (HW3.out.trans (hk3.to (by have := HX3.out.lt; omega) (by
    intro j hj
    have hm : (Value.slice Av k cv).ownBlock = some j := by simpa using hj
    have := (HG3.out.own.lt j hm).1
    omega)))
   clear hG4 hk3 hNo hgrow hown3 hown htk hat3 hlt3 hi hz0 hz1 hz2 hlk HG3 HZ3 HX3 HW3 HJ3 HS3 HQ
   refine hKK _ _ (fun h0 => absurd h0 (by decide)) ?_
   clear hKK KK
   simp only [Act.put, CL]
   refine tkF 7 (.pointer (some ⟨N + 1, 4, none⟩)) rfl ?yb7 (fun h0 => absurd h0 (by decide)) ?_
   case yb7 => (intro W0 _; go_simp; (try with_reducible rfl))
   simp only [Act.put, CL]
   refine rdy 8 rfl (fun KK hKK => ?_)
   obtain ⟨hk4, hx4⟩ := but_set (i := 4) (.slice (some ⟨g9, 0, none⟩) (k + 1) cap) HX4.out
   have HG5 : Hid (Gr 25 6 JV (fun g => N + 2 ≤ g) (N + 2) ((l.take (k + 1)).map jId) (.slice (some ⟨g9, 0, none⟩) (k + 1) cap) (rs ++ [[.int .i64 k1, .bool b1, .int .i64 n1, .string t1, .slice A7 l7 c7, .slice A8 l8 c8]]) (W3.setCell ⟨N + 1, 4, none⟩ (.slice (some ⟨g9, 0, none⟩) (k + 1) cap))) := Lib.hid (HG4.out.but kept_I hk4 (by intro j hj; simp at hj; omega) (by intro j hj; simp at hj; omega))
   have HZ5 : Hid (JBox (W3.setCell ⟨N + 1, 4, none⟩ (.slice (some ⟨g9, 0, none⟩) (k + 1) cap)) N _ _ _ _ _ _) := Lib.hid (HZ4.out.but hk4 (by simp))
   have HX5 : Hid (JBox (W3.setCell ⟨N + 1, 4, none⟩ (.slice (some ⟨g9, 0, none⟩) (k + 1) cap)) (N + 1) (.int .i64 5) (.bool false) (.int .i64 0) (.string ⟨#[]⟩) (.slice (some ⟨g9, 0, none⟩) (k + 1) cap) (.slice none 0 0)) := Lib.hid hx4
   have HW5 := Lib.hid (HW4.out.trans (hk4.to (by have := HX4.out.lt; omega) (by intro j hj; simp at hj; omega)))
   obtain ⟨x0, x1, x2, x3, x4, x5⟩ := HX4.out.cells
   obtain ⟨f0, f1, f2, f3, f4, f5⟩ := HX4.out.frees
   clear hk4 hx4
   go_simp
   clear x0 x1 x2 x3 x4 x5 f0 f1 f2 f3 f4 f5
   refine hKK _ _ (fun h0 => absurd h0 (by decide)) ?_
   clear hKK KK
   simp only [Act.put, CL]
   refine wpTill_done (by kernel_rfl) ?_ _
   (try simp only [Exit.then])
   go_wp2_with fail
   go_roundw
   case rel => exact ⟨k + 1, _, _, _, by omega, by go_num, HG5, HZ5, HX5, HW5⟩
   case measure => simp [intOf]; omega
  ·obtain rfl : k = l.length := by omega
   obtain ⟨x0, x1, x2, x3, x4, x5⟩ := HX.out.cells
   obtain ⟨z0, z1, z2, z3, z4, z5⟩ := HZ.out.cells
   obtain ⟨f0, f1, f2, f3, f4, f5⟩ := HZ.out.frees
   obtain ⟨hk9, hx9⟩ := j25_set (.int .i64 5) (.bool false) (.int .i64 0) (.string ⟨#[]⟩) (.slice Av l.length cv) (.slice none 0 0) HZ.out
   have HK9 := Lib.hid hk9
   have HX9 := Lib.hid hx9
   have HV : Hid (JV wr (fun g => N + 2 ≤ g ∨ N + 2 ≤ g) (.mk 5 false 0 [] (l.map jId) []) [.int .i64 5, .bool false, .int .i64 0, .string ⟨#[]⟩, .slice Av l.length cv, .slice none 0 0]) := Lib.hid (by
    have h1 := HG.out.list 5 false 0 []
    rw [List.take_length] at h1
    exact h1)
   clear hk9 hx9
   go_wp2_with fail
   refine bodyPost_ret (results_row1 rfl _ _ _ N #[.int .i64 5, .bool false, .int .i64 0, .string ⟨#[]⟩, .slice Av l.length cv, .slice none 0 0] rfl (j25_load HX9.out)) rfl ?_
   rw [HN.out]
   refine ⟨HW.out.trans (HK9.out.to (by have := HX.out.lt; omega) (by intro j hj; simp at hj; omega)), Av, cv, rfl, ?_⟩
   exact (HV.out.but HK9.out (by intro j hj; simp at hj; omega)).wide (fun g hg _ => by omega)
end Go.Proofs.YtimioelnnhnbiaaGreatDoor
