/-
  Joined: ZDclash ZT.
-/
import Derived.Test.YtimioelnnhnbiaaGreatDoorS21
import Derived.Test.YtimioelnnhnbiaaGreatDoorS05
import Derived.Deep.AppendLies
import Derived.Test.YtimioelnnhnbiaaGreatDoorS18
import Derived.Test.YtimioelnnhnbiaaGreatDoorS20
namespace Go.Proofs.YtimioelnnhnbiaaGreatDoor
open Go.RowKit
set_option maxRecDepth 100000 in
set_option maxHeartbeats 8000000 in
theorem list_clash (l : List PClash) (A : Option Addr) (c : Nat) (w : World) (hR : RowAt 7 clashC w A l) (hlen : l.length ≤ 1000000) :
  Calls Tryz.prog 68 #[.slice A l.length c, .func (.func 69) #[] #[]] w fun e w' => Below w.heap.size w w' ∧ ∃ (Av : Option Addr) (cv : Nat), e = .returned (.agg #[.int .i64 5, .bool false, .int .i64 0, .string ⟨#[]⟩, .slice Av l.length cv, .slice none 0 0]) ∧
   JV w' (fun g => w.heap.size ≤ g) (.mk 5 false 0 [] (l.map jClash) []) [.int .i64 5, .bool false, .int .i64 0, .string ⟨#[]⟩, .slice Av l.length cv, .slice none 0 0] := by
 have HMADE := Lib.hid made_clash
 have HR : Hid (∀ W, Below w.heap.size w W → RowAt 7 clashC W A l) := Lib.hid (fun W hW => hR.next hW)
 have b1 := below_box w (.cells #[.int .i64 0, .bool false, .int .i64 0, .string ⟨#[]⟩, .slice none 0 0, .slice none 0 0] 25)
 have s1 : (w.alloc (.cells #[.int .i64 0, .bool false, .int .i64 0, .string ⟨#[]⟩, .slice none 0 0, .slice none 0 0] 25)).heap.size = w.heap.size + 1 := by simp
 have e1 : JBox _ _ _ _ _ _ _ _ := heap_alloc_new w (.cells #[.int .i64 0, .bool false, .int .i64 0, .string ⟨#[]⟩, .slice none 0 0, .slice none 0 0] 25)
 have b2 := below_box (w.alloc (.cells #[.int .i64 0, .bool false, .int .i64 0, .string ⟨#[]⟩, .slice none 0 0, .slice none 0 0] 25)) (.cells #[.int .i64 5, .bool false, .int .i64 0, .string ⟨#[]⟩, .slice none 0 0, .slice none 0 0] 25)
 have e2 : JBox _ _ _ _ _ _ _ _ := heap_alloc_new (w.alloc (.cells #[.int .i64 0, .bool false, .int .i64 0, .string ⟨#[]⟩, .slice none 0 0, .slice none 0 0] 25)) (.cells #[.int .i64 5, .bool false, .int .i64 0, .string ⟨#[]⟩, .slice none 0 0, .slice none 0 0] 25)
 have s2 : ((w.alloc (.cells #[.int .i64 0, .bool false, .int .i64 0, .string ⟨#[]⟩, .slice none 0 0, .slice none 0 0] 25)).alloc (.cells #[.int .i64 5, .bool false, .int .i64 0, .string ⟨#[]⟩, .slice none 0 0, .slice none 0 0] 25)).heap.size = w.heap.size + 2 := by simp
 rw [s1] at e2
 have HE1 := Lib.hid (e1.next b2)
 have HE2 := Lib.hid e2
 have HW2 := Lib.hid (b1.trans (b2.mono (by rw [s1]; omega)))
 have HS2 := Lib.hid s2
 clear b1 s1 e1 b2 e2 s2 hR
 go_enter Tryz.func68, Tryz.ntmps68
 go_upto_region 2 with fail
 generalize ((w.alloc (.cells #[.int .i64 0, .bool false, .int .i64 0, .string ⟨#[]⟩, .slice none 0 0, .slice none 0 0] 25)).alloc (.cells #[.int .i64 5, .bool false, .int .i64 0, .string ⟨#[]⟩, .slice none 0 0, .slice none 0 0] 25)) = w2 at HE1 HE2 HW2 HS2 ⊢
 obtain ⟨N, hN⟩ : ∃ N, w.heap.size = N := ⟨_, rfl⟩
 rw [hN] at HE1 HE2 HS2 ⊢
 have HN := Lib.hid hN
 clear hN
 have HG0 : Hid (Gr 25 6 JV (fun g => N + 2 ≤ g) (N + 2) ((l.take 0).map jClash) (.slice none 0 0) [] w2) := Lib.hid (by rw [← HS2.out]; exact Gr.nil)
 go_wp2_with fail
 go_loopw [11] (fun i wr => ∃ (k : Nat) (Av : Option Addr) (cv : Nat) (rs : List (List Value)), k ≤ l.length ∧ i = .int .i64 k ∧ Hid (Gr 25 6 JV (fun g => N + 2 ≤ g) (N + 2) ((l.take k).map jClash) (.slice Av k cv) rs wr) ∧
  Hid (JBox wr N (.int .i64 0) (.bool false) (.int .i64 0) (.string ⟨#[]⟩) (.slice none 0 0) (.slice none 0 0)) ∧ Hid (JBox wr (N + 1) (.int .i64 5) (.bool false) (.int .i64 0) (.string ⟨#[]⟩) (.slice Av k cv) (.slice none 0 0)) ∧ Hid (Below N w wr)) (fun i _ => l.length - (intOf i).toNat)
 case atStart => exact ⟨0, none, 0, [], by omega, rfl, HG0, HE1, HE2, HN.out ▸ HW2⟩
 case round =>
  obtain ⟨k, Av, cv, rs, hk, rfl, HG, HZ, HX, HW⟩ := hrel
  by_cases hlt : k < l.length
  ·obtain ⟨x, hx⟩ : ∃ x, l[k]? = some x := ⟨l[k], List.getElem?_eq_getElem hlt⟩
   obtain ⟨g, o, hA1, hg, hcell⟩ := HR.out wr (by rw [HN.out]; exact HW.out) k x hx
   subst hA1
   have q0 : wr.cell? ⟨g, o + k * 7, none⟩ = some (.string (str x.path)) := hcell 0 _ rfl
   have q1 : wr.cell? ⟨g, o + k * 7 + 1, none⟩ = some (.string (str x.base)) := hcell 1 _ rfl
   have q2 : wr.cell? ⟨g, o + k * 7 + 2, none⟩ = some (.string (str x.ours)) := hcell 2 _ rfl
   have q3 : wr.cell? ⟨g, o + k * 7 + 3, none⟩ = some (.string (str x.theirs)) := hcell 3 _ rfl
   have q4 : wr.cell? ⟨g, o + k * 7 + 4, none⟩ = some (.bool x.inBase) := hcell 4 _ rfl
   have q5 : wr.cell? ⟨g, o + k * 7 + 5, none⟩ = some (.bool x.inOurs) := hcell 5 _ rfl
   have q6 : wr.cell? ⟨g, o + k * 7 + 6, none⟩ = some (.bool x.inTheirs) := hcell 6 _ rfl
   have HY := Lib.hid hx
   clear hx hcell hg
   have hyl := below_box wr (.cells #[.string (str x.path), .string (str x.base), .string (str x.ours), .string (str x.theirs), .bool x.inBase, .bool x.inOurs, .bool x.inTheirs] 84)
   have hHB := heap_alloc_new wr (.cells #[.string (str x.path), .string (str x.base), .string (str x.ours), .string (str x.theirs), .bool x.inBase, .bool x.inOurs, .bool x.inTheirs] 84)
   have hYL : wr.heap.size < (wr.alloc (.cells #[.string (str x.path), .string (str x.base), .string (str x.ours), .string (str x.theirs), .bool x.inBase, .bool x.inOurs, .bool x.inTheirs] 84)).heap.size := by simp
   have HGa := Lib.hid (HG.out.next kept_I hyl)
   have HZa := Lib.hid (HZ.out.next hyl)
   have HXa := Lib.hid (HX.out.next hyl)
   have hwsz : N ≤ wr.heap.size := by have := HX.out.lt; omega
   have HWa : Hid (Below N w _) := Lib.hid (HW.out.trans (hyl.mono hwsz))
   have HHB := Lib.hid hHB
   have HYLa := Lib.hid hYL
   clear hyl hHB hYL HG HZ HX HW
   go_upto_region 5 with fail
   clear q0 q1 q2 q3 q4 q5 q6
   generalize (wr.alloc (.cells #[.string (str x.path), .string (str x.base), .string (str x.ours), .string (str x.theirs), .bool x.inBase, .bool x.inOurs, .bool x.inTheirs] 84)) = wq at HGa HZa HXa HWa HHB HYLa ⊢
   generalize wr.heap.size = Y at HHB HYLa hwsz ⊢
   go_wp2_with fail
   refine wp_region_any (by kernel_rfl) ?_
   change wpAny _ _ _ _ _ _ _ (World.drew _)
   have hbd : Below wq.heap.size wq wq.drew := below_drewN (Below.refl _ _) 1
   have HG1 := Lib.hid (HGa.out.next kept_I hbd)
   have HZ1 := Lib.hid (HZa.out.next hbd)
   have HX1 := Lib.hid (HXa.out.next hbd)
   have HW1 : Hid (Below N w wq.drew) := Lib.hid (HWa.out.trans (hbd.mono (by have := HXa.out.lt; omega)))
   have HYL : Hid (Y < wq.drew.heap.size) := Lib.hid (Nat.lt_of_lt_of_le HYLa.out hbd.size)
   have hs5 : wq.drew.cell? ⟨N + 1, 4, none⟩ = some (.slice Av k cv) := HX1.out.cells.2.2.2.2.1
   have HS := Lib.hid (show (fun W => W.cell? ⟨N + 1, 4, none⟩ = some (.slice Av k cv) ∧ W.cell? ⟨Y, 0, none⟩ = some (.string (str x.path)) ∧ W.cell? ⟨Y, 1, none⟩ = some (.string (str x.base)) ∧ W.cell? ⟨Y, 2, none⟩ = some (.string (str x.ours)) ∧ W.cell? ⟨Y, 3, none⟩ = some (.string (str x.theirs)) ∧ W.cell? ⟨Y, 4, none⟩ = some (.bool x.inBase) ∧ W.cell? ⟨Y, 5, none⟩ = some (.bool x.inOurs) ∧ W.cell? ⟨Y, 6, none⟩ = some (.bool x.inTheirs)) wq.drew from ⟨hs5, (blk_cells (blk_next hbd HHB.out) 0).trans rfl, (blk_cells (blk_next hbd HHB.out) 1).trans rfl, (blk_cells (blk_next hbd HHB.out) 2).trans rfl, (blk_cells (blk_next hbd HHB.out) 3).trans rfl, (blk_cells (blk_next hbd HHB.out) 4).trans rfl, (blk_cells (blk_next hbd HHB.out) 5).trans rfl, (blk_cells (blk_next hbd HHB.out) 6).trans rfl⟩)
   clear hbd hs5 HGa HZa HXa HWa HHB HYLa hwsz
   generalize wq.drew = W at HG1 HZ1 HX1 HW1 HS HYL ⊢
   refine wpAny_of_till (S := fun W => W.cell? ⟨N + 1, 4, none⟩ = some (.slice Av k cv) ∧ W.cell? ⟨Y, 0, none⟩ = some (.string (str x.path)) ∧ W.cell? ⟨Y, 1, none⟩ = some (.string (str x.base)) ∧ W.cell? ⟨Y, 2, none⟩ = some (.string (str x.ours)) ∧ W.cell? ⟨Y, 3, none⟩ = some (.string (str x.theirs)) ∧ W.cell? ⟨Y, 4, none⟩ = some (.bool x.inBase) ∧ W.cell? ⟨Y, 5, none⟩ = some (.bool x.inOurs) ∧ W.cell? ⟨Y, 6, none⟩ = some (.bool x.inTheirs)) (st := (fun l => l.getD 6 false)) _ _ _ _ ?_
   change wpTill _ _ _ _ _ _ _ #[false, false, false, false, false, false, false, false, false] _ _
   refine tkF 0 (.pointer (some ⟨N + 1, 4, none⟩)) rfl ?yb0 (fun _ => HS.out) ?_
   case yb0 => (intro W0 _; go_simp; (try with_reducible rfl))
   simp only [Act.put, CL]
   refine tk 1 (.slice Av k cv) rfl (fun l h h9 => (Shutd.step h (j := 6) (k := 1) (by kernel_rfl) h9)) (Or.inl ⟨by rfl, ?yb1⟩) HS.out (fun _ => ?_)
   case yb1 => (intro W0 hS; obtain ⟨s1, e0, e1, e2, e3, e4, e5, e6⟩ := hS; go_simp; (try with_reducible rfl))
   simp only [Act.put, CL]
   refine tkF 2 (.func (.func 69) #[] #[]) rfl ?yb2 (fun _ => HS.out) ?_
   case yb2 => (intro W0 _; go_simp; (try with_reducible rfl))
   simp only [Act.put, CL]
   refine tk 3 (.agg #[.string (str x.path), .string (str x.base), .string (str x.ours), .string (str x.theirs), .bool x.inBase, .bool x.inOurs, .bool x.inTheirs]) rfl (fun l h h9 => (Shutd.step h (j := 4) (k := 3) (by kernel_rfl) (Shutd.step h (j := 6) (k := 4) (by kernel_rfl) h9))) (Or.inl ⟨by rfl, ?yb3⟩) HS.out (fun _ => ?_)
   case yb3 => (intro W0 hS; obtain ⟨s1, e0, e1, e2, e3, e4, e5, e6⟩ := hS; go_simp; (try with_reducible rfl))
   simp only [Act.put, CL]
   refine rdy 4 rfl (fun KK hKK => ?_)
   go_simp
   refine (HMADE.out x W).mono ?_
   rintro e W1 ⟨hb, us, rfl, hju⟩
   have HG2 := Lib.hid (HG1.out.next kept_I hb)
   have HZ2 := Lib.hid (HZ1.out.next hb)
   have HX2 := Lib.hid (HX1.out.next hb)
   have hwsz : N + 2 ≤ W.heap.size := by have := HX1.out.lt; omega
   have HW2 := Lib.hid (HW1.out.trans (hb.mono (by omega)))
   have HS2 : Hid ((fun W => W.cell? ⟨N + 1, 4, none⟩ = some (.slice Av k cv) ∧ W.cell? ⟨Y, 0, none⟩ = some (.string (str x.path)) ∧ W.cell? ⟨Y, 1, none⟩ = some (.string (str x.base)) ∧ W.cell? ⟨Y, 2, none⟩ = some (.string (str x.ours)) ∧ W.cell? ⟨Y, 3, none⟩ = some (.string (str x.theirs)) ∧ W.cell? ⟨Y, 4, none⟩ = some (.bool x.inBase) ∧ W.cell? ⟨Y, 5, none⟩ = some (.bool x.inOurs) ∧ W.cell? ⟨Y, 6, none⟩ = some (.bool x.inTheirs)) W1) := Lib.hid (⟨hb.cell (p := ⟨N + 1, 4, none⟩) HX1.out.lt |>.trans HS.out.1, hb.cell (p := ⟨Y, 0, none⟩) HYL.out |>.trans HS.out.2.1, hb.cell (p := ⟨Y, 1, none⟩) HYL.out |>.trans HS.out.2.2.1, hb.cell (p := ⟨Y, 2, none⟩) HYL.out |>.trans HS.out.2.2.2.1, hb.cell (p := ⟨Y, 3, none⟩) HYL.out |>.trans HS.out.2.2.2.2.1, hb.cell (p := ⟨Y, 4, none⟩) HYL.out |>.trans HS.out.2.2.2.2.2.1, hb.cell (p := ⟨Y, 5, none⟩) HYL.out |>.trans HS.out.2.2.2.2.2.2.1, hb.cell (p := ⟨Y, 6, none⟩) HYL.out |>.trans HS.out.2.2.2.2.2.2.2⟩)
   have HYL2 := Lib.hid (Nat.lt_of_lt_of_le HYL.out hb.size)
   have HJ2 : Hid (JV W1 (fun g => N + 2 ≤ g ∧ (Value.slice Av k cv).ownBlock ≠ some g) (jClash x) us) := Lib.hid (hju.wide (fun g hg _ => ⟨by omega, HG1.out.fresh hg⟩))
   clear hb hju hwsz HG1 HZ1 HX1 HW1 HS HYL
   obtain ⟨A7, c7, A8, c8, k1, b1, n1, t1, l7, l8, rfl⟩ := HJ2.out.shape
   refine hKK _ _ (fun _ => HS2.out) ?_
   clear hKK KK
   simp only [Act.put, CL]
   refine rdy 5 rfl (fun KK hKK => ?_)
   go_simp
   have hal := below_box W1 (.cells #[.int .i64 k1, .bool b1, .int .i64 n1, .string t1, .slice A7 l7 c7, .slice A8 l8 c8] 25)
   have HQ := Lib.hid (heap_alloc_new W1 (.cells #[.int .i64 k1, .bool b1, .int .i64 n1, .string t1, .slice A7 l7 c7, .slice A8 l8 c8] 25))
   have HG3 := Lib.hid (HG2.out.next kept_I hal)
   have HZ3 := Lib.hid (HZ2.out.next hal)
   have HX3 := Lib.hid (HX2.out.next hal)
   have HW3 := Lib.hid (HW2.out.trans (hal.mono (by have := HX2.out.lt; omega)))
   have HJ3 := Lib.hid (HJ2.out.next hal)
   have HS3 : Hid ((fun W => W.cell? ⟨N + 1, 4, none⟩ = some (.slice Av k cv) ∧ W.cell? ⟨Y, 0, none⟩ = some (.string (str x.path)) ∧ W.cell? ⟨Y, 1, none⟩ = some (.string (str x.base)) ∧ W.cell? ⟨Y, 2, none⟩ = some (.string (str x.ours)) ∧ W.cell? ⟨Y, 3, none⟩ = some (.string (str x.theirs)) ∧ W.cell? ⟨Y, 4, none⟩ = some (.bool x.inBase) ∧ W.cell? ⟨Y, 5, none⟩ = some (.bool x.inOurs) ∧ W.cell? ⟨Y, 6, none⟩ = some (.bool x.inTheirs)) (W1.alloc (.cells #[.int .i64 k1, .bool b1, .int .i64 n1, .string t1, .slice A7 l7 c7, .slice A8 l8 c8] 25))) := Lib.hid (⟨hal.cell (p := ⟨N + 1, 4, none⟩) HX2.out.lt |>.trans HS2.out.1, hal.cell (p := ⟨Y, 0, none⟩) HYL2.out |>.trans HS2.out.2.1, hal.cell (p := ⟨Y, 1, none⟩) HYL2.out |>.trans HS2.out.2.2.1, hal.cell (p := ⟨Y, 2, none⟩) HYL2.out |>.trans HS2.out.2.2.2.1, hal.cell (p := ⟨Y, 3, none⟩) HYL2.out |>.trans HS2.out.2.2.2.2.1, hal.cell (p := ⟨Y, 4, none⟩) HYL2.out |>.trans HS2.out.2.2.2.2.2.1, hal.cell (p := ⟨Y, 5, none⟩) HYL2.out |>.trans HS2.out.2.2.2.2.2.2.1, hal.cell (p := ⟨Y, 6, none⟩) HYL2.out |>.trans HS2.out.2.2.2.2.2.2.2⟩)
   clear hal HG2 HZ2 HX2 HW2 HJ2 HS2 HYL2
   generalize (W1.alloc (.cells #[.int .i64 k1, .bool b1, .int .i64 n1, .string t1, .slice A7 l7 c7, .slice A8 l8 c8] 25)) = W2 at HQ HG3 HZ3 HX3 HW3 HJ3 HS3 ⊢
   obtain ⟨M, hM⟩ : ∃ M, W1.heap.size = M := ⟨_, rfl⟩
   rw [hM] at HQ ⊢
   clear hM
   refine hKK _ _ (fun _ => HS3.out) ?_
   clear hKK KK
   simp only [Act.put, CL]
   refine rdy 6 rfl (fun KK hKK => ?_)
   obtain ⟨i0, hi, hz0, hz1, hz2⟩ := info_parts info25
   have hlk : ((l.take k).map jClash).length = k := by rw [List.length_map, List.length_take]; omega
   have hown := HG3.out.own.own
   rw [hlk] at hown
   refine wp_append_lies W2 (.tmp 16) (.tmp 20) 22 rfl (N + 2) 25 i0 zeroJ 6 88 Tryz.underlying22 hi hz0 hz1 hz2 rfl (by decide) (.slice Av k cv) k rs.flatten rfl hown ⟨M, 0, none⟩ 1 1 [.int .i64 k1, .bool b1, .int .i64 n1, .string t1, .slice A7 l7 c7, .slice A8 l8 c8] rfl rfl (World.news_of_block HQ.out) (by intro u hu; simp at hu; rcases hu with rfl | rfl | rfl | rfl | rfl | rfl <;> rfl) (by decide) (by unfold maxLen; omega) (by omega) HG3.out.own.le W2.heap.size rfl ?_
   intro g9 cap W3 hown3 hgrow hat3 hlt3
   have hNo : ∀ j, j < N + 2 → j ∉ (Value.slice Av k cv).ownBlock.toList := by
    intro j hj hm
    have hm : (Value.slice Av k cv).ownBlock = some j := by simpa using hm
    have := (HG3.out.own.lt j hm).1
    omega
   obtain ⟨hG4, hk3⟩ := HG3.out.push kept_I (x := jClash x) (vs := [.int .i64 k1, .bool b1, .int .i64 n1, .string t1, .slice A7 l7 c7, .slice A8 l8 c8]) HJ3.out (by rw [hlk]; exact hown3) hgrow hat3
   rw [hlk] at hG4
   have htk : (l.take k).map jClash ++ [jClash x] = (l.take (k + 1)).map jClash := by rw [List.take_add_one, HY.out, List.map_append]; rfl
   rw [htk] at hG4
   have HG4 := Lib.hid hG4
   have HZ4 : Hid (JBox W3 N _ _ _ _ _ _) := Lib.hid (HZ3.out.but hk3 (hNo N (by omega)))
   have HX4 : Hid (JBox W3 (N + 1) _ _ _ _ _ _) := Lib.hid (HX3.out.but hk3 (hNo (N + 1) (by omega)))
   have HW4 : Hid (Below N w W3) := Lib.hid (HW3.out.trans (hk3.to (by have := HX3.out.lt; omega) (by
    intro j hj
    have hm : (Value.slice Av k cv).ownBlock = some j := by simpa using hj
    have := (HG3.out.own.lt j hm).1
    omega)))
   clear hG4 hk3 hNo hgrow hown3 hown htk hat3 hlt3 hi hz0 hz1 hz2 hlk HG3 HZ3 HX3 HW3 HJ3 HS3 HQ
   refine hKK _ _ (fun h0 => absurd h0 (by decide)) ?_
   clear hKK KK
   simp only [Act.put, CL]
   refine tkF 7 (.pointer (some ⟨N + 1, 4, none⟩)) rfl ?yb7 (fun h0 => absurd h0 (by decide)) ?_
   case yb7 => (intro W0 _; go_simp; (try with_reducible rfl))
   simp only [Act.put, CL]
   refine rdy 8 rfl (fun KK hKK => ?_)
   obtain ⟨hk4, hx4⟩ := but_set (i := 4) (.slice (some ⟨g9, 0, none⟩) (k + 1) cap) HX4.out
   have HG5 : Hid (Gr 25 6 JV (fun g => N + 2 ≤ g) (N + 2) ((l.take (k + 1)).map jClash) (.slice (some ⟨g9, 0, none⟩) (k + 1) cap) (rs ++ [[.int .i64 k1, .bool b1, .int .i64 n1, .string t1, .slice A7 l7 c7, .slice A8 l8 c8]]) (W3.setCell ⟨N + 1, 4, none⟩ (.slice (some ⟨g9, 0, none⟩) (k + 1) cap))) := Lib.hid (HG4.out.but kept_I hk4 (by intro j hj; simp at hj; omega) (by intro j hj; simp at hj; omega))
   have HZ5 : Hid (JBox (W3.setCell ⟨N + 1, 4, none⟩ (.slice (some ⟨g9, 0, none⟩) (k + 1) cap)) N _ _ _ _ _ _) := Lib.hid (HZ4.out.but hk4 (by simp))
   have HX5 : Hid (JBox (W3.setCell ⟨N + 1, 4, none⟩ (.slice (some ⟨g9, 0, none⟩) (k + 1) cap)) (N + 1) (.int .i64 5) (.bool false) (.int .i64 0) (.string ⟨#[]⟩) (.slice (some ⟨g9, 0, none⟩) (k + 1) cap) (.slice none 0 0)) := Lib.hid hx4
   have HW5 := Lib.hid (HW4.out.trans (hk4.to (by have := HX4.out.lt; omega) (by intro j hj; simp at hj; omega)))
   obtain ⟨x0, x1, x2, x3, x4, x5⟩ := HX4.out.cells
   obtain ⟨f0, f1, f2, f3, f4, f5⟩ := HX4.out.frees
   clear hk4 hx4
   go_simp
   clear x0 x1 x2 x3 x4 x5 f0 f1 f2 f3 f4 f5
   refine hKK _ _ (fun h0 => absurd h0 (by decide)) ?_
   clear hKK KK
   simp only [Act.put, CL]
   refine wpTill_done (by kernel_rfl) ?_ _
   (try simp only [Exit.then])
   go_wp2_with fail
   go_roundw
   case rel => exact ⟨k + 1, _, _, _, by omega, by go_num, HG5, HZ5, HX5, HW5⟩
   case measure => simp [intOf]; omega
  ·obtain rfl : k = l.length := by omega
   obtain ⟨x0, x1, x2, x3, x4, x5⟩ := HX.out.cells
   obtain ⟨z0, z1, z2, z3, z4, z5⟩ := HZ.out.cells
   obtain ⟨f0, f1, f2, f3, f4, f5⟩ := HZ.out.frees
   obtain ⟨hk9, hx9⟩ := j25_set (.int .i64 5) (.bool false) (.int .i64 0) (.string ⟨#[]⟩) (.slice Av l.length cv) (.slice none 0 0) HZ.out
   have HK9 := Lib.hid hk9
   have HX9 := Lib.hid hx9
   have HV : Hid (JV wr (fun g => N + 2 ≤ g ∨ N + 2 ≤ g) (.mk 5 false 0 [] (l.map jClash) []) [.int .i64 5, .bool false, .int .i64 0, .string ⟨#[]⟩, .slice Av l.length cv, .slice none 0 0]) := Lib.hid (by
    have h1 := HG.out.list 5 false 0 []
    rw [List.take_length] at h1
    exact h1)
   clear hk9 hx9
   go_wp2_with fail
   refine bodyPost_ret (results_row1 rfl _ _ _ N #[.int .i64 5, .bool false, .int .i64 0, .string ⟨#[]⟩, .slice Av l.length cv, .slice none 0 0] rfl (j25_load HX9.out)) rfl ?_
   rw [HN.out]
   refine ⟨HW.out.trans (HK9.out.to (by have := HX.out.lt; omega) (by intro j hj; simp at hj; omega)), Av, cv, rfl, ?_⟩
   exact (HV.out.but HK9.out (by intro j hj; simp at hj; omega)).wide (fun g hg _ => by omega)
end Go.Proofs.YtimioelnnhnbiaaGreatDoor
namespace Go.Proofs.YtimioelnnhnbiaaGreatDoor
open Go.RowKit
structure PAsk where
 kind : Int
 branch : Js.Bs
 other : Js.Bs
 base : Nat → UInt8
 files : List (Js.Bs × Js.Bs)
 note : Js.Bs
 sFolder : Js.Bs
 sStruct : Js.Bs
 sName : Js.Bs
 sLocal : Int
 sFile : Js.Bs
 name : Js.Bs
 folder : Js.Bs
 order : List Int
 pAt : Int
 pName : Js.Bs
 pType : Js.Bs
 pValue : Js.Bs
 args : List Int
structure PAnswer where
 err : Int
 plErr : Int
 plFile : Int
 plAt : Int
 commit : Nat → UInt8
 files : List (Js.Bs × Js.Bs)
 clashes : List PClash
 rEnd : Int
 rOut : Js.Bs
 rWhy : Js.Bs
 rSteps : Int
 ids : List (Nat → UInt8)
def askR (a : PAsk) (Af : Option Addr) (cf : Nat) (Ao : Option Addr) (co : Nat) (Aa : Option Addr) (ca : Nat) : List Value :=
 [.slice Af a.files.length cf, .string (str a.note), .string (str a.sFolder), .string (str a.sStruct), .string (str a.sName), .int .i64 a.sLocal, .string (str a.sFile), .string (str a.name), .string (str a.folder), .slice Ao a.order.length co, .int .i64 a.pAt, .string (str a.pName), .string (str a.pType), .string (str a.pValue), .slice Aa a.args.length ca]
def askL (a : PAsk) (Af : Option Addr) (cf : Nat) (Ao : Option Addr) (co : Nat) (Aa : Option Addr) (ca : Nat) : List Value :=
 .int .i64 a.kind :: .string (str a.branch) :: .string (str a.other) :: (idC a.base ++ askR a Af cf Ao co Aa ca)
def askA (a : PAsk) (Af : Option Addr) (cf : Nat) (Ao : Option Addr) (co : Nat) (Aa : Option Addr) (ca : Nat) : Array Value := (askL a Af cf Ao co Aa ca).toArray
def ansR (b : PAnswer) (Af : Option Addr) (cf : Nat) (Ac : Option Addr) (cc : Nat) (Ai : Option Addr) (ci : Nat) : List Value :=
 [.slice Af b.files.length cf, .slice Ac b.clashes.length cc, .int .i64 b.rEnd, .string (str b.rOut), .string (str b.rWhy), .int .i64 b.rSteps, .slice Ai b.ids.length ci]
def ansL (b : PAnswer) (Af : Option Addr) (cf : Nat) (Ac : Option Addr) (cc : Nat) (Ai : Option Addr) (ci : Nat) : List Value :=
 .int .i64 b.err :: .int .i64 b.plErr :: .int .i64 b.plFile :: .int .i64 b.plAt :: (idC b.commit ++ ansR b Af cf Ac cc Ai ci)
def ansA (b : PAnswer) (Af : Option Addr) (cf : Nat) (Ac : Option Addr) (cc : Nat) (Ai : Option Addr) (ci : Nat) : Array Value := (ansL b Af cf Ac cc Ai ci).toArray
theorem idC_oneL (I : Nat → UInt8) : ∀ v ∈ idC I, v.oneCell' = true := fun v hv => idC_one I v (by unfold idA; simpa using hv)
theorem ask_one (a : PAsk) (Af : Option Addr) (cf : Nat) (Ao : Option Addr) (co : Nat) (Aa : Option Addr) (ca : Nat) : ∀ v ∈ (askA a Af cf Ao co Aa ca).toList, v.oneCell' = true := by
 intro v hv
 have hv : v ∈ askL a Af cf Ao co Aa ca := by unfold askA at hv; simpa using hv
 unfold askL at hv
 rcases List.mem_cons.1 hv with rfl | hv
 ·rfl
 rcases List.mem_cons.1 hv with rfl | hv
 ·rfl
 rcases List.mem_cons.1 hv with rfl | hv
 ·rfl
 rcases List.mem_append.1 hv with hv | hv
 ·exact idC_oneL _ v hv
 unfold askR at hv
 simp only [List.mem_cons, List.not_mem_nil, or_false] at hv
 rcases hv with rfl | rfl | rfl | rfl | rfl | rfl | rfl | rfl | rfl | rfl | rfl | rfl | rfl | rfl | rfl <;> rfl
theorem ans_one (b : PAnswer) (Af : Option Addr) (cf : Nat) (Ac : Option Addr) (cc : Nat) (Ai : Option Addr) (ci : Nat) : ∀ v ∈ (ansA b Af cf Ac cc Ai ci).toList, v.oneCell' = true := by
 intro v hv
 have hv : v ∈ ansL b Af cf Ac cc Ai ci := by unfold ansA at hv; simpa using hv
 unfold ansL at hv
 rcases List.mem_cons.1 hv with rfl | hv
 ·rfl
 rcases List.mem_cons.1 hv with rfl | hv
 ·rfl
 rcases List.mem_cons.1 hv with rfl | hv
 ·rfl
 rcases List.mem_cons.1 hv with rfl | hv
 ·rfl
 rcases List.mem_append.1 hv with hv | hv
 ·exact idC_oneL _ v hv
 unfold ansR at hv
 simp only [List.mem_cons, List.not_mem_nil, or_false] at hv
 rcases hv with rfl | rfl | rfl | rfl | rfl | rfl | rfl <;> rfl
theorem ask_id (a : PAsk) (Af : Option Addr) (cf : Nat) (Ao : Option Addr) (co : Nat) (Aa : Option Addr) (ca : Nat) (j : Nat) (v : Value) (h : (idC a.base)[j]? = some v) : (askA a Af cf Ao co Aa ca)[3 + j]? = some v := by
 unfold askA askL
 rw [List.getElem?_toArray, show 3 + j = j + 1 + 1 + 1 by omega, List.getElem?_cons_succ, List.getElem?_cons_succ, List.getElem?_cons_succ, List.getElem?_append_left (List.getElem?_eq_some_iff.1 h).1]
 exact h
theorem ans_id (b : PAnswer) (Af : Option Addr) (cf : Nat) (Ac : Option Addr) (cc : Nat) (Ai : Option Addr) (ci : Nat) (j : Nat) (v : Value) (h : (idC b.commit)[j]? = some v) : (ansA b Af cf Ac cc Ai ci)[4 + j]? = some v := by
 unfold ansA ansL
 rw [List.getElem?_toArray, show 4 + j = j + 1 + 1 + 1 + 1 by omega, List.getElem?_cons_succ, List.getElem?_cons_succ, List.getElem?_cons_succ, List.getElem?_cons_succ, List.getElem?_append_left (List.getElem?_eq_some_iff.1 h).1]
 exact h
theorem info38 : (Tryz.prog.info? 38).map (·.size) = some 50 := by kernel_rfl
theorem info49 : (Tryz.prog.info? 49).map (·.size) = some 43 := by kernel_rfl
theorem wp_callR {op : Oper} {a : Act} {w : World} {K : Act → World → Prop} {Q : Exit → Act → World → Prop} (f : FuncId) (args : Array Value) {R : Ending → World → Prop} (hrun : (execOp a.eval op).run Tryz.prog w = .ok (.enter f args) w)
  (hc : Calls Tryz.prog f args w R) (k : ∀ e w', R e w' → ∃ v, e = .returned v ∧ K (a.put op.dst v) w') : op.wp Tryz.prog a w K Q := by
 unfold Oper.wp
 rw [hrun, Oper.upon_enter]
 refine hc.mono fun e w' h => ?_
 obtain ⟨v, rfl, hk⟩ := k e w' h
 exact hk
structure AskRows (w : World) (a : PAsk) (Af : Option Addr) (cf : Nat) (Ao : Option Addr) (co : Nat) (Aa : Option Addr) (ca : Nat) : Prop where
 files : RowAt 2 fileC w Af a.files
 order : RowAt 1 intC w Ao a.order
 args : RowAt 1 intC w Aa a.args
 lf : a.files.length ≤ cf
 lo : a.order.length ≤ co
 la : a.args.length ≤ ca
structure AnsRows (w : World) (b : PAnswer) (Af : Option Addr) (cf : Nat) (Ac : Option Addr) (cc : Nat) (Ai : Option Addr) (ci : Nat) : Prop where
 files : RowAt 2 fileC w Af b.files
 clashes : RowAt 7 clashC w Ac b.clashes
 ids : RowAt 32 idC w Ai b.ids
 lf : b.files.length ≤ cf
 lc : b.clashes.length ≤ cc
 li : b.ids.length ≤ ci
theorem AskRows.next {w w' : World} {a : PAsk} {Af : Option Addr} {cf : Nat} {Ao : Option Addr} {co : Nat} {Aa : Option Addr} {ca : Nat} (h : AskRows w a Af cf Ao co Aa ca) (hb : Below w.heap.size w w') : AskRows w' a Af cf Ao co Aa ca :=
 ⟨h.files.next hb, h.order.next hb, h.args.next hb, h.lf, h.lo, h.la⟩
theorem AnsRows.next {w w' : World} {b : PAnswer} {Af : Option Addr} {cf : Nat} {Ac : Option Addr} {cc : Nat} {Ai : Option Addr} {ci : Nat} (h : AnsRows w b Af cf Ac cc Ai ci) (hb : Below w.heap.size w w') : AnsRows w' b Af cf Ac cc Ai ci :=
 ⟨h.files.next hb, h.clashes.next hb, h.ids.next hb, h.lf, h.lc, h.li⟩
def jList (l : List Js.J) : Js.J := .mk 5 false 0 [] l []
def jSym (a : PAsk) : Js.J := .mk 6 false 0 [] [] [([102, 111, 108, 100, 101, 114], jText a.sFolder), ([115, 116, 114, 117, 99, 116], jText a.sStruct), ([110, 97, 109, 101], jText a.sName), ([108, 111, 99, 97, 108], jNum a.sLocal), ([102, 105, 108, 101], jText a.sFile)]
def jParam (a : PAsk) : Js.J := .mk 6 false 0 [] [] [([97, 116], jNum a.pAt), ([110, 97, 109, 101], jText a.pName), ([116, 121, 112, 101], jText a.pType), ([118, 97, 108, 117, 101], jText a.pValue)]
def askJ (a : PAsk) : Js.J := .mk 6 false 0 [] [] [([107, 105, 110, 100], jNum a.kind), ([98, 114, 97, 110, 99, 104], jText a.branch), ([111, 116, 104, 101, 114], jText a.other), ([98, 97, 115, 101], jId a.base), ([102, 105, 108, 101, 115], jList (a.files.map jFile)), ([110, 111, 116, 101], jText a.note), ([102, 111, 108, 100, 101, 114], jText a.folder), ([110, 97, 109, 101], jText a.name), ([115, 121, 109, 98, 111, 108], jSym a), ([111, 114, 100, 101, 114], jList (a.order.map jNum)), ([112, 97, 114, 97, 109], jParam a), ([97, 114, 103, 115], jList (a.args.map jNum))]
def jPlace (b : PAnswer) : Js.J := .mk 6 false 0 [] [] [([101, 114, 114], jNum b.plErr), ([102, 105, 108, 101], jNum b.plFile), ([97, 116], jNum b.plAt)]
def jRan (b : PAnswer) : Js.J := .mk 6 false 0 [] [] [([101, 110, 100], jNum b.rEnd), ([111, 117, 116], jText b.rOut), ([119, 104, 121], jText b.rWhy), ([115, 116, 101, 112, 115], jNum b.rSteps)]
def ansJ (b : PAnswer) : Js.J := .mk 6 false 0 [] [] [([101, 114, 114], jNum b.err), ([112, 108, 97, 99, 101], jPlace b), ([99, 111, 109, 109, 105, 116], jId b.commit), ([102, 105, 108, 101, 115], jList (b.files.map jFile)), ([99, 108, 97, 115, 104, 101, 115], jList (b.clashes.map jClash)), ([114, 97, 110], jRan b), ([105, 100, 115], jList (b.ids.map jId))]
structure Fr (w0 : World) (N : Nat) (CA : Array Value) (ta : TypeId) (S : Nat → Prop) (L : List (Nat × Js.J)) (W : World) : Prop where
 arg : W.heap[N]? = some (.cells CA ta (0, 0))
 res : W.heap[N + 1]? = some (.cells #[.int .i64 0, .bool false, .int .i64 0, .string ⟨#[]⟩, .slice none 0 0, .slice none 0 0] 25 (0, 0))
 box : ∀ p ∈ L, N + 2 ≤ p.1 ∧ ∃ vs, W.heap[p.1]? = some (.cells vs.toArray 25 (0, 0)) ∧ JV W S p.2 vs
 low : Below N w0 W
section
variable {w0 W W' : World} {N : Nat} {CA : Array Value} {ta : TypeId} {S T : Nat → Prop} {L : List (Nat × Js.J)}
theorem Fr.size (h : Fr w0 N CA ta S L W) : N + 2 ≤ W.heap.size := (Array.getElem?_eq_some_iff.1 h.res).1
theorem Fr.next (h : Fr w0 N CA ta S L W) (hb : Below W.heap.size W W') : Fr w0 N CA ta S L W' :=
 ⟨blk_next hb h.arg, blk_next hb h.res, fun p hp => by
  obtain ⟨h1, vs, h2, h3⟩ := h.box p hp
  exact ⟨h1, vs, blk_next hb h2, h3.next hb⟩, h.low.trans (hb.mono (by have := h.size; omega))⟩
theorem Fr.but {K : List Nat} (h : Fr w0 N CA ta S L W) (hk : But K W W') (h1 : ∀ j ∈ K, N + 2 ≤ j ∧ ¬ S j ∧ j ∉ L.map (·.1)) : Fr w0 N CA ta S L W' :=
 ⟨hk.blk h.arg (fun hm => by have := (h1 _ hm).1; omega), hk.blk h.res (fun hm => by have := (h1 _ hm).1; omega), fun p hp => by
  obtain ⟨h2, vs, h3, h4⟩ := h.box p hp
  exact ⟨h2, vs, hk.blk h3 (fun hm => (h1 _ hm).2.2 (List.mem_map.2 ⟨p, hp, rfl⟩)), h4.but hk (fun j hj => (h1 j hj).2.1)⟩,
  h.low.trans (hk.to (by have := h.size; omega) (fun j hj => by have := (h1 j hj).1; omega))⟩
theorem Fr.wide (h : Fr w0 N CA ta S L W) (hST : ∀ g, S g → g < W.heap.size → T g) : Fr w0 N CA ta T L W :=
 ⟨h.arg, h.res, fun p hp => by
  obtain ⟨h2, vs, h3, h4⟩ := h.box p hp
  exact ⟨h2, vs, h3, h4.wide hST⟩, h.low⟩
theorem Fr.push {Y : Nat} {x : Js.J} {vs : List Value} (h : Fr w0 N CA ta S L W) (hY : N + 2 ≤ Y) (h1 : W.heap[Y]? = some (.cells vs.toArray 25 (0, 0))) (h2 : JV W S x vs) : Fr w0 N CA ta S ((Y, x) :: L) W :=
 ⟨h.arg, h.res, fun p hp => by
  rcases List.mem_cons.1 hp with rfl | hp
  ·exact ⟨hY, vs, h1, h2⟩
  ·exact h.box p hp, h.low⟩
theorem Fr.lt (h : Fr w0 N CA ta S L W) {p : Nat × Js.J} (hp : p ∈ L) : p.1 < W.heap.size := by
 obtain ⟨_, vs, h2, _⟩ := h.box p hp
 exact (Array.getElem?_eq_some_iff.1 h2).1
end
def NB (N : Nat) (l : List Nat) (g : Nat) : Prop := N + 2 ≤ g ∧ g ∉ l
theorem NB.new {N g : Nat} {l : List Nat} {W : World} (h : N + 2 ≤ W.heap.size) (hl : ∀ y ∈ l, y < W.heap.size) (hg : W.heap.size ≤ g) : NB N l g := ⟨by omega, fun hm => by have := hl g hm; omega⟩
theorem NB.cons {N g Y : Nat} {l : List Nat} (h : NB N l g) (hg : g < Y) : NB N (Y :: l) g := ⟨h.1, fun hm => by
 rcases List.mem_cons.1 hm with rfl | hm
 ·omega
 ·exact h.2 hm⟩
section
variable {w0 W W' : World} {N Y B : Nat} {CA : Array Value} {ta : TypeId} {S T : Nat → Prop} {L : List (Nat × Js.J)} {ls : List Nat}
theorem Fr.fresh (h : Fr w0 N CA ta S L W) (hY : W.heap.size ≤ Y) : N + 2 ≤ Y ∧ Y ∉ L.map (·.1) := by
 refine ⟨Nat.le_trans h.size hY, fun hm => ?_⟩
 obtain ⟨p, hp, he⟩ := List.mem_map.1 hm
 have := h.lt hp
 omega
theorem Fr.names (h : Fr w0 N CA ta S L W) : ∀ y ∈ L.map (·.1), y < W.heap.size := fun y hm => by
 obtain ⟨p, hp, he⟩ := List.mem_map.1 hm
 have := h.lt hp
 omega
theorem Fr.butR {K : List Nat} (h : Fr w0 N CA ta (fun g => g < B ∧ NB N ls g) L W) (hk : But K W W') (hY : N + 2 ≤ Y) (hL : ∀ y ∈ L.map (·.1), y < Y) (hK : ∀ j ∈ K, Y ≤ j ∧ (B ≤ j ∨ j ∈ ls)) : Fr w0 N CA ta (fun g => g < B ∧ NB N ls g) L W' :=
 h.but hk fun j hj => ⟨by have := (hK j hj).1; omega, fun hS => by
  rcases (hK j hj).2 with h2 | h2
  ·have := hS.1; omega
  ·exact hS.2.2 h2, fun hm => by have := hL j hm; have := (hK j hj).1; omega⟩
end
structure In (w0 : World) (N : Nat) (CA : Array Value) (ta : TypeId) (W : World) : Prop where
 arg : W.heap[N + 1]? = some (.cells CA ta (0, 0))
 low : Below (N + 1) w0 W
section
variable {w0 W W' : World} {N Y : Nat} {CA : Array Value} {ta : TypeId}
theorem In.size (h : In w0 N CA ta W) : N + 2 ≤ W.heap.size := (Array.getElem?_eq_some_iff.1 h.arg).1
theorem In.next (h : In w0 N CA ta W) (hb : Below W.heap.size W W') : In w0 N CA ta W' := ⟨blk_next hb h.arg, h.low.trans (hb.mono (by have := h.size; omega))⟩
theorem In.but {K : List Nat} (h : In w0 N CA ta W) (hk : But K W W') (h1 : ∀ j ∈ K, N + 2 ≤ j) : In w0 N CA ta W' :=
 ⟨hk.blk h.arg (fun hm => by have := h1 _ hm; omega), h.low.trans (hk.to (by have := h.size; omega) (fun j hj => by have := h1 j hj; omega))⟩
theorem In.fresh (h : In w0 N CA ta W) (hY : W.heap.size ≤ Y) : N + 2 ≤ Y := Nat.le_trans h.size hY
end
end Go.Proofs.YtimioelnnhnbiaaGreatDoor
