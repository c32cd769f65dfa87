/-
  Joined: ZS ZKint.
-/
import Derived.Test.YtimioelnnhnbiaaGreatDoorS15
import Derived.Test.YtimioelnnhnbiaaGreatDoorS17
import Derived.Test.YtimioelnnhnbiaaGreatDoorS05
import Derived.Deep.AppendLies
import Derived.Deep.MidRow
import Derived.Test.YtimioelnnhnbiaaGreatDoorS16
import Derived.Test.YtimioelnnhnbiaaGreatDoorS13
namespace Go.Proofs.YtimioelnnhnbiaaGreatDoor
open Go.RowKit
theorem with_S (x : Js.J) (nm : Js.Bs) (v : Js.J) (vs us : List Value) (S : Nat → Prop) (w : World) (hjx : JV w S x vs) (hjv : JV w S v us) (hnew : ∀ g, w.heap.size ≤ g → S g) (hlen : x.members.length ≤ 1000000) :
  Calls Tryz.prog 37 #[.agg vs.toArray, .string (str nm), .agg us.toArray] w fun e w' => Below w.heap.size w w' ∧ ∃ ws, e = .returned (.agg ws.toArray) ∧ JV w' S (withP x nm v) ws :=
 (with_any x nm v vs us (fun g => S g ∧ g < w.heap.size) w (hjx.wide fun g h1 h2 => ⟨h1, h2⟩) (hjv.wide fun g h1 h2 => ⟨h1, h2⟩) (fun g h => h.2) hlen).mono fun e w' ⟨hb, ws, he, hj⟩ =>
  ⟨hb, ws, he, hj.wide fun g hg _ => hg.elim (fun h => h.1) (fun h => hnew g h)⟩
theorem info25s : (Tryz.prog.info? 25).map (·.size) = some 6 := by kernel_rfl
section
variable {op : Oper} {a : Act} {w : World} {K : Act → World → Prop} {Q : Exit → Act → World → Prop}
theorem wp_store_rowd (t : TypeId) (x y : Operand) (ho : op.op = .store t x y) (b : Nat) (hx : a.eval x = .pointer (some ⟨b, 0, none⟩)) (C D : Array Value) (hy : a.eval y = .agg D) (h : w.heap[b]? = some (.cells C t (0, 0)))
  (hsz : C.size = D.size) (hi : (Tryz.prog.info? t).map (·.size) = some D.size) (h1 : ∀ v ∈ D.toList, v.oneCell' = true) (k : ∀ w', But [b] w w' → w'.heap[b]? = some (.cells D t (0, 0)) → K (a.put op.dst undef) w') : op.wp Tryz.prog a w K Q := by
 obtain ⟨h2, h3⟩ := store_row h hsz
 refine wp_store_mid t x y ho b 0 D hx hy (fun j hj => ?_) hi (Array.all_eq_true_iff_forall_mem.2 (fun v hv => h1 v (by simpa using hv))) (k _ h2 h3)
 refine ⟨?_, blk_free h _⟩
 rw [blk_cells h (0 + j), Nat.zero_add, Array.getElem?_eq_getElem (by omega)]
 rfl
end
theorem fresh_row {W w9 : World} {t : TypeId} {Z : Array Value} (hk : But [W.heap.size] (W.alloc (.cells Z t)) w9) : Below W.heap.size W w9 := (below_box W (.cells Z t)).trans (hk.to (by simp) (by intro j hj; simp at hj; omega))
set_option maxRecDepth 100000 in
set_option maxHeartbeats 8000000 in
theorem refFiles_any (l : List (Js.Bs × Js.Bs)) (A : Option Addr) (c : Nat) (w : World) (hR : RowAt 2 fileC w A l) (hlen : l.length ≤ 1000000) (hlc : l.length ≤ c) :
  Calls Tryz.prog 41 #[.slice A l.length c] w fun e w' => Below w.heap.size w w' ∧ ∃ us, e = .returned (.agg us.toArray) ∧ JV w' (fun g => w.heap.size ≤ g) (.mk 5 false 0 [] (l.map jFile) []) us := by
 have HR : Hid (∀ W, Below w.heap.size w W → RowAt 2 fileC W A l) := Lib.hid (fun W hW => hR.next hW)
 have b1 := below_box w (.cells #[.int .i64 0, .bool false, .int .i64 0, .string ⟨#[]⟩, .slice none 0 0, .slice none 0 0] 25)
 have s1 : (w.alloc (.cells #[.int .i64 0, .bool false, .int .i64 0, .string ⟨#[]⟩, .slice none 0 0, .slice none 0 0] 25)).heap.size = w.heap.size + 1 := by simp
 have e1 : JBox _ _ _ _ _ _ _ _ := heap_alloc_new w (.cells #[.int .i64 0, .bool false, .int .i64 0, .string ⟨#[]⟩, .slice none 0 0, .slice none 0 0] 25)
 have b2 := below_box (w.alloc (.cells #[.int .i64 0, .bool false, .int .i64 0, .string ⟨#[]⟩, .slice none 0 0, .slice none 0 0] 25)) (.cells #[.int .i64 5, .bool false, .int .i64 0, .string ⟨#[]⟩, .slice none 0 0, .slice none 0 0] 25)
 have e2 : JBox _ _ _ _ _ _ _ _ := heap_alloc_new (w.alloc (.cells #[.int .i64 0, .bool false, .int .i64 0, .string ⟨#[]⟩, .slice none 0 0, .slice none 0 0] 25)) (.cells #[.int .i64 5, .bool false, .int .i64 0, .string ⟨#[]⟩, .slice none 0 0, .slice none 0 0] 25)
 have s2 : ((w.alloc (.cells #[.int .i64 0, .bool false, .int .i64 0, .string ⟨#[]⟩, .slice none 0 0, .slice none 0 0] 25)).alloc (.cells #[.int .i64 5, .bool false, .int .i64 0, .string ⟨#[]⟩, .slice none 0 0, .slice none 0 0] 25)).heap.size = w.heap.size + 2 := by simp
 rw [s1] at e2
 have HE1 := Lib.hid (e1.next b2)
 have HE2 := Lib.hid e2
 have HW2 := Lib.hid (b1.trans (b2.mono (by rw [s1]; omega)))
 have HS2 := Lib.hid s2
 clear b1 s1 e1 b2 e2 s2 hR
 go_enter Tryz.func41, Tryz.ntmps41
 go_upto_region 2 with fail
 generalize ((w.alloc (.cells #[.int .i64 0, .bool false, .int .i64 0, .string ⟨#[]⟩, .slice none 0 0, .slice none 0 0] 25)).alloc (.cells #[.int .i64 5, .bool false, .int .i64 0, .string ⟨#[]⟩, .slice none 0 0, .slice none 0 0] 25)) = w2 at HE1 HE2 HW2 HS2 ⊢
 obtain ⟨N, hN⟩ : ∃ N, w.heap.size = N := ⟨_, rfl⟩
 rw [hN] at HE1 HE2 HS2 ⊢
 have HN := Lib.hid hN
 clear hN
 have HG0 : Hid (Gr 25 6 JV (fun g => N + 2 ≤ g) (N + 2) ((l.take 0).map jFile) (.slice none 0 0) [] w2) := Lib.hid (by rw [← HS2.out]; exact Gr.nil)
 go_wp2_with fail
 go_loopw [4] (fun i wr => ∃ (k : Nat) (Av : Option Addr) (cv : Nat) (rs : List (List Value)), k ≤ l.length ∧ i = .int .i64 k ∧ Hid (Gr 25 6 JV (fun g => N + 2 ≤ g) (N + 2) ((l.take k).map jFile) (.slice Av k cv) rs wr) ∧
  Hid (JBox wr N (.int .i64 0) (.bool false) (.int .i64 0) (.string ⟨#[]⟩) (.slice none 0 0) (.slice none 0 0)) ∧ Hid (JBox wr (N + 1) (.int .i64 5) (.bool false) (.int .i64 0) (.string ⟨#[]⟩) (.slice Av k cv) (.slice none 0 0)) ∧ Hid (Below N w wr)) (fun i _ => l.length - (intOf i).toNat)
 case atStart => exact ⟨0, none, 0, [], by omega, rfl, HG0, HE1, HE2, HN.out ▸ HW2⟩
 case round =>
  obtain ⟨k, Av, cv, rs, hk, rfl, HG, HZ, HX, HW⟩ := hrel
  by_cases hlt : k < l.length
  ·have hcon : decide ((k : Int) < (l.length : Int)) = true := by simp; omega
   obtain ⟨x, hx⟩ : ∃ x, l[k]? = some x := ⟨l[k], List.getElem?_eq_getElem hlt⟩
   obtain ⟨g, o, hA1, hg, hcell⟩ := HR.out wr (by rw [HN.out]; exact HW.out) k x hx
   subst hA1
   have q0 : wr.cell? ⟨g, o + k * 2, none⟩ = some (.string (str x.1)) := hcell 0 _ rfl
   have HQ1 := Lib.hid (show wr.cell? ⟨g, o + k * 2 + 1, none⟩ = some (.string (str x.2)) from hcell 1 _ rfl)
   have HY := Lib.hid hx
   have HGL := Lib.hid hg
   clear hx hcell hg
   go_wp2_with fail
   refine (refText_leaf (str x.1) wr).mono ?_
   rintro e w3 ⟨rfl, hb⟩
   have HG2 := Lib.hid (HG.out.next kept_I hb)
   have HZ2 := Lib.hid (HZ.out.next hb)
   have HX2 := Lib.hid (HX.out.next hb)
   have HW2 := Lib.hid (HW.out.trans (hb.mono (by have := HX.out.lt; omega)))
   have HQ2 := Lib.hid (hb.cell (p := ⟨g, o + k * 2 + 1, none⟩) HGL.out |>.trans HQ1.out)
   have HGL2 := Lib.hid (Nat.lt_of_lt_of_le HGL.out hb.size)
   clear hb q0 HG HZ HX HW HQ1 HGL
   go_wp2_with fail
   refine (with_S (.mk 0 false 0 [] [] []) [112, 97, 116, 104] (jText x.1) _ _ (fun g => N + 2 ≤ g ∧ (Value.slice Av k cv).ownBlock ≠ some g) w3 (JV.leaf w3 _ 0 false 0 []) (JV.leaf w3 _ 4 false 0 x.1) (fun g hg => ⟨by have := HX2.out.lt; omega, HG2.out.fresh hg⟩) (by decide)).mono ?_
   rintro e w4 ⟨hb, vs, rfl, hjv⟩
   have HG3 := Lib.hid (HG2.out.next kept_I hb)
   have HZ3 := Lib.hid (HZ2.out.next hb)
   have HX3 := Lib.hid (HX2.out.next hb)
   have HW3 := Lib.hid (HW2.out.trans (hb.mono (by have := HX2.out.lt; omega)))
   have HQ3 := Lib.hid (hb.cell (p := ⟨g, o + k * 2 + 1, none⟩) HGL2.out |>.trans HQ2.out)
   have HGL3 := Lib.hid (Nat.lt_of_lt_of_le HGL2.out hb.size)
   have HJ3 := Lib.hid hjv
   have hvs := hjv.len
   have hone := hjv.one
   clear hb HG2 HZ2 HX2 HW2 HQ2 HGL2 hjv
   have hZ9 : (w4.alloc (.cells #[.int .i64 0, .bool false, .int .i64 0, .string ⟨#[]⟩, .slice none 0 0, .slice none 0 0] 25)).heap[w4.heap.size]? = some (.cells #[.int .i64 0, .bool false, .int .i64 0, .string ⟨#[]⟩, .slice none 0 0, .slice none 0 0] 25 (0, 0)) := heap_alloc_new w4 (.cells #[.int .i64 0, .bool false, .int .i64 0, .string ⟨#[]⟩, .slice none 0 0, .slice none 0 0] 25)
   go_upto_region 6 with (refine wpList_store_row rfl 25 _ _ rfl _ rfl #[.int .i64 0, .bool false, .int .i64 0, .string ⟨#[]⟩, .slice none 0 0, .slice none 0 0] vs.toArray rfl hZ9 (by simp [hvs]) (by rw [info25s]; simp [hvs]) (by simpa using hone) ?_; intro w5 hk9 hx9)
   have hb := fresh_row hk9
   have HGa := Lib.hid (HG3.out.next kept_I hb)
   have HZa := Lib.hid (HZ3.out.next hb)
   have HXa := Lib.hid (HX3.out.next hb)
   have HWa := Lib.hid (HW3.out.trans (hb.mono (by have := HX3.out.lt; omega)))
   have HQa := Lib.hid (hb.cell (p := ⟨g, o + k * 2 + 1, none⟩) HGL3.out |>.trans HQ3.out)
   have HGLa := Lib.hid (Nat.lt_of_lt_of_le HGL3.out hb.size)
   have HJa := Lib.hid (HJ3.out.next hb)
   have HYa := Lib.hid hx9
   clear hb HG3 HZ3 HX3 HW3 HQ3 HGL3 HJ3 hk9 hx9 hZ9 hone
   generalize w4.heap.size = Y at HYa ⊢
   go_wp2_with fail
   refine wp_region_any (by kernel_rfl) ?_
   change wpAny _ _ _ _ _ _ _ (World.drew _)
   have hb : Below w5.heap.size w5 w5.drew := below_drewN (Below.refl _ _) 1
   have HG1 := Lib.hid (HGa.out.next kept_I hb)
   have HZ1 := Lib.hid (HZa.out.next hb)
   have HX1 := Lib.hid (HXa.out.next hb)
   have HW1 : Hid (Below N w w5.drew) := Lib.hid (HN.out ▸ (HWa.out.trans (hb.mono (by have := HXa.out.lt; omega))))
   have HJ1 := Lib.hid (HJa.out.next hb)
   have HYL := Lib.hid (Nat.lt_of_lt_of_le HGLa.out hb.size)
   have hs5 : w5.drew.cell? ⟨N + 1, 4, none⟩ = some (.slice Av k cv) := HX1.out.cells.2.2.2.2.1
   have HS := Lib.hid (show (fun W => W.cell? ⟨N + 1, 4, none⟩ = some (.slice Av k cv) ∧ W.heap[Y]? = some (.cells vs.toArray 25 (0, 0)) ∧ W.cell? ⟨g, o + k * 2 + 1, none⟩ = some (.string (str x.2))) w5.drew from ⟨hs5, blk_next hb HYa.out, hb.cell (p := ⟨g, o + k * 2 + 1, none⟩) HGLa.out |>.trans HQa.out⟩)
   clear hb hs5 HGa HZa HXa HWa HJa HGLa HYa HQa
   generalize w5.drew = W at HG1 HZ1 HX1 HW1 HS HJ1 HYL ⊢
   refine wpAny_of_till (S := fun W => W.cell? ⟨N + 1, 4, none⟩ = some (.slice Av k cv) ∧ W.heap[Y]? = some (.cells vs.toArray 25 (0, 0)) ∧ W.cell? ⟨g, o + k * 2 + 1, none⟩ = some (.string (str x.2))) (st := (fun l => l.getD 11 false)) _ _ _ _ ?_
   change wpTill _ _ _ _ _ _ _ #[false, false, false, false, false, false, false, false, false, false, false, false, false, false] _ _
   refine tkF 0 (.pointer (some ⟨N + 1, 4, none⟩)) rfl ?yb0 (fun _ => HS.out) ?_
   case yb0 => (intro W0 _; go_simp; (try with_reducible rfl))
   simp only [Act.put, CL]
   refine tk 1 (.slice Av k cv) rfl (fun l h h9 => (Shutd.step h (j := 11) (k := 1) (by kernel_rfl) h9)) (Or.inl ⟨by rfl, ?yb1⟩) HS.out (fun _ => ?_)
   case yb1 => (intro W0 hS; obtain ⟨s1, e0, e1⟩ := hS; go_simp; (try with_reducible rfl))
   simp only [Act.put, CL]
   refine tk 2 (.agg vs.toArray) rfl (fun l h h9 => (Shutd.step h (j := 9) (k := 2) (by kernel_rfl) (Shutd.step h (j := 11) (k := 9) (by kernel_rfl) h9))) (yieldsIf_load_mid rfl 25 _ rfl Y 0 rfl vs _ (fun W hS j v hv => (blk_cells hS.2.1 (0 + j)).trans (by rw [Nat.zero_add, List.getElem?_toArray]; exact hv)) Tryz.underlying25 rfl (by rw [info25s, hvs])) HS.out (fun _ => ?_)
   simp only [Act.put, CL]
   refine tkF 3 (.slice (some ⟨g, o, none⟩) l.length c) rfl ?yb3 (fun _ => HS.out) ?_
   case yb3 => (intro W0 _; go_simp; (try with_reducible rfl))
   simp only [Act.put, CL]
   refine tkF 4 (.int .i64 (k : Int)) rfl ?yb4 (fun _ => HS.out) ?_
   case yb4 => (intro W0 _; go_simp; (try with_reducible rfl))
   simp only [Act.put, CL]
   refine tkF 5 (.pointer (some ⟨g, o + k * 2, none⟩)) rfl ?yb5 (fun _ => HS.out) ?_
   case yb5 => (intro W0 _; have h7 := hcon; go_simp; (try with_reducible rfl))
   simp only [Act.put, CL]
   refine tkF 6 (.pointer (some ⟨g, o + k * 2 + 1, none⟩)) rfl ?yb6 (fun _ => HS.out) ?_
   case yb6 => (intro W0 _; go_simp; (try with_reducible rfl))
   simp only [Act.put, CL]
   refine tk 7 (.string (str x.2)) rfl (fun l h h9 => (Shutd.step h (j := 8) (k := 7) (by kernel_rfl) (Shutd.step h (j := 9) (k := 8) (by kernel_rfl) (Shutd.step h (j := 11) (k := 9) (by kernel_rfl) h9)))) (Or.inl ⟨by rfl, ?yb7⟩) HS.out (fun _ => ?_)
   case yb7 => (intro W0 hS; obtain ⟨s1, e0, e1⟩ := hS; go_simp; (try with_reducible rfl))
   simp only [Act.put, CL]
   refine rdy 8 rfl (fun KK hKK => ?_)
   go_simp
   refine (refText_leaf (str x.2) W).mono ?_
   rintro e W1 ⟨rfl, hb⟩
   have HG2 := Lib.hid (HG1.out.next kept_I hb)
   have HZ2 := Lib.hid (HZ1.out.next hb)
   have HX2 := Lib.hid (HX1.out.next hb)
   have HW2 := Lib.hid (HW1.out.trans (hb.mono (by have := HX1.out.lt; omega)))
   have HS2 : Hid ((fun W => W.cell? ⟨N + 1, 4, none⟩ = some (.slice Av k cv) ∧ W.heap[Y]? = some (.cells vs.toArray 25 (0, 0)) ∧ W.cell? ⟨g, o + k * 2 + 1, none⟩ = some (.string (str x.2))) W1) := Lib.hid (⟨hb.cell (p := ⟨N + 1, 4, none⟩) HX1.out.lt |>.trans HS.out.1, blk_next hb HS.out.2.1, hb.cell (p := ⟨g, o + k * 2 + 1, none⟩) HYL.out |>.trans HS.out.2.2⟩)
   have HJ2 := Lib.hid (HJ1.out.next hb)
   have HYL2 := Lib.hid (Nat.lt_of_lt_of_le HYL.out hb.size)
   clear hb HG1 HZ1 HX1 HW1 HS HJ1 HYL
   refine hKK _ _ (fun _ => HS2.out) ?_
   clear hKK KK
   simp only [Act.put, CL]
   refine rdy 9 rfl (fun KK hKK => ?_)
   go_simp
   refine (with_S (.mk 6 false 0 [] [] [([112, 97, 116, 104], jText x.1)]) [116, 101, 120, 116] (jText x.2) vs _ (fun g => N + 2 ≤ g ∧ (Value.slice Av k cv).ownBlock ≠ some g) W1 HJ2.out (JV.leaf W1 _ 4 false 0 x.2) (fun g hg => ⟨by have := HX2.out.lt; omega, HG2.out.fresh hg⟩) (Nat.le_of_ble_eq_true rfl)).mono ?_
   rintro e W1 ⟨hb, us, rfl, hju⟩
   have HG1 := Lib.hid (HG2.out.next kept_I hb)
   have HZ1 := Lib.hid (HZ2.out.next hb)
   have HX1 := Lib.hid (HX2.out.next hb)
   have HW1 := Lib.hid (HW2.out.trans (hb.mono (by have := HX2.out.lt; omega)))
   have HS : Hid ((fun W => W.cell? ⟨N + 1, 4, none⟩ = some (.slice Av k cv) ∧ W.heap[Y]? = some (.cells vs.toArray 25 (0, 0)) ∧ W.cell? ⟨g, o + k * 2 + 1, none⟩ = some (.string (str x.2))) W1) := Lib.hid (⟨hb.cell (p := ⟨N + 1, 4, none⟩) HX2.out.lt |>.trans HS2.out.1, blk_next hb HS2.out.2.1, hb.cell (p := ⟨g, o + k * 2 + 1, none⟩) HYL2.out |>.trans HS2.out.2.2⟩)
   have HJ1 : Hid (JV W1 (fun g => N + 2 ≤ g ∧ (Value.slice Av k cv).ownBlock ≠ some g) (jFile x) us) := Lib.hid hju
   have HYL := Lib.hid (Nat.lt_of_lt_of_le HYL2.out hb.size)
   clear hb HG2 HZ2 HX2 HW2 HS2 HJ2 HYL2 hju
   obtain ⟨A7, c7, A8, c8, k1, b1, n1, t1, l7, l8, rfl⟩ := HJ1.out.shape
   refine hKK _ _ (fun _ => HS.out) ?_
   clear hKK KK
   simp only [Act.put, CL]
   refine rdy 10 rfl (fun KK hKK => ?_)
   go_simp
   have hb := below_box W1 (.cells #[.int .i64 k1, .bool b1, .int .i64 n1, .string t1, .slice A7 l7 c7, .slice A8 l8 c8] 25)
   have HQ := Lib.hid (heap_alloc_new W1 (.cells #[.int .i64 k1, .bool b1, .int .i64 n1, .string t1, .slice A7 l7 c7, .slice A8 l8 c8] 25))
   have HG3 := Lib.hid (HG1.out.next kept_I hb)
   have HZ3 := Lib.hid (HZ1.out.next hb)
   have HX3 := Lib.hid (HX1.out.next hb)
   have HW3 := Lib.hid (HW1.out.trans (hb.mono (by have := HX1.out.lt; omega)))
   have HJ3 := Lib.hid (HJ1.out.next hb)
   have HS3 : Hid ((fun W => W.cell? ⟨N + 1, 4, none⟩ = some (.slice Av k cv) ∧ W.heap[Y]? = some (.cells vs.toArray 25 (0, 0)) ∧ W.cell? ⟨g, o + k * 2 + 1, none⟩ = some (.string (str x.2))) (W1.alloc (.cells #[.int .i64 k1, .bool b1, .int .i64 n1, .string t1, .slice A7 l7 c7, .slice A8 l8 c8] 25))) := Lib.hid (⟨hb.cell (p := ⟨N + 1, 4, none⟩) HX1.out.lt |>.trans HS.out.1, blk_next hb HS.out.2.1, hb.cell (p := ⟨g, o + k * 2 + 1, none⟩) HYL.out |>.trans HS.out.2.2⟩)
   clear hb HG1 HZ1 HX1 HW1 HJ1 HS HYL
   generalize (W1.alloc (.cells #[.int .i64 k1, .bool b1, .int .i64 n1, .string t1, .slice A7 l7 c7, .slice A8 l8 c8] 25)) = W2 at HQ HG3 HZ3 HX3 HW3 HJ3 HS3 ⊢
   obtain ⟨M, hM⟩ : ∃ M, W1.heap.size = M := ⟨_, rfl⟩
   rw [hM] at HQ ⊢
   clear hM
   refine hKK _ _ (fun _ => HS3.out) ?_
   clear hKK KK
   simp only [Act.put, CL]
   refine rdy 11 rfl (fun KK hKK => ?_)
   obtain ⟨i0, hi, hz0, hz1, hz2⟩ := info_parts info25
   have hlk : ((l.take k).map jFile).length = k := by rw [List.length_map, List.length_take]; omega
   have hown := HG3.out.own.own
   rw [hlk] at hown
   refine wp_append_lies W2 (.tmp 22) (.tmp 31) 22 rfl (N + 2) 25 i0 zeroJ 6 88 Tryz.underlying22 hi hz0 hz1 hz2 rfl (by decide) (.slice Av k cv) k rs.flatten rfl hown ⟨M, 0, none⟩ 1 1 [.int .i64 k1, .bool b1, .int .i64 n1, .string t1, .slice A7 l7 c7, .slice A8 l8 c8] rfl rfl (World.news_of_block HQ.out) (by intro u hu; simp at hu; rcases hu with rfl | rfl | rfl | rfl | rfl | rfl <;> rfl) (by decide) (by unfold maxLen; omega) (by omega) HG3.out.own.le W2.heap.size rfl ?_
   intro g9 cap W3 hown3 hgrow hat3 hlt3
   have hNo : ∀ j, j < N + 2 → j ∉ (Value.slice Av k cv).ownBlock.toList := by
    intro j hj hm
    have hm : (Value.slice Av k cv).ownBlock = some j := by simpa using hm
    have := (HG3.out.own.lt j hm).1
    omega
   obtain ⟨hG4, hk3⟩ := HG3.out.push kept_I (x := jFile x) (vs := [.int .i64 k1, .bool b1, .int .i64 n1, .string t1, .slice A7 l7 c7, .slice A8 l8 c8]) HJ3.out (by rw [hlk]; exact hown3) hgrow hat3
   rw [hlk] at hG4
   have htk : (l.take k).map jFile ++ [jFile x] = (l.take (k + 1)).map jFile := by rw [List.take_add_one, HY.out, List.map_append]; rfl
   rw [htk] at hG4
   have HG4 := Lib.hid hG4
   have HZ4 : Hid (JBox W3 N _ _ _ _ _ _) := Lib.hid (HZ3.out.but hk3 (hNo N (by omega)))
   have HX4 : Hid (JBox W3 (N + 1) _ _ _ _ _ _) := Lib.hid (HX3.out.but hk3 (hNo (N + 1) (by omega)))
   have HW4 : Hid (Below N w W3) := Lib.hid (HW3.out.trans (hk3.to (by have := HX3.out.lt; omega) (by
    intro j hj
    have hm : (Value.slice Av k cv).ownBlock = some j := by simpa using hj
    have := (HG3.out.own.lt j hm).1
    omega)))
   clear hG4 hk3 hNo hgrow hown3 hown htk hat3 hlt3 hi hz0 hz1 hz2 hlk HG3 HZ3 HX3 HW3 HJ3 HS3 HQ
   refine hKK _ _ (fun h0 => absurd h0 (by decide)) ?_
   clear hKK KK
   simp only [Act.put, CL]
   refine tkF 12 (.pointer (some ⟨N + 1, 4, none⟩)) rfl ?yb12 (fun h0 => absurd h0 (by decide)) ?_
   case yb12 => (intro W0 _; go_simp; (try with_reducible rfl))
   simp only [Act.put, CL]
   refine rdy 13 rfl (fun KK hKK => ?_)
   obtain ⟨hk4, hx4⟩ := but_set (i := 4) (.slice (some ⟨g9, 0, none⟩) (k + 1) cap) HX4.out
   have HG5 : Hid (Gr 25 6 JV (fun g => N + 2 ≤ g) (N + 2) ((l.take (k + 1)).map jFile) (.slice (some ⟨g9, 0, none⟩) (k + 1) cap) (rs ++ [[.int .i64 k1, .bool b1, .int .i64 n1, .string t1, .slice A7 l7 c7, .slice A8 l8 c8]]) (W3.setCell ⟨N + 1, 4, none⟩ (.slice (some ⟨g9, 0, none⟩) (k + 1) cap))) := Lib.hid (HG4.out.but kept_I hk4 (by intro j hj; simp at hj; omega) (by intro j hj; simp at hj; omega))
   have HZ5 : Hid (JBox (W3.setCell ⟨N + 1, 4, none⟩ (.slice (some ⟨g9, 0, none⟩) (k + 1) cap)) N _ _ _ _ _ _) := Lib.hid (HZ4.out.but hk4 (by simp))
   have HX5 : Hid (JBox (W3.setCell ⟨N + 1, 4, none⟩ (.slice (some ⟨g9, 0, none⟩) (k + 1) cap)) (N + 1) (.int .i64 5) (.bool false) (.int .i64 0) (.string ⟨#[]⟩) (.slice (some ⟨g9, 0, none⟩) (k + 1) cap) (.slice none 0 0)) := Lib.hid hx4
   have HW5 := Lib.hid (HW4.out.trans (hk4.to (by have := HX4.out.lt; omega) (by intro j hj; simp at hj; omega)))
   obtain ⟨x0, x1, x2, x3, x4, x5⟩ := HX4.out.cells
   obtain ⟨f0, f1, f2, f3, f4, f5⟩ := HX4.out.frees
   clear hk4 hx4
   go_simp
   clear x0 x1 x2 x3 x4 x5 f0 f1 f2 f3 f4 f5
   refine hKK _ _ (fun h0 => absurd h0 (by decide)) ?_
   clear hKK KK
   simp only [Act.put, CL]
   refine wpTill_done (by kernel_rfl) ?_ _
   (try simp only [Exit.then])
   go_wp2_with fail
   go_roundw
   case rel => exact ⟨k + 1, _, _, _, by omega, by go_num, HG5, HZ5, HX5, HW5⟩
   case measure => simp [intOf]; omega
  ·obtain rfl : k = l.length := by omega
   have hcon : decide (((l.length : Nat) : Int) < (l.length : Int)) = false := by simp
   obtain ⟨x0, x1, x2, x3, x4, x5⟩ := HX.out.cells
   obtain ⟨z0, z1, z2, z3, z4, z5⟩ := HZ.out.cells
   obtain ⟨f0, f1, f2, f3, f4, f5⟩ := HZ.out.frees
   obtain ⟨hk9, hx9⟩ := j25_set (.int .i64 5) (.bool false) (.int .i64 0) (.string ⟨#[]⟩) (.slice Av l.length cv) (.slice none 0 0) HZ.out
   have HK9 := Lib.hid hk9
   have HX9 := Lib.hid hx9
   have HV : Hid (JV wr (fun g => N + 2 ≤ g ∨ N + 2 ≤ g) (.mk 5 false 0 [] (l.map jFile) []) [.int .i64 5, .bool false, .int .i64 0, .string ⟨#[]⟩, .slice Av l.length cv, .slice none 0 0]) := Lib.hid (by
    have h1 := HG.out.list 5 false 0 []
    rw [List.take_length] at h1
    exact h1)
   clear hk9 hx9
   go_wp2_with fail
   refine bodyPost_ret (results_row1 rfl _ _ _ N #[.int .i64 5, .bool false, .int .i64 0, .string ⟨#[]⟩, .slice Av l.length cv, .slice none 0 0] rfl (j25_load HX9.out)) rfl ?_
   rw [HN.out]
   refine ⟨HW.out.trans (HK9.out.to (by have := HX.out.lt; omega) (by intro j hj; simp at hj; omega)), _, rfl, ?_⟩
   exact (HV.out.but HK9.out (by intro j hj; simp at hj; omega)).wide (fun g hg _ => by omega)
end Go.Proofs.YtimioelnnhnbiaaGreatDoor
namespace Go.Proofs.YtimioelnnhnbiaaGreatDoor
open Go.RowKit
def FromC {β : Type} (f : Nat) (V : β → Value) (g : Js.J → β) : Prop := ∀ (y : Js.J) (us : List Value) (S : Nat → Prop) (w : World), JV w S y us → (∀ g, S g → g < w.heap.size) → Js.nodes y ≤ 1073741824 →
  Calls Tryz.prog f #[.agg us.toArray] w fun e w' => e = .returned (V (g y)) ∧ Below w.heap.size w w'
theorem from_ask1 : FromC 27 (fun n => .int .i64 n) Js.J.num := fun y us S w h _ _ => ask1_any y us S w h
theorem from_ask2 : FromC 29 (fun n => .int .i64 n) Js.J.num := fun y us S w h _ _ => ask2_any y us S w h
def RC {α : Type} (cells : α → List Value) (_ : World) (_ : Nat → Prop) (x : α) (vs : List Value) : Prop := vs = cells x
theorem kept_C {α : Type} {size : Nat} {cells : α → List Value} (h1 : ∀ x, (cells x).length = size) (h2 : ∀ x, ∀ v ∈ cells x, v.oneCell' = true) : Kept size (RC cells) :=
 ⟨fun _ _ _ h => h, fun h => by rw [h]; exact h1 _, fun h v hv => by rw [h] at hv; exact h2 _ v hv⟩
theorem Gr.rowAt {α : Type} {e size B : Nat} {cells : α → List Value} {T : Nat → Prop} {acc : List α} {A : Option Addr} {n c : Nat} {rs : List (List Value)} {w : World} (K : Kept size (RC cells)) (h : Gr e size (RC cells) T B acc (.slice A n c) rs w) : RowAt size cells w A acc := by
 intro k x hx
 obtain ⟨g, c', vs, e, hB, hg, h1, h2⟩ := h.at_ K hx
 simp only [Value.slice.injEq] at e
 refine ⟨g, 0, e.1, hg, fun j u hj => ?_⟩
 have := h1 j u (by rw [h2]; exact hj)
 rwa [Nat.zero_add k] at this
theorem length_nodesL (l : List Js.J) : l.length ≤ Js.nodesL l := Js.length_nodesL l
theorem kept_int : Kept 1 (RC intC) := kept_C (fun _ => rfl) (fun x v hv => by simp [intC] at hv; subst hv; rfl)
theorem items_le (x : Js.J) : x.items.length ≤ Js.nodes x ∧ ∀ (k : Nat) (y : Js.J), x.items[k]? = some y → Js.nodes y ≤ Js.nodes x := by
 obtain ⟨k, b, n, t, l, m⟩ := x
 have h := Js.length_nodesL l
 refine ⟨by show l.length ≤ 1 + Js.nodesL l + Js.nodesM m; omega, fun k y hy => ?_⟩
 have := (Js.nodesL_split l k y hy).1
 show Js.nodes y ≤ 1 + Js.nodesL l + Js.nodesM m
 omega
theorem getM_nodes : ∀ (m : List (Js.Bs × Js.J)) (nm : Js.Bs) (y : Js.J), Js.getM m nm = some y → Js.nodes y ≤ Js.nodesM m
 | [], _, _, h => by cases h
 | (n, x) :: t, nm, y, h => by
  unfold Js.getM at h
  show Js.nodes y ≤ Js.nodes x + Js.nodesM t
  split at h
  ·injection h with h; subst h; omega
  ·have := getM_nodes t nm y h; omega
theorem of_nodes (x : Js.J) (nm : Js.Bs) : Js.nodes (ofP x nm) ≤ Js.nodes x := by
 unfold ofP Js.getOf
 obtain ⟨k, b, n, t, l, m⟩ := x
 split
 ·cases h : Js.getM (Js.J.mk k b n t l m).members nm with
  | none => show 1 ≤ 1 + Js.nodesL l + Js.nodesM m; omega
  | some y =>
   have := getM_nodes m nm y h
   show Js.nodes y ≤ 1 + Js.nodesL l + Js.nodesM m
   omega
 ·show 1 ≤ 1 + Js.nodesL l + Js.nodesM m; omega
theorem infointE : (Tryz.prog.info? 3).map (fun i => (i.zero, i.size, i.bytes)) = some (some (.int .i64 0), 1, 8) := by kernel_rfl
set_option maxRecDepth 100000 in
set_option maxHeartbeats 8000000 in
theorem each_int (x : Js.J) (nm : Js.Bs) (vs : List Value) (S : Nat → Prop) (w : World) (hjv : JV w S x vs) (hSw : ∀ g, S g → g < w.heap.size) (hn : Js.nodes x ≤ 1000000) :
  Calls Tryz.prog 26 #[.agg vs.toArray, .string (str nm), .func (.func 27) #[] #[]] w fun e w' => Below w.heap.size w w' ∧ ∃ (Av : Option Addr) (cv : Nat), e = .returned (.slice Av (ofP x nm).items.length cv) ∧ (ofP x nm).items.length ≤ cv ∧ RowAt 1 intC w' Av ((ofP x nm).items.map Js.J.num) ∧ (∀ a, Av = some a → w.heap.size ≤ a.block ∧ a.block < w'.heap.size) := by
 have HMADE := Lib.hid from_ask1
 have HJ := Lib.hid hjv
 have HSS := Lib.hid hSw
 obtain ⟨A5, c5, A6, c6, k0, b0, n0, t0, l5, l6, rfl⟩ := hjv.shape
 have b1 := below_box w (.cells #[.int .i64 k0, .bool b0, .int .i64 n0, .string t0, .slice A5 l5 c5, .slice A6 l6 c6] 25)
 have e1 : JBox _ _ _ _ _ _ _ _ := heap_alloc_new w (.cells #[.int .i64 k0, .bool b0, .int .i64 n0, .string t0, .slice A5 l5 c5, .slice A6 l6 c6] 25)
 have HE1 := Lib.hid e1
 have HJ1 := Lib.hid (HJ.out.next b1)
 have HW1 := Lib.hid b1
 have HON := Lib.hid (of_nodes x nm)
 clear b1 e1 HJ hSw hjv
 go_enter Tryz.func26, Tryz.ntmps26
 go_upto_region 1 with fail
 generalize (w.alloc (.cells #[.int .i64 k0, .bool b0, .int .i64 n0, .string t0, .slice A5 l5 c5, .slice A6 l6 c6] 25)) = w1 at HE1 HJ1 HW1 ⊢
 obtain ⟨x0, x1, x2, x3, x4, x5⟩ := HE1.out.cells
 go_wp2_with fail
 refine (of_any x nm _ S w1 HJ1.out (fun g hg => Nat.lt_of_lt_of_le (HSS.out g hg) HW1.out.size) (by omega)).mono ?_
 rintro e w2 ⟨hb2, us, rfl, hju⟩
 obtain ⟨C5, d5, C6, d6, rfl, -, hil, -⟩ := jv_open hju
 have HIL := Lib.hid hil
 have HW2 := Lib.hid (HW1.out.trans (hb2.mono HW1.out.size))
 have HIT := Lib.hid (items_le (ofP x nm))
 clear hju hb2 HJ1 HE1 HW1 x0 x1 x2 x3 x4 x5 hil
 obtain ⟨z, hz⟩ : ∃ z, ofP x nm = z := ⟨_, rfl⟩
 rw [hz] at HIL HIT HON ⊢
 have hfl := fld4
 have hsmall : z.items.length ≤ 1000000 := by have h1 := HIT.out.1; have h2 := HON.out; omega
 have HZE := Lib.hid hz
 clear hz
 have HZN : Hid (∀ (k : Nat) (y : Js.J), z.items[k]? = some y → Js.nodes y ≤ 1073741824) := Lib.hid (fun k y hy => by have h1 := HIT.out.2 k y hy; have h2 := HON.out; omega)
 have HSW : Hid (∀ W, Below w.heap.size w W → ∀ g, S g → g < W.heap.size) := Lib.hid (fun W hW g hg => Nat.lt_of_lt_of_le (HSS.out g hg) hW.size)
 clear HIT HON hn HSS
 obtain ⟨items, hit⟩ : ∃ l, z.items = l := ⟨_, rfl⟩
 rw [hit] at HIL HZN hsmall ⊢
 have HEQ : Hid ((ofP x nm).items = items) := Lib.hid (by rw [HZE.out]; exact hit)
 clear HZE
 have HG0 : Hid (Gr 3 1 (RC intC) (fun _ => False) w2.heap.size ((items.take 0).map Js.J.num) (.slice none 0 0) [] w2) := Lib.hid Gr.nil
 go_wp2_with fail
 clear hfl
 go_loopw [7, 15] (fun a i wr => ∃ (k : Nat) (Av : Option Addr) (cv : Nat) (rs : List (List Value)), k ≤ items.length ∧ a = .slice Av k cv ∧ i = .int .i64 k ∧ Hid (Gr 3 1 (RC intC) (fun _ => False) w2.heap.size ((items.take k).map Js.J.num) (.slice Av k cv) rs wr) ∧
  Hid (Below w2.heap.size w2 wr)) (fun _ i _ => items.length - (intOf i).toNat)
 case atStart => exact ⟨0, none, 0, [], by omega, rfl, rfl, HG0, Lib.hid (Below.refl _ _)⟩
 case round =>
  obtain ⟨k, Av, cv, rs, hk, rfl, rfl, HG, HW⟩ := hrel
  by_cases hlt : k < items.length
  ·have hcon : decide ((k : Int) < (items.length : Int)) = true := by simp; omega
   obtain ⟨y, hy⟩ : ∃ y, items[k]? = some y := ⟨items[k], List.getElem?_eq_getElem hlt⟩
   obtain ⟨g, o, k1, b1, n1, t1, A7, l7, c7, A8, l8, c8, hA, hSg, hg, q0, q1, q2, q3, q4, q5, hjy⟩ := (JL.next HIL.out HW.out).elem hy
   subst hA
   have HY := Lib.hid hy
   have hyl := below_box wr (.cells #[.int .i64 k1, .bool b1, .int .i64 n1, .string t1, .slice A7 l7 c7, .slice A8 l8 c8] 25)
   have HB : Hid (JBox _ wr.heap.size _ _ _ _ _ _) := Lib.hid (heap_alloc_new wr (.cells #[.int .i64 k1, .bool b1, .int .i64 n1, .string t1, .slice A7 l7 c7, .slice A8 l8 c8] 25))
   have HG1 := Lib.hid (HG.out.next kept_int hyl)
   have HW1 := Lib.hid (HW.out.trans (hyl.mono HW.out.size))
   have HJ1 := Lib.hid (hjy.next hyl)
   clear hyl hjy hSg hy HG HW
   go_upto_region 5 with fail
   generalize (wr.alloc (.cells #[.int .i64 k1, .bool b1, .int .i64 n1, .string t1, .slice A7 l7 c7, .slice A8 l8 c8] 25)) = w3 at HB HG1 HW1 HJ1 ⊢
   generalize wr.heap.size = Q at HB ⊢
   clear q0 q1 q2 q3 q4 q5 hg
   obtain ⟨x0, x1, x2, x3, x4, x5⟩ := HB.out.cells
   go_wp2_with fail
   refine (HMADE.out y _ S w3 HJ1.out (HSW.out w3 (HW2.out.trans (HW1.out.mono HW2.out.size))) (HZN.out k y HY.out)).mono ?_
   rintro e w4 ⟨rfl, hb4⟩
   have HG4 := Lib.hid (HG1.out.next kept_int hb4)
   have HW4 := Lib.hid (HW1.out.trans (hb4.mono HW1.out.size))
   clear hb4 HG1 HW1 HJ1 HB x0 x1 x2 x3 x4 x5
   have hal := below_box w4 (.cells #[.int .i64 y.num] 3)
   have HQ := Lib.hid (heap_alloc_new w4 (.cells #[.int .i64 y.num] 3))
   have HG5 := Lib.hid (HG4.out.next kept_int hal)
   have HW5 := Lib.hid (HW4.out.trans (hal.mono HW4.out.size))
   clear hal HG4 HW4
   obtain ⟨i0, hi, hz0, hz1, hz2⟩ := info_parts infointE
   have hlk : ((items.take k).map Js.J.num).length = k := by rw [List.length_map, List.length_take]; omega
   have hown := HG5.out.own.own
   rw [hlk] at hown
   generalize hW2 : (w4.alloc (.cells #[.int .i64 y.num] 3)) = W2 at HQ HG5 HW5 hown
   generalize hM : w4.heap.size = M at HQ
   go_wp2_with (at_builtin; refine wpList_append_lies W2 rfl (.tmp 19) (.tmp 23) 33 rfl w2.heap.size 3 i0 (.int .i64 0) 1 8 Tryz.underlying33 hi hz0 hz1 hz2 rfl (by decide) (.slice Av k cv) k rs.flatten rfl hown ⟨M, 0, none⟩ 1 1 [.int .i64 y.num] rfl rfl (World.news_of_block HQ.out) (by intro u hu; simp at hu; subst hu; rfl) (by decide) (by unfold maxLen; omega) (by omega) HG5.out.own.le W2.heap.size rfl ?_; intro g9 cap W3 hown3 hgrow hat3 hlt3)
   obtain ⟨hG6, hk6⟩ := HG5.out.push kept_int (x := Js.J.num y) (vs := [.int .i64 y.num]) rfl (by rw [hlk]; exact hown3) hgrow hat3
   rw [hlk] at hG6
   have htk : (items.take k).map Js.J.num ++ [Js.J.num y] = (items.take (k + 1)).map Js.J.num := by rw [List.take_add_one, HY.out, List.map_append]; rfl
   rw [htk] at hG6
   have HG6 := Lib.hid hG6
   have HW6 := Lib.hid (HW5.out.trans (hk6.to HW5.out.size (by
    intro j hj
    have hm : (Value.slice Av k cv).ownBlock = some j := by simpa using hj
    have := (HG5.out.own.lt j hm).1
    omega)))
   go_roundw
   case rel => exact ⟨k + 1, _, _, _, by omega, rfl, by go_num, HG6, HW6⟩
   case measure => simp [intOf]; omega
  ·obtain rfl : k = items.length := by omega
   have hcon : decide (((items.length : Nat) : Int) < (items.length : Int)) = false := by simp
   have HR : Hid (RowAt 1 intC wr Av (items.map Js.J.num) ∧ items.length ≤ cv ∧ ∀ a, Av = some a → w2.heap.size ≤ a.block ∧ a.block < wr.heap.size) := Lib.hid (by
    have h1 := HG.out
    rw [List.take_length] at h1
    have h2 := h1.own
    rw [List.length_map] at h2
    exact ⟨h1.rowAt kept_int, (own_cap h2).1, fun a ha => h1.own.lt a.block (by rw [ha]; rfl)⟩)
   go_wp2_with fail
   go_ret
   rw [HEQ.out]
   exact ⟨HW2.out.trans (HW.out.mono HW2.out.size), Av, cv, rfl, HR.out.2.1, HR.out.1, fun a ha => ⟨Nat.le_trans HW2.out.size (HR.out.2.2 a ha).1, (HR.out.2.2 a ha).2⟩⟩
end Go.Proofs.YtimioelnnhnbiaaGreatDoor
