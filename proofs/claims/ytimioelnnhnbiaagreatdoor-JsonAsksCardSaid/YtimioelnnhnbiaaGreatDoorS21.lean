/-
 json.clash. CONDITIONS: none.
-/
import Derived.Test.YtimioelnnhnbiaaGreatDoorS17
import Derived.Test.YtimioelnnhnbiaaGreatDoorS05
namespace Go.Proofs.YtimioelnnhnbiaaGreatDoor
open Go.RowKit
structure PClash where
 path : Js.Bs
 base : Js.Bs
 ours : Js.Bs
 theirs : Js.Bs
 inBase : Bool
 inOurs : Bool
 inTheirs : Bool
def jClash (x : PClash) : Js.J := .mk 6 false 0 [] [] [([112, 97, 116, 104], jText x.path), ([98, 97, 115, 101], jText x.base), ([111, 117, 114, 115], jText x.ours), ([116, 104, 101, 105, 114, 115], jText x.theirs), ([105, 110, 66, 97, 115, 101], jTruth x.inBase), ([105, 110, 79, 117, 114, 115], jTruth x.inOurs), ([105, 110, 84, 104, 101, 105, 114, 115], jTruth x.inTheirs)]
def clashC (x : PClash) : List Value := [.string (str x.path), .string (str x.base), .string (str x.ours), .string (str x.theirs), .bool x.inBase, .bool x.inOurs, .bool x.inTheirs]
set_option maxRecDepth 100000 in
set_option maxHeartbeats 8000000 in
theorem made_clash : MadeC 69 (fun x => .agg #[.string (str x.path), .string (str x.base), .string (str x.ours), .string (str x.theirs), .bool x.inBase, .bool x.inOurs, .bool x.inTheirs]) jClash := by
 intro x w
 have b1 := below_box w (.cells #[.string (str x.path), .string (str x.base), .string (str x.ours), .string (str x.theirs), .bool x.inBase, .bool x.inOurs, .bool x.inTheirs] 84)
 have s1 : (w.alloc (.cells #[.string (str x.path), .string (str x.base), .string (str x.ours), .string (str x.theirs), .bool x.inBase, .bool x.inOurs, .bool x.inTheirs] 84)).heap.size = w.heap.size + 1 := by simp
 have e1 := heap_alloc_new w (.cells #[.string (str x.path), .string (str x.base), .string (str x.ours), .string (str x.theirs), .bool x.inBase, .bool x.inOurs, .bool x.inTheirs] 84)
 have b2 := below_box (w.alloc (.cells #[.string (str x.path), .string (str x.base), .string (str x.ours), .string (str x.theirs), .bool x.inBase, .bool x.inOurs, .bool x.inTheirs] 84)) (.cells #[.int .i64 0, .bool false, .int .i64 0, .string ⟨#[]⟩, .slice none 0 0, .slice none 0 0] 25)
 have e2 : JBox _ _ _ _ _ _ _ _ := heap_alloc_new (w.alloc (.cells #[.string (str x.path), .string (str x.base), .string (str x.ours), .string (str x.theirs), .bool x.inBase, .bool x.inOurs, .bool x.inTheirs] 84)) (.cells #[.int .i64 0, .bool false, .int .i64 0, .string ⟨#[]⟩, .slice none 0 0, .slice none 0 0] 25)
 rw [s1] at e2
 have HE1 := Lib.hid (blk_next b2 e1)
 have HE2 := Lib.hid e2
 have HW2 := Lib.hid (b1.trans (b2.mono (by rw [s1]; omega)))
 clear b1 s1 e1 b2 e2
 go_enter Tryz.func69, Tryz.ntmps69
 go_upto_region 1 with fail
 generalize ((w.alloc (.cells #[.string (str x.path), .string (str x.base), .string (str x.ours), .string (str x.theirs), .bool x.inBase, .bool x.inOurs, .bool x.inTheirs] 84)).alloc (.cells #[.int .i64 0, .bool false, .int .i64 0, .string ⟨#[]⟩, .slice none 0 0, .slice none 0 0] 25)) = w2 at HE1 HE2 HW2 ⊢
 obtain ⟨N, hN⟩ : ∃ N, w.heap.size = N := ⟨_, rfl⟩
 rw [hN] at HE1 HE2 ⊢
 have HN := Lib.hid hN
 clear hN
 go_wp2_with fail
 refine wp_region_any (by kernel_rfl) ?_
 change wpAny _ _ _ _ _ _ _ (World.drew _)
 have hbd : Below w2.heap.size w2 w2.drew := below_drewN (Below.refl _ _) 1
 have HS : Hid ((fun W => W.heap[N]? = some (.cells #[.string (str x.path), .string (str x.base), .string (str x.ours), .string (str x.theirs), .bool x.inBase, .bool x.inOurs, .bool x.inTheirs] 84 (0, 0))) w2.drew) := Lib.hid (blk_next hbd HE1.out)
 have HZ := Lib.hid (HE2.out.next hbd)
 have HW : Hid (Below N w w2.drew) := Lib.hid (HN.out ▸ (HW2.out.trans (hbd.mono HW2.out.size)))
 clear hbd HE1 HE2 HW2
 generalize w2.drew = W at HS HZ HW ⊢
 refine wpAny_of_till (S := fun W => W.heap[N]? = some (.cells #[.string (str x.path), .string (str x.base), .string (str x.ours), .string (str x.theirs), .bool x.inBase, .bool x.inOurs, .bool x.inTheirs] 84 (0, 0))) (st := (fun _ => false)) _ _ _ _ ?_
 change wpTill _ _ _ _ _ _ _ #[false, false, false, false, false, false, false, false, false, false, false, false, false, false, false, false, false, false, false, false, false, false, false, false, false, false, false, false, false, false, false, false, false, false, false, false, false, false] _ _
 refine tkF 0 (.iface 9 (.string ⟨#[112, 97, 116, 104]⟩)) rfl ?yb0 (fun _ => HS.out) ?_
 case yb0 => (intro W0 _; go_simp; (try with_reducible rfl))
 simp only [Act.put, CL]
 refine tkF 1 (.pointer (some ⟨N, 0, none⟩)) rfl ?yb1 (fun _ => HS.out) ?_
 case yb1 => (intro W0 _; go_simp; (try with_reducible rfl))
 simp only [Act.put, CL]
 refine tk0 2 (.string (str x.path)) rfl (Or.inl ⟨by rfl, ?yb2⟩) HS.out (fun _ => ?_)
 case yb2 => (intro W0 hS; have q0 := (blk_cells hS 0).trans (show _ = some (.string (str x.path)) from rfl); go_simp; (try with_reducible rfl))
 simp only [Act.put, CL]
 refine tkF 5 (.iface 9 (.string ⟨#[98, 97, 115, 101]⟩)) rfl ?yb5 (fun _ => HS.out) ?_
 case yb5 => (intro W0 _; go_simp; (try with_reducible rfl))
 simp only [Act.put, CL]
 refine tkF 6 (.pointer (some ⟨N, 1, none⟩)) rfl ?yb6 (fun _ => HS.out) ?_
 case yb6 => (intro W0 _; go_simp; (try with_reducible rfl))
 simp only [Act.put, CL]
 refine tk0 7 (.string (str x.base)) rfl (Or.inl ⟨by rfl, ?yb7⟩) HS.out (fun _ => ?_)
 case yb7 => (intro W0 hS; have q0 := (blk_cells hS 1).trans (show _ = some (.string (str x.base)) from rfl); go_simp; (try with_reducible rfl))
 simp only [Act.put, CL]
 refine tkF 10 (.iface 9 (.string ⟨#[111, 117, 114, 115]⟩)) rfl ?yb10 (fun _ => HS.out) ?_
 case yb10 => (intro W0 _; go_simp; (try with_reducible rfl))
 simp only [Act.put, CL]
 refine tkF 11 (.pointer (some ⟨N, 2, none⟩)) rfl ?yb11 (fun _ => HS.out) ?_
 case yb11 => (intro W0 _; go_simp; (try with_reducible rfl))
 simp only [Act.put, CL]
 refine tk0 12 (.string (str x.ours)) rfl (Or.inl ⟨by rfl, ?yb12⟩) HS.out (fun _ => ?_)
 case yb12 => (intro W0 hS; have q0 := (blk_cells hS 2).trans (show _ = some (.string (str x.ours)) from rfl); go_simp; (try with_reducible rfl))
 simp only [Act.put, CL]
 refine tkF 15 (.iface 9 (.string ⟨#[116, 104, 101, 105, 114, 115]⟩)) rfl ?yb15 (fun _ => HS.out) ?_
 case yb15 => (intro W0 _; go_simp; (try with_reducible rfl))
 simp only [Act.put, CL]
 refine tkF 16 (.pointer (some ⟨N, 3, none⟩)) rfl ?yb16 (fun _ => HS.out) ?_
 case yb16 => (intro W0 _; go_simp; (try with_reducible rfl))
 simp only [Act.put, CL]
 refine tk0 17 (.string (str x.theirs)) rfl (Or.inl ⟨by rfl, ?yb17⟩) HS.out (fun _ => ?_)
 case yb17 => (intro W0 hS; have q0 := (blk_cells hS 3).trans (show _ = some (.string (str x.theirs)) from rfl); go_simp; (try with_reducible rfl))
 simp only [Act.put, CL]
 refine tkF 20 (.iface 9 (.string ⟨#[105, 110, 66, 97, 115, 101]⟩)) rfl ?yb20 (fun _ => HS.out) ?_
 case yb20 => (intro W0 _; go_simp; (try with_reducible rfl))
 simp only [Act.put, CL]
 refine tkF 21 (.pointer (some ⟨N, 4, none⟩)) rfl ?yb21 (fun _ => HS.out) ?_
 case yb21 => (intro W0 _; go_simp; (try with_reducible rfl))
 simp only [Act.put, CL]
 refine tk0 22 (.bool x.inBase) rfl (Or.inl ⟨by rfl, ?yb22⟩) HS.out (fun _ => ?_)
 case yb22 => (intro W0 hS; have q0 := (blk_cells hS 4).trans (show _ = some (.bool x.inBase) from rfl); go_simp; (try with_reducible rfl))
 simp only [Act.put, CL]
 refine tkF 25 (.iface 9 (.string ⟨#[105, 110, 79, 117, 114, 115]⟩)) rfl ?yb25 (fun _ => HS.out) ?_
 case yb25 => (intro W0 _; go_simp; (try with_reducible rfl))
 simp only [Act.put, CL]
 refine tkF 26 (.pointer (some ⟨N, 5, none⟩)) rfl ?yb26 (fun _ => HS.out) ?_
 case yb26 => (intro W0 _; go_simp; (try with_reducible rfl))
 simp only [Act.put, CL]
 refine tk0 27 (.bool x.inOurs) rfl (Or.inl ⟨by rfl, ?yb27⟩) HS.out (fun _ => ?_)
 case yb27 => (intro W0 hS; have q0 := (blk_cells hS 5).trans (show _ = some (.bool x.inOurs) from rfl); go_simp; (try with_reducible rfl))
 simp only [Act.put, CL]
 refine tkF 30 (.iface 9 (.string ⟨#[105, 110, 84, 104, 101, 105, 114, 115]⟩)) rfl ?yb30 (fun _ => HS.out) ?_
 case yb30 => (intro W0 _; go_simp; (try with_reducible rfl))
 simp only [Act.put, CL]
 refine tkF 31 (.pointer (some ⟨N, 6, none⟩)) rfl ?yb31 (fun _ => HS.out) ?_
 case yb31 => (intro W0 _; go_simp; (try with_reducible rfl))
 simp only [Act.put, CL]
 refine tk0 32 (.bool x.inTheirs) rfl (Or.inl ⟨by rfl, ?yb32⟩) HS.out (fun _ => ?_)
 case yb32 => (intro W0 hS; have q0 := (blk_cells hS 6).trans (show _ = some (.bool x.inTheirs) from rfl); go_simp; (try with_reducible rfl))
 simp only [Act.put, CL]
 refine rdy 3 rfl (fun KK hKK => ?_)
 go_simp
 refine (text_leaf (str x.path) W).mono ?_
 rintro e W1 ⟨rfl, hb⟩
 have HS1 : Hid ((fun W => W.heap[N]? = some (.cells #[.string (str x.path), .string (str x.base), .string (str x.ours), .string (str x.theirs), .bool x.inBase, .bool x.inOurs, .bool x.inTheirs] 84 (0, 0))) W1) := Lib.hid (blk_next hb HS.out)
 have HZ1 : Hid (JBox W1 (N + 1) _ _ _ _ _ _) := Lib.hid (blk_next hb HZ.out)
 have HW1 : Hid (Below N w W1) := Lib.hid (HW.out.trans (hb.mono (by have := HZ.out.lt; omega)))
 clear hb HS HZ HW
 have HS := HS1
 have HZ := HZ1
 have HW := HW1
 clear HS1 HZ1 HW1
 refine hKK _ _ (fun _ => HS.out) ?_
 clear hKK KK
 simp only [Act.put, CL]
 refine tkF 4 (.iface 25 (.agg #[.int .i64 4, .bool false, .int .i64 0, .string (str x.path), .slice none 0 0, .slice none 0 0])) rfl ?yb4 (fun _ => HS.out) ?_
 case yb4 => (intro W0 _; go_simp; (try with_reducible rfl))
 simp only [Act.put, CL]
 refine rdy 8 rfl (fun KK hKK => ?_)
 go_simp
 refine (text_leaf (str x.base) W1).mono ?_
 rintro e W2 ⟨rfl, hb⟩
 have HS1 : Hid ((fun W => W.heap[N]? = some (.cells #[.string (str x.path), .string (str x.base), .string (str x.ours), .string (str x.theirs), .bool x.inBase, .bool x.inOurs, .bool x.inTheirs] 84 (0, 0))) W2) := Lib.hid (blk_next hb HS.out)
 have HZ1 : Hid (JBox W2 (N + 1) _ _ _ _ _ _) := Lib.hid (blk_next hb HZ.out)
 have HW1 : Hid (Below N w W2) := Lib.hid (HW.out.trans (hb.mono (by have := HZ.out.lt; omega)))
 clear hb HS HZ HW
 have HS := HS1
 have HZ := HZ1
 have HW := HW1
 clear HS1 HZ1 HW1
 refine hKK _ _ (fun _ => HS.out) ?_
 clear hKK KK
 simp only [Act.put, CL]
 refine tkF 9 (.iface 25 (.agg #[.int .i64 4, .bool false, .int .i64 0, .string (str x.base), .slice none 0 0, .slice none 0 0])) rfl ?yb9 (fun _ => HS.out) ?_
 case yb9 => (intro W0 _; go_simp; (try with_reducible rfl))
 simp only [Act.put, CL]
 refine rdy 13 rfl (fun KK hKK => ?_)
 go_simp
 refine (text_leaf (str x.ours) W2).mono ?_
 rintro e W3 ⟨rfl, hb⟩
 have HS1 : Hid ((fun W => W.heap[N]? = some (.cells #[.string (str x.path), .string (str x.base), .string (str x.ours), .string (str x.theirs), .bool x.inBase, .bool x.inOurs, .bool x.inTheirs] 84 (0, 0))) W3) := Lib.hid (blk_next hb HS.out)
 have HZ1 : Hid (JBox W3 (N + 1) _ _ _ _ _ _) := Lib.hid (blk_next hb HZ.out)
 have HW1 : Hid (Below N w W3) := Lib.hid (HW.out.trans (hb.mono (by have := HZ.out.lt; omega)))
 clear hb HS HZ HW
 have HS := HS1
 have HZ := HZ1
 have HW := HW1
 clear HS1 HZ1 HW1
 refine hKK _ _ (fun _ => HS.out) ?_
 clear hKK KK
 simp only [Act.put, CL]
 refine tkF 14 (.iface 25 (.agg #[.int .i64 4, .bool false, .int .i64 0, .string (str x.ours), .slice none 0 0, .slice none 0 0])) rfl ?yb14 (fun _ => HS.out) ?_
 case yb14 => (intro W0 _; go_simp; (try with_reducible rfl))
 simp only [Act.put, CL]
 refine rdy 18 rfl (fun KK hKK => ?_)
 go_simp
 refine (text_leaf (str x.theirs) W3).mono ?_
 rintro e W4 ⟨rfl, hb⟩
 have HS1 : Hid ((fun W => W.heap[N]? = some (.cells #[.string (str x.path), .string (str x.base), .string (str x.ours), .string (str x.theirs), .bool x.inBase, .bool x.inOurs, .bool x.inTheirs] 84 (0, 0))) W4) := Lib.hid (blk_next hb HS.out)
 have HZ1 : Hid (JBox W4 (N + 1) _ _ _ _ _ _) := Lib.hid (blk_next hb HZ.out)
 have HW1 : Hid (Below N w W4) := Lib.hid (HW.out.trans (hb.mono (by have := HZ.out.lt; omega)))
 clear hb HS HZ HW
 have HS := HS1
 have HZ := HZ1
 have HW := HW1
 clear HS1 HZ1 HW1
 refine hKK _ _ (fun _ => HS.out) ?_
 clear hKK KK
 simp only [Act.put, CL]
 refine tkF 19 (.iface 25 (.agg #[.int .i64 4, .bool false, .int .i64 0, .string (str x.theirs), .slice none 0 0, .slice none 0 0])) rfl ?yb19 (fun _ => HS.out) ?_
 case yb19 => (intro W0 _; go_simp; (try with_reducible rfl))
 simp only [Act.put, CL]
 refine rdy 23 rfl (fun KK hKK => ?_)
 go_simp
 refine (truth_leaf (x.inBase) W4).mono ?_
 rintro e W5 ⟨rfl, hb⟩
 have HS1 : Hid ((fun W => W.heap[N]? = some (.cells #[.string (str x.path), .string (str x.base), .string (str x.ours), .string (str x.theirs), .bool x.inBase, .bool x.inOurs, .bool x.inTheirs] 84 (0, 0))) W5) := Lib.hid (blk_next hb HS.out)
 have HZ1 : Hid (JBox W5 (N + 1) _ _ _ _ _ _) := Lib.hid (blk_next hb HZ.out)
 have HW1 : Hid (Below N w W5) := Lib.hid (HW.out.trans (hb.mono (by have := HZ.out.lt; omega)))
 clear hb HS HZ HW
 have HS := HS1
 have HZ := HZ1
 have HW := HW1
 clear HS1 HZ1 HW1
 refine hKK _ _ (fun _ => HS.out) ?_
 clear hKK KK
 simp only [Act.put, CL]
 refine tkF 24 (.iface 25 (.agg #[.int .i64 2, .bool x.inBase, .int .i64 0, .string ⟨#[]⟩, .slice none 0 0, .slice none 0 0])) rfl ?yb24 (fun _ => HS.out) ?_
 case yb24 => (intro W0 _; go_simp; (try with_reducible rfl))
 simp only [Act.put, CL]
 refine rdy 28 rfl (fun KK hKK => ?_)
 go_simp
 refine (truth_leaf (x.inOurs) W5).mono ?_
 rintro e W6 ⟨rfl, hb⟩
 have HS1 : Hid ((fun W => W.heap[N]? = some (.cells #[.string (str x.path), .string (str x.base), .string (str x.ours), .string (str x.theirs), .bool x.inBase, .bool x.inOurs, .bool x.inTheirs] 84 (0, 0))) W6) := Lib.hid (blk_next hb HS.out)
 have HZ1 : Hid (JBox W6 (N + 1) _ _ _ _ _ _) := Lib.hid (blk_next hb HZ.out)
 have HW1 : Hid (Below N w W6) := Lib.hid (HW.out.trans (hb.mono (by have := HZ.out.lt; omega)))
 clear hb HS HZ HW
 have HS := HS1
 have HZ := HZ1
 have HW := HW1
 clear HS1 HZ1 HW1
 refine hKK _ _ (fun _ => HS.out) ?_
 clear hKK KK
 simp only [Act.put, CL]
 refine tkF 29 (.iface 25 (.agg #[.int .i64 2, .bool x.inOurs, .int .i64 0, .string ⟨#[]⟩, .slice none 0 0, .slice none 0 0])) rfl ?yb29 (fun _ => HS.out) ?_
 case yb29 => (intro W0 _; go_simp; (try with_reducible rfl))
 simp only [Act.put, CL]
 refine rdy 33 rfl (fun KK hKK => ?_)
 go_simp
 refine (truth_leaf (x.inTheirs) W6).mono ?_
 rintro e W7 ⟨rfl, hb⟩
 have HS1 : Hid ((fun W => W.heap[N]? = some (.cells #[.string (str x.path), .string (str x.base), .string (str x.ours), .string (str x.theirs), .bool x.inBase, .bool x.inOurs, .bool x.inTheirs] 84 (0, 0))) W7) := Lib.hid (blk_next hb HS.out)
 have HZ1 : Hid (JBox W7 (N + 1) _ _ _ _ _ _) := Lib.hid (blk_next hb HZ.out)
 have HW1 : Hid (Below N w W7) := Lib.hid (HW.out.trans (hb.mono (by have := HZ.out.lt; omega)))
 clear hb HS HZ HW
 have HS := HS1
 have HZ := HZ1
 have HW := HW1
 clear HS1 HZ1 HW1
 refine hKK _ _ (fun _ => HS.out) ?_
 clear hKK KK
 simp only [Act.put, CL]
 refine tkF 34 (.iface 25 (.agg #[.int .i64 2, .bool x.inTheirs, .int .i64 0, .string ⟨#[]⟩, .slice none 0 0, .slice none 0 0])) rfl ?yb34 (fun _ => HS.out) ?_
 case yb34 => (intro W0 _; go_simp; (try with_reducible rfl))
 simp only [Act.put, CL]
 refine rdy 35 rfl (fun KK hKK => ?_)
 go_simp
 have hal := below_box W7 (.cells #[.iface 9 (.string ⟨#[112, 97, 116, 104]⟩), .iface 25 (.agg #[.int .i64 4, .bool false, .int .i64 0, .string (str x.path), .slice none 0 0, .slice none 0 0]), .iface 9 (.string ⟨#[98, 97, 115, 101]⟩), .iface 25 (.agg #[.int .i64 4, .bool false, .int .i64 0, .string (str x.base), .slice none 0 0, .slice none 0 0]), .iface 9 (.string ⟨#[111, 117, 114, 115]⟩), .iface 25 (.agg #[.int .i64 4, .bool false, .int .i64 0, .string (str x.ours), .slice none 0 0, .slice none 0 0]), .iface 9 (.string ⟨#[116, 104, 101, 105, 114, 115]⟩), .iface 25 (.agg #[.int .i64 4, .bool false, .int .i64 0, .string (str x.theirs), .slice none 0 0, .slice none 0 0]), .iface 9 (.string ⟨#[105, 110, 66, 97, 115, 101]⟩), .iface 25 (.agg #[.int .i64 2, .bool x.inBase, .int .i64 0, .string ⟨#[]⟩, .slice none 0 0, .slice none 0 0]), .iface 9 (.string ⟨#[105, 110, 79, 117, 114, 115]⟩), .iface 25 (.agg #[.int .i64 2, .bool x.inOurs, .int .i64 0, .string ⟨#[]⟩, .slice none 0 0, .slice none 0 0]), .iface 9 (.string ⟨#[105, 110, 84, 104, 101, 105, 114, 115]⟩), .iface 25 (.agg #[.int .i64 2, .bool x.inTheirs, .int .i64 0, .string ⟨#[]⟩, .slice none 0 0, .slice none 0 0])] 20)
 have HQ := Lib.hid (heap_alloc_new W7 (.cells #[.iface 9 (.string ⟨#[112, 97, 116, 104]⟩), .iface 25 (.agg #[.int .i64 4, .bool false, .int .i64 0, .string (str x.path), .slice none 0 0, .slice none 0 0]), .iface 9 (.string ⟨#[98, 97, 115, 101]⟩), .iface 25 (.agg #[.int .i64 4, .bool false, .int .i64 0, .string (str x.base), .slice none 0 0, .slice none 0 0]), .iface 9 (.string ⟨#[111, 117, 114, 115]⟩), .iface 25 (.agg #[.int .i64 4, .bool false, .int .i64 0, .string (str x.ours), .slice none 0 0, .slice none 0 0]), .iface 9 (.string ⟨#[116, 104, 101, 105, 114, 115]⟩), .iface 25 (.agg #[.int .i64 4, .bool false, .int .i64 0, .string (str x.theirs), .slice none 0 0, .slice none 0 0]), .iface 9 (.string ⟨#[105, 110, 66, 97, 115, 101]⟩), .iface 25 (.agg #[.int .i64 2, .bool x.inBase, .int .i64 0, .string ⟨#[]⟩, .slice none 0 0, .slice none 0 0]), .iface 9 (.string ⟨#[105, 110, 79, 117, 114, 115]⟩), .iface 25 (.agg #[.int .i64 2, .bool x.inOurs, .int .i64 0, .string ⟨#[]⟩, .slice none 0 0, .slice none 0 0]), .iface 9 (.string ⟨#[105, 110, 84, 104, 101, 105, 114, 115]⟩), .iface 25 (.agg #[.int .i64 2, .bool x.inTheirs, .int .i64 0, .string ⟨#[]⟩, .slice none 0 0, .slice none 0 0])] 20))
 have HS1 : Hid ((fun W => W.heap[N]? = some (.cells #[.string (str x.path), .string (str x.base), .string (str x.ours), .string (str x.theirs), .bool x.inBase, .bool x.inOurs, .bool x.inTheirs] 84 (0, 0))) (W7.alloc (.cells #[.iface 9 (.string ⟨#[112, 97, 116, 104]⟩), .iface 25 (.agg #[.int .i64 4, .bool false, .int .i64 0, .string (str x.path), .slice none 0 0, .slice none 0 0]), .iface 9 (.string ⟨#[98, 97, 115, 101]⟩), .iface 25 (.agg #[.int .i64 4, .bool false, .int .i64 0, .string (str x.base), .slice none 0 0, .slice none 0 0]), .iface 9 (.string ⟨#[111, 117, 114, 115]⟩), .iface 25 (.agg #[.int .i64 4, .bool false, .int .i64 0, .string (str x.ours), .slice none 0 0, .slice none 0 0]), .iface 9 (.string ⟨#[116, 104, 101, 105, 114, 115]⟩), .iface 25 (.agg #[.int .i64 4, .bool false, .int .i64 0, .string (str x.theirs), .slice none 0 0, .slice none 0 0]), .iface 9 (.string ⟨#[105, 110, 66, 97, 115, 101]⟩), .iface 25 (.agg #[.int .i64 2, .bool x.inBase, .int .i64 0, .string ⟨#[]⟩, .slice none 0 0, .slice none 0 0]), .iface 9 (.string ⟨#[105, 110, 79, 117, 114, 115]⟩), .iface 25 (.agg #[.int .i64 2, .bool x.inOurs, .int .i64 0, .string ⟨#[]⟩, .slice none 0 0, .slice none 0 0]), .iface 9 (.string ⟨#[105, 110, 84, 104, 101, 105, 114, 115]⟩), .iface 25 (.agg #[.int .i64 2, .bool x.inTheirs, .int .i64 0, .string ⟨#[]⟩, .slice none 0 0, .slice none 0 0])] 20))) := Lib.hid (blk_next hal HS.out)
 have HZ1 : Hid (JBox (W7.alloc (.cells #[.iface 9 (.string ⟨#[112, 97, 116, 104]⟩), .iface 25 (.agg #[.int .i64 4, .bool false, .int .i64 0, .string (str x.path), .slice none 0 0, .slice none 0 0]), .iface 9 (.string ⟨#[98, 97, 115, 101]⟩), .iface 25 (.agg #[.int .i64 4, .bool false, .int .i64 0, .string (str x.base), .slice none 0 0, .slice none 0 0]), .iface 9 (.string ⟨#[111, 117, 114, 115]⟩), .iface 25 (.agg #[.int .i64 4, .bool false, .int .i64 0, .string (str x.ours), .slice none 0 0, .slice none 0 0]), .iface 9 (.string ⟨#[116, 104, 101, 105, 114, 115]⟩), .iface 25 (.agg #[.int .i64 4, .bool false, .int .i64 0, .string (str x.theirs), .slice none 0 0, .slice none 0 0]), .iface 9 (.string ⟨#[105, 110, 66, 97, 115, 101]⟩), .iface 25 (.agg #[.int .i64 2, .bool x.inBase, .int .i64 0, .string ⟨#[]⟩, .slice none 0 0, .slice none 0 0]), .iface 9 (.string ⟨#[105, 110, 79, 117, 114, 115]⟩), .iface 25 (.agg #[.int .i64 2, .bool x.inOurs, .int .i64 0, .string ⟨#[]⟩, .slice none 0 0, .slice none 0 0]), .iface 9 (.string ⟨#[105, 110, 84, 104, 101, 105, 114, 115]⟩), .iface 25 (.agg #[.int .i64 2, .bool x.inTheirs, .int .i64 0, .string ⟨#[]⟩, .slice none 0 0, .slice none 0 0])] 20)) (N + 1) _ _ _ _ _ _) := Lib.hid (blk_next hal HZ.out)
 have HW1 : Hid (Below N w (W7.alloc (.cells #[.iface 9 (.string ⟨#[112, 97, 116, 104]⟩), .iface 25 (.agg #[.int .i64 4, .bool false, .int .i64 0, .string (str x.path), .slice none 0 0, .slice none 0 0]), .iface 9 (.string ⟨#[98, 97, 115, 101]⟩), .iface 25 (.agg #[.int .i64 4, .bool false, .int .i64 0, .string (str x.base), .slice none 0 0, .slice none 0 0]), .iface 9 (.string ⟨#[111, 117, 114, 115]⟩), .iface 25 (.agg #[.int .i64 4, .bool false, .int .i64 0, .string (str x.ours), .slice none 0 0, .slice none 0 0]), .iface 9 (.string ⟨#[116, 104, 101, 105, 114, 115]⟩), .iface 25 (.agg #[.int .i64 4, .bool false, .int .i64 0, .string (str x.theirs), .slice none 0 0, .slice none 0 0]), .iface 9 (.string ⟨#[105, 110, 66, 97, 115, 101]⟩), .iface 25 (.agg #[.int .i64 2, .bool x.inBase, .int .i64 0, .string ⟨#[]⟩, .slice none 0 0, .slice none 0 0]), .iface 9 (.string ⟨#[105, 110, 79, 117, 114, 115]⟩), .iface 25 (.agg #[.int .i64 2, .bool x.inOurs, .int .i64 0, .string ⟨#[]⟩, .slice none 0 0, .slice none 0 0]), .iface 9 (.string ⟨#[105, 110, 84, 104, 101, 105, 114, 115]⟩), .iface 25 (.agg #[.int .i64 2, .bool x.inTheirs, .int .i64 0, .string ⟨#[]⟩, .slice none 0 0, .slice none 0 0])] 20))) := Lib.hid (HW.out.trans (hal.mono (by have := HZ.out.lt; omega)))
 clear hal HS HZ HW
 generalize (W7.alloc (.cells #[.iface 9 (.string ⟨#[112, 97, 116, 104]⟩), .iface 25 (.agg #[.int .i64 4, .bool false, .int .i64 0, .string (str x.path), .slice none 0 0, .slice none 0 0]), .iface 9 (.string ⟨#[98, 97, 115, 101]⟩), .iface 25 (.agg #[.int .i64 4, .bool false, .int .i64 0, .string (str x.base), .slice none 0 0, .slice none 0 0]), .iface 9 (.string ⟨#[111, 117, 114, 115]⟩), .iface 25 (.agg #[.int .i64 4, .bool false, .int .i64 0, .string (str x.ours), .slice none 0 0, .slice none 0 0]), .iface 9 (.string ⟨#[116, 104, 101, 105, 114, 115]⟩), .iface 25 (.agg #[.int .i64 4, .bool false, .int .i64 0, .string (str x.theirs), .slice none 0 0, .slice none 0 0]), .iface 9 (.string ⟨#[105, 110, 66, 97, 115, 101]⟩), .iface 25 (.agg #[.int .i64 2, .bool x.inBase, .int .i64 0, .string ⟨#[]⟩, .slice none 0 0, .slice none 0 0]), .iface 9 (.string ⟨#[105, 110, 79, 117, 114, 115]⟩), .iface 25 (.agg #[.int .i64 2, .bool x.inOurs, .int .i64 0, .string ⟨#[]⟩, .slice none 0 0, .slice none 0 0]), .iface 9 (.string ⟨#[105, 110, 84, 104, 101, 105, 114, 115]⟩), .iface 25 (.agg #[.int .i64 2, .bool x.inTheirs, .int .i64 0, .string ⟨#[]⟩, .slice none 0 0, .slice none 0 0])] 20)) = W8 at HQ HS1 HZ1 HW1 ⊢
 generalize W7.heap.size = M at HQ ⊢
 have HS := HS1
 have HZ := HZ1
 have HW := HW1
 clear HS1 HZ1 HW1
 refine hKK _ _ (fun _ => HS.out) ?_
 clear hKK KK
 simp only [Act.put, CL]
 refine rdy 36 rfl (fun KK hKK => ?_)
 go_simp
 have HA : AnyAt W8 (fun g => N + 2 ≤ g) (some ⟨M, 0, none⟩) (pairsOf [([112, 97, 116, 104], jText (x.path), [.int .i64 4, .bool false, .int .i64 0, .string (str x.path), .slice none 0 0, .slice none 0 0]), ([98, 97, 115, 101], jText (x.base), [.int .i64 4, .bool false, .int .i64 0, .string (str x.base), .slice none 0 0, .slice none 0 0]), ([111, 117, 114, 115], jText (x.ours), [.int .i64 4, .bool false, .int .i64 0, .string (str x.ours), .slice none 0 0, .slice none 0 0]), ([116, 104, 101, 105, 114, 115], jText (x.theirs), [.int .i64 4, .bool false, .int .i64 0, .string (str x.theirs), .slice none 0 0, .slice none 0 0]), ([105, 110, 66, 97, 115, 101], jTruth x.inBase, [.int .i64 2, .bool x.inBase, .int .i64 0, .string ⟨#[]⟩, .slice none 0 0, .slice none 0 0]), ([105, 110, 79, 117, 114, 115], jTruth x.inOurs, [.int .i64 2, .bool x.inOurs, .int .i64 0, .string ⟨#[]⟩, .slice none 0 0, .slice none 0 0]), ([105, 110, 84, 104, 101, 105, 114, 115], jTruth x.inTheirs, [.int .i64 2, .bool x.inTheirs, .int .i64 0, .string ⟨#[]⟩, .slice none 0 0, .slice none 0 0])]) := anyAt_of HQ.out rfl (by
  intro p hp
  simp only [List.mem_cons, List.not_mem_nil, or_false] at hp
  rcases hp with rfl | rfl | rfl | rfl | rfl | rfl | rfl
  ·exact JV.leaf _ _ 4 false 0 _
  ·exact JV.leaf _ _ 4 false 0 _
  ·exact JV.leaf _ _ 4 false 0 _
  ·exact JV.leaf _ _ 4 false 0 _
  ·exact JV.leaf _ _ 2 _ 0 []
  ·exact JV.leaf _ _ 2 _ 0 []
  ·exact JV.leaf _ _ 2 _ 0 [])
 have ho : Calls Tryz.prog 59 #[.slice (some ⟨M, 0, none⟩) 14 14] W8 _ := object_any (fun g => g < W8.heap.size ∧ N + 2 ≤ g) (pairsOf [([112, 97, 116, 104], jText (x.path), [.int .i64 4, .bool false, .int .i64 0, .string (str x.path), .slice none 0 0, .slice none 0 0]), ([98, 97, 115, 101], jText (x.base), [.int .i64 4, .bool false, .int .i64 0, .string (str x.base), .slice none 0 0, .slice none 0 0]), ([111, 117, 114, 115], jText (x.ours), [.int .i64 4, .bool false, .int .i64 0, .string (str x.ours), .slice none 0 0, .slice none 0 0]), ([116, 104, 101, 105, 114, 115], jText (x.theirs), [.int .i64 4, .bool false, .int .i64 0, .string (str x.theirs), .slice none 0 0, .slice none 0 0]), ([105, 110, 66, 97, 115, 101], jTruth x.inBase, [.int .i64 2, .bool x.inBase, .int .i64 0, .string ⟨#[]⟩, .slice none 0 0, .slice none 0 0]), ([105, 110, 79, 117, 114, 115], jTruth x.inOurs, [.int .i64 2, .bool x.inOurs, .int .i64 0, .string ⟨#[]⟩, .slice none 0 0, .slice none 0 0]), ([105, 110, 84, 104, 101, 105, 114, 115], jTruth x.inTheirs, [.int .i64 2, .bool x.inTheirs, .int .i64 0, .string ⟨#[]⟩, .slice none 0 0, .slice none 0 0])]) (some ⟨M, 0, none⟩) 14 W8 (fun g h => h.1) (fun k nm x hx => by
  obtain ⟨g, o, us, h1, h2, h3, h4, h5⟩ := HA k nm x hx
  exact ⟨g, o, us, h1, h2, h3, h4, h5.wide (fun g hg hlt => ⟨hlt, hg⟩)⟩) (by simp [pairsOf])
 refine ho.mono ?_
 rintro e W9 ⟨hb, Av, cv, rfl, hjo⟩
 rw [show (pairsOf [([112, 97, 116, 104], jText (x.path), [.int .i64 4, .bool false, .int .i64 0, .string (str x.path), .slice none 0 0, .slice none 0 0]), ([98, 97, 115, 101], jText (x.base), [.int .i64 4, .bool false, .int .i64 0, .string (str x.base), .slice none 0 0, .slice none 0 0]), ([111, 117, 114, 115], jText (x.ours), [.int .i64 4, .bool false, .int .i64 0, .string (str x.ours), .slice none 0 0, .slice none 0 0]), ([116, 104, 101, 105, 114, 115], jText (x.theirs), [.int .i64 4, .bool false, .int .i64 0, .string (str x.theirs), .slice none 0 0, .slice none 0 0]), ([105, 110, 66, 97, 115, 101], jTruth x.inBase, [.int .i64 2, .bool x.inBase, .int .i64 0, .string ⟨#[]⟩, .slice none 0 0, .slice none 0 0]), ([105, 110, 79, 117, 114, 115], jTruth x.inOurs, [.int .i64 2, .bool x.inOurs, .int .i64 0, .string ⟨#[]⟩, .slice none 0 0, .slice none 0 0]), ([105, 110, 84, 104, 101, 105, 114, 115], jTruth x.inTheirs, [.int .i64 2, .bool x.inTheirs, .int .i64 0, .string ⟨#[]⟩, .slice none 0 0, .slice none 0 0])]).length = 7 from rfl] at hjo ⊢
 have hjo2 : Hid (JV W9 (fun g => N + 2 ≤ g) (.mk 6 false 0 [] [] (pairsOf [([112, 97, 116, 104], jText (x.path), [.int .i64 4, .bool false, .int .i64 0, .string (str x.path), .slice none 0 0, .slice none 0 0]), ([98, 97, 115, 101], jText (x.base), [.int .i64 4, .bool false, .int .i64 0, .string (str x.base), .slice none 0 0, .slice none 0 0]), ([111, 117, 114, 115], jText (x.ours), [.int .i64 4, .bool false, .int .i64 0, .string (str x.ours), .slice none 0 0, .slice none 0 0]), ([116, 104, 101, 105, 114, 115], jText (x.theirs), [.int .i64 4, .bool false, .int .i64 0, .string (str x.theirs), .slice none 0 0, .slice none 0 0]), ([105, 110, 66, 97, 115, 101], jTruth x.inBase, [.int .i64 2, .bool x.inBase, .int .i64 0, .string ⟨#[]⟩, .slice none 0 0, .slice none 0 0]), ([105, 110, 79, 117, 114, 115], jTruth x.inOurs, [.int .i64 2, .bool x.inOurs, .int .i64 0, .string ⟨#[]⟩, .slice none 0 0, .slice none 0 0]), ([105, 110, 84, 104, 101, 105, 114, 115], jTruth x.inTheirs, [.int .i64 2, .bool x.inTheirs, .int .i64 0, .string ⟨#[]⟩, .slice none 0 0, .slice none 0 0])])) _) := Lib.hid (hjo.wide (fun g hg _ => hg.elim (fun h => h.2) (fun h => by have := HZ.out.lt; omega)))
 have HS1 : Hid ((fun W => W.heap[N]? = some (.cells #[.string (str x.path), .string (str x.base), .string (str x.ours), .string (str x.theirs), .bool x.inBase, .bool x.inOurs, .bool x.inTheirs] 84 (0, 0))) W9) := Lib.hid (blk_next hb HS.out)
 have HZ1 : Hid (JBox W9 (N + 1) _ _ _ _ _ _) := Lib.hid (blk_next hb HZ.out)
 have HW1 : Hid (Below N w W9) := Lib.hid (HW.out.trans (hb.mono (by have := HZ.out.lt; omega)))
 clear hb HS HZ HW hjo ho HA HQ
 have HS := HS1
 have HZ := HZ1
 have HW := HW1
 clear HS1 HZ1 HW1
 refine hKK _ _ (fun _ => HS.out) ?_
 clear hKK KK
 simp only [Act.put, CL]
 refine rdy 37 rfl (fun KK hKK => ?_)
 obtain ⟨hk9, hx9⟩ := j25_set (.int .i64 6) (.bool false) (.int .i64 0) (.string ⟨#[]⟩) (.slice none 0 0) (.slice Av 7 cv) HZ.out
 have HK9 := Lib.hid hk9
 have HX9 := Lib.hid hx9
 obtain ⟨x0, x1, x2, x3, x4, x5⟩ := HZ.out.cells
 obtain ⟨f0, f1, f2, f3, f4, f5⟩ := HZ.out.frees
 clear hk9 hx9
 go_simp
 refine hKK _ _ (fun _ => HK9.out.blk HS.out (by simp)) ?_
 clear hKK KK
 simp only [Act.put, CL]
 refine wpTill_done (by kernel_rfl) ?_ _
 (try simp only [Exit.then])
 go_wp2_with fail
 refine bodyPost_ret (results_row1 rfl _ _ _ (N + 1) #[.int .i64 6, .bool false, .int .i64 0, .string ⟨#[]⟩, .slice none 0 0, .slice Av 7 cv] rfl (j25_load HX9.out)) rfl ?_
 rw [HN.out]
 refine ⟨HW.out.trans (HK9.out.to (by have := HZ.out.lt; omega) (by intro j hj; simp at hj; omega)), _, rfl, ?_⟩
 exact (hjo2.out.but HK9.out (by intro j hj; simp at hj; omega)).wide (fun g hg _ => by omega)
end Go.Proofs.YtimioelnnhnbiaaGreatDoor
