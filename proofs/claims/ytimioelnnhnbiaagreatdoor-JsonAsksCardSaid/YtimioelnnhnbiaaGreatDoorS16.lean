/-
  Joined: ZB ZC.
-/
import Derived.Test.YtimioelnnhnbiaaGreatDoorS12
import Derived.Test.YtimioelnnhnbiaaGreatDoorS05
import Derived.Deep.AppendLies
import Derived.Test.YtimioelnnhnbiaaGreatDoorS15
namespace Go.Proofs.YtimioelnnhnbiaaGreatDoor
open Go.RowKit
def AnyAt (w : World) (S : Nat → Prop) (A : Option Addr) (l : List (Js.Bs × Js.J)) : Prop :=
 ∀ (k : Nat) (nm : Js.Bs) (x : Js.J), l[k]? = some (nm, x) → ∃ g o us, A = some ⟨g, o, none⟩ ∧ g < w.heap.size ∧ w.cell? ⟨g, o + 2 * k, none⟩ = some (.iface 9 (.string (str nm))) ∧
  w.cell? ⟨g, o + (2 * k + 1), none⟩ = some (.iface 25 (.agg us.toArray)) ∧ JV w S x us
theorem AnyAt.next {w w' : World} {S : Nat → Prop} {A : Option Addr} {l : List (Js.Bs × Js.J)} (h : AnyAt w S A l) (hb : Below w.heap.size w w') : AnyAt w' S A l := by
 intro k nm x hx
 obtain ⟨g, o, us, h1, h2, h3, h4, h5⟩ := h k nm x hx
 exact ⟨g, o, us, h1, Nat.lt_of_lt_of_le h2 hb.size, (hb.cell (p := ⟨g, o + 2 * k, none⟩) h2).trans h3, (hb.cell (p := ⟨g, o + (2 * k + 1), none⟩) h2).trans h4, h5.next hb⟩
theorem assert9 (s : ByteArray) : ∀ w, (Instr.typeAssert (.iface 9 (.string s)) 20 9 false).run Tryz.prog w = .ok (.string s) w := fun w => by kernel_rfl
theorem assert25 (v : Value) : ∀ w, (Instr.typeAssert (.iface 25 v) 20 25 false).run Tryz.prog w = .ok v w := fun w => by kernel_rfl
theorem info89 : (Tryz.prog.info? 89).map (fun i => (i.zero, i.size, i.bytes)) = some (some (.agg #[.string ⟨#[]⟩, .int .i64 0, .bool false, .int .i64 0, .string ⟨#[]⟩, .slice none 0 0, .slice none 0 0]), 7, 104) := by kernel_rfl
set_option maxRecDepth 100000 in
set_option maxHeartbeats 8000000 in
theorem object_any (S : Nat → Prop) (l : List (Js.Bs × Js.J)) (A : Option Addr) (c : Nat) (w : World) (hS : ∀ g, S g → g < w.heap.size) (hA : AnyAt w S A l) (hlen : l.length ≤ 1000) :
  Calls Tryz.prog 59 #[.slice A (2 * l.length) c] w fun e w' => Below w.heap.size w w' ∧ ∃ (Av : Option Addr) (cv : Nat), e = .returned (.agg #[.int .i64 6, .bool false, .int .i64 0, .string ⟨#[]⟩, .slice none 0 0, .slice Av l.length cv]) ∧
   JV w' (fun g => S g ∨ w.heap.size ≤ g) (.mk 6 false 0 [] [] l) [.int .i64 6, .bool false, .int .i64 0, .string ⟨#[]⟩, .slice none 0 0, .slice Av l.length cv] := by
 have HSS := Lib.hid hS
 obtain ⟨m, hm⟩ : ∃ m, 2 * l.length = m := ⟨_, rfl⟩
 rw [hm]
 have hm2 : m ≤ 2000 := by omega
 have HM := Lib.hid hm
 clear hm
 have HAA : Hid (∀ W, Below w.heap.size w W → AnyAt W S A l) := Lib.hid (fun W hW => hA.next hW)
 have b1 := below_box w (.cells #[.int .i64 0, .bool false, .int .i64 0, .string ⟨#[]⟩, .slice none 0 0, .slice none 0 0] 25)
 have s1 : (w.alloc (.cells #[.int .i64 0, .bool false, .int .i64 0, .string ⟨#[]⟩, .slice none 0 0, .slice none 0 0] 25)).heap.size = w.heap.size + 1 := by simp
 have e1 : JBox _ _ _ _ _ _ _ _ := heap_alloc_new w (.cells #[.int .i64 0, .bool false, .int .i64 0, .string ⟨#[]⟩, .slice none 0 0, .slice none 0 0] 25)
 have b2 := below_box (w.alloc (.cells #[.int .i64 0, .bool false, .int .i64 0, .string ⟨#[]⟩, .slice none 0 0, .slice none 0 0] 25)) (.cells #[.int .i64 6, .bool false, .int .i64 0, .string ⟨#[]⟩, .slice none 0 0, .slice none 0 0] 25)
 have e2 : JBox _ _ _ _ _ _ _ _ := heap_alloc_new (w.alloc (.cells #[.int .i64 0, .bool false, .int .i64 0, .string ⟨#[]⟩, .slice none 0 0, .slice none 0 0] 25)) (.cells #[.int .i64 6, .bool false, .int .i64 0, .string ⟨#[]⟩, .slice none 0 0, .slice none 0 0] 25)
 have s2 : ((w.alloc (.cells #[.int .i64 0, .bool false, .int .i64 0, .string ⟨#[]⟩, .slice none 0 0, .slice none 0 0] 25)).alloc (.cells #[.int .i64 6, .bool false, .int .i64 0, .string ⟨#[]⟩, .slice none 0 0, .slice none 0 0] 25)).heap.size = w.heap.size + 2 := by simp
 rw [s1] at e2
 have HE1 := Lib.hid (e1.next b2)
 have HE2 := Lib.hid e2
 have HW2 := Lib.hid (b1.trans (b2.mono (by rw [s1]; omega)))
 have HS2 := Lib.hid s2
 clear b1 s1 e1 b2 e2 s2 hS hA
 go_enter Tryz.func59, Tryz.ntmps59
 go_upto_region 2 with fail
 generalize ((w.alloc (.cells #[.int .i64 0, .bool false, .int .i64 0, .string ⟨#[]⟩, .slice none 0 0, .slice none 0 0] 25)).alloc (.cells #[.int .i64 6, .bool false, .int .i64 0, .string ⟨#[]⟩, .slice none 0 0, .slice none 0 0] 25)) = w2 at HE1 HE2 HW2 HS2 ⊢
 obtain ⟨N, hN⟩ : ∃ N, w.heap.size = N := ⟨_, rfl⟩
 rw [hN] at HE1 HE2 HS2 ⊢
 have HN := Lib.hid hN
 clear hN
 have HG0 : Hid (Gr 89 7 RM S (N + 2) [] (.slice none 0 0) [] w2) := Lib.hid (by rw [← HS2.out]; exact Gr.nil)
 go_wp2_with fail
 go_loopw [4] (fun i wr => ∃ (k j : Nat) (Av : Option Addr) (cv : Nat) (rs : List (List Value)), k ≤ l.length ∧ Hid (j = 2 * k) ∧ j ≤ m ∧ i = .int .i64 (j : Int) ∧ Hid (Gr 89 7 RM S (N + 2) (l.take k) (.slice Av k cv) rs wr) ∧
  Hid (JBox wr N (.int .i64 0) (.bool false) (.int .i64 0) (.string ⟨#[]⟩) (.slice none 0 0) (.slice none 0 0)) ∧ Hid (JBox wr (N + 1) (.int .i64 6) (.bool false) (.int .i64 0) (.string ⟨#[]⟩) (.slice none 0 0) (.slice Av k cv)) ∧ Hid (Below N w wr)) (fun i _ => m - (intOf i).toNat)
 case atStart => exact ⟨0, 0, none, 0, [], by omega, Lib.hid rfl, by omega, rfl, HG0, HE1, HE2, HN.out ▸ HW2⟩
 case round =>
  obtain ⟨k, j, Av, cv, rs, hk, HJK, hjm, rfl, HG, HZ, HX, HW⟩ := hrel
  by_cases hlt : j + 1 < m
  ·have hkl : k < l.length := by have h1 := HJK.out; have h2 := HM.out; omega
   have HJM : Hid (m ≤ 2000 ∧ j + 1 < m) := Lib.hid ⟨hm2, hlt⟩
   obtain ⟨nm, y, hy⟩ : ∃ nm y, l[k]? = some (nm, y) := ⟨l[k].1, l[k].2, List.getElem?_eq_getElem hkl⟩
   go_wp2_with fail
   refine wp_region_any (by kernel_rfl) ?_
   change wpAny _ _ _ _ _ _ _ (World.drew _)
   have hbd : Below wr.heap.size wr wr.drew := below_drewN (Below.refl _ _) 1
   have HG1 := Lib.hid (HG.out.next kept_M hbd)
   have HZ1 := Lib.hid (HZ.out.next hbd)
   have HX1 := Lib.hid (HX.out.next hbd)
   have hwsz : N ≤ wr.heap.size := by have := HX.out.lt; omega
   have HW1 : Hid (Below N w wr.drew) := Lib.hid (HW.out.trans (hbd.mono hwsz))
   obtain ⟨g, o, us, hA1, hg, a1, a2, hj⟩ := HAA.out wr.drew (by rw [HN.out]; exact HW1.out) k nm y hy
   subst hA1
   rw [← HJK.out] at a1 a2
   obtain ⟨A7, c7, A8, c8, k1, b1, n1, t1, l7, l8, rfl⟩ := hj.shape
   have hs5 : wr.drew.cell? ⟨N + 1, 5, none⟩ = some (.slice Av k cv) := HX1.out.cells.2.2.2.2.2
   have HS := Lib.hid (show (fun W => W.cell? ⟨N + 1, 5, none⟩ = some (.slice Av k cv) ∧ W.cell? ⟨g, o + j, none⟩ = some (.iface 9 (.string (str nm))) ∧ W.cell? ⟨g, o + (j + 1), none⟩ = some (.iface 25 (.agg #[.int .i64 k1, .bool b1, .int .i64 n1, .string t1, .slice A7 l7 c7, .slice A8 l8 c8]))) wr.drew from ⟨hs5, a1, a2⟩)
   have HJ := Lib.hid hj
   have HY := Lib.hid hy
   have HGL := Lib.hid hg
   have HKL : Hid (k + 1 ≤ l.length) := Lib.hid hkl
   clear hkl
   clear hbd HG HZ HX HW a1 a2 hs5 hj hy hwsz hg
   generalize wr.drew = W at HG1 HZ1 HX1 HW1 HS HJ HGL ⊢
   refine wpAny_of_till (S := fun W => W.cell? ⟨N + 1, 5, none⟩ = some (.slice Av k cv) ∧ W.cell? ⟨g, o + j, none⟩ = some (.iface 9 (.string (str nm))) ∧ W.cell? ⟨g, o + (j + 1), none⟩ = some (.iface 25 (.agg #[.int .i64 k1, .bool b1, .int .i64 n1, .string t1, .slice A7 l7 c7, .slice A8 l8 c8]))) (st := (fun l => l.getD 15 false)) _ _ _ _ ?_
   change wpTill _ _ _ _ _ _ _ #[false, false, false, false, false, false, false, false, false, false, false, false, false, false, false, false, false, false] _ _
   refine tkF 0 (.pointer (some ⟨N + 1, 5, none⟩)) rfl ?yb0 (fun _ => HS.out) ?_
   case yb0 => (intro W0 _; go_simp; (try with_reducible rfl))
   simp only [Act.put, CL]
   refine tk 1 (.slice Av k cv) rfl (fun l h h9 => (Shutd.step h (j := 15) (k := 1) (by kernel_rfl) h9)) (Or.inl ⟨by rfl, ?yb1⟩) HS.out (fun _ => ?_)
   case yb1 => (intro W0 hS; obtain ⟨s1, s2, s3⟩ := hS; go_simp; (try with_reducible rfl))
   simp only [Act.put, CL]
   refine tkF 2 (.slice (some ⟨g, o, none⟩) m c) rfl ?yb2 (fun _ => HS.out) ?_
   case yb2 => (intro W0 _; go_simp; (try with_reducible rfl))
   simp only [Act.put, CL]
   refine tkF 3 (.int .i64 (j : Int)) rfl ?yb3 (fun _ => HS.out) ?_
   case yb3 => (intro W0 _; go_simp; (try with_reducible rfl))
   simp only [Act.put, CL]
   refine tkF 4 (.pointer (some ⟨g, o + j, none⟩)) rfl ?yb4 (fun _ => HS.out) ?_
   case yb4 => (intro W0 _; have h9 : j < m := (by have := HJM.out; omega); go_simp; (try with_reducible rfl))
   simp only [Act.put, CL]
   refine tk 5 (.iface 9 (.string (str nm))) rfl (fun l h h9 => (Shutd.step h (j := 6) (k := 5) (by kernel_rfl) (Shutd.step h (j := 13) (k := 6) (by kernel_rfl) (Shutd.step h (j := 14) (k := 13) (by kernel_rfl) (Shutd.step h (j := 15) (k := 14) (by kernel_rfl) h9))))) (Or.inl ⟨by rfl, ?yb5⟩) HS.out (fun _ => ?_)
   case yb5 => (intro W0 hS; obtain ⟨s1, s2, s3⟩ := hS; go_simp; (try with_reducible rfl))
   simp only [Act.put, CL]
   refine tkF 6 (.string (str nm)) rfl ?yb6 (fun _ => HS.out) ?_
   case yb6 => (intro W0 _; have h7 := assert9 (str nm); go_simp; (try with_reducible rfl))
   simp only [Act.put, CL]
   refine tkF 7 (.slice (some ⟨g, o, none⟩) m c) rfl ?yb7 (fun _ => HS.out) ?_
   case yb7 => (intro W0 _; go_simp; (try with_reducible rfl))
   simp only [Act.put, CL]
   refine tkF 8 (.int .i64 (j : Int)) rfl ?yb8 (fun _ => HS.out) ?_
   case yb8 => (intro W0 _; go_simp; (try with_reducible rfl))
   simp only [Act.put, CL]
   refine tkF 9 (.int .i64 ((j + 1 : Nat) : Int)) rfl ?yb9 (fun _ => HS.out) ?_
   case yb9 => (intro W0 _; have h7 : IntKind.i64.wrap ((j : Int) + 1) = (j : Int) + 1 := (by have := HJM.out; unfold IntKind.wrap; simp [go_sem]; omega); go_simp; (try with_reducible rfl))
   simp only [Act.put, CL]
   refine tkF 10 (.pointer (some ⟨g, o + (j + 1), none⟩)) rfl ?yb10 (fun _ => HS.out) ?_
   case yb10 => (intro W0 _; have h7 : (0 : Int) ≤ (j : Int) + 1 := (by omega); have h8 : ((j : Int) + 1).toNat = j + 1 := (by omega); have h9 : j + 1 < m := HJM.out.2; go_simp; (try with_reducible rfl))
   simp only [Act.put, CL]
   refine tk 11 (.iface 25 (.agg #[.int .i64 k1, .bool b1, .int .i64 n1, .string t1, .slice A7 l7 c7, .slice A8 l8 c8])) rfl (fun l h h9 => (Shutd.step h (j := 12) (k := 11) (by kernel_rfl) (Shutd.step h (j := 13) (k := 12) (by kernel_rfl) (Shutd.step h (j := 14) (k := 13) (by kernel_rfl) (Shutd.step h (j := 15) (k := 14) (by kernel_rfl) h9))))) (Or.inl ⟨by rfl, ?yb11⟩) HS.out (fun _ => ?_)
   case yb11 => (intro W0 hS; obtain ⟨s1, s2, s3⟩ := hS; go_simp; (try with_reducible rfl))
   simp only [Act.put, CL]
   refine tkF 12 (.agg #[.int .i64 k1, .bool b1, .int .i64 n1, .string t1, .slice A7 l7 c7, .slice A8 l8 c8]) rfl ?yb12 (fun _ => HS.out) ?_
   case yb12 => (intro W0 _; have h7 := assert25 (.agg #[.int .i64 k1, .bool b1, .int .i64 n1, .string t1, .slice A7 l7 c7, .slice A8 l8 c8]); go_simp; (try with_reducible rfl))
   simp only [Act.put, CL]
   refine tkF 13 (.agg #[.string (str nm), .int .i64 k1, .bool b1, .int .i64 n1, .string t1, .slice A7 l7 c7, .slice A8 l8 c8]) rfl ?yb13 (fun _ => HS.out) ?_
   case yb13 => (intro W0 _; go_simp; (try with_reducible rfl))
   simp only [Act.put, CL]
   refine rdy 14 rfl (fun KK hKK => ?_)
   go_simp
   have hal := below_box W (.cells #[.string (str nm), .int .i64 k1, .bool b1, .int .i64 n1, .string t1, .slice A7 l7 c7, .slice A8 l8 c8] 89)
   have HQ := Lib.hid (heap_alloc_new W (.cells #[.string (str nm), .int .i64 k1, .bool b1, .int .i64 n1, .string t1, .slice A7 l7 c7, .slice A8 l8 c8] 89))
   have HG2 := Lib.hid (HG1.out.next kept_M hal)
   have HZ2 := Lib.hid (HZ1.out.next hal)
   have HX2 := Lib.hid (HX1.out.next hal)
   have HW2 := Lib.hid (HW1.out.trans (hal.mono (by have := HX1.out.lt; omega)))
   have HJ2 := Lib.hid (HJ.out.next hal)
   have HS2 : Hid ((fun W => W.cell? ⟨N + 1, 5, none⟩ = some (.slice Av k cv) ∧ W.cell? ⟨g, o + j, none⟩ = some (.iface 9 (.string (str nm))) ∧ W.cell? ⟨g, o + (j + 1), none⟩ = some (.iface 25 (.agg #[.int .i64 k1, .bool b1, .int .i64 n1, .string t1, .slice A7 l7 c7, .slice A8 l8 c8]))) (W.alloc (.cells #[.string (str nm), .int .i64 k1, .bool b1, .int .i64 n1, .string t1, .slice A7 l7 c7, .slice A8 l8 c8] 89))) := Lib.hid ⟨hal.cell (p := ⟨N + 1, 5, none⟩) HX1.out.lt |>.trans HS.out.1, hal.cell (p := ⟨g, o + j, none⟩) HGL.out |>.trans HS.out.2.1, hal.cell (p := ⟨g, o + (j + 1), none⟩) HGL.out |>.trans HS.out.2.2⟩
   clear hal
   generalize (W.alloc (.cells #[.string (str nm), .int .i64 k1, .bool b1, .int .i64 n1, .string t1, .slice A7 l7 c7, .slice A8 l8 c8] 89)) = W2 at HQ HG2 HZ2 HX2 HW2 HJ2 HS2 ⊢
   obtain ⟨M, hM⟩ : ∃ M, W.heap.size = M := ⟨_, rfl⟩
   rw [hM] at HQ ⊢
   clear hM HG1 HZ1 HX1 HW1 HJ HS HGL
   refine hKK _ _ (fun _ => HS2.out) ?_
   clear hKK KK
   simp only [Act.put, CL]
   refine rdy 15 rfl (fun KK hKK => ?_)
   obtain ⟨i0, hi, hz0, hz1, hz2⟩ := info_parts info89
   have hlk : (l.take k).length = k := by rw [List.length_take]; have := HKL.out; omega
   have hown := HG2.out.own.own
   rw [hlk] at hown
   refine wp_append_lies W2 (.tmp 14) (.tmp 27) 23 rfl (N + 2) 89 i0 (.agg #[.string ⟨#[]⟩, .int .i64 0, .bool false, .int .i64 0, .string ⟨#[]⟩, .slice none 0 0, .slice none 0 0]) 7 104 Tryz.underlying23 hi hz0 hz1 hz2 rfl (by decide) (.slice Av k cv) k rs.flatten rfl hown ⟨M, 0, none⟩ 1 1 [.string (str nm), .int .i64 k1, .bool b1, .int .i64 n1, .string t1, .slice A7 l7 c7, .slice A8 l8 c8] rfl rfl (World.news_of_block HQ.out) (by intro u hu; simp at hu; rcases hu with rfl | rfl | rfl | rfl | rfl | rfl | rfl <;> rfl) (by decide) (by unfold maxLen; omega) (by omega) HG2.out.own.le W2.heap.size rfl ?_
   intro g9 cap W3 hown3 hgrow hat3 hlt3
   have hNo : ∀ j, j < N + 2 → j ∉ (Value.slice Av k cv).ownBlock.toList := by
    intro j hj hm
    have hm : (Value.slice Av k cv).ownBlock = some j := by simpa using hm
    have := (HG2.out.own.lt j hm).1
    omega
   obtain ⟨hG3, hk3⟩ := HG2.out.push kept_M (x := (nm, y)) (vs := [.string (str nm), .int .i64 k1, .bool b1, .int .i64 n1, .string t1, .slice A7 l7 c7, .slice A8 l8 c8]) ⟨_, rfl, HJ2.out.wide (fun g hg _ => ⟨hg, fun e => by have h1 := (HG2.out.own.lt g e).1; have h2 := HSS.out g hg; rw [HN.out] at h2; omega⟩)⟩ (by rw [hlk]; exact hown3) hgrow hat3
   rw [hlk] at hG3
   have htk : l.take k ++ [(nm, y)] = l.take (k + 1) := by rw [List.take_add_one, HY.out]; rfl
   rw [htk] at hG3
   have HG3 := Lib.hid hG3
   have HZ3 : Hid (JBox W3 N _ _ _ _ _ _) := Lib.hid (HZ2.out.but hk3 (hNo N (by omega)))
   have HX3 : Hid (JBox W3 (N + 1) _ _ _ _ _ _) := Lib.hid (HX2.out.but hk3 (hNo (N + 1) (by omega)))
   have HW3 : Hid (Below N w W3) := Lib.hid (HW2.out.trans (hk3.to (by have := HX2.out.lt; omega) (by
    intro j hj
    have hm : (Value.slice Av k cv).ownBlock = some j := by simpa using hj
    have := (HG2.out.own.lt j hm).1
    omega)))
   clear hG3 hk3 hNo hgrow hown3 hown htk hat3 hlt3 hi hz0 hz1 hz2 hlk HG2 HZ2 HX2 HW2 HJ2 HS2 HQ
   refine hKK _ _ (fun h0 => absurd h0 (by decide)) ?_
   clear hKK KK
   simp only [Act.put, CL]
   refine tkF 16 (.pointer (some ⟨N + 1, 5, none⟩)) rfl ?yb16 (fun h0 => absurd h0 (by decide)) ?_
   case yb16 => (intro W0 _; go_simp; (try with_reducible rfl))
   simp only [Act.put, CL]
   refine rdy 17 rfl (fun KK hKK => ?_)
   obtain ⟨hk4, hx4⟩ := but_set (i := 5) (.slice (some ⟨g9, 0, none⟩) (k + 1) cap) HX3.out
   have HG4 : Hid (Gr 89 7 RM S (N + 2) (l.take (k + 1)) (.slice (some ⟨g9, 0, none⟩) (k + 1) cap) (rs ++ [[.string (str nm), .int .i64 k1, .bool b1, .int .i64 n1, .string t1, .slice A7 l7 c7, .slice A8 l8 c8]]) (W3.setCell ⟨N + 1, 5, none⟩ (.slice (some ⟨g9, 0, none⟩) (k + 1) cap))) := Lib.hid (HG3.out.but kept_M hk4 (by intro j hj; simp at hj; omega) (by intro j hj; simp at hj; subst hj; intro h; have h2 := HSS.out _ h; rw [HN.out] at h2; omega))
   have HZ4 : Hid (JBox (W3.setCell ⟨N + 1, 5, none⟩ (.slice (some ⟨g9, 0, none⟩) (k + 1) cap)) N _ _ _ _ _ _) := Lib.hid (HZ3.out.but hk4 (by simp))
   have HX4 : Hid (JBox (W3.setCell ⟨N + 1, 5, none⟩ (.slice (some ⟨g9, 0, none⟩) (k + 1) cap)) (N + 1) (.int .i64 6) (.bool false) (.int .i64 0) (.string ⟨#[]⟩) (.slice none 0 0) (.slice (some ⟨g9, 0, none⟩) (k + 1) cap)) := Lib.hid hx4
   have HW4 := Lib.hid (HW3.out.trans (hk4.to (by have := HX3.out.lt; omega) (by intro j hj; simp at hj; omega)))
   obtain ⟨x0, x1, x2, x3, x4, x5⟩ := HX3.out.cells
   obtain ⟨f0, f1, f2, f3, f4, f5⟩ := HX3.out.frees
   clear hk4 hx4
   go_simp
   clear x0 x1 x2 x3 x4 x5 f0 f1 f2 f3 f4 f5
   refine hKK _ _ (fun h0 => absurd h0 (by decide)) ?_
   clear hKK KK
   simp only [Act.put, CL]
   refine wpTill_done (by kernel_rfl) ?_ _
   (try simp only [Exit.then])
   go_wp2_with fail
   go_roundw
   case rel => exact ⟨k + 1, j + 2, _, _, _, HKL.out, Lib.hid (by have := HJK.out; omega), by omega, by go_num, HG4, HZ4, HX4, HW4⟩
   case measure => simp [intOf]; omega
  ·obtain rfl : k = l.length := by have h1 := HJK.out; have h2 := HM.out; omega
   have hdc : decide ((j : Int) + 1 < (m : Int)) = false := by simp; omega
   clear hlt
   obtain ⟨x0, x1, x2, x3, x4, x5⟩ := HX.out.cells
   obtain ⟨z0, z1, z2, z3, z4, z5⟩ := HZ.out.cells
   obtain ⟨f0, f1, f2, f3, f4, f5⟩ := HZ.out.frees
   obtain ⟨hk9, hx9⟩ := j25_set (.int .i64 6) (.bool false) (.int .i64 0) (.string ⟨#[]⟩) (.slice none 0 0) (.slice Av l.length cv) HZ.out
   have HK9 := Lib.hid hk9
   have HX9 := Lib.hid hx9
   have HV : Hid (JV wr (fun g => S g ∨ N + 2 ≤ g) (.mk 6 false 0 [] [] l) [.int .i64 6, .bool false, .int .i64 0, .string ⟨#[]⟩, .slice none 0 0, .slice Av l.length cv]) := Lib.hid (by
    have h1 := HG.out.obj 6 false 0 []
    rw [List.take_length] at h1
    exact h1)
   clear hk9 hx9
   go_wp2_with fail
   refine bodyPost_ret (results_row1 rfl _ _ _ N #[.int .i64 6, .bool false, .int .i64 0, .string ⟨#[]⟩, .slice none 0 0, .slice Av l.length cv] rfl (j25_load HX9.out)) rfl ?_
   rw [HN.out]
   refine ⟨HW.out.trans (HK9.out.to (by have := HX.out.lt; omega) (by intro j hj; simp at hj; omega)), Av, cv, rfl, ?_⟩
   exact (HV.out.but HK9.out (by intro j hj; simp at hj; subst hj; intro h; rcases h with h | h; have h2 := HSS.out _ h; rw [HN.out] at h2; omega; omega)).wide (fun g hg _ => hg.imp id (fun h => by omega))
end Go.Proofs.YtimioelnnhnbiaaGreatDoor
namespace Go.Proofs.YtimioelnnhnbiaaGreatDoor
open Go.RowKit
def ofP (x : Js.J) (nm : Js.Bs) : Js.J := (Js.getOf x nm).getD Js.zero
theorem jv_open {w : World} {S : Nat → Prop} {x : Js.J} {vs : List Value} (h : JV w S x vs) : ∃ A c A' c', vs = [.int .i64 x.kind, .bool x.bool, .int .i64 x.num, .string (str x.text), .slice A x.items.length c, .slice A' x.members.length c'] ∧ x.items.length ≤ c ∧ JL w S A 0 x.items ∧ JM w S A' 0 x.members := by
 obtain ⟨k, b, n, t, l, m⟩ := x
 unfold JV at h
 obtain ⟨A, c, A', c', rfl, h1, _, h2, h3⟩ := h
 exact ⟨A, c, A', c', rfl, h1, h2, h3⟩
theorem getOut_of {S : Nat → Prop} {w w' : World} {x : Js.J} {nm : Js.Bs} {e : Ending} (h : GetOut S w x nm e w') : Below w.heap.size w w' ∧ ∃ (q : Bool) (us : List Value), e = .returned (.tuple #[.agg us.toArray, .bool q]) ∧ JV w' S (ofP x nm) us := by
 unfold GetOut at h
 unfold ofP
 obtain ⟨g, hg⟩ : ∃ g, Js.getOf x nm = g := ⟨_, rfl⟩
 rw [hg] at h ⊢
 cases g with
 | none => exact ⟨h.1, false, _, h.2, JV.leaf w' S 0 false 0 []⟩
 | some z =>
  obtain ⟨hb, us, he, hj⟩ := h
  exact ⟨hb, true, us, he, hj⟩
set_option maxRecDepth 100000 in
set_option maxHeartbeats 8000000 in
theorem of_any (x : Js.J) (nm : Js.Bs) (vs : List Value) (S : Nat → Prop) (w : World) (hjv : JV w S x vs) (hSw : ∀ g, S g → g < w.heap.size) (hn : Js.nodes x ≤ 1073741824) :
  Calls Tryz.prog 20 #[.agg vs.toArray, .string (str nm)] w fun e w' => Below w.heap.size w w' ∧ ∃ us, e = .returned (.agg us.toArray) ∧ JV w' S (ofP x nm) us := by
 have HJ := Lib.hid hjv
 have HSS := Lib.hid hSw
 obtain ⟨A5, c5, A6, c6, k0, b0, n0, t0, l5, l6, rfl⟩ := hjv.shape
 have b1 := below_box w (.cells #[.int .i64 k0, .bool b0, .int .i64 n0, .string t0, .slice A5 l5 c5, .slice A6 l6 c6] 25)
 have s1 : (w.alloc (.cells #[.int .i64 k0, .bool b0, .int .i64 n0, .string t0, .slice A5 l5 c5, .slice A6 l6 c6] 25)).heap.size = w.heap.size + 1 := by simp
 have e1 : JBox _ _ _ _ _ _ _ _ := heap_alloc_new w (.cells #[.int .i64 k0, .bool b0, .int .i64 n0, .string t0, .slice A5 l5 c5, .slice A6 l6 c6] 25)
 have b2 := below_box (w.alloc (.cells #[.int .i64 k0, .bool b0, .int .i64 n0, .string t0, .slice A5 l5 c5, .slice A6 l6 c6] 25)) (.cells #[.int .i64 0, .bool false, .int .i64 0, .string ⟨#[]⟩, .slice none 0 0, .slice none 0 0] 25)
 have e2 : JBox _ _ _ _ _ _ _ _ := heap_alloc_new (w.alloc (.cells #[.int .i64 k0, .bool b0, .int .i64 n0, .string t0, .slice A5 l5 c5, .slice A6 l6 c6] 25)) (.cells #[.int .i64 0, .bool false, .int .i64 0, .string ⟨#[]⟩, .slice none 0 0, .slice none 0 0] 25)
 rw [s1] at e2
 have HE1 := Lib.hid (e1.next b2)
 have HE2 := Lib.hid e2
 have HJ2 := Lib.hid ((HJ.out.next b1).next b2)
 have HW2 := Lib.hid (b1.trans (b2.mono (by rw [s1]; omega)))
 clear b1 b2 e1 e2 s1 HJ hSw hjv
 go_enter Tryz.func20, Tryz.ntmps20
 go_upto_region 1 with fail
 generalize ((w.alloc (.cells #[.int .i64 k0, .bool b0, .int .i64 n0, .string t0, .slice A5 l5 c5, .slice A6 l6 c6] 25)).alloc (.cells #[.int .i64 0, .bool false, .int .i64 0, .string ⟨#[]⟩, .slice none 0 0, .slice none 0 0] 25)) = w2 at HE1 HE2 HJ2 HW2 ⊢
 obtain ⟨x0, x1, x2, x3, x4, x5⟩ := HE1.out.cells
 go_wp2_with fail
 refine (get_any x nm _ S w2 HJ2.out (fun g hg => Nat.lt_of_lt_of_le (HSS.out g hg) HW2.out.size) hn).mono ?_
 intro e w3 hO
 obtain ⟨hb3, q, us, rfl, hju⟩ := getOut_of hO
 clear hO
 obtain ⟨C5, d5, C6, d6, k9, b9, n9, t9, m5, m6, rfl⟩ := hju.shape
 have b4 := below_box w3 (.cells #[.int .i64 k9, .bool b9, .int .i64 n9, .string t9, .slice C5 m5 d5, .slice C6 m6 d6] 25)
 have e4 : JBox _ _ _ _ _ _ _ _ := heap_alloc_new w3 (.cells #[.int .i64 k9, .bool b9, .int .i64 n9, .string t9, .slice C5 m5 d5, .slice C6 m6 d6] 25)
 have HE4 := Lib.hid e4
 have HB4 := Lib.hid ((HE2.out.next hb3).next b4)
 have HJ4 := Lib.hid (hju.next b4)
 have HW4 := Lib.hid ((HW2.out.trans (hb3.mono HW2.out.size)).trans (b4.mono (Nat.le_trans HW2.out.size hb3.size)))
 clear hb3 b4 e4 hju HJ2 HE1 HE2 HW2 x0 x1 x2 x3 x4 x5
 go_upto_region 2 with fail
 generalize (w3.alloc (.cells #[.int .i64 k9, .bool b9, .int .i64 n9, .string t9, .slice C5 m5 d5, .slice C6 m6 d6] 25)) = w4 at HE4 HB4 HJ4 HW4 ⊢
 generalize w3.heap.size = P at HE4 ⊢
 obtain ⟨x0, x1, x2, x3, x4, x5⟩ := HE4.out.cells
 obtain ⟨z0, z1, z2, z3, z4, z5⟩ := HB4.out.cells
 obtain ⟨f0, f1, f2, f3, f4, f5⟩ := HB4.out.frees
 obtain ⟨hk, hx⟩ := j25_set (.int .i64 k9) (.bool b9) (.int .i64 n9) (.string t9) (.slice C5 m5 d5) (.slice C6 m6 d6) HB4.out
 have HK := Lib.hid hk
 have HX := Lib.hid hx
 clear hk hx
 go_wp2_with fail
 refine bodyPost_ret (results_row1 rfl _ _ _ (w.heap.size + 1) #[.int .i64 k9, .bool b9, .int .i64 n9, .string t9, .slice C5 m5 d5, .slice C6 m6 d6] rfl (j25_load HX.out)) rfl ?_
 refine ⟨HW4.out.trans (HK.out.to HW4.out.size (by intro j hj; simp at hj; omega)), _, rfl, ?_⟩
 exact HJ4.out.but HK.out (by intro j hj; simp at hj; subst hj; intro hS'; exact absurd (HSS.out _ hS') (by omega))
theorem fld1 : ∀ (a : Int) (b : Bool) (c : Int) (d : ByteArray) (A : Option Addr) (l x : Nat) (A' : Option Addr) (l' x' : Nat) (w : World), (Instr.field 25 (.agg #[.int .i64 a, .bool b, .int .i64 c, .string d, .slice A l x, .slice A' l' x']) 1).run Tryz.prog w = .ok (.bool b) w := fun _ _ _ _ _ _ _ _ _ _ _ => by kernel_rfl
theorem fld2 : ∀ (a : Int) (b : Bool) (c : Int) (d : ByteArray) (A : Option Addr) (l x : Nat) (A' : Option Addr) (l' x' : Nat) (w : World), (Instr.field 25 (.agg #[.int .i64 a, .bool b, .int .i64 c, .string d, .slice A l x, .slice A' l' x']) 2).run Tryz.prog w = .ok (.int .i64 c) w := fun _ _ _ _ _ _ _ _ _ _ _ => by kernel_rfl
theorem fld3 : ∀ (a : Int) (b : Bool) (c : Int) (d : ByteArray) (A : Option Addr) (l x : Nat) (A' : Option Addr) (l' x' : Nat) (w : World), (Instr.field 25 (.agg #[.int .i64 a, .bool b, .int .i64 c, .string d, .slice A l x, .slice A' l' x']) 3).run Tryz.prog w = .ok (.string d) w := fun _ _ _ _ _ _ _ _ _ _ _ => by kernel_rfl
theorem fld4 : ∀ (a : Int) (b : Bool) (c : Int) (d : ByteArray) (A : Option Addr) (l x : Nat) (A' : Option Addr) (l' x' : Nat) (w : World), (Instr.field 25 (.agg #[.int .i64 a, .bool b, .int .i64 c, .string d, .slice A l x, .slice A' l' x']) 4).run Tryz.prog w = .ok (.slice A l x) w := fun _ _ _ _ _ _ _ _ _ _ _ => by kernel_rfl
def FieldC (f : Nat) (v : Js.J → Value) : Prop := ∀ (x : Js.J) (nm : Js.Bs) (vs : List Value) (S : Nat → Prop) (w : World), JV w S x vs → (∀ g, S g → g < w.heap.size) → Js.nodes x ≤ 1073741824 →
  Calls Tryz.prog f #[.agg vs.toArray, .string (str nm)] w fun e w' => e = .returned (v (ofP x nm)) ∧ Below w.heap.size w w'
set_option maxRecDepth 100000 in
set_option maxHeartbeats 8000000 in
theorem num_any : FieldC 21 fun y => .int .i64 y.num := by
 intro x nm vs S w hjv hSw hn
 have HJ := Lib.hid hjv
 have HSS := Lib.hid hSw
 obtain ⟨A5, c5, A6, c6, k0, b0, n0, t0, l5, l6, rfl⟩ := hjv.shape
 have b1 := below_box w (.cells #[.int .i64 k0, .bool b0, .int .i64 n0, .string t0, .slice A5 l5 c5, .slice A6 l6 c6] 25)
 have e1 : JBox _ _ _ _ _ _ _ _ := heap_alloc_new w (.cells #[.int .i64 k0, .bool b0, .int .i64 n0, .string t0, .slice A5 l5 c5, .slice A6 l6 c6] 25)
 have HE1 := Lib.hid e1
 have HJ1 := Lib.hid (HJ.out.next b1)
 have HW1 := Lib.hid b1
 clear b1 e1 HJ hSw hjv
 go_enter Tryz.func21, Tryz.ntmps21
 go_upto_region 1 with fail
 generalize (w.alloc (.cells #[.int .i64 k0, .bool b0, .int .i64 n0, .string t0, .slice A5 l5 c5, .slice A6 l6 c6] 25)) = w1 at HE1 HJ1 HW1 ⊢
 obtain ⟨x0, x1, x2, x3, x4, x5⟩ := HE1.out.cells
 go_wp2_with fail
 refine (of_any x nm _ S w1 HJ1.out (fun g hg => Nat.lt_of_lt_of_le (HSS.out g hg) HW1.out.size) hn).mono ?_
 rintro e w2 ⟨hb2, us, rfl, hju⟩
 obtain ⟨C5, d5, C6, d6, rfl, -, -, -⟩ := jv_open hju
 have HW2 := Lib.hid (HW1.out.trans (hb2.mono HW1.out.size))
 clear hju hb2 HJ1 HE1 HW1 x0 x1 x2 x3 x4 x5
 have hfl := fld2
 go_wp2_with fail
 go_ret
 exact ⟨rfl, HW2.out⟩
set_option maxRecDepth 100000 in
set_option maxHeartbeats 8000000 in
theorem str_any : FieldC 22 fun y => .string (str y.text) := by
 intro x nm vs S w hjv hSw hn
 have HJ := Lib.hid hjv
 have HSS := Lib.hid hSw
 obtain ⟨A5, c5, A6, c6, k0, b0, n0, t0, l5, l6, rfl⟩ := hjv.shape
 have b1 := below_box w (.cells #[.int .i64 k0, .bool b0, .int .i64 n0, .string t0, .slice A5 l5 c5, .slice A6 l6 c6] 25)
 have e1 : JBox _ _ _ _ _ _ _ _ := heap_alloc_new w (.cells #[.int .i64 k0, .bool b0, .int .i64 n0, .string t0, .slice A5 l5 c5, .slice A6 l6 c6] 25)
 have HE1 := Lib.hid e1
 have HJ1 := Lib.hid (HJ.out.next b1)
 have HW1 := Lib.hid b1
 clear b1 e1 HJ hSw hjv
 go_enter Tryz.func22, Tryz.ntmps22
 go_upto_region 1 with fail
 generalize (w.alloc (.cells #[.int .i64 k0, .bool b0, .int .i64 n0, .string t0, .slice A5 l5 c5, .slice A6 l6 c6] 25)) = w1 at HE1 HJ1 HW1 ⊢
 obtain ⟨x0, x1, x2, x3, x4, x5⟩ := HE1.out.cells
 go_wp2_with fail
 refine (of_any x nm _ S w1 HJ1.out (fun g hg => Nat.lt_of_lt_of_le (HSS.out g hg) HW1.out.size) hn).mono ?_
 rintro e w2 ⟨hb2, us, rfl, hju⟩
 obtain ⟨C5, d5, C6, d6, rfl, -, -, -⟩ := jv_open hju
 have HW2 := Lib.hid (HW1.out.trans (hb2.mono HW1.out.size))
 clear hju hb2 HJ1 HE1 HW1 x0 x1 x2 x3 x4 x5
 have hfl := fld3
 go_wp2_with fail
 go_ret
 exact ⟨rfl, HW2.out⟩
def NumC (f : Nat) : Prop := ∀ (x : Js.J) (vs : List Value) (S : Nat → Prop) (w : World), JV w S x vs → Calls Tryz.prog f #[.agg vs.toArray] w fun e w' => e = .returned (.int .i64 x.num) ∧ Below w.heap.size w w'
set_option maxRecDepth 100000 in
set_option maxHeartbeats 8000000 in
theorem ask1_any : NumC 27 := by
 intro x vs S w hjv
 obtain ⟨C5, d5, C6, d6, rfl, -, -, -⟩ := jv_open hjv
 clear hjv
 generalize x.kind = k0
 generalize x.bool = b0
 generalize x.num = n0
 generalize str x.text = t0
 generalize x.items.length = l5
 generalize x.members.length = l6
 have b1 := below_box w (.cells #[.int .i64 k0, .bool b0, .int .i64 n0, .string t0, .slice C5 l5 d5, .slice C6 l6 d6] 25)
 have e1 : JBox _ _ _ _ _ _ _ _ := heap_alloc_new w (.cells #[.int .i64 k0, .bool b0, .int .i64 n0, .string t0, .slice C5 l5 d5, .slice C6 l6 d6] 25)
 have HE1 := Lib.hid e1
 have HW1 := Lib.hid b1
 clear b1 e1
 go_enter Tryz.func27, Tryz.ntmps27
 go_upto_region 1 with fail
 generalize (w.alloc (.cells #[.int .i64 k0, .bool b0, .int .i64 n0, .string t0, .slice C5 l5 d5, .slice C6 l6 d6] 25)) = w1 at HE1 HW1 ⊢
 obtain ⟨x0, x1, x2, x3, x4, x5⟩ := HE1.out.cells
 go_wp2_with fail
 go_ret
 exact ⟨rfl, HW1.out⟩
set_option maxRecDepth 100000 in
set_option maxHeartbeats 8000000 in
theorem ask2_any : NumC 29 := by
 intro x vs S w hjv
 obtain ⟨C5, d5, C6, d6, rfl, -, -, -⟩ := jv_open hjv
 clear hjv
 generalize x.kind = k0
 generalize x.bool = b0
 generalize x.num = n0
 generalize str x.text = t0
 generalize x.items.length = l5
 generalize x.members.length = l6
 have b1 := below_box w (.cells #[.int .i64 k0, .bool b0, .int .i64 n0, .string t0, .slice C5 l5 d5, .slice C6 l6 d6] 25)
 have e1 : JBox _ _ _ _ _ _ _ _ := heap_alloc_new w (.cells #[.int .i64 k0, .bool b0, .int .i64 n0, .string t0, .slice C5 l5 d5, .slice C6 l6 d6] 25)
 have HE1 := Lib.hid e1
 have HW1 := Lib.hid b1
 clear b1 e1
 go_enter Tryz.func29, Tryz.ntmps29
 go_upto_region 1 with fail
 generalize (w.alloc (.cells #[.int .i64 k0, .bool b0, .int .i64 n0, .string t0, .slice C5 l5 d5, .slice C6 l6 d6] 25)) = w1 at HE1 HW1 ⊢
 obtain ⟨x0, x1, x2, x3, x4, x5⟩ := HE1.out.cells
 go_wp2_with fail
 go_ret
 exact ⟨rfl, HW1.out⟩
end Go.Proofs.YtimioelnnhnbiaaGreatDoor
