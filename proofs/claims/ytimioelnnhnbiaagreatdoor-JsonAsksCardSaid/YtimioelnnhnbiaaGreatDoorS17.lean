/-
  Joined: ZJ ZE.
-/
import Derived.Test.YtimioelnnhnbiaaGreatDoorS16
import Derived.Test.YtimioelnnhnbiaaGreatDoorS13
import Derived.Test.YtimioelnnhnbiaaGreatDoorS05
namespace Go.Proofs.YtimioelnnhnbiaaGreatDoor
open Go.RowKit
def withP (x : Js.J) (nm : Js.Bs) (v : Js.J) : Js.J := .mk 6 x.bool x.num x.text x.items (x.members ++ [(nm, v)])
theorem gr_keepS {T : Nat → Prop} {B : Nat} {acc : List (Js.Bs × Js.J)} {v : Value} {rs : List (List Value)} {w : World} (h : Gr 89 7 RM T B acc v rs w) {j : Nat} (hj : j < B) : j ∉ v.ownBlock.toList := by
 intro hm
 have hm : v.ownBlock = some j := by simpa using hm
 have := (h.own.lt j hm).1
 omega
set_option maxRecDepth 100000 in
set_option maxHeartbeats 8000000 in
theorem with_any (x : Js.J) (nm : Js.Bs) (v : Js.J) (vs us : List Value) (S : Nat → Prop) (w : World) (hjx : JV w S x vs) (hjv : JV w S v us) (hS : ∀ g, S g → g < w.heap.size) (hlen : x.members.length ≤ 1000000) :
  Calls Tryz.prog 37 #[.agg vs.toArray, .string (str nm), .agg us.toArray] w fun e w' => Below w.heap.size w w' ∧ ∃ ws, e = .returned (.agg ws.toArray) ∧ JV w' (fun g => S g ∨ w.heap.size ≤ g) (withP x nm v) ws := by
 obtain ⟨kx, b0, n0, tx, l, m⟩ := x
 have HSS := Lib.hid hS
 have HMM : Hid (∀ W, Below w.heap.size w W → JV W S (.mk kx b0 n0 tx l m) vs ∧ JV W S v us) := Lib.hid (fun W hW => ⟨hjx.next hW, hjv.next hW⟩)
 obtain ⟨A5, c5, A6, c6, e0, hlc, hil, him⟩ := jv_open hjx
 simp only [Js.J.kind, Js.J.bool, Js.J.num, Js.J.text, Js.J.items, Js.J.members] at e0 hlc hil him hlen
 subst e0
 obtain ⟨B5, d5, B6, d6, k9, b9, n9, t9, m5, m6, rfl⟩ := hjv.shape
 have HIL : Hid (∀ W, Below w.heap.size w W → JL W S A5 0 l ∧ JM W S A6 0 m ∧ JV W S v [.int .i64 k9, .bool b9, .int .i64 n9, .string t9, .slice B5 m5 d5, .slice B6 m6 d6]) := Lib.hid (fun W hW => ⟨JL.next hil hW, JM.next him hW, hjv.next hW⟩)
 have HLC : Hid (l.length ≤ c5) := Lib.hid hlc
 clear hjx hjv hil him hlc HMM hS
 obtain ⟨t0, ht0⟩ : ∃ t0, str tx = t0 := ⟨_, rfl⟩
 obtain ⟨l5, hl5⟩ : ∃ l5, l.length = l5 := ⟨_, rfl⟩
 obtain ⟨k0, hk0⟩ : ∃ k0 : Int, kx = k0 := ⟨_, rfl⟩
 rw [ht0, hl5, hk0]
 have HTL := Lib.hid (And.intro ht0 hl5)
 clear ht0 hl5 hk0
 have b1 := below_box w (.cells #[.int .i64 k0, .bool b0, .int .i64 n0, .string t0, .slice A5 l5 c5, .slice A6 m.length c6] 25)
 have s1 : (w.alloc (.cells #[.int .i64 k0, .bool b0, .int .i64 n0, .string t0, .slice A5 l5 c5, .slice A6 m.length c6] 25)).heap.size = w.heap.size + 1 := by simp
 have e1 : JBox _ _ _ _ _ _ _ _ := heap_alloc_new w (.cells #[.int .i64 k0, .bool b0, .int .i64 n0, .string t0, .slice A5 l5 c5, .slice A6 m.length c6] 25)
 have b2 := below_box (w.alloc (.cells #[.int .i64 k0, .bool b0, .int .i64 n0, .string t0, .slice A5 l5 c5, .slice A6 m.length c6] 25)) (.cells #[.int .i64 k9, .bool b9, .int .i64 n9, .string t9, .slice B5 m5 d5, .slice B6 m6 d6] 25)
 have s2 : ((w.alloc (.cells #[.int .i64 k0, .bool b0, .int .i64 n0, .string t0, .slice A5 l5 c5, .slice A6 m.length c6] 25)).alloc (.cells #[.int .i64 k9, .bool b9, .int .i64 n9, .string t9, .slice B5 m5 d5, .slice B6 m6 d6] 25)).heap.size = w.heap.size + 2 := by simp
 have e2 : JBox _ _ _ _ _ _ _ _ := heap_alloc_new (w.alloc (.cells #[.int .i64 k0, .bool b0, .int .i64 n0, .string t0, .slice A5 l5 c5, .slice A6 m.length c6] 25)) (.cells #[.int .i64 k9, .bool b9, .int .i64 n9, .string t9, .slice B5 m5 d5, .slice B6 m6 d6] 25)
 have b3 := below_box ((w.alloc (.cells #[.int .i64 k0, .bool b0, .int .i64 n0, .string t0, .slice A5 l5 c5, .slice A6 m.length c6] 25)).alloc (.cells #[.int .i64 k9, .bool b9, .int .i64 n9, .string t9, .slice B5 m5 d5, .slice B6 m6 d6] 25)) (.cells #[.int .i64 0, .bool false, .int .i64 0, .string ⟨#[]⟩, .slice none 0 0, .slice none 0 0] 25)
 have s3 : (((w.alloc (.cells #[.int .i64 k0, .bool b0, .int .i64 n0, .string t0, .slice A5 l5 c5, .slice A6 m.length c6] 25)).alloc (.cells #[.int .i64 k9, .bool b9, .int .i64 n9, .string t9, .slice B5 m5 d5, .slice B6 m6 d6] 25)).alloc (.cells #[.int .i64 0, .bool false, .int .i64 0, .string ⟨#[]⟩, .slice none 0 0, .slice none 0 0] 25)).heap.size = w.heap.size + 3 := by simp
 have e3 : JBox _ _ _ _ _ _ _ _ := heap_alloc_new ((w.alloc (.cells #[.int .i64 k0, .bool b0, .int .i64 n0, .string t0, .slice A5 l5 c5, .slice A6 m.length c6] 25)).alloc (.cells #[.int .i64 k9, .bool b9, .int .i64 n9, .string t9, .slice B5 m5 d5, .slice B6 m6 d6] 25)) (.cells #[.int .i64 0, .bool false, .int .i64 0, .string ⟨#[]⟩, .slice none 0 0, .slice none 0 0] 25)
 rw [s1] at e2
 rw [s2] at e3
 have HE1 := Lib.hid ((e1.next b2).next b3)
 have HE2 := Lib.hid (e2.next b3)
 have HE3 := Lib.hid e3
 have HW2 := Lib.hid ((b1.trans (b2.mono b1.size)).trans (b3.mono (Nat.le_trans b1.size b2.size)))
 have HS3 := Lib.hid s3
 clear b1 s1 e1 b2 e2 s2 b3 s3 e3
 go_enter Tryz.func37, Tryz.ntmps37
 go_upto_region 1 with fail
 generalize (((w.alloc (.cells #[.int .i64 k0, .bool b0, .int .i64 n0, .string t0, .slice A5 l5 c5, .slice A6 m.length c6] 25)).alloc (.cells #[.int .i64 k9, .bool b9, .int .i64 n9, .string t9, .slice B5 m5 d5, .slice B6 m6 d6] 25)).alloc (.cells #[.int .i64 0, .bool false, .int .i64 0, .string ⟨#[]⟩, .slice none 0 0, .slice none 0 0] 25)) = w2 at HE1 HE2 HE3 HW2 HS3 ⊢
 obtain ⟨N, hN⟩ : ∃ N, w.heap.size = N := ⟨_, rfl⟩
 rw [hN] at HE1 HE2 HE3 HS3 ⊢
 have HN := Lib.hid hN
 clear hN
 obtain ⟨hk1, hx1⟩ := but_set (i := 0) (.int .i64 6) HE1.out
 have HX1 : Hid (JBox (w2.setCell ⟨N, 0, none⟩ (.int .i64 6)) N (.int .i64 6) (.bool b0) (.int .i64 n0) (.string t0) (.slice A5 l5 c5) (.slice A6 m.length c6)) := Lib.hid hx1
 have HV1 := Lib.hid (HE2.out.but hk1 (by simp))
 have HZ1 := Lib.hid (HE3.out.but hk1 (by simp))
 have HB1 : Hid (Below N w (w2.setCell ⟨N, 0, none⟩ (.int .i64 6))) := Lib.hid ((HN.out ▸ HW2.out).trans (hk1.to (by have := HE1.out.lt; omega) (by intro j hj; simp at hj; omega)))
 have HS4 : Hid ((w2.setCell ⟨N, 0, none⟩ (.int .i64 6)).heap.size = N + 3) := Lib.hid (by rw [← HS3.out]; exact Nat.le_antisymm (by simp [World.setCell]) hk1.size)
 obtain ⟨x0, x1, x2, x3, x4, x5⟩ := HE1.out.cells
 obtain ⟨f0, f1, f2, f3, f4, f5⟩ := HE1.out.frees
 clear hk1 hx1
 go_upto_region 2 with fail
 generalize (w2.setCell ⟨N, 0, none⟩ (.int .i64 6)) = w3 at HX1 HV1 HZ1 HB1 HS4 ⊢
 clear x0 x1 x2 x3 x4 x5 f0 f1 f2 f3 f4 f5 HE1 HE2 HE3 HW2 HS3
 have HG0 : Hid (Gr 89 7 RM S (N + 3) (m.take 0) (.slice none 0 0) [] w3) := Lib.hid (by rw [← HS4.out]; exact Gr.nil)
 go_wp2_with fail
 go_loopw [7, 8] (fun a i wr => ∃ (k : Nat) (Av : Option Addr) (cv : Nat) (rs : List (List Value)), k ≤ m.length ∧ a = .slice Av k cv ∧ i = .int .i64 k ∧ Hid (Gr 89 7 RM S (N + 3) (m.take k) (.slice Av k cv) rs wr) ∧
  Hid (JBox wr N (.int .i64 6) (.bool b0) (.int .i64 n0) (.string t0) (.slice A5 l5 c5) (.slice A6 m.length c6)) ∧ Hid (JBox wr (N + 1) (.int .i64 k9) (.bool b9) (.int .i64 n9) (.string t9) (.slice B5 m5 d5) (.slice B6 m6 d6)) ∧
  Hid (JBox wr (N + 2) (.int .i64 0) (.bool false) (.int .i64 0) (.string ⟨#[]⟩) (.slice none 0 0) (.slice none 0 0)) ∧ Hid (Below N w wr)) (fun _ i _ => m.length - (intOf i).toNat)
 case atStart => exact ⟨0, none, 0, [], by omega, rfl, rfl, HG0, HX1, HV1, HZ1, HB1⟩
 case round =>
  obtain ⟨k, Av, cv, rs, hk, rfl, rfl, HG, HX, HV, HZ, HW⟩ := hrel
  obtain ⟨x0, x1, x2, x3, x4, x5⟩ := HX.out.cells
  by_cases hlt : k < m.length
  ·have hcon : decide ((k : Int) < (m.length : Int)) = true := by simp; omega
   obtain ⟨nm1, y, hy⟩ : ∃ nm1 y, m[k]? = some (nm1, y) := ⟨m[k].1, m[k].2, List.getElem?_eq_getElem hlt⟩
   obtain ⟨g, o, k1, b1, n1, t1, A7, l7, c7, A8, l8, c8, hA, hSg, hg, q0, q1, q2, q3, q4, q5, q6, hjy⟩ := ((HIL.out wr (HN.out ▸ HW.out)).2.1).elem hy
   subst hA
   have HY := Lib.hid hy
   have hal := below_box wr (.cells #[.string (str nm1), .int .i64 k1, .bool b1, .int .i64 n1, .string t1, .slice A7 l7 c7, .slice A8 l8 c8] 89)
   have HQ := Lib.hid (heap_alloc_new wr (.cells #[.string (str nm1), .int .i64 k1, .bool b1, .int .i64 n1, .string t1, .slice A7 l7 c7, .slice A8 l8 c8] 89))
   have HG2 := Lib.hid (HG.out.next kept_M hal)
   have HX2 := Lib.hid (HX.out.next hal)
   have HV2 := Lib.hid (HV.out.next hal)
   have HZ2 := Lib.hid (HZ.out.next hal)
   have HW2 := Lib.hid (HW.out.trans (hal.mono (by have := HX.out.lt; omega)))
   have HJ2 := Lib.hid (hjy.next hal)
   obtain ⟨i0, hi, hz0, hz1, hz2⟩ := info_parts info89
   have hlk : (m.take k).length = k := by rw [List.length_take]; omega
   have hown := HG2.out.own.own
   rw [hlk] at hown
   clear hal hjy hSg hy
   generalize hW2 : (wr.alloc (.cells #[.string (str nm1), .int .i64 k1, .bool b1, .int .i64 n1, .string t1, .slice A7 l7 c7, .slice A8 l8 c8] 89)) = W2 at HQ HG2 HX2 HV2 HZ2 HW2 HJ2 hown
   generalize hM : wr.heap.size = M at HQ
   go_wp2_with (at_builtin; refine wpList_append_lies W2 rfl (.tmp 17) (.tmp 23) 23 rfl (N + 3) 89 i0 (.agg #[.string ⟨#[]⟩, .int .i64 0, .bool false, .int .i64 0, .string ⟨#[]⟩, .slice none 0 0, .slice none 0 0]) 7 104 Tryz.underlying23 hi hz0 hz1 hz2 rfl (by decide) (.slice Av k cv) k rs.flatten rfl hown ⟨M, 0, none⟩ 1 1 [.string (str nm1), .int .i64 k1, .bool b1, .int .i64 n1, .string t1, .slice A7 l7 c7, .slice A8 l8 c8] rfl rfl (World.news_of_block HQ.out) (by intro u hu; simp at hu; rcases hu with rfl | rfl | rfl | rfl | rfl | rfl | rfl <;> rfl) (by decide) (by unfold maxLen; omega) (by omega) HG2.out.own.le W2.heap.size rfl ?_; intro g9 cap W3 hown3 hgrow hat3 hlt3)
   have hNo : ∀ j, j < N + 3 → j ∉ (Value.slice Av k cv).ownBlock.toList := fun j hj => gr_keepS HG2.out hj
   obtain ⟨hG3, hk3⟩ := HG2.out.push kept_M (x := (nm1, y)) (vs := [.string (str nm1), .int .i64 k1, .bool b1, .int .i64 n1, .string t1, .slice A7 l7 c7, .slice A8 l8 c8]) ⟨_, rfl, HJ2.out.wide (fun g hg _ => ⟨hg, fun e => by have h1 := (HG2.out.own.lt g e).1; have h2 := HSS.out g hg; rw [HN.out] at h2; omega⟩)⟩ (by rw [hlk]; exact hown3) hgrow hat3
   rw [hlk] at hG3
   have htk : m.take k ++ [(nm1, y)] = m.take (k + 1) := by rw [List.take_add_one, HY.out]; rfl
   rw [htk] at hG3
   have HG4 := Lib.hid hG3
   have HX4 : Hid (JBox W3 N _ _ _ _ _ _) := Lib.hid (HX2.out.but hk3 (hNo N (by omega)))
   have HV4 : Hid (JBox W3 (N + 1) _ _ _ _ _ _) := Lib.hid (HV2.out.but hk3 (hNo (N + 1) (by omega)))
   have HZ4 : Hid (JBox W3 (N + 2) _ _ _ _ _ _) := Lib.hid (HZ2.out.but hk3 (hNo (N + 2) (by omega)))
   have HW4 : Hid (Below N w W3) := Lib.hid (HW2.out.trans (hk3.to (by have := HX2.out.lt; omega) (by
    intro j hj
    have hm : (Value.slice Av k cv).ownBlock = some j := by simpa using hj
    have := (HG2.out.own.lt j hm).1
    omega)))
   go_roundw
   case rel => exact ⟨k + 1, _, _, _, by omega, rfl, by go_num, HG4, HX4, HV4, HZ4, HW4⟩
   case measure => simp [intOf]; omega
  ·obtain rfl : k = m.length := by omega
   have hcon : decide (((m.length : Nat) : Int) < (m.length : Int)) = false := by simp
   obtain ⟨y0, y1, y2, y3, y4, y5⟩ := HV.out.cells
   have hal := below_box wr (.cells #[.string (str nm), .int .i64 k9, .bool b9, .int .i64 n9, .string t9, .slice B5 m5 d5, .slice B6 m6 d6] 89)
   have HQ := Lib.hid (heap_alloc_new wr (.cells #[.string (str nm), .int .i64 k9, .bool b9, .int .i64 n9, .string t9, .slice B5 m5 d5, .slice B6 m6 d6] 89))
   have HG2 := Lib.hid (HG.out.next kept_M hal)
   have HX2 := Lib.hid (HX.out.next hal)
   have HZ2 := Lib.hid (HZ.out.next hal)
   have HW2 := Lib.hid (HW.out.trans (hal.mono (by have := HX.out.lt; omega)))
   obtain ⟨i0, hi, hz0, hz1, hz2⟩ := info_parts info89
   have hlk : (m.take m.length).length = m.length := by rw [List.take_length]
   have hown := HG2.out.own.own
   rw [hlk] at hown
   clear hal
   generalize hW2 : (wr.alloc (.cells #[.string (str nm), .int .i64 k9, .bool b9, .int .i64 n9, .string t9, .slice B5 m5 d5, .slice B6 m6 d6] 89)) = W2 at HQ HG2 HX2 HZ2 HW2 hown
   generalize hM : wr.heap.size = M at HQ
   go_upto_region 8 with (at_builtin; refine wpList_append_lies W2 rfl (.tmp 25) (.tmp 29) 23 rfl (N + 3) 89 i0 (.agg #[.string ⟨#[]⟩, .int .i64 0, .bool false, .int .i64 0, .string ⟨#[]⟩, .slice none 0 0, .slice none 0 0]) 7 104 Tryz.underlying23 hi hz0 hz1 hz2 rfl (by decide) (.slice Av m.length cv) m.length rs.flatten rfl hown ⟨M, 0, none⟩ 1 1 [.string (str nm), .int .i64 k9, .bool b9, .int .i64 n9, .string t9, .slice B5 m5 d5, .slice B6 m6 d6] rfl rfl (World.news_of_block HQ.out) (by intro u hu; simp at hu; rcases hu with rfl | rfl | rfl | rfl | rfl | rfl | rfl <;> rfl) (by decide) (by unfold maxLen; omega) (by omega) HG2.out.own.le W2.heap.size rfl ?_; intro g9 cap W3 hown3 hgrow hat3 hlt3; have hX3 := HX2.out.but (But.grown hgrow) (gr_keepS HG2.out (show N < N + 3 by omega)); obtain ⟨p0, p1, p2, p3, p4, p5⟩ := hX3.cells; obtain ⟨r0, r1, r2, r3, r4, r5⟩ := hX3.frees)
   obtain ⟨hG3, hk3⟩ := HG2.out.push kept_M (x := (nm, v)) (vs := [.string (str nm), .int .i64 k9, .bool b9, .int .i64 n9, .string t9, .slice B5 m5 d5, .slice B6 m6 d6]) ⟨_, rfl, ((HIL.out W2 (HN.out ▸ HW2.out)).2.2).wide (fun g hg _ => ⟨hg, fun e => by have h1 := (HG2.out.own.lt g e).1; have h2 := HSS.out g hg; rw [HN.out] at h2; omega⟩)⟩ (by rw [hlk]; exact hown3) hgrow hat3
   rw [hlk, List.take_length] at hG3
   have hNo : ∀ j, j < N + 3 → j ∉ (Value.slice Av m.length cv).ownBlock.toList := fun j hj => gr_keepS HG2.out hj
   have HZ3 : Hid (JBox W3 (N + 2) _ _ _ _ _ _) := Lib.hid (HZ2.out.but hk3 (hNo (N + 2) (by omega)))
   have HW3 : Hid (Below N w W3) := Lib.hid (HW2.out.trans (hk3.to (by have := HX2.out.lt; omega) (by
    intro j hj
    have hm : (Value.slice Av m.length cv).ownBlock = some j := by simpa using hj
    have := (HG2.out.own.lt j hm).1
    omega)))
   obtain ⟨hk4, hx4⟩ := but_set (i := 5) (.slice (some ⟨g9, 0, none⟩) (m.length + 1) cap) hX3
   have HX4 : Hid (JBox (W3.setCell ⟨N, 5, none⟩ (.slice (some ⟨g9, 0, none⟩) (m.length + 1) cap)) N (.int .i64 6) (.bool b0) (.int .i64 n0) (.string t0) (.slice A5 l5 c5) (.slice (some ⟨g9, 0, none⟩) (m.length + 1) cap)) := Lib.hid hx4
   have HZ4 := Lib.hid (HZ3.out.but hk4 (by simp))
   have HG4 := Lib.hid (hG3.but kept_M hk4 (by intro j hj; simp at hj; omega) (by intro j hj; simp at hj; subst hj; intro h; have h2 := HSS.out _ h; rw [HN.out] at h2; omega))
   have HW4 := Lib.hid (HW3.out.trans (hk4.to (by have := hX3.lt; omega) (by intro j hj; simp at hj; omega)))
   clear hG3 hk3 hNo hk4 hx4 hX3 p0 p1 p2 p3 p4 p5 r0 r1 r2 r3 r4 r5 x0 x1 x2 x3 x4 x5 y0 y1 y2 y3 y4 y5 hgrow hown3 hat3 hlt3
   generalize (W3.setCell ⟨N, 5, none⟩ (.slice (some ⟨g9, 0, none⟩) (m.length + 1) cap)) = W4 at HX4 HZ4 HG4 HW4 ⊢
   obtain ⟨x0, x1, x2, x3, x4, x5⟩ := HX4.out.cells
   obtain ⟨z0, z1, z2, z3, z4, z5⟩ := HZ4.out.cells
   obtain ⟨f0, f1, f2, f3, f4, f5⟩ := HZ4.out.frees
   obtain ⟨hk9, hx9⟩ := j25_set (.int .i64 6) (.bool b0) (.int .i64 n0) (.string t0) (.slice A5 l5 c5) (.slice (some ⟨g9, 0, none⟩) (m.length + 1) cap) HZ4.out
   have HK9 := Lib.hid hk9
   have HX9 := Lib.hid hx9
   clear hk9 hx9
   go_wp2_with fail
   refine bodyPost_ret (results_row1 rfl _ _ _ (N + 2) #[.int .i64 6, .bool b0, .int .i64 n0, .string t0, .slice A5 l5 c5, .slice (some ⟨g9, 0, none⟩) (m.length + 1) cap] rfl (j25_load HX9.out)) rfl ?_
   rw [HN.out]
   refine ⟨HW4.out.trans (HK9.out.to (by have := HX4.out.lt; omega) (by intro j hj; simp at hj; omega)), _, rfl, ?_⟩
   have hV : JV W4 (fun g => S g ∨ N + 3 ≤ g) (.mk 6 b0 n0 tx l (m ++ [(nm, v)])) [.int .i64 6, .bool b0, .int .i64 n0, .string t0, .slice A5 l5 c5, .slice (some ⟨g9, 0, none⟩) (m.length + 1) cap] := by
    have h1 := HG4.out.obj 6 b0 n0 tx
    unfold JV at h1 ⊢
    obtain ⟨_, _, A, c, e, _, hc, _, hm⟩ := h1
    simp only [List.cons.injEq, Value.slice.injEq, and_true, true_and] at e
    obtain ⟨-, rfl, -, rfl⟩ := e
    have hil := (HIL.out W4 (HN.out ▸ HW4.out)).1
    exact ⟨A5, c5, _, _, by rw [← HTL.out.1, ← HTL.out.2, List.length_append]; rfl, HLC.out, hc, JL.keep (Nat.le_refl _) (fun g hg _ => .inl hg) (fun _ _ _ => rfl) _ _ _ hil, hm⟩
   exact (hV.but HK9.out (by intro j hj; simp at hj; subst hj; intro h; rcases h with h | h; have h2 := HSS.out _ h; rw [HN.out] at h2; omega; omega)).wide (fun g hg _ => hg.imp id (fun h => by omega))
end Go.Proofs.YtimioelnnhnbiaaGreatDoor
namespace Go.Proofs.YtimioelnnhnbiaaGreatDoor
open Go.RowKit
def anyCells : List (Js.Bs × Js.J × List Value) → List Value
 | [] => []
 | (nm, _, us) :: t => .iface 9 (.string (str nm)) :: .iface 25 (.agg us.toArray) :: anyCells t
theorem anyCells_at : ∀ (L : List (Js.Bs × Js.J × List Value)) (k : Nat) (p : Js.Bs × Js.J × List Value), L[k]? = some p → (anyCells L)[2 * k]? = some (.iface 9 (.string (str p.1))) ∧ (anyCells L)[2 * k + 1]? = some (.iface 25 (.agg p.2.2.toArray))
 | [], k, p, h => by simp at h
 | (nm, x, us) :: t, 0, p, h => by
  simp at h
  subst h
  exact ⟨rfl, rfl⟩
 | (nm, x, us) :: t, k + 1, p, h => by
  have := anyCells_at t k p (by simpa using h)
  rw [show 2 * (k + 1) = 2 * k + 1 + 1 by omega]
  exact this
def pairsOf (L : List (Js.Bs × Js.J × List Value)) : List (Js.Bs × Js.J) := L.map fun p => (p.1, p.2.1)
theorem anyAt_of {W : World} {T : Nat → Prop} {M : Nat} {L : List (Js.Bs × Js.J × List Value)} {C : Array Value} (hb : W.heap[M]? = some (.cells C 20 (0, 0))) (hC : C = (anyCells L).toArray) (hk : ∀ p ∈ L, JV W T p.2.1 p.2.2) :
  AnyAt W T (some ⟨M, 0, none⟩) (pairsOf L) := by
 intro k nm x hx
 unfold pairsOf at hx
 rw [List.getElem?_map] at hx
 obtain ⟨p, hp, e⟩ := Option.map_eq_some_iff.1 hx
 simp only [Prod.mk.injEq] at e
 obtain ⟨rfl, rfl⟩ := e
 obtain ⟨h1, h2⟩ := anyCells_at L k p hp
 subst hC
 refine ⟨M, 0, p.2.2, rfl, (Array.getElem?_eq_some_iff.1 hb).1, ?_, ?_, hk p (List.mem_of_getElem? hp)⟩
 ·rw [Nat.zero_add, blk_cells hb, List.getElem?_toArray, h1]
 ·rw [Nat.zero_add, blk_cells hb, List.getElem?_toArray, h2]
def jFile (x : Js.Bs × Js.Bs) : Js.J := .mk 6 false 0 [] [] [([112, 97, 116, 104], jText x.1), ([116, 101, 120, 116], jText x.2)]
def fileC (x : Js.Bs × Js.Bs) : List Value := [.string (str x.1), .string (str x.2)]
set_option maxRecDepth 100000 in
set_option maxHeartbeats 8000000 in
theorem made_file : MadeC 64 (fun x => .agg #[.string (str x.1), .string (str x.2)]) jFile := by
 intro x w
 have b1 := below_box w (.cells #[.string (str x.1), .string (str x.2)] 75)
 have s1 : (w.alloc (.cells #[.string (str x.1), .string (str x.2)] 75)).heap.size = w.heap.size + 1 := by simp
 have e1 := heap_alloc_new w (.cells #[.string (str x.1), .string (str x.2)] 75)
 have b2 := below_box (w.alloc (.cells #[.string (str x.1), .string (str x.2)] 75)) (.cells #[.int .i64 0, .bool false, .int .i64 0, .string ⟨#[]⟩, .slice none 0 0, .slice none 0 0] 25)
 have e2 : JBox _ _ _ _ _ _ _ _ := heap_alloc_new (w.alloc (.cells #[.string (str x.1), .string (str x.2)] 75)) (.cells #[.int .i64 0, .bool false, .int .i64 0, .string ⟨#[]⟩, .slice none 0 0, .slice none 0 0] 25)
 rw [s1] at e2
 have HE1 := Lib.hid (blk_next b2 e1)
 have HE2 := Lib.hid e2
 have HW2 := Lib.hid (b1.trans (b2.mono (by rw [s1]; omega)))
 clear b1 s1 e1 b2 e2
 go_enter Tryz.func64, Tryz.ntmps64
 go_upto_region 1 with fail
 generalize ((w.alloc (.cells #[.string (str x.1), .string (str x.2)] 75)).alloc (.cells #[.int .i64 0, .bool false, .int .i64 0, .string ⟨#[]⟩, .slice none 0 0, .slice none 0 0] 25)) = w2 at HE1 HE2 HW2 ⊢
 obtain ⟨N, hN⟩ : ∃ N, w.heap.size = N := ⟨_, rfl⟩
 rw [hN] at HE1 HE2 ⊢
 have HN := Lib.hid hN
 clear hN
 go_wp2_with fail
 refine wp_region_any (by kernel_rfl) ?_
 change wpAny _ _ _ _ _ _ _ (World.drew _)
 have hbd : Below w2.heap.size w2 w2.drew := below_drewN (Below.refl _ _) 1
 have HS : Hid ((fun W => W.heap[N]? = some (.cells #[.string (str x.1), .string (str x.2)] 75 (0, 0))) w2.drew) := Lib.hid (blk_next hbd HE1.out)
 have HZ := Lib.hid (HE2.out.next hbd)
 have HW : Hid (Below N w w2.drew) := Lib.hid (HN.out ▸ (HW2.out.trans (hbd.mono HW2.out.size)))
 clear hbd HE1 HE2 HW2
 generalize w2.drew = W at HS HZ HW ⊢
 refine wpAny_of_till (S := fun W => W.heap[N]? = some (.cells #[.string (str x.1), .string (str x.2)] 75 (0, 0))) (st := (fun _ => false)) _ _ _ _ ?_
 change wpTill _ _ _ _ _ _ _ #[false, false, false, false, false, false, false, false, false, false, false, false, false] _ _
 refine tkF 0 (.iface 9 (.string ⟨#[112, 97, 116, 104]⟩)) rfl ?yb0 (fun _ => HS.out) ?_
 case yb0 => (intro W0 _; go_simp; (try with_reducible rfl))
 simp only [Act.put, CL]
 refine tkF 1 (.pointer (some ⟨N, 0, none⟩)) rfl ?yb1 (fun _ => HS.out) ?_
 case yb1 => (intro W0 _; go_simp; (try with_reducible rfl))
 simp only [Act.put, CL]
 refine tk0 2 (.string (str x.1)) rfl (Or.inl ⟨by rfl, ?yb2⟩) HS.out (fun _ => ?_)
 case yb2 => (intro W0 hS; have q0 := (blk_cells hS 0).trans (show _ = some (.string (str x.1)) from rfl); go_simp; (try with_reducible rfl))
 simp only [Act.put, CL]
 refine tkF 5 (.iface 9 (.string ⟨#[116, 101, 120, 116]⟩)) rfl ?yb5 (fun _ => HS.out) ?_
 case yb5 => (intro W0 _; go_simp; (try with_reducible rfl))
 simp only [Act.put, CL]
 refine tkF 6 (.pointer (some ⟨N, 1, none⟩)) rfl ?yb6 (fun _ => HS.out) ?_
 case yb6 => (intro W0 _; go_simp; (try with_reducible rfl))
 simp only [Act.put, CL]
 refine tk0 7 (.string (str x.2)) rfl (Or.inl ⟨by rfl, ?yb7⟩) HS.out (fun _ => ?_)
 case yb7 => (intro W0 hS; have q0 := (blk_cells hS 1).trans (show _ = some (.string (str x.2)) from rfl); go_simp; (try with_reducible rfl))
 simp only [Act.put, CL]
 refine rdy 3 rfl (fun KK hKK => ?_)
 go_simp
 refine (text_leaf (str x.1) W).mono ?_
 rintro e W1 ⟨rfl, hb⟩
 have HS1 : Hid ((fun W => W.heap[N]? = some (.cells #[.string (str x.1), .string (str x.2)] 75 (0, 0))) W1) := Lib.hid (blk_next hb HS.out)
 have HZ1 : Hid (JBox W1 (N + 1) _ _ _ _ _ _) := Lib.hid (blk_next hb HZ.out)
 have HW1 : Hid (Below N w W1) := Lib.hid (HW.out.trans (hb.mono (by have := HZ.out.lt; omega)))
 clear hb HS HZ HW
 have HS := HS1
 have HZ := HZ1
 have HW := HW1
 clear HS1 HZ1 HW1
 refine hKK _ _ (fun _ => HS.out) ?_
 clear hKK KK
 simp only [Act.put, CL]
 refine tkF 4 (.iface 25 (.agg #[.int .i64 4, .bool false, .int .i64 0, .string (str x.1), .slice none 0 0, .slice none 0 0])) rfl ?yb4 (fun _ => HS.out) ?_
 case yb4 => (intro W0 _; go_simp; (try with_reducible rfl))
 simp only [Act.put, CL]
 refine rdy 8 rfl (fun KK hKK => ?_)
 go_simp
 refine (text_leaf (str x.2) W1).mono ?_
 rintro e W2 ⟨rfl, hb⟩
 have HS1 : Hid ((fun W => W.heap[N]? = some (.cells #[.string (str x.1), .string (str x.2)] 75 (0, 0))) W2) := Lib.hid (blk_next hb HS.out)
 have HZ1 : Hid (JBox W2 (N + 1) _ _ _ _ _ _) := Lib.hid (blk_next hb HZ.out)
 have HW1 : Hid (Below N w W2) := Lib.hid (HW.out.trans (hb.mono (by have := HZ.out.lt; omega)))
 clear hb HS HZ HW
 have HS := HS1
 have HZ := HZ1
 have HW := HW1
 clear HS1 HZ1 HW1
 refine hKK _ _ (fun _ => HS.out) ?_
 clear hKK KK
 simp only [Act.put, CL]
 refine tkF 9 (.iface 25 (.agg #[.int .i64 4, .bool false, .int .i64 0, .string (str x.2), .slice none 0 0, .slice none 0 0])) rfl ?yb9 (fun _ => HS.out) ?_
 case yb9 => (intro W0 _; go_simp; (try with_reducible rfl))
 simp only [Act.put, CL]
 refine rdy 10 rfl (fun KK hKK => ?_)
 go_simp
 have hal := below_box W2 (.cells #[.iface 9 (.string ⟨#[112, 97, 116, 104]⟩), .iface 25 (.agg #[.int .i64 4, .bool false, .int .i64 0, .string (str x.1), .slice none 0 0, .slice none 0 0]), .iface 9 (.string ⟨#[116, 101, 120, 116]⟩), .iface 25 (.agg #[.int .i64 4, .bool false, .int .i64 0, .string (str x.2), .slice none 0 0, .slice none 0 0])] 20)
 have HQ := Lib.hid (heap_alloc_new W2 (.cells #[.iface 9 (.string ⟨#[112, 97, 116, 104]⟩), .iface 25 (.agg #[.int .i64 4, .bool false, .int .i64 0, .string (str x.1), .slice none 0 0, .slice none 0 0]), .iface 9 (.string ⟨#[116, 101, 120, 116]⟩), .iface 25 (.agg #[.int .i64 4, .bool false, .int .i64 0, .string (str x.2), .slice none 0 0, .slice none 0 0])] 20))
 have HS1 : Hid ((fun W => W.heap[N]? = some (.cells #[.string (str x.1), .string (str x.2)] 75 (0, 0))) (W2.alloc (.cells #[.iface 9 (.string ⟨#[112, 97, 116, 104]⟩), .iface 25 (.agg #[.int .i64 4, .bool false, .int .i64 0, .string (str x.1), .slice none 0 0, .slice none 0 0]), .iface 9 (.string ⟨#[116, 101, 120, 116]⟩), .iface 25 (.agg #[.int .i64 4, .bool false, .int .i64 0, .string (str x.2), .slice none 0 0, .slice none 0 0])] 20))) := Lib.hid (blk_next hal HS.out)
 have HZ1 : Hid (JBox (W2.alloc (.cells #[.iface 9 (.string ⟨#[112, 97, 116, 104]⟩), .iface 25 (.agg #[.int .i64 4, .bool false, .int .i64 0, .string (str x.1), .slice none 0 0, .slice none 0 0]), .iface 9 (.string ⟨#[116, 101, 120, 116]⟩), .iface 25 (.agg #[.int .i64 4, .bool false, .int .i64 0, .string (str x.2), .slice none 0 0, .slice none 0 0])] 20)) (N + 1) _ _ _ _ _ _) := Lib.hid (blk_next hal HZ.out)
 have HW1 : Hid (Below N w (W2.alloc (.cells #[.iface 9 (.string ⟨#[112, 97, 116, 104]⟩), .iface 25 (.agg #[.int .i64 4, .bool false, .int .i64 0, .string (str x.1), .slice none 0 0, .slice none 0 0]), .iface 9 (.string ⟨#[116, 101, 120, 116]⟩), .iface 25 (.agg #[.int .i64 4, .bool false, .int .i64 0, .string (str x.2), .slice none 0 0, .slice none 0 0])] 20))) := Lib.hid (HW.out.trans (hal.mono (by have := HZ.out.lt; omega)))
 clear hal HS HZ HW
 generalize (W2.alloc (.cells #[.iface 9 (.string ⟨#[112, 97, 116, 104]⟩), .iface 25 (.agg #[.int .i64 4, .bool false, .int .i64 0, .string (str x.1), .slice none 0 0, .slice none 0 0]), .iface 9 (.string ⟨#[116, 101, 120, 116]⟩), .iface 25 (.agg #[.int .i64 4, .bool false, .int .i64 0, .string (str x.2), .slice none 0 0, .slice none 0 0])] 20)) = W3 at HQ HS1 HZ1 HW1 ⊢
 generalize W2.heap.size = M at HQ ⊢
 have HS := HS1
 have HZ := HZ1
 have HW := HW1
 clear HS1 HZ1 HW1
 refine hKK _ _ (fun _ => HS.out) ?_
 clear hKK KK
 simp only [Act.put, CL]
 refine rdy 11 rfl (fun KK hKK => ?_)
 go_simp
 have HA : AnyAt W3 (fun g => N + 2 ≤ g) (some ⟨M, 0, none⟩) (pairsOf [([112, 97, 116, 104], jText (x.1), [.int .i64 4, .bool false, .int .i64 0, .string (str x.1), .slice none 0 0, .slice none 0 0]), ([116, 101, 120, 116], jText (x.2), [.int .i64 4, .bool false, .int .i64 0, .string (str x.2), .slice none 0 0, .slice none 0 0])]) := anyAt_of HQ.out rfl (by
  intro p hp
  simp only [List.mem_cons, List.not_mem_nil, or_false] at hp
  rcases hp with rfl | rfl
  ·exact JV.leaf _ _ 4 false 0 _
  ·exact JV.leaf _ _ 4 false 0 _)
 have ho : Calls Tryz.prog 59 #[.slice (some ⟨M, 0, none⟩) 4 4] W3 _ := object_any (fun g => g < W3.heap.size ∧ N + 2 ≤ g) (pairsOf [([112, 97, 116, 104], jText (x.1), [.int .i64 4, .bool false, .int .i64 0, .string (str x.1), .slice none 0 0, .slice none 0 0]), ([116, 101, 120, 116], jText (x.2), [.int .i64 4, .bool false, .int .i64 0, .string (str x.2), .slice none 0 0, .slice none 0 0])]) (some ⟨M, 0, none⟩) 4 W3 (fun g h => h.1) (fun k nm x hx => by
  obtain ⟨g, o, us, h1, h2, h3, h4, h5⟩ := HA k nm x hx
  exact ⟨g, o, us, h1, h2, h3, h4, h5.wide (fun g hg hlt => ⟨hlt, hg⟩)⟩) (by simp [pairsOf])
 refine ho.mono ?_
 rintro e W4 ⟨hb, Av, cv, rfl, hjo⟩
 rw [show (pairsOf [([112, 97, 116, 104], jText (x.1), [.int .i64 4, .bool false, .int .i64 0, .string (str x.1), .slice none 0 0, .slice none 0 0]), ([116, 101, 120, 116], jText (x.2), [.int .i64 4, .bool false, .int .i64 0, .string (str x.2), .slice none 0 0, .slice none 0 0])]).length = 2 from rfl] at hjo ⊢
 have hjo2 : Hid (JV W4 (fun g => N + 2 ≤ g) (.mk 6 false 0 [] [] (pairsOf [([112, 97, 116, 104], jText (x.1), [.int .i64 4, .bool false, .int .i64 0, .string (str x.1), .slice none 0 0, .slice none 0 0]), ([116, 101, 120, 116], jText (x.2), [.int .i64 4, .bool false, .int .i64 0, .string (str x.2), .slice none 0 0, .slice none 0 0])])) _) := Lib.hid (hjo.wide (fun g hg _ => hg.elim (fun h => h.2) (fun h => by have := HZ.out.lt; omega)))
 have HS1 : Hid ((fun W => W.heap[N]? = some (.cells #[.string (str x.1), .string (str x.2)] 75 (0, 0))) W4) := Lib.hid (blk_next hb HS.out)
 have HZ1 : Hid (JBox W4 (N + 1) _ _ _ _ _ _) := Lib.hid (blk_next hb HZ.out)
 have HW1 : Hid (Below N w W4) := Lib.hid (HW.out.trans (hb.mono (by have := HZ.out.lt; omega)))
 clear hb HS HZ HW hjo ho HA HQ
 have HS := HS1
 have HZ := HZ1
 have HW := HW1
 clear HS1 HZ1 HW1
 refine hKK _ _ (fun _ => HS.out) ?_
 clear hKK KK
 simp only [Act.put, CL]
 refine rdy 12 rfl (fun KK hKK => ?_)
 obtain ⟨hk9, hx9⟩ := j25_set (.int .i64 6) (.bool false) (.int .i64 0) (.string ⟨#[]⟩) (.slice none 0 0) (.slice Av 2 cv) HZ.out
 have HK9 := Lib.hid hk9
 have HX9 := Lib.hid hx9
 obtain ⟨x0, x1, x2, x3, x4, x5⟩ := HZ.out.cells
 obtain ⟨f0, f1, f2, f3, f4, f5⟩ := HZ.out.frees
 clear hk9 hx9
 go_simp
 refine hKK _ _ (fun _ => HK9.out.blk HS.out (by simp)) ?_
 clear hKK KK
 simp only [Act.put, CL]
 refine wpTill_done (by kernel_rfl) ?_ _
 (try simp only [Exit.then])
 go_wp2_with fail
 refine bodyPost_ret (results_row1 rfl _ _ _ (N + 1) #[.int .i64 6, .bool false, .int .i64 0, .string ⟨#[]⟩, .slice none 0 0, .slice Av 2 cv] rfl (j25_load HX9.out)) rfl ?_
 rw [HN.out]
 refine ⟨HW.out.trans (HK9.out.to (by have := HZ.out.lt; omega) (by intro j hj; simp at hj; omega)), _, rfl, ?_⟩
 exact (hjo2.out.but HK9.out (by intro j hj; simp at hj; omega)).wide (fun g hg _ => by omega)
end Go.Proofs.YtimioelnnhnbiaaGreatDoor
