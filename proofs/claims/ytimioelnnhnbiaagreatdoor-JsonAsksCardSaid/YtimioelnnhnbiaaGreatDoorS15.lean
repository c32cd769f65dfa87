/-
  Joined: SA SC ZR ZQ.
-/
import Derived.Test.YtimioelnnhnbiaaGreatDoorS14
import Derived.Test.YtimioelnnhnbiaaGreatDoorS13
namespace Go.Proofs.YtimioelnnhnbiaaGreatDoor
open Go.RowKit
def SameC (f N : Nat) : Prop := ∀ (x y : Js.J) (vs us : List Value) (S : Nat → Prop) (w : World), Js.nodes x ≤ N → Js.nodes x ≤ 1073741824 → JV w S x vs → JV w S y us →
  Calls Tryz.prog f #[.agg vs.toArray, .agg us.toArray] w fun e w' => e = .returned (.bool (Js.same x y)) ∧ Below w.heap.size w w'
theorem JL.next {w w' : World} {S : Nat → Prop} {A : Option Addr} {i : Nat} {l : List Js.J} (h : JL w S A i l) (hb : Below w.heap.size w w') : JL w' S A i l :=
 JL.keep hb.size (fun _ h _ => h) (fun g _ hg => hb.block g hg) _ _ _ h
theorem JM.next {w w' : World} {S : Nat → Prop} {A : Option Addr} {i : Nat} {l : List (Js.Bs × Js.J)} (h : JM w S A i l) (hb : Below w.heap.size w w') : JM w' S A i l :=
 JM.keep hb.size (fun _ h _ => h) (fun g _ hg => hb.block g hg) _ _ _ h
theorem blk6 {w : World} {b : Nat} {T : TypeId} {x0 x1 x2 x3 x4 x5 : Value} (h : w.heap[b]? = some (.cells #[x0, x1, x2, x3, x4, x5] T (0, 0))) :
  w.cell? ⟨b, 0, none⟩ = some x0 ∧ w.cell? ⟨b, 1, none⟩ = some x1 ∧ w.cell? ⟨b, 2, none⟩ = some x2 ∧ w.cell? ⟨b, 3, none⟩ = some x3 ∧ w.cell? ⟨b, 4, none⟩ = some x4 ∧ w.cell? ⟨b, 5, none⟩ = some x5 :=
 ⟨(blk_cells h 0).trans rfl, (blk_cells h 1).trans rfl, (blk_cells h 2).trans rfl, (blk_cells h 3).trans rfl, (blk_cells h 4).trans rfl, (blk_cells h 5).trans rfl⟩
set_option maxRecDepth 100000 in
set_option maxHeartbeats 8000000 in
theorem eq_items (N : Nat) (ih : SameC 30 N) (l l' : List Js.J) (A A' : Option Addr) (c c' : Nat) (S : Nat → Prop) (w : World) (hl : JL w S A 0 l) (hl' : JL w S A' 0 l') (hN : Js.nodesL l ≤ N) (hn : Js.nodesL l ≤ 1073741824) :
  Calls Tryz.prog 56 #[.slice A l.length c, .slice A' l'.length c', .func (.func 30) #[] #[]] w fun e w' => e = .returned (.bool (Js.sameL l l')) ∧ Below w.heap.size w w' := by
 have HL := Lib.hid hl
 have HL' := Lib.hid hl'
 have IH := Lib.hid ih
 have hll := Js.length_nodesL l
 clear hl hl' ih
 by_cases heq : l.length = l'.length
 rotate_left
 ·have HF : Hid (Js.sameL l l' = false) := Lib.hid (Js.sameL_nlen heq)
  have hb : ((l.length : Int) == (l'.length : Int)) = false := by rw [beq_eq_false_iff_ne]; omega
  go_enter Tryz.func56, Tryz.ntmps56
  go_wp2_with fail
  go_ret
  exact ⟨ret_bool HF.out.symm, Below.refl _ _⟩
 have HEQ := Lib.hid heq
 rw [← heq]
 clear heq
 go_enter Tryz.func56, Tryz.ntmps56
 go_wp2_with fail
 go_loopw [7, 17] (fun _ i wr => ∃ k : Nat, k ≤ l.length ∧ i = .int .i64 k ∧ Hid (Js.sameL (l.take k) (l'.take k) = true) ∧ Hid (Below w.heap.size w wr)) (fun _ i _ => l.length - (intOf i).toNat)
 case atStart => exact ⟨0, Nat.zero_le _, rfl, Lib.hid (by simp [Js.sameL]), Lib.hid (Below.refl _ _)⟩
 case round =>
  obtain ⟨k, hk, rfl, HS, HW⟩ := hrel
  by_cases hlt : k < l.length
  ·obtain ⟨x, hx⟩ : ∃ x, l[k]? = some x := ⟨l[k], List.getElem?_eq_getElem hlt⟩
   obtain ⟨y, hy⟩ : ∃ y, l'[k]? = some y := ⟨l'[k], List.getElem?_eq_getElem (by have := HEQ.out; omega)⟩
   obtain ⟨g, o, k1, b1, n1, t1, A7, l7, c7, A8, l8, c8, hA, hSg, hg, q0, q1, q2, q3, q4, q5, hjx⟩ := (HL.out.next HW.out).elem hx
   subst hA
   have hbel := below_box wr (.cells #[.int .i64 k1, .bool b1, .int .i64 n1, .string t1, .slice A7 l7 c7, .slice A8 l8 c8] 25)
   have HBx : Hid ((wr.alloc (.cells #[.int .i64 k1, .bool b1, .int .i64 n1, .string t1, .slice A7 l7 c7, .slice A8 l8 c8] 25)).heap[wr.heap.size]? = some (.cells #[.int .i64 k1, .bool b1, .int .i64 n1, .string t1, .slice A7 l7 c7, .slice A8 l8 c8] 25 (0, 0))) := Lib.hid (heap_alloc_new wr (.cells #[.int .i64 k1, .bool b1, .int .i64 n1, .string t1, .slice A7 l7 c7, .slice A8 l8 c8] 25))
   have HW1 := Lib.hid (HW.out.trans (hbel.mono HW.out.size))
   have HJx := Lib.hid (hjx.next hbel)
   have hs1 : (wr.alloc (.cells #[.int .i64 k1, .bool b1, .int .i64 n1, .string t1, .slice A7 l7 c7, .slice A8 l8 c8] 25)).heap.size = wr.heap.size + 1 := by simp
   obtain ⟨p1, p2, p3⟩ := Js.nodesL_split l k x hx
   have hsn := Js.sameL_snoc HEQ.out hx hy
   rw [HS.out, Bool.true_and] at hsn
   have HSN := Lib.hid hsn
   have HY := Lib.hid hy
   have hpn : Js.nodes x ≤ N := by omega
   have hpn2 : Js.nodes x ≤ 1073741824 := by omega
   clear hjx hbel p1 p2 p3 hSg hsn hx hy
   go_upto_region 6 with fail
   generalize (wr.alloc (.cells #[.int .i64 k1, .bool b1, .int .i64 n1, .string t1, .slice A7 l7 c7, .slice A8 l8 c8] 25)) = w1 at HBx HW1 HJx hs1 ⊢
   obtain ⟨Y, hY⟩ : ∃ Y, wr.heap.size = Y := ⟨_, rfl⟩
   rw [hY] at HBx hs1 ⊢
   clear q0 q1 q2 q3 q4 q5 hY hg
   obtain ⟨g2, o2, k2, b2, n2, t2, B7, m7, d7, B8, m8, d8, hA, hSg, hg, r0, r1, r2, r3, r4, r5, hjy⟩ := (HL'.out.next HW1.out).elem HY.out
   subst hA
   have hbel := below_box w1 (.cells #[.int .i64 k2, .bool b2, .int .i64 n2, .string t2, .slice B7 m7 d7, .slice B8 m8 d8] 25)
   have HBy : Hid ((w1.alloc (.cells #[.int .i64 k2, .bool b2, .int .i64 n2, .string t2, .slice B7 m7 d7, .slice B8 m8 d8] 25)).heap[w1.heap.size]? = some (.cells #[.int .i64 k2, .bool b2, .int .i64 n2, .string t2, .slice B7 m7 d7, .slice B8 m8 d8] 25 (0, 0))) := Lib.hid (heap_alloc_new w1 (.cells #[.int .i64 k2, .bool b2, .int .i64 n2, .string t2, .slice B7 m7 d7, .slice B8 m8 d8] 25))
   have HBx2 := Lib.hid (blk_next hbel HBx.out)
   have HW2 := Lib.hid (HW1.out.trans (hbel.mono HW1.out.size))
   have HJx2 := Lib.hid (HJx.out.next hbel)
   have HJy2 := Lib.hid (hjy.next hbel)
   clear hbel hjy HBx HW1 HJx hSg
   go_upto_region 7 with fail
   generalize (w1.alloc (.cells #[.int .i64 k2, .bool b2, .int .i64 n2, .string t2, .slice B7 m7 d7, .slice B8 m8 d8] 25)) = w2 at HBy HBx2 HW2 HJx2 HJy2 ⊢
   rw [hs1] at HBy
   clear r0 r1 r2 r3 r4 r5 hs1 hg
   obtain ⟨x0, x1, x2, x3, x4, x5⟩ := blk6 HBx2.out
   obtain ⟨z0, z1, z2, z3, z4, z5⟩ := blk6 HBy.out
   go_wp2_with fail
   refine (IH.out x y _ _ S w2 hpn hpn2 HJx2.out HJy2.out).mono ?_
   rintro e w3 ⟨rfl, hb3⟩
   have HW3 := Lib.hid (HW2.out.trans (hb3.mono HW2.out.size))
   obtain ⟨q, hq⟩ : ∃ q, Js.same x y = q := ⟨_, rfl⟩
   rw [hq] at HSN ⊢
   clear hb3 HW2 HJx2 HJy2 HBx2 HBy hq HW
   cases q
   ·have HF : Hid (Js.sameL l l' = false) := Lib.hid (Js.sameL_false HEQ.out HSN.out)
    go_wp2_with fail
    go_ret
    exact ⟨ret_bool HF.out.symm, HW3.out⟩
   ·go_wp2_with fail
    go_roundw
    case rel => exact ⟨k + 1, by omega, by go_num, HSN, HW3⟩
    case measure => simp [intOf]; omega
  ·obtain rfl : k = l.length := by omega
   have HF : Hid (Js.sameL l l' = true) := Lib.hid (by
    have := HS.out
    rw [List.take_length, HEQ.out, List.take_length] at this
    exact this)
   go_wp2_with fail
   go_ret
   exact ⟨ret_bool HF.out.symm, HW.out⟩
set_option maxRecDepth 100000 in
set_option maxHeartbeats 8000000 in
theorem mem_same (N : Nat) (ih : SameC 30 N) (nm nm2 : Js.Bs) (x y : Js.J) (vs us : List Value) (S : Nat → Prop) (w : World) (hN : Js.nodes x ≤ N) (hn : Js.nodes x ≤ 1073741824) (hjx : JV w S x vs) (hjy : JV w S y us) :
  Calls Tryz.prog 58 #[.agg (Value.string (str nm) :: vs).toArray, .agg (Value.string (str nm2) :: us).toArray] w fun e w' => e = .returned (.bool (decide (nm = nm2) && Js.same x y)) ∧ Below w.heap.size w w' := by
 have HX := hjx
 have HY := hjy
 obtain ⟨A7, c7, A8, c8, k1, b1, n1, t1, l7, l8, rfl⟩ := hjx.shape
 obtain ⟨B7, d7, B8, d8, k2, b2, n2, t2, m7, m8, rfl⟩ := hjy.shape
 have hb1 := below_box w (.cells #[.string (str nm), .int .i64 k1, .bool b1, .int .i64 n1, .string t1, .slice A7 l7 c7, .slice A8 l8 c8] 89)
 have s1 : (w.alloc (.cells #[.string (str nm), .int .i64 k1, .bool b1, .int .i64 n1, .string t1, .slice A7 l7 c7, .slice A8 l8 c8] 89)).heap.size = w.heap.size + 1 := by simp
 have e1 := heap_alloc_new w (.cells #[.string (str nm), .int .i64 k1, .bool b1, .int .i64 n1, .string t1, .slice A7 l7 c7, .slice A8 l8 c8] 89)
 have hb2 := below_box (w.alloc (.cells #[.string (str nm), .int .i64 k1, .bool b1, .int .i64 n1, .string t1, .slice A7 l7 c7, .slice A8 l8 c8] 89)) (.cells #[.string (str nm2), .int .i64 k2, .bool b2, .int .i64 n2, .string t2, .slice B7 m7 d7, .slice B8 m8 d8] 89)
 have e2 := heap_alloc_new (w.alloc (.cells #[.string (str nm), .int .i64 k1, .bool b1, .int .i64 n1, .string t1, .slice A7 l7 c7, .slice A8 l8 c8] 89)) (.cells #[.string (str nm2), .int .i64 k2, .bool b2, .int .i64 n2, .string t2, .slice B7 m7 d7, .slice B8 m8 d8] 89)
 rw [s1] at e2
 have HE1 := Lib.hid (blk_next hb2 e1)
 have HE2 := Lib.hid e2
 have HX2 := Lib.hid ((HX.next hb1).next hb2)
 have HY2 := Lib.hid ((HY.next hb1).next hb2)
 have HW2 := Lib.hid (hb1.trans (hb2.mono (by rw [s1]; omega)))
 have hst := str_beq nm nm2
 clear hb1 hb2 e1 e2 s1 HX HY hjx hjy
 obtain ⟨R, hR⟩ : ∃ R, (decide (nm = nm2) && Js.same x y) = R := ⟨_, rfl⟩
 rw [hR]
 have HR := Lib.hid hR
 clear hR
 go_enter Tryz.func58, Tryz.ntmps58
 go_upto_region 1 with fail
 generalize ((w.alloc (.cells #[.string (str nm), .int .i64 k1, .bool b1, .int .i64 n1, .string t1, .slice A7 l7 c7, .slice A8 l8 c8] 89)).alloc (.cells #[.string (str nm2), .int .i64 k2, .bool b2, .int .i64 n2, .string t2, .slice B7 m7 d7, .slice B8 m8 d8] 89)) = w2 at HE1 HE2 HX2 HY2 HW2 ⊢
 obtain ⟨x0, x1, x2, x3, x4, x5, x6⟩ := blk7 HE1.out
 obtain ⟨z0, z1, z2, z3, z4, z5, z6⟩ := blk7 HE2.out
 by_cases hnm : nm = nm2
 ·rw [decide_eq_true hnm] at hst HR
  clear hnm
  go_wp2_with fail
  refine (ih x y _ _ S w2 hN hn HX2.out HY2.out).mono ?_
  rintro e w3 ⟨rfl, hb3⟩
  have HW3 := Lib.hid (HW2.out.trans (hb3.mono HW2.out.size))
  clear hb3
  go_wp2_with fail
  go_ret
  exact ⟨ret_bool (by rw [← HR.out, Bool.true_and]), HW3.out⟩
 ·rw [decide_eq_false hnm] at hst HR
  clear hnm
  go_wp2_with fail
  go_ret
  exact ⟨ret_bool (by rw [← HR.out]; rfl), HW2.out⟩
set_option maxRecDepth 100000 in
set_option maxHeartbeats 8000000 in
theorem eq_members (N : Nat) (ih : ∀ (nm nm2 : Js.Bs) (x y : Js.J) (vs us : List Value) (S : Nat → Prop) (w : World), Js.nodes x ≤ N → Js.nodes x ≤ 1073741824 → JV w S x vs → JV w S y us → Calls Tryz.prog 58 #[.agg (Value.string (str nm) :: vs).toArray, .agg (Value.string (str nm2) :: us).toArray] w fun e w' => e = .returned (.bool (decide (nm = nm2) && Js.same x y)) ∧ Below w.heap.size w w') (l l' : List (Js.Bs × Js.J)) (A A' : Option Addr) (c c' : Nat) (S : Nat → Prop) (w : World) (hl : JM w S A 0 l) (hl' : JM w S A' 0 l') (hN : Js.nodesM l ≤ N) (hn : Js.nodesM l ≤ 1073741824) :
  Calls Tryz.prog 57 #[.slice A l.length c, .slice A' l'.length c', .func (.func 58) #[] #[]] w fun e w' => e = .returned (.bool (Js.sameM l l')) ∧ Below w.heap.size w w' := by
 have HL := Lib.hid hl
 have HL' := Lib.hid hl'
 have IH := Lib.hid ih
 have hll := Js.length_nodesM l
 clear hl hl' ih
 by_cases heq : l.length = l'.length
 rotate_left
 ·have HF : Hid (Js.sameM l l' = false) := Lib.hid (Js.sameM_nlen heq)
  have hb : ((l.length : Int) == (l'.length : Int)) = false := by rw [beq_eq_false_iff_ne]; omega
  go_enter Tryz.func57, Tryz.ntmps57
  go_wp2_with fail
  go_ret
  exact ⟨ret_bool HF.out.symm, Below.refl _ _⟩
 have HEQ := Lib.hid heq
 rw [← heq]
 clear heq
 go_enter Tryz.func57, Tryz.ntmps57
 go_wp2_with fail
 go_loopw [7, 17] (fun _ i wr => ∃ k : Nat, k ≤ l.length ∧ i = .int .i64 k ∧ Hid (Js.sameM (l.take k) (l'.take k) = true) ∧ Hid (Below w.heap.size w wr)) (fun _ i _ => l.length - (intOf i).toNat)
 case atStart => exact ⟨0, Nat.zero_le _, rfl, Lib.hid (by simp [Js.sameM]), Lib.hid (Below.refl _ _)⟩
 case round =>
  obtain ⟨k, hk, rfl, HS, HW⟩ := hrel
  by_cases hlt : k < l.length
  ·obtain ⟨nm, x, hx⟩ : ∃ nm x, l[k]? = some (nm, x) := ⟨l[k].1, l[k].2, List.getElem?_eq_getElem hlt⟩
   obtain ⟨nm2, y, hy⟩ : ∃ nm2 y, l'[k]? = some (nm2, y) := ⟨l'[k].1, l'[k].2, List.getElem?_eq_getElem (by have := HEQ.out; omega)⟩
   obtain ⟨g, o, k1, b1, n1, t1, A7, l7, c7, A8, l8, c8, hA, hSg, hg, q0, q1, q2, q3, q4, q5, q6, hjx⟩ := (HL.out.next HW.out).elem hx
   subst hA
   have hbel := below_box wr (.cells #[.string (str nm), .int .i64 k1, .bool b1, .int .i64 n1, .string t1, .slice A7 l7 c7, .slice A8 l8 c8] 89)
   have HBx : Hid ((wr.alloc (.cells #[.string (str nm), .int .i64 k1, .bool b1, .int .i64 n1, .string t1, .slice A7 l7 c7, .slice A8 l8 c8] 89)).heap[wr.heap.size]? = some (.cells #[.string (str nm), .int .i64 k1, .bool b1, .int .i64 n1, .string t1, .slice A7 l7 c7, .slice A8 l8 c8] 89 (0, 0))) := Lib.hid (heap_alloc_new wr (.cells #[.string (str nm), .int .i64 k1, .bool b1, .int .i64 n1, .string t1, .slice A7 l7 c7, .slice A8 l8 c8] 89))
   have HW1 := Lib.hid (HW.out.trans (hbel.mono HW.out.size))
   have HJx := Lib.hid (hjx.next hbel)
   have hs1 : (wr.alloc (.cells #[.string (str nm), .int .i64 k1, .bool b1, .int .i64 n1, .string t1, .slice A7 l7 c7, .slice A8 l8 c8] 89)).heap.size = wr.heap.size + 1 := by simp
   obtain ⟨p1, p2, p3⟩ := Js.nodesM_split l k nm x hx
   have hsn := Js.sameM_snoc HEQ.out hx hy
   rw [HS.out, Bool.true_and] at hsn
   have HSN := Lib.hid hsn
   have HY := Lib.hid hy
   have hpn : Js.nodes x ≤ N := by omega
   have hpn2 : Js.nodes x ≤ 1073741824 := by omega
   clear hjx hbel p1 p2 p3 hSg hsn hx hy
   go_upto_region 6 with fail
   generalize (wr.alloc (.cells #[.string (str nm), .int .i64 k1, .bool b1, .int .i64 n1, .string t1, .slice A7 l7 c7, .slice A8 l8 c8] 89)) = w1 at HBx HW1 HJx hs1 ⊢
   obtain ⟨Y, hY⟩ : ∃ Y, wr.heap.size = Y := ⟨_, rfl⟩
   rw [hY] at HBx hs1 ⊢
   clear q0 q1 q2 q3 q4 q5 q6 hY hg
   obtain ⟨g2, o2, k2, b2, n2, t2, B7, m7, d7, B8, m8, d8, hA, hSg, hg, r0, r1, r2, r3, r4, r5, r6, hjy⟩ := (HL'.out.next HW1.out).elem HY.out
   subst hA
   have hbel := below_box w1 (.cells #[.string (str nm2), .int .i64 k2, .bool b2, .int .i64 n2, .string t2, .slice B7 m7 d7, .slice B8 m8 d8] 89)
   have HBy : Hid ((w1.alloc (.cells #[.string (str nm2), .int .i64 k2, .bool b2, .int .i64 n2, .string t2, .slice B7 m7 d7, .slice B8 m8 d8] 89)).heap[w1.heap.size]? = some (.cells #[.string (str nm2), .int .i64 k2, .bool b2, .int .i64 n2, .string t2, .slice B7 m7 d7, .slice B8 m8 d8] 89 (0, 0))) := Lib.hid (heap_alloc_new w1 (.cells #[.string (str nm2), .int .i64 k2, .bool b2, .int .i64 n2, .string t2, .slice B7 m7 d7, .slice B8 m8 d8] 89))
   have HBx2 := Lib.hid (blk_next hbel HBx.out)
   have HW2 := Lib.hid (HW1.out.trans (hbel.mono HW1.out.size))
   have HJx2 := Lib.hid (HJx.out.next hbel)
   have HJy2 := Lib.hid (hjy.next hbel)
   clear hbel hjy HBx HW1 HJx hSg
   go_upto_region 7 with fail
   generalize (w1.alloc (.cells #[.string (str nm2), .int .i64 k2, .bool b2, .int .i64 n2, .string t2, .slice B7 m7 d7, .slice B8 m8 d8] 89)) = w2 at HBy HBx2 HW2 HJx2 HJy2 ⊢
   rw [hs1] at HBy
   clear r0 r1 r2 r3 r4 r5 r6 hs1 hg
   obtain ⟨x0, x1, x2, x3, x4, x5, x6⟩ := blk7 HBx2.out
   obtain ⟨z0, z1, z2, z3, z4, z5, z6⟩ := blk7 HBy.out
   go_wp2_with fail
   refine (IH.out nm nm2 x y _ _ S w2 hpn hpn2 HJx2.out HJy2.out).mono ?_
   rintro e w3 ⟨rfl, hb3⟩
   have HW3 := Lib.hid (HW2.out.trans (hb3.mono HW2.out.size))
   obtain ⟨q, hq⟩ : ∃ q, (decide (nm = nm2) && Js.same x y) = q := ⟨_, rfl⟩
   rw [hq] at HSN ⊢
   clear hb3 HW2 HJx2 HJy2 HBx2 HBy hq HW
   cases q
   ·have HF : Hid (Js.sameM l l' = false) := Lib.hid (Js.sameM_false HEQ.out HSN.out)
    go_wp2_with fail
    go_ret
    exact ⟨ret_bool HF.out.symm, HW3.out⟩
   ·go_wp2_with fail
    go_roundw
    case rel => exact ⟨k + 1, by omega, by go_num, HSN, HW3⟩
    case measure => simp [intOf]; omega
  ·obtain rfl : k = l.length := by omega
   have HF : Hid (Js.sameM l l' = true) := Lib.hid (by
    have := HS.out
    rw [List.take_length, HEQ.out, List.take_length] at this
    exact this)
   go_wp2_with fail
   go_ret
   exact ⟨ret_bool HF.out.symm, HW.out⟩

set_option maxRecDepth 100000 in
set_option maxHeartbeats 8000000 in
theorem same_step (N : Nat) (ih : SameC 30 N) : SameC 30 (N + 1) := by
 intro x y vs us S w hN hn hjx hjy
 cases x with | mk k0 b0 n0 t0 l m =>
 cases y with | mk k9 b9 n9 t9 l' m' =>
 have HX := hjx
 have HY := hjy
 unfold JV at hjx hjy
 obtain ⟨A5, c5, A6, c6, rfl, -, -, -, -⟩ := hjx
 obtain ⟨B5, d5, B6, d6, rfl, -, -, -, -⟩ := hjy
 have hb1 := below_box w (.cells #[.int .i64 k0, .bool b0, .int .i64 n0, .string (str t0), .slice A5 l.length c5, .slice A6 m.length c6] 25)
 have s1 : (w.alloc (.cells #[.int .i64 k0, .bool b0, .int .i64 n0, .string (str t0), .slice A5 l.length c5, .slice A6 m.length c6] 25)).heap.size = w.heap.size + 1 := by simp
 have e1 := heap_alloc_new w (.cells #[.int .i64 k0, .bool b0, .int .i64 n0, .string (str t0), .slice A5 l.length c5, .slice A6 m.length c6] 25)
 have hb2 := below_box (w.alloc (.cells #[.int .i64 k0, .bool b0, .int .i64 n0, .string (str t0), .slice A5 l.length c5, .slice A6 m.length c6] 25)) (.cells #[.int .i64 k9, .bool b9, .int .i64 n9, .string (str t9), .slice B5 l'.length d5, .slice B6 m'.length d6] 25)
 have e2 := heap_alloc_new (w.alloc (.cells #[.int .i64 k0, .bool b0, .int .i64 n0, .string (str t0), .slice A5 l.length c5, .slice A6 m.length c6] 25)) (.cells #[.int .i64 k9, .bool b9, .int .i64 n9, .string (str t9), .slice B5 l'.length d5, .slice B6 m'.length d6] 25)
 rw [s1] at e2
 have HE1 := Lib.hid (blk_next hb2 e1)
 have HE2 := Lib.hid e2
 have HX2 := Lib.hid ((HX.next hb1).next hb2)
 have HY2 := Lib.hid ((HY.next hb1).next hb2)
 have HW2 := Lib.hid (hb1.trans (hb2.mono (by rw [s1]; omega)))
 have hst := str_beq t0 t9
 have hnodes : 1 + Js.nodesL l + Js.nodesM m ≤ N + 1 := hN
 have hnodes2 : 1 + Js.nodesL l + Js.nodesM m ≤ 1073741824 := hn
 clear hb1 hb2 e1 e2 s1 HX HY hN hn
 have IH := Lib.hid ih
 clear ih
 have HS : Hid (Js.same (.mk k0 b0 n0 t0 l m) (.mk k9 b9 n9 t9 l' m') = (decide (k0 = k9) && (decide (k0 ≠ 2) || decide (b0 = b9)) && (decide (k0 ≠ 3) || decide (n0 = n9)) && (decide (k0 ≠ 4) || decide (t0 = t9)) && (decide (k0 ≠ 5) || Js.sameL l l') && (decide (k0 ≠ 6) || Js.sameM m m'))) := Lib.hid (by rw [Js.same])
 generalize Js.same (.mk k0 b0 n0 t0 l m) (.mk k9 b9 n9 t9 l' m') = R at HS ⊢
 go_enter Tryz.func30, Tryz.ntmps30
 go_upto_region 1 with fail
 generalize ((w.alloc (.cells #[.int .i64 k0, .bool b0, .int .i64 n0, .string (str t0), .slice A5 l.length c5, .slice A6 m.length c6] 25)).alloc (.cells #[.int .i64 k9, .bool b9, .int .i64 n9, .string (str t9), .slice B5 l'.length d5, .slice B6 m'.length d6] 25)) = w2 at HE1 HE2 HX2 HY2 HW2 ⊢
 obtain ⟨x0, x1, x2, x3, x4, x5⟩ := blk6 HE1.out
 obtain ⟨z0, z1, z2, z3, z4, z5⟩ := blk6 HE2.out
 by_cases hk : k0 = k9
 rotate_left
 ·have hR : R = false := by rw [HS.out, decide_eq_false hk]; simp
  have hb : (k0 != k9) = true := by simpa using hk
  subst hR
  clear hk
  go_wp2_with fail
  go_ret
  exact ⟨rfl, HW2.out⟩
 subst hk
 have hkk : (k0 != k0) = false := by simp
 by_cases h2 : k0 = 2
 ·subst h2
  have hR : R = decide (b0 = b9) := by rw [HS.out]; simp
  subst hR
  go_wp2_with fail
  go_ret
  exact ⟨ret_bool (by cases b0 <;> cases b9 <;> rfl), HW2.out⟩
 have q2 : (k0 == 2) = false := by rw [beq_eq_false_iff_ne]; exact h2
 by_cases h3 : k0 = 3
 ·subst h3
  have hR : R = decide (n0 = n9) := by rw [HS.out]; simp
  subst hR
  go_wp2_with fail
  go_ret
  exact ⟨ret_bool (by rw [Bool.eq_iff_iff]; simp), HW2.out⟩
 have q3 : (k0 == 3) = false := by rw [beq_eq_false_iff_ne]; exact h3
 by_cases h4 : k0 = 4
 ·subst h4
  have hR : R = decide (t0 = t9) := by rw [HS.out]; simp
  subst hR
  go_wp2_with fail
  go_ret
  exact ⟨ret_bool rfl, HW2.out⟩
 have q4 : (k0 == 4) = false := by rw [beq_eq_false_iff_ne]; exact h4
 by_cases h5 : k0 = 5
 ·subst h5
  have hR : R = Js.sameL l l' := by rw [HS.out]; simp
  subst hR
  have hl := HX2.out
  have hl' := HY2.out
  unfold JV at hl hl'
  obtain ⟨_, _, _, _, hvs, -, -, hl, -⟩ := hl
  simp only [List.cons.injEq, Value.slice.injEq, and_true, true_and] at hvs
  obtain ⟨⟨rfl, rfl⟩, rfl, rfl⟩ := hvs
  obtain ⟨_, _, _, _, hvs, -, -, hl', -⟩ := hl'
  simp only [List.cons.injEq, Value.slice.injEq, and_true, true_and] at hvs
  obtain ⟨⟨rfl, rfl⟩, rfl, rfl⟩ := hvs
  have HC := Lib.hid (eq_items N IH.out l l' A5 B5 c5 d5 S w2 hl hl' (by omega) (by omega))
  clear hl hl'
  go_wp2_with fail
  refine HC.out.mono ?_
  rintro e w3 ⟨rfl, hb3⟩
  have HW3 := Lib.hid (HW2.out.trans (hb3.mono HW2.out.size))
  clear hb3
  go_wp2_with fail
  go_ret
  exact ⟨rfl, HW3.out⟩
 have q5 : (k0 == 5) = false := by rw [beq_eq_false_iff_ne]; exact h5
 by_cases h6 : k0 = 6
 ·subst h6
  have hR : R = Js.sameM m m' := by rw [HS.out]; simp
  subst hR
  have hl := HX2.out
  have hl' := HY2.out
  unfold JV at hl hl'
  obtain ⟨_, _, _, _, hvs, -, -, -, hl⟩ := hl
  simp only [List.cons.injEq, Value.slice.injEq, and_true, true_and] at hvs
  obtain ⟨⟨rfl, rfl⟩, rfl, rfl⟩ := hvs
  obtain ⟨_, _, _, _, hvs, -, -, -, hl'⟩ := hl'
  simp only [List.cons.injEq, Value.slice.injEq, and_true, true_and] at hvs
  obtain ⟨⟨rfl, rfl⟩, rfl, rfl⟩ := hvs
  have HC := Lib.hid (eq_members N (mem_same N IH.out) m m' A6 B6 c6 d6 S w2 hl hl' (by omega) (by omega))
  clear hl hl'
  go_wp2_with fail
  refine HC.out.mono ?_
  rintro e w3 ⟨rfl, hb3⟩
  have HW3 := Lib.hid (HW2.out.trans (hb3.mono HW2.out.size))
  clear hb3
  go_wp2_with fail
  go_ret
  exact ⟨rfl, HW3.out⟩
 have q6 : (k0 == 6) = false := by rw [beq_eq_false_iff_ne]; exact h6
 have hR : R = true := by rw [HS.out]; simp [h2, h3, h4, h5, h6]
 subst hR
 clear h2 h3 h4 h5 h6
 go_wp2_with fail
 go_ret
 exact ⟨rfl, HW2.out⟩
theorem same_any : ∀ N, SameC 30 N
 | 0 => fun x y vs us S w hN => absurd hN (by have := Js.nodes_pos x; omega)
 | N + 1 => same_step N (same_any N)
end Go.Proofs.YtimioelnnhnbiaaGreatDoor
namespace Go.Proofs.YtimioelnnhnbiaaGreatDoor
open Go.RowKit
namespace Js
def getM : List (Bs × J) → Bs → Option J
 | [], _ => none
 | (n, x) :: t, nm => if n = nm then some x else getM t nm
def getOf (x : J) (nm : Bs) : Option J := if x.kind = 6 then getM x.members nm else none
theorem getM_hit : ∀ {l : List (Bs × J)} {nm : Bs} {k : Nat} {x : J}, l[k]? = some (nm, x) → getM (l.take k) nm = none → getM l nm = some x
 | [], nm, k, x, h, _ => by simp at h
 | (n, y) :: t, nm, 0, x, h, _ => by
  simp at h
  obtain ⟨rfl, rfl⟩ := h
  simp [getM]
 | (n, y) :: t, nm, k + 1, x, h, hn => by
  rw [List.take_succ_cons, getM] at hn
  split at hn
  ·cases hn
  ·rename_i hne
   rw [getM, if_neg hne]
   exact getM_hit (by simpa using h) hn
theorem getM_step : ∀ {l : List (Bs × J)} {nm n : Bs} {k : Nat} {x : J}, l[k]? = some (n, x) → getM (l.take k) nm = none → n ≠ nm → getM (l.take (k + 1)) nm = none
 | [], nm, n, k, x, h, _, _ => by simp at h
 | (n0, y) :: t, nm, n, 0, x, h, _, hne => by
  simp at h
  obtain ⟨rfl, rfl⟩ := h
  simp [getM, hne]
 | (n0, y) :: t, nm, n, k + 1, x, h, hn, hne => by
  rw [List.take_succ_cons, getM] at hn
  split at hn
  ·cases hn
  ·rename_i hne0
   rw [List.take_succ_cons, getM, if_neg hne0]
   exact getM_step (by simpa using h) hn hne
end Js
theorem results_cell_tmp {fn : Func} {p q : Tmp} {ty : TypeId} (h : fn.results = #[.cell p ty, .tmp q]) (tmps : Array Value) (P : Program) (w : World) (g : Nat) (cs : Array Value)
  (hp : tmps.getD p undef = .pointer (some ⟨g, 0, none⟩)) (hl : (loadVar ty ⟨g, 0, none⟩).run P w = .ok (.agg cs) w) :
  (results fn tmps).run P w = .ok (.tuple #[.agg cs, tmps.getD q undef]) w := by
 rw [Array.getD_eq_getD_getElem?] at hp
 simp [results, h, hp, asAddr, hl]
def GetOut (S : Nat → Prop) (w : World) (x : Js.J) (nm : Js.Bs) (e : Ending) (w' : World) : Prop :=
 Below w.heap.size w w' ∧ match Js.getOf x nm with
  | some y => ∃ us, e = .returned (.tuple #[.agg us.toArray, .bool true]) ∧ JV w' S y us
  | none => e = .returned (.tuple #[.agg #[.int .i64 0, .bool false, .int .i64 0, .string ⟨#[]⟩, .slice none 0 0, .slice none 0 0], .bool false])
theorem getOut_none {S : Nat → Prop} {w w' : World} {x : Js.J} {nm : Js.Bs} {e : Ending} (h : Js.getOf x nm = none) (hb : Below w.heap.size w w') (he : e = .returned (.tuple #[.agg #[.int .i64 0, .bool false, .int .i64 0, .string ⟨#[]⟩, .slice none 0 0, .slice none 0 0], .bool false])) : GetOut S w x nm e w' := by
 unfold GetOut; rw [h]; exact ⟨hb, he⟩
theorem getOut_some {S : Nat → Prop} {w w' : World} {x y : Js.J} {nm : Js.Bs} {e : Ending} {us : List Value} (h : Js.getOf x nm = some y) (hb : Below w.heap.size w w') (he : e = .returned (.tuple #[.agg us.toArray, .bool true])) (hj : JV w' S y us) : GetOut S w x nm e w' := by
 unfold GetOut; rw [h]; exact ⟨hb, us, he, hj⟩
set_option maxRecDepth 100000 in
set_option maxHeartbeats 8000000 in
theorem get_any (x : Js.J) (nm : Js.Bs) (vs : List Value) (S : Nat → Prop) (w : World) (hjv : JV w S x vs) (hSw : ∀ g, S g → g < w.heap.size) (hn : Js.nodes x ≤ 1073741824) :
  Calls Tryz.prog 54 #[.agg vs.toArray, .string (str nm)] w (GetOut S w x nm) := by
 cases x with | mk k0 b0 n0 t0 l m =>
 have HJ := Lib.hid hjv
 unfold JV at hjv
 obtain ⟨A5, c5, A6, c6, rfl, -, -, -, -⟩ := hjv
 have b1 := below_box w (.cells #[.int .i64 k0, .bool b0, .int .i64 n0, .string (str t0), .slice A5 l.length c5, .slice A6 m.length c6] 25)
 have s1 : (w.alloc (.cells #[.int .i64 k0, .bool b0, .int .i64 n0, .string (str t0), .slice A5 l.length c5, .slice A6 m.length c6] 25)).heap.size = w.heap.size + 1 := by simp
 have e1 : JBox _ _ _ _ _ _ _ _ := heap_alloc_new w (.cells #[.int .i64 k0, .bool b0, .int .i64 n0, .string (str t0), .slice A5 l.length c5, .slice A6 m.length c6] 25)
 have b2 := below_box (w.alloc (.cells #[.int .i64 k0, .bool b0, .int .i64 n0, .string (str t0), .slice A5 l.length c5, .slice A6 m.length c6] 25)) (.cells #[.int .i64 0, .bool false, .int .i64 0, .string ⟨#[]⟩, .slice none 0 0, .slice none 0 0] 25)
 have e2 : JBox _ _ _ _ _ _ _ _ := heap_alloc_new (w.alloc (.cells #[.int .i64 k0, .bool b0, .int .i64 n0, .string (str t0), .slice A5 l.length c5, .slice A6 m.length c6] 25)) (.cells #[.int .i64 0, .bool false, .int .i64 0, .string ⟨#[]⟩, .slice none 0 0, .slice none 0 0] 25)
 rw [s1] at e2
 have HE1 := Lib.hid (e1.next b2)
 have HE2 := Lib.hid e2
 have HJ2 := Lib.hid ((HJ.out.next b1).next b2)
 have HW2 := Lib.hid (b1.trans (b2.mono (by rw [s1]; omega)))
 have hml := Js.length_nodesM m
 have hnodes : 1 + Js.nodesL l + Js.nodesM m ≤ 1073741824 := hn
 have HG : Hid (Js.getOf (.mk k0 b0 n0 t0 l m) nm = if k0 = 6 then Js.getM m nm else none) := Lib.hid rfl
 clear b1 b2 e1 e2 s1 HJ hn
 go_enter Tryz.func54, Tryz.ntmps54
 go_upto_region 1 with fail
 generalize ((w.alloc (.cells #[.int .i64 k0, .bool b0, .int .i64 n0, .string (str t0), .slice A5 l.length c5, .slice A6 m.length c6] 25)).alloc (.cells #[.int .i64 0, .bool false, .int .i64 0, .string ⟨#[]⟩, .slice none 0 0, .slice none 0 0] 25)) = w2 at HE1 HE2 HJ2 HW2 ⊢
 obtain ⟨x0, x1, x2, x3, x4, x5⟩ := HE1.out.cells
 obtain ⟨f0, f1, f2, f3, f4, f5⟩ := HE2.out.frees
 obtain ⟨z0, z1, z2, z3, z4, z5⟩ := HE2.out.cells
 by_cases h6 : k0 = 6
 rotate_left
 ·have hb : (k0 != 6) = true := by simpa using h6
  have HN : Hid (Js.getOf (.mk k0 b0 n0 t0 l m) nm = none) := Lib.hid (by rw [HG.out, if_neg h6])
  obtain ⟨hk, hx⟩ := j25_set (.int .i64 0) (.bool false) (.int .i64 0) (.string ⟨#[]⟩) (.slice none 0 0) (.slice none 0 0) HE2.out
  have HK := Lib.hid hk
  have HX := Lib.hid hx
  clear h6 hk hx
  go_wp2_with fail
  refine bodyPost_ret (results_cell_tmp rfl _ _ _ (w.heap.size + 1) #[.int .i64 0, .bool false, .int .i64 0, .string ⟨#[]⟩, .slice none 0 0, .slice none 0 0] rfl (j25_load HX.out)) rfl ?_
  exact getOut_none HN.out (HW2.out.trans (HK.out.to HW2.out.size (by intro j hj; simp at hj; omega))) rfl
 have hb : ((6 : Int) != 6) = false := by decide
 subst h6
 have HG6 : Hid (Js.getOf (.mk 6 b0 n0 t0 l m) nm = Js.getM m nm) := Lib.hid (by rw [HG.out, if_pos rfl])
 have hmm := HJ2.out
 unfold JV at hmm
 obtain ⟨_, _, _, _, hvs, -, -, -, hmm⟩ := hmm
 simp only [List.cons.injEq, Value.slice.injEq, and_true, true_and] at hvs
 obtain ⟨⟨rfl, rfl⟩, rfl, rfl⟩ := hvs
 have HM := Lib.hid hmm
 clear hmm HG HJ2
 go_wp2_with fail
 clear x0 x1 x2 x3 x4 x5 z0 z1 z2 z3 z4 z5 f0 f1 f2 f3 f4 f5
 go_loopw [15] (fun i wr => ∃ k : Nat, k ≤ m.length ∧ i = .int .i64 k ∧ Hid (Js.getM (m.take k) nm = none) ∧ Hid (Below w2.heap.size w2 wr)) (fun i _ => m.length - (intOf i).toNat)
 case atStart => exact ⟨0, Nat.zero_le _, rfl, Lib.hid rfl, Lib.hid (Below.refl _ _)⟩
 case round =>
  obtain ⟨k, hk, rfl, HS, HW⟩ := hrel
  by_cases hlt : k < m.length
  ·obtain ⟨n9, y, hy⟩ : ∃ n9 y, m[k]? = some (n9, y) := ⟨m[k].1, m[k].2, List.getElem?_eq_getElem hlt⟩
   obtain ⟨g, o, k1, b1, n1, t1, A7, l7, c7, A8, l8, c8, hA, hSg, hg, q0, q1, q2, q3, q4, q5, q6, hjy⟩ := (JM.next HM.out HW.out).elem hy
   subst hA
   have hbel := below_box wr (.cells #[.string (str n9), .int .i64 k1, .bool b1, .int .i64 n1, .string t1, .slice A7 l7 c7, .slice A8 l8 c8] 89)
   have HB := Lib.hid (heap_alloc_new wr (.cells #[.string (str n9), .int .i64 k1, .bool b1, .int .i64 n1, .string t1, .slice A7 l7 c7, .slice A8 l8 c8] 89))
   have HW1 := Lib.hid (HW.out.trans (hbel.mono HW.out.size))
   have HJy := Lib.hid (hjy.next hbel)
   have HE := Lib.hid (HE2.out.next (HW.out.trans (hbel.mono HW.out.size)))
   have HY := Lib.hid hy
   clear hbel hjy hSg hy
   go_upto_region 6 with fail
   generalize (wr.alloc (.cells #[.string (str n9), .int .i64 k1, .bool b1, .int .i64 n1, .string t1, .slice A7 l7 c7, .slice A8 l8 c8] 89)) = w3 at HB HW1 HJy HE ⊢
   generalize wr.heap.size = Y at HB ⊢
   clear q0 q1 q2 q3 q4 q5 q6 hg
   obtain ⟨y0, y1, y2, y3, y4, y5, y6⟩ := blk7 HB.out
   have hst := str_beq n9 nm
   by_cases hnm : n9 = nm
   ·have HR : Hid (Js.getOf (.mk 6 b0 n0 t0 l m) nm = some y) := Lib.hid (by rw [HG6.out]; exact Js.getM_hit (by rw [← hnm]; exact HY.out) HS.out)
    rw [decide_eq_true hnm] at hst
    obtain ⟨f0, f1, f2, f3, f4, f5⟩ := HE.out.frees
    obtain ⟨z0, z1, z2, z3, z4, z5⟩ := HE.out.cells
    obtain ⟨hk4, hx4⟩ := j25_set (.int .i64 k1) (.bool b1) (.int .i64 n1) (.string t1) (.slice A7 l7 c7) (.slice A8 l8 c8) HE.out
    have HK := Lib.hid hk4
    have HX := Lib.hid hx4
    have HWW := Lib.hid (HW2.out.trans (HW1.out.mono HW2.out.size))
    clear hk4 hx4 hnm
    go_wp2_with fail
    refine bodyPost_ret (results_cell_tmp rfl _ _ _ (w.heap.size + 1) #[.int .i64 k1, .bool b1, .int .i64 n1, .string t1, .slice A7 l7 c7, .slice A8 l8 c8] rfl (j25_load HX.out)) rfl ?_
    refine getOut_some HR.out (HWW.out.trans (HK.out.to HWW.out.size (by intro j hj; simp at hj; omega))) rfl ?_
    exact HJy.out.but HK.out (by intro j hj; simp at hj; subst hj; intro hS'; exact absurd (hSw _ hS') (by omega))
   ·have HN : Hid (Js.getM (m.take (k + 1)) nm = none) := Lib.hid (Js.getM_step HY.out HS.out hnm)
    rw [decide_eq_false hnm] at hst
    clear hnm
    go_wp2_with fail
    go_roundw
    case rel => exact ⟨k + 1, by omega, by go_num, HN, HW1⟩
    case measure => simp [intOf]; omega
  ·obtain rfl : k = m.length := by omega
   have HN : Hid (Js.getOf (.mk 6 b0 n0 t0 l m) nm = none) := Lib.hid (by
    rw [HG6.out]
    have := HS.out
    rwa [List.take_length] at this)
   have HE := Lib.hid (HE2.out.next HW.out)
   obtain ⟨f0, f1, f2, f3, f4, f5⟩ := HE.out.frees
   obtain ⟨z0, z1, z2, z3, z4, z5⟩ := HE.out.cells
   obtain ⟨hk4, hx4⟩ := j25_set (.int .i64 0) (.bool false) (.int .i64 0) (.string ⟨#[]⟩) (.slice none 0 0) (.slice none 0 0) HE.out
   have HK := Lib.hid hk4
   have HX := Lib.hid hx4
   have HWW := Lib.hid (HW2.out.trans (HW.out.mono HW2.out.size))
   clear hk4 hx4
   go_wp2_with fail
   refine bodyPost_ret (results_cell_tmp rfl _ _ _ (w.heap.size + 1) #[.int .i64 0, .bool false, .int .i64 0, .string ⟨#[]⟩, .slice none 0 0, .slice none 0 0] rfl (j25_load HX.out)) rfl ?_
   exact getOut_none HN.out (HWW.out.trans (HK.out.to HWW.out.size (by intro j hj; simp at hj; omega))) rfl
end Go.Proofs.YtimioelnnhnbiaaGreatDoor
namespace Go.Proofs.YtimioelnnhnbiaaGreatDoor
open Go.RowKit
theorem setCells_row {b : Nat} {t : TypeId} {fz : Nat × Nat} : ∀ (vs : List Value) (o : Nat) (w : World) (cs : Array Value), w.heap[b]? = some (.cells cs t fz) →
  But [b] w (w.setCells b o vs) ∧ ∃ cs', (w.setCells b o vs).heap[b]? = some (.cells cs' t fz) ∧ cs'.size = cs.size ∧ ∀ i, i < cs.size → cs'[i]? = if o ≤ i ∧ i < o + vs.length then vs[i - o]? else cs[i]?
 | [], o, w, cs, h => ⟨But.refl _ _, cs, h, rfl, fun i hi => by rw [if_neg (by rw [List.length_nil]; omega)]⟩
 | v :: r, o, w, cs, h => by
  obtain ⟨h1, h2⟩ := but_set (i := o) v h
  obtain ⟨h3, cs', h4, h5, h6⟩ := setCells_row r (o + 1) (w.setCell ⟨b, o, none⟩ v) _ h2
  refine ⟨h1.trans h3, cs', h4, by rw [h5, Array.size_setIfInBounds], fun i hi => ?_⟩
  rw [h6 i (by rw [Array.size_setIfInBounds]; exact hi)]
  by_cases hio : o = i
  ·subst hio
   rw [if_neg (by omega), if_pos (by simp)]
   simp [Array.getElem?_setIfInBounds, hi]
  ·rw [Array.getElem?_setIfInBounds_ne hio]
   by_cases h7 : o + 1 ≤ i ∧ i < o + 1 + r.length
   ·rw [if_pos h7, if_pos (by rw [List.length_cons]; omega), show i - o = (i - (o + 1)) + 1 by omega, List.getElem?_cons_succ]
   ·rw [if_neg h7, if_neg (by rw [List.length_cons]; omega)]
section
variable {ops : Array Oper} {rest : List Oper} {op : Oper} {a : Act} {w : World} {Q : Exit → Act → World → Prop}
theorem wpList_load_row (hgd : op.guard = none) (t : TypeId) (x : Operand) (ho : op.op = .load t x) (b : Nat) (hx : a.eval x = .pointer (some ⟨b, 0, none⟩)) (C : Array Value) (h : w.heap[b]? = some (.cells C t (0, 0)))
  (d : TypeDesc) (hu : Tryz.prog.underlying t = some d) (hd : d.isRow = true) (hi : (Tryz.prog.info? t).map (·.size) = some C.size) (k : wpList Tryz.prog ops Q rest (a.put op.dst (.agg C)) w) : wpList Tryz.prog ops Q (op :: rest) a w :=
 wpList_load_mid hgd t x ho b 0 hx C.toList d (fun j v hv => (blk_cells h (0 + j)).trans (by rw [Nat.zero_add]; simpa using hv)) hu hd (by rw [hi]; simp) (by simpa using k)
theorem store_row {b : Nat} {t : TypeId} {fz : Nat × Nat} {C D : Array Value} (h : w.heap[b]? = some (.cells C t fz)) (hsz : C.size = D.size) : But [b] w (w.setCells b 0 D.toList) ∧ (w.setCells b 0 D.toList).heap[b]? = some (.cells D t fz) := by
 obtain ⟨h1, cs', h2, h3, h4⟩ := setCells_row D.toList 0 w C h
 refine ⟨h1, ?_⟩
 rw [h2]
 have : cs' = D := by
  apply Array.ext_getElem?
  intro i
  by_cases hi : i < C.size
  ·rw [h4 i hi, if_pos (by simp; omega)]; simp
  ·rw [Array.getElem?_eq_none (by omega), Array.getElem?_eq_none (by omega)]
 rw [this]
theorem wpList_store_row (hgd : op.guard = none) (t : TypeId) (x y : Operand) (ho : op.op = .store t x y) (b : Nat) (hx : a.eval x = .pointer (some ⟨b, 0, none⟩)) (C D : Array Value) (hy : a.eval y = .agg D) (h : w.heap[b]? = some (.cells C t (0, 0)))
  (hsz : C.size = D.size) (hi : (Tryz.prog.info? t).map (·.size) = some D.size) (h1 : ∀ v ∈ D.toList, v.oneCell' = true) (k : ∀ w', But [b] w w' → w'.heap[b]? = some (.cells D t (0, 0)) → wpList Tryz.prog ops Q rest (a.put op.dst undef) w') : wpList Tryz.prog ops Q (op :: rest) a w := by
 obtain ⟨h2, h3⟩ := store_row h hsz
 refine wpList_store_mid hgd t x y ho b 0 D hx hy (fun j hj => ?_) hi (Array.all_eq_true_iff_forall_mem.2 (fun v hv => h1 v (by simpa using hv))) (k _ h2 h3)
 refine ⟨?_, blk_free h _⟩
 rw [blk_cells h (0 + j), Nat.zero_add, Array.getElem?_eq_getElem (by omega)]
 rfl
end
theorem idC_one (I : Nat → UInt8) : ∀ v ∈ (idA I).toList, v.oneCell' = true := by
 intro v hv
 unfold idA idC at hv
 simp only [List.mem_cons, List.not_mem_nil, or_false] at hv
 rcases hv with rfl | rfl | rfl | rfl | rfl | rfl | rfl | rfl | rfl | rfl | rfl | rfl | rfl | rfl | rfl | rfl | rfl | rfl | rfl | rfl | rfl | rfl | rfl | rfl | rfl | rfl | rfl | rfl | rfl | rfl | rfl | rfl <;> rfl
theorem idA_size (I : Nat → UInt8) : (idA I).size = 32 := rfl
theorem id_load {w : World} {b : Nat} {I : Nat → UInt8} (h : w.heap[b]? = some (.cells (idA I) 29 (0, 0))) : (loadVar 29 ⟨b, 0, none⟩).run Tryz.prog w = .ok (.agg (idA I)) w :=
 run_loadVar_row w b 29 29 (idA I) (0, 0) _ h und29 rfl (by rw [info29]; rfl)
end Go.Proofs.YtimioelnnhnbiaaGreatDoor
namespace Go.Proofs.YtimioelnnhnbiaaGreatDoor
open Go.RowKit
section
variable {ops : Array Oper} {rest : List Oper} {op : Oper} {a : Act} {w : World} {Q : Exit → Act → World → Prop}
theorem wpList_buildTo (hg : op.guard = none) (t : TypeId) (parts : Array (Nat × Operand)) (ho : op.op = .build t parts) (C : Array Value) (hb : Tryz.prog.built t (parts.map fun (i, x) => (i, a.eval x)).toList = some C)
  (k : wpList Tryz.prog ops Q rest (a.put op.dst (.agg C)) w) : wpList Tryz.prog ops Q (op :: rest) a w := by
 refine wpList_build hg t parts ho (by rw [hb]; rfl) ?_
 rw [hb]
 exact k
theorem built29 : Tryz.prog.built 29 [] = some (idA noId) := by kernel_rfl
theorem wpList_build29 (hg : op.guard = none) (ho : op.op = .build 29 #[]) (k : wpList Tryz.prog ops Q rest (a.put op.dst (.agg (idA noId))) w) : wpList Tryz.prog ops Q (op :: rest) a w :=
 wpList_buildTo hg 29 #[] ho _ (by rw [show (Array.map (fun (x : Nat × Operand) => (x.1, a.eval x.2)) #[]).toList = [] from by simp]; exact built29) k
end
set_option maxRecDepth 100000 in
set_option maxHeartbeats 8000000 in
theorem refId_leaf (I : Nat → UInt8) (w : World) : Calls Tryz.prog 40 #[.agg (idA I)] w fun e w' => e = .returned (.agg #[.int .i64 4, .bool false, .int .i64 0, .string (str (idS I)), .slice none 0 0, .slice none 0 0]) ∧ Below w.heap.size w w' := by
 have b1 := below_box w (.cells (idA I) 29)
 have s1 : (w.alloc (.cells (idA I) 29)).heap.size = w.heap.size + 1 := by simp
 have e1 := heap_alloc_new w (.cells (idA I) 29)
 have b2 := below_box (w.alloc (.cells (idA I) 29)) (.cells #[.int .i64 0, .bool false, .int .i64 0, .string ⟨#[]⟩, .slice none 0 0, .slice none 0 0] 25)
 have e2 : JBox _ _ _ _ _ _ _ _ := heap_alloc_new (w.alloc (.cells (idA I) 29)) (.cells #[.int .i64 0, .bool false, .int .i64 0, .string ⟨#[]⟩, .slice none 0 0, .slice none 0 0] 25)
 rw [s1] at e2
 have HE1 := Lib.hid (blk_next b2 e1)
 have HE2 := Lib.hid e2
 have HW2 := Lib.hid (b1.trans (b2.mono (by rw [s1]; omega)))
 clear b1 s1 e1 b2 e2
 have HID : Hid (idS I = if alikeId I noId then [] else idText I) := Lib.hid rfl
 go_enter Tryz.func40, Tryz.ntmps40
 go_upto_region 1 with fail
 generalize ((w.alloc (.cells (idA I) 29)).alloc (.cells #[.int .i64 0, .bool false, .int .i64 0, .string ⟨#[]⟩, .slice none 0 0, .slice none 0 0] 25)) = wq at HE1 HE2 HW2 ⊢
 obtain ⟨N, hN⟩ : ∃ N, w.heap.size = N := ⟨_, rfl⟩
 rw [hN] at HE1 HE2 ⊢
 have HN := Lib.hid hN
 clear hN
 have b3 := below_box wq (.cells #[.int .u8 0, .int .u8 0, .int .u8 0, .int .u8 0, .int .u8 0, .int .u8 0, .int .u8 0, .int .u8 0, .int .u8 0, .int .u8 0, .int .u8 0, .int .u8 0, .int .u8 0, .int .u8 0, .int .u8 0, .int .u8 0, .int .u8 0, .int .u8 0, .int .u8 0, .int .u8 0, .int .u8 0, .int .u8 0, .int .u8 0, .int .u8 0, .int .u8 0, .int .u8 0, .int .u8 0, .int .u8 0, .int .u8 0, .int .u8 0, .int .u8 0, .int .u8 0] 29)
 have hE3 : (wq.alloc (.cells #[.int .u8 0, .int .u8 0, .int .u8 0, .int .u8 0, .int .u8 0, .int .u8 0, .int .u8 0, .int .u8 0, .int .u8 0, .int .u8 0, .int .u8 0, .int .u8 0, .int .u8 0, .int .u8 0, .int .u8 0, .int .u8 0, .int .u8 0, .int .u8 0, .int .u8 0, .int .u8 0, .int .u8 0, .int .u8 0, .int .u8 0, .int .u8 0, .int .u8 0, .int .u8 0, .int .u8 0, .int .u8 0, .int .u8 0, .int .u8 0, .int .u8 0, .int .u8 0] 29)).heap[wq.heap.size]? = some (.cells (idA noId) 29 (0, 0)) := heap_alloc_new wq (.cells #[.int .u8 0, .int .u8 0, .int .u8 0, .int .u8 0, .int .u8 0, .int .u8 0, .int .u8 0, .int .u8 0, .int .u8 0, .int .u8 0, .int .u8 0, .int .u8 0, .int .u8 0, .int .u8 0, .int .u8 0, .int .u8 0, .int .u8 0, .int .u8 0, .int .u8 0, .int .u8 0, .int .u8 0, .int .u8 0, .int .u8 0, .int .u8 0, .int .u8 0, .int .u8 0, .int .u8 0, .int .u8 0, .int .u8 0, .int .u8 0, .int .u8 0, .int .u8 0] 29)
 go_upto_region 2 with (first | (refine wpList_build29 rfl rfl ?_) | (refine wpList_store_row rfl 29 _ _ rfl _ rfl (idA noId) (idA noId) rfl hE3 rfl (by rw [info29]; rfl) (idC_one _) ?_; intro w2 hk9 hx9))
 have b4 := b3.trans (hk9.to (by simp) (by intro j hj; simp at hj; omega))
 have HF1 := Lib.hid (blk_next b4 HE1.out)
 have HF2 := Lib.hid (HE2.out.next b4)
 have HF3 := Lib.hid hx9
 have HX2 := Lib.hid (HW2.out.trans (b4.mono HW2.out.size))
 clear b3 hE3 hk9 hx9 b4 HE1 HE2 HW2
 generalize wq.heap.size = M at HF3 ⊢
 have HE1 := HF1
 have HE2 := HF2
 have HE3 := HF3
 have HW2 := HX2
 clear HF1 HF2 HF3 HX2
 have heq := eqIn29 I noId
 obtain ⟨q, hq⟩ : ∃ q, alikeId I noId = q := ⟨_, rfl⟩
 rw [hq] at heq HID
 clear hq
 cases q
 ·have HT : Hid (idS I = idText I) := Lib.hid HID.out
  go_wp2_with (first | (refine wpList_load29 rfl _ rfl _ rfl I HE1.out ?_) | (refine wpList_load29 rfl _ rfl _ rfl noId HE3.out ?_))
  refine (refHex_any I w2).mono ?_
  rintro e w3 ⟨rfl, hb3⟩
  have HB3 := Lib.hid (HE2.out.next hb3)
  have HW3 := Lib.hid (HW2.out.trans (hb3.mono HW2.out.size))
  clear hb3
  go_wp2_with fail
  refine (refText_leaf (str (idText I)) w3).mono ?_
  rintro e w4 ⟨rfl, hb4⟩
  have HB9 := Lib.hid (HB3.out.next hb4)
  have HW9 := Lib.hid (HW3.out.trans (hb4.mono HW3.out.size))
  clear hb4
  obtain ⟨x0, x1, x2, x3, x4, x5⟩ := HB9.out.cells
  obtain ⟨f0, f1, f2, f3, f4, f5⟩ := HB9.out.frees
  obtain ⟨hk, hx⟩ := j25_set (.int .i64 4) (.bool false) (.int .i64 0) (.string (str (idText I))) (.slice none 0 0) (.slice none 0 0) HB9.out
  have HK := Lib.hid hk
  have HX := Lib.hid hx
  clear hk hx
  go_wp2_with fail
  refine bodyPost_ret (results_row1 rfl _ _ _ (N + 1) #[.int .i64 4, .bool false, .int .i64 0, .string (str (idText I)), .slice none 0 0, .slice none 0 0] rfl (j25_load HX.out)) rfl ?_
  exact ⟨by rw [HT.out] <;> rfl, HW9.out.trans (HK.out.to HW9.out.size (by intro j hj; simp at hj; have := HN.out; omega))⟩
 ·have HT : Hid (idS I = []) := Lib.hid HID.out
  go_wp2_with (first | (refine wpList_load29 rfl _ rfl _ rfl I HE1.out ?_) | (refine wpList_load29 rfl _ rfl _ rfl noId HE3.out ?_))
  refine (refText_leaf ⟨#[]⟩ w2).mono ?_
  rintro e w4 ⟨rfl, hb4⟩
  have HB9 := Lib.hid (HE2.out.next hb4)
  have HW9 := Lib.hid (HW2.out.trans (hb4.mono HW2.out.size))
  clear hb4
  obtain ⟨x0, x1, x2, x3, x4, x5⟩ := HB9.out.cells
  obtain ⟨f0, f1, f2, f3, f4, f5⟩ := HB9.out.frees
  obtain ⟨hk, hx⟩ := j25_set (.int .i64 4) (.bool false) (.int .i64 0) (.string (⟨#[]⟩)) (.slice none 0 0) (.slice none 0 0) HB9.out
  have HK := Lib.hid hk
  have HX := Lib.hid hx
  clear hk hx
  go_wp2_with fail
  refine bodyPost_ret (results_row1 rfl _ _ _ (N + 1) #[.int .i64 4, .bool false, .int .i64 0, .string (⟨#[]⟩), .slice none 0 0, .slice none 0 0] rfl (j25_load HX.out)) rfl ?_
  exact ⟨by rw [HT.out] <;> rfl, HW9.out.trans (HK.out.to HW9.out.size (by intro j hj; simp at hj; have := HN.out; omega))⟩
end Go.Proofs.YtimioelnnhnbiaaGreatDoor
