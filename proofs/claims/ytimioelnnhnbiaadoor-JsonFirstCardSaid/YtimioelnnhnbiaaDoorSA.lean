/-
  json.Same. CONDITIONS: the values lie as JV says; counts stay small.
-/
import Derived.Test.YtimioelnnhnbiaaDoorWX
import Derived.Test.YtimioelnnhnbiaaDoorSameP
namespace Go.Proofs.YtimioelnnhnbiaaDoor
open Go.RowKit
def SameC (f N : Nat) : Prop := ∀ (x y : Js.J) (vs us : List Value) (S : Nat → Prop) (w : World), Js.nodes x ≤ N → Js.nodes x ≤ 1073741824 → JV w S x vs → JV w S y us →
    Calls Tryd.prog f #[.agg vs.toArray, .agg us.toArray] w fun e w' => e = .returned (.bool (Js.same x y)) ∧ Below w.heap.size w w'
theorem JL.next {w w' : World} {S : Nat → Prop} {A : Option Addr} {i : Nat} {l : List Js.J} (h : JL w S A i l) (hb : Below w.heap.size w w') : JL w' S A i l :=
  JL.keep hb.size (fun _ h _ => h) (fun g _ hg => hb.block g hg) _ _ _ h
theorem JM.next {w w' : World} {S : Nat → Prop} {A : Option Addr} {i : Nat} {l : List (Js.Bs × Js.J)} (h : JM w S A i l) (hb : Below w.heap.size w w') : JM w' S A i l :=
  JM.keep hb.size (fun _ h _ => h) (fun g _ hg => hb.block g hg) _ _ _ h
theorem blk6 {w : World} {b : Nat} {T : TypeId} {x0 x1 x2 x3 x4 x5 : Value} (h : w.heap[b]? = some (.cells #[x0, x1, x2, x3, x4, x5] T (0, 0))) :
    w.cell? ⟨b, 0, none⟩ = some x0 ∧ w.cell? ⟨b, 1, none⟩ = some x1 ∧ w.cell? ⟨b, 2, none⟩ = some x2 ∧ w.cell? ⟨b, 3, none⟩ = some x3 ∧ w.cell? ⟨b, 4, none⟩ = some x4 ∧ w.cell? ⟨b, 5, none⟩ = some x5 :=
  ⟨(blk_cells h 0).trans rfl, (blk_cells h 1).trans rfl, (blk_cells h 2).trans rfl, (blk_cells h 3).trans rfl, (blk_cells h 4).trans rfl, (blk_cells h 5).trans rfl⟩
set_option maxRecDepth 100000 in
set_option maxHeartbeats 8000000 in
theorem eq_items (N : Nat) (ih : SameC 14 N) (l l' : List Js.J) (A A' : Option Addr) (c c' : Nat) (S : Nat → Prop) (w : World) (hl : JL w S A 0 l) (hl' : JL w S A' 0 l') (hN : Js.nodesL l ≤ N) (hn : Js.nodesL l ≤ 1073741824) :
    Calls Tryd.prog 27 #[.slice A l.length c, .slice A' l'.length c', .func (.func 14) #[] #[]] w fun e w' => e = .returned (.bool (Js.sameL l l')) ∧ Below w.heap.size w w' := by
  have HL := Lib.hid hl
  have HL' := Lib.hid hl'
  have IH := Lib.hid ih
  have hll := Js.length_nodesL l
  clear hl hl' ih
  by_cases heq : l.length = l'.length
  rotate_left
  · have HF : Hid (Js.sameL l l' = false) := Lib.hid (Js.sameL_nlen heq)
    have hb : ((l.length : Int) == (l'.length : Int)) = false := by rw [beq_eq_false_iff_ne]; omega
    go_enter Tryd.func27, Tryd.ntmps27
    go_wp2_with fail
    go_ret
    exact ⟨ret_bool HF.out.symm, Below.refl _ _⟩
  have HEQ := Lib.hid heq
  rw [← heq]
  clear heq
  go_enter Tryd.func27, Tryd.ntmps27
  go_wp2_with fail
  go_loopw [7, 17] (fun _ i wr => ∃ k : Nat, k ≤ l.length ∧ i = .int .i64 k ∧ Hid (Js.sameL (l.take k) (l'.take k) = true) ∧ Hid (Below w.heap.size w wr)) (fun _ i _ => l.length - (intOf i).toNat)
  case atStart => exact ⟨0, Nat.zero_le _, rfl, Lib.hid (by simp [Js.sameL]), Lib.hid (Below.refl _ _)⟩
  case round =>
    obtain ⟨k, hk, rfl, HS, HW⟩ := hrel
    by_cases hlt : k < l.length
    · obtain ⟨x, hx⟩ : ∃ x, l[k]? = some x := ⟨l[k], List.getElem?_eq_getElem hlt⟩
      obtain ⟨y, hy⟩ : ∃ y, l'[k]? = some y := ⟨l'[k], List.getElem?_eq_getElem (by have := HEQ.out; omega)⟩
      obtain ⟨g, o, k1, b1, n1, t1, A7, l7, c7, A8, l8, c8, hA, hSg, hg, q0, q1, q2, q3, q4, q5, hjx⟩ := (HL.out.next HW.out).elem hx
      subst hA
      have hbel := below_box wr (.cells #[.int .i64 k1, .bool b1, .int .i64 n1, .string t1, .slice A7 l7 c7, .slice A8 l8 c8] 25)
      have HBx : Hid ((wr.alloc (.cells #[.int .i64 k1, .bool b1, .int .i64 n1, .string t1, .slice A7 l7 c7, .slice A8 l8 c8] 25)).heap[wr.heap.size]? = some (.cells #[.int .i64 k1, .bool b1, .int .i64 n1, .string t1, .slice A7 l7 c7, .slice A8 l8 c8] 25 (0, 0))) := Lib.hid (heap_alloc_new wr (.cells #[.int .i64 k1, .bool b1, .int .i64 n1, .string t1, .slice A7 l7 c7, .slice A8 l8 c8] 25))
      have HW1 := Lib.hid (HW.out.trans (hbel.mono HW.out.size))
      have HJx := Lib.hid (hjx.next hbel)
      have hs1 : (wr.alloc (.cells #[.int .i64 k1, .bool b1, .int .i64 n1, .string t1, .slice A7 l7 c7, .slice A8 l8 c8] 25)).heap.size = wr.heap.size + 1 := by simp
      obtain ⟨p1, p2, p3⟩ := Js.nodesL_split l k x hx
      have hsn := Js.sameL_snoc HEQ.out hx hy
      rw [HS.out, Bool.true_and] at hsn
      have HSN := Lib.hid hsn
      have HY := Lib.hid hy
      have hpn : Js.nodes x ≤ N := by omega
      have hpn2 : Js.nodes x ≤ 1073741824 := by omega
      clear hjx hbel p1 p2 p3 hSg hsn hx hy
      go_upto_region 6 with fail
      generalize (wr.alloc (.cells #[.int .i64 k1, .bool b1, .int .i64 n1, .string t1, .slice A7 l7 c7, .slice A8 l8 c8] 25)) = w1 at HBx HW1 HJx hs1 ⊢
      obtain ⟨Y, hY⟩ : ∃ Y, wr.heap.size = Y := ⟨_, rfl⟩
      rw [hY] at HBx hs1 ⊢
      clear q0 q1 q2 q3 q4 q5 hY hg
      obtain ⟨g2, o2, k2, b2, n2, t2, B7, m7, d7, B8, m8, d8, hA, hSg, hg, r0, r1, r2, r3, r4, r5, hjy⟩ := (HL'.out.next HW1.out).elem HY.out
      subst hA
      have hbel := below_box w1 (.cells #[.int .i64 k2, .bool b2, .int .i64 n2, .string t2, .slice B7 m7 d7, .slice B8 m8 d8] 25)
      have HBy : Hid ((w1.alloc (.cells #[.int .i64 k2, .bool b2, .int .i64 n2, .string t2, .slice B7 m7 d7, .slice B8 m8 d8] 25)).heap[w1.heap.size]? = some (.cells #[.int .i64 k2, .bool b2, .int .i64 n2, .string t2, .slice B7 m7 d7, .slice B8 m8 d8] 25 (0, 0))) := Lib.hid (heap_alloc_new w1 (.cells #[.int .i64 k2, .bool b2, .int .i64 n2, .string t2, .slice B7 m7 d7, .slice B8 m8 d8] 25))
      have HBx2 := Lib.hid (blk_next hbel HBx.out)
      have HW2 := Lib.hid (HW1.out.trans (hbel.mono HW1.out.size))
      have HJx2 := Lib.hid (HJx.out.next hbel)
      have HJy2 := Lib.hid (hjy.next hbel)
      clear hbel hjy HBx HW1 HJx hSg
      go_upto_region 7 with fail
      generalize (w1.alloc (.cells #[.int .i64 k2, .bool b2, .int .i64 n2, .string t2, .slice B7 m7 d7, .slice B8 m8 d8] 25)) = w2 at HBy HBx2 HW2 HJx2 HJy2 ⊢
      rw [hs1] at HBy
      clear r0 r1 r2 r3 r4 r5 hs1 hg
      obtain ⟨x0, x1, x2, x3, x4, x5⟩ := blk6 HBx2.out
      obtain ⟨z0, z1, z2, z3, z4, z5⟩ := blk6 HBy.out
      go_wp2_with fail
      refine (IH.out x y _ _ S w2 hpn hpn2 HJx2.out HJy2.out).mono ?_
      rintro e w3 ⟨rfl, hb3⟩
      have HW3 := Lib.hid (HW2.out.trans (hb3.mono HW2.out.size))
      obtain ⟨q, hq⟩ : ∃ q, Js.same x y = q := ⟨_, rfl⟩
      rw [hq] at HSN ⊢
      clear hb3 HW2 HJx2 HJy2 HBx2 HBy hq HW
      cases q
      · have HF : Hid (Js.sameL l l' = false) := Lib.hid (Js.sameL_false HEQ.out HSN.out)
        go_wp2_with fail
        go_ret
        exact ⟨ret_bool HF.out.symm, HW3.out⟩
      · go_wp2_with fail
        go_roundw
        case rel => exact ⟨k + 1, by omega, by go_num, HSN, HW3⟩
        case measure => simp [intOf]; omega
    · obtain rfl : k = l.length := by omega
      have HF : Hid (Js.sameL l l' = true) := Lib.hid (by
        have := HS.out
        rw [List.take_length, HEQ.out, List.take_length] at this
        exact this)
      go_wp2_with fail
      go_ret
      exact ⟨ret_bool HF.out.symm, HW.out⟩
set_option maxRecDepth 100000 in
set_option maxHeartbeats 8000000 in
theorem mem_same (N : Nat) (ih : SameC 14 N) (nm nm2 : Js.Bs) (x y : Js.J) (vs us : List Value) (S : Nat → Prop) (w : World) (hN : Js.nodes x ≤ N) (hn : Js.nodes x ≤ 1073741824) (hjx : JV w S x vs) (hjy : JV w S y us) :
    Calls Tryd.prog 29 #[.agg (Value.string (str nm) :: vs).toArray, .agg (Value.string (str nm2) :: us).toArray] w fun e w' => e = .returned (.bool (decide (nm = nm2) && Js.same x y)) ∧ Below w.heap.size w w' := by
  have HX := hjx
  have HY := hjy
  obtain ⟨A7, c7, A8, c8, k1, b1, n1, t1, l7, l8, rfl⟩ := hjx.shape
  obtain ⟨B7, d7, B8, d8, k2, b2, n2, t2, m7, m8, rfl⟩ := hjy.shape
  have hb1 := below_box w (.cells #[.string (str nm), .int .i64 k1, .bool b1, .int .i64 n1, .string t1, .slice A7 l7 c7, .slice A8 l8 c8] 43)
  have s1 : (w.alloc (.cells #[.string (str nm), .int .i64 k1, .bool b1, .int .i64 n1, .string t1, .slice A7 l7 c7, .slice A8 l8 c8] 43)).heap.size = w.heap.size + 1 := by simp
  have e1 := heap_alloc_new w (.cells #[.string (str nm), .int .i64 k1, .bool b1, .int .i64 n1, .string t1, .slice A7 l7 c7, .slice A8 l8 c8] 43)
  have hb2 := below_box (w.alloc (.cells #[.string (str nm), .int .i64 k1, .bool b1, .int .i64 n1, .string t1, .slice A7 l7 c7, .slice A8 l8 c8] 43)) (.cells #[.string (str nm2), .int .i64 k2, .bool b2, .int .i64 n2, .string t2, .slice B7 m7 d7, .slice B8 m8 d8] 43)
  have e2 := heap_alloc_new (w.alloc (.cells #[.string (str nm), .int .i64 k1, .bool b1, .int .i64 n1, .string t1, .slice A7 l7 c7, .slice A8 l8 c8] 43)) (.cells #[.string (str nm2), .int .i64 k2, .bool b2, .int .i64 n2, .string t2, .slice B7 m7 d7, .slice B8 m8 d8] 43)
  rw [s1] at e2
  have HE1 := Lib.hid (blk_next hb2 e1)
  have HE2 := Lib.hid e2
  have HX2 := Lib.hid ((HX.next hb1).next hb2)
  have HY2 := Lib.hid ((HY.next hb1).next hb2)
  have HW2 := Lib.hid (hb1.trans (hb2.mono (by rw [s1]; omega)))
  have hst := str_beq nm nm2
  clear hb1 hb2 e1 e2 s1 HX HY hjx hjy
  obtain ⟨R, hR⟩ : ∃ R, (decide (nm = nm2) && Js.same x y) = R := ⟨_, rfl⟩
  rw [hR]
  have HR := Lib.hid hR
  clear hR
  go_enter Tryd.func29, Tryd.ntmps29
  go_upto_region 1 with fail
  generalize ((w.alloc (.cells #[.string (str nm), .int .i64 k1, .bool b1, .int .i64 n1, .string t1, .slice A7 l7 c7, .slice A8 l8 c8] 43)).alloc (.cells #[.string (str nm2), .int .i64 k2, .bool b2, .int .i64 n2, .string t2, .slice B7 m7 d7, .slice B8 m8 d8] 43)) = w2 at HE1 HE2 HX2 HY2 HW2 ⊢
  obtain ⟨x0, x1, x2, x3, x4, x5, x6⟩ := blk7 HE1.out
  obtain ⟨z0, z1, z2, z3, z4, z5, z6⟩ := blk7 HE2.out
  by_cases hnm : nm = nm2
  · rw [decide_eq_true hnm] at hst HR
    clear hnm
    go_wp2_with fail
    refine (ih x y _ _ S w2 hN hn HX2.out HY2.out).mono ?_
    rintro e w3 ⟨rfl, hb3⟩
    have HW3 := Lib.hid (HW2.out.trans (hb3.mono HW2.out.size))
    clear hb3
    go_wp2_with fail
    go_ret
    exact ⟨ret_bool (by rw [← HR.out, Bool.true_and]), HW3.out⟩
  · rw [decide_eq_false hnm] at hst HR
    clear hnm
    go_wp2_with fail
    go_ret
    exact ⟨ret_bool (by rw [← HR.out]; rfl), HW2.out⟩
set_option maxRecDepth 100000 in
set_option maxHeartbeats 8000000 in
theorem eq_members (N : Nat) (ih : ∀ (nm nm2 : Js.Bs) (x y : Js.J) (vs us : List Value) (S : Nat → Prop) (w : World), Js.nodes x ≤ N → Js.nodes x ≤ 1073741824 → JV w S x vs → JV w S y us → Calls Tryd.prog 29 #[.agg (Value.string (str nm) :: vs).toArray, .agg (Value.string (str nm2) :: us).toArray] w fun e w' => e = .returned (.bool (decide (nm = nm2) && Js.same x y)) ∧ Below w.heap.size w w') (l l' : List (Js.Bs × Js.J)) (A A' : Option Addr) (c c' : Nat) (S : Nat → Prop) (w : World) (hl : JM w S A 0 l) (hl' : JM w S A' 0 l') (hN : Js.nodesM l ≤ N) (hn : Js.nodesM l ≤ 1073741824) :
    Calls Tryd.prog 28 #[.slice A l.length c, .slice A' l'.length c', .func (.func 29) #[] #[]] w fun e w' => e = .returned (.bool (Js.sameM l l')) ∧ Below w.heap.size w w' := by
  have HL := Lib.hid hl
  have HL' := Lib.hid hl'
  have IH := Lib.hid ih
  have hll := Js.length_nodesM l
  clear hl hl' ih
  by_cases heq : l.length = l'.length
  rotate_left
  · have HF : Hid (Js.sameM l l' = false) := Lib.hid (Js.sameM_nlen heq)
    have hb : ((l.length : Int) == (l'.length : Int)) = false := by rw [beq_eq_false_iff_ne]; omega
    go_enter Tryd.func28, Tryd.ntmps28
    go_wp2_with fail
    go_ret
    exact ⟨ret_bool HF.out.symm, Below.refl _ _⟩
  have HEQ := Lib.hid heq
  rw [← heq]
  clear heq
  go_enter Tryd.func28, Tryd.ntmps28
  go_wp2_with fail
  go_loopw [7, 17] (fun _ i wr => ∃ k : Nat, k ≤ l.length ∧ i = .int .i64 k ∧ Hid (Js.sameM (l.take k) (l'.take k) = true) ∧ Hid (Below w.heap.size w wr)) (fun _ i _ => l.length - (intOf i).toNat)
  case atStart => exact ⟨0, Nat.zero_le _, rfl, Lib.hid (by simp [Js.sameM]), Lib.hid (Below.refl _ _)⟩
  case round =>
    obtain ⟨k, hk, rfl, HS, HW⟩ := hrel
    by_cases hlt : k < l.length
    · obtain ⟨nm, x, hx⟩ : ∃ nm x, l[k]? = some (nm, x) := ⟨l[k].1, l[k].2, List.getElem?_eq_getElem hlt⟩
      obtain ⟨nm2, y, hy⟩ : ∃ nm2 y, l'[k]? = some (nm2, y) := ⟨l'[k].1, l'[k].2, List.getElem?_eq_getElem (by have := HEQ.out; omega)⟩
      obtain ⟨g, o, k1, b1, n1, t1, A7, l7, c7, A8, l8, c8, hA, hSg, hg, q0, q1, q2, q3, q4, q5, q6, hjx⟩ := (HL.out.next HW.out).elem hx
      subst hA
      have hbel := below_box wr (.cells #[.string (str nm), .int .i64 k1, .bool b1, .int .i64 n1, .string t1, .slice A7 l7 c7, .slice A8 l8 c8] 43)
      have HBx : Hid ((wr.alloc (.cells #[.string (str nm), .int .i64 k1, .bool b1, .int .i64 n1, .string t1, .slice A7 l7 c7, .slice A8 l8 c8] 43)).heap[wr.heap.size]? = some (.cells #[.string (str nm), .int .i64 k1, .bool b1, .int .i64 n1, .string t1, .slice A7 l7 c7, .slice A8 l8 c8] 43 (0, 0))) := Lib.hid (heap_alloc_new wr (.cells #[.string (str nm), .int .i64 k1, .bool b1, .int .i64 n1, .string t1, .slice A7 l7 c7, .slice A8 l8 c8] 43))
      have HW1 := Lib.hid (HW.out.trans (hbel.mono HW.out.size))
      have HJx := Lib.hid (hjx.next hbel)
      have hs1 : (wr.alloc (.cells #[.string (str nm), .int .i64 k1, .bool b1, .int .i64 n1, .string t1, .slice A7 l7 c7, .slice A8 l8 c8] 43)).heap.size = wr.heap.size + 1 := by simp
      obtain ⟨p1, p2, p3⟩ := Js.nodesM_split l k nm x hx
      have hsn := Js.sameM_snoc HEQ.out hx hy
      rw [HS.out, Bool.true_and] at hsn
      have HSN := Lib.hid hsn
      have HY := Lib.hid hy
      have hpn : Js.nodes x ≤ N := by omega
      have hpn2 : Js.nodes x ≤ 1073741824 := by omega
      clear hjx hbel p1 p2 p3 hSg hsn hx hy
      go_upto_region 6 with fail
      generalize (wr.alloc (.cells #[.string (str nm), .int .i64 k1, .bool b1, .int .i64 n1, .string t1, .slice A7 l7 c7, .slice A8 l8 c8] 43)) = w1 at HBx HW1 HJx hs1 ⊢
      obtain ⟨Y, hY⟩ : ∃ Y, wr.heap.size = Y := ⟨_, rfl⟩
      rw [hY] at HBx hs1 ⊢
      clear q0 q1 q2 q3 q4 q5 q6 hY hg
      obtain ⟨g2, o2, k2, b2, n2, t2, B7, m7, d7, B8, m8, d8, hA, hSg, hg, r0, r1, r2, r3, r4, r5, r6, hjy⟩ := (HL'.out.next HW1.out).elem HY.out
      subst hA
      have hbel := below_box w1 (.cells #[.string (str nm2), .int .i64 k2, .bool b2, .int .i64 n2, .string t2, .slice B7 m7 d7, .slice B8 m8 d8] 43)
      have HBy : Hid ((w1.alloc (.cells #[.string (str nm2), .int .i64 k2, .bool b2, .int .i64 n2, .string t2, .slice B7 m7 d7, .slice B8 m8 d8] 43)).heap[w1.heap.size]? = some (.cells #[.string (str nm2), .int .i64 k2, .bool b2, .int .i64 n2, .string t2, .slice B7 m7 d7, .slice B8 m8 d8] 43 (0, 0))) := Lib.hid (heap_alloc_new w1 (.cells #[.string (str nm2), .int .i64 k2, .bool b2, .int .i64 n2, .string t2, .slice B7 m7 d7, .slice B8 m8 d8] 43))
      have HBx2 := Lib.hid (blk_next hbel HBx.out)
      have HW2 := Lib.hid (HW1.out.trans (hbel.mono HW1.out.size))
      have HJx2 := Lib.hid (HJx.out.next hbel)
      have HJy2 := Lib.hid (hjy.next hbel)
      clear hbel hjy HBx HW1 HJx hSg
      go_upto_region 7 with fail
      generalize (w1.alloc (.cells #[.string (str nm2), .int .i64 k2, .bool b2, .int .i64 n2, .string t2, .slice B7 m7 d7, .slice B8 m8 d8] 43)) = w2 at HBy HBx2 HW2 HJx2 HJy2 ⊢
      rw [hs1] at HBy
      clear r0 r1 r2 r3 r4 r5 r6 hs1 hg
      obtain ⟨x0, x1, x2, x3, x4, x5, x6⟩ := blk7 HBx2.out
      obtain ⟨z0, z1, z2, z3, z4, z5, z6⟩ := blk7 HBy.out
      go_wp2_with fail
      refine (IH.out nm nm2 x y _ _ S w2 hpn hpn2 HJx2.out HJy2.out).mono ?_
      rintro e w3 ⟨rfl, hb3⟩
      have HW3 := Lib.hid (HW2.out.trans (hb3.mono HW2.out.size))
      obtain ⟨q, hq⟩ : ∃ q, (decide (nm = nm2) && Js.same x y) = q := ⟨_, rfl⟩
      rw [hq] at HSN ⊢
      clear hb3 HW2 HJx2 HJy2 HBx2 HBy hq HW
      cases q
      · have HF : Hid (Js.sameM l l' = false) := Lib.hid (Js.sameM_false HEQ.out HSN.out)
        go_wp2_with fail
        go_ret
        exact ⟨ret_bool HF.out.symm, HW3.out⟩
      · go_wp2_with fail
        go_roundw
        case rel => exact ⟨k + 1, by omega, by go_num, HSN, HW3⟩
        case measure => simp [intOf]; omega
    · obtain rfl : k = l.length := by omega
      have HF : Hid (Js.sameM l l' = true) := Lib.hid (by
        have := HS.out
        rw [List.take_length, HEQ.out, List.take_length] at this
        exact this)
      go_wp2_with fail
      go_ret
      exact ⟨ret_bool HF.out.symm, HW.out⟩

set_option maxRecDepth 100000 in
set_option maxHeartbeats 8000000 in
theorem same_step (N : Nat) (ih : SameC 14 N) : SameC 14 (N + 1) := by
  intro x y vs us S w hN hn hjx hjy
  cases x with | mk k0 b0 n0 t0 l m =>
  cases y with | mk k9 b9 n9 t9 l' m' =>
  have HX := hjx
  have HY := hjy
  unfold JV at hjx hjy
  obtain ⟨A5, c5, A6, c6, rfl, -, -, -, -⟩ := hjx
  obtain ⟨B5, d5, B6, d6, rfl, -, -, -, -⟩ := hjy
  have hb1 := below_box w (.cells #[.int .i64 k0, .bool b0, .int .i64 n0, .string (str t0), .slice A5 l.length c5, .slice A6 m.length c6] 25)
  have s1 : (w.alloc (.cells #[.int .i64 k0, .bool b0, .int .i64 n0, .string (str t0), .slice A5 l.length c5, .slice A6 m.length c6] 25)).heap.size = w.heap.size + 1 := by simp
  have e1 := heap_alloc_new w (.cells #[.int .i64 k0, .bool b0, .int .i64 n0, .string (str t0), .slice A5 l.length c5, .slice A6 m.length c6] 25)
  have hb2 := below_box (w.alloc (.cells #[.int .i64 k0, .bool b0, .int .i64 n0, .string (str t0), .slice A5 l.length c5, .slice A6 m.length c6] 25)) (.cells #[.int .i64 k9, .bool b9, .int .i64 n9, .string (str t9), .slice B5 l'.length d5, .slice B6 m'.length d6] 25)
  have e2 := heap_alloc_new (w.alloc (.cells #[.int .i64 k0, .bool b0, .int .i64 n0, .string (str t0), .slice A5 l.length c5, .slice A6 m.length c6] 25)) (.cells #[.int .i64 k9, .bool b9, .int .i64 n9, .string (str t9), .slice B5 l'.length d5, .slice B6 m'.length d6] 25)
  rw [s1] at e2
  have HE1 := Lib.hid (blk_next hb2 e1)
  have HE2 := Lib.hid e2
  have HX2 := Lib.hid ((HX.next hb1).next hb2)
  have HY2 := Lib.hid ((HY.next hb1).next hb2)
  have HW2 := Lib.hid (hb1.trans (hb2.mono (by rw [s1]; omega)))
  have hst := str_beq t0 t9
  have hnodes : 1 + Js.nodesL l + Js.nodesM m ≤ N + 1 := hN
  have hnodes2 : 1 + Js.nodesL l + Js.nodesM m ≤ 1073741824 := hn
  clear hb1 hb2 e1 e2 s1 HX HY hN hn
  have IH := Lib.hid ih
  clear ih
  have HS : Hid (Js.same (.mk k0 b0 n0 t0 l m) (.mk k9 b9 n9 t9 l' m') = (decide (k0 = k9) && (decide (k0 ≠ 2) || decide (b0 = b9)) && (decide (k0 ≠ 3) || decide (n0 = n9)) && (decide (k0 ≠ 4) || decide (t0 = t9)) && (decide (k0 ≠ 5) || Js.sameL l l') && (decide (k0 ≠ 6) || Js.sameM m m'))) := Lib.hid (by rw [Js.same])
  generalize Js.same (.mk k0 b0 n0 t0 l m) (.mk k9 b9 n9 t9 l' m') = R at HS ⊢
  go_enter Tryd.func14, Tryd.ntmps14
  go_upto_region 1 with fail
  generalize ((w.alloc (.cells #[.int .i64 k0, .bool b0, .int .i64 n0, .string (str t0), .slice A5 l.length c5, .slice A6 m.length c6] 25)).alloc (.cells #[.int .i64 k9, .bool b9, .int .i64 n9, .string (str t9), .slice B5 l'.length d5, .slice B6 m'.length d6] 25)) = w2 at HE1 HE2 HX2 HY2 HW2 ⊢
  obtain ⟨x0, x1, x2, x3, x4, x5⟩ := blk6 HE1.out
  obtain ⟨z0, z1, z2, z3, z4, z5⟩ := blk6 HE2.out
  by_cases hk : k0 = k9
  rotate_left
  · have hR : R = false := by rw [HS.out, decide_eq_false hk]; simp
    have hb : (k0 != k9) = true := by simpa using hk
    subst hR
    clear hk
    go_wp2_with fail
    go_ret
    exact ⟨rfl, HW2.out⟩
  subst hk
  have hkk : (k0 != k0) = false := by simp
  by_cases h2 : k0 = 2
  · subst h2
    have hR : R = decide (b0 = b9) := by rw [HS.out]; simp
    subst hR
    go_wp2_with fail
    go_ret
    exact ⟨ret_bool (by cases b0 <;> cases b9 <;> rfl), HW2.out⟩
  have q2 : (k0 == 2) = false := by rw [beq_eq_false_iff_ne]; exact h2
  by_cases h3 : k0 = 3
  · subst h3
    have hR : R = decide (n0 = n9) := by rw [HS.out]; simp
    subst hR
    go_wp2_with fail
    go_ret
    exact ⟨ret_bool (by rw [Bool.eq_iff_iff]; simp), HW2.out⟩
  have q3 : (k0 == 3) = false := by rw [beq_eq_false_iff_ne]; exact h3
  by_cases h4 : k0 = 4
  · subst h4
    have hR : R = decide (t0 = t9) := by rw [HS.out]; simp
    subst hR
    go_wp2_with fail
    go_ret
    exact ⟨ret_bool rfl, HW2.out⟩
  have q4 : (k0 == 4) = false := by rw [beq_eq_false_iff_ne]; exact h4
  by_cases h5 : k0 = 5
  · subst h5
    have hR : R = Js.sameL l l' := by rw [HS.out]; simp
    subst hR
    have hl := HX2.out
    have hl' := HY2.out
    unfold JV at hl hl'
    obtain ⟨_, _, _, _, hvs, -, -, hl, -⟩ := hl
    simp only [List.cons.injEq, Value.slice.injEq, and_true, true_and] at hvs
    obtain ⟨⟨rfl, rfl⟩, rfl, rfl⟩ := hvs
    obtain ⟨_, _, _, _, hvs, -, -, hl', -⟩ := hl'
    simp only [List.cons.injEq, Value.slice.injEq, and_true, true_and] at hvs
    obtain ⟨⟨rfl, rfl⟩, rfl, rfl⟩ := hvs
    have HC := Lib.hid (eq_items N IH.out l l' A5 B5 c5 d5 S w2 hl hl' (by omega) (by omega))
    clear hl hl'
    go_wp2_with fail
    refine HC.out.mono ?_
    rintro e w3 ⟨rfl, hb3⟩
    have HW3 := Lib.hid (HW2.out.trans (hb3.mono HW2.out.size))
    clear hb3
    go_wp2_with fail
    go_ret
    exact ⟨rfl, HW3.out⟩
  have q5 : (k0 == 5) = false := by rw [beq_eq_false_iff_ne]; exact h5
  by_cases h6 : k0 = 6
  · subst h6
    have hR : R = Js.sameM m m' := by rw [HS.out]; simp
    subst hR
    have hl := HX2.out
    have hl' := HY2.out
    unfold JV at hl hl'
    obtain ⟨_, _, _, _, hvs, -, -, -, hl⟩ := hl
    simp only [List.cons.injEq, Value.slice.injEq, and_true, true_and] at hvs
    obtain ⟨⟨rfl, rfl⟩, rfl, rfl⟩ := hvs
    obtain ⟨_, _, _, _, hvs, -, -, -, hl'⟩ := hl'
    simp only [List.cons.injEq, Value.slice.injEq, and_true, true_and] at hvs
    obtain ⟨⟨rfl, rfl⟩, rfl, rfl⟩ := hvs
    have HC := Lib.hid (eq_members N (mem_same N IH.out) m m' A6 B6 c6 d6 S w2 hl hl' (by omega) (by omega))
    clear hl hl'
    go_wp2_with fail
    refine HC.out.mono ?_
    rintro e w3 ⟨rfl, hb3⟩
    have HW3 := Lib.hid (HW2.out.trans (hb3.mono HW2.out.size))
    clear hb3
    go_wp2_with fail
    go_ret
    exact ⟨rfl, HW3.out⟩
  have q6 : (k0 == 6) = false := by rw [beq_eq_false_iff_ne]; exact h6
  have hR : R = true := by rw [HS.out]; simp [h2, h3, h4, h5, h6]
  subst hR
  clear h2 h3 h4 h5 h6
  go_wp2_with fail
  go_ret
  exact ⟨rfl, HW2.out⟩
theorem same_any : ∀ N, SameC 14 N
  | 0 => fun x y vs us S w hN => absurd hN (by have := Js.nodes_pos x; omega)
  | N + 1 => same_step N (same_any N)
end Go.Proofs.YtimioelnnhnbiaaDoor
