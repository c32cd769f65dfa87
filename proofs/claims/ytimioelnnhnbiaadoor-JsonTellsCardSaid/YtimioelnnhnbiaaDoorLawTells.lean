/-
  THE LAW JsonTells, walked. CONDITIONS: the values lie as JV says; Env.
-/
import Derived.Test.YtimioelnnhnbiaaDoorSB
import Derived.Test.YtimioelnnhnbiaaDoorSC
import Derived.Test.YtimioelnnhnbiaaDoorWV
import Derived.Test.YtimioelnnhnbiaaDoorWY
import Derived.Deep.RegionHeld3
import Derived.Test.YtimioelnnhnbiaaDoorTillF
namespace Go.Proofs.YtimioelnnhnbiaaDoor
open Go.RowKit
theorem getOut_any {S : Nat → Prop} {w w' : World} {x : Js.J} {nm : Js.Bs} {e : Ending} (h : GetOut S w x nm e w') : Below w.heap.size w w' ∧ ∃ (there : Bool) (k2 : Int) (b2 : Bool) (n2 : Int) (t2 : ByteArray) (C5 : Option Addr) (l7 c7 : Nat) (C6 : Option Addr) (l8 c8 : Nat),
    e = .returned (.tuple #[.agg #[.int .i64 k2, .bool b2, .int .i64 n2, .string t2, .slice C5 l7 c7, .slice C6 l8 c8], .bool there]) ∧ (there = true → ∃ z, Js.getOf x nm = some z ∧ JV w' S z [.int .i64 k2, .bool b2, .int .i64 n2, .string t2, .slice C5 l7 c7, .slice C6 l8 c8]) ∧ (there = false → Js.getOf x nm = none ∧ k2 = 0) := by
  unfold GetOut at h
  obtain ⟨g, hg⟩ : ∃ g, Js.getOf x nm = g := ⟨_, rfl⟩
  rw [hg] at h ⊢
  cases g with
  | none => exact ⟨h.1, false, 0, false, 0, ⟨#[]⟩, none, 0, 0, none, 0, 0, h.2, (fun h => by cases h), fun _ => ⟨rfl, rfl⟩⟩
  | some z =>
    obtain ⟨hb, us, he, hj⟩ := h
    obtain ⟨A, c, A', c', k0, b0, n0, t0, l0, l1, rfl⟩ := hj.shape
    exact ⟨hb, true, k0, b0, n0, t0, A, l0, c, A', l1, c', he, fun _ => ⟨z, rfl, hj⟩, fun h => by cases h⟩
set_option maxRecDepth 100000 in
set_option maxHeartbeats 8000000 in
theorem tells_law (x y : Js.J) (nm : Js.Bs) (vs us : List Value) (S : Nat → Prop) (w : World) (hjx : JV w S x vs) (hjy : JV w S y us) (hS : ∀ g, S g → g < w.heap.size) (henv : Env w) :
    Calls Tryd.prog 6 #[.agg vs.toArray, .agg us.toArray, .string (str nm)] w fun e w' => e = .returned (.bool true) ∧ Below w.heap.size w w' := by
  have HX := hjx
  have HY := hjy
  obtain ⟨A5, c5, A6, c6, k0, b0, n0, t0, l5, l6, rfl⟩ := hjx.shape
  obtain ⟨B5, d5, B6, d6, k9, b9, n9, t9, m5, m6, rfl⟩ := hjy.shape
  have b1 := below_box w (.cells #[.int .i64 k0, .bool b0, .int .i64 n0, .string t0, .slice A5 l5 c5, .slice A6 l6 c6] 25)
  have s1 : (w.alloc (.cells #[.int .i64 k0, .bool b0, .int .i64 n0, .string t0, .slice A5 l5 c5, .slice A6 l6 c6] 25)).heap.size = w.heap.size + 1 := by simp
  have e1 : JBox _ _ _ _ _ _ _ _ := heap_alloc_new w (.cells #[.int .i64 k0, .bool b0, .int .i64 n0, .string t0, .slice A5 l5 c5, .slice A6 l6 c6] 25)
  have b2 := below_box (w.alloc (.cells #[.int .i64 k0, .bool b0, .int .i64 n0, .string t0, .slice A5 l5 c5, .slice A6 l6 c6] 25)) (.cells #[.int .i64 k9, .bool b9, .int .i64 n9, .string t9, .slice B5 m5 d5, .slice B6 m6 d6] 25)
  have e2 : JBox _ _ _ _ _ _ _ _ := heap_alloc_new (w.alloc (.cells #[.int .i64 k0, .bool b0, .int .i64 n0, .string t0, .slice A5 l5 c5, .slice A6 l6 c6] 25)) (.cells #[.int .i64 k9, .bool b9, .int .i64 n9, .string t9, .slice B5 m5 d5, .slice B6 m6 d6] 25)
  rw [s1] at e2
  have HE1 := Lib.hid (e1.next b2)
  have HE2 := Lib.hid e2
  have HW2 := Lib.hid (b1.trans (b2.mono (by rw [s1]; omega)))
  have HALL : Hid (∀ W, Below w.heap.size w W → JV W S x [.int .i64 k0, .bool b0, .int .i64 n0, .string t0, .slice A5 l5 c5, .slice A6 l6 c6] ∧ JV W S y [.int .i64 k9, .bool b9, .int .i64 n9, .string t9, .slice B5 m5 d5, .slice B6 m6 d6] ∧ (∀ g, S g → g < W.heap.size) ∧ Env W) :=
    Lib.hid (fun W hW => ⟨HX.next hW, HY.next hW, fun g hg => Nat.lt_of_lt_of_le (hS g hg) hW.size, henv.next hW⟩)
  clear b1 b2 e1 e2 s1 HX HY hS henv hjx hjy
  go_enter Tryd.func6, Tryd.ntmps6
  go_upto_region 1 with fail
  generalize ((w.alloc (.cells #[.int .i64 k0, .bool b0, .int .i64 n0, .string t0, .slice A5 l5 c5, .slice A6 l6 c6] 25)).alloc (.cells #[.int .i64 k9, .bool b9, .int .i64 n9, .string t9, .slice B5 m5 d5, .slice B6 m6 d6] 25)) = w2 at HE1 HE2 HW2 ⊢
  go_wp2_with fail
  refine (wakes_any w2 (HALL.out _ HW2.out).2.2.2).mono ?_
  rintro e w3 ⟨rfl, hb3⟩
  have HW3 := Lib.hid (HW2.out.trans (hb3.mono HW2.out.size))
  have HF1 := Lib.hid (HE1.out.next hb3)
  have HF2 := Lib.hid (HE2.out.next hb3)
  clear hb3 HE1 HE2 HW2
  obtain ⟨x0, x1, x2, x3, x4, x5⟩ := HF1.out.cells
  obtain ⟨z0, z1, z2, z3, z4, z5⟩ := HF2.out.cells
  go_wp2_with fail
  obtain ⟨jx3, jy3, s3, -⟩ := HALL.out _ HW3.out
  refine (over_any x _ S w3 jx3 s3).mono ?_
  rintro e w4 ⟨rfl, hb4⟩
  have HW4 := Lib.hid (HW3.out.trans (hb4.mono HW3.out.size))
  have HG1 := Lib.hid (HF1.out.next hb4)
  have HG2 := Lib.hid (HF2.out.next hb4)
  clear hb4 HF1 HF2 HW3 x0 x1 x2 x3 x4 x5 z0 z1 z2 z3 z4 z5 jx3 jy3 s3
  obtain ⟨ov, hov⟩ : ∃ ov, Js.over x = ov := ⟨_, rfl⟩
  rw [hov]
  cases ov
  rotate_left
  · obtain ⟨z0, z1, z2, z3, z4, z5⟩ := HG2.out.cells
    go_wp2_with fail
    go_ret
    exact ⟨rfl, HW4.out⟩
  have hsm := Js.over_small hov
  have HSM := Lib.hid (show Js.nodes x ≤ 1073741824 by omega)
  clear hsm hov
  obtain ⟨z0, z1, z2, z3, z4, z5⟩ := HG2.out.cells
  go_wp2_with fail
  obtain ⟨jx4, jy4, s4, -⟩ := HALL.out _ HW4.out
  refine (over_any y _ S w4 jy4 s4).mono ?_
  rintro e w5 ⟨rfl, hb5⟩
  have HW5 := Lib.hid (HW4.out.trans (hb5.mono HW4.out.size))
  have HH1 := Lib.hid (HG1.out.next hb5)
  have HH2 := Lib.hid (HG2.out.next hb5)
  clear hb5 HG1 HG2 HW4 z0 z1 z2 z3 z4 z5 jx4 jy4 s4
  obtain ⟨ov, hov⟩ : ∃ ov, Js.over y = ov := ⟨_, rfl⟩
  rw [hov]
  cases ov
  rotate_left
  · go_wp2_with fail
    go_ret
    exact ⟨rfl, HW5.out⟩
  clear hov
  obtain ⟨q, hq⟩ : ∃ q, Js.same x y = q := ⟨_, rfl⟩
  have HC1 : Hid (∀ W, Below w.heap.size w W → Calls Tryd.prog 14 #[.agg #[.int .i64 k0, .bool b0, .int .i64 n0, .string t0, .slice A5 l5 c5, .slice A6 l6 c6], .agg #[.int .i64 k9, .bool b9, .int .i64 n9, .string t9, .slice B5 m5 d5, .slice B6 m6 d6]] W fun e w' => e = .returned (.bool q) ∧ Below W.heap.size W w') := Lib.hid (fun W hW => by
    obtain ⟨jx, jy, _, _⟩ := HALL.out W hW
    rw [← hq]; exact same_any _ x y _ _ S W (Nat.le_refl _) HSM.out jx jy)
  have HC2 : Hid (∀ W, Below w.heap.size w W → Calls Tryd.prog 15 #[.agg #[.int .i64 k0, .bool b0, .int .i64 n0, .string t0, .slice A5 l5 c5, .slice A6 l6 c6], .agg #[.int .i64 k9, .bool b9, .int .i64 n9, .string t9, .slice B5 m5 d5, .slice B6 m6 d6]] W fun e w' => e = .returned (.bool q) ∧ Below W.heap.size W w') := Lib.hid (fun W hW => by
    obtain ⟨jx, jy, _, _⟩ := HALL.out W hW
    rw [← hq]; exact rsame_any _ x y _ _ S W (Nat.le_refl _) HSM.out jx jy)
  have HC3 : Hid (∀ W, Below w.heap.size w W → Calls Tryd.prog 14 #[.agg #[.int .i64 k0, .bool b0, .int .i64 n0, .string t0, .slice A5 l5 c5, .slice A6 l6 c6], .agg #[.int .i64 k0, .bool b0, .int .i64 n0, .string t0, .slice A5 l5 c5, .slice A6 l6 c6]] W fun e w' => e = .returned (.bool true) ∧ Below W.heap.size W w') := Lib.hid (fun W hW => by
    obtain ⟨jx, _, _, _⟩ := HALL.out W hW
    rw [← Js.same_self x]; exact same_any _ x x _ _ S W (Nat.le_refl _) HSM.out jx jx)
  clear hq
  cases q
  all_goals
    go_wp2_with fail
    refine wp_region_any (by kernel_rfl) ?_
    change wpAny _ _ _ _ _ _ _ (World.drew _)
    have hbd : Below w5.heap.size w5 w5.drew := below_drewN (Below.refl _ _) 1
    have HW := Lib.hid (HW5.out.trans (hbd.mono HW5.out.size))
    have HS := Lib.hid (show (fun W => JBox W w.heap.size (.int .i64 k0) (.bool b0) (.int .i64 n0) (.string t0) (.slice A5 l5 c5) (.slice A6 l6 c6) ∧ JBox W (w.heap.size + 1) (.int .i64 k9) (.bool b9) (.int .i64 n9) (.string t9) (.slice B5 m5 d5) (.slice B6 m6 d6)) w5.drew from ⟨HH1.out.next hbd, HH2.out.next hbd⟩)
    clear hbd HH1 HH2 HW5
    generalize w5.drew = w6 at HW HS ⊢
    refine wpAny_of_till (S := fun W => JBox W w.heap.size (.int .i64 k0) (.bool b0) (.int .i64 n0) (.string t0) (.slice A5 l5 c5) (.slice A6 l6 c6) ∧ JBox W (w.heap.size + 1) (.int .i64 k9) (.bool b9) (.int .i64 n9) (.string t9) (.slice B5 m5 d5) (.slice B6 m6 d6)) (st := fun _ => false) _ _ _ _ ?_
    change wpTill _ _ _ _ _ _ _ #[false, false, false, false, false, false, false, false, false, false, false, false, false] _ _
    refine wpTill_take (i := 0) (v := .agg #[.int .i64 k0, .bool b0, .int .i64 n0, .string t0, .slice A5 l5 c5, .slice A6 l6 c6]) rfl (by kernel_rfl) (by kernel_rfl) (by kernel_rfl) (show Shutd _ _ #[false, false, false, false, false, false, false, false, false, false, false, false, false] from Shutd.start 13) (fun l _ h9 => by cases h9) (fun l => rfl) (fun _ _ _ h => h) (Or.inl ⟨by rfl, ?yb0⟩) HS.out (fun hsh => ?_)
    case yb0 => (intro W0 hS; obtain ⟨s1, s2⟩ := hS; obtain ⟨x0, x1, x2, x3, x4, x5⟩ := s1.cells; obtain ⟨z0, z1, z2, z3, z4, z5⟩ := s2.cells; go_simp; (try with_reducible rfl))
    simp only [Act.put, List.getElem_toArray, List.getElem_cons_zero, List.getElem_cons_succ, List.setIfInBounds_toArray, List.set_cons_zero, List.set_cons_succ]
    have HSH := Lib.hid hsh
    clear hsh
    refine wpTill_take (i := 1) (v := .agg #[.int .i64 k9, .bool b9, .int .i64 n9, .string t9, .slice B5 m5 d5, .slice B6 m6 d6]) rfl (by kernel_rfl) (by kernel_rfl) (by kernel_rfl) HSH.out (fun l _ h9 => by cases h9) (fun l => rfl) (fun _ _ _ h => h) (Or.inl ⟨by rfl, ?yb1⟩) HS.out (fun hsh => ?_)
    case yb1 => (intro W0 hS; obtain ⟨s1, s2⟩ := hS; obtain ⟨x0, x1, x2, x3, x4, x5⟩ := s1.cells; obtain ⟨z0, z1, z2, z3, z4, z5⟩ := s2.cells; go_simp; (try with_reducible rfl))
    simp only [Act.put, List.getElem_toArray, List.getElem_cons_zero, List.getElem_cons_succ, List.setIfInBounds_toArray, List.set_cons_zero, List.set_cons_succ]
    clear HSH
    have HSH := Lib.hid hsh
    clear hsh
    refine wpTill_take (i := 3) (v := .agg #[.int .i64 k0, .bool b0, .int .i64 n0, .string t0, .slice A5 l5 c5, .slice A6 l6 c6]) rfl (by kernel_rfl) (by kernel_rfl) (by kernel_rfl) HSH.out (fun l _ h9 => by cases h9) (fun l => rfl) (fun _ _ _ h => h) (Or.inl ⟨by rfl, ?yb3⟩) HS.out (fun hsh => ?_)
    case yb3 => (intro W0 hS; obtain ⟨s1, s2⟩ := hS; obtain ⟨x0, x1, x2, x3, x4, x5⟩ := s1.cells; obtain ⟨z0, z1, z2, z3, z4, z5⟩ := s2.cells; go_simp; (try with_reducible rfl))
    simp only [Act.put, List.getElem_toArray, List.getElem_cons_zero, List.getElem_cons_succ, List.setIfInBounds_toArray, List.set_cons_zero, List.set_cons_succ]
    clear HSH
    have HSH := Lib.hid hsh
    clear hsh
    refine wpTill_take (i := 4) (v := .agg #[.int .i64 k9, .bool b9, .int .i64 n9, .string t9, .slice B5 m5 d5, .slice B6 m6 d6]) rfl (by kernel_rfl) (by kernel_rfl) (by kernel_rfl) HSH.out (fun l _ h9 => by cases h9) (fun l => rfl) (fun _ _ _ h => h) (Or.inl ⟨by rfl, ?yb4⟩) HS.out (fun hsh => ?_)
    case yb4 => (intro W0 hS; obtain ⟨s1, s2⟩ := hS; obtain ⟨x0, x1, x2, x3, x4, x5⟩ := s1.cells; obtain ⟨z0, z1, z2, z3, z4, z5⟩ := s2.cells; go_simp; (try with_reducible rfl))
    simp only [Act.put, List.getElem_toArray, List.getElem_cons_zero, List.getElem_cons_succ, List.setIfInBounds_toArray, List.set_cons_zero, List.set_cons_succ]
    clear HSH
    have HSH := Lib.hid hsh
    clear hsh
    refine wpTill_ready (rs := [2]) (by kernel_rfl) (by simp) ?_
    refine (AllTill.cons rfl (fun KK hKK => ?_) AllTill.nil)
    rw [if_pos (by rfl)]
    go_simp
    refine (HC1.out w6 HW.out).mono ?_
    rintro e w7 ⟨rfl, hb⟩
    have HW1 := Lib.hid (HW.out.trans (hb.mono HW.out.size))
    have HS1 := Lib.hid (show (fun W => JBox W w.heap.size (.int .i64 k0) (.bool b0) (.int .i64 n0) (.string t0) (.slice A5 l5 c5) (.slice A6 l6 c6) ∧ JBox W (w.heap.size + 1) (.int .i64 k9) (.bool b9) (.int .i64 n9) (.string t9) (.slice B5 m5 d5) (.slice B6 m6 d6)) w7 from ⟨HS.out.1.next hb, HS.out.2.next hb⟩)
    refine hKK _ _ (fun _ => HS1.out) ?_
    clear hKK KK hb HS HW
    have HS := HS1
    have HW := HW1
    clear HS1 HW1
    simp only [Act.put, List.getElem_toArray, List.getElem_cons_zero, List.getElem_cons_succ, List.setIfInBounds_toArray, List.set_cons_zero, List.set_cons_succ]
    refine wpTill_ready (rs := [5]) (by kernel_rfl) (by simp) ?_
    refine (AllTill.cons rfl (fun KK hKK => ?_) AllTill.nil)
    rw [if_pos (by rfl)]
    go_simp
    refine (HC2.out w7 HW.out).mono ?_
    rintro e w8 ⟨rfl, hb⟩
    have HW1 := Lib.hid (HW.out.trans (hb.mono HW.out.size))
    have HS1 := Lib.hid (show (fun W => JBox W w.heap.size (.int .i64 k0) (.bool b0) (.int .i64 n0) (.string t0) (.slice A5 l5 c5) (.slice A6 l6 c6) ∧ JBox W (w.heap.size + 1) (.int .i64 k9) (.bool b9) (.int .i64 n9) (.string t9) (.slice B5 m5 d5) (.slice B6 m6 d6)) w8 from ⟨HS.out.1.next hb, HS.out.2.next hb⟩)
    refine hKK _ _ (fun _ => HS1.out) ?_
    clear hKK KK hb HS HW
    have HS := HS1
    have HW := HW1
    clear HS1 HW1
    simp only [Act.put, List.getElem_toArray, List.getElem_cons_zero, List.getElem_cons_succ, List.setIfInBounds_toArray, List.set_cons_zero, List.set_cons_succ]
    refine wpTill_ready (rs := [6]) (by kernel_rfl) (by simp) ?_
    refine (AllTill.cons rfl (fun KK hKK => ?_) AllTill.nil)
    rw [if_pos (by rfl)]
    go_simp
    refine hKK _ _ (fun _ => HS.out) ?_
    clear hKK KK
    simp only [Act.put, List.getElem_toArray, List.getElem_cons_zero, List.getElem_cons_succ, List.setIfInBounds_toArray, List.set_cons_zero, List.set_cons_succ]
    refine wpTill_ready (rs := [7]) (by kernel_rfl) (by simp) ?_
    refine (AllTill.cons rfl (fun KK hKK => ?_) AllTill.nil)
    rw [if_pos (by rfl)]
    go_simp
    refine hKK _ _ (fun _ => HS.out) ?_
    clear hKK KK
    simp only [Act.put, List.getElem_toArray, List.getElem_cons_zero, List.getElem_cons_succ, List.setIfInBounds_toArray, List.set_cons_zero, List.set_cons_succ]
    refine wpTill_take (i := 8) (v := .agg #[.int .i64 k0, .bool b0, .int .i64 n0, .string t0, .slice A5 l5 c5, .slice A6 l6 c6]) rfl (by kernel_rfl) (by kernel_rfl) (by kernel_rfl) (show Shutd _ _ #[true, true, true, true, true, true, true, true, false, false, false, false, false] from Shutd.put (i := 7) (show Shutd _ _ #[true, true, true, true, true, true, true, false, false, false, false, false, false] from Shutd.put (i := 6) (show Shutd _ _ #[true, true, true, true, true, true, false, false, false, false, false, false, false] from Shutd.put (i := 5) (show Shutd _ _ #[true, true, true, true, true, false, false, false, false, false, false, false, false] from Shutd.put (i := 2) HSH.out (by kernel_rfl)) (by kernel_rfl)) (by kernel_rfl)) (by kernel_rfl)) (fun l _ h9 => by cases h9) (fun l => rfl) (fun _ _ _ h => h) (Or.inl ⟨by rfl, ?yb8⟩) HS.out (fun hsh => ?_)
    case yb8 => (intro W0 hS; obtain ⟨s1, s2⟩ := hS; obtain ⟨x0, x1, x2, x3, x4, x5⟩ := s1.cells; obtain ⟨z0, z1, z2, z3, z4, z5⟩ := s2.cells; go_simp; (try with_reducible rfl))
    simp only [Act.put, List.getElem_toArray, List.getElem_cons_zero, List.getElem_cons_succ, List.setIfInBounds_toArray, List.set_cons_zero, List.set_cons_succ]
    clear HSH
    have HSH := Lib.hid hsh
    clear hsh
    refine wpTill_take (i := 9) (v := .agg #[.int .i64 k0, .bool b0, .int .i64 n0, .string t0, .slice A5 l5 c5, .slice A6 l6 c6]) rfl (by kernel_rfl) (by kernel_rfl) (by kernel_rfl) HSH.out (fun l _ h9 => by cases h9) (fun l => rfl) (fun _ _ _ h => h) (Or.inl ⟨by rfl, ?yb9⟩) HS.out (fun hsh => ?_)
    case yb9 => (intro W0 hS; obtain ⟨s1, s2⟩ := hS; obtain ⟨x0, x1, x2, x3, x4, x5⟩ := s1.cells; obtain ⟨z0, z1, z2, z3, z4, z5⟩ := s2.cells; go_simp; (try with_reducible rfl))
    simp only [Act.put, List.getElem_toArray, List.getElem_cons_zero, List.getElem_cons_succ, List.setIfInBounds_toArray, List.set_cons_zero, List.set_cons_succ]
    refine wpTill_ready (rs := [10]) (by kernel_rfl) (by simp) ?_
    refine (AllTill.cons rfl (fun KK hKK => ?_) AllTill.nil)
    rw [if_pos (by rfl)]
    go_simp
    refine (HC3.out w8 HW.out).mono ?_
    rintro e w9 ⟨rfl, hb⟩
    have HW1 := Lib.hid (HW.out.trans (hb.mono HW.out.size))
    have HS1 := Lib.hid (show (fun W => JBox W w.heap.size (.int .i64 k0) (.bool b0) (.int .i64 n0) (.string t0) (.slice A5 l5 c5) (.slice A6 l6 c6) ∧ JBox W (w.heap.size + 1) (.int .i64 k9) (.bool b9) (.int .i64 n9) (.string t9) (.slice B5 m5 d5) (.slice B6 m6 d6)) w9 from ⟨HS.out.1.next hb, HS.out.2.next hb⟩)
    refine hKK _ _ (fun _ => HS1.out) ?_
    clear hKK KK hb HS HW
    have HS := HS1
    have HW := HW1
    clear HS1 HW1
    simp only [Act.put, List.getElem_toArray, List.getElem_cons_zero, List.getElem_cons_succ, List.setIfInBounds_toArray, List.set_cons_zero, List.set_cons_succ]
    refine wpTill_ready (rs := [11]) (by kernel_rfl) (by simp) ?_
    refine (AllTill.cons rfl (fun KK hKK => ?_) AllTill.nil)
    rw [if_pos (by rfl)]
    go_simp
    refine hKK _ _ (fun _ => HS.out) ?_
    clear hKK KK
    simp only [Act.put, List.getElem_toArray, List.getElem_cons_zero, List.getElem_cons_succ, List.setIfInBounds_toArray, List.set_cons_zero, List.set_cons_succ]
    refine wpTill_ready (rs := [12]) (by kernel_rfl) (by simp) ?_
    refine (AllTill.cons rfl (fun KK hKK => ?_) AllTill.nil)
    rw [if_pos (by rfl)]
    go_simp
    refine hKK _ _ (fun _ => HS.out) ?_
    clear hKK KK
    simp only [Act.put, List.getElem_toArray, List.getElem_cons_zero, List.getElem_cons_succ, List.setIfInBounds_toArray, List.set_cons_zero, List.set_cons_succ]
    refine wpTill_done (by kernel_rfl) ?_ _
    (try simp only [Exit.then])
    obtain ⟨x0, x1, x2, x3, x4, x5⟩ := HS.out.1.cells
    go_wp2_with fail
    obtain ⟨jx9, _, s9, _⟩ := HALL.out _ HW.out
    refine (get_any x nm _ S w9 jx9 s9 HSM.out).mono ?_
    intro e w10 hO
    obtain ⟨hb10, there, k2, b2, n2, t2, C5, l7, c7, C6, l8, c8, rfl, ht, hf⟩ := getOut_any hO
    clear hO
    have bz := below_box w10 (.cells #[.int .i64 k2, .bool b2, .int .i64 n2, .string t2, .slice C5 l7 c7, .slice C6 l8 c8] 25)
    have HZ : Hid (JBox _ w10.heap.size (.int .i64 k2) (.bool b2) (.int .i64 n2) (.string t2) (.slice C5 l7 c7) (.slice C6 l8 c8)) := Lib.hid (heap_alloc_new w10 (.cells #[.int .i64 k2, .bool b2, .int .i64 n2, .string t2, .slice C5 l7 c7, .slice C6 l8 c8] 25))
    have HW11 := Lib.hid ((HW.out.trans (hb10.mono HW.out.size)).trans (bz.mono (Nat.le_trans HW.out.size hb10.size)))
    have HA := Lib.hid ((HS.out.1.next hb10).next bz)
    have HT : Hid (there = true → ∃ z, Js.getOf x nm = some z ∧ JV (w10.alloc (.cells #[.int .i64 k2, .bool b2, .int .i64 n2, .string t2, .slice C5 l7 c7, .slice C6 l8 c8] 25)) S z [.int .i64 k2, .bool b2, .int .i64 n2, .string t2, .slice C5 l7 c7, .slice C6 l8 c8]) := Lib.hid (fun h => by
      obtain ⟨z, h1, h2⟩ := ht h
      exact ⟨z, h1, h2.next bz⟩)
    have HF := Lib.hid hf
    clear bz ht hf hb10 HW HS x0 x1 x2 x3 x4 x5 jx9 s9 HC1 HC2 HC3 HSH
    go_upto_region 8 with fail
    generalize (w10.alloc (.cells #[.int .i64 k2, .bool b2, .int .i64 n2, .string t2, .slice C5 l7 c7, .slice C6 l8 c8] 25)) = w11 at HZ HW11 HA HT ⊢
    generalize w10.heap.size = M at HZ ⊢
    have hmm := (HALL.out w11 HW11.out).1
    obtain ⟨kx, bx, nx, tx, l, m⟩ := x
    unfold JV at hmm
    obtain ⟨_, _, _, _, hvs, -, -, -, hmm⟩ := hmm
    simp only [List.cons.injEq, Value.slice.injEq, Value.int.injEq, Value.bool.injEq, Value.string.injEq, and_true, true_and] at hvs
    obtain ⟨rfl, rfl, rfl, rfl, ⟨rfl, rfl, rfl⟩, rfl, rfl, rfl⟩ := hvs
    have HM := Lib.hid hmm
    have hnm2 : 1 + Js.nodesL l + Js.nodesM m ≤ 1073741824 := HSM.out
    have hml := Js.length_nodesM m
    clear hmm HALL HSM
    have HG : Hid (Js.getOf (.mk k0 b0 n0 tx l m) nm = if k0 = 6 then Js.getM m nm else none) := Lib.hid rfl
    generalize Js.getOf (.mk k0 b0 n0 tx l m) nm = G at HG HT HF
    obtain ⟨x0, x1, x2, x3, x4, x5⟩ := HA.out.cells
    obtain ⟨z0, z1, z2, z3, z4, z5⟩ := HZ.out.cells
    by_cases h6 : k0 = 6
    rotate_left
    · have hb : (k0 == 6) = false := by simpa using h6
      have hth : there = false := by
        cases there
        · rfl
        · obtain ⟨z, hz, _⟩ := HT.out rfl
          rw [HG.out, if_neg h6] at hz
          cases hz
      subst hth
      have hk2 := (HF.out rfl).2
      subst hk2
      clear h6
      go_wp2_with fail
      go_ret
      exact ⟨rfl, HW11.out⟩
    have hb : ((6 : Int) == 6) = true := by decide
    subst h6
    have HG6 : Hid (G = Js.getM m nm) := Lib.hid (by rw [HG.out, if_pos rfl])
    go_wp2_with fail
    clear x0 x1 x2 x3 x4 x5 z0 z1 z2 z3 z4 z5 HG
    go_loopw [44] (fun i wr => ∃ k : Nat, k ≤ m.length ∧ i = .int .i64 k ∧ Hid (Js.getM (m.take k) nm = none) ∧ Hid (Below w11.heap.size w11 wr)) (fun i _ => m.length - (intOf i).toNat)
    case atStart => exact ⟨0, Nat.zero_le _, rfl, Lib.hid rfl, Lib.hid (Below.refl _ _)⟩
    case round =>
      obtain ⟨k, hk, rfl, HK, HWr⟩ := hrel
      by_cases hlt : k < m.length
      · obtain ⟨n3, y, hy⟩ : ∃ n3 y, m[k]? = some (n3, y) := ⟨m[k].1, m[k].2, List.getElem?_eq_getElem hlt⟩
        obtain ⟨g, o, k1, b1, n1, t1, A7, l9, c9, A8, l10, c10, hA, hSg, hg, q0, q1, q2, q3, q4, q5, q6, hjy⟩ := (JM.next HM.out HWr.out).elem hy
        subst hA
        obtain ⟨p1, p2, p3⟩ := Js.nodesM_split m k n3 y hy
        have hyn : Js.nodes y ≤ 1073741824 := by omega
        have hbel := below_box wr (.cells #[.string (str n3), .int .i64 k1, .bool b1, .int .i64 n1, .string t1, .slice A7 l9 c9, .slice A8 l10 c10] 43)
        have HB := Lib.hid (heap_alloc_new wr (.cells #[.string (str n3), .int .i64 k1, .bool b1, .int .i64 n1, .string t1, .slice A7 l9 c9, .slice A8 l10 c10] 43))
        have HW1 := Lib.hid (HWr.out.trans (hbel.mono HWr.out.size))
        have HJy := Lib.hid (hjy.next hbel)
        have HY := Lib.hid hy
        clear hbel hjy hSg hy p1 p2 p3
        go_upto_region 12 with fail
        generalize (wr.alloc (.cells #[.string (str n3), .int .i64 k1, .bool b1, .int .i64 n1, .string t1, .slice A7 l9 c9, .slice A8 l10 c10] 43)) = w3 at HB HW1 HJy ⊢
        generalize wr.heap.size = Y at HB ⊢
        clear q0 q1 q2 q3 q4 q5 q6 hg
        obtain ⟨y0, y1, y2, y3, y4, y5, y6⟩ := blk7 HB.out
        have hst := str_beq n3 nm
        by_cases hnm : n3 = nm
        · have hR : G = some y := by rw [HG6.out]; exact Js.getM_hit (by rw [← hnm]; exact HY.out) HK.out
          rw [decide_eq_true hnm] at hst
          have hth : there = true := by
            cases there
            · have := (HF.out rfl).1
              rw [hR] at this
              cases this
            · rfl
          subst hth
          obtain ⟨z, hz, hjz⟩ := HT.out rfl
          rw [hR] at hz
          injection hz with hz
          subst hz
          have HJz := Lib.hid (hjz.next HW1.out)
          obtain ⟨z0, z1, z2, z3, z4, z5⟩ := (HZ.out.next HW1.out).cells
          clear hnm hR hjz
          go_wp2_with fail
          refine (rsame_any _ y y [.int .i64 k2, .bool b2, .int .i64 n2, .string t2, .slice C5 l7 c7, .slice C6 l8 c8] [.int .i64 k1, .bool b1, .int .i64 n1, .string t1, .slice A7 l9 c9, .slice A8 l10 c10] S w3 (Nat.le_refl _) hyn HJz.out HJy.out).mono ?_
          rintro e w4 ⟨rfl, hb4⟩
          rw [Js.same_self]
          go_wp2_with fail
          go_ret
          exact ⟨rfl, (HW11.out.trans (HW1.out.mono HW11.out.size)).trans (hb4.mono (Nat.le_trans HW11.out.size HW1.out.size))⟩
        · have HN : Hid (Js.getM (m.take (k + 1)) nm = none) := Lib.hid (Js.getM_step HY.out HK.out hnm)
          rw [decide_eq_false hnm] at hst
          clear hnm
          go_wp2_with fail
          go_roundw
          case rel => exact ⟨k + 1, by omega, by go_num, HN, HW1⟩
          case measure => simp [intOf]; omega
      · obtain rfl : k = m.length := by omega
        have hR : G = none := by
          rw [HG6.out]
          have := HK.out
          rwa [List.take_length] at this
        have hth : there = false := by
          cases there
          · rfl
          · obtain ⟨z, hz, _⟩ := HT.out rfl
            rw [hR] at hz
            cases hz
        subst hth
        have hk2 := (HF.out rfl).2
        subst hk2
        obtain ⟨z0, z1, z2, z3, z4, z5⟩ := (HZ.out.next HWr.out).cells
        clear hR
        go_wp2_with fail
        go_ret
        exact ⟨rfl, HW11.out.trans (HWr.out.mono HW11.out.size)⟩
theorem str_of (s : ByteArray) : s = str s.data.toList := by unfold str; simp
theorem tells_at (x : Js.J) (vs : List Value) (y : Js.J) (us : List Value) (s : ByteArray) (w : World) (henv : Env w) (hjx : JV w (fun g => g < w.heap.size) x vs) (_ : Js.inR x = true) (hjy : JV w (fun g => g < w.heap.size) y us) (_ : Js.inR y = true) (_ : s.size ≤ 9223372036854775807) :
    Calls Tryd.prog 6 #[.agg vs.toArray, .agg us.toArray, .string s] w fun e w' => e = .returned (.bool true) ∧ Below w.heap.size w w' := by
  rw [str_of s]
  exact tells_law x y _ vs us _ w hjx hjy (fun _ h => h) henv
end Go.Proofs.YtimioelnnhnbiaaDoor
