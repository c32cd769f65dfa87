/-
  THE WALKS, fourteenth part: wrong and Check of package script. CONDITIONS: the rows of an event lie as EvAt says.
-/
import Derived.Test.YthpojljfmipngaaGreatDoorWalkL
import Derived.Test.YthpojljfmipngaaGreatDoorWalkI
namespace Go.Proofs.YthpojljfmipngaaGreatDoor
open Go.RowKit
theorem wide_row (bx : Nat) (os : List Nat) (vs : List Int) (cs : Array Value) (T : TypeId) (A : Option Addr) (c : Nat) (w : World) (hl : os.length ≤ 1048576) (hov : os.length = vs.length) (hrow : PtrRow w A bx os) (hbox : w.heap[bx]? = some (.cells cs T (0, 0)))
    (hv : ∀ (i o : Nat) v, os[i]? = some o → vs[i]? = some v → cs[o]? = some (.int .i64 v)) :
    Calls Tryz.prog 26 #[.slice A os.length c] w fun e w' => e = .returned (.bool (Sc.wides vs)) ∧ w = w' := by
  have hlen : (os.map fun o => (⟨bx, o, none⟩ : Addr)).length = os.length := List.length_map _
  have hcells : ptrCells (os.map fun o => (⟨bx, o, none⟩ : Addr)) = ptrsOf bx os := by unfold ptrCells ptrsOf; rw [List.map_map]; rfl
  have h := wide_any (os.map fun o => (⟨bx, o, none⟩ : Addr)) vs A c w (by rw [hlen]; exact hl) (by rw [hcells]; exact hrow.cells) ⟨by rw [hlen]; exact hov, fun i p v hp hv' => ?_⟩
  · rwa [hlen] at h
  · rw [List.getElem?_map] at hp
    cases ho : os[i]? with
    | none => rw [ho] at hp; cases hp
    | some o =>
      rw [ho] at hp
      obtain rfl : (⟨bx, o, none⟩ : Addr) = p := by simpa using hp
      exact ⟨(Array.getElem?_eq_some_iff.1 hbox).1, (blk_cells hbox o).trans (hv i o v ho hv')⟩
theorem nums_cells' (x : Sc.Ev) (K B : Value) : ∀ (i o : Nat) v, (Sc.offs x.kind)[i]? = some o → (Sc.nums x)[i]? = some v → (#[.int .i64 x.kind, .int .i64 x.node, .int .i64 x.to, .int .i64 x.n, .int .i64 x.bit, K, B] : Array Value)[o]? = some (.int .i64 v) := by
  intro i o v ho hv
  unfold Sc.nums at hv
  rw [List.getElem?_map, ho] at hv
  have hv' : Sc.getF x o = v := by simpa using hv
  rcases offs_mem (List.mem_of_getElem? ho) with rfl | rfl | rfl | rfl
  · obtain rfl : x.node = v := hv'
    rfl
  · obtain rfl : x.to = v := hv'
    rfl
  · obtain rfl : x.n = v := hv'
    rfl
  · obtain rfl : x.bit = v := hv'
    rfl
/-- The numbers that are copied, one after the other. -/
def fillY (x : Sc.Ev) (cs : Array Value) : Nat → Array Value
  | 0 => cs
  | k + 1 => (fillY x cs k).setIfInBounds ((Sc.offs x.kind).getD k 0) (.int .i64 (Sc.getF x ((Sc.offs x.kind).getD k 0)))
theorem fillY_size (x : Sc.Ev) (cs : Array Value) (k : Nat) : (fillY x cs k).size = cs.size := by
  induction k with
  | zero => rfl
  | succ k ih => rw [fillY, Array.size_setIfInBounds, ih]
theorem But.drew {S : List Nat} {a w : World} (h : But S a w) : But S a w.drew := ⟨h.os, h.tape, h.output, h.size, h.block⟩
theorem fillY_done (x : Sc.Ev) (K B : Value) : fillY x #[.int .i64 x.kind, .int .i64 0, .int .i64 0, .int .i64 0, .int .i64 0, K, B] (Sc.offs x.kind).length = #[.int .i64 (Sc.clean x).kind, .int .i64 (Sc.clean x).node, .int .i64 (Sc.clean x).to, .int .i64 (Sc.clean x).n, .int .i64 (Sc.clean x).bit, K, B] := by
  unfold Sc.clean
  generalize ho : Sc.offs x.kind = os
  have e : ∀ k cs, fillY x cs k = (fun cs k => Nat.rec (motive := fun _ => Array Value) cs (fun k r => r.setIfInBounds (os.getD k 0) (.int .i64 (Sc.getF x (os.getD k 0)))) k) cs k := by
    intro k cs
    induction k with
    | zero => rfl
    | succ k ih => rw [fillY, ih, ho]
  rw [e]
  clear e
  unfold Sc.offs at ho
  split at ho
  · subst ho; rfl
  split at ho
  · subst ho; rfl
  split at ho
  · subst ho; rfl
  split at ho
  · subst ho; rfl
  split at ho
  · subst ho; rfl
  · subst ho; rfl
set_option maxRecDepth 100000 in
set_option maxHeartbeats 8000000 in
theorem wrong_any (x : Sc.Ev) (K A : Option Addr) (kc bc : Nat) (w : World) (hx : EvAt w x K A) :
    Calls Tryz.prog 28 #[evV x K A kc bc] w fun e w' => e = .returned (.bool (Sc.wrong x)) ∧ Below w.heap.size w w' := by
  have hbx : EvBox (w.alloc (.cells #[.int .i64 x.kind, .int .i64 x.node, .int .i64 x.to, .int .i64 x.n, .int .i64 x.bit, .slice K x.keep.length kc, .slice A x.bytes.length bc] 39)) w.heap.size x K A kc bc := heap_alloc_new w _
  have hb1 := below_box w (.cells #[.int .i64 x.kind, .int .i64 x.node, .int .i64 x.to, .int .i64 x.n, .int .i64 x.bit, .slice K x.keep.length kc, .slice A x.bytes.length bc] 39)
  have HX := Lib.hid hx
  have HB1 := Lib.hid hb1
  have HBX := Lib.hid hbx
  clear hx hb1 hbx
  unfold evV
  by_cases k1 : x.kind < 1
  · have HE : Hid (Sc.wrong x = true) := Lib.hid (by unfold Sc.wrong; simp [k1])
    go_enter Tryz.func28, Tryz.ntmps28
    go_wp2_with fail
    go_ret
    exact ⟨ret_bool HE.out.symm, HB1.out⟩
  by_cases k11 : 11 < x.kind
  · have HE : Hid (Sc.wrong x = true) := Lib.hid (by unfold Sc.wrong; simp [k11])
    go_enter Tryz.func28, Tryz.ntmps28
    go_wp2_with fail
    go_ret
    exact ⟨ret_bool HE.out.symm, HB1.out⟩
  go_enter Tryz.func28, Tryz.ntmps28
  go_wp2_with fail
  generalize w.alloc (.cells #[.int .i64 x.kind, .int .i64 x.node, .int .i64 x.to, .int .i64 x.n, .int .i64 x.bit, .slice K x.keep.length kc, .slice A x.bytes.length bc] 39) = w1 at HBX HB1 ⊢
  generalize hbxe : w.heap.size = bx at HBX ⊢
  obtain ⟨c0, c1, c2, c3, c4, c5, c6⟩ := HBX.out.cells
  refine (fields_row bx x.kind _ c0).mono ?_
  rintro e w2 ⟨FA, rfl, hrow, hb2⟩
  have HBX2 := Lib.hid (HBX.out.next hb2)
  have HB2 := Lib.hid (HB1.out.trans (hb2.mono HB1.out.size))
  have HOL : Hid ((Sc.offs x.kind).length = (Sc.nums x).length) := Lib.hid (by unfold Sc.nums; rw [List.length_map])
  have hol2 : (Sc.offs x.kind).length ≤ 1048576 := Nat.le_trans (offs_len _) (by decide)
  clear c0 c1 c2 c3 c4 c5 c6 HB1 HBX
  go_wp2_with fail
  refine (wide_row bx _ (Sc.nums x) _ 39 FA _ _ hol2 HOL.out hrow HBX2.out (nums_cells' x _ _)).mono ?_
  rintro e w' ⟨rfl, rfl⟩
  clear hrow hb2
  cases hw : Sc.wides (Sc.nums x) with
  | true =>
    have HE : Hid (Sc.wrong x = true) := Lib.hid (by unfold Sc.wrong; simp [hw])
    clear hw
    go_wp2_with fail
    go_ret
    exact ⟨ret_bool HE.out.symm, HB2.out⟩
  | false =>
  have HW := Lib.hid hw
  clear hw
  obtain ⟨c0, c1, c2, c3, c4, c5, c6⟩ := HBX2.out.cells
  go_wp2_with fail
  have hy0 := heap_alloc_new w2 (.cells #[.int .i64 x.kind, .int .i64 0, .int .i64 0, .int .i64 0, .int .i64 0, .slice none 0 0, .slice none 0 0] 39)
  have hby := below_box w2 (.cells #[.int .i64 x.kind, .int .i64 0, .int .i64 0, .int .i64 0, .int .i64 0, .slice none 0 0, .slice none 0 0] 39)
  have HB3 := Lib.hid (HB2.out.trans (hby.mono HB2.out.size))
  have HBX3 := Lib.hid (HBX2.out.next hby)
  have hne : bx ≠ w2.heap.size := Nat.ne_of_lt (Array.getElem?_eq_some_iff.1 HBX2.out).1
  have hwle : bx ≤ w2.heap.size := by rw [← hbxe]; exact HB2.out.size
  clear c0 c1 c2 c3 c4 c5 c6 HB2 HBX2 hby
  generalize w2.alloc (.cells #[.int .i64 x.kind, .int .i64 0, .int .i64 0, .int .i64 0, .int .i64 0, .slice none 0 0, .slice none 0 0] 39) = w3 at hy0 HB3 HBX3 ⊢
  generalize w2.heap.size = yb at hy0 hne hwle ⊢
  have cy0 := (blk_cells hy0 0).trans rfl
  have HY := Lib.hid hy0
  refine (fields_row yb x.kind _ cy0).mono ?_
  rintro e w4 ⟨TA, rfl, hT, hb4⟩
  have HBX4 := Lib.hid (HBX3.out.next hb4)
  have HB4 := Lib.hid (HB3.out.trans (hb4.mono HB3.out.size))
  have HY4 := Lib.hid (blk_next hb4 HY.out)
  clear cy0 hy0 hb4 HBX3 HB3 HY
  obtain ⟨c0, c1, c2, c3, c4, c5, c6⟩ := HBX4.out.cells
  go_wp2_with fail
  refine (fields_row bx x.kind _ c0).mono ?_
  rintro e w5 ⟨SA, rfl, hS, hb5⟩
  have HBX5 := Lib.hid (HBX4.out.next hb5)
  have HB5 := Lib.hid (HB4.out.trans (hb5.mono HB4.out.size))
  have HY5 := Lib.hid (blk_next hb5 HY4.out)
  have HT5 := Lib.hid (hT.next hb5)
  have HS5 := Lib.hid hS
  have hS81 : Hid (∀ j ∈ [yb], ∀ cs' fz, w5.heap[j]? ≠ some (.cells cs' 72 fz)) := Lib.hid (by
    intro j hj cs' fz e
    simp at hj
    subst hj
    have := HY5.out.symm.trans e; injection this with this; injection this with _ this; cases this)
  clear c0 c1 c2 c3 c4 c5 c6 hT hS hb5 HBX4 HB4 HY4
  go_wp2_with fail
  go_loopw [5, 6, 25] (fun _ _ i wr => ∃ k : Nat, k ≤ (Sc.offs x.kind).length ∧ i = .int .i64 k ∧ wr.heap[yb]? = some (.cells (fillY x #[.int .i64 x.kind, .int .i64 0, .int .i64 0, .int .i64 0, .int .i64 0, .slice none 0 0, .slice none 0 0] k) 39 (0, 0)) ∧ But [yb] w5 wr) (fun _ _ i _ => (Sc.offs x.kind).length - (intOf i).toNat)
  case atStart => exact ⟨0, Nat.zero_le _, rfl, HY5.out, But.refl _ _⟩
  case round =>
    obtain ⟨k, hk, rfl, hY, hko⟩ := hrel
    by_cases hlt : k < (Sc.offs x.kind).length
    · obtain ⟨o, ho⟩ : ∃ o, (Sc.offs x.kind)[k]? = some o := ⟨_, List.getElem?_eq_getElem hlt⟩
      have hod : (Sc.offs x.kind).getD k 0 = o := by rw [List.getD_eq_getElem?_getD, ho]; rfl
      have hne0 : Sc.offs x.kind ≠ [] := by intro e; rw [e] at ho; simp at ho
      obtain ⟨g1, rfl, hg1⟩ := (HT5.out.but hko hS81.out) hne0
      obtain ⟨g2, rfl, hg2⟩ := (HS5.out.but hko hS81.out) hne0
      have p1 : wr.cell? ⟨g1, k, none⟩ = some (.pointer (some ⟨yb, o, none⟩)) := by
        rw [blk_cells hg1 k, List.getElem?_toArray]; unfold ptrsOf; rw [List.getElem?_map, ho]; rfl
      have p2 : wr.cell? ⟨g2, k, none⟩ = some (.pointer (some ⟨bx, o, none⟩)) := by
        rw [blk_cells hg2 k, List.getElem?_toArray]; unfold ptrsOf; rw [List.getElem?_map, ho]; rfl
      have hbxr := hko.blk HBX5.out (by simpa using hne)
      have p3 : wr.cell? ⟨bx, o, none⟩ = some (.int .i64 (Sc.getF x o)) := (blk_cells hbxr o).trans (nums_cells' x _ _ k o _ ho (by unfold Sc.nums; rw [List.getElem?_map, ho]; rfl))
      have hF : Hid (fillY x #[.int .i64 x.kind, .int .i64 0, .int .i64 0, .int .i64 0, .int .i64 0, .slice none 0 0, .slice none 0 0] (k + 1) = (fillY x #[.int .i64 x.kind, .int .i64 0, .int .i64 0, .int .i64 0, .int .i64 0, .slice none 0 0, .slice none 0 0] k).setIfInBounds o (.int .i64 (Sc.getF x o))) := Lib.hid (by rw [fillY, hod])
      have f1 := blk_free hY o
      have l1 : yb < wr.heap.size := (Array.getElem?_eq_some_iff.1 hY).1
      have l2 : bx < wr.heap.size := (Array.getElem?_eq_some_iff.1 hbxr).1
      have l3 : g1 < wr.heap.size := (Array.getElem?_eq_some_iff.1 hg1).1
      have l4 : g2 < wr.heap.size := (Array.getElem?_eq_some_iff.1 hg2).1
      have hst := but_set (i := o) (.int .i64 (Sc.getF x o)) hY
      have HST := Lib.hid hst
      have HKO := Lib.hid (hko.trans hst.1)
      have hlt2 : k ≤ 1048576 := by omega
      obtain ⟨u0, pold⟩ : ∃ u, wr.cell? ⟨yb, o, none⟩ = some u := by
        have ho4 := offs_mem (List.mem_of_getElem? ho)
        have hsz : o < (fillY x #[.int .i64 x.kind, .int .i64 0, .int .i64 0, .int .i64 0, .int .i64 0, .slice none 0 0, .slice none 0 0] k).size := by rw [fillY_size]; simp; omega
        exact ⟨_, (blk_cells hY o).trans (Array.getElem?_eq_getElem hsz)⟩
      clear ho hod hne0 hg1 hg2 hbxr hst hko hY
      go_wp2_with fail
      go_region
      go_wp2_with fail
      go_roundw
      case rel => exact ⟨k + 1, by omega, by go_num, by rw [hF.out]; exact HST.out.2, HKO.out.drew⟩
      case measure => simp [intOf]; omega
    · obtain rfl : k = (Sc.offs x.kind).length := by omega
      rw [fillY_done] at hY
      have HBXr : Hid (EvBox wr bx x K A kc bc) := Lib.hid (hko.blk HBX5.out (by simpa using hne))
      have HBr : Hid (Below bx w wr) := Lib.hid (by rw [← hbxe]; exact HB5.out.trans (hko.to (B := w.heap.size) HB5.out.size (by intro j hj; simp at hj; subst hj; rw [hbxe]; exact hwle)))
      have HWR : Hid (Sc.wrong x = (!sameEv x (Sc.clean x) || decide (10240 < x.bytes.length) || decide (2048 < x.keep.length))) := Lib.hid (by
        unfold Sc.wrong
        rw [HW.out, sameEv_eq, decide_eq_false (show ¬ x.kind < 1 by omega), decide_eq_false (show ¬ 11 < x.kind by omega)]; rfl)
      have HYr := Lib.hid hY
      have hsz : yb < wr.heap.size := (Array.getElem?_eq_some_iff.1 hY).1
      clear hko HBX5 HB5 HY5 HT5 HS5 hS81 hY
      obtain ⟨c0, c1, c2, c3, c4, c5, c6⟩ := HBXr.out.cells
      by_cases h1 : x.kind = 1
      · have b1 : (x.kind == 1) = true := by rw [h1]; rfl
        have hk0 : (Sc.clean x).keep = [] := by unfold Sc.clean; simp [h1]
        have hb0 : (Sc.clean x).bytes = x.bytes := by unfold Sc.clean; simp [h1]
        clear h1
        have hst := but_set (i := 6) (.slice A x.bytes.length bc) HYr.out
        have HYE : Hid (EvBox (wr.setCell ⟨yb, 6, none⟩ (.slice A x.bytes.length bc)) yb (Sc.clean x) none A 0 bc) := Lib.hid (by
          unfold EvBox; rw [hst.2, hk0, hb0]; rfl)
        have HBXy : Hid (EvBox (wr.setCell ⟨yb, 6, none⟩ (.slice A x.bytes.length bc)) bx x K A kc bc) := Lib.hid (hst.1.blk HBXr.out (by simpa using hne))
        have HBy : Hid (Below bx w (wr.setCell ⟨yb, 6, none⟩ (.slice A x.bytes.length bc))) := Lib.hid (HBr.out.trans (hst.1.to (by have := (Array.getElem?_eq_some_iff.1 HBXr.out).1; omega) (by intro j hj; simp at hj; omega)))
        have HXy : Hid (EvAt (wr.setCell ⟨yb, 6, none⟩ (.slice A x.bytes.length bc)) x K A) := Lib.hid (HX.out.next (by rw [hbxe]; exact HBy.out))
        have HYA : Hid (EvAt (wr.setCell ⟨yb, 6, none⟩ (.slice A x.bytes.length bc)) (Sc.clean x) none A) := Lib.hid ⟨by rw [hk0]; exact CellsAt.nil _ _, by rw [hb0]; exact HXy.out.bytes, by rw [hk0]; exact Nat.zero_le _, by rw [hb0]; exact HXy.out.bl⟩
        have fy := blk_free HYr.out 6
        have ey := blk_cells HYr.out 6
        obtain ⟨d0, d1, d2, d3, d4, d5, d6⟩ := HBXy.out.cells
        obtain ⟨e0, e1, e2, e3, e4, e5, e6⟩ := HYE.out.cells
        have hlew : bx ≤ (wr.setCell ⟨yb, 6, none⟩ (.slice A x.bytes.length bc)).heap.size := Nat.le_trans (show bx ≤ w.heap.size by omega) HBy.out.size
        clear hst hk0 hb0
        go_wp2_with fail
        refine (same_any x (Sc.clean x) K A none A kc bc 0 bc _ HXy.out HYA.out).mono ?_
        rintro e w6 ⟨rfl, hb6⟩
        have HBX6 := Lib.hid (HBXy.out.next hb6)
        have HB6 := Lib.hid (HBy.out.trans (hb6.mono hlew))
        clear hb6 c0 c1 c2 c3 c4 c5 c6 d0 d1 d2 d3 d4 d5 d6 e0 e1 e2 e3 e4 e5 e6 HBXy HBy
        obtain ⟨c0, c1, c2, c3, c4, c5, c6⟩ := HBX6.out.cells
        cases hsame : sameEv x (Sc.clean x) with
        | false =>
          have HE : Hid (Sc.wrong x = true) := Lib.hid (by rw [HWR.out, hsame]; rfl)
          clear hsame
          go_wp2_with fail
          go_ret
          exact ⟨ret_bool HE.out.symm, by rw [hbxe]; exact HB6.out⟩
        | true =>
          have HSM := Lib.hid hsame
          clear hsame
          by_cases l1 : (10240 : Int) < x.bytes.length
          · have HE : Hid (Sc.wrong x = true) := Lib.hid (by rw [HWR.out]; have : 10240 < x.bytes.length := by omega
                                                             simp [this])
            go_wp2_with fail
            go_ret
            exact ⟨ret_bool HE.out.symm, by rw [hbxe]; exact HB6.out⟩
          by_cases l2 : (2048 : Int) < x.keep.length
          · have HE : Hid (Sc.wrong x = true) := Lib.hid (by rw [HWR.out]; have : 2048 < x.keep.length := by omega
                                                             simp [this])
            go_wp2_with fail
            go_ret
            exact ⟨ret_bool HE.out.symm, by rw [hbxe]; exact HB6.out⟩
          · have HE : Hid (Sc.wrong x = false) := Lib.hid (by rw [HWR.out, HSM.out]; have h1 : ¬ 10240 < x.bytes.length := by omega
                                                              have h2 : ¬ 2048 < x.keep.length := by omega
                                                              simp [h1, h2])
            go_wp2_with fail
            go_ret
            exact ⟨ret_bool (by rw [HE.out, Bool.or_eq_false_iff, decide_eq_false_iff_not, decide_eq_false_iff_not]; omega), by rw [hbxe]; exact HB6.out⟩
      have b1 : (x.kind == 1) = false := beq_eq_false_iff_ne.2 h1
      by_cases h8 : x.kind = 8
      · have b8 : (x.kind == 8) = true := by rw [h8]; rfl
        have hk0 : (Sc.clean x).keep = x.keep := by unfold Sc.clean; simp [h8]
        have hb0 : (Sc.clean x).bytes = [] := by unfold Sc.clean; simp [h8]
        clear h1 h8
        have hst := but_set (i := 5) (.slice K x.keep.length kc) HYr.out
        have HYE : Hid (EvBox (wr.setCell ⟨yb, 5, none⟩ (.slice K x.keep.length kc)) yb (Sc.clean x) K none kc 0) := Lib.hid (by
          unfold EvBox; rw [hst.2, hk0, hb0]; rfl)
        have HBXy : Hid (EvBox (wr.setCell ⟨yb, 5, none⟩ (.slice K x.keep.length kc)) bx x K A kc bc) := Lib.hid (hst.1.blk HBXr.out (by simpa using hne))
        have HBy : Hid (Below bx w (wr.setCell ⟨yb, 5, none⟩ (.slice K x.keep.length kc))) := Lib.hid (HBr.out.trans (hst.1.to (by have := (Array.getElem?_eq_some_iff.1 HBXr.out).1; omega) (by intro j hj; simp at hj; omega)))
        have HXy : Hid (EvAt (wr.setCell ⟨yb, 5, none⟩ (.slice K x.keep.length kc)) x K A) := Lib.hid (HX.out.next (by rw [hbxe]; exact HBy.out))
        have HYA : Hid (EvAt (wr.setCell ⟨yb, 5, none⟩ (.slice K x.keep.length kc)) (Sc.clean x) K none) := Lib.hid ⟨by rw [hk0]; exact HXy.out.keep, by rw [hb0]; exact CellsAt.nil _ _, by rw [hk0]; exact HXy.out.kl, by rw [hb0]; exact Nat.zero_le _⟩
        have fy := blk_free HYr.out 5
        have ey := blk_cells HYr.out 5
        obtain ⟨d0, d1, d2, d3, d4, d5, d6⟩ := HBXy.out.cells
        obtain ⟨e0, e1, e2, e3, e4, e5, e6⟩ := HYE.out.cells
        have hlew : bx ≤ (wr.setCell ⟨yb, 5, none⟩ (.slice K x.keep.length kc)).heap.size := Nat.le_trans (show bx ≤ w.heap.size by omega) HBy.out.size
        clear hst hk0 hb0
        go_wp2_with fail
        refine (same_any x (Sc.clean x) K A K none kc bc kc 0 _ HXy.out HYA.out).mono ?_
        rintro e w6 ⟨rfl, hb6⟩
        have HBX6 := Lib.hid (HBXy.out.next hb6)
        have HB6 := Lib.hid (HBy.out.trans (hb6.mono hlew))
        clear hb6 c0 c1 c2 c3 c4 c5 c6 d0 d1 d2 d3 d4 d5 d6 e0 e1 e2 e3 e4 e5 e6 HBXy HBy
        obtain ⟨c0, c1, c2, c3, c4, c5, c6⟩ := HBX6.out.cells
        cases hsame : sameEv x (Sc.clean x) with
        | false =>
          have HE : Hid (Sc.wrong x = true) := Lib.hid (by rw [HWR.out, hsame]; rfl)
          clear hsame
          go_wp2_with fail
          go_ret
          exact ⟨ret_bool HE.out.symm, by rw [hbxe]; exact HB6.out⟩
        | true =>
          have HSM := Lib.hid hsame
          clear hsame
          by_cases l1 : (10240 : Int) < x.bytes.length
          · have HE : Hid (Sc.wrong x = true) := Lib.hid (by rw [HWR.out]; have : 10240 < x.bytes.length := by omega
                                                             simp [this])
            go_wp2_with fail
            go_ret
            exact ⟨ret_bool HE.out.symm, by rw [hbxe]; exact HB6.out⟩
          by_cases l2 : (2048 : Int) < x.keep.length
          · have HE : Hid (Sc.wrong x = true) := Lib.hid (by rw [HWR.out]; have : 2048 < x.keep.length := by omega
                                                             simp [this])
            go_wp2_with fail
            go_ret
            exact ⟨ret_bool HE.out.symm, by rw [hbxe]; exact HB6.out⟩
          · have HE : Hid (Sc.wrong x = false) := Lib.hid (by rw [HWR.out, HSM.out]; have h1 : ¬ 10240 < x.bytes.length := by omega
                                                              have h2 : ¬ 2048 < x.keep.length := by omega
                                                              simp [h1, h2])
            go_wp2_with fail
            go_ret
            exact ⟨ret_bool (by rw [HE.out, Bool.or_eq_false_iff, decide_eq_false_iff_not, decide_eq_false_iff_not]; omega), by rw [hbxe]; exact HB6.out⟩
      · have b8 : (x.kind == 8) = false := beq_eq_false_iff_ne.2 h8
        have hk0 : (Sc.clean x).keep = [] := by unfold Sc.clean; simp [h8]
        have hb0 : (Sc.clean x).bytes = [] := by unfold Sc.clean; simp [h1]
        clear h1 h8
        have HYE : Hid (EvBox wr yb (Sc.clean x) none none 0 0) := Lib.hid (by
          unfold EvBox; rw [HYr.out, hk0, hb0]; rfl)
        have HXy : Hid (EvAt wr x K A) := Lib.hid (HX.out.next (by rw [hbxe]; exact HBr.out))
        have HYA : Hid (EvAt wr (Sc.clean x) none none) := Lib.hid ⟨by rw [hk0]; exact CellsAt.nil _ _, by rw [hb0]; exact CellsAt.nil _ _, by rw [hk0]; exact Nat.zero_le _, by rw [hb0]; exact Nat.zero_le _⟩
        obtain ⟨d0, d1, d2, d3, d4, d5, d6⟩ := HBXr.out.cells
        obtain ⟨e0, e1, e2, e3, e4, e5, e6⟩ := HYE.out.cells
        have hlew : bx ≤ wr.heap.size := by omega
        clear hk0 hb0
        go_wp2_with fail
        refine (same_any x (Sc.clean x) K A none none kc bc 0 0 _ HXy.out HYA.out).mono ?_
        rintro e w6 ⟨rfl, hb6⟩
        have HBX6 := Lib.hid (HBXr.out.next hb6)
        have HB6 := Lib.hid (HBr.out.trans (hb6.mono hlew))
        clear hb6 c0 c1 c2 c3 c4 c5 c6 d0 d1 d2 d3 d4 d5 d6 e0 e1 e2 e3 e4 e5 e6 HBXr HBr
        obtain ⟨c0, c1, c2, c3, c4, c5, c6⟩ := HBX6.out.cells
        cases hsame : sameEv x (Sc.clean x) with
        | false =>
          have HE : Hid (Sc.wrong x = true) := Lib.hid (by rw [HWR.out, hsame]; rfl)
          clear hsame
          go_wp2_with fail
          go_ret
          exact ⟨ret_bool HE.out.symm, by rw [hbxe]; exact HB6.out⟩
        | true =>
          have HSM := Lib.hid hsame
          clear hsame
          by_cases l1 : (10240 : Int) < x.bytes.length
          · have HE : Hid (Sc.wrong x = true) := Lib.hid (by rw [HWR.out]; have : 10240 < x.bytes.length := by omega
                                                             simp [this])
            go_wp2_with fail
            go_ret
            exact ⟨ret_bool HE.out.symm, by rw [hbxe]; exact HB6.out⟩
          by_cases l2 : (2048 : Int) < x.keep.length
          · have HE : Hid (Sc.wrong x = true) := Lib.hid (by rw [HWR.out]; have : 2048 < x.keep.length := by omega
                                                             simp [this])
            go_wp2_with fail
            go_ret
            exact ⟨ret_bool HE.out.symm, by rw [hbxe]; exact HB6.out⟩
          · have HE : Hid (Sc.wrong x = false) := Lib.hid (by rw [HWR.out, HSM.out]; have h1 : ¬ 10240 < x.bytes.length := by omega
                                                              have h2 : ¬ 2048 < x.keep.length := by omega
                                                              simp [h1, h2])
            go_wp2_with fail
            go_ret
            exact ⟨ret_bool (by rw [HE.out, Bool.or_eq_false_iff, decide_eq_false_iff_not, decide_eq_false_iff_not]; omega), by rw [hbxe]; exact HB6.out⟩
end Go.Proofs.YthpojljfmipngaaGreatDoor
