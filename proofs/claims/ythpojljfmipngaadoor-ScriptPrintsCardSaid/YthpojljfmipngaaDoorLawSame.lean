/-
  THE WALK of ScriptSame. CONDITIONS: Env; the scripts lie as ArgEvs says.
-/
import Derived.Test.YthpojljfmipngaaDoorLawBack
import Derived.Test.YthpojljfmipngaaDoorRefB
import Derived.Test.YthpojljfmipngaaDoorCopyB
import Derived.Deep.RegionHeld3
namespace Go.Proofs.YthpojljfmipngaaDoor
open Go.RowKit
theorem few_rows (s : Sc.Scr) : ∀ x ∈ (fewOf s).events, x.keep.length ≤ 1073741824 ∧ x.bytes.length ≤ 1073741824 := by
  intro x hx
  unfold fewOf at hx
  obtain ⟨y, _, rfl⟩ := List.mem_map.1 hx
  unfold cutEv
  simp only [List.length_take]
  omega
set_option maxRecDepth 100000 in
set_option maxHeartbeats 8000000 in
theorem same_law (s t : Sc.Scr) (A B : Option Addr) (c d : Nat) (w : World) (henv : Env w) (hl : s.events.length ≤ 9223372036854775807) (hm : t.events.length ≤ 9223372036854775807) (hA : ArgEvs w A s.events) (hB : ArgEvs w B t.events) :
    Calls Tryd.prog 5 #[scrV s A c, scrV t B d] w fun e w' => e = .returned (.bool true) ∧ Below w.heap.size w w' := by
  have hb1 := below_box w (.cells #[.int .i64 s.servers, .int .i64 s.area, .slice A s.events.length c] 28)
  have hb2 := below_box (w.alloc (.cells #[.int .i64 s.servers, .int .i64 s.area, .slice A s.events.length c] 28)) (.cells #[.int .i64 t.servers, .int .i64 t.area, .slice B t.events.length d] 28)
  have hX : ScrBox ((w.alloc (.cells #[.int .i64 s.servers, .int .i64 s.area, .slice A s.events.length c] 28)).alloc (.cells #[.int .i64 t.servers, .int .i64 t.area, .slice B t.events.length d] 28)) w.heap.size s A c := blk_next hb2 (heap_alloc_new w _)
  have hY : ScrBox ((w.alloc (.cells #[.int .i64 s.servers, .int .i64 s.area, .slice A s.events.length c] 28)).alloc (.cells #[.int .i64 t.servers, .int .i64 t.area, .slice B t.events.length d] 28)) (w.heap.size + 1) t B d := by
    have := heap_alloc_new (w.alloc (.cells #[.int .i64 s.servers, .int .i64 s.area, .slice A s.events.length c] 28)) (.cells #[.int .i64 t.servers, .int .i64 t.area, .slice B t.events.length d] 28)
    simpa [ScrBox] using this
  have hbw := hb1.trans (hb2.mono hb1.size)
  have HB := Lib.hid hbw
  have HX := Lib.hid hX
  have HY := Lib.hid hY
  have HA := Lib.hid (hA.next hbw)
  have HBB := Lib.hid (hB.next hbw)
  have HENV := Lib.hid henv
  have HHL := Lib.hid hl
  have HHM := Lib.hid hm
  clear hb1 hb2 hX hY hbw hA hB henv hl hm
  unfold scrV
  go_enter Tryd.func5, Tryd.ntmps5
  go_wp2_with fail
  generalize (w.alloc (.cells #[.int .i64 s.servers, .int .i64 s.area, .slice A s.events.length c] 28)).alloc (.cells #[.int .i64 t.servers, .int .i64 t.area, .slice B t.events.length d] 28) = w1 at HA HBB HX HY HB ⊢
  generalize hsb : w.heap.size = sb at HX HY ⊢
  generalize htb : sb + 1 = tb at HY ⊢
  have hne : sb ≠ tb := by omega
  refine (wakes_any _ (HENV.out.next (hsb ▸ HB.out))).mono ?_
  rintro e w2 ⟨rfl, hb2⟩
  have HA2 := Lib.hid (HA.out.next hb2)
  have HBB2 := Lib.hid (HBB.out.next hb2)
  have HX2 := Lib.hid (HX.out.next hb2)
  have HY2 := Lib.hid (HY.out.next hb2)
  have HB2 := Lib.hid (HB.out.trans (hb2.mono HB.out.size))
  clear hb2 HA HBB HX HY HB
  go_wp2_with fail
  have HA3 : Hid (ArgEvs w2.drew A s.events) := Lib.hid (HA2.out.next (below_drewN (Below.refl _ _) 1))
  have HBB3 : Hid (ArgEvs w2.drew B t.events) := Lib.hid (HBB2.out.next (below_drewN (Below.refl _ _) 1))
  have HX3 : Hid (ScrBox w2.drew sb s A c) := Lib.hid (HX2.out.next (below_drewN (Below.refl _ _) 1))
  have HY3 : Hid (ScrBox w2.drew tb t B d) := Lib.hid (HY2.out.next (below_drewN (Below.refl _ _) 1))
  have HB3 : Hid (Below w.heap.size w w2.drew) := Lib.hid (HB2.out.trans (below_drewN (Below.refl _ _) 1))
  clear HA2 HBB2 HX2 HY2 HB2
  refine wp_region_any (by kernel_rfl) ?_
  change wpAny _ _ _ _ _ _ _ (World.drew _)
  generalize w2.drew = w3 at HA3 HBB3 HX3 HY3 HB3 ⊢
  have HSW : Hid (∀ W, Below w3.heap.size w3 W → (W.cell? ⟨sb, 0, none⟩ = some (.int .i64 s.servers) ∧ W.cell? ⟨sb, 1, none⟩ = some (.int .i64 s.area) ∧ W.cell? ⟨sb, 2, none⟩ = some (.slice A s.events.length c)) ∧ (W.cell? ⟨tb, 0, none⟩ = some (.int .i64 t.servers) ∧ W.cell? ⟨tb, 1, none⟩ = some (.int .i64 t.area) ∧ W.cell? ⟨tb, 2, none⟩ = some (.slice B t.events.length d))) := Lib.hid (fun W h => ⟨(HX3.out.next h).cells, (HY3.out.next h).cells⟩)
  refine wpAny_of_till (S := fun W => (W.cell? ⟨sb, 0, none⟩ = some (.int .i64 s.servers) ∧ W.cell? ⟨sb, 1, none⟩ = some (.int .i64 s.area) ∧ W.cell? ⟨sb, 2, none⟩ = some (.slice A s.events.length c)) ∧ (W.cell? ⟨tb, 0, none⟩ = some (.int .i64 t.servers) ∧ W.cell? ⟨tb, 1, none⟩ = some (.int .i64 t.area) ∧ W.cell? ⟨tb, 2, none⟩ = some (.slice B t.events.length d))) (st := fun l => l.getD 4 false) _ _ _ _ ?_
  change wpTill _ _ _ _ _ _ _ #[false, false, false, false, false, false] _ _
  refine wpTill_take (i := 0) (v := ?va1) rfl (by kernel_rfl) (by kernel_rfl) (by kernel_rfl) (show Shutd _ _ #[false, false, false, false, false, false] from Shutd.start 6) (fun l h h9 => (Shutd.step h (j := 1) (k := 0) (by kernel_rfl) (Shutd.step h (j := 4) (k := 1) (by kernel_rfl) h9))) (fun l => getD_set_ne false (by decide)) (fun _ _ _ h => h) (Or.inl ⟨by rfl, ?ya1⟩) (HSW.out _ (Below.refl _ _)) (fun hsh1 => ?_)
  case ya1 => (intro w hS; obtain ⟨⟨c0, c1, c2⟩, _⟩ := hS; go_simp; (try with_reducible rfl))
  simp only [Act.put, List.getElem_toArray, List.getElem_cons_zero, List.setIfInBounds_toArray, List.set_cons_zero, List.set_cons_succ] at hsh1 ⊢
  refine wpTill_take (i := 2) (v := ?va2) rfl (by kernel_rfl) (by kernel_rfl) (by kernel_rfl) hsh1 (fun l h h9 => (Shutd.step h (j := 3) (k := 2) (by kernel_rfl) (Shutd.step h (j := 4) (k := 3) (by kernel_rfl) h9))) (fun l => getD_set_ne false (by decide)) (fun _ _ _ h => h) (Or.inl ⟨by rfl, ?ya2⟩) (HSW.out _ (Below.refl _ _)) (fun hsh2 => ?_)
  case ya2 => (intro w hS; obtain ⟨_, c0, c1, c2⟩ := hS; go_simp; (try with_reducible rfl))
  simp only [Act.put, List.getElem_toArray, List.getElem_cons_zero, List.getElem_cons_succ, List.setIfInBounds_toArray, List.set_cons_zero, List.set_cons_succ] at hsh2 ⊢
  clear hsh1 hsh2
  refine wpTill_ready (rs := [1]) (by kernel_rfl) (by simp) ?_
  refine (AllTill.cons rfl (fun KK hKK => ?_) AllTill.nil)
  rw [if_pos (by rfl)]
  go_simp
  refine (few_any s A c _ HHL.out HA3.out).mono ?_
  rintro e w4 ⟨A4, c4, rfl, hE4, hb4⟩
  have HE4 := Lib.hid hE4
  have HX4 := Lib.hid (HX3.out.next hb4)
  have HY4 := Lib.hid (HY3.out.next hb4)
  have HBB4 := Lib.hid (HBB3.out.next hb4)
  have HB4 := Lib.hid (HB3.out.trans (hb4.mono HB3.out.size))
  have hs4 := HSW.out w4 hb4
  have HBX4 := Lib.hid hb4
  clear hE4 hb4 HA3
  simp only []
  refine hKK _ _ (fun _ => hs4) ?_
  clear hKK KK hs4
  simp only [List.setIfInBounds_toArray, List.set_cons_zero, List.set_cons_succ]
  have HFA := Lib.hid (few_len s)
  have HRA := Lib.hid (few_rows s)
  generalize fewOf s = fa at HE4 HFA HRA ⊢
  unfold scrV
  refine wpTill_ready (rs := [3]) (by kernel_rfl) (by simp) ?_
  refine (AllTill.cons rfl (fun KK hKK => ?_) AllTill.nil)
  rw [if_pos (by rfl)]
  go_simp
  refine (few_any t B d _ HHM.out HBB4.out).mono ?_
  rintro e w5 ⟨B5, c5, rfl, hF5, hb5⟩
  have HF5 := Lib.hid hF5
  have HE5 := Lib.hid (HE4.out.next hb5)
  have HX5 := Lib.hid (HX4.out.next hb5)
  have HY5 := Lib.hid (HY4.out.next hb5)
  have HB5 := Lib.hid (HB4.out.trans (hb5.mono HB4.out.size))
  have hs5 := HSW.out w5 (HBX4.out.trans (hb5.mono HBX4.out.size))
  clear hF5 hb5 HBB4 HB4 HE4 HX4 HY4 HBX4
  simp only []
  refine hKK _ _ (fun _ => hs5) ?_
  clear hKK KK hs5 HSW HX3 HY3 HBB3 HB3
  simp only [List.setIfInBounds_toArray, List.set_cons_zero, List.set_cons_succ]
  have HFB := Lib.hid (few_len t)
  generalize fewOf t = fb at HF5 HFB ⊢
  unfold scrV
  have hx5 := HX5.out
  have hy5 := HY5.out
  unfold ScrBox at hx5 hy5
  have h3 := set3 hx5 (.int .i64 fa.servers) (.int .i64 fa.area) (.slice A4 fa.events.length c4)
  have hy6 := h3.1.blk hy5 (by simp; omega)
  have h4 := set3 hy6 (.int .i64 fb.servers) (.int .i64 fb.area) (.slice B5 fb.events.length c5)
  have HX7 : Hid (ScrBox ((((((w5.setCell ⟨sb, 0, none⟩ (.int .i64 fa.servers)).setCell ⟨sb, 1, none⟩ (.int .i64 fa.area)).setCell ⟨sb, 2, none⟩ (.slice A4 fa.events.length c4)).setCell ⟨tb, 0, none⟩ (.int .i64 fb.servers)).setCell ⟨tb, 1, none⟩ (.int .i64 fb.area)).setCell ⟨tb, 2, none⟩ (.slice B5 fb.events.length c5)) sb fa A4 c4) := Lib.hid (h4.1.blk h3.2 (by simp; omega))
  have HY7 : Hid (ScrBox ((((((w5.setCell ⟨sb, 0, none⟩ (.int .i64 fa.servers)).setCell ⟨sb, 1, none⟩ (.int .i64 fa.area)).setCell ⟨sb, 2, none⟩ (.slice A4 fa.events.length c4)).setCell ⟨tb, 0, none⟩ (.int .i64 fb.servers)).setCell ⟨tb, 1, none⟩ (.int .i64 fb.area)).setCell ⟨tb, 2, none⟩ (.slice B5 fb.events.length c5)) tb fb B5 c5) := Lib.hid h4.2
  have HE7 : Hid (EvsAt ((((((w5.setCell ⟨sb, 0, none⟩ (.int .i64 fa.servers)).setCell ⟨sb, 1, none⟩ (.int .i64 fa.area)).setCell ⟨sb, 2, none⟩ (.slice A4 fa.events.length c4)).setCell ⟨tb, 0, none⟩ (.int .i64 fb.servers)).setCell ⟨tb, 1, none⟩ (.int .i64 fb.area)).setCell ⟨tb, 2, none⟩ (.slice B5 fb.events.length c5)) A4 fa.events) := Lib.hid ((HE5.out.skip28 h3.1 hx5).skip28 h4.1 hy6)
  have HF7 : Hid (EvsAt ((((((w5.setCell ⟨sb, 0, none⟩ (.int .i64 fa.servers)).setCell ⟨sb, 1, none⟩ (.int .i64 fa.area)).setCell ⟨sb, 2, none⟩ (.slice A4 fa.events.length c4)).setCell ⟨tb, 0, none⟩ (.int .i64 fb.servers)).setCell ⟨tb, 1, none⟩ (.int .i64 fb.area)).setCell ⟨tb, 2, none⟩ (.slice B5 fb.events.length c5)) B5 fb.events) := Lib.hid ((HF5.out.skip28 h3.1 hx5).skip28 h4.1 hy6)
  have hsl : sb < w5.heap.size := (Array.getElem?_eq_some_iff.1 hx5).1
  have htl : tb < (((w5.setCell ⟨sb, 0, none⟩ (.int .i64 fa.servers)).setCell ⟨sb, 1, none⟩ (.int .i64 fa.area)).setCell ⟨sb, 2, none⟩ (.slice A4 fa.events.length c4)).heap.size := (Array.getElem?_eq_some_iff.1 hy6).1
  have HB7 : Hid (Below w.heap.size w ((((((w5.setCell ⟨sb, 0, none⟩ (.int .i64 fa.servers)).setCell ⟨sb, 1, none⟩ (.int .i64 fa.area)).setCell ⟨sb, 2, none⟩ (.slice A4 fa.events.length c4)).setCell ⟨tb, 0, none⟩ (.int .i64 fb.servers)).setCell ⟨tb, 1, none⟩ (.int .i64 fb.area)).setCell ⟨tb, 2, none⟩ (.slice B5 fb.events.length c5))) := Lib.hid (HB5.out.trans ((h3.1.to HB5.out.size (by intro j hj; simp at hj; omega)).trans (h4.1.to (Nat.le_trans HB5.out.size h3.1.size) (by intro j hj; simp at hj; omega))))
  have c0 := (blk_cells hx5 0).trans rfl
  have c1 := (blk_cells hx5 1).trans rfl
  have c2 := (blk_cells hx5 2).trans rfl
  have cf := fun i => blk_free hx5 i
  have d0 := (blk_cells hy6 0).trans rfl
  have d1 := (blk_cells hy6 1).trans rfl
  have d2 := (blk_cells hy6 2).trans rfl
  have df := fun i => blk_free hy6 i
  clear h3 h4 hx5 hy5 hy6 HX5 HY5 HE5 HF5 HB5
  refine wpTill_ready (rs := [4]) (by kernel_rfl) (by simp) ?_
  refine (AllTill.cons rfl (fun KK hKK => ?_) AllTill.nil)
  rw [if_pos (by rfl)]
  go_simp
  refine hKK _ _ (fun h => absurd h (by decide)) ?_
  clear hKK KK c0 c1 c2 cf hsl
  simp only [List.setIfInBounds_toArray, List.set_cons_zero, List.set_cons_succ]
  refine wpTill_ready (rs := [5]) (by kernel_rfl) (by simp) ?_
  refine (AllTill.cons rfl (fun KK hKK => ?_) AllTill.nil)
  rw [if_pos (by rfl)]
  go_simp
  refine hKK _ _ (fun h => absurd h (by decide)) ?_
  clear hKK KK d0 d1 d2 df htl
  refine wpTill_done (by kernel_rfl) ?_ _
  generalize ((((((w5.setCell ⟨sb, 0, none⟩ (.int .i64 fa.servers)).setCell ⟨sb, 1, none⟩ (.int .i64 fa.area)).setCell ⟨sb, 2, none⟩ (.slice A4 fa.events.length c4)).setCell ⟨tb, 0, none⟩ (.int .i64 fb.servers)).setCell ⟨tb, 1, none⟩ (.int .i64 fb.area)).setCell ⟨tb, 2, none⟩ (.slice B5 fb.events.length c5)) = w6 at HX7 HY7 HE7 HF7 HB7 ⊢
  go_upto_region 4 with (fail)
  have hq := fun (W : World) (hW : Below w6.heap.size w6 W) => sameScr_any fa fb A4 B5 c4 c5 W (Nat.le_trans HFA.out (by decide)) (HE7.out.next hW) (HF7.out.next hW)
  have hr := fun (W : World) (hW : Below w6.heap.size w6 W) => refSame_any fa fb A4 B5 c4 c5 W (Nat.le_trans HFA.out (by decide)) (HE7.out.next hW) (HF7.out.next hW)
  have HCP := Lib.hid (fun (W : World) (hW : Below w6.heap.size w6 W) => copied_any fa A4 c4 W (Nat.le_trans HFA.out (by decide)) (HE7.out.next hW) HRA.out)
  have HCQ : Hid (∀ (W : World) (A9 : Option Addr) (c9 : Nat), Below w6.heap.size w6 W → EvsAt W A9 fa.events → Calls Tryd.prog 13 #[scrV fa A4 c4, scrV fa A9 c9] W fun e w' => e = .returned (.bool true) ∧ Below W.heap.size W w') := Lib.hid (fun W A9 c9 hW h9 => by
    have := sameScr_any fa fa A4 A9 c4 c9 W (Nat.le_trans HFA.out (by decide)) (HE7.out.next hW) h9
    simpa using this)
  generalize decide (fa = fb) = q at hq hr
  have HQ := Lib.hid hq
  have HR := Lib.hid hr
  clear hq hr
  have HSV : Hid (∀ w', Below w6.heap.size w6 w' → w'.cell? ⟨sb, 0, none⟩ = some (.int .i64 fa.servers) ∧ w'.cell? ⟨sb, 1, none⟩ = some (.int .i64 fa.area) ∧ w'.cell? ⟨sb, 2, none⟩ = some (.slice A4 fa.events.length c4) ∧ w'.cell? ⟨tb, 0, none⟩ = some (.int .i64 fb.servers) ∧ w'.cell? ⟨tb, 1, none⟩ = some (.int .i64 fb.area) ∧ w'.cell? ⟨tb, 2, none⟩ = some (.slice B5 fb.events.length c5) ∧ Hid (Below w6.heap.size w6 w')) := Lib.hid (fun w' h => by
    obtain ⟨a0, a1, a2⟩ := (HX7.out.next h).cells
    obtain ⟨b0, b1, b2⟩ := (HY7.out.next h).cells
    exact ⟨a0, a1, a2, b0, b1, b2, Lib.hid h⟩)
  unfold scrV at HQ HR HCP HCQ
  cases q
  all_goals
   go_region_held3 (fun w' => w'.cell? ⟨sb, 0, none⟩ = some (.int .i64 fa.servers) ∧ w'.cell? ⟨sb, 1, none⟩ = some (.int .i64 fa.area) ∧ w'.cell? ⟨sb, 2, none⟩ = some (.slice A4 fa.events.length c4) ∧ w'.cell? ⟨tb, 0, none⟩ = some (.int .i64 fb.servers) ∧ w'.cell? ⟨tb, 1, none⟩ = some (.int .i64 fb.area) ∧ w'.cell? ⟨tb, 2, none⟩ = some (.slice B5 fb.events.length c5) ∧ Hid (Below w6.heap.size w6 w')) (first
    | assumption
    | exact HSV.out _ (below_drewN (Below.refl _ _) 1)
    | (obtain ⟨_, _, _, _, _, _, hbl⟩ := ‹_ ∧ _ ∧ _ ∧ _ ∧ _ ∧ _ ∧ Hid _›; exact HSV.out _ (hbl.out.trans (hb9.mono hbl.out.size)))) (first
    | (go_at_call 13; refine (HCQ.out _ _ _ (by obtain ⟨_, _, _, _, _, _, hbl⟩ := ‹_ ∧ _ ∧ _ ∧ _ ∧ _ ∧ _ ∧ Hid _›; exact hbl.out) hE9).mono ?_; rintro e w9 ⟨rfl, hb9⟩)
    | (go_at_call 13; refine (HQ.out _ (by obtain ⟨_, _, _, _, _, _, hbl⟩ := ‹_ ∧ _ ∧ _ ∧ _ ∧ _ ∧ _ ∧ Hid _›; exact hbl.out)).mono ?_; rintro e w9 ⟨rfl, hb9⟩)
    | (go_at_call 14; refine (HR.out _ (by obtain ⟨_, _, _, _, _, _, hbl⟩ := ‹_ ∧ _ ∧ _ ∧ _ ∧ _ ∧ _ ∧ Hid _›; exact hbl.out)).mono ?_; rintro e w9 ⟨rfl, hb9⟩)
    | (go_at_call 15; refine (HCP.out _ (by obtain ⟨_, _, _, _, _, _, hbl⟩ := ‹_ ∧ _ ∧ _ ∧ _ ∧ _ ∧ _ ∧ Hid _›; exact hbl.out)).mono ?_; rintro e w9 ⟨A9, c9, rfl, hE9, hb9⟩))
  all_goals
    obtain ⟨_, _, _, _, _, _, hbl⟩ := ‹_ ∧ _ ∧ _ ∧ _ ∧ _ ∧ _ ∧ Hid _›
    have HBZ := Lib.hid (HB7.out.trans (hbl.out.mono HB7.out.size))
    clear hbl
    go_wp2_with fail
    go_ret
    exact ⟨rfl, HBZ.out⟩
end Go.Proofs.YthpojljfmipngaaDoor
