/-
  THE LAW: a request that was printed is read as it was, whatever stands behind; less of it is not whole. CONDITIONS: as ReqIn says.
-/
import Derived.Test.YtoadahommlcjpaaGreatDoorReqCut
namespace Go.Proofs.YtoadahommlcjpaaGreatDoor
open Go.RowKit
theorem ReqIn.next {w w' : World} {r : Ht.Req} {A B : Option Addr} (h : ReqIn w r A B) (hb : Below w.heap.size w w') : ReqIn w' r A B :=
  ⟨h.heads.next hb (Nat.le_refl _), h.body.next hb (Nat.le_refl _), h.hl, h.hF, h.ml, h.tl⟩
theorem print_cases (r : Ht.Req) : (Ht.printReq r).2 = 0 ∨ Ht.printReq r = ([], 2) ∨ Ht.printReq r = ([], 3) := by
  unfold Ht.printReq
  split
  · unfold Ht.printedOf
    split
    · exact .inr (.inr rfl)
    · exact .inl rfl
  · exact .inr (.inl rfl)
theorem out_pos {r : Ht.Req} (h : (Ht.printReq r).2 = 0) : 0 < (Ht.printReq r).1.length := by
  obtain ⟨_, _, h3, h4, h5⟩ := Ht.req_parts h
  obtain ⟨h6, h7⟩ := Ht.printed_parts h4
  rw [h5, h7]
  have : 0 < (Ht.headOf (Ht.firstReq r) r.heads r.body.length).length := by unfold Ht.headOf; simp; omega
  simp only [List.length_append]
  omega
theorem u64_nonneg (z : Int) : 0 ≤ IntKind.u64.wrap z := by
  simp [IntKind.wrap, IntKind.bits, IntKind.signed]
  omega
theorem uint_rem (z : Int) {n : Nat} (hn : 0 < n) (hn2 : n ≤ 1048576) : ∃ k : Nat, k < n ∧ wrap64 ((IntKind.u64.wrap z).tmod (n : Int)) = (k : Int) := by
  have h0 := u64_nonneg z
  generalize IntKind.u64.wrap z = u at h0
  have h1 : u.tmod (n : Int) = u % (n : Int) := Int.tmod_eq_emod_of_nonneg h0
  have h2 := Int.emod_nonneg u (show (n : Int) ≠ 0 by omega)
  have h3 := Int.emod_lt_of_pos u (show 0 < (n : Int) by omega)
  refine ⟨(u % (n : Int)).toNat, by omega, ?_⟩
  rw [h1]
  generalize u % (n : Int) = v at h2 h3
  unfold wrap64
  omega
set_option maxRecDepth 100000 in
set_option maxHeartbeats 8000000 in
theorem back_law (r : Ht.Req) (A : Option Addr) (x : Nat) (B : Option Addr) (y : Nat) (bh : Ht.Bs) (a : Option Addr) (c : Nat) (z : Int) (w : World) (henv : Env w) (h : ReqIn w r A B) (hbd : r.body.length ≤ y) (hbc : bh.length ≤ c) (hcl : CellsAt w a (Lib.byteCells bh))
    (hz1 : -9223372036854775808 ≤ z) (hz2 : z ≤ 9223372036854775807) :
    Calls Tryz.prog 10 #[reqV r A x B y, .slice a bh.length c, .int .i64 z] w fun e w' => e = .returned (.bool true) ∧ Below w.heap.size w w' := by
  obtain ⟨b1, hb1⟩ : ∃ b1, bh.take 100 = b1 := ⟨_, rfl⟩
  have hm1 : min (bh.length : Int) 100 = (b1.length : Int) := by rw [← hb1, List.length_take]; omega
  have hl1 : b1.length ≤ bh.length := by rw [← hb1]; exact List.length_take_le' _ _
  have hl3 : b1.length ≤ c := by omega
  have hl2 : b1.length ≤ 100 := by rw [← hb1]; exact List.length_take_le _ _
  have HCB : Hid (∀ W, Below w.heap.size w W → CellsAt W a (Lib.byteCells b1)) := Lib.hid (fun W hW => by
    rw [← hb1]; exact cells_take (hcl.next hW (Nat.le_refl _)) 100)
  have HE := Lib.hid (fun W (hW : Below w.heap.size w W) => henv.next hW)
  have HIN := Lib.hid h
  have HPR := Lib.hid (print_cases (cutQ r))
  have HBK := Lib.hid (Ht.back_req (cutQ r))
  have HLS := Lib.hid (Ht.less_req (cutQ r))
  have HOL := Lib.hid (fun h => And.intro (out_len (r := cutQ r) h) (out_pos (r := cutQ r) h))
  have HX0 := Lib.hid (heap_alloc_new w (.cells #[.string ⟨r.method.toArray⟩, .string ⟨r.target.toArray⟩, .slice A r.heads.length x, .slice B r.body.length y] 26))
  have HW0 := Lib.hid (below_box w (.cells #[.string ⟨r.method.toArray⟩, .string ⟨r.target.toArray⟩, .slice A r.heads.length x, .slice B r.body.length y] 26))
  have HWK := Lib.hid (wakes_any (w.alloc (.cells #[.string ⟨r.method.toArray⟩, .string ⟨r.target.toArray⟩, .slice A r.heads.length x, .slice B r.body.length y] 26)) (henv.next HW0.out))
  clear hb1 hcl henv h
  dsimp only [reqV]
  go_enter Tryz.func10, Tryz.ntmps10
  go_wp2_with fail
  refine HWK.out.mono ?_
  rintro e w1 ⟨rfl, hb1⟩
  have HX1 := Lib.hid (blk_next hb1 HX0.out)
  have HW1 := Lib.hid (HW0.out.trans (hb1.mono HW0.out.size))
  clear hb1 HX0 HW0 HWK
  go_wp2_with fail
  refine wp_region_any (by kernel_rfl) ?_
  change wpAny _ _ _ _ _ _ _ (World.drew _)
  have HBd : Hid (w1.drew.heap[w.heap.size]? = some (.cells #[.string ⟨r.method.toArray⟩, .string ⟨r.target.toArray⟩, .slice A r.heads.length x, .slice B r.body.length y] 26 (0, 0))) := HX1
  have HWd : Hid (Below w.heap.size w w1.drew) := Lib.hid (below_drewN HW1.out 1)
  generalize w1.drew = W2 at HBd HWd ⊢
  clear HX1 HW1
  have HRQ := Lib.hid (request_any r A x B y W2 (HIN.out.next HWd.out) hbd)
  obtain ⟨c0, c1, c2, c3⟩ := blk4 HBd.out
  obtain ⟨f0, f1, f2, f3⟩ := blk4_free HBd.out
  have HSA := Lib.hid (And.intro c0 (And.intro c1 (And.intro c2 c3)))
  refine wpAny_of_till (S := fun W => W.cell? ⟨w.heap.size, 0, none⟩ = some (.string ⟨r.method.toArray⟩) ∧ W.cell? ⟨w.heap.size, 1, none⟩ = some (.string ⟨r.target.toArray⟩) ∧ W.cell? ⟨w.heap.size, 2, none⟩ = some (.slice A r.heads.length x) ∧ W.cell? ⟨w.heap.size, 3, none⟩ = some (.slice B r.body.length y)) (st := fun l => l.getD 7 false) _ _ _ _ ?_
  change wpTill _ _ _ _ _ _ _ #[false, false, false, false, false, false, false, false, false] _ _
  refine wpTill_take (i := 0) (v := .agg #[.string ⟨r.method.toArray⟩, .string ⟨r.target.toArray⟩, .slice A r.heads.length x, .slice B r.body.length y]) rfl (by kernel_rfl) (by kernel_rfl) (by kernel_rfl) (show Shutd _ _ #[false, false, false, false, false, false, false, false, false] from Shutd.start 9) (fun l h h9 => Shutd.step h (j := 7) (k := 0) (by kernel_rfl) h9) (fun l => getD_set_ne false (by decide)) (fun _ _ _ h => h) (Or.inl ⟨by rfl, ?yb0⟩) HSA.out (fun hsh0 => ?_)
  case yb0 => (intro w hS; obtain ⟨s5, s6, s7, s8⟩ := hS; go_simp; (try with_reducible rfl))
  simp only [Act.put, List.getElem_toArray, List.getElem_cons_zero, List.getElem_cons_succ, List.setIfInBounds_toArray, List.set_cons_zero, List.set_cons_succ] at hsh0 ⊢
  refine wpTill_takeF (i := 2) (v := .slice a bh.length c) rfl (by kernel_rfl) (by kernel_rfl) (by kernel_rfl) (fun l => getD_set_ne false (by decide)) (fun _ _ _ h => h) (Or.inl ⟨by rfl, ?yb2⟩) (fun _ => HSA.out) ?_
  case yb2 => (intro w hS; go_simp; (try with_reducible rfl))
  simp only [Act.put, List.getElem_toArray, List.getElem_cons_zero, List.getElem_cons_succ, List.setIfInBounds_toArray, List.set_cons_zero, List.set_cons_succ]
  refine wpTill_takeF (i := 3) (v := .slice a bh.length c) rfl (by kernel_rfl) (by kernel_rfl) (by kernel_rfl) (fun l => getD_set_ne false (by decide)) (fun _ _ _ h => h) (Or.inl ⟨by rfl, ?yb3⟩) (fun _ => HSA.out) ?_
  case yb3 => (intro w hS; go_simp; (try with_reducible rfl))
  simp only [Act.put, List.getElem_toArray, List.getElem_cons_zero, List.getElem_cons_succ, List.setIfInBounds_toArray, List.set_cons_zero, List.set_cons_succ]
  refine wpTill_takeF (i := 4) (v := .int .i64 (bh.length : Int)) rfl (by kernel_rfl) (by kernel_rfl) (by kernel_rfl) (fun l => getD_set_ne false (by decide)) (fun _ _ _ h => h) (Or.inl ⟨by rfl, ?yb4⟩) (fun _ => HSA.out) ?_
  case yb4 => (intro w hS; go_simp; (try with_reducible rfl))
  simp only [Act.put, List.getElem_toArray, List.getElem_cons_zero, List.getElem_cons_succ, List.setIfInBounds_toArray, List.set_cons_zero, List.set_cons_succ]
  refine wpTill_takeF (i := 5) (v := .int .i64 (b1.length : Int)) rfl (by kernel_rfl) (by kernel_rfl) (by kernel_rfl) (fun l => getD_set_ne false (by decide)) (fun _ _ _ h => h) (Or.inl ⟨by rfl, ?yb5⟩) (fun _ => HSA.out) ?_
  case yb5 => (intro w hS; go_simp; (try with_reducible rfl))
  simp only [Act.put, List.getElem_toArray, List.getElem_cons_zero, List.getElem_cons_succ, List.setIfInBounds_toArray, List.set_cons_zero, List.set_cons_succ]
  refine wpTill_takeF (i := 6) (v := .slice a b1.length c) rfl (by kernel_rfl) (by kernel_rfl) (by kernel_rfl) (fun l => getD_set_ne false (by decide)) (fun _ _ _ h => h) (Or.inl ⟨by rfl, ?yb6⟩) (fun _ => HSA.out) ?_
  case yb6 => (intro w hS; go_simp; (try with_reducible rfl))
  simp only [Act.put, List.getElem_toArray, List.getElem_cons_zero, List.getElem_cons_succ, List.setIfInBounds_toArray, List.set_cons_zero, List.set_cons_succ]
  refine wpTill_ready (rs := [1]) (by kernel_rfl) (by simp) ?_
  refine (AllTill.cons rfl (fun KK hKK => ?_) AllTill.nil)
  rw [if_pos (by rfl)]
  go_simp
  refine HRQ.out.mono ?_
  rintro e W3 ⟨A3, x3, B3, y3, rfl, hr3, hn3, hm3, hb3⟩
  have HR3 := Lib.hid hr3
  have HN3 := Lib.hid (And.intro hn3 hm3)
  have hbig : w.heap.size < W2.heap.size := (Array.getElem?_eq_some_iff.1 HBd.out).1
  have HB3 := Lib.hid (blk_next hb3 HBd.out)
  have HW3 := Lib.hid (HWd.out.trans (hb3.mono HWd.out.size))
  clear hr3 hn3 hm3 hb3 c0 c1 c2 c3 f0 f1 f2 f3
  generalize cutQ r = rc at HR3 HPR HBK HLS HOL ⊢
  obtain ⟨c0, c1, c2, c3⟩ := blk4 HB3.out
  obtain ⟨f0, f1, f2, f3⟩ := blk4_free HB3.out
  refine hKK _ _ (fun _ => ⟨c0, c1, c2, c3⟩) ?_
  clear hKK KK
  simp only [Act.put, List.getElem_toArray, List.getElem_cons_zero, List.getElem_cons_succ, List.setIfInBounds_toArray, List.set_cons_zero, List.set_cons_succ]
  refine wpTill_ready (rs := [7]) (by kernel_rfl) (by simp) ?_
  refine (AllTill.cons rfl (fun KK hKK => ?_) AllTill.nil)
  rw [if_pos (by rfl)]
  go_simp
  refine hKK _ _ (fun h0 => by cases h0) ?_
  clear hKK KK
  simp only [Act.put, List.getElem_toArray, List.getElem_cons_zero, List.getElem_cons_succ, List.setIfInBounds_toArray, List.set_cons_zero, List.set_cons_succ]
  refine wpTill_ready (rs := [8]) (by kernel_rfl) (by simp) ?_
  refine (AllTill.cons rfl (fun KK hKK => ?_) AllTill.nil)
  rw [if_pos (by rfl)]
  go_simp
  refine hKK _ _ (fun h0 => by cases h0) ?_
  clear hKK KK
  simp only [Act.put, List.getElem_toArray, List.getElem_cons_zero, List.getElem_cons_succ, List.setIfInBounds_toArray, List.set_cons_zero, List.set_cons_succ]
  refine wpTill_done (by kernel_rfl) ?_ _
  (try simp only [noPanic])
  simp only [Exit.then]
  have hst := rq_set (x := .string ⟨rc.method.toArray⟩) (y := .string ⟨rc.target.toArray⟩) (z := .slice A3 rc.heads.length x3) (u := .slice B3 rc.body.length y3) HB3.out
  have HK4 := Lib.hid hst.1
  have HB4 := Lib.hid hst.2
  clear hst c0 c1 c2 c3 f0 f1 f2 f3 HSA hm1
  obtain ⟨W4, hW4⟩ : ∃ W4, ((((W3.setCell ⟨w.heap.size, 0, none⟩ (.string ⟨rc.method.toArray⟩)).setCell ⟨w.heap.size, 1, none⟩ (.string ⟨rc.target.toArray⟩)).setCell ⟨w.heap.size, 2, none⟩ (.slice A3 rc.heads.length x3)).setCell ⟨w.heap.size, 3, none⟩ (.slice B3 rc.body.length y3)) = W4 := ⟨_, rfl⟩
  rw [hW4] at HK4 HB4 ⊢
  clear hW4
  have HW4 := Lib.hid (HW3.out.trans (HK4.out.to HW3.out.size (by simp)))
  have HR4 := Lib.hid (HR3.out.but HK4.out (NewAt.not HN3.out.1 (by simp; omega)) (NewAt.not HN3.out.2 (by simp; omega)))
  have HPr := Lib.hid (printReq_any rc A3 x3 B3 y3 W4 (HE.out W4 HW4.out) HR4.out)
  obtain ⟨⟨out, ep⟩, hpr⟩ : ∃ X, Ht.printReq rc = X := ⟨_, rfl⟩
  rw [hpr] at HPr HPR HBK HLS HOL
  dsimp only at HPR HBK HLS HOL
  dsimp only [reqV] at HPr
  clear hpr HK4 HR3 HB3 HW3 HRQ HBd HWd HN3
  obtain ⟨c0, c1, c2, c3⟩ := blk4 HB4.out
  go_wp2_with fail
  refine HPr.out.mono ?_
  rintro e W5 ⟨v5, rfl, hO5, hb5⟩
  dsimp only at hO5
  obtain ⟨A5, n5, rfl, hn5, _, hc5⟩ := hO5.bytes
  have HC5 := Lib.hid hc5
  have HW5 := Lib.hid (HW4.out.trans (hb5.mono HW4.out.size))
  have HR5 := Lib.hid (HR4.out.next hb5)
  have HB5 := Lib.hid (blk_next hb5 HB4.out)
  clear hO5 hc5 hb5 HPr HB4 HR4 HW4 c0 c1 c2 c3
  by_cases h0 : ep = 0
  · subst h0
    have hol := HOL.out rfl
    have hbk := HBK.out rfl b1
    have HL := Lib.hid (HLS.out rfl)
    obtain ⟨cat, hcat⟩ : ∃ cat, out ++ b1 = cat := ⟨_, rfl⟩
    have hcatl : out.length + b1.length = cat.length := by rw [← hcat, List.length_append]
    have hcatc : Lib.byteCells out ++ Lib.byteCells b1 = Lib.byteCells cat := by rw [← hcat, byteCells_app]
    rw [hcat] at hbk
    have hcl9 : cat.length ≤ 140737488355328 := by omega
    have HBK2 := Lib.hid hbk
    have HCL := Lib.hid hcatl
    have HCC := Lib.hid hcatc
    clear HPR HBK HLS HOL hcat hcatl hcatc hbk
    have HB5b := Lib.hid (below_box W5 (.cells #[] 5))
    have HCBB := Lib.hid (HC5.out.next HB5b.out (Nat.le_refl _))
    have HOWN := Lib.hid (own_empty (B := W5.heap.size) W5 (Nat.le_refl _))
    have HCD : Hid (∀ W, Below W5.heap.size (W5.alloc (.cells #[] 5)) W → CellsAt W a (Lib.byteCells b1) ∧ Below W5.heap.size W5 W) := Lib.hid (fun W hW => by
      have hx := HB5b.out.trans hW
      exact ⟨HCB.out W (HW5.out.trans (hx.mono HW5.out.size)), hx⟩)
    go_wp2_with (first
      | (at_builtin; refine wpList_app_row rfl (.tmp 40) (.tmp 41) rfl HOWN.out rfl out A5 n5 rfl HCBB.out (by omega) ?_; intro v6 W6 hO6 hb6 hg6; rw [Nat.zero_add, List.nil_append] at hO6; obtain ⟨A6, n6, rfl⟩ := own_shape hO6; have HO6 := Lib.hid hO6; have HX6 := Lib.hid hb6; clear hO6 hb6 hg6)
      | (at_builtin; refine wpList_app_row rfl (.tmp 42) (.tmp 43) rfl HO6.out rfl b1 a c rfl (HCD.out _ HX6.out).1 (by omega) ?_; intro v7 W7 hO7 hb7 hg7; rw [HCL.out, HCC.out] at hO7; obtain ⟨A7, n7, rfl⟩ := own_shape hO7; have HO7 := Lib.hid hO7; have HX7 := Lib.hid (HX6.out.trans hb7); clear hO7 hb7 hg7))
    obtain ⟨A7', n7', e7, hn7, _, hc7⟩ := HO7.out.bytes
    obtain ⟨rfl, rfl⟩ : A7' = A7 ∧ n7' = n7 := by injection e7 with e1 e2 e3; exact ⟨e1.symm, e3.symm⟩
    have hx7 := (HCD.out _ HX7.out).2
    have HW7 := Lib.hid (HW5.out.trans (hx7.mono HW5.out.size))
    have HR7 := Lib.hid (HR5.out.next hx7)
    have HC7 := Lib.hid (HC5.out.next hx7 (Nat.le_refl _))
    have HB7 := Lib.hid (blk_next hx7 HB5.out)
    have HP7 := Lib.hid (parseReq_at cat A7' n7' W7 (HE.out W7 HW7.out) hn7 hcl9 hc7)
    rw [HBK2.out] at HP7
    clear e7 hc7 hx7 HO7 HX7 HX6 HO6 HCD HOWN HCBB HB5b HCC HCL HBK2 HB5 HC5 HR5 HW5
    refine HP7.out.mono ?_
    rintro e W8 ⟨A8, x8, B8, y8, rfl, hr8, hb8⟩
    dsimp only at hr8
    have hbx := below_box W8 (.cells #[.string ⟨rc.method.toArray⟩, .string ⟨rc.target.toArray⟩, .slice A8 rc.heads.length x8, .slice B8 rc.body.length y8] 26)
    have h78 : Below W7.heap.size W7 (W8.alloc (.cells #[.string ⟨rc.method.toArray⟩, .string ⟨rc.target.toArray⟩, .slice A8 rc.heads.length x8, .slice B8 rc.body.length y8] 26)) := hb8.trans (hbx.mono hb8.size)
    have HW9 := Lib.hid (HW7.out.trans (h78.mono HW7.out.size))
    have HB9 := Lib.hid (blk_next h78 HB7.out)
    have HC9 := Lib.hid (HC7.out.next h78 (Nat.le_refl _))
    have HN9 := Lib.hid (heap_alloc_new W8 (.cells #[.string ⟨rc.method.toArray⟩, .string ⟨rc.target.toArray⟩, .slice A8 rc.heads.length x8, .slice B8 rc.body.length y8] 26))
    have HS9 := Lib.hid (sameReq_any rc rc A3 x3 B3 y3 A8 x8 B8 y8 _ (HR7.out.next h78) (hr8.next hbx) (q := true) (by simp))
    dsimp only [reqV] at HS9
    clear hr8 hb8 hbx h78 HP7 HB7 HC7 HR7 HW7
    obtain ⟨c0, c1, c2, c3⟩ := blk4 HB9.out
    obtain ⟨d0, d1, d2, d3⟩ := blk4 HN9.out
    go_wp2_with fail
    refine HS9.out.mono ?_
    rintro e W10 ⟨rfl, hb10⟩
    have HW10 := Lib.hid (HW9.out.trans (hb10.mono HW9.out.size))
    have HC10 := Lib.hid (HC9.out.next hb10 (Nat.le_refl _))
    clear hb10 HW9 HC9 HS9 HB9 HN9 c0 c1 c2 c3 d0 d1 d2 d3
    obtain ⟨k, hk, hke⟩ := uint_rem z (n := out.length) hol.2 (by omega)
    have HL2 := Lib.hid (HL.out k hk)
    obtain ⟨tk, htk⟩ : ∃ tk, out.take k = tk := ⟨_, rfl⟩
    have htl : tk.length = k := by rw [← htk, List.length_take]; omega
    have HCK := Lib.hid (cells_take HC10.out k)
    rw [htk] at HL2 HCK
    rw [← htl] at hke hk
    have hkn : tk.length ≤ n5 := by omega
    have HP10 := Lib.hid (parseReq_at tk A5 n5 W10 (HE.out W10 HW10.out) hkn (by omega) HCK.out)
    rw [HL2.out] at HP10
    clear htk htl HCK HL2 HL HC10
    go_wp2_with fail
    refine HP10.out.mono ?_
    rintro e W11 ⟨A11, x11, B11, y11, rfl, _, hb11⟩
    have HW11 := Lib.hid (HW10.out.trans (hb11.mono HW10.out.size))
    clear hb11 HP10 hke
    go_wp2_with fail
    go_ret
    exact ⟨rfl, HW11.out⟩
  · have h23 : out = [] ∧ (ep = 2 ∨ ep = 3) := by
      rcases HPR.out with h | h | h
      · exact absurd h h0
      · injection h with h1 h2; exact ⟨h1, .inl h2⟩
      · injection h with h1 h2; exact ⟨h1, .inr h2⟩
    obtain ⟨rfl, h2 | h3⟩ := h23
    · subst h2
      clear HPR HBK HLS HOL
      go_wp2_with fail
      go_ret
      exact ⟨rfl, HW5.out⟩
    · subst h3
      clear HPR HBK HLS HOL
      go_wp2_with fail
      go_ret
      exact ⟨rfl, HW5.out⟩
end Go.Proofs.YtoadahommlcjpaaGreatDoor
