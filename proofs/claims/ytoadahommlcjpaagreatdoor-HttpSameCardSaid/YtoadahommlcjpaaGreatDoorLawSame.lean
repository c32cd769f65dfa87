/-
  THE LAW: the two ways to compare agree. CONDITIONS: as the arguments' readings say.
-/
import Derived.Test.YtoadahommlcjpaaGreatDoorSame
import Derived.Test.YtoadahommlcjpaaGreatDoorRspCut
namespace Go.Proofs.YtoadahommlcjpaaGreatDoor
open Go.RowKit
theorem cutHs_twice (l : List Ht.Hd) : cutHs (cutHs l) = cutHs l := by
  unfold cutHs
  rw [← List.map_take, List.take_take, List.map_map, Nat.min_self]
  congr 1
  funext h
  simp [cutH, List.take_take]
theorem cutQ_twice (r : Ht.Req) : cutQ (cutQ r) = cutQ r := by
  simp [cutQ, cutHs_twice, List.take_take]
theorem cutP_twice (u : Int) (r : Ht.Req) : cutP ⟨u, (cutQ r).heads, (cutQ r).body⟩ = ⟨u, (cutQ r).heads, (cutQ r).body⟩ := by
  simp [cutP, cutQ, cutHs_twice, List.take_take]
theorem ReqIn.on {w w' : World} {r : Ht.Req} {A B : Option Addr} (h : ReqIn w r A B) (hb : Below w.heap.size w w') : ReqIn w' r A B :=
  ⟨h.heads.next hb (Nat.le_refl _), h.body.next hb (Nat.le_refl _), h.hl, h.hF, h.ml, h.tl⟩
theorem ReqAt.in_ {w : World} {r : Ht.Req} {A B : Option Addr} (h : ReqAt w r A B) : ReqIn w r A B :=
  ⟨h.heads, h.body, by have := h.hl; omega, fun e he => by have := h.hL e he; omega, by have := h.ml; omega, by have := h.tl; omega⟩
theorem RspAt.in_ {w : World} {r : Ht.Rsp} {A B : Option Addr} (h : RspAt w r A B) : RspIn w r A B :=
  ⟨h.heads, h.body, by have := h.hl; omega, fun e he => by have := h.hL e he; omega, h.s0, h.s1⟩
/-- The response that HttpSame makes of a request. -/
theorem RspAt.of_req {w : World} {r : Ht.Req} {A B : Option Addr} (h : ReqAt w r A B) {u : Int} (h0 : -9223372036854775808 ≤ u) (h1 : u ≤ 9223372036854775807) : RspAt w ⟨u, r.heads, r.body⟩ A B :=
  ⟨h.heads, h.body, h.hl, h.hL, h.bl, h0, h1, h.fl⟩
theorem blk2a {w : World} {b : Nat} {t : TypeId} {x y : Value} (h : w.heap[b]? = some (.cells #[x, y] t (0, 0))) : w.cell? ⟨b, 0, none⟩ = some x ∧ w.cell? ⟨b, 1, none⟩ = some y :=
  ⟨by rw [blk_cells h 0]; rfl, by rw [blk_cells h 1]; rfl⟩
theorem HdsAt.over {S : List Nat} {w w8 w' : World} {A : Option Addr} {l : List Ht.Hd} (h : HdsAt w A l) (h8 : HdsAt w8 A l) (hk : But S w8 w') (hS : ∀ j ∈ S, w.heap.size ≤ j) : HdsAt w' A l := fun hne => by
  obtain ⟨b, off, h1, h2, _⟩ := h hne
  exact h8.but hk (fun b' o e hm => by rw [h1] at e; cases e; have := hS _ hm; omega) hne
theorem CellsAt.over {S : List Nat} {w w8 w' : World} {A : Option Addr} {vs : List Value} (h : CellsAt w A vs) (h8 : CellsAt w8 A vs) (hk : But S w8 w') (hS : ∀ j ∈ S, w.heap.size ≤ j) : CellsAt w' A vs := fun hne => by
  obtain ⟨b, off, h1, h2, _⟩ := h hne
  exact h8.but hk (fun b' o e hm => by rw [h1] at e; cases e; have := hS _ hm; omega) hne
theorem ReqAt.over {S : List Nat} {w w8 w' : World} {r : Ht.Req} {A B : Option Addr} (h : ReqAt w r A B) (h8 : ReqAt w8 r A B) (hk : But S w8 w') (hS : ∀ j ∈ S, w.heap.size ≤ j) : ReqAt w' r A B :=
  ⟨h.heads.over h8.heads hk hS, h.body.over h8.body hk hS, h.hl, h.hL, h.bl, h.ml, h.tl, h.fl⟩
set_option maxRecDepth 100000 in
set_option maxHeartbeats 8000000 in
theorem same_law (r : Ht.Req) (A : Option Addr) (x : Nat) (B : Option Addr) (y : Nat) (s : Ht.Req) (A' : Option Addr) (x' : Nat) (B' : Option Addr) (y' : Nat) (u v : Int) (w : World) (henv : Env w) (h : ReqIn w r A B) (hbd : r.body.length ≤ y) (h' : ReqIn w s A' B') (hbd' : s.body.length ≤ y')
    (hu1 : -9223372036854775808 ≤ u) (hu2 : u ≤ 9223372036854775807) (hv1 : -9223372036854775808 ≤ v) (hv2 : v ≤ 9223372036854775807) :
    Calls Tryz.prog 9 #[reqV r A x B y, reqV s A' x' B' y', .agg #[.int .i64 u, .int .i64 v]] w fun e w' => e = .returned (.bool true) ∧ Below w.heap.size w w' := by
  have HIN := Lib.hid h
  have HIN' := Lib.hid h'
  have hb1 := below_box w (.cells #[.string ⟨r.method.toArray⟩, .string ⟨r.target.toArray⟩, .slice A r.heads.length x, .slice B r.body.length y] 26)
  have hb2 := below_box (w.alloc (.cells #[.string ⟨r.method.toArray⟩, .string ⟨r.target.toArray⟩, .slice A r.heads.length x, .slice B r.body.length y] 26)) (.cells #[.string ⟨s.method.toArray⟩, .string ⟨s.target.toArray⟩, .slice A' s.heads.length x', .slice B' s.body.length y'] 26)
  have hb3 := below_box ((w.alloc (.cells #[.string ⟨r.method.toArray⟩, .string ⟨r.target.toArray⟩, .slice A r.heads.length x, .slice B r.body.length y] 26)).alloc (.cells #[.string ⟨s.method.toArray⟩, .string ⟨s.target.toArray⟩, .slice A' s.heads.length x', .slice B' s.body.length y'] 26)) (.cells #[.int .i64 u, .int .i64 v] 61)
  have hs1 : (w.alloc (.cells #[.string ⟨r.method.toArray⟩, .string ⟨r.target.toArray⟩, .slice A r.heads.length x, .slice B r.body.length y] 26)).heap.size = w.heap.size + 1 := by simp
  have hs2 : ((w.alloc (.cells #[.string ⟨r.method.toArray⟩, .string ⟨r.target.toArray⟩, .slice A r.heads.length x, .slice B r.body.length y] 26)).alloc (.cells #[.string ⟨s.method.toArray⟩, .string ⟨s.target.toArray⟩, .slice A' s.heads.length x', .slice B' s.body.length y'] 26)).heap.size = w.heap.size + 2 := by simp
  have g0 := blk_next hb3 (blk_next hb2 (heap_alloc_new w (.cells #[.string ⟨r.method.toArray⟩, .string ⟨r.target.toArray⟩, .slice A r.heads.length x, .slice B r.body.length y] 26)))
  have g1 := blk_next hb3 (heap_alloc_new (w.alloc (.cells #[.string ⟨r.method.toArray⟩, .string ⟨r.target.toArray⟩, .slice A r.heads.length x, .slice B r.body.length y] 26)) (.cells #[.string ⟨s.method.toArray⟩, .string ⟨s.target.toArray⟩, .slice A' s.heads.length x', .slice B' s.body.length y'] 26))
  have g2 := heap_alloc_new ((w.alloc (.cells #[.string ⟨r.method.toArray⟩, .string ⟨r.target.toArray⟩, .slice A r.heads.length x, .slice B r.body.length y] 26)).alloc (.cells #[.string ⟨s.method.toArray⟩, .string ⟨s.target.toArray⟩, .slice A' s.heads.length x', .slice B' s.body.length y'] 26)) (.cells #[.int .i64 u, .int .i64 v] 61)
  rw [hs1] at g1
  rw [hs2] at g2
  have HW0 := Lib.hid ((hb1.trans (hb2.mono hb1.size)).trans (hb3.mono (hb1.trans (hb2.mono hb1.size)).size))
  have HX0 := Lib.hid g0
  have HX1 := Lib.hid g1
  have HX2 := Lib.hid g2
  have HWK := Lib.hid (wakes_any (((w.alloc (.cells #[.string ⟨r.method.toArray⟩, .string ⟨r.target.toArray⟩, .slice A r.heads.length x, .slice B r.body.length y] 26)).alloc (.cells #[.string ⟨s.method.toArray⟩, .string ⟨s.target.toArray⟩, .slice A' s.heads.length x', .slice B' s.body.length y'] 26)).alloc (.cells #[.int .i64 u, .int .i64 v] 61)) (henv.next HW0.out))
  clear hb1 hb2 hb3 hs1 hs2 g0 g1 g2 henv h h'
  dsimp only [reqV]
  go_enter Tryz.func9, Tryz.ntmps9
  go_wp2_with fail
  refine HWK.out.mono ?_
  rintro e w1 ⟨rfl, hb1⟩
  have HB0 := Lib.hid (blk_next hb1 HX0.out)
  have HB1 := Lib.hid (blk_next hb1 HX1.out)
  have HB2 := Lib.hid (blk_next hb1 HX2.out)
  have HW1 := Lib.hid (HW0.out.trans (hb1.mono HW0.out.size))
  clear hb1 HX0 HX1 HX2 HW0 HWK
  go_wp2_with fail
  refine wp_region_any (by kernel_rfl) ?_
  change wpAny _ _ _ _ _ _ _ (World.drew _)
  have HBd0 : Hid (w1.drew.heap[w.heap.size]? = some (.cells #[.string ⟨r.method.toArray⟩, .string ⟨r.target.toArray⟩, .slice A r.heads.length x, .slice B r.body.length y] 26 (0, 0))) := HB0
  have HBd1 : Hid (w1.drew.heap[w.heap.size + 1]? = some (.cells #[.string ⟨s.method.toArray⟩, .string ⟨s.target.toArray⟩, .slice A' s.heads.length x', .slice B' s.body.length y'] 26 (0, 0))) := HB1
  have HBd2 : Hid (w1.drew.heap[w.heap.size + 2]? = some (.cells #[.int .i64 u, .int .i64 v] 61 (0, 0))) := HB2
  have HWd : Hid (Below w.heap.size w w1.drew) := Lib.hid (below_drewN HW1.out 1)
  generalize w1.drew = W2 at HBd0 HBd1 HBd2 HWd ⊢
  clear HB0 HB1 HB2 HW1
  have HRQ := Lib.hid (request_full r A x B y W2 (HIN.out.on HWd.out) hbd)
  obtain ⟨c0, c1, c2, c3⟩ := blk4 HBd0.out
  obtain ⟨d0, d1, d2, d3⟩ := blk4 HBd1.out
  have HSA := Lib.hid (And.intro (And.intro c0 (And.intro c1 (And.intro c2 c3))) (And.intro d0 (And.intro d1 (And.intro d2 d3))))
  clear c0 c1 c2 c3 d0 d1 d2 d3
  refine wpAny_of_till (S := fun W => (W.cell? ⟨w.heap.size, 0, none⟩ = some (.string ⟨r.method.toArray⟩) ∧ W.cell? ⟨w.heap.size, 1, none⟩ = some (.string ⟨r.target.toArray⟩) ∧ W.cell? ⟨w.heap.size, 2, none⟩ = some (.slice A r.heads.length x) ∧ W.cell? ⟨w.heap.size, 3, none⟩ = some (.slice B r.body.length y)) ∧ W.cell? ⟨w.heap.size + 1, 0, none⟩ = some (.string ⟨s.method.toArray⟩) ∧ W.cell? ⟨w.heap.size + 1, 1, none⟩ = some (.string ⟨s.target.toArray⟩) ∧ W.cell? ⟨w.heap.size + 1, 2, none⟩ = some (.slice A' s.heads.length x') ∧ W.cell? ⟨w.heap.size + 1, 3, none⟩ = some (.slice B' s.body.length y')) (st := fun l => l.getD 4 false) _ _ _ _ ?_
  change wpTill _ _ _ _ _ _ _ #[false, false, false, false, false, false] _ _
  refine wpTill_take (i := 0) (v := .agg #[.string ⟨r.method.toArray⟩, .string ⟨r.target.toArray⟩, .slice A r.heads.length x, .slice B r.body.length y]) rfl (by kernel_rfl) (by kernel_rfl) (by kernel_rfl) (show Shutd _ _ #[false, false, false, false, false, false] from Shutd.start 6) (fun l h h9 => Shutd.step h (j := 4) (k := 0) (by kernel_rfl) h9) (fun l => getD_set_ne false (by decide)) (fun _ _ _ h => h) (Or.inl ⟨by rfl, ?yb0⟩) HSA.out (fun hsh0 => ?_)
  case yb0 => (intro w hS; obtain ⟨⟨s5, s6, s7, s8⟩, _⟩ := hS; go_simp; (try with_reducible rfl))
  simp only [Act.put, List.getElem_toArray, List.getElem_cons_zero, List.setIfInBounds_toArray, List.set_cons_zero, List.set_cons_succ] at hsh0 ⊢
  refine wpTill_take (i := 2) (v := .agg #[.string ⟨s.method.toArray⟩, .string ⟨s.target.toArray⟩, .slice A' s.heads.length x', .slice B' s.body.length y']) rfl (by kernel_rfl) (by kernel_rfl) (by kernel_rfl) hsh0 (fun l h h9 => Shutd.step h (j := 3) (k := 2) (by kernel_rfl) (Shutd.step h (j := 4) (k := 3) (by kernel_rfl) h9)) (fun l => getD_set_ne false (by decide)) (fun _ _ _ h => h) (Or.inl ⟨by rfl, ?yb2⟩) HSA.out (fun hsh2 => ?_)
  case yb2 => (intro w hS; obtain ⟨_, s5, s6, s7, s8⟩ := hS; go_simp; (try with_reducible rfl))
  clear hsh0 hsh2
  simp only [Act.put, List.getElem_toArray, List.getElem_cons_zero, List.getElem_cons_succ, List.setIfInBounds_toArray, List.set_cons_zero, List.set_cons_succ]
  refine wpTill_ready (rs := [1]) (by kernel_rfl) (by simp) ?_
  refine (AllTill.cons rfl (fun KK hKK => ?_) AllTill.nil)
  rw [if_pos (by rfl)]
  go_simp
  refine HRQ.out.mono ?_
  rintro e W3 ⟨A3, x3, B3, y3, rfl, hr3, hn3, hm3, hb3, hc3⟩
  have HR3 := Lib.hid hr3
  have HN3 := Lib.hid (And.intro hn3 hm3)
  have hbig : w.heap.size + 2 < W2.heap.size := (Array.getElem?_eq_some_iff.1 HBd2.out).1
  have HB30 := Lib.hid (blk_next hb3 HBd0.out)
  have HB31 := Lib.hid (blk_next hb3 HBd1.out)
  have HB32 := Lib.hid (blk_next hb3 HBd2.out)
  have HW3 := Lib.hid (HWd.out.trans (hb3.mono HWd.out.size))
  have hsz3 := hb3.size
  clear hr3 hn3 hm3 hb3 HBd0 HBd1 HBd2 HWd HSA HRQ
  refine hKK _ _ (fun _ => And.intro (blk4 HB30.out) (blk4 HB31.out)) ?_
  clear hKK KK
  simp only [List.setIfInBounds_toArray, List.set_cons_zero, List.set_cons_succ]
  have HRQ := Lib.hid (request_full s A' x' B' y' W3 (HIN'.out.on HW3.out) hbd')
  refine wpTill_ready (rs := [3]) (by kernel_rfl) (by simp) ?_
  refine (AllTill.cons rfl (fun KK hKK => ?_) AllTill.nil)
  rw [if_pos (by rfl)]
  go_simp
  refine HRQ.out.mono ?_
  rintro e W4 ⟨A4, x4, B4, y4, rfl, hr4, hn4, hm4, hb4, hc4⟩
  have HR4 := Lib.hid (HR3.out.next hb4)
  have HT4 := Lib.hid hr4
  have HN4 := Lib.hid (And.intro hn4 hm4)
  have HB40 := Lib.hid (blk_next hb4 HB30.out)
  have HB41 := Lib.hid (blk_next hb4 HB31.out)
  have HB42 := Lib.hid (blk_next hb4 HB32.out)
  have HW4 := Lib.hid (HW3.out.trans (hb4.mono HW3.out.size))
  clear hr4 hn4 hm4 hb4 HB30 HB31 HB32 HW3 HRQ HR3
  obtain ⟨c0, c1, c2, c3⟩ := blk4 HB40.out
  obtain ⟨f0, f1, f2, f3⟩ := blk4_free HB40.out
  obtain ⟨d0, d1, d2, d3⟩ := blk4 HB41.out
  obtain ⟨e0, e1, e2, e3⟩ := blk4_free HB41.out
  refine hKK _ _ (fun _ => And.intro ⟨c0, c1, c2, c3⟩ ⟨d0, d1, d2, d3⟩) ?_
  clear hKK KK
  simp only [List.setIfInBounds_toArray, List.set_cons_zero, List.set_cons_succ]
  generalize hrc : cutQ r = rc at HR4 hc3 ⊢
  generalize hsc : cutQ s = sc at HT4 hc4 ⊢
  refine wpTill_ready (rs := [4]) (by kernel_rfl) (by simp) ?_
  refine (AllTill.cons rfl (fun KK hKK => ?_) AllTill.nil)
  rw [if_pos (by rfl)]
  go_simp
  refine hKK _ _ (fun h0 => by cases h0) ?_
  clear hKK KK
  simp only [List.setIfInBounds_toArray, List.set_cons_zero, List.set_cons_succ]
  have hst := rq_set (x := .string ⟨rc.method.toArray⟩) (y := .string ⟨rc.target.toArray⟩) (z := .slice A3 rc.heads.length x3) (u := .slice B3 rc.body.length y3) HB40.out
  have HK5 := Lib.hid hst.1
  have HB50 := Lib.hid hst.2
  clear hst c0 c1 c2 c3 f0 f1 f2 f3 d0 d1 d2 d3 e0 e1 e2 e3
  obtain ⟨W5, hW5⟩ : ∃ W5, ((((W4.setCell ⟨w.heap.size, 0, none⟩ (.string ⟨rc.method.toArray⟩)).setCell ⟨w.heap.size, 1, none⟩ (.string ⟨rc.target.toArray⟩)).setCell ⟨w.heap.size, 2, none⟩ (.slice A3 rc.heads.length x3)).setCell ⟨w.heap.size, 3, none⟩ (.slice B3 rc.body.length y3)) = W5 := ⟨_, rfl⟩
  rw [hW5] at HK5 HB50 ⊢
  clear hW5
  have HB51 := Lib.hid (HK5.out.blk HB41.out (by simp))
  have HB52 := Lib.hid (HK5.out.blk HB42.out (by simp))
  have HW5 := Lib.hid (HW4.out.trans (HK5.out.to HW4.out.size (by simp)))
  have HR5 := Lib.hid (HR4.out.but HK5.out (NewAt.not HN3.out.1 (by simp; omega)) (NewAt.not HN3.out.2 (by simp; omega)))
  have HT5 := Lib.hid (HT4.out.but HK5.out (NewAt.not HN4.out.1 (by simp; omega)) (NewAt.not HN4.out.2 (by simp; omega)))
  clear HB40 HB41 HB42 HW4 HR4 HT4 HK5
  obtain ⟨d0, d1, d2, d3⟩ := blk4 HB51.out
  obtain ⟨e0, e1, e2, e3⟩ := blk4_free HB51.out
  refine wpTill_ready (rs := [5]) (by kernel_rfl) (by simp) ?_
  refine (AllTill.cons rfl (fun KK hKK => ?_) AllTill.nil)
  rw [if_pos (by rfl)]
  go_simp
  refine hKK _ _ (fun h0 => by cases h0) ?_
  clear hKK KK
  simp only [List.setIfInBounds_toArray, List.set_cons_zero, List.set_cons_succ]
  refine wpTill_done (by kernel_rfl) ?_ _
  (try simp only [noPanic])
  simp only [Exit.then]
  have hst := rq_set (x := .string ⟨sc.method.toArray⟩) (y := .string ⟨sc.target.toArray⟩) (z := .slice A4 sc.heads.length x4) (u := .slice B4 sc.body.length y4) HB51.out
  have HK6 := Lib.hid hst.1
  have HB61 := Lib.hid hst.2
  clear hst d0 d1 d2 d3 e0 e1 e2 e3
  obtain ⟨W6, hW6⟩ : ∃ W6, ((((W5.setCell ⟨w.heap.size + 1, 0, none⟩ (.string ⟨sc.method.toArray⟩)).setCell ⟨w.heap.size + 1, 1, none⟩ (.string ⟨sc.target.toArray⟩)).setCell ⟨w.heap.size + 1, 2, none⟩ (.slice A4 sc.heads.length x4)).setCell ⟨w.heap.size + 1, 3, none⟩ (.slice B4 sc.body.length y4)) = W6 := ⟨_, rfl⟩
  rw [hW6] at HK6 HB61 ⊢
  clear hW6
  have HB60 := Lib.hid (HK6.out.blk HB50.out (by simp))
  have HB62 := Lib.hid (HK6.out.blk HB52.out (by simp))
  have HW6 := Lib.hid (HW5.out.trans (HK6.out.to HW5.out.size (by simp)))
  have HR6 := Lib.hid (HR5.out.but HK6.out (NewAt.not HN3.out.1 (by simp; omega)) (NewAt.not HN3.out.2 (by simp; omega)))
  have HT6 := Lib.hid (HT5.out.but HK6.out (NewAt.not HN4.out.1 (by simp; omega)) (NewAt.not HN4.out.2 (by simp; omega)))
  clear HB50 HB51 HB52 HW5 HR5 HT5 HK6 HN3 HN4
  go_wp2_with fail
  refine wp_region_any (by kernel_rfl) ?_
  change wpAny _ _ _ _ _ _ _ (World.drew _)
  have HD0 : Hid (W6.drew.heap[w.heap.size]? = some (.cells #[.string ⟨rc.method.toArray⟩, .string ⟨rc.target.toArray⟩, .slice A3 rc.heads.length x3, .slice B3 rc.body.length y3] 26 (0, 0))) := HB60
  have HD1 : Hid (W6.drew.heap[w.heap.size + 1]? = some (.cells #[.string ⟨sc.method.toArray⟩, .string ⟨sc.target.toArray⟩, .slice A4 sc.heads.length x4, .slice B4 sc.body.length y4] 26 (0, 0))) := HB61
  have HD2 : Hid (W6.drew.heap[w.heap.size + 2]? = some (.cells #[.int .i64 u, .int .i64 v] 61 (0, 0))) := HB62
  have HW7 : Hid (Below w.heap.size w W6.drew) := Lib.hid (below_drewN HW6.out 1)
  have HR7 : Hid (ReqAt W6.drew rc A3 B3) := Lib.hid (HR6.out.next (below_drewN (Below.refl _ _) 1))
  have HT7 : Hid (ReqAt W6.drew sc A4 B4) := Lib.hid (HT6.out.next (below_drewN (Below.refl _ _) 1))
  generalize W6.drew = W7 at HD0 HD1 HD2 HW7 HR7 HT7 ⊢
  clear HB60 HB61 HB62 HW6 HR6 HT6
  have HS : Hid (W7.heap[w.heap.size]? = some (.cells #[.string ⟨rc.method.toArray⟩, .string ⟨rc.target.toArray⟩, .slice A3 rc.heads.length x3, .slice B3 rc.body.length y3] 26 (0, 0)) ∧ W7.heap[w.heap.size + 1]? = some (.cells #[.string ⟨sc.method.toArray⟩, .string ⟨sc.target.toArray⟩, .slice A4 sc.heads.length x4, .slice B4 sc.body.length y4] 26 (0, 0)) ∧ W7.heap[w.heap.size + 2]? = some (.cells #[.int .i64 u, .int .i64 v] 61 (0, 0))) := Lib.hid ⟨HD0.out, HD1.out, HD2.out⟩
  refine wpAny_of_till (S := fun W => W.heap[w.heap.size]? = some (.cells #[.string ⟨rc.method.toArray⟩, .string ⟨rc.target.toArray⟩, .slice A3 rc.heads.length x3, .slice B3 rc.body.length y3] 26 (0, 0)) ∧ W.heap[w.heap.size + 1]? = some (.cells #[.string ⟨sc.method.toArray⟩, .string ⟨sc.target.toArray⟩, .slice A4 sc.heads.length x4, .slice B4 sc.body.length y4] 26 (0, 0)) ∧ W.heap[w.heap.size + 2]? = some (.cells #[.int .i64 u, .int .i64 v] 61 (0, 0))) (st := fun _ => false) _ _ _ _ ?_
  change wpTill _ _ _ _ _ _ _ #[false, false, false, false, false, false, false, false, false, false, false, false, false, false, false, false, false, false] _ _
  refine wpTill_take (i := 0) (v := .pointer (some ⟨w.heap.size + 2, 0, none⟩)) rfl (by kernel_rfl) (by kernel_rfl) (by kernel_rfl) (show Shutd _ _ #[false, false, false, false, false, false, false, false, false, false, false, false, false, false, false, false, false, false] from Shutd.start 18) (fun l h h9 => by cases h9) (fun l => rfl) (fun _ _ _ h => h) (Or.inl ⟨by rfl, ?yb0⟩) HS.out (fun hsh => ?_)
  case yb0 => (intro w hS; obtain ⟨⟨s1, s2, s3, s4⟩, ⟨s5, s6, s7, s8⟩, s9, s10⟩ := And.intro (blk4 hS.1) (And.intro (blk4 hS.2.1) (blk2a hS.2.2)); go_simp; (try with_reducible rfl))
  simp only [Act.put, List.getElem_toArray, List.getElem_cons_zero, List.setIfInBounds_toArray, List.set_cons_zero, List.set_cons_succ] at hsh ⊢
  refine wpTill_take (i := 1) (v := .int .i64 u) rfl (by kernel_rfl) (by kernel_rfl) (by kernel_rfl) hsh (fun l h h9 => by cases h9) (fun l => rfl) (fun _ _ _ h => h) (Or.inl ⟨by rfl, ?yb1⟩) HS.out (fun hsh' => ?_)
  case yb1 => (intro w hS; obtain ⟨⟨s1, s2, s3, s4⟩, ⟨s5, s6, s7, s8⟩, s9, s10⟩ := And.intro (blk4 hS.1) (And.intro (blk4 hS.2.1) (blk2a hS.2.2)); go_simp; (try with_reducible rfl))
  replace hsh := hsh'
  clear hsh'
  simp only [Act.put, List.getElem_toArray, List.getElem_cons_zero, List.getElem_cons_succ, List.setIfInBounds_toArray, List.set_cons_zero, List.set_cons_succ] at hsh ⊢
  refine wpTill_take (i := 2) (v := .pointer (some ⟨w.heap.size, 2, none⟩)) rfl (by kernel_rfl) (by kernel_rfl) (by kernel_rfl) hsh (fun l h h9 => by cases h9) (fun l => rfl) (fun _ _ _ h => h) (Or.inl ⟨by rfl, ?yb2⟩) HS.out (fun hsh' => ?_)
  case yb2 => (intro w hS; obtain ⟨⟨s1, s2, s3, s4⟩, ⟨s5, s6, s7, s8⟩, s9, s10⟩ := And.intro (blk4 hS.1) (And.intro (blk4 hS.2.1) (blk2a hS.2.2)); go_simp; (try with_reducible rfl))
  replace hsh := hsh'
  clear hsh'
  simp only [Act.put, List.getElem_toArray, List.getElem_cons_zero, List.getElem_cons_succ, List.setIfInBounds_toArray, List.set_cons_zero, List.set_cons_succ] at hsh ⊢
  refine wpTill_take (i := 3) (v := .slice A3 rc.heads.length x3) rfl (by kernel_rfl) (by kernel_rfl) (by kernel_rfl) hsh (fun l h h9 => by cases h9) (fun l => rfl) (fun _ _ _ h => h) (Or.inl ⟨by rfl, ?yb3⟩) HS.out (fun hsh' => ?_)
  case yb3 => (intro w hS; obtain ⟨⟨s1, s2, s3, s4⟩, ⟨s5, s6, s7, s8⟩, s9, s10⟩ := And.intro (blk4 hS.1) (And.intro (blk4 hS.2.1) (blk2a hS.2.2)); go_simp; (try with_reducible rfl))
  replace hsh := hsh'
  clear hsh'
  simp only [Act.put, List.getElem_toArray, List.getElem_cons_zero, List.getElem_cons_succ, List.setIfInBounds_toArray, List.set_cons_zero, List.set_cons_succ] at hsh ⊢
  refine wpTill_take (i := 4) (v := .pointer (some ⟨w.heap.size, 3, none⟩)) rfl (by kernel_rfl) (by kernel_rfl) (by kernel_rfl) hsh (fun l h h9 => by cases h9) (fun l => rfl) (fun _ _ _ h => h) (Or.inl ⟨by rfl, ?yb4⟩) HS.out (fun hsh' => ?_)
  case yb4 => (intro w hS; obtain ⟨⟨s1, s2, s3, s4⟩, ⟨s5, s6, s7, s8⟩, s9, s10⟩ := And.intro (blk4 hS.1) (And.intro (blk4 hS.2.1) (blk2a hS.2.2)); go_simp; (try with_reducible rfl))
  replace hsh := hsh'
  clear hsh'
  simp only [Act.put, List.getElem_toArray, List.getElem_cons_zero, List.getElem_cons_succ, List.setIfInBounds_toArray, List.set_cons_zero, List.set_cons_succ] at hsh ⊢
  refine wpTill_take (i := 5) (v := .slice B3 rc.body.length y3) rfl (by kernel_rfl) (by kernel_rfl) (by kernel_rfl) hsh (fun l h h9 => by cases h9) (fun l => rfl) (fun _ _ _ h => h) (Or.inl ⟨by rfl, ?yb5⟩) HS.out (fun hsh' => ?_)
  case yb5 => (intro w hS; obtain ⟨⟨s1, s2, s3, s4⟩, ⟨s5, s6, s7, s8⟩, s9, s10⟩ := And.intro (blk4 hS.1) (And.intro (blk4 hS.2.1) (blk2a hS.2.2)); go_simp; (try with_reducible rfl))
  replace hsh := hsh'
  clear hsh'
  simp only [Act.put, List.getElem_toArray, List.getElem_cons_zero, List.getElem_cons_succ, List.setIfInBounds_toArray, List.set_cons_zero, List.set_cons_succ] at hsh ⊢
  refine wpTill_take (i := 6) (v := rspV ⟨u, rc.heads, rc.body⟩ A3 x3 B3 y3) rfl (by kernel_rfl) (by kernel_rfl) (by kernel_rfl) hsh (fun l h h9 => by cases h9) (fun l => rfl) (fun _ _ _ h => h) (Or.inl ⟨by rfl, ?yb6⟩) HS.out (fun hsh' => ?_)
  case yb6 => (intro w hS; obtain ⟨⟨s1, s2, s3, s4⟩, ⟨s5, s6, s7, s8⟩, s9, s10⟩ := And.intro (blk4 hS.1) (And.intro (blk4 hS.2.1) (blk2a hS.2.2)); go_simp; (try with_reducible rfl))
  replace hsh := hsh'
  clear hsh'
  simp only [Act.put, List.getElem_toArray, List.getElem_cons_zero, List.getElem_cons_succ, List.setIfInBounds_toArray, List.set_cons_zero, List.set_cons_succ] at hsh ⊢
  refine wpTill_take (i := 7) (v := .pointer (some ⟨w.heap.size + 2, 1, none⟩)) rfl (by kernel_rfl) (by kernel_rfl) (by kernel_rfl) hsh (fun l h h9 => by cases h9) (fun l => rfl) (fun _ _ _ h => h) (Or.inl ⟨by rfl, ?yb7⟩) HS.out (fun hsh' => ?_)
  case yb7 => (intro w hS; obtain ⟨⟨s1, s2, s3, s4⟩, ⟨s5, s6, s7, s8⟩, s9, s10⟩ := And.intro (blk4 hS.1) (And.intro (blk4 hS.2.1) (blk2a hS.2.2)); go_simp; (try with_reducible rfl))
  replace hsh := hsh'
  clear hsh'
  simp only [Act.put, List.getElem_toArray, List.getElem_cons_zero, List.getElem_cons_succ, List.setIfInBounds_toArray, List.set_cons_zero, List.set_cons_succ] at hsh ⊢
  refine wpTill_take (i := 8) (v := .int .i64 v) rfl (by kernel_rfl) (by kernel_rfl) (by kernel_rfl) hsh (fun l h h9 => by cases h9) (fun l => rfl) (fun _ _ _ h => h) (Or.inl ⟨by rfl, ?yb8⟩) HS.out (fun hsh' => ?_)
  case yb8 => (intro w hS; obtain ⟨⟨s1, s2, s3, s4⟩, ⟨s5, s6, s7, s8⟩, s9, s10⟩ := And.intro (blk4 hS.1) (And.intro (blk4 hS.2.1) (blk2a hS.2.2)); go_simp; (try with_reducible rfl))
  replace hsh := hsh'
  clear hsh'
  simp only [Act.put, List.getElem_toArray, List.getElem_cons_zero, List.getElem_cons_succ, List.setIfInBounds_toArray, List.set_cons_zero, List.set_cons_succ] at hsh ⊢
  refine wpTill_take (i := 9) (v := .pointer (some ⟨w.heap.size + 1, 2, none⟩)) rfl (by kernel_rfl) (by kernel_rfl) (by kernel_rfl) hsh (fun l h h9 => by cases h9) (fun l => rfl) (fun _ _ _ h => h) (Or.inl ⟨by rfl, ?yb9⟩) HS.out (fun hsh' => ?_)
  case yb9 => (intro w hS; obtain ⟨⟨s1, s2, s3, s4⟩, ⟨s5, s6, s7, s8⟩, s9, s10⟩ := And.intro (blk4 hS.1) (And.intro (blk4 hS.2.1) (blk2a hS.2.2)); go_simp; (try with_reducible rfl))
  replace hsh := hsh'
  clear hsh'
  simp only [Act.put, List.getElem_toArray, List.getElem_cons_zero, List.getElem_cons_succ, List.setIfInBounds_toArray, List.set_cons_zero, List.set_cons_succ] at hsh ⊢
  refine wpTill_take (i := 10) (v := .slice A4 sc.heads.length x4) rfl (by kernel_rfl) (by kernel_rfl) (by kernel_rfl) hsh (fun l h h9 => by cases h9) (fun l => rfl) (fun _ _ _ h => h) (Or.inl ⟨by rfl, ?yb10⟩) HS.out (fun hsh' => ?_)
  case yb10 => (intro w hS; obtain ⟨⟨s1, s2, s3, s4⟩, ⟨s5, s6, s7, s8⟩, s9, s10⟩ := And.intro (blk4 hS.1) (And.intro (blk4 hS.2.1) (blk2a hS.2.2)); go_simp; (try with_reducible rfl))
  replace hsh := hsh'
  clear hsh'
  simp only [Act.put, List.getElem_toArray, List.getElem_cons_zero, List.getElem_cons_succ, List.setIfInBounds_toArray, List.set_cons_zero, List.set_cons_succ] at hsh ⊢
  refine wpTill_take (i := 11) (v := .pointer (some ⟨w.heap.size + 1, 3, none⟩)) rfl (by kernel_rfl) (by kernel_rfl) (by kernel_rfl) hsh (fun l h h9 => by cases h9) (fun l => rfl) (fun _ _ _ h => h) (Or.inl ⟨by rfl, ?yb11⟩) HS.out (fun hsh' => ?_)
  case yb11 => (intro w hS; obtain ⟨⟨s1, s2, s3, s4⟩, ⟨s5, s6, s7, s8⟩, s9, s10⟩ := And.intro (blk4 hS.1) (And.intro (blk4 hS.2.1) (blk2a hS.2.2)); go_simp; (try with_reducible rfl))
  replace hsh := hsh'
  clear hsh'
  simp only [Act.put, List.getElem_toArray, List.getElem_cons_zero, List.getElem_cons_succ, List.setIfInBounds_toArray, List.set_cons_zero, List.set_cons_succ] at hsh ⊢
  refine wpTill_take (i := 12) (v := .slice B4 sc.body.length y4) rfl (by kernel_rfl) (by kernel_rfl) (by kernel_rfl) hsh (fun l h h9 => by cases h9) (fun l => rfl) (fun _ _ _ h => h) (Or.inl ⟨by rfl, ?yb12⟩) HS.out (fun hsh' => ?_)
  case yb12 => (intro w hS; obtain ⟨⟨s1, s2, s3, s4⟩, ⟨s5, s6, s7, s8⟩, s9, s10⟩ := And.intro (blk4 hS.1) (And.intro (blk4 hS.2.1) (blk2a hS.2.2)); go_simp; (try with_reducible rfl))
  replace hsh := hsh'
  clear hsh'
  simp only [Act.put, List.getElem_toArray, List.getElem_cons_zero, List.getElem_cons_succ, List.setIfInBounds_toArray, List.set_cons_zero, List.set_cons_succ] at hsh ⊢
  refine wpTill_take (i := 13) (v := rspV ⟨v, sc.heads, sc.body⟩ A4 x4 B4 y4) rfl (by kernel_rfl) (by kernel_rfl) (by kernel_rfl) hsh (fun l h h9 => by cases h9) (fun l => rfl) (fun _ _ _ h => h) (Or.inl ⟨by rfl, ?yb13⟩) HS.out (fun hsh' => ?_)
  case yb13 => (intro w hS; obtain ⟨⟨s1, s2, s3, s4⟩, ⟨s5, s6, s7, s8⟩, s9, s10⟩ := And.intro (blk4 hS.1) (And.intro (blk4 hS.2.1) (blk2a hS.2.2)); go_simp; (try with_reducible rfl))
  replace hsh := hsh'
  clear hsh'
  simp only [Act.put, List.getElem_toArray, List.getElem_cons_zero, List.getElem_cons_succ, List.setIfInBounds_toArray, List.set_cons_zero, List.set_cons_succ] at hsh ⊢
  refine wpTill_ready (rs := [14, 15]) (by kernel_rfl) (by simp) ?_
  refine (AllTill.cons rfl (fun KK hKK => ?_) (AllTill.cons rfl (fun KK hKK => ?_) AllTill.nil))
  · rw [if_pos (by rfl)]
    go_simp
    have HA1 := Lib.hid (below_box W7 (.cells #[.int .i64 0, .slice none 0 0, .slice none 0 0] 36))
    have HA2 := Lib.hid (heap_alloc_new W7 (.cells #[.int .i64 0, .slice none 0 0, .slice none 0 0] 36))
    refine hKK _ _ (fun _ => ⟨(HA1.out.block _ (by have := (Array.getElem?_eq_some_iff.1 HD0.out).1; omega)).trans HD0.out, (HA1.out.block _ (by have := (Array.getElem?_eq_some_iff.1 HD1.out).1; omega)).trans HD1.out, (HA1.out.block _ (by have := (Array.getElem?_eq_some_iff.1 HD2.out).1; omega)).trans HD2.out⟩) ?_
    clear hKK KK
    simp only [List.setIfInBounds_toArray, List.set_cons_zero, List.set_cons_succ]
    refine wpTill_ready (rs := [15]) (by kernel_rfl) (by simp) ?_
    refine (AllTill.cons rfl (fun KK hKK => ?_) AllTill.nil)
    rw [if_pos (by rfl)]
    go_simp
    have HA3 := Lib.hid (below_box (W7.alloc (.cells #[.int .i64 0, .slice none 0 0, .slice none 0 0] 36)) (.cells #[.int .i64 0, .slice none 0 0, .slice none 0 0] 36))
    have HA4 := Lib.hid (heap_alloc_new (W7.alloc (.cells #[.int .i64 0, .slice none 0 0, .slice none 0 0] 36)) (.cells #[.int .i64 0, .slice none 0 0, .slice none 0 0] 36))
    have HK1 := Lib.hid (blk_next HA3.out HA2.out)
    have hm1 : (W7.alloc (.cells #[.int .i64 0, .slice none 0 0, .slice none 0 0] 36)).heap.size = W7.heap.size + 1 := by simp
    rw [hm1] at HA4
    have HBB := Lib.hid (HA1.out.trans (HA3.out.mono HA1.out.size))
    have HE0 := Lib.hid (blk_next HBB.out HD0.out)
    have HE1 := Lib.hid (blk_next HBB.out HD1.out)
    have HE2 := Lib.hid (blk_next HBB.out HD2.out)
    refine hKK _ _ (fun _ => ⟨HE0.out, HE1.out, HE2.out⟩) ?_
    clear hKK KK
    simp only [List.setIfInBounds_toArray, List.set_cons_zero, List.set_cons_succ]
    obtain ⟨W8, hW8⟩ : ∃ W8, (W7.alloc (.cells #[.int .i64 0, .slice none 0 0, .slice none 0 0] 36)).alloc (.cells #[.int .i64 0, .slice none 0 0, .slice none 0 0] 36) = W8 := ⟨_, rfl⟩
    rw [hW8] at HA4 HK1 HBB HE0 HE1 HE2 ⊢
    clear hW8 HA1 HA2 HA3
    obtain ⟨c0, c1, c2⟩ := blk3 HK1.out
    obtain ⟨f0, f1, f2⟩ := blk3_free HK1.out
    obtain ⟨d0, d1, d2⟩ := blk3 HA4.out
    obtain ⟨e0, e1, e2⟩ := blk3_free HA4.out
    refine wpTill_ready (rs := [16]) (by kernel_rfl) (by simp) ?_
    refine (AllTill.cons rfl (fun KK hKK => ?_) AllTill.nil)
    rw [if_pos (by rfl)]
    go_simp
    have hst := rp_set (x := .int .i64 u) (y := .slice A3 rc.heads.length x3) (z := .slice B3 rc.body.length y3) HK1.out
    have HK9 := Lib.hid hst.1
    have HP9 := Lib.hid hst.2
    clear hst c0 c1 c2 f0 f1 f2 d0 d1 d2 e0 e1 e2
    obtain ⟨W9, hW9⟩ : ∃ W9, (((W8.setCell ⟨W7.heap.size, 0, none⟩ (.int .i64 u)).setCell ⟨W7.heap.size, 1, none⟩ (.slice A3 rc.heads.length x3)).setCell ⟨W7.heap.size, 2, none⟩ (.slice B3 rc.body.length y3)) = W9 := ⟨_, rfl⟩
    rw [hW9] at HK9 HP9 ⊢
    clear hW9
    have hbg := (Array.getElem?_eq_some_iff.1 HD2.out).1
    have HF0 := Lib.hid (HK9.out.blk HE0.out (by simp; omega))
    have HF1 := Lib.hid (HK9.out.blk HE1.out (by simp; omega))
    have HF2 := Lib.hid (HK9.out.blk HE2.out (by simp; omega))
    have HQ9 := Lib.hid (HK9.out.blk HA4.out (by simp))
    refine hKK _ _ (fun _ => ⟨HF0.out, HF1.out, HF2.out⟩) ?_
    clear hKK KK
    simp only [List.setIfInBounds_toArray, List.set_cons_zero, List.set_cons_succ]
    obtain ⟨d0, d1, d2⟩ := blk3 HQ9.out
    obtain ⟨e0, e1, e2⟩ := blk3_free HQ9.out
    refine wpTill_ready (rs := [17]) (by kernel_rfl) (by simp) ?_
    refine (AllTill.cons rfl (fun KK hKK => ?_) AllTill.nil)
    rw [if_pos (by rfl)]
    go_simp
    have hst := rp_set (x := .int .i64 v) (y := .slice A4 sc.heads.length x4) (z := .slice B4 sc.body.length y4) HQ9.out
    have HKX := Lib.hid hst.1
    have HQX := Lib.hid hst.2
    clear hst d0 d1 d2 e0 e1 e2
    obtain ⟨WX, hWX⟩ : ∃ WX, (((W9.setCell ⟨W7.heap.size + 1, 0, none⟩ (.int .i64 v)).setCell ⟨W7.heap.size + 1, 1, none⟩ (.slice A4 sc.heads.length x4)).setCell ⟨W7.heap.size + 1, 2, none⟩ (.slice B4 sc.body.length y4)) = WX := ⟨_, rfl⟩
    rw [hWX] at HKX HQX ⊢
    clear hWX
    have HG0 := Lib.hid (HKX.out.blk HF0.out (by simp; omega))
    have HG1 := Lib.hid (HKX.out.blk HF1.out (by simp; omega))
    have HG2 := Lib.hid (HKX.out.blk HF2.out (by simp; omega))
    have HPX := Lib.hid (HKX.out.blk HP9.out (by simp))
    refine hKK _ _ (fun _ => ⟨HG0.out, HG1.out, HG2.out⟩) ?_
    clear hKK KK
    simp only [List.setIfInBounds_toArray, List.set_cons_zero, List.set_cons_succ]
    refine wpTill_done (by kernel_rfl) ?_ _
    (try simp only [noPanic])
    simp only [Exit.then]
    have hwz := HW7.out.size
    have HW8 := HW7.out.trans (HBB.out.mono HW7.out.size)
    have HW9 := HW8.trans (HK9.out.to HW8.size (by simp; try omega))
    have HWX := Lib.hid (HW9.trans (HKX.out.to HW9.size (by simp; try omega)))
    have HR8 := HR7.out.next HBB.out
    have HR9 := HR7.out.over HR8 HK9.out (by simp)
    have HRX := Lib.hid (HR7.out.over HR9 HKX.out (by simp))
    have HT8 := HT7.out.next HBB.out
    have HT9 := HT7.out.over HT8 HK9.out (by simp)
    have HTX := Lib.hid (HT7.out.over HT9 HKX.out (by simp))
    clear HW8 HW9 HR8 HR9 HT8 HT9 HW7 HBB HK9 HKX HR7 HT7 HF0 HF1 HF2 HG2 HD0 HD1 HD2 HE0 HE1 HE2 HS
    go_wp2_with fail
    refine wp_region_any (by kernel_rfl) ?_
    change wpAny _ _ _ _ _ _ _ (World.drew _)
    have HW : Hid (Below w.heap.size w WX.drew) := Lib.hid (below_drewN HWX.out 1)
    have HR : Hid (ReqAt WX.drew rc A3 B3) := Lib.hid (HRX.out.next (below_drewN (Below.refl _ _) 1))
    have HT : Hid (ReqAt WX.drew sc A4 B4) := Lib.hid (HTX.out.next (below_drewN (Below.refl _ _) 1))
    have HS : Hid (WX.drew.heap[w.heap.size]? = some (.cells #[.string ⟨rc.method.toArray⟩, .string ⟨rc.target.toArray⟩, .slice A3 rc.heads.length x3, .slice B3 rc.body.length y3] 26 (0, 0)) ∧ WX.drew.heap[w.heap.size + 1]? = some (.cells #[.string ⟨sc.method.toArray⟩, .string ⟨sc.target.toArray⟩, .slice A4 sc.heads.length x4, .slice B4 sc.body.length y4] 26 (0, 0)) ∧ WX.drew.heap[W7.heap.size]? = some (.cells #[.int .i64 u, .slice A3 rc.heads.length x3, .slice B3 rc.body.length y3] 36 (0, 0)) ∧ WX.drew.heap[W7.heap.size + 1]? = some (.cells #[.int .i64 v, .slice A4 sc.heads.length x4, .slice B4 sc.body.length y4] 36 (0, 0))) := Lib.hid ⟨HG0.out, HG1.out, HPX.out, HQX.out⟩
    generalize WX.drew = WY at HW HR HT HS ⊢
    clear HG0 HG1 HPX HQX HWX HRX HTX
    obtain ⟨q1, hq1⟩ : ∃ q, decide (rc = sc) = q := ⟨_, rfl⟩
    obtain ⟨q2, hq2⟩ : ∃ q, decide ((⟨u, rc.heads, rc.body⟩ : Ht.Rsp) = ⟨v, sc.heads, sc.body⟩) = q := ⟨_, rfl⟩
    have hcr : cutQ rc = rc := by rw [← hrc]; exact cutQ_twice r
    have hcp : cutP (⟨u, rc.heads, rc.body⟩ : Ht.Rsp) = ⟨u, rc.heads, rc.body⟩ := by rw [← hrc]; exact cutP_twice u r
    refine wpAny_of_till (S := fun W => W.heap[w.heap.size]? = some (.cells #[.string ⟨rc.method.toArray⟩, .string ⟨rc.target.toArray⟩, .slice A3 rc.heads.length x3, .slice B3 rc.body.length y3] 26 (0, 0)) ∧ W.heap[w.heap.size + 1]? = some (.cells #[.string ⟨sc.method.toArray⟩, .string ⟨sc.target.toArray⟩, .slice A4 sc.heads.length x4, .slice B4 sc.body.length y4] 26 (0, 0)) ∧ W.heap[W7.heap.size]? = some (.cells #[.int .i64 u, .slice A3 rc.heads.length x3, .slice B3 rc.body.length y3] 36 (0, 0)) ∧ W.heap[W7.heap.size + 1]? = some (.cells #[.int .i64 v, .slice A4 sc.heads.length x4, .slice B4 sc.body.length y4] 36 (0, 0))) (st := fun _ => false) _ _ _ _ ?_
    change wpTill _ _ _ _ _ _ _ #[false, false, false, false, false, false, false, false, false, false, false, false, false, false, false, false, false, false, false, false, false, false, false, false, false, false, false, false, false] _ _
    refine wpTill_take (i := 0) (v := .agg #[.string ⟨rc.method.toArray⟩, .string ⟨rc.target.toArray⟩, .slice A3 rc.heads.length x3, .slice B3 rc.body.length y3]) rfl (by kernel_rfl) (by kernel_rfl) (by kernel_rfl) (show Shutd _ _ #[false, false, false, false, false, false, false, false, false, false, false, false, false, false, false, false, false, false, false, false, false, false, false, false, false, false, false, false, false] from Shutd.start 29) (fun l h h9 => by cases h9) (fun l => rfl) (fun _ _ _ h => h) (Or.inl ⟨by rfl, ?yc0⟩) HS.out (fun hsh' => ?_)
    case yc0 => (intro w hS; obtain ⟨⟨s1, s2, s3, s4⟩, ⟨s5, s6, s7, s8⟩, ⟨s9, s10, s11⟩, s12, s13, s14⟩ := And.intro (blk4 hS.1) (And.intro (blk4 hS.2.1) (And.intro (blk3 hS.2.2.1) (blk3 hS.2.2.2))); go_simp; (try with_reducible rfl))
    have hsh := hsh'
    clear hsh'
    simp only [Act.put, List.getElem_toArray, List.getElem_cons_zero, List.setIfInBounds_toArray, List.set_cons_zero, List.set_cons_succ] at hsh ⊢
    refine wpTill_take (i := 1) (v := .agg #[.string ⟨sc.method.toArray⟩, .string ⟨sc.target.toArray⟩, .slice A4 sc.heads.length x4, .slice B4 sc.body.length y4]) rfl (by kernel_rfl) (by kernel_rfl) (by kernel_rfl) hsh (fun l h h9 => by cases h9) (fun l => rfl) (fun _ _ _ h => h) (Or.inl ⟨by rfl, ?yc1⟩) HS.out (fun hsh' => ?_)
    case yc1 => (intro w hS; obtain ⟨⟨s1, s2, s3, s4⟩, ⟨s5, s6, s7, s8⟩, ⟨s9, s10, s11⟩, s12, s13, s14⟩ := And.intro (blk4 hS.1) (And.intro (blk4 hS.2.1) (And.intro (blk3 hS.2.2.1) (blk3 hS.2.2.2))); go_simp; (try with_reducible rfl))
    have hsh := hsh'
    clear hsh'
    simp only [Act.put, List.getElem_toArray, List.getElem_cons_zero, List.getElem_cons_succ, List.setIfInBounds_toArray, List.set_cons_zero, List.set_cons_succ] at hsh ⊢
    refine wpTill_take (i := 3) (v := .agg #[.string ⟨rc.method.toArray⟩, .string ⟨rc.target.toArray⟩, .slice A3 rc.heads.length x3, .slice B3 rc.body.length y3]) rfl (by kernel_rfl) (by kernel_rfl) (by kernel_rfl) hsh (fun l h h9 => by cases h9) (fun l => rfl) (fun _ _ _ h => h) (Or.inl ⟨by rfl, ?yc3⟩) HS.out (fun hsh' => ?_)
    case yc3 => (intro w hS; obtain ⟨⟨s1, s2, s3, s4⟩, ⟨s5, s6, s7, s8⟩, ⟨s9, s10, s11⟩, s12, s13, s14⟩ := And.intro (blk4 hS.1) (And.intro (blk4 hS.2.1) (And.intro (blk3 hS.2.2.1) (blk3 hS.2.2.2))); go_simp; (try with_reducible rfl))
    have hsh := hsh'
    clear hsh'
    simp only [Act.put, List.getElem_toArray, List.getElem_cons_zero, List.getElem_cons_succ, List.setIfInBounds_toArray, List.set_cons_zero, List.set_cons_succ] at hsh ⊢
    refine wpTill_take (i := 4) (v := .agg #[.string ⟨sc.method.toArray⟩, .string ⟨sc.target.toArray⟩, .slice A4 sc.heads.length x4, .slice B4 sc.body.length y4]) rfl (by kernel_rfl) (by kernel_rfl) (by kernel_rfl) hsh (fun l h h9 => by cases h9) (fun l => rfl) (fun _ _ _ h => h) (Or.inl ⟨by rfl, ?yc4⟩) HS.out (fun hsh' => ?_)
    case yc4 => (intro w hS; obtain ⟨⟨s1, s2, s3, s4⟩, ⟨s5, s6, s7, s8⟩, ⟨s9, s10, s11⟩, s12, s13, s14⟩ := And.intro (blk4 hS.1) (And.intro (blk4 hS.2.1) (And.intro (blk3 hS.2.2.1) (blk3 hS.2.2.2))); go_simp; (try with_reducible rfl))
    have hsh := hsh'
    clear hsh'
    simp only [Act.put, List.getElem_toArray, List.getElem_cons_zero, List.getElem_cons_succ, List.setIfInBounds_toArray, List.set_cons_zero, List.set_cons_succ] at hsh ⊢
    refine wpTill_ready (rs := [2]) (by kernel_rfl) (by simp) ?_
    have hsh := hsh.put (i := 2) (by kernel_rfl)
    refine (AllTill.cons rfl (fun KK hKK => ?_) AllTill.nil)
    rw [if_pos (by rfl)]
    go_simp
    refine (sameReq_any rc sc A3 x3 B3 y3 A4 x4 B4 y4 WY HR.out HT.out hq1).mono ?_
    rintro e WZ0 ⟨rfl, hb⟩
    have HW := Lib.hid (HW.out.trans (hb.mono HW.out.size))
    have HR := Lib.hid (HR.out.next hb)
    have HT := Lib.hid (HT.out.next hb)
    have HS : Hid (WZ0.heap[w.heap.size]? = some (.cells #[.string ⟨rc.method.toArray⟩, .string ⟨rc.target.toArray⟩, .slice A3 rc.heads.length x3, .slice B3 rc.body.length y3] 26 (0, 0)) ∧ WZ0.heap[w.heap.size + 1]? = some (.cells #[.string ⟨sc.method.toArray⟩, .string ⟨sc.target.toArray⟩, .slice A4 sc.heads.length x4, .slice B4 sc.body.length y4] 26 (0, 0)) ∧ WZ0.heap[W7.heap.size]? = some (.cells #[.int .i64 u, .slice A3 rc.heads.length x3, .slice B3 rc.body.length y3] 36 (0, 0)) ∧ WZ0.heap[W7.heap.size + 1]? = some (.cells #[.int .i64 v, .slice A4 sc.heads.length x4, .slice B4 sc.body.length y4] 36 (0, 0))) := Lib.hid ⟨blk_next hb HS.out.1, blk_next hb HS.out.2.1, blk_next hb HS.out.2.2.1, blk_next hb HS.out.2.2.2⟩
    refine hKK _ _ (fun _ => HS.out) ?_
    clear hKK KK hb
    simp only [List.setIfInBounds_toArray, List.set_cons_zero, List.set_cons_succ] at hsh ⊢
    refine wpTill_ready (rs := [5]) (by kernel_rfl) (by simp) ?_
    have hsh := hsh.put (i := 5) (by kernel_rfl)
    refine (AllTill.cons rfl (fun KK hKK => ?_) AllTill.nil)
    rw [if_pos (by rfl)]
    go_simp
    refine (refSameReq_any rc sc A3 x3 B3 y3 A4 x4 B4 y4 WZ0 HR.out HT.out hq1).mono ?_
    rintro e WZ1 ⟨rfl, hb⟩
    have HW := Lib.hid (HW.out.trans (hb.mono HW.out.size))
    have HR := Lib.hid (HR.out.next hb)
    have HT := Lib.hid (HT.out.next hb)
    have HS : Hid (WZ1.heap[w.heap.size]? = some (.cells #[.string ⟨rc.method.toArray⟩, .string ⟨rc.target.toArray⟩, .slice A3 rc.heads.length x3, .slice B3 rc.body.length y3] 26 (0, 0)) ∧ WZ1.heap[w.heap.size + 1]? = some (.cells #[.string ⟨sc.method.toArray⟩, .string ⟨sc.target.toArray⟩, .slice A4 sc.heads.length x4, .slice B4 sc.body.length y4] 26 (0, 0)) ∧ WZ1.heap[W7.heap.size]? = some (.cells #[.int .i64 u, .slice A3 rc.heads.length x3, .slice B3 rc.body.length y3] 36 (0, 0)) ∧ WZ1.heap[W7.heap.size + 1]? = some (.cells #[.int .i64 v, .slice A4 sc.heads.length x4, .slice B4 sc.body.length y4] 36 (0, 0))) := Lib.hid ⟨blk_next hb HS.out.1, blk_next hb HS.out.2.1, blk_next hb HS.out.2.2.1, blk_next hb HS.out.2.2.2⟩
    refine hKK _ _ (fun _ => HS.out) ?_
    clear hKK KK hb
    simp only [List.setIfInBounds_toArray, List.set_cons_zero, List.set_cons_succ] at hsh ⊢
    refine wpTill_ready (rs := [6]) (by kernel_rfl) (by simp) ?_
    have hsh := hsh.put (i := 6) (by kernel_rfl)
    refine (AllTill.cons rfl (fun KK hKK => ?_) AllTill.nil)
    rw [if_pos (by rfl)]
    go_simp
    (try simp only [beq_self_eq_true])
    refine hKK _ _ (fun _ => HS.out) ?_
    clear hKK KK
    simp only [List.setIfInBounds_toArray, List.set_cons_zero, List.set_cons_succ] at hsh ⊢
    refine wpTill_ready (rs := [7]) (by kernel_rfl) (by simp) ?_
    have hsh := hsh.put (i := 7) (by kernel_rfl)
    refine (AllTill.cons rfl (fun KK hKK => ?_) AllTill.nil)
    rw [if_pos (by rfl)]
    go_simp
    (try simp only [beq_self_eq_true])
    refine hKK _ _ (fun _ => HS.out) ?_
    clear hKK KK
    simp only [List.setIfInBounds_toArray, List.set_cons_zero, List.set_cons_succ] at hsh ⊢
    refine wpTill_take (i := 8) (v := .agg #[.int .i64 u, .slice A3 rc.heads.length x3, .slice B3 rc.body.length y3]) rfl (by kernel_rfl) (by kernel_rfl) (by kernel_rfl) hsh (fun l h h9 => by cases h9) (fun l => rfl) (fun _ _ _ h => h) (Or.inl ⟨by rfl, ?yc8⟩) HS.out (fun hsh' => ?_)
    case yc8 => (intro w hS; obtain ⟨⟨s1, s2, s3, s4⟩, ⟨s5, s6, s7, s8⟩, ⟨s9, s10, s11⟩, s12, s13, s14⟩ := And.intro (blk4 hS.1) (And.intro (blk4 hS.2.1) (And.intro (blk3 hS.2.2.1) (blk3 hS.2.2.2))); go_simp; (try with_reducible rfl))
    have hsh := hsh'
    clear hsh'
    simp only [Act.put, List.getElem_toArray, List.getElem_cons_zero, List.getElem_cons_succ, List.setIfInBounds_toArray, List.set_cons_zero, List.set_cons_succ] at hsh ⊢
    refine wpTill_take (i := 9) (v := .agg #[.int .i64 v, .slice A4 sc.heads.length x4, .slice B4 sc.body.length y4]) rfl (by kernel_rfl) (by kernel_rfl) (by kernel_rfl) hsh (fun l h h9 => by cases h9) (fun l => rfl) (fun _ _ _ h => h) (Or.inl ⟨by rfl, ?yc9⟩) HS.out (fun hsh' => ?_)
    case yc9 => (intro w hS; obtain ⟨⟨s1, s2, s3, s4⟩, ⟨s5, s6, s7, s8⟩, ⟨s9, s10, s11⟩, s12, s13, s14⟩ := And.intro (blk4 hS.1) (And.intro (blk4 hS.2.1) (And.intro (blk3 hS.2.2.1) (blk3 hS.2.2.2))); go_simp; (try with_reducible rfl))
    have hsh := hsh'
    clear hsh'
    simp only [Act.put, List.getElem_toArray, List.getElem_cons_zero, List.getElem_cons_succ, List.setIfInBounds_toArray, List.set_cons_zero, List.set_cons_succ] at hsh ⊢
    refine wpTill_take (i := 11) (v := .agg #[.int .i64 u, .slice A3 rc.heads.length x3, .slice B3 rc.body.length y3]) rfl (by kernel_rfl) (by kernel_rfl) (by kernel_rfl) hsh (fun l h h9 => by cases h9) (fun l => rfl) (fun _ _ _ h => h) (Or.inl ⟨by rfl, ?yc11⟩) HS.out (fun hsh' => ?_)
    case yc11 => (intro w hS; obtain ⟨⟨s1, s2, s3, s4⟩, ⟨s5, s6, s7, s8⟩, ⟨s9, s10, s11⟩, s12, s13, s14⟩ := And.intro (blk4 hS.1) (And.intro (blk4 hS.2.1) (And.intro (blk3 hS.2.2.1) (blk3 hS.2.2.2))); go_simp; (try with_reducible rfl))
    have hsh := hsh'
    clear hsh'
    simp only [Act.put, List.getElem_toArray, List.getElem_cons_zero, List.getElem_cons_succ, List.setIfInBounds_toArray, List.set_cons_zero, List.set_cons_succ] at hsh ⊢
    refine wpTill_take (i := 12) (v := .agg #[.int .i64 v, .slice A4 sc.heads.length x4, .slice B4 sc.body.length y4]) rfl (by kernel_rfl) (by kernel_rfl) (by kernel_rfl) hsh (fun l h h9 => by cases h9) (fun l => rfl) (fun _ _ _ h => h) (Or.inl ⟨by rfl, ?yc12⟩) HS.out (fun hsh' => ?_)
    case yc12 => (intro w hS; obtain ⟨⟨s1, s2, s3, s4⟩, ⟨s5, s6, s7, s8⟩, ⟨s9, s10, s11⟩, s12, s13, s14⟩ := And.intro (blk4 hS.1) (And.intro (blk4 hS.2.1) (And.intro (blk3 hS.2.2.1) (blk3 hS.2.2.2))); go_simp; (try with_reducible rfl))
    have hsh := hsh'
    clear hsh'
    simp only [Act.put, List.getElem_toArray, List.getElem_cons_zero, List.getElem_cons_succ, List.setIfInBounds_toArray, List.set_cons_zero, List.set_cons_succ] at hsh ⊢
    refine wpTill_ready (rs := [10]) (by kernel_rfl) (by simp) ?_
    have hsh := hsh.put (i := 10) (by kernel_rfl)
    refine (AllTill.cons rfl (fun KK hKK => ?_) AllTill.nil)
    rw [if_pos (by rfl)]
    go_simp
    refine (sameRsp_any ⟨u, rc.heads, rc.body⟩ ⟨v, sc.heads, sc.body⟩ A3 x3 B3 y3 A4 x4 B4 y4 WZ1 (RspAt.of_req HR.out hu1 hu2) (RspAt.of_req HT.out hv1 hv2) hq2).mono ?_
    rintro e WZ2 ⟨rfl, hb⟩
    have HW := Lib.hid (HW.out.trans (hb.mono HW.out.size))
    have HR := Lib.hid (HR.out.next hb)
    have HT := Lib.hid (HT.out.next hb)
    have HS : Hid (WZ2.heap[w.heap.size]? = some (.cells #[.string ⟨rc.method.toArray⟩, .string ⟨rc.target.toArray⟩, .slice A3 rc.heads.length x3, .slice B3 rc.body.length y3] 26 (0, 0)) ∧ WZ2.heap[w.heap.size + 1]? = some (.cells #[.string ⟨sc.method.toArray⟩, .string ⟨sc.target.toArray⟩, .slice A4 sc.heads.length x4, .slice B4 sc.body.length y4] 26 (0, 0)) ∧ WZ2.heap[W7.heap.size]? = some (.cells #[.int .i64 u, .slice A3 rc.heads.length x3, .slice B3 rc.body.length y3] 36 (0, 0)) ∧ WZ2.heap[W7.heap.size + 1]? = some (.cells #[.int .i64 v, .slice A4 sc.heads.length x4, .slice B4 sc.body.length y4] 36 (0, 0))) := Lib.hid ⟨blk_next hb HS.out.1, blk_next hb HS.out.2.1, blk_next hb HS.out.2.2.1, blk_next hb HS.out.2.2.2⟩
    refine hKK _ _ (fun _ => HS.out) ?_
    clear hKK KK hb
    simp only [List.setIfInBounds_toArray, List.set_cons_zero, List.set_cons_succ] at hsh ⊢
    refine wpTill_ready (rs := [13]) (by kernel_rfl) (by simp) ?_
    have hsh := hsh.put (i := 13) (by kernel_rfl)
    refine (AllTill.cons rfl (fun KK hKK => ?_) AllTill.nil)
    rw [if_pos (by rfl)]
    go_simp
    refine (refSameRsp_any ⟨u, rc.heads, rc.body⟩ ⟨v, sc.heads, sc.body⟩ A3 x3 B3 y3 A4 x4 B4 y4 WZ2 (RspAt.of_req HR.out hu1 hu2) (RspAt.of_req HT.out hv1 hv2) hq2).mono ?_
    rintro e WZ3 ⟨rfl, hb⟩
    have HW := Lib.hid (HW.out.trans (hb.mono HW.out.size))
    have HR := Lib.hid (HR.out.next hb)
    have HT := Lib.hid (HT.out.next hb)
    have HS : Hid (WZ3.heap[w.heap.size]? = some (.cells #[.string ⟨rc.method.toArray⟩, .string ⟨rc.target.toArray⟩, .slice A3 rc.heads.length x3, .slice B3 rc.body.length y3] 26 (0, 0)) ∧ WZ3.heap[w.heap.size + 1]? = some (.cells #[.string ⟨sc.method.toArray⟩, .string ⟨sc.target.toArray⟩, .slice A4 sc.heads.length x4, .slice B4 sc.body.length y4] 26 (0, 0)) ∧ WZ3.heap[W7.heap.size]? = some (.cells #[.int .i64 u, .slice A3 rc.heads.length x3, .slice B3 rc.body.length y3] 36 (0, 0)) ∧ WZ3.heap[W7.heap.size + 1]? = some (.cells #[.int .i64 v, .slice A4 sc.heads.length x4, .slice B4 sc.body.length y4] 36 (0, 0))) := Lib.hid ⟨blk_next hb HS.out.1, blk_next hb HS.out.2.1, blk_next hb HS.out.2.2.1, blk_next hb HS.out.2.2.2⟩
    refine hKK _ _ (fun _ => HS.out) ?_
    clear hKK KK hb
    simp only [List.setIfInBounds_toArray, List.set_cons_zero, List.set_cons_succ] at hsh ⊢
    refine wpTill_ready (rs := [14]) (by kernel_rfl) (by simp) ?_
    have hsh := hsh.put (i := 14) (by kernel_rfl)
    refine (AllTill.cons rfl (fun KK hKK => ?_) AllTill.nil)
    rw [if_pos (by rfl)]
    go_simp
    (try simp only [beq_self_eq_true])
    refine hKK _ _ (fun _ => HS.out) ?_
    clear hKK KK
    simp only [List.setIfInBounds_toArray, List.set_cons_zero, List.set_cons_succ] at hsh ⊢
    refine wpTill_ready (rs := [15]) (by kernel_rfl) (by simp) ?_
    have hsh := hsh.put (i := 15) (by kernel_rfl)
    refine (AllTill.cons rfl (fun KK hKK => ?_) AllTill.nil)
    rw [if_pos (by rfl)]
    go_simp
    (try simp only [beq_self_eq_true])
    refine hKK _ _ (fun _ => HS.out) ?_
    clear hKK KK
    simp only [List.setIfInBounds_toArray, List.set_cons_zero, List.set_cons_succ] at hsh ⊢
    refine wpTill_ready (rs := [16]) (by kernel_rfl) (by simp) ?_
    have hsh := hsh.put (i := 16) (by kernel_rfl)
    refine (AllTill.cons rfl (fun KK hKK => ?_) AllTill.nil)
    rw [if_pos (by rfl)]
    go_simp
    (try simp only [beq_self_eq_true])
    refine hKK _ _ (fun _ => HS.out) ?_
    clear hKK KK
    simp only [List.setIfInBounds_toArray, List.set_cons_zero, List.set_cons_succ] at hsh ⊢
    refine wpTill_take (i := 17) (v := .agg #[.string ⟨rc.method.toArray⟩, .string ⟨rc.target.toArray⟩, .slice A3 rc.heads.length x3, .slice B3 rc.body.length y3]) rfl (by kernel_rfl) (by kernel_rfl) (by kernel_rfl) hsh (fun l h h9 => by cases h9) (fun l => rfl) (fun _ _ _ h => h) (Or.inl ⟨by rfl, ?yc17⟩) HS.out (fun hsh' => ?_)
    case yc17 => (intro w hS; obtain ⟨⟨s1, s2, s3, s4⟩, ⟨s5, s6, s7, s8⟩, ⟨s9, s10, s11⟩, s12, s13, s14⟩ := And.intro (blk4 hS.1) (And.intro (blk4 hS.2.1) (And.intro (blk3 hS.2.2.1) (blk3 hS.2.2.2))); go_simp; (try with_reducible rfl))
    have hsh := hsh'
    clear hsh'
    simp only [Act.put, List.getElem_toArray, List.getElem_cons_zero, List.getElem_cons_succ, List.setIfInBounds_toArray, List.set_cons_zero, List.set_cons_succ] at hsh ⊢
    refine wpTill_take (i := 18) (v := .agg #[.string ⟨rc.method.toArray⟩, .string ⟨rc.target.toArray⟩, .slice A3 rc.heads.length x3, .slice B3 rc.body.length y3]) rfl (by kernel_rfl) (by kernel_rfl) (by kernel_rfl) hsh (fun l h h9 => by cases h9) (fun l => rfl) (fun _ _ _ h => h) (Or.inl ⟨by rfl, ?yc18⟩) HS.out (fun hsh' => ?_)
    case yc18 => (intro w hS; obtain ⟨⟨s1, s2, s3, s4⟩, ⟨s5, s6, s7, s8⟩, ⟨s9, s10, s11⟩, s12, s13, s14⟩ := And.intro (blk4 hS.1) (And.intro (blk4 hS.2.1) (And.intro (blk3 hS.2.2.1) (blk3 hS.2.2.2))); go_simp; (try with_reducible rfl))
    have hsh := hsh'
    clear hsh'
    simp only [Act.put, List.getElem_toArray, List.getElem_cons_zero, List.getElem_cons_succ, List.setIfInBounds_toArray, List.set_cons_zero, List.set_cons_succ] at hsh ⊢
    refine wpTill_ready (rs := [19]) (by kernel_rfl) (by simp) ?_
    have hsh := hsh.put (i := 19) (by kernel_rfl)
    refine (AllTill.cons rfl (fun KK hKK => ?_) AllTill.nil)
    rw [if_pos (by rfl)]
    go_simp
    refine (request_full rc A3 x3 B3 y3 WZ3 HR.out.in_ hc3).mono ?_
    rintro e WZ4 ⟨A5, x5, B5, y5, rfl, hr, hn, hm, hb, _⟩
    have HW := Lib.hid (HW.out.trans (hb.mono HW.out.size))
    have HR := Lib.hid (HR.out.next hb)
    have HT := Lib.hid (HT.out.next hb)
    have HS : Hid (WZ4.heap[w.heap.size]? = some (.cells #[.string ⟨rc.method.toArray⟩, .string ⟨rc.target.toArray⟩, .slice A3 rc.heads.length x3, .slice B3 rc.body.length y3] 26 (0, 0)) ∧ WZ4.heap[w.heap.size + 1]? = some (.cells #[.string ⟨sc.method.toArray⟩, .string ⟨sc.target.toArray⟩, .slice A4 sc.heads.length x4, .slice B4 sc.body.length y4] 26 (0, 0)) ∧ WZ4.heap[W7.heap.size]? = some (.cells #[.int .i64 u, .slice A3 rc.heads.length x3, .slice B3 rc.body.length y3] 36 (0, 0)) ∧ WZ4.heap[W7.heap.size + 1]? = some (.cells #[.int .i64 v, .slice A4 sc.heads.length x4, .slice B4 sc.body.length y4] 36 (0, 0))) := Lib.hid ⟨blk_next hb HS.out.1, blk_next hb HS.out.2.1, blk_next hb HS.out.2.2.1, blk_next hb HS.out.2.2.2⟩
    refine hKK _ _ (fun _ => HS.out) ?_
    clear hKK KK hb
    simp only [List.setIfInBounds_toArray, List.set_cons_zero, List.set_cons_succ] at hsh ⊢
    rw [hcr] at hr ⊢
    clear hn hm
    refine wpTill_ready (rs := [20]) (by kernel_rfl) (by simp) ?_
    have hsh := hsh.put (i := 20) (by kernel_rfl)
    refine (AllTill.cons rfl (fun KK hKK => ?_) AllTill.nil)
    rw [if_pos (by rfl)]
    go_simp
    refine (sameReq_any rc rc A3 x3 B3 y3 A5 x5 B5 y5 WZ4 HR.out hr (q := true) (by simp)).mono ?_
    rintro e WZ5 ⟨rfl, hb⟩
    have HW := Lib.hid (HW.out.trans (hb.mono HW.out.size))
    have HR := Lib.hid (HR.out.next hb)
    have HT := Lib.hid (HT.out.next hb)
    have HS : Hid (WZ5.heap[w.heap.size]? = some (.cells #[.string ⟨rc.method.toArray⟩, .string ⟨rc.target.toArray⟩, .slice A3 rc.heads.length x3, .slice B3 rc.body.length y3] 26 (0, 0)) ∧ WZ5.heap[w.heap.size + 1]? = some (.cells #[.string ⟨sc.method.toArray⟩, .string ⟨sc.target.toArray⟩, .slice A4 sc.heads.length x4, .slice B4 sc.body.length y4] 26 (0, 0)) ∧ WZ5.heap[W7.heap.size]? = some (.cells #[.int .i64 u, .slice A3 rc.heads.length x3, .slice B3 rc.body.length y3] 36 (0, 0)) ∧ WZ5.heap[W7.heap.size + 1]? = some (.cells #[.int .i64 v, .slice A4 sc.heads.length x4, .slice B4 sc.body.length y4] 36 (0, 0))) := Lib.hid ⟨blk_next hb HS.out.1, blk_next hb HS.out.2.1, blk_next hb HS.out.2.2.1, blk_next hb HS.out.2.2.2⟩
    refine hKK _ _ (fun _ => HS.out) ?_
    clear hKK KK hb
    simp only [List.setIfInBounds_toArray, List.set_cons_zero, List.set_cons_succ] at hsh ⊢
    refine wpTill_ready (rs := [21]) (by kernel_rfl) (by simp) ?_
    have hsh := hsh.put (i := 21) (by kernel_rfl)
    refine (AllTill.cons rfl (fun KK hKK => ?_) AllTill.nil)
    rw [if_pos (by rfl)]
    go_simp
    (try simp only [beq_self_eq_true])
    refine hKK _ _ (fun _ => HS.out) ?_
    clear hKK KK
    simp only [List.setIfInBounds_toArray, List.set_cons_zero, List.set_cons_succ] at hsh ⊢
    refine wpTill_ready (rs := [22]) (by kernel_rfl) (by simp) ?_
    have hsh := hsh.put (i := 22) (by kernel_rfl)
    refine (AllTill.cons rfl (fun KK hKK => ?_) AllTill.nil)
    rw [if_pos (by rfl)]
    go_simp
    (try simp only [beq_self_eq_true])
    refine hKK _ _ (fun _ => HS.out) ?_
    clear hKK KK
    simp only [List.setIfInBounds_toArray, List.set_cons_zero, List.set_cons_succ] at hsh ⊢
    refine wpTill_take (i := 23) (v := .agg #[.int .i64 u, .slice A3 rc.heads.length x3, .slice B3 rc.body.length y3]) rfl (by kernel_rfl) (by kernel_rfl) (by kernel_rfl) hsh (fun l h h9 => by cases h9) (fun l => rfl) (fun _ _ _ h => h) (Or.inl ⟨by rfl, ?yc23⟩) HS.out (fun hsh' => ?_)
    case yc23 => (intro w hS; obtain ⟨⟨s1, s2, s3, s4⟩, ⟨s5, s6, s7, s8⟩, ⟨s9, s10, s11⟩, s12, s13, s14⟩ := And.intro (blk4 hS.1) (And.intro (blk4 hS.2.1) (And.intro (blk3 hS.2.2.1) (blk3 hS.2.2.2))); go_simp; (try with_reducible rfl))
    have hsh := hsh'
    clear hsh'
    simp only [Act.put, List.getElem_toArray, List.getElem_cons_zero, List.getElem_cons_succ, List.setIfInBounds_toArray, List.set_cons_zero, List.set_cons_succ] at hsh ⊢
    refine wpTill_take (i := 24) (v := .agg #[.int .i64 u, .slice A3 rc.heads.length x3, .slice B3 rc.body.length y3]) rfl (by kernel_rfl) (by kernel_rfl) (by kernel_rfl) hsh (fun l h h9 => by cases h9) (fun l => rfl) (fun _ _ _ h => h) (Or.inl ⟨by rfl, ?yc24⟩) HS.out (fun hsh' => ?_)
    case yc24 => (intro w hS; obtain ⟨⟨s1, s2, s3, s4⟩, ⟨s5, s6, s7, s8⟩, ⟨s9, s10, s11⟩, s12, s13, s14⟩ := And.intro (blk4 hS.1) (And.intro (blk4 hS.2.1) (And.intro (blk3 hS.2.2.1) (blk3 hS.2.2.2))); go_simp; (try with_reducible rfl))
    have hsh := hsh'
    clear hsh'
    simp only [Act.put, List.getElem_toArray, List.getElem_cons_zero, List.getElem_cons_succ, List.setIfInBounds_toArray, List.set_cons_zero, List.set_cons_succ] at hsh ⊢
    refine wpTill_ready (rs := [25]) (by kernel_rfl) (by simp) ?_
    have hsh := hsh.put (i := 25) (by kernel_rfl)
    refine (AllTill.cons rfl (fun KK hKK => ?_) AllTill.nil)
    rw [if_pos (by rfl)]
    go_simp
    refine (response_full ⟨u, rc.heads, rc.body⟩ A3 x3 B3 y3 WZ5 (RspAt.of_req HR.out hu1 hu2).in_ hc3).mono ?_
    rintro e WZ6 ⟨A6, x6, B6, y6, rfl, hr, hn, hm, hb, _⟩
    have HW := Lib.hid (HW.out.trans (hb.mono HW.out.size))
    have HR := Lib.hid (HR.out.next hb)
    have HT := Lib.hid (HT.out.next hb)
    have HS : Hid (WZ6.heap[w.heap.size]? = some (.cells #[.string ⟨rc.method.toArray⟩, .string ⟨rc.target.toArray⟩, .slice A3 rc.heads.length x3, .slice B3 rc.body.length y3] 26 (0, 0)) ∧ WZ6.heap[w.heap.size + 1]? = some (.cells #[.string ⟨sc.method.toArray⟩, .string ⟨sc.target.toArray⟩, .slice A4 sc.heads.length x4, .slice B4 sc.body.length y4] 26 (0, 0)) ∧ WZ6.heap[W7.heap.size]? = some (.cells #[.int .i64 u, .slice A3 rc.heads.length x3, .slice B3 rc.body.length y3] 36 (0, 0)) ∧ WZ6.heap[W7.heap.size + 1]? = some (.cells #[.int .i64 v, .slice A4 sc.heads.length x4, .slice B4 sc.body.length y4] 36 (0, 0))) := Lib.hid ⟨blk_next hb HS.out.1, blk_next hb HS.out.2.1, blk_next hb HS.out.2.2.1, blk_next hb HS.out.2.2.2⟩
    refine hKK _ _ (fun _ => HS.out) ?_
    clear hKK KK hb
    simp only [List.setIfInBounds_toArray, List.set_cons_zero, List.set_cons_succ] at hsh ⊢
    rw [hcp] at hr ⊢
    clear hn hm
    refine wpTill_ready (rs := [26]) (by kernel_rfl) (by simp) ?_
    have hsh := hsh.put (i := 26) (by kernel_rfl)
    refine (AllTill.cons rfl (fun KK hKK => ?_) AllTill.nil)
    rw [if_pos (by rfl)]
    go_simp
    refine (sameRsp_any ⟨u, rc.heads, rc.body⟩ ⟨u, rc.heads, rc.body⟩ A3 x3 B3 y3 A6 x6 B6 y6 WZ6 (RspAt.of_req HR.out hu1 hu2) hr (q := true) (by simp)).mono ?_
    rintro e WZ7 ⟨rfl, hb⟩
    have HW := Lib.hid (HW.out.trans (hb.mono HW.out.size))
    have HR := Lib.hid (HR.out.next hb)
    have HT := Lib.hid (HT.out.next hb)
    have HS : Hid (WZ7.heap[w.heap.size]? = some (.cells #[.string ⟨rc.method.toArray⟩, .string ⟨rc.target.toArray⟩, .slice A3 rc.heads.length x3, .slice B3 rc.body.length y3] 26 (0, 0)) ∧ WZ7.heap[w.heap.size + 1]? = some (.cells #[.string ⟨sc.method.toArray⟩, .string ⟨sc.target.toArray⟩, .slice A4 sc.heads.length x4, .slice B4 sc.body.length y4] 26 (0, 0)) ∧ WZ7.heap[W7.heap.size]? = some (.cells #[.int .i64 u, .slice A3 rc.heads.length x3, .slice B3 rc.body.length y3] 36 (0, 0)) ∧ WZ7.heap[W7.heap.size + 1]? = some (.cells #[.int .i64 v, .slice A4 sc.heads.length x4, .slice B4 sc.body.length y4] 36 (0, 0))) := Lib.hid ⟨blk_next hb HS.out.1, blk_next hb HS.out.2.1, blk_next hb HS.out.2.2.1, blk_next hb HS.out.2.2.2⟩
    refine hKK _ _ (fun _ => HS.out) ?_
    clear hKK KK hb
    simp only [List.setIfInBounds_toArray, List.set_cons_zero, List.set_cons_succ] at hsh ⊢
    refine wpTill_ready (rs := [27]) (by kernel_rfl) (by simp) ?_
    have hsh := hsh.put (i := 27) (by kernel_rfl)
    refine (AllTill.cons rfl (fun KK hKK => ?_) AllTill.nil)
    rw [if_pos (by rfl)]
    go_simp
    (try simp only [beq_self_eq_true])
    refine hKK _ _ (fun _ => HS.out) ?_
    clear hKK KK
    simp only [List.setIfInBounds_toArray, List.set_cons_zero, List.set_cons_succ] at hsh ⊢
    refine wpTill_ready (rs := [28]) (by kernel_rfl) (by simp) ?_
    have hsh := hsh.put (i := 28) (by kernel_rfl)
    refine (AllTill.cons rfl (fun KK hKK => ?_) AllTill.nil)
    rw [if_pos (by rfl)]
    go_simp
    (try simp only [beq_self_eq_true])
    refine hKK _ _ (fun _ => HS.out) ?_
    clear hKK KK
    simp only [List.setIfInBounds_toArray, List.set_cons_zero, List.set_cons_succ] at hsh ⊢
    refine wpTill_done (by kernel_rfl) ?_ _
    (try simp only [noPanic])
    simp only [Exit.then]
    go_wp2_with fail
    go_ret
    exact ⟨rfl, HW.out⟩
  · rw [if_pos (by rfl)]
    go_simp
    have HA1 := Lib.hid (below_box W7 (.cells #[.int .i64 0, .slice none 0 0, .slice none 0 0] 36))
    have HA2 := Lib.hid (heap_alloc_new W7 (.cells #[.int .i64 0, .slice none 0 0, .slice none 0 0] 36))
    refine hKK _ _ (fun _ => ⟨(HA1.out.block _ (by have := (Array.getElem?_eq_some_iff.1 HD0.out).1; omega)).trans HD0.out, (HA1.out.block _ (by have := (Array.getElem?_eq_some_iff.1 HD1.out).1; omega)).trans HD1.out, (HA1.out.block _ (by have := (Array.getElem?_eq_some_iff.1 HD2.out).1; omega)).trans HD2.out⟩) ?_
    clear hKK KK
    simp only [List.setIfInBounds_toArray, List.set_cons_zero, List.set_cons_succ]
    refine wpTill_ready (rs := [14]) (by kernel_rfl) (by simp) ?_
    refine (AllTill.cons rfl (fun KK hKK => ?_) AllTill.nil)
    rw [if_pos (by rfl)]
    go_simp
    have HA3 := Lib.hid (below_box (W7.alloc (.cells #[.int .i64 0, .slice none 0 0, .slice none 0 0] 36)) (.cells #[.int .i64 0, .slice none 0 0, .slice none 0 0] 36))
    have HA4 := Lib.hid (heap_alloc_new (W7.alloc (.cells #[.int .i64 0, .slice none 0 0, .slice none 0 0] 36)) (.cells #[.int .i64 0, .slice none 0 0, .slice none 0 0] 36))
    have HK1 := Lib.hid (blk_next HA3.out HA2.out)
    have hm1 : (W7.alloc (.cells #[.int .i64 0, .slice none 0 0, .slice none 0 0] 36)).heap.size = W7.heap.size + 1 := by simp
    rw [hm1] at HA4
    have HBB := Lib.hid (HA1.out.trans (HA3.out.mono HA1.out.size))
    have HE0 := Lib.hid (blk_next HBB.out HD0.out)
    have HE1 := Lib.hid (blk_next HBB.out HD1.out)
    have HE2 := Lib.hid (blk_next HBB.out HD2.out)
    refine hKK _ _ (fun _ => ⟨HE0.out, HE1.out, HE2.out⟩) ?_
    clear hKK KK
    simp only [List.setIfInBounds_toArray, List.set_cons_zero, List.set_cons_succ]
    obtain ⟨W8, hW8⟩ : ∃ W8, (W7.alloc (.cells #[.int .i64 0, .slice none 0 0, .slice none 0 0] 36)).alloc (.cells #[.int .i64 0, .slice none 0 0, .slice none 0 0] 36) = W8 := ⟨_, rfl⟩
    rw [hW8] at HA4 HK1 HBB HE0 HE1 HE2 ⊢
    clear hW8 HA1 HA2 HA3
    obtain ⟨c0, c1, c2⟩ := blk3 HK1.out
    obtain ⟨f0, f1, f2⟩ := blk3_free HK1.out
    obtain ⟨d0, d1, d2⟩ := blk3 HA4.out
    obtain ⟨e0, e1, e2⟩ := blk3_free HA4.out
    refine wpTill_ready (rs := [16]) (by kernel_rfl) (by simp) ?_
    refine (AllTill.cons rfl (fun KK hKK => ?_) AllTill.nil)
    rw [if_pos (by rfl)]
    go_simp
    have hst := rp_set (x := .int .i64 u) (y := .slice A3 rc.heads.length x3) (z := .slice B3 rc.body.length y3) HA4.out
    have HK9 := Lib.hid hst.1
    have HP9 := Lib.hid hst.2
    clear hst c0 c1 c2 f0 f1 f2 d0 d1 d2 e0 e1 e2
    obtain ⟨W9, hW9⟩ : ∃ W9, (((W8.setCell ⟨W7.heap.size + 1, 0, none⟩ (.int .i64 u)).setCell ⟨W7.heap.size + 1, 1, none⟩ (.slice A3 rc.heads.length x3)).setCell ⟨W7.heap.size + 1, 2, none⟩ (.slice B3 rc.body.length y3)) = W9 := ⟨_, rfl⟩
    rw [hW9] at HK9 HP9 ⊢
    clear hW9
    have hbg := (Array.getElem?_eq_some_iff.1 HD2.out).1
    have HF0 := Lib.hid (HK9.out.blk HE0.out (by simp; omega))
    have HF1 := Lib.hid (HK9.out.blk HE1.out (by simp; omega))
    have HF2 := Lib.hid (HK9.out.blk HE2.out (by simp; omega))
    have HQ9 := Lib.hid (HK9.out.blk HK1.out (by simp))
    refine hKK _ _ (fun _ => ⟨HF0.out, HF1.out, HF2.out⟩) ?_
    clear hKK KK
    simp only [List.setIfInBounds_toArray, List.set_cons_zero, List.set_cons_succ]
    obtain ⟨d0, d1, d2⟩ := blk3 HQ9.out
    obtain ⟨e0, e1, e2⟩ := blk3_free HQ9.out
    refine wpTill_ready (rs := [17]) (by kernel_rfl) (by simp) ?_
    refine (AllTill.cons rfl (fun KK hKK => ?_) AllTill.nil)
    rw [if_pos (by rfl)]
    go_simp
    have hst := rp_set (x := .int .i64 v) (y := .slice A4 sc.heads.length x4) (z := .slice B4 sc.body.length y4) HQ9.out
    have HKX := Lib.hid hst.1
    have HQX := Lib.hid hst.2
    clear hst d0 d1 d2 e0 e1 e2
    obtain ⟨WX, hWX⟩ : ∃ WX, (((W9.setCell ⟨W7.heap.size, 0, none⟩ (.int .i64 v)).setCell ⟨W7.heap.size, 1, none⟩ (.slice A4 sc.heads.length x4)).setCell ⟨W7.heap.size, 2, none⟩ (.slice B4 sc.body.length y4)) = WX := ⟨_, rfl⟩
    rw [hWX] at HKX HQX ⊢
    clear hWX
    have HG0 := Lib.hid (HKX.out.blk HF0.out (by simp; omega))
    have HG1 := Lib.hid (HKX.out.blk HF1.out (by simp; omega))
    have HG2 := Lib.hid (HKX.out.blk HF2.out (by simp; omega))
    have HPX := Lib.hid (HKX.out.blk HP9.out (by simp))
    refine hKK _ _ (fun _ => ⟨HG0.out, HG1.out, HG2.out⟩) ?_
    clear hKK KK
    simp only [List.setIfInBounds_toArray, List.set_cons_zero, List.set_cons_succ]
    refine wpTill_done (by kernel_rfl) ?_ _
    (try simp only [noPanic])
    simp only [Exit.then]
    have hwz := HW7.out.size
    have HW8 := HW7.out.trans (HBB.out.mono HW7.out.size)
    have HW9 := HW8.trans (HK9.out.to HW8.size (by simp; try omega))
    have HWX := Lib.hid (HW9.trans (HKX.out.to HW9.size (by simp; try omega)))
    have HR8 := HR7.out.next HBB.out
    have HR9 := HR7.out.over HR8 HK9.out (by simp)
    have HRX := Lib.hid (HR7.out.over HR9 HKX.out (by simp))
    have HT8 := HT7.out.next HBB.out
    have HT9 := HT7.out.over HT8 HK9.out (by simp)
    have HTX := Lib.hid (HT7.out.over HT9 HKX.out (by simp))
    clear HW8 HW9 HR8 HR9 HT8 HT9 HW7 HBB HK9 HKX HR7 HT7 HF0 HF1 HF2 HG2 HD0 HD1 HD2 HE0 HE1 HE2 HS
    go_wp2_with fail
    refine wp_region_any (by kernel_rfl) ?_
    change wpAny _ _ _ _ _ _ _ (World.drew _)
    have HW : Hid (Below w.heap.size w WX.drew) := Lib.hid (below_drewN HWX.out 1)
    have HR : Hid (ReqAt WX.drew rc A3 B3) := Lib.hid (HRX.out.next (below_drewN (Below.refl _ _) 1))
    have HT : Hid (ReqAt WX.drew sc A4 B4) := Lib.hid (HTX.out.next (below_drewN (Below.refl _ _) 1))
    have HS : Hid (WX.drew.heap[w.heap.size]? = some (.cells #[.string ⟨rc.method.toArray⟩, .string ⟨rc.target.toArray⟩, .slice A3 rc.heads.length x3, .slice B3 rc.body.length y3] 26 (0, 0)) ∧ WX.drew.heap[w.heap.size + 1]? = some (.cells #[.string ⟨sc.method.toArray⟩, .string ⟨sc.target.toArray⟩, .slice A4 sc.heads.length x4, .slice B4 sc.body.length y4] 26 (0, 0)) ∧ WX.drew.heap[W7.heap.size + 1]? = some (.cells #[.int .i64 u, .slice A3 rc.heads.length x3, .slice B3 rc.body.length y3] 36 (0, 0)) ∧ WX.drew.heap[W7.heap.size]? = some (.cells #[.int .i64 v, .slice A4 sc.heads.length x4, .slice B4 sc.body.length y4] 36 (0, 0))) := Lib.hid ⟨HG0.out, HG1.out, HPX.out, HQX.out⟩
    generalize WX.drew = WY at HW HR HT HS ⊢
    clear HG0 HG1 HPX HQX HWX HRX HTX
    obtain ⟨q1, hq1⟩ : ∃ q, decide (rc = sc) = q := ⟨_, rfl⟩
    obtain ⟨q2, hq2⟩ : ∃ q, decide ((⟨u, rc.heads, rc.body⟩ : Ht.Rsp) = ⟨v, sc.heads, sc.body⟩) = q := ⟨_, rfl⟩
    have hcr : cutQ rc = rc := by rw [← hrc]; exact cutQ_twice r
    have hcp : cutP (⟨u, rc.heads, rc.body⟩ : Ht.Rsp) = ⟨u, rc.heads, rc.body⟩ := by rw [← hrc]; exact cutP_twice u r
    refine wpAny_of_till (S := fun W => W.heap[w.heap.size]? = some (.cells #[.string ⟨rc.method.toArray⟩, .string ⟨rc.target.toArray⟩, .slice A3 rc.heads.length x3, .slice B3 rc.body.length y3] 26 (0, 0)) ∧ W.heap[w.heap.size + 1]? = some (.cells #[.string ⟨sc.method.toArray⟩, .string ⟨sc.target.toArray⟩, .slice A4 sc.heads.length x4, .slice B4 sc.body.length y4] 26 (0, 0)) ∧ W.heap[W7.heap.size + 1]? = some (.cells #[.int .i64 u, .slice A3 rc.heads.length x3, .slice B3 rc.body.length y3] 36 (0, 0)) ∧ W.heap[W7.heap.size]? = some (.cells #[.int .i64 v, .slice A4 sc.heads.length x4, .slice B4 sc.body.length y4] 36 (0, 0))) (st := fun _ => false) _ _ _ _ ?_
    change wpTill _ _ _ _ _ _ _ #[false, false, false, false, false, false, false, false, false, false, false, false, false, false, false, false, false, false, false, false, false, false, false, false, false, false, false, false, false] _ _
    refine wpTill_take (i := 0) (v := .agg #[.string ⟨rc.method.toArray⟩, .string ⟨rc.target.toArray⟩, .slice A3 rc.heads.length x3, .slice B3 rc.body.length y3]) rfl (by kernel_rfl) (by kernel_rfl) (by kernel_rfl) (show Shutd _ _ #[false, false, false, false, false, false, false, false, false, false, false, false, false, false, false, false, false, false, false, false, false, false, false, false, false, false, false, false, false] from Shutd.start 29) (fun l h h9 => by cases h9) (fun l => rfl) (fun _ _ _ h => h) (Or.inl ⟨by rfl, ?yc0⟩) HS.out (fun hsh' => ?_)
    case yc0 => (intro w hS; obtain ⟨⟨s1, s2, s3, s4⟩, ⟨s5, s6, s7, s8⟩, ⟨s9, s10, s11⟩, s12, s13, s14⟩ := And.intro (blk4 hS.1) (And.intro (blk4 hS.2.1) (And.intro (blk3 hS.2.2.1) (blk3 hS.2.2.2))); go_simp; (try with_reducible rfl))
    have hsh := hsh'
    clear hsh'
    simp only [Act.put, List.getElem_toArray, List.getElem_cons_zero, List.setIfInBounds_toArray, List.set_cons_zero, List.set_cons_succ] at hsh ⊢
    refine wpTill_take (i := 1) (v := .agg #[.string ⟨sc.method.toArray⟩, .string ⟨sc.target.toArray⟩, .slice A4 sc.heads.length x4, .slice B4 sc.body.length y4]) rfl (by kernel_rfl) (by kernel_rfl) (by kernel_rfl) hsh (fun l h h9 => by cases h9) (fun l => rfl) (fun _ _ _ h => h) (Or.inl ⟨by rfl, ?yc1⟩) HS.out (fun hsh' => ?_)
    case yc1 => (intro w hS; obtain ⟨⟨s1, s2, s3, s4⟩, ⟨s5, s6, s7, s8⟩, ⟨s9, s10, s11⟩, s12, s13, s14⟩ := And.intro (blk4 hS.1) (And.intro (blk4 hS.2.1) (And.intro (blk3 hS.2.2.1) (blk3 hS.2.2.2))); go_simp; (try with_reducible rfl))
    have hsh := hsh'
    clear hsh'
    simp only [Act.put, List.getElem_toArray, List.getElem_cons_zero, List.getElem_cons_succ, List.setIfInBounds_toArray, List.set_cons_zero, List.set_cons_succ] at hsh ⊢
    refine wpTill_take (i := 3) (v := .agg #[.string ⟨rc.method.toArray⟩, .string ⟨rc.target.toArray⟩, .slice A3 rc.heads.length x3, .slice B3 rc.body.length y3]) rfl (by kernel_rfl) (by kernel_rfl) (by kernel_rfl) hsh (fun l h h9 => by cases h9) (fun l => rfl) (fun _ _ _ h => h) (Or.inl ⟨by rfl, ?yc3⟩) HS.out (fun hsh' => ?_)
    case yc3 => (intro w hS; obtain ⟨⟨s1, s2, s3, s4⟩, ⟨s5, s6, s7, s8⟩, ⟨s9, s10, s11⟩, s12, s13, s14⟩ := And.intro (blk4 hS.1) (And.intro (blk4 hS.2.1) (And.intro (blk3 hS.2.2.1) (blk3 hS.2.2.2))); go_simp; (try with_reducible rfl))
    have hsh := hsh'
    clear hsh'
    simp only [Act.put, List.getElem_toArray, List.getElem_cons_zero, List.getElem_cons_succ, List.setIfInBounds_toArray, List.set_cons_zero, List.set_cons_succ] at hsh ⊢
    refine wpTill_take (i := 4) (v := .agg #[.string ⟨sc.method.toArray⟩, .string ⟨sc.target.toArray⟩, .slice A4 sc.heads.length x4, .slice B4 sc.body.length y4]) rfl (by kernel_rfl) (by kernel_rfl) (by kernel_rfl) hsh (fun l h h9 => by cases h9) (fun l => rfl) (fun _ _ _ h => h) (Or.inl ⟨by rfl, ?yc4⟩) HS.out (fun hsh' => ?_)
    case yc4 => (intro w hS; obtain ⟨⟨s1, s2, s3, s4⟩, ⟨s5, s6, s7, s8⟩, ⟨s9, s10, s11⟩, s12, s13, s14⟩ := And.intro (blk4 hS.1) (And.intro (blk4 hS.2.1) (And.intro (blk3 hS.2.2.1) (blk3 hS.2.2.2))); go_simp; (try with_reducible rfl))
    have hsh := hsh'
    clear hsh'
    simp only [Act.put, List.getElem_toArray, List.getElem_cons_zero, List.getElem_cons_succ, List.setIfInBounds_toArray, List.set_cons_zero, List.set_cons_succ] at hsh ⊢
    refine wpTill_ready (rs := [2]) (by kernel_rfl) (by simp) ?_
    have hsh := hsh.put (i := 2) (by kernel_rfl)
    refine (AllTill.cons rfl (fun KK hKK => ?_) AllTill.nil)
    rw [if_pos (by rfl)]
    go_simp
    refine (sameReq_any rc sc A3 x3 B3 y3 A4 x4 B4 y4 WY HR.out HT.out hq1).mono ?_
    rintro e WZ0 ⟨rfl, hb⟩
    have HW := Lib.hid (HW.out.trans (hb.mono HW.out.size))
    have HR := Lib.hid (HR.out.next hb)
    have HT := Lib.hid (HT.out.next hb)
    have HS : Hid (WZ0.heap[w.heap.size]? = some (.cells #[.string ⟨rc.method.toArray⟩, .string ⟨rc.target.toArray⟩, .slice A3 rc.heads.length x3, .slice B3 rc.body.length y3] 26 (0, 0)) ∧ WZ0.heap[w.heap.size + 1]? = some (.cells #[.string ⟨sc.method.toArray⟩, .string ⟨sc.target.toArray⟩, .slice A4 sc.heads.length x4, .slice B4 sc.body.length y4] 26 (0, 0)) ∧ WZ0.heap[W7.heap.size + 1]? = some (.cells #[.int .i64 u, .slice A3 rc.heads.length x3, .slice B3 rc.body.length y3] 36 (0, 0)) ∧ WZ0.heap[W7.heap.size]? = some (.cells #[.int .i64 v, .slice A4 sc.heads.length x4, .slice B4 sc.body.length y4] 36 (0, 0))) := Lib.hid ⟨blk_next hb HS.out.1, blk_next hb HS.out.2.1, blk_next hb HS.out.2.2.1, blk_next hb HS.out.2.2.2⟩
    refine hKK _ _ (fun _ => HS.out) ?_
    clear hKK KK hb
    simp only [List.setIfInBounds_toArray, List.set_cons_zero, List.set_cons_succ] at hsh ⊢
    refine wpTill_ready (rs := [5]) (by kernel_rfl) (by simp) ?_
    have hsh := hsh.put (i := 5) (by kernel_rfl)
    refine (AllTill.cons rfl (fun KK hKK => ?_) AllTill.nil)
    rw [if_pos (by rfl)]
    go_simp
    refine (refSameReq_any rc sc A3 x3 B3 y3 A4 x4 B4 y4 WZ0 HR.out HT.out hq1).mono ?_
    rintro e WZ1 ⟨rfl, hb⟩
    have HW := Lib.hid (HW.out.trans (hb.mono HW.out.size))
    have HR := Lib.hid (HR.out.next hb)
    have HT := Lib.hid (HT.out.next hb)
    have HS : Hid (WZ1.heap[w.heap.size]? = some (.cells #[.string ⟨rc.method.toArray⟩, .string ⟨rc.target.toArray⟩, .slice A3 rc.heads.length x3, .slice B3 rc.body.length y3] 26 (0, 0)) ∧ WZ1.heap[w.heap.size + 1]? = some (.cells #[.string ⟨sc.method.toArray⟩, .string ⟨sc.target.toArray⟩, .slice A4 sc.heads.length x4, .slice B4 sc.body.length y4] 26 (0, 0)) ∧ WZ1.heap[W7.heap.size + 1]? = some (.cells #[.int .i64 u, .slice A3 rc.heads.length x3, .slice B3 rc.body.length y3] 36 (0, 0)) ∧ WZ1.heap[W7.heap.size]? = some (.cells #[.int .i64 v, .slice A4 sc.heads.length x4, .slice B4 sc.body.length y4] 36 (0, 0))) := Lib.hid ⟨blk_next hb HS.out.1, blk_next hb HS.out.2.1, blk_next hb HS.out.2.2.1, blk_next hb HS.out.2.2.2⟩
    refine hKK _ _ (fun _ => HS.out) ?_
    clear hKK KK hb
    simp only [List.setIfInBounds_toArray, List.set_cons_zero, List.set_cons_succ] at hsh ⊢
    refine wpTill_ready (rs := [6]) (by kernel_rfl) (by simp) ?_
    have hsh := hsh.put (i := 6) (by kernel_rfl)
    refine (AllTill.cons rfl (fun KK hKK => ?_) AllTill.nil)
    rw [if_pos (by rfl)]
    go_simp
    (try simp only [beq_self_eq_true])
    refine hKK _ _ (fun _ => HS.out) ?_
    clear hKK KK
    simp only [List.setIfInBounds_toArray, List.set_cons_zero, List.set_cons_succ] at hsh ⊢
    refine wpTill_ready (rs := [7]) (by kernel_rfl) (by simp) ?_
    have hsh := hsh.put (i := 7) (by kernel_rfl)
    refine (AllTill.cons rfl (fun KK hKK => ?_) AllTill.nil)
    rw [if_pos (by rfl)]
    go_simp
    (try simp only [beq_self_eq_true])
    refine hKK _ _ (fun _ => HS.out) ?_
    clear hKK KK
    simp only [List.setIfInBounds_toArray, List.set_cons_zero, List.set_cons_succ] at hsh ⊢
    refine wpTill_take (i := 8) (v := .agg #[.int .i64 u, .slice A3 rc.heads.length x3, .slice B3 rc.body.length y3]) rfl (by kernel_rfl) (by kernel_rfl) (by kernel_rfl) hsh (fun l h h9 => by cases h9) (fun l => rfl) (fun _ _ _ h => h) (Or.inl ⟨by rfl, ?yc8⟩) HS.out (fun hsh' => ?_)
    case yc8 => (intro w hS; obtain ⟨⟨s1, s2, s3, s4⟩, ⟨s5, s6, s7, s8⟩, ⟨s9, s10, s11⟩, s12, s13, s14⟩ := And.intro (blk4 hS.1) (And.intro (blk4 hS.2.1) (And.intro (blk3 hS.2.2.1) (blk3 hS.2.2.2))); go_simp; (try with_reducible rfl))
    have hsh := hsh'
    clear hsh'
    simp only [Act.put, List.getElem_toArray, List.getElem_cons_zero, List.getElem_cons_succ, List.setIfInBounds_toArray, List.set_cons_zero, List.set_cons_succ] at hsh ⊢
    refine wpTill_take (i := 9) (v := .agg #[.int .i64 v, .slice A4 sc.heads.length x4, .slice B4 sc.body.length y4]) rfl (by kernel_rfl) (by kernel_rfl) (by kernel_rfl) hsh (fun l h h9 => by cases h9) (fun l => rfl) (fun _ _ _ h => h) (Or.inl ⟨by rfl, ?yc9⟩) HS.out (fun hsh' => ?_)
    case yc9 => (intro w hS; obtain ⟨⟨s1, s2, s3, s4⟩, ⟨s5, s6, s7, s8⟩, ⟨s9, s10, s11⟩, s12, s13, s14⟩ := And.intro (blk4 hS.1) (And.intro (blk4 hS.2.1) (And.intro (blk3 hS.2.2.1) (blk3 hS.2.2.2))); go_simp; (try with_reducible rfl))
    have hsh := hsh'
    clear hsh'
    simp only [Act.put, List.getElem_toArray, List.getElem_cons_zero, List.getElem_cons_succ, List.setIfInBounds_toArray, List.set_cons_zero, List.set_cons_succ] at hsh ⊢
    refine wpTill_take (i := 11) (v := .agg #[.int .i64 u, .slice A3 rc.heads.length x3, .slice B3 rc.body.length y3]) rfl (by kernel_rfl) (by kernel_rfl) (by kernel_rfl) hsh (fun l h h9 => by cases h9) (fun l => rfl) (fun _ _ _ h => h) (Or.inl ⟨by rfl, ?yc11⟩) HS.out (fun hsh' => ?_)
    case yc11 => (intro w hS; obtain ⟨⟨s1, s2, s3, s4⟩, ⟨s5, s6, s7, s8⟩, ⟨s9, s10, s11⟩, s12, s13, s14⟩ := And.intro (blk4 hS.1) (And.intro (blk4 hS.2.1) (And.intro (blk3 hS.2.2.1) (blk3 hS.2.2.2))); go_simp; (try with_reducible rfl))
    have hsh := hsh'
    clear hsh'
    simp only [Act.put, List.getElem_toArray, List.getElem_cons_zero, List.getElem_cons_succ, List.setIfInBounds_toArray, List.set_cons_zero, List.set_cons_succ] at hsh ⊢
    refine wpTill_take (i := 12) (v := .agg #[.int .i64 v, .slice A4 sc.heads.length x4, .slice B4 sc.body.length y4]) rfl (by kernel_rfl) (by kernel_rfl) (by kernel_rfl) hsh (fun l h h9 => by cases h9) (fun l => rfl) (fun _ _ _ h => h) (Or.inl ⟨by rfl, ?yc12⟩) HS.out (fun hsh' => ?_)
    case yc12 => (intro w hS; obtain ⟨⟨s1, s2, s3, s4⟩, ⟨s5, s6, s7, s8⟩, ⟨s9, s10, s11⟩, s12, s13, s14⟩ := And.intro (blk4 hS.1) (And.intro (blk4 hS.2.1) (And.intro (blk3 hS.2.2.1) (blk3 hS.2.2.2))); go_simp; (try with_reducible rfl))
    have hsh := hsh'
    clear hsh'
    simp only [Act.put, List.getElem_toArray, List.getElem_cons_zero, List.getElem_cons_succ, List.setIfInBounds_toArray, List.set_cons_zero, List.set_cons_succ] at hsh ⊢
    refine wpTill_ready (rs := [10]) (by kernel_rfl) (by simp) ?_
    have hsh := hsh.put (i := 10) (by kernel_rfl)
    refine (AllTill.cons rfl (fun KK hKK => ?_) AllTill.nil)
    rw [if_pos (by rfl)]
    go_simp
    refine (sameRsp_any ⟨u, rc.heads, rc.body⟩ ⟨v, sc.heads, sc.body⟩ A3 x3 B3 y3 A4 x4 B4 y4 WZ1 (RspAt.of_req HR.out hu1 hu2) (RspAt.of_req HT.out hv1 hv2) hq2).mono ?_
    rintro e WZ2 ⟨rfl, hb⟩
    have HW := Lib.hid (HW.out.trans (hb.mono HW.out.size))
    have HR := Lib.hid (HR.out.next hb)
    have HT := Lib.hid (HT.out.next hb)
    have HS : Hid (WZ2.heap[w.heap.size]? = some (.cells #[.string ⟨rc.method.toArray⟩, .string ⟨rc.target.toArray⟩, .slice A3 rc.heads.length x3, .slice B3 rc.body.length y3] 26 (0, 0)) ∧ WZ2.heap[w.heap.size + 1]? = some (.cells #[.string ⟨sc.method.toArray⟩, .string ⟨sc.target.toArray⟩, .slice A4 sc.heads.length x4, .slice B4 sc.body.length y4] 26 (0, 0)) ∧ WZ2.heap[W7.heap.size + 1]? = some (.cells #[.int .i64 u, .slice A3 rc.heads.length x3, .slice B3 rc.body.length y3] 36 (0, 0)) ∧ WZ2.heap[W7.heap.size]? = some (.cells #[.int .i64 v, .slice A4 sc.heads.length x4, .slice B4 sc.body.length y4] 36 (0, 0))) := Lib.hid ⟨blk_next hb HS.out.1, blk_next hb HS.out.2.1, blk_next hb HS.out.2.2.1, blk_next hb HS.out.2.2.2⟩
    refine hKK _ _ (fun _ => HS.out) ?_
    clear hKK KK hb
    simp only [List.setIfInBounds_toArray, List.set_cons_zero, List.set_cons_succ] at hsh ⊢
    refine wpTill_ready (rs := [13]) (by kernel_rfl) (by simp) ?_
    have hsh := hsh.put (i := 13) (by kernel_rfl)
    refine (AllTill.cons rfl (fun KK hKK => ?_) AllTill.nil)
    rw [if_pos (by rfl)]
    go_simp
    refine (refSameRsp_any ⟨u, rc.heads, rc.body⟩ ⟨v, sc.heads, sc.body⟩ A3 x3 B3 y3 A4 x4 B4 y4 WZ2 (RspAt.of_req HR.out hu1 hu2) (RspAt.of_req HT.out hv1 hv2) hq2).mono ?_
    rintro e WZ3 ⟨rfl, hb⟩
    have HW := Lib.hid (HW.out.trans (hb.mono HW.out.size))
    have HR := Lib.hid (HR.out.next hb)
    have HT := Lib.hid (HT.out.next hb)
    have HS : Hid (WZ3.heap[w.heap.size]? = some (.cells #[.string ⟨rc.method.toArray⟩, .string ⟨rc.target.toArray⟩, .slice A3 rc.heads.length x3, .slice B3 rc.body.length y3] 26 (0, 0)) ∧ WZ3.heap[w.heap.size + 1]? = some (.cells #[.string ⟨sc.method.toArray⟩, .string ⟨sc.target.toArray⟩, .slice A4 sc.heads.length x4, .slice B4 sc.body.length y4] 26 (0, 0)) ∧ WZ3.heap[W7.heap.size + 1]? = some (.cells #[.int .i64 u, .slice A3 rc.heads.length x3, .slice B3 rc.body.length y3] 36 (0, 0)) ∧ WZ3.heap[W7.heap.size]? = some (.cells #[.int .i64 v, .slice A4 sc.heads.length x4, .slice B4 sc.body.length y4] 36 (0, 0))) := Lib.hid ⟨blk_next hb HS.out.1, blk_next hb HS.out.2.1, blk_next hb HS.out.2.2.1, blk_next hb HS.out.2.2.2⟩
    refine hKK _ _ (fun _ => HS.out) ?_
    clear hKK KK hb
    simp only [List.setIfInBounds_toArray, List.set_cons_zero, List.set_cons_succ] at hsh ⊢
    refine wpTill_ready (rs := [14]) (by kernel_rfl) (by simp) ?_
    have hsh := hsh.put (i := 14) (by kernel_rfl)
    refine (AllTill.cons rfl (fun KK hKK => ?_) AllTill.nil)
    rw [if_pos (by rfl)]
    go_simp
    (try simp only [beq_self_eq_true])
    refine hKK _ _ (fun _ => HS.out) ?_
    clear hKK KK
    simp only [List.setIfInBounds_toArray, List.set_cons_zero, List.set_cons_succ] at hsh ⊢
    refine wpTill_ready (rs := [15]) (by kernel_rfl) (by simp) ?_
    have hsh := hsh.put (i := 15) (by kernel_rfl)
    refine (AllTill.cons rfl (fun KK hKK => ?_) AllTill.nil)
    rw [if_pos (by rfl)]
    go_simp
    (try simp only [beq_self_eq_true])
    refine hKK _ _ (fun _ => HS.out) ?_
    clear hKK KK
    simp only [List.setIfInBounds_toArray, List.set_cons_zero, List.set_cons_succ] at hsh ⊢
    refine wpTill_ready (rs := [16]) (by kernel_rfl) (by simp) ?_
    have hsh := hsh.put (i := 16) (by kernel_rfl)
    refine (AllTill.cons rfl (fun KK hKK => ?_) AllTill.nil)
    rw [if_pos (by rfl)]
    go_simp
    (try simp only [beq_self_eq_true])
    refine hKK _ _ (fun _ => HS.out) ?_
    clear hKK KK
    simp only [List.setIfInBounds_toArray, List.set_cons_zero, List.set_cons_succ] at hsh ⊢
    refine wpTill_take (i := 17) (v := .agg #[.string ⟨rc.method.toArray⟩, .string ⟨rc.target.toArray⟩, .slice A3 rc.heads.length x3, .slice B3 rc.body.length y3]) rfl (by kernel_rfl) (by kernel_rfl) (by kernel_rfl) hsh (fun l h h9 => by cases h9) (fun l => rfl) (fun _ _ _ h => h) (Or.inl ⟨by rfl, ?yc17⟩) HS.out (fun hsh' => ?_)
    case yc17 => (intro w hS; obtain ⟨⟨s1, s2, s3, s4⟩, ⟨s5, s6, s7, s8⟩, ⟨s9, s10, s11⟩, s12, s13, s14⟩ := And.intro (blk4 hS.1) (And.intro (blk4 hS.2.1) (And.intro (blk3 hS.2.2.1) (blk3 hS.2.2.2))); go_simp; (try with_reducible rfl))
    have hsh := hsh'
    clear hsh'
    simp only [Act.put, List.getElem_toArray, List.getElem_cons_zero, List.getElem_cons_succ, List.setIfInBounds_toArray, List.set_cons_zero, List.set_cons_succ] at hsh ⊢
    refine wpTill_take (i := 18) (v := .agg #[.string ⟨rc.method.toArray⟩, .string ⟨rc.target.toArray⟩, .slice A3 rc.heads.length x3, .slice B3 rc.body.length y3]) rfl (by kernel_rfl) (by kernel_rfl) (by kernel_rfl) hsh (fun l h h9 => by cases h9) (fun l => rfl) (fun _ _ _ h => h) (Or.inl ⟨by rfl, ?yc18⟩) HS.out (fun hsh' => ?_)
    case yc18 => (intro w hS; obtain ⟨⟨s1, s2, s3, s4⟩, ⟨s5, s6, s7, s8⟩, ⟨s9, s10, s11⟩, s12, s13, s14⟩ := And.intro (blk4 hS.1) (And.intro (blk4 hS.2.1) (And.intro (blk3 hS.2.2.1) (blk3 hS.2.2.2))); go_simp; (try with_reducible rfl))
    have hsh := hsh'
    clear hsh'
    simp only [Act.put, List.getElem_toArray, List.getElem_cons_zero, List.getElem_cons_succ, List.setIfInBounds_toArray, List.set_cons_zero, List.set_cons_succ] at hsh ⊢
    refine wpTill_ready (rs := [19]) (by kernel_rfl) (by simp) ?_
    have hsh := hsh.put (i := 19) (by kernel_rfl)
    refine (AllTill.cons rfl (fun KK hKK => ?_) AllTill.nil)
    rw [if_pos (by rfl)]
    go_simp
    refine (request_full rc A3 x3 B3 y3 WZ3 HR.out.in_ hc3).mono ?_
    rintro e WZ4 ⟨A5, x5, B5, y5, rfl, hr, hn, hm, hb, _⟩
    have HW := Lib.hid (HW.out.trans (hb.mono HW.out.size))
    have HR := Lib.hid (HR.out.next hb)
    have HT := Lib.hid (HT.out.next hb)
    have HS : Hid (WZ4.heap[w.heap.size]? = some (.cells #[.string ⟨rc.method.toArray⟩, .string ⟨rc.target.toArray⟩, .slice A3 rc.heads.length x3, .slice B3 rc.body.length y3] 26 (0, 0)) ∧ WZ4.heap[w.heap.size + 1]? = some (.cells #[.string ⟨sc.method.toArray⟩, .string ⟨sc.target.toArray⟩, .slice A4 sc.heads.length x4, .slice B4 sc.body.length y4] 26 (0, 0)) ∧ WZ4.heap[W7.heap.size + 1]? = some (.cells #[.int .i64 u, .slice A3 rc.heads.length x3, .slice B3 rc.body.length y3] 36 (0, 0)) ∧ WZ4.heap[W7.heap.size]? = some (.cells #[.int .i64 v, .slice A4 sc.heads.length x4, .slice B4 sc.body.length y4] 36 (0, 0))) := Lib.hid ⟨blk_next hb HS.out.1, blk_next hb HS.out.2.1, blk_next hb HS.out.2.2.1, blk_next hb HS.out.2.2.2⟩
    refine hKK _ _ (fun _ => HS.out) ?_
    clear hKK KK hb
    simp only [List.setIfInBounds_toArray, List.set_cons_zero, List.set_cons_succ] at hsh ⊢
    rw [hcr] at hr ⊢
    clear hn hm
    refine wpTill_ready (rs := [20]) (by kernel_rfl) (by simp) ?_
    have hsh := hsh.put (i := 20) (by kernel_rfl)
    refine (AllTill.cons rfl (fun KK hKK => ?_) AllTill.nil)
    rw [if_pos (by rfl)]
    go_simp
    refine (sameReq_any rc rc A3 x3 B3 y3 A5 x5 B5 y5 WZ4 HR.out hr (q := true) (by simp)).mono ?_
    rintro e WZ5 ⟨rfl, hb⟩
    have HW := Lib.hid (HW.out.trans (hb.mono HW.out.size))
    have HR := Lib.hid (HR.out.next hb)
    have HT := Lib.hid (HT.out.next hb)
    have HS : Hid (WZ5.heap[w.heap.size]? = some (.cells #[.string ⟨rc.method.toArray⟩, .string ⟨rc.target.toArray⟩, .slice A3 rc.heads.length x3, .slice B3 rc.body.length y3] 26 (0, 0)) ∧ WZ5.heap[w.heap.size + 1]? = some (.cells #[.string ⟨sc.method.toArray⟩, .string ⟨sc.target.toArray⟩, .slice A4 sc.heads.length x4, .slice B4 sc.body.length y4] 26 (0, 0)) ∧ WZ5.heap[W7.heap.size + 1]? = some (.cells #[.int .i64 u, .slice A3 rc.heads.length x3, .slice B3 rc.body.length y3] 36 (0, 0)) ∧ WZ5.heap[W7.heap.size]? = some (.cells #[.int .i64 v, .slice A4 sc.heads.length x4, .slice B4 sc.body.length y4] 36 (0, 0))) := Lib.hid ⟨blk_next hb HS.out.1, blk_next hb HS.out.2.1, blk_next hb HS.out.2.2.1, blk_next hb HS.out.2.2.2⟩
    refine hKK _ _ (fun _ => HS.out) ?_
    clear hKK KK hb
    simp only [List.setIfInBounds_toArray, List.set_cons_zero, List.set_cons_succ] at hsh ⊢
    refine wpTill_ready (rs := [21]) (by kernel_rfl) (by simp) ?_
    have hsh := hsh.put (i := 21) (by kernel_rfl)
    refine (AllTill.cons rfl (fun KK hKK => ?_) AllTill.nil)
    rw [if_pos (by rfl)]
    go_simp
    (try simp only [beq_self_eq_true])
    refine hKK _ _ (fun _ => HS.out) ?_
    clear hKK KK
    simp only [List.setIfInBounds_toArray, List.set_cons_zero, List.set_cons_succ] at hsh ⊢
    refine wpTill_ready (rs := [22]) (by kernel_rfl) (by simp) ?_
    have hsh := hsh.put (i := 22) (by kernel_rfl)
    refine (AllTill.cons rfl (fun KK hKK => ?_) AllTill.nil)
    rw [if_pos (by rfl)]
    go_simp
    (try simp only [beq_self_eq_true])
    refine hKK _ _ (fun _ => HS.out) ?_
    clear hKK KK
    simp only [List.setIfInBounds_toArray, List.set_cons_zero, List.set_cons_succ] at hsh ⊢
    refine wpTill_take (i := 23) (v := .agg #[.int .i64 u, .slice A3 rc.heads.length x3, .slice B3 rc.body.length y3]) rfl (by kernel_rfl) (by kernel_rfl) (by kernel_rfl) hsh (fun l h h9 => by cases h9) (fun l => rfl) (fun _ _ _ h => h) (Or.inl ⟨by rfl, ?yc23⟩) HS.out (fun hsh' => ?_)
    case yc23 => (intro w hS; obtain ⟨⟨s1, s2, s3, s4⟩, ⟨s5, s6, s7, s8⟩, ⟨s9, s10, s11⟩, s12, s13, s14⟩ := And.intro (blk4 hS.1) (And.intro (blk4 hS.2.1) (And.intro (blk3 hS.2.2.1) (blk3 hS.2.2.2))); go_simp; (try with_reducible rfl))
    have hsh := hsh'
    clear hsh'
    simp only [Act.put, List.getElem_toArray, List.getElem_cons_zero, List.getElem_cons_succ, List.setIfInBounds_toArray, List.set_cons_zero, List.set_cons_succ] at hsh ⊢
    refine wpTill_take (i := 24) (v := .agg #[.int .i64 u, .slice A3 rc.heads.length x3, .slice B3 rc.body.length y3]) rfl (by kernel_rfl) (by kernel_rfl) (by kernel_rfl) hsh (fun l h h9 => by cases h9) (fun l => rfl) (fun _ _ _ h => h) (Or.inl ⟨by rfl, ?yc24⟩) HS.out (fun hsh' => ?_)
    case yc24 => (intro w hS; obtain ⟨⟨s1, s2, s3, s4⟩, ⟨s5, s6, s7, s8⟩, ⟨s9, s10, s11⟩, s12, s13, s14⟩ := And.intro (blk4 hS.1) (And.intro (blk4 hS.2.1) (And.intro (blk3 hS.2.2.1) (blk3 hS.2.2.2))); go_simp; (try with_reducible rfl))
    have hsh := hsh'
    clear hsh'
    simp only [Act.put, List.getElem_toArray, List.getElem_cons_zero, List.getElem_cons_succ, List.setIfInBounds_toArray, List.set_cons_zero, List.set_cons_succ] at hsh ⊢
    refine wpTill_ready (rs := [25]) (by kernel_rfl) (by simp) ?_
    have hsh := hsh.put (i := 25) (by kernel_rfl)
    refine (AllTill.cons rfl (fun KK hKK => ?_) AllTill.nil)
    rw [if_pos (by rfl)]
    go_simp
    refine (response_full ⟨u, rc.heads, rc.body⟩ A3 x3 B3 y3 WZ5 (RspAt.of_req HR.out hu1 hu2).in_ hc3).mono ?_
    rintro e WZ6 ⟨A6, x6, B6, y6, rfl, hr, hn, hm, hb, _⟩
    have HW := Lib.hid (HW.out.trans (hb.mono HW.out.size))
    have HR := Lib.hid (HR.out.next hb)
    have HT := Lib.hid (HT.out.next hb)
    have HS : Hid (WZ6.heap[w.heap.size]? = some (.cells #[.string ⟨rc.method.toArray⟩, .string ⟨rc.target.toArray⟩, .slice A3 rc.heads.length x3, .slice B3 rc.body.length y3] 26 (0, 0)) ∧ WZ6.heap[w.heap.size + 1]? = some (.cells #[.string ⟨sc.method.toArray⟩, .string ⟨sc.target.toArray⟩, .slice A4 sc.heads.length x4, .slice B4 sc.body.length y4] 26 (0, 0)) ∧ WZ6.heap[W7.heap.size + 1]? = some (.cells #[.int .i64 u, .slice A3 rc.heads.length x3, .slice B3 rc.body.length y3] 36 (0, 0)) ∧ WZ6.heap[W7.heap.size]? = some (.cells #[.int .i64 v, .slice A4 sc.heads.length x4, .slice B4 sc.body.length y4] 36 (0, 0))) := Lib.hid ⟨blk_next hb HS.out.1, blk_next hb HS.out.2.1, blk_next hb HS.out.2.2.1, blk_next hb HS.out.2.2.2⟩
    refine hKK _ _ (fun _ => HS.out) ?_
    clear hKK KK hb
    simp only [List.setIfInBounds_toArray, List.set_cons_zero, List.set_cons_succ] at hsh ⊢
    rw [hcp] at hr ⊢
    clear hn hm
    refine wpTill_ready (rs := [26]) (by kernel_rfl) (by simp) ?_
    have hsh := hsh.put (i := 26) (by kernel_rfl)
    refine (AllTill.cons rfl (fun KK hKK => ?_) AllTill.nil)
    rw [if_pos (by rfl)]
    go_simp
    refine (sameRsp_any ⟨u, rc.heads, rc.body⟩ ⟨u, rc.heads, rc.body⟩ A3 x3 B3 y3 A6 x6 B6 y6 WZ6 (RspAt.of_req HR.out hu1 hu2) hr (q := true) (by simp)).mono ?_
    rintro e WZ7 ⟨rfl, hb⟩
    have HW := Lib.hid (HW.out.trans (hb.mono HW.out.size))
    have HR := Lib.hid (HR.out.next hb)
    have HT := Lib.hid (HT.out.next hb)
    have HS : Hid (WZ7.heap[w.heap.size]? = some (.cells #[.string ⟨rc.method.toArray⟩, .string ⟨rc.target.toArray⟩, .slice A3 rc.heads.length x3, .slice B3 rc.body.length y3] 26 (0, 0)) ∧ WZ7.heap[w.heap.size + 1]? = some (.cells #[.string ⟨sc.method.toArray⟩, .string ⟨sc.target.toArray⟩, .slice A4 sc.heads.length x4, .slice B4 sc.body.length y4] 26 (0, 0)) ∧ WZ7.heap[W7.heap.size + 1]? = some (.cells #[.int .i64 u, .slice A3 rc.heads.length x3, .slice B3 rc.body.length y3] 36 (0, 0)) ∧ WZ7.heap[W7.heap.size]? = some (.cells #[.int .i64 v, .slice A4 sc.heads.length x4, .slice B4 sc.body.length y4] 36 (0, 0))) := Lib.hid ⟨blk_next hb HS.out.1, blk_next hb HS.out.2.1, blk_next hb HS.out.2.2.1, blk_next hb HS.out.2.2.2⟩
    refine hKK _ _ (fun _ => HS.out) ?_
    clear hKK KK hb
    simp only [List.setIfInBounds_toArray, List.set_cons_zero, List.set_cons_succ] at hsh ⊢
    refine wpTill_ready (rs := [27]) (by kernel_rfl) (by simp) ?_
    have hsh := hsh.put (i := 27) (by kernel_rfl)
    refine (AllTill.cons rfl (fun KK hKK => ?_) AllTill.nil)
    rw [if_pos (by rfl)]
    go_simp
    (try simp only [beq_self_eq_true])
    refine hKK _ _ (fun _ => HS.out) ?_
    clear hKK KK
    simp only [List.setIfInBounds_toArray, List.set_cons_zero, List.set_cons_succ] at hsh ⊢
    refine wpTill_ready (rs := [28]) (by kernel_rfl) (by simp) ?_
    have hsh := hsh.put (i := 28) (by kernel_rfl)
    refine (AllTill.cons rfl (fun KK hKK => ?_) AllTill.nil)
    rw [if_pos (by rfl)]
    go_simp
    (try simp only [beq_self_eq_true])
    refine hKK _ _ (fun _ => HS.out) ?_
    clear hKK KK
    simp only [List.setIfInBounds_toArray, List.set_cons_zero, List.set_cons_succ] at hsh ⊢
    refine wpTill_done (by kernel_rfl) ?_ _
    (try simp only [noPanic])
    simp only [Exit.then]
    go_wp2_with fail
    go_ret
    exact ⟨rfl, HW.out⟩
end Go.Proofs.YtoadahommlcjpaaGreatDoor
