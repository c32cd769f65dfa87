/-
  THE WALKS, third part: same of package script. CONDITION: the rows of both events lie as EvAt says.
-/
import Derived.Test.YthpojljfmipngaaGreatDoorWalkB
import Derived.Deep.RegionHeld3
namespace Go.Proofs.YthpojljfmipngaaGreatDoor
open Go.RowKit
set_option maxHeartbeats 1000000 in
theorem five_raw (a b c d f : Int) (K B : Value) (w : World) :
    Calls Tryz.prog 64 #[.agg #[.int .i64 a, .int .i64 b, .int .i64 c, .int .i64 d, .int .i64 f, K, B]] w fun e w' => e = .returned (.agg #[.int .i64 a, .int .i64 b, .int .i64 c, .int .i64 d, .int .i64 f]) ∧ Below w.heap.size w w' := by
  go_enter Tryz.func64, Tryz.ntmps64
  go_wp2_with fail
  exact bodyPost_ret (v := .agg #[.int .i64 a, .int .i64 b, .int .i64 c, .int .i64 d, .int .i64 f]) (by simp [results, Tryz.results64, go_sem]) rfl ⟨rfl, (below_box _ _).alloc (by simp) _⟩
/-- The seven cells of an event in a block of its own. -/
def EvBox (w : World) (b : Nat) (x : Sc.Ev) (K B : Option Addr) (kc bc : Nat) : Prop :=
  w.heap[b]? = some (.cells #[.int .i64 x.kind, .int .i64 x.node, .int .i64 x.to, .int .i64 x.n, .int .i64 x.bit, .slice K x.keep.length kc, .slice B x.bytes.length bc] 39 (0, 0))
theorem EvBox.cells {w : World} {b : Nat} {x : Sc.Ev} {K B : Option Addr} {kc bc : Nat} (h : EvBox w b x K B kc bc) :
    w.cell? ⟨b, 0, none⟩ = some (.int .i64 x.kind) ∧ w.cell? ⟨b, 1, none⟩ = some (.int .i64 x.node) ∧ w.cell? ⟨b, 2, none⟩ = some (.int .i64 x.to) ∧ w.cell? ⟨b, 3, none⟩ = some (.int .i64 x.n) ∧ w.cell? ⟨b, 4, none⟩ = some (.int .i64 x.bit) ∧ w.cell? ⟨b, 5, none⟩ = some (.slice K x.keep.length kc) ∧ w.cell? ⟨b, 6, none⟩ = some (.slice B x.bytes.length bc) := by
  unfold EvBox at h
  exact ⟨(blk_cells h 0).trans rfl, (blk_cells h 1).trans rfl, (blk_cells h 2).trans rfl, (blk_cells h 3).trans rfl, (blk_cells h 4).trans rfl, (blk_cells h 5).trans rfl, (blk_cells h 6).trans rfl⟩
theorem EvBox.next {w w' : World} {b : Nat} {x : Sc.Ev} {K B : Option Addr} {kc bc : Nat} (h : EvBox w b x K B kc bc) (hb : Below w.heap.size w w') : EvBox w' b x K B kc bc := blk_next hb h
/-- Both boxes stand; nothing below has turned. -/
structure Kept2 (w2 w' : World) (b1 b2 : Nat) (x y : Sc.Ev) (K B K' B' : Option Addr) (kc bc kc' bc' : Nat) : Prop where
  one : EvBox w' b1 x K B kc bc
  two : EvBox w' b2 y K' B' kc' bc'
  below : Below w2.heap.size w2 w'
theorem Kept2.next {w2 w' w'' : World} {b1 b2 : Nat} {x y : Sc.Ev} {K B K' B' : Option Addr} {kc bc kc' bc' : Nat} (h : Kept2 w2 w' b1 b2 x y K B K' B' kc bc kc' bc') (hb : Below w'.heap.size w' w'') : Kept2 w2 w'' b1 b2 x y K B K' B' kc bc kc' bc' :=
  ⟨h.one.next hb, h.two.next hb, h.below.trans (hb.mono h.below.size)⟩
theorem Kept2.all {w2 w' : World} {b1 b2 : Nat} {x y : Sc.Ev} {K B K' B' : Option Addr} {kc bc kc' bc' : Nat} (h : Kept2 w2 w' b1 b2 x y K B K' B' kc bc kc' bc') :
    (w'.cell? ⟨b1, 0, none⟩ = some (.int .i64 x.kind) ∧ w'.cell? ⟨b1, 1, none⟩ = some (.int .i64 x.node) ∧ w'.cell? ⟨b1, 2, none⟩ = some (.int .i64 x.to) ∧ w'.cell? ⟨b1, 3, none⟩ = some (.int .i64 x.n) ∧ w'.cell? ⟨b1, 4, none⟩ = some (.int .i64 x.bit) ∧ w'.cell? ⟨b1, 5, none⟩ = some (.slice K x.keep.length kc) ∧ w'.cell? ⟨b1, 6, none⟩ = some (.slice B x.bytes.length bc)) ∧ (w'.cell? ⟨b2, 0, none⟩ = some (.int .i64 y.kind) ∧ w'.cell? ⟨b2, 1, none⟩ = some (.int .i64 y.node) ∧ w'.cell? ⟨b2, 2, none⟩ = some (.int .i64 y.to) ∧ w'.cell? ⟨b2, 3, none⟩ = some (.int .i64 y.n) ∧ w'.cell? ⟨b2, 4, none⟩ = some (.int .i64 y.bit) ∧ w'.cell? ⟨b2, 5, none⟩ = some (.slice K' y.keep.length kc') ∧ w'.cell? ⟨b2, 6, none⟩ = some (.slice B' y.bytes.length bc')) ∧ Kept2 w2 w' b1 b2 x y K B K' B' kc bc kc' bc' :=
  ⟨h.one.cells, h.two.cells, h⟩
theorem Kept2.bools {w2 W : World} {b1 b2 : Nat} {x y : Sc.Ev} {K B K' B' : Option Addr} {kc bc kc' bc' : Nat} (h : Kept2 w2 W b1 b2 x y K B K' B' kc bc kc' bc') (hx : EvAt w2 x K B) (hy : EvAt w2 y K' B') :
    Calls Tryz.prog 65 #[.slice K x.keep.length kc, .slice K' y.keep.length kc'] W fun e w' => e = .returned (.bool (decide (x.keep = y.keep))) ∧ Below W.heap.size W w' :=
  (equalBools_any x.keep y.keep K K' kc kc' W hx.kl (hx.next h.below).keep (hy.next h.below).keep).mono fun _ _ ⟨h1, n, h2⟩ => ⟨h1, by rw [h2]; exact below_drewN (Below.refl _ _) n⟩
theorem Kept2.bytes_ {w2 W : World} {b1 b2 : Nat} {x y : Sc.Ev} {K B K' B' : Option Addr} {kc bc kc' bc' : Nat} (h : Kept2 w2 W b1 b2 x y K B K' B' kc bc kc' bc') (hx : EvAt w2 x K B) (hy : EvAt w2 y K' B') :
    Calls Tryz.prog 66 #[.slice B x.bytes.length bc, .slice B' y.bytes.length bc'] W fun e w' => e = .returned (.bool (decide (x.bytes = y.bytes))) ∧ Below W.heap.size W w' :=
  (bytesEqual_any x.bytes y.bytes B B' bc bc' W (hx.next h.below).bytes (hy.next h.below).bytes).mono fun _ _ ⟨h1, h2⟩ => ⟨h1, by rw [← h2]; exact Below.refl _ _⟩
set_option maxRecDepth 100000 in
set_option maxHeartbeats 8000000 in
theorem same_any (x y : Sc.Ev) (K B K' B' : Option Addr) (kc bc kc' bc' : Nat) (w : World) (hx : EvAt w x K B) (hy : EvAt w y K' B') :
    Calls Tryz.prog 45 #[evV x K B kc bc, evV y K' B' kc' bc'] w fun e w' => e = .returned (.bool (sameEv x y)) ∧ Below w.heap.size w w' := by
  have h5 : ∀ W : World, (Op.equalIn 10000 106 (.agg #[.int .i64 x.kind, .int .i64 x.node, .int .i64 x.to, .int .i64 x.n, .int .i64 x.bit]) (.agg #[.int .i64 y.kind, .int .i64 y.node, .int .i64 y.to, .int .i64 y.n, .int .i64 y.bit])).run Tryz.prog W = .ok (decide (five x = five y)) W := fun W => eq93 _ _ _ _ _ _ _ _ _ _ W
  have hK1 := EvBox.next (w := w.alloc (.cells #[.int .i64 x.kind, .int .i64 x.node, .int .i64 x.to, .int .i64 x.n, .int .i64 x.bit, .slice K x.keep.length kc, .slice B x.bytes.length bc] 39)) (b := w.heap.size) (x := x) (K := K) (B := B) (kc := kc) (bc := bc) (heap_alloc_new w _) (below_box _ (.cells #[.int .i64 y.kind, .int .i64 y.node, .int .i64 y.to, .int .i64 y.n, .int .i64 y.bit, .slice K' y.keep.length kc', .slice B' y.bytes.length bc'] 39))
  have hK2 : EvBox ((w.alloc (.cells #[.int .i64 x.kind, .int .i64 x.node, .int .i64 x.to, .int .i64 x.n, .int .i64 x.bit, .slice K x.keep.length kc, .slice B x.bytes.length bc] 39)).alloc (.cells #[.int .i64 y.kind, .int .i64 y.node, .int .i64 y.to, .int .i64 y.n, .int .i64 y.bit, .slice K' y.keep.length kc', .slice B' y.bytes.length bc'] 39)) (w.heap.size + 1) y K' B' kc' bc' := by
    have := heap_alloc_new (w.alloc (.cells #[.int .i64 x.kind, .int .i64 x.node, .int .i64 x.to, .int .i64 x.n, .int .i64 x.bit, .slice K x.keep.length kc, .slice B x.bytes.length bc] 39)) (.cells #[.int .i64 y.kind, .int .i64 y.node, .int .i64 y.to, .int .i64 y.n, .int .i64 y.bit, .slice K' y.keep.length kc', .slice B' y.bytes.length bc'] 39)
    simpa [EvBox] using this
  have hbw2 : Below w.heap.size w ((w.alloc (.cells #[.int .i64 x.kind, .int .i64 x.node, .int .i64 x.to, .int .i64 x.n, .int .i64 x.bit, .slice K x.keep.length kc, .slice B x.bytes.length bc] 39)).alloc (.cells #[.int .i64 y.kind, .int .i64 y.node, .int .i64 y.to, .int .i64 y.n, .int .i64 y.bit, .slice K' y.keep.length kc', .slice B' y.bytes.length bc'] 39)) := (below_box w _).alloc (by simp) _
  have hx2 := hx.next hbw2
  have hy2 := hy.next hbw2
  cases hf : decide (five x = five y) with
  | false =>
    have HS := Lib.hid (show sameEv x y = false by unfold sameEv; rw [hf]; rfl)
    rw [hf] at h5
    clear hf
    unfold evV
    go_enter Tryz.func45, Tryz.ntmps45
    go_wp2_with fail
    generalize (w.alloc (.cells #[.int .i64 x.kind, .int .i64 x.node, .int .i64 x.to, .int .i64 x.n, .int .i64 x.bit, .slice K x.keep.length kc, .slice B x.bytes.length bc] 39)).alloc (.cells #[.int .i64 y.kind, .int .i64 y.node, .int .i64 y.to, .int .i64 y.n, .int .i64 y.bit, .slice K' y.keep.length kc', .slice B' y.bytes.length bc'] 39) = w2 at hK1 hK2 hbw2 hx2 hy2 ⊢
    generalize hb2 : w.heap.size + 1 = b2 at hK2 ⊢
    generalize hb1 : w.heap.size = b1 at hK1 ⊢
    have S0 := Lib.hid (Kept2.mk (w2 := w2) (w' := w2.drew) (hK1.next (below_drewN (Below.refl _ _) 1)) (hK2.next (below_drewN (Below.refl _ _) 1)) (below_drewN (Below.refl _ _) 1)).all
    have SN := Lib.hid (fun (X Y : World) (h : (fun w' => (w'.cell? ⟨b1, 0, none⟩ = some (.int .i64 x.kind) ∧ w'.cell? ⟨b1, 1, none⟩ = some (.int .i64 x.node) ∧ w'.cell? ⟨b1, 2, none⟩ = some (.int .i64 x.to) ∧ w'.cell? ⟨b1, 3, none⟩ = some (.int .i64 x.n) ∧ w'.cell? ⟨b1, 4, none⟩ = some (.int .i64 x.bit) ∧ w'.cell? ⟨b1, 5, none⟩ = some (.slice K x.keep.length kc) ∧ w'.cell? ⟨b1, 6, none⟩ = some (.slice B x.bytes.length bc)) ∧ (w'.cell? ⟨b2, 0, none⟩ = some (.int .i64 y.kind) ∧ w'.cell? ⟨b2, 1, none⟩ = some (.int .i64 y.node) ∧ w'.cell? ⟨b2, 2, none⟩ = some (.int .i64 y.to) ∧ w'.cell? ⟨b2, 3, none⟩ = some (.int .i64 y.n) ∧ w'.cell? ⟨b2, 4, none⟩ = some (.int .i64 y.bit) ∧ w'.cell? ⟨b2, 5, none⟩ = some (.slice K' y.keep.length kc') ∧ w'.cell? ⟨b2, 6, none⟩ = some (.slice B' y.bytes.length bc')) ∧ Kept2 w2 w' b1 b2 x y K B K' B' kc bc kc' bc') X) (hb : Below X.heap.size X Y) => (h.2.2.next hb).all)
    have HB2 := Lib.hid hbw2
    clear hK1 hK2 hbw2 hx2 hy2 hx hy
    refine wp_region_held (S := fun w' => (w'.cell? ⟨b1, 0, none⟩ = some (.int .i64 x.kind) ∧ w'.cell? ⟨b1, 1, none⟩ = some (.int .i64 x.node) ∧ w'.cell? ⟨b1, 2, none⟩ = some (.int .i64 x.to) ∧ w'.cell? ⟨b1, 3, none⟩ = some (.int .i64 x.n) ∧ w'.cell? ⟨b1, 4, none⟩ = some (.int .i64 x.bit) ∧ w'.cell? ⟨b1, 5, none⟩ = some (.slice K x.keep.length kc) ∧ w'.cell? ⟨b1, 6, none⟩ = some (.slice B x.bytes.length bc)) ∧ (w'.cell? ⟨b2, 0, none⟩ = some (.int .i64 y.kind) ∧ w'.cell? ⟨b2, 1, none⟩ = some (.int .i64 y.node) ∧ w'.cell? ⟨b2, 2, none⟩ = some (.int .i64 y.to) ∧ w'.cell? ⟨b2, 3, none⟩ = some (.int .i64 y.n) ∧ w'.cell? ⟨b2, 4, none⟩ = some (.int .i64 y.bit) ∧ w'.cell? ⟨b2, 5, none⟩ = some (.slice K' y.keep.length kc') ∧ w'.cell? ⟨b2, 6, none⟩ = some (.slice B' y.bytes.length bc')) ∧ Kept2 w2 w' b1 b2 x y K B K' B' kc bc kc' bc') (by kernel_rfl) ?_
    have hS0 := S0.out
    refine wpAnyH_take (i := 0) (v := ?v100) rfl (by kernel_rfl) (by kernel_rfl) (by kernel_rfl) (fun _ _ _ h => h) (Or.inl ⟨by rfl, ?y100⟩) (by assumption) ?r100
    case y100 => (intro w hSw; (try dsimp only at hSw); go_simp; (try with_reducible rfl))
    simp only [Act.put, List.getElem_toArray, List.getElem_cons_zero, List.setIfInBounds_toArray, List.set_cons_zero, List.set_cons_succ]
    refine wpAnyH_take (i := 1) (v := ?v101) rfl (by kernel_rfl) (by kernel_rfl) (by kernel_rfl) (fun _ _ _ h => h) (Or.inl ⟨by rfl, ?y101⟩) (by assumption) ?r101
    case y101 => (intro w hSw; (try dsimp only at hSw); go_simp; (try with_reducible rfl))
    simp only [Act.put, List.getElem_toArray, List.getElem_cons_zero, List.getElem_cons_succ, List.setIfInBounds_toArray, List.set_cons_zero, List.set_cons_succ]
    refine wpAnyH_take (i := 3) (v := ?v103) rfl (by kernel_rfl) (by kernel_rfl) (by kernel_rfl) (fun _ _ _ h => h) (Or.inl ⟨by rfl, ?y103⟩) (by assumption) ?r103
    case y103 => (intro w hSw; (try dsimp only at hSw); go_simp; (try with_reducible rfl))
    simp only [Act.put, List.getElem_toArray, List.getElem_cons_zero, List.getElem_cons_succ, List.setIfInBounds_toArray, List.set_cons_zero, List.set_cons_succ]
    refine wpAnyH_take (i := 4) (v := ?v104) rfl (by kernel_rfl) (by kernel_rfl) (by kernel_rfl) (fun _ _ _ h => h) (Or.inl ⟨by rfl, ?y104⟩) (by assumption) ?r104
    case y104 => (intro w hSw; (try dsimp only at hSw); go_simp; (try with_reducible rfl))
    simp only [Act.put, List.getElem_toArray, List.getElem_cons_zero, List.getElem_cons_succ, List.setIfInBounds_toArray, List.set_cons_zero, List.set_cons_succ]
    refine wpAnyH_ready (rs := [2]) (by kernel_rfl) (by simp) ?_
    refine AllReadyH.cons rfl (fun K hK => ?_) AllReadyH.nil
    rw [if_pos (by rfl)]
    go_simp
    refine (five_raw _ _ _ _ _ _ _ _).mono ?_
    rintro e w' ⟨rfl, hbw⟩
    refine hK.out _ _ ?_ (fun hS => ?_)
    · exact SN.out _ _ (by assumption) hbw
    clear hK
    refine wpAnyH_ready (rs := [5]) (by kernel_rfl) (by simp) ?_
    refine AllReadyH.cons rfl (fun K hK => ?_) AllReadyH.nil
    rw [if_pos (by rfl)]
    go_simp
    refine (five_raw _ _ _ _ _ _ _ _).mono ?_
    rintro e w' ⟨rfl, hbw⟩
    refine hK.out _ _ ?_ (fun hS => ?_)
    · exact SN.out _ _ (by assumption) hbw
    clear hK
    refine wpAnyH_take (i := 6) (v := ?v106) rfl (by kernel_rfl) (by kernel_rfl) (by kernel_rfl) (fun _ _ _ h => h) (Or.inl ⟨by rfl, ?y106⟩) (by assumption) ?r106
    case y106 => (intro w hSw; (try dsimp only at hSw); go_simp; (try with_reducible rfl))
    simp only [Act.put, List.getElem_toArray, List.getElem_cons_zero, List.getElem_cons_succ, List.setIfInBounds_toArray, List.set_cons_zero, List.set_cons_succ]
    refine wpAnyH_take (i := 7) (v := ?v107) rfl (by kernel_rfl) (by kernel_rfl) (by kernel_rfl) (fun _ _ _ h => h) (Or.inl ⟨by rfl, ?y107⟩) (by assumption) ?r107
    case y107 => (intro w hSw; (try dsimp only at hSw); go_simp; (try with_reducible rfl))
    simp only [Act.put, List.getElem_toArray, List.getElem_cons_zero, List.getElem_cons_succ, List.setIfInBounds_toArray, List.set_cons_zero, List.set_cons_succ]
    refine wpAnyH_take (i := 8) (v := undef) rfl (by kernel_rfl) (by kernel_rfl) (by kernel_rfl) (fun _ _ _ h => h) (Or.inr ⟨by rfl, rfl⟩) (by assumption) ?_
    simp only [Act.put, List.getElem_toArray, List.getElem_cons_zero, List.getElem_cons_succ, List.setIfInBounds_toArray, List.set_cons_zero, List.set_cons_succ]
    refine wpAnyH_take (i := 9) (v := undef) rfl (by kernel_rfl) (by kernel_rfl) (by kernel_rfl) (fun _ _ _ h => h) (Or.inr ⟨by rfl, rfl⟩) (by assumption) ?_
    simp only [Act.put, List.getElem_toArray, List.getElem_cons_zero, List.getElem_cons_succ, List.setIfInBounds_toArray, List.set_cons_zero, List.set_cons_succ]
    refine wpAnyH_take (i := 10) (v := undef) rfl (by kernel_rfl) (by kernel_rfl) (by kernel_rfl) (fun _ _ _ h => h) (Or.inr ⟨by rfl, rfl⟩) (by assumption) ?_
    simp only [Act.put, List.getElem_toArray, List.getElem_cons_zero, List.getElem_cons_succ, List.setIfInBounds_toArray, List.set_cons_zero, List.set_cons_succ]
    refine wpAnyH_take (i := 11) (v := undef) rfl (by kernel_rfl) (by kernel_rfl) (by kernel_rfl) (fun _ _ _ h => h) (Or.inr ⟨by rfl, rfl⟩) (by assumption) ?_
    simp only [Act.put, List.getElem_toArray, List.getElem_cons_zero, List.getElem_cons_succ, List.setIfInBounds_toArray, List.set_cons_zero, List.set_cons_succ]
    refine wpAnyH_take (i := 12) (v := undef) rfl (by kernel_rfl) (by kernel_rfl) (by kernel_rfl) (fun _ _ _ h => h) (Or.inr ⟨by rfl, rfl⟩) (by assumption) ?_
    simp only [Act.put, List.getElem_toArray, List.getElem_cons_zero, List.getElem_cons_succ, List.setIfInBounds_toArray, List.set_cons_zero, List.set_cons_succ]
    refine wpAnyH_take (i := 13) (v := ?v113) rfl (by kernel_rfl) (by kernel_rfl) (by kernel_rfl) (fun _ _ _ h => h) (Or.inl ⟨by rfl, ?y113⟩) (by assumption) ?r113
    case y113 => (intro w hSw; (try dsimp only at hSw); go_simp; (try with_reducible rfl))
    simp only [Act.put, List.getElem_toArray, List.getElem_cons_zero, List.getElem_cons_succ, List.setIfInBounds_toArray, List.set_cons_zero, List.set_cons_succ]
    refine wpAnyH_take (i := 14) (v := ?v114) rfl (by kernel_rfl) (by kernel_rfl) (by kernel_rfl) (fun _ _ _ h => h) (Or.inl ⟨by rfl, ?y114⟩) (by assumption) ?r114
    case y114 => (intro w hSw; (try dsimp only at hSw); go_simp; (try with_reducible rfl))
    simp only [Act.put, List.getElem_toArray, List.getElem_cons_zero, List.getElem_cons_succ, List.setIfInBounds_toArray, List.set_cons_zero, List.set_cons_succ]
    refine wpAnyH_take (i := 15) (v := undef) rfl (by kernel_rfl) (by kernel_rfl) (by kernel_rfl) (fun _ _ _ h => h) (Or.inr ⟨by rfl, rfl⟩) (by assumption) ?_
    simp only [Act.put, List.getElem_toArray, List.getElem_cons_zero, List.getElem_cons_succ, List.setIfInBounds_toArray, List.set_cons_zero, List.set_cons_succ]
    refine wpAnyH_take (i := 16) (v := undef) rfl (by kernel_rfl) (by kernel_rfl) (by kernel_rfl) (fun _ _ _ h => h) (Or.inr ⟨by rfl, rfl⟩) (by assumption) ?_
    simp only [Act.put, List.getElem_toArray, List.getElem_cons_zero, List.getElem_cons_succ, List.setIfInBounds_toArray, List.set_cons_zero, List.set_cons_succ]
    refine wpAnyH_take (i := 17) (v := undef) rfl (by kernel_rfl) (by kernel_rfl) (by kernel_rfl) (fun _ _ _ h => h) (Or.inr ⟨by rfl, rfl⟩) (by assumption) ?_
    simp only [Act.put, List.getElem_toArray, List.getElem_cons_zero, List.getElem_cons_succ, List.setIfInBounds_toArray, List.set_cons_zero, List.set_cons_succ]
    refine wpAnyH_take (i := 18) (v := undef) rfl (by kernel_rfl) (by kernel_rfl) (by kernel_rfl) (fun _ _ _ h => h) (Or.inr ⟨by rfl, rfl⟩) (by assumption) ?_
    simp only [Act.put, List.getElem_toArray, List.getElem_cons_zero, List.getElem_cons_succ, List.setIfInBounds_toArray, List.set_cons_zero, List.set_cons_succ]
    refine wpAnyH_take (i := 19) (v := undef) rfl (by kernel_rfl) (by kernel_rfl) (by kernel_rfl) (fun _ _ _ h => h) (Or.inr ⟨by rfl, rfl⟩) (by assumption) ?_
    simp only [Act.put, List.getElem_toArray, List.getElem_cons_zero, List.getElem_cons_succ, List.setIfInBounds_toArray, List.set_cons_zero, List.set_cons_succ]
    refine wpAnyH_take (i := 20) (v := ?v120) rfl (by kernel_rfl) (by kernel_rfl) (by kernel_rfl) (fun _ _ _ h => h) (Or.inl ⟨by rfl, ?y120⟩) (by assumption) ?r120
    case y120 => (intro w hSw; (try dsimp only at hSw); go_simp; (try with_reducible rfl))
    simp only [Act.put, List.getElem_toArray, List.getElem_cons_zero, List.getElem_cons_succ, List.setIfInBounds_toArray, List.set_cons_zero, List.set_cons_succ]
    refine wpAnyH_take (i := 21) (v := ?v121) rfl (by kernel_rfl) (by kernel_rfl) (by kernel_rfl) (fun _ _ _ h => h) (Or.inl ⟨by rfl, ?y121⟩) (by assumption) ?r121
    case y121 => (intro w hSw; (try dsimp only at hSw); go_simp; (try with_reducible rfl))
    simp only [Act.put, List.getElem_toArray, List.getElem_cons_zero, List.getElem_cons_succ, List.setIfInBounds_toArray, List.set_cons_zero, List.set_cons_succ]
    refine wpAnyH_done (by kernel_rfl) ?_ _
    have hfin := hS.2.2.below
    clear hS
    go_wp2_with fail
    go_ret
    exact ⟨ret_bool HS.out.symm, HB2.out.trans (hfin.mono HB2.out.size)⟩
  | true =>
    rw [hf] at h5
    cases hk : decide (x.keep = y.keep) with
    | false =>
      have HS := Lib.hid (show sameEv x y = false by unfold sameEv; rw [hf, hk]; rfl)
      have HK := Lib.hid hk
      clear hf hk
      unfold evV
      go_enter Tryz.func45, Tryz.ntmps45
      go_wp2_with fail
      generalize (w.alloc (.cells #[.int .i64 x.kind, .int .i64 x.node, .int .i64 x.to, .int .i64 x.n, .int .i64 x.bit, .slice K x.keep.length kc, .slice B x.bytes.length bc] 39)).alloc (.cells #[.int .i64 y.kind, .int .i64 y.node, .int .i64 y.to, .int .i64 y.n, .int .i64 y.bit, .slice K' y.keep.length kc', .slice B' y.bytes.length bc'] 39) = w2 at hK1 hK2 hbw2 hx2 hy2 ⊢
      generalize hb2 : w.heap.size + 1 = b2 at hK2 ⊢
      generalize hb1 : w.heap.size = b1 at hK1 ⊢
      have S0 := Lib.hid (Kept2.mk (w2 := w2) (w' := w2.drew) (hK1.next (below_drewN (Below.refl _ _) 1)) (hK2.next (below_drewN (Below.refl _ _) 1)) (below_drewN (Below.refl _ _) 1)).all
      have SN := Lib.hid (fun (X Y : World) (h : (fun w' => (w'.cell? ⟨b1, 0, none⟩ = some (.int .i64 x.kind) ∧ w'.cell? ⟨b1, 1, none⟩ = some (.int .i64 x.node) ∧ w'.cell? ⟨b1, 2, none⟩ = some (.int .i64 x.to) ∧ w'.cell? ⟨b1, 3, none⟩ = some (.int .i64 x.n) ∧ w'.cell? ⟨b1, 4, none⟩ = some (.int .i64 x.bit) ∧ w'.cell? ⟨b1, 5, none⟩ = some (.slice K x.keep.length kc) ∧ w'.cell? ⟨b1, 6, none⟩ = some (.slice B x.bytes.length bc)) ∧ (w'.cell? ⟨b2, 0, none⟩ = some (.int .i64 y.kind) ∧ w'.cell? ⟨b2, 1, none⟩ = some (.int .i64 y.node) ∧ w'.cell? ⟨b2, 2, none⟩ = some (.int .i64 y.to) ∧ w'.cell? ⟨b2, 3, none⟩ = some (.int .i64 y.n) ∧ w'.cell? ⟨b2, 4, none⟩ = some (.int .i64 y.bit) ∧ w'.cell? ⟨b2, 5, none⟩ = some (.slice K' y.keep.length kc') ∧ w'.cell? ⟨b2, 6, none⟩ = some (.slice B' y.bytes.length bc')) ∧ Kept2 w2 w' b1 b2 x y K B K' B' kc bc kc' bc') X) (hb : Below X.heap.size X Y) => (h.2.2.next hb).all)
      have KB := Lib.hid (fun (X : World) (h : (fun w' => (w'.cell? ⟨b1, 0, none⟩ = some (.int .i64 x.kind) ∧ w'.cell? ⟨b1, 1, none⟩ = some (.int .i64 x.node) ∧ w'.cell? ⟨b1, 2, none⟩ = some (.int .i64 x.to) ∧ w'.cell? ⟨b1, 3, none⟩ = some (.int .i64 x.n) ∧ w'.cell? ⟨b1, 4, none⟩ = some (.int .i64 x.bit) ∧ w'.cell? ⟨b1, 5, none⟩ = some (.slice K x.keep.length kc) ∧ w'.cell? ⟨b1, 6, none⟩ = some (.slice B x.bytes.length bc)) ∧ (w'.cell? ⟨b2, 0, none⟩ = some (.int .i64 y.kind) ∧ w'.cell? ⟨b2, 1, none⟩ = some (.int .i64 y.node) ∧ w'.cell? ⟨b2, 2, none⟩ = some (.int .i64 y.to) ∧ w'.cell? ⟨b2, 3, none⟩ = some (.int .i64 y.n) ∧ w'.cell? ⟨b2, 4, none⟩ = some (.int .i64 y.bit) ∧ w'.cell? ⟨b2, 5, none⟩ = some (.slice K' y.keep.length kc') ∧ w'.cell? ⟨b2, 6, none⟩ = some (.slice B' y.bytes.length bc')) ∧ Kept2 w2 w' b1 b2 x y K B K' B' kc bc kc' bc') X) => h.2.2.bools hx2 hy2)
      have HB2 := Lib.hid hbw2
      clear hK1 hK2 hbw2 hx2 hy2 hx hy
      refine wp_region_held (S := fun w' => (w'.cell? ⟨b1, 0, none⟩ = some (.int .i64 x.kind) ∧ w'.cell? ⟨b1, 1, none⟩ = some (.int .i64 x.node) ∧ w'.cell? ⟨b1, 2, none⟩ = some (.int .i64 x.to) ∧ w'.cell? ⟨b1, 3, none⟩ = some (.int .i64 x.n) ∧ w'.cell? ⟨b1, 4, none⟩ = some (.int .i64 x.bit) ∧ w'.cell? ⟨b1, 5, none⟩ = some (.slice K x.keep.length kc) ∧ w'.cell? ⟨b1, 6, none⟩ = some (.slice B x.bytes.length bc)) ∧ (w'.cell? ⟨b2, 0, none⟩ = some (.int .i64 y.kind) ∧ w'.cell? ⟨b2, 1, none⟩ = some (.int .i64 y.node) ∧ w'.cell? ⟨b2, 2, none⟩ = some (.int .i64 y.to) ∧ w'.cell? ⟨b2, 3, none⟩ = some (.int .i64 y.n) ∧ w'.cell? ⟨b2, 4, none⟩ = some (.int .i64 y.bit) ∧ w'.cell? ⟨b2, 5, none⟩ = some (.slice K' y.keep.length kc') ∧ w'.cell? ⟨b2, 6, none⟩ = some (.slice B' y.bytes.length bc')) ∧ Kept2 w2 w' b1 b2 x y K B K' B' kc bc kc' bc') (by kernel_rfl) ?_
      have hS0 := S0.out
      refine wpAnyH_take (i := 0) (v := ?v200) rfl (by kernel_rfl) (by kernel_rfl) (by kernel_rfl) (fun _ _ _ h => h) (Or.inl ⟨by rfl, ?y200⟩) (by assumption) ?r200
      case y200 => (intro w hSw; (try dsimp only at hSw); go_simp; (try with_reducible rfl))
      simp only [Act.put, List.getElem_toArray, List.getElem_cons_zero, List.setIfInBounds_toArray, List.set_cons_zero, List.set_cons_succ]
      refine wpAnyH_take (i := 1) (v := ?v201) rfl (by kernel_rfl) (by kernel_rfl) (by kernel_rfl) (fun _ _ _ h => h) (Or.inl ⟨by rfl, ?y201⟩) (by assumption) ?r201
      case y201 => (intro w hSw; (try dsimp only at hSw); go_simp; (try with_reducible rfl))
      simp only [Act.put, List.getElem_toArray, List.getElem_cons_zero, List.getElem_cons_succ, List.setIfInBounds_toArray, List.set_cons_zero, List.set_cons_succ]
      refine wpAnyH_take (i := 3) (v := ?v203) rfl (by kernel_rfl) (by kernel_rfl) (by kernel_rfl) (fun _ _ _ h => h) (Or.inl ⟨by rfl, ?y203⟩) (by assumption) ?r203
      case y203 => (intro w hSw; (try dsimp only at hSw); go_simp; (try with_reducible rfl))
      simp only [Act.put, List.getElem_toArray, List.getElem_cons_zero, List.getElem_cons_succ, List.setIfInBounds_toArray, List.set_cons_zero, List.set_cons_succ]
      refine wpAnyH_take (i := 4) (v := ?v204) rfl (by kernel_rfl) (by kernel_rfl) (by kernel_rfl) (fun _ _ _ h => h) (Or.inl ⟨by rfl, ?y204⟩) (by assumption) ?r204
      case y204 => (intro w hSw; (try dsimp only at hSw); go_simp; (try with_reducible rfl))
      simp only [Act.put, List.getElem_toArray, List.getElem_cons_zero, List.getElem_cons_succ, List.setIfInBounds_toArray, List.set_cons_zero, List.set_cons_succ]
      refine wpAnyH_ready (rs := [2]) (by kernel_rfl) (by simp) ?_
      refine AllReadyH.cons rfl (fun K hK => ?_) AllReadyH.nil
      rw [if_pos (by rfl)]
      go_simp
      refine (five_raw _ _ _ _ _ _ _ _).mono ?_
      rintro e w' ⟨rfl, hbw⟩
      refine hK.out _ _ ?_ (fun hS => ?_)
      · exact SN.out _ _ (by assumption) hbw
      clear hK
      refine wpAnyH_ready (rs := [5]) (by kernel_rfl) (by simp) ?_
      refine AllReadyH.cons rfl (fun K hK => ?_) AllReadyH.nil
      rw [if_pos (by rfl)]
      go_simp
      refine (five_raw _ _ _ _ _ _ _ _).mono ?_
      rintro e w' ⟨rfl, hbw⟩
      refine hK.out _ _ ?_ (fun hS => ?_)
      · exact SN.out _ _ (by assumption) hbw
      clear hK
      refine wpAnyH_take (i := 6) (v := ?v206) rfl (by kernel_rfl) (by kernel_rfl) (by kernel_rfl) (fun _ _ _ h => h) (Or.inl ⟨by rfl, ?y206⟩) (by assumption) ?r206
      case y206 => (intro w hSw; (try dsimp only at hSw); go_simp; (try with_reducible rfl))
      simp only [Act.put, List.getElem_toArray, List.getElem_cons_zero, List.getElem_cons_succ, List.setIfInBounds_toArray, List.set_cons_zero, List.set_cons_succ]
      refine wpAnyH_take (i := 7) (v := ?v207) rfl (by kernel_rfl) (by kernel_rfl) (by kernel_rfl) (fun _ _ _ h => h) (Or.inl ⟨by rfl, ?y207⟩) (by assumption) ?r207
      case y207 => (intro w hSw; (try dsimp only at hSw); go_simp; (try with_reducible rfl))
      simp only [Act.put, List.getElem_toArray, List.getElem_cons_zero, List.getElem_cons_succ, List.setIfInBounds_toArray, List.set_cons_zero, List.set_cons_succ]
      refine wpAnyH_take (i := 8) (v := ?v208) rfl (by kernel_rfl) (by kernel_rfl) (by kernel_rfl) (fun _ _ _ h => h) (Or.inl ⟨by rfl, ?y208⟩) (by assumption) ?r208
      case y208 => (intro w hSw; (try dsimp only at hSw); go_simp; (try with_reducible rfl))
      simp only [Act.put, List.getElem_toArray, List.getElem_cons_zero, List.getElem_cons_succ, List.setIfInBounds_toArray, List.set_cons_zero, List.set_cons_succ]
      refine wpAnyH_take (i := 9) (v := ?v209) rfl (by kernel_rfl) (by kernel_rfl) (by kernel_rfl) (fun _ _ _ h => h) (Or.inl ⟨by rfl, ?y209⟩) (by assumption) ?r209
      case y209 => (intro w hSw; (try dsimp only at hSw); go_simp; (try with_reducible rfl))
      simp only [Act.put, List.getElem_toArray, List.getElem_cons_zero, List.getElem_cons_succ, List.setIfInBounds_toArray, List.set_cons_zero, List.set_cons_succ]
      refine wpAnyH_take (i := 10) (v := ?v210) rfl (by kernel_rfl) (by kernel_rfl) (by kernel_rfl) (fun _ _ _ h => h) (Or.inl ⟨by rfl, ?y210⟩) (by assumption) ?r210
      case y210 => (intro w hSw; (try dsimp only at hSw); go_simp; (try with_reducible rfl))
      simp only [Act.put, List.getElem_toArray, List.getElem_cons_zero, List.getElem_cons_succ, List.setIfInBounds_toArray, List.set_cons_zero, List.set_cons_succ]
      refine wpAnyH_take (i := 11) (v := ?v211) rfl (by kernel_rfl) (by kernel_rfl) (by kernel_rfl) (fun _ _ _ h => h) (Or.inl ⟨by rfl, ?y211⟩) (by assumption) ?r211
      case y211 => (intro w hSw; (try dsimp only at hSw); go_simp; (try with_reducible rfl))
      simp only [Act.put, List.getElem_toArray, List.getElem_cons_zero, List.getElem_cons_succ, List.setIfInBounds_toArray, List.set_cons_zero, List.set_cons_succ]
      refine wpAnyH_ready (rs := [12]) (by kernel_rfl) (by simp) ?_
      refine AllReadyH.cons rfl (fun K hK => ?_) AllReadyH.nil
      rw [if_pos (by rfl)]
      go_simp
      refine (KB.out _ (by assumption)).mono ?_
      rintro e w' ⟨rfl, hbw⟩
      rw [HK.out]
      refine hK.out _ _ ?_ (fun hS => ?_)
      · exact SN.out _ _ (by assumption) hbw
      clear hK
      refine wpAnyH_take (i := 13) (v := ?v213) rfl (by kernel_rfl) (by kernel_rfl) (by kernel_rfl) (fun _ _ _ h => h) (Or.inl ⟨by rfl, ?y213⟩) (by assumption) ?r213
      case y213 => (intro w hSw; (try dsimp only at hSw); go_simp; (try with_reducible rfl))
      simp only [Act.put, List.getElem_toArray, List.getElem_cons_zero, List.getElem_cons_succ, List.setIfInBounds_toArray, List.set_cons_zero, List.set_cons_succ]
      refine wpAnyH_take (i := 14) (v := ?v214) rfl (by kernel_rfl) (by kernel_rfl) (by kernel_rfl) (fun _ _ _ h => h) (Or.inl ⟨by rfl, ?y214⟩) (by assumption) ?r214
      case y214 => (intro w hSw; (try dsimp only at hSw); go_simp; (try with_reducible rfl))
      simp only [Act.put, List.getElem_toArray, List.getElem_cons_zero, List.getElem_cons_succ, List.setIfInBounds_toArray, List.set_cons_zero, List.set_cons_succ]
      refine wpAnyH_take (i := 15) (v := undef) rfl (by kernel_rfl) (by kernel_rfl) (by kernel_rfl) (fun _ _ _ h => h) (Or.inr ⟨by rfl, rfl⟩) (by assumption) ?_
      simp only [Act.put, List.getElem_toArray, List.getElem_cons_zero, List.getElem_cons_succ, List.setIfInBounds_toArray, List.set_cons_zero, List.set_cons_succ]
      refine wpAnyH_take (i := 16) (v := undef) rfl (by kernel_rfl) (by kernel_rfl) (by kernel_rfl) (fun _ _ _ h => h) (Or.inr ⟨by rfl, rfl⟩) (by assumption) ?_
      simp only [Act.put, List.getElem_toArray, List.getElem_cons_zero, List.getElem_cons_succ, List.setIfInBounds_toArray, List.set_cons_zero, List.set_cons_succ]
      refine wpAnyH_take (i := 17) (v := undef) rfl (by kernel_rfl) (by kernel_rfl) (by kernel_rfl) (fun _ _ _ h => h) (Or.inr ⟨by rfl, rfl⟩) (by assumption) ?_
      simp only [Act.put, List.getElem_toArray, List.getElem_cons_zero, List.getElem_cons_succ, List.setIfInBounds_toArray, List.set_cons_zero, List.set_cons_succ]
      refine wpAnyH_take (i := 18) (v := undef) rfl (by kernel_rfl) (by kernel_rfl) (by kernel_rfl) (fun _ _ _ h => h) (Or.inr ⟨by rfl, rfl⟩) (by assumption) ?_
      simp only [Act.put, List.getElem_toArray, List.getElem_cons_zero, List.getElem_cons_succ, List.setIfInBounds_toArray, List.set_cons_zero, List.set_cons_succ]
      refine wpAnyH_take (i := 19) (v := undef) rfl (by kernel_rfl) (by kernel_rfl) (by kernel_rfl) (fun _ _ _ h => h) (Or.inr ⟨by rfl, rfl⟩) (by assumption) ?_
      simp only [Act.put, List.getElem_toArray, List.getElem_cons_zero, List.getElem_cons_succ, List.setIfInBounds_toArray, List.set_cons_zero, List.set_cons_succ]
      refine wpAnyH_take (i := 20) (v := ?v220) rfl (by kernel_rfl) (by kernel_rfl) (by kernel_rfl) (fun _ _ _ h => h) (Or.inl ⟨by rfl, ?y220⟩) (by assumption) ?r220
      case y220 => (intro w hSw; (try dsimp only at hSw); go_simp; (try with_reducible rfl))
      simp only [Act.put, List.getElem_toArray, List.getElem_cons_zero, List.getElem_cons_succ, List.setIfInBounds_toArray, List.set_cons_zero, List.set_cons_succ]
      refine wpAnyH_take (i := 21) (v := ?v221) rfl (by kernel_rfl) (by kernel_rfl) (by kernel_rfl) (fun _ _ _ h => h) (Or.inl ⟨by rfl, ?y221⟩) (by assumption) ?r221
      case y221 => (intro w hSw; (try dsimp only at hSw); go_simp; (try with_reducible rfl))
      simp only [Act.put, List.getElem_toArray, List.getElem_cons_zero, List.getElem_cons_succ, List.setIfInBounds_toArray, List.set_cons_zero, List.set_cons_succ]
      refine wpAnyH_done (by kernel_rfl) ?_ _
      have hfin := hS.2.2.below
      clear hS
      go_wp2_with fail
      go_ret
      exact ⟨ret_bool HS.out.symm, HB2.out.trans (hfin.mono HB2.out.size)⟩
    | true =>
      have HS := Lib.hid (show sameEv x y = decide (x.bytes = y.bytes) by unfold sameEv; rw [hf, hk]; rfl)
      have HK := Lib.hid hk
      clear hf hk
      unfold evV
      go_enter Tryz.func45, Tryz.ntmps45
      go_wp2_with fail
      generalize (w.alloc (.cells #[.int .i64 x.kind, .int .i64 x.node, .int .i64 x.to, .int .i64 x.n, .int .i64 x.bit, .slice K x.keep.length kc, .slice B x.bytes.length bc] 39)).alloc (.cells #[.int .i64 y.kind, .int .i64 y.node, .int .i64 y.to, .int .i64 y.n, .int .i64 y.bit, .slice K' y.keep.length kc', .slice B' y.bytes.length bc'] 39) = w2 at hK1 hK2 hbw2 hx2 hy2 ⊢
      generalize hb2 : w.heap.size + 1 = b2 at hK2 ⊢
      generalize hb1 : w.heap.size = b1 at hK1 ⊢
      have S0 := Lib.hid (Kept2.mk (w2 := w2) (w' := w2.drew) (hK1.next (below_drewN (Below.refl _ _) 1)) (hK2.next (below_drewN (Below.refl _ _) 1)) (below_drewN (Below.refl _ _) 1)).all
      have SN := Lib.hid (fun (X Y : World) (h : (fun w' => (w'.cell? ⟨b1, 0, none⟩ = some (.int .i64 x.kind) ∧ w'.cell? ⟨b1, 1, none⟩ = some (.int .i64 x.node) ∧ w'.cell? ⟨b1, 2, none⟩ = some (.int .i64 x.to) ∧ w'.cell? ⟨b1, 3, none⟩ = some (.int .i64 x.n) ∧ w'.cell? ⟨b1, 4, none⟩ = some (.int .i64 x.bit) ∧ w'.cell? ⟨b1, 5, none⟩ = some (.slice K x.keep.length kc) ∧ w'.cell? ⟨b1, 6, none⟩ = some (.slice B x.bytes.length bc)) ∧ (w'.cell? ⟨b2, 0, none⟩ = some (.int .i64 y.kind) ∧ w'.cell? ⟨b2, 1, none⟩ = some (.int .i64 y.node) ∧ w'.cell? ⟨b2, 2, none⟩ = some (.int .i64 y.to) ∧ w'.cell? ⟨b2, 3, none⟩ = some (.int .i64 y.n) ∧ w'.cell? ⟨b2, 4, none⟩ = some (.int .i64 y.bit) ∧ w'.cell? ⟨b2, 5, none⟩ = some (.slice K' y.keep.length kc') ∧ w'.cell? ⟨b2, 6, none⟩ = some (.slice B' y.bytes.length bc')) ∧ Kept2 w2 w' b1 b2 x y K B K' B' kc bc kc' bc') X) (hb : Below X.heap.size X Y) => (h.2.2.next hb).all)
      have KB := Lib.hid (fun (X : World) (h : (fun w' => (w'.cell? ⟨b1, 0, none⟩ = some (.int .i64 x.kind) ∧ w'.cell? ⟨b1, 1, none⟩ = some (.int .i64 x.node) ∧ w'.cell? ⟨b1, 2, none⟩ = some (.int .i64 x.to) ∧ w'.cell? ⟨b1, 3, none⟩ = some (.int .i64 x.n) ∧ w'.cell? ⟨b1, 4, none⟩ = some (.int .i64 x.bit) ∧ w'.cell? ⟨b1, 5, none⟩ = some (.slice K x.keep.length kc) ∧ w'.cell? ⟨b1, 6, none⟩ = some (.slice B x.bytes.length bc)) ∧ (w'.cell? ⟨b2, 0, none⟩ = some (.int .i64 y.kind) ∧ w'.cell? ⟨b2, 1, none⟩ = some (.int .i64 y.node) ∧ w'.cell? ⟨b2, 2, none⟩ = some (.int .i64 y.to) ∧ w'.cell? ⟨b2, 3, none⟩ = some (.int .i64 y.n) ∧ w'.cell? ⟨b2, 4, none⟩ = some (.int .i64 y.bit) ∧ w'.cell? ⟨b2, 5, none⟩ = some (.slice K' y.keep.length kc') ∧ w'.cell? ⟨b2, 6, none⟩ = some (.slice B' y.bytes.length bc')) ∧ Kept2 w2 w' b1 b2 x y K B K' B' kc bc kc' bc') X) => h.2.2.bools hx2 hy2)
      have BB := Lib.hid (fun (X : World) (h : (fun w' => (w'.cell? ⟨b1, 0, none⟩ = some (.int .i64 x.kind) ∧ w'.cell? ⟨b1, 1, none⟩ = some (.int .i64 x.node) ∧ w'.cell? ⟨b1, 2, none⟩ = some (.int .i64 x.to) ∧ w'.cell? ⟨b1, 3, none⟩ = some (.int .i64 x.n) ∧ w'.cell? ⟨b1, 4, none⟩ = some (.int .i64 x.bit) ∧ w'.cell? ⟨b1, 5, none⟩ = some (.slice K x.keep.length kc) ∧ w'.cell? ⟨b1, 6, none⟩ = some (.slice B x.bytes.length bc)) ∧ (w'.cell? ⟨b2, 0, none⟩ = some (.int .i64 y.kind) ∧ w'.cell? ⟨b2, 1, none⟩ = some (.int .i64 y.node) ∧ w'.cell? ⟨b2, 2, none⟩ = some (.int .i64 y.to) ∧ w'.cell? ⟨b2, 3, none⟩ = some (.int .i64 y.n) ∧ w'.cell? ⟨b2, 4, none⟩ = some (.int .i64 y.bit) ∧ w'.cell? ⟨b2, 5, none⟩ = some (.slice K' y.keep.length kc') ∧ w'.cell? ⟨b2, 6, none⟩ = some (.slice B' y.bytes.length bc')) ∧ Kept2 w2 w' b1 b2 x y K B K' B' kc bc kc' bc') X) => h.2.2.bytes_ hx2 hy2)
      have HB2 := Lib.hid hbw2
      clear hK1 hK2 hbw2 hx2 hy2 hx hy
      refine wp_region_held (S := fun w' => (w'.cell? ⟨b1, 0, none⟩ = some (.int .i64 x.kind) ∧ w'.cell? ⟨b1, 1, none⟩ = some (.int .i64 x.node) ∧ w'.cell? ⟨b1, 2, none⟩ = some (.int .i64 x.to) ∧ w'.cell? ⟨b1, 3, none⟩ = some (.int .i64 x.n) ∧ w'.cell? ⟨b1, 4, none⟩ = some (.int .i64 x.bit) ∧ w'.cell? ⟨b1, 5, none⟩ = some (.slice K x.keep.length kc) ∧ w'.cell? ⟨b1, 6, none⟩ = some (.slice B x.bytes.length bc)) ∧ (w'.cell? ⟨b2, 0, none⟩ = some (.int .i64 y.kind) ∧ w'.cell? ⟨b2, 1, none⟩ = some (.int .i64 y.node) ∧ w'.cell? ⟨b2, 2, none⟩ = some (.int .i64 y.to) ∧ w'.cell? ⟨b2, 3, none⟩ = some (.int .i64 y.n) ∧ w'.cell? ⟨b2, 4, none⟩ = some (.int .i64 y.bit) ∧ w'.cell? ⟨b2, 5, none⟩ = some (.slice K' y.keep.length kc') ∧ w'.cell? ⟨b2, 6, none⟩ = some (.slice B' y.bytes.length bc')) ∧ Kept2 w2 w' b1 b2 x y K B K' B' kc bc kc' bc') (by kernel_rfl) ?_
      have hS0 := S0.out
      refine wpAnyH_take (i := 0) (v := ?v300) rfl (by kernel_rfl) (by kernel_rfl) (by kernel_rfl) (fun _ _ _ h => h) (Or.inl ⟨by rfl, ?y300⟩) (by assumption) ?r300
      case y300 => (intro w hSw; (try dsimp only at hSw); go_simp; (try with_reducible rfl))
      simp only [Act.put, List.getElem_toArray, List.getElem_cons_zero, List.setIfInBounds_toArray, List.set_cons_zero, List.set_cons_succ]
      refine wpAnyH_take (i := 1) (v := ?v301) rfl (by kernel_rfl) (by kernel_rfl) (by kernel_rfl) (fun _ _ _ h => h) (Or.inl ⟨by rfl, ?y301⟩) (by assumption) ?r301
      case y301 => (intro w hSw; (try dsimp only at hSw); go_simp; (try with_reducible rfl))
      simp only [Act.put, List.getElem_toArray, List.getElem_cons_zero, List.getElem_cons_succ, List.setIfInBounds_toArray, List.set_cons_zero, List.set_cons_succ]
      refine wpAnyH_take (i := 3) (v := ?v303) rfl (by kernel_rfl) (by kernel_rfl) (by kernel_rfl) (fun _ _ _ h => h) (Or.inl ⟨by rfl, ?y303⟩) (by assumption) ?r303
      case y303 => (intro w hSw; (try dsimp only at hSw); go_simp; (try with_reducible rfl))
      simp only [Act.put, List.getElem_toArray, List.getElem_cons_zero, List.getElem_cons_succ, List.setIfInBounds_toArray, List.set_cons_zero, List.set_cons_succ]
      refine wpAnyH_take (i := 4) (v := ?v304) rfl (by kernel_rfl) (by kernel_rfl) (by kernel_rfl) (fun _ _ _ h => h) (Or.inl ⟨by rfl, ?y304⟩) (by assumption) ?r304
      case y304 => (intro w hSw; (try dsimp only at hSw); go_simp; (try with_reducible rfl))
      simp only [Act.put, List.getElem_toArray, List.getElem_cons_zero, List.getElem_cons_succ, List.setIfInBounds_toArray, List.set_cons_zero, List.set_cons_succ]
      refine wpAnyH_ready (rs := [2]) (by kernel_rfl) (by simp) ?_
      refine AllReadyH.cons rfl (fun K hK => ?_) AllReadyH.nil
      rw [if_pos (by rfl)]
      go_simp
      refine (five_raw _ _ _ _ _ _ _ _).mono ?_
      rintro e w' ⟨rfl, hbw⟩
      refine hK.out _ _ ?_ (fun hS => ?_)
      · exact SN.out _ _ (by assumption) hbw
      clear hK
      refine wpAnyH_ready (rs := [5]) (by kernel_rfl) (by simp) ?_
      refine AllReadyH.cons rfl (fun K hK => ?_) AllReadyH.nil
      rw [if_pos (by rfl)]
      go_simp
      refine (five_raw _ _ _ _ _ _ _ _).mono ?_
      rintro e w' ⟨rfl, hbw⟩
      refine hK.out _ _ ?_ (fun hS => ?_)
      · exact SN.out _ _ (by assumption) hbw
      clear hK
      refine wpAnyH_take (i := 6) (v := ?v306) rfl (by kernel_rfl) (by kernel_rfl) (by kernel_rfl) (fun _ _ _ h => h) (Or.inl ⟨by rfl, ?y306⟩) (by assumption) ?r306
      case y306 => (intro w hSw; (try dsimp only at hSw); go_simp; (try with_reducible rfl))
      simp only [Act.put, List.getElem_toArray, List.getElem_cons_zero, List.getElem_cons_succ, List.setIfInBounds_toArray, List.set_cons_zero, List.set_cons_succ]
      refine wpAnyH_take (i := 7) (v := ?v307) rfl (by kernel_rfl) (by kernel_rfl) (by kernel_rfl) (fun _ _ _ h => h) (Or.inl ⟨by rfl, ?y307⟩) (by assumption) ?r307
      case y307 => (intro w hSw; (try dsimp only at hSw); go_simp; (try with_reducible rfl))
      simp only [Act.put, List.getElem_toArray, List.getElem_cons_zero, List.getElem_cons_succ, List.setIfInBounds_toArray, List.set_cons_zero, List.set_cons_succ]
      refine wpAnyH_take (i := 8) (v := ?v308) rfl (by kernel_rfl) (by kernel_rfl) (by kernel_rfl) (fun _ _ _ h => h) (Or.inl ⟨by rfl, ?y308⟩) (by assumption) ?r308
      case y308 => (intro w hSw; (try dsimp only at hSw); go_simp; (try with_reducible rfl))
      simp only [Act.put, List.getElem_toArray, List.getElem_cons_zero, List.getElem_cons_succ, List.setIfInBounds_toArray, List.set_cons_zero, List.set_cons_succ]
      refine wpAnyH_take (i := 9) (v := ?v309) rfl (by kernel_rfl) (by kernel_rfl) (by kernel_rfl) (fun _ _ _ h => h) (Or.inl ⟨by rfl, ?y309⟩) (by assumption) ?r309
      case y309 => (intro w hSw; (try dsimp only at hSw); go_simp; (try with_reducible rfl))
      simp only [Act.put, List.getElem_toArray, List.getElem_cons_zero, List.getElem_cons_succ, List.setIfInBounds_toArray, List.set_cons_zero, List.set_cons_succ]
      refine wpAnyH_take (i := 10) (v := ?v310) rfl (by kernel_rfl) (by kernel_rfl) (by kernel_rfl) (fun _ _ _ h => h) (Or.inl ⟨by rfl, ?y310⟩) (by assumption) ?r310
      case y310 => (intro w hSw; (try dsimp only at hSw); go_simp; (try with_reducible rfl))
      simp only [Act.put, List.getElem_toArray, List.getElem_cons_zero, List.getElem_cons_succ, List.setIfInBounds_toArray, List.set_cons_zero, List.set_cons_succ]
      refine wpAnyH_take (i := 11) (v := ?v311) rfl (by kernel_rfl) (by kernel_rfl) (by kernel_rfl) (fun _ _ _ h => h) (Or.inl ⟨by rfl, ?y311⟩) (by assumption) ?r311
      case y311 => (intro w hSw; (try dsimp only at hSw); go_simp; (try with_reducible rfl))
      simp only [Act.put, List.getElem_toArray, List.getElem_cons_zero, List.getElem_cons_succ, List.setIfInBounds_toArray, List.set_cons_zero, List.set_cons_succ]
      refine wpAnyH_ready (rs := [12]) (by kernel_rfl) (by simp) ?_
      refine AllReadyH.cons rfl (fun K hK => ?_) AllReadyH.nil
      rw [if_pos (by rfl)]
      go_simp
      refine (KB.out _ (by assumption)).mono ?_
      rintro e w' ⟨rfl, hbw⟩
      rw [HK.out]
      refine hK.out _ _ ?_ (fun hS => ?_)
      · exact SN.out _ _ (by assumption) hbw
      clear hK
      refine wpAnyH_take (i := 13) (v := ?v313) rfl (by kernel_rfl) (by kernel_rfl) (by kernel_rfl) (fun _ _ _ h => h) (Or.inl ⟨by rfl, ?y313⟩) (by assumption) ?r313
      case y313 => (intro w hSw; (try dsimp only at hSw); go_simp; (try with_reducible rfl))
      simp only [Act.put, List.getElem_toArray, List.getElem_cons_zero, List.getElem_cons_succ, List.setIfInBounds_toArray, List.set_cons_zero, List.set_cons_succ]
      refine wpAnyH_take (i := 14) (v := ?v314) rfl (by kernel_rfl) (by kernel_rfl) (by kernel_rfl) (fun _ _ _ h => h) (Or.inl ⟨by rfl, ?y314⟩) (by assumption) ?r314
      case y314 => (intro w hSw; (try dsimp only at hSw); go_simp; (try with_reducible rfl))
      simp only [Act.put, List.getElem_toArray, List.getElem_cons_zero, List.getElem_cons_succ, List.setIfInBounds_toArray, List.set_cons_zero, List.set_cons_succ]
      refine wpAnyH_take (i := 15) (v := ?v315) rfl (by kernel_rfl) (by kernel_rfl) (by kernel_rfl) (fun _ _ _ h => h) (Or.inl ⟨by rfl, ?y315⟩) (by assumption) ?r315
      case y315 => (intro w hSw; (try dsimp only at hSw); go_simp; (try with_reducible rfl))
      simp only [Act.put, List.getElem_toArray, List.getElem_cons_zero, List.getElem_cons_succ, List.setIfInBounds_toArray, List.set_cons_zero, List.set_cons_succ]
      refine wpAnyH_take (i := 16) (v := ?v316) rfl (by kernel_rfl) (by kernel_rfl) (by kernel_rfl) (fun _ _ _ h => h) (Or.inl ⟨by rfl, ?y316⟩) (by assumption) ?r316
      case y316 => (intro w hSw; (try dsimp only at hSw); go_simp; (try with_reducible rfl))
      simp only [Act.put, List.getElem_toArray, List.getElem_cons_zero, List.getElem_cons_succ, List.setIfInBounds_toArray, List.set_cons_zero, List.set_cons_succ]
      refine wpAnyH_take (i := 17) (v := ?v317) rfl (by kernel_rfl) (by kernel_rfl) (by kernel_rfl) (fun _ _ _ h => h) (Or.inl ⟨by rfl, ?y317⟩) (by assumption) ?r317
      case y317 => (intro w hSw; (try dsimp only at hSw); go_simp; (try with_reducible rfl))
      simp only [Act.put, List.getElem_toArray, List.getElem_cons_zero, List.getElem_cons_succ, List.setIfInBounds_toArray, List.set_cons_zero, List.set_cons_succ]
      refine wpAnyH_take (i := 18) (v := ?v318) rfl (by kernel_rfl) (by kernel_rfl) (by kernel_rfl) (fun _ _ _ h => h) (Or.inl ⟨by rfl, ?y318⟩) (by assumption) ?r318
      case y318 => (intro w hSw; (try dsimp only at hSw); go_simp; (try with_reducible rfl))
      simp only [Act.put, List.getElem_toArray, List.getElem_cons_zero, List.getElem_cons_succ, List.setIfInBounds_toArray, List.set_cons_zero, List.set_cons_succ]
      refine wpAnyH_ready (rs := [19]) (by kernel_rfl) (by simp) ?_
      refine AllReadyH.cons rfl (fun K hK => ?_) AllReadyH.nil
      rw [if_pos (by rfl)]
      go_simp
      refine (BB.out _ (by assumption)).mono ?_
      rintro e w' ⟨rfl, hbw⟩
      refine hK.out _ _ ?_ (fun hS => ?_)
      · exact SN.out _ _ (by assumption) hbw
      clear hK
      refine wpAnyH_take (i := 20) (v := ?v320) rfl (by kernel_rfl) (by kernel_rfl) (by kernel_rfl) (fun _ _ _ h => h) (Or.inl ⟨by rfl, ?y320⟩) (by assumption) ?r320
      case y320 => (intro w hSw; (try dsimp only at hSw); go_simp; (try with_reducible rfl))
      simp only [Act.put, List.getElem_toArray, List.getElem_cons_zero, List.getElem_cons_succ, List.setIfInBounds_toArray, List.set_cons_zero, List.set_cons_succ]
      refine wpAnyH_take (i := 21) (v := ?v321) rfl (by kernel_rfl) (by kernel_rfl) (by kernel_rfl) (fun _ _ _ h => h) (Or.inl ⟨by rfl, ?y321⟩) (by assumption) ?r321
      case y321 => (intro w hSw; (try dsimp only at hSw); go_simp; (try with_reducible rfl))
      simp only [Act.put, List.getElem_toArray, List.getElem_cons_zero, List.getElem_cons_succ, List.setIfInBounds_toArray, List.set_cons_zero, List.set_cons_succ]
      refine wpAnyH_done (by kernel_rfl) ?_ _
      have hfin := hS.2.2.below
      clear hS
      go_wp2_with fail
      go_ret
      exact ⟨ret_bool HS.out.symm, HB2.out.trans (hfin.mono HB2.out.size)⟩
end Go.Proofs.YthpojljfmipngaaGreatDoor
