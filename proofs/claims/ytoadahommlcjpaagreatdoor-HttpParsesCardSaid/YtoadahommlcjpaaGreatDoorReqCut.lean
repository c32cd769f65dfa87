/-
  THE WALKS: request of the laws of chapter 24. CONDITIONS: as ReqIn says.
-/
import Derived.Test.YtoadahommlcjpaaGreatDoorAppB
import Derived.Test.YtoadahommlcjpaaGreatDoorLawAgain
import Derived.Test.YtoadahommlcjpaaGreatDoorRow2
namespace Go.Proofs.YtoadahommlcjpaaGreatDoor
open Go.RowKit
def cutQ (r : Ht.Req) : Ht.Req := ⟨r.method.take 50, r.target.take 210, cutHs r.heads, r.body.take 8193⟩
theorem cutHs_small (l : List Ht.Hd) : (cutHs l).length ≤ 20 ∧ ∀ x ∈ cutHs l, x.name.length ≤ 50 ∧ x.value.length ≤ 210 := by
  refine ⟨by unfold cutHs; rw [List.length_map, List.length_take]; omega, fun x hx => ?_⟩
  unfold cutHs at hx
  obtain ⟨y, _, rfl⟩ := List.mem_map.1 hx
  unfold cutH
  simp only [List.length_take]
  omega
theorem ReqAt.of_cut {w : World} {r : Ht.Req} {A B : Option Addr} (h1 : HdsAt w A (cutQ r).heads) (h2 : CellsAt w B (Lib.byteCells (cutQ r).body)) : ReqAt w (cutQ r) A B := by
  obtain ⟨l1, l3⟩ := cutHs_small r.heads
  obtain ⟨m1, m2⟩ := heads_len l3
  refine ⟨h1, h2, ?_, m2, ?_, ?_, ?_, ?_⟩
  · show (cutHs r.heads).length ≤ _; omega
  · show (r.body.take 8193).length ≤ _; rw [List.length_take]; omega
  · show (r.method.take 50).length ≤ _; rw [List.length_take]; omega
  · show (r.target.take 210).length ≤ _; rw [List.length_take]; omega
  · show ((cutHs r.heads).flatMap Ht.hdLine).length ≤ _; omega
theorem Own.addr {e : TypeId} {s B n c : Nat} {A : Option Addr} {xs : List Value} {w : World} (h : Own e s B (.slice A n c) n xs w) : ∀ b o, A = some ⟨b, o, none⟩ → B ≤ b := by
  rintro b o rfl
  exact (h.lt b rfl).1
theorem HdsAt.but {S : List Nat} {w w' : World} {A : Option Addr} {l : List Ht.Hd} (h : HdsAt w A l) (hk : But S w w') (hS : ∀ b o, A = some ⟨b, o, none⟩ → b ∉ S) : HdsAt w' A l := fun hne => by
  obtain ⟨b, off, h1, h2, h3⟩ := h hne
  have hb := hS b off h1
  exact ⟨b, off, h1, Nat.lt_of_lt_of_le h2 hk.size, fun i x hi => ⟨hk.cellAt hb (h3 i x hi).1, hk.cellAt hb (h3 i x hi).2⟩⟩
theorem results_row1 {fn : Func} {p : Tmp} {ty : TypeId} (h : fn.results = #[.cell p ty]) (tmps : Array Value) (P : Program) (w : World) (g : Nat) (cs : Array Value)
    (hp : tmps.getD p undef = .pointer (some ⟨g, 0, none⟩)) (hl : (loadVar ty ⟨g, 0, none⟩).run P w = .ok (.agg cs) w) :
    (results fn tmps).run P w = .ok (.agg cs) w := by
  rw [Array.getD_eq_getD_getElem?] at hp
  simp [results, h, hp, asAddr, hl]
/-- A row lies in blocks from B on. -/
def NewAt (B : Nat) (A : Option Addr) : Prop := ∀ b o, A = some ⟨b, o, none⟩ → B ≤ b
theorem NewAt.not {B : Nat} {A : Option Addr} {S : List Nat} (h : NewAt B A) (hS : ∀ j ∈ S, j < B) : ∀ b o, A = some ⟨b, o, none⟩ → b ∉ S := fun b o e hm => by
  have h1 := h b o e
  have h2 := hS b hm
  omega
theorem CellsAt.but {S : List Nat} {w w' : World} {A : Option Addr} {vs : List Value} (h : CellsAt w A vs) (hk : But S w w') (hS : ∀ b o, A = some ⟨b, o, none⟩ → b ∉ S) : CellsAt w' A vs := fun hne => by
  obtain ⟨b, off, h1, h2, h3⟩ := h hne
  have hb := hS b off h1
  exact ⟨b, off, h1, Nat.lt_of_lt_of_le h2 hk.size, fun i x hi => hk.cellAt hb (h3 i x hi)⟩
theorem ReqAt.but {S : List Nat} {w w' : World} {r : Ht.Req} {A B : Option Addr} (h : ReqAt w r A B) (hk : But S w w') (hA : ∀ b o, A = some ⟨b, o, none⟩ → b ∉ S) (hB : ∀ b o, B = some ⟨b, o, none⟩ → b ∉ S) : ReqAt w' r A B :=
  ⟨h.heads.but hk hA, h.body.but hk hB, h.hl, h.hL, h.bl, h.ml, h.tl, h.fl⟩
set_option maxRecDepth 100000 in
set_option maxHeartbeats 8000000 in
theorem request_full (r : Ht.Req) (A : Option Addr) (c : Nat) (B : Option Addr) (d : Nat) (w : World) (h : ReqIn w r A B) (hbd : r.body.length ≤ d) :
    Calls Tryz.prog 23 #[reqV r A c B d] w fun e w' => ∃ A' c' B' d', e = .returned (reqV (cutQ r) A' c' B' d') ∧ ReqAt w' (cutQ r) A' B' ∧ NewAt w.heap.size A' ∧ NewAt w.heap.size B' ∧ Below w.heap.size w w' ∧ (cutQ r).body.length ≤ d' := by
  obtain ⟨m, t, hs, bd⟩ := r
  have hml := h.ml
  have htl := h.tl
  have hhl := h.hl
  dsimp only [reqV] at hml htl hbd hhl ⊢
  have HC : Hid (cutQ ⟨m, t, hs, bd⟩ = ⟨m.take 50, t.take 210, cutHs hs, bd.take 8193⟩) := Lib.hid rfl
  have HIN := Lib.hid h
  clear h
  have HX0 := Lib.hid (blk_next (below_box _ (.cells #[.string ⟨#[]⟩, .string ⟨#[]⟩, .slice none 0 0, .slice none 0 0] 26)) (heap_alloc_new w (.cells #[.string ⟨m.toArray⟩, .string ⟨t.toArray⟩, .slice A hs.length c, .slice B bd.length d] 26)))
  have HZ0 := Lib.hid (heap_alloc_new (w.alloc (.cells #[.string ⟨m.toArray⟩, .string ⟨t.toArray⟩, .slice A hs.length c, .slice B bd.length d] 26)) (.cells #[.string ⟨#[]⟩, .string ⟨#[]⟩, .slice none 0 0, .slice none 0 0] 26))
  rw [show (w.alloc (.cells #[.string ⟨m.toArray⟩, .string ⟨t.toArray⟩, .slice A hs.length c, .slice B bd.length d] 26)).heap.size = w.heap.size + 1 by simp] at HZ0
  have HW0 : Hid (Below w.heap.size w ((w.alloc (.cells #[.string ⟨m.toArray⟩, .string ⟨t.toArray⟩, .slice A hs.length c, .slice B bd.length d] 26)).alloc (.cells #[.string ⟨#[]⟩, .string ⟨#[]⟩, .slice none 0 0, .slice none 0 0] 26))) := Lib.hid (((Below.refl _ w).alloc (Nat.le_refl _) _).alloc (by simp) _)
  obtain ⟨m1, hm1e⟩ : ∃ x, m.take 50 = x := ⟨_, rfl⟩
  obtain ⟨t1, ht1e⟩ : ∃ x, t.take 210 = x := ⟨_, rfl⟩
  obtain ⟨b1, hb1e⟩ : ∃ x, bd.take 8193 = x := ⟨_, rfl⟩
  have hm1 : min (m.length : Int) 50 = (m1.length : Int) := by rw [← hm1e, List.length_take]; omega
  have hm2 : min (t.length : Int) 210 = (t1.length : Int) := by rw [← ht1e, List.length_take]; omega
  have hm3 : min (bd.length : Int) 8193 = (b1.length : Int) := by rw [← hb1e, List.length_take]; omega
  have ht1 : m1.length ≤ m.length := by rw [← hm1e]; exact List.length_take_le' _ _
  have ht2 : t1.length ≤ t.length := by rw [← ht1e]; exact List.length_take_le' _ _
  have ht3 : b1.length ≤ bd.length := by rw [← hb1e]; exact List.length_take_le' _ _
  have ht4 : b1.length ≤ 8193 := by rw [← hb1e]; exact List.length_take_le _ _
  have he1 := cut_str m 50
  have he2 := cut_str t 210
  rw [hm1e] at he1
  rw [ht1e] at he2
  have HCB : Hid (∀ W, Below w.heap.size w W → CellsAt W B (Lib.byteCells b1)) := Lib.hid (fun W hW => by
    rw [← hb1e]; exact cells_take (HIN.out.body.next hW (Nat.le_refl _)) 8193)
  have HC2 : Hid (cutQ ⟨m, t, hs, bd⟩ = ⟨m1, t1, cutHs hs, b1⟩) := Lib.hid (by rw [HC.out, hm1e, ht1e, hb1e])
  have HFIN : Hid (∀ (W : World) A' B', HdsAt W A' (cutHs hs) → CellsAt W B' (Lib.byteCells b1) → ReqAt W ⟨m1, t1, cutHs hs, b1⟩ A' B') := Lib.hid (fun W A' B' h1 h2 => by
    have h := ReqAt.of_cut (w := W) (r := ⟨m, t, hs, bd⟩) (A := A') (B := B') (by rw [HC2.out]; exact h1) (by rw [HC2.out]; exact h2)
    rw [HC2.out] at h
    exact h)
  rw [HC2.out]
  clear hm1e ht1e hb1e HC HC2
  go_enter Tryz.func23, Tryz.ntmps23
  go_wp2_with fail
  obtain ⟨W1, hW1⟩ : ∃ W1, (w.alloc (.cells #[.string ⟨m.toArray⟩, .string ⟨t.toArray⟩, .slice A hs.length c, .slice B bd.length d] 26)).alloc (.cells #[.string ⟨#[]⟩, .string ⟨#[]⟩, .slice none 0 0, .slice none 0 0] 26) = W1 := ⟨_, rfl⟩
  rw [hW1] at HX0 HZ0 HW0 ⊢
  clear hW1
  refine wp_region_any (by kernel_rfl) ?_
  change wpAny _ _ _ _ _ _ _ (World.drew _)
  have HBd : Hid (W1.drew.heap[w.heap.size]? = some (.cells #[.string ⟨m.toArray⟩, .string ⟨t.toArray⟩, .slice A hs.length c, .slice B bd.length d] 26 (0, 0))) := HX0
  have HZd : Hid (W1.drew.heap[w.heap.size + 1]? = some (.cells #[.string ⟨#[]⟩, .string ⟨#[]⟩, .slice none 0 0, .slice none 0 0] 26 (0, 0))) := HZ0
  have HWd : Hid (Below w.heap.size w W1.drew) := Lib.hid (below_drewN HW0.out 1)
  generalize W1.drew = W2 at HBd HZd HWd ⊢
  clear HX0 HZ0 HW0
  have HHD := Lib.hid (headers_any hs A c W2 hhl (HIN.out.heads.next HWd.out (Nat.le_refl _)) HIN.out.hF)
  obtain ⟨c0, c1, c2, c3⟩ := blk4 HBd.out
  obtain ⟨f0, f1, f2, f3⟩ := blk4_free HBd.out
  have HSA := Lib.hid (show W2.cell? ⟨w.heap.size, 0, none⟩ = some (.string ⟨m.toArray⟩) ∧ W2.cell? ⟨w.heap.size, 1, none⟩ = some (.string ⟨t.toArray⟩) ∧ W2.cell? ⟨w.heap.size, 2, none⟩ = some (.slice A hs.length c) from ⟨c0, c1, c2⟩)
  refine wpAny_of_till (S := fun W => W.cell? ⟨w.heap.size, 0, none⟩ = some (.string ⟨m.toArray⟩) ∧ W.cell? ⟨w.heap.size, 1, none⟩ = some (.string ⟨t.toArray⟩) ∧ W.cell? ⟨w.heap.size, 2, none⟩ = some (.slice A hs.length c)) (st := fun l => l.getD 18 false) _ _ _ _ ?_
  change wpTill _ _ _ _ _ _ _ #[false, false, false, false, false, false, false, false, false, false, false, false, false, false, false, false, false, false, false, false, false, false, false] _ _
  refine wpTill_take (i := 0) (v := .pointer (some ⟨w.heap.size, 0, none⟩)) rfl (by kernel_rfl) (by kernel_rfl) (by kernel_rfl) (show Shutd _ _ #[false, false, false, false, false, false, false, false, false, false, false, false, false, false, false, false, false, false, false, false, false, false, false] from Shutd.start 23) (fun l h h9 => Shutd.step h (j := 18) (k := 0) (by kernel_rfl) h9) (fun l => getD_set_ne false (by decide)) (fun _ _ _ h => h) (Or.inl ⟨by rfl, ?yb0⟩) HSA.out (fun hsh0 => ?_)
  case yb0 => (intro w hS; obtain ⟨s5, s6, s7⟩ := hS; go_simp; (try with_reducible rfl))
  simp only [Act.put, List.getElem_toArray, List.getElem_cons_zero, List.setIfInBounds_toArray, List.set_cons_zero, List.set_cons_succ] at hsh0 ⊢
  refine wpTill_take (i := 1) (v := .string ⟨m.toArray⟩) rfl (by kernel_rfl) (by kernel_rfl) (by kernel_rfl) hsh0 (fun l h h9 => Shutd.step h (j := 18) (k := 1) (by kernel_rfl) h9) (fun l => getD_set_ne false (by decide)) (fun _ _ _ h => h) (Or.inl ⟨by rfl, ?yb1⟩) HSA.out (fun hsh1 => ?_)
  case yb1 => (intro w hS; obtain ⟨s5, s6, s7⟩ := hS; go_simp; (try with_reducible rfl))
  simp only [Act.put, List.getElem_toArray, List.getElem_cons_zero, List.getElem_cons_succ, List.setIfInBounds_toArray, List.set_cons_zero, List.set_cons_succ] at hsh1 ⊢
  refine wpTill_take (i := 2) (v := .pointer (some ⟨w.heap.size, 0, none⟩)) rfl (by kernel_rfl) (by kernel_rfl) (by kernel_rfl) hsh1 (fun l h h9 => Shutd.step h (j := 18) (k := 2) (by kernel_rfl) h9) (fun l => getD_set_ne false (by decide)) (fun _ _ _ h => h) (Or.inl ⟨by rfl, ?yb2⟩) HSA.out (fun hsh2 => ?_)
  case yb2 => (intro w hS; obtain ⟨s5, s6, s7⟩ := hS; go_simp; (try with_reducible rfl))
  simp only [Act.put, List.getElem_toArray, List.getElem_cons_zero, List.getElem_cons_succ, List.setIfInBounds_toArray, List.set_cons_zero, List.set_cons_succ] at hsh2 ⊢
  refine wpTill_take (i := 3) (v := .string ⟨m.toArray⟩) rfl (by kernel_rfl) (by kernel_rfl) (by kernel_rfl) hsh2 (fun l h h9 => Shutd.step h (j := 18) (k := 3) (by kernel_rfl) h9) (fun l => getD_set_ne false (by decide)) (fun _ _ _ h => h) (Or.inl ⟨by rfl, ?yb3⟩) HSA.out (fun hsh3 => ?_)
  case yb3 => (intro w hS; obtain ⟨s5, s6, s7⟩ := hS; go_simp; (try with_reducible rfl))
  simp only [Act.put, List.getElem_toArray, List.getElem_cons_zero, List.getElem_cons_succ, List.setIfInBounds_toArray, List.set_cons_zero, List.set_cons_succ] at hsh3 ⊢
  refine wpTill_take (i := 4) (v := .int .i64 (m.length : Int)) rfl (by kernel_rfl) (by kernel_rfl) (by kernel_rfl) hsh3 (fun l h h9 => Shutd.step h (j := 18) (k := 4) (by kernel_rfl) h9) (fun l => getD_set_ne false (by decide)) (fun _ _ _ h => h) (Or.inl ⟨by rfl, ?yb4⟩) HSA.out (fun hsh4 => ?_)
  case yb4 => (intro w hS; obtain ⟨s5, s6, s7⟩ := hS; go_simp; (try with_reducible rfl))
  simp only [Act.put, List.getElem_toArray, List.getElem_cons_zero, List.getElem_cons_succ, List.setIfInBounds_toArray, List.set_cons_zero, List.set_cons_succ] at hsh4 ⊢
  refine wpTill_take (i := 5) (v := .int .i64 (m1.length : Int)) rfl (by kernel_rfl) (by kernel_rfl) (by kernel_rfl) hsh4 (fun l h h9 => Shutd.step h (j := 18) (k := 5) (by kernel_rfl) h9) (fun l => getD_set_ne false (by decide)) (fun _ _ _ h => h) (Or.inl ⟨by rfl, ?yb5⟩) HSA.out (fun hsh5 => ?_)
  case yb5 => (intro w hS; obtain ⟨s5, s6, s7⟩ := hS; go_simp; (try with_reducible rfl))
  simp only [Act.put, List.getElem_toArray, List.getElem_cons_zero, List.getElem_cons_succ, List.setIfInBounds_toArray, List.set_cons_zero, List.set_cons_succ] at hsh5 ⊢
  refine wpTill_take (i := 6) (v := .string ⟨m1.toArray⟩) rfl (by kernel_rfl) (by kernel_rfl) (by kernel_rfl) hsh5 (fun l h h9 => Shutd.step h (j := 18) (k := 6) (by kernel_rfl) h9) (fun l => getD_set_ne false (by decide)) (fun _ _ _ h => h) (Or.inl ⟨by rfl, ?yb6⟩) HSA.out (fun hsh6 => ?_)
  case yb6 => (intro w hS; obtain ⟨s5, s6, s7⟩ := hS; go_simp; (try with_reducible rfl))
  simp only [Act.put, List.getElem_toArray, List.getElem_cons_zero, List.getElem_cons_succ, List.setIfInBounds_toArray, List.set_cons_zero, List.set_cons_succ] at hsh6 ⊢
  refine wpTill_take (i := 7) (v := .pointer (some ⟨w.heap.size, 1, none⟩)) rfl (by kernel_rfl) (by kernel_rfl) (by kernel_rfl) hsh6 (fun l h h9 => Shutd.step h (j := 18) (k := 7) (by kernel_rfl) h9) (fun l => getD_set_ne false (by decide)) (fun _ _ _ h => h) (Or.inl ⟨by rfl, ?yb7⟩) HSA.out (fun hsh7 => ?_)
  case yb7 => (intro w hS; obtain ⟨s5, s6, s7⟩ := hS; go_simp; (try with_reducible rfl))
  simp only [Act.put, List.getElem_toArray, List.getElem_cons_zero, List.getElem_cons_succ, List.setIfInBounds_toArray, List.set_cons_zero, List.set_cons_succ] at hsh7 ⊢
  refine wpTill_take (i := 8) (v := .string ⟨t.toArray⟩) rfl (by kernel_rfl) (by kernel_rfl) (by kernel_rfl) hsh7 (fun l h h9 => Shutd.step h (j := 18) (k := 8) (by kernel_rfl) h9) (fun l => getD_set_ne false (by decide)) (fun _ _ _ h => h) (Or.inl ⟨by rfl, ?yb8⟩) HSA.out (fun hsh8 => ?_)
  case yb8 => (intro w hS; obtain ⟨s5, s6, s7⟩ := hS; go_simp; (try with_reducible rfl))
  simp only [Act.put, List.getElem_toArray, List.getElem_cons_zero, List.getElem_cons_succ, List.setIfInBounds_toArray, List.set_cons_zero, List.set_cons_succ] at hsh8 ⊢
  refine wpTill_take (i := 9) (v := .pointer (some ⟨w.heap.size, 1, none⟩)) rfl (by kernel_rfl) (by kernel_rfl) (by kernel_rfl) hsh8 (fun l h h9 => Shutd.step h (j := 18) (k := 9) (by kernel_rfl) h9) (fun l => getD_set_ne false (by decide)) (fun _ _ _ h => h) (Or.inl ⟨by rfl, ?yb9⟩) HSA.out (fun hsh9 => ?_)
  case yb9 => (intro w hS; obtain ⟨s5, s6, s7⟩ := hS; go_simp; (try with_reducible rfl))
  simp only [Act.put, List.getElem_toArray, List.getElem_cons_zero, List.getElem_cons_succ, List.setIfInBounds_toArray, List.set_cons_zero, List.set_cons_succ] at hsh9 ⊢
  refine wpTill_take (i := 10) (v := .string ⟨t.toArray⟩) rfl (by kernel_rfl) (by kernel_rfl) (by kernel_rfl) hsh9 (fun l h h9 => Shutd.step h (j := 18) (k := 10) (by kernel_rfl) h9) (fun l => getD_set_ne false (by decide)) (fun _ _ _ h => h) (Or.inl ⟨by rfl, ?yb10⟩) HSA.out (fun hsh10 => ?_)
  case yb10 => (intro w hS; obtain ⟨s5, s6, s7⟩ := hS; go_simp; (try with_reducible rfl))
  simp only [Act.put, List.getElem_toArray, List.getElem_cons_zero, List.getElem_cons_succ, List.setIfInBounds_toArray, List.set_cons_zero, List.set_cons_succ] at hsh10 ⊢
  refine wpTill_take (i := 14) (v := .pointer (some ⟨w.heap.size, 2, none⟩)) rfl (by kernel_rfl) (by kernel_rfl) (by kernel_rfl) hsh10 (fun l h h9 => Shutd.step h (j := 18) (k := 14) (by kernel_rfl) h9) (fun l => getD_set_ne false (by decide)) (fun _ _ _ h => h) (Or.inl ⟨by rfl, ?yb14⟩) HSA.out (fun hsh14 => ?_)
  case yb14 => (intro w hS; obtain ⟨s5, s6, s7⟩ := hS; go_simp; (try with_reducible rfl))
  simp only [Act.put, List.getElem_toArray, List.getElem_cons_zero, List.getElem_cons_succ, List.setIfInBounds_toArray, List.set_cons_zero, List.set_cons_succ] at hsh14 ⊢
  refine wpTill_take (i := 15) (v := .slice A hs.length c) rfl (by kernel_rfl) (by kernel_rfl) (by kernel_rfl) hsh14 (fun l h h9 => Shutd.step h (j := 18) (k := 15) (by kernel_rfl) h9) (fun l => getD_set_ne false (by decide)) (fun _ _ _ h => h) (Or.inl ⟨by rfl, ?yb15⟩) HSA.out (fun hsh15 => ?_)
  case yb15 => (intro w hS; obtain ⟨s5, s6, s7⟩ := hS; go_simp; (try with_reducible rfl))
  simp only [Act.put, List.getElem_toArray, List.getElem_cons_zero, List.getElem_cons_succ, List.setIfInBounds_toArray, List.set_cons_zero, List.set_cons_succ] at hsh15 ⊢
  refine wpTill_takeF (i := 11) (v := .int .i64 (t.length : Int)) rfl (by kernel_rfl) (by kernel_rfl) (by kernel_rfl) (fun l => getD_set_ne false (by decide)) (fun _ _ _ h => h) (Or.inl ⟨by rfl, ?yb11⟩) (fun _ => HSA.out) ?_
  case yb11 => (intro w hS; go_simp; (try with_reducible rfl))
  simp only [Act.put, List.getElem_toArray, List.getElem_cons_zero, List.getElem_cons_succ, List.setIfInBounds_toArray, List.set_cons_zero, List.set_cons_succ]
  refine wpTill_takeF (i := 12) (v := .int .i64 (t1.length : Int)) rfl (by kernel_rfl) (by kernel_rfl) (by kernel_rfl) (fun l => getD_set_ne false (by decide)) (fun _ _ _ h => h) (Or.inl ⟨by rfl, ?yb12⟩) (fun _ => HSA.out) ?_
  case yb12 => (intro w hS; go_simp; (try with_reducible rfl))
  simp only [Act.put, List.getElem_toArray, List.getElem_cons_zero, List.getElem_cons_succ, List.setIfInBounds_toArray, List.set_cons_zero, List.set_cons_succ]
  refine wpTill_takeF (i := 13) (v := .string ⟨t1.toArray⟩) rfl (by kernel_rfl) (by kernel_rfl) (by kernel_rfl) (fun l => getD_set_ne false (by decide)) (fun _ _ _ h => h) (Or.inl ⟨by rfl, ?yb13⟩) (fun _ => HSA.out) ?_
  case yb13 => (intro w hS; go_simp; (try with_reducible rfl))
  simp only [Act.put, List.getElem_toArray, List.getElem_cons_zero, List.getElem_cons_succ, List.setIfInBounds_toArray, List.set_cons_zero, List.set_cons_succ]
  refine wpTill_takeF (i := 17) (v := .pointer (some ⟨w.heap.size, 0, none⟩)) rfl (by kernel_rfl) (by kernel_rfl) (by kernel_rfl) (fun l => getD_set_ne false (by decide)) (fun _ _ _ h => h) (Or.inl ⟨by rfl, ?yb17⟩) (fun _ => HSA.out) ?_
  case yb17 => (intro w hS; go_simp; (try with_reducible rfl))
  simp only [Act.put, List.getElem_toArray, List.getElem_cons_zero, List.getElem_cons_succ, List.setIfInBounds_toArray, List.set_cons_zero, List.set_cons_succ]
  refine wpTill_ready (rs := [16]) (by kernel_rfl) (by simp) ?_
  refine (AllTill.cons rfl (fun KK hKK => ?_) AllTill.nil)
  rw [if_pos (by rfl)]
  go_simp
  refine HHD.out.mono ?_
  rintro e W3 ⟨vh, rfl, hO3, hb3⟩
  obtain ⟨A3, n3, rfl⟩ := own_shape hO3
  have HO3 := Lib.hid hO3
  have HB3 := Lib.hid (blk_next hb3 HBd.out)
  have HZ3 := Lib.hid (blk_next hb3 HZd.out)
  have HW3 := Lib.hid (HWd.out.trans (hb3.mono HWd.out.size))
  have hsz3 := hb3.size
  clear hO3 hb3 c0 c1 c2 c3 f0 f1 f2 f3
  obtain ⟨c0, c1, c2, c3⟩ := blk4 HB3.out
  obtain ⟨f0, f1, f2, f3⟩ := blk4_free HB3.out
  refine hKK _ _ (fun _ => ⟨c0, c1, c2⟩) ?_
  clear hKK KK
  simp only [List.setIfInBounds_toArray, List.set_cons_zero, List.set_cons_succ]
  refine wpTill_ready (rs := [18]) (by kernel_rfl) (by simp) ?_
  refine (AllTill.cons rfl (fun KK hKK => ?_) AllTill.nil)
  rw [if_pos (by rfl)]
  go_simp
  refine hKK _ _ (fun h0 => by cases h0) ?_
  clear hKK KK
  simp only [List.setIfInBounds_toArray, List.set_cons_zero, List.set_cons_succ]
  refine wpTill_ready (rs := [19]) (by kernel_rfl) (by simp) ?_
  refine (AllTill.cons rfl (fun KK hKK => ?_) AllTill.nil)
  rw [if_pos (by rfl)]
  go_simp
  refine hKK _ _ (fun h0 => by cases h0) ?_
  clear hKK KK
  simp only [List.setIfInBounds_toArray, List.set_cons_zero, List.set_cons_succ]
  refine wpTill_ready (rs := [20]) (by kernel_rfl) (by simp) ?_
  refine (AllTill.cons rfl (fun KK hKK => ?_) AllTill.nil)
  rw [if_pos (by rfl)]
  go_simp
  refine hKK _ _ (fun h0 => by cases h0) ?_
  clear hKK KK
  simp only [List.setIfInBounds_toArray, List.set_cons_zero, List.set_cons_succ]
  refine wpTill_ready (rs := [21]) (by kernel_rfl) (by simp) ?_
  refine (AllTill.cons rfl (fun KK hKK => ?_) AllTill.nil)
  rw [if_pos (by rfl)]
  go_simp
  refine hKK _ _ (fun h0 => by cases h0) ?_
  clear hKK KK
  simp only [List.setIfInBounds_toArray, List.set_cons_zero, List.set_cons_succ]
  refine wpTill_ready (rs := [22]) (by kernel_rfl) (by simp) ?_
  refine (AllTill.cons rfl (fun KK hKK => ?_) AllTill.nil)
  rw [if_pos (by rfl)]
  go_simp
  refine hKK _ _ (fun h0 => by cases h0) ?_
  clear hKK KK
  simp only [List.setIfInBounds_toArray, List.set_cons_zero, List.set_cons_succ]
  refine wpTill_done (by kernel_rfl) ?_ _
  (try simp only [noPanic])
  simp only [Exit.then]
  obtain ⟨k1, g1⟩ := but_set (i := 0) (.string ⟨m1.toArray⟩) HB3.out
  obtain ⟨k2, g2⟩ := but_set (i := 1) (.string ⟨t1.toArray⟩) g1
  obtain ⟨k3, g3⟩ := but_set (i := 2) (.slice A3 (cutHs hs).length n3) g2
  have HK4 := Lib.hid ((k1.trans k2).trans k3)
  have HB4 : Hid ((((W3.setCell ⟨w.heap.size, 0, none⟩ (.string ⟨m1.toArray⟩)).setCell ⟨w.heap.size, 1, none⟩ (.string ⟨t1.toArray⟩)).setCell ⟨w.heap.size, 2, none⟩ (.slice A3 (cutHs hs).length n3)).heap[w.heap.size]? = some (.cells #[.string ⟨m1.toArray⟩, .string ⟨t1.toArray⟩, .slice A3 (cutHs hs).length n3, .slice B bd.length d] 26 (0, 0))) := Lib.hid g3
  generalize ((W3.setCell ⟨w.heap.size, 0, none⟩ (.string ⟨m1.toArray⟩)).setCell ⟨w.heap.size, 1, none⟩ (.string ⟨t1.toArray⟩)).setCell ⟨w.heap.size, 2, none⟩ (.slice A3 (cutHs hs).length n3) = W4 at HK4 HB4 ⊢
  have hbig : w.heap.size + 1 < W2.heap.size := (Array.getElem?_eq_some_iff.1 HZd.out).1
  have HW4 := Lib.hid (HW3.out.trans (HK4.out.to HW3.out.size (by simp)))
  have HZ4 := Lib.hid (HK4.out.blk HZ3.out (by simp))
  have HO4 := Lib.hid (HO3.out.but HK4.out (by simp; omega))
  obtain ⟨A4', c4', hA4', _, hH4⟩ := HO4.out.heads
  obtain ⟨rfl, rfl⟩ : A4' = A3 ∧ c4' = n3 := by injection hA4' with e1 e2 e3; exact ⟨e1.symm, e3.symm⟩
  have HH4 := Lib.hid hH4
  have hA3 : Hid (∀ b o, A4' = some ⟨b, o, none⟩ → W2.heap.size ≤ b) := Lib.hid (HO4.out.addr)
  have hs24 : W2.heap.size ≤ W4.heap.size := by have := HK4.out.size; omega
  clear k1 k2 k3 g1 g2 g3 hA4' hH4 HK4 HO3 HO4 HB3 HZ3 HW3 c0 c1 c2 c3 f0 f1 f2 f3 hm1 hm2 he1 he2 HSA HHD
  have HB4b := Lib.hid (below_box W4 (.cells #[] 5))
  obtain ⟨c0, c1, c2, c3⟩ := blk4 (blk_next HB4b.out HB4.out)
  have hw44 := HW4.out.size
  have hcb := HCB.out _ (HW4.out.trans (HB4b.out.mono HW4.out.size))
  have hown := own_empty (B := W4.heap.size) W4 (Nat.le_refl _)
  have HCBB := Lib.hid hcb
  have HOWN := Lib.hid hown
  clear hcb hown
  have H5X : Hid (∀ W5, Below W4.heap.size (W4.alloc (.cells #[] 5)) W5 → Below W4.heap.size W4 W5 ∧ W5.heap[w.heap.size]? = some (.cells #[.string ⟨m1.toArray⟩, .string ⟨t1.toArray⟩, .slice A4' (cutHs hs).length c4', .slice B bd.length d] 26 (0, 0)) ∧ W5.heap[w.heap.size + 1]? = some (.cells #[.string ⟨#[]⟩, .string ⟨#[]⟩, .slice none 0 0, .slice none 0 0] 26 (0, 0))) := Lib.hid (fun W5 hb => by
    have hx := HB4b.out.trans hb
    exact ⟨hx, (hx.block w.heap.size (by omega)).trans HB4.out, (hx.block (w.heap.size + 1) (by omega)).trans HZ4.out⟩)
  go_wp2_with (at_builtin; refine wpList_app_row rfl _ _ rfl HOWN.out rfl b1 _ _ rfl HCBB.out (by omega) ?_; intro v5 W5 hO5 hb5 hg5; rw [Nat.zero_add, List.nil_append] at hO5; obtain ⟨A5, n5, rfl⟩ := own_shape hO5; have HO5 := Lib.hid hO5; have HX5 := Lib.hid (H5X.out W5 hb5); clear hO5 hb5 hg5 c0 c1 c2 c3; obtain ⟨c0, c1, c2, c3⟩ := blk4 HX5.out.2.1; obtain ⟨e0, e1, e2, e3⟩ := blk4_free HX5.out.2.1; obtain ⟨d0, d1, d2, d3⟩ := blk4 HX5.out.2.2; obtain ⟨f0, f1, f2, f3⟩ := blk4_free HX5.out.2.2)
  obtain ⟨k1, g1⟩ := but_set (i := 3) (.slice A5 b1.length n5) HX5.out.2.1
  have g1' : (W5.setCell ⟨w.heap.size, 3, none⟩ (.slice A5 b1.length n5)).heap[w.heap.size]? = some (.cells #[.string ⟨m1.toArray⟩, .string ⟨t1.toArray⟩, .slice A4' (cutHs hs).length c4', .slice A5 b1.length n5] 26 (0, 0)) := g1
  have g2 := k1.blk HX5.out.2.2 (by simp)
  have HS := Lib.hid (rq_set (x := .string ⟨m1.toArray⟩) (y := .string ⟨t1.toArray⟩) (z := .slice A4' (cutHs hs).length c4') (u := .slice A5 b1.length n5) g2)
  have HK6 := Lib.hid k1
  clear k1 g1 g1' g2
  (try simp only [Exit.inBlock, Exit.then])
  refine bodyPost_ret (results_row1 rfl _ _ _ (w.heap.size + 1) _ rfl (rq_load HS.out.2)) rfl ?_
  have hA := hA3.out
  have hx := HX5.out.1
  have hh := ((HH4.out.next hx (Nat.le_refl _)).but HK6.out (fun b o e => by have := hA b o e; simp; omega)).but HS.out.1 (fun b o e => by have := hA b o e; simp; omega)
  have ho := (HO5.out.but HK6.out (by simp; omega)).but HS.out.1 (by simp; omega)
  obtain ⟨A9, n9, e9, hcap, _, hc9⟩ := ho.bytes
  obtain ⟨rfl, rfl⟩ : A9 = A5 ∧ n9 = n5 := by injection e9 with e1 e2 e3; exact ⟨e1.symm, e3.symm⟩
  have hz := HW4.out.trans (hx.mono HW4.out.size)
  have hz2 := hz.trans (HK6.out.to hz.size (by simp))
  exact ⟨A4', c4', A9, n9, rfl, HFIN.out _ _ _ hh hc9, fun b o e => by have := hA b o e; omega, fun b o e => by have := HO5.out.addr b o e; omega, hz2.trans (HS.out.1.to hz2.size (by simp)), hcap⟩
theorem request_any (r : Ht.Req) (A : Option Addr) (c : Nat) (B : Option Addr) (d : Nat) (w : World) (h : ReqIn w r A B) (hbd : r.body.length ≤ d) :
    Calls Tryz.prog 23 #[reqV r A c B d] w fun e w' => ∃ A' c' B' d', e = .returned (reqV (cutQ r) A' c' B' d') ∧ ReqAt w' (cutQ r) A' B' ∧ NewAt w.heap.size A' ∧ NewAt w.heap.size B' ∧ Below w.heap.size w w' := by
  refine (request_full r A c B d w h hbd).mono ?_
  rintro e w' ⟨A', c', B', d', h1, h2, h3, h4, h5, _⟩
  exact ⟨A', c', B', d', h1, h2, h3, h4, h5⟩
end Go.Proofs.YtoadahommlcjpaaGreatDoor
