/-
 The document's Answer. CONDITIONS: the rows lie as AnsRows says; they are not too long.
-/
import Derived.Test.YtimioelnnhnbiaaGreatDoorS32
namespace Go.Proofs.YtimioelnnhnbiaaGreatDoor
open Go.RowKit
set_option maxRecDepth 100000 in
set_option maxHeartbeats 16000000 in
theorem refAnswer_any (b : PAnswer) (Af : Option Addr) (cf : Nat) (Ac : Option Addr) (cc : Nat) (Ai : Option Addr) (ci : Nat) (w : World) (hR : AnsRows w b Af cf Ac cc Ai ci) (hlen : b.files.length ≤ 1000000 ∧ b.clashes.length ≤ 1000000 ∧ b.ids.length ≤ 1000000) :
  Calls Tryz.prog 12 #[.agg (ansA b Af cf Ac cc Ai ci)] w fun e w' => Below w.heap.size w w' ∧ ∃ us, e = .returned (.agg us.toArray) ∧ JV w' (fun g => w.heap.size ≤ g) (ansJ b) us := by
 have HR : Hid (∀ W, Below w.heap.size w W → AnsRows W b Af cf Ac cc Ai ci) := Lib.hid (fun W hW => hR.next hW)
 have HLEN := Lib.hid hlen
 clear hR hlen
 have b1 := below_box w (.cells (ansA b Af cf Ac cc Ai ci) 49)
 have s1 : (w.alloc (.cells (ansA b Af cf Ac cc Ai ci) 49)).heap.size = w.heap.size + 1 := by simp
 have e1 := heap_alloc_new w (.cells (ansA b Af cf Ac cc Ai ci) 49)
 have b2 := below_box (w.alloc (.cells (ansA b Af cf Ac cc Ai ci) 49)) (.cells #[.int .i64 0, .bool false, .int .i64 0, .string ⟨#[]⟩, .slice none 0 0, .slice none 0 0] 25)
 have e2 : JBox _ _ _ _ _ _ _ _ := heap_alloc_new (w.alloc (.cells (ansA b Af cf Ac cc Ai ci) 49)) (.cells #[.int .i64 0, .bool false, .int .i64 0, .string ⟨#[]⟩, .slice none 0 0, .slice none 0 0] 25)
 rw [s1] at e2
 have HF0 : Fr w w.heap.size (ansA b Af cf Ac cc Ai ci) 49 (NB w.heap.size []) [] ((w.alloc (.cells (ansA b Af cf Ac cc Ai ci) 49)).alloc (.cells #[.int .i64 0, .bool false, .int .i64 0, .string ⟨#[]⟩, .slice none 0 0, .slice none 0 0] 25)) := ⟨blk_next b2 e1, e2, (fun p hp => by cases hp), b1.trans (b2.mono (by rw [s1]; omega))⟩
 clear b1 s1 e1 b2 e2
 go_enter Tryz.func12, Tryz.ntmps12
 go_upto_region 1 with fail
 generalize ((w.alloc (.cells (ansA b Af cf Ac cc Ai ci) 49)).alloc (.cells #[.int .i64 0, .bool false, .int .i64 0, .string ⟨#[]⟩, .slice none 0 0, .slice none 0 0] 25)) = w2 at HF0 ⊢
 have HF := Lib.hid HF0
 clear HF0
 obtain ⟨N, hN⟩ : ∃ N, w.heap.size = N := ⟨_, rfl⟩
 rw [hN] at HF HR ⊢
 have HN := Lib.hid hN
 clear hN
 have HL : Hid (∀ y ∈ ([] : List Nat), y < w2.heap.size) := Lib.hid (fun y hy => by cases hy)
 have q0 : w2.cell? ⟨N, 1, none⟩ = some (.int .i64 b.plErr) := (blk_cells HF.out.arg 1).trans rfl
 go_wp2_with fail
 refine (refNumber_leaf b.plErr w2).mono ?_
 rintro e W1 ⟨rfl, hb⟩
 clear q0
 have HF1 := Lib.hid (HF.out.next hb)
 have HL1 : Hid (∀ y ∈ ([] : List Nat), y < W1.heap.size) := Lib.hid (fun y hy => Nat.lt_of_lt_of_le (HL.out y hy) hb.size)
 clear hb HF HL
 have HF := HF1
 have HL := HL1
 clear HF1 HL1
 go_wp2_with fail
 refine (with_S (.mk 0 false 0 [] [] []) [101, 114, 114] (jNum b.plErr) _ _ (NB N []) W1 (JV.leaf W1 _ 0 false 0 []) (JV.leaf W1 _ 3 false b.plErr []) (fun g hg => NB.new HF.out.size HL.out hg) (by decide)).mono ?_
 rintro e W2 ⟨hb, vs100, rfl, hjv⟩
 have HF1 := Lib.hid (HF.out.next hb)
 have HL1 : Hid (∀ y ∈ ([] : List Nat), y < W2.heap.size) := Lib.hid (fun y hy => Nat.lt_of_lt_of_le (HL.out y hy) hb.size)
 clear hb HF HL
 have HF := HF1
 have HL := HL1
 clear HF1 HL1
 have HJ : Hid (JV W2 (NB N []) (.mk 6 false 0 [] [] [([101, 114, 114], jNum b.plErr)]) vs100) := Lib.hid hjv
 have hvs := hjv.len
 have hone := hjv.one
 clear hjv
 have hZ9 : (W2.alloc (.cells #[.int .i64 0, .bool false, .int .i64 0, .string ⟨#[]⟩, .slice none 0 0, .slice none 0 0] 25)).heap[W2.heap.size]? = some (.cells #[.int .i64 0, .bool false, .int .i64 0, .string ⟨#[]⟩, .slice none 0 0, .slice none 0 0] 25 (0, 0)) := heap_alloc_new W2 (.cells #[.int .i64 0, .bool false, .int .i64 0, .string ⟨#[]⟩, .slice none 0 0, .slice none 0 0] 25)
 go_upto_region 2 with (refine wpList_store_row rfl 25 _ _ rfl _ rfl #[.int .i64 0, .bool false, .int .i64 0, .string ⟨#[]⟩, .slice none 0 0, .slice none 0 0] vs100.toArray rfl hZ9 (by simp [hvs]) (by rw [info25s]; simp [hvs]) (by simpa using hone) ?_; intro W3 hk9 hx9)
 have hb := fresh_row hk9
 have HYN := Lib.hid (HF.out.fresh (Nat.le_refl _))
 have HF1 := Lib.hid ((HF.out.wide (fun g h1 h2 => NB.cons h1 h2)).next hb)
 have HJ1 := Lib.hid ((HJ.out.wide (fun g h1 h2 => NB.cons h1 h2)).next hb)
 have HL1 : Hid (∀ y ∈ W2.heap.size :: ([] : List Nat), y < W3.heap.size) := Lib.hid (fun y hy => by
  rcases List.mem_cons.1 hy with rfl | hy
  ·exact (Array.getElem?_eq_some_iff.1 hx9).1
  ·exact Nat.lt_of_lt_of_le (HL.out y hy) hb.size)
 have HY := Lib.hid hx9
 clear hb hk9 hx9 hZ9 hone HF HJ HL
 generalize W2.heap.size = Y3 at HF1 HJ1 HL1 HY HYN ⊢
 have HF := HF1
 have HJ := HJ1
 have HL := HL1
 clear HF1 HJ1 HL1
 go_wp2_with fail
 apply sharedG (F := fun W _ us => Fq w N (ansA b Af cf Ac cc Ai ci) 49 (Y3 :: []) [] W ∧ W.heap[Y3]? = some (.cells us.toArray 25 (0, 0)) ∧ JV W (NB N (Y3 :: [])) (.mk 6 false 0 [] [] [([101, 114, 114], jNum b.plErr), ([102, 105, 108, 101], jNum b.plFile)]) us)
 case tree =>
  intro KEY
  have hf := HYN.out
  refine stageN (G := Fq w N (ansA b Af cf Ac cc Ai ci) 49 (Y3 :: []) []) (S := NB N (Y3 :: [])) (v := jNum b.plFile) Y3 39 (.pointer (some ⟨N, 1, none⟩)) (.pointer (some ⟨N, 2, none⟩)) (.int .i64 b.plFile) (.int .i64 b.plFile) [102, 105, 108, 101] (by kernel_rfl) rfl rfl rfl rfl rfl rfl rfl rfl rfl rfl nx_fq (fun _ _ h hk => h.but hk hf) (fun h => h.2 (by simp)) ⟨HF.out, HL.out⟩ HY.out HJ.out (by kernel_rfl) (fun _ h => h.new) (fun W _ => lf_of (refNumber_leaf b.plFile W) fun _ => jv_n b.plFile) (fun W h => run_ld1 (b := N) (off := 2) rfl (by kernel_rfl) rfl rfl h.fr.arg rfl) (by and_intros <;> (intros; (try and_intros) <;> (intros; kernel_rfl))) (fun _ _ _ _ h => h) (fun _ _ _ _ h => h) (fun _ _ _ _ h => h) (fun _ _ _ _ h => h) (fun u W v h1 h2 h3 => ?_)
  simp only [Exit.then, Act.put, List.getElem_toArray, List.getElem_cons_zero, List.getElem_cons_succ, List.setIfInBounds_toArray, List.set_cons_zero, List.set_cons_succ]
  exact KEY W u v ⟨h1, h2, h3⟩
 case key =>
 clear HF HL HY HJ hvs
 rintro W4 us8 vs103 ⟨⟨f1, f2⟩, f3, f4⟩
 have HF := Lib.hid f1
 have HL := Lib.hid f2
 have HY := Lib.hid f3
 have HJ := Lib.hid f4
 have hvs := f4.len
 clear f1 f2 f3 f4
 go_wp2_with fail
 apply sharedG (F := fun W _ us => Fq w N (ansA b Af cf Ac cc Ai ci) 49 (Y3 :: []) [] W ∧ W.heap[Y3]? = some (.cells us.toArray 25 (0, 0)) ∧ JV W (NB N (Y3 :: [])) (.mk 6 false 0 [] [] [([101, 114, 114], jNum b.plErr), ([102, 105, 108, 101], jNum b.plFile), ([97, 116], jNum b.plAt)]) us)
 case tree =>
  intro KEY
  have hf := HYN.out
  refine stageN (G := Fq w N (ansA b Af cf Ac cc Ai ci) 49 (Y3 :: []) []) (S := NB N (Y3 :: [])) (v := jNum b.plAt) Y3 39 (.pointer (some ⟨N, 1, none⟩)) (.pointer (some ⟨N, 3, none⟩)) (.int .i64 b.plAt) (.int .i64 b.plAt) [97, 116] (by kernel_rfl) rfl rfl rfl rfl rfl rfl rfl rfl rfl rfl nx_fq (fun _ _ h hk => h.but hk hf) (fun h => h.2 (by simp)) ⟨HF.out, HL.out⟩ HY.out HJ.out (by kernel_rfl) (fun _ h => h.new) (fun W _ => lf_of (refNumber_leaf b.plAt W) fun _ => jv_n b.plAt) (fun W h => run_ld1 (b := N) (off := 3) rfl (by kernel_rfl) rfl rfl h.fr.arg rfl) (by and_intros <;> (intros; (try and_intros) <;> (intros; kernel_rfl))) (fun _ _ _ _ h => h) (fun _ _ _ _ h => h) (fun _ _ _ _ h => h) (fun _ _ _ _ h => h) (fun u W v h1 h2 h3 => ?_)
  simp only [Exit.then, Act.put, List.getElem_toArray, List.getElem_cons_zero, List.getElem_cons_succ, List.setIfInBounds_toArray, List.set_cons_zero, List.set_cons_succ]
  exact KEY W u v ⟨h1, h2, h3⟩
 case key =>
 clear HF HL HY HJ hvs
 rintro W5 us8 vs104 ⟨⟨f1, f2⟩, f3, f4⟩
 have HF := Lib.hid f1
 have HL := Lib.hid f2
 have HY := Lib.hid f3
 have HJ := Lib.hid f4
 have hvs := f4.len
 clear f1 f2 f3 f4
 have HF1 : Hid (Fr w N (ansA b Af cf Ac cc Ai ci) 49 (NB N (Y3 :: [])) ((Y3, jPlace b) :: []) W5) := Lib.hid (HF.out.push HYN.out.1 HY.out HJ.out)
 clear HF HY HJ HYN hvs
 have HF := HF1
 clear HF1
 have q0 : W5.cell? ⟨N, 38, none⟩ = some (.int .i64 b.rEnd) := (blk_cells HF.out.arg 38).trans rfl
 go_wp2_with fail
 refine (refNumber_leaf b.rEnd W5).mono ?_
 rintro e W6 ⟨rfl, hb⟩
 clear q0
 have HF1 := Lib.hid (HF.out.next hb)
 have HL1 : Hid (∀ y ∈ ((Y3 :: []) : List Nat), y < W6.heap.size) := Lib.hid (fun y hy => Nat.lt_of_lt_of_le (HL.out y hy) hb.size)
 clear hb HF HL
 have HF := HF1
 have HL := HL1
 clear HF1 HL1
 go_wp2_with fail
 refine (with_S (.mk 0 false 0 [] [] []) [101, 110, 100] (jNum b.rEnd) _ _ (NB N (Y3 :: [])) W6 (JV.leaf W6 _ 0 false 0 []) (JV.leaf W6 _ 3 false b.rEnd []) (fun g hg => NB.new HF.out.size HL.out hg) (by decide)).mono ?_
 rintro e W7 ⟨hb, vs105, rfl, hjv⟩
 have HF1 := Lib.hid (HF.out.next hb)
 have HL1 : Hid (∀ y ∈ ((Y3 :: []) : List Nat), y < W7.heap.size) := Lib.hid (fun y hy => Nat.lt_of_lt_of_le (HL.out y hy) hb.size)
 clear hb HF HL
 have HF := HF1
 have HL := HL1
 clear HF1 HL1
 have HJ : Hid (JV W7 (NB N (Y3 :: [])) (.mk 6 false 0 [] [] [([101, 110, 100], jNum b.rEnd)]) vs105) := Lib.hid hjv
 have hvs := hjv.len
 have hone := hjv.one
 clear hjv
 have hZ9 : (W7.alloc (.cells #[.int .i64 0, .bool false, .int .i64 0, .string ⟨#[]⟩, .slice none 0 0, .slice none 0 0] 25)).heap[W7.heap.size]? = some (.cells #[.int .i64 0, .bool false, .int .i64 0, .string ⟨#[]⟩, .slice none 0 0, .slice none 0 0] 25 (0, 0)) := heap_alloc_new W7 (.cells #[.int .i64 0, .bool false, .int .i64 0, .string ⟨#[]⟩, .slice none 0 0, .slice none 0 0] 25)
 go_upto_region 5 with (refine wpList_store_row rfl 25 _ _ rfl _ rfl #[.int .i64 0, .bool false, .int .i64 0, .string ⟨#[]⟩, .slice none 0 0, .slice none 0 0] vs105.toArray rfl hZ9 (by simp [hvs]) (by rw [info25s]; simp [hvs]) (by simpa using hone) ?_; intro W8 hk9 hx9)
 have hb := fresh_row hk9
 have HYN := Lib.hid (HF.out.fresh (Nat.le_refl _))
 have HF1 := Lib.hid ((HF.out.wide (fun g h1 h2 => NB.cons h1 h2)).next hb)
 have HJ1 := Lib.hid ((HJ.out.wide (fun g h1 h2 => NB.cons h1 h2)).next hb)
 have HL1 : Hid (∀ y ∈ W7.heap.size :: ((Y3 :: []) : List Nat), y < W8.heap.size) := Lib.hid (fun y hy => by
  rcases List.mem_cons.1 hy with rfl | hy
  ·exact (Array.getElem?_eq_some_iff.1 hx9).1
  ·exact Nat.lt_of_lt_of_le (HL.out y hy) hb.size)
 have HY := Lib.hid hx9
 clear hb hk9 hx9 hZ9 hone HF HJ HL
 generalize W7.heap.size = Y4 at HF1 HJ1 HL1 HY HYN ⊢
 have HF := HF1
 have HJ := HJ1
 have HL := HL1
 clear HF1 HJ1 HL1
 go_wp2_with fail
 apply sharedG (F := fun W _ us => Fq w N (ansA b Af cf Ac cc Ai ci) 49 (Y4 :: (Y3 :: [])) ((Y3, jPlace b) :: []) W ∧ W.heap[Y4]? = some (.cells us.toArray 25 (0, 0)) ∧ JV W (NB N (Y4 :: (Y3 :: []))) (.mk 6 false 0 [] [] [([101, 110, 100], jNum b.rEnd), ([111, 117, 116], jText b.rOut)]) us)
 case tree =>
  intro KEY
  have hf := HYN.out
  refine stageN (G := Fq w N (ansA b Af cf Ac cc Ai ci) 49 (Y4 :: (Y3 :: [])) ((Y3, jPlace b) :: [])) (S := NB N (Y4 :: (Y3 :: []))) (v := jText b.rOut) Y4 38 (.pointer (some ⟨N, 38, none⟩)) (.pointer (some ⟨N, 39, none⟩)) (.string (str b.rOut)) (.string (str b.rOut)) [111, 117, 116] (by kernel_rfl) rfl rfl rfl rfl rfl rfl rfl rfl rfl rfl nx_fq (fun _ _ h hk => h.but hk hf) (fun h => h.2 (by simp)) ⟨HF.out, HL.out⟩ HY.out HJ.out (by kernel_rfl) (fun _ h => h.new) (fun W _ => lf_of (refText_leaf (str b.rOut) W) fun _ => jv_t b.rOut) (fun W h => run_ld1 (b := N) (off := 39) rfl (by kernel_rfl) rfl rfl h.fr.arg rfl) (by and_intros <;> (intros; (try and_intros) <;> (intros; kernel_rfl))) (fun _ _ _ _ h => h) (fun _ _ _ _ h => h) (fun _ _ _ _ h => h) (fun _ _ _ _ h => h) (fun u W v h1 h2 h3 => ?_)
  simp only [Exit.then, Act.put, List.getElem_toArray, List.getElem_cons_zero, List.getElem_cons_succ, List.setIfInBounds_toArray, List.set_cons_zero, List.set_cons_succ]
  exact KEY W u v ⟨h1, h2, h3⟩
 case key =>
 clear HF HL HY HJ hvs
 rintro W9 us8 vs108 ⟨⟨f1, f2⟩, f3, f4⟩
 have HF := Lib.hid f1
 have HL := Lib.hid f2
 have HY := Lib.hid f3
 have HJ := Lib.hid f4
 have hvs := f4.len
 clear f1 f2 f3 f4
 go_wp2_with fail
 apply sharedG (F := fun W _ us => Fq w N (ansA b Af cf Ac cc Ai ci) 49 (Y4 :: (Y3 :: [])) ((Y3, jPlace b) :: []) W ∧ W.heap[Y4]? = some (.cells us.toArray 25 (0, 0)) ∧ JV W (NB N (Y4 :: (Y3 :: []))) (.mk 6 false 0 [] [] [([101, 110, 100], jNum b.rEnd), ([111, 117, 116], jText b.rOut), ([119, 104, 121], jText b.rWhy)]) us)
 case tree =>
  intro KEY
  have hf := HYN.out
  refine stageN (G := Fq w N (ansA b Af cf Ac cc Ai ci) 49 (Y4 :: (Y3 :: [])) ((Y3, jPlace b) :: [])) (S := NB N (Y4 :: (Y3 :: []))) (v := jText b.rWhy) Y4 38 (.pointer (some ⟨N, 38, none⟩)) (.pointer (some ⟨N, 40, none⟩)) (.string (str b.rWhy)) (.string (str b.rWhy)) [119, 104, 121] (by kernel_rfl) rfl rfl rfl rfl rfl rfl rfl rfl rfl rfl nx_fq (fun _ _ h hk => h.but hk hf) (fun h => h.2 (by simp)) ⟨HF.out, HL.out⟩ HY.out HJ.out (by kernel_rfl) (fun _ h => h.new) (fun W _ => lf_of (refText_leaf (str b.rWhy) W) fun _ => jv_t b.rWhy) (fun W h => run_ld1 (b := N) (off := 40) rfl (by kernel_rfl) rfl rfl h.fr.arg rfl) (by and_intros <;> (intros; (try and_intros) <;> (intros; kernel_rfl))) (fun _ _ _ _ h => h) (fun _ _ _ _ h => h) (fun _ _ _ _ h => h) (fun _ _ _ _ h => h) (fun u W v h1 h2 h3 => ?_)
  simp only [Exit.then, Act.put, List.getElem_toArray, List.getElem_cons_zero, List.getElem_cons_succ, List.setIfInBounds_toArray, List.set_cons_zero, List.set_cons_succ]
  exact KEY W u v ⟨h1, h2, h3⟩
 case key =>
 clear HF HL HY HJ hvs
 rintro W10 us8 vs109 ⟨⟨f1, f2⟩, f3, f4⟩
 have HF := Lib.hid f1
 have HL := Lib.hid f2
 have HY := Lib.hid f3
 have HJ := Lib.hid f4
 have hvs := f4.len
 clear f1 f2 f3 f4
 go_wp2_with fail
 apply sharedG (F := fun W _ us => Fq w N (ansA b Af cf Ac cc Ai ci) 49 (Y4 :: (Y3 :: [])) ((Y3, jPlace b) :: []) W ∧ W.heap[Y4]? = some (.cells us.toArray 25 (0, 0)) ∧ JV W (NB N (Y4 :: (Y3 :: []))) (.mk 6 false 0 [] [] [([101, 110, 100], jNum b.rEnd), ([111, 117, 116], jText b.rOut), ([119, 104, 121], jText b.rWhy), ([115, 116, 101, 112, 115], jNum b.rSteps)]) us)
 case tree =>
  intro KEY
  have hf := HYN.out
  refine stageN (G := Fq w N (ansA b Af cf Ac cc Ai ci) 49 (Y4 :: (Y3 :: [])) ((Y3, jPlace b) :: [])) (S := NB N (Y4 :: (Y3 :: []))) (v := jNum b.rSteps) Y4 39 (.pointer (some ⟨N, 38, none⟩)) (.pointer (some ⟨N, 41, none⟩)) (.int .i64 b.rSteps) (.int .i64 b.rSteps) [115, 116, 101, 112, 115] (by kernel_rfl) rfl rfl rfl rfl rfl rfl rfl rfl rfl rfl nx_fq (fun _ _ h hk => h.but hk hf) (fun h => h.2 (by simp)) ⟨HF.out, HL.out⟩ HY.out HJ.out (by kernel_rfl) (fun _ h => h.new) (fun W _ => lf_of (refNumber_leaf b.rSteps W) fun _ => jv_n b.rSteps) (fun W h => run_ld1 (b := N) (off := 41) rfl (by kernel_rfl) rfl rfl h.fr.arg rfl) (by and_intros <;> (intros; (try and_intros) <;> (intros; kernel_rfl))) (fun _ _ _ _ h => h) (fun _ _ _ _ h => h) (fun _ _ _ _ h => h) (fun _ _ _ _ h => h) (fun u W v h1 h2 h3 => ?_)
  simp only [Exit.then, Act.put, List.getElem_toArray, List.getElem_cons_zero, List.getElem_cons_succ, List.setIfInBounds_toArray, List.set_cons_zero, List.set_cons_succ]
  exact KEY W u v ⟨h1, h2, h3⟩
 case key =>
 clear HF HL HY HJ hvs
 rintro W11 us8 vs110 ⟨⟨f1, f2⟩, f3, f4⟩
 have HF := Lib.hid f1
 have HL := Lib.hid f2
 have HY := Lib.hid f3
 have HJ := Lib.hid f4
 have hvs := f4.len
 clear f1 f2 f3 f4
 have HF1 : Hid (Fr w N (ansA b Af cf Ac cc Ai ci) 49 (NB N (Y4 :: (Y3 :: []))) ((Y4, jRan b) :: ((Y3, jPlace b) :: [])) W11) := Lib.hid (HF.out.push HYN.out.1 HY.out HJ.out)
 clear HF HY HJ HYN hvs
 have HF := HF1
 clear HF1
 have b1 := below_box W11 (.cells #[.int .i64 5, .bool false, .int .i64 0, .string ⟨#[]⟩, .slice none 0 0, .slice none 0 0] 25)
 have s1 : (W11.alloc (.cells #[.int .i64 5, .bool false, .int .i64 0, .string ⟨#[]⟩, .slice none 0 0, .slice none 0 0] 25)).heap.size = W11.heap.size + 1 := by simp
 have e1 : JBox _ _ _ _ _ _ _ _ := heap_alloc_new W11 (.cells #[.int .i64 5, .bool false, .int .i64 0, .string ⟨#[]⟩, .slice none 0 0, .slice none 0 0] 25)
 have b2 := below_box (W11.alloc (.cells #[.int .i64 5, .bool false, .int .i64 0, .string ⟨#[]⟩, .slice none 0 0, .slice none 0 0] 25)) (.cells #[.int .i64 5, .bool false, .int .i64 0, .string ⟨#[]⟩, .slice none 0 0, .slice none 0 0] 25)
 have e2 : JBox _ _ _ _ _ _ _ _ := heap_alloc_new (W11.alloc (.cells #[.int .i64 5, .bool false, .int .i64 0, .string ⟨#[]⟩, .slice none 0 0, .slice none 0 0] 25)) (.cells #[.int .i64 5, .bool false, .int .i64 0, .string ⟨#[]⟩, .slice none 0 0, .slice none 0 0] 25)
 have s2 : ((W11.alloc (.cells #[.int .i64 5, .bool false, .int .i64 0, .string ⟨#[]⟩, .slice none 0 0, .slice none 0 0] 25)).alloc (.cells #[.int .i64 5, .bool false, .int .i64 0, .string ⟨#[]⟩, .slice none 0 0, .slice none 0 0] 25)).heap.size = W11.heap.size + 2 := by simp
 rw [s1] at e2
 have HF1 : Hid (Fr w N (ansA b Af cf Ac cc Ai ci) 49 (fun g => g < W11.heap.size + 2 ∧ NB N ((W11.heap.size + 1) :: W11.heap.size :: (Y4 :: (Y3 :: []))) g) ((Y4, jRan b) :: ((Y3, jPlace b) :: [])) ((W11.alloc (.cells #[.int .i64 5, .bool false, .int .i64 0, .string ⟨#[]⟩, .slice none 0 0, .slice none 0 0] 25)).alloc (.cells #[.int .i64 5, .bool false, .int .i64 0, .string ⟨#[]⟩, .slice none 0 0, .slice none 0 0] 25))) := Lib.hid (((HF.out.wide (fun g h1 h2 => ⟨by omega, NB.cons (NB.cons h1 h2) (by omega)⟩)).next b1).next b2)
 have HYB := Lib.hid HF.out.names
 have HN5 := Lib.hid HF.out.size
 have HLB := Lib.hid HL.out
 have HX5 := Lib.hid (e1.next b2)
 have HX6 := Lib.hid e2
 have HS2 := Lib.hid s2
 have HYLT : Hid (W11.heap.size < W11.heap.size + 2) := Lib.hid (by omega)
 clear b1 s1 e1 b2 e2 s2 HF HL
 go_upto_region 9 with fail
 generalize ((W11.alloc (.cells #[.int .i64 5, .bool false, .int .i64 0, .string ⟨#[]⟩, .slice none 0 0, .slice none 0 0] 25)).alloc (.cells #[.int .i64 5, .bool false, .int .i64 0, .string ⟨#[]⟩, .slice none 0 0, .slice none 0 0] 25)) = W12 at HF1 HX5 HX6 HS2 ⊢
 generalize W11.heap.size = Y5 at HF1 HYB HN5 HLB HX5 HX6 HS2 HYLT ⊢
 have HF := HF1
 clear HF1
 have HG0 : Hid (Gr 25 6 JV (fun g => (Y5 + 2) ≤ g) (Y5 + 2) ((b.clashes.take 0).map jClash) (.slice none 0 0) [] W12) := Lib.hid (by rw [← HS2.out]; exact Gr.nil)
 go_wp2_with fail
 go_loopw [7] (fun i wr => ∃ (k : Nat) (Av : Option Addr) (cv : Nat) (rs : List (List Value)), k ≤ b.clashes.length ∧ i = .int .i64 k ∧ Hid (Gr 25 6 JV (fun g => (Y5 + 2) ≤ g) (Y5 + 2) ((b.clashes.take k).map jClash) (.slice Av k cv) rs wr) ∧ Hid (JBox wr Y5 (.int .i64 5) (.bool false) (.int .i64 0) (.string ⟨#[]⟩) (.slice Av k cv) (.slice none 0 0)) ∧ Hid (JBox wr (Y5 + 1) (.int .i64 5) (.bool false) (.int .i64 0) (.string ⟨#[]⟩) (.slice none 0 0) (.slice none 0 0)) ∧ Hid (Fr w N (ansA b Af cf Ac cc Ai ci) 49 (fun g => g < (Y5 + 2) ∧ NB N ((Y5 + 1) :: Y5 :: (Y4 :: (Y3 :: []))) g) ((Y4, jRan b) :: ((Y3, jPlace b) :: [])) wr)) (fun i _ => b.clashes.length - (intOf i).toNat)
 case atStart => exact ⟨0, none, 0, [], by omega, rfl, HG0, HX5, HX6, HF⟩
 case round =>
  clear HF HX5 HX6 HG0
  obtain ⟨k, Av, cv, rs, hk, rfl, HG, HX, HX6, HF⟩ := hrel
  by_cases hlt : k < b.clashes.length
  ·have hsm : b.clashes.length ≤ 1000000 := by have := HLEN.out; omega
   have hcon : decide ((k : Int) < (b.clashes.length : Int)) = true := by simp; omega
   have HLOW := Lib.hid HF.out.low
   obtain ⟨x, hx⟩ : ∃ x, b.clashes[k]? = some x := ⟨b.clashes[k], List.getElem?_eq_getElem hlt⟩
   obtain ⟨g, o, hA1, hg, hcell⟩ := (HR.out wr HLOW.out).clashes k x hx
   subst hA1
   have qc : wr.cell? ⟨N, 37, none⟩ = some (.slice (some ⟨g, o, none⟩) b.clashes.length cc) := (blk_cells HF.out.arg 37).trans rfl
   have q0 : wr.cell? ⟨g, o + k * 7, none⟩ = some (.string (str x.path)) := hcell 0 _ rfl
   have q1 : wr.cell? ⟨g, o + k * 7 + 1, none⟩ = some (.string (str x.base)) := hcell 1 _ rfl
   have q2 : wr.cell? ⟨g, o + k * 7 + 2, none⟩ = some (.string (str x.ours)) := hcell 2 _ rfl
   have q3 : wr.cell? ⟨g, o + k * 7 + 3, none⟩ = some (.string (str x.theirs)) := hcell 3 _ rfl
   have q4 : wr.cell? ⟨g, o + k * 7 + 4, none⟩ = some (.bool x.inBase) := hcell 4 _ rfl
   have q5 : wr.cell? ⟨g, o + k * 7 + 5, none⟩ = some (.bool x.inOurs) := hcell 5 _ rfl
   have q6 : wr.cell? ⟨g, o + k * 7 + 6, none⟩ = some (.bool x.inTheirs) := hcell 6 _ rfl
   have HEL := Lib.hid hx
   clear hx hcell hg HLOW
   have b8 := below_box wr (.cells #[.string (str x.path), .string (str x.base), .string (str x.ours), .string (str x.theirs), .bool x.inBase, .bool x.inOurs, .bool x.inTheirs] 84)
   have e8 := heap_alloc_new wr (.cells #[.string (str x.path), .string (str x.base), .string (str x.ours), .string (str x.theirs), .bool x.inBase, .bool x.inOurs, .bool x.inTheirs] 84)
   have HSZ := Lib.hid HF.out.size
   obtain ⟨N9, hN9⟩ : ∃ N9, wr.heap.size = N9 + 1 := ⟨wr.heap.size - 1, by have := HSZ.out; omega⟩
   rw [hN9] at e8
   have HI0 : Hid (In wr N9 #[.string (str x.path), .string (str x.base), .string (str x.ours), .string (str x.theirs), .bool x.inBase, .bool x.inOurs, .bool x.inTheirs] 84 (wr.alloc (.cells #[.string (str x.path), .string (str x.base), .string (str x.ours), .string (str x.theirs), .bool x.inBase, .bool x.inOurs, .bool x.inTheirs] 84))) := Lib.hid ⟨e8, hN9 ▸ b8⟩
   have HNN := Lib.hid hN9
   clear b8 e8
   go_upto_region 13 with fail
   clear qc q0 q1 q2 q3 q4 q5 q6
   generalize (wr.alloc (.cells #[.string (str x.path), .string (str x.base), .string (str x.ours), .string (str x.theirs), .bool x.inBase, .bool x.inOurs, .bool x.inTheirs] 84)) = wi at HI0 ⊢
   have HI := HI0
   clear HI0
   (try rw [hN9])
   clear hN9
   have HL : Hid (∀ y ∈ ([] : List Nat), y < wi.heap.size) := Lib.hid (fun y hy => by cases hy)
   have q0 : wi.cell? ⟨N9 + 1, 0, none⟩ = some (.string (str x.path)) := (blk_cells HI.out.arg 0).trans rfl
   go_wp2_with fail
   refine (refText_leaf (str x.path) wi).mono ?_
   rintro e W313 ⟨rfl, hb⟩
   clear q0
   have HI1 := Lib.hid (HI.out.next hb)
   have HL1 : Hid (∀ y ∈ ([] : List Nat), y < W313.heap.size) := Lib.hid (fun y hy => Nat.lt_of_lt_of_le (HL.out y hy) hb.size)
   clear hb HI HL
   have HI := HI1
   have HL := HL1
   clear HI1 HL1
   go_wp2_with fail
   refine (with_S (.mk 0 false 0 [] [] []) [112, 97, 116, 104] (jText x.path) _ _ (NB N9 []) W313 (JV.leaf W313 _ 0 false 0 []) (JV.leaf W313 _ 4 false 0 x.path) (fun g hg => NB.new HI.out.size HL.out hg) (by decide)).mono ?_
   rintro e W314 ⟨hb, vs412, rfl, hjv⟩
   have HI1 := Lib.hid (HI.out.next hb)
   have HL1 : Hid (∀ y ∈ ([] : List Nat), y < W314.heap.size) := Lib.hid (fun y hy => Nat.lt_of_lt_of_le (HL.out y hy) hb.size)
   clear hb HI HL
   have HI := HI1
   have HL := HL1
   clear HI1 HL1
   have HJ : Hid (JV W314 (NB N9 []) (.mk 6 false 0 [] [] [([112, 97, 116, 104], jText x.path)]) vs412) := Lib.hid hjv
   have hvs := hjv.len
   have hone := hjv.one
   clear hjv
   have hZ9 : (W314.alloc (.cells #[.int .i64 0, .bool false, .int .i64 0, .string ⟨#[]⟩, .slice none 0 0, .slice none 0 0] 25)).heap[W314.heap.size]? = some (.cells #[.int .i64 0, .bool false, .int .i64 0, .string ⟨#[]⟩, .slice none 0 0, .slice none 0 0] 25 (0, 0)) := heap_alloc_new W314 (.cells #[.int .i64 0, .bool false, .int .i64 0, .string ⟨#[]⟩, .slice none 0 0, .slice none 0 0] 25)
   go_upto_region 14 with (refine wpList_store_row rfl 25 _ _ rfl _ rfl #[.int .i64 0, .bool false, .int .i64 0, .string ⟨#[]⟩, .slice none 0 0, .slice none 0 0] vs412.toArray rfl hZ9 (by simp [hvs]) (by rw [info25s]; simp [hvs]) (by simpa using hone) ?_; intro W315 hk9 hx9)
   have hb := fresh_row hk9
   have HYN := Lib.hid (HI.out.fresh (Nat.le_refl _))
   have HI1 := Lib.hid (HI.out.next hb)
   have HJ1 := Lib.hid ((HJ.out.wide (fun g h1 h2 => NB.cons h1 h2)).next hb)
   have HL1 : Hid (∀ y ∈ W314.heap.size :: ([] : List Nat), y < W315.heap.size) := Lib.hid (fun y hy => by
    rcases List.mem_cons.1 hy with rfl | hy
    ·exact (Array.getElem?_eq_some_iff.1 hx9).1
    ·exact Nat.lt_of_lt_of_le (HL.out y hy) hb.size)
   have HY := Lib.hid hx9
   clear hb hk9 hx9 hZ9 hone HI HJ HL
   generalize W314.heap.size = Y9 at HI1 HJ1 HL1 HY HYN ⊢
   have HI := HI1
   have HJ := HJ1
   have HL := HL1
   clear HI1 HJ1 HL1
   go_wp2_with fail
   apply sharedG (F := fun W _ us => Iq wr N9 #[.string (str x.path), .string (str x.base), .string (str x.ours), .string (str x.theirs), .bool x.inBase, .bool x.inOurs, .bool x.inTheirs] 84 (Y9 :: []) W ∧ W.heap[Y9]? = some (.cells us.toArray 25 (0, 0)) ∧ JV W (NB N9 (Y9 :: [])) (.mk 6 false 0 [] [] [([112, 97, 116, 104], jText x.path), ([98, 97, 115, 101], jText x.base)]) us)
   case tree =>
    intro KEY
    have hf := HYN.out
    refine stageF (G := Iq wr N9 #[.string (str x.path), .string (str x.base), .string (str x.ours), .string (str x.theirs), .bool x.inBase, .bool x.inOurs, .bool x.inTheirs] 84 (Y9 :: [])) (S := NB N9 (Y9 :: [])) (v := jText x.base) Y9 38 (.pointer (some ⟨N9 + 1, 1, none⟩)) (.string (str x.base)) (.string (str x.base)) [98, 97, 115, 101] (by kernel_rfl) rfl rfl rfl rfl rfl rfl rfl rfl rfl nx_iq (fun _ _ h hk => h.but hk hf) (fun h => h.2 (by simp)) ⟨HI.out, HL.out⟩ HY.out HJ.out (by kernel_rfl) (fun _ h => h.new) (fun W _ => lf_of (refText_leaf (str x.base) W) fun _ => jv_t x.base) (fun W h => run_ld1 (b := (N9 + 1)) (off := 1) rfl (by kernel_rfl) rfl rfl h.fr.arg rfl) (by and_intros <;> (intros; (try and_intros) <;> (intros; kernel_rfl))) (fun _ _ _ _ h => h) (fun _ _ _ _ h => h) (fun _ _ _ _ h => h) (fun u W v h1 h2 h3 => ?_)
    simp only [Exit.then, Act.put, List.getElem_toArray, List.getElem_cons_zero, List.getElem_cons_succ, List.setIfInBounds_toArray, List.set_cons_zero, List.set_cons_succ]
    exact KEY W u v ⟨h1, h2, h3⟩
   case key =>
   clear HI HL HY HJ hvs
   rintro W316 us8 vs415 ⟨⟨f1, f2⟩, f3, f4⟩
   have HI := Lib.hid f1
   have HL := Lib.hid f2
   have HY := Lib.hid f3
   have HJ := Lib.hid f4
   have hvs := f4.len
   clear f1 f2 f3 f4
   go_wp2_with fail
   apply sharedG (F := fun W _ us => Iq wr N9 #[.string (str x.path), .string (str x.base), .string (str x.ours), .string (str x.theirs), .bool x.inBase, .bool x.inOurs, .bool x.inTheirs] 84 (Y9 :: []) W ∧ W.heap[Y9]? = some (.cells us.toArray 25 (0, 0)) ∧ JV W (NB N9 (Y9 :: [])) (.mk 6 false 0 [] [] [([112, 97, 116, 104], jText x.path), ([98, 97, 115, 101], jText x.base), ([111, 117, 114, 115], jText x.ours)]) us)
   case tree =>
    intro KEY
    have hf := HYN.out
    refine stageF (G := Iq wr N9 #[.string (str x.path), .string (str x.base), .string (str x.ours), .string (str x.theirs), .bool x.inBase, .bool x.inOurs, .bool x.inTheirs] 84 (Y9 :: [])) (S := NB N9 (Y9 :: [])) (v := jText x.ours) Y9 38 (.pointer (some ⟨N9 + 1, 2, none⟩)) (.string (str x.ours)) (.string (str x.ours)) [111, 117, 114, 115] (by kernel_rfl) rfl rfl rfl rfl rfl rfl rfl rfl rfl nx_iq (fun _ _ h hk => h.but hk hf) (fun h => h.2 (by simp)) ⟨HI.out, HL.out⟩ HY.out HJ.out (by kernel_rfl) (fun _ h => h.new) (fun W _ => lf_of (refText_leaf (str x.ours) W) fun _ => jv_t x.ours) (fun W h => run_ld1 (b := (N9 + 1)) (off := 2) rfl (by kernel_rfl) rfl rfl h.fr.arg rfl) (by and_intros <;> (intros; (try and_intros) <;> (intros; kernel_rfl))) (fun _ _ _ _ h => h) (fun _ _ _ _ h => h) (fun _ _ _ _ h => h) (fun u W v h1 h2 h3 => ?_)
    simp only [Exit.then, Act.put, List.getElem_toArray, List.getElem_cons_zero, List.getElem_cons_succ, List.setIfInBounds_toArray, List.set_cons_zero, List.set_cons_succ]
    exact KEY W u v ⟨h1, h2, h3⟩
   case key =>
   clear HI HL HY HJ hvs
   rintro W317 us8 vs416 ⟨⟨f1, f2⟩, f3, f4⟩
   have HI := Lib.hid f1
   have HL := Lib.hid f2
   have HY := Lib.hid f3
   have HJ := Lib.hid f4
   have hvs := f4.len
   clear f1 f2 f3 f4
   go_wp2_with fail
   apply sharedG (F := fun W _ us => Iq wr N9 #[.string (str x.path), .string (str x.base), .string (str x.ours), .string (str x.theirs), .bool x.inBase, .bool x.inOurs, .bool x.inTheirs] 84 (Y9 :: []) W ∧ W.heap[Y9]? = some (.cells us.toArray 25 (0, 0)) ∧ JV W (NB N9 (Y9 :: [])) (.mk 6 false 0 [] [] [([112, 97, 116, 104], jText x.path), ([98, 97, 115, 101], jText x.base), ([111, 117, 114, 115], jText x.ours), ([116, 104, 101, 105, 114, 115], jText x.theirs)]) us)
   case tree =>
    intro KEY
    have hf := HYN.out
    refine stageF (G := Iq wr N9 #[.string (str x.path), .string (str x.base), .string (str x.ours), .string (str x.theirs), .bool x.inBase, .bool x.inOurs, .bool x.inTheirs] 84 (Y9 :: [])) (S := NB N9 (Y9 :: [])) (v := jText x.theirs) Y9 38 (.pointer (some ⟨N9 + 1, 3, none⟩)) (.string (str x.theirs)) (.string (str x.theirs)) [116, 104, 101, 105, 114, 115] (by kernel_rfl) rfl rfl rfl rfl rfl rfl rfl rfl rfl nx_iq (fun _ _ h hk => h.but hk hf) (fun h => h.2 (by simp)) ⟨HI.out, HL.out⟩ HY.out HJ.out (by kernel_rfl) (fun _ h => h.new) (fun W _ => lf_of (refText_leaf (str x.theirs) W) fun _ => jv_t x.theirs) (fun W h => run_ld1 (b := (N9 + 1)) (off := 3) rfl (by kernel_rfl) rfl rfl h.fr.arg rfl) (by and_intros <;> (intros; (try and_intros) <;> (intros; kernel_rfl))) (fun _ _ _ _ h => h) (fun _ _ _ _ h => h) (fun _ _ _ _ h => h) (fun u W v h1 h2 h3 => ?_)
    simp only [Exit.then, Act.put, List.getElem_toArray, List.getElem_cons_zero, List.getElem_cons_succ, List.setIfInBounds_toArray, List.set_cons_zero, List.set_cons_succ]
    exact KEY W u v ⟨h1, h2, h3⟩
   case key =>
   clear HI HL HY HJ hvs
   rintro W318 us8 vs417 ⟨⟨f1, f2⟩, f3, f4⟩
   have HI := Lib.hid f1
   have HL := Lib.hid f2
   have HY := Lib.hid f3
   have HJ := Lib.hid f4
   have hvs := f4.len
   clear f1 f2 f3 f4
   go_wp2_with fail
   apply sharedG (F := fun W _ us => Iq wr N9 #[.string (str x.path), .string (str x.base), .string (str x.ours), .string (str x.theirs), .bool x.inBase, .bool x.inOurs, .bool x.inTheirs] 84 (Y9 :: []) W ∧ W.heap[Y9]? = some (.cells us.toArray 25 (0, 0)) ∧ JV W (NB N9 (Y9 :: [])) (.mk 6 false 0 [] [] [([112, 97, 116, 104], jText x.path), ([98, 97, 115, 101], jText x.base), ([111, 117, 114, 115], jText x.ours), ([116, 104, 101, 105, 114, 115], jText x.theirs), ([105, 110, 66, 97, 115, 101], jTruth x.inBase)]) us)
   case tree =>
    intro KEY
    have hf := HYN.out
    refine stageF (G := Iq wr N9 #[.string (str x.path), .string (str x.base), .string (str x.ours), .string (str x.theirs), .bool x.inBase, .bool x.inOurs, .bool x.inTheirs] 84 (Y9 :: [])) (S := NB N9 (Y9 :: [])) (v := jTruth x.inBase) Y9 42 (.pointer (some ⟨N9 + 1, 4, none⟩)) (.bool x.inBase) (.bool x.inBase) [105, 110, 66, 97, 115, 101] (by kernel_rfl) rfl rfl rfl rfl rfl rfl rfl rfl rfl nx_iq (fun _ _ h hk => h.but hk hf) (fun h => h.2 (by simp)) ⟨HI.out, HL.out⟩ HY.out HJ.out (by kernel_rfl) (fun _ h => h.new) (fun W _ => lf_of (refTruth_leaf x.inBase W) fun _ => JV.leaf _ _ 2 x.inBase 0 []) (fun W h => run_ld1 (b := (N9 + 1)) (off := 4) rfl (by kernel_rfl) rfl rfl h.fr.arg rfl) (by and_intros <;> (intros; (try and_intros) <;> (intros; kernel_rfl))) (fun _ _ _ _ h => h) (fun _ _ _ _ h => h) (fun _ _ _ _ h => h) (fun u W v h1 h2 h3 => ?_)
    simp only [Exit.then, Act.put, List.getElem_toArray, List.getElem_cons_zero, List.getElem_cons_succ, List.setIfInBounds_toArray, List.set_cons_zero, List.set_cons_succ]
    exact KEY W u v ⟨h1, h2, h3⟩
   case key =>
   clear HI HL HY HJ hvs
   rintro W319 us8 vs418 ⟨⟨f1, f2⟩, f3, f4⟩
   have HI := Lib.hid f1
   have HL := Lib.hid f2
   have HY := Lib.hid f3
   have HJ := Lib.hid f4
   have hvs := f4.len
   clear f1 f2 f3 f4
   go_wp2_with fail
   apply sharedG (F := fun W _ us => Iq wr N9 #[.string (str x.path), .string (str x.base), .string (str x.ours), .string (str x.theirs), .bool x.inBase, .bool x.inOurs, .bool x.inTheirs] 84 (Y9 :: []) W ∧ W.heap[Y9]? = some (.cells us.toArray 25 (0, 0)) ∧ JV W (NB N9 (Y9 :: [])) (.mk 6 false 0 [] [] [([112, 97, 116, 104], jText x.path), ([98, 97, 115, 101], jText x.base), ([111, 117, 114, 115], jText x.ours), ([116, 104, 101, 105, 114, 115], jText x.theirs), ([105, 110, 66, 97, 115, 101], jTruth x.inBase), ([105, 110, 79, 117, 114, 115], jTruth x.inOurs)]) us)
   case tree =>
    intro KEY
    have hf := HYN.out
    refine stageF (G := Iq wr N9 #[.string (str x.path), .string (str x.base), .string (str x.ours), .string (str x.theirs), .bool x.inBase, .bool x.inOurs, .bool x.inTheirs] 84 (Y9 :: [])) (S := NB N9 (Y9 :: [])) (v := jTruth x.inOurs) Y9 42 (.pointer (some ⟨N9 + 1, 5, none⟩)) (.bool x.inOurs) (.bool x.inOurs) [105, 110, 79, 117, 114, 115] (by kernel_rfl) rfl rfl rfl rfl rfl rfl rfl rfl rfl nx_iq (fun _ _ h hk => h.but hk hf) (fun h => h.2 (by simp)) ⟨HI.out, HL.out⟩ HY.out HJ.out (by kernel_rfl) (fun _ h => h.new) (fun W _ => lf_of (refTruth_leaf x.inOurs W) fun _ => JV.leaf _ _ 2 x.inOurs 0 []) (fun W h => run_ld1 (b := (N9 + 1)) (off := 5) rfl (by kernel_rfl) rfl rfl h.fr.arg rfl) (by and_intros <;> (intros; (try and_intros) <;> (intros; kernel_rfl))) (fun _ _ _ _ h => h) (fun _ _ _ _ h => h) (fun _ _ _ _ h => h) (fun u W v h1 h2 h3 => ?_)
    simp only [Exit.then, Act.put, List.getElem_toArray, List.getElem_cons_zero, List.getElem_cons_succ, List.setIfInBounds_toArray, List.set_cons_zero, List.set_cons_succ]
    exact KEY W u v ⟨h1, h2, h3⟩
   case key =>
   clear HI HL HY HJ hvs
   rintro W320 us8 vs419 ⟨⟨f1, f2⟩, f3, f4⟩
   have HI := Lib.hid f1
   have HL := Lib.hid f2
   have HY := Lib.hid f3
   have HJ := Lib.hid f4
   have hvs := f4.len
   clear f1 f2 f3 f4
   have HLW : Hid (Below wr.heap.size wr W320) := Lib.hid (HNN.out ▸ HI.out.low)
   have HG0 := Lib.hid (HG.out.next kept_I HLW.out)
   have HX0 := Lib.hid (HX.out.next HLW.out)
   have HX60 := Lib.hid (HX6.out.next HLW.out)
   have HF0 := Lib.hid (HF.out.next HLW.out)
   have HOW : Hid (∀ j, (Value.slice Av k cv).ownBlock = some j → (Y5 + 2) ≤ j ∧ j < N9 + 1) := Lib.hid (fun j hj => ⟨(HG.out.own.lt j hj).1, by have := (HG.out.own.lt j hj).2; have := HNN.out; omega⟩)
   have HBN : Hid ((Y5 + 2) ≤ N9 + 1) := Lib.hid (by have := HNN.out; have := HG.out.own.le; omega)
   clear HG HX HX6 HF HLW
   go_wp2_with fail
   refine wp_region_any (by kernel_rfl) ?_
   change wpAny _ _ _ _ _ _ _ (World.drew _)
   have hb : Below W320.heap.size W320 W320.drew := below_drewN (Below.refl _ _) 1
   have HG1 := Lib.hid (HG0.out.next kept_I hb)
   have HX1 := Lib.hid (HX0.out.next hb)
   have HX61 := Lib.hid (HX60.out.next hb)
   have HF1 := Lib.hid (HF0.out.next hb)
   have HI1 := Lib.hid (HI.out.next hb)
   have HL1 : Hid (∀ y ∈ ((Y9 :: []) : List Nat), y < W320.drew.heap.size) := Lib.hid (fun y hy => Nat.lt_of_lt_of_le (HL.out y hy) hb.size)
   have HY1 := Lib.hid (blk_next hb HY.out)
   have HJ1 := Lib.hid (HJ.out.next hb)
   clear hb HG0 HX0 HX60 HF0 HI HL HY HJ
   generalize W320.drew = V0 at HG1 HX1 HX61 HF1 HI1 HL1 HY1 HJ1 ⊢
   have HS : Hid ((fun W => W.cell? ⟨Y5, 4, none⟩ = some (.slice Av k cv) ∧ W.heap[Y9]? = some (.cells vs419.toArray 25 (0, 0)) ∧ W.heap[N9 + 1]? = some (.cells #[.string (str x.path), .string (str x.base), .string (str x.ours), .string (str x.theirs), .bool x.inBase, .bool x.inOurs, .bool x.inTheirs] 84 (0, 0))) V0) := Lib.hid ⟨HX1.out.cells.2.2.2.2.1, HY1.out, HI1.out.arg⟩
   refine wpAny_of_till (S := fun W => W.cell? ⟨Y5, 4, none⟩ = some (.slice Av k cv) ∧ W.heap[Y9]? = some (.cells vs419.toArray 25 (0, 0)) ∧ W.heap[N9 + 1]? = some (.cells #[.string (str x.path), .string (str x.base), .string (str x.ours), .string (str x.theirs), .bool x.inBase, .bool x.inOurs, .bool x.inTheirs] 84 (0, 0))) (st := (fun l => l.getD 8 false)) _ _ _ _ ?_
   change wpTill _ _ _ _ _ _ _ #[false, false, false, false, false, false, false, false, false, false, false] _ _
   refine tkF 0 (.pointer (some ⟨Y5, 4, none⟩)) rfl ?yb0 (fun _ => HS.out) ?_
   case yb0 => (intro W0 _; go_simp; (try with_reducible rfl))
   simp only [Act.put, CL]
   refine tk 1 (.slice Av k cv) rfl (fun l h h9 => (Shutd.step h (j := 8) (k := 1) (by kernel_rfl) h9)) (Or.inl ⟨by rfl, ?yb1⟩) HS.out (fun _ => ?_)
   case yb1 => (intro W0 hS; obtain ⟨s1, s2, s3⟩ := hS; go_simp; (try with_reducible rfl))
   simp only [Act.put, CL]
   refine tk 2 (.agg vs419.toArray) rfl (fun l h h9 => (Shutd.step h (j := 6) (k := 2) (by kernel_rfl) (Shutd.step h (j := 8) (k := 6) (by kernel_rfl) h9))) (yieldsIf_load_mid rfl 25 _ rfl Y9 0 rfl vs419 _ (fun W hS j v hv => (blk_cells hS.2.1 (0 + j)).trans (by rw [Nat.zero_add, List.getElem?_toArray]; exact hv)) Tryz.underlying25 rfl (by rw [info25s, hvs])) HS.out (fun _ => ?_)
   simp only [Act.put, CL]
   refine tkF 3 (.pointer (some ⟨N9 + 1, 6, none⟩)) rfl ?yb3 (fun _ => HS.out) ?_
   case yb3 => (intro W0 _; go_simp; (try with_reducible rfl))
   simp only [Act.put, CL]
   refine tk 4 (.bool x.inTheirs) rfl (fun l h h9 => (Shutd.step h (j := 5) (k := 4) (by kernel_rfl) (Shutd.step h (j := 6) (k := 5) (by kernel_rfl) (Shutd.step h (j := 8) (k := 6) (by kernel_rfl) h9)))) (Or.inl ⟨by rfl, ?yb4⟩) HS.out (fun _ => ?_)
   case yb4 => (intro W0 hS; have q0 := (blk_cells hS.2.2 6).trans (show _ = some (.bool x.inTheirs) from rfl); go_simp; (try with_reducible rfl))
   simp only [Act.put, CL]
   refine rdy 5 rfl (fun KK hKK => ?_)
   refine wp_callR 42 #[.bool x.inTheirs] (by kernel_rfl) (refTruth_leaf x.inTheirs V0) ?_
   rintro e V1 ⟨rfl, hb⟩
   refine ⟨_, rfl, ?_⟩
   have HG2 := Lib.hid (HG1.out.next kept_I hb)
   have HX2 := Lib.hid (HX1.out.next hb)
   have HX62 := Lib.hid (HX61.out.next hb)
   have HF2 := Lib.hid (HF1.out.next hb)
   have HI2 := Lib.hid (HI1.out.next hb)
   have HL2 : Hid (∀ y ∈ ((Y9 :: []) : List Nat), y < V1.heap.size) := Lib.hid (fun y hy => Nat.lt_of_lt_of_le (HL1.out y hy) hb.size)
   have HY2 := Lib.hid (blk_next hb HY1.out)
   have HJ2 := Lib.hid (HJ1.out.next hb)
   clear hb HS HG1 HX1 HX61 HF1 HI1 HL1 HY1 HJ1
   have HS : Hid ((fun W => W.cell? ⟨Y5, 4, none⟩ = some (.slice Av k cv) ∧ W.heap[Y9]? = some (.cells vs419.toArray 25 (0, 0)) ∧ W.heap[N9 + 1]? = some (.cells #[.string (str x.path), .string (str x.base), .string (str x.ours), .string (str x.theirs), .bool x.inBase, .bool x.inOurs, .bool x.inTheirs] 84 (0, 0))) V1) := Lib.hid ⟨HX2.out.cells.2.2.2.2.1, HY2.out, HI2.out.arg⟩
   refine hKK _ _ (fun _ => HS.out) ?_
   clear hKK KK
   simp only [Act.put, CL]
   refine rdy 6 rfl (fun KK hKK => ?_)
   refine wp_callR 37 #[.agg vs419.toArray, .string (str [105, 110, 84, 104, 101, 105, 114, 115]), .agg #[.int .i64 2, .bool x.inTheirs, .int .i64 0, .string (⟨#[]⟩), .slice none 0 0, .slice none 0 0]] (by kernel_rfl) (with_S (.mk 6 false 0 [] [] [([112, 97, 116, 104], jText x.path), ([98, 97, 115, 101], jText x.base), ([111, 117, 114, 115], jText x.ours), ([116, 104, 101, 105, 114, 115], jText x.theirs), ([105, 110, 66, 97, 115, 101], jTruth x.inBase), ([105, 110, 79, 117, 114, 115], jTruth x.inOurs)]) [105, 110, 84, 104, 101, 105, 114, 115] (jTruth x.inTheirs) vs419 _ (NB N9 (Y9 :: [])) V1 HJ2.out (JV.leaf V1 _ 2 x.inTheirs 0 []) (fun g hg => NB.new HI2.out.size HL2.out hg) (Nat.le_of_ble_eq_true rfl)) ?_
   rintro e V2 ⟨hb, us, rfl, hju⟩
   refine ⟨_, rfl, ?_⟩
   have HG3 := Lib.hid (HG2.out.next kept_I hb)
   have HX3 := Lib.hid (HX2.out.next hb)
   have HX63 := Lib.hid (HX62.out.next hb)
   have HF3 := Lib.hid (HF2.out.next hb)
   have HI3 := Lib.hid (HI2.out.next hb)
   have HL3 : Hid (∀ y ∈ ((Y9 :: []) : List Nat), y < V2.heap.size) := Lib.hid (fun y hy => Nat.lt_of_lt_of_le (HL2.out y hy) hb.size)
   have HY3 := Lib.hid (blk_next hb HY2.out)
   clear hb HS HG2 HX2 HX62 HF2 HI2 HL2 HY2
   have HJ3 : Hid (JV V2 (fun g => (Y5 + 2) ≤ g ∧ (Value.slice Av k cv).ownBlock ≠ some g) (jClash x) us) := Lib.hid (hju.wide (fun g hg _ => ⟨by have := hg.1; have := HBN.out; omega, fun he => by have := HOW.out g he; have := hg.1; omega⟩))
   clear hju HJ2
   have HS : Hid ((fun W => W.cell? ⟨Y5, 4, none⟩ = some (.slice Av k cv) ∧ W.heap[Y9]? = some (.cells vs419.toArray 25 (0, 0)) ∧ W.heap[N9 + 1]? = some (.cells #[.string (str x.path), .string (str x.base), .string (str x.ours), .string (str x.theirs), .bool x.inBase, .bool x.inOurs, .bool x.inTheirs] 84 (0, 0))) V2) := Lib.hid ⟨HX3.out.cells.2.2.2.2.1, HY3.out, HI3.out.arg⟩
   obtain ⟨A7, c7, A8, c8, k1, b1, n1, t1, l7, l8, rfl⟩ := HJ3.out.shape
   refine hKK _ _ (fun _ => HS.out) ?_
   clear hKK KK
   simp only [Act.put, CL]
   refine rdy 7 rfl (fun KK hKK => ?_)
   go_simp
   have hb := below_box V2 (.cells #[.int .i64 k1, .bool b1, .int .i64 n1, .string t1, .slice A7 l7 c7, .slice A8 l8 c8] 25)
   have HQQ := Lib.hid (heap_alloc_new V2 (.cells #[.int .i64 k1, .bool b1, .int .i64 n1, .string t1, .slice A7 l7 c7, .slice A8 l8 c8] 25))
   have HG4 := Lib.hid (HG3.out.next kept_I hb)
   have HX4 := Lib.hid (HX3.out.next hb)
   have HX64 := Lib.hid (HX63.out.next hb)
   have HF4 := Lib.hid (HF3.out.next hb)
   have HI4 := Lib.hid (HI3.out.next hb)
   have HL4 : Hid (∀ y ∈ ((Y9 :: []) : List Nat), y < (V2.alloc (.cells #[.int .i64 k1, .bool b1, .int .i64 n1, .string t1, .slice A7 l7 c7, .slice A8 l8 c8] 25)).heap.size) := Lib.hid (fun y hy => Nat.lt_of_lt_of_le (HL3.out y hy) hb.size)
   have HY4 := Lib.hid (blk_next hb HY3.out)
   have HJ4 := Lib.hid (HJ3.out.next hb)
   clear hb HS HG3 HX3 HX63 HF3 HI3 HL3 HY3 HJ3
   generalize (V2.alloc (.cells #[.int .i64 k1, .bool b1, .int .i64 n1, .string t1, .slice A7 l7 c7, .slice A8 l8 c8] 25)) = V3 at HQQ HG4 HX4 HX64 HF4 HI4 HL4 HY4 HJ4 ⊢
   obtain ⟨M, hM⟩ : ∃ M, V2.heap.size = M := ⟨_, rfl⟩
   rw [hM] at HQQ ⊢
   clear hM
   have HS : Hid ((fun W => W.cell? ⟨Y5, 4, none⟩ = some (.slice Av k cv) ∧ W.heap[Y9]? = some (.cells vs419.toArray 25 (0, 0)) ∧ W.heap[N9 + 1]? = some (.cells #[.string (str x.path), .string (str x.base), .string (str x.ours), .string (str x.theirs), .bool x.inBase, .bool x.inOurs, .bool x.inTheirs] 84 (0, 0))) V3) := Lib.hid ⟨HX4.out.cells.2.2.2.2.1, HY4.out, HI4.out.arg⟩
   refine hKK _ _ (fun _ => HS.out) ?_
   clear hKK KK
   simp only [Act.put, CL]
   refine rdy 8 rfl (fun KK hKK => ?_)
   obtain ⟨i0, hi, hz0, hz1, hz2⟩ := info_parts info25
   have hlk : ((b.clashes.take k).map jClash).length = k := by rw [List.length_map, List.length_take]; omega
   have hown := HG4.out.own.own
   rw [hlk] at hown
   refine wp_append_lies V3 (.tmp 99) (.tmp 105) 22 rfl (Y5 + 2) 25 i0 zeroJ 6 88 Tryz.underlying22 hi hz0 hz1 hz2 rfl (by decide) (.slice Av k cv) k rs.flatten rfl hown ⟨M, 0, none⟩ 1 1 [.int .i64 k1, .bool b1, .int .i64 n1, .string t1, .slice A7 l7 c7, .slice A8 l8 c8] rfl rfl (World.news_of_block HQQ.out) (by intro u hu; simp at hu; rcases hu with rfl | rfl | rfl | rfl | rfl | rfl <;> rfl) (by decide) (by have := HLEN.out; unfold maxLen; omega) (by have := HLEN.out; omega) HG4.out.own.le V3.heap.size rfl ?_
   intro g9 cap V4 hown3 hgrow hat3 hlt3
   have hNo : ∀ j ∈ (Value.slice Av k cv).ownBlock.toList, (Y5 + 2) ≤ j := by
    intro j hm
    have hm : (Value.slice Av k cv).ownBlock = some j := by simpa using hm
    exact (HG4.out.own.lt j hm).1
   obtain ⟨hG4, hk3⟩ := HG4.out.push kept_I (x := jClash x) (vs := [.int .i64 k1, .bool b1, .int .i64 n1, .string t1, .slice A7 l7 c7, .slice A8 l8 c8]) HJ4.out (by rw [hlk]; exact hown3) hgrow hat3
   rw [hlk] at hG4
   have htk : (b.clashes.take k).map jClash ++ [jClash x] = (b.clashes.take (k + 1)).map jClash := by rw [List.take_add_one, HEL.out, List.map_append]; rfl
   rw [htk] at hG4
   have HG5 := Lib.hid hG4
   have HX5 : Hid (JBox V4 Y5 _ _ _ _ _ _) := Lib.hid (HX4.out.but hk3 (fun hm => by have := hNo _ hm; have := HYLT.out; omega))
   have HX65 : Hid (JBox V4 (Y5 + 1) _ _ _ _ _ _) := Lib.hid (HX64.out.but hk3 (fun hm => by have := hNo _ hm; omega))
   have HF5 := Lib.hid (HF4.out.butR hk3 HN5.out HYB.out (fun j hj => ⟨by have := hNo j hj; have := HYLT.out; omega, .inl (hNo j hj)⟩))
   clear hG4 hk3 hNo hgrow hown3 hown htk hat3 hlt3 hi hz0 hz1 hz2 hlk HG4 HX4 HX64 HF4 HI4 HL4 HY4 HJ4 HS HQQ
   refine hKK _ _ (fun h0 => absurd h0 (by decide)) ?_
   clear hKK KK
   simp only [Act.put, CL]
   refine tkF 9 (.pointer (some ⟨Y5, 4, none⟩)) rfl ?yb9 (fun h0 => absurd h0 (by decide)) ?_
   case yb9 => (intro W0 _; go_simp; (try with_reducible rfl))
   simp only [Act.put, CL]
   refine rdy 10 rfl (fun KK hKK => ?_)
   obtain ⟨hk4, hx4⟩ := but_set (i := 4) (.slice (some ⟨g9, 0, none⟩) (k + 1) cap) HX5.out
   have HG6 := Lib.hid (HG5.out.but kept_I hk4 (by intro j hj; simp at hj; have := HYLT.out; omega) (by intro j hj; simp at hj; have := HYLT.out; omega))
   have HX7 : Hid (JBox (V4.setCell ⟨Y5, 4, none⟩ (.slice (some ⟨g9, 0, none⟩) (k + 1) cap)) Y5 (.int .i64 5) (.bool false) (.int .i64 0) (.string ⟨#[]⟩) (.slice (some ⟨g9, 0, none⟩) (k + 1) cap) (.slice none 0 0)) := Lib.hid hx4
   have HX66 := Lib.hid (HX65.out.but hk4 (by simp))
   have HF6 := Lib.hid (HF5.out.butR hk4 HN5.out HYB.out (fun j hj => by simp at hj; subst hj; exact ⟨Nat.le_refl _, .inr (by simp)⟩))
   obtain ⟨x0, x1, x2, x3, x4, x5⟩ := HX5.out.cells
   obtain ⟨f0, f1, f2, f3, f4, f5⟩ := HX5.out.frees
   clear hk4 hx4
   go_simp
   clear x0 x1 x2 x3 x4 x5 f0 f1 f2 f3 f4 f5
   refine hKK _ _ (fun h0 => absurd h0 (by decide)) ?_
   clear hKK KK
   simp only [Act.put, CL]
   refine wpTill_done (by kernel_rfl) ?_ _
   (try simp only [Exit.then])
   go_wp2_with fail
   go_roundw
   case rel => exact ⟨k + 1, _, _, _, by omega, by go_num, HG6, HX7, HX66, HF6⟩
   case measure => simp [intOf]; omega
  ·obtain rfl : k = b.clashes.length := by omega
   have hcon : decide (((b.clashes.length : Nat) : Int) < (b.clashes.length : Int)) = false := by simp
   have qc : wr.cell? ⟨N, 37, none⟩ = some (.slice Ac b.clashes.length cc) := (blk_cells HF.out.arg 37).trans rfl
   have HV : Hid (JV wr (fun g => g < wr.heap.size ∧ NB N ((Y5 + 1) :: Y5 :: (Y4 :: (Y3 :: []))) g) (jList (b.clashes.map jClash)) [.int .i64 5, .bool false, .int .i64 0, .string ⟨#[]⟩, .slice Av b.clashes.length cv, .slice none 0 0]) := Lib.hid (by
    have h1 := HG.out.list 5 false 0 []
    rw [List.take_length] at h1
    exact h1.wide (fun g hg h2 => by
     rcases hg with hg | hg
     ·exact ⟨h2, by have := HN5.out; omega, fun hm => by
       rcases List.mem_cons.1 hm with rfl | hm
       ·omega
       rcases List.mem_cons.1 hm with rfl | hm
       ·omega
       ·have := HLB.out g hm; omega⟩
     ·exact ⟨h2, by have := HN5.out; omega, fun hm => by
       rcases List.mem_cons.1 hm with rfl | hm
       ·omega
       rcases List.mem_cons.1 hm with rfl | hm
       ·omega
       ·have := HLB.out g hm; omega⟩))
   have HF1 : Hid (Fr w N (ansA b Af cf Ac cc Ai ci) 49 (fun g => g < wr.heap.size ∧ NB N ((Y5 + 1) :: Y5 :: (Y4 :: (Y3 :: []))) g) ((Y5, jList (b.clashes.map jClash)) :: ((Y4, jRan b) :: ((Y3, jPlace b) :: []))) wr) := Lib.hid ((HF.out.wide (fun g h1 h2 => ⟨h2, h1.2⟩)).push HN5.out HX.out HV.out)
   have HYB1 : Hid (∀ y ∈ ((Y5, jList (b.clashes.map jClash)) :: ((Y4, jRan b) :: ((Y3, jPlace b) :: []))).map (·.1), y < Y5 + 1) := Lib.hid (fun y hy => by
    rw [List.map_cons] at hy
    rcases List.mem_cons.1 hy with rfl | hy
    ·exact Nat.lt_succ_self _
    ·have := HYB.out y hy; omega)
   have HN6 : Hid (N + 2 ≤ Y5 + 1) := Lib.hid (by have := HN5.out; omega)
   have HYLT1 : Hid (Y5 + 1 < wr.heap.size) := Lib.hid HX6.out.lt
   clear HF HX HG HV HYB HN5 HYLT
   have HF := HF1
   have HYB := HYB1
   have HN5 := HN6
   have HYLT := HYLT1
   clear HF1 HYB1 HN6 HYLT1
   obtain ⟨B2, hB2⟩ : ∃ B2, wr.heap.size = B2 := ⟨_, rfl⟩
   have HB2 := Lib.hid hB2
   rw [hB2] at HF HYLT
   clear hB2
   rename World => wl
   have HG0 : Hid (Gr 25 6 JV (fun _ => False) B2 ((b.ids.take 0).map jId) (.slice none 0 0) [] wl) := Lib.hid (by rw [← HB2.out]; exact Gr.nil)
   go_wp2_with fail
   go_loopw [10] (fun i wr => ∃ (k : Nat) (Av : Option Addr) (cv : Nat) (rs : List (List Value)), k ≤ b.ids.length ∧ i = .int .i64 k ∧ Hid (Gr 25 6 JV (fun _ => False) B2 ((b.ids.take k).map jId) (.slice Av k cv) rs wr) ∧ Hid (JBox wr (Y5 + 1) (.int .i64 5) (.bool false) (.int .i64 0) (.string ⟨#[]⟩) (.slice Av k cv) (.slice none 0 0)) ∧ Hid (Fr w N (ansA b Af cf Ac cc Ai ci) 49 (fun g => g < B2 ∧ NB N ((Y5 + 1) :: Y5 :: (Y4 :: (Y3 :: []))) g) ((Y5, jList (b.clashes.map jClash)) :: ((Y4, jRan b) :: ((Y3, jPlace b) :: []))) wr)) (fun i _ => b.ids.length - (intOf i).toNat)
   case atStart => exact ⟨0, none, 0, [], by omega, rfl, HG0, HX6, HF⟩
   case round =>
    clear HF HX6 HG0
    obtain ⟨k, Av, cv, rs, hk, rfl, HG, HX, HF⟩ := hrel
    by_cases hlt : k < b.ids.length
    ·have hsm : b.ids.length ≤ 1000000 := by have := HLEN.out; omega
     have hcon : decide ((k : Int) < (b.ids.length : Int)) = true := by simp; omega
     have HLOW := Lib.hid HF.out.low
     obtain ⟨x, hx⟩ : ∃ x, b.ids[k]? = some x := ⟨b.ids[k], List.getElem?_eq_getElem hlt⟩
     obtain ⟨g, o, hA1, hg, hcell⟩ := (HR.out wr HLOW.out).ids k x hx
     subst hA1
     have qc : wr.cell? ⟨N, 42, none⟩ = some (.slice (some ⟨g, o, none⟩) b.ids.length ci) := (blk_cells HF.out.arg 42).trans rfl
     have q0 : wr.rangeAt g (o + k * 32) (idC x) := fun j v hv => hcell j v hv
     have HY := Lib.hid hx
     have HGL := Lib.hid hg
     have HQ0 := Lib.hid q0
     clear hx hcell hg q0 HLOW
     go_wp2_with fail
     clear qc
     refine wp_region_any (by kernel_rfl) ?_
     change wpAny _ _ _ _ _ _ _ (World.drew _)
     have hb : Below wr.heap.size wr wr.drew := below_drewN (Below.refl _ _) 1
     have HG1 := Lib.hid (HG.out.next kept_I hb)
     have HX1 := Lib.hid (HX.out.next hb)
     have HF1 := Lib.hid (HF.out.next hb)
     have HGL1 := Lib.hid (Nat.lt_of_lt_of_le HGL.out hb.size)
     have HQ1 := Lib.hid (show World.rangeAt _ g (o + k * 32) (idC x) from fun j v hv => (hb.cell (p := ⟨g, o + k * 32 + j, none⟩) HGL.out).trans (HQ0.out j v hv))
     clear hb HGL HQ0 HG HX HF
     generalize wr.drew = V0 at HGL1 HQ1 HG1 HX1 HF1 ⊢
     have HS : Hid ((fun W => W.cell? ⟨(Y5 + 1), 4, none⟩ = some (.slice Av k cv) ∧ W.cell? ⟨N, 42, none⟩ = some (.slice (some ⟨g, o, none⟩) b.ids.length ci) ∧ W.rangeAt g (o + k * 32) (idC x)) V0) := Lib.hid ⟨HX1.out.cells.2.2.2.2.1, (blk_cells HF1.out.arg 42).trans rfl, HQ1.out⟩
     refine wpAny_of_till (S := fun W => W.cell? ⟨(Y5 + 1), 4, none⟩ = some (.slice Av k cv) ∧ W.cell? ⟨N, 42, none⟩ = some (.slice (some ⟨g, o, none⟩) b.ids.length ci) ∧ W.rangeAt g (o + k * 32) (idC x)) (st := (fun l => l.getD 9 false)) _ _ _ _ ?_
     change wpTill _ _ _ _ _ _ _ #[false, false, false, false, false, false, false, false, false, false, false, false] _ _
     refine tkF 0 (.pointer (some ⟨(Y5 + 1), 4, none⟩)) rfl ?yb0 (fun _ => HS.out) ?_
     case yb0 => (intro W0 _; go_simp; (try with_reducible rfl))
     simp only [Act.put, CL]
     refine tk 1 (.slice Av k cv) rfl (fun l h h9 => (Shutd.step h (j := 9) (k := 1) (by kernel_rfl) h9)) (Or.inl ⟨by rfl, ?yb1⟩) HS.out (fun _ => ?_)
     case yb1 => (intro W0 hS; obtain ⟨s1, s2, s3⟩ := hS; go_simp; (try with_reducible rfl))
     simp only [Act.put, CL]
     refine tkF 2 (.pointer (some ⟨N, 42, none⟩)) rfl ?yb2 (fun _ => HS.out) ?_
     case yb2 => (intro W0 _; go_simp; (try with_reducible rfl))
     simp only [Act.put, CL]
     refine tk 3 (.slice (some ⟨g, o, none⟩) b.ids.length ci) rfl (fun l h h9 => (Shutd.step h (j := 5) (k := 3) (by kernel_rfl) (Shutd.step h (j := 6) (k := 5) (by kernel_rfl) (Shutd.step h (j := 7) (k := 6) (by kernel_rfl) (Shutd.step h (j := 9) (k := 7) (by kernel_rfl) h9))))) (Or.inl ⟨by rfl, ?yb3⟩) HS.out (fun _ => ?_)
     case yb3 => (intro W0 hS; obtain ⟨s1, s2, s3⟩ := hS; go_simp; (try with_reducible rfl))
     simp only [Act.put, CL]
     refine tkF 4 (.int .i64 (k : Int)) rfl ?yb4 (fun _ => HS.out) ?_
     case yb4 => (intro W0 _; go_simp; (try with_reducible rfl))
     simp only [Act.put, CL]
     refine tkF 5 (.pointer (some ⟨g, o + k * 32, none⟩)) rfl ?yb5 (fun _ => HS.out) ?_
     case yb5 => (intro W0 _; have h7 := hcon; go_simp; (try with_reducible rfl))
     simp only [Act.put, CL]
     refine tk 6 (.agg (idC x).toArray) rfl (fun l h h9 => (Shutd.step h (j := 7) (k := 6) (by kernel_rfl) (Shutd.step h (j := 9) (k := 7) (by kernel_rfl) h9))) (yieldsIf_load_mid rfl 29 _ rfl g (o + k * 32) rfl (idC x) _ (fun W hS => hS.2.2) und29 rfl (by rw [info29]; rfl)) HS.out (fun _ => ?_)
     simp only [Act.put, CL]
     refine rdy 7 rfl (fun KK hKK => ?_)
     refine wp_callR 40 #[.agg (idA x)] (by kernel_rfl) (refId_leaf x V0) ?_
     rintro e V1 ⟨rfl, hb⟩
     refine ⟨_, rfl, ?_⟩
     have HG2 := Lib.hid (HG1.out.next kept_I hb)
     have HX2 := Lib.hid (HX1.out.next hb)
     have HF2 := Lib.hid (HF1.out.next hb)
     have HGL2 := Lib.hid (Nat.lt_of_lt_of_le HGL1.out hb.size)
     have HQ2 := Lib.hid (show World.rangeAt _ g (o + k * 32) (idC x) from fun j v hv => (hb.cell (p := ⟨g, o + k * 32 + j, none⟩) HGL1.out).trans (HQ1.out j v hv))
     clear hb HS HGL1 HQ1 HG1 HX1 HF1
     have HS : Hid ((fun W => W.cell? ⟨(Y5 + 1), 4, none⟩ = some (.slice Av k cv) ∧ W.cell? ⟨N, 42, none⟩ = some (.slice (some ⟨g, o, none⟩) b.ids.length ci) ∧ W.rangeAt g (o + k * 32) (idC x)) V1) := Lib.hid ⟨HX2.out.cells.2.2.2.2.1, (blk_cells HF2.out.arg 42).trans rfl, HQ2.out⟩
     refine hKK _ _ (fun _ => HS.out) ?_
     clear hKK KK
     simp only [Act.put, CL]
     refine rdy 8 rfl (fun KK hKK => ?_)
     go_simp
     have hb := below_box V1 (.cells #[.int .i64 4, .bool false, .int .i64 0, .string (str (idS x)), .slice none 0 0, .slice none 0 0] 25)
     have HQQ := Lib.hid (heap_alloc_new V1 (.cells #[.int .i64 4, .bool false, .int .i64 0, .string (str (idS x)), .slice none 0 0, .slice none 0 0] 25))
     have HG3 := Lib.hid (HG2.out.next kept_I hb)
     have HX3 := Lib.hid (HX2.out.next hb)
     have HF3 := Lib.hid (HF2.out.next hb)
     have HGL3 := Lib.hid (Nat.lt_of_lt_of_le HGL2.out hb.size)
     have HQ3 := Lib.hid (show World.rangeAt _ g (o + k * 32) (idC x) from fun j v hv => (hb.cell (p := ⟨g, o + k * 32 + j, none⟩) HGL2.out).trans (HQ2.out j v hv))
     clear hb HS HGL2 HQ2 HG2 HX2 HF2
     generalize (V1.alloc (.cells #[.int .i64 4, .bool false, .int .i64 0, .string (str (idS x)), .slice none 0 0, .slice none 0 0] 25)) = V2 at HQQ HGL3 HQ3 HG3 HX3 HF3 ⊢
     obtain ⟨M, hM⟩ : ∃ M, V1.heap.size = M := ⟨_, rfl⟩
     rw [hM] at HQQ ⊢
     clear hM
     have HS : Hid ((fun W => W.cell? ⟨(Y5 + 1), 4, none⟩ = some (.slice Av k cv) ∧ W.cell? ⟨N, 42, none⟩ = some (.slice (some ⟨g, o, none⟩) b.ids.length ci) ∧ W.rangeAt g (o + k * 32) (idC x)) V2) := Lib.hid ⟨HX3.out.cells.2.2.2.2.1, (blk_cells HF3.out.arg 42).trans rfl, HQ3.out⟩
     refine hKK _ _ (fun _ => HS.out) ?_
     clear hKK KK
     simp only [Act.put, CL]
     refine rdy 9 rfl (fun KK hKK => ?_)
     obtain ⟨i0, hi, hz0, hz1, hz2⟩ := info_parts info25
     have hlk : ((b.ids.take k).map jId).length = k := by rw [List.length_map, List.length_take]; omega
     have hown := HG3.out.own.own
     rw [hlk] at hown
     refine wp_append_lies V2 (.tmp 116) (.tmp 123) 22 rfl B2 25 i0 zeroJ 6 88 Tryz.underlying22 hi hz0 hz1 hz2 rfl (by decide) (.slice Av k cv) k rs.flatten rfl hown ⟨M, 0, none⟩ 1 1 [.int .i64 4, .bool false, .int .i64 0, .string (str (idS x)), .slice none 0 0, .slice none 0 0] rfl rfl (World.news_of_block HQQ.out) (by intro u hu; simp at hu; rcases hu with rfl | rfl | rfl | rfl | rfl | rfl <;> rfl) (by decide) (by have := HLEN.out; unfold maxLen; omega) (by have := HLEN.out; omega) HG3.out.own.le V2.heap.size rfl ?_
     intro g9 cap V3 hown3 hgrow hat3 hlt3
     have hNo : ∀ j ∈ (Value.slice Av k cv).ownBlock.toList, B2 ≤ j := by
      intro j hm
      have hm : (Value.slice Av k cv).ownBlock = some j := by simpa using hm
      exact (HG3.out.own.lt j hm).1
     obtain ⟨hG4, hk3⟩ := HG3.out.push kept_I (x := jId x) (vs := [.int .i64 4, .bool false, .int .i64 0, .string (str (idS x)), .slice none 0 0, .slice none 0 0]) (JV.leaf V2 _ 4 false 0 (idS x)) (by rw [hlk]; exact hown3) hgrow hat3
     rw [hlk] at hG4
     have htk : (b.ids.take k).map jId ++ [jId x] = (b.ids.take (k + 1)).map jId := by rw [List.take_add_one, HY.out, List.map_append]; rfl
     rw [htk] at hG4
     have HG4 := Lib.hid hG4
     have HX4 : Hid (JBox V3 (Y5 + 1) _ _ _ _ _ _) := Lib.hid (HX3.out.but hk3 (fun hm => by have := hNo _ hm; have := HYLT.out; omega))
     have HF4 := Lib.hid (HF3.out.butR hk3 HN5.out HYB.out (fun j hj => ⟨by have := hNo j hj; have := HYLT.out; omega, .inl (hNo j hj)⟩))
     clear hG4 hk3 hNo hgrow hown3 hown htk hat3 hlt3 hi hz0 hz1 hz2 hlk HG3 HX3 HF3 HS HQQ HGL3 HQ3
     refine hKK _ _ (fun h0 => absurd h0 (by decide)) ?_
     clear hKK KK
     simp only [Act.put, CL]
     refine tkF 10 (.pointer (some ⟨(Y5 + 1), 4, none⟩)) rfl ?yb10 (fun h0 => absurd h0 (by decide)) ?_
     case yb10 => (intro W0 _; go_simp; (try with_reducible rfl))
     simp only [Act.put, CL]
     refine rdy 11 rfl (fun KK hKK => ?_)
     obtain ⟨hk4, hx4⟩ := but_set (i := 4) (.slice (some ⟨g9, 0, none⟩) (k + 1) cap) HX4.out
     have HG5 := Lib.hid (HG4.out.but kept_I hk4 (by intro j hj; simp at hj; have := HYLT.out; omega) (by intro j hj; simp))
     have HX5 : Hid (JBox (V3.setCell ⟨(Y5 + 1), 4, none⟩ (.slice (some ⟨g9, 0, none⟩) (k + 1) cap)) (Y5 + 1) (.int .i64 5) (.bool false) (.int .i64 0) (.string ⟨#[]⟩) (.slice (some ⟨g9, 0, none⟩) (k + 1) cap) (.slice none 0 0)) := Lib.hid hx4
     have HF5 := Lib.hid (HF4.out.butR hk4 HN5.out HYB.out (fun j hj => by simp at hj; subst hj; exact ⟨Nat.le_refl _, .inr (by simp)⟩))
     obtain ⟨x0, x1, x2, x3, x4, x5⟩ := HX4.out.cells
     obtain ⟨f0, f1, f2, f3, f4, f5⟩ := HX4.out.frees
     clear hk4 hx4
     go_simp
     clear x0 x1 x2 x3 x4 x5 f0 f1 f2 f3 f4 f5
     refine hKK _ _ (fun h0 => absurd h0 (by decide)) ?_
     clear hKK KK
     simp only [Act.put, CL]
     refine wpTill_done (by kernel_rfl) ?_ _
     (try simp only [Exit.then])
     go_wp2_with fail
     go_roundw
     case rel => exact ⟨k + 1, _, _, _, by omega, by go_num, HG5, HX5, HF5⟩
     case measure => simp [intOf]; omega
    ·obtain rfl : k = b.ids.length := by omega
     have hcon : decide (((b.ids.length : Nat) : Int) < (b.ids.length : Int)) = false := by simp
     have qc : wr.cell? ⟨N, 42, none⟩ = some (.slice Ai b.ids.length ci) := (blk_cells HF.out.arg 42).trans rfl
     have HV : Hid (JV wr (NB N ((Y5 + 1) :: Y5 :: (Y4 :: (Y3 :: [])))) (jList (b.ids.map jId)) [.int .i64 5, .bool false, .int .i64 0, .string ⟨#[]⟩, .slice Av b.ids.length cv, .slice none 0 0]) := Lib.hid (by
      have h1 := HG.out.list 5 false 0 []
      rw [List.take_length] at h1
      exact h1.wide (fun g hg h2 => by
       rcases hg with hg | hg
       ·exact hg.elim
       ·exact ⟨by have := HN5.out; have := HYLT.out; omega, fun hm => by
         have := HYLT.out
         rcases List.mem_cons.1 hm with rfl | hm
         ·omega
         rcases List.mem_cons.1 hm with rfl | hm
         ·omega
         ·have := HLB.out g hm; omega⟩))
     have HF1 : Hid (Fr w N (ansA b Af cf Ac cc Ai ci) 49 (NB N ((Y5 + 1) :: Y5 :: (Y4 :: (Y3 :: [])))) (((Y5 + 1), jList (b.ids.map jId)) :: ((Y5, jList (b.clashes.map jClash)) :: ((Y4, jRan b) :: ((Y3, jPlace b) :: [])))) wr) := Lib.hid ((HF.out.wide (fun g h1 h2 => h1.2)).push HN5.out HX.out HV.out)
     have HL : Hid (∀ y ∈ (((Y5 + 1) :: Y5 :: (Y4 :: (Y3 :: []))) : List Nat), y < wr.heap.size) := Lib.hid (fun y hy => by
      have h1 := HX.out.lt
      rcases List.mem_cons.1 hy with rfl | hy
      ·omega
      rcases List.mem_cons.1 hy with rfl | hy
      ·omega
      ·have := HLB.out y hy; omega)
     clear HF HX HG HV HYB HN5 HYLT HLB
     have HF := HF1
     clear HF1
     have q0 : wr.cell? ⟨N, 0, none⟩ = some (.int .i64 b.err) := (blk_cells HF.out.arg 0).trans rfl
     go_wp2_with fail
     refine (refNumber_leaf b.err wr).mono ?_
     rintro e W13 ⟨rfl, hb⟩
     clear q0
     have HF1 := Lib.hid (HF.out.next hb)
     have HL1 : Hid (∀ y ∈ (((Y5 + 1) :: Y5 :: (Y4 :: (Y3 :: []))) : List Nat), y < W13.heap.size) := Lib.hid (fun y hy => Nat.lt_of_lt_of_le (HL.out y hy) hb.size)
     clear hb HF HL
     have HF := HF1
     have HL := HL1
     clear HF1 HL1
     go_wp2_with fail
     refine (with_S (.mk 0 false 0 [] [] []) [101, 114, 114] (jNum b.err) _ _ (NB N ((Y5 + 1) :: Y5 :: (Y4 :: (Y3 :: [])))) W13 (JV.leaf W13 _ 0 false 0 []) (JV.leaf W13 _ 3 false b.err []) (fun g hg => NB.new HF.out.size HL.out hg) (by decide)).mono ?_
     rintro e W14 ⟨hb, vs112, rfl, hjv⟩
     have HF1 := Lib.hid (HF.out.next hb)
     have HL1 : Hid (∀ y ∈ (((Y5 + 1) :: Y5 :: (Y4 :: (Y3 :: []))) : List Nat), y < W14.heap.size) := Lib.hid (fun y hy => Nat.lt_of_lt_of_le (HL.out y hy) hb.size)
     clear hb HF HL
     have HF := HF1
     have HL := HL1
     clear HF1 HL1
     have HJ : Hid (JV W14 (NB N ((Y5 + 1) :: Y5 :: (Y4 :: (Y3 :: [])))) (.mk 6 false 0 [] [] [([101, 114, 114], jNum b.err)]) vs112) := Lib.hid hjv
     have hvs := hjv.len
     have hone := hjv.one
     clear hjv
     have hZ9 : (W14.alloc (.cells #[.int .i64 0, .bool false, .int .i64 0, .string ⟨#[]⟩, .slice none 0 0, .slice none 0 0] 25)).heap[W14.heap.size]? = some (.cells #[.int .i64 0, .bool false, .int .i64 0, .string ⟨#[]⟩, .slice none 0 0, .slice none 0 0] 25 (0, 0)) := heap_alloc_new W14 (.cells #[.int .i64 0, .bool false, .int .i64 0, .string ⟨#[]⟩, .slice none 0 0, .slice none 0 0] 25)
     go_upto_region 25 with (refine wpList_store_row rfl 25 _ _ rfl _ rfl #[.int .i64 0, .bool false, .int .i64 0, .string ⟨#[]⟩, .slice none 0 0, .slice none 0 0] vs112.toArray rfl hZ9 (by simp [hvs]) (by rw [info25s]; simp [hvs]) (by simpa using hone) ?_; intro W15 hk9 hx9)
     have hb := fresh_row hk9
     have HYN := Lib.hid (HF.out.fresh (Nat.le_refl _))
     have HF1 := Lib.hid ((HF.out.wide (fun g h1 h2 => NB.cons h1 h2)).next hb)
     have HJ1 := Lib.hid ((HJ.out.wide (fun g h1 h2 => NB.cons h1 h2)).next hb)
     have HL1 : Hid (∀ y ∈ W14.heap.size :: (((Y5 + 1) :: Y5 :: (Y4 :: (Y3 :: []))) : List Nat), y < W15.heap.size) := Lib.hid (fun y hy => by
      rcases List.mem_cons.1 hy with rfl | hy
      ·exact (Array.getElem?_eq_some_iff.1 hx9).1
      ·exact Nat.lt_of_lt_of_le (HL.out y hy) hb.size)
     have HY := Lib.hid hx9
     clear hb hk9 hx9 hZ9 hone HF HJ HL
     generalize W14.heap.size = Y9 at HF1 HJ1 HL1 HY HYN ⊢
     have HF := HF1
     have HJ := HJ1
     have HL := HL1
     clear HF1 HJ1 HL1
     obtain ⟨-, vsb, hb1, hj1⟩ := HF.out.box (Y3, jPlace b) (by simp)
     have hvb := hj1.len
     go_wp2_with (first | (refine wpList_load_row rfl 25 _ rfl Y9 rfl vs112.toArray HY.out _ Tryz.underlying25 rfl (by rw [info25s]; simp [hvs]) ?_) | (refine wpList_load_row rfl 25 _ rfl Y3 rfl vsb.toArray hb1 _ Tryz.underlying25 rfl (by rw [info25s]; simp [hvb]) ?_))
     refine (with_S (.mk 6 false 0 [] [] [([101, 114, 114], jNum b.err)]) [112, 108, 97, 99, 101] (jPlace b) vs112 vsb (NB N (Y9 :: ((Y5 + 1) :: Y5 :: (Y4 :: (Y3 :: []))))) W15 HJ.out hj1 (fun g hg => NB.new HF.out.size HL.out hg) (Nat.le_of_ble_eq_true rfl)).mono ?_
     rintro e W16 ⟨hb, vs215, rfl, hjv⟩
     have HF1 := Lib.hid (HF.out.next hb)
     have HL1 : Hid (∀ y ∈ ((Y9 :: ((Y5 + 1) :: Y5 :: (Y4 :: (Y3 :: [])))) : List Nat), y < W16.heap.size) := Lib.hid (fun y hy => Nat.lt_of_lt_of_le (HL.out y hy) hb.size)
     have HY1 := Lib.hid (blk_next hb HY.out)
     have HJ1 := Lib.hid (HJ.out.next hb)
     clear hb HF HL HY HJ
     have HF := HF1
     have HL := HL1
     have HY := HY1
     have HJ := HJ1
     clear HF1 HL1 HY1 HJ1
     have HK : Hid (JV W16 (NB N (Y9 :: ((Y5 + 1) :: Y5 :: (Y4 :: (Y3 :: []))))) (.mk 6 false 0 [] [] [([101, 114, 114], jNum b.err), ([112, 108, 97, 99, 101], jPlace b)]) vs215) := Lib.hid hjv
     have hws := hjv.len
     have hone := hjv.one
     clear hjv HJ hb1 hj1
     go_upto_region 26 with (refine wpList_store_row rfl 25 _ _ rfl Y9 rfl vs112.toArray vs215.toArray rfl HY.out (by simp [hvs, hws]) (by rw [info25s]; simp [hws]) (by simpa using hone) ?_; intro W17 hk hx)
     have HF1 := Lib.hid (HF.out.but hk (by intro j hj; simp at hj; subst hj; exact ⟨HYN.out.1, fun h => h.2 (by simp), HYN.out.2⟩))
     have HL1 : Hid (∀ y ∈ ((Y9 :: ((Y5 + 1) :: Y5 :: (Y4 :: (Y3 :: [])))) : List Nat), y < W17.heap.size) := Lib.hid (fun y hy => Nat.lt_of_lt_of_le (HL.out y hy) hk.size)
     clear HF HL
     have HF := HF1
     have HL := HL1
     clear HF1 HL1
     have HJ := Lib.hid (HK.out.but hk (by intro j hj; simp at hj; subst hj; exact fun h => h.2 (by simp)))
     have HY1 := Lib.hid hx
     clear HK hk hx hone HY hvs hvb
     have HY := HY1
     have hvs := hws
     clear HY1 hws
     go_wp2_with fail
     apply sharedG (F := fun W _ us => Fq w N (ansA b Af cf Ac cc Ai ci) 49 (Y9 :: ((Y5 + 1) :: Y5 :: (Y4 :: (Y3 :: [])))) (((Y5 + 1), jList (b.ids.map jId)) :: ((Y5, jList (b.clashes.map jClash)) :: ((Y4, jRan b) :: ((Y3, jPlace b) :: [])))) W ∧ W.heap[Y9]? = some (.cells us.toArray 25 (0, 0)) ∧ JV W (NB N (Y9 :: ((Y5 + 1) :: Y5 :: (Y4 :: (Y3 :: []))))) (.mk 6 false 0 [] [] [([101, 114, 114], jNum b.err), ([112, 108, 97, 99, 101], jPlace b), ([99, 111, 109, 109, 105, 116], jId b.commit)]) us)
     case tree =>
      intro KEY
      have hf := HYN.out
      refine stageF (G := Fq w N (ansA b Af cf Ac cc Ai ci) 49 (Y9 :: ((Y5 + 1) :: Y5 :: (Y4 :: (Y3 :: [])))) (((Y5 + 1), jList (b.ids.map jId)) :: ((Y5, jList (b.clashes.map jClash)) :: ((Y4, jRan b) :: ((Y3, jPlace b) :: []))))) (S := NB N (Y9 :: ((Y5 + 1) :: Y5 :: (Y4 :: (Y3 :: []))))) (v := jId b.commit) Y9 40 (.pointer (some ⟨N, 4, none⟩)) (.agg (idC b.commit).toArray) (.agg (idA b.commit)) [99, 111, 109, 109, 105, 116] (by kernel_rfl) rfl rfl rfl rfl rfl rfl rfl rfl rfl nx_fq (fun _ _ h hk => h.but hk hf) (fun h => h.2 (by simp)) ⟨HF.out, HL.out⟩ HY.out HJ.out (by kernel_rfl) (fun _ h => h.new) (fun W _ => lf_of (refId_leaf b.commit W) fun _ => jv_i b.commit) (fun W h => run_ldi (b := N) (off := 4) rfl (by kernel_rfl) h.fr.arg (ans_id b Af cf Ac cc Ai ci)) (by and_intros <;> (intros; (try and_intros) <;> (intros; kernel_rfl))) (fun _ _ _ _ h => h) (fun _ _ _ _ h => h) (fun _ _ _ _ h => h) (fun u W v h1 h2 h3 => ?_)
      simp only [Exit.then, Act.put, List.getElem_toArray, List.getElem_cons_zero, List.getElem_cons_succ, List.setIfInBounds_toArray, List.set_cons_zero, List.set_cons_succ]
      exact KEY W u v ⟨h1, h2, h3⟩
     case key =>
     clear HF HL HY HJ hvs
     rintro W18 us8 vs117 ⟨⟨f1, f2⟩, f3, f4⟩
     have HF := Lib.hid f1
     have HL := Lib.hid f2
     have HY := Lib.hid f3
     have HJ := Lib.hid f4
     have hvs := f4.len
     clear f1 f2 f3 f4
     go_wp2_with fail
     apply sharedG (F := fun W _ us => Fq w N (ansA b Af cf Ac cc Ai ci) 49 (Y9 :: ((Y5 + 1) :: Y5 :: (Y4 :: (Y3 :: [])))) (((Y5 + 1), jList (b.ids.map jId)) :: ((Y5, jList (b.clashes.map jClash)) :: ((Y4, jRan b) :: ((Y3, jPlace b) :: [])))) W ∧ W.heap[Y9]? = some (.cells us.toArray 25 (0, 0)) ∧ JV W (NB N (Y9 :: ((Y5 + 1) :: Y5 :: (Y4 :: (Y3 :: []))))) (.mk 6 false 0 [] [] [([101, 114, 114], jNum b.err), ([112, 108, 97, 99, 101], jPlace b), ([99, 111, 109, 109, 105, 116], jId b.commit), ([102, 105, 108, 101, 115], jList (b.files.map jFile))]) us)
     case tree =>
      intro KEY
      have hf := HYN.out
      refine stageF (G := Fq w N (ansA b Af cf Ac cc Ai ci) 49 (Y9 :: ((Y5 + 1) :: Y5 :: (Y4 :: (Y3 :: [])))) (((Y5 + 1), jList (b.ids.map jId)) :: ((Y5, jList (b.clashes.map jClash)) :: ((Y4, jRan b) :: ((Y3, jPlace b) :: []))))) (S := NB N (Y9 :: ((Y5 + 1) :: Y5 :: (Y4 :: (Y3 :: []))))) (v := jList (b.files.map jFile)) Y9 41 (.pointer (some ⟨N, 36, none⟩)) (.slice Af b.files.length cf) (.slice Af b.files.length cf) [102, 105, 108, 101, 115] (by kernel_rfl) rfl rfl rfl rfl rfl rfl rfl rfl rfl nx_fq (fun _ _ h hk => h.but hk hf) (fun h => h.2 (by simp)) ⟨HF.out, HL.out⟩ HY.out HJ.out (by kernel_rfl) (fun _ h => h.new) (fun W h => (refFiles_any b.files Af cf W (HR.out W h.fr.low).files (by have := HLEN.out; omega) (HR.out W h.fr.low).lf).mono fun e w' ⟨hb, us, he, hj⟩ => ⟨hb, us, he, hj.wide fun g hg _ => h.new g hg⟩) (fun W h => run_ld1 (b := N) (off := 36) rfl (by kernel_rfl) rfl rfl h.fr.arg rfl) (by and_intros <;> (intros; (try and_intros) <;> (intros; kernel_rfl))) (fun _ _ _ _ h => h) (fun _ _ _ _ h => h) (fun _ _ _ _ h => h) (fun u W v h1 h2 h3 => ?_)
      simp only [Exit.then, Act.put, List.getElem_toArray, List.getElem_cons_zero, List.getElem_cons_succ, List.setIfInBounds_toArray, List.set_cons_zero, List.set_cons_succ]
      exact KEY W u v ⟨h1, h2, h3⟩
     case key =>
     clear HF HL HY HJ hvs
     rintro W19 us8 vs118 ⟨⟨f1, f2⟩, f3, f4⟩
     have HF := Lib.hid f1
     have HL := Lib.hid f2
     have HY := Lib.hid f3
     have HJ := Lib.hid f4
     have hvs := f4.len
     clear f1 f2 f3 f4
     obtain ⟨-, vsb, hb1, hj1⟩ := HF.out.box (Y5, jList (b.clashes.map jClash)) (by simp)
     have hvb := hj1.len
     go_wp2_with (first | (refine wpList_load_row rfl 25 _ rfl Y9 rfl vs118.toArray HY.out _ Tryz.underlying25 rfl (by rw [info25s]; simp [hvs]) ?_) | (refine wpList_load_row rfl 25 _ rfl Y5 rfl vsb.toArray hb1 _ Tryz.underlying25 rfl (by rw [info25s]; simp [hvb]) ?_))
     refine (with_S (.mk 6 false 0 [] [] [([101, 114, 114], jNum b.err), ([112, 108, 97, 99, 101], jPlace b), ([99, 111, 109, 109, 105, 116], jId b.commit), ([102, 105, 108, 101, 115], jList (b.files.map jFile))]) [99, 108, 97, 115, 104, 101, 115] (jList (b.clashes.map jClash)) vs118 vsb (NB N (Y9 :: ((Y5 + 1) :: Y5 :: (Y4 :: (Y3 :: []))))) W19 HJ.out hj1 (fun g hg => NB.new HF.out.size HL.out hg) (Nat.le_of_ble_eq_true rfl)).mono ?_
     rintro e W20 ⟨hb, vs219, rfl, hjv⟩
     have HF1 := Lib.hid (HF.out.next hb)
     have HL1 : Hid (∀ y ∈ ((Y9 :: ((Y5 + 1) :: Y5 :: (Y4 :: (Y3 :: [])))) : List Nat), y < W20.heap.size) := Lib.hid (fun y hy => Nat.lt_of_lt_of_le (HL.out y hy) hb.size)
     have HY1 := Lib.hid (blk_next hb HY.out)
     have HJ1 := Lib.hid (HJ.out.next hb)
     clear hb HF HL HY HJ
     have HF := HF1
     have HL := HL1
     have HY := HY1
     have HJ := HJ1
     clear HF1 HL1 HY1 HJ1
     have HK : Hid (JV W20 (NB N (Y9 :: ((Y5 + 1) :: Y5 :: (Y4 :: (Y3 :: []))))) (.mk 6 false 0 [] [] [([101, 114, 114], jNum b.err), ([112, 108, 97, 99, 101], jPlace b), ([99, 111, 109, 109, 105, 116], jId b.commit), ([102, 105, 108, 101, 115], jList (b.files.map jFile)), ([99, 108, 97, 115, 104, 101, 115], jList (b.clashes.map jClash))]) vs219) := Lib.hid hjv
     have hws := hjv.len
     have hone := hjv.one
     clear hjv HJ hb1 hj1
     go_upto_region 29 with (refine wpList_store_row rfl 25 _ _ rfl Y9 rfl vs118.toArray vs219.toArray rfl HY.out (by simp [hvs, hws]) (by rw [info25s]; simp [hws]) (by simpa using hone) ?_; intro W21 hk hx)
     have HF1 := Lib.hid (HF.out.but hk (by intro j hj; simp at hj; subst hj; exact ⟨HYN.out.1, fun h => h.2 (by simp), HYN.out.2⟩))
     have HL1 : Hid (∀ y ∈ ((Y9 :: ((Y5 + 1) :: Y5 :: (Y4 :: (Y3 :: [])))) : List Nat), y < W21.heap.size) := Lib.hid (fun y hy => Nat.lt_of_lt_of_le (HL.out y hy) hk.size)
     clear HF HL
     have HF := HF1
     have HL := HL1
     clear HF1 HL1
     have HJ := Lib.hid (HK.out.but hk (by intro j hj; simp at hj; subst hj; exact fun h => h.2 (by simp)))
     have HY1 := Lib.hid hx
     clear HK hk hx hone HY hvs hvb
     have HY := HY1
     have hvs := hws
     clear HY1 hws
     obtain ⟨-, vsb, hb1, hj1⟩ := HF.out.box (Y4, jRan b) (by simp)
     have hvb := hj1.len
     go_wp2_with (first | (refine wpList_load_row rfl 25 _ rfl Y9 rfl vs219.toArray HY.out _ Tryz.underlying25 rfl (by rw [info25s]; simp [hvs]) ?_) | (refine wpList_load_row rfl 25 _ rfl Y4 rfl vsb.toArray hb1 _ Tryz.underlying25 rfl (by rw [info25s]; simp [hvb]) ?_))
     refine (with_S (.mk 6 false 0 [] [] [([101, 114, 114], jNum b.err), ([112, 108, 97, 99, 101], jPlace b), ([99, 111, 109, 109, 105, 116], jId b.commit), ([102, 105, 108, 101, 115], jList (b.files.map jFile)), ([99, 108, 97, 115, 104, 101, 115], jList (b.clashes.map jClash))]) [114, 97, 110] (jRan b) vs219 vsb (NB N (Y9 :: ((Y5 + 1) :: Y5 :: (Y4 :: (Y3 :: []))))) W21 HJ.out hj1 (fun g hg => NB.new HF.out.size HL.out hg) (Nat.le_of_ble_eq_true rfl)).mono ?_
     rintro e W22 ⟨hb, vs221, rfl, hjv⟩
     have HF1 := Lib.hid (HF.out.next hb)
     have HL1 : Hid (∀ y ∈ ((Y9 :: ((Y5 + 1) :: Y5 :: (Y4 :: (Y3 :: [])))) : List Nat), y < W22.heap.size) := Lib.hid (fun y hy => Nat.lt_of_lt_of_le (HL.out y hy) hb.size)
     have HY1 := Lib.hid (blk_next hb HY.out)
     have HJ1 := Lib.hid (HJ.out.next hb)
     clear hb HF HL HY HJ
     have HF := HF1
     have HL := HL1
     have HY := HY1
     have HJ := HJ1
     clear HF1 HL1 HY1 HJ1
     have HK : Hid (JV W22 (NB N (Y9 :: ((Y5 + 1) :: Y5 :: (Y4 :: (Y3 :: []))))) (.mk 6 false 0 [] [] [([101, 114, 114], jNum b.err), ([112, 108, 97, 99, 101], jPlace b), ([99, 111, 109, 109, 105, 116], jId b.commit), ([102, 105, 108, 101, 115], jList (b.files.map jFile)), ([99, 108, 97, 115, 104, 101, 115], jList (b.clashes.map jClash)), ([114, 97, 110], jRan b)]) vs221) := Lib.hid hjv
     have hws := hjv.len
     have hone := hjv.one
     clear hjv HJ hb1 hj1
     go_upto_region 30 with (refine wpList_store_row rfl 25 _ _ rfl Y9 rfl vs219.toArray vs221.toArray rfl HY.out (by simp [hvs, hws]) (by rw [info25s]; simp [hws]) (by simpa using hone) ?_; intro W23 hk hx)
     have HF1 := Lib.hid (HF.out.but hk (by intro j hj; simp at hj; subst hj; exact ⟨HYN.out.1, fun h => h.2 (by simp), HYN.out.2⟩))
     have HL1 : Hid (∀ y ∈ ((Y9 :: ((Y5 + 1) :: Y5 :: (Y4 :: (Y3 :: [])))) : List Nat), y < W23.heap.size) := Lib.hid (fun y hy => Nat.lt_of_lt_of_le (HL.out y hy) hk.size)
     clear HF HL
     have HF := HF1
     have HL := HL1
     clear HF1 HL1
     have HJ := Lib.hid (HK.out.but hk (by intro j hj; simp at hj; subst hj; exact fun h => h.2 (by simp)))
     have HY1 := Lib.hid hx
     clear HK hk hx hone HY hvs hvb
     have HY := HY1
     have hvs := hws
     clear HY1 hws
     obtain ⟨-, vsb, hb1, hj1⟩ := HF.out.box ((Y5 + 1), jList (b.ids.map jId)) (by simp)
     have hvb := hj1.len
     go_wp2_with (first | (refine wpList_load_row rfl 25 _ rfl Y9 rfl vs221.toArray HY.out _ Tryz.underlying25 rfl (by rw [info25s]; simp [hvs]) ?_) | (refine wpList_load_row rfl 25 _ rfl (Y5 + 1) rfl vsb.toArray hb1 _ Tryz.underlying25 rfl (by rw [info25s]; simp [hvb]) ?_))
     refine (with_S (.mk 6 false 0 [] [] [([101, 114, 114], jNum b.err), ([112, 108, 97, 99, 101], jPlace b), ([99, 111, 109, 109, 105, 116], jId b.commit), ([102, 105, 108, 101, 115], jList (b.files.map jFile)), ([99, 108, 97, 115, 104, 101, 115], jList (b.clashes.map jClash)), ([114, 97, 110], jRan b)]) [105, 100, 115] (jList (b.ids.map jId)) vs221 vsb (NB N (Y9 :: ((Y5 + 1) :: Y5 :: (Y4 :: (Y3 :: []))))) W23 HJ.out hj1 (fun g hg => NB.new HF.out.size HL.out hg) (Nat.le_of_ble_eq_true rfl)).mono ?_
     rintro e W24 ⟨hb, vs223, rfl, hjv⟩
     have HF1 := Lib.hid (HF.out.next hb)
     have HL1 : Hid (∀ y ∈ ((Y9 :: ((Y5 + 1) :: Y5 :: (Y4 :: (Y3 :: [])))) : List Nat), y < W24.heap.size) := Lib.hid (fun y hy => Nat.lt_of_lt_of_le (HL.out y hy) hb.size)
     have HY1 := Lib.hid (blk_next hb HY.out)
     have HJ1 := Lib.hid (HJ.out.next hb)
     clear hb HF HL HY HJ
     have HF := HF1
     have HL := HL1
     have HY := HY1
     have HJ := HJ1
     clear HF1 HL1 HY1 HJ1
     have HK : Hid (JV W24 (NB N (Y9 :: ((Y5 + 1) :: Y5 :: (Y4 :: (Y3 :: []))))) (.mk 6 false 0 [] [] [([101, 114, 114], jNum b.err), ([112, 108, 97, 99, 101], jPlace b), ([99, 111, 109, 109, 105, 116], jId b.commit), ([102, 105, 108, 101, 115], jList (b.files.map jFile)), ([99, 108, 97, 115, 104, 101, 115], jList (b.clashes.map jClash)), ([114, 97, 110], jRan b), ([105, 100, 115], jList (b.ids.map jId))]) vs223) := Lib.hid hjv
     have hws := hjv.len
     have hone := hjv.one
     clear hjv HJ hb1 hj1
     go_wp2_with (refine wpList_store_row rfl 25 _ _ rfl (N + 1) rfl #[.int .i64 0, .bool false, .int .i64 0, .string ⟨#[]⟩, .slice none 0 0, .slice none 0 0] vs223.toArray rfl HF.out.res (by simp [hws]) (by rw [info25s]; simp [hws]) (by simpa using hone) ?_; intro W25 hk hx)
     refine bodyPost_ret (results_row1 rfl _ _ _ (N + 1) vs223.toArray rfl (run_loadVar_row _ (N + 1) 25 25 vs223.toArray (0, 0) _ hx Tryz.underlying25 rfl (by rw [info25s]; simp [hws]))) rfl ?_
     have hN := HN.out
     rw [hN]
     exact ⟨HF.out.low.trans (hk.to (by have := HF.out.size; omega) (by intro j hj; simp at hj; omega)), _, rfl, (HK.out.but hk (by intro j hj; simp at hj; subst hj; intro h; have := h.1; omega)).wide (fun g hg _ => by have := hg.1; omega)⟩
end Go.Proofs.YtimioelnnhnbiaaGreatDoor
