/-
 The document's Ask. CONDITIONS: the rows lie as AskRows says; they are not too long.
-/
import Derived.Test.YtimioelnnhnbiaaGreatDoorS32
namespace Go.Proofs.YtimioelnnhnbiaaGreatDoor
open Go.RowKit
set_option maxRecDepth 100000 in
set_option maxHeartbeats 16000000 in
theorem refAsk_any (a : PAsk) (Af : Option Addr) (cf : Nat) (Ao : Option Addr) (co : Nat) (Aa : Option Addr) (ca : Nat) (w : World) (hR : AskRows w a Af cf Ao co Aa ca) (hlen : a.files.length ≤ 1000000 ∧ a.order.length ≤ 1000000 ∧ a.args.length ≤ 1000000) :
  Calls Tryz.prog 11 #[.agg (askA a Af cf Ao co Aa ca)] w fun e w' => Below w.heap.size w w' ∧ ∃ us, e = .returned (.agg us.toArray) ∧ JV w' (fun g => w.heap.size ≤ g) (askJ a) us := by
 have HR : Hid (∀ W, Below w.heap.size w W → AskRows W a Af cf Ao co Aa ca) := Lib.hid (fun W hW => hR.next hW)
 have HLEN := Lib.hid hlen
 clear hR hlen
 have b1 := below_box w (.cells (askA a Af cf Ao co Aa ca) 38)
 have s1 : (w.alloc (.cells (askA a Af cf Ao co Aa ca) 38)).heap.size = w.heap.size + 1 := by simp
 have e1 := heap_alloc_new w (.cells (askA a Af cf Ao co Aa ca) 38)
 have b2 := below_box (w.alloc (.cells (askA a Af cf Ao co Aa ca) 38)) (.cells #[.int .i64 0, .bool false, .int .i64 0, .string ⟨#[]⟩, .slice none 0 0, .slice none 0 0] 25)
 have e2 : JBox _ _ _ _ _ _ _ _ := heap_alloc_new (w.alloc (.cells (askA a Af cf Ao co Aa ca) 38)) (.cells #[.int .i64 0, .bool false, .int .i64 0, .string ⟨#[]⟩, .slice none 0 0, .slice none 0 0] 25)
 rw [s1] at e2
 have HF0 : Fr w w.heap.size (askA a Af cf Ao co Aa ca) 38 (NB w.heap.size []) [] ((w.alloc (.cells (askA a Af cf Ao co Aa ca) 38)).alloc (.cells #[.int .i64 0, .bool false, .int .i64 0, .string ⟨#[]⟩, .slice none 0 0, .slice none 0 0] 25)) := ⟨blk_next b2 e1, e2, (fun p hp => by cases hp), b1.trans (b2.mono (by rw [s1]; omega))⟩
 clear b1 s1 e1 b2 e2
 go_enter Tryz.func11, Tryz.ntmps11
 go_upto_region 1 with fail
 generalize ((w.alloc (.cells (askA a Af cf Ao co Aa ca) 38)).alloc (.cells #[.int .i64 0, .bool false, .int .i64 0, .string ⟨#[]⟩, .slice none 0 0, .slice none 0 0] 25)) = w2 at HF0 ⊢
 have HF := Lib.hid HF0
 clear HF0
 obtain ⟨N, hN⟩ : ∃ N, w.heap.size = N := ⟨_, rfl⟩
 rw [hN] at HF HR ⊢
 have HN := Lib.hid hN
 clear hN
 have HL : Hid (∀ y ∈ ([] : List Nat), y < w2.heap.size) := Lib.hid (fun y hy => by cases hy)
 have q0 : w2.cell? ⟨N, 37, none⟩ = some (.string (str a.sFolder)) := (blk_cells HF.out.arg 37).trans rfl
 go_wp2_with fail
 refine (refText_leaf (str a.sFolder) w2).mono ?_
 rintro e W1 ⟨rfl, hb⟩
 clear q0
 have HF1 := Lib.hid (HF.out.next hb)
 have HL1 : Hid (∀ y ∈ ([] : List Nat), y < W1.heap.size) := Lib.hid (fun y hy => Nat.lt_of_lt_of_le (HL.out y hy) hb.size)
 clear hb HF HL
 have HF := HF1
 have HL := HL1
 clear HF1 HL1
 go_wp2_with fail
 refine (with_S (.mk 0 false 0 [] [] []) [102, 111, 108, 100, 101, 114] (jText a.sFolder) _ _ (NB N []) W1 (JV.leaf W1 _ 0 false 0 []) (JV.leaf W1 _ 4 false 0 a.sFolder) (fun g hg => NB.new HF.out.size HL.out hg) (by decide)).mono ?_
 rintro e W2 ⟨hb, vs100, rfl, hjv⟩
 have HF1 := Lib.hid (HF.out.next hb)
 have HL1 : Hid (∀ y ∈ ([] : List Nat), y < W2.heap.size) := Lib.hid (fun y hy => Nat.lt_of_lt_of_le (HL.out y hy) hb.size)
 clear hb HF HL
 have HF := HF1
 have HL := HL1
 clear HF1 HL1
 have HJ : Hid (JV W2 (NB N []) (.mk 6 false 0 [] [] [([102, 111, 108, 100, 101, 114], jText a.sFolder)]) vs100) := Lib.hid hjv
 have hvs := hjv.len
 have hone := hjv.one
 clear hjv
 have hZ9 : (W2.alloc (.cells #[.int .i64 0, .bool false, .int .i64 0, .string ⟨#[]⟩, .slice none 0 0, .slice none 0 0] 25)).heap[W2.heap.size]? = some (.cells #[.int .i64 0, .bool false, .int .i64 0, .string ⟨#[]⟩, .slice none 0 0, .slice none 0 0] 25 (0, 0)) := heap_alloc_new W2 (.cells #[.int .i64 0, .bool false, .int .i64 0, .string ⟨#[]⟩, .slice none 0 0, .slice none 0 0] 25)
 go_upto_region 2 with (refine wpList_store_row rfl 25 _ _ rfl _ rfl #[.int .i64 0, .bool false, .int .i64 0, .string ⟨#[]⟩, .slice none 0 0, .slice none 0 0] vs100.toArray rfl hZ9 (by simp [hvs]) (by rw [info25s]; simp [hvs]) (by simpa using hone) ?_; intro W3 hk9 hx9)
 have hb := fresh_row hk9
 have HYN := Lib.hid (HF.out.fresh (Nat.le_refl _))
 have HF1 := Lib.hid ((HF.out.wide (fun g h1 h2 => NB.cons h1 h2)).next hb)
 have HJ1 := Lib.hid ((HJ.out.wide (fun g h1 h2 => NB.cons h1 h2)).next hb)
 have HL1 : Hid (∀ y ∈ W2.heap.size :: ([] : List Nat), y < W3.heap.size) := Lib.hid (fun y hy => by
  rcases List.mem_cons.1 hy with rfl | hy
  ·exact (Array.getElem?_eq_some_iff.1 hx9).1
  ·exact Nat.lt_of_lt_of_le (HL.out y hy) hb.size)
 have HY := Lib.hid hx9
 clear hb hk9 hx9 hZ9 hone HF HJ HL
 generalize W2.heap.size = Y3 at HF1 HJ1 HL1 HY HYN ⊢
 have HF := HF1
 have HJ := HJ1
 have HL := HL1
 clear HF1 HJ1 HL1
 go_wp2_with fail
 apply sharedG (F := fun W _ us => Fq w N (askA a Af cf Ao co Aa ca) 38 (Y3 :: []) [] W ∧ W.heap[Y3]? = some (.cells us.toArray 25 (0, 0)) ∧ JV W (NB N (Y3 :: [])) (.mk 6 false 0 [] [] [([102, 111, 108, 100, 101, 114], jText a.sFolder), ([115, 116, 114, 117, 99, 116], jText a.sStruct)]) us)
 case tree =>
  intro KEY
  have hf := HYN.out
  refine stageN (G := Fq w N (askA a Af cf Ao co Aa ca) 38 (Y3 :: []) []) (S := NB N (Y3 :: [])) (v := jText a.sStruct) Y3 38 (.pointer (some ⟨N, 37, none⟩)) (.pointer (some ⟨N, 38, none⟩)) (.string (str a.sStruct)) (.string (str a.sStruct)) [115, 116, 114, 117, 99, 116] (by kernel_rfl) rfl rfl rfl rfl rfl rfl rfl rfl rfl rfl nx_fq (fun _ _ h hk => h.but hk hf) (fun h => h.2 (by simp)) ⟨HF.out, HL.out⟩ HY.out HJ.out (by kernel_rfl) (fun _ h => h.new) (fun W _ => lf_of (refText_leaf (str a.sStruct) W) fun _ => jv_t a.sStruct) (fun W h => run_ld1 (b := N) (off := 38) rfl (by kernel_rfl) rfl rfl h.fr.arg rfl) (by and_intros <;> (intros; (try and_intros) <;> (intros; kernel_rfl))) (fun _ _ _ _ h => h) (fun _ _ _ _ h => h) (fun _ _ _ _ h => h) (fun _ _ _ _ h => h) (fun u W v h1 h2 h3 => ?_)
  simp only [Exit.then, Act.put, List.getElem_toArray, List.getElem_cons_zero, List.getElem_cons_succ, List.setIfInBounds_toArray, List.set_cons_zero, List.set_cons_succ]
  exact KEY W u v ⟨h1, h2, h3⟩
 case key =>
 clear HF HL HY HJ hvs
 rintro W4 us8 vs103 ⟨⟨f1, f2⟩, f3, f4⟩
 have HF := Lib.hid f1
 have HL := Lib.hid f2
 have HY := Lib.hid f3
 have HJ := Lib.hid f4
 have hvs := f4.len
 clear f1 f2 f3 f4
 go_wp2_with fail
 apply sharedG (F := fun W _ us => Fq w N (askA a Af cf Ao co Aa ca) 38 (Y3 :: []) [] W ∧ W.heap[Y3]? = some (.cells us.toArray 25 (0, 0)) ∧ JV W (NB N (Y3 :: [])) (.mk 6 false 0 [] [] [([102, 111, 108, 100, 101, 114], jText a.sFolder), ([115, 116, 114, 117, 99, 116], jText a.sStruct), ([110, 97, 109, 101], jText a.sName)]) us)
 case tree =>
  intro KEY
  have hf := HYN.out
  refine stageN (G := Fq w N (askA a Af cf Ao co Aa ca) 38 (Y3 :: []) []) (S := NB N (Y3 :: [])) (v := jText a.sName) Y3 38 (.pointer (some ⟨N, 37, none⟩)) (.pointer (some ⟨N, 39, none⟩)) (.string (str a.sName)) (.string (str a.sName)) [110, 97, 109, 101] (by kernel_rfl) rfl rfl rfl rfl rfl rfl rfl rfl rfl rfl nx_fq (fun _ _ h hk => h.but hk hf) (fun h => h.2 (by simp)) ⟨HF.out, HL.out⟩ HY.out HJ.out (by kernel_rfl) (fun _ h => h.new) (fun W _ => lf_of (refText_leaf (str a.sName) W) fun _ => jv_t a.sName) (fun W h => run_ld1 (b := N) (off := 39) rfl (by kernel_rfl) rfl rfl h.fr.arg rfl) (by and_intros <;> (intros; (try and_intros) <;> (intros; kernel_rfl))) (fun _ _ _ _ h => h) (fun _ _ _ _ h => h) (fun _ _ _ _ h => h) (fun _ _ _ _ h => h) (fun u W v h1 h2 h3 => ?_)
  simp only [Exit.then, Act.put, List.getElem_toArray, List.getElem_cons_zero, List.getElem_cons_succ, List.setIfInBounds_toArray, List.set_cons_zero, List.set_cons_succ]
  exact KEY W u v ⟨h1, h2, h3⟩
 case key =>
 clear HF HL HY HJ hvs
 rintro W5 us8 vs104 ⟨⟨f1, f2⟩, f3, f4⟩
 have HF := Lib.hid f1
 have HL := Lib.hid f2
 have HY := Lib.hid f3
 have HJ := Lib.hid f4
 have hvs := f4.len
 clear f1 f2 f3 f4
 go_wp2_with fail
 apply sharedG (F := fun W _ us => Fq w N (askA a Af cf Ao co Aa ca) 38 (Y3 :: []) [] W ∧ W.heap[Y3]? = some (.cells us.toArray 25 (0, 0)) ∧ JV W (NB N (Y3 :: [])) (.mk 6 false 0 [] [] [([102, 111, 108, 100, 101, 114], jText a.sFolder), ([115, 116, 114, 117, 99, 116], jText a.sStruct), ([110, 97, 109, 101], jText a.sName), ([108, 111, 99, 97, 108], jNum a.sLocal)]) us)
 case tree =>
  intro KEY
  have hf := HYN.out
  refine stageN (G := Fq w N (askA a Af cf Ao co Aa ca) 38 (Y3 :: []) []) (S := NB N (Y3 :: [])) (v := jNum a.sLocal) Y3 39 (.pointer (some ⟨N, 37, none⟩)) (.pointer (some ⟨N, 40, none⟩)) (.int .i64 a.sLocal) (.int .i64 a.sLocal) [108, 111, 99, 97, 108] (by kernel_rfl) rfl rfl rfl rfl rfl rfl rfl rfl rfl rfl nx_fq (fun _ _ h hk => h.but hk hf) (fun h => h.2 (by simp)) ⟨HF.out, HL.out⟩ HY.out HJ.out (by kernel_rfl) (fun _ h => h.new) (fun W _ => lf_of (refNumber_leaf a.sLocal W) fun _ => jv_n a.sLocal) (fun W h => run_ld1 (b := N) (off := 40) rfl (by kernel_rfl) rfl rfl h.fr.arg rfl) (by and_intros <;> (intros; (try and_intros) <;> (intros; kernel_rfl))) (fun _ _ _ _ h => h) (fun _ _ _ _ h => h) (fun _ _ _ _ h => h) (fun _ _ _ _ h => h) (fun u W v h1 h2 h3 => ?_)
  simp only [Exit.then, Act.put, List.getElem_toArray, List.getElem_cons_zero, List.getElem_cons_succ, List.setIfInBounds_toArray, List.set_cons_zero, List.set_cons_succ]
  exact KEY W u v ⟨h1, h2, h3⟩
 case key =>
 clear HF HL HY HJ hvs
 rintro W6 us8 vs105 ⟨⟨f1, f2⟩, f3, f4⟩
 have HF := Lib.hid f1
 have HL := Lib.hid f2
 have HY := Lib.hid f3
 have HJ := Lib.hid f4
 have hvs := f4.len
 clear f1 f2 f3 f4
 go_wp2_with fail
 apply sharedG (F := fun W _ us => Fq w N (askA a Af cf Ao co Aa ca) 38 (Y3 :: []) [] W ∧ W.heap[Y3]? = some (.cells us.toArray 25 (0, 0)) ∧ JV W (NB N (Y3 :: [])) (.mk 6 false 0 [] [] [([102, 111, 108, 100, 101, 114], jText a.sFolder), ([115, 116, 114, 117, 99, 116], jText a.sStruct), ([110, 97, 109, 101], jText a.sName), ([108, 111, 99, 97, 108], jNum a.sLocal), ([102, 105, 108, 101], jText a.sFile)]) us)
 case tree =>
  intro KEY
  have hf := HYN.out
  refine stageN (G := Fq w N (askA a Af cf Ao co Aa ca) 38 (Y3 :: []) []) (S := NB N (Y3 :: [])) (v := jText a.sFile) Y3 38 (.pointer (some ⟨N, 37, none⟩)) (.pointer (some ⟨N, 41, none⟩)) (.string (str a.sFile)) (.string (str a.sFile)) [102, 105, 108, 101] (by kernel_rfl) rfl rfl rfl rfl rfl rfl rfl rfl rfl rfl nx_fq (fun _ _ h hk => h.but hk hf) (fun h => h.2 (by simp)) ⟨HF.out, HL.out⟩ HY.out HJ.out (by kernel_rfl) (fun _ h => h.new) (fun W _ => lf_of (refText_leaf (str a.sFile) W) fun _ => jv_t a.sFile) (fun W h => run_ld1 (b := N) (off := 41) rfl (by kernel_rfl) rfl rfl h.fr.arg rfl) (by and_intros <;> (intros; (try and_intros) <;> (intros; kernel_rfl))) (fun _ _ _ _ h => h) (fun _ _ _ _ h => h) (fun _ _ _ _ h => h) (fun _ _ _ _ h => h) (fun u W v h1 h2 h3 => ?_)
  simp only [Exit.then, Act.put, List.getElem_toArray, List.getElem_cons_zero, List.getElem_cons_succ, List.setIfInBounds_toArray, List.set_cons_zero, List.set_cons_succ]
  exact KEY W u v ⟨h1, h2, h3⟩
 case key =>
 clear HF HL HY HJ hvs
 rintro W7 us8 vs106 ⟨⟨f1, f2⟩, f3, f4⟩
 have HF := Lib.hid f1
 have HL := Lib.hid f2
 have HY := Lib.hid f3
 have HJ := Lib.hid f4
 have hvs := f4.len
 clear f1 f2 f3 f4
 have HF1 : Hid (Fr w N (askA a Af cf Ao co Aa ca) 38 (NB N (Y3 :: [])) ((Y3, jSym a) :: []) W7) := Lib.hid (HF.out.push HYN.out.1 HY.out HJ.out)
 clear HF HY HJ HYN hvs
 have HF := HF1
 clear HF1
 have q0 : W7.cell? ⟨N, 45, none⟩ = some (.int .i64 a.pAt) := (blk_cells HF.out.arg 45).trans rfl
 go_wp2_with fail
 refine (refNumber_leaf a.pAt W7).mono ?_
 rintro e W8 ⟨rfl, hb⟩
 clear q0
 have HF1 := Lib.hid (HF.out.next hb)
 have HL1 : Hid (∀ y ∈ ((Y3 :: []) : List Nat), y < W8.heap.size) := Lib.hid (fun y hy => Nat.lt_of_lt_of_le (HL.out y hy) hb.size)
 clear hb HF HL
 have HF := HF1
 have HL := HL1
 clear HF1 HL1
 go_wp2_with fail
 refine (with_S (.mk 0 false 0 [] [] []) [97, 116] (jNum a.pAt) _ _ (NB N (Y3 :: [])) W8 (JV.leaf W8 _ 0 false 0 []) (JV.leaf W8 _ 3 false a.pAt []) (fun g hg => NB.new HF.out.size HL.out hg) (by decide)).mono ?_
 rintro e W9 ⟨hb, vs107, rfl, hjv⟩
 have HF1 := Lib.hid (HF.out.next hb)
 have HL1 : Hid (∀ y ∈ ((Y3 :: []) : List Nat), y < W9.heap.size) := Lib.hid (fun y hy => Nat.lt_of_lt_of_le (HL.out y hy) hb.size)
 clear hb HF HL
 have HF := HF1
 have HL := HL1
 clear HF1 HL1
 have HJ : Hid (JV W9 (NB N (Y3 :: [])) (.mk 6 false 0 [] [] [([97, 116], jNum a.pAt)]) vs107) := Lib.hid hjv
 have hvs := hjv.len
 have hone := hjv.one
 clear hjv
 have hZ9 : (W9.alloc (.cells #[.int .i64 0, .bool false, .int .i64 0, .string ⟨#[]⟩, .slice none 0 0, .slice none 0 0] 25)).heap[W9.heap.size]? = some (.cells #[.int .i64 0, .bool false, .int .i64 0, .string ⟨#[]⟩, .slice none 0 0, .slice none 0 0] 25 (0, 0)) := heap_alloc_new W9 (.cells #[.int .i64 0, .bool false, .int .i64 0, .string ⟨#[]⟩, .slice none 0 0, .slice none 0 0] 25)
 go_upto_region 7 with (refine wpList_store_row rfl 25 _ _ rfl _ rfl #[.int .i64 0, .bool false, .int .i64 0, .string ⟨#[]⟩, .slice none 0 0, .slice none 0 0] vs107.toArray rfl hZ9 (by simp [hvs]) (by rw [info25s]; simp [hvs]) (by simpa using hone) ?_; intro W10 hk9 hx9)
 have hb := fresh_row hk9
 have HYN := Lib.hid (HF.out.fresh (Nat.le_refl _))
 have HF1 := Lib.hid ((HF.out.wide (fun g h1 h2 => NB.cons h1 h2)).next hb)
 have HJ1 := Lib.hid ((HJ.out.wide (fun g h1 h2 => NB.cons h1 h2)).next hb)
 have HL1 : Hid (∀ y ∈ W9.heap.size :: ((Y3 :: []) : List Nat), y < W10.heap.size) := Lib.hid (fun y hy => by
  rcases List.mem_cons.1 hy with rfl | hy
  ·exact (Array.getElem?_eq_some_iff.1 hx9).1
  ·exact Nat.lt_of_lt_of_le (HL.out y hy) hb.size)
 have HY := Lib.hid hx9
 clear hb hk9 hx9 hZ9 hone HF HJ HL
 generalize W9.heap.size = Y4 at HF1 HJ1 HL1 HY HYN ⊢
 have HF := HF1
 have HJ := HJ1
 have HL := HL1
 clear HF1 HJ1 HL1
 go_wp2_with fail
 apply sharedG (F := fun W _ us => Fq w N (askA a Af cf Ao co Aa ca) 38 (Y4 :: (Y3 :: [])) ((Y3, jSym a) :: []) W ∧ W.heap[Y4]? = some (.cells us.toArray 25 (0, 0)) ∧ JV W (NB N (Y4 :: (Y3 :: []))) (.mk 6 false 0 [] [] [([97, 116], jNum a.pAt), ([110, 97, 109, 101], jText a.pName)]) us)
 case tree =>
  intro KEY
  have hf := HYN.out
  refine stageN (G := Fq w N (askA a Af cf Ao co Aa ca) 38 (Y4 :: (Y3 :: [])) ((Y3, jSym a) :: [])) (S := NB N (Y4 :: (Y3 :: []))) (v := jText a.pName) Y4 38 (.pointer (some ⟨N, 45, none⟩)) (.pointer (some ⟨N, 46, none⟩)) (.string (str a.pName)) (.string (str a.pName)) [110, 97, 109, 101] (by kernel_rfl) rfl rfl rfl rfl rfl rfl rfl rfl rfl rfl nx_fq (fun _ _ h hk => h.but hk hf) (fun h => h.2 (by simp)) ⟨HF.out, HL.out⟩ HY.out HJ.out (by kernel_rfl) (fun _ h => h.new) (fun W _ => lf_of (refText_leaf (str a.pName) W) fun _ => jv_t a.pName) (fun W h => run_ld1 (b := N) (off := 46) rfl (by kernel_rfl) rfl rfl h.fr.arg rfl) (by and_intros <;> (intros; (try and_intros) <;> (intros; kernel_rfl))) (fun _ _ _ _ h => h) (fun _ _ _ _ h => h) (fun _ _ _ _ h => h) (fun _ _ _ _ h => h) (fun u W v h1 h2 h3 => ?_)
  simp only [Exit.then, Act.put, List.getElem_toArray, List.getElem_cons_zero, List.getElem_cons_succ, List.setIfInBounds_toArray, List.set_cons_zero, List.set_cons_succ]
  exact KEY W u v ⟨h1, h2, h3⟩
 case key =>
 clear HF HL HY HJ hvs
 rintro W11 us8 vs110 ⟨⟨f1, f2⟩, f3, f4⟩
 have HF := Lib.hid f1
 have HL := Lib.hid f2
 have HY := Lib.hid f3
 have HJ := Lib.hid f4
 have hvs := f4.len
 clear f1 f2 f3 f4
 go_wp2_with fail
 apply sharedG (F := fun W _ us => Fq w N (askA a Af cf Ao co Aa ca) 38 (Y4 :: (Y3 :: [])) ((Y3, jSym a) :: []) W ∧ W.heap[Y4]? = some (.cells us.toArray 25 (0, 0)) ∧ JV W (NB N (Y4 :: (Y3 :: []))) (.mk 6 false 0 [] [] [([97, 116], jNum a.pAt), ([110, 97, 109, 101], jText a.pName), ([116, 121, 112, 101], jText a.pType)]) us)
 case tree =>
  intro KEY
  have hf := HYN.out
  refine stageN (G := Fq w N (askA a Af cf Ao co Aa ca) 38 (Y4 :: (Y3 :: [])) ((Y3, jSym a) :: [])) (S := NB N (Y4 :: (Y3 :: []))) (v := jText a.pType) Y4 38 (.pointer (some ⟨N, 45, none⟩)) (.pointer (some ⟨N, 47, none⟩)) (.string (str a.pType)) (.string (str a.pType)) [116, 121, 112, 101] (by kernel_rfl) rfl rfl rfl rfl rfl rfl rfl rfl rfl rfl nx_fq (fun _ _ h hk => h.but hk hf) (fun h => h.2 (by simp)) ⟨HF.out, HL.out⟩ HY.out HJ.out (by kernel_rfl) (fun _ h => h.new) (fun W _ => lf_of (refText_leaf (str a.pType) W) fun _ => jv_t a.pType) (fun W h => run_ld1 (b := N) (off := 47) rfl (by kernel_rfl) rfl rfl h.fr.arg rfl) (by and_intros <;> (intros; (try and_intros) <;> (intros; kernel_rfl))) (fun _ _ _ _ h => h) (fun _ _ _ _ h => h) (fun _ _ _ _ h => h) (fun _ _ _ _ h => h) (fun u W v h1 h2 h3 => ?_)
  simp only [Exit.then, Act.put, List.getElem_toArray, List.getElem_cons_zero, List.getElem_cons_succ, List.setIfInBounds_toArray, List.set_cons_zero, List.set_cons_succ]
  exact KEY W u v ⟨h1, h2, h3⟩
 case key =>
 clear HF HL HY HJ hvs
 rintro W12 us8 vs111 ⟨⟨f1, f2⟩, f3, f4⟩
 have HF := Lib.hid f1
 have HL := Lib.hid f2
 have HY := Lib.hid f3
 have HJ := Lib.hid f4
 have hvs := f4.len
 clear f1 f2 f3 f4
 go_wp2_with fail
 apply sharedG (F := fun W _ us => Fq w N (askA a Af cf Ao co Aa ca) 38 (Y4 :: (Y3 :: [])) ((Y3, jSym a) :: []) W ∧ W.heap[Y4]? = some (.cells us.toArray 25 (0, 0)) ∧ JV W (NB N (Y4 :: (Y3 :: []))) (.mk 6 false 0 [] [] [([97, 116], jNum a.pAt), ([110, 97, 109, 101], jText a.pName), ([116, 121, 112, 101], jText a.pType), ([118, 97, 108, 117, 101], jText a.pValue)]) us)
 case tree =>
  intro KEY
  have hf := HYN.out
  refine stageN (G := Fq w N (askA a Af cf Ao co Aa ca) 38 (Y4 :: (Y3 :: [])) ((Y3, jSym a) :: [])) (S := NB N (Y4 :: (Y3 :: []))) (v := jText a.pValue) Y4 38 (.pointer (some ⟨N, 45, none⟩)) (.pointer (some ⟨N, 48, none⟩)) (.string (str a.pValue)) (.string (str a.pValue)) [118, 97, 108, 117, 101] (by kernel_rfl) rfl rfl rfl rfl rfl rfl rfl rfl rfl rfl nx_fq (fun _ _ h hk => h.but hk hf) (fun h => h.2 (by simp)) ⟨HF.out, HL.out⟩ HY.out HJ.out (by kernel_rfl) (fun _ h => h.new) (fun W _ => lf_of (refText_leaf (str a.pValue) W) fun _ => jv_t a.pValue) (fun W h => run_ld1 (b := N) (off := 48) rfl (by kernel_rfl) rfl rfl h.fr.arg rfl) (by and_intros <;> (intros; (try and_intros) <;> (intros; kernel_rfl))) (fun _ _ _ _ h => h) (fun _ _ _ _ h => h) (fun _ _ _ _ h => h) (fun _ _ _ _ h => h) (fun u W v h1 h2 h3 => ?_)
  simp only [Exit.then, Act.put, List.getElem_toArray, List.getElem_cons_zero, List.getElem_cons_succ, List.setIfInBounds_toArray, List.set_cons_zero, List.set_cons_succ]
  exact KEY W u v ⟨h1, h2, h3⟩
 case key =>
 clear HF HL HY HJ hvs
 rintro W13 us8 vs112 ⟨⟨f1, f2⟩, f3, f4⟩
 have HF := Lib.hid f1
 have HL := Lib.hid f2
 have HY := Lib.hid f3
 have HJ := Lib.hid f4
 have hvs := f4.len
 clear f1 f2 f3 f4
 have HF1 : Hid (Fr w N (askA a Af cf Ao co Aa ca) 38 (NB N (Y4 :: (Y3 :: []))) ((Y4, jParam a) :: ((Y3, jSym a) :: [])) W13) := Lib.hid (HF.out.push HYN.out.1 HY.out HJ.out)
 clear HF HY HJ HYN hvs
 have HF := HF1
 clear HF1
 have b1 := below_box W13 (.cells #[.int .i64 5, .bool false, .int .i64 0, .string ⟨#[]⟩, .slice none 0 0, .slice none 0 0] 25)
 have s1 : (W13.alloc (.cells #[.int .i64 5, .bool false, .int .i64 0, .string ⟨#[]⟩, .slice none 0 0, .slice none 0 0] 25)).heap.size = W13.heap.size + 1 := by simp
 have e1 : JBox _ _ _ _ _ _ _ _ := heap_alloc_new W13 (.cells #[.int .i64 5, .bool false, .int .i64 0, .string ⟨#[]⟩, .slice none 0 0, .slice none 0 0] 25)
 have b2 := below_box (W13.alloc (.cells #[.int .i64 5, .bool false, .int .i64 0, .string ⟨#[]⟩, .slice none 0 0, .slice none 0 0] 25)) (.cells #[.int .i64 5, .bool false, .int .i64 0, .string ⟨#[]⟩, .slice none 0 0, .slice none 0 0] 25)
 have e2 : JBox _ _ _ _ _ _ _ _ := heap_alloc_new (W13.alloc (.cells #[.int .i64 5, .bool false, .int .i64 0, .string ⟨#[]⟩, .slice none 0 0, .slice none 0 0] 25)) (.cells #[.int .i64 5, .bool false, .int .i64 0, .string ⟨#[]⟩, .slice none 0 0, .slice none 0 0] 25)
 have s2 : ((W13.alloc (.cells #[.int .i64 5, .bool false, .int .i64 0, .string ⟨#[]⟩, .slice none 0 0, .slice none 0 0] 25)).alloc (.cells #[.int .i64 5, .bool false, .int .i64 0, .string ⟨#[]⟩, .slice none 0 0, .slice none 0 0] 25)).heap.size = W13.heap.size + 2 := by simp
 rw [s1] at e2
 have HF1 : Hid (Fr w N (askA a Af cf Ao co Aa ca) 38 (fun g => g < W13.heap.size + 2 ∧ NB N ((W13.heap.size + 1) :: W13.heap.size :: (Y4 :: (Y3 :: []))) g) ((Y4, jParam a) :: ((Y3, jSym a) :: [])) ((W13.alloc (.cells #[.int .i64 5, .bool false, .int .i64 0, .string ⟨#[]⟩, .slice none 0 0, .slice none 0 0] 25)).alloc (.cells #[.int .i64 5, .bool false, .int .i64 0, .string ⟨#[]⟩, .slice none 0 0, .slice none 0 0] 25))) := Lib.hid (((HF.out.wide (fun g h1 h2 => ⟨by omega, NB.cons (NB.cons h1 h2) (by omega)⟩)).next b1).next b2)
 have HYB := Lib.hid HF.out.names
 have HN5 := Lib.hid HF.out.size
 have HLB := Lib.hid HL.out
 have HX5 := Lib.hid (e1.next b2)
 have HX6 := Lib.hid e2
 have HS2 := Lib.hid s2
 have HYLT : Hid (W13.heap.size < W13.heap.size + 2) := Lib.hid (by omega)
 clear b1 s1 e1 b2 e2 s2 HF HL
 go_upto_region 11 with fail
 generalize ((W13.alloc (.cells #[.int .i64 5, .bool false, .int .i64 0, .string ⟨#[]⟩, .slice none 0 0, .slice none 0 0] 25)).alloc (.cells #[.int .i64 5, .bool false, .int .i64 0, .string ⟨#[]⟩, .slice none 0 0, .slice none 0 0] 25)) = W14 at HF1 HX5 HX6 HS2 ⊢
 generalize W13.heap.size = Y5 at HF1 HYB HN5 HLB HX5 HX6 HS2 HYLT ⊢
 have HF := HF1
 clear HF1
 have HG0 : Hid (Gr 25 6 JV (fun _ => False) (Y5 + 2) ((a.order.take 0).map jNum) (.slice none 0 0) [] W14) := Lib.hid (by rw [← HS2.out]; exact Gr.nil)
 go_wp2_with fail
 go_loopw [7] (fun i wr => ∃ (k : Nat) (Av : Option Addr) (cv : Nat) (rs : List (List Value)), k ≤ a.order.length ∧ i = .int .i64 k ∧ Hid (Gr 25 6 JV (fun _ => False) (Y5 + 2) ((a.order.take k).map jNum) (.slice Av k cv) rs wr) ∧ Hid (JBox wr Y5 (.int .i64 5) (.bool false) (.int .i64 0) (.string ⟨#[]⟩) (.slice Av k cv) (.slice none 0 0)) ∧ Hid (JBox wr (Y5 + 1) (.int .i64 5) (.bool false) (.int .i64 0) (.string ⟨#[]⟩) (.slice none 0 0) (.slice none 0 0)) ∧ Hid (Fr w N (askA a Af cf Ao co Aa ca) 38 (fun g => g < (Y5 + 2) ∧ NB N ((Y5 + 1) :: Y5 :: (Y4 :: (Y3 :: []))) g) ((Y4, jParam a) :: ((Y3, jSym a) :: [])) wr)) (fun i _ => a.order.length - (intOf i).toNat)
 case atStart => exact ⟨0, none, 0, [], by omega, rfl, HG0, HX5, HX6, HF⟩
 case round =>
  clear HF HX5 HX6 HG0
  obtain ⟨k, Av, cv, rs, hk, rfl, HG, HX, HX6, HF⟩ := hrel
  by_cases hlt : k < a.order.length
  ·have hsm : a.order.length ≤ 1000000 := by have := HLEN.out; omega
   have hcon : decide ((k : Int) < (a.order.length : Int)) = true := by simp; omega
   have HLOW := Lib.hid HF.out.low
   obtain ⟨x, hx⟩ : ∃ x, a.order[k]? = some x := ⟨a.order[k], List.getElem?_eq_getElem hlt⟩
   obtain ⟨g, o, hA1, hg, hcell⟩ := (HR.out wr HLOW.out).order k x hx
   subst hA1
   have qc : wr.cell? ⟨N, 44, none⟩ = some (.slice (some ⟨g, o, none⟩) a.order.length co) := (blk_cells HF.out.arg 44).trans rfl
   have q0 : wr.cell? ⟨g, o + k, none⟩ = some (.int .i64 x) := by have := hcell 0 _ rfl; rwa [Nat.mul_one] at this
   have HY := Lib.hid hx
   have HGL := Lib.hid hg
   have HQ0 := Lib.hid q0
   clear hx hcell hg q0 HLOW
   go_wp2_with fail
   clear qc
   refine wp_region_any (by kernel_rfl) ?_
   change wpAny _ _ _ _ _ _ _ (World.drew _)
   have hb : Below wr.heap.size wr wr.drew := below_drewN (Below.refl _ _) 1
   have HG1 := Lib.hid (HG.out.next kept_I hb)
   have HX1 := Lib.hid (HX.out.next hb)
   have HX61 := Lib.hid (HX6.out.next hb)
   have HF1 := Lib.hid (HF.out.next hb)
   have HGL1 := Lib.hid (Nat.lt_of_lt_of_le HGL.out hb.size)
   have HQ1 := Lib.hid (hb.cell (p := ⟨g, o + k, none⟩) HGL.out |>.trans HQ0.out)
   clear hb HGL HQ0 HG HX HX6 HF
   generalize wr.drew = V0 at HGL1 HQ1 HG1 HX1 HX61 HF1 ⊢
   have HS : Hid ((fun W => W.cell? ⟨Y5, 4, none⟩ = some (.slice Av k cv) ∧ W.cell? ⟨N, 44, none⟩ = some (.slice (some ⟨g, o, none⟩) a.order.length co) ∧ W.cell? ⟨g, o + k, none⟩ = some (.int .i64 x)) V0) := Lib.hid ⟨HX1.out.cells.2.2.2.2.1, (blk_cells HF1.out.arg 44).trans rfl, HQ1.out⟩
   refine wpAny_of_till (S := fun W => W.cell? ⟨Y5, 4, none⟩ = some (.slice Av k cv) ∧ W.cell? ⟨N, 44, none⟩ = some (.slice (some ⟨g, o, none⟩) a.order.length co) ∧ W.cell? ⟨g, o + k, none⟩ = some (.int .i64 x)) (st := (fun l => l.getD 9 false)) _ _ _ _ ?_
   change wpTill _ _ _ _ _ _ _ #[false, false, false, false, false, false, false, false, false, false, false, false] _ _
   refine tkF 0 (.pointer (some ⟨Y5, 4, none⟩)) rfl ?yb0 (fun _ => HS.out) ?_
   case yb0 => (intro W0 _; go_simp; (try with_reducible rfl))
   simp only [Act.put, CL]
   refine tk 1 (.slice Av k cv) rfl (fun l h h9 => (Shutd.step h (j := 9) (k := 1) (by kernel_rfl) h9)) (Or.inl ⟨by rfl, ?yb1⟩) HS.out (fun _ => ?_)
   case yb1 => (intro W0 hS; obtain ⟨s1, s2, s3⟩ := hS; go_simp; (try with_reducible rfl))
   simp only [Act.put, CL]
   refine tkF 2 (.pointer (some ⟨N, 44, none⟩)) rfl ?yb2 (fun _ => HS.out) ?_
   case yb2 => (intro W0 _; go_simp; (try with_reducible rfl))
   simp only [Act.put, CL]
   refine tk 3 (.slice (some ⟨g, o, none⟩) a.order.length co) rfl (fun l h h9 => (Shutd.step h (j := 5) (k := 3) (by kernel_rfl) (Shutd.step h (j := 6) (k := 5) (by kernel_rfl) (Shutd.step h (j := 7) (k := 6) (by kernel_rfl) (Shutd.step h (j := 9) (k := 7) (by kernel_rfl) h9))))) (Or.inl ⟨by rfl, ?yb3⟩) HS.out (fun _ => ?_)
   case yb3 => (intro W0 hS; obtain ⟨s1, s2, s3⟩ := hS; go_simp; (try with_reducible rfl))
   simp only [Act.put, CL]
   refine tkF 4 (.int .i64 (k : Int)) rfl ?yb4 (fun _ => HS.out) ?_
   case yb4 => (intro W0 _; go_simp; (try with_reducible rfl))
   simp only [Act.put, CL]
   refine tkF 5 (.pointer (some ⟨g, o + k, none⟩)) rfl ?yb5 (fun _ => HS.out) ?_
   case yb5 => (intro W0 _; have h7 := hcon; go_simp; (try with_reducible rfl))
   simp only [Act.put, CL]
   refine tk 6 (.int .i64 x) rfl (fun l h h9 => (Shutd.step h (j := 7) (k := 6) (by kernel_rfl) (Shutd.step h (j := 9) (k := 7) (by kernel_rfl) h9))) (Or.inl ⟨by rfl, ?yb6⟩) HS.out (fun _ => ?_)
   case yb6 => (intro W0 hS; obtain ⟨s1, s2, s3⟩ := hS; go_simp; (try with_reducible rfl))
   simp only [Act.put, CL]
   refine rdy 7 rfl (fun KK hKK => ?_)
   refine wp_callR 39 #[.int .i64 x] (by kernel_rfl) (refNumber_leaf x V0) ?_
   rintro e V1 ⟨rfl, hb⟩
   refine ⟨_, rfl, ?_⟩
   have HG2 := Lib.hid (HG1.out.next kept_I hb)
   have HX2 := Lib.hid (HX1.out.next hb)
   have HX62 := Lib.hid (HX61.out.next hb)
   have HF2 := Lib.hid (HF1.out.next hb)
   have HGL2 := Lib.hid (Nat.lt_of_lt_of_le HGL1.out hb.size)
   have HQ2 := Lib.hid (hb.cell (p := ⟨g, o + k, none⟩) HGL1.out |>.trans HQ1.out)
   clear hb HS HGL1 HQ1 HG1 HX1 HX61 HF1
   have HS : Hid ((fun W => W.cell? ⟨Y5, 4, none⟩ = some (.slice Av k cv) ∧ W.cell? ⟨N, 44, none⟩ = some (.slice (some ⟨g, o, none⟩) a.order.length co) ∧ W.cell? ⟨g, o + k, none⟩ = some (.int .i64 x)) V1) := Lib.hid ⟨HX2.out.cells.2.2.2.2.1, (blk_cells HF2.out.arg 44).trans rfl, HQ2.out⟩
   refine hKK _ _ (fun _ => HS.out) ?_
   clear hKK KK
   simp only [Act.put, CL]
   refine rdy 8 rfl (fun KK hKK => ?_)
   go_simp
   have hb := below_box V1 (.cells #[.int .i64 3, .bool false, .int .i64 x, .string ⟨#[]⟩, .slice none 0 0, .slice none 0 0] 25)
   have HQQ := Lib.hid (heap_alloc_new V1 (.cells #[.int .i64 3, .bool false, .int .i64 x, .string ⟨#[]⟩, .slice none 0 0, .slice none 0 0] 25))
   have HG3 := Lib.hid (HG2.out.next kept_I hb)
   have HX3 := Lib.hid (HX2.out.next hb)
   have HX63 := Lib.hid (HX62.out.next hb)
   have HF3 := Lib.hid (HF2.out.next hb)
   have HGL3 := Lib.hid (Nat.lt_of_lt_of_le HGL2.out hb.size)
   have HQ3 := Lib.hid (hb.cell (p := ⟨g, o + k, none⟩) HGL2.out |>.trans HQ2.out)
   clear hb HS HGL2 HQ2 HG2 HX2 HX62 HF2
   generalize (V1.alloc (.cells #[.int .i64 3, .bool false, .int .i64 x, .string ⟨#[]⟩, .slice none 0 0, .slice none 0 0] 25)) = V2 at HQQ HGL3 HQ3 HG3 HX3 HX63 HF3 ⊢
   obtain ⟨M, hM⟩ : ∃ M, V1.heap.size = M := ⟨_, rfl⟩
   rw [hM] at HQQ ⊢
   clear hM
   have HS : Hid ((fun W => W.cell? ⟨Y5, 4, none⟩ = some (.slice Av k cv) ∧ W.cell? ⟨N, 44, none⟩ = some (.slice (some ⟨g, o, none⟩) a.order.length co) ∧ W.cell? ⟨g, o + k, none⟩ = some (.int .i64 x)) V2) := Lib.hid ⟨HX3.out.cells.2.2.2.2.1, (blk_cells HF3.out.arg 44).trans rfl, HQ3.out⟩
   refine hKK _ _ (fun _ => HS.out) ?_
   clear hKK KK
   simp only [Act.put, CL]
   refine rdy 9 rfl (fun KK hKK => ?_)
   obtain ⟨i0, hi, hz0, hz1, hz2⟩ := info_parts info25
   have hlk : ((a.order.take k).map jNum).length = k := by rw [List.length_map, List.length_take]; omega
   have hown := HG3.out.own.own
   rw [hlk] at hown
   refine wp_append_lies V2 (.tmp 74) (.tmp 81) 22 rfl (Y5 + 2) 25 i0 zeroJ 6 88 Tryz.underlying22 hi hz0 hz1 hz2 rfl (by decide) (.slice Av k cv) k rs.flatten rfl hown ⟨M, 0, none⟩ 1 1 [.int .i64 3, .bool false, .int .i64 x, .string ⟨#[]⟩, .slice none 0 0, .slice none 0 0] rfl rfl (World.news_of_block HQQ.out) (by intro u hu; simp at hu; rcases hu with rfl | rfl | rfl | rfl | rfl | rfl <;> rfl) (by decide) (by have := HLEN.out; unfold maxLen; omega) (by have := HLEN.out; omega) HG3.out.own.le V2.heap.size rfl ?_
   intro g9 cap V3 hown3 hgrow hat3 hlt3
   have hNo : ∀ j ∈ (Value.slice Av k cv).ownBlock.toList, (Y5 + 2) ≤ j := by
    intro j hm
    have hm : (Value.slice Av k cv).ownBlock = some j := by simpa using hm
    exact (HG3.out.own.lt j hm).1
   obtain ⟨hG4, hk3⟩ := HG3.out.push kept_I (x := jNum x) (vs := [.int .i64 3, .bool false, .int .i64 x, .string ⟨#[]⟩, .slice none 0 0, .slice none 0 0]) (JV.leaf V2 _ 3 false x []) (by rw [hlk]; exact hown3) hgrow hat3
   rw [hlk] at hG4
   have htk : (a.order.take k).map jNum ++ [jNum x] = (a.order.take (k + 1)).map jNum := by rw [List.take_add_one, HY.out, List.map_append]; rfl
   rw [htk] at hG4
   have HG4 := Lib.hid hG4
   have HX4 : Hid (JBox V3 Y5 _ _ _ _ _ _) := Lib.hid (HX3.out.but hk3 (fun hm => by have := hNo _ hm; have := HYLT.out; omega))
   have HX64 : Hid (JBox V3 (Y5 + 1) _ _ _ _ _ _) := Lib.hid (HX63.out.but hk3 (fun hm => by have := hNo _ hm; omega))
   have HF4 := Lib.hid (HF3.out.butR hk3 HN5.out HYB.out (fun j hj => ⟨by have := hNo j hj; have := HYLT.out; omega, .inl (hNo j hj)⟩))
   clear hG4 hk3 hNo hgrow hown3 hown htk hat3 hlt3 hi hz0 hz1 hz2 hlk HG3 HX3 HX63 HF3 HS HQQ HGL3 HQ3
   refine hKK _ _ (fun h0 => absurd h0 (by decide)) ?_
   clear hKK KK
   simp only [Act.put, CL]
   refine tkF 10 (.pointer (some ⟨Y5, 4, none⟩)) rfl ?yb10 (fun h0 => absurd h0 (by decide)) ?_
   case yb10 => (intro W0 _; go_simp; (try with_reducible rfl))
   simp only [Act.put, CL]
   refine rdy 11 rfl (fun KK hKK => ?_)
   obtain ⟨hk4, hx4⟩ := but_set (i := 4) (.slice (some ⟨g9, 0, none⟩) (k + 1) cap) HX4.out
   have HG5 := Lib.hid (HG4.out.but kept_I hk4 (by intro j hj; simp at hj; have := HYLT.out; omega) (by intro j hj; simp))
   have HX5 : Hid (JBox (V3.setCell ⟨Y5, 4, none⟩ (.slice (some ⟨g9, 0, none⟩) (k + 1) cap)) Y5 (.int .i64 5) (.bool false) (.int .i64 0) (.string ⟨#[]⟩) (.slice (some ⟨g9, 0, none⟩) (k + 1) cap) (.slice none 0 0)) := Lib.hid hx4
   have HX65 := Lib.hid (HX64.out.but hk4 (by simp))
   have HF5 := Lib.hid (HF4.out.butR hk4 HN5.out HYB.out (fun j hj => by simp at hj; subst hj; exact ⟨Nat.le_refl _, .inr (by simp)⟩))
   obtain ⟨x0, x1, x2, x3, x4, x5⟩ := HX4.out.cells
   obtain ⟨f0, f1, f2, f3, f4, f5⟩ := HX4.out.frees
   clear hk4 hx4
   go_simp
   clear x0 x1 x2 x3 x4 x5 f0 f1 f2 f3 f4 f5
   refine hKK _ _ (fun h0 => absurd h0 (by decide)) ?_
   clear hKK KK
   simp only [Act.put, CL]
   refine wpTill_done (by kernel_rfl) ?_ _
   (try simp only [Exit.then])
   go_wp2_with fail
   go_roundw
   case rel => exact ⟨k + 1, _, _, _, by omega, by go_num, HG5, HX5, HX65, HF5⟩
   case measure => simp [intOf]; omega
  ·obtain rfl : k = a.order.length := by omega
   have hcon : decide (((a.order.length : Nat) : Int) < (a.order.length : Int)) = false := by simp
   have qc : wr.cell? ⟨N, 44, none⟩ = some (.slice Ao a.order.length co) := (blk_cells HF.out.arg 44).trans rfl
   have HV : Hid (JV wr (fun g => g < wr.heap.size ∧ NB N ((Y5 + 1) :: Y5 :: (Y4 :: (Y3 :: []))) g) (jList (a.order.map jNum)) [.int .i64 5, .bool false, .int .i64 0, .string ⟨#[]⟩, .slice Av a.order.length cv, .slice none 0 0]) := Lib.hid (by
    have h1 := HG.out.list 5 false 0 []
    rw [List.take_length] at h1
    exact h1.wide (fun g hg h2 => by
     rcases hg with hg | hg
     ·exact hg.elim
     ·exact ⟨h2, by have := HN5.out; omega, fun hm => by
       rcases List.mem_cons.1 hm with rfl | hm
       ·omega
       rcases List.mem_cons.1 hm with rfl | hm
       ·omega
       ·have := HLB.out g hm; omega⟩))
   have HF1 : Hid (Fr w N (askA a Af cf Ao co Aa ca) 38 (fun g => g < wr.heap.size ∧ NB N ((Y5 + 1) :: Y5 :: (Y4 :: (Y3 :: []))) g) ((Y5, jList (a.order.map jNum)) :: ((Y4, jParam a) :: ((Y3, jSym a) :: []))) wr) := Lib.hid ((HF.out.wide (fun g h1 h2 => ⟨h2, h1.2⟩)).push HN5.out HX.out HV.out)
   have HYB1 : Hid (∀ y ∈ ((Y5, jList (a.order.map jNum)) :: ((Y4, jParam a) :: ((Y3, jSym a) :: []))).map (·.1), y < Y5 + 1) := Lib.hid (fun y hy => by
    rw [List.map_cons] at hy
    rcases List.mem_cons.1 hy with rfl | hy
    ·exact Nat.lt_succ_self _
    ·have := HYB.out y hy; omega)
   have HN6 : Hid (N + 2 ≤ Y5 + 1) := Lib.hid (by have := HN5.out; omega)
   have HYLT1 : Hid (Y5 + 1 < wr.heap.size) := Lib.hid HX6.out.lt
   clear HF HX HG HV HYB HN5 HYLT
   have HF := HF1
   have HYB := HYB1
   have HN5 := HN6
   have HYLT := HYLT1
   clear HF1 HYB1 HN6 HYLT1
   obtain ⟨B2, hB2⟩ : ∃ B2, wr.heap.size = B2 := ⟨_, rfl⟩
   have HB2 := Lib.hid hB2
   rw [hB2] at HF HYLT
   clear hB2
   rename World => wl
   have HG0 : Hid (Gr 25 6 JV (fun _ => False) B2 ((a.args.take 0).map jNum) (.slice none 0 0) [] wl) := Lib.hid (by rw [← HB2.out]; exact Gr.nil)
   go_wp2_with fail
   go_loopw [8] (fun i wr => ∃ (k : Nat) (Av : Option Addr) (cv : Nat) (rs : List (List Value)), k ≤ a.args.length ∧ i = .int .i64 k ∧ Hid (Gr 25 6 JV (fun _ => False) B2 ((a.args.take k).map jNum) (.slice Av k cv) rs wr) ∧ Hid (JBox wr (Y5 + 1) (.int .i64 5) (.bool false) (.int .i64 0) (.string ⟨#[]⟩) (.slice Av k cv) (.slice none 0 0)) ∧ Hid (Fr w N (askA a Af cf Ao co Aa ca) 38 (fun g => g < B2 ∧ NB N ((Y5 + 1) :: Y5 :: (Y4 :: (Y3 :: []))) g) ((Y5, jList (a.order.map jNum)) :: ((Y4, jParam a) :: ((Y3, jSym a) :: []))) wr)) (fun i _ => a.args.length - (intOf i).toNat)
   case atStart => exact ⟨0, none, 0, [], by omega, rfl, HG0, HX6, HF⟩
   case round =>
    clear HF HX6 HG0
    obtain ⟨k, Av, cv, rs, hk, rfl, HG, HX, HF⟩ := hrel
    by_cases hlt : k < a.args.length
    ·have hsm : a.args.length ≤ 1000000 := by have := HLEN.out; omega
     have hcon : decide ((k : Int) < (a.args.length : Int)) = true := by simp; omega
     have HLOW := Lib.hid HF.out.low
     obtain ⟨x, hx⟩ : ∃ x, a.args[k]? = some x := ⟨a.args[k], List.getElem?_eq_getElem hlt⟩
     obtain ⟨g, o, hA1, hg, hcell⟩ := (HR.out wr HLOW.out).args k x hx
     subst hA1
     have qc : wr.cell? ⟨N, 49, none⟩ = some (.slice (some ⟨g, o, none⟩) a.args.length ca) := (blk_cells HF.out.arg 49).trans rfl
     have q0 : wr.cell? ⟨g, o + k, none⟩ = some (.int .i64 x) := by have := hcell 0 _ rfl; rwa [Nat.mul_one] at this
     have HY := Lib.hid hx
     have HGL := Lib.hid hg
     have HQ0 := Lib.hid q0
     clear hx hcell hg q0 HLOW
     go_wp2_with fail
     clear qc
     refine wp_region_any (by kernel_rfl) ?_
     change wpAny _ _ _ _ _ _ _ (World.drew _)
     have hb : Below wr.heap.size wr wr.drew := below_drewN (Below.refl _ _) 1
     have HG1 := Lib.hid (HG.out.next kept_I hb)
     have HX1 := Lib.hid (HX.out.next hb)
     have HF1 := Lib.hid (HF.out.next hb)
     have HGL1 := Lib.hid (Nat.lt_of_lt_of_le HGL.out hb.size)
     have HQ1 := Lib.hid (hb.cell (p := ⟨g, o + k, none⟩) HGL.out |>.trans HQ0.out)
     clear hb HGL HQ0 HG HX HF
     generalize wr.drew = V0 at HGL1 HQ1 HG1 HX1 HF1 ⊢
     have HS : Hid ((fun W => W.cell? ⟨(Y5 + 1), 4, none⟩ = some (.slice Av k cv) ∧ W.cell? ⟨N, 49, none⟩ = some (.slice (some ⟨g, o, none⟩) a.args.length ca) ∧ W.cell? ⟨g, o + k, none⟩ = some (.int .i64 x)) V0) := Lib.hid ⟨HX1.out.cells.2.2.2.2.1, (blk_cells HF1.out.arg 49).trans rfl, HQ1.out⟩
     refine wpAny_of_till (S := fun W => W.cell? ⟨(Y5 + 1), 4, none⟩ = some (.slice Av k cv) ∧ W.cell? ⟨N, 49, none⟩ = some (.slice (some ⟨g, o, none⟩) a.args.length ca) ∧ W.cell? ⟨g, o + k, none⟩ = some (.int .i64 x)) (st := (fun l => l.getD 9 false)) _ _ _ _ ?_
     change wpTill _ _ _ _ _ _ _ #[false, false, false, false, false, false, false, false, false, false, false, false] _ _
     refine tkF 0 (.pointer (some ⟨(Y5 + 1), 4, none⟩)) rfl ?yb0 (fun _ => HS.out) ?_
     case yb0 => (intro W0 _; go_simp; (try with_reducible rfl))
     simp only [Act.put, CL]
     refine tk 1 (.slice Av k cv) rfl (fun l h h9 => (Shutd.step h (j := 9) (k := 1) (by kernel_rfl) h9)) (Or.inl ⟨by rfl, ?yb1⟩) HS.out (fun _ => ?_)
     case yb1 => (intro W0 hS; obtain ⟨s1, s2, s3⟩ := hS; go_simp; (try with_reducible rfl))
     simp only [Act.put, CL]
     refine tkF 2 (.pointer (some ⟨N, 49, none⟩)) rfl ?yb2 (fun _ => HS.out) ?_
     case yb2 => (intro W0 _; go_simp; (try with_reducible rfl))
     simp only [Act.put, CL]
     refine tk 3 (.slice (some ⟨g, o, none⟩) a.args.length ca) rfl (fun l h h9 => (Shutd.step h (j := 5) (k := 3) (by kernel_rfl) (Shutd.step h (j := 6) (k := 5) (by kernel_rfl) (Shutd.step h (j := 7) (k := 6) (by kernel_rfl) (Shutd.step h (j := 8) (k := 7) (by kernel_rfl) (Shutd.step h (j := 9) (k := 8) (by kernel_rfl) h9)))))) (Or.inl ⟨by rfl, ?yb3⟩) HS.out (fun _ => ?_)
     case yb3 => (intro W0 hS; obtain ⟨s1, s2, s3⟩ := hS; go_simp; (try with_reducible rfl))
     simp only [Act.put, CL]
     refine tkF 4 (.int .i64 (k : Int)) rfl ?yb4 (fun _ => HS.out) ?_
     case yb4 => (intro W0 _; go_simp; (try with_reducible rfl))
     simp only [Act.put, CL]
     refine tkF 5 (.pointer (some ⟨g, o + k, none⟩)) rfl ?yb5 (fun _ => HS.out) ?_
     case yb5 => (intro W0 _; have h7 := hcon; go_simp; (try with_reducible rfl))
     simp only [Act.put, CL]
     refine tk 6 (.int .i64 x) rfl (fun l h h9 => (Shutd.step h (j := 7) (k := 6) (by kernel_rfl) (Shutd.step h (j := 8) (k := 7) (by kernel_rfl) (Shutd.step h (j := 9) (k := 8) (by kernel_rfl) h9)))) (Or.inl ⟨by rfl, ?yb6⟩) HS.out (fun _ => ?_)
     case yb6 => (intro W0 hS; obtain ⟨s1, s2, s3⟩ := hS; go_simp; (try with_reducible rfl))
     simp only [Act.put, CL]
     refine tkF 7 (.agg #[.int .i64 3, .bool false, .int .i64 x, .string ⟨#[]⟩, .slice none 0 0, .slice none 0 0]) rfl ?yb7 (fun _ => HS.out) ?_
     case yb7 => (intro W0 _; go_simp; (try with_reducible rfl))
     simp only [Act.put, CL]
     refine rdy 8 rfl (fun KK hKK => ?_)
     go_simp
     have hb := below_box V0 (.cells #[.int .i64 3, .bool false, .int .i64 x, .string ⟨#[]⟩, .slice none 0 0, .slice none 0 0] 25)
     have HQQ := Lib.hid (heap_alloc_new V0 (.cells #[.int .i64 3, .bool false, .int .i64 x, .string ⟨#[]⟩, .slice none 0 0, .slice none 0 0] 25))
     have HG3 := Lib.hid (HG1.out.next kept_I hb)
     have HX3 := Lib.hid (HX1.out.next hb)
     have HF3 := Lib.hid (HF1.out.next hb)
     have HGL3 := Lib.hid (Nat.lt_of_lt_of_le HGL1.out hb.size)
     have HQ3 := Lib.hid (hb.cell (p := ⟨g, o + k, none⟩) HGL1.out |>.trans HQ1.out)
     clear hb HS HGL1 HQ1 HG1 HX1 HF1
     generalize (V0.alloc (.cells #[.int .i64 3, .bool false, .int .i64 x, .string ⟨#[]⟩, .slice none 0 0, .slice none 0 0] 25)) = V2 at HQQ HGL3 HQ3 HG3 HX3 HF3 ⊢
     obtain ⟨M, hM⟩ : ∃ M, V0.heap.size = M := ⟨_, rfl⟩
     rw [hM] at HQQ ⊢
     clear hM
     have HS : Hid ((fun W => W.cell? ⟨(Y5 + 1), 4, none⟩ = some (.slice Av k cv) ∧ W.cell? ⟨N, 49, none⟩ = some (.slice (some ⟨g, o, none⟩) a.args.length ca) ∧ W.cell? ⟨g, o + k, none⟩ = some (.int .i64 x)) V2) := Lib.hid ⟨HX3.out.cells.2.2.2.2.1, (blk_cells HF3.out.arg 49).trans rfl, HQ3.out⟩
     refine hKK _ _ (fun _ => HS.out) ?_
     clear hKK KK
     simp only [Act.put, CL]
     refine rdy 9 rfl (fun KK hKK => ?_)
     obtain ⟨i0, hi, hz0, hz1, hz2⟩ := info_parts info25
     have hlk : ((a.args.take k).map jNum).length = k := by rw [List.length_map, List.length_take]; omega
     have hown := HG3.out.own.own
     rw [hlk] at hown
     refine wp_append_lies V2 (.tmp 92) (.tmp 99) 22 rfl B2 25 i0 zeroJ 6 88 Tryz.underlying22 hi hz0 hz1 hz2 rfl (by decide) (.slice Av k cv) k rs.flatten rfl hown ⟨M, 0, none⟩ 1 1 [.int .i64 3, .bool false, .int .i64 x, .string ⟨#[]⟩, .slice none 0 0, .slice none 0 0] rfl rfl (World.news_of_block HQQ.out) (by intro u hu; simp at hu; rcases hu with rfl | rfl | rfl | rfl | rfl | rfl <;> rfl) (by decide) (by have := HLEN.out; unfold maxLen; omega) (by have := HLEN.out; omega) HG3.out.own.le V2.heap.size rfl ?_
     intro g9 cap V3 hown3 hgrow hat3 hlt3
     have hNo : ∀ j ∈ (Value.slice Av k cv).ownBlock.toList, B2 ≤ j := by
      intro j hm
      have hm : (Value.slice Av k cv).ownBlock = some j := by simpa using hm
      exact (HG3.out.own.lt j hm).1
     obtain ⟨hG4, hk3⟩ := HG3.out.push kept_I (x := jNum x) (vs := [.int .i64 3, .bool false, .int .i64 x, .string ⟨#[]⟩, .slice none 0 0, .slice none 0 0]) (JV.leaf V2 _ 3 false x []) (by rw [hlk]; exact hown3) hgrow hat3
     rw [hlk] at hG4
     have htk : (a.args.take k).map jNum ++ [jNum x] = (a.args.take (k + 1)).map jNum := by rw [List.take_add_one, HY.out, List.map_append]; rfl
     rw [htk] at hG4
     have HG4 := Lib.hid hG4
     have HX4 : Hid (JBox V3 (Y5 + 1) _ _ _ _ _ _) := Lib.hid (HX3.out.but hk3 (fun hm => by have := hNo _ hm; have := HYLT.out; omega))
     have HF4 := Lib.hid (HF3.out.butR hk3 HN5.out HYB.out (fun j hj => ⟨by have := hNo j hj; have := HYLT.out; omega, .inl (hNo j hj)⟩))
     clear hG4 hk3 hNo hgrow hown3 hown htk hat3 hlt3 hi hz0 hz1 hz2 hlk HG3 HX3 HF3 HS HQQ HGL3 HQ3
     refine hKK _ _ (fun h0 => absurd h0 (by decide)) ?_
     clear hKK KK
     simp only [Act.put, CL]
     refine tkF 10 (.pointer (some ⟨(Y5 + 1), 4, none⟩)) rfl ?yb10 (fun h0 => absurd h0 (by decide)) ?_
     case yb10 => (intro W0 _; go_simp; (try with_reducible rfl))
     simp only [Act.put, CL]
     refine rdy 11 rfl (fun KK hKK => ?_)
     obtain ⟨hk4, hx4⟩ := but_set (i := 4) (.slice (some ⟨g9, 0, none⟩) (k + 1) cap) HX4.out
     have HG5 := Lib.hid (HG4.out.but kept_I hk4 (by intro j hj; simp at hj; have := HYLT.out; omega) (by intro j hj; simp))
     have HX5 : Hid (JBox (V3.setCell ⟨(Y5 + 1), 4, none⟩ (.slice (some ⟨g9, 0, none⟩) (k + 1) cap)) (Y5 + 1) (.int .i64 5) (.bool false) (.int .i64 0) (.string ⟨#[]⟩) (.slice (some ⟨g9, 0, none⟩) (k + 1) cap) (.slice none 0 0)) := Lib.hid hx4
     have HF5 := Lib.hid (HF4.out.butR hk4 HN5.out HYB.out (fun j hj => by simp at hj; subst hj; exact ⟨Nat.le_refl _, .inr (by simp)⟩))
     obtain ⟨x0, x1, x2, x3, x4, x5⟩ := HX4.out.cells
     obtain ⟨f0, f1, f2, f3, f4, f5⟩ := HX4.out.frees
     clear hk4 hx4
     go_simp
     clear x0 x1 x2 x3 x4 x5 f0 f1 f2 f3 f4 f5
     refine hKK _ _ (fun h0 => absurd h0 (by decide)) ?_
     clear hKK KK
     simp only [Act.put, CL]
     refine wpTill_done (by kernel_rfl) ?_ _
     (try simp only [Exit.then])
     go_wp2_with fail
     go_roundw
     case rel => exact ⟨k + 1, _, _, _, by omega, by go_num, HG5, HX5, HF5⟩
     case measure => simp [intOf]; omega
    ·obtain rfl : k = a.args.length := by omega
     have hcon : decide (((a.args.length : Nat) : Int) < (a.args.length : Int)) = false := by simp
     have qc : wr.cell? ⟨N, 49, none⟩ = some (.slice Aa a.args.length ca) := (blk_cells HF.out.arg 49).trans rfl
     have HV : Hid (JV wr (NB N ((Y5 + 1) :: Y5 :: (Y4 :: (Y3 :: [])))) (jList (a.args.map jNum)) [.int .i64 5, .bool false, .int .i64 0, .string ⟨#[]⟩, .slice Av a.args.length cv, .slice none 0 0]) := Lib.hid (by
      have h1 := HG.out.list 5 false 0 []
      rw [List.take_length] at h1
      exact h1.wide (fun g hg h2 => by
       rcases hg with hg | hg
       ·exact hg.elim
       ·exact ⟨by have := HN5.out; have := HYLT.out; omega, fun hm => by
         have := HYLT.out
         rcases List.mem_cons.1 hm with rfl | hm
         ·omega
         rcases List.mem_cons.1 hm with rfl | hm
         ·omega
         ·have := HLB.out g hm; omega⟩))
     have HF1 : Hid (Fr w N (askA a Af cf Ao co Aa ca) 38 (NB N ((Y5 + 1) :: Y5 :: (Y4 :: (Y3 :: [])))) (((Y5 + 1), jList (a.args.map jNum)) :: ((Y5, jList (a.order.map jNum)) :: ((Y4, jParam a) :: ((Y3, jSym a) :: [])))) wr) := Lib.hid ((HF.out.wide (fun g h1 h2 => h1.2)).push HN5.out HX.out HV.out)
     have HL : Hid (∀ y ∈ (((Y5 + 1) :: Y5 :: (Y4 :: (Y3 :: []))) : List Nat), y < wr.heap.size) := Lib.hid (fun y hy => by
      have h1 := HX.out.lt
      rcases List.mem_cons.1 hy with rfl | hy
      ·omega
      rcases List.mem_cons.1 hy with rfl | hy
      ·omega
      ·have := HLB.out y hy; omega)
     clear HF HX HG HV HYB HN5 HYLT HLB
     have HF := HF1
     clear HF1
     have q0 : wr.cell? ⟨N, 0, none⟩ = some (.int .i64 a.kind) := (blk_cells HF.out.arg 0).trans rfl
     go_wp2_with fail
     refine (refNumber_leaf a.kind wr).mono ?_
     rintro e W15 ⟨rfl, hb⟩
     clear q0
     have HF1 := Lib.hid (HF.out.next hb)
     have HL1 : Hid (∀ y ∈ (((Y5 + 1) :: Y5 :: (Y4 :: (Y3 :: []))) : List Nat), y < W15.heap.size) := Lib.hid (fun y hy => Nat.lt_of_lt_of_le (HL.out y hy) hb.size)
     clear hb HF HL
     have HF := HF1
     have HL := HL1
     clear HF1 HL1
     go_wp2_with fail
     refine (with_S (.mk 0 false 0 [] [] []) [107, 105, 110, 100] (jNum a.kind) _ _ (NB N ((Y5 + 1) :: Y5 :: (Y4 :: (Y3 :: [])))) W15 (JV.leaf W15 _ 0 false 0 []) (JV.leaf W15 _ 3 false a.kind []) (fun g hg => NB.new HF.out.size HL.out hg) (by decide)).mono ?_
     rintro e W16 ⟨hb, vs114, rfl, hjv⟩
     have HF1 := Lib.hid (HF.out.next hb)
     have HL1 : Hid (∀ y ∈ (((Y5 + 1) :: Y5 :: (Y4 :: (Y3 :: []))) : List Nat), y < W16.heap.size) := Lib.hid (fun y hy => Nat.lt_of_lt_of_le (HL.out y hy) hb.size)
     clear hb HF HL
     have HF := HF1
     have HL := HL1
     clear HF1 HL1
     have HJ : Hid (JV W16 (NB N ((Y5 + 1) :: Y5 :: (Y4 :: (Y3 :: [])))) (.mk 6 false 0 [] [] [([107, 105, 110, 100], jNum a.kind)]) vs114) := Lib.hid hjv
     have hvs := hjv.len
     have hone := hjv.one
     clear hjv
     have hZ9 : (W16.alloc (.cells #[.int .i64 0, .bool false, .int .i64 0, .string ⟨#[]⟩, .slice none 0 0, .slice none 0 0] 25)).heap[W16.heap.size]? = some (.cells #[.int .i64 0, .bool false, .int .i64 0, .string ⟨#[]⟩, .slice none 0 0, .slice none 0 0] 25 (0, 0)) := heap_alloc_new W16 (.cells #[.int .i64 0, .bool false, .int .i64 0, .string ⟨#[]⟩, .slice none 0 0, .slice none 0 0] 25)
     go_upto_region 20 with (refine wpList_store_row rfl 25 _ _ rfl _ rfl #[.int .i64 0, .bool false, .int .i64 0, .string ⟨#[]⟩, .slice none 0 0, .slice none 0 0] vs114.toArray rfl hZ9 (by simp [hvs]) (by rw [info25s]; simp [hvs]) (by simpa using hone) ?_; intro W17 hk9 hx9)
     have hb := fresh_row hk9
     have HYN := Lib.hid (HF.out.fresh (Nat.le_refl _))
     have HF1 := Lib.hid ((HF.out.wide (fun g h1 h2 => NB.cons h1 h2)).next hb)
     have HJ1 := Lib.hid ((HJ.out.wide (fun g h1 h2 => NB.cons h1 h2)).next hb)
     have HL1 : Hid (∀ y ∈ W16.heap.size :: (((Y5 + 1) :: Y5 :: (Y4 :: (Y3 :: []))) : List Nat), y < W17.heap.size) := Lib.hid (fun y hy => by
      rcases List.mem_cons.1 hy with rfl | hy
      ·exact (Array.getElem?_eq_some_iff.1 hx9).1
      ·exact Nat.lt_of_lt_of_le (HL.out y hy) hb.size)
     have HY := Lib.hid hx9
     clear hb hk9 hx9 hZ9 hone HF HJ HL
     generalize W16.heap.size = Y9 at HF1 HJ1 HL1 HY HYN ⊢
     have HF := HF1
     have HJ := HJ1
     have HL := HL1
     clear HF1 HJ1 HL1
     go_wp2_with fail
     apply sharedG (F := fun W _ us => Fq w N (askA a Af cf Ao co Aa ca) 38 (Y9 :: ((Y5 + 1) :: Y5 :: (Y4 :: (Y3 :: [])))) (((Y5 + 1), jList (a.args.map jNum)) :: ((Y5, jList (a.order.map jNum)) :: ((Y4, jParam a) :: ((Y3, jSym a) :: [])))) W ∧ W.heap[Y9]? = some (.cells us.toArray 25 (0, 0)) ∧ JV W (NB N (Y9 :: ((Y5 + 1) :: Y5 :: (Y4 :: (Y3 :: []))))) (.mk 6 false 0 [] [] [([107, 105, 110, 100], jNum a.kind), ([98, 114, 97, 110, 99, 104], jText a.branch)]) us)
     case tree =>
      intro KEY
      have hf := HYN.out
      refine stageF (G := Fq w N (askA a Af cf Ao co Aa ca) 38 (Y9 :: ((Y5 + 1) :: Y5 :: (Y4 :: (Y3 :: [])))) (((Y5 + 1), jList (a.args.map jNum)) :: ((Y5, jList (a.order.map jNum)) :: ((Y4, jParam a) :: ((Y3, jSym a) :: []))))) (S := NB N (Y9 :: ((Y5 + 1) :: Y5 :: (Y4 :: (Y3 :: []))))) (v := jText a.branch) Y9 38 (.pointer (some ⟨N, 1, none⟩)) (.string (str a.branch)) (.string (str a.branch)) [98, 114, 97, 110, 99, 104] (by kernel_rfl) rfl rfl rfl rfl rfl rfl rfl rfl rfl nx_fq (fun _ _ h hk => h.but hk hf) (fun h => h.2 (by simp)) ⟨HF.out, HL.out⟩ HY.out HJ.out (by kernel_rfl) (fun _ h => h.new) (fun W _ => lf_of (refText_leaf (str a.branch) W) fun _ => jv_t a.branch) (fun W h => run_ld1 (b := N) (off := 1) rfl (by kernel_rfl) rfl rfl h.fr.arg rfl) (by and_intros <;> (intros; (try and_intros) <;> (intros; kernel_rfl))) (fun _ _ _ _ h => h) (fun _ _ _ _ h => h) (fun _ _ _ _ h => h) (fun u W v h1 h2 h3 => ?_)
      simp only [Exit.then, Act.put, List.getElem_toArray, List.getElem_cons_zero, List.getElem_cons_succ, List.setIfInBounds_toArray, List.set_cons_zero, List.set_cons_succ]
      exact KEY W u v ⟨h1, h2, h3⟩
     case key =>
     clear HF HL HY HJ hvs
     rintro W18 us8 vs117 ⟨⟨f1, f2⟩, f3, f4⟩
     have HF := Lib.hid f1
     have HL := Lib.hid f2
     have HY := Lib.hid f3
     have HJ := Lib.hid f4
     have hvs := f4.len
     clear f1 f2 f3 f4
     go_wp2_with fail
     apply sharedG (F := fun W _ us => Fq w N (askA a Af cf Ao co Aa ca) 38 (Y9 :: ((Y5 + 1) :: Y5 :: (Y4 :: (Y3 :: [])))) (((Y5 + 1), jList (a.args.map jNum)) :: ((Y5, jList (a.order.map jNum)) :: ((Y4, jParam a) :: ((Y3, jSym a) :: [])))) W ∧ W.heap[Y9]? = some (.cells us.toArray 25 (0, 0)) ∧ JV W (NB N (Y9 :: ((Y5 + 1) :: Y5 :: (Y4 :: (Y3 :: []))))) (.mk 6 false 0 [] [] [([107, 105, 110, 100], jNum a.kind), ([98, 114, 97, 110, 99, 104], jText a.branch), ([111, 116, 104, 101, 114], jText a.other)]) us)
     case tree =>
      intro KEY
      have hf := HYN.out
      refine stageF (G := Fq w N (askA a Af cf Ao co Aa ca) 38 (Y9 :: ((Y5 + 1) :: Y5 :: (Y4 :: (Y3 :: [])))) (((Y5 + 1), jList (a.args.map jNum)) :: ((Y5, jList (a.order.map jNum)) :: ((Y4, jParam a) :: ((Y3, jSym a) :: []))))) (S := NB N (Y9 :: ((Y5 + 1) :: Y5 :: (Y4 :: (Y3 :: []))))) (v := jText a.other) Y9 38 (.pointer (some ⟨N, 2, none⟩)) (.string (str a.other)) (.string (str a.other)) [111, 116, 104, 101, 114] (by kernel_rfl) rfl rfl rfl rfl rfl rfl rfl rfl rfl nx_fq (fun _ _ h hk => h.but hk hf) (fun h => h.2 (by simp)) ⟨HF.out, HL.out⟩ HY.out HJ.out (by kernel_rfl) (fun _ h => h.new) (fun W _ => lf_of (refText_leaf (str a.other) W) fun _ => jv_t a.other) (fun W h => run_ld1 (b := N) (off := 2) rfl (by kernel_rfl) rfl rfl h.fr.arg rfl) (by and_intros <;> (intros; (try and_intros) <;> (intros; kernel_rfl))) (fun _ _ _ _ h => h) (fun _ _ _ _ h => h) (fun _ _ _ _ h => h) (fun u W v h1 h2 h3 => ?_)
      simp only [Exit.then, Act.put, List.getElem_toArray, List.getElem_cons_zero, List.getElem_cons_succ, List.setIfInBounds_toArray, List.set_cons_zero, List.set_cons_succ]
      exact KEY W u v ⟨h1, h2, h3⟩
     case key =>
     clear HF HL HY HJ hvs
     rintro W19 us8 vs118 ⟨⟨f1, f2⟩, f3, f4⟩
     have HF := Lib.hid f1
     have HL := Lib.hid f2
     have HY := Lib.hid f3
     have HJ := Lib.hid f4
     have hvs := f4.len
     clear f1 f2 f3 f4
     go_wp2_with fail
     apply sharedG (F := fun W _ us => Fq w N (askA a Af cf Ao co Aa ca) 38 (Y9 :: ((Y5 + 1) :: Y5 :: (Y4 :: (Y3 :: [])))) (((Y5 + 1), jList (a.args.map jNum)) :: ((Y5, jList (a.order.map jNum)) :: ((Y4, jParam a) :: ((Y3, jSym a) :: [])))) W ∧ W.heap[Y9]? = some (.cells us.toArray 25 (0, 0)) ∧ JV W (NB N (Y9 :: ((Y5 + 1) :: Y5 :: (Y4 :: (Y3 :: []))))) (.mk 6 false 0 [] [] [([107, 105, 110, 100], jNum a.kind), ([98, 114, 97, 110, 99, 104], jText a.branch), ([111, 116, 104, 101, 114], jText a.other), ([98, 97, 115, 101], jId a.base)]) us)
     case tree =>
      intro KEY
      have hf := HYN.out
      refine stageF (G := Fq w N (askA a Af cf Ao co Aa ca) 38 (Y9 :: ((Y5 + 1) :: Y5 :: (Y4 :: (Y3 :: [])))) (((Y5 + 1), jList (a.args.map jNum)) :: ((Y5, jList (a.order.map jNum)) :: ((Y4, jParam a) :: ((Y3, jSym a) :: []))))) (S := NB N (Y9 :: ((Y5 + 1) :: Y5 :: (Y4 :: (Y3 :: []))))) (v := jId a.base) Y9 40 (.pointer (some ⟨N, 3, none⟩)) (.agg (idC a.base).toArray) (.agg (idA a.base)) [98, 97, 115, 101] (by kernel_rfl) rfl rfl rfl rfl rfl rfl rfl rfl rfl nx_fq (fun _ _ h hk => h.but hk hf) (fun h => h.2 (by simp)) ⟨HF.out, HL.out⟩ HY.out HJ.out (by kernel_rfl) (fun _ h => h.new) (fun W _ => lf_of (refId_leaf a.base W) fun _ => jv_i a.base) (fun W h => run_ldi (b := N) (off := 3) rfl (by kernel_rfl) h.fr.arg (ask_id a Af cf Ao co Aa ca)) (by and_intros <;> (intros; (try and_intros) <;> (intros; kernel_rfl))) (fun _ _ _ _ h => h) (fun _ _ _ _ h => h) (fun _ _ _ _ h => h) (fun u W v h1 h2 h3 => ?_)
      simp only [Exit.then, Act.put, List.getElem_toArray, List.getElem_cons_zero, List.getElem_cons_succ, List.setIfInBounds_toArray, List.set_cons_zero, List.set_cons_succ]
      exact KEY W u v ⟨h1, h2, h3⟩
     case key =>
     clear HF HL HY HJ hvs
     rintro W20 us8 vs119 ⟨⟨f1, f2⟩, f3, f4⟩
     have HF := Lib.hid f1
     have HL := Lib.hid f2
     have HY := Lib.hid f3
     have HJ := Lib.hid f4
     have hvs := f4.len
     clear f1 f2 f3 f4
     go_wp2_with fail
     apply sharedG (F := fun W _ us => Fq w N (askA a Af cf Ao co Aa ca) 38 (Y9 :: ((Y5 + 1) :: Y5 :: (Y4 :: (Y3 :: [])))) (((Y5 + 1), jList (a.args.map jNum)) :: ((Y5, jList (a.order.map jNum)) :: ((Y4, jParam a) :: ((Y3, jSym a) :: [])))) W ∧ W.heap[Y9]? = some (.cells us.toArray 25 (0, 0)) ∧ JV W (NB N (Y9 :: ((Y5 + 1) :: Y5 :: (Y4 :: (Y3 :: []))))) (.mk 6 false 0 [] [] [([107, 105, 110, 100], jNum a.kind), ([98, 114, 97, 110, 99, 104], jText a.branch), ([111, 116, 104, 101, 114], jText a.other), ([98, 97, 115, 101], jId a.base), ([102, 105, 108, 101, 115], jList (a.files.map jFile))]) us)
     case tree =>
      intro KEY
      have hf := HYN.out
      refine stageF (G := Fq w N (askA a Af cf Ao co Aa ca) 38 (Y9 :: ((Y5 + 1) :: Y5 :: (Y4 :: (Y3 :: [])))) (((Y5 + 1), jList (a.args.map jNum)) :: ((Y5, jList (a.order.map jNum)) :: ((Y4, jParam a) :: ((Y3, jSym a) :: []))))) (S := NB N (Y9 :: ((Y5 + 1) :: Y5 :: (Y4 :: (Y3 :: []))))) (v := jList (a.files.map jFile)) Y9 41 (.pointer (some ⟨N, 35, none⟩)) (.slice Af a.files.length cf) (.slice Af a.files.length cf) [102, 105, 108, 101, 115] (by kernel_rfl) rfl rfl rfl rfl rfl rfl rfl rfl rfl nx_fq (fun _ _ h hk => h.but hk hf) (fun h => h.2 (by simp)) ⟨HF.out, HL.out⟩ HY.out HJ.out (by kernel_rfl) (fun _ h => h.new) (fun W h => (refFiles_any a.files Af cf W (HR.out W h.fr.low).files (by have := HLEN.out; omega) (HR.out W h.fr.low).lf).mono fun e w' ⟨hb, us, he, hj⟩ => ⟨hb, us, he, hj.wide fun g hg _ => h.new g hg⟩) (fun W h => run_ld1 (b := N) (off := 35) rfl (by kernel_rfl) rfl rfl h.fr.arg rfl) (by and_intros <;> (intros; (try and_intros) <;> (intros; kernel_rfl))) (fun _ _ _ _ h => h) (fun _ _ _ _ h => h) (fun _ _ _ _ h => h) (fun u W v h1 h2 h3 => ?_)
      simp only [Exit.then, Act.put, List.getElem_toArray, List.getElem_cons_zero, List.getElem_cons_succ, List.setIfInBounds_toArray, List.set_cons_zero, List.set_cons_succ]
      exact KEY W u v ⟨h1, h2, h3⟩
     case key =>
     clear HF HL HY HJ hvs
     rintro W21 us8 vs120 ⟨⟨f1, f2⟩, f3, f4⟩
     have HF := Lib.hid f1
     have HL := Lib.hid f2
     have HY := Lib.hid f3
     have HJ := Lib.hid f4
     have hvs := f4.len
     clear f1 f2 f3 f4
     go_wp2_with fail
     apply sharedG (F := fun W _ us => Fq w N (askA a Af cf Ao co Aa ca) 38 (Y9 :: ((Y5 + 1) :: Y5 :: (Y4 :: (Y3 :: [])))) (((Y5 + 1), jList (a.args.map jNum)) :: ((Y5, jList (a.order.map jNum)) :: ((Y4, jParam a) :: ((Y3, jSym a) :: [])))) W ∧ W.heap[Y9]? = some (.cells us.toArray 25 (0, 0)) ∧ JV W (NB N (Y9 :: ((Y5 + 1) :: Y5 :: (Y4 :: (Y3 :: []))))) (.mk 6 false 0 [] [] [([107, 105, 110, 100], jNum a.kind), ([98, 114, 97, 110, 99, 104], jText a.branch), ([111, 116, 104, 101, 114], jText a.other), ([98, 97, 115, 101], jId a.base), ([102, 105, 108, 101, 115], jList (a.files.map jFile)), ([110, 111, 116, 101], jText a.note)]) us)
     case tree =>
      intro KEY
      have hf := HYN.out
      refine stageF (G := Fq w N (askA a Af cf Ao co Aa ca) 38 (Y9 :: ((Y5 + 1) :: Y5 :: (Y4 :: (Y3 :: [])))) (((Y5 + 1), jList (a.args.map jNum)) :: ((Y5, jList (a.order.map jNum)) :: ((Y4, jParam a) :: ((Y3, jSym a) :: []))))) (S := NB N (Y9 :: ((Y5 + 1) :: Y5 :: (Y4 :: (Y3 :: []))))) (v := jText a.note) Y9 38 (.pointer (some ⟨N, 36, none⟩)) (.string (str a.note)) (.string (str a.note)) [110, 111, 116, 101] (by kernel_rfl) rfl rfl rfl rfl rfl rfl rfl rfl rfl nx_fq (fun _ _ h hk => h.but hk hf) (fun h => h.2 (by simp)) ⟨HF.out, HL.out⟩ HY.out HJ.out (by kernel_rfl) (fun _ h => h.new) (fun W _ => lf_of (refText_leaf (str a.note) W) fun _ => jv_t a.note) (fun W h => run_ld1 (b := N) (off := 36) rfl (by kernel_rfl) rfl rfl h.fr.arg rfl) (by and_intros <;> (intros; (try and_intros) <;> (intros; kernel_rfl))) (fun _ _ _ _ h => h) (fun _ _ _ _ h => h) (fun _ _ _ _ h => h) (fun u W v h1 h2 h3 => ?_)
      simp only [Exit.then, Act.put, List.getElem_toArray, List.getElem_cons_zero, List.getElem_cons_succ, List.setIfInBounds_toArray, List.set_cons_zero, List.set_cons_succ]
      exact KEY W u v ⟨h1, h2, h3⟩
     case key =>
     clear HF HL HY HJ hvs
     rintro W22 us8 vs121 ⟨⟨f1, f2⟩, f3, f4⟩
     have HF := Lib.hid f1
     have HL := Lib.hid f2
     have HY := Lib.hid f3
     have HJ := Lib.hid f4
     have hvs := f4.len
     clear f1 f2 f3 f4
     go_wp2_with fail
     apply sharedG (F := fun W _ us => Fq w N (askA a Af cf Ao co Aa ca) 38 (Y9 :: ((Y5 + 1) :: Y5 :: (Y4 :: (Y3 :: [])))) (((Y5 + 1), jList (a.args.map jNum)) :: ((Y5, jList (a.order.map jNum)) :: ((Y4, jParam a) :: ((Y3, jSym a) :: [])))) W ∧ W.heap[Y9]? = some (.cells us.toArray 25 (0, 0)) ∧ JV W (NB N (Y9 :: ((Y5 + 1) :: Y5 :: (Y4 :: (Y3 :: []))))) (.mk 6 false 0 [] [] [([107, 105, 110, 100], jNum a.kind), ([98, 114, 97, 110, 99, 104], jText a.branch), ([111, 116, 104, 101, 114], jText a.other), ([98, 97, 115, 101], jId a.base), ([102, 105, 108, 101, 115], jList (a.files.map jFile)), ([110, 111, 116, 101], jText a.note), ([102, 111, 108, 100, 101, 114], jText a.folder)]) us)
     case tree =>
      intro KEY
      have hf := HYN.out
      refine stageF (G := Fq w N (askA a Af cf Ao co Aa ca) 38 (Y9 :: ((Y5 + 1) :: Y5 :: (Y4 :: (Y3 :: [])))) (((Y5 + 1), jList (a.args.map jNum)) :: ((Y5, jList (a.order.map jNum)) :: ((Y4, jParam a) :: ((Y3, jSym a) :: []))))) (S := NB N (Y9 :: ((Y5 + 1) :: Y5 :: (Y4 :: (Y3 :: []))))) (v := jText a.folder) Y9 38 (.pointer (some ⟨N, 43, none⟩)) (.string (str a.folder)) (.string (str a.folder)) [102, 111, 108, 100, 101, 114] (by kernel_rfl) rfl rfl rfl rfl rfl rfl rfl rfl rfl nx_fq (fun _ _ h hk => h.but hk hf) (fun h => h.2 (by simp)) ⟨HF.out, HL.out⟩ HY.out HJ.out (by kernel_rfl) (fun _ h => h.new) (fun W _ => lf_of (refText_leaf (str a.folder) W) fun _ => jv_t a.folder) (fun W h => run_ld1 (b := N) (off := 43) rfl (by kernel_rfl) rfl rfl h.fr.arg rfl) (by and_intros <;> (intros; (try and_intros) <;> (intros; kernel_rfl))) (fun _ _ _ _ h => h) (fun _ _ _ _ h => h) (fun _ _ _ _ h => h) (fun u W v h1 h2 h3 => ?_)
      simp only [Exit.then, Act.put, List.getElem_toArray, List.getElem_cons_zero, List.getElem_cons_succ, List.setIfInBounds_toArray, List.set_cons_zero, List.set_cons_succ]
      exact KEY W u v ⟨h1, h2, h3⟩
     case key =>
     clear HF HL HY HJ hvs
     rintro W23 us8 vs122 ⟨⟨f1, f2⟩, f3, f4⟩
     have HF := Lib.hid f1
     have HL := Lib.hid f2
     have HY := Lib.hid f3
     have HJ := Lib.hid f4
     have hvs := f4.len
     clear f1 f2 f3 f4
     go_wp2_with fail
     apply sharedG (F := fun W _ us => Fq w N (askA a Af cf Ao co Aa ca) 38 (Y9 :: ((Y5 + 1) :: Y5 :: (Y4 :: (Y3 :: [])))) (((Y5 + 1), jList (a.args.map jNum)) :: ((Y5, jList (a.order.map jNum)) :: ((Y4, jParam a) :: ((Y3, jSym a) :: [])))) W ∧ W.heap[Y9]? = some (.cells us.toArray 25 (0, 0)) ∧ JV W (NB N (Y9 :: ((Y5 + 1) :: Y5 :: (Y4 :: (Y3 :: []))))) (.mk 6 false 0 [] [] [([107, 105, 110, 100], jNum a.kind), ([98, 114, 97, 110, 99, 104], jText a.branch), ([111, 116, 104, 101, 114], jText a.other), ([98, 97, 115, 101], jId a.base), ([102, 105, 108, 101, 115], jList (a.files.map jFile)), ([110, 111, 116, 101], jText a.note), ([102, 111, 108, 100, 101, 114], jText a.folder), ([110, 97, 109, 101], jText a.name)]) us)
     case tree =>
      intro KEY
      have hf := HYN.out
      refine stageF (G := Fq w N (askA a Af cf Ao co Aa ca) 38 (Y9 :: ((Y5 + 1) :: Y5 :: (Y4 :: (Y3 :: [])))) (((Y5 + 1), jList (a.args.map jNum)) :: ((Y5, jList (a.order.map jNum)) :: ((Y4, jParam a) :: ((Y3, jSym a) :: []))))) (S := NB N (Y9 :: ((Y5 + 1) :: Y5 :: (Y4 :: (Y3 :: []))))) (v := jText a.name) Y9 38 (.pointer (some ⟨N, 42, none⟩)) (.string (str a.name)) (.string (str a.name)) [110, 97, 109, 101] (by kernel_rfl) rfl rfl rfl rfl rfl rfl rfl rfl rfl nx_fq (fun _ _ h hk => h.but hk hf) (fun h => h.2 (by simp)) ⟨HF.out, HL.out⟩ HY.out HJ.out (by kernel_rfl) (fun _ h => h.new) (fun W _ => lf_of (refText_leaf (str a.name) W) fun _ => jv_t a.name) (fun W h => run_ld1 (b := N) (off := 42) rfl (by kernel_rfl) rfl rfl h.fr.arg rfl) (by and_intros <;> (intros; (try and_intros) <;> (intros; kernel_rfl))) (fun _ _ _ _ h => h) (fun _ _ _ _ h => h) (fun _ _ _ _ h => h) (fun u W v h1 h2 h3 => ?_)
      simp only [Exit.then, Act.put, List.getElem_toArray, List.getElem_cons_zero, List.getElem_cons_succ, List.setIfInBounds_toArray, List.set_cons_zero, List.set_cons_succ]
      exact KEY W u v ⟨h1, h2, h3⟩
     case key =>
     clear HF HL HY HJ hvs
     rintro W24 us8 vs123 ⟨⟨f1, f2⟩, f3, f4⟩
     have HF := Lib.hid f1
     have HL := Lib.hid f2
     have HY := Lib.hid f3
     have HJ := Lib.hid f4
     have hvs := f4.len
     clear f1 f2 f3 f4
     obtain ⟨-, vsb, hb1, hj1⟩ := HF.out.box (Y3, jSym a) (by simp)
     have hvb := hj1.len
     go_wp2_with (first | (refine wpList_load_row rfl 25 _ rfl Y9 rfl vs123.toArray HY.out _ Tryz.underlying25 rfl (by rw [info25s]; simp [hvs]) ?_) | (refine wpList_load_row rfl 25 _ rfl Y3 rfl vsb.toArray hb1 _ Tryz.underlying25 rfl (by rw [info25s]; simp [hvb]) ?_))
     refine (with_S (.mk 6 false 0 [] [] [([107, 105, 110, 100], jNum a.kind), ([98, 114, 97, 110, 99, 104], jText a.branch), ([111, 116, 104, 101, 114], jText a.other), ([98, 97, 115, 101], jId a.base), ([102, 105, 108, 101, 115], jList (a.files.map jFile)), ([110, 111, 116, 101], jText a.note), ([102, 111, 108, 100, 101, 114], jText a.folder), ([110, 97, 109, 101], jText a.name)]) [115, 121, 109, 98, 111, 108] (jSym a) vs123 vsb (NB N (Y9 :: ((Y5 + 1) :: Y5 :: (Y4 :: (Y3 :: []))))) W24 HJ.out hj1 (fun g hg => NB.new HF.out.size HL.out hg) (Nat.le_of_ble_eq_true rfl)).mono ?_
     rintro e W25 ⟨hb, vs224, rfl, hjv⟩
     have HF1 := Lib.hid (HF.out.next hb)
     have HL1 : Hid (∀ y ∈ ((Y9 :: ((Y5 + 1) :: Y5 :: (Y4 :: (Y3 :: [])))) : List Nat), y < W25.heap.size) := Lib.hid (fun y hy => Nat.lt_of_lt_of_le (HL.out y hy) hb.size)
     have HY1 := Lib.hid (blk_next hb HY.out)
     have HJ1 := Lib.hid (HJ.out.next hb)
     clear hb HF HL HY HJ
     have HF := HF1
     have HL := HL1
     have HY := HY1
     have HJ := HJ1
     clear HF1 HL1 HY1 HJ1
     have HK : Hid (JV W25 (NB N (Y9 :: ((Y5 + 1) :: Y5 :: (Y4 :: (Y3 :: []))))) (.mk 6 false 0 [] [] [([107, 105, 110, 100], jNum a.kind), ([98, 114, 97, 110, 99, 104], jText a.branch), ([111, 116, 104, 101, 114], jText a.other), ([98, 97, 115, 101], jId a.base), ([102, 105, 108, 101, 115], jList (a.files.map jFile)), ([110, 111, 116, 101], jText a.note), ([102, 111, 108, 100, 101, 114], jText a.folder), ([110, 97, 109, 101], jText a.name), ([115, 121, 109, 98, 111, 108], jSym a)]) vs224) := Lib.hid hjv
     have hws := hjv.len
     have hone := hjv.one
     clear hjv HJ hb1 hj1
     go_upto_region 28 with (refine wpList_store_row rfl 25 _ _ rfl Y9 rfl vs123.toArray vs224.toArray rfl HY.out (by simp [hvs, hws]) (by rw [info25s]; simp [hws]) (by simpa using hone) ?_; intro W26 hk hx)
     have HF1 := Lib.hid (HF.out.but hk (by intro j hj; simp at hj; subst hj; exact ⟨HYN.out.1, fun h => h.2 (by simp), HYN.out.2⟩))
     have HL1 : Hid (∀ y ∈ ((Y9 :: ((Y5 + 1) :: Y5 :: (Y4 :: (Y3 :: [])))) : List Nat), y < W26.heap.size) := Lib.hid (fun y hy => Nat.lt_of_lt_of_le (HL.out y hy) hk.size)
     clear HF HL
     have HF := HF1
     have HL := HL1
     clear HF1 HL1
     have HJ := Lib.hid (HK.out.but hk (by intro j hj; simp at hj; subst hj; exact fun h => h.2 (by simp)))
     have HY1 := Lib.hid hx
     clear HK hk hx hone HY hvs hvb
     have HY := HY1
     have hvs := hws
     clear HY1 hws
     obtain ⟨-, vsb, hb1, hj1⟩ := HF.out.box (Y5, jList (a.order.map jNum)) (by simp)
     have hvb := hj1.len
     go_wp2_with (first | (refine wpList_load_row rfl 25 _ rfl Y9 rfl vs224.toArray HY.out _ Tryz.underlying25 rfl (by rw [info25s]; simp [hvs]) ?_) | (refine wpList_load_row rfl 25 _ rfl Y5 rfl vsb.toArray hb1 _ Tryz.underlying25 rfl (by rw [info25s]; simp [hvb]) ?_))
     refine (with_S (.mk 6 false 0 [] [] [([107, 105, 110, 100], jNum a.kind), ([98, 114, 97, 110, 99, 104], jText a.branch), ([111, 116, 104, 101, 114], jText a.other), ([98, 97, 115, 101], jId a.base), ([102, 105, 108, 101, 115], jList (a.files.map jFile)), ([110, 111, 116, 101], jText a.note), ([102, 111, 108, 100, 101, 114], jText a.folder), ([110, 97, 109, 101], jText a.name), ([115, 121, 109, 98, 111, 108], jSym a)]) [111, 114, 100, 101, 114] (jList (a.order.map jNum)) vs224 vsb (NB N (Y9 :: ((Y5 + 1) :: Y5 :: (Y4 :: (Y3 :: []))))) W26 HJ.out hj1 (fun g hg => NB.new HF.out.size HL.out hg) (Nat.le_of_ble_eq_true rfl)).mono ?_
     rintro e W27 ⟨hb, vs226, rfl, hjv⟩
     have HF1 := Lib.hid (HF.out.next hb)
     have HL1 : Hid (∀ y ∈ ((Y9 :: ((Y5 + 1) :: Y5 :: (Y4 :: (Y3 :: [])))) : List Nat), y < W27.heap.size) := Lib.hid (fun y hy => Nat.lt_of_lt_of_le (HL.out y hy) hb.size)
     have HY1 := Lib.hid (blk_next hb HY.out)
     have HJ1 := Lib.hid (HJ.out.next hb)
     clear hb HF HL HY HJ
     have HF := HF1
     have HL := HL1
     have HY := HY1
     have HJ := HJ1
     clear HF1 HL1 HY1 HJ1
     have HK : Hid (JV W27 (NB N (Y9 :: ((Y5 + 1) :: Y5 :: (Y4 :: (Y3 :: []))))) (.mk 6 false 0 [] [] [([107, 105, 110, 100], jNum a.kind), ([98, 114, 97, 110, 99, 104], jText a.branch), ([111, 116, 104, 101, 114], jText a.other), ([98, 97, 115, 101], jId a.base), ([102, 105, 108, 101, 115], jList (a.files.map jFile)), ([110, 111, 116, 101], jText a.note), ([102, 111, 108, 100, 101, 114], jText a.folder), ([110, 97, 109, 101], jText a.name), ([115, 121, 109, 98, 111, 108], jSym a), ([111, 114, 100, 101, 114], jList (a.order.map jNum))]) vs226) := Lib.hid hjv
     have hws := hjv.len
     have hone := hjv.one
     clear hjv HJ hb1 hj1
     go_upto_region 29 with (refine wpList_store_row rfl 25 _ _ rfl Y9 rfl vs224.toArray vs226.toArray rfl HY.out (by simp [hvs, hws]) (by rw [info25s]; simp [hws]) (by simpa using hone) ?_; intro W28 hk hx)
     have HF1 := Lib.hid (HF.out.but hk (by intro j hj; simp at hj; subst hj; exact ⟨HYN.out.1, fun h => h.2 (by simp), HYN.out.2⟩))
     have HL1 : Hid (∀ y ∈ ((Y9 :: ((Y5 + 1) :: Y5 :: (Y4 :: (Y3 :: [])))) : List Nat), y < W28.heap.size) := Lib.hid (fun y hy => Nat.lt_of_lt_of_le (HL.out y hy) hk.size)
     clear HF HL
     have HF := HF1
     have HL := HL1
     clear HF1 HL1
     have HJ := Lib.hid (HK.out.but hk (by intro j hj; simp at hj; subst hj; exact fun h => h.2 (by simp)))
     have HY1 := Lib.hid hx
     clear HK hk hx hone HY hvs hvb
     have HY := HY1
     have hvs := hws
     clear HY1 hws
     obtain ⟨-, vsb, hb1, hj1⟩ := HF.out.box (Y4, jParam a) (by simp)
     have hvb := hj1.len
     go_wp2_with (first | (refine wpList_load_row rfl 25 _ rfl Y9 rfl vs226.toArray HY.out _ Tryz.underlying25 rfl (by rw [info25s]; simp [hvs]) ?_) | (refine wpList_load_row rfl 25 _ rfl Y4 rfl vsb.toArray hb1 _ Tryz.underlying25 rfl (by rw [info25s]; simp [hvb]) ?_))
     refine (with_S (.mk 6 false 0 [] [] [([107, 105, 110, 100], jNum a.kind), ([98, 114, 97, 110, 99, 104], jText a.branch), ([111, 116, 104, 101, 114], jText a.other), ([98, 97, 115, 101], jId a.base), ([102, 105, 108, 101, 115], jList (a.files.map jFile)), ([110, 111, 116, 101], jText a.note), ([102, 111, 108, 100, 101, 114], jText a.folder), ([110, 97, 109, 101], jText a.name), ([115, 121, 109, 98, 111, 108], jSym a), ([111, 114, 100, 101, 114], jList (a.order.map jNum))]) [112, 97, 114, 97, 109] (jParam a) vs226 vsb (NB N (Y9 :: ((Y5 + 1) :: Y5 :: (Y4 :: (Y3 :: []))))) W28 HJ.out hj1 (fun g hg => NB.new HF.out.size HL.out hg) (Nat.le_of_ble_eq_true rfl)).mono ?_
     rintro e W29 ⟨hb, vs228, rfl, hjv⟩
     have HF1 := Lib.hid (HF.out.next hb)
     have HL1 : Hid (∀ y ∈ ((Y9 :: ((Y5 + 1) :: Y5 :: (Y4 :: (Y3 :: [])))) : List Nat), y < W29.heap.size) := Lib.hid (fun y hy => Nat.lt_of_lt_of_le (HL.out y hy) hb.size)
     have HY1 := Lib.hid (blk_next hb HY.out)
     have HJ1 := Lib.hid (HJ.out.next hb)
     clear hb HF HL HY HJ
     have HF := HF1
     have HL := HL1
     have HY := HY1
     have HJ := HJ1
     clear HF1 HL1 HY1 HJ1
     have HK : Hid (JV W29 (NB N (Y9 :: ((Y5 + 1) :: Y5 :: (Y4 :: (Y3 :: []))))) (.mk 6 false 0 [] [] [([107, 105, 110, 100], jNum a.kind), ([98, 114, 97, 110, 99, 104], jText a.branch), ([111, 116, 104, 101, 114], jText a.other), ([98, 97, 115, 101], jId a.base), ([102, 105, 108, 101, 115], jList (a.files.map jFile)), ([110, 111, 116, 101], jText a.note), ([102, 111, 108, 100, 101, 114], jText a.folder), ([110, 97, 109, 101], jText a.name), ([115, 121, 109, 98, 111, 108], jSym a), ([111, 114, 100, 101, 114], jList (a.order.map jNum)), ([112, 97, 114, 97, 109], jParam a)]) vs228) := Lib.hid hjv
     have hws := hjv.len
     have hone := hjv.one
     clear hjv HJ hb1 hj1
     go_upto_region 30 with (refine wpList_store_row rfl 25 _ _ rfl Y9 rfl vs226.toArray vs228.toArray rfl HY.out (by simp [hvs, hws]) (by rw [info25s]; simp [hws]) (by simpa using hone) ?_; intro W30 hk hx)
     have HF1 := Lib.hid (HF.out.but hk (by intro j hj; simp at hj; subst hj; exact ⟨HYN.out.1, fun h => h.2 (by simp), HYN.out.2⟩))
     have HL1 : Hid (∀ y ∈ ((Y9 :: ((Y5 + 1) :: Y5 :: (Y4 :: (Y3 :: [])))) : List Nat), y < W30.heap.size) := Lib.hid (fun y hy => Nat.lt_of_lt_of_le (HL.out y hy) hk.size)
     clear HF HL
     have HF := HF1
     have HL := HL1
     clear HF1 HL1
     have HJ := Lib.hid (HK.out.but hk (by intro j hj; simp at hj; subst hj; exact fun h => h.2 (by simp)))
     have HY1 := Lib.hid hx
     clear HK hk hx hone HY hvs hvb
     have HY := HY1
     have hvs := hws
     clear HY1 hws
     obtain ⟨-, vsb, hb1, hj1⟩ := HF.out.box ((Y5 + 1), jList (a.args.map jNum)) (by simp)
     have hvb := hj1.len
     go_wp2_with (first | (refine wpList_load_row rfl 25 _ rfl Y9 rfl vs228.toArray HY.out _ Tryz.underlying25 rfl (by rw [info25s]; simp [hvs]) ?_) | (refine wpList_load_row rfl 25 _ rfl (Y5 + 1) rfl vsb.toArray hb1 _ Tryz.underlying25 rfl (by rw [info25s]; simp [hvb]) ?_))
     refine (with_S (.mk 6 false 0 [] [] [([107, 105, 110, 100], jNum a.kind), ([98, 114, 97, 110, 99, 104], jText a.branch), ([111, 116, 104, 101, 114], jText a.other), ([98, 97, 115, 101], jId a.base), ([102, 105, 108, 101, 115], jList (a.files.map jFile)), ([110, 111, 116, 101], jText a.note), ([102, 111, 108, 100, 101, 114], jText a.folder), ([110, 97, 109, 101], jText a.name), ([115, 121, 109, 98, 111, 108], jSym a), ([111, 114, 100, 101, 114], jList (a.order.map jNum)), ([112, 97, 114, 97, 109], jParam a)]) [97, 114, 103, 115] (jList (a.args.map jNum)) vs228 vsb (NB N (Y9 :: ((Y5 + 1) :: Y5 :: (Y4 :: (Y3 :: []))))) W30 HJ.out hj1 (fun g hg => NB.new HF.out.size HL.out hg) (Nat.le_of_ble_eq_true rfl)).mono ?_
     rintro e W31 ⟨hb, vs230, rfl, hjv⟩
     have HF1 := Lib.hid (HF.out.next hb)
     have HL1 : Hid (∀ y ∈ ((Y9 :: ((Y5 + 1) :: Y5 :: (Y4 :: (Y3 :: [])))) : List Nat), y < W31.heap.size) := Lib.hid (fun y hy => Nat.lt_of_lt_of_le (HL.out y hy) hb.size)
     have HY1 := Lib.hid (blk_next hb HY.out)
     have HJ1 := Lib.hid (HJ.out.next hb)
     clear hb HF HL HY HJ
     have HF := HF1
     have HL := HL1
     have HY := HY1
     have HJ := HJ1
     clear HF1 HL1 HY1 HJ1
     have HK : Hid (JV W31 (NB N (Y9 :: ((Y5 + 1) :: Y5 :: (Y4 :: (Y3 :: []))))) (.mk 6 false 0 [] [] [([107, 105, 110, 100], jNum a.kind), ([98, 114, 97, 110, 99, 104], jText a.branch), ([111, 116, 104, 101, 114], jText a.other), ([98, 97, 115, 101], jId a.base), ([102, 105, 108, 101, 115], jList (a.files.map jFile)), ([110, 111, 116, 101], jText a.note), ([102, 111, 108, 100, 101, 114], jText a.folder), ([110, 97, 109, 101], jText a.name), ([115, 121, 109, 98, 111, 108], jSym a), ([111, 114, 100, 101, 114], jList (a.order.map jNum)), ([112, 97, 114, 97, 109], jParam a), ([97, 114, 103, 115], jList (a.args.map jNum))]) vs230) := Lib.hid hjv
     have hws := hjv.len
     have hone := hjv.one
     clear hjv HJ hb1 hj1
     go_wp2_with (refine wpList_store_row rfl 25 _ _ rfl (N + 1) rfl #[.int .i64 0, .bool false, .int .i64 0, .string ⟨#[]⟩, .slice none 0 0, .slice none 0 0] vs230.toArray rfl HF.out.res (by simp [hws]) (by rw [info25s]; simp [hws]) (by simpa using hone) ?_; intro W32 hk hx)
     refine bodyPost_ret (results_row1 rfl _ _ _ (N + 1) vs230.toArray rfl (run_loadVar_row _ (N + 1) 25 25 vs230.toArray (0, 0) _ hx Tryz.underlying25 rfl (by rw [info25s]; simp [hws]))) rfl ?_
     have hN := HN.out
     rw [hN]
     exact ⟨HF.out.low.trans (hk.to (by have := HF.out.size; omega) (by intro j hj; simp at hj; omega)), _, rfl, (HK.out.but hk (by intro j hj; simp at hj; subst hj; intro h; have := h.1; omega)).wide (fun g hg _ => by have := hg.1; omega)⟩
end Go.Proofs.YtimioelnnhnbiaaGreatDoor
