/-
 json.answered. CONDITIONS: the rows lie as told; they are not too long.
-/
import Derived.Test.YtimioelnnhnbiaaGreatDoorS25
namespace Go.Proofs.YtimioelnnhnbiaaGreatDoor
open Go.RowKit
set_option maxRecDepth 100000 in
set_option maxHeartbeats 16000000 in
theorem answered_any (b : PAnswer) (Af : Option Addr) (cf : Nat) (Ac : Option Addr) (cc : Nat) (Ai : Option Addr) (ci : Nat) (w : World) (hR : AnsRows w b Af cf Ac cc Ai ci) (hlen : b.files.length ≤ 1000000 ∧ b.clashes.length ≤ 1000000 ∧ b.ids.length ≤ 1000000) :
  Calls Tryz.prog 35 #[.agg (ansA b Af cf Ac cc Ai ci)] w fun e w' => Below w.heap.size w w' ∧ ∃ us, e = .returned (.agg us.toArray) ∧ JV w' (fun g => w.heap.size ≤ g) (ansJ b) us := by
 have HR : Hid (∀ W, Below w.heap.size w W → AnsRows W b Af cf Ac cc Ai ci) := Lib.hid (fun W hW => hR.next hW)
 have HLEN := Lib.hid hlen
 clear hR hlen
 have b1 := below_box w (.cells (ansA b Af cf Ac cc Ai ci) 49)
 have s1 : (w.alloc (.cells (ansA b Af cf Ac cc Ai ci) 49)).heap.size = w.heap.size + 1 := by simp
 have e1 := heap_alloc_new w (.cells (ansA b Af cf Ac cc Ai ci) 49)
 have b2 := below_box (w.alloc (.cells (ansA b Af cf Ac cc Ai ci) 49)) (.cells #[.int .i64 0, .bool false, .int .i64 0, .string ⟨#[]⟩, .slice none 0 0, .slice none 0 0] 25)
 have e2 : JBox _ _ _ _ _ _ _ _ := heap_alloc_new (w.alloc (.cells (ansA b Af cf Ac cc Ai ci) 49)) (.cells #[.int .i64 0, .bool false, .int .i64 0, .string ⟨#[]⟩, .slice none 0 0, .slice none 0 0] 25)
 rw [s1] at e2
 have HF0 : Fr w w.heap.size (ansA b Af cf Ac cc Ai ci) 49 (NB w.heap.size []) [] ((w.alloc (.cells (ansA b Af cf Ac cc Ai ci) 49)).alloc (.cells #[.int .i64 0, .bool false, .int .i64 0, .string ⟨#[]⟩, .slice none 0 0, .slice none 0 0] 25)) := ⟨blk_next b2 e1, e2, (fun p hp => by cases hp), b1.trans (b2.mono (by rw [s1]; omega))⟩
 clear b1 s1 e1 b2 e2
 go_enter Tryz.func35, Tryz.ntmps35
 go_upto_region 1 with fail
 generalize ((w.alloc (.cells (ansA b Af cf Ac cc Ai ci) 49)).alloc (.cells #[.int .i64 0, .bool false, .int .i64 0, .string ⟨#[]⟩, .slice none 0 0, .slice none 0 0] 25)) = w2 at HF0 ⊢
 obtain ⟨N, hN⟩ : ∃ N, w.heap.size = N := ⟨_, rfl⟩
 rw [hN] at HF0 HR ⊢
 have HN := Lib.hid hN
 have H0 : Hid (Fq w N (ansA b Af cf Ac cc Ai ci) 49 [] [] w2) := Lib.hid ⟨HF0, fun y hy => by cases hy⟩
 clear hN HF0
 go_wp2_with fail
 apply shared4 (F := fun W Y M us => Fq w N (ansA b Af cf Ac cc Ai ci) 49 (Y :: ([] : List Nat)) ([] : List (Nat × Js.J)) W ∧ W.heap[Y]? = some (.cells us.toArray 25 (0, 0)) ∧ JV W (NB N (Y :: ([] : List Nat))) (jPlace b) us ∧ (N + 2 ≤ Y ∧ Y ∉ (([] : List (Nat × Js.J)) : List (Nat × Js.J)).map (·.1)))
 case tree =>
  have H : Fq w N (ansA b Af cf Ac cc Ai ci) 49 ([] : List Nat) ([] : List (Nat × Js.J)) w2 := H0.out
  have s0 : ∀ W, Fq w N (ansA b Af cf Ac cc Ai ci) 49 ([] : List Nat) ([] : List (Nat × Js.J)) W → (fun W => W.heap[N]? = some (.cells (ansA b Af cf Ac cc Ai ci) 49 (0, 0))) W := fun _ h => h.fr.arg
  intro KEY
  refine region_till (S := fun W => W.heap[N]? = some (.cells (ansA b Af cf Ac cc Ai ci) 49 (0, 0))) 22 rfl nx_fq H s0 fun W H sh => ?_
  refine takeQ 0 (v := .iface 9 (.string (str [101, 114, 114]))) rfl (s0 _ H) sh fun sh => ?_
  refine takeQ 1 (v := .pointer (some ⟨N, 1, none⟩)) rfl (s0 _ H) sh fun sh => ?_
  refine takeQ 2 (v := .pointer (some ⟨N, 1, none⟩)) rfl (s0 _ H) sh fun sh => ?_
  refine takeV 3 N 1 (.int .i64 b.plErr) rfl rfl rfl rfl (fun W hS => (blk_cells hS 1).trans rfl) (s0 _ H) sh fun sh => ?_
  refine takeQ 6 (v := .iface 9 (.string (str [102, 105, 108, 101]))) rfl (s0 _ H) sh fun sh => ?_
  refine takeQ 7 (v := .pointer (some ⟨N, 1, none⟩)) rfl (s0 _ H) sh fun sh => ?_
  refine takeQ 8 (v := .pointer (some ⟨N, 2, none⟩)) rfl (s0 _ H) sh fun sh => ?_
  refine takeV 9 N 2 (.int .i64 b.plFile) rfl rfl rfl rfl (fun W hS => (blk_cells hS 2).trans rfl) (s0 _ H) sh fun sh => ?_
  refine takeQ 12 (v := .iface 9 (.string (str [97, 116]))) rfl (s0 _ H) sh fun sh => ?_
  refine takeQ 13 (v := .pointer (some ⟨N, 1, none⟩)) rfl (s0 _ H) sh fun sh => ?_
  refine takeQ 14 (v := .pointer (some ⟨N, 3, none⟩)) rfl (s0 _ H) sh fun sh => ?_
  refine takeV 15 N 3 (.int .i64 b.plAt) rfl rfl rfl rfl (fun W hS => (blk_cells hS 3).trans rfl) (s0 _ H) sh fun sh => ?_
  refine till2 4 20 rfl rfl (stepL 61 #[.int .i64 b.plErr] (number_leaf b.plErr W) nx_fq H s0 ?_) (stepN 25 #[.int .i64 0, .bool false, .int .i64 0, .string ⟨#[]⟩, .slice none 0 0, .slice none 0 0] (fun W9 hb => s0 _ (H.next hb)) ?_)
  ·rintro W H
   refine takeP 5 (.iface 25 (.agg (nL b.plErr).toArray)) rfl (s0 _ H) ?_
   refine till2 10 20 rfl rfl (stepL 61 #[.int .i64 b.plFile] (number_leaf b.plFile W) nx_fq H s0 ?_) (stepN 25 #[.int .i64 0, .bool false, .int .i64 0, .string ⟨#[]⟩, .slice none 0 0, .slice none 0 0] (fun W9 hb => s0 _ (H.next hb)) ?_)
   ·rintro W H
    refine takeP 11 (.iface 25 (.agg (nL b.plFile).toArray)) rfl (s0 _ H) ?_
    refine till2 16 20 rfl rfl (stepL 61 #[.int .i64 b.plAt] (number_leaf b.plAt W) nx_fq H s0 ?_) (stepN 25 #[.int .i64 0, .bool false, .int .i64 0, .string ⟨#[]⟩, .slice none 0 0, .slice none 0 0] (fun W9 hb => s0 _ (H.next hb)) ?_)
    ·rintro W H
     refine takeP 17 (.iface 25 (.agg (nL b.plAt).toArray)) rfl (s0 _ H) ?_
     refine till2 18 20 rfl rfl (stepB 6 (anyCells (plLL b)).toArray rfl rfl nx_fq H s0 ?_) (stepN 25 #[.int .i64 0, .bool false, .int .i64 0, .string ⟨#[]⟩, .slice none 0 0, .slice none 0 0] (fun W9 hb => s0 _ (H.next hb)) ?_)
     ·rintro M W H Q
      refine till2 19 20 rfl rfl (stepC 59 #[.slice (some ⟨M, 0, none⟩) 6 6] (object_L (plLL b) (NB N ([] : List Nat)) W M 6 6 Q (pl_jv b) H.new rfl (Nat.le_of_ble_eq_true rfl)) ?_) (stepN 25 #[.int .i64 0, .bool false, .int .i64 0, .string ⟨#[]⟩, .slice none 0 0, .slice none 0 0] (fun W9 hb => s0 _ (H.next hb)) ?_)
      ·rintro e W9 ⟨hb, us, rfl, J⟩
       replace H := nx_fq _ _ H hb
       refine ⟨_, rfl, s0 _ H, ?_⟩
       rename World => W
       refine till1 20 rfl (stepN 25 #[.int .i64 0, .bool false, .int .i64 0, .string ⟨#[]⟩, .slice none 0 0, .slice none 0 0] (fun W9 hb => s0 _ (H.next hb)) ?_)
       intro Y W9 hY hb HZ
       have hf := H.fresh hY
       have H := H.grow hY hb HZ
       replace J := J.grow hY hb
       replace s0 : ∀ W, Fq w N (ansA b Af cf Ac cc Ai ci) 49 (Y :: ([] : List Nat)) ([] : List (Nat × Js.J)) W → (fun W => W.heap[N]? = some (.cells (ansA b Af cf Ac cc Ai ci) 49 (0, 0))) W := fun _ h => h.fr.arg
       rename World => W
       refine till1 21 rfl (stepS 25 Y #[.int .i64 0, .bool false, .int .i64 0, .string ⟨#[]⟩, .slice none 0 0, .slice none 0 0] us.toArray rfl HZ (by simp [J.len]) (by rw [info25s]; simp [J.len]) (by simpa using J.one) (fun _ hk => s0 _ (H.but hk hf)) fun W9 hk B => ?_)
       refine wpTill_done (by kernel_rfl) ?_ _
       simp only [Act.put, CL]
       exact KEY _ Y M us ⟨H.but hk hf, B, J.butq hk, hf⟩
      ·intro Y W9 hY hb HZ
       have hf := H.fresh hY
       have H := H.grow hY hb HZ
       replace Q := blk_next hb Q
       replace s0 : ∀ W, Fq w N (ansA b Af cf Ac cc Ai ci) 49 (Y :: ([] : List Nat)) ([] : List (Nat × Js.J)) W → (fun W => W.heap[N]? = some (.cells (ansA b Af cf Ac cc Ai ci) 49 (0, 0))) W := fun _ h => h.fr.arg
       rename World => W
       refine till1 19 rfl (stepC 59 #[.slice (some ⟨M, 0, none⟩) 6 6] (object_L (plLL b) (NB N (Y :: ([] : List Nat))) W M 6 6 Q (pl_jv b) H.new rfl (Nat.le_of_ble_eq_true rfl)) ?_)
       rintro e W9 ⟨hb, us, rfl, J⟩
       obtain ⟨H, HZ⟩ := (nx_and nx_fq nx_blk) _ _ (show (fun W => _ ∧ _) W from ⟨H, HZ⟩) hb
       refine ⟨_, rfl, s0 _ H, ?_⟩
       rename World => W
       refine till1 21 rfl (stepS 25 Y #[.int .i64 0, .bool false, .int .i64 0, .string ⟨#[]⟩, .slice none 0 0, .slice none 0 0] us.toArray rfl HZ (by simp [J.len]) (by rw [info25s]; simp [J.len]) (by simpa using J.one) (fun _ hk => s0 _ (H.but hk hf)) fun W9 hk B => ?_)
       refine wpTill_done (by kernel_rfl) ?_ _
       simp only [Act.put, CL]
       exact KEY _ Y M us ⟨H.but hk hf, B, J.butq hk, hf⟩
     ·intro Y W9 hY hb HZ
      have hf := H.fresh hY
      have H := H.grow hY hb HZ
      replace s0 : ∀ W, Fq w N (ansA b Af cf Ac cc Ai ci) 49 (Y :: ([] : List Nat)) ([] : List (Nat × Js.J)) W → (fun W => W.heap[N]? = some (.cells (ansA b Af cf Ac cc Ai ci) 49 (0, 0))) W := fun _ h => h.fr.arg
      rename World => W
      refine till1 18 rfl (stepB 6 (anyCells (plLL b)).toArray rfl rfl (nx_and nx_fq nx_blk) ⟨H, HZ⟩ (fun _ h => s0 _ h.1) ?_)
      rintro M W ⟨H, HZ⟩ Q
      refine till1 19 rfl (stepC 59 #[.slice (some ⟨M, 0, none⟩) 6 6] (object_L (plLL b) (NB N (Y :: ([] : List Nat))) W M 6 6 Q (pl_jv b) H.new rfl (Nat.le_of_ble_eq_true rfl)) ?_)
      rintro e W9 ⟨hb, us, rfl, J⟩
      obtain ⟨H, HZ⟩ := (nx_and nx_fq nx_blk) _ _ (show (fun W => _ ∧ _) W from ⟨H, HZ⟩) hb
      refine ⟨_, rfl, s0 _ H, ?_⟩
      rename World => W
      refine till1 21 rfl (stepS 25 Y #[.int .i64 0, .bool false, .int .i64 0, .string ⟨#[]⟩, .slice none 0 0, .slice none 0 0] us.toArray rfl HZ (by simp [J.len]) (by rw [info25s]; simp [J.len]) (by simpa using J.one) (fun _ hk => s0 _ (H.but hk hf)) fun W9 hk B => ?_)
      refine wpTill_done (by kernel_rfl) ?_ _
      simp only [Act.put, CL]
      exact KEY _ Y M us ⟨H.but hk hf, B, J.butq hk, hf⟩
    ·intro Y W9 hY hb HZ
     have hf := H.fresh hY
     have H := H.grow hY hb HZ
     replace s0 : ∀ W, Fq w N (ansA b Af cf Ac cc Ai ci) 49 (Y :: ([] : List Nat)) ([] : List (Nat × Js.J)) W → (fun W => W.heap[N]? = some (.cells (ansA b Af cf Ac cc Ai ci) 49 (0, 0))) W := fun _ h => h.fr.arg
     rename World => W
     refine till1 16 rfl (stepL 61 #[.int .i64 b.plAt] (number_leaf b.plAt W) (nx_and nx_fq nx_blk) ⟨H, HZ⟩ (fun _ h => s0 _ h.1) ?_)
     rintro W ⟨H, HZ⟩
     refine takeP 17 (.iface 25 (.agg (nL b.plAt).toArray)) rfl (s0 _ H) ?_
     refine till1 18 rfl (stepB 6 (anyCells (plLL b)).toArray rfl rfl (nx_and nx_fq nx_blk) ⟨H, HZ⟩ (fun _ h => s0 _ h.1) ?_)
     rintro M W ⟨H, HZ⟩ Q
     refine till1 19 rfl (stepC 59 #[.slice (some ⟨M, 0, none⟩) 6 6] (object_L (plLL b) (NB N (Y :: ([] : List Nat))) W M 6 6 Q (pl_jv b) H.new rfl (Nat.le_of_ble_eq_true rfl)) ?_)
     rintro e W9 ⟨hb, us, rfl, J⟩
     obtain ⟨H, HZ⟩ := (nx_and nx_fq nx_blk) _ _ (show (fun W => _ ∧ _) W from ⟨H, HZ⟩) hb
     refine ⟨_, rfl, s0 _ H, ?_⟩
     rename World => W
     refine till1 21 rfl (stepS 25 Y #[.int .i64 0, .bool false, .int .i64 0, .string ⟨#[]⟩, .slice none 0 0, .slice none 0 0] us.toArray rfl HZ (by simp [J.len]) (by rw [info25s]; simp [J.len]) (by simpa using J.one) (fun _ hk => s0 _ (H.but hk hf)) fun W9 hk B => ?_)
     refine wpTill_done (by kernel_rfl) ?_ _
     simp only [Act.put, CL]
     exact KEY _ Y M us ⟨H.but hk hf, B, J.butq hk, hf⟩
   ·intro Y W9 hY hb HZ
    have hf := H.fresh hY
    have H := H.grow hY hb HZ
    replace s0 : ∀ W, Fq w N (ansA b Af cf Ac cc Ai ci) 49 (Y :: ([] : List Nat)) ([] : List (Nat × Js.J)) W → (fun W => W.heap[N]? = some (.cells (ansA b Af cf Ac cc Ai ci) 49 (0, 0))) W := fun _ h => h.fr.arg
    rename World => W
    refine till1 10 rfl (stepL 61 #[.int .i64 b.plFile] (number_leaf b.plFile W) (nx_and nx_fq nx_blk) ⟨H, HZ⟩ (fun _ h => s0 _ h.1) ?_)
    rintro W ⟨H, HZ⟩
    refine takeP 11 (.iface 25 (.agg (nL b.plFile).toArray)) rfl (s0 _ H) ?_
    refine till1 16 rfl (stepL 61 #[.int .i64 b.plAt] (number_leaf b.plAt W) (nx_and nx_fq nx_blk) ⟨H, HZ⟩ (fun _ h => s0 _ h.1) ?_)
    rintro W ⟨H, HZ⟩
    refine takeP 17 (.iface 25 (.agg (nL b.plAt).toArray)) rfl (s0 _ H) ?_
    refine till1 18 rfl (stepB 6 (anyCells (plLL b)).toArray rfl rfl (nx_and nx_fq nx_blk) ⟨H, HZ⟩ (fun _ h => s0 _ h.1) ?_)
    rintro M W ⟨H, HZ⟩ Q
    refine till1 19 rfl (stepC 59 #[.slice (some ⟨M, 0, none⟩) 6 6] (object_L (plLL b) (NB N (Y :: ([] : List Nat))) W M 6 6 Q (pl_jv b) H.new rfl (Nat.le_of_ble_eq_true rfl)) ?_)
    rintro e W9 ⟨hb, us, rfl, J⟩
    obtain ⟨H, HZ⟩ := (nx_and nx_fq nx_blk) _ _ (show (fun W => _ ∧ _) W from ⟨H, HZ⟩) hb
    refine ⟨_, rfl, s0 _ H, ?_⟩
    rename World => W
    refine till1 21 rfl (stepS 25 Y #[.int .i64 0, .bool false, .int .i64 0, .string ⟨#[]⟩, .slice none 0 0, .slice none 0 0] us.toArray rfl HZ (by simp [J.len]) (by rw [info25s]; simp [J.len]) (by simpa using J.one) (fun _ hk => s0 _ (H.but hk hf)) fun W9 hk B => ?_)
    refine wpTill_done (by kernel_rfl) ?_ _
    simp only [Act.put, CL]
    exact KEY _ Y M us ⟨H.but hk hf, B, J.butq hk, hf⟩
  ·intro Y W9 hY hb HZ
   have hf := H.fresh hY
   have H := H.grow hY hb HZ
   replace s0 : ∀ W, Fq w N (ansA b Af cf Ac cc Ai ci) 49 (Y :: ([] : List Nat)) ([] : List (Nat × Js.J)) W → (fun W => W.heap[N]? = some (.cells (ansA b Af cf Ac cc Ai ci) 49 (0, 0))) W := fun _ h => h.fr.arg
   rename World => W
   refine till1 4 rfl (stepL 61 #[.int .i64 b.plErr] (number_leaf b.plErr W) (nx_and nx_fq nx_blk) ⟨H, HZ⟩ (fun _ h => s0 _ h.1) ?_)
   rintro W ⟨H, HZ⟩
   refine takeP 5 (.iface 25 (.agg (nL b.plErr).toArray)) rfl (s0 _ H) ?_
   refine till1 10 rfl (stepL 61 #[.int .i64 b.plFile] (number_leaf b.plFile W) (nx_and nx_fq nx_blk) ⟨H, HZ⟩ (fun _ h => s0 _ h.1) ?_)
   rintro W ⟨H, HZ⟩
   refine takeP 11 (.iface 25 (.agg (nL b.plFile).toArray)) rfl (s0 _ H) ?_
   refine till1 16 rfl (stepL 61 #[.int .i64 b.plAt] (number_leaf b.plAt W) (nx_and nx_fq nx_blk) ⟨H, HZ⟩ (fun _ h => s0 _ h.1) ?_)
   rintro W ⟨H, HZ⟩
   refine takeP 17 (.iface 25 (.agg (nL b.plAt).toArray)) rfl (s0 _ H) ?_
   refine till1 18 rfl (stepB 6 (anyCells (plLL b)).toArray rfl rfl (nx_and nx_fq nx_blk) ⟨H, HZ⟩ (fun _ h => s0 _ h.1) ?_)
   rintro M W ⟨H, HZ⟩ Q
   refine till1 19 rfl (stepC 59 #[.slice (some ⟨M, 0, none⟩) 6 6] (object_L (plLL b) (NB N (Y :: ([] : List Nat))) W M 6 6 Q (pl_jv b) H.new rfl (Nat.le_of_ble_eq_true rfl)) ?_)
   rintro e W9 ⟨hb, us, rfl, J⟩
   obtain ⟨H, HZ⟩ := (nx_and nx_fq nx_blk) _ _ (show (fun W => _ ∧ _) W from ⟨H, HZ⟩) hb
   refine ⟨_, rfl, s0 _ H, ?_⟩
   rename World => W
   refine till1 21 rfl (stepS 25 Y #[.int .i64 0, .bool false, .int .i64 0, .string ⟨#[]⟩, .slice none 0 0, .slice none 0 0] us.toArray rfl HZ (by simp [J.len]) (by rw [info25s]; simp [J.len]) (by simpa using J.one) (fun _ hk => s0 _ (H.but hk hf)) fun W9 hk B => ?_)
   refine wpTill_done (by kernel_rfl) ?_ _
   simp only [Act.put, CL]
   exact KEY _ Y M us ⟨H.but hk hf, B, J.butq hk, hf⟩
 case key =>
 rintro wa Y3 M1 us3 ⟨f1, f2, f3, f4⟩
 clear H0
 have H0 := Lib.hid (f1.push f4.1 f2 f3)
 have HY3 := Lib.hid f4
 clear f1 f2 f3 f4
 go_wp2_with fail
 apply shared4 (F := fun W Y M us => Fq w N (ansA b Af cf Ac cc Ai ci) 49 (Y :: (Y3 :: ([] : List Nat))) ((Y3, jPlace b) :: ([] : List (Nat × Js.J))) W ∧ W.heap[Y]? = some (.cells us.toArray 25 (0, 0)) ∧ JV W (NB N (Y :: (Y3 :: ([] : List Nat)))) (jRan b) us ∧ (N + 2 ≤ Y ∧ Y ∉ (((Y3, jPlace b) :: ([] : List (Nat × Js.J))) : List (Nat × Js.J)).map (·.1)))
 case tree =>
  have H : Fq w N (ansA b Af cf Ac cc Ai ci) 49 (Y3 :: ([] : List Nat)) ((Y3, jPlace b) :: ([] : List (Nat × Js.J))) wa := H0.out
  have s0 : ∀ W, Fq w N (ansA b Af cf Ac cc Ai ci) 49 (Y3 :: ([] : List Nat)) ((Y3, jPlace b) :: ([] : List (Nat × Js.J))) W → (fun W => W.heap[N]? = some (.cells (ansA b Af cf Ac cc Ai ci) 49 (0, 0))) W := fun _ h => h.fr.arg
  intro KEY
  refine region_till (S := fun W => W.heap[N]? = some (.cells (ansA b Af cf Ac cc Ai ci) 49 (0, 0))) 28 rfl nx_fq H s0 fun W H sh => ?_
  refine takeQ 0 (v := .iface 9 (.string (str [101, 110, 100]))) rfl (s0 _ H) sh fun sh => ?_
  refine takeQ 1 (v := .pointer (some ⟨N, 38, none⟩)) rfl (s0 _ H) sh fun sh => ?_
  refine takeQ 2 (v := .pointer (some ⟨N, 38, none⟩)) rfl (s0 _ H) sh fun sh => ?_
  refine takeV 3 N 38 (.int .i64 b.rEnd) rfl rfl rfl rfl (fun W hS => (blk_cells hS 38).trans rfl) (s0 _ H) sh fun sh => ?_
  refine takeQ 6 (v := .iface 9 (.string (str [111, 117, 116]))) rfl (s0 _ H) sh fun sh => ?_
  refine takeQ 7 (v := .pointer (some ⟨N, 38, none⟩)) rfl (s0 _ H) sh fun sh => ?_
  refine takeQ 8 (v := .pointer (some ⟨N, 39, none⟩)) rfl (s0 _ H) sh fun sh => ?_
  refine takeV 9 N 39 (.string (str b.rOut)) rfl rfl rfl rfl (fun W hS => (blk_cells hS 39).trans rfl) (s0 _ H) sh fun sh => ?_
  refine takeQ 12 (v := .iface 9 (.string (str [119, 104, 121]))) rfl (s0 _ H) sh fun sh => ?_
  refine takeQ 13 (v := .pointer (some ⟨N, 38, none⟩)) rfl (s0 _ H) sh fun sh => ?_
  refine takeQ 14 (v := .pointer (some ⟨N, 40, none⟩)) rfl (s0 _ H) sh fun sh => ?_
  refine takeV 15 N 40 (.string (str b.rWhy)) rfl rfl rfl rfl (fun W hS => (blk_cells hS 40).trans rfl) (s0 _ H) sh fun sh => ?_
  refine takeQ 18 (v := .iface 9 (.string (str [115, 116, 101, 112, 115]))) rfl (s0 _ H) sh fun sh => ?_
  refine takeQ 19 (v := .pointer (some ⟨N, 38, none⟩)) rfl (s0 _ H) sh fun sh => ?_
  refine takeQ 20 (v := .pointer (some ⟨N, 41, none⟩)) rfl (s0 _ H) sh fun sh => ?_
  refine takeV 21 N 41 (.int .i64 b.rSteps) rfl rfl rfl rfl (fun W hS => (blk_cells hS 41).trans rfl) (s0 _ H) sh fun sh => ?_
  refine till2 4 26 rfl rfl (stepL 61 #[.int .i64 b.rEnd] (number_leaf b.rEnd W) nx_fq H s0 ?_) (stepN 25 #[.int .i64 0, .bool false, .int .i64 0, .string ⟨#[]⟩, .slice none 0 0, .slice none 0 0] (fun W9 hb => s0 _ (H.next hb)) ?_)
  ·rintro W H
   refine takeP 5 (.iface 25 (.agg (nL b.rEnd).toArray)) rfl (s0 _ H) ?_
   refine till2 10 26 rfl rfl (stepL 60 #[.string (str b.rOut)] (text_leaf (str b.rOut) W) nx_fq H s0 ?_) (stepN 25 #[.int .i64 0, .bool false, .int .i64 0, .string ⟨#[]⟩, .slice none 0 0, .slice none 0 0] (fun W9 hb => s0 _ (H.next hb)) ?_)
   ·rintro W H
    refine takeP 11 (.iface 25 (.agg (tL b.rOut).toArray)) rfl (s0 _ H) ?_
    refine till2 16 26 rfl rfl (stepL 60 #[.string (str b.rWhy)] (text_leaf (str b.rWhy) W) nx_fq H s0 ?_) (stepN 25 #[.int .i64 0, .bool false, .int .i64 0, .string ⟨#[]⟩, .slice none 0 0, .slice none 0 0] (fun W9 hb => s0 _ (H.next hb)) ?_)
    ·rintro W H
     refine takeP 17 (.iface 25 (.agg (tL b.rWhy).toArray)) rfl (s0 _ H) ?_
     refine till2 22 26 rfl rfl (stepL 61 #[.int .i64 b.rSteps] (number_leaf b.rSteps W) nx_fq H s0 ?_) (stepN 25 #[.int .i64 0, .bool false, .int .i64 0, .string ⟨#[]⟩, .slice none 0 0, .slice none 0 0] (fun W9 hb => s0 _ (H.next hb)) ?_)
     ·rintro W H
      refine takeP 23 (.iface 25 (.agg (nL b.rSteps).toArray)) rfl (s0 _ H) ?_
      refine till2 24 26 rfl rfl (stepB 8 (anyCells (ranLL b)).toArray rfl rfl nx_fq H s0 ?_) (stepN 25 #[.int .i64 0, .bool false, .int .i64 0, .string ⟨#[]⟩, .slice none 0 0, .slice none 0 0] (fun W9 hb => s0 _ (H.next hb)) ?_)
      ·rintro M W H Q
       refine till2 25 26 rfl rfl (stepC 59 #[.slice (some ⟨M, 0, none⟩) 8 8] (object_L (ranLL b) (NB N (Y3 :: ([] : List Nat))) W M 8 8 Q (ran_jv b) H.new rfl (Nat.le_of_ble_eq_true rfl)) ?_) (stepN 25 #[.int .i64 0, .bool false, .int .i64 0, .string ⟨#[]⟩, .slice none 0 0, .slice none 0 0] (fun W9 hb => s0 _ (H.next hb)) ?_)
       ·rintro e W9 ⟨hb, us, rfl, J⟩
        replace H := nx_fq _ _ H hb
        refine ⟨_, rfl, s0 _ H, ?_⟩
        rename World => W
        refine till1 26 rfl (stepN 25 #[.int .i64 0, .bool false, .int .i64 0, .string ⟨#[]⟩, .slice none 0 0, .slice none 0 0] (fun W9 hb => s0 _ (H.next hb)) ?_)
        intro Y W9 hY hb HZ
        have hf := H.fresh hY
        have H := H.grow hY hb HZ
        replace J := J.grow hY hb
        replace s0 : ∀ W, Fq w N (ansA b Af cf Ac cc Ai ci) 49 (Y :: (Y3 :: ([] : List Nat))) ((Y3, jPlace b) :: ([] : List (Nat × Js.J))) W → (fun W => W.heap[N]? = some (.cells (ansA b Af cf Ac cc Ai ci) 49 (0, 0))) W := fun _ h => h.fr.arg
        rename World => W
        refine till1 27 rfl (stepS 25 Y #[.int .i64 0, .bool false, .int .i64 0, .string ⟨#[]⟩, .slice none 0 0, .slice none 0 0] us.toArray rfl HZ (by simp [J.len]) (by rw [info25s]; simp [J.len]) (by simpa using J.one) (fun _ hk => s0 _ (H.but hk hf)) fun W9 hk B => ?_)
        refine wpTill_done (by kernel_rfl) ?_ _
        simp only [Act.put, CL]
        exact KEY _ Y M us ⟨H.but hk hf, B, J.butq hk, hf⟩
       ·intro Y W9 hY hb HZ
        have hf := H.fresh hY
        have H := H.grow hY hb HZ
        replace Q := blk_next hb Q
        replace s0 : ∀ W, Fq w N (ansA b Af cf Ac cc Ai ci) 49 (Y :: (Y3 :: ([] : List Nat))) ((Y3, jPlace b) :: ([] : List (Nat × Js.J))) W → (fun W => W.heap[N]? = some (.cells (ansA b Af cf Ac cc Ai ci) 49 (0, 0))) W := fun _ h => h.fr.arg
        rename World => W
        refine till1 25 rfl (stepC 59 #[.slice (some ⟨M, 0, none⟩) 8 8] (object_L (ranLL b) (NB N (Y :: (Y3 :: ([] : List Nat)))) W M 8 8 Q (ran_jv b) H.new rfl (Nat.le_of_ble_eq_true rfl)) ?_)
        rintro e W9 ⟨hb, us, rfl, J⟩
        obtain ⟨H, HZ⟩ := (nx_and nx_fq nx_blk) _ _ (show (fun W => _ ∧ _) W from ⟨H, HZ⟩) hb
        refine ⟨_, rfl, s0 _ H, ?_⟩
        rename World => W
        refine till1 27 rfl (stepS 25 Y #[.int .i64 0, .bool false, .int .i64 0, .string ⟨#[]⟩, .slice none 0 0, .slice none 0 0] us.toArray rfl HZ (by simp [J.len]) (by rw [info25s]; simp [J.len]) (by simpa using J.one) (fun _ hk => s0 _ (H.but hk hf)) fun W9 hk B => ?_)
        refine wpTill_done (by kernel_rfl) ?_ _
        simp only [Act.put, CL]
        exact KEY _ Y M us ⟨H.but hk hf, B, J.butq hk, hf⟩
      ·intro Y W9 hY hb HZ
       have hf := H.fresh hY
       have H := H.grow hY hb HZ
       replace s0 : ∀ W, Fq w N (ansA b Af cf Ac cc Ai ci) 49 (Y :: (Y3 :: ([] : List Nat))) ((Y3, jPlace b) :: ([] : List (Nat × Js.J))) W → (fun W => W.heap[N]? = some (.cells (ansA b Af cf Ac cc Ai ci) 49 (0, 0))) W := fun _ h => h.fr.arg
       rename World => W
       refine till1 24 rfl (stepB 8 (anyCells (ranLL b)).toArray rfl rfl (nx_and nx_fq nx_blk) ⟨H, HZ⟩ (fun _ h => s0 _ h.1) ?_)
       rintro M W ⟨H, HZ⟩ Q
       refine till1 25 rfl (stepC 59 #[.slice (some ⟨M, 0, none⟩) 8 8] (object_L (ranLL b) (NB N (Y :: (Y3 :: ([] : List Nat)))) W M 8 8 Q (ran_jv b) H.new rfl (Nat.le_of_ble_eq_true rfl)) ?_)
       rintro e W9 ⟨hb, us, rfl, J⟩
       obtain ⟨H, HZ⟩ := (nx_and nx_fq nx_blk) _ _ (show (fun W => _ ∧ _) W from ⟨H, HZ⟩) hb
       refine ⟨_, rfl, s0 _ H, ?_⟩
       rename World => W
       refine till1 27 rfl (stepS 25 Y #[.int .i64 0, .bool false, .int .i64 0, .string ⟨#[]⟩, .slice none 0 0, .slice none 0 0] us.toArray rfl HZ (by simp [J.len]) (by rw [info25s]; simp [J.len]) (by simpa using J.one) (fun _ hk => s0 _ (H.but hk hf)) fun W9 hk B => ?_)
       refine wpTill_done (by kernel_rfl) ?_ _
       simp only [Act.put, CL]
       exact KEY _ Y M us ⟨H.but hk hf, B, J.butq hk, hf⟩
     ·intro Y W9 hY hb HZ
      have hf := H.fresh hY
      have H := H.grow hY hb HZ
      replace s0 : ∀ W, Fq w N (ansA b Af cf Ac cc Ai ci) 49 (Y :: (Y3 :: ([] : List Nat))) ((Y3, jPlace b) :: ([] : List (Nat × Js.J))) W → (fun W => W.heap[N]? = some (.cells (ansA b Af cf Ac cc Ai ci) 49 (0, 0))) W := fun _ h => h.fr.arg
      rename World => W
      refine till1 22 rfl (stepL 61 #[.int .i64 b.rSteps] (number_leaf b.rSteps W) (nx_and nx_fq nx_blk) ⟨H, HZ⟩ (fun _ h => s0 _ h.1) ?_)
      rintro W ⟨H, HZ⟩
      refine takeP 23 (.iface 25 (.agg (nL b.rSteps).toArray)) rfl (s0 _ H) ?_
      refine till1 24 rfl (stepB 8 (anyCells (ranLL b)).toArray rfl rfl (nx_and nx_fq nx_blk) ⟨H, HZ⟩ (fun _ h => s0 _ h.1) ?_)
      rintro M W ⟨H, HZ⟩ Q
      refine till1 25 rfl (stepC 59 #[.slice (some ⟨M, 0, none⟩) 8 8] (object_L (ranLL b) (NB N (Y :: (Y3 :: ([] : List Nat)))) W M 8 8 Q (ran_jv b) H.new rfl (Nat.le_of_ble_eq_true rfl)) ?_)
      rintro e W9 ⟨hb, us, rfl, J⟩
      obtain ⟨H, HZ⟩ := (nx_and nx_fq nx_blk) _ _ (show (fun W => _ ∧ _) W from ⟨H, HZ⟩) hb
      refine ⟨_, rfl, s0 _ H, ?_⟩
      rename World => W
      refine till1 27 rfl (stepS 25 Y #[.int .i64 0, .bool false, .int .i64 0, .string ⟨#[]⟩, .slice none 0 0, .slice none 0 0] us.toArray rfl HZ (by simp [J.len]) (by rw [info25s]; simp [J.len]) (by simpa using J.one) (fun _ hk => s0 _ (H.but hk hf)) fun W9 hk B => ?_)
      refine wpTill_done (by kernel_rfl) ?_ _
      simp only [Act.put, CL]
      exact KEY _ Y M us ⟨H.but hk hf, B, J.butq hk, hf⟩
    ·intro Y W9 hY hb HZ
     have hf := H.fresh hY
     have H := H.grow hY hb HZ
     replace s0 : ∀ W, Fq w N (ansA b Af cf Ac cc Ai ci) 49 (Y :: (Y3 :: ([] : List Nat))) ((Y3, jPlace b) :: ([] : List (Nat × Js.J))) W → (fun W => W.heap[N]? = some (.cells (ansA b Af cf Ac cc Ai ci) 49 (0, 0))) W := fun _ h => h.fr.arg
     rename World => W
     refine till1 16 rfl (stepL 60 #[.string (str b.rWhy)] (text_leaf (str b.rWhy) W) (nx_and nx_fq nx_blk) ⟨H, HZ⟩ (fun _ h => s0 _ h.1) ?_)
     rintro W ⟨H, HZ⟩
     refine takeP 17 (.iface 25 (.agg (tL b.rWhy).toArray)) rfl (s0 _ H) ?_
     refine till1 22 rfl (stepL 61 #[.int .i64 b.rSteps] (number_leaf b.rSteps W) (nx_and nx_fq nx_blk) ⟨H, HZ⟩ (fun _ h => s0 _ h.1) ?_)
     rintro W ⟨H, HZ⟩
     refine takeP 23 (.iface 25 (.agg (nL b.rSteps).toArray)) rfl (s0 _ H) ?_
     refine till1 24 rfl (stepB 8 (anyCells (ranLL b)).toArray rfl rfl (nx_and nx_fq nx_blk) ⟨H, HZ⟩ (fun _ h => s0 _ h.1) ?_)
     rintro M W ⟨H, HZ⟩ Q
     refine till1 25 rfl (stepC 59 #[.slice (some ⟨M, 0, none⟩) 8 8] (object_L (ranLL b) (NB N (Y :: (Y3 :: ([] : List Nat)))) W M 8 8 Q (ran_jv b) H.new rfl (Nat.le_of_ble_eq_true rfl)) ?_)
     rintro e W9 ⟨hb, us, rfl, J⟩
     obtain ⟨H, HZ⟩ := (nx_and nx_fq nx_blk) _ _ (show (fun W => _ ∧ _) W from ⟨H, HZ⟩) hb
     refine ⟨_, rfl, s0 _ H, ?_⟩
     rename World => W
     refine till1 27 rfl (stepS 25 Y #[.int .i64 0, .bool false, .int .i64 0, .string ⟨#[]⟩, .slice none 0 0, .slice none 0 0] us.toArray rfl HZ (by simp [J.len]) (by rw [info25s]; simp [J.len]) (by simpa using J.one) (fun _ hk => s0 _ (H.but hk hf)) fun W9 hk B => ?_)
     refine wpTill_done (by kernel_rfl) ?_ _
     simp only [Act.put, CL]
     exact KEY _ Y M us ⟨H.but hk hf, B, J.butq hk, hf⟩
   ·intro Y W9 hY hb HZ
    have hf := H.fresh hY
    have H := H.grow hY hb HZ
    replace s0 : ∀ W, Fq w N (ansA b Af cf Ac cc Ai ci) 49 (Y :: (Y3 :: ([] : List Nat))) ((Y3, jPlace b) :: ([] : List (Nat × Js.J))) W → (fun W => W.heap[N]? = some (.cells (ansA b Af cf Ac cc Ai ci) 49 (0, 0))) W := fun _ h => h.fr.arg
    rename World => W
    refine till1 10 rfl (stepL 60 #[.string (str b.rOut)] (text_leaf (str b.rOut) W) (nx_and nx_fq nx_blk) ⟨H, HZ⟩ (fun _ h => s0 _ h.1) ?_)
    rintro W ⟨H, HZ⟩
    refine takeP 11 (.iface 25 (.agg (tL b.rOut).toArray)) rfl (s0 _ H) ?_
    refine till1 16 rfl (stepL 60 #[.string (str b.rWhy)] (text_leaf (str b.rWhy) W) (nx_and nx_fq nx_blk) ⟨H, HZ⟩ (fun _ h => s0 _ h.1) ?_)
    rintro W ⟨H, HZ⟩
    refine takeP 17 (.iface 25 (.agg (tL b.rWhy).toArray)) rfl (s0 _ H) ?_
    refine till1 22 rfl (stepL 61 #[.int .i64 b.rSteps] (number_leaf b.rSteps W) (nx_and nx_fq nx_blk) ⟨H, HZ⟩ (fun _ h => s0 _ h.1) ?_)
    rintro W ⟨H, HZ⟩
    refine takeP 23 (.iface 25 (.agg (nL b.rSteps).toArray)) rfl (s0 _ H) ?_
    refine till1 24 rfl (stepB 8 (anyCells (ranLL b)).toArray rfl rfl (nx_and nx_fq nx_blk) ⟨H, HZ⟩ (fun _ h => s0 _ h.1) ?_)
    rintro M W ⟨H, HZ⟩ Q
    refine till1 25 rfl (stepC 59 #[.slice (some ⟨M, 0, none⟩) 8 8] (object_L (ranLL b) (NB N (Y :: (Y3 :: ([] : List Nat)))) W M 8 8 Q (ran_jv b) H.new rfl (Nat.le_of_ble_eq_true rfl)) ?_)
    rintro e W9 ⟨hb, us, rfl, J⟩
    obtain ⟨H, HZ⟩ := (nx_and nx_fq nx_blk) _ _ (show (fun W => _ ∧ _) W from ⟨H, HZ⟩) hb
    refine ⟨_, rfl, s0 _ H, ?_⟩
    rename World => W
    refine till1 27 rfl (stepS 25 Y #[.int .i64 0, .bool false, .int .i64 0, .string ⟨#[]⟩, .slice none 0 0, .slice none 0 0] us.toArray rfl HZ (by simp [J.len]) (by rw [info25s]; simp [J.len]) (by simpa using J.one) (fun _ hk => s0 _ (H.but hk hf)) fun W9 hk B => ?_)
    refine wpTill_done (by kernel_rfl) ?_ _
    simp only [Act.put, CL]
    exact KEY _ Y M us ⟨H.but hk hf, B, J.butq hk, hf⟩
  ·intro Y W9 hY hb HZ
   have hf := H.fresh hY
   have H := H.grow hY hb HZ
   replace s0 : ∀ W, Fq w N (ansA b Af cf Ac cc Ai ci) 49 (Y :: (Y3 :: ([] : List Nat))) ((Y3, jPlace b) :: ([] : List (Nat × Js.J))) W → (fun W => W.heap[N]? = some (.cells (ansA b Af cf Ac cc Ai ci) 49 (0, 0))) W := fun _ h => h.fr.arg
   rename World => W
   refine till1 4 rfl (stepL 61 #[.int .i64 b.rEnd] (number_leaf b.rEnd W) (nx_and nx_fq nx_blk) ⟨H, HZ⟩ (fun _ h => s0 _ h.1) ?_)
   rintro W ⟨H, HZ⟩
   refine takeP 5 (.iface 25 (.agg (nL b.rEnd).toArray)) rfl (s0 _ H) ?_
   refine till1 10 rfl (stepL 60 #[.string (str b.rOut)] (text_leaf (str b.rOut) W) (nx_and nx_fq nx_blk) ⟨H, HZ⟩ (fun _ h => s0 _ h.1) ?_)
   rintro W ⟨H, HZ⟩
   refine takeP 11 (.iface 25 (.agg (tL b.rOut).toArray)) rfl (s0 _ H) ?_
   refine till1 16 rfl (stepL 60 #[.string (str b.rWhy)] (text_leaf (str b.rWhy) W) (nx_and nx_fq nx_blk) ⟨H, HZ⟩ (fun _ h => s0 _ h.1) ?_)
   rintro W ⟨H, HZ⟩
   refine takeP 17 (.iface 25 (.agg (tL b.rWhy).toArray)) rfl (s0 _ H) ?_
   refine till1 22 rfl (stepL 61 #[.int .i64 b.rSteps] (number_leaf b.rSteps W) (nx_and nx_fq nx_blk) ⟨H, HZ⟩ (fun _ h => s0 _ h.1) ?_)
   rintro W ⟨H, HZ⟩
   refine takeP 23 (.iface 25 (.agg (nL b.rSteps).toArray)) rfl (s0 _ H) ?_
   refine till1 24 rfl (stepB 8 (anyCells (ranLL b)).toArray rfl rfl (nx_and nx_fq nx_blk) ⟨H, HZ⟩ (fun _ h => s0 _ h.1) ?_)
   rintro M W ⟨H, HZ⟩ Q
   refine till1 25 rfl (stepC 59 #[.slice (some ⟨M, 0, none⟩) 8 8] (object_L (ranLL b) (NB N (Y :: (Y3 :: ([] : List Nat)))) W M 8 8 Q (ran_jv b) H.new rfl (Nat.le_of_ble_eq_true rfl)) ?_)
   rintro e W9 ⟨hb, us, rfl, J⟩
   obtain ⟨H, HZ⟩ := (nx_and nx_fq nx_blk) _ _ (show (fun W => _ ∧ _) W from ⟨H, HZ⟩) hb
   refine ⟨_, rfl, s0 _ H, ?_⟩
   rename World => W
   refine till1 27 rfl (stepS 25 Y #[.int .i64 0, .bool false, .int .i64 0, .string ⟨#[]⟩, .slice none 0 0, .slice none 0 0] us.toArray rfl HZ (by simp [J.len]) (by rw [info25s]; simp [J.len]) (by simpa using J.one) (fun _ hk => s0 _ (H.but hk hf)) fun W9 hk B => ?_)
   refine wpTill_done (by kernel_rfl) ?_ _
   simp only [Act.put, CL]
   exact KEY _ Y M us ⟨H.but hk hf, B, J.butq hk, hf⟩
 case key =>
 rintro wb Y4 M2 us4 ⟨f1, f2, f3, f4⟩
 clear H0
 have H0 := Lib.hid (f1.push f4.1 f2 f3)
 have HY4 := Lib.hid f4
 clear f1 f2 f3 f4
 go_wp2_with fail
 obtain ⟨-, vb0, B0, J0⟩ := H0.out.fr.box (Y3, jPlace b) (by simp)
 obtain ⟨-, vb1, B1, J1⟩ := H0.out.fr.box (Y4, jRan b) (by simp)
 have hl0 := J0.len
 have hl1 := J1.len
 have H : Fq w N (ansA b Af cf Ac cc Ai ci) 49 (Y4 :: (Y3 :: ([] : List Nat))) ((Y4, jRan b) :: ((Y3, jPlace b) :: ([] : List (Nat × Js.J)))) wb ∧ wb.heap[Y3]? = some (.cells vb0.toArray 25 (0, 0)) ∧ wb.heap[Y4]? = some (.cells vb1.toArray 25 (0, 0)) ∧ JV wb (NB N (Y4 :: (Y3 :: ([] : List Nat)))) (jPlace b) vb0 ∧ JV wb (NB N (Y4 :: (Y3 :: ([] : List Nat)))) (jRan b) vb1 := ⟨H0.out, B0, B1, J0, J1⟩
 have s0 : ∀ W, Fq w N (ansA b Af cf Ac cc Ai ci) 49 (Y4 :: (Y3 :: ([] : List Nat))) ((Y4, jRan b) :: ((Y3, jPlace b) :: ([] : List (Nat × Js.J)))) W ∧ W.heap[Y3]? = some (.cells vb0.toArray 25 (0, 0)) ∧ W.heap[Y4]? = some (.cells vb1.toArray 25 (0, 0)) ∧ JV W (NB N (Y4 :: (Y3 :: ([] : List Nat)))) (jPlace b) vb0 ∧ JV W (NB N (Y4 :: (Y3 :: ([] : List Nat)))) (jRan b) vb1 → (fun W => W.heap[N]? = some (.cells (ansA b Af cf Ac cc Ai ci) 49 (0, 0)) ∧ W.heap[Y3]? = some (.cells vb0.toArray 25 (0, 0)) ∧ W.heap[Y4]? = some (.cells vb1.toArray 25 (0, 0))) W := fun _ h => ⟨h.1.fr.arg, h.2.1, h.2.2.1⟩
 refine region_till (S := fun W => W.heap[N]? = some (.cells (ansA b Af cf Ac cc Ai ci) 49 (0, 0)) ∧ W.heap[Y3]? = some (.cells vb0.toArray 25 (0, 0)) ∧ W.heap[Y4]? = some (.cells vb1.toArray 25 (0, 0))) 34 rfl (nx_and nx_fq (nx_and nx_blk (nx_and nx_blk (nx_and nx_jv nx_jv)))) H s0 fun W H sh => ?_
 refine takeQ 0 (v := .iface 9 (.string (str [101, 114, 114]))) rfl (s0 _ H) sh fun sh => ?_
 refine takeQ 1 (v := .pointer (some ⟨N, 0, none⟩)) rfl (s0 _ H) sh fun sh => ?_
 refine takeV 2 N 0 (.int .i64 b.err) rfl rfl rfl rfl (fun W hS => (blk_cells hS.1 0).trans rfl) (s0 _ H) sh fun sh => ?_
 refine takeQ 5 (v := .iface 9 (.string (str [112, 108, 97, 99, 101]))) rfl (s0 _ H) sh fun sh => ?_
 refine takeB 6 Y3 vb0 rfl rfl hl0 (fun _ h => h.2.1) (s0 _ H) sh fun sh => ?_
 refine takeQ 7 (v := .iface 25 (.agg vb0.toArray)) rfl (s0 _ H) sh fun sh => ?_
 refine takeQ 8 (v := .iface 9 (.string (str [99, 111, 109, 109, 105, 116]))) rfl (s0 _ H) sh fun sh => ?_
 refine takeQ 9 (v := .pointer (some ⟨N, 4, none⟩)) rfl (s0 _ H) sh fun sh => ?_
 refine takeI 10 N 4 b.commit rfl rfl (fun W hS j v hv => (blk_cells hS.1 (4 + j)).trans (ans_id b Af cf Ac cc Ai ci j v hv)) (s0 _ H) sh fun sh => ?_
 refine takeQ 13 (v := .iface 9 (.string (str [102, 105, 108, 101, 115]))) rfl (s0 _ H) sh fun sh => ?_
 refine takeQ 14 (v := .pointer (some ⟨N, 36, none⟩)) rfl (s0 _ H) sh fun sh => ?_
 refine takeV 15 N 36 (.slice Af b.files.length cf) rfl rfl rfl rfl (fun W hS => (blk_cells hS.1 36).trans rfl) (s0 _ H) sh fun sh => ?_
 refine takeQ 18 (v := .iface 9 (.string (str [99, 108, 97, 115, 104, 101, 115]))) rfl (s0 _ H) sh fun sh => ?_
 refine takeQ 19 (v := .pointer (some ⟨N, 37, none⟩)) rfl (s0 _ H) sh fun sh => ?_
 refine takeV 20 N 37 (.slice Ac b.clashes.length cc) rfl rfl rfl rfl (fun W hS => (blk_cells hS.1 37).trans rfl) (s0 _ H) sh fun sh => ?_
 refine takeQ 23 (v := .iface 9 (.string (str [114, 97, 110]))) rfl (s0 _ H) sh fun sh => ?_
 refine takeB 24 Y4 vb1 rfl rfl hl1 (fun _ h => h.2.2) (s0 _ H) sh fun sh => ?_
 refine takeQ 25 (v := .iface 25 (.agg vb1.toArray)) rfl (s0 _ H) sh fun sh => ?_
 refine takeQ 26 (v := .iface 9 (.string (str [105, 100, 115]))) rfl (s0 _ H) sh fun sh => ?_
 refine takeQ 27 (v := .pointer (some ⟨N, 42, none⟩)) rfl (s0 _ H) sh fun sh => ?_
 refine takeV 28 N 42 (.slice Ai b.ids.length ci) rfl rfl rfl rfl (fun W hS => (blk_cells hS.1 42).trans rfl) (s0 _ H) sh fun sh => ?_
 refine till1 3 rfl (stepL 61 #[.int .i64 b.err] (number_leaf b.err W) (nx_and nx_fq (nx_and nx_blk (nx_and nx_blk (nx_and nx_jv nx_jv)))) H s0 ?_)
 rintro W H
 refine takeP 4 (.iface 25 (.agg (nL b.err).toArray)) rfl (s0 _ H) ?_
 refine till1 11 rfl (stepL 62 #[.agg (idA b.commit)] (id_leaf b.commit W) (nx_and nx_fq (nx_and nx_blk (nx_and nx_blk (nx_and nx_jv nx_jv)))) H s0 ?_)
 rintro W H
 refine takeP 12 (.iface 25 (.agg (tL (idS b.commit)).toArray)) rfl (s0 _ H) ?_
 refine till1 16 rfl (stepC 63 #[.slice Af b.files.length cf, .func (.func 64) #[] #[]] (list_file b.files Af cf W ((HR.out W H.1.fr.low).files) (by have := HLEN.out; omega)) ?_)
 rintro e W9 ⟨hb, V3, d3, rfl, U3⟩
 replace U3 := U3.wide (T := NB N (Y4 :: (Y3 :: ([] : List Nat)))) (fun g hg _ => H.1.new g hg)
 replace H := (nx_and nx_fq (nx_and nx_blk (nx_and nx_blk (nx_and nx_jv nx_jv)))) _ _ H hb
 refine ⟨_, rfl, s0 _ H, ?_⟩
 refine takeP 17 (.iface 25 (.agg (lL V3 b.files.length d3).toArray)) rfl (s0 _ H) ?_
 rename World => W
 refine till1 21 rfl (stepC 68 #[.slice Ac b.clashes.length cc, .func (.func 69) #[] #[]] (list_clash b.clashes Ac cc W ((HR.out W H.1.fr.low).clashes) (by have := HLEN.out; omega)) ?_)
 rintro e W9 ⟨hb, V4, d4, rfl, U4⟩
 replace U4 := U4.wide (T := NB N (Y4 :: (Y3 :: ([] : List Nat)))) (fun g hg _ => H.1.new g hg)
 obtain ⟨H, U3⟩ := (nx_and (nx_and nx_fq (nx_and nx_blk (nx_and nx_blk (nx_and nx_jv nx_jv)))) nx_jv) _ _ (show (fun W => _ ∧ _) W from ⟨H, U3⟩ : _) hb
 refine ⟨_, rfl, s0 _ H, ?_⟩
 refine takeP 22 (.iface 25 (.agg (lL V4 b.clashes.length d4).toArray)) rfl (s0 _ H) ?_
 rename World => W
 refine till1 29 rfl (stepC 70 #[.slice Ai b.ids.length ci, .func (.func 62) #[] #[]] (list_id b.ids Ai ci W ((HR.out W H.1.fr.low).ids) (by have := HLEN.out; omega)) ?_)
 rintro e W9 ⟨hb, V6, d6, rfl, U6⟩
 replace U6 := U6.wide (T := NB N (Y4 :: (Y3 :: ([] : List Nat)))) (fun g hg _ => H.1.new g hg)
 obtain ⟨H, U3, U4⟩ := (nx_and (nx_and nx_fq (nx_and nx_blk (nx_and nx_blk (nx_and nx_jv nx_jv)))) (nx_and nx_jv nx_jv)) _ _ (show (fun W => _ ∧ _) W from ⟨H, U3, U4⟩ : _) hb
 refine ⟨_, rfl, s0 _ H, ?_⟩
 refine takeP 30 (.iface 25 (.agg (lL V6 b.ids.length d6).toArray)) rfl (s0 _ H) ?_
 rename World => W
 refine till1 31 rfl (stepB 14 (anyCells [([101, 114, 114], jNum b.err, (nL b.err)), ([112, 108, 97, 99, 101], jPlace b, vb0), ([99, 111, 109, 109, 105, 116], jId b.commit, (tL (idS b.commit))), ([102, 105, 108, 101, 115], jList (b.files.map jFile), (lL V3 b.files.length d3)), ([99, 108, 97, 115, 104, 101, 115], jList (b.clashes.map jClash), (lL V4 b.clashes.length d4)), ([114, 97, 110], jRan b, vb1), ([105, 100, 115], jList (b.ids.map jId), (lL V6 b.ids.length d6))]).toArray rfl rfl (nx_and (nx_and nx_fq (nx_and nx_blk (nx_and nx_blk (nx_and nx_jv nx_jv)))) (nx_and nx_jv (nx_and nx_jv nx_jv))) ⟨H, U3, U4, U6⟩ (fun _ h => s0 _ h.1) ?_)
 rintro M W ⟨H, U3, U4, U6⟩ Q
 refine till1 32 rfl (stepC 59 #[.slice (some ⟨M, 0, none⟩) 14 14] (object_L [([101, 114, 114], jNum b.err, (nL b.err)), ([112, 108, 97, 99, 101], jPlace b, vb0), ([99, 111, 109, 109, 105, 116], jId b.commit, (tL (idS b.commit))), ([102, 105, 108, 101, 115], jList (b.files.map jFile), (lL V3 b.files.length d3)), ([99, 108, 97, 115, 104, 101, 115], jList (b.clashes.map jClash), (lL V4 b.clashes.length d4)), ([114, 97, 110], jRan b, vb1), ([105, 100, 115], jList (b.ids.map jId), (lL V6 b.ids.length d6))] (NB N (Y4 :: (Y3 :: ([] : List Nat)))) W M 14 14 Q (by
  intro p hp
  simp only [List.mem_cons, List.not_mem_nil, or_false] at hp
  rcases hp with rfl | rfl | rfl | rfl | rfl | rfl | rfl
  ·exact jv_n b.err
  ·exact H.2.2.2.1
  ·exact jv_i b.commit
  ·exact U3
  ·exact U4
  ·exact H.2.2.2.2
  ·exact U6) H.1.new rfl (Nat.le_of_ble_eq_true rfl)) ?_)
 rintro e W9 ⟨hb, us, rfl, J⟩
 replace H := (nx_and nx_fq (nx_and nx_blk (nx_and nx_blk (nx_and nx_jv nx_jv)))) _ _ H hb
 refine ⟨_, rfl, s0 _ H, ?_⟩
 rename World => W
 refine till1 33 rfl (stepS 25 (N + 1) #[.int .i64 0, .bool false, .int .i64 0, .string ⟨#[]⟩, .slice none 0 0, .slice none 0 0] us.toArray rfl H.1.fr.res (by simp [J.len]) (by rw [info25s]; simp [J.len]) (by simpa using J.one) (fun _ hk => ⟨hk.blk H.1.fr.arg (by simp), hk.blk H.2.1 (by have := HY3.out.1; simp; omega), hk.blk H.2.2.1 (by have := HY4.out.1; simp; omega)⟩) fun W9 hk B => ?_)
 refine wpTill_done (by kernel_rfl) ?_ _
 simp only [Act.put, CL]
 have hN := HN.out
 go_wp2_with fail
 refine bodyPost_ret (results_row1 rfl _ _ _ (N + 1) us.toArray rfl (run_loadVar_row _ (N + 1) 25 25 us.toArray (0, 0) _ B Tryz.underlying25 rfl (by rw [info25s]; simp [J.len]))) rfl ?_
 try rw [hN]
 exact ⟨H.1.fr.low.trans (hk.to (by have := H.1.fr.size; omega) (by intro j hj; simp at hj; omega)), _, rfl, (J.but hk (by intro j hj; simp at hj; subst hj; intro h; have := h.1; omega)).wide (fun g hg _ => by have := hg.1; omega)⟩
end Go.Proofs.YtimioelnnhnbiaaGreatDoor
