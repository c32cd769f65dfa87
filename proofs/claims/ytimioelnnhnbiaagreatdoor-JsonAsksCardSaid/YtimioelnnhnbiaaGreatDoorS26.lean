/-
 json.asked. CONDITIONS: the rows lie as told; they are not too long.
-/
import Derived.Test.YtimioelnnhnbiaaGreatDoorS25
namespace Go.Proofs.YtimioelnnhnbiaaGreatDoor
open Go.RowKit
set_option maxRecDepth 100000 in
set_option maxHeartbeats 16000000 in
theorem asked_any (a : PAsk) (Af : Option Addr) (cf : Nat) (Ao : Option Addr) (co : Nat) (Aa : Option Addr) (ca : Nat) (w : World) (hR : AskRows w a Af cf Ao co Aa ca) (hlen : a.files.length ≤ 1000000 ∧ a.order.length ≤ 1000000 ∧ a.args.length ≤ 1000000) :
  Calls Tryz.prog 31 #[.agg (askA a Af cf Ao co Aa ca)] w fun e w' => Below w.heap.size w w' ∧ ∃ us, e = .returned (.agg us.toArray) ∧ JV w' (fun g => w.heap.size ≤ g) (askJ a) us := by
 have HR : Hid (∀ W, Below w.heap.size w W → AskRows W a Af cf Ao co Aa ca) := Lib.hid (fun W hW => hR.next hW)
 have HLEN := Lib.hid hlen
 clear hR hlen
 have b1 := below_box w (.cells (askA a Af cf Ao co Aa ca) 38)
 have s1 : (w.alloc (.cells (askA a Af cf Ao co Aa ca) 38)).heap.size = w.heap.size + 1 := by simp
 have e1 := heap_alloc_new w (.cells (askA a Af cf Ao co Aa ca) 38)
 have b2 := below_box (w.alloc (.cells (askA a Af cf Ao co Aa ca) 38)) (.cells #[.int .i64 0, .bool false, .int .i64 0, .string ⟨#[]⟩, .slice none 0 0, .slice none 0 0] 25)
 have e2 : JBox _ _ _ _ _ _ _ _ := heap_alloc_new (w.alloc (.cells (askA a Af cf Ao co Aa ca) 38)) (.cells #[.int .i64 0, .bool false, .int .i64 0, .string ⟨#[]⟩, .slice none 0 0, .slice none 0 0] 25)
 rw [s1] at e2
 have HF0 : Fr w w.heap.size (askA a Af cf Ao co Aa ca) 38 (NB w.heap.size []) [] ((w.alloc (.cells (askA a Af cf Ao co Aa ca) 38)).alloc (.cells #[.int .i64 0, .bool false, .int .i64 0, .string ⟨#[]⟩, .slice none 0 0, .slice none 0 0] 25)) := ⟨blk_next b2 e1, e2, (fun p hp => by cases hp), b1.trans (b2.mono (by rw [s1]; omega))⟩
 clear b1 s1 e1 b2 e2
 go_enter Tryz.func31, Tryz.ntmps31
 go_upto_region 1 with fail
 generalize ((w.alloc (.cells (askA a Af cf Ao co Aa ca) 38)).alloc (.cells #[.int .i64 0, .bool false, .int .i64 0, .string ⟨#[]⟩, .slice none 0 0, .slice none 0 0] 25)) = w2 at HF0 ⊢
 obtain ⟨N, hN⟩ : ∃ N, w.heap.size = N := ⟨_, rfl⟩
 rw [hN] at HF0 HR ⊢
 have HN := Lib.hid hN
 have H0 : Hid (Fq w N (askA a Af cf Ao co Aa ca) 38 [] [] w2) := Lib.hid ⟨HF0, fun y hy => by cases hy⟩
 clear hN HF0
 go_wp2_with fail
 apply shared4 (F := fun W Y M us => Fq w N (askA a Af cf Ao co Aa ca) 38 (Y :: ([] : List Nat)) ([] : List (Nat × Js.J)) W ∧ W.heap[Y]? = some (.cells us.toArray 25 (0, 0)) ∧ JV W (NB N (Y :: ([] : List Nat))) (jSym a) us ∧ (N + 2 ≤ Y ∧ Y ∉ (([] : List (Nat × Js.J)) : List (Nat × Js.J)).map (·.1)))
 case tree =>
  have H : Fq w N (askA a Af cf Ao co Aa ca) 38 ([] : List Nat) ([] : List (Nat × Js.J)) w2 := H0.out
  have s0 : ∀ W, Fq w N (askA a Af cf Ao co Aa ca) 38 ([] : List Nat) ([] : List (Nat × Js.J)) W → (fun W => W.heap[N]? = some (.cells (askA a Af cf Ao co Aa ca) 38 (0, 0))) W := fun _ h => h.fr.arg
  intro KEY
  refine region_till (S := fun W => W.heap[N]? = some (.cells (askA a Af cf Ao co Aa ca) 38 (0, 0))) 34 rfl nx_fq H s0 fun W H sh => ?_
  refine takeQ 0 (v := .iface 9 (.string (str [102, 111, 108, 100, 101, 114]))) rfl (s0 _ H) sh fun sh => ?_
  refine takeQ 1 (v := .pointer (some ⟨N, 37, none⟩)) rfl (s0 _ H) sh fun sh => ?_
  refine takeQ 2 (v := .pointer (some ⟨N, 37, none⟩)) rfl (s0 _ H) sh fun sh => ?_
  refine takeV 3 N 37 (.string (str a.sFolder)) rfl rfl rfl rfl (fun W hS => (blk_cells hS 37).trans rfl) (s0 _ H) sh fun sh => ?_
  refine takeQ 6 (v := .iface 9 (.string (str [115, 116, 114, 117, 99, 116]))) rfl (s0 _ H) sh fun sh => ?_
  refine takeQ 7 (v := .pointer (some ⟨N, 37, none⟩)) rfl (s0 _ H) sh fun sh => ?_
  refine takeQ 8 (v := .pointer (some ⟨N, 38, none⟩)) rfl (s0 _ H) sh fun sh => ?_
  refine takeV 9 N 38 (.string (str a.sStruct)) rfl rfl rfl rfl (fun W hS => (blk_cells hS 38).trans rfl) (s0 _ H) sh fun sh => ?_
  refine takeQ 12 (v := .iface 9 (.string (str [110, 97, 109, 101]))) rfl (s0 _ H) sh fun sh => ?_
  refine takeQ 13 (v := .pointer (some ⟨N, 37, none⟩)) rfl (s0 _ H) sh fun sh => ?_
  refine takeQ 14 (v := .pointer (some ⟨N, 39, none⟩)) rfl (s0 _ H) sh fun sh => ?_
  refine takeV 15 N 39 (.string (str a.sName)) rfl rfl rfl rfl (fun W hS => (blk_cells hS 39).trans rfl) (s0 _ H) sh fun sh => ?_
  refine takeQ 18 (v := .iface 9 (.string (str [108, 111, 99, 97, 108]))) rfl (s0 _ H) sh fun sh => ?_
  refine takeQ 19 (v := .pointer (some ⟨N, 37, none⟩)) rfl (s0 _ H) sh fun sh => ?_
  refine takeQ 20 (v := .pointer (some ⟨N, 40, none⟩)) rfl (s0 _ H) sh fun sh => ?_
  refine takeV 21 N 40 (.int .i64 a.sLocal) rfl rfl rfl rfl (fun W hS => (blk_cells hS 40).trans rfl) (s0 _ H) sh fun sh => ?_
  refine takeQ 24 (v := .iface 9 (.string (str [102, 105, 108, 101]))) rfl (s0 _ H) sh fun sh => ?_
  refine takeQ 25 (v := .pointer (some ⟨N, 37, none⟩)) rfl (s0 _ H) sh fun sh => ?_
  refine takeQ 26 (v := .pointer (some ⟨N, 41, none⟩)) rfl (s0 _ H) sh fun sh => ?_
  refine takeV 27 N 41 (.string (str a.sFile)) rfl rfl rfl rfl (fun W hS => (blk_cells hS 41).trans rfl) (s0 _ H) sh fun sh => ?_
  refine till2 4 32 rfl rfl (stepL 60 #[.string (str a.sFolder)] (text_leaf (str a.sFolder) W) nx_fq H s0 ?_) (stepN 25 #[.int .i64 0, .bool false, .int .i64 0, .string ⟨#[]⟩, .slice none 0 0, .slice none 0 0] (fun W9 hb => s0 _ (H.next hb)) ?_)
  ·rintro W H
   refine takeP 5 (.iface 25 (.agg (tL a.sFolder).toArray)) rfl (s0 _ H) ?_
   refine till2 10 32 rfl rfl (stepL 60 #[.string (str a.sStruct)] (text_leaf (str a.sStruct) W) nx_fq H s0 ?_) (stepN 25 #[.int .i64 0, .bool false, .int .i64 0, .string ⟨#[]⟩, .slice none 0 0, .slice none 0 0] (fun W9 hb => s0 _ (H.next hb)) ?_)
   ·rintro W H
    refine takeP 11 (.iface 25 (.agg (tL a.sStruct).toArray)) rfl (s0 _ H) ?_
    refine till2 16 32 rfl rfl (stepL 60 #[.string (str a.sName)] (text_leaf (str a.sName) W) nx_fq H s0 ?_) (stepN 25 #[.int .i64 0, .bool false, .int .i64 0, .string ⟨#[]⟩, .slice none 0 0, .slice none 0 0] (fun W9 hb => s0 _ (H.next hb)) ?_)
    ·rintro W H
     refine takeP 17 (.iface 25 (.agg (tL a.sName).toArray)) rfl (s0 _ H) ?_
     refine till2 22 32 rfl rfl (stepL 61 #[.int .i64 a.sLocal] (number_leaf a.sLocal W) nx_fq H s0 ?_) (stepN 25 #[.int .i64 0, .bool false, .int .i64 0, .string ⟨#[]⟩, .slice none 0 0, .slice none 0 0] (fun W9 hb => s0 _ (H.next hb)) ?_)
     ·rintro W H
      refine takeP 23 (.iface 25 (.agg (nL a.sLocal).toArray)) rfl (s0 _ H) ?_
      refine till2 28 32 rfl rfl (stepL 60 #[.string (str a.sFile)] (text_leaf (str a.sFile) W) nx_fq H s0 ?_) (stepN 25 #[.int .i64 0, .bool false, .int .i64 0, .string ⟨#[]⟩, .slice none 0 0, .slice none 0 0] (fun W9 hb => s0 _ (H.next hb)) ?_)
      ·rintro W H
       refine takeP 29 (.iface 25 (.agg (tL a.sFile).toArray)) rfl (s0 _ H) ?_
       refine till2 30 32 rfl rfl (stepB 10 (anyCells (symLL a)).toArray rfl rfl nx_fq H s0 ?_) (stepN 25 #[.int .i64 0, .bool false, .int .i64 0, .string ⟨#[]⟩, .slice none 0 0, .slice none 0 0] (fun W9 hb => s0 _ (H.next hb)) ?_)
       ·rintro M W H Q
        refine till2 31 32 rfl rfl (stepC 59 #[.slice (some ⟨M, 0, none⟩) 10 10] (object_L (symLL a) (NB N ([] : List Nat)) W M 10 10 Q (sym_jv a) H.new rfl (Nat.le_of_ble_eq_true rfl)) ?_) (stepN 25 #[.int .i64 0, .bool false, .int .i64 0, .string ⟨#[]⟩, .slice none 0 0, .slice none 0 0] (fun W9 hb => s0 _ (H.next hb)) ?_)
        ·rintro e W9 ⟨hb, us, rfl, J⟩
         replace H := nx_fq _ _ H hb
         refine ⟨_, rfl, s0 _ H, ?_⟩
         rename World => W
         refine till1 32 rfl (stepN 25 #[.int .i64 0, .bool false, .int .i64 0, .string ⟨#[]⟩, .slice none 0 0, .slice none 0 0] (fun W9 hb => s0 _ (H.next hb)) ?_)
         intro Y W9 hY hb HZ
         have hf := H.fresh hY
         have H := H.grow hY hb HZ
         replace J := J.grow hY hb
         replace s0 : ∀ W, Fq w N (askA a Af cf Ao co Aa ca) 38 (Y :: ([] : List Nat)) ([] : List (Nat × Js.J)) W → (fun W => W.heap[N]? = some (.cells (askA a Af cf Ao co Aa ca) 38 (0, 0))) W := fun _ h => h.fr.arg
         rename World => W
         refine till1 33 rfl (stepS 25 Y #[.int .i64 0, .bool false, .int .i64 0, .string ⟨#[]⟩, .slice none 0 0, .slice none 0 0] us.toArray rfl HZ (by simp [J.len]) (by rw [info25s]; simp [J.len]) (by simpa using J.one) (fun _ hk => s0 _ (H.but hk hf)) fun W9 hk B => ?_)
         refine wpTill_done (by kernel_rfl) ?_ _
         simp only [Act.put, CL]
         exact KEY _ Y M us ⟨H.but hk hf, B, J.butq hk, hf⟩
        ·intro Y W9 hY hb HZ
         have hf := H.fresh hY
         have H := H.grow hY hb HZ
         replace Q := blk_next hb Q
         replace s0 : ∀ W, Fq w N (askA a Af cf Ao co Aa ca) 38 (Y :: ([] : List Nat)) ([] : List (Nat × Js.J)) W → (fun W => W.heap[N]? = some (.cells (askA a Af cf Ao co Aa ca) 38 (0, 0))) W := fun _ h => h.fr.arg
         rename World => W
         refine till1 31 rfl (stepC 59 #[.slice (some ⟨M, 0, none⟩) 10 10] (object_L (symLL a) (NB N (Y :: ([] : List Nat))) W M 10 10 Q (sym_jv a) H.new rfl (Nat.le_of_ble_eq_true rfl)) ?_)
         rintro e W9 ⟨hb, us, rfl, J⟩
         obtain ⟨H, HZ⟩ := (nx_and nx_fq nx_blk) _ _ (show (fun W => _ ∧ _) W from ⟨H, HZ⟩) hb
         refine ⟨_, rfl, s0 _ H, ?_⟩
         rename World => W
         refine till1 33 rfl (stepS 25 Y #[.int .i64 0, .bool false, .int .i64 0, .string ⟨#[]⟩, .slice none 0 0, .slice none 0 0] us.toArray rfl HZ (by simp [J.len]) (by rw [info25s]; simp [J.len]) (by simpa using J.one) (fun _ hk => s0 _ (H.but hk hf)) fun W9 hk B => ?_)
         refine wpTill_done (by kernel_rfl) ?_ _
         simp only [Act.put, CL]
         exact KEY _ Y M us ⟨H.but hk hf, B, J.butq hk, hf⟩
       ·intro Y W9 hY hb HZ
        have hf := H.fresh hY
        have H := H.grow hY hb HZ
        replace s0 : ∀ W, Fq w N (askA a Af cf Ao co Aa ca) 38 (Y :: ([] : List Nat)) ([] : List (Nat × Js.J)) W → (fun W => W.heap[N]? = some (.cells (askA a Af cf Ao co Aa ca) 38 (0, 0))) W := fun _ h => h.fr.arg
        rename World => W
        refine till1 30 rfl (stepB 10 (anyCells (symLL a)).toArray rfl rfl (nx_and nx_fq nx_blk) ⟨H, HZ⟩ (fun _ h => s0 _ h.1) ?_)
        rintro M W ⟨H, HZ⟩ Q
        refine till1 31 rfl (stepC 59 #[.slice (some ⟨M, 0, none⟩) 10 10] (object_L (symLL a) (NB N (Y :: ([] : List Nat))) W M 10 10 Q (sym_jv a) H.new rfl (Nat.le_of_ble_eq_true rfl)) ?_)
        rintro e W9 ⟨hb, us, rfl, J⟩
        obtain ⟨H, HZ⟩ := (nx_and nx_fq nx_blk) _ _ (show (fun W => _ ∧ _) W from ⟨H, HZ⟩) hb
        refine ⟨_, rfl, s0 _ H, ?_⟩
        rename World => W
        refine till1 33 rfl (stepS 25 Y #[.int .i64 0, .bool false, .int .i64 0, .string ⟨#[]⟩, .slice none 0 0, .slice none 0 0] us.toArray rfl HZ (by simp [J.len]) (by rw [info25s]; simp [J.len]) (by simpa using J.one) (fun _ hk => s0 _ (H.but hk hf)) fun W9 hk B => ?_)
        refine wpTill_done (by kernel_rfl) ?_ _
        simp only [Act.put, CL]
        exact KEY _ Y M us ⟨H.but hk hf, B, J.butq hk, hf⟩
      ·intro Y W9 hY hb HZ
       have hf := H.fresh hY
       have H := H.grow hY hb HZ
       replace s0 : ∀ W, Fq w N (askA a Af cf Ao co Aa ca) 38 (Y :: ([] : List Nat)) ([] : List (Nat × Js.J)) W → (fun W => W.heap[N]? = some (.cells (askA a Af cf Ao co Aa ca) 38 (0, 0))) W := fun _ h => h.fr.arg
       rename World => W
       refine till1 28 rfl (stepL 60 #[.string (str a.sFile)] (text_leaf (str a.sFile) W) (nx_and nx_fq nx_blk) ⟨H, HZ⟩ (fun _ h => s0 _ h.1) ?_)
       rintro W ⟨H, HZ⟩
       refine takeP 29 (.iface 25 (.agg (tL a.sFile).toArray)) rfl (s0 _ H) ?_
       refine till1 30 rfl (stepB 10 (anyCells (symLL a)).toArray rfl rfl (nx_and nx_fq nx_blk) ⟨H, HZ⟩ (fun _ h => s0 _ h.1) ?_)
       rintro M W ⟨H, HZ⟩ Q
       refine till1 31 rfl (stepC 59 #[.slice (some ⟨M, 0, none⟩) 10 10] (object_L (symLL a) (NB N (Y :: ([] : List Nat))) W M 10 10 Q (sym_jv a) H.new rfl (Nat.le_of_ble_eq_true rfl)) ?_)
       rintro e W9 ⟨hb, us, rfl, J⟩
       obtain ⟨H, HZ⟩ := (nx_and nx_fq nx_blk) _ _ (show (fun W => _ ∧ _) W from ⟨H, HZ⟩) hb
       refine ⟨_, rfl, s0 _ H, ?_⟩
       rename World => W
       refine till1 33 rfl (stepS 25 Y #[.int .i64 0, .bool false, .int .i64 0, .string ⟨#[]⟩, .slice none 0 0, .slice none 0 0] us.toArray rfl HZ (by simp [J.len]) (by rw [info25s]; simp [J.len]) (by simpa using J.one) (fun _ hk => s0 _ (H.but hk hf)) fun W9 hk B => ?_)
       refine wpTill_done (by kernel_rfl) ?_ _
       simp only [Act.put, CL]
       exact KEY _ Y M us ⟨H.but hk hf, B, J.butq hk, hf⟩
     ·intro Y W9 hY hb HZ
      have hf := H.fresh hY
      have H := H.grow hY hb HZ
      replace s0 : ∀ W, Fq w N (askA a Af cf Ao co Aa ca) 38 (Y :: ([] : List Nat)) ([] : List (Nat × Js.J)) W → (fun W => W.heap[N]? = some (.cells (askA a Af cf Ao co Aa ca) 38 (0, 0))) W := fun _ h => h.fr.arg
      rename World => W
      refine till1 22 rfl (stepL 61 #[.int .i64 a.sLocal] (number_leaf a.sLocal W) (nx_and nx_fq nx_blk) ⟨H, HZ⟩ (fun _ h => s0 _ h.1) ?_)
      rintro W ⟨H, HZ⟩
      refine takeP 23 (.iface 25 (.agg (nL a.sLocal).toArray)) rfl (s0 _ H) ?_
      refine till1 28 rfl (stepL 60 #[.string (str a.sFile)] (text_leaf (str a.sFile) W) (nx_and nx_fq nx_blk) ⟨H, HZ⟩ (fun _ h => s0 _ h.1) ?_)
      rintro W ⟨H, HZ⟩
      refine takeP 29 (.iface 25 (.agg (tL a.sFile).toArray)) rfl (s0 _ H) ?_
      refine till1 30 rfl (stepB 10 (anyCells (symLL a)).toArray rfl rfl (nx_and nx_fq nx_blk) ⟨H, HZ⟩ (fun _ h => s0 _ h.1) ?_)
      rintro M W ⟨H, HZ⟩ Q
      refine till1 31 rfl (stepC 59 #[.slice (some ⟨M, 0, none⟩) 10 10] (object_L (symLL a) (NB N (Y :: ([] : List Nat))) W M 10 10 Q (sym_jv a) H.new rfl (Nat.le_of_ble_eq_true rfl)) ?_)
      rintro e W9 ⟨hb, us, rfl, J⟩
      obtain ⟨H, HZ⟩ := (nx_and nx_fq nx_blk) _ _ (show (fun W => _ ∧ _) W from ⟨H, HZ⟩) hb
      refine ⟨_, rfl, s0 _ H, ?_⟩
      rename World => W
      refine till1 33 rfl (stepS 25 Y #[.int .i64 0, .bool false, .int .i64 0, .string ⟨#[]⟩, .slice none 0 0, .slice none 0 0] us.toArray rfl HZ (by simp [J.len]) (by rw [info25s]; simp [J.len]) (by simpa using J.one) (fun _ hk => s0 _ (H.but hk hf)) fun W9 hk B => ?_)
      refine wpTill_done (by kernel_rfl) ?_ _
      simp only [Act.put, CL]
      exact KEY _ Y M us ⟨H.but hk hf, B, J.butq hk, hf⟩
    ·intro Y W9 hY hb HZ
     have hf := H.fresh hY
     have H := H.grow hY hb HZ
     replace s0 : ∀ W, Fq w N (askA a Af cf Ao co Aa ca) 38 (Y :: ([] : List Nat)) ([] : List (Nat × Js.J)) W → (fun W => W.heap[N]? = some (.cells (askA a Af cf Ao co Aa ca) 38 (0, 0))) W := fun _ h => h.fr.arg
     rename World => W
     refine till1 16 rfl (stepL 60 #[.string (str a.sName)] (text_leaf (str a.sName) W) (nx_and nx_fq nx_blk) ⟨H, HZ⟩ (fun _ h => s0 _ h.1) ?_)
     rintro W ⟨H, HZ⟩
     refine takeP 17 (.iface 25 (.agg (tL a.sName).toArray)) rfl (s0 _ H) ?_
     refine till1 22 rfl (stepL 61 #[.int .i64 a.sLocal] (number_leaf a.sLocal W) (nx_and nx_fq nx_blk) ⟨H, HZ⟩ (fun _ h => s0 _ h.1) ?_)
     rintro W ⟨H, HZ⟩
     refine takeP 23 (.iface 25 (.agg (nL a.sLocal).toArray)) rfl (s0 _ H) ?_
     refine till1 28 rfl (stepL 60 #[.string (str a.sFile)] (text_leaf (str a.sFile) W) (nx_and nx_fq nx_blk) ⟨H, HZ⟩ (fun _ h => s0 _ h.1) ?_)
     rintro W ⟨H, HZ⟩
     refine takeP 29 (.iface 25 (.agg (tL a.sFile).toArray)) rfl (s0 _ H) ?_
     refine till1 30 rfl (stepB 10 (anyCells (symLL a)).toArray rfl rfl (nx_and nx_fq nx_blk) ⟨H, HZ⟩ (fun _ h => s0 _ h.1) ?_)
     rintro M W ⟨H, HZ⟩ Q
     refine till1 31 rfl (stepC 59 #[.slice (some ⟨M, 0, none⟩) 10 10] (object_L (symLL a) (NB N (Y :: ([] : List Nat))) W M 10 10 Q (sym_jv a) H.new rfl (Nat.le_of_ble_eq_true rfl)) ?_)
     rintro e W9 ⟨hb, us, rfl, J⟩
     obtain ⟨H, HZ⟩ := (nx_and nx_fq nx_blk) _ _ (show (fun W => _ ∧ _) W from ⟨H, HZ⟩) hb
     refine ⟨_, rfl, s0 _ H, ?_⟩
     rename World => W
     refine till1 33 rfl (stepS 25 Y #[.int .i64 0, .bool false, .int .i64 0, .string ⟨#[]⟩, .slice none 0 0, .slice none 0 0] us.toArray rfl HZ (by simp [J.len]) (by rw [info25s]; simp [J.len]) (by simpa using J.one) (fun _ hk => s0 _ (H.but hk hf)) fun W9 hk B => ?_)
     refine wpTill_done (by kernel_rfl) ?_ _
     simp only [Act.put, CL]
     exact KEY _ Y M us ⟨H.but hk hf, B, J.butq hk, hf⟩
   ·intro Y W9 hY hb HZ
    have hf := H.fresh hY
    have H := H.grow hY hb HZ
    replace s0 : ∀ W, Fq w N (askA a Af cf Ao co Aa ca) 38 (Y :: ([] : List Nat)) ([] : List (Nat × Js.J)) W → (fun W => W.heap[N]? = some (.cells (askA a Af cf Ao co Aa ca) 38 (0, 0))) W := fun _ h => h.fr.arg
    rename World => W
    refine till1 10 rfl (stepL 60 #[.string (str a.sStruct)] (text_leaf (str a.sStruct) W) (nx_and nx_fq nx_blk) ⟨H, HZ⟩ (fun _ h => s0 _ h.1) ?_)
    rintro W ⟨H, HZ⟩
    refine takeP 11 (.iface 25 (.agg (tL a.sStruct).toArray)) rfl (s0 _ H) ?_
    refine till1 16 rfl (stepL 60 #[.string (str a.sName)] (text_leaf (str a.sName) W) (nx_and nx_fq nx_blk) ⟨H, HZ⟩ (fun _ h => s0 _ h.1) ?_)
    rintro W ⟨H, HZ⟩
    refine takeP 17 (.iface 25 (.agg (tL a.sName).toArray)) rfl (s0 _ H) ?_
    refine till1 22 rfl (stepL 61 #[.int .i64 a.sLocal] (number_leaf a.sLocal W) (nx_and nx_fq nx_blk) ⟨H, HZ⟩ (fun _ h => s0 _ h.1) ?_)
    rintro W ⟨H, HZ⟩
    refine takeP 23 (.iface 25 (.agg (nL a.sLocal).toArray)) rfl (s0 _ H) ?_
    refine till1 28 rfl (stepL 60 #[.string (str a.sFile)] (text_leaf (str a.sFile) W) (nx_and nx_fq nx_blk) ⟨H, HZ⟩ (fun _ h => s0 _ h.1) ?_)
    rintro W ⟨H, HZ⟩
    refine takeP 29 (.iface 25 (.agg (tL a.sFile).toArray)) rfl (s0 _ H) ?_
    refine till1 30 rfl (stepB 10 (anyCells (symLL a)).toArray rfl rfl (nx_and nx_fq nx_blk) ⟨H, HZ⟩ (fun _ h => s0 _ h.1) ?_)
    rintro M W ⟨H, HZ⟩ Q
    refine till1 31 rfl (stepC 59 #[.slice (some ⟨M, 0, none⟩) 10 10] (object_L (symLL a) (NB N (Y :: ([] : List Nat))) W M 10 10 Q (sym_jv a) H.new rfl (Nat.le_of_ble_eq_true rfl)) ?_)
    rintro e W9 ⟨hb, us, rfl, J⟩
    obtain ⟨H, HZ⟩ := (nx_and nx_fq nx_blk) _ _ (show (fun W => _ ∧ _) W from ⟨H, HZ⟩) hb
    refine ⟨_, rfl, s0 _ H, ?_⟩
    rename World => W
    refine till1 33 rfl (stepS 25 Y #[.int .i64 0, .bool false, .int .i64 0, .string ⟨#[]⟩, .slice none 0 0, .slice none 0 0] us.toArray rfl HZ (by simp [J.len]) (by rw [info25s]; simp [J.len]) (by simpa using J.one) (fun _ hk => s0 _ (H.but hk hf)) fun W9 hk B => ?_)
    refine wpTill_done (by kernel_rfl) ?_ _
    simp only [Act.put, CL]
    exact KEY _ Y M us ⟨H.but hk hf, B, J.butq hk, hf⟩
  ·intro Y W9 hY hb HZ
   have hf := H.fresh hY
   have H := H.grow hY hb HZ
   replace s0 : ∀ W, Fq w N (askA a Af cf Ao co Aa ca) 38 (Y :: ([] : List Nat)) ([] : List (Nat × Js.J)) W → (fun W => W.heap[N]? = some (.cells (askA a Af cf Ao co Aa ca) 38 (0, 0))) W := fun _ h => h.fr.arg
   rename World => W
   refine till1 4 rfl (stepL 60 #[.string (str a.sFolder)] (text_leaf (str a.sFolder) W) (nx_and nx_fq nx_blk) ⟨H, HZ⟩ (fun _ h => s0 _ h.1) ?_)
   rintro W ⟨H, HZ⟩
   refine takeP 5 (.iface 25 (.agg (tL a.sFolder).toArray)) rfl (s0 _ H) ?_
   refine till1 10 rfl (stepL 60 #[.string (str a.sStruct)] (text_leaf (str a.sStruct) W) (nx_and nx_fq nx_blk) ⟨H, HZ⟩ (fun _ h => s0 _ h.1) ?_)
   rintro W ⟨H, HZ⟩
   refine takeP 11 (.iface 25 (.agg (tL a.sStruct).toArray)) rfl (s0 _ H) ?_
   refine till1 16 rfl (stepL 60 #[.string (str a.sName)] (text_leaf (str a.sName) W) (nx_and nx_fq nx_blk) ⟨H, HZ⟩ (fun _ h => s0 _ h.1) ?_)
   rintro W ⟨H, HZ⟩
   refine takeP 17 (.iface 25 (.agg (tL a.sName).toArray)) rfl (s0 _ H) ?_
   refine till1 22 rfl (stepL 61 #[.int .i64 a.sLocal] (number_leaf a.sLocal W) (nx_and nx_fq nx_blk) ⟨H, HZ⟩ (fun _ h => s0 _ h.1) ?_)
   rintro W ⟨H, HZ⟩
   refine takeP 23 (.iface 25 (.agg (nL a.sLocal).toArray)) rfl (s0 _ H) ?_
   refine till1 28 rfl (stepL 60 #[.string (str a.sFile)] (text_leaf (str a.sFile) W) (nx_and nx_fq nx_blk) ⟨H, HZ⟩ (fun _ h => s0 _ h.1) ?_)
   rintro W ⟨H, HZ⟩
   refine takeP 29 (.iface 25 (.agg (tL a.sFile).toArray)) rfl (s0 _ H) ?_
   refine till1 30 rfl (stepB 10 (anyCells (symLL a)).toArray rfl rfl (nx_and nx_fq nx_blk) ⟨H, HZ⟩ (fun _ h => s0 _ h.1) ?_)
   rintro M W ⟨H, HZ⟩ Q
   refine till1 31 rfl (stepC 59 #[.slice (some ⟨M, 0, none⟩) 10 10] (object_L (symLL a) (NB N (Y :: ([] : List Nat))) W M 10 10 Q (sym_jv a) H.new rfl (Nat.le_of_ble_eq_true rfl)) ?_)
   rintro e W9 ⟨hb, us, rfl, J⟩
   obtain ⟨H, HZ⟩ := (nx_and nx_fq nx_blk) _ _ (show (fun W => _ ∧ _) W from ⟨H, HZ⟩) hb
   refine ⟨_, rfl, s0 _ H, ?_⟩
   rename World => W
   refine till1 33 rfl (stepS 25 Y #[.int .i64 0, .bool false, .int .i64 0, .string ⟨#[]⟩, .slice none 0 0, .slice none 0 0] us.toArray rfl HZ (by simp [J.len]) (by rw [info25s]; simp [J.len]) (by simpa using J.one) (fun _ hk => s0 _ (H.but hk hf)) fun W9 hk B => ?_)
   refine wpTill_done (by kernel_rfl) ?_ _
   simp only [Act.put, CL]
   exact KEY _ Y M us ⟨H.but hk hf, B, J.butq hk, hf⟩
 case key =>
 rintro wa Y3 M1 us3 ⟨f1, f2, f3, f4⟩
 clear H0
 have H0 := Lib.hid (f1.push f4.1 f2 f3)
 have HY3 := Lib.hid f4
 clear f1 f2 f3 f4
 go_wp2_with fail
 apply shared4 (F := fun W Y M us => Fq w N (askA a Af cf Ao co Aa ca) 38 (Y :: (Y3 :: ([] : List Nat))) ((Y3, jSym a) :: ([] : List (Nat × Js.J))) W ∧ W.heap[Y]? = some (.cells us.toArray 25 (0, 0)) ∧ JV W (NB N (Y :: (Y3 :: ([] : List Nat)))) (jParam a) us ∧ (N + 2 ≤ Y ∧ Y ∉ (((Y3, jSym a) :: ([] : List (Nat × Js.J))) : List (Nat × Js.J)).map (·.1)))
 case tree =>
  have H : Fq w N (askA a Af cf Ao co Aa ca) 38 (Y3 :: ([] : List Nat)) ((Y3, jSym a) :: ([] : List (Nat × Js.J))) wa := H0.out
  have s0 : ∀ W, Fq w N (askA a Af cf Ao co Aa ca) 38 (Y3 :: ([] : List Nat)) ((Y3, jSym a) :: ([] : List (Nat × Js.J))) W → (fun W => W.heap[N]? = some (.cells (askA a Af cf Ao co Aa ca) 38 (0, 0))) W := fun _ h => h.fr.arg
  intro KEY
  refine region_till (S := fun W => W.heap[N]? = some (.cells (askA a Af cf Ao co Aa ca) 38 (0, 0))) 28 rfl nx_fq H s0 fun W H sh => ?_
  refine takeQ 0 (v := .iface 9 (.string (str [97, 116]))) rfl (s0 _ H) sh fun sh => ?_
  refine takeQ 1 (v := .pointer (some ⟨N, 45, none⟩)) rfl (s0 _ H) sh fun sh => ?_
  refine takeQ 2 (v := .pointer (some ⟨N, 45, none⟩)) rfl (s0 _ H) sh fun sh => ?_
  refine takeV 3 N 45 (.int .i64 a.pAt) rfl rfl rfl rfl (fun W hS => (blk_cells hS 45).trans rfl) (s0 _ H) sh fun sh => ?_
  refine takeQ 6 (v := .iface 9 (.string (str [110, 97, 109, 101]))) rfl (s0 _ H) sh fun sh => ?_
  refine takeQ 7 (v := .pointer (some ⟨N, 45, none⟩)) rfl (s0 _ H) sh fun sh => ?_
  refine takeQ 8 (v := .pointer (some ⟨N, 46, none⟩)) rfl (s0 _ H) sh fun sh => ?_
  refine takeV 9 N 46 (.string (str a.pName)) rfl rfl rfl rfl (fun W hS => (blk_cells hS 46).trans rfl) (s0 _ H) sh fun sh => ?_
  refine takeQ 12 (v := .iface 9 (.string (str [116, 121, 112, 101]))) rfl (s0 _ H) sh fun sh => ?_
  refine takeQ 13 (v := .pointer (some ⟨N, 45, none⟩)) rfl (s0 _ H) sh fun sh => ?_
  refine takeQ 14 (v := .pointer (some ⟨N, 47, none⟩)) rfl (s0 _ H) sh fun sh => ?_
  refine takeV 15 N 47 (.string (str a.pType)) rfl rfl rfl rfl (fun W hS => (blk_cells hS 47).trans rfl) (s0 _ H) sh fun sh => ?_
  refine takeQ 18 (v := .iface 9 (.string (str [118, 97, 108, 117, 101]))) rfl (s0 _ H) sh fun sh => ?_
  refine takeQ 19 (v := .pointer (some ⟨N, 45, none⟩)) rfl (s0 _ H) sh fun sh => ?_
  refine takeQ 20 (v := .pointer (some ⟨N, 48, none⟩)) rfl (s0 _ H) sh fun sh => ?_
  refine takeV 21 N 48 (.string (str a.pValue)) rfl rfl rfl rfl (fun W hS => (blk_cells hS 48).trans rfl) (s0 _ H) sh fun sh => ?_
  refine till2 4 26 rfl rfl (stepL 61 #[.int .i64 a.pAt] (number_leaf a.pAt W) nx_fq H s0 ?_) (stepN 25 #[.int .i64 0, .bool false, .int .i64 0, .string ⟨#[]⟩, .slice none 0 0, .slice none 0 0] (fun W9 hb => s0 _ (H.next hb)) ?_)
  ·rintro W H
   refine takeP 5 (.iface 25 (.agg (nL a.pAt).toArray)) rfl (s0 _ H) ?_
   refine till2 10 26 rfl rfl (stepL 60 #[.string (str a.pName)] (text_leaf (str a.pName) W) nx_fq H s0 ?_) (stepN 25 #[.int .i64 0, .bool false, .int .i64 0, .string ⟨#[]⟩, .slice none 0 0, .slice none 0 0] (fun W9 hb => s0 _ (H.next hb)) ?_)
   ·rintro W H
    refine takeP 11 (.iface 25 (.agg (tL a.pName).toArray)) rfl (s0 _ H) ?_
    refine till2 16 26 rfl rfl (stepL 60 #[.string (str a.pType)] (text_leaf (str a.pType) W) nx_fq H s0 ?_) (stepN 25 #[.int .i64 0, .bool false, .int .i64 0, .string ⟨#[]⟩, .slice none 0 0, .slice none 0 0] (fun W9 hb => s0 _ (H.next hb)) ?_)
    ·rintro W H
     refine takeP 17 (.iface 25 (.agg (tL a.pType).toArray)) rfl (s0 _ H) ?_
     refine till2 22 26 rfl rfl (stepL 60 #[.string (str a.pValue)] (text_leaf (str a.pValue) W) nx_fq H s0 ?_) (stepN 25 #[.int .i64 0, .bool false, .int .i64 0, .string ⟨#[]⟩, .slice none 0 0, .slice none 0 0] (fun W9 hb => s0 _ (H.next hb)) ?_)
     ·rintro W H
      refine takeP 23 (.iface 25 (.agg (tL a.pValue).toArray)) rfl (s0 _ H) ?_
      refine till2 24 26 rfl rfl (stepB 8 (anyCells (parLL a)).toArray rfl rfl nx_fq H s0 ?_) (stepN 25 #[.int .i64 0, .bool false, .int .i64 0, .string ⟨#[]⟩, .slice none 0 0, .slice none 0 0] (fun W9 hb => s0 _ (H.next hb)) ?_)
      ·rintro M W H Q
       refine till2 25 26 rfl rfl (stepC 59 #[.slice (some ⟨M, 0, none⟩) 8 8] (object_L (parLL a) (NB N (Y3 :: ([] : List Nat))) W M 8 8 Q (par_jv a) H.new rfl (Nat.le_of_ble_eq_true rfl)) ?_) (stepN 25 #[.int .i64 0, .bool false, .int .i64 0, .string ⟨#[]⟩, .slice none 0 0, .slice none 0 0] (fun W9 hb => s0 _ (H.next hb)) ?_)
       ·rintro e W9 ⟨hb, us, rfl, J⟩
        replace H := nx_fq _ _ H hb
        refine ⟨_, rfl, s0 _ H, ?_⟩
        rename World => W
        refine till1 26 rfl (stepN 25 #[.int .i64 0, .bool false, .int .i64 0, .string ⟨#[]⟩, .slice none 0 0, .slice none 0 0] (fun W9 hb => s0 _ (H.next hb)) ?_)
        intro Y W9 hY hb HZ
        have hf := H.fresh hY
        have H := H.grow hY hb HZ
        replace J := J.grow hY hb
        replace s0 : ∀ W, Fq w N (askA a Af cf Ao co Aa ca) 38 (Y :: (Y3 :: ([] : List Nat))) ((Y3, jSym a) :: ([] : List (Nat × Js.J))) W → (fun W => W.heap[N]? = some (.cells (askA a Af cf Ao co Aa ca) 38 (0, 0))) W := fun _ h => h.fr.arg
        rename World => W
        refine till1 27 rfl (stepS 25 Y #[.int .i64 0, .bool false, .int .i64 0, .string ⟨#[]⟩, .slice none 0 0, .slice none 0 0] us.toArray rfl HZ (by simp [J.len]) (by rw [info25s]; simp [J.len]) (by simpa using J.one) (fun _ hk => s0 _ (H.but hk hf)) fun W9 hk B => ?_)
        refine wpTill_done (by kernel_rfl) ?_ _
        simp only [Act.put, CL]
        exact KEY _ Y M us ⟨H.but hk hf, B, J.butq hk, hf⟩
       ·intro Y W9 hY hb HZ
        have hf := H.fresh hY
        have H := H.grow hY hb HZ
        replace Q := blk_next hb Q
        replace s0 : ∀ W, Fq w N (askA a Af cf Ao co Aa ca) 38 (Y :: (Y3 :: ([] : List Nat))) ((Y3, jSym a) :: ([] : List (Nat × Js.J))) W → (fun W => W.heap[N]? = some (.cells (askA a Af cf Ao co Aa ca) 38 (0, 0))) W := fun _ h => h.fr.arg
        rename World => W
        refine till1 25 rfl (stepC 59 #[.slice (some ⟨M, 0, none⟩) 8 8] (object_L (parLL a) (NB N (Y :: (Y3 :: ([] : List Nat)))) W M 8 8 Q (par_jv a) H.new rfl (Nat.le_of_ble_eq_true rfl)) ?_)
        rintro e W9 ⟨hb, us, rfl, J⟩
        obtain ⟨H, HZ⟩ := (nx_and nx_fq nx_blk) _ _ (show (fun W => _ ∧ _) W from ⟨H, HZ⟩) hb
        refine ⟨_, rfl, s0 _ H, ?_⟩
        rename World => W
        refine till1 27 rfl (stepS 25 Y #[.int .i64 0, .bool false, .int .i64 0, .string ⟨#[]⟩, .slice none 0 0, .slice none 0 0] us.toArray rfl HZ (by simp [J.len]) (by rw [info25s]; simp [J.len]) (by simpa using J.one) (fun _ hk => s0 _ (H.but hk hf)) fun W9 hk B => ?_)
        refine wpTill_done (by kernel_rfl) ?_ _
        simp only [Act.put, CL]
        exact KEY _ Y M us ⟨H.but hk hf, B, J.butq hk, hf⟩
      ·intro Y W9 hY hb HZ
       have hf := H.fresh hY
       have H := H.grow hY hb HZ
       replace s0 : ∀ W, Fq w N (askA a Af cf Ao co Aa ca) 38 (Y :: (Y3 :: ([] : List Nat))) ((Y3, jSym a) :: ([] : List (Nat × Js.J))) W → (fun W => W.heap[N]? = some (.cells (askA a Af cf Ao co Aa ca) 38 (0, 0))) W := fun _ h => h.fr.arg
       rename World => W
       refine till1 24 rfl (stepB 8 (anyCells (parLL a)).toArray rfl rfl (nx_and nx_fq nx_blk) ⟨H, HZ⟩ (fun _ h => s0 _ h.1) ?_)
       rintro M W ⟨H, HZ⟩ Q
       refine till1 25 rfl (stepC 59 #[.slice (some ⟨M, 0, none⟩) 8 8] (object_L (parLL a) (NB N (Y :: (Y3 :: ([] : List Nat)))) W M 8 8 Q (par_jv a) H.new rfl (Nat.le_of_ble_eq_true rfl)) ?_)
       rintro e W9 ⟨hb, us, rfl, J⟩
       obtain ⟨H, HZ⟩ := (nx_and nx_fq nx_blk) _ _ (show (fun W => _ ∧ _) W from ⟨H, HZ⟩) hb
       refine ⟨_, rfl, s0 _ H, ?_⟩
       rename World => W
       refine till1 27 rfl (stepS 25 Y #[.int .i64 0, .bool false, .int .i64 0, .string ⟨#[]⟩, .slice none 0 0, .slice none 0 0] us.toArray rfl HZ (by simp [J.len]) (by rw [info25s]; simp [J.len]) (by simpa using J.one) (fun _ hk => s0 _ (H.but hk hf)) fun W9 hk B => ?_)
       refine wpTill_done (by kernel_rfl) ?_ _
       simp only [Act.put, CL]
       exact KEY _ Y M us ⟨H.but hk hf, B, J.butq hk, hf⟩
     ·intro Y W9 hY hb HZ
      have hf := H.fresh hY
      have H := H.grow hY hb HZ
      replace s0 : ∀ W, Fq w N (askA a Af cf Ao co Aa ca) 38 (Y :: (Y3 :: ([] : List Nat))) ((Y3, jSym a) :: ([] : List (Nat × Js.J))) W → (fun W => W.heap[N]? = some (.cells (askA a Af cf Ao co Aa ca) 38 (0, 0))) W := fun _ h => h.fr.arg
      rename World => W
      refine till1 22 rfl (stepL 60 #[.string (str a.pValue)] (text_leaf (str a.pValue) W) (nx_and nx_fq nx_blk) ⟨H, HZ⟩ (fun _ h => s0 _ h.1) ?_)
      rintro W ⟨H, HZ⟩
      refine takeP 23 (.iface 25 (.agg (tL a.pValue).toArray)) rfl (s0 _ H) ?_
      refine till1 24 rfl (stepB 8 (anyCells (parLL a)).toArray rfl rfl (nx_and nx_fq nx_blk) ⟨H, HZ⟩ (fun _ h => s0 _ h.1) ?_)
      rintro M W ⟨H, HZ⟩ Q
      refine till1 25 rfl (stepC 59 #[.slice (some ⟨M, 0, none⟩) 8 8] (object_L (parLL a) (NB N (Y :: (Y3 :: ([] : List Nat)))) W M 8 8 Q (par_jv a) H.new rfl (Nat.le_of_ble_eq_true rfl)) ?_)
      rintro e W9 ⟨hb, us, rfl, J⟩
      obtain ⟨H, HZ⟩ := (nx_and nx_fq nx_blk) _ _ (show (fun W => _ ∧ _) W from ⟨H, HZ⟩) hb
      refine ⟨_, rfl, s0 _ H, ?_⟩
      rename World => W
      refine till1 27 rfl (stepS 25 Y #[.int .i64 0, .bool false, .int .i64 0, .string ⟨#[]⟩, .slice none 0 0, .slice none 0 0] us.toArray rfl HZ (by simp [J.len]) (by rw [info25s]; simp [J.len]) (by simpa using J.one) (fun _ hk => s0 _ (H.but hk hf)) fun W9 hk B => ?_)
      refine wpTill_done (by kernel_rfl) ?_ _
      simp only [Act.put, CL]
      exact KEY _ Y M us ⟨H.but hk hf, B, J.butq hk, hf⟩
    ·intro Y W9 hY hb HZ
     have hf := H.fresh hY
     have H := H.grow hY hb HZ
     replace s0 : ∀ W, Fq w N (askA a Af cf Ao co Aa ca) 38 (Y :: (Y3 :: ([] : List Nat))) ((Y3, jSym a) :: ([] : List (Nat × Js.J))) W → (fun W => W.heap[N]? = some (.cells (askA a Af cf Ao co Aa ca) 38 (0, 0))) W := fun _ h => h.fr.arg
     rename World => W
     refine till1 16 rfl (stepL 60 #[.string (str a.pType)] (text_leaf (str a.pType) W) (nx_and nx_fq nx_blk) ⟨H, HZ⟩ (fun _ h => s0 _ h.1) ?_)
     rintro W ⟨H, HZ⟩
     refine takeP 17 (.iface 25 (.agg (tL a.pType).toArray)) rfl (s0 _ H) ?_
     refine till1 22 rfl (stepL 60 #[.string (str a.pValue)] (text_leaf (str a.pValue) W) (nx_and nx_fq nx_blk) ⟨H, HZ⟩ (fun _ h => s0 _ h.1) ?_)
     rintro W ⟨H, HZ⟩
     refine takeP 23 (.iface 25 (.agg (tL a.pValue).toArray)) rfl (s0 _ H) ?_
     refine till1 24 rfl (stepB 8 (anyCells (parLL a)).toArray rfl rfl (nx_and nx_fq nx_blk) ⟨H, HZ⟩ (fun _ h => s0 _ h.1) ?_)
     rintro M W ⟨H, HZ⟩ Q
     refine till1 25 rfl (stepC 59 #[.slice (some ⟨M, 0, none⟩) 8 8] (object_L (parLL a) (NB N (Y :: (Y3 :: ([] : List Nat)))) W M 8 8 Q (par_jv a) H.new rfl (Nat.le_of_ble_eq_true rfl)) ?_)
     rintro e W9 ⟨hb, us, rfl, J⟩
     obtain ⟨H, HZ⟩ := (nx_and nx_fq nx_blk) _ _ (show (fun W => _ ∧ _) W from ⟨H, HZ⟩) hb
     refine ⟨_, rfl, s0 _ H, ?_⟩
     rename World => W
     refine till1 27 rfl (stepS 25 Y #[.int .i64 0, .bool false, .int .i64 0, .string ⟨#[]⟩, .slice none 0 0, .slice none 0 0] us.toArray rfl HZ (by simp [J.len]) (by rw [info25s]; simp [J.len]) (by simpa using J.one) (fun _ hk => s0 _ (H.but hk hf)) fun W9 hk B => ?_)
     refine wpTill_done (by kernel_rfl) ?_ _
     simp only [Act.put, CL]
     exact KEY _ Y M us ⟨H.but hk hf, B, J.butq hk, hf⟩
   ·intro Y W9 hY hb HZ
    have hf := H.fresh hY
    have H := H.grow hY hb HZ
    replace s0 : ∀ W, Fq w N (askA a Af cf Ao co Aa ca) 38 (Y :: (Y3 :: ([] : List Nat))) ((Y3, jSym a) :: ([] : List (Nat × Js.J))) W → (fun W => W.heap[N]? = some (.cells (askA a Af cf Ao co Aa ca) 38 (0, 0))) W := fun _ h => h.fr.arg
    rename World => W
    refine till1 10 rfl (stepL 60 #[.string (str a.pName)] (text_leaf (str a.pName) W) (nx_and nx_fq nx_blk) ⟨H, HZ⟩ (fun _ h => s0 _ h.1) ?_)
    rintro W ⟨H, HZ⟩
    refine takeP 11 (.iface 25 (.agg (tL a.pName).toArray)) rfl (s0 _ H) ?_
    refine till1 16 rfl (stepL 60 #[.string (str a.pType)] (text_leaf (str a.pType) W) (nx_and nx_fq nx_blk) ⟨H, HZ⟩ (fun _ h => s0 _ h.1) ?_)
    rintro W ⟨H, HZ⟩
    refine takeP 17 (.iface 25 (.agg (tL a.pType).toArray)) rfl (s0 _ H) ?_
    refine till1 22 rfl (stepL 60 #[.string (str a.pValue)] (text_leaf (str a.pValue) W) (nx_and nx_fq nx_blk) ⟨H, HZ⟩ (fun _ h => s0 _ h.1) ?_)
    rintro W ⟨H, HZ⟩
    refine takeP 23 (.iface 25 (.agg (tL a.pValue).toArray)) rfl (s0 _ H) ?_
    refine till1 24 rfl (stepB 8 (anyCells (parLL a)).toArray rfl rfl (nx_and nx_fq nx_blk) ⟨H, HZ⟩ (fun _ h => s0 _ h.1) ?_)
    rintro M W ⟨H, HZ⟩ Q
    refine till1 25 rfl (stepC 59 #[.slice (some ⟨M, 0, none⟩) 8 8] (object_L (parLL a) (NB N (Y :: (Y3 :: ([] : List Nat)))) W M 8 8 Q (par_jv a) H.new rfl (Nat.le_of_ble_eq_true rfl)) ?_)
    rintro e W9 ⟨hb, us, rfl, J⟩
    obtain ⟨H, HZ⟩ := (nx_and nx_fq nx_blk) _ _ (show (fun W => _ ∧ _) W from ⟨H, HZ⟩) hb
    refine ⟨_, rfl, s0 _ H, ?_⟩
    rename World => W
    refine till1 27 rfl (stepS 25 Y #[.int .i64 0, .bool false, .int .i64 0, .string ⟨#[]⟩, .slice none 0 0, .slice none 0 0] us.toArray rfl HZ (by simp [J.len]) (by rw [info25s]; simp [J.len]) (by simpa using J.one) (fun _ hk => s0 _ (H.but hk hf)) fun W9 hk B => ?_)
    refine wpTill_done (by kernel_rfl) ?_ _
    simp only [Act.put, CL]
    exact KEY _ Y M us ⟨H.but hk hf, B, J.butq hk, hf⟩
  ·intro Y W9 hY hb HZ
   have hf := H.fresh hY
   have H := H.grow hY hb HZ
   replace s0 : ∀ W, Fq w N (askA a Af cf Ao co Aa ca) 38 (Y :: (Y3 :: ([] : List Nat))) ((Y3, jSym a) :: ([] : List (Nat × Js.J))) W → (fun W => W.heap[N]? = some (.cells (askA a Af cf Ao co Aa ca) 38 (0, 0))) W := fun _ h => h.fr.arg
   rename World => W
   refine till1 4 rfl (stepL 61 #[.int .i64 a.pAt] (number_leaf a.pAt W) (nx_and nx_fq nx_blk) ⟨H, HZ⟩ (fun _ h => s0 _ h.1) ?_)
   rintro W ⟨H, HZ⟩
   refine takeP 5 (.iface 25 (.agg (nL a.pAt).toArray)) rfl (s0 _ H) ?_
   refine till1 10 rfl (stepL 60 #[.string (str a.pName)] (text_leaf (str a.pName) W) (nx_and nx_fq nx_blk) ⟨H, HZ⟩ (fun _ h => s0 _ h.1) ?_)
   rintro W ⟨H, HZ⟩
   refine takeP 11 (.iface 25 (.agg (tL a.pName).toArray)) rfl (s0 _ H) ?_
   refine till1 16 rfl (stepL 60 #[.string (str a.pType)] (text_leaf (str a.pType) W) (nx_and nx_fq nx_blk) ⟨H, HZ⟩ (fun _ h => s0 _ h.1) ?_)
   rintro W ⟨H, HZ⟩
   refine takeP 17 (.iface 25 (.agg (tL a.pType).toArray)) rfl (s0 _ H) ?_
   refine till1 22 rfl (stepL 60 #[.string (str a.pValue)] (text_leaf (str a.pValue) W) (nx_and nx_fq nx_blk) ⟨H, HZ⟩ (fun _ h => s0 _ h.1) ?_)
   rintro W ⟨H, HZ⟩
   refine takeP 23 (.iface 25 (.agg (tL a.pValue).toArray)) rfl (s0 _ H) ?_
   refine till1 24 rfl (stepB 8 (anyCells (parLL a)).toArray rfl rfl (nx_and nx_fq nx_blk) ⟨H, HZ⟩ (fun _ h => s0 _ h.1) ?_)
   rintro M W ⟨H, HZ⟩ Q
   refine till1 25 rfl (stepC 59 #[.slice (some ⟨M, 0, none⟩) 8 8] (object_L (parLL a) (NB N (Y :: (Y3 :: ([] : List Nat)))) W M 8 8 Q (par_jv a) H.new rfl (Nat.le_of_ble_eq_true rfl)) ?_)
   rintro e W9 ⟨hb, us, rfl, J⟩
   obtain ⟨H, HZ⟩ := (nx_and nx_fq nx_blk) _ _ (show (fun W => _ ∧ _) W from ⟨H, HZ⟩) hb
   refine ⟨_, rfl, s0 _ H, ?_⟩
   rename World => W
   refine till1 27 rfl (stepS 25 Y #[.int .i64 0, .bool false, .int .i64 0, .string ⟨#[]⟩, .slice none 0 0, .slice none 0 0] us.toArray rfl HZ (by simp [J.len]) (by rw [info25s]; simp [J.len]) (by simpa using J.one) (fun _ hk => s0 _ (H.but hk hf)) fun W9 hk B => ?_)
   refine wpTill_done (by kernel_rfl) ?_ _
   simp only [Act.put, CL]
   exact KEY _ Y M us ⟨H.but hk hf, B, J.butq hk, hf⟩
 case key =>
 rintro wb Y4 M2 us4 ⟨f1, f2, f3, f4⟩
 clear H0
 have H0 := Lib.hid (f1.push f4.1 f2 f3)
 have HY4 := Lib.hid f4
 clear f1 f2 f3 f4
 go_wp2_with fail
 obtain ⟨-, vb0, B0, J0⟩ := H0.out.fr.box (Y3, jSym a) (by simp)
 obtain ⟨-, vb1, B1, J1⟩ := H0.out.fr.box (Y4, jParam a) (by simp)
 have hl0 := J0.len
 have hl1 := J1.len
 have H : Fq w N (askA a Af cf Ao co Aa ca) 38 (Y4 :: (Y3 :: ([] : List Nat))) ((Y4, jParam a) :: ((Y3, jSym a) :: ([] : List (Nat × Js.J)))) wb ∧ wb.heap[Y3]? = some (.cells vb0.toArray 25 (0, 0)) ∧ wb.heap[Y4]? = some (.cells vb1.toArray 25 (0, 0)) ∧ JV wb (NB N (Y4 :: (Y3 :: ([] : List Nat)))) (jSym a) vb0 ∧ JV wb (NB N (Y4 :: (Y3 :: ([] : List Nat)))) (jParam a) vb1 := ⟨H0.out, B0, B1, J0, J1⟩
 have s0 : ∀ W, Fq w N (askA a Af cf Ao co Aa ca) 38 (Y4 :: (Y3 :: ([] : List Nat))) ((Y4, jParam a) :: ((Y3, jSym a) :: ([] : List (Nat × Js.J)))) W ∧ W.heap[Y3]? = some (.cells vb0.toArray 25 (0, 0)) ∧ W.heap[Y4]? = some (.cells vb1.toArray 25 (0, 0)) ∧ JV W (NB N (Y4 :: (Y3 :: ([] : List Nat)))) (jSym a) vb0 ∧ JV W (NB N (Y4 :: (Y3 :: ([] : List Nat)))) (jParam a) vb1 → (fun W => W.heap[N]? = some (.cells (askA a Af cf Ao co Aa ca) 38 (0, 0)) ∧ W.heap[Y3]? = some (.cells vb0.toArray 25 (0, 0)) ∧ W.heap[Y4]? = some (.cells vb1.toArray 25 (0, 0))) W := fun _ h => ⟨h.1.fr.arg, h.2.1, h.2.2.1⟩
 refine region_till (S := fun W => W.heap[N]? = some (.cells (askA a Af cf Ao co Aa ca) 38 (0, 0)) ∧ W.heap[Y3]? = some (.cells vb0.toArray 25 (0, 0)) ∧ W.heap[Y4]? = some (.cells vb1.toArray 25 (0, 0))) 59 rfl (nx_and nx_fq (nx_and nx_blk (nx_and nx_blk (nx_and nx_jv nx_jv)))) H s0 fun W H sh => ?_
 refine takeQ 0 (v := .iface 9 (.string (str [107, 105, 110, 100]))) rfl (s0 _ H) sh fun sh => ?_
 refine takeQ 1 (v := .pointer (some ⟨N, 0, none⟩)) rfl (s0 _ H) sh fun sh => ?_
 refine takeV 2 N 0 (.int .i64 a.kind) rfl rfl rfl rfl (fun W hS => (blk_cells hS.1 0).trans rfl) (s0 _ H) sh fun sh => ?_
 refine takeQ 5 (v := .iface 9 (.string (str [98, 114, 97, 110, 99, 104]))) rfl (s0 _ H) sh fun sh => ?_
 refine takeQ 6 (v := .pointer (some ⟨N, 1, none⟩)) rfl (s0 _ H) sh fun sh => ?_
 refine takeV 7 N 1 (.string (str a.branch)) rfl rfl rfl rfl (fun W hS => (blk_cells hS.1 1).trans rfl) (s0 _ H) sh fun sh => ?_
 refine takeQ 10 (v := .iface 9 (.string (str [111, 116, 104, 101, 114]))) rfl (s0 _ H) sh fun sh => ?_
 refine takeQ 11 (v := .pointer (some ⟨N, 2, none⟩)) rfl (s0 _ H) sh fun sh => ?_
 refine takeV 12 N 2 (.string (str a.other)) rfl rfl rfl rfl (fun W hS => (blk_cells hS.1 2).trans rfl) (s0 _ H) sh fun sh => ?_
 refine takeQ 15 (v := .iface 9 (.string (str [98, 97, 115, 101]))) rfl (s0 _ H) sh fun sh => ?_
 refine takeQ 16 (v := .pointer (some ⟨N, 3, none⟩)) rfl (s0 _ H) sh fun sh => ?_
 refine takeI 17 N 3 a.base rfl rfl (fun W hS j v hv => (blk_cells hS.1 (3 + j)).trans (ask_id a Af cf Ao co Aa ca j v hv)) (s0 _ H) sh fun sh => ?_
 refine takeQ 20 (v := .iface 9 (.string (str [102, 105, 108, 101, 115]))) rfl (s0 _ H) sh fun sh => ?_
 refine takeQ 21 (v := .pointer (some ⟨N, 35, none⟩)) rfl (s0 _ H) sh fun sh => ?_
 refine takeV 22 N 35 (.slice Af a.files.length cf) rfl rfl rfl rfl (fun W hS => (blk_cells hS.1 35).trans rfl) (s0 _ H) sh fun sh => ?_
 refine takeQ 25 (v := .iface 9 (.string (str [110, 111, 116, 101]))) rfl (s0 _ H) sh fun sh => ?_
 refine takeQ 26 (v := .pointer (some ⟨N, 36, none⟩)) rfl (s0 _ H) sh fun sh => ?_
 refine takeV 27 N 36 (.string (str a.note)) rfl rfl rfl rfl (fun W hS => (blk_cells hS.1 36).trans rfl) (s0 _ H) sh fun sh => ?_
 refine takeQ 30 (v := .iface 9 (.string (str [102, 111, 108, 100, 101, 114]))) rfl (s0 _ H) sh fun sh => ?_
 refine takeQ 31 (v := .pointer (some ⟨N, 43, none⟩)) rfl (s0 _ H) sh fun sh => ?_
 refine takeV 32 N 43 (.string (str a.folder)) rfl rfl rfl rfl (fun W hS => (blk_cells hS.1 43).trans rfl) (s0 _ H) sh fun sh => ?_
 refine takeQ 35 (v := .iface 9 (.string (str [110, 97, 109, 101]))) rfl (s0 _ H) sh fun sh => ?_
 refine takeQ 36 (v := .pointer (some ⟨N, 42, none⟩)) rfl (s0 _ H) sh fun sh => ?_
 refine takeV 37 N 42 (.string (str a.name)) rfl rfl rfl rfl (fun W hS => (blk_cells hS.1 42).trans rfl) (s0 _ H) sh fun sh => ?_
 refine takeQ 40 (v := .iface 9 (.string (str [115, 121, 109, 98, 111, 108]))) rfl (s0 _ H) sh fun sh => ?_
 refine takeB 41 Y3 vb0 rfl rfl hl0 (fun _ h => h.2.1) (s0 _ H) sh fun sh => ?_
 refine takeQ 42 (v := .iface 25 (.agg vb0.toArray)) rfl (s0 _ H) sh fun sh => ?_
 refine takeQ 43 (v := .iface 9 (.string (str [111, 114, 100, 101, 114]))) rfl (s0 _ H) sh fun sh => ?_
 refine takeQ 44 (v := .pointer (some ⟨N, 44, none⟩)) rfl (s0 _ H) sh fun sh => ?_
 refine takeV 45 N 44 (.slice Ao a.order.length co) rfl rfl rfl rfl (fun W hS => (blk_cells hS.1 44).trans rfl) (s0 _ H) sh fun sh => ?_
 refine takeQ 48 (v := .iface 9 (.string (str [112, 97, 114, 97, 109]))) rfl (s0 _ H) sh fun sh => ?_
 refine takeB 49 Y4 vb1 rfl rfl hl1 (fun _ h => h.2.2) (s0 _ H) sh fun sh => ?_
 refine takeQ 50 (v := .iface 25 (.agg vb1.toArray)) rfl (s0 _ H) sh fun sh => ?_
 refine takeQ 51 (v := .iface 9 (.string (str [97, 114, 103, 115]))) rfl (s0 _ H) sh fun sh => ?_
 refine takeQ 52 (v := .pointer (some ⟨N, 49, none⟩)) rfl (s0 _ H) sh fun sh => ?_
 refine takeV 53 N 49 (.slice Aa a.args.length ca) rfl rfl rfl rfl (fun W hS => (blk_cells hS.1 49).trans rfl) (s0 _ H) sh fun sh => ?_
 refine till1 3 rfl (stepL 61 #[.int .i64 a.kind] (number_leaf a.kind W) (nx_and nx_fq (nx_and nx_blk (nx_and nx_blk (nx_and nx_jv nx_jv)))) H s0 ?_)
 rintro W H
 refine takeP 4 (.iface 25 (.agg (nL a.kind).toArray)) rfl (s0 _ H) ?_
 refine till1 8 rfl (stepL 60 #[.string (str a.branch)] (text_leaf (str a.branch) W) (nx_and nx_fq (nx_and nx_blk (nx_and nx_blk (nx_and nx_jv nx_jv)))) H s0 ?_)
 rintro W H
 refine takeP 9 (.iface 25 (.agg (tL a.branch).toArray)) rfl (s0 _ H) ?_
 refine till1 13 rfl (stepL 60 #[.string (str a.other)] (text_leaf (str a.other) W) (nx_and nx_fq (nx_and nx_blk (nx_and nx_blk (nx_and nx_jv nx_jv)))) H s0 ?_)
 rintro W H
 refine takeP 14 (.iface 25 (.agg (tL a.other).toArray)) rfl (s0 _ H) ?_
 refine till1 18 rfl (stepL 62 #[.agg (idA a.base)] (id_leaf a.base W) (nx_and nx_fq (nx_and nx_blk (nx_and nx_blk (nx_and nx_jv nx_jv)))) H s0 ?_)
 rintro W H
 refine takeP 19 (.iface 25 (.agg (tL (idS a.base)).toArray)) rfl (s0 _ H) ?_
 refine till1 23 rfl (stepC 63 #[.slice Af a.files.length cf, .func (.func 64) #[] #[]] (list_file a.files Af cf W ((HR.out W H.1.fr.low).files) (by have := HLEN.out; omega)) ?_)
 rintro e W9 ⟨hb, V4, d4, rfl, U4⟩
 replace U4 := U4.wide (T := NB N (Y4 :: (Y3 :: ([] : List Nat)))) (fun g hg _ => H.1.new g hg)
 replace H := (nx_and nx_fq (nx_and nx_blk (nx_and nx_blk (nx_and nx_jv nx_jv)))) _ _ H hb
 refine ⟨_, rfl, s0 _ H, ?_⟩
 refine takeP 24 (.iface 25 (.agg (lL V4 a.files.length d4).toArray)) rfl (s0 _ H) ?_
 rename World => W
 refine till1 28 rfl (stepL 60 #[.string (str a.note)] (text_leaf (str a.note) W) (nx_and (nx_and nx_fq (nx_and nx_blk (nx_and nx_blk (nx_and nx_jv nx_jv)))) nx_jv) ⟨H, U4⟩ (fun _ h => s0 _ h.1) ?_)
 rintro W ⟨H, U4⟩
 refine takeP 29 (.iface 25 (.agg (tL a.note).toArray)) rfl (s0 _ H) ?_
 refine till1 33 rfl (stepL 60 #[.string (str a.folder)] (text_leaf (str a.folder) W) (nx_and (nx_and nx_fq (nx_and nx_blk (nx_and nx_blk (nx_and nx_jv nx_jv)))) nx_jv) ⟨H, U4⟩ (fun _ h => s0 _ h.1) ?_)
 rintro W ⟨H, U4⟩
 refine takeP 34 (.iface 25 (.agg (tL a.folder).toArray)) rfl (s0 _ H) ?_
 refine till1 38 rfl (stepL 60 #[.string (str a.name)] (text_leaf (str a.name) W) (nx_and (nx_and nx_fq (nx_and nx_blk (nx_and nx_blk (nx_and nx_jv nx_jv)))) nx_jv) ⟨H, U4⟩ (fun _ h => s0 _ h.1) ?_)
 rintro W ⟨H, U4⟩
 refine takeP 39 (.iface 25 (.agg (tL a.name).toArray)) rfl (s0 _ H) ?_
 refine till1 46 rfl (stepC 65 #[.slice Ao a.order.length co, .func (.func 61) #[] #[]] (list_int a.order Ao co W ((HR.out W H.1.fr.low).order) (by have := HLEN.out; omega)) ?_)
 rintro e W9 ⟨hb, V9, d9, rfl, U9⟩
 replace U9 := U9.wide (T := NB N (Y4 :: (Y3 :: ([] : List Nat)))) (fun g hg _ => H.1.new g hg)
 obtain ⟨H, U4⟩ := (nx_and (nx_and nx_fq (nx_and nx_blk (nx_and nx_blk (nx_and nx_jv nx_jv)))) nx_jv) _ _ (show (fun W => _ ∧ _) W from ⟨H, U4⟩ : _) hb
 refine ⟨_, rfl, s0 _ H, ?_⟩
 refine takeP 47 (.iface 25 (.agg (lL V9 a.order.length d9).toArray)) rfl (s0 _ H) ?_
 rename World => W
 refine till1 54 rfl (stepC 66 #[.slice Aa a.args.length ca, .func (.func 67) #[] #[]] (list_long a.args Aa ca W ((HR.out W H.1.fr.low).args) (by have := HLEN.out; omega)) ?_)
 rintro e W9 ⟨hb, V11, d11, rfl, U11⟩
 replace U11 := U11.wide (T := NB N (Y4 :: (Y3 :: ([] : List Nat)))) (fun g hg _ => H.1.new g hg)
 obtain ⟨H, U4, U9⟩ := (nx_and (nx_and nx_fq (nx_and nx_blk (nx_and nx_blk (nx_and nx_jv nx_jv)))) (nx_and nx_jv nx_jv)) _ _ (show (fun W => _ ∧ _) W from ⟨H, U4, U9⟩ : _) hb
 refine ⟨_, rfl, s0 _ H, ?_⟩
 refine takeP 55 (.iface 25 (.agg (lL V11 a.args.length d11).toArray)) rfl (s0 _ H) ?_
 rename World => W
 refine till1 56 rfl (stepB 24 (anyCells [([107, 105, 110, 100], jNum a.kind, (nL a.kind)), ([98, 114, 97, 110, 99, 104], jText a.branch, (tL a.branch)), ([111, 116, 104, 101, 114], jText a.other, (tL a.other)), ([98, 97, 115, 101], jId a.base, (tL (idS a.base))), ([102, 105, 108, 101, 115], jList (a.files.map jFile), (lL V4 a.files.length d4)), ([110, 111, 116, 101], jText a.note, (tL a.note)), ([102, 111, 108, 100, 101, 114], jText a.folder, (tL a.folder)), ([110, 97, 109, 101], jText a.name, (tL a.name)), ([115, 121, 109, 98, 111, 108], jSym a, vb0), ([111, 114, 100, 101, 114], jList (a.order.map jNum), (lL V9 a.order.length d9)), ([112, 97, 114, 97, 109], jParam a, vb1), ([97, 114, 103, 115], jList (a.args.map jNum), (lL V11 a.args.length d11))]).toArray rfl rfl (nx_and (nx_and nx_fq (nx_and nx_blk (nx_and nx_blk (nx_and nx_jv nx_jv)))) (nx_and nx_jv (nx_and nx_jv nx_jv))) ⟨H, U4, U9, U11⟩ (fun _ h => s0 _ h.1) ?_)
 rintro M W ⟨H, U4, U9, U11⟩ Q
 refine till1 57 rfl (stepC 59 #[.slice (some ⟨M, 0, none⟩) 24 24] (object_L [([107, 105, 110, 100], jNum a.kind, (nL a.kind)), ([98, 114, 97, 110, 99, 104], jText a.branch, (tL a.branch)), ([111, 116, 104, 101, 114], jText a.other, (tL a.other)), ([98, 97, 115, 101], jId a.base, (tL (idS a.base))), ([102, 105, 108, 101, 115], jList (a.files.map jFile), (lL V4 a.files.length d4)), ([110, 111, 116, 101], jText a.note, (tL a.note)), ([102, 111, 108, 100, 101, 114], jText a.folder, (tL a.folder)), ([110, 97, 109, 101], jText a.name, (tL a.name)), ([115, 121, 109, 98, 111, 108], jSym a, vb0), ([111, 114, 100, 101, 114], jList (a.order.map jNum), (lL V9 a.order.length d9)), ([112, 97, 114, 97, 109], jParam a, vb1), ([97, 114, 103, 115], jList (a.args.map jNum), (lL V11 a.args.length d11))] (NB N (Y4 :: (Y3 :: ([] : List Nat)))) W M 24 24 Q (by
  intro p hp
  simp only [List.mem_cons, List.not_mem_nil, or_false] at hp
  rcases hp with rfl | rfl | rfl | rfl | rfl | rfl | rfl | rfl | rfl | rfl | rfl | rfl
  ·exact jv_n a.kind
  ·exact jv_t a.branch
  ·exact jv_t a.other
  ·exact jv_i a.base
  ·exact U4
  ·exact jv_t a.note
  ·exact jv_t a.folder
  ·exact jv_t a.name
  ·exact H.2.2.2.1
  ·exact U9
  ·exact H.2.2.2.2
  ·exact U11) H.1.new rfl (Nat.le_of_ble_eq_true rfl)) ?_)
 rintro e W9 ⟨hb, us, rfl, J⟩
 replace H := (nx_and nx_fq (nx_and nx_blk (nx_and nx_blk (nx_and nx_jv nx_jv)))) _ _ H hb
 refine ⟨_, rfl, s0 _ H, ?_⟩
 rename World => W
 refine till1 58 rfl (stepS 25 (N + 1) #[.int .i64 0, .bool false, .int .i64 0, .string ⟨#[]⟩, .slice none 0 0, .slice none 0 0] us.toArray rfl H.1.fr.res (by simp [J.len]) (by rw [info25s]; simp [J.len]) (by simpa using J.one) (fun _ hk => ⟨hk.blk H.1.fr.arg (by simp), hk.blk H.2.1 (by have := HY3.out.1; simp; omega), hk.blk H.2.2.1 (by have := HY4.out.1; simp; omega)⟩) fun W9 hk B => ?_)
 refine wpTill_done (by kernel_rfl) ?_ _
 simp only [Act.put, CL]
 have hN := HN.out
 go_wp2_with fail
 refine bodyPost_ret (results_row1 rfl _ _ _ (N + 1) us.toArray rfl (run_loadVar_row _ (N + 1) 25 25 us.toArray (0, 0) _ B Tryz.underlying25 rfl (by rw [info25s]; simp [J.len]))) rfl ?_
 try rw [hN]
 exact ⟨H.1.fr.low.trans (hk.to (by have := H.1.fr.size; omega) (by intro j hj; simp at hj; omega)), _, rfl, (J.but hk (by intro j hj; simp at hj; subst hj; intro h; have := h.1; omega)).wide (fun g hg _ => by have := hg.1; omega)⟩
end Go.Proofs.YtimioelnnhnbiaaGreatDoor
