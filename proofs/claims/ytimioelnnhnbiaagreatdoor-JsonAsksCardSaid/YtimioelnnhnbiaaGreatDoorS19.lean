/-
  Joined: ZM ZN ZKid.
-/
import Derived.Test.YtimioelnnhnbiaaGreatDoorS15
import Derived.Test.YtimioelnnhnbiaaGreatDoorS18
import Derived.StillTailTactics
import Derived.Great.BuildSlice
import Derived.Deep.AppendLies
namespace Go.Proofs.YtimioelnnhnbiaaGreatDoor
open Go.RowKit
def hexI (c : UInt8) : Nat := if 48 ≤ c.toNat ∧ c.toNat ≤ 57 then c.toNat - 48 else if 97 ≤ c.toNat ∧ c.toNat ≤ 102 then c.toNat - 87 else 16
theorem hexI_hB : ∀ k : Fin 16, hexI (hB k.val) = k.val := by decide
theorem hB_hexI (c : UInt8) : hexI c = 16 ∨ (hexI c < 16 ∧ hB (hexI c) = c) := by
 have h : ∀ n : Fin 256, hexI (UInt8.ofNat n.val) = 16 ∨ (hexI (UInt8.ofNat n.val) < 16 ∧ hB (hexI (UInt8.ofNat n.val)) = UInt8.ofNat n.val) := by decide +kernel
 have := h ⟨c.toNat, c.toNat_lt⟩
 simpa using this
def setId (I : Nat → UInt8) (j : Nat) (c : UInt8) : Nat → UInt8 := fun i => if i = j then c else I i
def idGo : Nat → Js.Bs → (Nat → UInt8) → Option (Nat → UInt8)
 | _, [], I => some I
 | i, c :: t, I => if hexI c = 16 then none else idGo (i + 1) t (setId I (i / 2) (UInt8.ofNat (16 * (I (i / 2)).toNat + hexI c)))
def unidO (s : Js.Bs) : Option (Nat → UInt8) := if s.length = 64 then idGo 0 s noId else none
def unidP (s : Js.Bs) : Nat → UInt8 := (unidO s).getD noId
def unidE (s : Js.Bs) : Int := if (unidO s).isSome then 0 else 130
theorem idA_set (I : Nat → UInt8) (d : Nat) (c : UInt8) (h : d < 32) : (idA I).setIfInBounds d (.int .u8 c.toNat) = idA (setId I d c) := by
 apply Array.ext_getElem?
 intro i
 by_cases hi : i < 32
 ·rw [idA_at _ i hi]
  by_cases hd : d = i
  ·subst hd
   rw [Array.getElem?_setIfInBounds_self_of_lt (by rw [idA_size]; exact h)]
   unfold setId
   rw [if_pos rfl]
  ·rw [Array.getElem?_setIfInBounds_ne hd, idA_at I i hi]
   unfold setId
   rw [if_neg (fun e => hd e.symm)]
 ·rw [Array.getElem?_eq_none (by rw [Array.size_setIfInBounds, idA_size]; omega), Array.getElem?_eq_none (by rw [idA_size]; omega)]
theorem or_shl : ∀ (x : Fin 256) (h : Fin 16), bits BinOp.or IntKind.u8 ((x.val : Int) * 16 % 256) (h.val : Int) = ((UInt8.ofNat (16 * x.val + h.val)).toNat : Int) := by decide +kernel
theorem idGo_step {s : Js.Bs} {k : Nat} {c : UInt8} {I : Nat → UInt8} (h : s[k]? = some c) : idGo k (s.drop k) I = if hexI c = 16 then none else idGo (k + 1) (s.drop (k + 1)) (setId I (k / 2) (UInt8.ofNat (16 * (I (k / 2)).toNat + hexI c))) := by
 have hk := (List.getElem?_eq_some_iff.1 h).1
 have e : s.drop k = c :: s.drop (k + 1) := by
  rw [List.drop_eq_getElem_cons hk]
  congr 1
  have := List.getElem?_eq_getElem hk
  rw [h] at this
  injection this with this
  exact this.symm
 rw [e, idGo]
set_option maxRecDepth 100000 in
set_option maxHeartbeats 8000000 in
theorem parse_any (s : Js.Bs) (hs : s.length ≤ 1073741824) (w : World) : Calls Tryz.prog 55 #[.string (str s)] w fun e w' => e = .returned (.tuple #[.agg (idA (unidP s)), .int .i64 (unidE s)]) ∧ Below w.heap.size w w' := by
 have hz := str_size s
 have b1 := below_box w (.cells #[.int .u8 0, .int .u8 0, .int .u8 0, .int .u8 0, .int .u8 0, .int .u8 0, .int .u8 0, .int .u8 0, .int .u8 0, .int .u8 0, .int .u8 0, .int .u8 0, .int .u8 0, .int .u8 0, .int .u8 0, .int .u8 0, .int .u8 0, .int .u8 0, .int .u8 0, .int .u8 0, .int .u8 0, .int .u8 0, .int .u8 0, .int .u8 0, .int .u8 0, .int .u8 0, .int .u8 0, .int .u8 0, .int .u8 0, .int .u8 0, .int .u8 0, .int .u8 0] 29)
 have s1 : (w.alloc (.cells #[.int .u8 0, .int .u8 0, .int .u8 0, .int .u8 0, .int .u8 0, .int .u8 0, .int .u8 0, .int .u8 0, .int .u8 0, .int .u8 0, .int .u8 0, .int .u8 0, .int .u8 0, .int .u8 0, .int .u8 0, .int .u8 0, .int .u8 0, .int .u8 0, .int .u8 0, .int .u8 0, .int .u8 0, .int .u8 0, .int .u8 0, .int .u8 0, .int .u8 0, .int .u8 0, .int .u8 0, .int .u8 0, .int .u8 0, .int .u8 0, .int .u8 0, .int .u8 0] 29)).heap.size = w.heap.size + 1 := by simp
 have e1 : (w.alloc (.cells #[.int .u8 0, .int .u8 0, .int .u8 0, .int .u8 0, .int .u8 0, .int .u8 0, .int .u8 0, .int .u8 0, .int .u8 0, .int .u8 0, .int .u8 0, .int .u8 0, .int .u8 0, .int .u8 0, .int .u8 0, .int .u8 0, .int .u8 0, .int .u8 0, .int .u8 0, .int .u8 0, .int .u8 0, .int .u8 0, .int .u8 0, .int .u8 0, .int .u8 0, .int .u8 0, .int .u8 0, .int .u8 0, .int .u8 0, .int .u8 0, .int .u8 0, .int .u8 0] 29)).heap[w.heap.size]? = some (.cells (idA noId) 29 (0, 0)) := heap_alloc_new w (.cells #[.int .u8 0, .int .u8 0, .int .u8 0, .int .u8 0, .int .u8 0, .int .u8 0, .int .u8 0, .int .u8 0, .int .u8 0, .int .u8 0, .int .u8 0, .int .u8 0, .int .u8 0, .int .u8 0, .int .u8 0, .int .u8 0, .int .u8 0, .int .u8 0, .int .u8 0, .int .u8 0, .int .u8 0, .int .u8 0, .int .u8 0, .int .u8 0, .int .u8 0, .int .u8 0, .int .u8 0, .int .u8 0, .int .u8 0, .int .u8 0, .int .u8 0, .int .u8 0] 29)
 have b2 := below_box (w.alloc (.cells #[.int .u8 0, .int .u8 0, .int .u8 0, .int .u8 0, .int .u8 0, .int .u8 0, .int .u8 0, .int .u8 0, .int .u8 0, .int .u8 0, .int .u8 0, .int .u8 0, .int .u8 0, .int .u8 0, .int .u8 0, .int .u8 0, .int .u8 0, .int .u8 0, .int .u8 0, .int .u8 0, .int .u8 0, .int .u8 0, .int .u8 0, .int .u8 0, .int .u8 0, .int .u8 0, .int .u8 0, .int .u8 0, .int .u8 0, .int .u8 0, .int .u8 0, .int .u8 0] 29)) (.cells #[.int .u8 0, .int .u8 0, .int .u8 0, .int .u8 0, .int .u8 0, .int .u8 0, .int .u8 0, .int .u8 0, .int .u8 0, .int .u8 0, .int .u8 0, .int .u8 0, .int .u8 0, .int .u8 0, .int .u8 0, .int .u8 0, .int .u8 0, .int .u8 0, .int .u8 0, .int .u8 0, .int .u8 0, .int .u8 0, .int .u8 0, .int .u8 0, .int .u8 0, .int .u8 0, .int .u8 0, .int .u8 0, .int .u8 0, .int .u8 0, .int .u8 0, .int .u8 0] 29)
 have e2 : ((w.alloc (.cells #[.int .u8 0, .int .u8 0, .int .u8 0, .int .u8 0, .int .u8 0, .int .u8 0, .int .u8 0, .int .u8 0, .int .u8 0, .int .u8 0, .int .u8 0, .int .u8 0, .int .u8 0, .int .u8 0, .int .u8 0, .int .u8 0, .int .u8 0, .int .u8 0, .int .u8 0, .int .u8 0, .int .u8 0, .int .u8 0, .int .u8 0, .int .u8 0, .int .u8 0, .int .u8 0, .int .u8 0, .int .u8 0, .int .u8 0, .int .u8 0, .int .u8 0, .int .u8 0] 29)).alloc (.cells #[.int .u8 0, .int .u8 0, .int .u8 0, .int .u8 0, .int .u8 0, .int .u8 0, .int .u8 0, .int .u8 0, .int .u8 0, .int .u8 0, .int .u8 0, .int .u8 0, .int .u8 0, .int .u8 0, .int .u8 0, .int .u8 0, .int .u8 0, .int .u8 0, .int .u8 0, .int .u8 0, .int .u8 0, .int .u8 0, .int .u8 0, .int .u8 0, .int .u8 0, .int .u8 0, .int .u8 0, .int .u8 0, .int .u8 0, .int .u8 0, .int .u8 0, .int .u8 0] 29)).heap[(w.alloc (.cells #[.int .u8 0, .int .u8 0, .int .u8 0, .int .u8 0, .int .u8 0, .int .u8 0, .int .u8 0, .int .u8 0, .int .u8 0, .int .u8 0, .int .u8 0, .int .u8 0, .int .u8 0, .int .u8 0, .int .u8 0, .int .u8 0, .int .u8 0, .int .u8 0, .int .u8 0, .int .u8 0, .int .u8 0, .int .u8 0, .int .u8 0, .int .u8 0, .int .u8 0, .int .u8 0, .int .u8 0, .int .u8 0, .int .u8 0, .int .u8 0, .int .u8 0, .int .u8 0] 29)).heap.size]? = some (.cells (idA noId) 29 (0, 0)) := heap_alloc_new (w.alloc (.cells #[.int .u8 0, .int .u8 0, .int .u8 0, .int .u8 0, .int .u8 0, .int .u8 0, .int .u8 0, .int .u8 0, .int .u8 0, .int .u8 0, .int .u8 0, .int .u8 0, .int .u8 0, .int .u8 0, .int .u8 0, .int .u8 0, .int .u8 0, .int .u8 0, .int .u8 0, .int .u8 0, .int .u8 0, .int .u8 0, .int .u8 0, .int .u8 0, .int .u8 0, .int .u8 0, .int .u8 0, .int .u8 0, .int .u8 0, .int .u8 0, .int .u8 0, .int .u8 0] 29)) (.cells #[.int .u8 0, .int .u8 0, .int .u8 0, .int .u8 0, .int .u8 0, .int .u8 0, .int .u8 0, .int .u8 0, .int .u8 0, .int .u8 0, .int .u8 0, .int .u8 0, .int .u8 0, .int .u8 0, .int .u8 0, .int .u8 0, .int .u8 0, .int .u8 0, .int .u8 0, .int .u8 0, .int .u8 0, .int .u8 0, .int .u8 0, .int .u8 0, .int .u8 0, .int .u8 0, .int .u8 0, .int .u8 0, .int .u8 0, .int .u8 0, .int .u8 0, .int .u8 0] 29)
 rw [s1] at e2
 have HE1 := Lib.hid (blk_next b2 e1)
 have HE2 := Lib.hid e2
 have HW2 := Lib.hid (b1.trans (b2.mono (by rw [s1]; omega)))
 have HU : Hid (unidO s = if s.length = 64 then idGo 0 s noId else none) := Lib.hid rfl
 have HPE : Hid (unidP s = (unidO s).getD noId ∧ unidE s = if (unidO s).isSome then 0 else 130) := Lib.hid ⟨rfl, rfl⟩
 clear b1 s1 e1 b2 e2
 go_enter Tryz.func55, Tryz.ntmps55
 go_upto_region 2 with fail
 generalize ((w.alloc (.cells #[.int .u8 0, .int .u8 0, .int .u8 0, .int .u8 0, .int .u8 0, .int .u8 0, .int .u8 0, .int .u8 0, .int .u8 0, .int .u8 0, .int .u8 0, .int .u8 0, .int .u8 0, .int .u8 0, .int .u8 0, .int .u8 0, .int .u8 0, .int .u8 0, .int .u8 0, .int .u8 0, .int .u8 0, .int .u8 0, .int .u8 0, .int .u8 0, .int .u8 0, .int .u8 0, .int .u8 0, .int .u8 0, .int .u8 0, .int .u8 0, .int .u8 0, .int .u8 0] 29)).alloc (.cells #[.int .u8 0, .int .u8 0, .int .u8 0, .int .u8 0, .int .u8 0, .int .u8 0, .int .u8 0, .int .u8 0, .int .u8 0, .int .u8 0, .int .u8 0, .int .u8 0, .int .u8 0, .int .u8 0, .int .u8 0, .int .u8 0, .int .u8 0, .int .u8 0, .int .u8 0, .int .u8 0, .int .u8 0, .int .u8 0, .int .u8 0, .int .u8 0, .int .u8 0, .int .u8 0, .int .u8 0, .int .u8 0, .int .u8 0, .int .u8 0, .int .u8 0, .int .u8 0] 29)) = w2 at HE1 HE2 HW2 ⊢
 obtain ⟨N, hN⟩ : ∃ N, w.heap.size = N := ⟨_, rfl⟩
 rw [hN] at HE1 HE2 ⊢
 have HN := Lib.hid hN
 clear hN
 by_cases h64 : s.length = 64
 rotate_left
 ·have hb : ((s.length : Int) != 64) = true := by simp; omega
  have HR : Hid (unidP s = noId ∧ unidE s = 130) := Lib.hid (by rw [HPE.out.1, HPE.out.2, HU.out, if_neg h64]; exact ⟨rfl, rfl⟩)
  clear h64
  go_wp2_with (first | (refine wpList_load29 rfl _ rfl _ rfl noId HE2.out ?_) | (refine wpList_store_row rfl 29 _ _ rfl _ rfl (idA noId) (idA noId) rfl HE1.out rfl (by rw [info29]; rfl) (idC_one _) ?_; intro w3 hk3 hx3))
  refine bodyPost_ret (results_cell_tmp rfl _ _ _ N (idA noId) rfl (id_load hx3)) rfl ?_
  rw [HR.out.1, HR.out.2, HN.out]
  exact ⟨rfl, (HN.out ▸ HW2.out : Below N w w2).trans (hk3.to (by have := (Array.getElem?_eq_some_iff.1 HE1.out).1; omega) (by intro j hj; simp at hj; omega))⟩
 have hb : ((s.length : Int) != 64) = false := by simp; omega
 have HU2 : Hid (unidO s = idGo 0 (s.drop 0) noId) := Lib.hid (by rw [HU.out, if_pos h64]; rfl)
 have HB2 : Hid (Below N w w2) := Lib.hid (HN.out ▸ HW2.out)
 clear hb HU
 go_wp2_with fail
 go_loopw [5, 6, 11] (fun _ _ i wr => ∃ (k : Nat) (I : Nat → UInt8), k ≤ 64 ∧ i = .int .i64 k ∧ Hid (unidO s = idGo k (s.drop k) I) ∧ Hid (wr.heap[N]? = some (.cells (idA noId) 29 (0, 0))) ∧ Hid (wr.heap[N + 1]? = some (.cells (idA I) 29 (0, 0))) ∧ Hid (Below N w wr)) (fun _ _ i _ => 64 - (intOf i).toNat)
 case atStart => exact ⟨0, noId, by omega, rfl, HU2, HE1, HE2, HB2⟩
 case round =>
  obtain ⟨k, I, hk, rfl, HO, HA, HC, HW⟩ := hrel
  by_cases hlt : k < 64
  ·have hcon : decide ((k : Int) < 64) = true := by simp; omega
   obtain ⟨c, hc⟩ : ∃ c, s[k]? = some c := ⟨s[k], List.getElem?_eq_getElem (by omega)⟩
   have hkz : k < (str s).size := by omega
   have hg := str_get hc hkz
   have HCC := Lib.hid hc
   clear hc
   go_wp2_with fail
   rename World => wo
   go_loopw [6] (fun q wr => ∃ (j : Nat), j ≤ 16 ∧ q = .int .i64 j ∧ Hid (∀ m, m < j → hB m ≠ c) ∧ Hid (Below wo.heap.size wo wr)) (fun q _ => 16 - (intOf q).toNat)
   case atStart => exact ⟨0, by omega, rfl, Lib.hid (fun m h => absurd h (by omega)), Lib.hid (Below.refl _ _)⟩
   case round =>
    obtain ⟨j, hj, rfl, HNE, HWj⟩ := hrel
    by_cases hj16 : j < 16
    ·have hcj : decide ((j : Int) < 16) = true := by simp; omega
     have hgj := hB_get j
     have hj2 : (j : Int) < 16 := by omega
     by_cases he : hB j = c
     ·have hne : (((hB j).toNat : Int) != (c.toNat : Int)) = false := by rw [he]; simp
      go_wp2_with fail
      refine wp_region_any (by kernel_rfl) ?_
      change wpAny _ _ _ _ _ _ _ (World.drew _)
      refine wpAny_of_till (S := fun _ => True) (st := (fun _ => false)) _ _ _ _ ?_
      change wpTill _ _ _ _ _ _ _ #[false, false, false, false, false, false, false, false, false, false] _ _
      refine tkF 0 (.int .i64 (j : Int)) rfl ?yb0 (fun _ => trivial) ?_
      case yb0 => (intro W0 _; go_simp; (try with_reducible rfl))
      simp only [Act.put, CL]
      refine tkF 1 (.bool true) rfl ?yb1 (fun _ => trivial) ?_
      case yb1 => (intro W0 _; go_simp; (try with_reducible rfl))
      simp only [Act.put, CL]
      refine tkF 2 (.bool true) rfl ?yb2 (fun _ => trivial) ?_
      case yb2 => (intro W0 _; go_simp; (try with_reducible rfl))
      simp only [Act.put, CL]
      refine tkF 3 (.int .i64 (j : Int)) rfl ?yb3 (fun _ => trivial) ?_
      case yb3 => (intro W0 _; go_simp; (try with_reducible rfl))
      simp only [Act.put, CL]
      refine tkF 4 (.int .u8 (hB j).toNat) rfl ?yb4 (fun _ => trivial) ?_
      case yb4 => (intro W0 _; have h7 := hB_get j; have h8 : (j : Int) < 16 := (by omega); go_simp; (try with_reducible rfl))
      simp only [Act.put, CL]
      refine tkF 5 (.string (str s)) rfl ?yb5 (fun _ => trivial) ?_
      case yb5 => (intro W0 _; go_simp; (try with_reducible rfl))
      simp only [Act.put, CL]
      refine tkF 6 (.int .i64 (k : Int)) rfl ?yb6 (fun _ => trivial) ?_
      case yb6 => (intro W0 _; go_simp; (try with_reducible rfl))
      simp only [Act.put, CL]
      refine tkF 7 (.int .u8 c.toNat) rfl ?yb7 (fun _ => trivial) ?_
      case yb7 => (intro W0 _; have h7 := hg; have h8 : ¬ (64 : Int) ≤ (k : Int) := (by omega); have h9 := hkz; go_simp; (try with_reducible rfl))
      simp only [Act.put, CL]
      refine tkF 8 (.bool false) rfl ?yb8 (fun _ => trivial) ?_
      case yb8 => (intro W0 _; have h7 := hne; go_simp; (try with_reducible rfl))
      simp only [Act.put, CL]
      refine tkF 9 (.bool false) rfl ?yb9 (fun _ => trivial) ?_
      case yb9 => (intro W0 _; go_simp; (try with_reducible rfl))
      simp only [Act.put, CL]
      refine wpTill_done (by kernel_rfl) ?_ _
      (try simp only [Exit.then])
      have hbd : Below wr.heap.size wr wr.drew := below_drewN (Below.refl _ _) 1
      have HBX : Hid (Below wo.heap.size wo wr.drew) := Lib.hid (HWj.out.trans (hbd.mono HWj.out.size))
      have HA2 : Hid (wr.drew.heap[N]? = some (.cells (idA noId) 29 (0, 0))) := Lib.hid (blk_next HBX.out HA.out)
      have HC2 : Hid (wr.drew.heap[N + 1]? = some (.cells (idA I) 29 (0, 0))) := Lib.hid (blk_next HBX.out HC.out)
      have HW3 : Hid (Below N w wr.drew) := Lib.hid (HW.out.trans (HBX.out.mono (by have := (Array.getElem?_eq_some_iff.1 HC.out).1; omega)))
      clear hbd
      generalize wr.drew = wd at HBX HA2 HC2 HW3 ⊢
      have hk2 : k / 2 < 32 := by omega
      obtain ⟨d, hd⟩ : ∃ d, k / 2 = d := ⟨_, rfl⟩
      have hdi : (k : Int) / 2 = (d : Int) := by omega
      have hdt : (k : Int).tdiv 2 = (d : Int) := by rw [Int.tdiv_eq_ediv_of_nonneg (by omega)]; exact hdi
      rw [hd] at hk2
      have HD := Lib.hid hd
      clear hd
      have q0 : wd.cell? ⟨N + 1, d, none⟩ = some (.int .u8 (I d).toNat) := (blk_cells HC2.out d).trans (idA_at I d hk2)
      have f0 : wd.frozen? ⟨N + 1, d, none⟩ = false := blk_free HC2.out d
      have hx256 : (I d).toNat < 256 := (I d).toNat_lt
      have hor : bits BinOp.or IntKind.u8 (((I d).toNat : Int) * 16 % 256) (j : Int) = ((UInt8.ofNat (16 * (I d).toNat + j)).toNat : Int) := or_shl ⟨(I d).toNat, hx256⟩ ⟨j, hj16⟩
      have hjne : ((j : Int) == 16) = false := by simp; omega
      have hjw : IntKind.u8.wrap (j : Int) = (j : Int) := by unfold IntKind.wrap; simp [go_sem]; omega
      have hexj : hexI c = j := by rw [← he]; exact hexI_hB ⟨j, hj16⟩
      obtain ⟨v8, hv8⟩ : ∃ v8, UInt8.ofNat (16 * (I d).toNat + j) = v8 := ⟨_, rfl⟩
      have HO2 : Hid (unidO s = idGo (k + 1) (s.drop (k + 1)) (setId I d v8)) := Lib.hid (by
       rw [HO.out, idGo_step HCC.out, hexj, if_neg (by omega), HD.out, hv8])
      rw [hv8] at hor
      obtain ⟨hkS, hxS⟩ := but_set (i := d) (.int .u8 v8.toNat) HC2.out
      rw [idA_set I d v8 hk2] at hxS
      have HA3 : Hid ((wd.setCell ⟨N + 1, d, none⟩ (.int .u8 v8.toNat)).heap[N]? = some (.cells (idA noId) 29 (0, 0))) := Lib.hid (hkS.blk HA2.out (by simp))
      have HC3 := Lib.hid hxS
      have HW4 := Lib.hid (HW3.out.trans (hkS.to (by have := (Array.getElem?_eq_some_iff.1 HC2.out).1; omega) (by intro j hj; simp at hj; omega)))
      clear hkS hxS hexj hv8
      go_wp2_with fail
      go_roundw
      case rel => exact ⟨k + 1, setId I d v8, by omega, by go_num, HO2, HA3, HC3, HW4⟩
      case measure => simp [intOf]; omega
     ·have hne : (((hB j).toNat : Int) != (c.toNat : Int)) = true := by
       have : ¬ (hB j).toNat = c.toNat := fun h => he (UInt8.toNat_inj.1 h)
       simp; omega
      go_wp2_with fail
      refine wp_region_any (by kernel_rfl) ?_
      change wpAny _ _ _ _ _ _ _ (World.drew _)
      refine wpAny_of_till (S := fun _ => True) (st := (fun _ => false)) _ _ _ _ ?_
      change wpTill _ _ _ _ _ _ _ #[false, false, false, false, false, false, false, false, false, false] _ _
      refine tkF 0 (.int .i64 (j : Int)) rfl ?yb0 (fun _ => trivial) ?_
      case yb0 => (intro W0 _; go_simp; (try with_reducible rfl))
      simp only [Act.put, CL]
      refine tkF 1 (.bool true) rfl ?yb1 (fun _ => trivial) ?_
      case yb1 => (intro W0 _; go_simp; (try with_reducible rfl))
      simp only [Act.put, CL]
      refine tkF 2 (.bool true) rfl ?yb2 (fun _ => trivial) ?_
      case yb2 => (intro W0 _; go_simp; (try with_reducible rfl))
      simp only [Act.put, CL]
      refine tkF 3 (.int .i64 (j : Int)) rfl ?yb3 (fun _ => trivial) ?_
      case yb3 => (intro W0 _; go_simp; (try with_reducible rfl))
      simp only [Act.put, CL]
      refine tkF 4 (.int .u8 (hB j).toNat) rfl ?yb4 (fun _ => trivial) ?_
      case yb4 => (intro W0 _; have h7 := hB_get j; have h8 : (j : Int) < 16 := (by omega); go_simp; (try with_reducible rfl))
      simp only [Act.put, CL]
      refine tkF 5 (.string (str s)) rfl ?yb5 (fun _ => trivial) ?_
      case yb5 => (intro W0 _; go_simp; (try with_reducible rfl))
      simp only [Act.put, CL]
      refine tkF 6 (.int .i64 (k : Int)) rfl ?yb6 (fun _ => trivial) ?_
      case yb6 => (intro W0 _; go_simp; (try with_reducible rfl))
      simp only [Act.put, CL]
      refine tkF 7 (.int .u8 c.toNat) rfl ?yb7 (fun _ => trivial) ?_
      case yb7 => (intro W0 _; have h7 := hg; have h8 : ¬ (64 : Int) ≤ (k : Int) := (by omega); have h9 := hkz; go_simp; (try with_reducible rfl))
      simp only [Act.put, CL]
      refine tkF 8 (.bool true) rfl ?yb8 (fun _ => trivial) ?_
      case yb8 => (intro W0 _; have h7 := hne; go_simp; (try with_reducible rfl))
      simp only [Act.put, CL]
      refine tkF 9 (.bool true) rfl ?yb9 (fun _ => trivial) ?_
      case yb9 => (intro W0 _; go_simp; (try with_reducible rfl))
      simp only [Act.put, CL]
      refine wpTill_done (by kernel_rfl) ?_ _
      (try simp only [Exit.then])
      go_wp2_with fail
      go_roundw
      case rel => exact ⟨j + 1, by omega, by go_num, Lib.hid (fun m hm => by
       by_cases h : m = j
       ·subst h; exact he
       ·exact HNE.out m (by omega)), Lib.hid (HWj.out.trans ((below_drewN (Below.refl _ _) 1).mono HWj.out.size))⟩
      case measure => simp [intOf]; omega
    ·obtain rfl : j = 16 := by omega
     have hcj : decide (((16 : Nat) : Int) < 16) = false := by decide
     have hex : hexI c = 16 := by
      rcases hB_hexI c with h | ⟨h1, h2⟩
      ·exact h
      ·exact absurd h2 (HNE.out _ h1)
     have HRR : Hid (unidP s = noId ∧ unidE s = 130) := Lib.hid (by
      have h0 : unidO s = none := by rw [HO.out, idGo_step HCC.out, if_pos hex]
      rw [HPE.out.1, HPE.out.2, h0]; exact ⟨rfl, rfl⟩)
     have HBX : Hid (∀ n, Below wo.heap.size wo (wr.drewN n)) := Lib.hid (fun n => below_drewN HWj.out n)
     have HA2 : Hid (∀ n, (wr.drewN n).heap[N]? = some (.cells (idA noId) 29 (0, 0))) := Lib.hid (fun n => blk_next (HBX.out n) HA.out)
     have HW3 : Hid (∀ n, Below N w (wr.drewN n)) := Lib.hid (fun n => HW.out.trans ((HBX.out n).mono (by have := (Array.getElem?_eq_some_iff.1 HC.out).1; omega)))
     clear hex HNE
     go_wp2_with fail
     go_quiet (fail)
     (try simp only [Exit.then])
     go_wp2_with (refine wpList_store_row rfl 29 _ _ rfl _ rfl (idA noId) (idA noId) rfl (HA2.out _) rfl (by rw [info29]; rfl) (idC_one _) ?_; intro w9 hk9 hx9)
     refine bodyPost_ret (results_cell_tmp rfl _ _ _ N (idA noId) rfl (id_load hx9)) rfl ?_
     rw [HRR.out.1, HRR.out.2, HN.out]
     exact ⟨rfl, (HW3.out _).trans (hk9.to (by have := (HW3.out 0).size; have := (Array.getElem?_eq_some_iff.1 (HA2.out 0)).1; exact Nat.le_of_lt (Array.getElem?_eq_some_iff.1 (HA2.out _)).1) (by intro j hj; simp at hj; omega))⟩
  ·obtain rfl : k = 64 := by omega
   have hcon : decide (((64 : Nat) : Int) < 64) = false := by decide
   have HRR : Hid (unidP s = I ∧ unidE s = 0) := Lib.hid (by
    have h0 : unidO s = some I := by rw [HO.out, List.drop_eq_nil_of_le (by omega), idGo]
    rw [HPE.out.1, HPE.out.2, h0]; exact ⟨rfl, rfl⟩)
   go_wp2_with (first | (refine wpList_load29 rfl _ rfl _ rfl I HC.out ?_) | (refine wpList_store_row rfl 29 _ _ rfl _ rfl (idA noId) (idA I) rfl HA.out rfl (by rw [info29]; rfl) (idC_one _) ?_; intro w9 hk9 hx9))
   refine bodyPost_ret (results_cell_tmp rfl _ _ _ N (idA I) rfl (id_load hx9)) rfl ?_
   rw [HRR.out.1, HRR.out.2, HN.out]
   exact ⟨rfl, HW.out.trans (hk9.to (by have := (Array.getElem?_eq_some_iff.1 HA.out).1; omega) (by intro j hj; simp at hj; omega))⟩
end Go.Proofs.YtimioelnnhnbiaaGreatDoor
namespace Go.Proofs.YtimioelnnhnbiaaGreatDoor
open Go.RowKit
def idOf (y : Js.J) : Nat → UInt8 := unidP y.text
set_option maxRecDepth 100000 in
set_option maxHeartbeats 8000000 in
theorem from_id (y : Js.J) (vs : List Value) (S : Nat → Prop) (w : World) (hjv : JV w S y vs) (hn : y.text.length ≤ 1073741824) :
  Calls Tryz.prog 23 #[.agg vs.toArray] w fun e w' => e = .returned (.agg (idA (idOf y))) ∧ Below w.heap.size w w' := by
 obtain ⟨A5, c5, A6, c6, rfl, -, -, -⟩ := jv_open hjv
 clear hjv
 unfold idOf
 obtain ⟨t, ht⟩ : ∃ t, y.text = t := ⟨_, rfl⟩
 rw [ht] at hn ⊢
 clear ht
 generalize y.kind = k0
 generalize y.bool = b0
 generalize y.num = n0
 generalize y.items.length = l5
 generalize y.members.length = l6
 obtain ⟨t0, ht0⟩ : ∃ t0, str t = t0 := ⟨_, rfl⟩
 rw [ht0]
 have HP := Lib.hid (parse_any t hn)
 rw [ht0] at HP
 generalize unidE t = er at HP
 generalize unidP t = I at HP ⊢
 clear ht0 hn
 have b1 := below_box w (.cells #[.int .i64 k0, .bool b0, .int .i64 n0, .string t0, .slice A5 l5 c5, .slice A6 l6 c6] 25)
 have s1 : (w.alloc (.cells #[.int .i64 k0, .bool b0, .int .i64 n0, .string t0, .slice A5 l5 c5, .slice A6 l6 c6] 25)).heap.size = w.heap.size + 1 := by simp
 have e1 : JBox _ _ _ _ _ _ _ _ := heap_alloc_new w (.cells #[.int .i64 k0, .bool b0, .int .i64 n0, .string t0, .slice A5 l5 c5, .slice A6 l6 c6] 25)
 have b2 := below_box (w.alloc (.cells #[.int .i64 k0, .bool b0, .int .i64 n0, .string t0, .slice A5 l5 c5, .slice A6 l6 c6] 25)) (.cells #[.int .u8 0, .int .u8 0, .int .u8 0, .int .u8 0, .int .u8 0, .int .u8 0, .int .u8 0, .int .u8 0, .int .u8 0, .int .u8 0, .int .u8 0, .int .u8 0, .int .u8 0, .int .u8 0, .int .u8 0, .int .u8 0, .int .u8 0, .int .u8 0, .int .u8 0, .int .u8 0, .int .u8 0, .int .u8 0, .int .u8 0, .int .u8 0, .int .u8 0, .int .u8 0, .int .u8 0, .int .u8 0, .int .u8 0, .int .u8 0, .int .u8 0, .int .u8 0] 29)
 have e2 : ((w.alloc (.cells #[.int .i64 k0, .bool b0, .int .i64 n0, .string t0, .slice A5 l5 c5, .slice A6 l6 c6] 25)).alloc (.cells #[.int .u8 0, .int .u8 0, .int .u8 0, .int .u8 0, .int .u8 0, .int .u8 0, .int .u8 0, .int .u8 0, .int .u8 0, .int .u8 0, .int .u8 0, .int .u8 0, .int .u8 0, .int .u8 0, .int .u8 0, .int .u8 0, .int .u8 0, .int .u8 0, .int .u8 0, .int .u8 0, .int .u8 0, .int .u8 0, .int .u8 0, .int .u8 0, .int .u8 0, .int .u8 0, .int .u8 0, .int .u8 0, .int .u8 0, .int .u8 0, .int .u8 0, .int .u8 0] 29)).heap[(w.alloc (.cells #[.int .i64 k0, .bool b0, .int .i64 n0, .string t0, .slice A5 l5 c5, .slice A6 l6 c6] 25)).heap.size]? = some (.cells (idA noId) 29 (0, 0)) := heap_alloc_new (w.alloc (.cells #[.int .i64 k0, .bool b0, .int .i64 n0, .string t0, .slice A5 l5 c5, .slice A6 l6 c6] 25)) (.cells #[.int .u8 0, .int .u8 0, .int .u8 0, .int .u8 0, .int .u8 0, .int .u8 0, .int .u8 0, .int .u8 0, .int .u8 0, .int .u8 0, .int .u8 0, .int .u8 0, .int .u8 0, .int .u8 0, .int .u8 0, .int .u8 0, .int .u8 0, .int .u8 0, .int .u8 0, .int .u8 0, .int .u8 0, .int .u8 0, .int .u8 0, .int .u8 0, .int .u8 0, .int .u8 0, .int .u8 0, .int .u8 0, .int .u8 0, .int .u8 0, .int .u8 0, .int .u8 0] 29)
 rw [s1] at e2
 have HE1 := Lib.hid (e1.next b2)
 have HE2 := Lib.hid e2
 have HW2 := Lib.hid (b1.trans (b2.mono (by rw [s1]; omega)))
 clear b1 s1 e1 b2 e2
 go_enter Tryz.func23, Tryz.ntmps23
 go_upto_region 1 with fail
 generalize ((w.alloc (.cells #[.int .i64 k0, .bool b0, .int .i64 n0, .string t0, .slice A5 l5 c5, .slice A6 l6 c6] 25)).alloc (.cells #[.int .u8 0, .int .u8 0, .int .u8 0, .int .u8 0, .int .u8 0, .int .u8 0, .int .u8 0, .int .u8 0, .int .u8 0, .int .u8 0, .int .u8 0, .int .u8 0, .int .u8 0, .int .u8 0, .int .u8 0, .int .u8 0, .int .u8 0, .int .u8 0, .int .u8 0, .int .u8 0, .int .u8 0, .int .u8 0, .int .u8 0, .int .u8 0, .int .u8 0, .int .u8 0, .int .u8 0, .int .u8 0, .int .u8 0, .int .u8 0, .int .u8 0, .int .u8 0] 29)) = w2 at HE1 HE2 HW2 ⊢
 obtain ⟨N, hN⟩ : ∃ N, w.heap.size = N := ⟨_, rfl⟩
 rw [hN] at HE1 HE2 ⊢
 have HN := Lib.hid hN
 clear hN
 obtain ⟨x0, x1, x2, x3, x4, x5⟩ := HE1.out.cells
 go_wp2_with fail
 refine (HP.out w2).mono ?_
 rintro e w3 ⟨rfl, hb3⟩
 have HB2 := Lib.hid (blk_next hb3 HE2.out)
 have HW3 := Lib.hid (HW2.out.trans (hb3.mono HW2.out.size))
 clear hb3 x0 x1 x2 x3 x4 x5 HE1 HE2 HW2
 have hal := below_box w3 (.cells #[.int .u8 0, .int .u8 0, .int .u8 0, .int .u8 0, .int .u8 0, .int .u8 0, .int .u8 0, .int .u8 0, .int .u8 0, .int .u8 0, .int .u8 0, .int .u8 0, .int .u8 0, .int .u8 0, .int .u8 0, .int .u8 0, .int .u8 0, .int .u8 0, .int .u8 0, .int .u8 0, .int .u8 0, .int .u8 0, .int .u8 0, .int .u8 0, .int .u8 0, .int .u8 0, .int .u8 0, .int .u8 0, .int .u8 0, .int .u8 0, .int .u8 0, .int .u8 0] 29)
 have HQ : Hid ((w3.alloc (.cells #[.int .u8 0, .int .u8 0, .int .u8 0, .int .u8 0, .int .u8 0, .int .u8 0, .int .u8 0, .int .u8 0, .int .u8 0, .int .u8 0, .int .u8 0, .int .u8 0, .int .u8 0, .int .u8 0, .int .u8 0, .int .u8 0, .int .u8 0, .int .u8 0, .int .u8 0, .int .u8 0, .int .u8 0, .int .u8 0, .int .u8 0, .int .u8 0, .int .u8 0, .int .u8 0, .int .u8 0, .int .u8 0, .int .u8 0, .int .u8 0, .int .u8 0, .int .u8 0] 29)).heap[w3.heap.size]? = some (.cells (idA noId) 29 (0, 0))) := Lib.hid (heap_alloc_new w3 (.cells #[.int .u8 0, .int .u8 0, .int .u8 0, .int .u8 0, .int .u8 0, .int .u8 0, .int .u8 0, .int .u8 0, .int .u8 0, .int .u8 0, .int .u8 0, .int .u8 0, .int .u8 0, .int .u8 0, .int .u8 0, .int .u8 0, .int .u8 0, .int .u8 0, .int .u8 0, .int .u8 0, .int .u8 0, .int .u8 0, .int .u8 0, .int .u8 0, .int .u8 0, .int .u8 0, .int .u8 0, .int .u8 0, .int .u8 0, .int .u8 0, .int .u8 0, .int .u8 0] 29))
 have HB3 := Lib.hid (blk_next hal HB2.out)
 have HW4 := Lib.hid (HW3.out.trans (hal.mono HW3.out.size))
 have hlt := (Array.getElem?_eq_some_iff.1 HB2.out).1
 have hMw := HW3.out.size
 clear hal HB2 HW3
 generalize hW2 : (w3.alloc (.cells #[.int .u8 0, .int .u8 0, .int .u8 0, .int .u8 0, .int .u8 0, .int .u8 0, .int .u8 0, .int .u8 0, .int .u8 0, .int .u8 0, .int .u8 0, .int .u8 0, .int .u8 0, .int .u8 0, .int .u8 0, .int .u8 0, .int .u8 0, .int .u8 0, .int .u8 0, .int .u8 0, .int .u8 0, .int .u8 0, .int .u8 0, .int .u8 0, .int .u8 0, .int .u8 0, .int .u8 0, .int .u8 0, .int .u8 0, .int .u8 0, .int .u8 0, .int .u8 0] 29)) = W2 at HQ HB3 HW4
 generalize hM : w3.heap.size = M at HQ hlt hMw
 go_upto_region 2 with (refine wpList_store_row rfl 29 _ _ rfl _ rfl (idA noId) (idA I) rfl HQ.out rfl (by rw [info29]; rfl) (idC_one _) ?_; intro w8 hk8 hx8)
 have HQ8 := Lib.hid hx8
 have HB8 := Lib.hid (hk8.blk HB3.out (by simp; omega))
 have HW8 := Lib.hid (HW4.out.trans (hk8.to HW4.out.size (by intro j hj; simp at hj; omega)))
 go_wp2_with (first | (refine wpList_load29 rfl _ rfl _ rfl I HQ8.out ?_) | (refine wpList_store_row rfl 29 _ _ rfl _ rfl (idA noId) (idA I) rfl HB8.out rfl (by rw [info29]; rfl) (idC_one _) ?_; intro w9 hk9 hx9))
 refine bodyPost_ret (results_row1 rfl _ _ _ (N + 1) (idA I) rfl (id_load hx9)) rfl ?_
 exact ⟨rfl, HW8.out.trans (hk9.to HW8.out.size (by intro j hj; simp at hj; have := HN.out; omega))⟩
end Go.Proofs.YtimioelnnhnbiaaGreatDoor
namespace Go.Proofs.YtimioelnnhnbiaaGreatDoor
open Go.RowKit
theorem infoidE : (Tryz.prog.info? 29).map (fun i => (i.zero, i.size, i.bytes)) = some (some (.agg #[.int .u8 0, .int .u8 0, .int .u8 0, .int .u8 0, .int .u8 0, .int .u8 0, .int .u8 0, .int .u8 0, .int .u8 0, .int .u8 0, .int .u8 0, .int .u8 0, .int .u8 0, .int .u8 0, .int .u8 0, .int .u8 0, .int .u8 0, .int .u8 0, .int .u8 0, .int .u8 0, .int .u8 0, .int .u8 0, .int .u8 0, .int .u8 0, .int .u8 0, .int .u8 0, .int .u8 0, .int .u8 0, .int .u8 0, .int .u8 0, .int .u8 0, .int .u8 0]), 32, 32) := by kernel_rfl
theorem kept_id : Kept 32 (RC idC) := kept_C (fun _ => rfl) (fun x v hv => idC_one x v (by unfold idA; simpa using hv))
theorem fill29 (I : Nat → UInt8) : Instr.fill (fun i => some (i * 32, 32)) ((Array.range (1 * 32)).map ((Value.agg #[.int .u8 0, .int .u8 0, .int .u8 0, .int .u8 0, .int .u8 0, .int .u8 0, .int .u8 0, .int .u8 0, .int .u8 0, .int .u8 0, .int .u8 0, .int .u8 0, .int .u8 0, .int .u8 0, .int .u8 0, .int .u8 0, .int .u8 0, .int .u8 0, .int .u8 0, .int .u8 0, .int .u8 0, .int .u8 0, .int .u8 0, .int .u8 0, .int .u8 0, .int .u8 0, .int .u8 0, .int .u8 0, .int .u8 0, .int .u8 0, .int .u8 0, .int .u8 0]).cells[· % (Value.agg #[.int .u8 0, .int .u8 0, .int .u8 0, .int .u8 0, .int .u8 0, .int .u8 0, .int .u8 0, .int .u8 0, .int .u8 0, .int .u8 0, .int .u8 0, .int .u8 0, .int .u8 0, .int .u8 0, .int .u8 0, .int .u8 0, .int .u8 0, .int .u8 0, .int .u8 0, .int .u8 0, .int .u8 0, .int .u8 0, .int .u8 0, .int .u8 0, .int .u8 0, .int .u8 0, .int .u8 0, .int .u8 0, .int .u8 0, .int .u8 0, .int .u8 0, .int .u8 0]).cells.size]!)) [(0, .agg (idA I))] = some (idA I) := by kernel_rfl
theorem wpList_bs29 {ops : Array Oper} {rest : List Oper} {op : Oper} {a : Act} {w : World} {Q : Exit → Act → World → Prop} (hgd : op.guard = none) (x : Operand) (ho : op.op = .buildSlice 47 1 #[(0, x)]) (I : Nat → UInt8) (hx : a.eval x = .agg (idA I))
  (k : wpList Tryz.prog ops Q rest (a.put op.dst (.slice (some ⟨w.heap.size, 0, none⟩) 1 1)) (w.alloc (.cells (idA I) 29))) : wpList Tryz.prog ops Q (op :: rest) a w := by
 obtain ⟨i0, hi, hz0, hz1, hz2⟩ := info_parts infoidE
 refine wpList_buildSlice hgd 47 29 1 #[(0, x)] ho (idA I) i0 _ Tryz.underlying47 hi hz0 (by rw [hz1]; decide) (by rw [hz1]; decide) ?_ k
 rw [hz1, Array.toList_map]
 show Instr.fill _ _ [(0, a.eval x)] = _
 rw [hx]
 exact fill29 I
theorem text_bytes : ∀ y : Js.J, y.text.length ≤ Js.bytes y
 | .mk _ _ _ t l m => by show t.length ≤ t.length + Js.bytesL l + Js.bytesM m; omega
theorem bytesL_mem : ∀ (l : List Js.J) (k : Nat) (y : Js.J), l[k]? = some y → Js.bytes y ≤ Js.bytesL l
 | [], _, _, h => by simp at h
 | x :: t, 0, y, h => by simp at h; subst h; show Js.bytes x ≤ Js.bytes x + Js.bytesL t; omega
 | x :: t, k + 1, y, h => by
  have := bytesL_mem t k y (by simpa using h)
  show Js.bytes y ≤ Js.bytes x + Js.bytesL t; omega
theorem item_text (x : Js.J) (k : Nat) (y : Js.J) (h : x.items[k]? = some y) : y.text.length ≤ Js.bytes x := by
 obtain ⟨kk, b, n, t, l, m⟩ := x
 have h1 := bytesL_mem l k y h
 have h2 := text_bytes y
 show _ ≤ t.length + Js.bytesL l + Js.bytesM m
 omega
theorem getM_bytes : ∀ (m : List (Js.Bs × Js.J)) (nm : Js.Bs) (y : Js.J), Js.getM m nm = some y → Js.bytes y ≤ Js.bytesM m
 | [], _, _, h => by cases h
 | (n, x) :: t, nm, y, h => by
  unfold Js.getM at h
  show Js.bytes y ≤ n.length + Js.bytes x + Js.bytesM t
  split at h
  ·injection h with h; subst h; omega
  ·have := getM_bytes t nm y h; omega
theorem of_bytes (x : Js.J) (nm : Js.Bs) : Js.bytes (ofP x nm) ≤ Js.bytes x := by
 unfold ofP Js.getOf
 obtain ⟨k, b, n, t, l, m⟩ := x
 split
 ·cases h : Js.getM (Js.J.mk k b n t l m).members nm with
  | none => exact Nat.zero_le _
  | some y =>
   have := getM_bytes m nm y h
   show Js.bytes y ≤ t.length + Js.bytesL l + Js.bytesM m
   omega
 ·exact Nat.zero_le _
set_option maxRecDepth 100000 in
set_option maxHeartbeats 8000000 in
theorem each_id (x : Js.J) (nm : Js.Bs) (vs : List Value) (S : Nat → Prop) (w : World) (hjv : JV w S x vs) (hSw : ∀ g, S g → g < w.heap.size) (hn : Js.nodes x ≤ 1000000) (hby : Js.bytes x ≤ 1073741824) :
  Calls Tryz.prog 32 #[.agg vs.toArray, .string (str nm), .func (.func 23) #[] #[]] w fun e w' => Below w.heap.size w w' ∧ ∃ (Av : Option Addr) (cv : Nat), e = .returned (.slice Av (ofP x nm).items.length cv) ∧ (ofP x nm).items.length ≤ cv ∧ RowAt 32 idC w' Av ((ofP x nm).items.map idOf) ∧ (∀ a, Av = some a → w.heap.size ≤ a.block ∧ a.block < w'.heap.size) := by
 have HJ := Lib.hid hjv
 have HSS := Lib.hid hSw
 obtain ⟨A5, c5, A6, c6, k0, b0, n0, t0, l5, l6, rfl⟩ := hjv.shape
 have b1 := below_box w (.cells #[.int .i64 k0, .bool b0, .int .i64 n0, .string t0, .slice A5 l5 c5, .slice A6 l6 c6] 25)
 have e1 : JBox _ _ _ _ _ _ _ _ := heap_alloc_new w (.cells #[.int .i64 k0, .bool b0, .int .i64 n0, .string t0, .slice A5 l5 c5, .slice A6 l6 c6] 25)
 have HE1 := Lib.hid e1
 have HJ1 := Lib.hid (HJ.out.next b1)
 have HW1 := Lib.hid b1
 have HON := Lib.hid (of_nodes x nm)
 have HTB0 : Hid (∀ (k : Nat) (y : Js.J), (ofP x nm).items[k]? = some y → y.text.length ≤ 1073741824) := Lib.hid (fun k y hy => Nat.le_trans (item_text (ofP x nm) k y hy) (Nat.le_trans (of_bytes x nm) hby))
 clear hby
 clear b1 e1 HJ hSw hjv
 go_enter Tryz.func32, Tryz.ntmps32
 go_upto_region 1 with fail
 generalize (w.alloc (.cells #[.int .i64 k0, .bool b0, .int .i64 n0, .string t0, .slice A5 l5 c5, .slice A6 l6 c6] 25)) = w1 at HE1 HJ1 HW1 ⊢
 obtain ⟨x0, x1, x2, x3, x4, x5⟩ := HE1.out.cells
 go_wp2_with fail
 refine (of_any x nm _ S w1 HJ1.out (fun g hg => Nat.lt_of_lt_of_le (HSS.out g hg) HW1.out.size) (by omega)).mono ?_
 rintro e w2 ⟨hb2, us, rfl, hju⟩
 obtain ⟨C5, d5, C6, d6, rfl, -, hil, -⟩ := jv_open hju
 have HIL := Lib.hid hil
 have HW2 := Lib.hid (HW1.out.trans (hb2.mono HW1.out.size))
 have HIT := Lib.hid (items_le (ofP x nm))
 clear hju hb2 HJ1 HE1 HW1 x0 x1 x2 x3 x4 x5 hil
 obtain ⟨z, hz⟩ : ∃ z, ofP x nm = z := ⟨_, rfl⟩
 rw [hz] at HIL HIT HON ⊢
 have hfl := fld4
 have hsmall : z.items.length ≤ 1000000 := by have h1 := HIT.out.1; have h2 := HON.out; omega
 have HZE := Lib.hid hz
 clear hz
 have HZN : Hid (∀ (k : Nat) (y : Js.J), z.items[k]? = some y → Js.nodes y ≤ 1073741824) := Lib.hid (fun k y hy => by have h1 := HIT.out.2 k y hy; have h2 := HON.out; omega)
 have HSW : Hid (∀ W, Below w.heap.size w W → ∀ g, S g → g < W.heap.size) := Lib.hid (fun W hW g hg => Nat.lt_of_lt_of_le (HSS.out g hg) hW.size)
 clear HIT HON hn HSS
 obtain ⟨items, hit⟩ : ∃ l, z.items = l := ⟨_, rfl⟩
 rw [hit] at HIL HZN hsmall ⊢
 have HEQ : Hid ((ofP x nm).items = items) := Lib.hid (by rw [HZE.out]; exact hit)
 have HTB : Hid (∀ (k : Nat) (y : Js.J), items[k]? = some y → y.text.length ≤ 1073741824) := Lib.hid (by rw [← HEQ.out]; exact HTB0.out)
 clear HZE HTB0
 have HG0 : Hid (Gr 29 32 (RC idC) (fun _ => False) w2.heap.size ((items.take 0).map idOf) (.slice none 0 0) [] w2) := Lib.hid Gr.nil
 go_wp2_with fail
 clear hfl
 go_loopw [7, 15] (fun a i wr => ∃ (k : Nat) (Av : Option Addr) (cv : Nat) (rs : List (List Value)), k ≤ items.length ∧ a = .slice Av k cv ∧ i = .int .i64 k ∧ Hid (Gr 29 32 (RC idC) (fun _ => False) w2.heap.size ((items.take k).map idOf) (.slice Av k cv) rs wr) ∧
  Hid (Below w2.heap.size w2 wr)) (fun _ i _ => items.length - (intOf i).toNat)
 case atStart => exact ⟨0, none, 0, [], by omega, rfl, rfl, HG0, Lib.hid (Below.refl _ _)⟩
 case round =>
  obtain ⟨k, Av, cv, rs, hk, rfl, rfl, HG, HW⟩ := hrel
  by_cases hlt : k < items.length
  ·have hcon : decide ((k : Int) < (items.length : Int)) = true := by simp; omega
   obtain ⟨y, hy⟩ : ∃ y, items[k]? = some y := ⟨items[k], List.getElem?_eq_getElem hlt⟩
   obtain ⟨g, o, k1, b1, n1, t1, A7, l7, c7, A8, l8, c8, hA, hSg, hg, q0, q1, q2, q3, q4, q5, hjy⟩ := (JL.next HIL.out HW.out).elem hy
   subst hA
   have HY := Lib.hid hy
   have hyl := below_box wr (.cells #[.int .i64 k1, .bool b1, .int .i64 n1, .string t1, .slice A7 l7 c7, .slice A8 l8 c8] 25)
   have HB : Hid (JBox _ wr.heap.size _ _ _ _ _ _) := Lib.hid (heap_alloc_new wr (.cells #[.int .i64 k1, .bool b1, .int .i64 n1, .string t1, .slice A7 l7 c7, .slice A8 l8 c8] 25))
   have HG1 := Lib.hid (HG.out.next kept_id hyl)
   have HW1 := Lib.hid (HW.out.trans (hyl.mono HW.out.size))
   have HJ1 := Lib.hid (hjy.next hyl)
   clear hyl hjy hSg hy HG HW
   go_upto_region 5 with fail
   generalize (wr.alloc (.cells #[.int .i64 k1, .bool b1, .int .i64 n1, .string t1, .slice A7 l7 c7, .slice A8 l8 c8] 25)) = w3 at HB HG1 HW1 HJ1 ⊢
   generalize wr.heap.size = Q at HB ⊢
   clear q0 q1 q2 q3 q4 q5 hg
   obtain ⟨x0, x1, x2, x3, x4, x5⟩ := HB.out.cells
   go_wp2_with fail
   refine (from_id y _ S w3 HJ1.out (HTB.out k y HY.out)).mono ?_
   rintro e w4 ⟨rfl, hb4⟩
   have HG4 := Lib.hid (HG1.out.next kept_id hb4)
   have HW4 := Lib.hid (HW1.out.trans (hb4.mono HW1.out.size))
   clear hb4 HG1 HW1 HJ1 HB x0 x1 x2 x3 x4 x5
   have hal := below_box w4 (.cells (idA (idOf y)) 29)
   have HQ := Lib.hid (heap_alloc_new w4 (.cells (idA (idOf y)) 29))
   have HG5 := Lib.hid (HG4.out.next kept_id hal)
   have HW5 := Lib.hid (HW4.out.trans (hal.mono HW4.out.size))
   clear hal HG4 HW4
   obtain ⟨i0, hi, hz0, hz1, hz2⟩ := info_parts infoidE
   have hlk : ((items.take k).map idOf).length = k := by rw [List.length_map, List.length_take]; omega
   have hown := HG5.out.own.own
   rw [hlk] at hown
   generalize hW2 : (w4.alloc (.cells (idA (idOf y)) 29)) = W2 at HQ HG5 HW5 hown
   generalize hM : w4.heap.size = M at HQ
   go_wp2_with (first | (refine wpList_bs29 rfl _ rfl (idOf y) rfl ?_; rw [hW2, hM]) | (at_builtin; refine wpList_append_lies W2 rfl (.tmp 19) (.tmp 23) 47 rfl w2.heap.size 29 i0 (.agg #[.int .u8 0, .int .u8 0, .int .u8 0, .int .u8 0, .int .u8 0, .int .u8 0, .int .u8 0, .int .u8 0, .int .u8 0, .int .u8 0, .int .u8 0, .int .u8 0, .int .u8 0, .int .u8 0, .int .u8 0, .int .u8 0, .int .u8 0, .int .u8 0, .int .u8 0, .int .u8 0, .int .u8 0, .int .u8 0, .int .u8 0, .int .u8 0, .int .u8 0, .int .u8 0, .int .u8 0, .int .u8 0, .int .u8 0, .int .u8 0, .int .u8 0, .int .u8 0]) 32 32 Tryz.underlying47 hi hz0 hz1 hz2 rfl (by decide) (.slice Av k cv) k rs.flatten rfl hown ⟨M, 0, none⟩ 1 1 (idC (idOf y)) rfl rfl (World.news_of_block (show W2.heap[M]? = some (.cells (idC (idOf y)).toArray 29 (0, 0)) from HQ.out)) (idC_one (idOf y)) (by decide) (by unfold maxLen; omega) (by omega) HG5.out.own.le W2.heap.size rfl ?_; intro g9 cap W3 hown3 hgrow hat3 hlt3))
   obtain ⟨hG6, hk6⟩ := HG5.out.push kept_id (x := idOf y) (vs := (idC (idOf y))) rfl (by rw [hlk]; exact hown3) hgrow hat3
   rw [hlk] at hG6
   have htk : (items.take k).map idOf ++ [idOf y] = (items.take (k + 1)).map idOf := by rw [List.take_add_one, HY.out, List.map_append]; rfl
   rw [htk] at hG6
   have HG6 := Lib.hid hG6
   have HW6 := Lib.hid (HW5.out.trans (hk6.to HW5.out.size (by
    intro j hj
    have hm : (Value.slice Av k cv).ownBlock = some j := by simpa using hj
    have := (HG5.out.own.lt j hm).1
    omega)))
   go_roundw
   case rel => exact ⟨k + 1, _, _, _, by omega, rfl, by go_num, HG6, HW6⟩
   case measure => simp [intOf]; omega
  ·obtain rfl : k = items.length := by omega
   have hcon : decide (((items.length : Nat) : Int) < (items.length : Int)) = false := by simp
   have HR : Hid (RowAt 32 idC wr Av (items.map idOf) ∧ items.length ≤ cv ∧ ∀ a, Av = some a → w2.heap.size ≤ a.block ∧ a.block < wr.heap.size) := Lib.hid (by
    have h1 := HG.out
    rw [List.take_length] at h1
    have h2 := h1.own
    rw [List.length_map] at h2
    exact ⟨h1.rowAt kept_id, (own_cap h2).1, fun a ha => h1.own.lt a.block (by rw [ha]; rfl)⟩)
   go_wp2_with fail
   go_ret
   rw [HEQ.out]
   exact ⟨HW2.out.trans (HW.out.mono HW2.out.size), Av, cv, rfl, HR.out.2.1, HR.out.1, fun a ha => ⟨Nat.le_trans HW2.out.size (HR.out.2.2 a ha).1, (HR.out.2.2 a ha).2⟩⟩
end Go.Proofs.YtimioelnnhnbiaaGreatDoor
