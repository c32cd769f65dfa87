/-
  Joined: ZN ZKid ZDfile. CONDITIONS: as each law says.
-/
import Derived.Test.YtimioelnnhnbiaaGreatDoorQ22
import Derived.Great.BuildSlice
import Derived.Deep.AppendLies
import Derived.Test.YtimioelnnhnbiaaGreatDoorQ21
import Derived.Test.YtimioelnnhnbiaaGreatDoorQ06
namespace Go.Proofs.YtimioelnnhnbiaaGreatDoor
open Go.RowKit
def idOf (y : Js.J) : Nat → UInt8 := unidP y.text
set_option maxRecDepth 100000 in
set_option maxHeartbeats 8000000 in
theorem from_id (y : Js.J) (vs : List Value) (S : Nat → Prop) (w : World) (hjv : JV w S y vs) (hn : y.text.length ≤ 1073741824) :
  Calls Tryz.prog 23 #[.agg vs.toArray] w fun e w' => e = .returned (.agg (idA (idOf y))) ∧ Below w.heap.size w w' := by
 obtain ⟨A5, c5, A6, c6, rfl, -, -, -⟩ := jv_open hjv
 clear hjv
 unfold idOf
 obtain ⟨t, ht⟩ : ∃ t, y.text = t := ⟨_, rfl⟩
 rw [ht] at hn ⊢
 clear ht
 generalize y.kind = k0
 generalize y.bool = b0
 generalize y.num = n0
 generalize y.items.length = l5
 generalize y.members.length = l6
 obtain ⟨t0, ht0⟩ : ∃ t0, str t = t0 := ⟨_, rfl⟩
 rw [ht0]
 have HP := Lib.hid (parse_any t hn)
 rw [ht0] at HP
 generalize unidE t = er at HP
 generalize unidP t = I at HP ⊢
 clear ht0 hn
 have b1 := below_box w (.cells #[.int .i64 k0, .bool b0, .int .i64 n0, .string t0, .slice A5 l5 c5, .slice A6 l6 c6] 25)
 have s1 : (w.alloc (.cells #[.int .i64 k0, .bool b0, .int .i64 n0, .string t0, .slice A5 l5 c5, .slice A6 l6 c6] 25)).heap.size = w.heap.size + 1 := by simp
 have e1 : JBox _ _ _ _ _ _ _ _ := heap_alloc_new w (.cells #[.int .i64 k0, .bool b0, .int .i64 n0, .string t0, .slice A5 l5 c5, .slice A6 l6 c6] 25)
 have b2 := below_box (w.alloc (.cells #[.int .i64 k0, .bool b0, .int .i64 n0, .string t0, .slice A5 l5 c5, .slice A6 l6 c6] 25)) (.cells #[.int .u8 0, .int .u8 0, .int .u8 0, .int .u8 0, .int .u8 0, .int .u8 0, .int .u8 0, .int .u8 0, .int .u8 0, .int .u8 0, .int .u8 0, .int .u8 0, .int .u8 0, .int .u8 0, .int .u8 0, .int .u8 0, .int .u8 0, .int .u8 0, .int .u8 0, .int .u8 0, .int .u8 0, .int .u8 0, .int .u8 0, .int .u8 0, .int .u8 0, .int .u8 0, .int .u8 0, .int .u8 0, .int .u8 0, .int .u8 0, .int .u8 0, .int .u8 0] 29)
 have e2 : ((w.alloc (.cells #[.int .i64 k0, .bool b0, .int .i64 n0, .string t0, .slice A5 l5 c5, .slice A6 l6 c6] 25)).alloc (.cells #[.int .u8 0, .int .u8 0, .int .u8 0, .int .u8 0, .int .u8 0, .int .u8 0, .int .u8 0, .int .u8 0, .int .u8 0, .int .u8 0, .int .u8 0, .int .u8 0, .int .u8 0, .int .u8 0, .int .u8 0, .int .u8 0, .int .u8 0, .int .u8 0, .int .u8 0, .int .u8 0, .int .u8 0, .int .u8 0, .int .u8 0, .int .u8 0, .int .u8 0, .int .u8 0, .int .u8 0, .int .u8 0, .int .u8 0, .int .u8 0, .int .u8 0, .int .u8 0] 29)).heap[(w.alloc (.cells #[.int .i64 k0, .bool b0, .int .i64 n0, .string t0, .slice A5 l5 c5, .slice A6 l6 c6] 25)).heap.size]? = some (.cells (idA noId) 29 (0, 0)) := heap_alloc_new (w.alloc (.cells #[.int .i64 k0, .bool b0, .int .i64 n0, .string t0, .slice A5 l5 c5, .slice A6 l6 c6] 25)) (.cells #[.int .u8 0, .int .u8 0, .int .u8 0, .int .u8 0, .int .u8 0, .int .u8 0, .int .u8 0, .int .u8 0, .int .u8 0, .int .u8 0, .int .u8 0, .int .u8 0, .int .u8 0, .int .u8 0, .int .u8 0, .int .u8 0, .int .u8 0, .int .u8 0, .int .u8 0, .int .u8 0, .int .u8 0, .int .u8 0, .int .u8 0, .int .u8 0, .int .u8 0, .int .u8 0, .int .u8 0, .int .u8 0, .int .u8 0, .int .u8 0, .int .u8 0, .int .u8 0] 29)
 rw [s1] at e2
 have HE1 := Lib.hid (e1.next b2)
 have HE2 := Lib.hid e2
 have HW2 := Lib.hid (b1.trans (b2.mono (by rw [s1]; omega)))
 clear b1 s1 e1 b2 e2
 go_enter Tryz.func23, Tryz.ntmps23
 go_upto_region 1 with fail
 generalize ((w.alloc (.cells #[.int .i64 k0, .bool b0, .int .i64 n0, .string t0, .slice A5 l5 c5, .slice A6 l6 c6] 25)).alloc (.cells #[.int .u8 0, .int .u8 0, .int .u8 0, .int .u8 0, .int .u8 0, .int .u8 0, .int .u8 0, .int .u8 0, .int .u8 0, .int .u8 0, .int .u8 0, .int .u8 0, .int .u8 0, .int .u8 0, .int .u8 0, .int .u8 0, .int .u8 0, .int .u8 0, .int .u8 0, .int .u8 0, .int .u8 0, .int .u8 0, .int .u8 0, .int .u8 0, .int .u8 0, .int .u8 0, .int .u8 0, .int .u8 0, .int .u8 0, .int .u8 0, .int .u8 0, .int .u8 0] 29)) = w2 at HE1 HE2 HW2 ⊢
 obtain ⟨N, hN⟩ : ∃ N, w.heap.size = N := ⟨_, rfl⟩
 rw [hN] at HE1 HE2 ⊢
 have HN := Lib.hid hN
 clear hN
 obtain ⟨x0, x1, x2, x3, x4, x5⟩ := HE1.out.cells
 go_wp2_with fail
 refine (HP.out w2).mono ?_
 rintro e w3 ⟨rfl, hb3⟩
 have HB2 := Lib.hid (blk_next hb3 HE2.out)
 have HW3 := Lib.hid (HW2.out.trans (hb3.mono HW2.out.size))
 clear hb3 x0 x1 x2 x3 x4 x5 HE1 HE2 HW2
 have hal := below_box w3 (.cells #[.int .u8 0, .int .u8 0, .int .u8 0, .int .u8 0, .int .u8 0, .int .u8 0, .int .u8 0, .int .u8 0, .int .u8 0, .int .u8 0, .int .u8 0, .int .u8 0, .int .u8 0, .int .u8 0, .int .u8 0, .int .u8 0, .int .u8 0, .int .u8 0, .int .u8 0, .int .u8 0, .int .u8 0, .int .u8 0, .int .u8 0, .int .u8 0, .int .u8 0, .int .u8 0, .int .u8 0, .int .u8 0, .int .u8 0, .int .u8 0, .int .u8 0, .int .u8 0] 29)
 have HQ : Hid ((w3.alloc (.cells #[.int .u8 0, .int .u8 0, .int .u8 0, .int .u8 0, .int .u8 0, .int .u8 0, .int .u8 0, .int .u8 0, .int .u8 0, .int .u8 0, .int .u8 0, .int .u8 0, .int .u8 0, .int .u8 0, .int .u8 0, .int .u8 0, .int .u8 0, .int .u8 0, .int .u8 0, .int .u8 0, .int .u8 0, .int .u8 0, .int .u8 0, .int .u8 0, .int .u8 0, .int .u8 0, .int .u8 0, .int .u8 0, .int .u8 0, .int .u8 0, .int .u8 0, .int .u8 0] 29)).heap[w3.heap.size]? = some (.cells (idA noId) 29 (0, 0))) := Lib.hid (heap_alloc_new w3 (.cells #[.int .u8 0, .int .u8 0, .int .u8 0, .int .u8 0, .int .u8 0, .int .u8 0, .int .u8 0, .int .u8 0, .int .u8 0, .int .u8 0, .int .u8 0, .int .u8 0, .int .u8 0, .int .u8 0, .int .u8 0, .int .u8 0, .int .u8 0, .int .u8 0, .int .u8 0, .int .u8 0, .int .u8 0, .int .u8 0, .int .u8 0, .int .u8 0, .int .u8 0, .int .u8 0, .int .u8 0, .int .u8 0, .int .u8 0, .int .u8 0, .int .u8 0, .int .u8 0] 29))
 have HB3 := Lib.hid (blk_next hal HB2.out)
 have HW4 := Lib.hid (HW3.out.trans (hal.mono HW3.out.size))
 have hlt := (Array.getElem?_eq_some_iff.1 HB2.out).1
 have hMw := HW3.out.size
 clear hal HB2 HW3
 generalize hW2 : (w3.alloc (.cells #[.int .u8 0, .int .u8 0, .int .u8 0, .int .u8 0, .int .u8 0, .int .u8 0, .int .u8 0, .int .u8 0, .int .u8 0, .int .u8 0, .int .u8 0, .int .u8 0, .int .u8 0, .int .u8 0, .int .u8 0, .int .u8 0, .int .u8 0, .int .u8 0, .int .u8 0, .int .u8 0, .int .u8 0, .int .u8 0, .int .u8 0, .int .u8 0, .int .u8 0, .int .u8 0, .int .u8 0, .int .u8 0, .int .u8 0, .int .u8 0, .int .u8 0, .int .u8 0] 29)) = W2 at HQ HB3 HW4
 generalize hM : w3.heap.size = M at HQ hlt hMw
 go_upto_region 2 with (refine wpList_store_row rfl 29 _ _ rfl _ rfl (idA noId) (idA I) rfl HQ.out rfl (by rw [info29]; rfl) (idC_one _) ?_; intro w8 hk8 hx8)
 have HQ8 := Lib.hid hx8
 have HB8 := Lib.hid (hk8.blk HB3.out (by simp; omega))
 have HW8 := Lib.hid (HW4.out.trans (hk8.to HW4.out.size (by intro j hj; simp at hj; omega)))
 go_wp2_with (first | (refine wpList_load29 rfl _ rfl _ rfl I HQ8.out ?_) | (refine wpList_store_row rfl 29 _ _ rfl _ rfl (idA noId) (idA I) rfl HB8.out rfl (by rw [info29]; rfl) (idC_one _) ?_; intro w9 hk9 hx9))
 refine bodyPost_ret (results_row1 rfl _ _ _ (N + 1) (idA I) rfl (id_load hx9)) rfl ?_
 exact ⟨rfl, HW8.out.trans (hk9.to HW8.out.size (by intro j hj; simp at hj; have := HN.out; omega))⟩
end Go.Proofs.YtimioelnnhnbiaaGreatDoor
namespace Go.Proofs.YtimioelnnhnbiaaGreatDoor
open Go.RowKit
theorem infoidE : (Tryz.prog.info? 29).map (fun i => (i.zero, i.size, i.bytes)) = some (some (.agg #[.int .u8 0, .int .u8 0, .int .u8 0, .int .u8 0, .int .u8 0, .int .u8 0, .int .u8 0, .int .u8 0, .int .u8 0, .int .u8 0, .int .u8 0, .int .u8 0, .int .u8 0, .int .u8 0, .int .u8 0, .int .u8 0, .int .u8 0, .int .u8 0, .int .u8 0, .int .u8 0, .int .u8 0, .int .u8 0, .int .u8 0, .int .u8 0, .int .u8 0, .int .u8 0, .int .u8 0, .int .u8 0, .int .u8 0, .int .u8 0, .int .u8 0, .int .u8 0]), 32, 32) := by kernel_rfl
theorem kept_id : Kept 32 (RC idC) := kept_C (fun _ => rfl) (fun x v hv => idC_one x v (by unfold idA; simpa using hv))
theorem fill29 (I : Nat → UInt8) : Instr.fill (fun i => some (i * 32, 32)) ((Array.range (1 * 32)).map ((Value.agg #[.int .u8 0, .int .u8 0, .int .u8 0, .int .u8 0, .int .u8 0, .int .u8 0, .int .u8 0, .int .u8 0, .int .u8 0, .int .u8 0, .int .u8 0, .int .u8 0, .int .u8 0, .int .u8 0, .int .u8 0, .int .u8 0, .int .u8 0, .int .u8 0, .int .u8 0, .int .u8 0, .int .u8 0, .int .u8 0, .int .u8 0, .int .u8 0, .int .u8 0, .int .u8 0, .int .u8 0, .int .u8 0, .int .u8 0, .int .u8 0, .int .u8 0, .int .u8 0]).cells[· % (Value.agg #[.int .u8 0, .int .u8 0, .int .u8 0, .int .u8 0, .int .u8 0, .int .u8 0, .int .u8 0, .int .u8 0, .int .u8 0, .int .u8 0, .int .u8 0, .int .u8 0, .int .u8 0, .int .u8 0, .int .u8 0, .int .u8 0, .int .u8 0, .int .u8 0, .int .u8 0, .int .u8 0, .int .u8 0, .int .u8 0, .int .u8 0, .int .u8 0, .int .u8 0, .int .u8 0, .int .u8 0, .int .u8 0, .int .u8 0, .int .u8 0, .int .u8 0, .int .u8 0]).cells.size]!)) [(0, .agg (idA I))] = some (idA I) := by kernel_rfl
theorem wpList_bs29 {ops : Array Oper} {rest : List Oper} {op : Oper} {a : Act} {w : World} {Q : Exit → Act → World → Prop} (hgd : op.guard = none) (x : Operand) (ho : op.op = .buildSlice 47 1 #[(0, x)]) (I : Nat → UInt8) (hx : a.eval x = .agg (idA I))
  (k : wpList Tryz.prog ops Q rest (a.put op.dst (.slice (some ⟨w.heap.size, 0, none⟩) 1 1)) (w.alloc (.cells (idA I) 29))) : wpList Tryz.prog ops Q (op :: rest) a w := by
 obtain ⟨i0, hi, hz0, hz1, hz2⟩ := info_parts infoidE
 refine wpList_buildSlice hgd 47 29 1 #[(0, x)] ho (idA I) i0 _ Tryz.underlying47 hi hz0 (by rw [hz1]; decide) (by rw [hz1]; decide) ?_ k
 rw [hz1, Array.toList_map]
 show Instr.fill _ _ [(0, a.eval x)] = _
 rw [hx]
 exact fill29 I
theorem text_bytes : ∀ y : Js.J, y.text.length ≤ Js.bytes y
 | .mk _ _ _ t l m => by show t.length ≤ t.length + Js.bytesL l + Js.bytesM m; omega
theorem bytesL_mem : ∀ (l : List Js.J) (k : Nat) (y : Js.J), l[k]? = some y → Js.bytes y ≤ Js.bytesL l
 | [], _, _, h => by simp at h
 | x :: t, 0, y, h => by simp at h; subst h; show Js.bytes x ≤ Js.bytes x + Js.bytesL t; omega
 | x :: t, k + 1, y, h => by
  have := bytesL_mem t k y (by simpa using h)
  show Js.bytes y ≤ Js.bytes x + Js.bytesL t; omega
theorem item_text (x : Js.J) (k : Nat) (y : Js.J) (h : x.items[k]? = some y) : y.text.length ≤ Js.bytes x := by
 obtain ⟨kk, b, n, t, l, m⟩ := x
 have h1 := bytesL_mem l k y h
 have h2 := text_bytes y
 show _ ≤ t.length + Js.bytesL l + Js.bytesM m
 omega
theorem getM_bytes : ∀ (m : List (Js.Bs × Js.J)) (nm : Js.Bs) (y : Js.J), Js.getM m nm = some y → Js.bytes y ≤ Js.bytesM m
 | [], _, _, h => by cases h
 | (n, x) :: t, nm, y, h => by
  unfold Js.getM at h
  show Js.bytes y ≤ n.length + Js.bytes x + Js.bytesM t
  split at h
  ·injection h with h; subst h; omega
  ·have := getM_bytes t nm y h; omega
theorem of_bytes (x : Js.J) (nm : Js.Bs) : Js.bytes (ofP x nm) ≤ Js.bytes x := by
 unfold ofP Js.getOf
 obtain ⟨k, b, n, t, l, m⟩ := x
 split
 ·cases h : Js.getM (Js.J.mk k b n t l m).members nm with
  | none => exact Nat.zero_le _
  | some y =>
   have := getM_bytes m nm y h
   show Js.bytes y ≤ t.length + Js.bytesL l + Js.bytesM m
   omega
 ·exact Nat.zero_le _
set_option maxRecDepth 100000 in
set_option maxHeartbeats 8000000 in
theorem each_id (x : Js.J) (nm : Js.Bs) (vs : List Value) (S : Nat → Prop) (w : World) (hjv : JV w S x vs) (hSw : ∀ g, S g → g < w.heap.size) (hn : Js.nodes x ≤ 1000000) (hby : Js.bytes x ≤ 1073741824) :
  Calls Tryz.prog 32 #[.agg vs.toArray, .string (str nm), .func (.func 23) #[] #[]] w fun e w' => Below w.heap.size w w' ∧ ∃ (Av : Option Addr) (cv : Nat), e = .returned (.slice Av (ofP x nm).items.length cv) ∧ (ofP x nm).items.length ≤ cv ∧ RowAt 32 idC w' Av ((ofP x nm).items.map idOf) ∧ (∀ a, Av = some a → w.heap.size ≤ a.block ∧ a.block < w'.heap.size) := by
 have HJ := Lib.hid hjv
 have HSS := Lib.hid hSw
 obtain ⟨A5, c5, A6, c6, k0, b0, n0, t0, l5, l6, rfl⟩ := hjv.shape
 have b1 := below_box w (.cells #[.int .i64 k0, .bool b0, .int .i64 n0, .string t0, .slice A5 l5 c5, .slice A6 l6 c6] 25)
 have e1 : JBox _ _ _ _ _ _ _ _ := heap_alloc_new w (.cells #[.int .i64 k0, .bool b0, .int .i64 n0, .string t0, .slice A5 l5 c5, .slice A6 l6 c6] 25)
 have HE1 := Lib.hid e1
 have HJ1 := Lib.hid (HJ.out.next b1)
 have HW1 := Lib.hid b1
 have HON := Lib.hid (of_nodes x nm)
 have HTB0 : Hid (∀ (k : Nat) (y : Js.J), (ofP x nm).items[k]? = some y → y.text.length ≤ 1073741824) := Lib.hid (fun k y hy => Nat.le_trans (item_text (ofP x nm) k y hy) (Nat.le_trans (of_bytes x nm) hby))
 clear hby
 clear b1 e1 HJ hSw hjv
 go_enter Tryz.func32, Tryz.ntmps32
 go_upto_region 1 with fail
 generalize (w.alloc (.cells #[.int .i64 k0, .bool b0, .int .i64 n0, .string t0, .slice A5 l5 c5, .slice A6 l6 c6] 25)) = w1 at HE1 HJ1 HW1 ⊢
 obtain ⟨x0, x1, x2, x3, x4, x5⟩ := HE1.out.cells
 go_wp2_with fail
 refine (of_any x nm _ S w1 HJ1.out (fun g hg => Nat.lt_of_lt_of_le (HSS.out g hg) HW1.out.size) (by omega)).mono ?_
 rintro e w2 ⟨hb2, us, rfl, hju⟩
 obtain ⟨C5, d5, C6, d6, rfl, -, hil, -⟩ := jv_open hju
 have HIL := Lib.hid hil
 have HW2 := Lib.hid (HW1.out.trans (hb2.mono HW1.out.size))
 have HIT := Lib.hid (items_le (ofP x nm))
 clear hju hb2 HJ1 HE1 HW1 x0 x1 x2 x3 x4 x5 hil
 obtain ⟨z, hz⟩ : ∃ z, ofP x nm = z := ⟨_, rfl⟩
 rw [hz] at HIL HIT HON ⊢
 have hfl := fld4
 have hsmall : z.items.length ≤ 1000000 := by have h1 := HIT.out.1; have h2 := HON.out; omega
 have HZE := Lib.hid hz
 clear hz
 have HZN : Hid (∀ (k : Nat) (y : Js.J), z.items[k]? = some y → Js.nodes y ≤ 1073741824) := Lib.hid (fun k y hy => by have h1 := HIT.out.2 k y hy; have h2 := HON.out; omega)
 have HSW : Hid (∀ W, Below w.heap.size w W → ∀ g, S g → g < W.heap.size) := Lib.hid (fun W hW g hg => Nat.lt_of_lt_of_le (HSS.out g hg) hW.size)
 clear HIT HON hn HSS
 obtain ⟨items, hit⟩ : ∃ l, z.items = l := ⟨_, rfl⟩
 rw [hit] at HIL HZN hsmall ⊢
 have HEQ : Hid ((ofP x nm).items = items) := Lib.hid (by rw [HZE.out]; exact hit)
 have HTB : Hid (∀ (k : Nat) (y : Js.J), items[k]? = some y → y.text.length ≤ 1073741824) := Lib.hid (by rw [← HEQ.out]; exact HTB0.out)
 clear HZE HTB0
 have HG0 : Hid (Gr 29 32 (RC idC) (fun _ => False) w2.heap.size ((items.take 0).map idOf) (.slice none 0 0) [] w2) := Lib.hid Gr.nil
 go_wp2_with fail
 clear hfl
 go_loopw [7, 15] (fun a i wr => ∃ (k : Nat) (Av : Option Addr) (cv : Nat) (rs : List (List Value)), k ≤ items.length ∧ a = .slice Av k cv ∧ i = .int .i64 k ∧ Hid (Gr 29 32 (RC idC) (fun _ => False) w2.heap.size ((items.take k).map idOf) (.slice Av k cv) rs wr) ∧
  Hid (Below w2.heap.size w2 wr)) (fun _ i _ => items.length - (intOf i).toNat)
 case atStart => exact ⟨0, none, 0, [], by omega, rfl, rfl, HG0, Lib.hid (Below.refl _ _)⟩
 case round =>
  obtain ⟨k, Av, cv, rs, hk, rfl, rfl, HG, HW⟩ := hrel
  by_cases hlt : k < items.length
  ·have hcon : decide ((k : Int) < (items.length : Int)) = true := by simp; omega
   obtain ⟨y, hy⟩ : ∃ y, items[k]? = some y := ⟨items[k], List.getElem?_eq_getElem hlt⟩
   obtain ⟨g, o, k1, b1, n1, t1, A7, l7, c7, A8, l8, c8, hA, hSg, hg, q0, q1, q2, q3, q4, q5, hjy⟩ := (JL.next HIL.out HW.out).elem hy
   subst hA
   have HY := Lib.hid hy
   have hyl := below_box wr (.cells #[.int .i64 k1, .bool b1, .int .i64 n1, .string t1, .slice A7 l7 c7, .slice A8 l8 c8] 25)
   have HB : Hid (JBox _ wr.heap.size _ _ _ _ _ _) := Lib.hid (heap_alloc_new wr (.cells #[.int .i64 k1, .bool b1, .int .i64 n1, .string t1, .slice A7 l7 c7, .slice A8 l8 c8] 25))
   have HG1 := Lib.hid (HG.out.next kept_id hyl)
   have HW1 := Lib.hid (HW.out.trans (hyl.mono HW.out.size))
   have HJ1 := Lib.hid (hjy.next hyl)
   clear hyl hjy hSg hy HG HW
   go_upto_region 5 with fail
   generalize (wr.alloc (.cells #[.int .i64 k1, .bool b1, .int .i64 n1, .string t1, .slice A7 l7 c7, .slice A8 l8 c8] 25)) = w3 at HB HG1 HW1 HJ1 ⊢
   generalize wr.heap.size = Q at HB ⊢
   clear q0 q1 q2 q3 q4 q5 hg
   obtain ⟨x0, x1, x2, x3, x4, x5⟩ := HB.out.cells
   go_wp2_with fail
   refine (from_id y _ S w3 HJ1.out (HTB.out k y HY.out)).mono ?_
   rintro e w4 ⟨rfl, hb4⟩
   have HG4 := Lib.hid (HG1.out.next kept_id hb4)
   have HW4 := Lib.hid (HW1.out.trans (hb4.mono HW1.out.size))
   clear hb4 HG1 HW1 HJ1 HB x0 x1 x2 x3 x4 x5
   have hal := below_box w4 (.cells (idA (idOf y)) 29)
   have HQ := Lib.hid (heap_alloc_new w4 (.cells (idA (idOf y)) 29))
   have HG5 := Lib.hid (HG4.out.next kept_id hal)
   have HW5 := Lib.hid (HW4.out.trans (hal.mono HW4.out.size))
   clear hal HG4 HW4
   obtain ⟨i0, hi, hz0, hz1, hz2⟩ := info_parts infoidE
   have hlk : ((items.take k).map idOf).length = k := by rw [List.length_map, List.length_take]; omega
   have hown := HG5.out.own.own
   rw [hlk] at hown
   generalize hW2 : (w4.alloc (.cells (idA (idOf y)) 29)) = W2 at HQ HG5 HW5 hown
   generalize hM : w4.heap.size = M at HQ
   go_wp2_with (first | (refine wpList_bs29 rfl _ rfl (idOf y) rfl ?_; rw [hW2, hM]) | (at_builtin; refine wpList_append_lies W2 rfl (.tmp 19) (.tmp 23) 47 rfl w2.heap.size 29 i0 (.agg #[.int .u8 0, .int .u8 0, .int .u8 0, .int .u8 0, .int .u8 0, .int .u8 0, .int .u8 0, .int .u8 0, .int .u8 0, .int .u8 0, .int .u8 0, .int .u8 0, .int .u8 0, .int .u8 0, .int .u8 0, .int .u8 0, .int .u8 0, .int .u8 0, .int .u8 0, .int .u8 0, .int .u8 0, .int .u8 0, .int .u8 0, .int .u8 0, .int .u8 0, .int .u8 0, .int .u8 0, .int .u8 0, .int .u8 0, .int .u8 0, .int .u8 0, .int .u8 0]) 32 32 Tryz.underlying47 hi hz0 hz1 hz2 rfl (by decide) (.slice Av k cv) k rs.flatten rfl hown ⟨M, 0, none⟩ 1 1 (idC (idOf y)) rfl rfl (World.news_of_block (show W2.heap[M]? = some (.cells (idC (idOf y)).toArray 29 (0, 0)) from HQ.out)) (idC_one (idOf y)) (by decide) (by unfold maxLen; omega) (by omega) HG5.out.own.le W2.heap.size rfl ?_; intro g9 cap W3 hown3 hgrow hat3 hlt3))
   obtain ⟨hG6, hk6⟩ := HG5.out.push kept_id (x := idOf y) (vs := (idC (idOf y))) rfl (by rw [hlk]; exact hown3) hgrow hat3
   rw [hlk] at hG6
   have htk : (items.take k).map idOf ++ [idOf y] = (items.take (k + 1)).map idOf := by rw [List.take_add_one, HY.out, List.map_append]; rfl
   rw [htk] at hG6
   have HG6 := Lib.hid hG6
   have HW6 := Lib.hid (HW5.out.trans (hk6.to HW5.out.size (by
    intro j hj
    have hm : (Value.slice Av k cv).ownBlock = some j := by simpa using hj
    have := (HG5.out.own.lt j hm).1
    omega)))
   go_roundw
   case rel => exact ⟨k + 1, _, _, _, by omega, rfl, by go_num, HG6, HW6⟩
   case measure => simp [intOf]; omega
  ·obtain rfl : k = items.length := by omega
   have hcon : decide (((items.length : Nat) : Int) < (items.length : Int)) = false := by simp
   have HR : Hid (RowAt 32 idC wr Av (items.map idOf) ∧ items.length ≤ cv ∧ ∀ a, Av = some a → w2.heap.size ≤ a.block ∧ a.block < wr.heap.size) := Lib.hid (by
    have h1 := HG.out
    rw [List.take_length] at h1
    have h2 := h1.own
    rw [List.length_map] at h2
    exact ⟨h1.rowAt kept_id, (own_cap h2).1, fun a ha => h1.own.lt a.block (by rw [ha]; rfl)⟩)
   go_wp2_with fail
   go_ret
   rw [HEQ.out]
   exact ⟨HW2.out.trans (HW.out.mono HW2.out.size), Av, cv, rfl, HR.out.2.1, HR.out.1, fun a ha => ⟨Nat.le_trans HW2.out.size (HR.out.2.2 a ha).1, (HR.out.2.2 a ha).2⟩⟩
end Go.Proofs.YtimioelnnhnbiaaGreatDoor
namespace Go.Proofs.YtimioelnnhnbiaaGreatDoor
open Go.RowKit
set_option maxRecDepth 100000 in
set_option maxHeartbeats 8000000 in
theorem list_file (l : List (Js.Bs × Js.Bs)) (A : Option Addr) (c : Nat) (w : World) (hR : RowAt 2 fileC w A l) (hlen : l.length ≤ 1000000) :
  Calls Tryz.prog 63 #[.slice A l.length c, .func (.func 64) #[] #[]] w fun e w' => Below w.heap.size w w' ∧ ∃ (Av : Option Addr) (cv : Nat), e = .returned (.agg #[.int .i64 5, .bool false, .int .i64 0, .string ⟨#[]⟩, .slice Av l.length cv, .slice none 0 0]) ∧
   JV w' (fun g => w.heap.size ≤ g) (.mk 5 false 0 [] (l.map jFile) []) [.int .i64 5, .bool false, .int .i64 0, .string ⟨#[]⟩, .slice Av l.length cv, .slice none 0 0] := by
 have HMADE := Lib.hid made_file
 have HR : Hid (∀ W, Below w.heap.size w W → RowAt 2 fileC W A l) := Lib.hid (fun W hW => hR.next hW)
 have b1 := below_box w (.cells #[.int .i64 0, .bool false, .int .i64 0, .string ⟨#[]⟩, .slice none 0 0, .slice none 0 0] 25)
 have s1 : (w.alloc (.cells #[.int .i64 0, .bool false, .int .i64 0, .string ⟨#[]⟩, .slice none 0 0, .slice none 0 0] 25)).heap.size = w.heap.size + 1 := by simp
 have e1 : JBox _ _ _ _ _ _ _ _ := heap_alloc_new w (.cells #[.int .i64 0, .bool false, .int .i64 0, .string ⟨#[]⟩, .slice none 0 0, .slice none 0 0] 25)
 have b2 := below_box (w.alloc (.cells #[.int .i64 0, .bool false, .int .i64 0, .string ⟨#[]⟩, .slice none 0 0, .slice none 0 0] 25)) (.cells #[.int .i64 5, .bool false, .int .i64 0, .string ⟨#[]⟩, .slice none 0 0, .slice none 0 0] 25)
 have e2 : JBox _ _ _ _ _ _ _ _ := heap_alloc_new (w.alloc (.cells #[.int .i64 0, .bool false, .int .i64 0, .string ⟨#[]⟩, .slice none 0 0, .slice none 0 0] 25)) (.cells #[.int .i64 5, .bool false, .int .i64 0, .string ⟨#[]⟩, .slice none 0 0, .slice none 0 0] 25)
 have s2 : ((w.alloc (.cells #[.int .i64 0, .bool false, .int .i64 0, .string ⟨#[]⟩, .slice none 0 0, .slice none 0 0] 25)).alloc (.cells #[.int .i64 5, .bool false, .int .i64 0, .string ⟨#[]⟩, .slice none 0 0, .slice none 0 0] 25)).heap.size = w.heap.size + 2 := by simp
 rw [s1] at e2
 have HE1 := Lib.hid (e1.next b2)
 have HE2 := Lib.hid e2
 have HW2 := Lib.hid (b1.trans (b2.mono (by rw [s1]; omega)))
 have HS2 := Lib.hid s2
 clear b1 s1 e1 b2 e2 s2 hR
 go_enter Tryz.func63, Tryz.ntmps63
 go_upto_region 2 with fail
 generalize ((w.alloc (.cells #[.int .i64 0, .bool false, .int .i64 0, .string ⟨#[]⟩, .slice none 0 0, .slice none 0 0] 25)).alloc (.cells #[.int .i64 5, .bool false, .int .i64 0, .string ⟨#[]⟩, .slice none 0 0, .slice none 0 0] 25)) = w2 at HE1 HE2 HW2 HS2 ⊢
 obtain ⟨N, hN⟩ : ∃ N, w.heap.size = N := ⟨_, rfl⟩
 rw [hN] at HE1 HE2 HS2 ⊢
 have HN := Lib.hid hN
 clear hN
 have HG0 : Hid (Gr 25 6 JV (fun g => N + 2 ≤ g) (N + 2) ((l.take 0).map jFile) (.slice none 0 0) [] w2) := Lib.hid (by rw [← HS2.out]; exact Gr.nil)
 go_wp2_with fail
 go_loopw [11] (fun i wr => ∃ (k : Nat) (Av : Option Addr) (cv : Nat) (rs : List (List Value)), k ≤ l.length ∧ i = .int .i64 k ∧ Hid (Gr 25 6 JV (fun g => N + 2 ≤ g) (N + 2) ((l.take k).map jFile) (.slice Av k cv) rs wr) ∧
  Hid (JBox wr N (.int .i64 0) (.bool false) (.int .i64 0) (.string ⟨#[]⟩) (.slice none 0 0) (.slice none 0 0)) ∧ Hid (JBox wr (N + 1) (.int .i64 5) (.bool false) (.int .i64 0) (.string ⟨#[]⟩) (.slice Av k cv) (.slice none 0 0)) ∧ Hid (Below N w wr)) (fun i _ => l.length - (intOf i).toNat)
 case atStart => exact ⟨0, none, 0, [], by omega, rfl, HG0, HE1, HE2, HN.out ▸ HW2⟩
 case round =>
  obtain ⟨k, Av, cv, rs, hk, rfl, HG, HZ, HX, HW⟩ := hrel
  by_cases hlt : k < l.length
  ·obtain ⟨x, hx⟩ : ∃ x, l[k]? = some x := ⟨l[k], List.getElem?_eq_getElem hlt⟩
   obtain ⟨g, o, hA1, hg, hcell⟩ := HR.out wr (by rw [HN.out]; exact HW.out) k x hx
   subst hA1
   have q0 : wr.cell? ⟨g, o + k * 2, none⟩ = some (.string (str x.1)) := hcell 0 _ rfl
   have q1 : wr.cell? ⟨g, o + k * 2 + 1, none⟩ = some (.string (str x.2)) := hcell 1 _ rfl
   have HY := Lib.hid hx
   clear hx hcell hg
   have hyl := below_box wr (.cells #[.string (str x.1), .string (str x.2)] 75)
   have hHB := heap_alloc_new wr (.cells #[.string (str x.1), .string (str x.2)] 75)
   have hYL : wr.heap.size < (wr.alloc (.cells #[.string (str x.1), .string (str x.2)] 75)).heap.size := by simp
   have HGa := Lib.hid (HG.out.next kept_I hyl)
   have HZa := Lib.hid (HZ.out.next hyl)
   have HXa := Lib.hid (HX.out.next hyl)
   have hwsz : N ≤ wr.heap.size := by have := HX.out.lt; omega
   have HWa : Hid (Below N w _) := Lib.hid (HW.out.trans (hyl.mono hwsz))
   have HHB := Lib.hid hHB
   have HYLa := Lib.hid hYL
   clear hyl hHB hYL HG HZ HX HW
   go_upto_region 5 with fail
   clear q0 q1
   generalize (wr.alloc (.cells #[.string (str x.1), .string (str x.2)] 75)) = wq at HGa HZa HXa HWa HHB HYLa ⊢
   generalize wr.heap.size = Y at HHB HYLa hwsz ⊢
   go_wp2_with fail
   refine wp_region_any (by kernel_rfl) ?_
   change wpAny _ _ _ _ _ _ _ (World.drew _)
   have hbd : Below wq.heap.size wq wq.drew := below_drewN (Below.refl _ _) 1
   have HG1 := Lib.hid (HGa.out.next kept_I hbd)
   have HZ1 := Lib.hid (HZa.out.next hbd)
   have HX1 := Lib.hid (HXa.out.next hbd)
   have HW1 : Hid (Below N w wq.drew) := Lib.hid (HWa.out.trans (hbd.mono (by have := HXa.out.lt; omega)))
   have HYL : Hid (Y < wq.drew.heap.size) := Lib.hid (Nat.lt_of_lt_of_le HYLa.out hbd.size)
   have hs5 : wq.drew.cell? ⟨N + 1, 4, none⟩ = some (.slice Av k cv) := HX1.out.cells.2.2.2.2.1
   have HS := Lib.hid (show (fun W => W.cell? ⟨N + 1, 4, none⟩ = some (.slice Av k cv) ∧ W.cell? ⟨Y, 0, none⟩ = some (.string (str x.1)) ∧ W.cell? ⟨Y, 1, none⟩ = some (.string (str x.2))) wq.drew from ⟨hs5, (blk_cells (blk_next hbd HHB.out) 0).trans rfl, (blk_cells (blk_next hbd HHB.out) 1).trans rfl⟩)
   clear hbd hs5 HGa HZa HXa HWa HHB HYLa hwsz
   generalize wq.drew = W at HG1 HZ1 HX1 HW1 HS HYL ⊢
   refine wpAny_of_till (S := fun W => W.cell? ⟨N + 1, 4, none⟩ = some (.slice Av k cv) ∧ W.cell? ⟨Y, 0, none⟩ = some (.string (str x.1)) ∧ W.cell? ⟨Y, 1, none⟩ = some (.string (str x.2))) (st := (fun l => l.getD 6 false)) _ _ _ _ ?_
   change wpTill _ _ _ _ _ _ _ #[false, false, false, false, false, false, false, false, false] _ _
   refine wpTill_takeF (i := 0) (v := .pointer (some ⟨N + 1, 4, none⟩)) rfl (by kernel_rfl) (by kernel_rfl) (by kernel_rfl) (fun l => getD_set_ne false (by decide)) (fun _ _ _ h => h) (Or.inl ⟨by rfl, ?yb0⟩) (fun _ => HS.out) ?_
   case yb0 => (intro W0 _; go_simp; (try with_reducible rfl))
   simp only [Act.put, CL]
   refine wpTill_take (i := 1) (v := .slice Av k cv) rfl (by kernel_rfl) (by kernel_rfl) (by kernel_rfl) (shut_of (by kernel_rfl)) (fun l h h9 => (Shutd.step h (j := 6) (k := 1) (by kernel_rfl) h9)) (fun l => getD_set_ne false (by decide)) (fun _ _ _ h => h) (Or.inl ⟨by rfl, ?yb1⟩) HS.out (fun _ => ?_)
   case yb1 => (intro W0 hS; obtain ⟨s1, e0, e1⟩ := hS; go_simp; (try with_reducible rfl))
   simp only [Act.put, CL]
   refine wpTill_takeF (i := 2) (v := .func (.func 64) #[] #[]) rfl (by kernel_rfl) (by kernel_rfl) (by kernel_rfl) (fun l => getD_set_ne false (by decide)) (fun _ _ _ h => h) (Or.inl ⟨by rfl, ?yb2⟩) (fun _ => HS.out) ?_
   case yb2 => (intro W0 _; go_simp; (try with_reducible rfl))
   simp only [Act.put, CL]
   refine wpTill_take (i := 3) (v := .agg #[.string (str x.1), .string (str x.2)]) rfl (by kernel_rfl) (by kernel_rfl) (by kernel_rfl) (shut_of (by kernel_rfl)) (fun l h h9 => (Shutd.step h (j := 4) (k := 3) (by kernel_rfl) (Shutd.step h (j := 6) (k := 4) (by kernel_rfl) h9))) (fun l => getD_set_ne false (by decide)) (fun _ _ _ h => h) (Or.inl ⟨by rfl, ?yb3⟩) HS.out (fun _ => ?_)
   case yb3 => (intro W0 hS; obtain ⟨s1, e0, e1⟩ := hS; go_simp; (try with_reducible rfl))
   simp only [Act.put, CL]
   refine wpTill_ready (rs := [4]) (by kernel_rfl) (by simp) ?_
   refine (AllTill.cons rfl (fun KK hKK => ?_) AllTill.nil)
   rw [if_pos (by rfl)]
   go_simp
   refine (HMADE.out x W).mono ?_
   rintro e W1 ⟨hb, us, rfl, hju⟩
   have HG2 := Lib.hid (HG1.out.next kept_I hb)
   have HZ2 := Lib.hid (HZ1.out.next hb)
   have HX2 := Lib.hid (HX1.out.next hb)
   have hwsz : N + 2 ≤ W.heap.size := by have := HX1.out.lt; omega
   have HW2 := Lib.hid (HW1.out.trans (hb.mono (by omega)))
   have HS2 : Hid ((fun W => W.cell? ⟨N + 1, 4, none⟩ = some (.slice Av k cv) ∧ W.cell? ⟨Y, 0, none⟩ = some (.string (str x.1)) ∧ W.cell? ⟨Y, 1, none⟩ = some (.string (str x.2))) W1) := Lib.hid (⟨hb.cell (p := ⟨N + 1, 4, none⟩) HX1.out.lt |>.trans HS.out.1, hb.cell (p := ⟨Y, 0, none⟩) HYL.out |>.trans HS.out.2.1, hb.cell (p := ⟨Y, 1, none⟩) HYL.out |>.trans HS.out.2.2⟩)
   have HYL2 := Lib.hid (Nat.lt_of_lt_of_le HYL.out hb.size)
   have HJ2 : Hid (JV W1 (fun g => N + 2 ≤ g ∧ (Value.slice Av k cv).ownBlock ≠ some g) (jFile x) us) := Lib.hid (hju.wide (fun g hg _ => ⟨by omega, HG1.out.fresh hg⟩))
   clear hb hju hwsz HG1 HZ1 HX1 HW1 HS HYL
   obtain ⟨A7, c7, A8, c8, k1, b1, n1, t1, l7, l8, rfl⟩ := HJ2.out.shape
   refine hKK _ _ (fun _ => HS2.out) ?_
   clear hKK KK
   simp only [Act.put, CL]
   refine wpTill_ready (rs := [5]) (by kernel_rfl) (by simp) ?_
   refine (AllTill.cons rfl (fun KK hKK => ?_) AllTill.nil)
   rw [if_pos (by rfl)]
   go_simp
   have hal := below_box W1 (.cells #[.int .i64 k1, .bool b1, .int .i64 n1, .string t1, .slice A7 l7 c7, .slice A8 l8 c8] 25)
   have HQ := Lib.hid (heap_alloc_new W1 (.cells #[.int .i64 k1, .bool b1, .int .i64 n1, .string t1, .slice A7 l7 c7, .slice A8 l8 c8] 25))
   have HG3 := Lib.hid (HG2.out.next kept_I hal)
   have HZ3 := Lib.hid (HZ2.out.next hal)
   have HX3 := Lib.hid (HX2.out.next hal)
   have HW3 := Lib.hid (HW2.out.trans (hal.mono (by have := HX2.out.lt; omega)))
   have HJ3 := Lib.hid (HJ2.out.next hal)
   have HS3 : Hid ((fun W => W.cell? ⟨N + 1, 4, none⟩ = some (.slice Av k cv) ∧ W.cell? ⟨Y, 0, none⟩ = some (.string (str x.1)) ∧ W.cell? ⟨Y, 1, none⟩ = some (.string (str x.2))) (W1.alloc (.cells #[.int .i64 k1, .bool b1, .int .i64 n1, .string t1, .slice A7 l7 c7, .slice A8 l8 c8] 25))) := Lib.hid (⟨hal.cell (p := ⟨N + 1, 4, none⟩) HX2.out.lt |>.trans HS2.out.1, hal.cell (p := ⟨Y, 0, none⟩) HYL2.out |>.trans HS2.out.2.1, hal.cell (p := ⟨Y, 1, none⟩) HYL2.out |>.trans HS2.out.2.2⟩)
   clear hal HG2 HZ2 HX2 HW2 HJ2 HS2 HYL2
   generalize (W1.alloc (.cells #[.int .i64 k1, .bool b1, .int .i64 n1, .string t1, .slice A7 l7 c7, .slice A8 l8 c8] 25)) = W2 at HQ HG3 HZ3 HX3 HW3 HJ3 HS3 ⊢
   obtain ⟨M, hM⟩ : ∃ M, W1.heap.size = M := ⟨_, rfl⟩
   rw [hM] at HQ ⊢
   clear hM
   refine hKK _ _ (fun _ => HS3.out) ?_
   clear hKK KK
   simp only [Act.put, CL]
   refine wpTill_ready (rs := [6]) (by kernel_rfl) (by simp) ?_
   refine (AllTill.cons rfl (fun KK hKK => ?_) AllTill.nil)
   rw [if_pos (by rfl)]
   obtain ⟨i0, hi, hz0, hz1, hz2⟩ := info_parts info25
   have hlk : ((l.take k).map jFile).length = k := by rw [List.length_map, List.length_take]; omega
   have hown := HG3.out.own.own
   rw [hlk] at hown
   refine wp_append_lies W2 (.tmp 16) (.tmp 20) 22 rfl (N + 2) 25 i0 zeroJ 6 88 Tryz.underlying22 hi hz0 hz1 hz2 rfl (by decide) (.slice Av k cv) k rs.flatten rfl hown ⟨M, 0, none⟩ 1 1 [.int .i64 k1, .bool b1, .int .i64 n1, .string t1, .slice A7 l7 c7, .slice A8 l8 c8] rfl rfl (World.news_of_block HQ.out) (by intro u hu; simp at hu; rcases hu with rfl | rfl | rfl | rfl | rfl | rfl <;> rfl) (by decide) (by unfold maxLen; omega) (by omega) HG3.out.own.le W2.heap.size rfl ?_
   intro g9 cap W3 hown3 hgrow hat3 hlt3
   have hNo : ∀ j, j < N + 2 → j ∉ (Value.slice Av k cv).ownBlock.toList := by
    intro j hj hm
    have hm : (Value.slice Av k cv).ownBlock = some j := by simpa using hm
    have := (HG3.out.own.lt j hm).1
    omega
   obtain ⟨hG4, hk3⟩ := HG3.out.push kept_I (x := jFile x) (vs := [.int .i64 k1, .bool b1, .int .i64 n1, .string t1, .slice A7 l7 c7, .slice A8 l8 c8]) HJ3.out (by rw [hlk]; exact hown3) hgrow hat3
   rw [hlk] at hG4
   have htk : (l.take k).map jFile ++ [jFile x] = (l.take (k + 1)).map jFile := by rw [List.take_add_one, HY.out, List.map_append]; rfl
   rw [htk] at hG4
   have HG4 := Lib.hid hG4
   have HZ4 : Hid (JBox W3 N _ _ _ _ _ _) := Lib.hid (HZ3.out.but hk3 (hNo N (by omega)))
   have HX4 : Hid (JBox W3 (N + 1) _ _ _ _ _ _) := Lib.hid (HX3.out.but hk3 (hNo (N + 1) (by omega)))
   have HW4 : Hid (Below N w W3) := Lib.hid (HW3.out.trans (hk3.to (by have := HX3.out.lt; omega) (by
    intro j hj
    have hm : (Value.slice Av k cv).ownBlock = some j := by simpa using hj
    have := (HG3.out.own.lt j hm).1
    omega)))
   clear hG4 hk3 hNo hgrow hown3 hown htk hat3 hlt3 hi hz0 hz1 hz2 hlk HG3 HZ3 HX3 HW3 HJ3 HS3 HQ
   refine hKK _ _ (fun h0 => absurd h0 (by decide)) ?_
   clear hKK KK
   simp only [Act.put, CL]
   refine wpTill_takeF (i := 7) (v := .pointer (some ⟨N + 1, 4, none⟩)) rfl (by kernel_rfl) (by kernel_rfl) (by kernel_rfl) (fun l => getD_set_ne false (by decide)) (fun _ _ _ h => h) (Or.inl ⟨by rfl, ?yb7⟩) (fun h0 => absurd h0 (by decide)) ?_
   case yb7 => (intro W0 _; go_simp; (try with_reducible rfl))
   simp only [Act.put, CL]
   refine wpTill_ready (rs := [8]) (by kernel_rfl) (by simp) ?_
   refine (AllTill.cons rfl (fun KK hKK => ?_) AllTill.nil)
   rw [if_pos (by rfl)]
   obtain ⟨hk4, hx4⟩ := but_set (i := 4) (.slice (some ⟨g9, 0, none⟩) (k + 1) cap) HX4.out
   have HG5 : Hid (Gr 25 6 JV (fun g => N + 2 ≤ g) (N + 2) ((l.take (k + 1)).map jFile) (.slice (some ⟨g9, 0, none⟩) (k + 1) cap) (rs ++ [[.int .i64 k1, .bool b1, .int .i64 n1, .string t1, .slice A7 l7 c7, .slice A8 l8 c8]]) (W3.setCell ⟨N + 1, 4, none⟩ (.slice (some ⟨g9, 0, none⟩) (k + 1) cap))) := Lib.hid (HG4.out.but kept_I hk4 (by intro j hj; simp at hj; omega) (by intro j hj; simp at hj; omega))
   have HZ5 : Hid (JBox (W3.setCell ⟨N + 1, 4, none⟩ (.slice (some ⟨g9, 0, none⟩) (k + 1) cap)) N _ _ _ _ _ _) := Lib.hid (HZ4.out.but hk4 (by simp))
   have HX5 : Hid (JBox (W3.setCell ⟨N + 1, 4, none⟩ (.slice (some ⟨g9, 0, none⟩) (k + 1) cap)) (N + 1) (.int .i64 5) (.bool false) (.int .i64 0) (.string ⟨#[]⟩) (.slice (some ⟨g9, 0, none⟩) (k + 1) cap) (.slice none 0 0)) := Lib.hid hx4
   have HW5 := Lib.hid (HW4.out.trans (hk4.to (by have := HX4.out.lt; omega) (by intro j hj; simp at hj; omega)))
   obtain ⟨x0, x1, x2, x3, x4, x5⟩ := HX4.out.cells
   obtain ⟨f0, f1, f2, f3, f4, f5⟩ := HX4.out.frees
   clear hk4 hx4
   go_simp
   clear x0 x1 x2 x3 x4 x5 f0 f1 f2 f3 f4 f5
   refine hKK _ _ (fun h0 => absurd h0 (by decide)) ?_
   clear hKK KK
   simp only [Act.put, CL]
   refine wpTill_done (by kernel_rfl) ?_ _
   (try simp only [Exit.then])
   go_wp2_with fail
   go_roundw
   case rel => exact ⟨k + 1, _, _, _, by omega, by go_num, HG5, HZ5, HX5, HW5⟩
   case measure => simp [intOf]; omega
  ·obtain rfl : k = l.length := by omega
   obtain ⟨x0, x1, x2, x3, x4, x5⟩ := HX.out.cells
   obtain ⟨z0, z1, z2, z3, z4, z5⟩ := HZ.out.cells
   obtain ⟨f0, f1, f2, f3, f4, f5⟩ := HZ.out.frees
   obtain ⟨hk9, hx9⟩ := j25_set (.int .i64 5) (.bool false) (.int .i64 0) (.string ⟨#[]⟩) (.slice Av l.length cv) (.slice none 0 0) HZ.out
   have HK9 := Lib.hid hk9
   have HX9 := Lib.hid hx9
   have HV : Hid (JV wr (fun g => N + 2 ≤ g ∨ N + 2 ≤ g) (.mk 5 false 0 [] (l.map jFile) []) [.int .i64 5, .bool false, .int .i64 0, .string ⟨#[]⟩, .slice Av l.length cv, .slice none 0 0]) := Lib.hid (by
    have h1 := HG.out.list 5 false 0 []
    rw [List.take_length] at h1
    exact h1)
   clear hk9 hx9
   go_wp2_with fail
   refine bodyPost_ret (results_row1 rfl _ _ _ N #[.int .i64 5, .bool false, .int .i64 0, .string ⟨#[]⟩, .slice Av l.length cv, .slice none 0 0] rfl (j25_load HX9.out)) rfl ?_
   rw [HN.out]
   refine ⟨HW.out.trans (HK9.out.to (by have := HX.out.lt; omega) (by intro j hj; simp at hj; omega)), Av, cv, rfl, ?_⟩
   exact (HV.out.but HK9.out (by intro j hj; simp at hj; omega)).wide (fun g hg _ => by omega)
end Go.Proofs.YtimioelnnhnbiaaGreatDoor
