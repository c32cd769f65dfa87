/-
  Joined: ZG ZDint ZH. CONDITIONS: as each law says.
-/
import Derived.Test.YtimioelnnhnbiaaGreatDoorS12
import Derived.Test.YtimioelnnhnbiaaGreatDoorS05
import Derived.Deep.MidRow
import Derived.Deep.AppendLies
import Derived.ChangeKeysEq
namespace Go.Proofs.YtimioelnnhnbiaaGreatDoor
open Go.RowKit
def idL (I : Nat → UInt8) : List UInt8 := [I 0, I 1, I 2, I 3, I 4, I 5, I 6, I 7, I 8, I 9, I 10, I 11, I 12, I 13, I 14, I 15, I 16, I 17, I 18, I 19, I 20, I 21, I 22, I 23, I 24, I 25, I 26, I 27, I 28, I 29, I 30, I 31]
def idC (I : Nat → UInt8) : List Value := [.int .u8 (I 0).toNat, .int .u8 (I 1).toNat, .int .u8 (I 2).toNat, .int .u8 (I 3).toNat, .int .u8 (I 4).toNat, .int .u8 (I 5).toNat, .int .u8 (I 6).toNat, .int .u8 (I 7).toNat, .int .u8 (I 8).toNat, .int .u8 (I 9).toNat, .int .u8 (I 10).toNat, .int .u8 (I 11).toNat, .int .u8 (I 12).toNat, .int .u8 (I 13).toNat, .int .u8 (I 14).toNat, .int .u8 (I 15).toNat, .int .u8 (I 16).toNat, .int .u8 (I 17).toNat, .int .u8 (I 18).toNat, .int .u8 (I 19).toNat, .int .u8 (I 20).toNat, .int .u8 (I 21).toNat, .int .u8 (I 22).toNat, .int .u8 (I 23).toNat, .int .u8 (I 24).toNat, .int .u8 (I 25).toNat, .int .u8 (I 26).toNat, .int .u8 (I 27).toNat, .int .u8 (I 28).toNat, .int .u8 (I 29).toNat, .int .u8 (I 30).toNat, .int .u8 (I 31).toNat]
theorem idL_at (I : Nat → UInt8) (k : Nat) (h : k < 32) : (idL I)[k]? = some (I k) := by
 match k, h with
 | 0, _ => rfl
 | 1, _ => rfl
 | 2, _ => rfl
 | 3, _ => rfl
 | 4, _ => rfl
 | 5, _ => rfl
 | 6, _ => rfl
 | 7, _ => rfl
 | 8, _ => rfl
 | 9, _ => rfl
 | 10, _ => rfl
 | 11, _ => rfl
 | 12, _ => rfl
 | 13, _ => rfl
 | 14, _ => rfl
 | 15, _ => rfl
 | 16, _ => rfl
 | 17, _ => rfl
 | 18, _ => rfl
 | 19, _ => rfl
 | 20, _ => rfl
 | 21, _ => rfl
 | 22, _ => rfl
 | 23, _ => rfl
 | 24, _ => rfl
 | 25, _ => rfl
 | 26, _ => rfl
 | 27, _ => rfl
 | 28, _ => rfl
 | 29, _ => rfl
 | 30, _ => rfl
 | 31, _ => rfl
 | n + 32, h => omega
theorem idC_at (I : Nat → UInt8) (k : Nat) (h : k < 32) : (idC I)[k]? = some (.int .u8 (I k).toNat) := by
 match k, h with
 | 0, _ => rfl
 | 1, _ => rfl
 | 2, _ => rfl
 | 3, _ => rfl
 | 4, _ => rfl
 | 5, _ => rfl
 | 6, _ => rfl
 | 7, _ => rfl
 | 8, _ => rfl
 | 9, _ => rfl
 | 10, _ => rfl
 | 11, _ => rfl
 | 12, _ => rfl
 | 13, _ => rfl
 | 14, _ => rfl
 | 15, _ => rfl
 | 16, _ => rfl
 | 17, _ => rfl
 | 18, _ => rfl
 | 19, _ => rfl
 | 20, _ => rfl
 | 21, _ => rfl
 | 22, _ => rfl
 | 23, _ => rfl
 | 24, _ => rfl
 | 25, _ => rfl
 | 26, _ => rfl
 | 27, _ => rfl
 | 28, _ => rfl
 | 29, _ => rfl
 | 30, _ => rfl
 | 31, _ => rfl
 | n + 32, h => omega
def hexT (l : List UInt8) : Js.Bs := l.flatMap fun c => [hB (c.toNat / 16), hB (c.toNat % 16)]
def idText (I : Nat → UInt8) : Js.Bs := hexT (idL I)
theorem hexT_len : ∀ l : List UInt8, (hexT l).length = 2 * l.length
 | [] => rfl
 | c :: t => by
  have := hexT_len t
  unfold hexT at this ⊢
  rw [List.flatMap_cons, List.length_append, this, List.length_cons]
  simp; omega
theorem and15 : ∀ x : Fin 256, bits BinOp.and IntKind.u8 (x.val : Int) 15 = ((x.val % 16 : Nat) : Int) := by decide +kernel
def idA (I : Nat → UInt8) : Array Value := (idC I).toArray
theorem idA_at (I : Nat → UInt8) (k : Nat) (h : k < 32) : (idA I)[k]? = some (.int .u8 (I k).toNat) := by unfold idA; rw [List.getElem?_toArray]; exact idC_at I k h
theorem index29 (I : Nat → UInt8) (w : World) : ∀ k : Nat, k < 32 → (Instr.index 29 (.agg (idA I)) (.int .i64 k)).run Tryz.prog w = .ok (.int .u8 (I k).toNat) w := fun k h => by
 match k, h with
 | 0, _ => show (Instr.index 29 (.agg (idA I)) (.int .i64 0)).run Tryz.prog w = .ok (.int .u8 (I 0).toNat) w; kernel_rfl
 | 1, _ => show (Instr.index 29 (.agg (idA I)) (.int .i64 1)).run Tryz.prog w = .ok (.int .u8 (I 1).toNat) w; kernel_rfl
 | 2, _ => show (Instr.index 29 (.agg (idA I)) (.int .i64 2)).run Tryz.prog w = .ok (.int .u8 (I 2).toNat) w; kernel_rfl
 | 3, _ => show (Instr.index 29 (.agg (idA I)) (.int .i64 3)).run Tryz.prog w = .ok (.int .u8 (I 3).toNat) w; kernel_rfl
 | 4, _ => show (Instr.index 29 (.agg (idA I)) (.int .i64 4)).run Tryz.prog w = .ok (.int .u8 (I 4).toNat) w; kernel_rfl
 | 5, _ => show (Instr.index 29 (.agg (idA I)) (.int .i64 5)).run Tryz.prog w = .ok (.int .u8 (I 5).toNat) w; kernel_rfl
 | 6, _ => show (Instr.index 29 (.agg (idA I)) (.int .i64 6)).run Tryz.prog w = .ok (.int .u8 (I 6).toNat) w; kernel_rfl
 | 7, _ => show (Instr.index 29 (.agg (idA I)) (.int .i64 7)).run Tryz.prog w = .ok (.int .u8 (I 7).toNat) w; kernel_rfl
 | 8, _ => show (Instr.index 29 (.agg (idA I)) (.int .i64 8)).run Tryz.prog w = .ok (.int .u8 (I 8).toNat) w; kernel_rfl
 | 9, _ => show (Instr.index 29 (.agg (idA I)) (.int .i64 9)).run Tryz.prog w = .ok (.int .u8 (I 9).toNat) w; kernel_rfl
 | 10, _ => show (Instr.index 29 (.agg (idA I)) (.int .i64 10)).run Tryz.prog w = .ok (.int .u8 (I 10).toNat) w; kernel_rfl
 | 11, _ => show (Instr.index 29 (.agg (idA I)) (.int .i64 11)).run Tryz.prog w = .ok (.int .u8 (I 11).toNat) w; kernel_rfl
 | 12, _ => show (Instr.index 29 (.agg (idA I)) (.int .i64 12)).run Tryz.prog w = .ok (.int .u8 (I 12).toNat) w; kernel_rfl
 | 13, _ => show (Instr.index 29 (.agg (idA I)) (.int .i64 13)).run Tryz.prog w = .ok (.int .u8 (I 13).toNat) w; kernel_rfl
 | 14, _ => show (Instr.index 29 (.agg (idA I)) (.int .i64 14)).run Tryz.prog w = .ok (.int .u8 (I 14).toNat) w; kernel_rfl
 | 15, _ => show (Instr.index 29 (.agg (idA I)) (.int .i64 15)).run Tryz.prog w = .ok (.int .u8 (I 15).toNat) w; kernel_rfl
 | 16, _ => show (Instr.index 29 (.agg (idA I)) (.int .i64 16)).run Tryz.prog w = .ok (.int .u8 (I 16).toNat) w; kernel_rfl
 | 17, _ => show (Instr.index 29 (.agg (idA I)) (.int .i64 17)).run Tryz.prog w = .ok (.int .u8 (I 17).toNat) w; kernel_rfl
 | 18, _ => show (Instr.index 29 (.agg (idA I)) (.int .i64 18)).run Tryz.prog w = .ok (.int .u8 (I 18).toNat) w; kernel_rfl
 | 19, _ => show (Instr.index 29 (.agg (idA I)) (.int .i64 19)).run Tryz.prog w = .ok (.int .u8 (I 19).toNat) w; kernel_rfl
 | 20, _ => show (Instr.index 29 (.agg (idA I)) (.int .i64 20)).run Tryz.prog w = .ok (.int .u8 (I 20).toNat) w; kernel_rfl
 | 21, _ => show (Instr.index 29 (.agg (idA I)) (.int .i64 21)).run Tryz.prog w = .ok (.int .u8 (I 21).toNat) w; kernel_rfl
 | 22, _ => show (Instr.index 29 (.agg (idA I)) (.int .i64 22)).run Tryz.prog w = .ok (.int .u8 (I 22).toNat) w; kernel_rfl
 | 23, _ => show (Instr.index 29 (.agg (idA I)) (.int .i64 23)).run Tryz.prog w = .ok (.int .u8 (I 23).toNat) w; kernel_rfl
 | 24, _ => show (Instr.index 29 (.agg (idA I)) (.int .i64 24)).run Tryz.prog w = .ok (.int .u8 (I 24).toNat) w; kernel_rfl
 | 25, _ => show (Instr.index 29 (.agg (idA I)) (.int .i64 25)).run Tryz.prog w = .ok (.int .u8 (I 25).toNat) w; kernel_rfl
 | 26, _ => show (Instr.index 29 (.agg (idA I)) (.int .i64 26)).run Tryz.prog w = .ok (.int .u8 (I 26).toNat) w; kernel_rfl
 | 27, _ => show (Instr.index 29 (.agg (idA I)) (.int .i64 27)).run Tryz.prog w = .ok (.int .u8 (I 27).toNat) w; kernel_rfl
 | 28, _ => show (Instr.index 29 (.agg (idA I)) (.int .i64 28)).run Tryz.prog w = .ok (.int .u8 (I 28).toNat) w; kernel_rfl
 | 29, _ => show (Instr.index 29 (.agg (idA I)) (.int .i64 29)).run Tryz.prog w = .ok (.int .u8 (I 29).toNat) w; kernel_rfl
 | 30, _ => show (Instr.index 29 (.agg (idA I)) (.int .i64 30)).run Tryz.prog w = .ok (.int .u8 (I 30).toNat) w; kernel_rfl
 | 31, _ => show (Instr.index 29 (.agg (idA I)) (.int .i64 31)).run Tryz.prog w = .ok (.int .u8 (I 31).toNat) w; kernel_rfl
 | n + 32, h => omega
theorem info29 : (Tryz.prog.info? 29).map (·.size) = some 32 := by kernel_rfl
theorem und29 : Tryz.prog.underlying 29 = some (.array 32 5) := by kernel_rfl
theorem wpList_load29 {ops : Array Oper} {rest : List Oper} {op : Oper} {a : Act} {w : World} {Q : Exit → Act → World → Prop} (hgd : op.guard = none) (x : Operand) (ho : op.op = .load 29 x) (b : Nat) (hx : a.eval x = .pointer (some ⟨b, 0, none⟩))
  (I : Nat → UInt8) (h : w.heap[b]? = some (.cells (idA I) 29 (0, 0))) (k : wpList Tryz.prog ops Q rest (a.put op.dst (.agg (idA I))) w) : wpList Tryz.prog ops Q (op :: rest) a w :=
 wpList_load_mid hgd 29 x ho b 0 hx (idC I) _ (fun j v hv => (blk_cells h (0 + j)).trans (by rw [Nat.zero_add]; unfold idA; rw [List.getElem?_toArray]; exact hv)) und29 rfl (by rw [info29]; rfl) k
set_option maxRecDepth 100000 in
set_option maxHeartbeats 8000000 in
theorem shaText_any (I : Nat → UInt8) (w : World) : Calls Tryz.prog 83 #[.agg (idA I)] w fun e w' => e = .returned (.string (str (idText I))) ∧ Below w.heap.size w w' := by
 have b1 := Lib.hid (below_box w (.cells (idA I) 29))
 have HE1 := Lib.hid (heap_alloc_new w (.cells (idA I) 29))
 have hsz : (idA I).size = 32 := rfl
 go_enter Tryz.func83, Tryz.ntmps83
 go_upto_region 1 with fail
 generalize (w.alloc (.cells (idA I) 29)) = w1 at b1 HE1 ⊢
 go_wp2_with (refine wpList_load29 rfl _ rfl _ rfl I HE1.out ?_)
 have HB0 : Hid (Buf w1.heap.size (.slice none 0 0) [] w1 w1) := Lib.hid Buf.empty
 go_loopw [3, 5, 7] (fun v _ i wr => ∃ (k : Nat) (out : List UInt8), k ≤ 32 ∧ i = .int .i64 k ∧ out.length = 2 * k ∧ Hid (out = hexT ((idL I).take k)) ∧ Hid (Buf w1.heap.size v out w1 wr)) (fun _ _ i _ => 32 - (intOf i).toNat)
 case atStart => exact ⟨0, [], by omega, rfl, rfl, Lib.hid rfl, HB0⟩
 case round =>
  obtain ⟨k, out, hk, rfl, hout, HO, HB⟩ := hrel
  by_cases hlt : k < 32
  ·have hix := index29 I wr k hlt
   have hcon : decide ((k : Int) < 32) = true := by simp; omega
   have HX := Lib.hid (idL_at I k hlt)
   have hv : ∃ x, I k = x := ⟨_, rfl⟩
   obtain ⟨x, hx⟩ := hv
   rw [hx] at hix HX
   have hx256 : x.toNat < 256 := x.toNat_lt
   obtain ⟨d, hd⟩ : ∃ d, x.toNat / 16 = d := ⟨_, rfl⟩
   obtain ⟨q, hq⟩ : ∃ q, x.toNat % 16 = q := ⟨_, rfl⟩
   have hd16 : d < 16 := by omega
   have hq16 : q < 16 := by omega
   have HS : Hid (out ++ [hB d, hB q] = hexT ((idL I).take (k + 1))) := Lib.hid (by
    rw [HO.out, List.take_add_one, HX.out, ← hd, ← hq]
    unfold hexT
    simp)
   have hdi : (x.toNat : Int) / 16 = (d : Int) := by omega
   have hqi : bits BinOp.and IntKind.u8 (x.toNat : Int) 15 = (q : Int) := by rw [← hq]; exact and15 ⟨x.toNat, hx256⟩
   clear hx HX HO hd hq
   go_wp2_with fail
   refine wp_region_any (by kernel_rfl) ?_
   change wpAny _ _ _ _ _ _ _ (World.drew _)
   have HB1 : Hid (Buf w1.heap.size u3 out w1 wr.drew) := Lib.hid (HB.out.next (below_drewN (Below.refl _ _) 1))
   generalize wr.drew = W at HB1 ⊢
   refine wpAny_of_till (S := fun _ => True) (st := (fun _ => false)) _ _ _ _ ?_
   change wpTill _ _ _ _ _ _ _ #[false, false, false, false, false, false, false, false, false, false] _ _
   refine tkG 0 (u3) rfl (fun _ => trivial) ?_
   simp only [Act.put, CL]
   refine tkG 1 (.int .u8 x.toNat) rfl (fun _ => trivial) ?_
   simp only [Act.put, CL]
   refine tkF 2 (.int .u8 (d : Int)) rfl ?yb2 (fun _ => trivial) ?_
   case yb2 => (intro W0 _; have h7 := hdi; go_simp; (try with_reducible rfl))
   simp only [Act.put, CL]
   refine tkF 3 (.int .u8 (hB d).toNat) rfl ?yb3 (fun _ => trivial) ?_
   case yb3 => (intro W0 _; have h7 := hB_get d; have h8 : (d : Int) < 16 := (by omega); go_simp; (try with_reducible rfl))
   simp only [Act.put, CL]
   refine tkG 4 (.int .u8 x.toNat) rfl (fun _ => trivial) ?_
   simp only [Act.put, CL]
   refine tkF 5 (.int .u8 (q : Int)) rfl ?yb5 (fun _ => trivial) ?_
   case yb5 => (intro W0 _; have h7 := hqi; go_simp; (try with_reducible rfl))
   simp only [Act.put, CL]
   refine tkF 6 (.int .u8 (hB q).toNat) rfl ?yb6 (fun _ => trivial) ?_
   case yb6 => (intro W0 _; have h7 := hB_get q; have h8 : (q : Int) < 16 := (by omega); go_simp; (try with_reducible rfl))
   simp only [Act.put, CL]
   refine rdy 7 rfl (fun KK hKK => ?_)
   go_simp
   refine hKK _ _ (fun _ => trivial) ?_
   clear hKK KK
   simp only [Act.put, CL]
   refine rdy 8 rfl (fun KK hKK => ?_)
   refine wp_buf_append _ _ rfl HB1.out rfl [hB d, hB q] rfl rfl (by simp; omega) ?_
   intro v' w' hB'
   refine hKK _ _ (fun _ => trivial) ?_
   clear hKK KK
   simp only [Act.put, CL]
   refine rdy 9 rfl (fun KK hKK => ?_)
   go_simp
   refine hKK _ _ (fun _ => trivial) ?_
   clear hKK KK
   simp only [Act.put, CL]
   refine wpTill_done (by kernel_rfl) ?_ _
   (try simp only [Exit.then])
   go_wp2_with fail
   go_roundw
   case rel => exact ⟨k + 1, _, by omega, by go_num, by simp; omega, HS, hB'⟩
   case measure => simp [intOf]; omega
  ·obtain rfl : k = 32 := by omega
   have hcon : decide (((32 : Nat) : Int) < 32) = false := by decide
   have hcv := HB.out.string
   have HT : Hid (str out = str (idText I)) := Lib.hid (by rw [HO.out]; rfl)
   go_wp2_with fail
   go_ret
   exact ⟨congrArg (fun s => Ending.returned (.string s)) HT.out, b1.out.trans (HB.out.below.mono b1.out.size)⟩
end Go.Proofs.YtimioelnnhnbiaaGreatDoor
namespace Go.Proofs.YtimioelnnhnbiaaGreatDoor
open Go.RowKit
def RowAt {α : Type} (size : Nat) (cells : α → List Value) (w : World) (A : Option Addr) (l : List α) : Prop :=
 ∀ (k : Nat) (x : α), l[k]? = some x → ∃ g o, A = some ⟨g, o, none⟩ ∧ g < w.heap.size ∧ ∀ (j : Nat) (u : Value), (cells x)[j]? = some u → w.cell? ⟨g, o + k * size + j, none⟩ = some u
theorem RowAt.next {α : Type} {size : Nat} {cells : α → List Value} {w w' : World} {A : Option Addr} {l : List α} (h : RowAt size cells w A l) (hb : Below w.heap.size w w') : RowAt size cells w' A l := by
 intro k x hx
 obtain ⟨g, o, h1, h2, h3⟩ := h k x hx
 exact ⟨g, o, h1, Nat.lt_of_lt_of_le h2 hb.size, fun j u hj => (hb.cell (p := ⟨g, o + k * size + j, none⟩) h2).trans (h3 j u hj)⟩
def intC (n : Int) : List Value := [.int .i64 n]
def MadeC {α : Type} (f : Nat) (arg : α → Value) (g : α → Js.J) : Prop := ∀ (x : α) (W : World), Calls Tryz.prog f #[arg x] W fun e w' => Below W.heap.size W w' ∧ ∃ us, e = .returned (.agg us.toArray) ∧ JV w' (fun j => W.heap.size ≤ j) (g x) us
theorem made_leaf {α : Type} {f : Nat} {arg : α → Value} {k : Int} {q : α → Bool} {n : α → Int} {t : α → Js.Bs} (h : ∀ x, LeafC f (arg x) k (q x) (n x) (str (t x))) : MadeC f arg fun x => .mk k (q x) (n x) (t x) [] [] := fun x W =>
 (h x W).mono fun e w' ⟨he, hb⟩ => ⟨hb, _, he, JV.leaf w' _ k (q x) (n x) (t x)⟩
theorem made_number : MadeC 61 (fun n => .int .i64 n) jNum := made_leaf (q := fun _ => false) (n := fun n => n) (t := fun _ => []) fun n => number_leaf n
theorem made_long : MadeC 67 (fun n => .int .i64 n) jNum := made_leaf (q := fun _ => false) (n := fun n => n) (t := fun _ => []) fun n => long_leaf n
set_option maxRecDepth 100000 in
set_option maxHeartbeats 8000000 in
theorem list_int (l : List Int) (A : Option Addr) (c : Nat) (w : World) (hR : RowAt 1 intC w A l) (hlen : l.length ≤ 1000000) :
  Calls Tryz.prog 65 #[.slice A l.length c, .func (.func 61) #[] #[]] w fun e w' => Below w.heap.size w w' ∧ ∃ (Av : Option Addr) (cv : Nat), e = .returned (.agg #[.int .i64 5, .bool false, .int .i64 0, .string ⟨#[]⟩, .slice Av l.length cv, .slice none 0 0]) ∧
   JV w' (fun g => w.heap.size ≤ g) (.mk 5 false 0 [] (l.map jNum) []) [.int .i64 5, .bool false, .int .i64 0, .string ⟨#[]⟩, .slice Av l.length cv, .slice none 0 0] := by
 have HMADE := Lib.hid made_number
 have HR : Hid (∀ W, Below w.heap.size w W → RowAt 1 intC W A l) := Lib.hid (fun W hW => hR.next hW)
 have b1 := below_box w (.cells #[.int .i64 0, .bool false, .int .i64 0, .string ⟨#[]⟩, .slice none 0 0, .slice none 0 0] 25)
 have s1 : (w.alloc (.cells #[.int .i64 0, .bool false, .int .i64 0, .string ⟨#[]⟩, .slice none 0 0, .slice none 0 0] 25)).heap.size = w.heap.size + 1 := by simp
 have e1 : JBox _ _ _ _ _ _ _ _ := heap_alloc_new w (.cells #[.int .i64 0, .bool false, .int .i64 0, .string ⟨#[]⟩, .slice none 0 0, .slice none 0 0] 25)
 have b2 := below_box (w.alloc (.cells #[.int .i64 0, .bool false, .int .i64 0, .string ⟨#[]⟩, .slice none 0 0, .slice none 0 0] 25)) (.cells #[.int .i64 5, .bool false, .int .i64 0, .string ⟨#[]⟩, .slice none 0 0, .slice none 0 0] 25)
 have e2 : JBox _ _ _ _ _ _ _ _ := heap_alloc_new (w.alloc (.cells #[.int .i64 0, .bool false, .int .i64 0, .string ⟨#[]⟩, .slice none 0 0, .slice none 0 0] 25)) (.cells #[.int .i64 5, .bool false, .int .i64 0, .string ⟨#[]⟩, .slice none 0 0, .slice none 0 0] 25)
 have s2 : ((w.alloc (.cells #[.int .i64 0, .bool false, .int .i64 0, .string ⟨#[]⟩, .slice none 0 0, .slice none 0 0] 25)).alloc (.cells #[.int .i64 5, .bool false, .int .i64 0, .string ⟨#[]⟩, .slice none 0 0, .slice none 0 0] 25)).heap.size = w.heap.size + 2 := by simp
 rw [s1] at e2
 have HE1 := Lib.hid (e1.next b2)
 have HE2 := Lib.hid e2
 have HW2 := Lib.hid (b1.trans (b2.mono (by rw [s1]; omega)))
 have HS2 := Lib.hid s2
 clear b1 s1 e1 b2 e2 s2 hR
 go_enter Tryz.func65, Tryz.ntmps65
 go_upto_region 2 with fail
 generalize ((w.alloc (.cells #[.int .i64 0, .bool false, .int .i64 0, .string ⟨#[]⟩, .slice none 0 0, .slice none 0 0] 25)).alloc (.cells #[.int .i64 5, .bool false, .int .i64 0, .string ⟨#[]⟩, .slice none 0 0, .slice none 0 0] 25)) = w2 at HE1 HE2 HW2 HS2 ⊢
 obtain ⟨N, hN⟩ : ∃ N, w.heap.size = N := ⟨_, rfl⟩
 rw [hN] at HE1 HE2 HS2 ⊢
 have HN := Lib.hid hN
 clear hN
 have HG0 : Hid (Gr 25 6 JV (fun g => N + 2 ≤ g) (N + 2) ((l.take 0).map jNum) (.slice none 0 0) [] w2) := Lib.hid (by rw [← HS2.out]; exact Gr.nil)
 go_wp2_with fail
 go_loopw [7, 11] (fun _ i wr => ∃ (k : Nat) (Av : Option Addr) (cv : Nat) (rs : List (List Value)), k ≤ l.length ∧ i = .int .i64 k ∧ Hid (Gr 25 6 JV (fun g => N + 2 ≤ g) (N + 2) ((l.take k).map jNum) (.slice Av k cv) rs wr) ∧
  Hid (JBox wr N (.int .i64 0) (.bool false) (.int .i64 0) (.string ⟨#[]⟩) (.slice none 0 0) (.slice none 0 0)) ∧ Hid (JBox wr (N + 1) (.int .i64 5) (.bool false) (.int .i64 0) (.string ⟨#[]⟩) (.slice Av k cv) (.slice none 0 0)) ∧ Hid (Below N w wr)) (fun _ i _ => l.length - (intOf i).toNat)
 case atStart => exact ⟨0, none, 0, [], by omega, rfl, HG0, HE1, HE2, HN.out ▸ HW2⟩
 case round =>
  obtain ⟨k, Av, cv, rs, hk, rfl, HG, HZ, HX, HW⟩ := hrel
  by_cases hlt : k < l.length
  ·obtain ⟨x, hx⟩ : ∃ x, l[k]? = some x := ⟨l[k], List.getElem?_eq_getElem hlt⟩
   obtain ⟨g, o, hA1, hg, hcell⟩ := HR.out wr (by rw [HN.out]; exact HW.out) k x hx
   subst hA1
   have q0 : wr.cell? ⟨g, o + k, none⟩ = some (.int .i64 x) := by have := hcell 0 _ rfl; rwa [Nat.mul_one] at this
   have HY := Lib.hid hx
   clear hx hcell hg
   go_wp2_with fail
   refine wp_region_any (by kernel_rfl) ?_
   change wpAny _ _ _ _ _ _ _ (World.drew _)
   have hbd : Below wr.heap.size wr wr.drew := below_drewN (Below.refl _ _) 1
   have HG1 := Lib.hid (HG.out.next kept_I hbd)
   have HZ1 := Lib.hid (HZ.out.next hbd)
   have HX1 := Lib.hid (HX.out.next hbd)
   have hwsz : N ≤ wr.heap.size := by have := HX.out.lt; omega
   have HW1 : Hid (Below N w wr.drew) := Lib.hid (HW.out.trans (hbd.mono hwsz))
   have hs5 : wr.drew.cell? ⟨N + 1, 4, none⟩ = some (.slice Av k cv) := HX1.out.cells.2.2.2.2.1
   have HS := Lib.hid (show (fun W => W.cell? ⟨N + 1, 4, none⟩ = some (.slice Av k cv)) wr.drew from hs5)
   clear hbd hs5 HG HZ HX HW q0 hwsz
   generalize wr.drew = W at HG1 HZ1 HX1 HW1 HS ⊢
   refine wpAny_of_till (S := fun W => W.cell? ⟨N + 1, 4, none⟩ = some (.slice Av k cv)) (st := (fun l => l.getD 6 false)) _ _ _ _ ?_
   change wpTill _ _ _ _ _ _ _ #[false, false, false, false, false, false, false, false, false] _ _
   refine tkG 0 (.pointer (some ⟨N + 1, 4, none⟩)) rfl (fun _ => HS.out) ?_
   simp only [Act.put, CL]
   refine tk 1 (.slice Av k cv) rfl (fun l h h9 => (Shutd.step h (j := 6) (k := 1) (by kernel_rfl) h9)) (Or.inl ⟨by rfl, ?yb1⟩) HS.out (fun _ => ?_)
   case yb1 => (intro W0 hS; have s1 := hS; go_simp; (try with_reducible rfl))
   simp only [Act.put, CL]
   refine tkG 2 (.func (.func 61) #[] #[]) rfl (fun _ => HS.out) ?_
   simp only [Act.put, CL]
   refine tkG 3 (.int .i64 x) rfl (fun _ => HS.out) ?_
   simp only [Act.put, CL]
   refine rdy 4 rfl (fun KK hKK => ?_)
   go_simp
   refine (HMADE.out x W).mono ?_
   rintro e W1 ⟨hb, us, rfl, hju⟩
   have HG2 := Lib.hid (HG1.out.next kept_I hb)
   have HZ2 := Lib.hid (HZ1.out.next hb)
   have HX2 := Lib.hid (HX1.out.next hb)
   have hwsz : N + 2 ≤ W.heap.size := by have := HX1.out.lt; omega
   have HW2 := Lib.hid (HW1.out.trans (hb.mono (by omega)))
   have HS2 : Hid ((fun W => W.cell? ⟨N + 1, 4, none⟩ = some (.slice Av k cv)) W1) := Lib.hid ((hb.cell (p := ⟨N + 1, 4, none⟩) HX1.out.lt).trans HS.out)
   have HJ2 : Hid (JV W1 (fun g => N + 2 ≤ g ∧ (Value.slice Av k cv).ownBlock ≠ some g) (jNum x) us) := Lib.hid (hju.wide (fun g hg _ => ⟨by omega, HG1.out.fresh hg⟩))
   clear hb hju hwsz HG1 HZ1 HX1 HW1 HS
   obtain ⟨A7, c7, A8, c8, k1, b1, n1, t1, l7, l8, rfl⟩ := HJ2.out.shape
   refine hKK _ _ (fun _ => HS2.out) ?_
   clear hKK KK
   simp only [Act.put, CL]
   refine rdy 5 rfl (fun KK hKK => ?_)
   go_simp
   have hal := below_box W1 (.cells #[.int .i64 k1, .bool b1, .int .i64 n1, .string t1, .slice A7 l7 c7, .slice A8 l8 c8] 25)
   have HQ := Lib.hid (heap_alloc_new W1 (.cells #[.int .i64 k1, .bool b1, .int .i64 n1, .string t1, .slice A7 l7 c7, .slice A8 l8 c8] 25))
   have HG3 := Lib.hid (HG2.out.next kept_I hal)
   have HZ3 := Lib.hid (HZ2.out.next hal)
   have HX3 := Lib.hid (HX2.out.next hal)
   have HW3 := Lib.hid (HW2.out.trans (hal.mono (by have := HX2.out.lt; omega)))
   have HJ3 := Lib.hid (HJ2.out.next hal)
   have HS3 : Hid ((fun W => W.cell? ⟨N + 1, 4, none⟩ = some (.slice Av k cv)) (W1.alloc (.cells #[.int .i64 k1, .bool b1, .int .i64 n1, .string t1, .slice A7 l7 c7, .slice A8 l8 c8] 25))) := Lib.hid ((hal.cell (p := ⟨N + 1, 4, none⟩) HX2.out.lt).trans HS2.out)
   clear hal HG2 HZ2 HX2 HW2 HJ2 HS2
   generalize (W1.alloc (.cells #[.int .i64 k1, .bool b1, .int .i64 n1, .string t1, .slice A7 l7 c7, .slice A8 l8 c8] 25)) = W2 at HQ HG3 HZ3 HX3 HW3 HJ3 HS3 ⊢
   obtain ⟨M, hM⟩ : ∃ M, W1.heap.size = M := ⟨_, rfl⟩
   rw [hM] at HQ ⊢
   clear hM
   refine hKK _ _ (fun _ => HS3.out) ?_
   clear hKK KK
   simp only [Act.put, CL]
   refine rdy 6 rfl (fun KK hKK => ?_)
   obtain ⟨i0, hi, hz0, hz1, hz2⟩ := info_parts info25
   have hlk : ((l.take k).map jNum).length = k := by rw [List.length_map, List.length_take]; omega
   have hown := HG3.out.own.own
   rw [hlk] at hown
   refine wp_append_lies W2 (.tmp 16) (.tmp 20) 22 rfl (N + 2) 25 i0 zeroJ 6 88 Tryz.underlying22 hi hz0 hz1 hz2 rfl (by decide) (.slice Av k cv) k rs.flatten rfl hown ⟨M, 0, none⟩ 1 1 [.int .i64 k1, .bool b1, .int .i64 n1, .string t1, .slice A7 l7 c7, .slice A8 l8 c8] rfl rfl (World.news_of_block HQ.out) (by intro u hu; simp at hu; rcases hu with rfl | rfl | rfl | rfl | rfl | rfl <;> rfl) (by decide) (by unfold maxLen; omega) (by omega) HG3.out.own.le W2.heap.size rfl ?_
   intro g9 cap W3 hown3 hgrow hat3 hlt3
   have hNo : ∀ j, j < N + 2 → j ∉ (Value.slice Av k cv).ownBlock.toList := by
    intro j hj hm
    have hm : (Value.slice Av k cv).ownBlock = some j := by simpa using hm
    have := (HG3.out.own.lt j hm).1
    omega
   obtain ⟨hG4, hk3⟩ := HG3.out.push kept_I (x := jNum x) (vs := [.int .i64 k1, .bool b1, .int .i64 n1, .string t1, .slice A7 l7 c7, .slice A8 l8 c8]) HJ3.out (by rw [hlk]; exact hown3) hgrow hat3
   rw [hlk] at hG4
   have htk : (l.take k).map jNum ++ [jNum x] = (l.take (k + 1)).map jNum := by rw [List.take_add_one, HY.out, List.map_append]; rfl
   rw [htk] at hG4
   have HG4 := Lib.hid hG4
   have HZ4 : Hid (JBox W3 N _ _ _ _ _ _) := Lib.hid (HZ3.out.but hk3 (hNo N (by omega)))
   have HX4 : Hid (JBox W3 (N + 1) _ _ _ _ _ _) := Lib.hid (HX3.out.but hk3 (hNo (N + 1) (by omega)))
   have HW4 : Hid (Below N w W3) := Lib.hid (HW3.out.trans (hk3.to (by have := HX3.out.lt; omega) (by
    intro j hj
    have hm : (Value.slice Av k cv).ownBlock = some j := by simpa using hj
    have := (HG3.out.own.lt j hm).1
    omega)))
   clear hG4 hk3 hNo hgrow hown3 hown htk hat3 hlt3 hi hz0 hz1 hz2 hlk HG3 HZ3 HX3 HW3 HJ3 HS3 HQ
   refine hKK _ _ (fun h0 => absurd h0 (by decide)) ?_
   clear hKK KK
   simp only [Act.put, CL]
   refine tkG 7 (.pointer (some ⟨N + 1, 4, none⟩)) rfl (fun h0 => absurd h0 (by decide)) ?_
   simp only [Act.put, CL]
   refine rdy 8 rfl (fun KK hKK => ?_)
   obtain ⟨hk4, hx4⟩ := but_set (i := 4) (.slice (some ⟨g9, 0, none⟩) (k + 1) cap) HX4.out
   have HG5 : Hid (Gr 25 6 JV (fun g => N + 2 ≤ g) (N + 2) ((l.take (k + 1)).map jNum) (.slice (some ⟨g9, 0, none⟩) (k + 1) cap) (rs ++ [[.int .i64 k1, .bool b1, .int .i64 n1, .string t1, .slice A7 l7 c7, .slice A8 l8 c8]]) (W3.setCell ⟨N + 1, 4, none⟩ (.slice (some ⟨g9, 0, none⟩) (k + 1) cap))) := Lib.hid (HG4.out.but kept_I hk4 (by intro j hj; simp at hj; omega) (by intro j hj; simp at hj; omega))
   have HZ5 : Hid (JBox (W3.setCell ⟨N + 1, 4, none⟩ (.slice (some ⟨g9, 0, none⟩) (k + 1) cap)) N _ _ _ _ _ _) := Lib.hid (HZ4.out.but hk4 (by simp))
   have HX5 : Hid (JBox (W3.setCell ⟨N + 1, 4, none⟩ (.slice (some ⟨g9, 0, none⟩) (k + 1) cap)) (N + 1) (.int .i64 5) (.bool false) (.int .i64 0) (.string ⟨#[]⟩) (.slice (some ⟨g9, 0, none⟩) (k + 1) cap) (.slice none 0 0)) := Lib.hid hx4
   have HW5 := Lib.hid (HW4.out.trans (hk4.to (by have := HX4.out.lt; omega) (by intro j hj; simp at hj; omega)))
   obtain ⟨x0, x1, x2, x3, x4, x5⟩ := HX4.out.cells
   obtain ⟨f0, f1, f2, f3, f4, f5⟩ := HX4.out.frees
   clear hk4 hx4
   go_simp
   clear x0 x1 x2 x3 x4 x5 f0 f1 f2 f3 f4 f5
   refine hKK _ _ (fun h0 => absurd h0 (by decide)) ?_
   clear hKK KK
   simp only [Act.put, CL]
   refine wpTill_done (by kernel_rfl) ?_ _
   (try simp only [Exit.then])
   go_wp2_with fail
   go_roundw
   case rel => exact ⟨k + 1, _, _, _, by omega, by go_num, HG5, HZ5, HX5, HW5⟩
   case measure => simp [intOf]; omega
  ·obtain rfl : k = l.length := by omega
   obtain ⟨x0, x1, x2, x3, x4, x5⟩ := HX.out.cells
   obtain ⟨z0, z1, z2, z3, z4, z5⟩ := HZ.out.cells
   obtain ⟨f0, f1, f2, f3, f4, f5⟩ := HZ.out.frees
   obtain ⟨hk9, hx9⟩ := j25_set (.int .i64 5) (.bool false) (.int .i64 0) (.string ⟨#[]⟩) (.slice Av l.length cv) (.slice none 0 0) HZ.out
   have HK9 := Lib.hid hk9
   have HX9 := Lib.hid hx9
   have HV : Hid (JV wr (fun g => N + 2 ≤ g ∨ N + 2 ≤ g) (.mk 5 false 0 [] (l.map jNum) []) [.int .i64 5, .bool false, .int .i64 0, .string ⟨#[]⟩, .slice Av l.length cv, .slice none 0 0]) := Lib.hid (by
    have h1 := HG.out.list 5 false 0 []
    rw [List.take_length] at h1
    exact h1)
   clear hk9 hx9
   go_wp2_with fail
   refine bodyPost_ret (results_row1 rfl _ _ _ N #[.int .i64 5, .bool false, .int .i64 0, .string ⟨#[]⟩, .slice Av l.length cv, .slice none 0 0] rfl (j25_load HX9.out)) rfl ?_
   rw [HN.out]
   refine ⟨HW.out.trans (HK9.out.to (by have := HX.out.lt; omega) (by intro j hj; simp at hj; omega)), Av, cv, rfl, ?_⟩
   exact (HV.out.but HK9.out (by intro j hj; simp at hj; omega)).wide (fun g hg _ => by omega)
end Go.Proofs.YtimioelnnhnbiaaGreatDoor
namespace Go.Proofs.YtimioelnnhnbiaaGreatDoor
open Go.RowKit
theorem und5 : Tryz.prog.underlying 5 = some (.int .u8) := by kernel_rfl
theorem info5_some : ∃ i, Tryz.prog.info? 5 = some i := by
 cases h : Tryz.prog.info? 5 with
 | some i => exact ⟨i, rfl⟩
 | none => exact absurd (show (Tryz.prog.info? 5).isSome = true by kernel_rfl) (by rw [h]; decide)
theorem cells5 : Tryz.prog.cellsOf 5 = 1 := by kernel_rfl
theorem part29 (I : Nat → UInt8) (w : World) : ∀ j : Nat, j < 32 → (part 5 (idA I) (j * 1)).run Tryz.prog w = .ok (.int .u8 (I j).toNat) w := fun j h => by
 match j, h with
 | 0, _ => show (part 5 (idA I) (0 * 1)).run Tryz.prog w = .ok (.int .u8 (I 0).toNat) w; kernel_rfl
 | 1, _ => show (part 5 (idA I) (1 * 1)).run Tryz.prog w = .ok (.int .u8 (I 1).toNat) w; kernel_rfl
 | 2, _ => show (part 5 (idA I) (2 * 1)).run Tryz.prog w = .ok (.int .u8 (I 2).toNat) w; kernel_rfl
 | 3, _ => show (part 5 (idA I) (3 * 1)).run Tryz.prog w = .ok (.int .u8 (I 3).toNat) w; kernel_rfl
 | 4, _ => show (part 5 (idA I) (4 * 1)).run Tryz.prog w = .ok (.int .u8 (I 4).toNat) w; kernel_rfl
 | 5, _ => show (part 5 (idA I) (5 * 1)).run Tryz.prog w = .ok (.int .u8 (I 5).toNat) w; kernel_rfl
 | 6, _ => show (part 5 (idA I) (6 * 1)).run Tryz.prog w = .ok (.int .u8 (I 6).toNat) w; kernel_rfl
 | 7, _ => show (part 5 (idA I) (7 * 1)).run Tryz.prog w = .ok (.int .u8 (I 7).toNat) w; kernel_rfl
 | 8, _ => show (part 5 (idA I) (8 * 1)).run Tryz.prog w = .ok (.int .u8 (I 8).toNat) w; kernel_rfl
 | 9, _ => show (part 5 (idA I) (9 * 1)).run Tryz.prog w = .ok (.int .u8 (I 9).toNat) w; kernel_rfl
 | 10, _ => show (part 5 (idA I) (10 * 1)).run Tryz.prog w = .ok (.int .u8 (I 10).toNat) w; kernel_rfl
 | 11, _ => show (part 5 (idA I) (11 * 1)).run Tryz.prog w = .ok (.int .u8 (I 11).toNat) w; kernel_rfl
 | 12, _ => show (part 5 (idA I) (12 * 1)).run Tryz.prog w = .ok (.int .u8 (I 12).toNat) w; kernel_rfl
 | 13, _ => show (part 5 (idA I) (13 * 1)).run Tryz.prog w = .ok (.int .u8 (I 13).toNat) w; kernel_rfl
 | 14, _ => show (part 5 (idA I) (14 * 1)).run Tryz.prog w = .ok (.int .u8 (I 14).toNat) w; kernel_rfl
 | 15, _ => show (part 5 (idA I) (15 * 1)).run Tryz.prog w = .ok (.int .u8 (I 15).toNat) w; kernel_rfl
 | 16, _ => show (part 5 (idA I) (16 * 1)).run Tryz.prog w = .ok (.int .u8 (I 16).toNat) w; kernel_rfl
 | 17, _ => show (part 5 (idA I) (17 * 1)).run Tryz.prog w = .ok (.int .u8 (I 17).toNat) w; kernel_rfl
 | 18, _ => show (part 5 (idA I) (18 * 1)).run Tryz.prog w = .ok (.int .u8 (I 18).toNat) w; kernel_rfl
 | 19, _ => show (part 5 (idA I) (19 * 1)).run Tryz.prog w = .ok (.int .u8 (I 19).toNat) w; kernel_rfl
 | 20, _ => show (part 5 (idA I) (20 * 1)).run Tryz.prog w = .ok (.int .u8 (I 20).toNat) w; kernel_rfl
 | 21, _ => show (part 5 (idA I) (21 * 1)).run Tryz.prog w = .ok (.int .u8 (I 21).toNat) w; kernel_rfl
 | 22, _ => show (part 5 (idA I) (22 * 1)).run Tryz.prog w = .ok (.int .u8 (I 22).toNat) w; kernel_rfl
 | 23, _ => show (part 5 (idA I) (23 * 1)).run Tryz.prog w = .ok (.int .u8 (I 23).toNat) w; kernel_rfl
 | 24, _ => show (part 5 (idA I) (24 * 1)).run Tryz.prog w = .ok (.int .u8 (I 24).toNat) w; kernel_rfl
 | 25, _ => show (part 5 (idA I) (25 * 1)).run Tryz.prog w = .ok (.int .u8 (I 25).toNat) w; kernel_rfl
 | 26, _ => show (part 5 (idA I) (26 * 1)).run Tryz.prog w = .ok (.int .u8 (I 26).toNat) w; kernel_rfl
 | 27, _ => show (part 5 (idA I) (27 * 1)).run Tryz.prog w = .ok (.int .u8 (I 27).toNat) w; kernel_rfl
 | 28, _ => show (part 5 (idA I) (28 * 1)).run Tryz.prog w = .ok (.int .u8 (I 28).toNat) w; kernel_rfl
 | 29, _ => show (part 5 (idA I) (29 * 1)).run Tryz.prog w = .ok (.int .u8 (I 29).toNat) w; kernel_rfl
 | 30, _ => show (part 5 (idA I) (30 * 1)).run Tryz.prog w = .ok (.int .u8 (I 30).toNat) w; kernel_rfl
 | 31, _ => show (part 5 (idA I) (31 * 1)).run Tryz.prog w = .ok (.int .u8 (I 31).toNat) w; kernel_rfl
 | n + 32, h => omega
theorem eqItems29 (I J : Nat → UInt8) (w : World) : ∀ is : List Nat, (∀ j ∈ is, j < 32) → (Op.eqItems 9999 5 1 (idA I) (idA J) is).run Tryz.prog w = .ok (decide (∀ j ∈ is, I j = J j)) w
 | [], _ => by simp [Op.eqItems]
 | j :: is, h => by
  have hj := h j (by simp)
  simp only [Op.eqItems, Sem.run_bind, part29 I w j hj, part29 J w j hj, Result.andThen_ok]
  have he : (Op.equalIn 9999 5 (.int .u8 (I j).toNat) (.int .u8 (J j).toNat)).run Tryz.prog w = .ok (decide (I j = J j)) w := by
   rw [show (9999 : Nat) = 9998 + 1 from rfl, Op.equalIn]
   simp only [Sem.run_bind, run_underlying und5, Result.andThen_ok]
   by_cases e : I j = J j
   ·rw [e]; simp
   ·have : ¬ ((I j).toNat : Int) = ((J j).toNat : Int) := fun h => e (UInt8.toNat_inj.1 (by omega))
    simp [e, this]
  rw [he]
  have ih := eqItems29 I J w is (fun k hk => h k (by simp [hk]))
  by_cases e : I j = J j
  ·simp only [Result.andThen_ok, e, decide_true, Bool.not_true, Bool.false_eq_true, if_false]
   rw [ih]
   simp [e]
  ·simp [e]
def alikeId (I J : Nat → UInt8) : Bool := decide (∀ j ∈ List.range 32, I j = J j)
def noId : Nat → UInt8 := fun _ => 0
theorem eqIn29 (I J : Nat → UInt8) (w : World) : (Op.equalIn 10000 29 (.agg (idA I)) (.agg (idA J))).run Tryz.prog w = .ok (alikeId I J) w := by
 obtain ⟨i, hi⟩ := info5_some
 rw [run_equalIn_array w 9999 (idA I) (idA J) und29 hi, cells5, eqItems29 I J w _ (fun j hj => List.mem_range.1 hj)]
 rfl
theorem eqZero29 (I : Nat → UInt8) (w : World) : (Op.equalIn 10000 29 (.agg (idA I)) (.agg #[.int .u8 0, .int .u8 0, .int .u8 0, .int .u8 0, .int .u8 0, .int .u8 0, .int .u8 0, .int .u8 0, .int .u8 0, .int .u8 0, .int .u8 0, .int .u8 0, .int .u8 0, .int .u8 0, .int .u8 0, .int .u8 0, .int .u8 0, .int .u8 0, .int .u8 0, .int .u8 0, .int .u8 0, .int .u8 0, .int .u8 0, .int .u8 0, .int .u8 0, .int .u8 0, .int .u8 0, .int .u8 0, .int .u8 0, .int .u8 0, .int .u8 0, .int .u8 0])).run Tryz.prog w = .ok (alikeId I noId) w := eqIn29 I noId w
def idS (I : Nat → UInt8) : Js.Bs := if alikeId I noId then [] else idText I
def jId (I : Nat → UInt8) : Js.J := jText (idS I)
set_option maxRecDepth 100000 in
set_option maxHeartbeats 8000000 in
theorem id_leaf (I : Nat → UInt8) (w : World) : Calls Tryz.prog 62 #[.agg (idA I)] w fun e w' => e = .returned (.agg #[.int .i64 4, .bool false, .int .i64 0, .string (str (idS I)), .slice none 0 0, .slice none 0 0]) ∧ Below w.heap.size w w' := by
 have b1 := below_box w (.cells (idA I) 29)
 have s1 : (w.alloc (.cells (idA I) 29)).heap.size = w.heap.size + 1 := by simp
 have e1 := heap_alloc_new w (.cells (idA I) 29)
 have b2 := below_box (w.alloc (.cells (idA I) 29)) (.cells #[.int .i64 0, .bool false, .int .i64 0, .string ⟨#[]⟩, .slice none 0 0, .slice none 0 0] 25)
 have e2 : JBox _ _ _ _ _ _ _ _ := heap_alloc_new (w.alloc (.cells (idA I) 29)) (.cells #[.int .i64 0, .bool false, .int .i64 0, .string ⟨#[]⟩, .slice none 0 0, .slice none 0 0] 25)
 rw [s1] at e2
 have HE1 := Lib.hid (blk_next b2 e1)
 have HE2 := Lib.hid e2
 have HW2 := Lib.hid (b1.trans (b2.mono (by rw [s1]; omega)))
 clear b1 s1 e1 b2 e2
 have HID : Hid (idS I = if alikeId I noId then [] else idText I) := Lib.hid rfl
 go_enter Tryz.func62, Tryz.ntmps62
 go_upto_region 1 with fail
 generalize ((w.alloc (.cells (idA I) 29)).alloc (.cells #[.int .i64 0, .bool false, .int .i64 0, .string ⟨#[]⟩, .slice none 0 0, .slice none 0 0] 25)) = w2 at HE1 HE2 HW2 ⊢
 have heq := eqZero29 I
 obtain ⟨q, hq⟩ : ∃ q, alikeId I noId = q := ⟨_, rfl⟩
 rw [hq] at heq HID
 clear hq
 cases q
 ·have HT : Hid (idS I = idText I) := Lib.hid HID.out
  go_wp2_with (refine wpList_load29 rfl _ rfl _ rfl I HE1.out ?_)
  refine (shaText_any I w2).mono ?_
  rintro e w3 ⟨rfl, hb3⟩
  have HB3 := Lib.hid (HE2.out.next hb3)
  have HW3 := Lib.hid (HW2.out.trans (hb3.mono HW2.out.size))
  clear hb3
  go_wp2_with fail
  refine (text_leaf (str (idText I)) w3).mono ?_
  rintro e w4 ⟨rfl, hb4⟩
  have HB9 := Lib.hid (HB3.out.next hb4)
  have HW9 := Lib.hid (HW3.out.trans (hb4.mono HW3.out.size))
  clear hb4
  obtain ⟨x0, x1, x2, x3, x4, x5⟩ := HB9.out.cells
  obtain ⟨f0, f1, f2, f3, f4, f5⟩ := HB9.out.frees
  obtain ⟨hk, hx⟩ := j25_set (.int .i64 4) (.bool false) (.int .i64 0) (.string (str (idText I))) (.slice none 0 0) (.slice none 0 0) HB9.out
  have HK := Lib.hid hk
  have HX := Lib.hid hx
  clear hk hx
  go_wp2_with fail
  refine bodyPost_ret (results_row1 rfl _ _ _ (w.heap.size + 1) #[.int .i64 4, .bool false, .int .i64 0, .string (str (idText I)), .slice none 0 0, .slice none 0 0] rfl (j25_load HX.out)) rfl ?_
  exact ⟨by rw [HT.out] <;> rfl, HW9.out.trans (HK.out.to HW9.out.size (by intro j hj; simp at hj; omega))⟩
 ·have HT : Hid (idS I = []) := Lib.hid HID.out
  go_wp2_with (refine wpList_load29 rfl _ rfl _ rfl I HE1.out ?_)
  refine (text_leaf ⟨#[]⟩ w2).mono ?_
  rintro e w4 ⟨rfl, hb4⟩
  have HB9 := Lib.hid (HE2.out.next hb4)
  have HW9 := Lib.hid (HW2.out.trans (hb4.mono HW2.out.size))
  clear hb4
  obtain ⟨x0, x1, x2, x3, x4, x5⟩ := HB9.out.cells
  obtain ⟨f0, f1, f2, f3, f4, f5⟩ := HB9.out.frees
  obtain ⟨hk, hx⟩ := j25_set (.int .i64 4) (.bool false) (.int .i64 0) (.string (⟨#[]⟩)) (.slice none 0 0) (.slice none 0 0) HB9.out
  have HK := Lib.hid hk
  have HX := Lib.hid hx
  clear hk hx
  go_wp2_with fail
  refine bodyPost_ret (results_row1 rfl _ _ _ (w.heap.size + 1) #[.int .i64 4, .bool false, .int .i64 0, .string (⟨#[]⟩), .slice none 0 0, .slice none 0 0] rfl (j25_load HX.out)) rfl ?_
  exact ⟨by rw [HT.out] <;> rfl, HW9.out.trans (HK.out.to HW9.out.size (by intro j hj; simp at hj; omega))⟩
theorem made_id : MadeC 62 (fun I => .agg (idA I)) jId := fun I W => (id_leaf I W).mono fun e w' ⟨he, hb⟩ => ⟨hb, _, he, JV.leaf w' _ 4 false 0 (idS I)⟩
end Go.Proofs.YtimioelnnhnbiaaGreatDoor
