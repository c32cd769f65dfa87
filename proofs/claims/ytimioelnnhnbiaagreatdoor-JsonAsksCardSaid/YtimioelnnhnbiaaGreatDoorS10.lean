/-
  Joined: WQ WR WS. CONDITIONS: as each law says.
-/
import Derived.Test.YtimioelnnhnbiaaGreatDoorS09
namespace Go.Proofs.YtimioelnnhnbiaaGreatDoor
open Go.RowKit
def nameV (nm : Js.Bs) (k0 : Int) (b0 : Bool) (n0 : Int) (t0 : ByteArray) (A5 : Option Addr) (l5 c5 : Nat) (A6 : Option Addr) (l6 c6 : Nat) : Value := .agg #[.string (str nm), .int .i64 k0, .bool b0, .int .i64 n0, .string t0, .slice A5 l5 c5, .slice A6 l6 c6]
set_option maxHeartbeats 2000000 in
theorem sameName_any (y : Nat) (a c : Js.Bs) (k0 : Int) (b0 : Bool) (n0 : Int) (t0 : ByteArray) (A5 : Option Addr) (l5 c5 : Nat) (A6 : Option Addr) (l6 c6 : Nat) (w : World) (h : w.cell? ⟨y, 0, none⟩ = some (.string (str c))) (hy : y < w.heap.size) :
  Calls Tryz.prog 82 #[nameV a k0 b0 n0 t0 A5 l5 c5 A6 l6 c6, .pointer (some ⟨y, 0, none⟩)] w fun e w' => e = .returned (.bool (decide (a = c))) ∧ Below w.heap.size w w' := by
 unfold nameV
 go_enter Tryz.func82, Tryz.ntmps82
 go_wp2_with fail
 go_ret
 exact ⟨ret_bool (str_beq a c), below_box _ _⟩
set_option maxRecDepth 100000 in
set_option maxHeartbeats 4000000 in
theorem index_names (S : Nat → Prop) (l : List (Js.Bs × Js.J)) (A : Option Addr) (i c : Nat) (y : Nat) (nm : Js.Bs) (w : World) (hS : ∀ g, S g → g < w.heap.size) (hl : l.length ≤ 1073741824) (hi : i ≤ l.length) (hA : JM w S A 0 l) (h : w.cell? ⟨y, 0, none⟩ = some (.string (str nm))) (hy : y < w.heap.size) :
  Calls Tryz.prog 97 #[.slice A i c, .func (.func 82) #[] #[.pointer (some ⟨y, 0, none⟩)]] w fun e w' => ((∃ k : Nat, e = .returned (.int .i64 k) ∧ ((l.take i).any fun p => decide (p.1 = nm)) = true) ∨ (e = .returned (.int .i64 (-1)) ∧ ((l.take i).any fun p => decide (p.1 = nm)) = false)) ∧ Below w.heap.size w w' := by
 have HA := Lib.hid hA
 have HH := Lib.hid h
 have HSS := Lib.hid hS
 clear hA h hS
 go_enter Tryz.func97, Tryz.ntmps97
 go_wp2_with fail
 go_loopw [5, 8] (fun _ j wr => ∃ k : Nat, k ≤ i ∧ j = .int .i64 k ∧ Hid (((l.take k).any fun p => decide (p.1 = nm)) = false) ∧ Hid (Below w.heap.size w wr)) (fun _ j _ => i - (intOf j).toNat)
 case atStart => exact ⟨0, Nat.zero_le _, rfl, Lib.hid (by simp), Lib.hid (Below.refl _ _)⟩
 case round =>
  obtain ⟨k, hk, rfl, HN, HB⟩ := hrel
  by_cases hlt : k < i
  ·obtain ⟨n1, x, hx⟩ : ∃ n1 x, l[k]? = some (n1, x) := ⟨l[k].1, l[k].2, List.getElem?_eq_getElem (by omega)⟩
   have hA' := JM.keep HB.out.size (fun _ h _ => h) (fun g hg _ => HB.out.block g (HSS.out g hg)) A 0 l HA.out
   obtain ⟨g, o, k0, b0, n0, t0, A5, l5, c5, A6, l6, c6, rfl, -, hg, q0, q1, q2, q3, q4, q5, q6, -⟩ := hA'.elem hx
   have hc : wr.cell? ⟨y, 0, none⟩ = some (.string (str nm)) := (HB.out.cell (p := ⟨y, 0, none⟩) hy).trans HH.out
   have HC := Lib.hid hc
   have hyr : y < wr.heap.size := Nat.lt_of_lt_of_le hy HB.out.size
   have HNX : Hid (((l.take (k + 1)).any fun p => decide (p.1 = nm)) = decide (n1 = nm)) := Lib.hid (by
    rw [List.take_add_one, hx, List.any_append, HN.out]; simp)
   have HX := Lib.hid hx
   clear hA' hc hx HN
   go_wp2_with fail
   refine (sameName_any y n1 nm k0 b0 n0 t0 A5 l5 c5 A6 l6 c6 _ HC.out hyr).mono ?_
   rintro e w2 ⟨rfl, hb2⟩
   have HB2 := Lib.hid (HB.out.trans (hb2.mono HB.out.size))
   clear hb2 HB
   by_cases hnm : n1 = nm
   ·have HE : Hid (((l.take i).any fun p => decide (p.1 = nm)) = true) := Lib.hid (by
     rw [List.any_eq_true]
     exact ⟨(n1, x), List.mem_of_getElem? (i := k) (by rw [List.getElem?_take, if_pos hlt]; exact HX.out), by simpa using hnm⟩)
    rw [decide_eq_true hnm]
    go_wp2_with fail
    go_ret
    exact ⟨.inl ⟨k, rfl, HE.out⟩, HB2.out⟩
   ·have HE : Hid (((l.take (k + 1)).any fun p => decide (p.1 = nm)) = false) := Lib.hid (by rw [HNX.out]; simpa using hnm)
    rw [decide_eq_false hnm]
    go_wp2_with fail
    go_roundw
    case rel => exact ⟨k + 1, by omega, by go_num, HE, HB2⟩
    case measure => simp [intOf]; omega
  ·obtain rfl : k = i := by omega
   go_wp2_with fail
   go_ret
   exact ⟨.inr ⟨rfl, HN.out⟩, HB.out⟩
theorem contains_names (S : Nat → Prop) (l : List (Js.Bs × Js.J)) (A : Option Addr) (i c : Nat) (y : Nat) (nm : Js.Bs) (w : World) (hS : ∀ g, S g → g < w.heap.size) (hl : l.length ≤ 1073741824) (hi : i ≤ l.length) (hA : JM w S A 0 l) (h : w.cell? ⟨y, 0, none⟩ = some (.string (str nm))) (hy : y < w.heap.size) :
  Calls Tryz.prog 81 #[.slice A i c, .func (.func 82) #[] #[.pointer (some ⟨y, 0, none⟩)]] w fun e w' => e = .returned (.bool ((l.take i).any fun p => decide (p.1 = nm))) ∧ Below w.heap.size w w' := by
 have HI := Lib.hid (index_names S l A i c y nm w hS hl hi hA h hy)
 clear hA h hS
 go_enter Tryz.func81, Tryz.ntmps81
 go_wp2_with fail
 refine HI.out.mono ?_
 rintro e w' ⟨⟨k, rfl, he⟩ | ⟨rfl, he⟩, hb⟩
 ·have HE := Lib.hid he
  have HB := Lib.hid hb
  clear he hb
  go_wp2_with fail
  go_ret
  exact ⟨ret_bool (by rw [HE.out]), HB.out⟩
 ·have HE := Lib.hid he
  have HB := Lib.hid hb
  clear he hb
  go_wp2_with fail
  go_ret
  exact ⟨ret_bool (by rw [HE.out]), HB.out⟩
end Go.Proofs.YtimioelnnhnbiaaGreatDoor
namespace Go.Proofs.YtimioelnnhnbiaaGreatDoor
open Go.RowKit
def MsAt (w : World) (b : Nat) (s : Js.Ms) : Prop := w.heap[b]? = some (.cells #[.int .i64 s.nodes, .int .i64 s.bytes, .bool s.wrong] 117 (0, 0))
theorem MsAt.cells {w : World} {b : Nat} {s : Js.Ms} (h : MsAt w b s) : w.cell? ⟨b, 0, none⟩ = some (.int .i64 s.nodes) ∧ w.cell? ⟨b, 1, none⟩ = some (.int .i64 s.bytes) ∧ w.cell? ⟨b, 2, none⟩ = some (.bool s.wrong) ∧ w.frozen? ⟨b, 0, none⟩ = false ∧ w.frozen? ⟨b, 1, none⟩ = false ∧ w.frozen? ⟨b, 2, none⟩ = false :=
 ⟨(blk_cells h 0).trans rfl, (blk_cells h 1).trans rfl, (blk_cells h 2).trans rfl, blk_free h 0, blk_free h 1, blk_free h 2⟩
theorem MsAt.next {w w' : World} {b : Nat} {s : Js.Ms} (h : MsAt w b s) (hb : Below w.heap.size w w') : MsAt w' b s := blk_next hb h
theorem MsAt.lt {w : World} {b : Nat} {s : Js.Ms} (h : MsAt w b s) : b < w.heap.size := (Array.getElem?_eq_some_iff.1 h).1
theorem MsAt.toNodes {w : World} {b : Nat} {s : Js.Ms} (h : MsAt w b s) (k : Nat) : MsAt (w.setCell ⟨b, 0, none⟩ (.int .i64 k)) b { s with nodes := k } := (but_set (i := 0) (.int .i64 k) h).2
theorem MsAt.toBytes {w : World} {b : Nat} {s : Js.Ms} (h : MsAt w b s) (k : Nat) : MsAt (w.setCell ⟨b, 1, none⟩ (.int .i64 k)) b { s with bytes := k } := (but_set (i := 1) (.int .i64 k) h).2
theorem MsAt.toWrong {w : World} {b : Nat} {s : Js.Ms} (h : MsAt w b s) (q : Bool) : MsAt (w.setCell ⟨b, 2, none⟩ (.bool q)) b { s with wrong := q } := (but_set (i := 2) (.bool q) h).2
theorem MsAt.but {w : World} {b : Nat} {s : Js.Ms} (h : MsAt w b s) (i : Nat) (v : Value) : But [b] w (w.setCell ⟨b, i, none⟩ v) := (but_set (i := i) v h).1
theorem blk7 {w : World} {b : Nat} {T : TypeId} {x0 x1 x2 x3 x4 x5 x6 : Value} (h : w.heap[b]? = some (.cells #[x0, x1, x2, x3, x4, x5, x6] T (0, 0))) :
  w.cell? ⟨b, 0, none⟩ = some x0 ∧ w.cell? ⟨b, 1, none⟩ = some x1 ∧ w.cell? ⟨b, 2, none⟩ = some x2 ∧ w.cell? ⟨b, 3, none⟩ = some x3 ∧ w.cell? ⟨b, 4, none⟩ = some x4 ∧ w.cell? ⟨b, 5, none⟩ = some x5 ∧ w.cell? ⟨b, 6, none⟩ = some x6 :=
 ⟨(blk_cells h 0).trans rfl, (blk_cells h 1).trans rfl, (blk_cells h 2).trans rfl, (blk_cells h 3).trans rfl, (blk_cells h 4).trans rfl, (blk_cells h 5).trans rfl, (blk_cells h 6).trans rfl⟩
def AddC (N : Nat) : Prop := ∀ (x : Js.J) (vs : List Value) (S : Nat → Prop) (d : Nat) (s : Js.Ms) (w : World) (mb : Nat), Js.nodes x ≤ N → JV w S x vs → ¬ S mb → MsAt w mb s →
  s.nodes + Js.nodes x ≤ 1073741824 → s.bytes + Js.bytes x ≤ 1073741824 → d + Js.deep x ≤ 1073741824 →
  Calls Tryz.prog 53 #[.pointer (some ⟨mb, 0, none⟩), .agg vs.toArray, .int .i64 d] w fun e w' => e = .returned (.tuple #[]) ∧ MsAt w' mb (Js.meas x d s) ∧ But [mb] w w'
set_option maxRecDepth 100000 in
set_option maxHeartbeats 16000000 in
theorem add_step (N : Nat) (ih : AddC N) : AddC (N + 1) := by
 intro x vs S d s w mb hN hjv hS hms hn hb hd
 cases x with | mk k0 b0 n0 t0 l m =>
 have HJ := Lib.hid hjv
 have HP := Lib.hid (fun W (h : JV W S (.mk k0 b0 n0 t0 l m) vs) => plain_any h)
 unfold JV at hjv
 obtain ⟨A5, c5, A6, c6, rfl, hc5, hc6, -, -⟩ := hjv
 have hbel := below_box w (.cells #[.int .i64 k0, .bool b0, .int .i64 n0, .string (str t0), .slice A5 l.length c5, .slice A6 m.length c6] 25)
 have HBx : Hid (JBox _ w.heap.size _ _ _ _ _ _) := Lib.hid (heap_alloc_new w (.cells #[.int .i64 k0, .bool b0, .int .i64 n0, .string (str t0), .slice A5 l.length c5, .slice A6 m.length c6] 25))
 have HM1 := Lib.hid (hms.next hbel)
 have HW1 := Lib.hid (But.of (S := [mb]) hbel)
 have HJ1 := Lib.hid (HJ.out.next hbel)
 have hmw := hms.lt
 have hz := str_size t0
 have hn1 : (s.nodes : Int) + 1 ≤ 1073741824 := by unfold Js.nodes at hn; omega
 have hb1 : (s.bytes : Int) + t0.length ≤ 1073741824 := by unfold Js.bytes at hb; omega
 have hd1 : (d : Int) ≤ 1073741823 := by unfold Js.deep at hd; omega
 clear hbel hms HJ
 obtain ⟨c0, c1, c2, f0, f1, f2⟩ := HM1.out.cells
 go_enter Tryz.func53, Tryz.ntmps53
 go_upto_region 1 with fail
 generalize (w.alloc (.cells #[.int .i64 k0, .bool b0, .int .i64 n0, .string (str t0), .slice A5 l.length c5, .slice A6 m.length c6] 25)) = w1 at HBx HM1 HW1 HJ1 c0 c1 c2 f0 f1 f2 ⊢
 obtain ⟨M, hM⟩ : ∃ M, w.heap.size = M := ⟨_, rfl⟩
 rw [hM] at HBx hmw ⊢
 have HMM := Lib.hid hM
 have hne : M ≠ mb := by omega
 clear hM
 go_upto_region 2 with fail
 have hm2 : MsAt (w1.setCell ⟨mb, 0, none⟩ (.int .i64 ((s.nodes : Int) + 1))) mb { s with nodes := s.nodes + 1 } := HM1.out.toNodes (s.nodes + 1)
 have hk2 := HM1.out.but 0 (.int .i64 ((s.nodes : Int) + 1))
 have HB2 := Lib.hid (HBx.out.but hk2 (by simpa using hne))
 have HJ2 := Lib.hid (HJ1.out.but hk2 (by intro j hj; simp at hj; subst hj; exact hS))
 have HW2 := Lib.hid (HW1.out.trans hk2)
 generalize (w1.setCell ⟨mb, 0, none⟩ (.int .i64 ((s.nodes : Int) + 1))) = w2 at hm2 HB2 HJ2 HW2 ⊢
 have HM2 := Lib.hid hm2
 clear hm2 hk2 c0 c1 c2 f0 f1 f2 HM1 HBx HJ1 HW1
 obtain ⟨c0, c1, c2, f0, f1, f2⟩ := HM2.out.cells
 obtain ⟨x0, x1, x2, x3, x4, x5⟩ := HB2.out.cells
 have hm3 : MsAt (w2.setCell ⟨mb, 1, none⟩ (.int .i64 ((s.bytes : Int) + t0.length))).drew mb ⟨s.nodes + 1, s.bytes + t0.length, s.wrong⟩ := HM2.out.toBytes (s.bytes + t0.length)
 have hk3 := (HM2.out.but 1 (.int .i64 ((s.bytes : Int) + t0.length))).drew
 have HB3 := Lib.hid (HB2.out.but hk3 (by simpa using hne))
 have HJ3 := Lib.hid (HJ2.out.but hk3 (by intro j hj; simp at hj; subst hj; exact hS))
 have HW3 := Lib.hid (HW2.out.trans hk3)
 have HM3 := Lib.hid hm3
 clear hm3 hk3 HM2 HB2 HJ2 HW2
 go_still_tail 10, (by kernel_rfl)
 go_upto_region 3 with fail
 generalize (w2.setCell ⟨mb, 1, none⟩ (.int .i64 ((s.bytes : Int) + t0.length))).drew = w3 at HM3 HB3 HJ3 HW3 ⊢
 clear c0 c1 c2 f0 f1 f2 x0 x1 x2 x3 x4 x5
 obtain ⟨c0, c1, c2, f0, f1, f2⟩ := HM3.out.cells
 obtain ⟨x0, x1, x2, x3, x4, x5⟩ := HB3.out.cells
 dsimp only at c0 c1 c2
 obtain ⟨nn, hnn⟩ : ∃ nn, s.nodes + 1 = nn := ⟨_, rfl⟩
 obtain ⟨bb, hbb⟩ : ∃ bb, s.bytes + t0.length = bb := ⟨_, rfl⟩
 have HONE : Hid (Js.measOne (.mk k0 b0 n0 t0 l m) d s = ⟨nn, bb, s.wrong || !Js.plain (.mk k0 b0 n0 t0 l m) || decide (8 < d) || decide (256 < nn) || decide (32768 < bb)⟩) := Lib.hid (by rw [← hnn, ← hbb]; rfl)
 have HMS : Hid (Js.meas (.mk k0 b0 n0 t0 l m) d s = if (Js.measOne (.mk k0 b0 n0 t0 l m) d s).wrong then Js.measOne (.mk k0 b0 n0 t0 l m) d s else Js.measM m [] d (Js.measL l d (Js.measOne (.mk k0 b0 n0 t0 l m) d s))) := Lib.hid rfl
 rw [hnn] at c0 HM3
 rw [hbb] at c1 HM3
 have HNN := Lib.hid hnn
 have HBB := Lib.hid hbb
 have gn : (nn : Int) ≤ 1073741824 := by omega
 have gb : (bb : Int) ≤ 1073741824 := by omega
 obtain ⟨q, hq⟩ : ∃ q, s.wrong = q := ⟨_, rfl⟩
 rw [hq] at c2 HONE
 have HQ := Lib.hid hq
 clear hnn hbb hq hn1 hb1
 cases q
 rotate_left
 ·have HEND : Hid (Js.meas (.mk k0 b0 n0 t0 l m) d s = ⟨nn, bb, true⟩) := Lib.hid (by rw [HMS.out, HONE.out]; simp)
  have hmf := HM3.out.toWrong true
  have hwf := HW3.out.trans (HM3.out.but 2 (.bool true))
  have HMF := Lib.hid hmf
  have HWF := Lib.hid hwf
  clear hmf hwf
  go_wp2_with fail
  refine bodyPost_ret (results_none rfl _ _ _) rfl ?_
  refine ⟨rfl, ?_, HWF.out⟩
  rw [HEND.out]
  exact HMF.out
 go_wp2_with fail
 refine (HP.out _ HJ3.out).mono ?_
 rintro e w4 ⟨rfl, hb4⟩
 obtain ⟨p, hp⟩ : ∃ p, Js.plain (.mk k0 b0 n0 t0 l m) = p := ⟨_, rfl⟩
 rw [hp] at HONE ⊢
 have HM4 : Hid (MsAt w4 mb ⟨nn, bb, s.wrong⟩) := Lib.hid (HM3.out.next hb4)
 have HB4 := Lib.hid (HB3.out.next hb4)
 have HJ4 := Lib.hid (HJ3.out.next hb4)
 have HW4 := Lib.hid (HW3.out.below hb4 HW3.out.size)
 rw [HQ.out] at HM4
 clear hb4 hp HM3 HB3 HJ3 HW3 c0 c1 c2 f0 f1 f2 x0 x1 x2 x3 x4 x5
 obtain ⟨c0, c1, c2, f0, f1, f2⟩ := HM4.out.cells
 dsimp only at c0 c1 c2
 cases p
 ·have HEND : Hid (Js.meas (.mk k0 b0 n0 t0 l m) d s = ⟨nn, bb, true⟩) := Lib.hid (by rw [HMS.out, HONE.out]; simp)
  have hmf := HM4.out.toWrong true
  have hwf := HW4.out.trans (HM4.out.but 2 (.bool true))
  have HMF := Lib.hid hmf
  have HWF := Lib.hid hwf
  clear hmf hwf
  go_wp2_with fail
  refine bodyPost_ret (results_none rfl _ _ _) rfl ?_
  refine ⟨rfl, ?_, HWF.out⟩
  rw [HEND.out]
  exact HMF.out
 by_cases h8 : 8 < d
 ·have q8 : decide ((8 : Int) < (d : Int)) = true := by simp; omega
  have HEND : Hid (Js.meas (.mk k0 b0 n0 t0 l m) d s = ⟨nn, bb, true⟩) := Lib.hid (by rw [HMS.out, HONE.out, decide_eq_true h8]; simp)
  clear h8
  have hmf := HM4.out.toWrong true
  have hwf := HW4.out.trans (HM4.out.but 2 (.bool true))
  have HMF := Lib.hid hmf
  have HWF := Lib.hid hwf
  clear hmf hwf
  go_wp2_with fail
  refine bodyPost_ret (results_none rfl _ _ _) rfl ?_
  refine ⟨rfl, ?_, HWF.out⟩
  rw [HEND.out]
  exact HMF.out
 have q8 : decide ((8 : Int) < (d : Int)) = false := by simp; omega
 rw [decide_eq_false h8] at HONE
 clear h8
 by_cases h256 : 256 < nn
 ·have q256 : decide ((256 : Int) < (nn : Int)) = true := by simp; omega
  have HEND : Hid (Js.meas (.mk k0 b0 n0 t0 l m) d s = ⟨nn, bb, true⟩) := Lib.hid (by rw [HMS.out, HONE.out, decide_eq_true h256]; simp)
  clear h256
  have hmf := HM4.out.toWrong true
  have hwf := HW4.out.trans (HM4.out.but 2 (.bool true))
  have HMF := Lib.hid hmf
  have HWF := Lib.hid hwf
  clear hmf hwf
  go_wp2_with fail
  refine bodyPost_ret (results_none rfl _ _ _) rfl ?_
  refine ⟨rfl, ?_, HWF.out⟩
  rw [HEND.out]
  exact HMF.out
 have q256 : decide ((256 : Int) < (nn : Int)) = false := by simp; omega
 rw [decide_eq_false h256] at HONE
 clear h256
 by_cases hbig : 32768 < bb
 ·have qb : decide ((32768 : Int) < (bb : Int)) = true := by simp; omega
  have HEND : Hid (Js.meas (.mk k0 b0 n0 t0 l m) d s = ⟨nn, bb, true⟩) := Lib.hid (by rw [HMS.out, HONE.out, decide_eq_true hbig]; simp)
  clear hbig
  have hmf := HM4.out.toWrong true
  have hwf := HW4.out.trans (HM4.out.but 2 (.bool true))
  have HMF := Lib.hid hmf
  have HWF := Lib.hid hwf
  clear hmf hwf
  go_wp2_with fail
  refine bodyPost_ret (results_none rfl _ _ _) rfl ?_
  refine ⟨rfl, ?_, HWF.out⟩
  rw [HEND.out]
  exact HMF.out
 have qb : decide ((32768 : Int) < (bb : Int)) = false := by simp; omega
 rw [decide_eq_false hbig] at HONE
 clear hbig
 have HEND : Hid (Js.meas (.mk k0 b0 n0 t0 l m) d s = Js.measM m [] d (Js.measL l d ⟨nn, bb, false⟩)) := Lib.hid (by rw [HMS.out, HONE.out]; simp)
 have hm5 := HM4.out.toWrong false
 have hk5 := HM4.out.but 2 (.bool false)
 have HB5 := Lib.hid (HB4.out.but hk5 (by simpa using hne))
 have HJ5 := Lib.hid (HJ4.out.but hk5 (by intro j hj; simp at hj; subst hj; exact hS))
 have HW5 := Lib.hid (HW4.out.trans hk5)
 have HM5 := Lib.hid hm5
 go_upto_region 4 with fail
 generalize (w4.setCell ⟨mb, 2, none⟩ (.bool false)) = w5 at HM5 HB5 HJ5 HW5 ⊢
 clear hm5 hk5 c0 c1 c2 f0 f1 f2 HM4 HB4 HJ4 HW4 q8 q256 qb HONE HMS HP
 obtain ⟨c0, c1, c2, f0, f1, f2⟩ := HM5.out.cells
 obtain ⟨x0, x1, x2, x3, x4, x5⟩ := HB5.out.cells
 dsimp only at c0 c1 c2
 have hnodes : 1 + Js.nodesL l + Js.nodesM m ≤ N + 1 := hN
 have hnodes2 : nn + Js.nodesL l + Js.nodesM m ≤ 1073741824 := by have := HNN.out; unfold Js.nodes at hn; omega
 have hbytes2 : bb + Js.bytesL l + Js.bytesM m ≤ 1073741824 := by have := HBB.out; unfold Js.bytes at hb; omega
 have hdeep2 : d + Js.deepL l + 1 ≤ 1073741824 ∧ d + Js.deepM m + 1 ≤ 1073741824 := by unfold Js.deep at hd; omega
 have hll : l.length ≤ 1073741824 := by have := Js.length_nodesL l; omega
 have hml : m.length ≤ 1073741824 := by have := Js.length_nodesM m; omega
 have IH := Lib.hid ih
 clear ih hN hn hb hd
 go_wp2_with fail
 clear x0 x1 x2 x3 x4 x5 c0 c1 c2 f0 f1 f2
 go_loopw [64] (fun i wr => ∃ k : Nat, k ≤ l.length ∧ i = .int .i64 k ∧ Hid (MsAt wr mb (Js.measL (l.take k) d ⟨nn, bb, false⟩)) ∧ Hid (JV wr S (.mk k0 b0 n0 t0 l m) [.int .i64 k0, .bool b0, .int .i64 n0, .string (str t0), .slice A5 l.length c5, .slice A6 m.length c6]) ∧ Hid (But [mb] w wr) ∧ Hid (JBox wr M (.int .i64 k0) (.bool b0) (.int .i64 n0) (.string (str t0)) (.slice A5 l.length c5) (.slice A6 m.length c6))) (fun i _ => l.length - (intOf i).toNat)
 case atStart => exact ⟨0, Nat.zero_le _, rfl, HM5, HJ5, HW5, HB5⟩
 case round =>
  obtain ⟨k, hk, rfl, HM, HJ, HW, HB⟩ := hrel
  clear HM5 HJ5 HW5 HB5
  by_cases hlt : k < l.length
  ·obtain ⟨y, hy⟩ : ∃ y, l[k]? = some y := ⟨l[k], List.getElem?_eq_getElem hlt⟩
   have hjl := HJ.out
   unfold JV at hjl
   obtain ⟨_, _, _, _, hvs, -, -, hjl, -⟩ := hjl
   simp only [List.cons.injEq, Value.slice.injEq, and_true, true_and] at hvs
   obtain ⟨⟨rfl, rfl⟩, rfl, rfl⟩ := hvs
   obtain ⟨g, o, k1, b1, n1, t1, A7, l7, c7, A8, l8, c8, hA, hSg, hg, q0, q1, q2, q3, q4, q5, hjy⟩ := hjl.elem hy
   subst hA
   obtain ⟨p1, p2, p3⟩ := Js.nodesL_split l k y hy
   have pl := Js.measL_le (l.take k) d ⟨nn, bb, false⟩
   have hbel := below_box wr (.cells #[.int .i64 k1, .bool b1, .int .i64 n1, .string t1, .slice A7 l7 c7, .slice A8 l8 c8] 25)
   have HBy : Hid (JBox _ wr.heap.size _ _ _ _ _ _) := Lib.hid (heap_alloc_new wr (.cells #[.int .i64 k1, .bool b1, .int .i64 n1, .string t1, .slice A7 l7 c7, .slice A8 l8 c8] 25))
   have HMa := Lib.hid (HM.out.next hbel)
   have HJa := Lib.hid (HJ.out.next hbel)
   have HWa := Lib.hid (HW.out.below hbel HW.out.size)
   have HBa := Lib.hid (HB.out.next hbel)
   have HJy := Lib.hid (hjy.next hbel)
   have HSN : Hid (Js.measL (l.take (k + 1)) d ⟨nn, bb, false⟩ = Js.meas y (d + 1) (Js.measL (l.take k) d ⟨nn, bb, false⟩)) := Lib.hid (Js.measL_snoc l k y d _ hy)
   have hpn : Js.nodes y ≤ N := by omega
   have hp1 : (Js.measL (l.take k) d ⟨nn, bb, false⟩).nodes + Js.nodes y ≤ 1073741824 := by have : (⟨nn, bb, false⟩ : Js.Ms).nodes = nn := rfl; omega
   have hp2 : (Js.measL (l.take k) d ⟨nn, bb, false⟩).bytes + Js.bytes y ≤ 1073741824 := by have : (⟨nn, bb, false⟩ : Js.Ms).bytes = bb := rfl; omega
   have hp3 : d + 1 + Js.deep y ≤ 1073741824 := by omega
   generalize Js.measL (l.take k) d ⟨nn, bb, false⟩ = sk at HM HMa HSN hp1 hp2
   have HSg := Lib.hid hSg
   clear hjl hjy hbel hy pl p1 p2 p3 hSg
   go_wp2_with fail
   refine (IH.out y _ S (d + 1) sk _ mb hpn HJy.out hS HMa.out hp1 hp2 hp3).mono ?_
   rintro e w7 ⟨rfl, hm7, hk7⟩
   have HM7 : Hid (MsAt w7 mb (Js.measL (l.take (k + 1)) d ⟨nn, bb, false⟩)) := Lib.hid (by rw [HSN.out]; exact hm7)
   have HJ7 := Lib.hid (HJa.out.but hk7 (by intro j hj; simp at hj; subst hj; exact hS))
   have HW7 := Lib.hid (HWa.out.trans hk7)
   have HB7 := Lib.hid (HBa.out.but hk7 (by simpa using hne))
   clear hm7 hk7 HM HMa HJ HJa HW HWa HB HBa HBy HJy HSN hp1 hp2 q0 q1 q2 q3 q4 q5
   go_wp2_with fail
   go_roundw
   case rel => exact ⟨k + 1, by omega, by go_num, HM7, HJ7, HW7, HB7⟩
   case measure => simp [intOf]; omega
  ·obtain rfl : k = l.length := by omega
   rw [List.take_length] at HM
   obtain ⟨x0, x1, x2, x3, x4, x5⟩ := HB.out.cells
   have pl := Js.measL_le l d ⟨nn, bb, false⟩
   have hs2a : (Js.measL l d ⟨nn, bb, false⟩).nodes + Js.nodesM m ≤ 1073741824 := by have : (⟨nn, bb, false⟩ : Js.Ms).nodes = nn := rfl; omega
   have hs2b : (Js.measL l d ⟨nn, bb, false⟩).bytes + Js.bytesM m ≤ 1073741824 := by have : (⟨nn, bb, false⟩ : Js.Ms).bytes = bb := rfl; omega
   generalize Js.measL l d ⟨nn, bb, false⟩ = s2 at HM HEND hs2a hs2b
   clear pl x0 x1 x2 x3 x4
   go_wp2_with fail
   clear x5
   go_loopw [77] (fun i wr => ∃ k : Nat, k ≤ m.length ∧ i = .int .i64 k ∧ Hid (MsAt wr mb (Js.measM (m.take k) [] d s2)) ∧ Hid (JV wr S (.mk k0 b0 n0 t0 l m) [.int .i64 k0, .bool b0, .int .i64 n0, .string (str t0), .slice A5 l.length c5, .slice A6 m.length c6]) ∧ Hid (But [mb] w wr) ∧ Hid (JBox wr M (.int .i64 k0) (.bool b0) (.int .i64 n0) (.string (str t0)) (.slice A5 l.length c5) (.slice A6 m.length c6))) (fun i _ => m.length - (intOf i).toNat)
   case atStart => exact ⟨0, Nat.zero_le _, rfl, HM, HJ, HW, HB⟩
   case round =>
    obtain ⟨k, hk, rfl, HM', HJ', HW', HB'⟩ := hrel
    clear HM HJ HW HB
    by_cases hlt : k < m.length
    ·obtain ⟨nm, y, hy⟩ : ∃ nm y, m[k]? = some (nm, y) := ⟨m[k].1, m[k].2, List.getElem?_eq_getElem hlt⟩
     have hjl := HJ'.out
     unfold JV at hjl
     obtain ⟨_, _, _, _, hvs, -, -, -, hjm⟩ := hjl
     simp only [List.cons.injEq, Value.slice.injEq, and_true, true_and] at hvs
     obtain ⟨⟨rfl, rfl⟩, rfl, rfl⟩ := hvs
     obtain ⟨g, o, k1, b1, n1, t1, A7, l7, c7, A8, l8, c8, hA, hSg, hg, q0, q1, q2, q3, q4, q5, q6, hjy⟩ := hjm.elem hy
     subst hA
     obtain ⟨p1, p2, p3⟩ := Js.nodesM_split m k nm y hy
     have pl := Js.measM_le (m.take k) [] d s2
     have hbel := below_box wr (.cells #[.string (str nm), .int .i64 k1, .bool b1, .int .i64 n1, .string t1, .slice A7 l7 c7, .slice A8 l8 c8] 89)
     have HBy := Lib.hid (heap_alloc_new wr (.cells #[.string (str nm), .int .i64 k1, .bool b1, .int .i64 n1, .string t1, .slice A7 l7 c7, .slice A8 l8 c8] 89))
     have HMa := Lib.hid (HM'.out.next hbel)
     have HJa := Lib.hid (HJ'.out.next hbel)
     have HWa := Lib.hid (HW'.out.below hbel HW'.out.size)
     have HBa := Lib.hid (HB'.out.next hbel)
     have HJy := Lib.hid (hjy.next hbel)
     have HJm := Lib.hid (JM.keep hbel.size (fun _ h _ => h) (fun g _ hg => hbel.block g hg) _ _ _ hjm)
     have HSN : Hid (Js.measM (m.take (k + 1)) [] d s2 = Js.meas y (d + 1) (Js.measName nm ((m.take k).map (·.1)) (Js.measM (m.take k) [] d s2))) := Lib.hid (Js.measM_snoc m [] k nm y d _ hy)
     have hpn : Js.nodes y ≤ N := by omega
     have hp1 : (Js.measM (m.take k) [] d s2).nodes + Js.nodes y ≤ 1073741824 := by omega
     have hp2 : (Js.measM (m.take k) [] d s2).bytes + nm.length + Js.bytes y ≤ 1073741824 := by omega
     have hp3 : d + 1 + Js.deep y ≤ 1073741824 := by omega
     generalize Js.measM (m.take k) [] d s2 = sk at HMa HSN hp1 hp2
     have hzn := str_size nm
     have hmbl := HM'.out.lt
     clear hjm hjy hbel hy pl p1 p2 p3 hSg HM'
     go_upto_region 13 with fail
     generalize (wr.alloc (.cells #[.string (str nm), .int .i64 k1, .bool b1, .int .i64 n1, .string t1, .slice A7 l7 c7, .slice A8 l8 c8] 89)) = wA at HBy HMa HJa HWa HBa HJy HJm ⊢
     generalize wr.heap.size = Y at HBy hmbl ⊢
     have hYmb : Y ≠ mb := by omega
     obtain ⟨c0, c1, c2, f0, f1, f2⟩ := HMa.out.cells
     have y0 : wA.cell? ⟨Y, 0, none⟩ = some (.string (str nm)) := (blk_cells HBy.out 0).trans rfl
     have hb1 : (sk.bytes : Int) + nm.length ≤ 1073741824 := by omega
     have hm8 : MsAt (wA.setCell ⟨mb, 1, none⟩ (.int .i64 ((sk.bytes : Int) + nm.length))).drew mb { sk with bytes := sk.bytes + nm.length } := HMa.out.toBytes (sk.bytes + nm.length)
     have hk8 := (HMa.out.but 1 (.int .i64 ((sk.bytes : Int) + nm.length))).drew
     have HM8 := Lib.hid hm8
     have HBy8 := Lib.hid (hk8.blk HBy.out (by simpa using hYmb))
     have HJ8 := Lib.hid (HJa.out.but hk8 (by intro j hj; simp at hj; subst hj; exact hS))
     have HW8 := Lib.hid (HWa.out.trans hk8)
     have HB8 := Lib.hid (HBa.out.but hk8 (by simpa using hne))
     have HJy8 := Lib.hid (HJy.out.but hk8 (by intro j hj; simp at hj; subst hj; exact hS))
     have HJm8 := Lib.hid (JM.keep hk8.size (fun _ h _ => h) (fun g hgS hg => hk8.block g hg (by simp; rintro rfl; exact hS hgS)) _ _ _ HJm.out)
     clear hm8 hk8 q0 q1 q2 q3 q4 q5 q6 hmbl hg
     go_still_tail 10, (by kernel_rfl)
     go_upto_region 14 with fail
     generalize (wA.setCell ⟨mb, 1, none⟩ (.int .i64 ((sk.bytes : Int) + nm.length))).drew = wB at HM8 HBy8 HJ8 HW8 HB8 HJy8 HJm8 ⊢
     clear HMa HBy HJa HWa HBa HJy HJm c0 c1 c2 f0 f1 f2 y0
     obtain ⟨c0, c1, c2, f0, f1, f2⟩ := HM8.out.cells
     obtain ⟨x0, x1, x2, x3, x4, x5⟩ := HB8.out.cells
     have y0 : wB.cell? ⟨Y, 0, none⟩ = some (.string (str nm)) := (blk_cells HBy8.out 0).trans rfl
     have hYl : Y < wB.heap.size := (Array.getElem?_eq_some_iff.1 HBy8.out).1
     dsimp only at c0 c1 c2
     have hmf : ∀ (fn : Fn) (first cap : Array Value) (w : World), (Instr.makeFunc fn first cap).run Tryz.prog w = .ok (.func fn first cap) w := fun _ _ _ _ => rfl
     have HHMF := Lib.hid hmf
     have HN9 : Hid (Js.measName nm ((m.take k).map (·.1)) sk = ⟨sk.nodes, sk.bytes + nm.length, sk.wrong || (m.take k).any fun p => decide (p.1 = nm)⟩) := Lib.hid (by unfold Js.measName; rw [List.any_map]; rfl)
     obtain ⟨q, hq⟩ : ∃ q, sk.wrong = q := ⟨_, rfl⟩
     rw [hq] at c2
     have HQ := Lib.hid hq
     clear hq
     cases q
     ·go_wp2_with fail
      refine (contains_names (fun g => g < wB.heap.size) m _ k c6 Y nm wB (fun g h => h) hml hk (JM.keep (Nat.le_refl _) (fun g _ h => h) (fun _ _ _ => rfl) _ _ _ HJm8.out) y0 hYl).mono ?_
      rintro e wC ⟨rfl, hbC⟩
      have HMx := Lib.hid (HM8.out.next hbC)
      have HJx := Lib.hid (HJ8.out.next hbC)
      have HWx := Lib.hid (HW8.out.below hbC HW8.out.size)
      have HBx := Lib.hid (HB8.out.next hbC)
      have HJyx := Lib.hid (HJy8.out.next hbC)
      have HByx := Lib.hid (blk_next hbC HBy8.out)
      have HANY := Lib.hid (show (false || (m.take k).any fun p => decide (p.1 = nm)) = (m.take k).any fun p => decide (p.1 = nm) from Bool.false_or _)
      generalize hqq : ((m.take k).any fun p => decide (p.1 = nm)) = qq at HN9 HANY ⊢
      have HQQ := Lib.hid hqq
      clear hqq hbC HM8 HJ8 HW8 HB8 HJy8 HBy8 HJm8 c0 c1 c2 f0 f1 f2 x0 x1 x2 x3 x4 x5 y0 hYl
      obtain ⟨c0, c1, c2, f0, f1, f2⟩ := HMx.out.cells
      dsimp only at c0 c1 c2
      obtain ⟨x0, x1, x2, x3, x4, x5⟩ := HBx.out.cells
      obtain ⟨y0, y1, y2, y3, y4, y5, y6⟩ := blk7 HByx.out
      have hm9 : MsAt (wC.setCell ⟨mb, 2, none⟩ (.bool qq)) mb (Js.measName nm ((m.take k).map (·.1)) sk) := by
       rw [HN9.out, HQ.out, HANY.out]
       exact HMx.out.toWrong qq
      have hk9 := HMx.out.but 2 (.bool qq)
      have HM9 := Lib.hid hm9
      have HJ9 := Lib.hid (HJx.out.but hk9 (by intro j hj; simp at hj; subst hj; exact hS))
      have HW9 := Lib.hid (HWx.out.trans hk9)
      have HB9 := Lib.hid (HBx.out.but hk9 (by simpa using hne))
      have HJy9 := Lib.hid (HJyx.out.but hk9 (by intro j hj; simp at hj; subst hj; exact hS))
      have hp1' : (Js.measName nm ((m.take k).map (·.1)) sk).nodes + Js.nodes y ≤ 1073741824 := hp1
      have hp2' : (Js.measName nm ((m.take k).map (·.1)) sk).bytes + Js.bytes y ≤ 1073741824 := hp2
      clear hm9 hk9 HMx HJx HWx HBx HJyx
      go_wp2_with fail
      refine (IH.out y _ S (d + 1) _ _ mb hpn HJy9.out hS HM9.out hp1' hp2' hp3).mono ?_
      rintro e w7 ⟨rfl, hm7, hk7⟩
      have HM7 : Hid (MsAt w7 mb (Js.measM (m.take (k + 1)) [] d s2)) := Lib.hid (by rw [HSN.out]; exact hm7)
      have HJ7 := Lib.hid (HJ9.out.but hk7 (by intro j hj; simp at hj; subst hj; exact hS))
      have HW7 := Lib.hid (HW9.out.trans hk7)
      have HB7 := Lib.hid (HB9.out.but hk7 (by simpa using hne))
      clear hm7 hk7 HM9 HJ9 HW9 HB9 HJy9 HSN hp1 hp2 hp1' hp2' c0 c1 c2 f0 f1 f2 x0 x1 x2 x3 x4 x5
      go_wp2_with fail
      go_roundw
      case rel => exact ⟨k + 1, by omega, by go_num, HM7, HJ7, HW7, HB7⟩
      case measure => simp [intOf]; omega
     ·have HMx := HM8
      have HJx := HJ8
      have HWx := HW8
      have HBx := HB8
      have HJyx := HJy8
      clear y0
      obtain ⟨y0, y1, y2, y3, y4, y5, y6⟩ := blk7 HBy8.out
      have hm9 : MsAt (wB.setCell ⟨mb, 2, none⟩ (.bool true)) mb (Js.measName nm ((m.take k).map (·.1)) sk) := by
       rw [HN9.out, HQ.out, Bool.true_or]
       exact HMx.out.toWrong true
      have hk9 := HMx.out.but 2 (.bool true)
      have HM9 := Lib.hid hm9
      have HJ9 := Lib.hid (HJx.out.but hk9 (by intro j hj; simp at hj; subst hj; exact hS))
      have HW9 := Lib.hid (HWx.out.trans hk9)
      have HB9 := Lib.hid (HBx.out.but hk9 (by simpa using hne))
      have HJy9 := Lib.hid (HJyx.out.but hk9 (by intro j hj; simp at hj; subst hj; exact hS))
      have hp1' : (Js.measName nm ((m.take k).map (·.1)) sk).nodes + Js.nodes y ≤ 1073741824 := hp1
      have hp2' : (Js.measName nm ((m.take k).map (·.1)) sk).bytes + Js.bytes y ≤ 1073741824 := hp2
      clear hm9 hk9 HMx HJx HWx HBx HJyx
      go_wp2_with fail
      refine (IH.out y _ S (d + 1) _ _ mb hpn HJy9.out hS HM9.out hp1' hp2' hp3).mono ?_
      rintro e w7 ⟨rfl, hm7, hk7⟩
      have HM7 : Hid (MsAt w7 mb (Js.measM (m.take (k + 1)) [] d s2)) := Lib.hid (by rw [HSN.out]; exact hm7)
      have HJ7 := Lib.hid (HJ9.out.but hk7 (by intro j hj; simp at hj; subst hj; exact hS))
      have HW7 := Lib.hid (HW9.out.trans hk7)
      have HB7 := Lib.hid (HB9.out.but hk7 (by simpa using hne))
      clear hm7 hk7 HM9 HJ9 HW9 HB9 HJy9 HSN hp1 hp2 hp1' hp2' c0 c1 c2 f0 f1 f2 x0 x1 x2 x3 x4 x5
      go_wp2_with fail
      go_roundw
      case rel => exact ⟨k + 1, by omega, by go_num, HM7, HJ7, HW7, HB7⟩
      case measure => simp [intOf]; omega
    ·obtain rfl : k = m.length := by omega
     rw [List.take_length] at HM'
     have HEND2 : Hid (MsAt wr mb (Js.meas (.mk k0 b0 n0 t0 l m) d s)) := Lib.hid (by rw [HEND.out]; exact HM'.out)
     go_wp2_with fail
     go_end0
     exact ⟨rfl, HEND2.out, HW'.out⟩
theorem add_any : ∀ N, AddC N
 | 0 => fun x vs S d s w mb hN => absurd hN (by have := Js.nodes_pos x; omega)
 | N + 1 => add_step N (add_any N)
end Go.Proofs.YtimioelnnhnbiaaGreatDoor
namespace Go.Proofs.YtimioelnnhnbiaaGreatDoor
open Go.RowKit
def WOut (B bb : Nat) (l : Js.Bs) (w : World) (e : Ending) (w' : World) : Prop := e = .returned (.tuple #[]) ∧ IsB B bb l w' ∧ Below B w w' ∧ Lib.OthersKept 5 (some bb) w w'
def qI (c : UInt8) : Int := Lib.indexByte [34, 92, 10, 13, 9] c
def qB (n : Nat) : UInt8 := [34, 92, 110, 114, 116].getD n 0
def hB (n : Nat) : UInt8 := [48, 49, 50, 51, 52, 53, 54, 55, 56, 57, 97, 98, 99, 100, 101, 102].getD n 0
theorem qI_facts (c : UInt8) : (-1 ≤ qI c ∧ qI c ≤ 4) ∧ (0 ≤ qI c → Js.esc c = [92, qB (qI c).toNat]) ∧ (qI c < 0 → (32 ≤ c.toNat ∧ c.toNat ≤ 126) → Js.esc c = [c]) ∧ (qI c < 0 → ¬ (32 ≤ c.toNat ∧ c.toNat ≤ 126) → Js.esc c = [92, 117, 48, 48, hB (c.toNat / 16), hB (c.toNat % 16)]) ∧ bits BinOp.and IntKind.u8 c.toNat 15 = ((c.toNat % 16 : Nat) : Int) := by
 have h : ∀ n : Fin 256, (fun c : UInt8 => (-1 ≤ qI c ∧ qI c ≤ 4) ∧ (0 ≤ qI c → Js.esc c = [92, qB (qI c).toNat]) ∧ (qI c < 0 → (32 ≤ c.toNat ∧ c.toNat ≤ 126) → Js.esc c = [c]) ∧ (qI c < 0 → ¬ (32 ≤ c.toNat ∧ c.toNat ≤ 126) → Js.esc c = [92, 117, 48, 48, hB (c.toNat / 16), hB (c.toNat % 16)]) ∧ bits BinOp.and IntKind.u8 c.toNat 15 = ((c.toNat % 16 : Nat) : Int)) (UInt8.ofNat n.val) := by decide +kernel
 have := h ⟨c.toNat, c.toNat_lt⟩
 simpa using this
theorem indexQ_any (c : UInt8) (w : World) :
  Calls Tryz.prog 85 #[.string ⟨#[34, 92, 10, 13, 9]⟩, .int .u8 c.toNat] w fun e w' => e = .returned (.int .i64 (qI c)) ∧ w' = w := by
 refine (Tryz.strings_IndexByte _ _ _).mono ?_
 rintro e w' ⟨rfl, rfl⟩
 refine ⟨ret_int ?_, rfl⟩
 unfold qI
 congr 1
 simp
theorem qB_get (k : Nat) (h : k < (⟨#[34, 92, 110, 114, 116]⟩ : ByteArray).size) : (⟨#[34, 92, 110, 114, 116]⟩ : ByteArray)[k] = qB k := by
 have h8 : k < 5 := h
 match k, h8 with
 | 0, _ => rfl
 | 1, _ => rfl
 | 2, _ => rfl
 | 3, _ => rfl
 | 4, _ => rfl
theorem hB_get (k : Nat) (h : k < (⟨#[48, 49, 50, 51, 52, 53, 54, 55, 56, 57, 97, 98, 99, 100, 101, 102]⟩ : ByteArray).size) : (⟨#[48, 49, 50, 51, 52, 53, 54, 55, 56, 57, 97, 98, 99, 100, 101, 102]⟩ : ByteArray)[k] = hB k := by
 have h8 : k < 16 := h
 match k, h8 with
 | 0, _ => rfl
 | 1, _ => rfl
 | 2, _ => rfl
 | 3, _ => rfl
 | 4, _ => rfl
 | 5, _ => rfl
 | 6, _ => rfl
 | 7, _ => rfl
 | 8, _ => rfl
 | 9, _ => rfl
 | 10, _ => rfl
 | 11, _ => rfl
 | 12, _ => rfl
 | 13, _ => rfl
 | 14, _ => rfl
 | 15, _ => rfl
 | n + 16, h => exact absurd h (by omega)
theorem esc_len (c : UInt8) : 1 ≤ (Js.esc c).length ∧ (Js.esc c).length ≤ 6 := by
 unfold Js.esc
 repeat' split
 all_goals simp
theorem flat_esc_len (s : Js.Bs) (k : Nat) : ((s.take k).flatMap Js.esc).length ≤ 6 * s.length := by
 have h : ∀ l : Js.Bs, (l.flatMap Js.esc).length ≤ 6 * l.length := by
  intro l
  induction l with
  | nil => simp
  | cons c t ih => rw [List.flatMap_cons, List.length_append, List.length_cons]; have := (esc_len c).2; omega
 have := h (s.take k)
 have := List.length_take_le k s
 have h2 : (s.take k).length ≤ s.length := by rw [List.length_take]; omega
 omega
set_option maxRecDepth 100000 in
set_option maxHeartbeats 8000000 in
theorem quote_any (B bb : Nat) (acc s : Js.Bs) (w : World) (h : IsB B bb acc w) (hacc : acc.length ≤ 1099511627776) (hs : s.length ≤ 1073741824) :
  Calls Tryz.prog 78 #[.pointer (some ⟨bb, 0, none⟩), .string (str s)] w (WOut B bb (acc ++ Js.quote s) w) := by
 have hz := str_size s
 have HH := Lib.hid h
 clear h
 go_enter Tryz.func78, Tryz.ntmps78
 go_wp2_with fail
 refine (writeByte_at B bb acc 34 34 rfl _ HH.out (by omega)).mono ?_
 rintro e w1 ⟨rfl, h1, b1, k1⟩
 have H1 : Hid (IsB B bb (acc ++ [34] ++ (s.take 0).flatMap Js.esc) w1) := Lib.hid (by simpa using h1)
 have B1 := Lib.hid b1
 have K1 := Lib.hid k1
 clear h1 b1 k1
 go_wp2_with fail
 go_loopw [4, 5, 6, 11] (fun _ _ _ i wr => ∃ k : Nat, k ≤ s.length ∧ i = .int .i64 k ∧ Hid (IsB B bb (acc ++ [34] ++ (s.take k).flatMap Js.esc) wr) ∧ Hid (Below B w wr) ∧ Hid (Lib.OthersKept 5 (some bb) w wr)) (fun _ _ _ i _ => s.length - (intOf i).toNat)
 case atStart => exact ⟨0, Nat.zero_le _, rfl, H1, B1, K1⟩
 case round =>
  obtain ⟨k, hk, rfl, HB, HW, HK⟩ := hrel
  clear H1 B1 K1
  have hl0 : (acc ++ [34] ++ (s.take k).flatMap Js.esc).length ≤ 1109511627776 := by
   have := flat_esc_len s k
   rw [List.length_append, List.length_append, List.length_singleton]; omega
  by_cases hlt : k < s.length
  ·have hks : k < (str s).size := by omega
   obtain ⟨c, hc⟩ : ∃ c, s[k]? = some c := ⟨_, List.getElem?_eq_getElem hlt⟩
   have HG := str_get hc hks
   have HNX : Hid (acc ++ [34] ++ (s.take (k + 1)).flatMap Js.esc = (acc ++ [34] ++ (s.take k).flatMap Js.esc) ++ Js.esc c) := Lib.hid (by
    rw [List.take_add_one, hc, List.flatMap_append]; simp)
   generalize acc ++ [34] ++ (s.take k).flatMap Js.esc = q at HB HNX hl0
   obtain ⟨⟨i1, i2⟩, e1, e2, e3, e4⟩ := qI_facts c
   have HE := Lib.hid (And.intro e1 (And.intro e2 e3))
   have HAND := e4
   have c256 := c.toNat_lt
   clear hc e1 e2 e3 e4
   go_wp2_with fail
   refine (indexQ_any c _).mono ?_
   rintro e w2 ⟨rfl, rfl⟩
   by_cases hq : 0 ≤ qI c
   ·have HES := Lib.hid (HE.out.1 hq)
    obtain ⟨j, hj, hj5⟩ : ∃ j : Nat, qI c = j ∧ j < 5 := ⟨(qI c).toNat, by omega, by omega⟩
    rw [hj] at HES hq i1 i2 ⊢
    clear hj HE HAND
    go_wp2_with fail
    refine (writeByte_at B bb q 92 92 rfl _ HB.out (by omega)).mono ?_
    rintro e w3 ⟨rfl, h3, b3, k3⟩
    have H3 := Lib.hid h3
    have B3 := Lib.hid (HW.out.trans b3)
    have K3 := Lib.hid (HK.out.trans k3)
    clear h3 b3 k3 HB HW HK
    go_wp2_with fail
    refine (writeByte_at B bb _ _ (qB j) (by rw [qB_get]) _ H3.out (by rw [List.length_append, List.length_singleton]; omega)).mono ?_
    rintro e w4 ⟨rfl, h4, b4, k4⟩
    have H4 : Hid (IsB B bb (acc ++ [34] ++ (s.take (k + 1)).flatMap Js.esc) w4) := Lib.hid (by
     rw [HNX.out, HES.out]
     have e : q ++ [92, qB (j : Int).toNat] = q ++ [92] ++ [qB j] := by simp
     rw [e]; exact h4)
    have B4 := Lib.hid (B3.out.trans b4)
    have K4 := Lib.hid (K3.out.trans k4)
    clear h4 b4 k4 H3 B3 K3
    go_wp2_with fail
    go_roundw
    case rel => exact ⟨k + 1, by omega, by go_num, H4, B4, K4⟩
    case measure => simp [intOf]; omega
   ·have hq' : ¬ 0 ≤ qI c := hq
    by_cases hp : 32 ≤ c.toNat ∧ c.toNat ≤ 126
    ·have HES := Lib.hid (HE.out.2.1 (by omega) hp)
     have p1 : (32 : Int) ≤ c.toNat := by omega
     have p2 : (c.toNat : Int) ≤ 126 := by omega
     clear HE HAND hp
     go_wp2_with fail
     refine (writeByte_any B bb q c _ HB.out (by omega)).mono ?_
     rintro e w3 ⟨rfl, h3, b3, k3⟩
     have H3 : Hid (IsB B bb (acc ++ [34] ++ (s.take (k + 1)).flatMap Js.esc) w3) := Lib.hid (by rw [HNX.out, HES.out]; exact h3)
     have B3 := Lib.hid (HW.out.trans b3)
     have K3 := Lib.hid (HK.out.trans k3)
     clear h3 b3 k3 HB HW HK
     go_wp2_with fail
     go_roundw
     case rel => exact ⟨k + 1, by omega, by go_num, H3, B3, K3⟩
     case measure => simp [intOf]; omega
    ·have HES := Lib.hid (HE.out.2.2 (by omega) hp)
     have hp' : c.toNat < 32 ∨ 126 < c.toNat := by omega
     clear HE hp
     rcases hp' with p0 | p0
     ·have p1 : ¬ (32 : Int) ≤ c.toNat := by omega
      go_wp2_with fail
      refine (writeString_at B bb q [92, 117, 48, 48] _ rfl _ HB.out (by simp; omega)).mono ?_
      rintro e w3 ⟨rfl, h3, b3, k3⟩
      have H3 := Lib.hid h3
      have B3 := Lib.hid (HW.out.trans b3)
      have K3 := Lib.hid (HK.out.trans k3)
      clear h3 b3 k3 HB HW HK
      go_wp2_with fail
      refine (writeByte_at B bb _ _ (hB (c.toNat / 16)) (by rw [hB_get]) _ H3.out (by rw [List.length_append]; simp; omega)).mono ?_
      rintro e w4 ⟨rfl, h4, b4, k4⟩
      have H4 := Lib.hid h4
      have B4 := Lib.hid (B3.out.trans b4)
      have K4 := Lib.hid (K3.out.trans k4)
      clear h4 b4 k4 H3 B3 K3
      have hm16 : ((c.toNat % 16 : Nat) : Int) < 16 := by omega
      go_wp2_with fail
      refine (writeByte_at B bb _ _ (hB (c.toNat % 16)) (by rw [hB_get]) _ H4.out (by rw [List.length_append, List.length_append]; simp; omega)).mono ?_
      rintro e w5 ⟨rfl, h5, b5, k5⟩
      have H5 : Hid (IsB B bb (acc ++ [34] ++ (s.take (k + 1)).flatMap Js.esc) w5) := Lib.hid (by
       rw [HNX.out, HES.out]
       have e : q ++ [92, 117, 48, 48, hB (c.toNat / 16), hB (c.toNat % 16)] = q ++ [92, 117, 48, 48] ++ [hB (c.toNat / 16)] ++ [hB (c.toNat % 16)] := by simp
       rw [e]; exact h5)
      have B5 := Lib.hid (B4.out.trans b5)
      have K5 := Lib.hid (K4.out.trans k5)
      clear h5 b5 k5 H4 B4 K4
      go_wp2_with fail
      go_roundw
      case rel => exact ⟨k + 1, by omega, by go_num, H5, B5, K5⟩
      case measure => simp [intOf]; omega
     ·have p1 : (32 : Int) ≤ c.toNat := by omega
      have p2 : ¬ (c.toNat : Int) ≤ 126 := by omega
      go_wp2_with fail
      refine (writeString_at B bb q [92, 117, 48, 48] _ rfl _ HB.out (by simp; omega)).mono ?_
      rintro e w3 ⟨rfl, h3, b3, k3⟩
      have H3 := Lib.hid h3
      have B3 := Lib.hid (HW.out.trans b3)
      have K3 := Lib.hid (HK.out.trans k3)
      clear h3 b3 k3 HB HW HK
      go_wp2_with fail
      refine (writeByte_at B bb _ _ (hB (c.toNat / 16)) (by rw [hB_get]) _ H3.out (by rw [List.length_append]; simp; omega)).mono ?_
      rintro e w4 ⟨rfl, h4, b4, k4⟩
      have H4 := Lib.hid h4
      have B4 := Lib.hid (B3.out.trans b4)
      have K4 := Lib.hid (K3.out.trans k4)
      clear h4 b4 k4 H3 B3 K3
      have hm16 : ((c.toNat % 16 : Nat) : Int) < 16 := by omega
      go_wp2_with fail
      refine (writeByte_at B bb _ _ (hB (c.toNat % 16)) (by rw [hB_get]) _ H4.out (by rw [List.length_append, List.length_append]; simp; omega)).mono ?_
      rintro e w5 ⟨rfl, h5, b5, k5⟩
      have H5 : Hid (IsB B bb (acc ++ [34] ++ (s.take (k + 1)).flatMap Js.esc) w5) := Lib.hid (by
       rw [HNX.out, HES.out]
       have e : q ++ [92, 117, 48, 48, hB (c.toNat / 16), hB (c.toNat % 16)] = q ++ [92, 117, 48, 48] ++ [hB (c.toNat / 16)] ++ [hB (c.toNat % 16)] := by simp
       rw [e]; exact h5)
      have B5 := Lib.hid (B4.out.trans b5)
      have K5 := Lib.hid (K4.out.trans k5)
      clear h5 b5 k5 H4 B4 K4
      go_wp2_with fail
      go_roundw
      case rel => exact ⟨k + 1, by omega, by go_num, H5, B5, K5⟩
      case measure => simp [intOf]; omega
  ·obtain rfl : k = s.length := by omega
   rw [List.take_length] at HB
   go_wp2_with fail
   refine (writeByte_at B bb _ 34 34 rfl _ HB.out (by rw [List.take_length] at hl0; omega)).mono ?_
   rintro e w3 ⟨rfl, h3, b3, k3⟩
   have H3 : Hid (IsB B bb (acc ++ Js.quote s) w3) := Lib.hid (by
    have e : acc ++ Js.quote s = acc ++ [34] ++ s.flatMap Js.esc ++ [34] := by unfold Js.quote; simp
    rw [e]; exact h3)
   have B3 := Lib.hid (HW.out.trans b3)
   have K3 := Lib.hid (HK.out.trans k3)
   clear h3 b3 k3 HB HW HK
   go_wp2_with fail
   go_end0
   exact ⟨rfl, H3.out, B3.out, K3.out⟩
end Go.Proofs.YtimioelnnhnbiaaGreatDoor
