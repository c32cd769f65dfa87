/-
  Joined: WY WZ.
-/
import Derived.Test.YtimioelnnhnbiaaGreatDoorS14
import Derived.Deep.RegionHeld3
namespace Go.Proofs.YtimioelnnhnbiaaGreatDoor
open Go.RowKit
set_option maxRecDepth 100000 in
set_option maxHeartbeats 400000 in
theorem over_any (x : Js.J) (vs : List Value) (S : Nat → Prop) (w : World) (hjv : JV w S x vs) (hS : ∀ g, S g → g < w.heap.size) :
  Calls Tryz.prog 6 #[.agg vs.toArray] w fun e w' => e = .returned (.bool (Js.over x)) ∧ Below w.heap.size w w' := by
 obtain ⟨A5, c5, A6, c6, k0, b0, n0, t0, l5, l6, rfl⟩ := hjv.shape
 have b1 := below_box w (.cells #[.int .i64 k0, .bool b0, .int .i64 n0, .string t0, .slice A5 l5 c5, .slice A6 l6 c6] 25)
 have s1 : (w.alloc (.cells #[.int .i64 k0, .bool b0, .int .i64 n0, .string t0, .slice A5 l5 c5, .slice A6 l6 c6] 25)).heap.size = w.heap.size + 1 := by simp
 have HB1 : Hid (JBox (w.alloc (.cells #[.int .i64 k0, .bool b0, .int .i64 n0, .string t0, .slice A5 l5 c5, .slice A6 l6 c6] 25)) w.heap.size (.int .i64 k0) (.bool b0) (.int .i64 n0) (.string t0) (.slice A5 l5 c5) (.slice A6 l6 c6)) := Lib.hid (heap_alloc_new w (.cells #[.int .i64 k0, .bool b0, .int .i64 n0, .string t0, .slice A5 l5 c5, .slice A6 l6 c6] 25))
 have HJ1 := Lib.hid (hjv.next b1)
 have HX1 := Lib.hid b1
 clear b1 hjv
 go_enter Tryz.func6, Tryz.ntmps6
 go_upto_region 1 with fail
 generalize (w.alloc (.cells #[.int .i64 k0, .bool b0, .int .i64 n0, .string t0, .slice A5 l5 c5, .slice A6 l6 c6] 25)) = w1 at HB1 HJ1 HX1 s1 ⊢
 have b2 := below_box w1 (.cells #[.int .i64 70000] 3)
 have HN2 : Hid (NAt (w1.alloc (.cells #[.int .i64 70000] 3)) w1.heap.size 70000) := Lib.hid (heap_alloc_new w1 (.cells #[.int .i64 70000] 3))
 have HJ2 := Lib.hid (HJ1.out.next b2)
 have HB2 := Lib.hid (HB1.out.next b2)
 have HX2 := Lib.hid (HX1.out.trans (b2.mono (by omega)))
 clear b2
 obtain ⟨x0, x1, x2, x3, x4, x5⟩ := HB2.out.cells
 have hns : ¬ S w1.heap.size := fun h => absurd (hS _ h) (by omega)
 have HL := Lib.hid (lrg_any (Js.nodes x) x _ S 0 70000 _ w1.heap.size (Nat.le_refl _) HJ2.out hns HN2.out (by decide) (by decide) (by decide))
 have hsz : (w1.alloc (.cells #[.int .i64 70000] 3)).heap.size = w1.heap.size + 1 := by simp
 go_upto_region 2 with fail
 generalize (w1.alloc (.cells #[.int .i64 70000] 3)) = w2 at HL HB2 HX2 hsz x0 x1 x2 x3 x4 x5 ⊢
 clear HN2 HJ2
 rw [s1] at hsz
 rw [s1] at HL
 go_wp2_with fail
 refine HL.out.mono ?_
 rintro e2 w7 ⟨rfl, -, hk7⟩
 have HW7 := Lib.hid (HX2.out.trans (hk7.to (B := w.heap.size) (by omega) (by intro j hj; simp at hj; omega)))
 clear hk7
 go_wp2_with fail
 go_ret
 exact ⟨rfl, HW7.out⟩
end Go.Proofs.YtimioelnnhnbiaaGreatDoor
namespace Go.Proofs.YtimioelnnhnbiaaGreatDoor
open Go.RowKit
theorem results_tmp4 {fn : Func} {t u v x : Tmp} (h : fn.results = #[.tmp t, .tmp u, .tmp v, .tmp x]) (tmps : Array Value) (P : Program) (w : World) :
  (results fn tmps).run P w = .ok (.tuple #[tmps.getD t undef, tmps.getD u undef, tmps.getD v undef, tmps.getD x undef]) w := by
 simp [results, h]
def SizeC (N : Nat) : Prop := ∀ (x : Js.J) (vs : List Value) (S : Nat → Prop) (w : World), Js.nodes x ≤ N → JV w S x vs →
  Js.nodes x ≤ 1073741824 → Js.bytes x ≤ 1073741824 → Js.deep x ≤ 1073741824 →
  Calls Tryz.prog 36 #[.agg vs.toArray] w fun e w' => e = .returned (.tuple #[.int .i64 (Js.nodes x), .int .i64 (Js.deep x), .int .i64 (Js.bytes x), .bool (Js.good x)]) ∧ Below w.heap.size w w'
set_option maxRecDepth 100000 in
set_option maxHeartbeats 16000000 in
theorem size_step (N : Nat) (ih : SizeC N) : SizeC (N + 1) := by
 intro x vs S w hN hjv hn hb hd
 cases x with | mk k0 b0 n0 t0 l m =>
 have HJ := Lib.hid hjv
 have HP := Lib.hid (fun W (h : JV W S (.mk k0 b0 n0 t0 l m) vs) => plainRef_any h)
 unfold JV at hjv
 obtain ⟨A5, c5, A6, c6, rfl, hc5, hc6, -, -⟩ := hjv
 have hbel := below_box w (.cells #[.int .i64 k0, .bool b0, .int .i64 n0, .string (str t0), .slice A5 l.length c5, .slice A6 m.length c6] 25)
 have HBx : Hid (JBox (w.alloc (.cells #[.int .i64 k0, .bool b0, .int .i64 n0, .string (str t0), .slice A5 l.length c5, .slice A6 m.length c6] 25)) w.heap.size (.int .i64 k0) (.bool b0) (.int .i64 n0) (.string (str t0)) (.slice A5 l.length c5) (.slice A6 m.length c6)) := Lib.hid (heap_alloc_new w (.cells #[.int .i64 k0, .bool b0, .int .i64 n0, .string (str t0), .slice A5 l.length c5, .slice A6 m.length c6] 25))
 have HW1 := Lib.hid hbel
 have HJ1 := Lib.hid (HJ.out.next hbel)
 have hz := str_size t0
 clear hbel HJ
 go_enter Tryz.func36, Tryz.ntmps36
 go_upto_region 1 with fail
 generalize (w.alloc (.cells #[.int .i64 k0, .bool b0, .int .i64 n0, .string (str t0), .slice A5 l.length c5, .slice A6 m.length c6] 25)) = w1 at HBx HW1 HJ1 ⊢
 obtain ⟨M, hM⟩ : ∃ M, w.heap.size = M := ⟨_, rfl⟩
 rw [hM] at HBx ⊢
 have HMM := Lib.hid hM
 clear hM
 have HSW : Hid (∀ W, Below w1.heap.size w1 W → W.cell? ⟨M, 0, none⟩ = some (.int .i64 k0) ∧ W.cell? ⟨M, 1, none⟩ = some (.bool b0) ∧ W.cell? ⟨M, 2, none⟩ = some (.int .i64 n0) ∧ W.cell? ⟨M, 3, none⟩ = some (.string (str t0)) ∧ W.cell? ⟨M, 4, none⟩ = some (.slice A5 l.length c5) ∧ W.cell? ⟨M, 5, none⟩ = some (.slice A6 m.length c6) ∧ Hid (Below w1.heap.size w1 W)) := Lib.hid (fun W hW => by
  obtain ⟨d0, d1, d2, d3, d4, d5⟩ := (HBx.out.next hW).cells
  exact ⟨d0, d1, d2, d3, d4, d5, Lib.hid hW⟩)
 have HPP : Hid (∀ W, Below w1.heap.size w1 W → _) := Lib.hid (fun W hW => HP.out W (HJ1.out.next hW))
 obtain ⟨x0, x1, x2, x3, x4, x5, -⟩ := HSW.out _ (Below.refl _ _)
 go_wp2_with fail
 go_region_held3 (fun w' => w'.cell? ⟨M, 0, none⟩ = some (.int .i64 k0) ∧ w'.cell? ⟨M, 1, none⟩ = some (.bool b0) ∧ w'.cell? ⟨M, 2, none⟩ = some (.int .i64 n0) ∧ w'.cell? ⟨M, 3, none⟩ = some (.string (str t0)) ∧ w'.cell? ⟨M, 4, none⟩ = some (.slice A5 l.length c5) ∧ w'.cell? ⟨M, 5, none⟩ = some (.slice A6 m.length c6) ∧ Hid (Below w1.heap.size w1 w')) (first
      | assumption
      | exact HSW.out _ (below_drewN (Below.refl _ _) 1)
      | (obtain ⟨_, _, _, _, _, _, hbl⟩ := ‹_ ∧ _ ∧ _ ∧ _ ∧ _ ∧ _ ∧ Hid _›; exact HSW.out _ (hbl.out.trans (hb3.mono hbl.out.size)))) (first
      | (go_at_call 71; refine (HPP.out _ (by obtain ⟨_, _, _, _, _, _, hbl⟩ := ‹_ ∧ _ ∧ _ ∧ _ ∧ _ ∧ _ ∧ Hid _›; exact hbl.out)).mono ?_; rintro e w3 ⟨rfl, hb3⟩))
 -- LOOPS (jsize.py)
 obtain ⟨_, _, _, _, _, _, hbl⟩ := ‹_ ∧ _ ∧ _ ∧ _ ∧ _ ∧ _ ∧ Hid _›
 have HW0 := Lib.hid (HW1.out.trans (hbl.out.mono HW1.out.size))
 have HJ0 := Lib.hid (HJ1.out.next hbl.out)
 have HB0 := Lib.hid (HBx.out.next hbl.out)
 clear hbl hb3 HSW HPP HP HW1 HJ1 HBx x0 x1 x2 x3 x4 x5
 obtain ⟨pl, hpl⟩ : ∃ pl, Js.plain (.mk k0 b0 n0 t0 l m) = pl := ⟨_, rfl⟩
 have HN : Hid (Js.nodes (.mk k0 b0 n0 t0 l m) = 1 + Js.nodesL l + Js.nodesM m) := Lib.hid (by rw [Js.nodes])
 have HD : Hid (Js.deep (.mk k0 b0 n0 t0 l m) = max (Js.deepL l) (Js.deepM m) + 1) := Lib.hid (by rw [Js.deep])
 have HY : Hid (Js.bytes (.mk k0 b0 n0 t0 l m) = t0.length + Js.bytesL l + Js.bytesM m) := Lib.hid (by rw [Js.bytes])
 have HG : Hid (Js.good (.mk k0 b0 n0 t0 l m) = Js.goodK pl l m) := Lib.hid (by rw [Js.good, hpl]; rfl)
 have IH := Lib.hid ih
 have HNN : 1 + Js.nodesL l + Js.nodesM m ≤ N + 1 := by rw [← HN.out]; exact hN
 have HN2 : 1 + Js.nodesL l + Js.nodesM m ≤ 1073741824 := by rw [← HN.out]; exact hn
 have HY2 : t0.length + Js.bytesL l + Js.bytesM m ≤ 1073741824 := by rw [← HY.out]; exact hb
 have HD2 : max (Js.deepL l) (Js.deepM m) + 1 ≤ 1073741824 := by rw [← HD.out]; exact hd
 rw [hpl]
 clear hN hn hb hd ih hpl hz
 obtain ⟨x0, x1, x2, x3, x4, x5⟩ := HB0.out.cells
 simp only [Exit.then]
 go_wp2_with fail
 clear x0 x1 x2 x3 x4 x5
 go_loopw [6, 7, 8, 9, 10] (fun v6 v7 v8 v9 i wr => ∃ k nk dk bk : Nat, ∃ ok : Bool, k ≤ l.length ∧ v6 = .int .i64 nk ∧ v7 = .int .i64 dk ∧ v8 = .int .i64 bk ∧ v9 = .bool ok ∧ i = .int .i64 k ∧ Hid (nk = 1 + Js.nodesL (l.take k) ∧ dk = Js.deepL (l.take k) ∧ bk = t0.length + Js.bytesL (l.take k) ∧ ok = (pl && Js.goodL (l.take k))) ∧ Hid (JV wr S (.mk k0 b0 n0 t0 l m) [.int .i64 k0, .bool b0, .int .i64 n0, .string (str t0), .slice A5 l.length c5, .slice A6 m.length c6]) ∧ Hid (Below w.heap.size w wr) ∧ Hid (JBox wr M (.int .i64 k0) (.bool b0) (.int .i64 n0) (.string (str t0)) (.slice A5 l.length c5) (.slice A6 m.length c6))) (fun _ _ _ _ i _ => l.length - (intOf i).toNat)
 case atStart => exact ⟨0, 1, 0, t0.length, pl, Nat.zero_le _, rfl, rfl, rfl, rfl, rfl, Lib.hid ⟨rfl, rfl, rfl, by simp [Js.goodL]⟩, HJ0, HW0, HB0⟩
 case round =>
  obtain ⟨k, nk, dk, bk, ok, hk, rfl, rfl, rfl, rfl, rfl, HQ, HJ, HW, HB⟩ := hrel
  clear HJ0 HW0 HB0
  have hkl : l.length ≤ Js.nodesL l := Js.length_nodesL l
  have hk30 : k ≤ 1073741824 := by omega
  obtain ⟨x0, x1, x2, x3, x4, x5⟩ := HB.out.cells
  by_cases hlt : k < l.length
  ·obtain ⟨y, hy⟩ : ∃ y, l[k]? = some y := ⟨l[k], List.getElem?_eq_getElem hlt⟩
   have hjl := HJ.out
   unfold JV at hjl
   obtain ⟨_, _, _, _, hvs, -, -, hjl, -⟩ := hjl
   simp only [List.cons.injEq, Value.slice.injEq, and_true, true_and] at hvs
   obtain ⟨⟨rfl, rfl⟩, rfl, rfl⟩ := hvs
   obtain ⟨g, o, k1, b1, n1, t1, A7, l7, c7, A8, l8, c8, hA, hSg, hg, q0, q1, q2, q3, q4, q5, hjy⟩ := hjl.elem hy
   subst hA
   obtain ⟨p1, p2, p3⟩ := Js.nodesL_split l k y hy
   obtain ⟨e1, e2, e3, e4⟩ := Js.listL_snoc hy
   obtain ⟨z1, z2, z3, z4⟩ := HQ.out
   have hpn : Js.nodes y ≤ N := by omega
   have HC := Lib.hid (IH.out y _ S wr hpn hjy (by omega) (by omega) (by omega))
   obtain ⟨ny, hny⟩ : ∃ ny, Js.nodes y = ny := ⟨_, rfl⟩
   obtain ⟨dy, hdy⟩ : ∃ dy, Js.deep y = dy := ⟨_, rfl⟩
   obtain ⟨by_, hby⟩ : ∃ by_, Js.bytes y = by_ := ⟨_, rfl⟩
   obtain ⟨gy, hgy⟩ : ∃ gy, Js.good y = gy := ⟨_, rfl⟩
   rw [hny, hdy, hby, hgy] at HC
   have HF : Hid ((nk + ny = 1 + Js.nodesL (l.take (k + 1)) ∧ bk + by_ = t0.length + Js.bytesL (l.take (k + 1))) ∧ max dk dy = Js.deepL (l.take (k + 1)) ∧ (ok && gy) = (pl && Js.goodL (l.take (k + 1)))) := Lib.hid (by
    rw [e1, e2, e3, e4, z2, z4, hny, hdy, hby, hgy, Bool.and_assoc]
    exact ⟨⟨by omega, by omega⟩, rfl, rfl⟩)
   have hs1 : (nk : Int) + ny ≤ 1073741824 := by omega
   have hs2 : (bk : Int) + by_ ≤ 1073741824 := by omega
   clear hjl hjy hy p1 p2 p3 hSg e1 e2 e3 e4 z1 z2 z3 z4 hny hdy hby hgy HQ
   go_wp2_with fail
   refine HC.out.mono ?_
   rintro e w7 ⟨rfl, hb7⟩
   have HJ7 := Lib.hid (HJ.out.next hb7)
   have HW7 := Lib.hid (HW.out.trans (hb7.mono HW.out.size))
   have HB7 := Lib.hid (HB.out.next hb7)
   clear hb7 HJ HW HB q0 q1 q2 q3 q4 q5 x0 x1 x2 x3 x4 x5
   cases ok <;> by_cases hgt : dk < dy
   ·have qd : decide ((dk : Int) < (dy : Int)) = true := by simp; omega
    go_wp2_with fail
    go_roundw
    case rel => exact ⟨k + 1, nk + ny, dy, bk + by_, false, by omega, by go_num, rfl, by go_num, rfl, by go_num, Lib.hid ⟨HF.out.1.1, (by rw [← HF.out.2.1]; omega), HF.out.1.2, (by rw [← HF.out.2.2]; rfl)⟩, HJ7, HW7, HB7⟩
    case measure => simp [intOf]; omega
   ·have qd : decide ((dk : Int) < (dy : Int)) = false := by simp; omega
    go_wp2_with fail
    go_roundw
    case rel => exact ⟨k + 1, nk + ny, dk, bk + by_, false, by omega, by go_num, rfl, by go_num, rfl, by go_num, Lib.hid ⟨HF.out.1.1, (by rw [← HF.out.2.1]; omega), HF.out.1.2, (by rw [← HF.out.2.2]; rfl)⟩, HJ7, HW7, HB7⟩
    case measure => simp [intOf]; omega
   ·have qd : decide ((dk : Int) < (dy : Int)) = true := by simp; omega
    go_wp2_with fail
    go_roundw
    case rel => exact ⟨k + 1, nk + ny, dy, bk + by_, gy, by omega, by go_num, rfl, by go_num, rfl, by go_num, Lib.hid ⟨HF.out.1.1, (by rw [← HF.out.2.1]; omega), HF.out.1.2, (by rw [← HF.out.2.2]; rfl)⟩, HJ7, HW7, HB7⟩
    case measure => simp [intOf]; omega
   ·have qd : decide ((dk : Int) < (dy : Int)) = false := by simp; omega
    go_wp2_with fail
    go_roundw
    case rel => exact ⟨k + 1, nk + ny, dk, bk + by_, gy, by omega, by go_num, rfl, by go_num, rfl, by go_num, Lib.hid ⟨HF.out.1.1, (by rw [← HF.out.2.1]; omega), HF.out.1.2, (by rw [← HF.out.2.2]; rfl)⟩, HJ7, HW7, HB7⟩
    case measure => simp [intOf]; omega
  ·obtain rfl : k = l.length := by omega
   rw [List.take_length] at HQ
   obtain ⟨z1, z2, z3, z4⟩ := HQ.out
   have HZ := Lib.hid (⟨z1, z2, z3, z4⟩ : _ ∧ _ ∧ _ ∧ _)
   clear HQ z1 z2 z3 z4
   go_wp2_with fail
   clear x0 x1 x2 x3 x4 x5
   go_loopw [6, 7, 8, 9, 15] (fun v6 v7 v8 v9 i wr => ∃ k nk dk bk : Nat, ∃ ok : Bool, k ≤ m.length ∧ v6 = .int .i64 nk ∧ v7 = .int .i64 dk ∧ v8 = .int .i64 bk ∧ v9 = .bool ok ∧ i = .int .i64 k ∧ Hid (nk = 1 + Js.nodesL l + Js.nodesM (m.take k) ∧ dk = max (Js.deepL l) (Js.deepM (m.take k)) ∧ bk = t0.length + Js.bytesL l + Js.bytesM (m.take k) ∧ ok = Js.goodK pl l (m.take k)) ∧ Hid (JV wr S (.mk k0 b0 n0 t0 l m) [.int .i64 k0, .bool b0, .int .i64 n0, .string (str t0), .slice A5 l.length c5, .slice A6 m.length c6]) ∧ Hid (Below w.heap.size w wr) ∧ Hid (JBox wr M (.int .i64 k0) (.bool b0) (.int .i64 n0) (.string (str t0)) (.slice A5 l.length c5) (.slice A6 m.length c6))) (fun _ _ _ _ i _ => m.length - (intOf i).toNat)
   case atStart => exact ⟨0, nk, dk, bk, ok, Nat.zero_le _, rfl, rfl, rfl, rfl, rfl, Lib.hid ⟨by rw [HZ.out.1]; rfl, by rw [HZ.out.2.1]; simp [Js.deepM], by rw [HZ.out.2.2.1]; rfl, by rw [HZ.out.2.2.2]; simp [Js.goodK, Js.goodM]⟩, HJ, HW, HB⟩
   clear HZ
   clear hkl hk30
   case round =>
    obtain ⟨k, nk, dk, bk, ok, hk, rfl, rfl, rfl, rfl, rfl, HQ, HJ', HW', HB'⟩ := hrel
    clear HJ HW HB
    have hkl : m.length ≤ Js.nodesM m := Js.length_nodesM m
    have hk30 : k ≤ 1073741824 := by omega
    obtain ⟨x0, x1, x2, x3, x4, x5⟩ := HB'.out.cells
    by_cases hlt : k < m.length
    ·obtain ⟨nm, y, hy⟩ : ∃ nm y, m[k]? = some (nm, y) := ⟨m[k].1, m[k].2, List.getElem?_eq_getElem hlt⟩
     have hjl := HJ'.out
     unfold JV at hjl
     obtain ⟨_, _, _, _, hvs, -, -, -, hjm⟩ := hjl
     simp only [List.cons.injEq, Value.slice.injEq, and_true, true_and] at hvs
     obtain ⟨⟨rfl, rfl⟩, rfl, rfl⟩ := hvs
     obtain ⟨g, o, k1, b1, n1, t1, A7, l7, c7, A8, l8, c8, hA, hSg, hg, q0, q1, q2, q3, q4, q5, q6, hjy⟩ := hjm.elem hy
     subst hA
     obtain ⟨p1, p2, p3⟩ := Js.nodesM_split m k nm y hy
     obtain ⟨e1, e2, e3, e4⟩ := Js.listM_snoc hy
     have e5 := Js.goodK_snoc (p := pl) (l := l) hy
     obtain ⟨z1, z2, z3, z4⟩ := HQ.out
     have HY_ := Lib.hid hy
     have hzn := str_size nm
     have hpn : Js.nodes y ≤ N := by omega
     have HC := Lib.hid (IH.out y _ S wr hpn hjy (by omega) (by omega) (by omega))
     obtain ⟨ny, hny⟩ : ∃ ny, Js.nodes y = ny := ⟨_, rfl⟩
     obtain ⟨dy, hdy⟩ : ∃ dy, Js.deep y = dy := ⟨_, rfl⟩
     obtain ⟨by_, hby⟩ : ∃ by_, Js.bytes y = by_ := ⟨_, rfl⟩
     obtain ⟨gy, hgy⟩ : ∃ gy, Js.good y = gy := ⟨_, rfl⟩
     rw [hny, hdy, hby, hgy] at HC
     have HF : Hid ((nk + ny = 1 + Js.nodesL l + Js.nodesM (m.take (k + 1)) ∧ bk + by_ + nm.length = t0.length + Js.bytesL l + Js.bytesM (m.take (k + 1))) ∧ max dk dy = max (Js.deepL l) (Js.deepM (m.take (k + 1))) ∧ (ok && gy && Js.none_ (m.take k) nm) = Js.goodK pl l (m.take (k + 1))) := Lib.hid (by
      rw [e1, e2, e3, e5, z2, z4, hny, hdy, hby, hgy]
      exact ⟨⟨by omega, by omega⟩, by omega, rfl⟩)
     have hs1 : (nk : Int) + ny ≤ 1073741824 := by omega
     have hs2 : (bk : Int) + by_ ≤ 1073741824 := by omega
     have hs3 : (bk : Int) + by_ + nm.length ≤ 1073741824 := by omega
     clear hjy hy p1 p2 p3 hSg e1 e2 e3 e4 e5 z1 z2 z3 z4 hny hdy hby hgy HQ
     go_wp2_with fail
     refine HC.out.mono ?_
     rintro e w7 ⟨rfl, hb7⟩
     have HJ7 := Lib.hid (HJ'.out.next hb7)
     have HW7 := Lib.hid (HW'.out.trans (hb7.mono HW'.out.size))
     have HB7 := Lib.hid (HB'.out.next hb7)
     clear hb7 HJ' HW' HB' q0 q1 q2 q3 q4 q5 q6 x0 x1 x2 x3 x4 x5
     have hjl := HJ7.out
     unfold JV at hjl
     obtain ⟨_, _, _, _, hvs, -, -, -, hjm⟩ := hjl
     simp only [List.cons.injEq, Value.slice.injEq, and_true, true_and] at hvs
     obtain ⟨⟨h77, rfl⟩, rfl, rfl⟩ := hvs
     subst h77
     obtain ⟨g9, o9, -, -, -, -, -, -, -, -, -, -, hA9, -, hg9, v0, -⟩ := hjm.elem HY_.out
     simp only [Option.some.injEq, Addr.mk.injEq, and_true] at hA9
     obtain ⟨rfl, rfl⟩ := hA9
     clear hjm
     obtain ⟨x0, x1, x2, x3, x4, x5⟩ := HB7.out.cells
     cases ok <;> by_cases hgt : dk < dy
     ·have qd : decide ((dk : Int) < (dy : Int)) = true := by simp; omega
      go_wp2_with fail
      go_quiet (fail)
      simp only [Exit.then]
      go_wp2_with fail
      clear x0 x1 x2 x3 x4 x5
      go_loopw [9, 20] (fun v9 i wr => ∃ j : Nat, ∃ ok2 : Bool, j ≤ k ∧ v9 = .bool ok2 ∧ i = .int .i64 j ∧ Hid (ok2 = ((false && gy) && Js.none_ (m.take j) nm)) ∧Hid (JV wr S (.mk k0 b0 n0 t0 l m) [.int .i64 k0, .bool b0, .int .i64 n0, .string (str t0), .slice A5 l.length c5, .slice (some ⟨g, o, none⟩) m.length c6]) ∧ Hid (Below w.heap.size w wr) ∧ Hid (JBox wr M (.int .i64 k0) (.bool b0) (.int .i64 n0) (.string (str t0)) (.slice A5 l.length c5) (.slice (some ⟨g, o, none⟩) m.length c6))) (fun _ i _ => k - (intOf i).toNat)
      case atStart => exact ⟨0, _, Nat.zero_le _, rfl, rfl, Lib.hid (by simp [Js.none_]), Lib.hid (HJ7.out.next (below_drewN (Below.refl _ _) _)), Lib.hid (below_drewN HW7.out _), HB7⟩
      case round =>
       obtain ⟨j, ok2, hj, rfl, rfl, HO, HJ8, HW8, HB8⟩ := hrel
       clear HJ7 HW7 HB7
       obtain ⟨x0, x1, x2, x3, x4, x5⟩ := HB8.out.cells
       have hjk : j ≤ 1073741824 := by omega
       by_cases hjlt : j < k
       ·obtain ⟨nj, yj, hyj⟩ : ∃ nj yj, m[j]? = some (nj, yj) := ⟨m[j].1, m[j].2, List.getElem?_eq_getElem (by omega)⟩
        have hjl := HJ8.out
        unfold JV at hjl
        obtain ⟨_, _, _, _, hvs, -, -, -, hjm⟩ := hjl
        simp only [List.cons.injEq, Value.slice.injEq, and_true, true_and] at hvs
        obtain ⟨⟨rfl, rfl⟩, rfl, rfl⟩ := hvs
        obtain ⟨g8, o8, -, -, -, -, -, -, -, -, -, -, hA8, -, hg8, u0, -⟩ := hjm.elem hyj
        obtain ⟨g9, o9, -, -, -, -, -, -, -, -, -, -, hA9, -, hg9, v0, -⟩ := hjm.elem HY_.out
        simp only [Option.some.injEq, Addr.mk.injEq, and_true] at hA8 hA9
        obtain ⟨rfl, rfl⟩ := hA8
        obtain ⟨rfl, rfl⟩ := hA9
        have HO2 := Lib.hid (Js.none_snoc (nm := nm) hyj)
        clear hjm hyj
        cases ok2
        ·go_wp2_with fail
         go_quiet (fail)
         go_wp2_with fail
         go_roundw
         case rel => exact ⟨j + 1, false, by omega, rfl, by go_num, Lib.hid (by rw [HO2.out, ← Bool.and_assoc, ← HO.out]; rfl), Lib.hid (HJ8.out.next (below_drewN (Below.refl _ _) _)), Lib.hid (below_drewN HW8.out _), HB8⟩
         case measure => simp [intOf]; omega
        ·go_wp2_with fail
         go_quiet (fail)
         go_wp2_with fail
         go_roundw
         case rel => exact ⟨j + 1, !decide (nj = nm), by omega, (by rw [← str_beq]), by go_num, Lib.hid (by rw [HO2.out, ← Bool.and_assoc, ← HO.out, Bool.true_and]), Lib.hid (HJ8.out.next (below_drewN (Below.refl _ _) _)), Lib.hid (below_drewN HW8.out _), HB8⟩
         case measure => simp [intOf]; omega
       ·obtain rfl : j = k := by omega
        go_wp2_with fail
        go_roundw
        case rel => exact ⟨j + 1, nk + ny, dy, bk + by_ + nm.length, ok2, by omega, by go_num, rfl, by go_num, rfl, by go_num, Lib.hid ⟨HF.out.1.1, (by rw [← HF.out.2.1]; omega), HF.out.1.2, (by rw [HO.out, ← HF.out.2.2])⟩, HJ8, HW8, HB8⟩
        case measure => simp [intOf]; omega
     ·have qd : decide ((dk : Int) < (dy : Int)) = false := by simp; omega
      go_wp2_with fail
      go_quiet (fail)
      simp only [Exit.then]
      go_wp2_with fail
      clear x0 x1 x2 x3 x4 x5
      go_loopw [9, 20] (fun v9 i wr => ∃ j : Nat, ∃ ok2 : Bool, j ≤ k ∧ v9 = .bool ok2 ∧ i = .int .i64 j ∧ Hid (ok2 = ((false && gy) && Js.none_ (m.take j) nm)) ∧Hid (JV wr S (.mk k0 b0 n0 t0 l m) [.int .i64 k0, .bool b0, .int .i64 n0, .string (str t0), .slice A5 l.length c5, .slice (some ⟨g, o, none⟩) m.length c6]) ∧ Hid (Below w.heap.size w wr) ∧ Hid (JBox wr M (.int .i64 k0) (.bool b0) (.int .i64 n0) (.string (str t0)) (.slice A5 l.length c5) (.slice (some ⟨g, o, none⟩) m.length c6))) (fun _ i _ => k - (intOf i).toNat)
      case atStart => exact ⟨0, _, Nat.zero_le _, rfl, rfl, Lib.hid (by simp [Js.none_]), Lib.hid (HJ7.out.next (below_drewN (Below.refl _ _) _)), Lib.hid (below_drewN HW7.out _), HB7⟩
      case round =>
       obtain ⟨j, ok2, hj, rfl, rfl, HO, HJ8, HW8, HB8⟩ := hrel
       clear HJ7 HW7 HB7
       obtain ⟨x0, x1, x2, x3, x4, x5⟩ := HB8.out.cells
       have hjk : j ≤ 1073741824 := by omega
       by_cases hjlt : j < k
       ·obtain ⟨nj, yj, hyj⟩ : ∃ nj yj, m[j]? = some (nj, yj) := ⟨m[j].1, m[j].2, List.getElem?_eq_getElem (by omega)⟩
        have hjl := HJ8.out
        unfold JV at hjl
        obtain ⟨_, _, _, _, hvs, -, -, -, hjm⟩ := hjl
        simp only [List.cons.injEq, Value.slice.injEq, and_true, true_and] at hvs
        obtain ⟨⟨rfl, rfl⟩, rfl, rfl⟩ := hvs
        obtain ⟨g8, o8, -, -, -, -, -, -, -, -, -, -, hA8, -, hg8, u0, -⟩ := hjm.elem hyj
        obtain ⟨g9, o9, -, -, -, -, -, -, -, -, -, -, hA9, -, hg9, v0, -⟩ := hjm.elem HY_.out
        simp only [Option.some.injEq, Addr.mk.injEq, and_true] at hA8 hA9
        obtain ⟨rfl, rfl⟩ := hA8
        obtain ⟨rfl, rfl⟩ := hA9
        have HO2 := Lib.hid (Js.none_snoc (nm := nm) hyj)
        clear hjm hyj
        cases ok2
        ·go_wp2_with fail
         go_quiet (fail)
         go_wp2_with fail
         go_roundw
         case rel => exact ⟨j + 1, false, by omega, rfl, by go_num, Lib.hid (by rw [HO2.out, ← Bool.and_assoc, ← HO.out]; rfl), Lib.hid (HJ8.out.next (below_drewN (Below.refl _ _) _)), Lib.hid (below_drewN HW8.out _), HB8⟩
         case measure => simp [intOf]; omega
        ·go_wp2_with fail
         go_quiet (fail)
         go_wp2_with fail
         go_roundw
         case rel => exact ⟨j + 1, !decide (nj = nm), by omega, (by rw [← str_beq]), by go_num, Lib.hid (by rw [HO2.out, ← Bool.and_assoc, ← HO.out, Bool.true_and]), Lib.hid (HJ8.out.next (below_drewN (Below.refl _ _) _)), Lib.hid (below_drewN HW8.out _), HB8⟩
         case measure => simp [intOf]; omega
       ·obtain rfl : j = k := by omega
        go_wp2_with fail
        go_roundw
        case rel => exact ⟨j + 1, nk + ny, dk, bk + by_ + nm.length, ok2, by omega, by go_num, rfl, by go_num, rfl, by go_num, Lib.hid ⟨HF.out.1.1, (by rw [← HF.out.2.1]; omega), HF.out.1.2, (by rw [HO.out, ← HF.out.2.2])⟩, HJ8, HW8, HB8⟩
        case measure => simp [intOf]; omega
     ·have qd : decide ((dk : Int) < (dy : Int)) = true := by simp; omega
      go_wp2_with fail
      go_quiet (fail)
      simp only [Exit.then]
      go_wp2_with fail
      clear x0 x1 x2 x3 x4 x5
      go_loopw [9, 20] (fun v9 i wr => ∃ j : Nat, ∃ ok2 : Bool, j ≤ k ∧ v9 = .bool ok2 ∧ i = .int .i64 j ∧ Hid (ok2 = ((true && gy) && Js.none_ (m.take j) nm)) ∧Hid (JV wr S (.mk k0 b0 n0 t0 l m) [.int .i64 k0, .bool b0, .int .i64 n0, .string (str t0), .slice A5 l.length c5, .slice (some ⟨g, o, none⟩) m.length c6]) ∧ Hid (Below w.heap.size w wr) ∧ Hid (JBox wr M (.int .i64 k0) (.bool b0) (.int .i64 n0) (.string (str t0)) (.slice A5 l.length c5) (.slice (some ⟨g, o, none⟩) m.length c6))) (fun _ i _ => k - (intOf i).toNat)
      case atStart => exact ⟨0, _, Nat.zero_le _, rfl, rfl, Lib.hid (by simp [Js.none_]), Lib.hid (HJ7.out.next (below_drewN (Below.refl _ _) _)), Lib.hid (below_drewN HW7.out _), HB7⟩
      case round =>
       obtain ⟨j, ok2, hj, rfl, rfl, HO, HJ8, HW8, HB8⟩ := hrel
       clear HJ7 HW7 HB7
       obtain ⟨x0, x1, x2, x3, x4, x5⟩ := HB8.out.cells
       have hjk : j ≤ 1073741824 := by omega
       by_cases hjlt : j < k
       ·obtain ⟨nj, yj, hyj⟩ : ∃ nj yj, m[j]? = some (nj, yj) := ⟨m[j].1, m[j].2, List.getElem?_eq_getElem (by omega)⟩
        have hjl := HJ8.out
        unfold JV at hjl
        obtain ⟨_, _, _, _, hvs, -, -, -, hjm⟩ := hjl
        simp only [List.cons.injEq, Value.slice.injEq, and_true, true_and] at hvs
        obtain ⟨⟨rfl, rfl⟩, rfl, rfl⟩ := hvs
        obtain ⟨g8, o8, -, -, -, -, -, -, -, -, -, -, hA8, -, hg8, u0, -⟩ := hjm.elem hyj
        obtain ⟨g9, o9, -, -, -, -, -, -, -, -, -, -, hA9, -, hg9, v0, -⟩ := hjm.elem HY_.out
        simp only [Option.some.injEq, Addr.mk.injEq, and_true] at hA8 hA9
        obtain ⟨rfl, rfl⟩ := hA8
        obtain ⟨rfl, rfl⟩ := hA9
        have HO2 := Lib.hid (Js.none_snoc (nm := nm) hyj)
        clear hjm hyj
        cases ok2
        ·go_wp2_with fail
         go_quiet (fail)
         go_wp2_with fail
         go_roundw
         case rel => exact ⟨j + 1, false, by omega, rfl, by go_num, Lib.hid (by rw [HO2.out, ← Bool.and_assoc, ← HO.out]; rfl), Lib.hid (HJ8.out.next (below_drewN (Below.refl _ _) _)), Lib.hid (below_drewN HW8.out _), HB8⟩
         case measure => simp [intOf]; omega
        ·go_wp2_with fail
         go_quiet (fail)
         go_wp2_with fail
         go_roundw
         case rel => exact ⟨j + 1, !decide (nj = nm), by omega, (by rw [← str_beq]), by go_num, Lib.hid (by rw [HO2.out, ← Bool.and_assoc, ← HO.out, Bool.true_and]), Lib.hid (HJ8.out.next (below_drewN (Below.refl _ _) _)), Lib.hid (below_drewN HW8.out _), HB8⟩
         case measure => simp [intOf]; omega
       ·obtain rfl : j = k := by omega
        go_wp2_with fail
        go_roundw
        case rel => exact ⟨j + 1, nk + ny, dy, bk + by_ + nm.length, ok2, by omega, by go_num, rfl, by go_num, rfl, by go_num, Lib.hid ⟨HF.out.1.1, (by rw [← HF.out.2.1]; omega), HF.out.1.2, (by rw [HO.out, ← HF.out.2.2])⟩, HJ8, HW8, HB8⟩
        case measure => simp [intOf]; omega
     ·have qd : decide ((dk : Int) < (dy : Int)) = false := by simp; omega
      go_wp2_with fail
      go_quiet (fail)
      simp only [Exit.then]
      go_wp2_with fail
      clear x0 x1 x2 x3 x4 x5
      go_loopw [9, 20] (fun v9 i wr => ∃ j : Nat, ∃ ok2 : Bool, j ≤ k ∧ v9 = .bool ok2 ∧ i = .int .i64 j ∧ Hid (ok2 = ((true && gy) && Js.none_ (m.take j) nm)) ∧Hid (JV wr S (.mk k0 b0 n0 t0 l m) [.int .i64 k0, .bool b0, .int .i64 n0, .string (str t0), .slice A5 l.length c5, .slice (some ⟨g, o, none⟩) m.length c6]) ∧ Hid (Below w.heap.size w wr) ∧ Hid (JBox wr M (.int .i64 k0) (.bool b0) (.int .i64 n0) (.string (str t0)) (.slice A5 l.length c5) (.slice (some ⟨g, o, none⟩) m.length c6))) (fun _ i _ => k - (intOf i).toNat)
      case atStart => exact ⟨0, _, Nat.zero_le _, rfl, rfl, Lib.hid (by simp [Js.none_]), Lib.hid (HJ7.out.next (below_drewN (Below.refl _ _) _)), Lib.hid (below_drewN HW7.out _), HB7⟩
      case round =>
       obtain ⟨j, ok2, hj, rfl, rfl, HO, HJ8, HW8, HB8⟩ := hrel
       clear HJ7 HW7 HB7
       obtain ⟨x0, x1, x2, x3, x4, x5⟩ := HB8.out.cells
       have hjk : j ≤ 1073741824 := by omega
       by_cases hjlt : j < k
       ·obtain ⟨nj, yj, hyj⟩ : ∃ nj yj, m[j]? = some (nj, yj) := ⟨m[j].1, m[j].2, List.getElem?_eq_getElem (by omega)⟩
        have hjl := HJ8.out
        unfold JV at hjl
        obtain ⟨_, _, _, _, hvs, -, -, -, hjm⟩ := hjl
        simp only [List.cons.injEq, Value.slice.injEq, and_true, true_and] at hvs
        obtain ⟨⟨rfl, rfl⟩, rfl, rfl⟩ := hvs
        obtain ⟨g8, o8, -, -, -, -, -, -, -, -, -, -, hA8, -, hg8, u0, -⟩ := hjm.elem hyj
        obtain ⟨g9, o9, -, -, -, -, -, -, -, -, -, -, hA9, -, hg9, v0, -⟩ := hjm.elem HY_.out
        simp only [Option.some.injEq, Addr.mk.injEq, and_true] at hA8 hA9
        obtain ⟨rfl, rfl⟩ := hA8
        obtain ⟨rfl, rfl⟩ := hA9
        have HO2 := Lib.hid (Js.none_snoc (nm := nm) hyj)
        clear hjm hyj
        cases ok2
        ·go_wp2_with fail
         go_quiet (fail)
         go_wp2_with fail
         go_roundw
         case rel => exact ⟨j + 1, false, by omega, rfl, by go_num, Lib.hid (by rw [HO2.out, ← Bool.and_assoc, ← HO.out]; rfl), Lib.hid (HJ8.out.next (below_drewN (Below.refl _ _) _)), Lib.hid (below_drewN HW8.out _), HB8⟩
         case measure => simp [intOf]; omega
        ·go_wp2_with fail
         go_quiet (fail)
         go_wp2_with fail
         go_roundw
         case rel => exact ⟨j + 1, !decide (nj = nm), by omega, (by rw [← str_beq]), by go_num, Lib.hid (by rw [HO2.out, ← Bool.and_assoc, ← HO.out, Bool.true_and]), Lib.hid (HJ8.out.next (below_drewN (Below.refl _ _) _)), Lib.hid (below_drewN HW8.out _), HB8⟩
         case measure => simp [intOf]; omega
       ·obtain rfl : j = k := by omega
        go_wp2_with fail
        go_roundw
        case rel => exact ⟨j + 1, nk + ny, dk, bk + by_ + nm.length, ok2, by omega, by go_num, rfl, by go_num, rfl, by go_num, Lib.hid ⟨HF.out.1.1, (by rw [← HF.out.2.1]; omega), HF.out.1.2, (by rw [HO.out, ← HF.out.2.2])⟩, HJ8, HW8, HB8⟩
        case measure => simp [intOf]; omega
    ·obtain rfl : k = m.length := by omega
     rw [List.take_length] at HQ
     have HR : Hid (nk = Js.nodes (.mk k0 b0 n0 t0 l m) ∧ dk + 1 = Js.deep (.mk k0 b0 n0 t0 l m) ∧ bk = Js.bytes (.mk k0 b0 n0 t0 l m) ∧ ok = Js.good (.mk k0 b0 n0 t0 l m)) := Lib.hid (by
      rw [HN.out, HD.out, HY.out, HG.out]
      obtain ⟨z1, z2, z3, z4⟩ := HQ.out
      exact ⟨z1, by rw [z2], z3, z4⟩)
     have hd1 : (dk : Int) + 1 ≤ 1073741824 := by have := HQ.out.2.1; omega
     go_wp2_with fail
     (try simp only [Exit.inBlock, Exit.then])
     refine bodyPost_ret (results_tmp4 rfl _ _ _) rfl ?_
     rw [← HR.out.1, ← HR.out.2.1, ← HR.out.2.2.1, ← HR.out.2.2.2]
     refine ⟨?_, HW'.out⟩
     rfl
theorem size_any : ∀ N, SizeC N
 | 0 => fun x vs S w hN => absurd hN (by have := Js.nodes_pos x; omega)
 | N + 1 => size_step N (size_any N)
set_option maxRecDepth 100000 in
set_option maxHeartbeats 4000000 in
theorem right_any (x : Js.J) (vs : List Value) (S : Nat → Prop) (w : World) (hjv : JV w S x vs) (hn : Js.nodes x ≤ 1073741824) (hb : Js.bytes x ≤ 1073741824) (hd : Js.deep x ≤ 1073741824) :
  Calls Tryz.prog 9 #[.agg vs.toArray] w fun e w' => e = .returned (.bool (Js.right x)) ∧ Below w.heap.size w w' := by
 obtain ⟨A5, c5, A6, c6, k0, b0, n0, t0, l5, l6, rfl⟩ := hjv.shape
 have b1 := below_box w (.cells #[.int .i64 k0, .bool b0, .int .i64 n0, .string t0, .slice A5 l5 c5, .slice A6 l6 c6] 25)
 have HB1 : Hid (JBox (w.alloc (.cells #[.int .i64 k0, .bool b0, .int .i64 n0, .string t0, .slice A5 l5 c5, .slice A6 l6 c6] 25)) w.heap.size (.int .i64 k0) (.bool b0) (.int .i64 n0) (.string t0) (.slice A5 l5 c5) (.slice A6 l6 c6)) := Lib.hid (heap_alloc_new w (.cells #[.int .i64 k0, .bool b0, .int .i64 n0, .string t0, .slice A5 l5 c5, .slice A6 l6 c6] 25))
 have HJ1 := Lib.hid (hjv.next b1)
 have HX1 := Lib.hid b1
 have HR : Hid (Js.right x = (Js.good x && decide (Js.nodes x ≤ 256) && decide (Js.deep x ≤ 8) && decide (Js.bytes x ≤ 32768))) := Lib.hid rfl
 generalize Js.right x = rx at HR ⊢
 clear b1 hjv
 go_enter Tryz.func9, Tryz.ntmps9
 go_upto_region 1 with fail
 generalize (w.alloc (.cells #[.int .i64 k0, .bool b0, .int .i64 n0, .string t0, .slice A5 l5 c5, .slice A6 l6 c6] 25)) = w1 at HB1 HJ1 HX1 ⊢
 have HC := Lib.hid (size_any _ x _ S w1 (Nat.le_refl _) HJ1.out hn hb hd)
 obtain ⟨x0, x1, x2, x3, x4, x5⟩ := HB1.out.cells
 generalize Js.nodes x = nx at HC HR
 generalize Js.deep x = dx at HC HR
 generalize Js.bytes x = bx at HC HR
 generalize Js.good x = gx at HC HR
 clear hn hb hd HJ1
 go_wp2_with fail
 refine HC.out.mono ?_
 rintro e w7 ⟨rfl, hb7⟩
 have HW7 := Lib.hid (HX1.out.trans (hb7.mono HX1.out.size))
 clear hb7 x0 x1 x2 x3 x4 x5 HX1 HB1 HC
 cases gx
 ·go_wp2_with fail
  go_ret
  exact ⟨ret_bool (by rw [HR.out]; simp), HW7.out⟩
 by_cases h1 : nx ≤ 256
 ·have q1 : decide ((nx : Int) ≤ 256) = true := by simp; omega
  by_cases h2 : dx ≤ 8
  ·have q2 : decide ((dx : Int) ≤ 8) = true := by simp; omega
   have q3 : decide ((bx : Int) ≤ 32768) = decide (bx ≤ 32768) := by rw [Bool.eq_iff_iff]; simp; omega
   go_wp2_with fail
   go_ret
   exact ⟨ret_bool (by rw [HR.out, decide_eq_true h1, decide_eq_true h2]; simp), HW7.out⟩
  ·have q2 : decide ((dx : Int) ≤ 8) = false := by simp; omega
   go_wp2_with fail
   go_ret
   exact ⟨ret_bool (by rw [HR.out, decide_eq_false h2]; simp), HW7.out⟩
 ·have q1 : decide ((nx : Int) ≤ 256) = false := by simp; omega
  go_wp2_with fail
  go_ret
  exact ⟨ret_bool (by rw [HR.out, decide_eq_false h1]; simp), HW7.out⟩
end Go.Proofs.YtimioelnnhnbiaaGreatDoor
