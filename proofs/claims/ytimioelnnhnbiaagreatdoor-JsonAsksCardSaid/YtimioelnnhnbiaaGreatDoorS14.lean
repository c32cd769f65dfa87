/-
  Joined: ZP Large WX SizeP SameP.
-/
import Derived.Test.YtimioelnnhnbiaaGreatDoorS13
import Derived.Laws.Concat
import Derived.Test.YtimioelnnhnbiaaGreatDoorS09
import Derived.Test.YtimioelnnhnbiaaGreatDoorS10
namespace Go.Proofs.YtimioelnnhnbiaaGreatDoor
open Go.RowKit
theorem cut_hex {d : Nat} (hd : d < 16) : (⟨#[48, 49, 50, 51, 52, 53, 54, 55, 56, 57, 97, 98, 99, 100, 101, 102]⟩ : ByteArray).extract d (d + 1) = str [hB d] := by
 match d, hd with
 | 0, _ => rfl
 | 1, _ => rfl
 | 2, _ => rfl
 | 3, _ => rfl
 | 4, _ => rfl
 | 5, _ => rfl
 | 6, _ => rfl
 | 7, _ => rfl
 | 8, _ => rfl
 | 9, _ => rfl
 | 10, _ => rfl
 | 11, _ => rfl
 | 12, _ => rfl
 | 13, _ => rfl
 | 14, _ => rfl
 | 15, _ => rfl
 | n + 16, h => omega
theorem str_app9 (x y : Js.Bs) : str x ++ str y = str (x ++ y) := by
 apply ByteArray.ext
 simp [str]
theorem add_str9 (x y : Js.Bs) (h : x.length + y.length ≤ 9223372036854775807) (w : World) : (Op.stringOp .add (str x) (str y)).run Tryz.prog w = .ok (.string (str (x ++ y))) w := by
 rw [run_string_add_sum w _ _ (by rw [str_size, str_size]; exact h), str_app9]
set_option maxRecDepth 100000 in
set_option maxHeartbeats 8000000 in
theorem refHex_any (I : Nat → UInt8) (w : World) : Calls Tryz.prog 72 #[.agg (idA I)] w fun e w' => e = .returned (.string (str (idText I))) ∧ Below w.heap.size w w' := by
 have b1 := below_box w (.cells (idA I) 29)
 have HE1 := Lib.hid (heap_alloc_new w (.cells (idA I) 29))
 have HW1 := Lib.hid b1
 clear b1
 go_enter Tryz.func72, Tryz.ntmps72
 go_upto_region 1 with fail
 generalize (w.alloc (.cells (idA I) 29)) = w1 at HE1 HW1 ⊢
 obtain ⟨N, hN⟩ : ∃ N, w.heap.size = N := ⟨_, rfl⟩
 rw [hN] at HE1 HW1 ⊢
 have HN := Lib.hid hN
 clear hN
 go_wp2_with fail
 go_loopw [3, 4] (fun v i wr => ∃ (k : Nat) (out : List UInt8), k ≤ 32 ∧ i = .int .i64 k ∧ v = .string (str out) ∧ out.length = 2 * k ∧ Hid (out = hexT ((idL I).take k)) ∧ Hid (wr.heap[N]? = some (.cells (idA I) 29 (0, 0))) ∧ Hid (Below N w wr)) (fun _ i _ => 32 - (intOf i).toNat)
 case atStart => exact ⟨0, [], by omega, rfl, rfl, rfl, Lib.hid rfl, HE1, HW1⟩
 case round =>
  obtain ⟨k, out, hk, rfl, rfl, hout, HO, HB, HW⟩ := hrel
  by_cases hlt : k < 32
  ·have hcon : decide ((k : Int) < 32) = true := by simp; omega
   have HX := Lib.hid (idL_at I k hlt)
   have q0 : wr.cell? ⟨N, k, none⟩ = some (.int .u8 (I k).toNat) := (blk_cells HB.out k).trans (idA_at I k hlt)
   have hv : ∃ x, I k = x := ⟨_, rfl⟩
   obtain ⟨x, hx⟩ := hv
   rw [hx] at q0 HX
   have hx256 : x.toNat < 256 := x.toNat_lt
   obtain ⟨d, hd⟩ : ∃ d, x.toNat / 16 = d := ⟨_, rfl⟩
   obtain ⟨q, hq⟩ : ∃ q, x.toNat % 16 = q := ⟨_, rfl⟩
   have hd16 : d < 16 := by omega
   have hq16 : q < 16 := by omega
   have HS : Hid (out ++ [hB d, hB q] = hexT ((idL I).take (k + 1))) := Lib.hid (by
    rw [HO.out, List.take_add_one, HX.out, ← hd, ← hq]
    unfold hexT
    simp)
   have hdi : (x.toNat : Int) / 16 = (d : Int) := by omega
   have hdt : (x.toNat : Int).tdiv 16 = (d : Int) := by rw [Int.tdiv_eq_ediv_of_nonneg (by omega)]; exact hdi
   have hqi : (x.toNat : Int) % 16 = (q : Int) := by omega
   have hqt : (x.toNat : Int).tmod 16 = (q : Int) := by rw [Int.tmod_eq_emod_of_nonneg (by omega)]; exact hqi
   have hlen1 : out.length + [hB d].length ≤ 9223372036854775807 := by simp; omega
   have hadd2 : ∀ w, (Op.stringOp .add (str (out ++ [hB d])) (str [hB q])).run Tryz.prog w = .ok (.string (str (out ++ [hB d, hB q]))) w := fun w => by
    rw [add_str9 _ _ (by simp; omega) w, List.append_assoc]; rfl
   have cut_hexd := cut_hex hd16
   have cut_hexq := cut_hex hq16
   have hwd : IntKind.i64.wrap (d : Int) = (d : Int) := by unfold IntKind.wrap; simp [go_sem]; omega
   have hwd1 : IntKind.i64.wrap ((d : Int) + 1) = (d : Int) + 1 := by unfold IntKind.wrap; simp [go_sem]; omega
   have hwq1 : IntKind.i64.wrap ((q : Int) + 1) = (q : Int) + 1 := by unfold IntKind.wrap; simp [go_sem]; omega
   clear hx HX HO hd hq
   go_wp2_with fail
   clear q0
   refine wp_region_any (by kernel_rfl) ?_
   change wpAny _ _ _ _ _ _ _ (World.drew _)
   have hbd : Below wr.heap.size wr wr.drew := below_drewN (Below.refl _ _) 1
   have HB2 := Lib.hid (blk_next hbd HB.out)
   have HW2 : Hid (Below N w wr.drew) := Lib.hid (HW.out.trans (hbd.mono (by have := (Array.getElem?_eq_some_iff.1 HB.out).1; omega)))
   clear hbd HB HW
   generalize wr.drew = W at HB2 HW2 ⊢
   refine wpAny_of_till (S := fun _ => True) (st := (fun _ => false)) _ _ _ _ ?_
   change wpTill _ _ _ _ _ _ _ #[false, false, false, false, false, false, false, false, false, false, false, false, false, false, false, false] _ _
   refine tkF 0 (.string (str out)) rfl ?yb0 (fun _ => trivial) ?_
   case yb0 => (intro W0 _; go_simp; (try with_reducible rfl))
   simp only [Act.put, CL]
   refine tkF 1 (.int .i64 (x.toNat : Int)) rfl ?yb1 (fun _ => trivial) ?_
   case yb1 => (intro W0 _; go_simp; (try with_reducible rfl))
   simp only [Act.put, CL]
   refine tkF 2 (.int .i64 (d : Int)) rfl ?yb2 (fun _ => trivial) ?_
   case yb2 => (intro W0 _; have h7 := hdi; have h8 := hdt; go_simp; (try with_reducible rfl))
   simp only [Act.put, CL]
   refine tkF 3 (.int .i64 (x.toNat : Int)) rfl ?yb3 (fun _ => trivial) ?_
   case yb3 => (intro W0 _; go_simp; (try with_reducible rfl))
   simp only [Act.put, CL]
   refine tkF 4 (.int .i64 (d : Int)) rfl ?yb4 (fun _ => trivial) ?_
   case yb4 => (intro W0 _; have h7 := hdi; have h8 := hdt; go_simp; (try with_reducible rfl))
   simp only [Act.put, CL]
   refine tkF 5 (.int .i64 ((d : Int) + 1)) rfl ?yb5 (fun _ => trivial) ?_
   case yb5 => (intro W0 _; go_simp; (try with_reducible rfl))
   simp only [Act.put, CL]
   refine tkF 6 (.string (str [hB d])) rfl ?yb6 (fun _ => trivial) ?_
   case yb6 => (intro W0 _; have h7 := cut_hexd; have h8 : (0 : Int) ≤ (d : Int) + 1 := (by omega); have h9 : (d : Int) + 1 ≤ 16 := (by omega); have h10 : (d : Int) ≤ (d : Int) + 1 := (by omega); go_simp; (try with_reducible rfl))
   simp only [Act.put, CL]
   refine tkF 7 (.string (str (out ++ [hB d]))) rfl ?yb7 (fun _ => trivial) ?_
   case yb7 => (intro W0 _; have h7 := add_str9 out [hB d] hlen1; go_simp; (try with_reducible rfl))
   simp only [Act.put, CL]
   refine tkF 8 (.int .i64 (x.toNat : Int)) rfl ?yb8 (fun _ => trivial) ?_
   case yb8 => (intro W0 _; go_simp; (try with_reducible rfl))
   simp only [Act.put, CL]
   refine tkF 9 (.int .i64 (q : Int)) rfl ?yb9 (fun _ => trivial) ?_
   case yb9 => (intro W0 _; have h7 := hqi; have h8 := hqt; go_simp; (try with_reducible rfl))
   simp only [Act.put, CL]
   refine tkF 10 (.int .i64 (x.toNat : Int)) rfl ?yb10 (fun _ => trivial) ?_
   case yb10 => (intro W0 _; go_simp; (try with_reducible rfl))
   simp only [Act.put, CL]
   refine tkF 11 (.int .i64 (q : Int)) rfl ?yb11 (fun _ => trivial) ?_
   case yb11 => (intro W0 _; have h7 := hqi; have h8 := hqt; go_simp; (try with_reducible rfl))
   simp only [Act.put, CL]
   refine tkF 12 (.int .i64 ((q : Int) + 1)) rfl ?yb12 (fun _ => trivial) ?_
   case yb12 => (intro W0 _; go_simp; (try with_reducible rfl))
   simp only [Act.put, CL]
   refine tkF 13 (.string (str [hB q])) rfl ?yb13 (fun _ => trivial) ?_
   case yb13 => (intro W0 _; have h7 := cut_hexq; have h8 : (0 : Int) ≤ (q : Int) + 1 := (by omega); have h9 : (q : Int) + 1 ≤ 16 := (by omega); have h10 : (q : Int) ≤ (q : Int) + 1 := (by omega); go_simp; (try with_reducible rfl))
   simp only [Act.put, CL]
   refine tkF 14 (.string (str (out ++ [hB d, hB q]))) rfl ?yb14 (fun _ => trivial) ?_
   case yb14 => (intro W0 _; have h7 := hadd2; go_simp; (try with_reducible rfl))
   simp only [Act.put, CL]
   refine rdy 15 rfl (fun KK hKK => ?_)
   go_simp
   refine hKK _ _ (fun _ => trivial) ?_
   clear hKK KK
   simp only [Act.put, CL]
   refine wpTill_done (by kernel_rfl) ?_ _
   (try simp only [Exit.then])
   go_wp2_with fail
   go_roundw
   case rel => exact ⟨k + 1, _, by omega, by go_num, rfl, by simp; omega, HS, HB2, HW2⟩
   case measure => simp [intOf]; omega
  ·obtain rfl : k = 32 := by omega
   have hcon : decide (((32 : Nat) : Int) < 32) = false := by decide
   have HT : Hid (str out = str (idText I)) := Lib.hid (by rw [HO.out]; rfl)
   go_wp2_with fail
   go_ret
   exact ⟨congrArg (fun s => Ending.returned (.string s)) HT.out, HN.out ▸ HW.out⟩
end Go.Proofs.YtimioelnnhnbiaaGreatDoor
namespace Go.Proofs.YtimioelnnhnbiaaGreatDoor
namespace Js
def cap20 (n : Nat) : Int := min (n : Int) 1048576
mutual
def lrg : J → Nat → Int → Option Int
 | .mk _ _ _ t l m, d, c => if 30 < d ∨ c - (1 + cap20 t.length) < 0 then none else (lrgL l d (c - (1 + cap20 t.length))).bind fun c2 => lrgM m d c2
def lrgL : List J → Nat → Int → Option Int
 | [], _, c => some c
 | x :: t, d, c => (lrg x (d + 1) c).bind fun c2 => lrgL t d c2
def lrgM : List (Bs × J) → Nat → Int → Option Int
 | [], _, c => some c
 | (n, x) :: t, d, c => (lrg x (d + 1) (c - cap20 n.length)).bind fun c2 => lrgM t d c2
end
theorem cap20_eq {n : Nat} {c : Int} (h : 0 ≤ c - cap20 n) (hc : c ≤ 70000) : cap20 n = n := by unfold cap20 at h ⊢; omega
theorem cap20_pos (n : Nat) : 0 ≤ cap20 n ∧ cap20 n ≤ 1048576 := by unfold cap20; omega
mutual
theorem lrg_some : ∀ (x : J) (d : Nat) (c c' : Int), lrg x d c = some c' → c ≤ 70000 → 0 ≤ c' ∧ c' + nodes x + bytes x = c ∧ d + deep x ≤ 31
 | .mk k b n t l m, d, c, c', h, hc => by
  unfold lrg at h
  split at h
  ·cases h
  ·rename_i hn
   obtain ⟨c2, h1, h2⟩ := Option.bind_eq_some_iff.1 h
   have hz := cap20_pos t.length
   have hq : cap20 t.length = t.length := cap20_eq (c := c) (by omega) hc
   have p1 := lrgL_some l d _ c2 h1 (by omega) (by omega) (by omega)
   have p2 := lrgM_some m d c2 c' h2 p1.1 (by omega) (by omega)
   unfold nodes bytes deep
   omega
theorem lrgL_some : ∀ (l : List J) (d : Nat) (c c' : Int), lrgL l d c = some c' → 0 ≤ c → c ≤ 70000 → d ≤ 30 → 0 ≤ c' ∧ c' + nodesL l + bytesL l = c ∧ d + deepL l ≤ 30
 | [], d, c, c', h, h0, hc, hd => by
  unfold lrgL at h
  cases h
  unfold nodesL bytesL deepL
  omega
 | x :: t, d, c, c', h, h0, hc, hd => by
  unfold lrgL at h
  obtain ⟨c2, h1, h2⟩ := Option.bind_eq_some_iff.1 h
  have p1 := lrg_some x (d + 1) c c2 h1 hc
  have p2 := lrgL_some t d c2 c' h2 p1.1 (by omega) hd
  unfold nodesL bytesL deepL
  omega
theorem lrgM_some : ∀ (l : List (Bs × J)) (d : Nat) (c c' : Int), lrgM l d c = some c' → 0 ≤ c → c ≤ 70000 → d ≤ 30 → 0 ≤ c' ∧ c' + nodesM l + bytesM l = c ∧ d + deepM l ≤ 30
 | [], d, c, c', h, h0, hc, hd => by
  unfold lrgM at h
  cases h
  unfold nodesM bytesM deepM
  omega
 | (n, x) :: t, d, c, c', h, h0, hc, hd => by
  unfold lrgM at h
  obtain ⟨c2, h1, h2⟩ := Option.bind_eq_some_iff.1 h
  have hz := cap20_pos n.length
  have p1 := lrg_some x (d + 1) _ c2 h1 (by omega)
  have hq : cap20 n.length = n.length := cap20_eq (c := c) (by omega) hc
  have p2 := lrgM_some t d c2 c' h2 p1.1 (by omega) hd
  unfold nodesM bytesM deepM
  omega
end
theorem lrgL_append : ∀ (a b : List J) (d : Nat) (c : Int), lrgL (a ++ b) d c = (lrgL a d c).bind fun c2 => lrgL b d c2
 | [], b, d, c => by simp [lrgL]
 | x :: t, b, d, c => by
  rw [List.cons_append, lrgL, lrgL]
  cases lrg x (d + 1) c with
  | none => rfl
  | some c2 => exact lrgL_append t b d c2
theorem lrgM_append : ∀ (a b : List (Bs × J)) (d : Nat) (c : Int), lrgM (a ++ b) d c = (lrgM a d c).bind fun c2 => lrgM b d c2
 | [], b, d, c => by simp [lrgM]
 | (n, x) :: t, b, d, c => by
  rw [List.cons_append, lrgM, lrgM]
  cases lrg x (d + 1) (c - cap20 n.length) with
  | none => rfl
  | some c2 => exact lrgM_append t b d c2
theorem lrgL_snoc {l : List J} {k : Nat} {y : J} {d : Nat} {c c2 : Int} (hy : l[k]? = some y) (h : lrgL (l.take k) d c = some c2) : lrgL (l.take (k + 1)) d c = lrg y (d + 1) c2 := by
 rw [List.take_add_one, hy, lrgL_append, h]
 simp only [Option.toList_some, Option.bind_some, lrgL]
 cases lrg y (d + 1) c2 <;> rfl
theorem lrgM_snoc {l : List (Bs × J)} {k : Nat} {nm : Bs} {y : J} {d : Nat} {c c2 : Int} (hy : l[k]? = some (nm, y)) (h : lrgM (l.take k) d c = some c2) : lrgM (l.take (k + 1)) d c = lrg y (d + 1) (c2 - cap20 nm.length) := by
 rw [List.take_add_one, hy, lrgM_append, h]
 simp only [Option.toList_some, Option.bind_some, lrgM]
 cases lrg y (d + 1) (c2 - cap20 nm.length) <;> rfl
theorem lrgL_none {l : List J} {k : Nat} {d : Nat} {c : Int} (h : lrgL (l.take k) d c = none) : lrgL l d c = none := by
 rw [← List.take_append_drop k l, lrgL_append, h]; rfl
theorem lrgM_none {l : List (Bs × J)} {k : Nat} {d : Nat} {c : Int} (h : lrgM (l.take k) d c = none) : lrgM l d c = none := by
 rw [← List.take_append_drop k l, lrgM_append, h]; rfl
def over (x : J) : Bool := (lrg x 0 70000).isNone
theorem over_small {x : J} (h : over x = false) : nodes x ≤ 70000 ∧ bytes x ≤ 70000 ∧ deep x ≤ 31 := by
 unfold over at h
 cases hl : lrg x 0 70000 with
 | none => rw [hl] at h; cases h
 | some c =>
  have := lrg_some x 0 70000 c hl (by omega)
  omega
end Js
end Go.Proofs.YtimioelnnhnbiaaGreatDoor
namespace Go.Proofs.YtimioelnnhnbiaaGreatDoor
open Go.RowKit
def NAt (w : World) (b : Nat) (c : Int) : Prop := w.heap[b]? = some (.cells #[.int .i64 c] 3 (0, 0))
theorem NAt.cells {w : World} {b : Nat} {c : Int} (h : NAt w b c) : w.cell? ⟨b, 0, none⟩ = some (.int .i64 c) ∧ w.frozen? ⟨b, 0, none⟩ = false := ⟨(blk_cells h 0).trans rfl, blk_free h 0⟩
theorem NAt.next {w w' : World} {b : Nat} {c : Int} (h : NAt w b c) (hb : Below w.heap.size w w') : NAt w' b c := blk_next hb h
theorem NAt.lt {w : World} {b : Nat} {c : Int} (h : NAt w b c) : b < w.heap.size := (Array.getElem?_eq_some_iff.1 h).1
theorem NAt.to {w : World} {b : Nat} {c : Int} (h : NAt w b c) (k : Int) : NAt (w.setCell ⟨b, 0, none⟩ (.int .i64 k)) b k := (but_set (i := 0) (.int .i64 k) h).2
theorem NAt.but {w : World} {b : Nat} {c : Int} (h : NAt w b c) (v : Value) : But [b] w (w.setCell ⟨b, 0, none⟩ v) := (but_set (i := 0) v h).1
def LrgC (N : Nat) : Prop := ∀ (x : Js.J) (vs : List Value) (S : Nat → Prop) (d : Nat) (c : Int) (w : World) (mb : Nat), Js.nodes x ≤ N → JV w S x vs → ¬ S mb → NAt w mb c →
  -4194304 ≤ c → c ≤ 70000 → d ≤ 31 →
  Calls Tryz.prog 18 #[.agg vs.toArray, .int .i64 d, .pointer (some ⟨mb, 0, none⟩)] w fun e w' => e = .returned (.bool (Js.lrg x d c).isNone) ∧ (∀ c', Js.lrg x d c = some c' → NAt w' mb c') ∧ But [mb] w w'
set_option maxRecDepth 100000 in
set_option maxHeartbeats 16000000 in
theorem lrg_step (N : Nat) (ih : LrgC N) : LrgC (N + 1) := by
 intro x vs S d c w mb hN hjv hS hms hc1 hc2 hd
 cases x with | mk k0 b0 n0 t0 l m =>
 have HJ := Lib.hid hjv
 unfold JV at hjv
 obtain ⟨A5, c5, A6, c6, rfl, hc5, hc6, -, -⟩ := hjv
 have hbel := below_box w (.cells #[.int .i64 k0, .bool b0, .int .i64 n0, .string (str t0), .slice A5 l.length c5, .slice A6 m.length c6] 25)
 have HBx : Hid (JBox _ w.heap.size _ _ _ _ _ _) := Lib.hid (heap_alloc_new w (.cells #[.int .i64 k0, .bool b0, .int .i64 n0, .string (str t0), .slice A5 l.length c5, .slice A6 m.length c6] 25))
 have HM1 := Lib.hid (hms.next hbel)
 have HW1 := Lib.hid (But.of (S := [mb]) hbel)
 have HJ1 := Lib.hid (HJ.out.next hbel)
 have hmw := hms.lt
 have hz := str_size t0
 have hcap := Js.cap20_pos t0.length
 clear hbel hms HJ
 obtain ⟨c0, f0⟩ := HM1.out.cells
 go_enter Tryz.func18, Tryz.ntmps18
 go_upto_region 1 with fail
 generalize (w.alloc (.cells #[.int .i64 k0, .bool b0, .int .i64 n0, .string (str t0), .slice A5 l.length c5, .slice A6 m.length c6] 25)) = w1 at HBx HM1 HW1 HJ1 c0 f0 ⊢
 obtain ⟨M, hM⟩ : ∃ M, w.heap.size = M := ⟨_, rfl⟩
 rw [hM] at HBx hmw ⊢
 have hne : M ≠ mb := by omega
 clear hM
 obtain ⟨x0, x1, x2, x3, x4, x5⟩ := HBx.out.cells
 have hcap' : 0 ≤ min (t0.length : Int) 1048576 ∧ min (t0.length : Int) 1048576 ≤ 1048576 := hcap
 obtain ⟨mn, hmn⟩ : ∃ mn, min (t0.length : Int) 1048576 = mn := ⟨_, rfl⟩
 have HL : Hid (Js.lrg (.mk k0 b0 n0 t0 l m) d c = if 30 < d ∨ c - (1 + mn) < 0 then none else (Js.lrgL l d (c - (1 + mn))).bind fun c2 => Js.lrgM m d c2) := Lib.hid (by rw [← hmn]; rfl)
 have HMN := Lib.hid hmn
 rw [hmn] at hcap'
 have hm3 : NAt (w1.setCell ⟨mb, 0, none⟩ (.int .i64 (c - (1 + mn)))).drew mb (c - (1 + mn)) := HM1.out.to (c - (1 + mn))
 have hk3 := (HM1.out.but (.int .i64 (c - (1 + mn)))).drew
 have HB3 := Lib.hid (HBx.out.but hk3 (by simpa using hne))
 have HJ3 := Lib.hid (HJ1.out.but hk3 (by intro j hj; simp at hj; subst hj; exact hS))
 have HW3 := Lib.hid (HW1.out.trans hk3)
 have HM3 := Lib.hid hm3
 clear hm3 hk3 HM1 HBx HJ1 HW1 hcap
 go_still_tail 10, (by kernel_rfl)
 go_upto_region 2 with fail
 generalize (w1.setCell ⟨mb, 0, none⟩ (.int .i64 (c - (1 + mn)))).drew = w3 at HM3 HB3 HJ3 HW3 ⊢
 obtain ⟨e, he⟩ : ∃ e, c - (1 + mn) = e := ⟨_, rfl⟩
 rw [he] at HM3 HL
 have he2 : e ≤ 70000 := by omega
 have he3 : -5242881 ≤ e := by omega
 clear c0 f0 x0 x1 x2 x3 x4 x5 hmn he hcap' hz
 obtain ⟨c0, f0⟩ := HM3.out.cells
 obtain ⟨x0, x1, x2, x3, x4, x5⟩ := HB3.out.cells
 have IH := Lib.hid ih
 clear ih
 by_cases h30 : 30 < d
 ·have hq : decide ((30 : Int) < (d : Int)) = true := by simp; omega
  have HR : Hid (Js.lrg (.mk k0 b0 n0 t0 l m) d c = none) := Lib.hid (by rw [HL.out, if_pos (.inl h30)])
  go_wp2_with fail
  go_ret
  rw [HR.out]
  exact ⟨rfl, fun _ h => (by cases h), HW3.out⟩
 have hq30 : decide ((30 : Int) < (d : Int)) = false := by simp; omega
 by_cases hneg : e < 0
 ·have HR : Hid (Js.lrg (.mk k0 b0 n0 t0 l m) d c = none) := Lib.hid (by rw [HL.out, if_pos (.inr hneg)])
  go_wp2_with fail
  go_ret
  rw [HR.out]
  exact ⟨rfl, fun _ h => (by cases h), HW3.out⟩
 have HR : Hid (Js.lrg (.mk k0 b0 n0 t0 l m) d c = (Js.lrgL l d e).bind fun c2 => Js.lrgM m d c2) := Lib.hid (by rw [HL.out, if_neg (by omega)])
 have hnodes : 1 + Js.nodesL l + Js.nodesM m ≤ N + 1 := hN
 clear HL
 go_wp2_with fail
 clear x0 x1 x2 x3 x4 x5 c0 f0
 go_loopw [32] (fun i wr => ∃ k : Nat, ∃ ck : Int, k ≤ l.length ∧ i = .int .i64 k ∧ Hid (Js.lrgL (l.take k) d e = some ck) ∧ Hid (NAt wr mb ck) ∧ Hid (JV wr S (.mk k0 b0 n0 t0 l m) [.int .i64 k0, .bool b0, .int .i64 n0, .string (str t0), .slice A5 l.length c5, .slice A6 m.length c6]) ∧ Hid (But [mb] w wr) ∧ Hid (JBox wr M (.int .i64 k0) (.bool b0) (.int .i64 n0) (.string (str t0)) (.slice A5 l.length c5) (.slice A6 m.length c6))) (fun i _ => l.length - (intOf i).toNat)
 case atStart => exact ⟨0, e, Nat.zero_le _, rfl, Lib.hid (by simp [Js.lrgL]), HM3, HJ3, HW3, HB3⟩
 case round =>
  obtain ⟨k, ck, hk, rfl, HC, HM, HJ, HW, HB⟩ := hrel
  clear HM3 HJ3 HW3 HB3
  have pl := Js.lrgL_some _ d e ck HC.out (by omega) he2 (by omega)
  have pk := Js.length_nodesL (l.take k)
  rw [List.length_take, Nat.min_eq_left hk] at pk
  have hk7 : k ≤ 70000 := by omega
  have hck : 0 ≤ ck ∧ ck ≤ 70000 := by omega
  clear pl pk
  by_cases hlt : k < l.length
  ·obtain ⟨y, hy⟩ : ∃ y, l[k]? = some y := ⟨l[k], List.getElem?_eq_getElem hlt⟩
   have hjl := HJ.out
   unfold JV at hjl
   obtain ⟨_, _, _, _, hvs, -, -, hjl, -⟩ := hjl
   simp only [List.cons.injEq, Value.slice.injEq, and_true, true_and] at hvs
   obtain ⟨⟨rfl, rfl⟩, rfl, rfl⟩ := hvs
   obtain ⟨g, o, k1, b1, n1, t1, A7, l7, c7, A8, l8, c8, hA, hSg, hg, q0, q1, q2, q3, q4, q5, hjy⟩ := hjl.elem hy
   subst hA
   obtain ⟨p1, p2, p3⟩ := Js.nodesL_split l k y hy
   have hbel := below_box wr (.cells #[.int .i64 k1, .bool b1, .int .i64 n1, .string t1, .slice A7 l7 c7, .slice A8 l8 c8] 25)
   have HMa := Lib.hid (HM.out.next hbel)
   have HJa := Lib.hid (HJ.out.next hbel)
   have HWa := Lib.hid (HW.out.below hbel HW.out.size)
   have HBa := Lib.hid (HB.out.next hbel)
   have HJy := Lib.hid (hjy.next hbel)
   have HSN : Hid (Js.lrgL (l.take (k + 1)) d e = Js.lrg y (d + 1) ck) := Lib.hid (Js.lrgL_snoc hy HC.out)
   have hpn : Js.nodes y ≤ N := by omega
   have HSg := Lib.hid hSg
   clear hjl hjy hbel hy p1 p2 p3 hSg
   go_wp2_with fail
   refine (IH.out y _ S (d + 1) ck _ mb hpn HJy.out hS HMa.out (by omega) hck.2 (by omega)).mono ?_
   rintro e2 w7 ⟨rfl, hm7, hk7⟩
   rw [← HSN.out] at hm7 ⊢
   have HJ7 := Lib.hid (HJa.out.but hk7 (by intro j hj; simp at hj; subst hj; exact hS))
   have HW7 := Lib.hid (HWa.out.trans hk7)
   have HB7 := Lib.hid (HBa.out.but hk7 (by simpa using hne))
   clear hk7 HM HMa HJ HJa HW HWa HB HBa HJy HSN q0 q1 q2 q3 q4 q5
   obtain ⟨res, hres⟩ : ∃ res, Js.lrgL (l.take (k + 1)) d e = res := ⟨_, rfl⟩
   rw [hres] at hm7 ⊢
   have HRES := Lib.hid hres
   clear hres
   cases res with
   | none =>
    have HR2 : Hid (Js.lrg (.mk k0 b0 n0 t0 l m) d c = none) := Lib.hid (by rw [HR.out, Js.lrgL_none HRES.out]; rfl)
    clear hm7
    dsimp only [Option.isNone_none]
    go_wp2_with fail
    go_ret
    rw [HR2.out]
    exact ⟨rfl, fun _ h => (by cases h), HW7.out⟩
   | some cn =>
    have HM7 := Lib.hid (hm7 cn rfl)
    clear hm7
    dsimp only [Option.isNone_some]
    go_wp2_with fail
    go_roundw
    case rel => exact ⟨k + 1, cn, by omega, by go_num, HRES, HM7, HJ7, HW7, HB7⟩
    case measure => simp [intOf]; omega
  ·obtain rfl : k = l.length := by omega
   rw [List.take_length] at HC
   have HR2 : Hid (Js.lrg (.mk k0 b0 n0 t0 l m) d c = Js.lrgM m d ck) := Lib.hid (by rw [HR.out, HC.out]; rfl)
   obtain ⟨x0, x1, x2, x3, x4, x5⟩ := HB.out.cells
   clear HC HR x0 x1 x2 x3 x4
   go_wp2_with fail
   clear x5
   go_loopw [45] (fun i wr => ∃ k : Nat, ∃ cm : Int, k ≤ m.length ∧ i = .int .i64 k ∧ Hid (Js.lrgM (m.take k) d ck = some cm) ∧ Hid (NAt wr mb cm) ∧ Hid (JV wr S (.mk k0 b0 n0 t0 l m) [.int .i64 k0, .bool b0, .int .i64 n0, .string (str t0), .slice A5 l.length c5, .slice A6 m.length c6]) ∧ Hid (But [mb] w wr) ∧ Hid (JBox wr M (.int .i64 k0) (.bool b0) (.int .i64 n0) (.string (str t0)) (.slice A5 l.length c5) (.slice A6 m.length c6))) (fun i _ => m.length - (intOf i).toNat)
   case atStart => exact ⟨0, ck, Nat.zero_le _, rfl, Lib.hid (by simp [Js.lrgM]), HM, HJ, HW, HB⟩
   case round =>
    obtain ⟨k, cm, hk, rfl, HC, HM', HJ', HW', HB'⟩ := hrel
    clear HM HJ HW HB
    have pl := Js.lrgM_some _ d ck cm HC.out (by omega) hck.2 (by omega)
    have pk := Js.length_nodesM (m.take k)
    rw [List.length_take, Nat.min_eq_left hk] at pk
    have hk7 : k ≤ 70000 := by omega
    have hcm : 0 ≤ cm ∧ cm ≤ 70000 := by omega
    clear pl pk
    by_cases hlt : k < m.length
    ·obtain ⟨nm, y, hy⟩ : ∃ nm y, m[k]? = some (nm, y) := ⟨m[k].1, m[k].2, List.getElem?_eq_getElem hlt⟩
     have hjl := HJ'.out
     unfold JV at hjl
     obtain ⟨_, _, _, _, hvs, -, -, -, hjm⟩ := hjl
     simp only [List.cons.injEq, Value.slice.injEq, and_true, true_and] at hvs
     obtain ⟨⟨rfl, rfl⟩, rfl, rfl⟩ := hvs
     obtain ⟨g, o, k1, b1, n1, t1, A7, l7, c7, A8, l8, c8, hA, hSg, hg, q0, q1, q2, q3, q4, q5, q6, hjy⟩ := hjm.elem hy
     subst hA
     obtain ⟨p1, p2, p3⟩ := Js.nodesM_split m k nm y hy
     have hbel := below_box wr (.cells #[.string (str nm), .int .i64 k1, .bool b1, .int .i64 n1, .string t1, .slice A7 l7 c7, .slice A8 l8 c8] 89)
     have HBy := Lib.hid (heap_alloc_new wr (.cells #[.string (str nm), .int .i64 k1, .bool b1, .int .i64 n1, .string t1, .slice A7 l7 c7, .slice A8 l8 c8] 89))
     have HMa := Lib.hid (HM'.out.next hbel)
     have HJa := Lib.hid (HJ'.out.next hbel)
     have HWa := Lib.hid (HW'.out.below hbel HW'.out.size)
     have HBa := Lib.hid (HB'.out.next hbel)
     have HJy := Lib.hid (hjy.next hbel)
     have HSN : Hid (Js.lrgM (m.take (k + 1)) d ck = Js.lrg y (d + 1) (cm - min (nm.length : Int) 1048576)) := Lib.hid (Js.lrgM_snoc hy HC.out)
     have hpn : Js.nodes y ≤ N := by omega
     have hzn := str_size nm
     have hmbl := HM'.out.lt
     clear hjm hjy hbel hy p1 p2 p3 hSg HM'
     go_upto_region 13 with fail
     generalize (wr.alloc (.cells #[.string (str nm), .int .i64 k1, .bool b1, .int .i64 n1, .string t1, .slice A7 l7 c7, .slice A8 l8 c8] 89)) = wA at HBy HMa HJa HWa HBa HJy ⊢
     generalize wr.heap.size = Y at HBy hmbl ⊢
     have hYmb : Y ≠ mb := by omega
     obtain ⟨c0, f0⟩ := HMa.out.cells
     have y0 : wA.cell? ⟨Y, 0, none⟩ = some (.string (str nm)) := (blk_cells HBy.out 0).trans rfl
     have hcn : 0 ≤ min (nm.length : Int) 1048576 ∧ min (nm.length : Int) 1048576 ≤ 1048576 := by omega
     obtain ⟨mn2, hmn2⟩ : ∃ mn2, min (nm.length : Int) 1048576 = mn2 := ⟨_, rfl⟩
     rw [hmn2] at hcn HSN
     have hm8 : NAt (wA.setCell ⟨mb, 0, none⟩ (.int .i64 (cm - mn2))).drew mb (cm - mn2) := HMa.out.to (cm - mn2)
     have hk8 := (HMa.out.but (.int .i64 (cm - mn2))).drew
     have HM8 := Lib.hid hm8
     have HBy8 := Lib.hid (hk8.blk HBy.out (by simpa using hYmb))
     have HJ8 := Lib.hid (HJa.out.but hk8 (by intro j hj; simp at hj; subst hj; exact hS))
     have HW8 := Lib.hid (HWa.out.trans hk8)
     have HB8 := Lib.hid (HBa.out.but hk8 (by simpa using hne))
     have HJy8 := Lib.hid (HJy.out.but hk8 (by intro j hj; simp at hj; subst hj; exact hS))
     clear hm8 hk8 q0 q1 q2 q3 q4 q5 q6 hmbl hg
     go_still_tail 9, (by kernel_rfl)
     go_upto_region 14 with fail
     generalize (wA.setCell ⟨mb, 0, none⟩ (.int .i64 (cm - mn2))).drew = wB at HM8 HBy8 HJ8 HW8 HB8 HJy8 ⊢
     clear HMa HBy HJa HWa HBa HJy c0 f0 y0
     obtain ⟨y0, y1, y2, y3, y4, y5, y6⟩ := blk7 HBy8.out
     have he4 : -4194304 ≤ cm - mn2 := by omega
     have he5 : cm - mn2 ≤ 70000 := by omega
     clear hmn2 hcn hzn
     go_wp2_with fail
     refine (IH.out y _ S (d + 1) (cm - mn2) _ mb hpn HJy8.out hS HM8.out he4 he5 (by omega)).mono ?_
     rintro e2 w7 ⟨rfl, hm7, hk7⟩
     rw [← HSN.out] at hm7 ⊢
     have HJ7 := Lib.hid (HJ8.out.but hk7 (by intro j hj; simp at hj; subst hj; exact hS))
     have HW7 := Lib.hid (HW8.out.trans hk7)
     have HB7 := Lib.hid (HB8.out.but hk7 (by simpa using hne))
     clear hk7 HM8 HJ8 HW8 HB8 HBy8 HJy8 HSN y0 y1 y2 y3 y4 y5 y6
     obtain ⟨res, hres⟩ : ∃ res, Js.lrgM (m.take (k + 1)) d ck = res := ⟨_, rfl⟩
     rw [hres] at hm7 ⊢
     have HRES := Lib.hid hres
     clear hres
     cases res with
     | none =>
      have HR3 : Hid (Js.lrg (.mk k0 b0 n0 t0 l m) d c = none) := Lib.hid (by rw [HR2.out, Js.lrgM_none HRES.out])
      clear hm7
      dsimp only [Option.isNone_none]
      go_wp2_with fail
      go_ret
      rw [HR3.out]
      exact ⟨rfl, fun _ h => (by cases h), HW7.out⟩
     | some cn =>
      have HM7 := Lib.hid (hm7 cn rfl)
      clear hm7
      dsimp only [Option.isNone_some]
      go_wp2_with fail
      go_roundw
      case rel => exact ⟨k + 1, cn, by omega, by go_num, HRES, HM7, HJ7, HW7, HB7⟩
      case measure => simp [intOf]; omega
    ·obtain rfl : k = m.length := by omega
     rw [List.take_length] at HC
     have HR3 : Hid (Js.lrg (.mk k0 b0 n0 t0 l m) d c = some cm) := Lib.hid (by rw [HR2.out, HC.out])
     go_wp2_with fail
     go_ret
     rw [HR3.out]
     exact ⟨rfl, fun _ h => (by cases h; exact HM'.out), HW'.out⟩
theorem lrg_any : ∀ N, LrgC N
 | 0 => fun x vs S d c w mb hN => absurd hN (by have := Js.nodes_pos x; omega)
 | N + 1 => lrg_step N (lrg_any N)
end Go.Proofs.YtimioelnnhnbiaaGreatDoor
namespace Go.Proofs.YtimioelnnhnbiaaGreatDoor
namespace Js
theorem listL_append : ∀ (a b : List J), nodesL (a ++ b) = nodesL a + nodesL b ∧ deepL (a ++ b) = max (deepL a) (deepL b) ∧ bytesL (a ++ b) = bytesL a + bytesL b ∧ goodL (a ++ b) = (goodL a && goodL b)
 | [], b => by simp [nodesL, deepL, bytesL, goodL]
 | x :: t, b => by
  obtain ⟨h1, h2, h3, h4⟩ := listL_append t b
  rw [List.cons_append, nodesL, deepL, bytesL, goodL, nodesL, deepL, bytesL, goodL, h1, h2, h3, h4, Bool.and_assoc]
  exact ⟨by omega, by omega, by omega, rfl⟩
theorem listM_append : ∀ (a b : List (Bs × J)), nodesM (a ++ b) = nodesM a + nodesM b ∧ deepM (a ++ b) = max (deepM a) (deepM b) ∧ bytesM (a ++ b) = bytesM a + bytesM b ∧ goodM (a ++ b) = (goodM a && goodM b)
 | [], b => by simp [nodesM, deepM, bytesM, goodM]
 | (n, x) :: t, b => by
  obtain ⟨h1, h2, h3, h4⟩ := listM_append t b
  rw [List.cons_append, nodesM, deepM, bytesM, goodM, nodesM, deepM, bytesM, goodM, h1, h2, h3, h4, Bool.and_assoc]
  exact ⟨by omega, by omega, by omega, rfl⟩
theorem listL_snoc {l : List J} {k : Nat} {y : J} (hy : l[k]? = some y) : nodesL (l.take (k + 1)) = nodesL (l.take k) + nodes y ∧ deepL (l.take (k + 1)) = max (deepL (l.take k)) (deep y) ∧ bytesL (l.take (k + 1)) = bytesL (l.take k) + bytes y ∧ goodL (l.take (k + 1)) = (goodL (l.take k) && good y) := by
 have h := listL_append (l.take k) [y]
 rw [List.take_add_one, hy]
 simpa [nodesL, deepL, bytesL, goodL] using h
theorem listM_snoc {l : List (Bs × J)} {k : Nat} {nm : Bs} {y : J} (hy : l[k]? = some (nm, y)) : nodesM (l.take (k + 1)) = nodesM (l.take k) + nodes y ∧ deepM (l.take (k + 1)) = max (deepM (l.take k)) (deep y) ∧ bytesM (l.take (k + 1)) = bytesM (l.take k) + bytes y + nm.length ∧ goodM (l.take (k + 1)) = (goodM (l.take k) && good y) := by
 have h := listM_append (l.take k) [(nm, y)]
 rw [List.take_add_one, hy]
 obtain ⟨h1, h2, h3, h4⟩ := h
 refine ⟨by simpa [nodesM] using h1, by simpa [deepM] using h2, ?_, by simpa [goodM] using h4⟩
 rw [show [(nm, y)] = (some (nm, y)).toList from rfl] at h3
 rw [h3]
 simp [bytesM]
 omega
def none_ (l : List (Bs × J)) (nm : Bs) : Bool := l.all fun p => !decide (p.1 = nm)
theorem none_snoc {l : List (Bs × J)} {k : Nat} {n1 nm : Bs} {y : J} (hy : l[k]? = some (n1, y)) : none_ (l.take (k + 1)) nm = (none_ (l.take k) nm && !decide (n1 = nm)) := by
 unfold none_
 rw [List.take_add_one, hy, List.all_append]
 simp
def goodK (p : Bool) (l : List J) (m : List (Bs × J)) : Bool := p && goodL l && goodM m && decide ((m.map (·.1)).Nodup)
theorem goodK_snoc {p : Bool} {l : List J} {m : List (Bs × J)} {k : Nat} {nm : Bs} {y : J} (hy : m[k]? = some (nm, y)) : goodK p l (m.take (k + 1)) = (goodK p l (m.take k) && good y && none_ (m.take k) nm) := by
 have h4 := (listM_snoc hy).2.2.2
 have h5 : decide (((m.take (k + 1)).map (·.1)).Nodup) = (decide (((m.take k).map (·.1)).Nodup) && none_ (m.take k) nm) := by
  rw [Bool.eq_iff_iff, Bool.and_eq_true, decide_eq_true_iff, decide_eq_true_iff, List.take_add_one, hy]
  unfold none_
  simp only [Option.toList_some, List.map_append, List.map_cons, List.map_nil, List.all_eq_true, Bool.not_eq_true', decide_eq_false_iff_not, List.nodup_append, List.mem_map, List.mem_singleton]
  constructor
  ·rintro ⟨h1, -, h3⟩
   exact ⟨h1, fun x hx he => h3 x.1 ⟨x, hx, rfl⟩ nm rfl he⟩
  ·rintro ⟨h1, h2⟩
   refine ⟨h1, by simp, ?_⟩
   rintro a ⟨x, hx, rfl⟩ b rfl
   exact h2 x hx
 unfold goodK
 rw [h4, h5]
 cases p <;> cases goodL l <;> cases goodM (m.take k) <;> cases good y <;> simp
end Js
end Go.Proofs.YtimioelnnhnbiaaGreatDoor
namespace Go.Proofs.YtimioelnnhnbiaaGreatDoor
namespace Js
theorem sameL_app : ∀ (a a' b b' : List J), a.length = a'.length → sameL (a ++ b) (a' ++ b') = (sameL a a' && sameL b b')
 | [], [], b, b', _ => by simp [sameL]
 | x :: t, [], b, b', h => by simp at h
 | [], y :: u, b, b', h => by simp at h
 | x :: t, y :: u, b, b', h => by
  rw [List.cons_append, List.cons_append, sameL, sameL, sameL_app t u b b' (by simpa using h), Bool.and_assoc]
theorem sameM_app : ∀ (a a' b b' : List (Bs × J)), a.length = a'.length → sameM (a ++ b) (a' ++ b') = (sameM a a' && sameM b b')
 | [], [], b, b', _ => by simp [sameM]
 | x :: t, [], b, b', h => by simp at h
 | [], y :: u, b, b', h => by simp at h
 | (n, x) :: t, (n', y) :: u, b, b', h => by
  rw [List.cons_append, List.cons_append, sameM, sameM, sameM_app t u b b' (by simpa using h), Bool.and_assoc, Bool.and_assoc, Bool.and_assoc]
theorem sameL_len : ∀ {l l' : List J}, sameL l l' = true → l.length = l'.length
 | [], [], _ => rfl
 | x :: t, [], h => by simp [sameL] at h
 | [], y :: u, h => by simp [sameL] at h
 | x :: t, y :: u, h => by
  rw [sameL, Bool.and_eq_true] at h
  simp [sameL_len h.2]
theorem sameM_len : ∀ {l l' : List (Bs × J)}, sameM l l' = true → l.length = l'.length
 | [], [], _ => rfl
 | (n, x) :: t, [], h => by simp [sameM] at h
 | [], (n, y) :: u, h => by simp [sameM] at h
 | (n, x) :: t, (n', y) :: u, h => by
  rw [sameM, Bool.and_eq_true] at h
  simp [sameM_len h.2]
theorem sameL_snoc {l l' : List J} {k : Nat} {x y : J} (hl : l.length = l'.length) (hx : l[k]? = some x) (hy : l'[k]? = some y) : sameL (l.take (k + 1)) (l'.take (k + 1)) = (sameL (l.take k) (l'.take k) && same x y) := by
 rw [List.take_add_one, List.take_add_one, hx, hy, sameL_app _ _ _ _ (by rw [List.length_take, List.length_take, hl])]
 simp [sameL]
theorem sameM_snoc {l l' : List (Bs × J)} {k : Nat} {n n' : Bs} {x y : J} (hl : l.length = l'.length) (hx : l[k]? = some (n, x)) (hy : l'[k]? = some (n', y)) : sameM (l.take (k + 1)) (l'.take (k + 1)) = (sameM (l.take k) (l'.take k) && (decide (n = n') && same x y)) := by
 rw [List.take_add_one, List.take_add_one, hx, hy, sameM_app _ _ _ _ (by rw [List.length_take, List.length_take, hl])]
 simp [sameM]
theorem sameL_false {l l' : List J} {k : Nat} (hl : l.length = l'.length) (h : sameL (l.take k) (l'.take k) = false) : sameL l l' = false := by
 rw [← List.take_append_drop k l, ← List.take_append_drop k l', sameL_app _ _ _ _ (by rw [List.length_take, List.length_take, hl]), h]; rfl
theorem sameM_false {l l' : List (Bs × J)} {k : Nat} (hl : l.length = l'.length) (h : sameM (l.take k) (l'.take k) = false) : sameM l l' = false := by
 rw [← List.take_append_drop k l, ← List.take_append_drop k l', sameM_app _ _ _ _ (by rw [List.length_take, List.length_take, hl]), h]; rfl
mutual
theorem same_self : ∀ x : J, same x x = true
 | .mk k b n t l m => by rw [same, sameL_self l, sameM_self m]; simp
theorem sameL_self : ∀ l : List J, sameL l l = true
 | [] => rfl
 | x :: t => by rw [sameL, same_self x, sameL_self t]; rfl
theorem sameM_self : ∀ l : List (Bs × J), sameM l l = true
 | [] => rfl
 | (n, x) :: t => by rw [sameM, same_self x, sameM_self t]; simp
end
theorem sameL_nlen {l l' : List J} (h : ¬ l.length = l'.length) : sameL l l' = false := by
 cases hs : sameL l l' with
 | false => rfl
 | true => exact absurd (sameL_len hs) h
theorem sameM_nlen {l l' : List (Bs × J)} (h : ¬ l.length = l'.length) : sameM l l' = false := by
 cases hs : sameM l l' with
 | false => rfl
 | true => exact absurd (sameM_len hs) h
end Js
end Go.Proofs.YtimioelnnhnbiaaGreatDoor
