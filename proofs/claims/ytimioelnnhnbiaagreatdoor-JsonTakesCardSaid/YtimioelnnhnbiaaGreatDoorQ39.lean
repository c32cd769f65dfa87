/-
 THE LAW JsonTakes, walked. CONDITIONS: the value lies as JV says; Env.
-/
import Derived.Test.YtimioelnnhnbiaaGreatDoorQ35
import Derived.Test.YtimioelnnhnbiaaGreatDoorQ36
import Derived.Test.YtimioelnnhnbiaaGreatDoorQ37
import Derived.Test.YtimioelnnhnbiaaGreatDoorQ14
import Derived.Test.YtimioelnnhnbiaaGreatDoorQ38
namespace Go.Proofs.YtimioelnnhnbiaaGreatDoor
open Go.RowKit
theorem right9 {x : Js.J} {w : World} {f : FuncId} {args : Array Value} (hr : Js.right x = true) (h : Calls Tryz.prog f args w fun e w' => e = .returned (.bool (Js.right x)) ∧ Below w.heap.size w w') : Calls Tryz.prog f args w fun e w' => e = .returned (.bool true) ∧ Below w.heap.size w w' := by
 rw [hr] at h; exact h
theorem same9 {x y : Js.J} {w : World} {f : FuncId} {args : Array Value} (hr : Js.same x y = true) (h : Calls Tryz.prog f args w fun e w' => e = .returned (.bool (Js.same x y)) ∧ Below w.heap.size w w') : Calls Tryz.prog f args w fun e w' => e = .returned (.bool true) ∧ Below w.heap.size w w' := by
 rw [hr] at h; exact h
theorem nx_low {w0 : World} : Nx fun W => Below w0.heap.size w0 W := fun _ _ h hb => h.trans (hb.mono h.size)
theorem AskSt.rows {W : World} {x : Js.J} {p : PAsk} {Af : Option Addr} {cf : Nat} {Ao : Option Addr} {co : Nat} {Aa : Option Addr} {ca : Nat} (h : AskSt W x p Af cf Ao co Aa ca) (hA : toAskE x = 0) : AskRows W p Af cf Ao co Aa ca :=
 h.elim (fun k => k.2.2) (fun k => by have := k.1; omega)
theorem AnsSt.rows {W : World} {x : Js.J} {q : PAnswer} {Bf : Option Addr} {df : Nat} {Bc : Option Addr} {dc : Nat} {Bi : Option Addr} {di : Nat} (h : AnsSt W x q Bf df Bc dc Bi di) (hA : toAnsE x = 0) : AnsRows W q Bf df Bc dc Bi di :=
 h.elim (fun k => k.2.2) (fun k => by have := k.1; omega)
set_option maxRecDepth 100000 in
set_option maxHeartbeats 16000000 in
theorem takes_law (x : Js.J) (vs : List Value) (S : Nat → Prop) (w : World) (hjv : JV w S x vs) (hS : ∀ g, S g → g < w.heap.size) (henv : Env w) :
  Calls Tryz.prog 3 #[.agg vs.toArray] w fun e w' => e = .returned (.bool true) ∧ Below w.heap.size w w' := by
 have hvs := hjv.len
 have HALL : Hid (∀ W, Below w.heap.size w W → JV W S x vs ∧ (∀ g, S g → g < W.heap.size) ∧ Env W) :=
  Lib.hid (fun W hW => ⟨hjv.next hW, fun g hg => Nat.lt_of_lt_of_le (hS g hg) hW.size, henv.next hW⟩)
 have HW1 := Lib.hid (below_box w (.cells vs.toArray 25))
 have HB1 := Lib.hid (heap_alloc_new w (.cells vs.toArray 25))
 clear hjv hS henv
 go_enter Tryz.func3, Tryz.ntmps3
 go_upto_region 1 with fail
 generalize (w.alloc (.cells vs.toArray 25)) = w1 at HB1 HW1 ⊢
 obtain ⟨M, hM⟩ : ∃ M, w.heap.size = M := ⟨_, rfl⟩
 rw [hM] at HB1 ⊢
 have HMM := Lib.hid hM
 clear hM
 go_wp2_with fail
 refine (wakes_any w1 (HALL.out _ HW1.out).2.2).mono ?_
 rintro e w2 ⟨rfl, hb⟩
 have HW2 := Lib.hid (HW1.out.trans (hb.mono HW1.out.size))
 have HB2 := Lib.hid (blk_next hb HB1.out)
 clear hb HB1 HW1
 go_wp2_with (refine wpList_load_row rfl 25 _ rfl M rfl vs.toArray HB2.out _ Tryz.underlying25 rfl (by rw [info25s]; simp [hvs]) ?_)
 obtain ⟨j2, s2, -⟩ := HALL.out _ HW2.out
 refine (over_any x vs S w2 j2 s2).mono ?_
 rintro e w3 ⟨rfl, hb⟩
 have HW3 := Lib.hid (HW2.out.trans (hb.mono HW2.out.size))
 have HB3 := Lib.hid (blk_next hb HB2.out)
 clear hb HB2 HW2 j2 s2
 obtain ⟨ov, hov⟩ : ∃ ov, Js.over x = ov := ⟨_, rfl⟩
 rw [hov]
 cases ov
 rotate_left
 ·go_wp2_with fail
  go_ret
  exact ⟨rfl, HW3.out⟩
 have hsm := Js.over_small hov
 have HSM := Lib.hid (show Js.nodes x ≤ 70000 ∧ Js.bytes x ≤ 70000 ∧ Js.deep x ≤ 70000 by omega)
 clear hsm hov
 go_wp2_with (refine wpList_load_row rfl 25 _ rfl M rfl vs.toArray HB3.out _ Tryz.underlying25 rfl (by rw [info25s]; simp [hvs]) ?_)
 obtain ⟨j3, s3, -⟩ := HALL.out _ HW3.out
 refine (toAsk_st x vs S w3 j3 s3 HSM.out).mono ?_
 rintro e w4 ⟨hb, p, Af, cf, Ao, co, Aa, ca, rfl, hst⟩
 have HW4 := Lib.hid (HW3.out.trans (hb.mono HW3.out.size))
 have HB4 := Lib.hid (blk_next hb HB3.out)
 have HA4 := Lib.hid hst
 clear hb HB3 HW3 j3 s3 hst
 have hE : (w4.alloc (.cells #[.int .i64 0, .string ⟨#[]⟩, .string ⟨#[]⟩, .int .u8 0, .int .u8 0, .int .u8 0, .int .u8 0, .int .u8 0, .int .u8 0, .int .u8 0, .int .u8 0, .int .u8 0, .int .u8 0, .int .u8 0, .int .u8 0, .int .u8 0, .int .u8 0, .int .u8 0, .int .u8 0, .int .u8 0, .int .u8 0, .int .u8 0, .int .u8 0, .int .u8 0, .int .u8 0, .int .u8 0, .int .u8 0, .int .u8 0, .int .u8 0, .int .u8 0, .int .u8 0, .int .u8 0, .int .u8 0, .int .u8 0, .int .u8 0, .slice none 0 0, .string ⟨#[]⟩, .string ⟨#[]⟩, .string ⟨#[]⟩, .string ⟨#[]⟩, .int .i64 0, .string ⟨#[]⟩, .string ⟨#[]⟩, .string ⟨#[]⟩, .slice none 0 0, .int .i64 0, .string ⟨#[]⟩, .string ⟨#[]⟩, .string ⟨#[]⟩, .slice none 0 0] 38)).heap[w4.heap.size]? = some (.cells askZ 38 (0, 0)) := heap_alloc_new w4 (.cells #[.int .i64 0, .string ⟨#[]⟩, .string ⟨#[]⟩, .int .u8 0, .int .u8 0, .int .u8 0, .int .u8 0, .int .u8 0, .int .u8 0, .int .u8 0, .int .u8 0, .int .u8 0, .int .u8 0, .int .u8 0, .int .u8 0, .int .u8 0, .int .u8 0, .int .u8 0, .int .u8 0, .int .u8 0, .int .u8 0, .int .u8 0, .int .u8 0, .int .u8 0, .int .u8 0, .int .u8 0, .int .u8 0, .int .u8 0, .int .u8 0, .int .u8 0, .int .u8 0, .int .u8 0, .int .u8 0, .int .u8 0, .int .u8 0, .slice none 0 0, .string ⟨#[]⟩, .string ⟨#[]⟩, .string ⟨#[]⟩, .string ⟨#[]⟩, .int .i64 0, .string ⟨#[]⟩, .string ⟨#[]⟩, .string ⟨#[]⟩, .slice none 0 0, .int .i64 0, .string ⟨#[]⟩, .string ⟨#[]⟩, .string ⟨#[]⟩, .slice none 0 0] 38)
 go_upto_region 6 with (refine wpList_store_row rfl 38 _ _ rfl _ rfl askZ (askA p Af cf Ao co Aa ca) rfl hE rfl info38 (ask_one _ _ _ _ _ _ _) ?_; intro w5 hk hx)
 have hb := fresh_row hk
 obtain ⟨M5, hM5⟩ : ∃ y, w4.heap.size = y := ⟨_, rfl⟩
 have HW5 := Lib.hid (HW4.out.trans (hb.mono HW4.out.size))
 have HB5 := Lib.hid (blk_next hb HB4.out)
 have HA5 := Lib.hid (nx_askst _ _ HA4.out hb)
 rw [hM5] at hx ⊢
 have HC5 := Lib.hid hx
 clear hb HB4 HW4 HA4 hx hk hE hM5
 go_wp2_with (refine wpList_load_row rfl 25 _ rfl M rfl vs.toArray HB5.out _ Tryz.underlying25 rfl (by rw [info25s]; simp [hvs]) ?_)
 obtain ⟨j3, s3, -⟩ := HALL.out _ HW5.out
 refine (toAnswer_st x vs S w5 j3 s3 HSM.out).mono ?_
 rintro e w6 ⟨hb, q, Bf, df, Bc, dc, Bi, di, rfl, hst⟩
 have HW6 := Lib.hid (HW5.out.trans (hb.mono HW5.out.size))
 have HB6 := Lib.hid (blk_next hb HB5.out)
 have HC6 := Lib.hid (blk_next hb HC5.out)
 have HA6 := Lib.hid (nx_askst _ _ HA5.out hb)
 have HN6 := Lib.hid hst
 clear hb HB5 HW5 HA5 HC5 j3 s3 hst
 have hE : (w6.alloc (.cells #[.int .i64 0, .int .i64 0, .int .i64 0, .int .i64 0, .int .u8 0, .int .u8 0, .int .u8 0, .int .u8 0, .int .u8 0, .int .u8 0, .int .u8 0, .int .u8 0, .int .u8 0, .int .u8 0, .int .u8 0, .int .u8 0, .int .u8 0, .int .u8 0, .int .u8 0, .int .u8 0, .int .u8 0, .int .u8 0, .int .u8 0, .int .u8 0, .int .u8 0, .int .u8 0, .int .u8 0, .int .u8 0, .int .u8 0, .int .u8 0, .int .u8 0, .int .u8 0, .int .u8 0, .int .u8 0, .int .u8 0, .int .u8 0, .slice none 0 0, .slice none 0 0, .int .i64 0, .string ⟨#[]⟩, .string ⟨#[]⟩, .int .i64 0, .slice none 0 0] 49)).heap[w6.heap.size]? = some (.cells ansZ 49 (0, 0)) := heap_alloc_new w6 (.cells #[.int .i64 0, .int .i64 0, .int .i64 0, .int .i64 0, .int .u8 0, .int .u8 0, .int .u8 0, .int .u8 0, .int .u8 0, .int .u8 0, .int .u8 0, .int .u8 0, .int .u8 0, .int .u8 0, .int .u8 0, .int .u8 0, .int .u8 0, .int .u8 0, .int .u8 0, .int .u8 0, .int .u8 0, .int .u8 0, .int .u8 0, .int .u8 0, .int .u8 0, .int .u8 0, .int .u8 0, .int .u8 0, .int .u8 0, .int .u8 0, .int .u8 0, .int .u8 0, .int .u8 0, .int .u8 0, .int .u8 0, .int .u8 0, .slice none 0 0, .slice none 0 0, .int .i64 0, .string ⟨#[]⟩, .string ⟨#[]⟩, .int .i64 0, .slice none 0 0] 49)
 go_wp2_with (refine wpList_store_row rfl 49 _ _ rfl _ rfl ansZ (ansA q Bf df Bc dc Bi di) rfl hE rfl info49 (ans_one _ _ _ _ _ _ _) ?_; intro w7 hk hx)
 have hb := fresh_row hk
 obtain ⟨M6, hM6⟩ : ∃ y, w6.heap.size = y := ⟨_, rfl⟩
 have h1 := HW6.out.trans (hb.mono HW6.out.size)
 have h2 := blk_next hb HB6.out
 have h3 := blk_next hb HC6.out
 have h4 := nx_askst _ _ HA6.out hb
 have h5 := nx_ansst _ _ HN6.out hb
 rw [hM6] at hx ⊢
 have H0 : Hid (w7.heap[M]? = some (.cells vs.toArray 25 (0, 0)) ∧ w7.heap[M5]? = some (.cells (askA p Af cf Ao co Aa ca) 38 (0, 0)) ∧ w7.heap[M6]? = some (.cells (ansA q Bf df Bc dc Bi di) 49 (0, 0)) ∧ Below w.heap.size w w7 ∧ AskSt w7 x p Af cf Ao co Aa ca ∧ AnsSt w7 x q Bf df Bc dc Bi di) := Lib.hid ⟨h2, h3, hx, h1, h4, h5⟩
 clear hb HB6 HW6 HA6 HC6 HN6 hx hk hE hM6 h1 h2 h3 h4 h5
 rcases H0.out.2.2.2.2.1 with ⟨hA, hp, -⟩ | ⟨hA, hp⟩
 ·rw [hA]
  apply sharedE (F := fun W (_ : List Value) => W.heap[M]? = some (.cells vs.toArray 25 (0, 0)) ∧ W.heap[M5]? = some (.cells (askA p Af cf Ao co Aa ca) 38 (0, 0)) ∧ W.heap[M6]? = some (.cells (ansA q Bf df Bc dc Bi di) 49 (0, 0)) ∧ Below w.heap.size w W ∧ AskSt W x p Af cf Ao co Aa ca ∧ AnsSt W x q Bf df Bc dc Bi di)
  case tree =>
   have hn := HSM.out
   have H := H0.out
   have nxF : Nx fun W => W.heap[M]? = some (.cells vs.toArray 25 (0, 0)) ∧ W.heap[M5]? = some (.cells (askA p Af cf Ao co Aa ca) 38 (0, 0)) ∧ W.heap[M6]? = some (.cells (ansA q Bf df Bc dc Bi di) 49 (0, 0)) ∧ Below w.heap.size w W ∧ AskSt W x p Af cf Ao co Aa ca ∧ AnsSt W x q Bf df Bc dc Bi di := nx_and nx_blk (nx_and nx_blk (nx_and nx_blk (nx_and nx_low (nx_and nx_askst nx_ansst))))
   have s0 : ∀ W, W.heap[M]? = some (.cells vs.toArray 25 (0, 0)) ∧ W.heap[M5]? = some (.cells (askA p Af cf Ao co Aa ca) 38 (0, 0)) ∧ W.heap[M6]? = some (.cells (ansA q Bf df Bc dc Bi di) 49 (0, 0)) ∧ Below w.heap.size w W ∧ AskSt W x p Af cf Ao co Aa ca ∧ AnsSt W x q Bf df Bc dc Bi di → (fun W => W.heap[M]? = some (.cells vs.toArray 25 (0, 0)) ∧ W.heap[M5]? = some (.cells (askA p Af cf Ao co Aa ca) 38 (0, 0)) ∧ W.heap[M6]? = some (.cells (ansA q Bf df Bc dc Bi di) 49 (0, 0))) W := fun _ h => ⟨h.1, h.2.1, h.2.2.1⟩
   have hr := (askE_ok hA).1
   have hs := (askE_ok hA).2
   intro KEY
   refine region_till (S := fun W => W.heap[M]? = some (.cells vs.toArray 25 (0, 0)) ∧ W.heap[M5]? = some (.cells (askA p Af cf Ao co Aa ca) 38 (0, 0)) ∧ W.heap[M6]? = some (.cells (ansA q Bf df Bc dc Bi di) 49 (0, 0))) 32  rfl nxF H s0 fun _ H sh => ?_
   refine takeQ (v := .int .i64 0) 0 rfl    (s0 _ H) sh fun sh => ?_
   refine takeQ (v := .bool true) 1 rfl    (s0 _ H) sh fun sh => ?_
   refine takeQ (v := .bool true) 2 rfl    (s0 _ H) sh fun sh => ?_
   refine takeB 3 M vs rfl   rfl   hvs (fun _ h => h.1) (s0 _ H) sh fun sh => ?_
   refine till1 4  rfl (stepL 9 #[.agg vs.toArray]   (right9 hr (right_any x vs S _ (HALL.out _ H.2.2.2.1).1 (by omega) (by omega) (by omega))) nxF H s0 ?_)
   intro _ H
   replace sh := sh.put (i := 4) (by kernel_rfl)
   refine takeQ (v := .bool false) 5 rfl    (s0 _ H) sh fun sh => ?_
   refine takeQ (v := .bool false) 6 rfl    (s0 _ H) sh fun sh => ?_
   refine takeY (v := .agg (askA p Af cf Ao co Aa ca)) 7 rfl   (yieldsIf_load_mid (by kernel_rfl) 38 _ rfl M5 0 (by kernel_rfl) (askL p Af cf Ao co Aa ca) _ (fun W hS j v hv => (blk_cells hS.2.1 (0 + j)).trans (by rw [Nat.zero_add, show (askA p Af cf Ao co Aa ca) = (askL p Af cf Ao co Aa ca).toArray from rfl, List.getElem?_toArray]; exact hv)) Tryz.underlying38 rfl (by rw [info38]; rfl)) (s0 _ H) sh fun sh => ?_
   refine takeB 9 M vs rfl   rfl   hvs (fun _ h => h.1) (s0 _ H) sh fun sh => ?_
   refine till1 8  rfl (stepC 11 #[.agg (askA p Af cf Ao co Aa ca)]   (refAsk_any _ _ _ _ _ _ _ _ (AskSt.rows H.2.2.2.2.1 hA) (by rw [hp]; have := askP_len x; omega)) ?_)
   rintro e _ ⟨hb, usj, rfl, UJ⟩
   replace H := nxF _ _ H hb
   replace UJ := UJ.wide (T := fun _ => True) (fun g _ _ => trivial)
   refine ⟨_, rfl, s0 _ H, ?_⟩
   replace sh := sh.put (i := 8) (by kernel_rfl)
   refine till1 10  rfl (stepL 10 #[.agg usj.toArray, .agg vs.toArray]   (same9 hs (rsame_any _ (askJ (askP x)) x usj vs (fun _ => True) _ (Nat.le_refl _) (by have := askJ_nodes (askP x); have := askP_len x; omega) (hp ▸ UJ) ((HALL.out _ H.2.2.2.1).1.wide (fun g _ _ => trivial)))) nxF H s0 ?_)
   intro _ H
   replace sh := sh.put (i := 10) (by kernel_rfl)
   refine takeQ (v := .bool false) 11 rfl    (s0 _ H) sh fun sh => ?_
   refine takeQ (v := .bool false) 12 rfl    (s0 _ H) sh fun sh => ?_
   refine takeQ (v := .bool false) 13 rfl    (s0 _ H) sh fun sh => ?_
   refine takeQ (v := .bool false) 14 rfl    (s0 _ H) sh fun sh => ?_
   refine takeQ (v := .int .i64 0) 15 rfl    (s0 _ H) sh fun sh => ?_
   refine takeQ (v := .bool false) 16 rfl    (s0 _ H) sh fun sh => ?_
   refine takeQ (v := .bool false) 17 rfl    (s0 _ H) sh fun sh => ?_
   refine takeN 18 rfl    (s0 _ H) sh fun sh => ?_
   refine takeN 19 rfl    (s0 _ H) sh fun sh => ?_
   refine takeN 20 rfl    (s0 _ H) sh fun sh => ?_
   refine takeN 21 rfl    (s0 _ H) sh fun sh => ?_
   refine takeN 22 rfl    (s0 _ H) sh fun sh => ?_
   refine takeN 23 rfl    (s0 _ H) sh fun sh => ?_
   refine takeN 24 rfl    (s0 _ H) sh fun sh => ?_
   refine takeN 25 rfl    (s0 _ H) sh fun sh => ?_
   refine takeN 26 rfl    (s0 _ H) sh fun sh => ?_
   refine takeN 27 rfl    (s0 _ H) sh fun sh => ?_
   refine takeN 28 rfl    (s0 _ H) sh fun sh => ?_
   refine takeN 29 rfl    (s0 _ H) sh fun sh => ?_
   refine takeQ (v := .bool false) 30 rfl    (s0 _ H) sh fun sh => ?_
   refine takeQ (v := .bool false) 31 rfl    (s0 _ H) sh fun sh => ?_
   refine wpTill_done (by kernel_rfl) ?_ _
   simp only [Act.put, CL]
   exact KEY _ usj H
  case key =>
  clear H0
  intro wg usj H0
  replace H0 := Lib.hid H0
  go_wp2_with fail
  clear hp
  rcases H0.out.2.2.2.2.2 with ⟨hB, hp, -⟩ | ⟨hB, hp⟩
  ·exact absurd (not_both hA hB) id
  ·rw [hB]
   apply shared1 (F := fun W => W.heap[M]? = some (.cells vs.toArray 25 (0, 0)) ∧ W.heap[M5]? = some (.cells (askA p Af cf Ao co Aa ca) 38 (0, 0)) ∧ W.heap[M6]? = some (.cells (ansA q Bf df Bc dc Bi di) 49 (0, 0)) ∧ Below w.heap.size w W ∧ AskSt W x p Af cf Ao co Aa ca ∧ AnsSt W x q Bf df Bc dc Bi di)
   case tree =>
    have hn := HSM.out
    have H := H0.out
    have nxF : Nx fun W => W.heap[M]? = some (.cells vs.toArray 25 (0, 0)) ∧ W.heap[M5]? = some (.cells (askA p Af cf Ao co Aa ca) 38 (0, 0)) ∧ W.heap[M6]? = some (.cells (ansA q Bf df Bc dc Bi di) 49 (0, 0)) ∧ Below w.heap.size w W ∧ AskSt W x p Af cf Ao co Aa ca ∧ AnsSt W x q Bf df Bc dc Bi di := nx_and nx_blk (nx_and nx_blk (nx_and nx_blk (nx_and nx_low (nx_and nx_askst nx_ansst))))
    have s0 : ∀ W, W.heap[M]? = some (.cells vs.toArray 25 (0, 0)) ∧ W.heap[M5]? = some (.cells (askA p Af cf Ao co Aa ca) 38 (0, 0)) ∧ W.heap[M6]? = some (.cells (ansA q Bf df Bc dc Bi di) 49 (0, 0)) ∧ Below w.heap.size w W ∧ AskSt W x p Af cf Ao co Aa ca ∧ AnsSt W x q Bf df Bc dc Bi di → (fun W => W.heap[M]? = some (.cells vs.toArray 25 (0, 0)) ∧ W.heap[M5]? = some (.cells (askA p Af cf Ao co Aa ca) 38 (0, 0)) ∧ W.heap[M6]? = some (.cells (ansA q Bf df Bc dc Bi di) 49 (0, 0))) W := fun _ h => ⟨h.1, h.2.1, h.2.2.1⟩
    intro KEY
    refine region_till (S := fun W => W.heap[M]? = some (.cells vs.toArray 25 (0, 0)) ∧ W.heap[M5]? = some (.cells (askA p Af cf Ao co Aa ca) 38 (0, 0)) ∧ W.heap[M6]? = some (.cells (ansA q Bf df Bc dc Bi di) 49 (0, 0))) 27  rfl nxF H s0 fun _ H sh => ?_
    refine takeQ (v := .int .i64 2) 0 rfl    (s0 _ H) sh fun sh => ?_
    refine takeQ (v := .bool false) 1 rfl    (s0 _ H) sh fun sh => ?_
    refine takeQ (v := .bool false) 2 rfl    (s0 _ H) sh fun sh => ?_
    refine takeN 3 rfl    (s0 _ H) sh fun sh => ?_
    refine takeN 4 rfl    (s0 _ H) sh fun sh => ?_
    refine takeN 5 rfl    (s0 _ H) sh fun sh => ?_
    refine takeN 6 rfl    (s0 _ H) sh fun sh => ?_
    refine takeN 7 rfl    (s0 _ H) sh fun sh => ?_
    refine takeN 8 rfl    (s0 _ H) sh fun sh => ?_
    refine takeN 9 rfl    (s0 _ H) sh fun sh => ?_
    refine takeN 10 rfl    (s0 _ H) sh fun sh => ?_
    refine takeN 11 rfl    (s0 _ H) sh fun sh => ?_
    refine takeN 12 rfl    (s0 _ H) sh fun sh => ?_
    refine takeQ (v := .bool false) 13 rfl    (s0 _ H) sh fun sh => ?_
    refine takeQ (v := .bool false) 14 rfl    (s0 _ H) sh fun sh => ?_
    refine takeQ (v := .int .i64 2) 15 rfl    (s0 _ H) sh fun sh => ?_
    refine takeQ (v := .bool true) 16 rfl    (s0 _ H) sh fun sh => ?_
    refine takeQ (v := .bool true) 17 rfl    (s0 _ H) sh fun sh => ?_
    refine takeQ (v := .int .i64 2) 18 rfl    (s0 _ H) sh fun sh => ?_
    refine takeQ (v := .bool false) 19 rfl    (s0 _ H) sh fun sh => ?_
    refine takeQ (v := .bool false) 20 rfl    (s0 _ H) sh fun sh => ?_
    refine takeQ (v := .pointer (some ⟨M6, 0, none⟩)) 21 rfl    (s0 _ H) sh fun sh => ?_
    refine takeY (v := .int .i64 0) 22 rfl   (Or.inl ⟨by kernel_rfl, fun W hS => ?yb22⟩) (s0 _ H) sh fun sh => ?_
    case yb22 => (have q0 := (blk_cells hS.2.2 0).trans (show _ = some (.int .i64 0) from by rw [hp]; rfl); simp only [Act.put, CL]; go_simp; (try with_reducible rfl))
    refine takeQ (v := .bool false) 23 rfl    (s0 _ H) sh fun sh => ?_
    refine takeQ (v := .bool false) 24 rfl    (s0 _ H) sh fun sh => ?_
    refine takeQ (v := .bool false) 25 rfl    (s0 _ H) sh fun sh => ?_
    refine takeQ (v := .bool false) 26 rfl    (s0 _ H) sh fun sh => ?_
    refine wpTill_done (by kernel_rfl) ?_ _
    simp only [Act.put, CL]
    exact KEY _ H
   case key =>
   clear H0
   intro wh H0
   replace H0 := Lib.hid H0
   go_wp2_with fail
   go_ret
   exact ⟨rfl, H0.out.2.2.2.1⟩
 ·rw [hA]
  apply shared1 (F := fun W => W.heap[M]? = some (.cells vs.toArray 25 (0, 0)) ∧ W.heap[M5]? = some (.cells (askA p Af cf Ao co Aa ca) 38 (0, 0)) ∧ W.heap[M6]? = some (.cells (ansA q Bf df Bc dc Bi di) 49 (0, 0)) ∧ Below w.heap.size w W ∧ AskSt W x p Af cf Ao co Aa ca ∧ AnsSt W x q Bf df Bc dc Bi di)
  case tree =>
   have hn := HSM.out
   have H := H0.out
   have nxF : Nx fun W => W.heap[M]? = some (.cells vs.toArray 25 (0, 0)) ∧ W.heap[M5]? = some (.cells (askA p Af cf Ao co Aa ca) 38 (0, 0)) ∧ W.heap[M6]? = some (.cells (ansA q Bf df Bc dc Bi di) 49 (0, 0)) ∧ Below w.heap.size w W ∧ AskSt W x p Af cf Ao co Aa ca ∧ AnsSt W x q Bf df Bc dc Bi di := nx_and nx_blk (nx_and nx_blk (nx_and nx_blk (nx_and nx_low (nx_and nx_askst nx_ansst))))
   have s0 : ∀ W, W.heap[M]? = some (.cells vs.toArray 25 (0, 0)) ∧ W.heap[M5]? = some (.cells (askA p Af cf Ao co Aa ca) 38 (0, 0)) ∧ W.heap[M6]? = some (.cells (ansA q Bf df Bc dc Bi di) 49 (0, 0)) ∧ Below w.heap.size w W ∧ AskSt W x p Af cf Ao co Aa ca ∧ AnsSt W x q Bf df Bc dc Bi di → (fun W => W.heap[M]? = some (.cells vs.toArray 25 (0, 0)) ∧ W.heap[M5]? = some (.cells (askA p Af cf Ao co Aa ca) 38 (0, 0)) ∧ W.heap[M6]? = some (.cells (ansA q Bf df Bc dc Bi di) 49 (0, 0))) W := fun _ h => ⟨h.1, h.2.1, h.2.2.1⟩
   intro KEY
   refine region_till (S := fun W => W.heap[M]? = some (.cells vs.toArray 25 (0, 0)) ∧ W.heap[M5]? = some (.cells (askA p Af cf Ao co Aa ca) 38 (0, 0)) ∧ W.heap[M6]? = some (.cells (ansA q Bf df Bc dc Bi di) 49 (0, 0))) 32  rfl nxF H s0 fun _ H sh => ?_
   refine takeQ (v := .int .i64 2) 0 rfl    (s0 _ H) sh fun sh => ?_
   refine takeQ (v := .bool false) 1 rfl    (s0 _ H) sh fun sh => ?_
   refine takeQ (v := .bool false) 2 rfl    (s0 _ H) sh fun sh => ?_
   refine takeN 3 rfl    (s0 _ H) sh fun sh => ?_
   refine takeN 4 rfl    (s0 _ H) sh fun sh => ?_
   refine takeN 5 rfl    (s0 _ H) sh fun sh => ?_
   refine takeN 6 rfl    (s0 _ H) sh fun sh => ?_
   refine takeN 7 rfl    (s0 _ H) sh fun sh => ?_
   refine takeN 8 rfl    (s0 _ H) sh fun sh => ?_
   refine takeN 9 rfl    (s0 _ H) sh fun sh => ?_
   refine takeN 10 rfl    (s0 _ H) sh fun sh => ?_
   refine takeN 11 rfl    (s0 _ H) sh fun sh => ?_
   refine takeN 12 rfl    (s0 _ H) sh fun sh => ?_
   refine takeQ (v := .bool false) 13 rfl    (s0 _ H) sh fun sh => ?_
   refine takeQ (v := .bool false) 14 rfl    (s0 _ H) sh fun sh => ?_
   refine takeQ (v := .int .i64 2) 15 rfl    (s0 _ H) sh fun sh => ?_
   refine takeQ (v := .bool true) 16 rfl    (s0 _ H) sh fun sh => ?_
   refine takeQ (v := .bool true) 17 rfl    (s0 _ H) sh fun sh => ?_
   refine takeQ (v := .int .i64 2) 18 rfl    (s0 _ H) sh fun sh => ?_
   refine takeQ (v := .bool false) 19 rfl    (s0 _ H) sh fun sh => ?_
   refine takeQ (v := .bool false) 20 rfl    (s0 _ H) sh fun sh => ?_
   refine takeQ (v := .pointer (some ⟨M5, 0, none⟩)) 21 rfl    (s0 _ H) sh fun sh => ?_
   refine takeY (v := .int .i64 0) 22 rfl   (Or.inl ⟨by kernel_rfl, fun W hS => ?yb22⟩) (s0 _ H) sh fun sh => ?_
   case yb22 => (have q0 := (blk_cells hS.2.1 0).trans (show _ = some (.int .i64 0) from by rw [hp]; rfl); simp only [Act.put, CL]; go_simp; (try with_reducible rfl))
   refine takeQ (v := .bool false) 23 rfl    (s0 _ H) sh fun sh => ?_
   refine takeQ (v := .bool false) 24 rfl    (s0 _ H) sh fun sh => ?_
   refine takeQ (v := .bool false) 25 rfl    (s0 _ H) sh fun sh => ?_
   refine takeQ (v := .pointer (some ⟨M5, 1, none⟩)) 26 rfl    (s0 _ H) sh fun sh => ?_
   refine takeY (v := .string ⟨#[]⟩) 27 rfl   (Or.inl ⟨by kernel_rfl, fun W hS => ?yb27⟩) (s0 _ H) sh fun sh => ?_
   case yb27 => (have q0 := (blk_cells hS.2.1 1).trans (show _ = some (.string ⟨#[]⟩) from by rw [hp]; rfl); simp only [Act.put, CL]; go_simp; (try with_reducible rfl))
   refine takeQ (v := .bool false) 28 rfl    (s0 _ H) sh fun sh => ?_
   refine takeQ (v := .bool false) 29 rfl    (s0 _ H) sh fun sh => ?_
   refine takeQ (v := .bool false) 30 rfl    (s0 _ H) sh fun sh => ?_
   refine takeQ (v := .bool false) 31 rfl    (s0 _ H) sh fun sh => ?_
   refine wpTill_done (by kernel_rfl) ?_ _
   simp only [Act.put, CL]
   exact KEY _ H
  case key =>
  clear H0
  intro wg H0
  replace H0 := Lib.hid H0
  go_wp2_with fail
  clear hp
  rcases H0.out.2.2.2.2.2 with ⟨hB, hp, -⟩ | ⟨hB, hp⟩
  ·rw [hB]
   apply sharedE (F := fun W (_ : List Value) => W.heap[M]? = some (.cells vs.toArray 25 (0, 0)) ∧ W.heap[M5]? = some (.cells (askA p Af cf Ao co Aa ca) 38 (0, 0)) ∧ W.heap[M6]? = some (.cells (ansA q Bf df Bc dc Bi di) 49 (0, 0)) ∧ Below w.heap.size w W ∧ AskSt W x p Af cf Ao co Aa ca ∧ AnsSt W x q Bf df Bc dc Bi di)
   case tree =>
    have hn := HSM.out
    have H := H0.out
    have nxF : Nx fun W => W.heap[M]? = some (.cells vs.toArray 25 (0, 0)) ∧ W.heap[M5]? = some (.cells (askA p Af cf Ao co Aa ca) 38 (0, 0)) ∧ W.heap[M6]? = some (.cells (ansA q Bf df Bc dc Bi di) 49 (0, 0)) ∧ Below w.heap.size w W ∧ AskSt W x p Af cf Ao co Aa ca ∧ AnsSt W x q Bf df Bc dc Bi di := nx_and nx_blk (nx_and nx_blk (nx_and nx_blk (nx_and nx_low (nx_and nx_askst nx_ansst))))
    have s0 : ∀ W, W.heap[M]? = some (.cells vs.toArray 25 (0, 0)) ∧ W.heap[M5]? = some (.cells (askA p Af cf Ao co Aa ca) 38 (0, 0)) ∧ W.heap[M6]? = some (.cells (ansA q Bf df Bc dc Bi di) 49 (0, 0)) ∧ Below w.heap.size w W ∧ AskSt W x p Af cf Ao co Aa ca ∧ AnsSt W x q Bf df Bc dc Bi di → (fun W => W.heap[M]? = some (.cells vs.toArray 25 (0, 0)) ∧ W.heap[M5]? = some (.cells (askA p Af cf Ao co Aa ca) 38 (0, 0)) ∧ W.heap[M6]? = some (.cells (ansA q Bf df Bc dc Bi di) 49 (0, 0))) W := fun _ h => ⟨h.1, h.2.1, h.2.2.1⟩
    have hr := (ansE_ok hB).1
    have hs := (ansE_ok hB).2
    intro KEY
    refine region_till (S := fun W => W.heap[M]? = some (.cells vs.toArray 25 (0, 0)) ∧ W.heap[M5]? = some (.cells (askA p Af cf Ao co Aa ca) 38 (0, 0)) ∧ W.heap[M6]? = some (.cells (ansA q Bf df Bc dc Bi di) 49 (0, 0))) 27  rfl nxF H s0 fun _ H sh => ?_
    refine takeQ (v := .int .i64 0) 0 rfl    (s0 _ H) sh fun sh => ?_
    refine takeQ (v := .bool true) 1 rfl    (s0 _ H) sh fun sh => ?_
    refine takeQ (v := .bool true) 2 rfl    (s0 _ H) sh fun sh => ?_
    refine takeB 3 M vs rfl   rfl   hvs (fun _ h => h.1) (s0 _ H) sh fun sh => ?_
    refine till1 4  rfl (stepL 9 #[.agg vs.toArray]   (right9 hr (right_any x vs S _ (HALL.out _ H.2.2.2.1).1 (by omega) (by omega) (by omega))) nxF H s0 ?_)
    intro _ H
    replace sh := sh.put (i := 4) (by kernel_rfl)
    refine takeQ (v := .bool false) 5 rfl    (s0 _ H) sh fun sh => ?_
    refine takeQ (v := .bool false) 6 rfl    (s0 _ H) sh fun sh => ?_
    refine takeY (v := .agg (ansA q Bf df Bc dc Bi di)) 7 rfl   (yieldsIf_load_mid (by kernel_rfl) 49 _ rfl M6 0 (by kernel_rfl) (ansL q Bf df Bc dc Bi di) _ (fun W hS j v hv => (blk_cells hS.2.2 (0 + j)).trans (by rw [Nat.zero_add, show (ansA q Bf df Bc dc Bi di) = (ansL q Bf df Bc dc Bi di).toArray from rfl, List.getElem?_toArray]; exact hv)) Tryz.underlying49 rfl (by rw [info49]; rfl)) (s0 _ H) sh fun sh => ?_
    refine takeB 9 M vs rfl   rfl   hvs (fun _ h => h.1) (s0 _ H) sh fun sh => ?_
    refine till1 8  rfl (stepC 12 #[.agg (ansA q Bf df Bc dc Bi di)]   (refAnswer_any _ _ _ _ _ _ _ _ (AnsSt.rows H.2.2.2.2.2 hB) (by rw [hp]; have := ansP_len x; omega)) ?_)
    rintro e _ ⟨hb, usj, rfl, UJ⟩
    replace H := nxF _ _ H hb
    replace UJ := UJ.wide (T := fun _ => True) (fun g _ _ => trivial)
    refine ⟨_, rfl, s0 _ H, ?_⟩
    replace sh := sh.put (i := 8) (by kernel_rfl)
    refine till1 10  rfl (stepL 10 #[.agg usj.toArray, .agg vs.toArray]   (same9 hs (rsame_any _ (ansJ (ansP x)) x usj vs (fun _ => True) _ (Nat.le_refl _) (by have := ansJ_nodes (ansP x); have := ansP_len x; omega) (hp ▸ UJ) ((HALL.out _ H.2.2.2.1).1.wide (fun g _ _ => trivial)))) nxF H s0 ?_)
    intro _ H
    replace sh := sh.put (i := 10) (by kernel_rfl)
    refine takeQ (v := .bool false) 11 rfl    (s0 _ H) sh fun sh => ?_
    refine takeQ (v := .bool false) 12 rfl    (s0 _ H) sh fun sh => ?_
    refine takeQ (v := .bool false) 13 rfl    (s0 _ H) sh fun sh => ?_
    refine takeQ (v := .bool false) 14 rfl    (s0 _ H) sh fun sh => ?_
    refine takeQ (v := .int .i64 0) 15 rfl    (s0 _ H) sh fun sh => ?_
    refine takeQ (v := .bool false) 16 rfl    (s0 _ H) sh fun sh => ?_
    refine takeQ (v := .bool false) 17 rfl    (s0 _ H) sh fun sh => ?_
    refine takeN 18 rfl    (s0 _ H) sh fun sh => ?_
    refine takeN 19 rfl    (s0 _ H) sh fun sh => ?_
    refine takeN 20 rfl    (s0 _ H) sh fun sh => ?_
    refine takeN 21 rfl    (s0 _ H) sh fun sh => ?_
    refine takeN 22 rfl    (s0 _ H) sh fun sh => ?_
    refine takeN 23 rfl    (s0 _ H) sh fun sh => ?_
    refine takeN 24 rfl    (s0 _ H) sh fun sh => ?_
    refine takeQ (v := .bool false) 25 rfl    (s0 _ H) sh fun sh => ?_
    refine takeQ (v := .bool false) 26 rfl    (s0 _ H) sh fun sh => ?_
    refine wpTill_done (by kernel_rfl) ?_ _
    simp only [Act.put, CL]
    exact KEY _ usj H
   case key =>
   clear H0
   intro wh usj H0
   replace H0 := Lib.hid H0
   go_wp2_with fail
   go_ret
   exact ⟨rfl, H0.out.2.2.2.1⟩
  ·rw [hB]
   apply shared1 (F := fun W => W.heap[M]? = some (.cells vs.toArray 25 (0, 0)) ∧ W.heap[M5]? = some (.cells (askA p Af cf Ao co Aa ca) 38 (0, 0)) ∧ W.heap[M6]? = some (.cells (ansA q Bf df Bc dc Bi di) 49 (0, 0)) ∧ Below w.heap.size w W ∧ AskSt W x p Af cf Ao co Aa ca ∧ AnsSt W x q Bf df Bc dc Bi di)
   case tree =>
    have hn := HSM.out
    have H := H0.out
    have nxF : Nx fun W => W.heap[M]? = some (.cells vs.toArray 25 (0, 0)) ∧ W.heap[M5]? = some (.cells (askA p Af cf Ao co Aa ca) 38 (0, 0)) ∧ W.heap[M6]? = some (.cells (ansA q Bf df Bc dc Bi di) 49 (0, 0)) ∧ Below w.heap.size w W ∧ AskSt W x p Af cf Ao co Aa ca ∧ AnsSt W x q Bf df Bc dc Bi di := nx_and nx_blk (nx_and nx_blk (nx_and nx_blk (nx_and nx_low (nx_and nx_askst nx_ansst))))
    have s0 : ∀ W, W.heap[M]? = some (.cells vs.toArray 25 (0, 0)) ∧ W.heap[M5]? = some (.cells (askA p Af cf Ao co Aa ca) 38 (0, 0)) ∧ W.heap[M6]? = some (.cells (ansA q Bf df Bc dc Bi di) 49 (0, 0)) ∧ Below w.heap.size w W ∧ AskSt W x p Af cf Ao co Aa ca ∧ AnsSt W x q Bf df Bc dc Bi di → (fun W => W.heap[M]? = some (.cells vs.toArray 25 (0, 0)) ∧ W.heap[M5]? = some (.cells (askA p Af cf Ao co Aa ca) 38 (0, 0)) ∧ W.heap[M6]? = some (.cells (ansA q Bf df Bc dc Bi di) 49 (0, 0))) W := fun _ h => ⟨h.1, h.2.1, h.2.2.1⟩
    intro KEY
    refine region_till (S := fun W => W.heap[M]? = some (.cells vs.toArray 25 (0, 0)) ∧ W.heap[M5]? = some (.cells (askA p Af cf Ao co Aa ca) 38 (0, 0)) ∧ W.heap[M6]? = some (.cells (ansA q Bf df Bc dc Bi di) 49 (0, 0))) 27  rfl nxF H s0 fun _ H sh => ?_
    refine takeQ (v := .int .i64 2) 0 rfl    (s0 _ H) sh fun sh => ?_
    refine takeQ (v := .bool false) 1 rfl    (s0 _ H) sh fun sh => ?_
    refine takeQ (v := .bool false) 2 rfl    (s0 _ H) sh fun sh => ?_
    refine takeN 3 rfl    (s0 _ H) sh fun sh => ?_
    refine takeN 4 rfl    (s0 _ H) sh fun sh => ?_
    refine takeN 5 rfl    (s0 _ H) sh fun sh => ?_
    refine takeN 6 rfl    (s0 _ H) sh fun sh => ?_
    refine takeN 7 rfl    (s0 _ H) sh fun sh => ?_
    refine takeN 8 rfl    (s0 _ H) sh fun sh => ?_
    refine takeN 9 rfl    (s0 _ H) sh fun sh => ?_
    refine takeN 10 rfl    (s0 _ H) sh fun sh => ?_
    refine takeN 11 rfl    (s0 _ H) sh fun sh => ?_
    refine takeN 12 rfl    (s0 _ H) sh fun sh => ?_
    refine takeQ (v := .bool false) 13 rfl    (s0 _ H) sh fun sh => ?_
    refine takeQ (v := .bool false) 14 rfl    (s0 _ H) sh fun sh => ?_
    refine takeQ (v := .int .i64 2) 15 rfl    (s0 _ H) sh fun sh => ?_
    refine takeQ (v := .bool true) 16 rfl    (s0 _ H) sh fun sh => ?_
    refine takeQ (v := .bool true) 17 rfl    (s0 _ H) sh fun sh => ?_
    refine takeQ (v := .int .i64 2) 18 rfl    (s0 _ H) sh fun sh => ?_
    refine takeQ (v := .bool false) 19 rfl    (s0 _ H) sh fun sh => ?_
    refine takeQ (v := .bool false) 20 rfl    (s0 _ H) sh fun sh => ?_
    refine takeQ (v := .pointer (some ⟨M6, 0, none⟩)) 21 rfl    (s0 _ H) sh fun sh => ?_
    refine takeY (v := .int .i64 0) 22 rfl   (Or.inl ⟨by kernel_rfl, fun W hS => ?yb22⟩) (s0 _ H) sh fun sh => ?_
    case yb22 => (have q0 := (blk_cells hS.2.2 0).trans (show _ = some (.int .i64 0) from by rw [hp]; rfl); simp only [Act.put, CL]; go_simp; (try with_reducible rfl))
    refine takeQ (v := .bool false) 23 rfl    (s0 _ H) sh fun sh => ?_
    refine takeQ (v := .bool false) 24 rfl    (s0 _ H) sh fun sh => ?_
    refine takeQ (v := .bool false) 25 rfl    (s0 _ H) sh fun sh => ?_
    refine takeQ (v := .bool false) 26 rfl    (s0 _ H) sh fun sh => ?_
    refine wpTill_done (by kernel_rfl) ?_ _
    simp only [Act.put, CL]
    exact KEY _ H
   case key =>
   clear H0
   intro wh H0
   replace H0 := Lib.hid H0
   go_wp2_with fail
   go_ret
   exact ⟨rfl, H0.out.2.2.2.1⟩
theorem takes_at (x : Js.J) (vs : List Value) (w : World) (henv : Env w) (hjv : JV w (fun g => g < w.heap.size) x vs) (_ : Js.inR x = true) :
  Calls Tryz.prog 3 #[.agg vs.toArray] w fun e w' => e = .returned (.bool true) ∧ Below w.heap.size w w' := takes_law x vs _ w hjv (fun _ h => h) henv
end Go.Proofs.YtimioelnnhnbiaaGreatDoor
