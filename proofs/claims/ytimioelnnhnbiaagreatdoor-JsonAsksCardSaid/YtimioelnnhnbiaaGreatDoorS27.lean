/-
 json.ToAsk. CONDITIONS: the value lies as JV says; counts stay small.
-/
import Derived.Test.YtimioelnnhnbiaaGreatDoorS25
import Derived.Test.YtimioelnnhnbiaaGreatDoorS11
import Derived.Test.YtimioelnnhnbiaaGreatDoorS15
import Derived.Test.YtimioelnnhnbiaaGreatDoorS26
namespace Go.Proofs.YtimioelnnhnbiaaGreatDoor
open Go.RowKit
set_option maxRecDepth 100000 in
set_option maxHeartbeats 16000000 in
theorem toAsk_any (x : Js.J) (vs : List Value) (S : Nat → Prop) (w : World) (hjv : JV w S x vs) (hSw : ∀ g, S g → g < w.heap.size) (hno : Js.nodes x ≤ 70000 ∧ Js.bytes x ≤ 70000 ∧ Js.deep x ≤ 70000) :
  Calls Tryz.prog 7 #[.agg vs.toArray] w fun e w' => Below w.heap.size w w' ∧ ((toAskE x = 0 ∧ ∃ Af cf Ao co Aa ca, e = .returned (.tuple #[.agg (askA (askP x) Af cf Ao co Aa ca), .int .i64 0]) ∧ AskRows w' (askP x) Af cf Ao co Aa ca) ∨ (toAskE x = 2 ∧ e = .returned (.tuple #[.agg askZ, .int .i64 2]))) := by
 have HNO := Lib.hid hno
 have hvs := hjv.len
 have b1 := below_box w (.cells vs.toArray 25)
 have s1 : (w.alloc (.cells vs.toArray 25)).heap.size = w.heap.size + 1 := by simp
 have e1 := heap_alloc_new w (.cells vs.toArray 25)
 have b2 := below_box (w.alloc (.cells vs.toArray 25)) (.cells #[.int .i64 0, .string ⟨#[]⟩, .string ⟨#[]⟩, .int .u8 0, .int .u8 0, .int .u8 0, .int .u8 0, .int .u8 0, .int .u8 0, .int .u8 0, .int .u8 0, .int .u8 0, .int .u8 0, .int .u8 0, .int .u8 0, .int .u8 0, .int .u8 0, .int .u8 0, .int .u8 0, .int .u8 0, .int .u8 0, .int .u8 0, .int .u8 0, .int .u8 0, .int .u8 0, .int .u8 0, .int .u8 0, .int .u8 0, .int .u8 0, .int .u8 0, .int .u8 0, .int .u8 0, .int .u8 0, .int .u8 0, .int .u8 0, .slice none 0 0, .string ⟨#[]⟩, .string ⟨#[]⟩, .string ⟨#[]⟩, .string ⟨#[]⟩, .int .i64 0, .string ⟨#[]⟩, .string ⟨#[]⟩, .string ⟨#[]⟩, .slice none 0 0, .int .i64 0, .string ⟨#[]⟩, .string ⟨#[]⟩, .string ⟨#[]⟩, .slice none 0 0] 38)
 have e2 := heap_alloc_new (w.alloc (.cells vs.toArray 25)) (.cells #[.int .i64 0, .string ⟨#[]⟩, .string ⟨#[]⟩, .int .u8 0, .int .u8 0, .int .u8 0, .int .u8 0, .int .u8 0, .int .u8 0, .int .u8 0, .int .u8 0, .int .u8 0, .int .u8 0, .int .u8 0, .int .u8 0, .int .u8 0, .int .u8 0, .int .u8 0, .int .u8 0, .int .u8 0, .int .u8 0, .int .u8 0, .int .u8 0, .int .u8 0, .int .u8 0, .int .u8 0, .int .u8 0, .int .u8 0, .int .u8 0, .int .u8 0, .int .u8 0, .int .u8 0, .int .u8 0, .int .u8 0, .int .u8 0, .slice none 0 0, .string ⟨#[]⟩, .string ⟨#[]⟩, .string ⟨#[]⟩, .string ⟨#[]⟩, .int .i64 0, .string ⟨#[]⟩, .string ⟨#[]⟩, .string ⟨#[]⟩, .slice none 0 0, .int .i64 0, .string ⟨#[]⟩, .string ⟨#[]⟩, .string ⟨#[]⟩, .slice none 0 0] 38)
 rw [s1] at e2
 have HT0 : Ta w w.heap.size vs askZ 38 ((w.alloc (.cells vs.toArray 25)).alloc (.cells #[.int .i64 0, .string ⟨#[]⟩, .string ⟨#[]⟩, .int .u8 0, .int .u8 0, .int .u8 0, .int .u8 0, .int .u8 0, .int .u8 0, .int .u8 0, .int .u8 0, .int .u8 0, .int .u8 0, .int .u8 0, .int .u8 0, .int .u8 0, .int .u8 0, .int .u8 0, .int .u8 0, .int .u8 0, .int .u8 0, .int .u8 0, .int .u8 0, .int .u8 0, .int .u8 0, .int .u8 0, .int .u8 0, .int .u8 0, .int .u8 0, .int .u8 0, .int .u8 0, .int .u8 0, .int .u8 0, .int .u8 0, .int .u8 0, .slice none 0 0, .string ⟨#[]⟩, .string ⟨#[]⟩, .string ⟨#[]⟩, .string ⟨#[]⟩, .int .i64 0, .string ⟨#[]⟩, .string ⟨#[]⟩, .string ⟨#[]⟩, .slice none 0 0, .int .i64 0, .string ⟨#[]⟩, .string ⟨#[]⟩, .string ⟨#[]⟩, .slice none 0 0] 38)) := ⟨blk_next b2 e1, e2, b1.trans (b2.mono (by rw [s1]; omega))⟩
 have HX0 := (hjv.next b1).next b2
 clear b1 s1 e1 b2 e2 hjv hno
 go_enter Tryz.func7, Tryz.ntmps7
 go_upto_region 1 with fail
 generalize ((w.alloc (.cells vs.toArray 25)).alloc (.cells #[.int .i64 0, .string ⟨#[]⟩, .string ⟨#[]⟩, .int .u8 0, .int .u8 0, .int .u8 0, .int .u8 0, .int .u8 0, .int .u8 0, .int .u8 0, .int .u8 0, .int .u8 0, .int .u8 0, .int .u8 0, .int .u8 0, .int .u8 0, .int .u8 0, .int .u8 0, .int .u8 0, .int .u8 0, .int .u8 0, .int .u8 0, .int .u8 0, .int .u8 0, .int .u8 0, .int .u8 0, .int .u8 0, .int .u8 0, .int .u8 0, .int .u8 0, .int .u8 0, .int .u8 0, .int .u8 0, .int .u8 0, .int .u8 0, .slice none 0 0, .string ⟨#[]⟩, .string ⟨#[]⟩, .string ⟨#[]⟩, .string ⟨#[]⟩, .int .i64 0, .string ⟨#[]⟩, .string ⟨#[]⟩, .string ⟨#[]⟩, .slice none 0 0, .int .i64 0, .string ⟨#[]⟩, .string ⟨#[]⟩, .string ⟨#[]⟩, .slice none 0 0] 38)) = w2 at HT0 HX0 ⊢
 have HT := Lib.hid HT0
 have HX := Lib.hid HX0
 clear HT0 HX0
 obtain ⟨N, hN⟩ : ∃ N, w.heap.size = N := ⟨_, rfl⟩
 rw [hN] at HT hSw ⊢
 have HN := Lib.hid hN
 have HSL := Lib.hid hSw
 clear hN hSw
 go_wp2_with (refine wpList_load_row rfl 25 _ rfl N rfl vs.toArray HT.out.arg _ Tryz.underlying25 rfl (by rw [info25s]; simp [hvs]) ?_)
 refine (check_any x vs S w2 HX.out (HT.out.sub HSL.out) (by have := HNO.out; omega) (by have := HNO.out; omega) (by have := HNO.out; omega)).mono ?_
 rintro e wa ⟨rfl, hb⟩
 have H0 : Hid (Ta w N vs askZ 38 wa ∧ JV wa S x vs) := Lib.hid ⟨HT.out.next hb, HX.out.next hb⟩
 clear hb HT HX
 by_cases hr : Js.right x = true
 case neg =>
  have hee : encErr x = 2 := by unfold encErr; rw [if_neg hr]
  rw [hee]
  go_wp2_with (first | (refine wpList_build38z rfl rfl ?_) | (refine wpList_store_row rfl 38 _ _ rfl (N + 1) rfl askZ askZ rfl H0.out.1.res rfl info38 (ask_one _ _ _ _ _ _ _) ?_; intro w8 hk8 hx8))
  refine bodyPost_ret (results_cell_tmp rfl _ _ _ (N + 1) askZ rfl (run_loadVar_row _ (N + 1) 38 38 askZ (0, 0) _ hx8 Tryz.underlying38 rfl info38)) rfl ?_
  have hN := HN.out
  rw [hN]
  exact ⟨H0.out.1.low.trans (hk8.to (by have := H0.out.1.size; omega) (by intro j hj; simp at hj; omega)), Or.inr ⟨by unfold toAskE; rw [if_neg hr], rfl⟩⟩
 have hee : encErr x = 0 := by unfold encErr; rw [if_pos hr]
 rw [hee]
 clear hee
 go_wp2_with fail
 apply sharedB (F := (fun W Y5 Y6 us5 us6 => Ta w N vs askZ 38 W ∧ JV W S x vs ∧ W.heap[Y5]? = some (.cells us5.toArray 25 (0, 0)) ∧ W.heap[Y6]? = some (.cells us6.toArray 25 (0, 0)) ∧ JV W S (ofP x [115, 121, 109, 98, 111, 108]) us5 ∧ JV W S (ofP x [112, 97, 114, 97, 109]) us6))
 case tree =>
  have hS := HSL.out
  have H := H0.out
  have hno := HNO.out
  have n1 : Js.nodes x ≤ 1073741824 := by omega
  have s0 : ∀ W, Ta w N vs askZ 38 W ∧ JV W S x vs → (fun W => W.heap[N]? = some (.cells vs.toArray 25 (0, 0))) W := fun _ h => h.1.arg
  intro KEY
  refine region_till (S := fun W => W.heap[N]? = some (.cells vs.toArray 25 (0, 0))) 8 rfl (nx_and nx_ta nx_jv) H s0 fun _ H sh => ?_
  refine takeB 0 N vs rfl rfl hvs (fun _ h => h) (s0 _ H) sh fun sh => ?_
  refine takeB 2 N vs rfl rfl hvs (fun _ h => h) (s0 _ H) sh fun sh => ?_
  apply sharedB (F := fun W Y5 Y6 us5 us6 => (Ta w N vs askZ 38 W ∧ JV W S x vs) ∧ W.heap[Y5]? = some (.cells #[.int .i64 0, .bool false, .int .i64 0, .string ⟨#[]⟩, .slice none 0 0, .slice none 0 0] 25 (0, 0)) ∧ W.heap[Y6]? = some (.cells #[.int .i64 0, .bool false, .int .i64 0, .string ⟨#[]⟩, .slice none 0 0, .slice none 0 0] 25 (0, 0)) ∧ JV W S (ofP x [115, 121, 109, 98, 111, 108]) us5 ∧ JV W S (ofP x [112, 97, 114, 97, 109]) us6 ∧ N + 2 ≤ Y5 ∧ N + 2 ≤ Y6 ∧ Y5 ≠ Y6)
  case tree =>
   intro K2
   refine till3 1 4 5 rfl rfl rfl (stepC 20 #[.agg vs.toArray, .string (str [115, 121, 109, 98, 111, 108])] (of_any x [115, 121, 109, 98, 111, 108] vs S _ H.2 (H.1.sub hS) n1) ?_) (stepA 25 #[.int .i64 0, .bool false, .int .i64 0, .string ⟨#[]⟩, .slice none 0 0, .slice none 0 0] (nx_and nx_ta nx_jv) H s0 ?_) (stepA 25 #[.int .i64 0, .bool false, .int .i64 0, .string ⟨#[]⟩, .slice none 0 0, .slice none 0 0] (nx_and nx_ta nx_jv) H s0 ?_)
   ·rintro e _ ⟨hb, us5, rfl, U5⟩
    have H := (nx_and nx_ta nx_jv) _ _ H hb
    refine ⟨_, rfl, s0 _ H, ?_⟩
    refine till3 3 4 5 rfl rfl rfl (stepC 20 #[.agg vs.toArray, .string (str [112, 97, 114, 97, 109])] (of_any x [112, 97, 114, 97, 109] vs S _ H.2 (H.1.sub hS) n1) ?_) (stepA 25 #[.int .i64 0, .bool false, .int .i64 0, .string ⟨#[]⟩, .slice none 0 0, .slice none 0 0] (nx_and (nx_and nx_ta nx_jv) nx_jv) ⟨H, U5⟩ (fun _ h => s0 _ h.1) ?_) (stepA 25 #[.int .i64 0, .bool false, .int .i64 0, .string ⟨#[]⟩, .slice none 0 0, .slice none 0 0] (nx_and (nx_and nx_ta nx_jv) nx_jv) ⟨H, U5⟩ (fun _ h => s0 _ h.1) ?_)
    ·rintro e _ ⟨hb, us6, rfl, U6⟩
     obtain ⟨H, U5⟩ := (nx_and (nx_and nx_ta nx_jv) nx_jv) _ _ ⟨H, U5⟩ hb
     refine ⟨_, rfl, s0 _ H, ?_⟩
     refine till2 4 5 rfl rfl (stepA 25 #[.int .i64 0, .bool false, .int .i64 0, .string ⟨#[]⟩, .slice none 0 0, .slice none 0 0] (nx_and (nx_and nx_ta nx_jv) (nx_and nx_jv nx_jv)) ⟨H, U5, U6⟩ (fun _ h => s0 _ h.1) ?_) (stepA 25 #[.int .i64 0, .bool false, .int .i64 0, .string ⟨#[]⟩, .slice none 0 0, .slice none 0 0] (nx_and (nx_and nx_ta nx_jv) (nx_and nx_jv nx_jv)) ⟨H, U5, U6⟩ (fun _ h => s0 _ h.1) ?_)
     ·intro Y5 _ hY hF Z5
      have lY5 : N + 2 ≤ Y5 := hY ▸ H.1.size
      obtain ⟨H, U5, U6⟩ := hF
      refine till1 5 rfl (stepA 25 #[.int .i64 0, .bool false, .int .i64 0, .string ⟨#[]⟩, .slice none 0 0, .slice none 0 0] (nx_and (nx_and nx_ta nx_jv) (nx_and nx_jv (nx_and nx_jv nx_blk))) ⟨H, U5, U6, Z5⟩ (fun _ h => s0 _ h.1) ?_)
      intro Y6 _ hY hF Z6
      have lY6 : N + 2 ≤ Y6 := hY ▸ H.1.size
      have ne : Y5 ≠ Y6 := fun h => by have := (Array.getElem?_eq_some_iff.1 Z5).1; omega
      obtain ⟨H, U5, U6, Z5⟩ := hF
      simp only [Act.put, CL]
      exact K2 _ Y5 Y6 us5 us6 ⟨H, Z5, Z6, U5, U6, lY5, lY6, ne⟩
     ·intro Y6 _ hY hF Z6
      have lY6 : N + 2 ≤ Y6 := hY ▸ H.1.size
      obtain ⟨H, U5, U6⟩ := hF
      refine till1 4 rfl (stepA 25 #[.int .i64 0, .bool false, .int .i64 0, .string ⟨#[]⟩, .slice none 0 0, .slice none 0 0] (nx_and (nx_and nx_ta nx_jv) (nx_and nx_jv (nx_and nx_jv nx_blk))) ⟨H, U5, U6, Z6⟩ (fun _ h => s0 _ h.1) ?_)
      intro Y5 _ hY hF Z5
      have lY5 : N + 2 ≤ Y5 := hY ▸ H.1.size
      have ne : Y6 ≠ Y5 := fun h => by have := (Array.getElem?_eq_some_iff.1 Z6).1; omega
      obtain ⟨H, U5, U6, Z6⟩ := hF
      simp only [Act.put, CL]
      exact K2 _ Y5 Y6 us5 us6 ⟨H, Z5, Z6, U5, U6, lY5, lY6, ne.symm⟩
    ·intro Y5 _ hY hF Z5
     have lY5 : N + 2 ≤ Y5 := hY ▸ H.1.size
     obtain ⟨H, U5⟩ := hF
     refine till2 3 5 rfl rfl (stepC 20 #[.agg vs.toArray, .string (str [112, 97, 114, 97, 109])] (of_any x [112, 97, 114, 97, 109] vs S _ H.2 (H.1.sub hS) n1) ?_) (stepA 25 #[.int .i64 0, .bool false, .int .i64 0, .string ⟨#[]⟩, .slice none 0 0, .slice none 0 0] (nx_and (nx_and nx_ta nx_jv) (nx_and nx_jv nx_blk)) ⟨H, U5, Z5⟩ (fun _ h => s0 _ h.1) ?_)
     ·rintro e _ ⟨hb, us6, rfl, U6⟩
      obtain ⟨H, U5, Z5⟩ := (nx_and (nx_and nx_ta nx_jv) (nx_and nx_jv nx_blk)) _ _ ⟨H, U5, Z5⟩ hb
      refine ⟨_, rfl, s0 _ H, ?_⟩
      refine till1 5 rfl (stepA 25 #[.int .i64 0, .bool false, .int .i64 0, .string ⟨#[]⟩, .slice none 0 0, .slice none 0 0] (nx_and (nx_and nx_ta nx_jv) (nx_and nx_jv (nx_and nx_blk nx_jv))) ⟨H, U5, Z5, U6⟩ (fun _ h => s0 _ h.1) ?_)
      intro Y6 _ hY hF Z6
      have lY6 : N + 2 ≤ Y6 := hY ▸ H.1.size
      have ne : Y5 ≠ Y6 := fun h => by have := (Array.getElem?_eq_some_iff.1 Z5).1; omega
      obtain ⟨H, U5, Z5, U6⟩ := hF
      simp only [Act.put, CL]
      exact K2 _ Y5 Y6 us5 us6 ⟨H, Z5, Z6, U5, U6, lY5, lY6, ne⟩
     ·intro Y6 _ hY hF Z6
      have lY6 : N + 2 ≤ Y6 := hY ▸ H.1.size
      have ne : Y5 ≠ Y6 := fun h => by have := (Array.getElem?_eq_some_iff.1 Z5).1; omega
      obtain ⟨H, U5, Z5⟩ := hF
      refine till1 3 rfl (stepC 20 #[.agg vs.toArray, .string (str [112, 97, 114, 97, 109])] (of_any x [112, 97, 114, 97, 109] vs S _ H.2 (H.1.sub hS) n1) ?_)
      rintro e _ ⟨hb, us6, rfl, U6⟩
      obtain ⟨H, U5, Z5, Z6⟩ := (nx_and (nx_and nx_ta nx_jv) (nx_and nx_jv (nx_and nx_blk nx_blk))) _ _ ⟨H, U5, Z5, Z6⟩ hb
      refine ⟨_, rfl, s0 _ H, ?_⟩
      simp only [Act.put, CL]
      exact K2 _ Y5 Y6 us5 us6 ⟨H, Z5, Z6, U5, U6, lY5, lY6, ne⟩
    ·intro Y6 _ hY hF Z6
     have lY6 : N + 2 ≤ Y6 := hY ▸ H.1.size
     obtain ⟨H, U5⟩ := hF
     refine till2 3 4 rfl rfl (stepC 20 #[.agg vs.toArray, .string (str [112, 97, 114, 97, 109])] (of_any x [112, 97, 114, 97, 109] vs S _ H.2 (H.1.sub hS) n1) ?_) (stepA 25 #[.int .i64 0, .bool false, .int .i64 0, .string ⟨#[]⟩, .slice none 0 0, .slice none 0 0] (nx_and (nx_and nx_ta nx_jv) (nx_and nx_jv nx_blk)) ⟨H, U5, Z6⟩ (fun _ h => s0 _ h.1) ?_)
     ·rintro e _ ⟨hb, us6, rfl, U6⟩
      obtain ⟨H, U5, Z6⟩ := (nx_and (nx_and nx_ta nx_jv) (nx_and nx_jv nx_blk)) _ _ ⟨H, U5, Z6⟩ hb
      refine ⟨_, rfl, s0 _ H, ?_⟩
      refine till1 4 rfl (stepA 25 #[.int .i64 0, .bool false, .int .i64 0, .string ⟨#[]⟩, .slice none 0 0, .slice none 0 0] (nx_and (nx_and nx_ta nx_jv) (nx_and nx_jv (nx_and nx_blk nx_jv))) ⟨H, U5, Z6, U6⟩ (fun _ h => s0 _ h.1) ?_)
      intro Y5 _ hY hF Z5
      have lY5 : N + 2 ≤ Y5 := hY ▸ H.1.size
      have ne : Y6 ≠ Y5 := fun h => by have := (Array.getElem?_eq_some_iff.1 Z6).1; omega
      obtain ⟨H, U5, Z6, U6⟩ := hF
      simp only [Act.put, CL]
      exact K2 _ Y5 Y6 us5 us6 ⟨H, Z5, Z6, U5, U6, lY5, lY6, ne.symm⟩
     ·intro Y5 _ hY hF Z5
      have lY5 : N + 2 ≤ Y5 := hY ▸ H.1.size
      have ne : Y6 ≠ Y5 := fun h => by have := (Array.getElem?_eq_some_iff.1 Z6).1; omega
      obtain ⟨H, U5, Z6⟩ := hF
      refine till1 3 rfl (stepC 20 #[.agg vs.toArray, .string (str [112, 97, 114, 97, 109])] (of_any x [112, 97, 114, 97, 109] vs S _ H.2 (H.1.sub hS) n1) ?_)
      rintro e _ ⟨hb, us6, rfl, U6⟩
      obtain ⟨H, U5, Z6, Z5⟩ := (nx_and (nx_and nx_ta nx_jv) (nx_and nx_jv (nx_and nx_blk nx_blk))) _ _ ⟨H, U5, Z6, Z5⟩ hb
      refine ⟨_, rfl, s0 _ H, ?_⟩
      simp only [Act.put, CL]
      exact K2 _ Y5 Y6 us5 us6 ⟨H, Z5, Z6, U5, U6, lY5, lY6, ne.symm⟩
   ·intro Y5 _ hY hF Z5
    have lY5 : N + 2 ≤ Y5 := hY ▸ H.1.size
    have H := hF
    refine till2 1 5 rfl rfl (stepC 20 #[.agg vs.toArray, .string (str [115, 121, 109, 98, 111, 108])] (of_any x [115, 121, 109, 98, 111, 108] vs S _ H.2 (H.1.sub hS) n1) ?_) (stepA 25 #[.int .i64 0, .bool false, .int .i64 0, .string ⟨#[]⟩, .slice none 0 0, .slice none 0 0] (nx_and (nx_and nx_ta nx_jv) nx_blk) ⟨H, Z5⟩ (fun _ h => s0 _ h.1) ?_)
    ·rintro e _ ⟨hb, us5, rfl, U5⟩
     obtain ⟨H, Z5⟩ := (nx_and (nx_and nx_ta nx_jv) nx_blk) _ _ ⟨H, Z5⟩ hb
     refine ⟨_, rfl, s0 _ H, ?_⟩
     refine till2 3 5 rfl rfl (stepC 20 #[.agg vs.toArray, .string (str [112, 97, 114, 97, 109])] (of_any x [112, 97, 114, 97, 109] vs S _ H.2 (H.1.sub hS) n1) ?_) (stepA 25 #[.int .i64 0, .bool false, .int .i64 0, .string ⟨#[]⟩, .slice none 0 0, .slice none 0 0] (nx_and (nx_and nx_ta nx_jv) (nx_and nx_blk nx_jv)) ⟨H, Z5, U5⟩ (fun _ h => s0 _ h.1) ?_)
     ·rintro e _ ⟨hb, us6, rfl, U6⟩
      obtain ⟨H, Z5, U5⟩ := (nx_and (nx_and nx_ta nx_jv) (nx_and nx_blk nx_jv)) _ _ ⟨H, Z5, U5⟩ hb
      refine ⟨_, rfl, s0 _ H, ?_⟩
      refine till1 5 rfl (stepA 25 #[.int .i64 0, .bool false, .int .i64 0, .string ⟨#[]⟩, .slice none 0 0, .slice none 0 0] (nx_and (nx_and nx_ta nx_jv) (nx_and nx_blk (nx_and nx_jv nx_jv))) ⟨H, Z5, U5, U6⟩ (fun _ h => s0 _ h.1) ?_)
      intro Y6 _ hY hF Z6
      have lY6 : N + 2 ≤ Y6 := hY ▸ H.1.size
      have ne : Y5 ≠ Y6 := fun h => by have := (Array.getElem?_eq_some_iff.1 Z5).1; omega
      obtain ⟨H, Z5, U5, U6⟩ := hF
      simp only [Act.put, CL]
      exact K2 _ Y5 Y6 us5 us6 ⟨H, Z5, Z6, U5, U6, lY5, lY6, ne⟩
     ·intro Y6 _ hY hF Z6
      have lY6 : N + 2 ≤ Y6 := hY ▸ H.1.size
      have ne : Y5 ≠ Y6 := fun h => by have := (Array.getElem?_eq_some_iff.1 Z5).1; omega
      obtain ⟨H, Z5, U5⟩ := hF
      refine till1 3 rfl (stepC 20 #[.agg vs.toArray, .string (str [112, 97, 114, 97, 109])] (of_any x [112, 97, 114, 97, 109] vs S _ H.2 (H.1.sub hS) n1) ?_)
      rintro e _ ⟨hb, us6, rfl, U6⟩
      obtain ⟨H, Z5, U5, Z6⟩ := (nx_and (nx_and nx_ta nx_jv) (nx_and nx_blk (nx_and nx_jv nx_blk))) _ _ ⟨H, Z5, U5, Z6⟩ hb
      refine ⟨_, rfl, s0 _ H, ?_⟩
      simp only [Act.put, CL]
      exact K2 _ Y5 Y6 us5 us6 ⟨H, Z5, Z6, U5, U6, lY5, lY6, ne⟩
    ·intro Y6 _ hY hF Z6
     have lY6 : N + 2 ≤ Y6 := hY ▸ H.1.size
     have ne : Y5 ≠ Y6 := fun h => by have := (Array.getElem?_eq_some_iff.1 Z5).1; omega
     obtain ⟨H, Z5⟩ := hF
     refine till1 1 rfl (stepC 20 #[.agg vs.toArray, .string (str [115, 121, 109, 98, 111, 108])] (of_any x [115, 121, 109, 98, 111, 108] vs S _ H.2 (H.1.sub hS) n1) ?_)
     rintro e _ ⟨hb, us5, rfl, U5⟩
     obtain ⟨H, Z5, Z6⟩ := (nx_and (nx_and nx_ta nx_jv) (nx_and nx_blk nx_blk)) _ _ ⟨H, Z5, Z6⟩ hb
     refine ⟨_, rfl, s0 _ H, ?_⟩
     refine till1 3 rfl (stepC 20 #[.agg vs.toArray, .string (str [112, 97, 114, 97, 109])] (of_any x [112, 97, 114, 97, 109] vs S _ H.2 (H.1.sub hS) n1) ?_)
     rintro e _ ⟨hb, us6, rfl, U6⟩
     obtain ⟨H, Z5, Z6, U5⟩ := (nx_and (nx_and nx_ta nx_jv) (nx_and nx_blk (nx_and nx_blk nx_jv))) _ _ ⟨H, Z5, Z6, U5⟩ hb
     refine ⟨_, rfl, s0 _ H, ?_⟩
     simp only [Act.put, CL]
     exact K2 _ Y5 Y6 us5 us6 ⟨H, Z5, Z6, U5, U6, lY5, lY6, ne⟩
   ·intro Y6 _ hY hF Z6
    have lY6 : N + 2 ≤ Y6 := hY ▸ H.1.size
    have H := hF
    refine till2 1 4 rfl rfl (stepC 20 #[.agg vs.toArray, .string (str [115, 121, 109, 98, 111, 108])] (of_any x [115, 121, 109, 98, 111, 108] vs S _ H.2 (H.1.sub hS) n1) ?_) (stepA 25 #[.int .i64 0, .bool false, .int .i64 0, .string ⟨#[]⟩, .slice none 0 0, .slice none 0 0] (nx_and (nx_and nx_ta nx_jv) nx_blk) ⟨H, Z6⟩ (fun _ h => s0 _ h.1) ?_)
    ·rintro e _ ⟨hb, us5, rfl, U5⟩
     obtain ⟨H, Z6⟩ := (nx_and (nx_and nx_ta nx_jv) nx_blk) _ _ ⟨H, Z6⟩ hb
     refine ⟨_, rfl, s0 _ H, ?_⟩
     refine till2 3 4 rfl rfl (stepC 20 #[.agg vs.toArray, .string (str [112, 97, 114, 97, 109])] (of_any x [112, 97, 114, 97, 109] vs S _ H.2 (H.1.sub hS) n1) ?_) (stepA 25 #[.int .i64 0, .bool false, .int .i64 0, .string ⟨#[]⟩, .slice none 0 0, .slice none 0 0] (nx_and (nx_and nx_ta nx_jv) (nx_and nx_blk nx_jv)) ⟨H, Z6, U5⟩ (fun _ h => s0 _ h.1) ?_)
     ·rintro e _ ⟨hb, us6, rfl, U6⟩
      obtain ⟨H, Z6, U5⟩ := (nx_and (nx_and nx_ta nx_jv) (nx_and nx_blk nx_jv)) _ _ ⟨H, Z6, U5⟩ hb
      refine ⟨_, rfl, s0 _ H, ?_⟩
      refine till1 4 rfl (stepA 25 #[.int .i64 0, .bool false, .int .i64 0, .string ⟨#[]⟩, .slice none 0 0, .slice none 0 0] (nx_and (nx_and nx_ta nx_jv) (nx_and nx_blk (nx_and nx_jv nx_jv))) ⟨H, Z6, U5, U6⟩ (fun _ h => s0 _ h.1) ?_)
      intro Y5 _ hY hF Z5
      have lY5 : N + 2 ≤ Y5 := hY ▸ H.1.size
      have ne : Y6 ≠ Y5 := fun h => by have := (Array.getElem?_eq_some_iff.1 Z6).1; omega
      obtain ⟨H, Z6, U5, U6⟩ := hF
      simp only [Act.put, CL]
      exact K2 _ Y5 Y6 us5 us6 ⟨H, Z5, Z6, U5, U6, lY5, lY6, ne.symm⟩
     ·intro Y5 _ hY hF Z5
      have lY5 : N + 2 ≤ Y5 := hY ▸ H.1.size
      have ne : Y6 ≠ Y5 := fun h => by have := (Array.getElem?_eq_some_iff.1 Z6).1; omega
      obtain ⟨H, Z6, U5⟩ := hF
      refine till1 3 rfl (stepC 20 #[.agg vs.toArray, .string (str [112, 97, 114, 97, 109])] (of_any x [112, 97, 114, 97, 109] vs S _ H.2 (H.1.sub hS) n1) ?_)
      rintro e _ ⟨hb, us6, rfl, U6⟩
      obtain ⟨H, Z6, U5, Z5⟩ := (nx_and (nx_and nx_ta nx_jv) (nx_and nx_blk (nx_and nx_jv nx_blk))) _ _ ⟨H, Z6, U5, Z5⟩ hb
      refine ⟨_, rfl, s0 _ H, ?_⟩
      simp only [Act.put, CL]
      exact K2 _ Y5 Y6 us5 us6 ⟨H, Z5, Z6, U5, U6, lY5, lY6, ne.symm⟩
    ·intro Y5 _ hY hF Z5
     have lY5 : N + 2 ≤ Y5 := hY ▸ H.1.size
     have ne : Y6 ≠ Y5 := fun h => by have := (Array.getElem?_eq_some_iff.1 Z6).1; omega
     obtain ⟨H, Z6⟩ := hF
     refine till1 1 rfl (stepC 20 #[.agg vs.toArray, .string (str [115, 121, 109, 98, 111, 108])] (of_any x [115, 121, 109, 98, 111, 108] vs S _ H.2 (H.1.sub hS) n1) ?_)
     rintro e _ ⟨hb, us5, rfl, U5⟩
     obtain ⟨H, Z6, Z5⟩ := (nx_and (nx_and nx_ta nx_jv) (nx_and nx_blk nx_blk)) _ _ ⟨H, Z6, Z5⟩ hb
     refine ⟨_, rfl, s0 _ H, ?_⟩
     refine till1 3 rfl (stepC 20 #[.agg vs.toArray, .string (str [112, 97, 114, 97, 109])] (of_any x [112, 97, 114, 97, 109] vs S _ H.2 (H.1.sub hS) n1) ?_)
     rintro e _ ⟨hb, us6, rfl, U6⟩
     obtain ⟨H, Z6, Z5, U5⟩ := (nx_and (nx_and nx_ta nx_jv) (nx_and nx_blk (nx_and nx_blk nx_jv))) _ _ ⟨H, Z6, Z5, U5⟩ hb
     refine ⟨_, rfl, s0 _ H, ?_⟩
     simp only [Act.put, CL]
     exact K2 _ Y5 Y6 us5 us6 ⟨H, Z5, Z6, U5, U6, lY5, lY6, ne.symm⟩
  case key =>
   rintro W Y5 Y6 us5 us6 ⟨H, Z5, Z6, U5, U6, lY5, lY6, ne⟩
   refine till1 6 rfl (stepS 25 Y5 #[.int .i64 0, .bool false, .int .i64 0, .string ⟨#[]⟩, .slice none 0 0, .slice none 0 0] us5.toArray rfl Z5 (by simp [U5.len]) (by rw [info25s]; simp [U5.len]) (by simpa using U5.one) (fun _ hk => (H.1.but1 hk lY5).arg) fun W9 hk B5 => ?_)
   replace H : Ta w N vs askZ 38 W9 ∧ JV W9 S x vs := ⟨H.1.but1 hk lY5, H.2.but1 hk hS lY5⟩
   replace U5 := U5.but1 hk hS lY5
   replace U6 := U6.but1 hk hS lY5
   replace Z6 := hk.blk Z6 (by simpa using ne.symm)
   refine till1 7 rfl (stepS 25 Y6 #[.int .i64 0, .bool false, .int .i64 0, .string ⟨#[]⟩, .slice none 0 0, .slice none 0 0] us6.toArray rfl Z6 (by simp [U6.len]) (by rw [info25s]; simp [U6.len]) (by simpa using U6.one) (fun _ hk => (H.1.but1 hk lY6).arg) fun W9 hk B6 => ?_)
   refine wpTill_done (by kernel_rfl) ?_ _
   simp only [Act.put, CL]
   exact KEY _ Y5 Y6 us5 us6 ⟨H.1.but1 hk lY6, H.2.but1 hk hS lY6, hk.blk B5 (by simpa using ne), B6, U5.but1 hk hS lY6, U6.but1 hk hS lY6⟩
 case key =>
  rintro wb Y5 Y6 us5 us6 ⟨f1, f2, f3, f4, f5, f6⟩
  have H0 : Hid (Tb w N vs askZ 38 S x (ofP x [115, 121, 109, 98, 111, 108]) (ofP x [112, 97, 114, 97, 109]) Y5 Y6 us5 us6 wb) := Lib.hid ⟨f1, f2, f3, f4, f5, f6⟩
  clear f1 f2 f3 f4 f5 f6
  go_wp2_with fail
  apply sharedC (F := (fun W Y7 usb Af cf => (Tb w N vs askZ 38 S x (ofP x [115, 121, 109, 98, 111, 108]) (ofP x [112, 97, 114, 97, 109]) Y5 Y6 us5 us6 W ∧ W.heap[Y7]? = some (.cells (askA (askP5 x) Af cf none 0 none 0) 38 (0, 0)) ∧ RowAt 2 fileC W Af (askP5 x).files) ∧ (N + 2 ≤ Y7 ∧ Y5 ≠ Y7 ∧ Y6 ≠ Y7) ∧ ((askP5 x).files.length ≤ cf ∧ (∀ a, Af = some a → a.block ≠ Y7) ∧ ∀ a, Af = some a → N + 2 ≤ a.block)))
  case tree =>
   have hS := HSL.out
   have H := H0.out
   have hno := HNO.out
   have n1 : Js.nodes x ≤ 1073741824 := by omega
   have n2 : Js.nodes x ≤ 1000000 := by omega
   have s0 : ∀ W, Tb w N vs askZ 38 S x (ofP x [115, 121, 109, 98, 111, 108]) (ofP x [112, 97, 114, 97, 109]) Y5 Y6 us5 us6 W → (fun W => W.heap[N]? = some (.cells vs.toArray 25 (0, 0))) W := fun _ h => h.t.arg
   intro KEY
   refine region_till (S := fun W => W.heap[N]? = some (.cells vs.toArray 25 (0, 0))) 20 rfl nx_tb H s0 fun _ H sh => ?_
   refine takeB 0 N vs rfl rfl hvs (fun _ h => h) (s0 _ H) sh fun sh => ?_
   refine takeB 2 N vs rfl rfl hvs (fun _ h => h) (s0 _ H) sh fun sh => ?_
   refine takeB 4 N vs rfl rfl hvs (fun _ h => h) (s0 _ H) sh fun sh => ?_
   refine takeB 6 N vs rfl rfl hvs (fun _ h => h) (s0 _ H) sh fun sh => ?_
   refine takeB 9 N vs rfl rfl hvs (fun _ h => h) (s0 _ H) sh fun sh => ?_
   refine takeB 11 N vs rfl rfl hvs (fun _ h => h) (s0 _ H) sh fun sh => ?_
   refine takeB 13 N vs rfl rfl hvs (fun _ h => h) (s0 _ H) sh fun sh => ?_
   refine takeB 15 N vs rfl rfl hvs (fun _ h => h) (s0 _ H) sh fun sh => ?_
   refine till2 1 18 rfl rfl (stepL 21 #[.agg vs.toArray, .string (str [107, 105, 110, 100])] (num_any x [107, 105, 110, 100] vs S _ H.x (H.t.sub hS) n1) nx_tb H s0 ?_) (stepA 38 askZ nx_tb H s0 ?_)
   ·rintro _ H
    refine till2 3 18 rfl rfl (stepL 22 #[.agg vs.toArray, .string (str [98, 114, 97, 110, 99, 104])] (str_any x [98, 114, 97, 110, 99, 104] vs S _ H.x (H.t.sub hS) n1) nx_tb H s0 ?_) (stepA 38 askZ nx_tb H s0 ?_)
    ·rintro _ H
     refine till2 5 18 rfl rfl (stepL 22 #[.agg vs.toArray, .string (str [111, 116, 104, 101, 114])] (str_any x [111, 116, 104, 101, 114] vs S _ H.x (H.t.sub hS) n1) nx_tb H s0 ?_) (stepA 38 askZ nx_tb H s0 ?_)
     ·rintro _ H
      refine till2 7 18 rfl rfl (stepC 20 #[.agg vs.toArray, .string (str [98, 97, 115, 101])] (of_any x [98, 97, 115, 101] vs S _ H.x (H.t.sub hS) n1) ?_) (stepA 38 askZ nx_tb H s0 ?_)
      ·rintro e _ ⟨hb, usb, rfl, UB⟩
       have H := nx_tb _ _ H hb
       refine ⟨_, rfl, s0 _ H, ?_⟩
       refine till2 8 18 rfl rfl (stepL 23 #[.agg usb.toArray] (from_id (ofP x [98, 97, 115, 101]) usb S _ UB (by have := ofP_text x [98, 97, 115, 101]; omega)) nx_tb H s0 ?_) (stepA 38 askZ (nx_and nx_tb nx_jv) ⟨H, UB⟩ (fun _ h => s0 _ h.1) ?_)
       ·rintro _ H
        refine till2 10 18 rfl rfl (stepC 24 #[.agg vs.toArray, .string (str [102, 105, 108, 101, 115]), .func (.func 25) #[] #[]] (each_file_L x [102, 105, 108, 101, 115] vs S _ H.x (H.t.sub hS) n2) ?_) (stepA 38 askZ nx_tb H s0 ?_)
        ·rintro e _ ⟨hb, Af, cf, rfl, lf, RF, bd⟩
         have bf : ∀ a, Af = some a → N + 2 ≤ a.block := fun a h => Nat.le_trans H.t.size (bd a h).1
         have Df : ∀ a, Af = some a → a.block < _ := fun a h => (bd a h).2
         have H := nx_tb _ _ H hb
         refine ⟨_, rfl, s0 _ H, ?_⟩
         refine till2 12 18 rfl rfl (stepL 22 #[.agg vs.toArray, .string (str [110, 111, 116, 101])] (str_any x [110, 111, 116, 101] vs S _ H.x (H.t.sub hS) n1) (nx_and nx_tb (nx_and nx_row nx_bd)) ⟨H, RF, Df⟩ (fun _ h => s0 _ h.1) ?_) (stepA 38 askZ (nx_and nx_tb (nx_and nx_row nx_bd)) ⟨H, RF, Df⟩ (fun _ h => s0 _ h.1) ?_)
         ·rintro _ ⟨H, RF, Df⟩
          refine till2 14 18 rfl rfl (stepL 22 #[.agg vs.toArray, .string (str [102, 111, 108, 100, 101, 114])] (str_any x [102, 111, 108, 100, 101, 114] vs S _ H.x (H.t.sub hS) n1) (nx_and nx_tb (nx_and nx_row nx_bd)) ⟨H, RF, Df⟩ (fun _ h => s0 _ h.1) ?_) (stepA 38 askZ (nx_and nx_tb (nx_and nx_row nx_bd)) ⟨H, RF, Df⟩ (fun _ h => s0 _ h.1) ?_)
          ·rintro _ ⟨H, RF, Df⟩
           refine till2 16 18 rfl rfl (stepL 22 #[.agg vs.toArray, .string (str [110, 97, 109, 101])] (str_any x [110, 97, 109, 101] vs S _ H.x (H.t.sub hS) n1) (nx_and nx_tb (nx_and nx_row nx_bd)) ⟨H, RF, Df⟩ (fun _ h => s0 _ h.1) ?_) (stepA 38 askZ (nx_and nx_tb (nx_and nx_row nx_bd)) ⟨H, RF, Df⟩ (fun _ h => s0 _ h.1) ?_)
           ·rintro _ ⟨H, RF, Df⟩
            refine takeR 17 38 #[(0, .tmp 19), (1, .tmp 21), (2, .tmp 23), (3, .tmp 26), (4, .tmp 28), (5, .tmp 30), (8, .tmp 32), (7, .tmp 34)] (askA (askP5 x) Af cf none 0 none 0) rfl rfl (s0 _ H) ?_
            refine till1 18 rfl (stepA 38 askZ (nx_and nx_tb (nx_and nx_row nx_bd)) ⟨H, RF, Df⟩ (fun _ h => s0 _ h.1) ?_)
            intro Y7 _ hY hF Z7
            have l7 := H.fresh hY
            have cf9 : ∀ a, Af = some a → a.block ≠ Y7 := fun a h => by have := Df a h; omega
            obtain ⟨H, RF, Df⟩ := hF
            refine till1 19 rfl (stepS 38 Y7 askZ (askA (askP5 x) Af cf none 0 none 0) rfl Z7 rfl info38 (ask_one _ _ _ _ _ _ _) (fun _ hk => (H.but7 hk hS l7).t.arg) fun W9 hk C7 => ?_)
            refine wpTill_done (by kernel_rfl) ?_ _
            simp only [Act.put, CL]
            exact KEY _ Y7 usb Af cf ⟨⟨H.but7 hk hS l7, C7, RF.but7 hk cf9⟩, l7, ⟨lf, cf9, bf⟩⟩
           ·intro Y7 _ hY hF Z7
            have l7 := H.fresh hY
            have cf9 : ∀ a, Af = some a → a.block ≠ Y7 := fun a h => by have := Df a h; omega
            obtain ⟨H, RF, Df⟩ := hF
            refine till1 16 rfl (stepL 22 #[.agg vs.toArray, .string (str [110, 97, 109, 101])] (str_any x [110, 97, 109, 101] vs S _ H.x (H.t.sub hS) n1) (nx_and nx_tb (nx_and nx_row nx_blk)) ⟨H, RF, Z7⟩ (fun _ h => s0 _ h.1) ?_)
            rintro _ ⟨H, RF, Z7⟩
            refine takeR 17 38 #[(0, .tmp 19), (1, .tmp 21), (2, .tmp 23), (3, .tmp 26), (4, .tmp 28), (5, .tmp 30), (8, .tmp 32), (7, .tmp 34)] (askA (askP5 x) Af cf none 0 none 0) rfl rfl (s0 _ H) ?_
            refine till1 19 rfl (stepS 38 Y7 askZ (askA (askP5 x) Af cf none 0 none 0) rfl Z7 rfl info38 (ask_one _ _ _ _ _ _ _) (fun _ hk => (H.but7 hk hS l7).t.arg) fun W9 hk C7 => ?_)
            refine wpTill_done (by kernel_rfl) ?_ _
            simp only [Act.put, CL]
            exact KEY _ Y7 usb Af cf ⟨⟨H.but7 hk hS l7, C7, RF.but7 hk cf9⟩, l7, ⟨lf, cf9, bf⟩⟩
          ·intro Y7 _ hY hF Z7
           have l7 := H.fresh hY
           have cf9 : ∀ a, Af = some a → a.block ≠ Y7 := fun a h => by have := Df a h; omega
           obtain ⟨H, RF, Df⟩ := hF
           refine till1 14 rfl (stepL 22 #[.agg vs.toArray, .string (str [102, 111, 108, 100, 101, 114])] (str_any x [102, 111, 108, 100, 101, 114] vs S _ H.x (H.t.sub hS) n1) (nx_and nx_tb (nx_and nx_row nx_blk)) ⟨H, RF, Z7⟩ (fun _ h => s0 _ h.1) ?_)
           rintro _ ⟨H, RF, Z7⟩
           refine till1 16 rfl (stepL 22 #[.agg vs.toArray, .string (str [110, 97, 109, 101])] (str_any x [110, 97, 109, 101] vs S _ H.x (H.t.sub hS) n1) (nx_and nx_tb (nx_and nx_row nx_blk)) ⟨H, RF, Z7⟩ (fun _ h => s0 _ h.1) ?_)
           rintro _ ⟨H, RF, Z7⟩
           refine takeR 17 38 #[(0, .tmp 19), (1, .tmp 21), (2, .tmp 23), (3, .tmp 26), (4, .tmp 28), (5, .tmp 30), (8, .tmp 32), (7, .tmp 34)] (askA (askP5 x) Af cf none 0 none 0) rfl rfl (s0 _ H) ?_
           refine till1 19 rfl (stepS 38 Y7 askZ (askA (askP5 x) Af cf none 0 none 0) rfl Z7 rfl info38 (ask_one _ _ _ _ _ _ _) (fun _ hk => (H.but7 hk hS l7).t.arg) fun W9 hk C7 => ?_)
           refine wpTill_done (by kernel_rfl) ?_ _
           simp only [Act.put, CL]
           exact KEY _ Y7 usb Af cf ⟨⟨H.but7 hk hS l7, C7, RF.but7 hk cf9⟩, l7, ⟨lf, cf9, bf⟩⟩
         ·intro Y7 _ hY hF Z7
          have l7 := H.fresh hY
          have cf9 : ∀ a, Af = some a → a.block ≠ Y7 := fun a h => by have := Df a h; omega
          obtain ⟨H, RF, Df⟩ := hF
          refine till1 12 rfl (stepL 22 #[.agg vs.toArray, .string (str [110, 111, 116, 101])] (str_any x [110, 111, 116, 101] vs S _ H.x (H.t.sub hS) n1) (nx_and nx_tb (nx_and nx_row nx_blk)) ⟨H, RF, Z7⟩ (fun _ h => s0 _ h.1) ?_)
          rintro _ ⟨H, RF, Z7⟩
          refine till1 14 rfl (stepL 22 #[.agg vs.toArray, .string (str [102, 111, 108, 100, 101, 114])] (str_any x [102, 111, 108, 100, 101, 114] vs S _ H.x (H.t.sub hS) n1) (nx_and nx_tb (nx_and nx_row nx_blk)) ⟨H, RF, Z7⟩ (fun _ h => s0 _ h.1) ?_)
          rintro _ ⟨H, RF, Z7⟩
          refine till1 16 rfl (stepL 22 #[.agg vs.toArray, .string (str [110, 97, 109, 101])] (str_any x [110, 97, 109, 101] vs S _ H.x (H.t.sub hS) n1) (nx_and nx_tb (nx_and nx_row nx_blk)) ⟨H, RF, Z7⟩ (fun _ h => s0 _ h.1) ?_)
          rintro _ ⟨H, RF, Z7⟩
          refine takeR 17 38 #[(0, .tmp 19), (1, .tmp 21), (2, .tmp 23), (3, .tmp 26), (4, .tmp 28), (5, .tmp 30), (8, .tmp 32), (7, .tmp 34)] (askA (askP5 x) Af cf none 0 none 0) rfl rfl (s0 _ H) ?_
          refine till1 19 rfl (stepS 38 Y7 askZ (askA (askP5 x) Af cf none 0 none 0) rfl Z7 rfl info38 (ask_one _ _ _ _ _ _ _) (fun _ hk => (H.but7 hk hS l7).t.arg) fun W9 hk C7 => ?_)
          refine wpTill_done (by kernel_rfl) ?_ _
          simp only [Act.put, CL]
          exact KEY _ Y7 usb Af cf ⟨⟨H.but7 hk hS l7, C7, RF.but7 hk cf9⟩, l7, ⟨lf, cf9, bf⟩⟩
        ·intro Y7 _ hY hF Z7
         have l7 := H.fresh hY
         have H := hF
         refine till1 10 rfl (stepC 24 #[.agg vs.toArray, .string (str [102, 105, 108, 101, 115]), .func (.func 25) #[] #[]] (each_file_L x [102, 105, 108, 101, 115] vs S _ H.x (H.t.sub hS) n2) ?_)
         rintro e _ ⟨hb, Af, cf, rfl, lf, RF, bd⟩
         have bf : ∀ a, Af = some a → N + 2 ≤ a.block := fun a h => Nat.le_trans H.t.size (bd a h).1
         have cf9 : ∀ a, Af = some a → a.block ≠ Y7 := fun a h => by have := (bd a h).1; have := (Array.getElem?_eq_some_iff.1 Z7).1; omega
         obtain ⟨H, Z7⟩ := (nx_and nx_tb nx_blk) _ _ ⟨H, Z7⟩ hb
         refine ⟨_, rfl, s0 _ H, ?_⟩
         refine till1 12 rfl (stepL 22 #[.agg vs.toArray, .string (str [110, 111, 116, 101])] (str_any x [110, 111, 116, 101] vs S _ H.x (H.t.sub hS) n1) (nx_and nx_tb (nx_and nx_blk nx_row)) ⟨H, Z7, RF⟩ (fun _ h => s0 _ h.1) ?_)
         rintro _ ⟨H, Z7, RF⟩
         refine till1 14 rfl (stepL 22 #[.agg vs.toArray, .string (str [102, 111, 108, 100, 101, 114])] (str_any x [102, 111, 108, 100, 101, 114] vs S _ H.x (H.t.sub hS) n1) (nx_and nx_tb (nx_and nx_blk nx_row)) ⟨H, Z7, RF⟩ (fun _ h => s0 _ h.1) ?_)
         rintro _ ⟨H, Z7, RF⟩
         refine till1 16 rfl (stepL 22 #[.agg vs.toArray, .string (str [110, 97, 109, 101])] (str_any x [110, 97, 109, 101] vs S _ H.x (H.t.sub hS) n1) (nx_and nx_tb (nx_and nx_blk nx_row)) ⟨H, Z7, RF⟩ (fun _ h => s0 _ h.1) ?_)
         rintro _ ⟨H, Z7, RF⟩
         refine takeR 17 38 #[(0, .tmp 19), (1, .tmp 21), (2, .tmp 23), (3, .tmp 26), (4, .tmp 28), (5, .tmp 30), (8, .tmp 32), (7, .tmp 34)] (askA (askP5 x) Af cf none 0 none 0) rfl rfl (s0 _ H) ?_
         refine till1 19 rfl (stepS 38 Y7 askZ (askA (askP5 x) Af cf none 0 none 0) rfl Z7 rfl info38 (ask_one _ _ _ _ _ _ _) (fun _ hk => (H.but7 hk hS l7).t.arg) fun W9 hk C7 => ?_)
         refine wpTill_done (by kernel_rfl) ?_ _
         simp only [Act.put, CL]
         exact KEY _ Y7 usb Af cf ⟨⟨H.but7 hk hS l7, C7, RF.but7 hk cf9⟩, l7, ⟨lf, cf9, bf⟩⟩
       ·intro Y7 _ hY hF Z7
        have l7 := H.fresh hY
        obtain ⟨H, UB⟩ := hF
        refine till1 8 rfl (stepL 23 #[.agg usb.toArray] (from_id (ofP x [98, 97, 115, 101]) usb S _ UB (by have := ofP_text x [98, 97, 115, 101]; omega)) (nx_and nx_tb nx_blk) ⟨H, Z7⟩ (fun _ h => s0 _ h.1) ?_)
        rintro _ ⟨H, Z7⟩
        refine till1 10 rfl (stepC 24 #[.agg vs.toArray, .string (str [102, 105, 108, 101, 115]), .func (.func 25) #[] #[]] (each_file_L x [102, 105, 108, 101, 115] vs S _ H.x (H.t.sub hS) n2) ?_)
        rintro e _ ⟨hb, Af, cf, rfl, lf, RF, bd⟩
        have bf : ∀ a, Af = some a → N + 2 ≤ a.block := fun a h => Nat.le_trans H.t.size (bd a h).1
        have cf9 : ∀ a, Af = some a → a.block ≠ Y7 := fun a h => by have := (bd a h).1; have := (Array.getElem?_eq_some_iff.1 Z7).1; omega
        obtain ⟨H, Z7⟩ := (nx_and nx_tb nx_blk) _ _ ⟨H, Z7⟩ hb
        refine ⟨_, rfl, s0 _ H, ?_⟩
        refine till1 12 rfl (stepL 22 #[.agg vs.toArray, .string (str [110, 111, 116, 101])] (str_any x [110, 111, 116, 101] vs S _ H.x (H.t.sub hS) n1) (nx_and nx_tb (nx_and nx_blk nx_row)) ⟨H, Z7, RF⟩ (fun _ h => s0 _ h.1) ?_)
        rintro _ ⟨H, Z7, RF⟩
        refine till1 14 rfl (stepL 22 #[.agg vs.toArray, .string (str [102, 111, 108, 100, 101, 114])] (str_any x [102, 111, 108, 100, 101, 114] vs S _ H.x (H.t.sub hS) n1) (nx_and nx_tb (nx_and nx_blk nx_row)) ⟨H, Z7, RF⟩ (fun _ h => s0 _ h.1) ?_)
        rintro _ ⟨H, Z7, RF⟩
        refine till1 16 rfl (stepL 22 #[.agg vs.toArray, .string (str [110, 97, 109, 101])] (str_any x [110, 97, 109, 101] vs S _ H.x (H.t.sub hS) n1) (nx_and nx_tb (nx_and nx_blk nx_row)) ⟨H, Z7, RF⟩ (fun _ h => s0 _ h.1) ?_)
        rintro _ ⟨H, Z7, RF⟩
        refine takeR 17 38 #[(0, .tmp 19), (1, .tmp 21), (2, .tmp 23), (3, .tmp 26), (4, .tmp 28), (5, .tmp 30), (8, .tmp 32), (7, .tmp 34)] (askA (askP5 x) Af cf none 0 none 0) rfl rfl (s0 _ H) ?_
        refine till1 19 rfl (stepS 38 Y7 askZ (askA (askP5 x) Af cf none 0 none 0) rfl Z7 rfl info38 (ask_one _ _ _ _ _ _ _) (fun _ hk => (H.but7 hk hS l7).t.arg) fun W9 hk C7 => ?_)
        refine wpTill_done (by kernel_rfl) ?_ _
        simp only [Act.put, CL]
        exact KEY _ Y7 usb Af cf ⟨⟨H.but7 hk hS l7, C7, RF.but7 hk cf9⟩, l7, ⟨lf, cf9, bf⟩⟩
      ·intro Y7 _ hY hF Z7
       have l7 := H.fresh hY
       have H := hF
       refine till1 7 rfl (stepC 20 #[.agg vs.toArray, .string (str [98, 97, 115, 101])] (of_any x [98, 97, 115, 101] vs S _ H.x (H.t.sub hS) n1) ?_)
       rintro e _ ⟨hb, usb, rfl, UB⟩
       obtain ⟨H, Z7⟩ := (nx_and nx_tb nx_blk) _ _ ⟨H, Z7⟩ hb
       refine ⟨_, rfl, s0 _ H, ?_⟩
       refine till1 8 rfl (stepL 23 #[.agg usb.toArray] (from_id (ofP x [98, 97, 115, 101]) usb S _ UB (by have := ofP_text x [98, 97, 115, 101]; omega)) (nx_and nx_tb nx_blk) ⟨H, Z7⟩ (fun _ h => s0 _ h.1) ?_)
       rintro _ ⟨H, Z7⟩
       refine till1 10 rfl (stepC 24 #[.agg vs.toArray, .string (str [102, 105, 108, 101, 115]), .func (.func 25) #[] #[]] (each_file_L x [102, 105, 108, 101, 115] vs S _ H.x (H.t.sub hS) n2) ?_)
       rintro e _ ⟨hb, Af, cf, rfl, lf, RF, bd⟩
       have bf : ∀ a, Af = some a → N + 2 ≤ a.block := fun a h => Nat.le_trans H.t.size (bd a h).1
       have cf9 : ∀ a, Af = some a → a.block ≠ Y7 := fun a h => by have := (bd a h).1; have := (Array.getElem?_eq_some_iff.1 Z7).1; omega
       obtain ⟨H, Z7⟩ := (nx_and nx_tb nx_blk) _ _ ⟨H, Z7⟩ hb
       refine ⟨_, rfl, s0 _ H, ?_⟩
       refine till1 12 rfl (stepL 22 #[.agg vs.toArray, .string (str [110, 111, 116, 101])] (str_any x [110, 111, 116, 101] vs S _ H.x (H.t.sub hS) n1) (nx_and nx_tb (nx_and nx_blk nx_row)) ⟨H, Z7, RF⟩ (fun _ h => s0 _ h.1) ?_)
       rintro _ ⟨H, Z7, RF⟩
       refine till1 14 rfl (stepL 22 #[.agg vs.toArray, .string (str [102, 111, 108, 100, 101, 114])] (str_any x [102, 111, 108, 100, 101, 114] vs S _ H.x (H.t.sub hS) n1) (nx_and nx_tb (nx_and nx_blk nx_row)) ⟨H, Z7, RF⟩ (fun _ h => s0 _ h.1) ?_)
       rintro _ ⟨H, Z7, RF⟩
       refine till1 16 rfl (stepL 22 #[.agg vs.toArray, .string (str [110, 97, 109, 101])] (str_any x [110, 97, 109, 101] vs S _ H.x (H.t.sub hS) n1) (nx_and nx_tb (nx_and nx_blk nx_row)) ⟨H, Z7, RF⟩ (fun _ h => s0 _ h.1) ?_)
       rintro _ ⟨H, Z7, RF⟩
       refine takeR 17 38 #[(0, .tmp 19), (1, .tmp 21), (2, .tmp 23), (3, .tmp 26), (4, .tmp 28), (5, .tmp 30), (8, .tmp 32), (7, .tmp 34)] (askA (askP5 x) Af cf none 0 none 0) rfl rfl (s0 _ H) ?_
       refine till1 19 rfl (stepS 38 Y7 askZ (askA (askP5 x) Af cf none 0 none 0) rfl Z7 rfl info38 (ask_one _ _ _ _ _ _ _) (fun _ hk => (H.but7 hk hS l7).t.arg) fun W9 hk C7 => ?_)
       refine wpTill_done (by kernel_rfl) ?_ _
       simp only [Act.put, CL]
       exact KEY _ Y7 usb Af cf ⟨⟨H.but7 hk hS l7, C7, RF.but7 hk cf9⟩, l7, ⟨lf, cf9, bf⟩⟩
     ·intro Y7 _ hY hF Z7
      have l7 := H.fresh hY
      have H := hF
      refine till1 5 rfl (stepL 22 #[.agg vs.toArray, .string (str [111, 116, 104, 101, 114])] (str_any x [111, 116, 104, 101, 114] vs S _ H.x (H.t.sub hS) n1) (nx_and nx_tb nx_blk) ⟨H, Z7⟩ (fun _ h => s0 _ h.1) ?_)
      rintro _ ⟨H, Z7⟩
      refine till1 7 rfl (stepC 20 #[.agg vs.toArray, .string (str [98, 97, 115, 101])] (of_any x [98, 97, 115, 101] vs S _ H.x (H.t.sub hS) n1) ?_)
      rintro e _ ⟨hb, usb, rfl, UB⟩
      obtain ⟨H, Z7⟩ := (nx_and nx_tb nx_blk) _ _ ⟨H, Z7⟩ hb
      refine ⟨_, rfl, s0 _ H, ?_⟩
      refine till1 8 rfl (stepL 23 #[.agg usb.toArray] (from_id (ofP x [98, 97, 115, 101]) usb S _ UB (by have := ofP_text x [98, 97, 115, 101]; omega)) (nx_and nx_tb nx_blk) ⟨H, Z7⟩ (fun _ h => s0 _ h.1) ?_)
      rintro _ ⟨H, Z7⟩
      refine till1 10 rfl (stepC 24 #[.agg vs.toArray, .string (str [102, 105, 108, 101, 115]), .func (.func 25) #[] #[]] (each_file_L x [102, 105, 108, 101, 115] vs S _ H.x (H.t.sub hS) n2) ?_)
      rintro e _ ⟨hb, Af, cf, rfl, lf, RF, bd⟩
      have bf : ∀ a, Af = some a → N + 2 ≤ a.block := fun a h => Nat.le_trans H.t.size (bd a h).1
      have cf9 : ∀ a, Af = some a → a.block ≠ Y7 := fun a h => by have := (bd a h).1; have := (Array.getElem?_eq_some_iff.1 Z7).1; omega
      obtain ⟨H, Z7⟩ := (nx_and nx_tb nx_blk) _ _ ⟨H, Z7⟩ hb
      refine ⟨_, rfl, s0 _ H, ?_⟩
      refine till1 12 rfl (stepL 22 #[.agg vs.toArray, .string (str [110, 111, 116, 101])] (str_any x [110, 111, 116, 101] vs S _ H.x (H.t.sub hS) n1) (nx_and nx_tb (nx_and nx_blk nx_row)) ⟨H, Z7, RF⟩ (fun _ h => s0 _ h.1) ?_)
      rintro _ ⟨H, Z7, RF⟩
      refine till1 14 rfl (stepL 22 #[.agg vs.toArray, .string (str [102, 111, 108, 100, 101, 114])] (str_any x [102, 111, 108, 100, 101, 114] vs S _ H.x (H.t.sub hS) n1) (nx_and nx_tb (nx_and nx_blk nx_row)) ⟨H, Z7, RF⟩ (fun _ h => s0 _ h.1) ?_)
      rintro _ ⟨H, Z7, RF⟩
      refine till1 16 rfl (stepL 22 #[.agg vs.toArray, .string (str [110, 97, 109, 101])] (str_any x [110, 97, 109, 101] vs S _ H.x (H.t.sub hS) n1) (nx_and nx_tb (nx_and nx_blk nx_row)) ⟨H, Z7, RF⟩ (fun _ h => s0 _ h.1) ?_)
      rintro _ ⟨H, Z7, RF⟩
      refine takeR 17 38 #[(0, .tmp 19), (1, .tmp 21), (2, .tmp 23), (3, .tmp 26), (4, .tmp 28), (5, .tmp 30), (8, .tmp 32), (7, .tmp 34)] (askA (askP5 x) Af cf none 0 none 0) rfl rfl (s0 _ H) ?_
      refine till1 19 rfl (stepS 38 Y7 askZ (askA (askP5 x) Af cf none 0 none 0) rfl Z7 rfl info38 (ask_one _ _ _ _ _ _ _) (fun _ hk => (H.but7 hk hS l7).t.arg) fun W9 hk C7 => ?_)
      refine wpTill_done (by kernel_rfl) ?_ _
      simp only [Act.put, CL]
      exact KEY _ Y7 usb Af cf ⟨⟨H.but7 hk hS l7, C7, RF.but7 hk cf9⟩, l7, ⟨lf, cf9, bf⟩⟩
    ·intro Y7 _ hY hF Z7
     have l7 := H.fresh hY
     have H := hF
     refine till1 3 rfl (stepL 22 #[.agg vs.toArray, .string (str [98, 114, 97, 110, 99, 104])] (str_any x [98, 114, 97, 110, 99, 104] vs S _ H.x (H.t.sub hS) n1) (nx_and nx_tb nx_blk) ⟨H, Z7⟩ (fun _ h => s0 _ h.1) ?_)
     rintro _ ⟨H, Z7⟩
     refine till1 5 rfl (stepL 22 #[.agg vs.toArray, .string (str [111, 116, 104, 101, 114])] (str_any x [111, 116, 104, 101, 114] vs S _ H.x (H.t.sub hS) n1) (nx_and nx_tb nx_blk) ⟨H, Z7⟩ (fun _ h => s0 _ h.1) ?_)
     rintro _ ⟨H, Z7⟩
     refine till1 7 rfl (stepC 20 #[.agg vs.toArray, .string (str [98, 97, 115, 101])] (of_any x [98, 97, 115, 101] vs S _ H.x (H.t.sub hS) n1) ?_)
     rintro e _ ⟨hb, usb, rfl, UB⟩
     obtain ⟨H, Z7⟩ := (nx_and nx_tb nx_blk) _ _ ⟨H, Z7⟩ hb
     refine ⟨_, rfl, s0 _ H, ?_⟩
     refine till1 8 rfl (stepL 23 #[.agg usb.toArray] (from_id (ofP x [98, 97, 115, 101]) usb S _ UB (by have := ofP_text x [98, 97, 115, 101]; omega)) (nx_and nx_tb nx_blk) ⟨H, Z7⟩ (fun _ h => s0 _ h.1) ?_)
     rintro _ ⟨H, Z7⟩
     refine till1 10 rfl (stepC 24 #[.agg vs.toArray, .string (str [102, 105, 108, 101, 115]), .func (.func 25) #[] #[]] (each_file_L x [102, 105, 108, 101, 115] vs S _ H.x (H.t.sub hS) n2) ?_)
     rintro e _ ⟨hb, Af, cf, rfl, lf, RF, bd⟩
     have bf : ∀ a, Af = some a → N + 2 ≤ a.block := fun a h => Nat.le_trans H.t.size (bd a h).1
     have cf9 : ∀ a, Af = some a → a.block ≠ Y7 := fun a h => by have := (bd a h).1; have := (Array.getElem?_eq_some_iff.1 Z7).1; omega
     obtain ⟨H, Z7⟩ := (nx_and nx_tb nx_blk) _ _ ⟨H, Z7⟩ hb
     refine ⟨_, rfl, s0 _ H, ?_⟩
     refine till1 12 rfl (stepL 22 #[.agg vs.toArray, .string (str [110, 111, 116, 101])] (str_any x [110, 111, 116, 101] vs S _ H.x (H.t.sub hS) n1) (nx_and nx_tb (nx_and nx_blk nx_row)) ⟨H, Z7, RF⟩ (fun _ h => s0 _ h.1) ?_)
     rintro _ ⟨H, Z7, RF⟩
     refine till1 14 rfl (stepL 22 #[.agg vs.toArray, .string (str [102, 111, 108, 100, 101, 114])] (str_any x [102, 111, 108, 100, 101, 114] vs S _ H.x (H.t.sub hS) n1) (nx_and nx_tb (nx_and nx_blk nx_row)) ⟨H, Z7, RF⟩ (fun _ h => s0 _ h.1) ?_)
     rintro _ ⟨H, Z7, RF⟩
     refine till1 16 rfl (stepL 22 #[.agg vs.toArray, .string (str [110, 97, 109, 101])] (str_any x [110, 97, 109, 101] vs S _ H.x (H.t.sub hS) n1) (nx_and nx_tb (nx_and nx_blk nx_row)) ⟨H, Z7, RF⟩ (fun _ h => s0 _ h.1) ?_)
     rintro _ ⟨H, Z7, RF⟩
     refine takeR 17 38 #[(0, .tmp 19), (1, .tmp 21), (2, .tmp 23), (3, .tmp 26), (4, .tmp 28), (5, .tmp 30), (8, .tmp 32), (7, .tmp 34)] (askA (askP5 x) Af cf none 0 none 0) rfl rfl (s0 _ H) ?_
     refine till1 19 rfl (stepS 38 Y7 askZ (askA (askP5 x) Af cf none 0 none 0) rfl Z7 rfl info38 (ask_one _ _ _ _ _ _ _) (fun _ hk => (H.but7 hk hS l7).t.arg) fun W9 hk C7 => ?_)
     refine wpTill_done (by kernel_rfl) ?_ _
     simp only [Act.put, CL]
     exact KEY _ Y7 usb Af cf ⟨⟨H.but7 hk hS l7, C7, RF.but7 hk cf9⟩, l7, ⟨lf, cf9, bf⟩⟩
   ·intro Y7 _ hY hF Z7
    have l7 := H.fresh hY
    have H := hF
    refine till1 1 rfl (stepL 21 #[.agg vs.toArray, .string (str [107, 105, 110, 100])] (num_any x [107, 105, 110, 100] vs S _ H.x (H.t.sub hS) n1) (nx_and nx_tb nx_blk) ⟨H, Z7⟩ (fun _ h => s0 _ h.1) ?_)
    rintro _ ⟨H, Z7⟩
    refine till1 3 rfl (stepL 22 #[.agg vs.toArray, .string (str [98, 114, 97, 110, 99, 104])] (str_any x [98, 114, 97, 110, 99, 104] vs S _ H.x (H.t.sub hS) n1) (nx_and nx_tb nx_blk) ⟨H, Z7⟩ (fun _ h => s0 _ h.1) ?_)
    rintro _ ⟨H, Z7⟩
    refine till1 5 rfl (stepL 22 #[.agg vs.toArray, .string (str [111, 116, 104, 101, 114])] (str_any x [111, 116, 104, 101, 114] vs S _ H.x (H.t.sub hS) n1) (nx_and nx_tb nx_blk) ⟨H, Z7⟩ (fun _ h => s0 _ h.1) ?_)
    rintro _ ⟨H, Z7⟩
    refine till1 7 rfl (stepC 20 #[.agg vs.toArray, .string (str [98, 97, 115, 101])] (of_any x [98, 97, 115, 101] vs S _ H.x (H.t.sub hS) n1) ?_)
    rintro e _ ⟨hb, usb, rfl, UB⟩
    obtain ⟨H, Z7⟩ := (nx_and nx_tb nx_blk) _ _ ⟨H, Z7⟩ hb
    refine ⟨_, rfl, s0 _ H, ?_⟩
    refine till1 8 rfl (stepL 23 #[.agg usb.toArray] (from_id (ofP x [98, 97, 115, 101]) usb S _ UB (by have := ofP_text x [98, 97, 115, 101]; omega)) (nx_and nx_tb nx_blk) ⟨H, Z7⟩ (fun _ h => s0 _ h.1) ?_)
    rintro _ ⟨H, Z7⟩
    refine till1 10 rfl (stepC 24 #[.agg vs.toArray, .string (str [102, 105, 108, 101, 115]), .func (.func 25) #[] #[]] (each_file_L x [102, 105, 108, 101, 115] vs S _ H.x (H.t.sub hS) n2) ?_)
    rintro e _ ⟨hb, Af, cf, rfl, lf, RF, bd⟩
    have bf : ∀ a, Af = some a → N + 2 ≤ a.block := fun a h => Nat.le_trans H.t.size (bd a h).1
    have cf9 : ∀ a, Af = some a → a.block ≠ Y7 := fun a h => by have := (bd a h).1; have := (Array.getElem?_eq_some_iff.1 Z7).1; omega
    obtain ⟨H, Z7⟩ := (nx_and nx_tb nx_blk) _ _ ⟨H, Z7⟩ hb
    refine ⟨_, rfl, s0 _ H, ?_⟩
    refine till1 12 rfl (stepL 22 #[.agg vs.toArray, .string (str [110, 111, 116, 101])] (str_any x [110, 111, 116, 101] vs S _ H.x (H.t.sub hS) n1) (nx_and nx_tb (nx_and nx_blk nx_row)) ⟨H, Z7, RF⟩ (fun _ h => s0 _ h.1) ?_)
    rintro _ ⟨H, Z7, RF⟩
    refine till1 14 rfl (stepL 22 #[.agg vs.toArray, .string (str [102, 111, 108, 100, 101, 114])] (str_any x [102, 111, 108, 100, 101, 114] vs S _ H.x (H.t.sub hS) n1) (nx_and nx_tb (nx_and nx_blk nx_row)) ⟨H, Z7, RF⟩ (fun _ h => s0 _ h.1) ?_)
    rintro _ ⟨H, Z7, RF⟩
    refine till1 16 rfl (stepL 22 #[.agg vs.toArray, .string (str [110, 97, 109, 101])] (str_any x [110, 97, 109, 101] vs S _ H.x (H.t.sub hS) n1) (nx_and nx_tb (nx_and nx_blk nx_row)) ⟨H, Z7, RF⟩ (fun _ h => s0 _ h.1) ?_)
    rintro _ ⟨H, Z7, RF⟩
    refine takeR 17 38 #[(0, .tmp 19), (1, .tmp 21), (2, .tmp 23), (3, .tmp 26), (4, .tmp 28), (5, .tmp 30), (8, .tmp 32), (7, .tmp 34)] (askA (askP5 x) Af cf none 0 none 0) rfl rfl (s0 _ H) ?_
    refine till1 19 rfl (stepS 38 Y7 askZ (askA (askP5 x) Af cf none 0 none 0) rfl Z7 rfl info38 (ask_one _ _ _ _ _ _ _) (fun _ hk => (H.but7 hk hS l7).t.arg) fun W9 hk C7 => ?_)
    refine wpTill_done (by kernel_rfl) ?_ _
    simp only [Act.put, CL]
    exact KEY _ Y7 usb Af cf ⟨⟨H.but7 hk hS l7, C7, RF.but7 hk cf9⟩, l7, ⟨lf, cf9, bf⟩⟩
  case key =>
   rintro wc Y7 usb Af cf ⟨f1, f2, ⟨f3, f4, f5⟩⟩
   have H0 := Lib.hid f1
   have L7 := Lib.hid f2
   have Lf := Lib.hid f3
   have Cf := Lib.hid f4
   have Bf := Lib.hid f5
   clear f1 f2 f3 f4 f5
   go_wp2_with fail
   apply shared1 (F := fun W => Tb w N vs askZ 38 S x (ofP x [115, 121, 109, 98, 111, 108]) (ofP x [112, 97, 114, 97, 109]) Y5 Y6 us5 us6 W ∧ W.heap[Y7]? = some (.cells (askA (askP6 x) Af cf none 0 none 0) 38 (0, 0)) ∧ RowAt 2 fileC W Af (askP5 x).files)
   case tree =>
    have hS := HSL.out
    have H := H0.out
    have hno := HNO.out
    have n1 : Js.nodes (ofP x [115, 121, 109, 98, 111, 108]) ≤ 1073741824 := by have := of_nodes x [115, 121, 109, 98, 111, 108]; omega
    have l7 := L7.out
    have hl := H.1.u5.len
    have s0 : ∀ W, Tb w N vs askZ 38 S x (ofP x [115, 121, 109, 98, 111, 108]) (ofP x [112, 97, 114, 97, 109]) Y5 Y6 us5 us6 W ∧ W.heap[Y7]? = some (.cells (askA (askP5 x) Af cf none 0 none 0) 38 (0, 0)) ∧ RowAt 2 fileC W Af (askP5 x).files → (fun W => W.heap[Y5]? = some (.cells us5.toArray 25 (0, 0))) W := fun _ h => h.1.b5
    intro KEY
    refine region_till (S := fun W => W.heap[Y5]? = some (.cells us5.toArray 25 (0, 0))) 13 rfl (nx_and nx_tb (nx_and nx_blk nx_row)) H s0 fun _ H sh => ?_
    refine takeB 0 Y5 us5 rfl rfl hl (fun _ h => h) (s0 _ H) sh fun sh => ?_
    refine takeB 2 Y5 us5 rfl rfl hl (fun _ h => h) (s0 _ H) sh fun sh => ?_
    refine takeB 4 Y5 us5 rfl rfl hl (fun _ h => h) (s0 _ H) sh fun sh => ?_
    refine takeB 6 Y5 us5 rfl rfl hl (fun _ h => h) (s0 _ H) sh fun sh => ?_
    refine takeB 8 Y5 us5 rfl rfl hl (fun _ h => h) (s0 _ H) sh fun sh => ?_
    refine till1 1 rfl (stepL 22 #[.agg us5.toArray, .string (str [102, 111, 108, 100, 101, 114])] (str_any (ofP x [115, 121, 109, 98, 111, 108]) [102, 111, 108, 100, 101, 114] us5 S _ H.1.u5 (H.1.t.sub hS) n1) (nx_and nx_tb (nx_and nx_blk nx_row)) H s0 ?_)
    intro _ H
    refine till1 3 rfl (stepL 22 #[.agg us5.toArray, .string (str [115, 116, 114, 117, 99, 116])] (str_any (ofP x [115, 121, 109, 98, 111, 108]) [115, 116, 114, 117, 99, 116] us5 S _ H.1.u5 (H.1.t.sub hS) n1) (nx_and nx_tb (nx_and nx_blk nx_row)) H s0 ?_)
    intro _ H
    refine till1 5 rfl (stepL 22 #[.agg us5.toArray, .string (str [110, 97, 109, 101])] (str_any (ofP x [115, 121, 109, 98, 111, 108]) [110, 97, 109, 101] us5 S _ H.1.u5 (H.1.t.sub hS) n1) (nx_and nx_tb (nx_and nx_blk nx_row)) H s0 ?_)
    intro _ H
    refine till1 7 rfl (stepL 21 #[.agg us5.toArray, .string (str [108, 111, 99, 97, 108])] (num_any (ofP x [115, 121, 109, 98, 111, 108]) [108, 111, 99, 97, 108] us5 S _ H.1.u5 (H.1.t.sub hS) n1) (nx_and nx_tb (nx_and nx_blk nx_row)) H s0 ?_)
    intro _ H
    refine till1 9 rfl (stepL 22 #[.agg us5.toArray, .string (str [102, 105, 108, 101])] (str_any (ofP x [115, 121, 109, 98, 111, 108]) [102, 105, 108, 101] us5 S _ H.1.u5 (H.1.t.sub hS) n1) (nx_and nx_tb (nx_and nx_blk nx_row)) H s0 ?_)
    intro _ H
    refine takeR 10 32 #[(0, .tmp 37), (1, .tmp 39), (2, .tmp 41), (3, .tmp 43), (4, .tmp 45)] #[.string (str (ofP (ofP x [115, 121, 109, 98, 111, 108]) [102, 111, 108, 100, 101, 114]).text), .string (str (ofP (ofP x [115, 121, 109, 98, 111, 108]) [115, 116, 114, 117, 99, 116]).text), .string (str (ofP (ofP x [115, 121, 109, 98, 111, 108]) [110, 97, 109, 101]).text), .int .i64 (ofP (ofP x [115, 121, 109, 98, 111, 108]) [108, 111, 99, 97, 108]).num, .string (str (ofP (ofP x [115, 121, 109, 98, 111, 108]) [102, 105, 108, 101]).text)] rfl rfl (s0 _ H) ?_
    refine takeP 11 (.pointer (some ⟨Y7, 37, none⟩)) rfl (s0 _ H) ?_
    refine till1 12 rfl (stepM 32 Y7 37 (askA (askP5 x) Af cf none 0 none 0) #[.string (str (ofP (ofP x [115, 121, 109, 98, 111, 108]) [102, 111, 108, 100, 101, 114]).text), .string (str (ofP (ofP x [115, 121, 109, 98, 111, 108]) [115, 116, 114, 117, 99, 116]).text), .string (str (ofP (ofP x [115, 121, 109, 98, 111, 108]) [110, 97, 109, 101]).text), .int .i64 (ofP (ofP x [115, 121, 109, 98, 111, 108]) [108, 111, 99, 97, 108]).num, .string (str (ofP (ofP x [115, 121, 109, 98, 111, 108]) [102, 105, 108, 101]).text)] (askA (askP6 x) Af cf none 0 none 0) rfl H.2.1 (fun _ hk => (H.1.but7 hk hS l7).b5) fun W9 hk C7 => ?_)
    refine wpTill_done (by kernel_rfl) ?_ _
    simp only [Act.put, CL]
    exact KEY _ ⟨H.1.but7 hk hS l7, C7, H.2.2.but7 hk Cf.out⟩
   case key =>
   clear H0
   intro wd H0
   replace H0 := Lib.hid H0
   go_wp2_with fail
   apply shared1 (F := fun W => Tb w N vs askZ 38 S x (ofP x [115, 121, 109, 98, 111, 108]) (ofP x [112, 97, 114, 97, 109]) Y5 Y6 us5 us6 W ∧ W.heap[Y7]? = some (.cells (askA (askP7 x) Af cf none 0 none 0) 38 (0, 0)) ∧ RowAt 2 fileC W Af (askP5 x).files)
   case tree =>
    have hS := HSL.out
    have H := H0.out
    have hno := HNO.out
    have n1 : Js.nodes (ofP x [112, 97, 114, 97, 109]) ≤ 1073741824 := by have := of_nodes x [112, 97, 114, 97, 109]; omega
    have l7 := L7.out
    have hl := H.1.u6.len
    have s0 : ∀ W, Tb w N vs askZ 38 S x (ofP x [115, 121, 109, 98, 111, 108]) (ofP x [112, 97, 114, 97, 109]) Y5 Y6 us5 us6 W ∧ W.heap[Y7]? = some (.cells (askA (askP6 x) Af cf none 0 none 0) 38 (0, 0)) ∧ RowAt 2 fileC W Af (askP5 x).files → (fun W => W.heap[Y6]? = some (.cells us6.toArray 25 (0, 0))) W := fun _ h => h.1.b6
    intro KEY
    refine region_till (S := fun W => W.heap[Y6]? = some (.cells us6.toArray 25 (0, 0))) 11 rfl (nx_and nx_tb (nx_and nx_blk nx_row)) H s0 fun _ H sh => ?_
    refine takeB 0 Y6 us6 rfl rfl hl (fun _ h => h) (s0 _ H) sh fun sh => ?_
    refine takeB 2 Y6 us6 rfl rfl hl (fun _ h => h) (s0 _ H) sh fun sh => ?_
    refine takeB 4 Y6 us6 rfl rfl hl (fun _ h => h) (s0 _ H) sh fun sh => ?_
    refine takeB 6 Y6 us6 rfl rfl hl (fun _ h => h) (s0 _ H) sh fun sh => ?_
    refine till1 1 rfl (stepL 21 #[.agg us6.toArray, .string (str [97, 116])] (num_any (ofP x [112, 97, 114, 97, 109]) [97, 116] us6 S _ H.1.u6 (H.1.t.sub hS) n1) (nx_and nx_tb (nx_and nx_blk nx_row)) H s0 ?_)
    intro _ H
    refine till1 3 rfl (stepL 22 #[.agg us6.toArray, .string (str [110, 97, 109, 101])] (str_any (ofP x [112, 97, 114, 97, 109]) [110, 97, 109, 101] us6 S _ H.1.u6 (H.1.t.sub hS) n1) (nx_and nx_tb (nx_and nx_blk nx_row)) H s0 ?_)
    intro _ H
    refine till1 5 rfl (stepL 22 #[.agg us6.toArray, .string (str [116, 121, 112, 101])] (str_any (ofP x [112, 97, 114, 97, 109]) [116, 121, 112, 101] us6 S _ H.1.u6 (H.1.t.sub hS) n1) (nx_and nx_tb (nx_and nx_blk nx_row)) H s0 ?_)
    intro _ H
    refine till1 7 rfl (stepL 22 #[.agg us6.toArray, .string (str [118, 97, 108, 117, 101])] (str_any (ofP x [112, 97, 114, 97, 109]) [118, 97, 108, 117, 101] us6 S _ H.1.u6 (H.1.t.sub hS) n1) (nx_and nx_tb (nx_and nx_blk nx_row)) H s0 ?_)
    intro _ H
    refine takeR 8 35 #[(0, .tmp 49), (1, .tmp 51), (2, .tmp 53), (3, .tmp 55)] #[.int .i64 (ofP (ofP x [112, 97, 114, 97, 109]) [97, 116]).num, .string (str (ofP (ofP x [112, 97, 114, 97, 109]) [110, 97, 109, 101]).text), .string (str (ofP (ofP x [112, 97, 114, 97, 109]) [116, 121, 112, 101]).text), .string (str (ofP (ofP x [112, 97, 114, 97, 109]) [118, 97, 108, 117, 101]).text)] rfl rfl (s0 _ H) ?_
    refine takeP 9 (.pointer (some ⟨Y7, 45, none⟩)) rfl (s0 _ H) ?_
    refine till1 10 rfl (stepM 35 Y7 45 (askA (askP6 x) Af cf none 0 none 0) #[.int .i64 (ofP (ofP x [112, 97, 114, 97, 109]) [97, 116]).num, .string (str (ofP (ofP x [112, 97, 114, 97, 109]) [110, 97, 109, 101]).text), .string (str (ofP (ofP x [112, 97, 114, 97, 109]) [116, 121, 112, 101]).text), .string (str (ofP (ofP x [112, 97, 114, 97, 109]) [118, 97, 108, 117, 101]).text)] (askA (askP7 x) Af cf none 0 none 0) rfl H.2.1 (fun _ hk => (H.1.but7 hk hS l7).b6) fun W9 hk C7 => ?_)
    refine wpTill_done (by kernel_rfl) ?_ _
    simp only [Act.put, CL]
    exact KEY _ ⟨H.1.but7 hk hS l7, C7, H.2.2.but7 hk Cf.out⟩
   case key =>
   clear H0
   intro we H0
   replace H0 := Lib.hid H0
   have HQ := Lib.hid H0.out.1
   have C7 := Lib.hid H0.out.2.1
   have RF := Lib.hid H0.out.2.2
   clear H0
   go_wp2_with (refine wpList_load_row rfl 25 _ rfl N rfl vs.toArray HQ.out.t.arg _ Tryz.underlying25 rfl (by rw [info25s]; simp [hvs]) ?_)
   refine (each_int_L x [111, 114, 100, 101, 114] vs S we HQ.out.x (HQ.out.t.sub HSL.out) (by have := HNO.out; omega)).mono ?_
   rintro e wf ⟨hb, Ao, co, rfl, hl, hr9, bd⟩
   have Co : Hid (∀ a, Ao = some a → a.block ≠ Y7) := Lib.hid fun a h => by have := (bd a h).1; have := (Array.getElem?_eq_some_iff.1 C7.out).1; omega
   have Bo : Hid (∀ a, Ao = some a → N + 2 ≤ a.block) := Lib.hid fun a h => Nat.le_trans HQ.out.t.size (bd a h).1
   have Lo := Lib.hid hl
   clear bd hl
   have HQ1 := Lib.hid (HQ.out.next hb)
   have C71 := Lib.hid (blk_next hb C7.out)
   have RF1 := Lib.hid (RF.out.next hb)
   clear hb HQ C7 RF
   have HQ := HQ1
   have C7 := C71
   have RF := RF1
   have RO := Lib.hid hr9
   clear hr9 HQ1 C71 RF1
   obtain ⟨hk, hx⟩ := but_set (i := 44) (.slice Ao (ofP x [111, 114, 100, 101, 114]).items.length co) C7.out
   rw [(show ∀ n, n = (askP8 x).order.length → (askA (askP7 x) Af cf none 0 none 0).setIfInBounds 44 (.slice Ao n co) = (askA (askP8 x) Af cf Ao co none 0) from fun n h => by subst h; kernel_rfl) _ (show (ofP x [111, 114, 100, 101, 114]).items.length = (List.map _ _).length by rw [List.length_map])] at hx
   have HK := Lib.hid hk
   have HX9 := Lib.hid hx
   clear hk hx
   have z0 : wf.cell? ⟨Y7, 44, none⟩ = some (.slice none 0 0) := (blk_cells C7.out 44).trans rfl
   have f0 : wf.frozen? ⟨Y7, 44, none⟩ = false := blk_free C7.out 44
   go_upto_region 9 with fail
   clear z0 f0
   have hk := HK.out
   have hx := HX9.out
   clear HK HX9
   generalize (wf.setCell ⟨Y7, 44, none⟩ (.slice Ao (ofP x [111, 114, 100, 101, 114]).items.length co)) = wg at hk hx ⊢
   have HQ1 := Lib.hid (HQ.out.but7 hk HSL.out L7.out)
   have RF1 := Lib.hid (RF.out.but7 hk Cf.out)
   have RO1 := Lib.hid (RO.out.but7 hk Co.out)
   clear hk C7 HQ RF RO
   have HQ := HQ1
   have RF := RF1
   have RO := RO1
   have C7 := Lib.hid hx
   clear hx HQ1 RF1 RO1
   go_wp2_with (refine wpList_load_row rfl 25 _ rfl N rfl vs.toArray HQ.out.t.arg _ Tryz.underlying25 rfl (by rw [info25s]; simp [hvs]) ?_)
   refine (each_long_L x [97, 114, 103, 115] vs S wg HQ.out.x (HQ.out.t.sub HSL.out) (by have := HNO.out; omega)).mono ?_
   rintro e wh ⟨hb, Aa, ca, rfl, hl, hr9, bd⟩
   have Ca : Hid (∀ a, Aa = some a → a.block ≠ Y7) := Lib.hid fun a h => by have := (bd a h).1; have := (Array.getElem?_eq_some_iff.1 C7.out).1; omega
   have Ba : Hid (∀ a, Aa = some a → N + 2 ≤ a.block) := Lib.hid fun a h => Nat.le_trans HQ.out.t.size (bd a h).1
   have La := Lib.hid hl
   clear bd hl
   have HQ1 := Lib.hid (HQ.out.next hb)
   have C71 := Lib.hid (blk_next hb C7.out)
   have RF1 := Lib.hid (RF.out.next hb)
   have RO1 := Lib.hid (RO.out.next hb)
   clear hb HQ C7 RF RO
   have HQ := HQ1
   have C7 := C71
   have RF := RF1
   have RO := RO1
   have RA := Lib.hid hr9
   clear hr9 HQ1 C71 RF1 RO1
   obtain ⟨hk, hx⟩ := but_set (i := 49) (.slice Aa (ofP x [97, 114, 103, 115]).items.length ca) C7.out
   rw [(show ∀ n, n = (askP x).args.length → (askA (askP8 x) Af cf Ao co none 0).setIfInBounds 49 (.slice Aa n ca) = (askA (askP x) Af cf Ao co Aa ca) from fun n h => by subst h; kernel_rfl) _ (show (ofP x [97, 114, 103, 115]).items.length = (List.map _ _).length by rw [List.length_map])] at hx
   have HK := Lib.hid hk
   have HX9 := Lib.hid hx
   clear hk hx
   have z0 : wh.cell? ⟨Y7, 49, none⟩ = some (.slice none 0 0) := (blk_cells C7.out 49).trans rfl
   have f0 : wh.frozen? ⟨Y7, 49, none⟩ = false := blk_free C7.out 49
   go_upto_region 10 with fail
   clear z0 f0
   have hk := HK.out
   have hx := HX9.out
   clear HK HX9
   generalize (wh.setCell ⟨Y7, 49, none⟩ (.slice Aa (ofP x [97, 114, 103, 115]).items.length ca)) = wi at hk hx ⊢
   have HQ1 := Lib.hid (HQ.out.but7 hk HSL.out L7.out)
   have RF1 := Lib.hid (RF.out.but7 hk Cf.out)
   have RO1 := Lib.hid (RO.out.but7 hk Co.out)
   have RA1 := Lib.hid (RA.out.but7 hk Ca.out)
   clear hk C7 HQ RF RO RA
   have HQ := HQ1
   have RF := RF1
   have RO := RO1
   have RA := RA1
   have C7 := Lib.hid hx
   clear hx HQ1 RF1 RO1 RA1
   apply sharedE (F := fun W (_ : List Value) => Tb w N vs askZ 38 S x (ofP x [115, 121, 109, 98, 111, 108]) (ofP x [112, 97, 114, 97, 109]) Y5 Y6 us5 us6 W ∧ W.heap[Y7]? = some (.cells (askA (askP x) Af cf Ao co Aa ca) 38 (0, 0)) ∧ AskRows W (askP x) Af cf Ao co Aa ca)
   case tree =>
    have hS := HSL.out
    have hno := HNO.out
    have hln := askP_len x
    have s0 : ∀ W, Tb w N vs askZ 38 S x (ofP x [115, 121, 109, 98, 111, 108]) (ofP x [112, 97, 114, 97, 109]) Y5 Y6 us5 us6 W ∧ W.heap[Y7]? = some (.cells (askA (askP x) Af cf Ao co Aa ca) 38 (0, 0)) ∧ AskRows W (askP x) Af cf Ao co Aa ca → (fun W => W.heap[Y7]? = some (.cells (askA (askP x) Af cf Ao co Aa ca) 38 (0, 0)) ∧ W.heap[N]? = some (.cells vs.toArray 25 (0, 0))) W := fun _ h => ⟨h.2.1, h.1.t.arg⟩
    have H : Tb w N vs askZ 38 S x (ofP x [115, 121, 109, 98, 111, 108]) (ofP x [112, 97, 114, 97, 109]) Y5 Y6 us5 us6 wi ∧ wi.heap[Y7]? = some (.cells (askA (askP x) Af cf Ao co Aa ca) 38 (0, 0)) ∧ AskRows wi (askP x) Af cf Ao co Aa ca := ⟨HQ.out, C7.out, ⟨RF.out, RO.out, RA.out, Lf.out, Lo.out, La.out⟩⟩
    intro KEY
    refine region_till (S := fun W => W.heap[Y7]? = some (.cells (askA (askP x) Af cf Ao co Aa ca) 38 (0, 0)) ∧ W.heap[N]? = some (.cells vs.toArray 25 (0, 0))) 5 rfl (nx_and nx_tb (nx_and nx_blk nx_ask)) H s0 fun _ H sh => ?_
    refine takeY (v := .agg (askA (askP x) Af cf Ao co Aa ca)) 0 rfl (yieldsIf_load_mid (by kernel_rfl) 38 _ rfl Y7 0 (by kernel_rfl) (askL (askP x) Af cf Ao co Aa ca) _ (fun W hS j v hv => (blk_cells hS.1 (0 + j)).trans (by rw [Nat.zero_add, show (askA (askP x) Af cf Ao co Aa ca) = (askL (askP x) Af cf Ao co Aa ca).toArray from rfl, List.getElem?_toArray]; exact hv)) Tryz.underlying38 rfl (by rw [info38]; rfl)) (s0 _ H) sh fun sh => ?_
    refine takeB 2 N vs rfl rfl hvs (fun _ h => h.2) (s0 _ H) sh fun sh => ?_
    refine till1 1 rfl (stepC 31 #[.agg (askA (askP x) Af cf Ao co Aa ca)] (asked_any (askP x) Af cf Ao co Aa ca _ H.2.2 (by omega)) ?_)
    rintro e _ ⟨hb, usj, rfl, UJ⟩
    replace H := (nx_and nx_tb (nx_and nx_blk nx_ask)) _ _ H hb
    replace UJ := UJ.wide (T := fun _ => True) (fun g _ _ => trivial)
    refine ⟨_, rfl, s0 _ H, ?_⟩
    refine till1 3 rfl (stepL 30 #[.agg usj.toArray, .agg vs.toArray] (same_any _ (askJ (askP x)) x usj vs (fun _ => True) _ (Nat.le_refl _) (by have := askJ_nodes (askP x); omega) UJ (H.1.x.wide (fun g _ _ => trivial))) (nx_and nx_tb (nx_and nx_blk nx_ask)) H s0 ?_)
    intro _ H
    refine takeP 4 (.bool (!Js.same (askJ (askP x)) x)) rfl (s0 _ H) ?_
    refine wpTill_done (by kernel_rfl) ?_ _
    simp only [Act.put, CL]
    exact KEY _ usj H
   case key =>
   clear HQ C7 RF RO RA
   intro wj usj H0
   replace H0 := Lib.hid H0
   obtain ⟨sm, hsm⟩ : ∃ sm, Js.same (askJ (askP x)) x = sm := ⟨_, rfl⟩
   rw [hsm]
   cases sm with
   | false =>
    go_wp2_with (first | (refine wpList_build38z rfl rfl ?_) | (refine wpList_store_row rfl 38 _ _ rfl (N + 1) rfl askZ askZ rfl H0.out.1.t.res rfl info38 (ask_one _ _ _ _ _ _ _) ?_; intro w8 hk8 hx8))
    refine bodyPost_ret (results_cell_tmp rfl _ _ _ (N + 1) askZ rfl (run_loadVar_row _ (N + 1) 38 38 askZ (0, 0) _ hx8 Tryz.underlying38 rfl info38)) rfl ?_
    have hN := HN.out
    rw [hN]
    exact ⟨H0.out.1.t.low.trans (hk8.to (by have := H0.out.1.t.size; omega) (by intro j hj; simp at hj; omega)), Or.inr ⟨by unfold toAskE; rw [if_pos hr, hsm]; rfl, rfl⟩⟩
   | true =>
    go_wp2_with (first | (refine wpList_load_row rfl 38 _ rfl Y7 rfl (askA (askP x) Af cf Ao co Aa ca) H0.out.2.1 _ Tryz.underlying38 rfl info38 ?_) | (refine wpList_store_row rfl 38 _ _ rfl (N + 1) rfl askZ (askA (askP x) Af cf Ao co Aa ca) rfl H0.out.1.t.res rfl info38 (ask_one _ _ _ _ _ _ _) ?_; intro w8 hk8 hx8))
    refine bodyPost_ret (results_cell_tmp rfl _ _ _ (N + 1) (askA (askP x) Af cf Ao co Aa ca) rfl (run_loadVar_row _ (N + 1) 38 38 (askA (askP x) Af cf Ao co Aa ca) (0, 0) _ hx8 Tryz.underlying38 rfl info38)) rfl ?_
    have hN := HN.out
    rw [hN]
    exact ⟨H0.out.1.t.low.trans (hk8.to (by have := H0.out.1.t.size; omega) (by intro j hj; simp at hj; omega)), Or.inl ⟨by unfold toAskE; rw [if_pos hr, hsm]; rfl, Af, cf, Ao, co, Aa, ca, rfl, ⟨H0.out.2.2.files.but7 hk8 (fun a h => by have := Bf.out a h; omega), H0.out.2.2.order.but7 hk8 (fun a h => by have := Bo.out a h; omega), H0.out.2.2.args.but7 hk8 (fun a h => by have := Ba.out a h; omega), Lf.out, Lo.out, La.out⟩⟩⟩
end Go.Proofs.YtimioelnnhnbiaaGreatDoor
