/-
 PROVED: JsonAsks: what is asked and answered is written and read back as it was, or refused.
 CONDITIONS: those of the given card alone (the listed package variables hold what the program's text lays there); no bound on the input.
-/
import Derived.Test.YtimioelnnhnbiaaGreatDoorS23
import Derived.Test.YtimioelnnhnbiaaGreatDoorS36
namespace Go.Proofs.YtimioelnnhnbiaaGreatDoor.jsonAsks
open Go.ChangeShapes Go.WideShapes Go.ChangeAt Go.RowKit

set_option maxHeartbeats 4000000 in
set_option maxRecDepth 100000 in
theorem contract (H : Type) (enc : TypeId × Value → H) (W : World) (base : Nat) (args : Array Value) (ds gs : List (DataW H)) (before : List MemPlace)
  (hval : ∀ (j : Nat) t v, Tryz.f4.params[j]? = some t → args[j]? = some v → Value.okWide Tryz.prog W .any base t v)
  (hW : DataW.Whole enc Tryz.prog Tryz.f4.params.toList Rows.jsonAsksSpec.vars false W args.toList ds gs before) (hL : laidMetH Tryz.prog Rows.jsonAsksRow.laid W) (hS : W.ShapedOpen Tryz.prog)
  (hsz : (DataW.weightsEach Tryz.prog (Tryz.f4.params.toList ++ (OpenSpec.ofChange Rows.jsonAsksSpec).bare.plain.varTypes Tryz.prog) (ds ++ gs)).all (· ≤ reachBytes) = true) :
  Calls Tryz.prog 4 args W fun e W' => ∃ v, e = .returned v ∧ Rows.jsonAsksSpec.post enc Tryz.prog Tryz.f4 false true false false W args v W' := by
 have hW' := hW
 obtain ⟨p, q, hA, hV, rfl, hfz, hnd⟩ := hW
 rw [Tryz.params4] at hA hval hsz
 obtain ⟨v0, vs0, d0, ds0, p0, q0, hargs, rfl, rfl, ⟨fu0, h0⟩, r0⟩ := trodAll_cons hA
 obtain ⟨v1, vs1, d1, ds1, p1, q1, rfl, rfl, rfl, ⟨fu1, h1⟩, r1⟩ := trodAll_cons r0
 obtain ⟨rfl, rfl, rfl⟩ := trodAll_nil r1
 obtain rfl : args = #[v0, v1] := by cases args; simp_all
 obtain ⟨cs0, rfl, _⟩ := okWide_struct Tryz.underlying38 (hval 0 38 v0 rfl rfl)
 obtain ⟨cs1, rfl, _⟩ := okWide_struct Tryz.underlying49 (hval 1 49 v1 rfl rfl)
 obtain ⟨a, Af, cf, Ao, co, Aa, ca, xs, e0, hRa, hx, ⟨y4, g4, w4⟩, ⟨y9, g9, w9⟩, ⟨y11, g11, w11⟩⟩ := open_ask h0
 obtain ⟨b, Bf, df, Bc, dc, Bi, di, zs, e1, hRb, hz, ⟨z3, k3, m3⟩, ⟨z4, k4, m4⟩, ⟨z6, k6, m6⟩⟩ := open_ans h1
 obtain rfl : cs0 = askA a Af cf Ao co Aa ca := Array.toList_inj.1 e0
 obtain rfl : cs1 = ansA b Bf df Bc dc Bi di := Array.toList_inj.1 e1
 have hd0 : d0 = .agg (xs.map (·.1)) := hx
 have hd1 : d1 = .agg (zs.map (·.1)) := hz
 have hall : ∀ (j : Nat) (t : TypeId) (d : DataW H), ([38, 49] : List TypeId)[j]? = some t → [d0, d1][j]? = some d → ∀ n ∈ d.weights Tryz.prog t, n ≤ reachBytes := fun j t d ht hd n hn => by
  have hm := DataW.weights_mem_each (ts := [38, 49] ++ (OpenSpec.ofChange Rows.jsonAsksSpec).bare.plain.varTypes Tryz.prog) (ds := [d0, d1] ++ gs) (j := j) (by rw [List.getElem?_append_left (List.getElem?_eq_some_iff.1 ht).1]; exact ht) (by rw [List.getElem?_append_left (List.getElem?_eq_some_iff.1 hd).1]; exact hd) n hn
  exact of_decide_eq_true (List.all_eq_true.1 hsz n hm)
 have hA0 := hall 0 38 d0 rfl rfl
 have hB0 := hall 1 49 d1 rfl rfl
 rw [hd0] at hA0
 rw [hd1] at hB0
 have fa : ∀ (j : Nat) (tj : TypeId) (y : DataW H × List MemPlace), ([3, 9, 9, 29, 30, 9, 32, 9, 9, 33, 35, 36] : List TypeId)[j]? = some tj → xs[j]? = some y → ∀ n ∈ y.1.weights Tryz.prog tj, n ≤ reachBytes := fun j tj y ht hy => wt_field Tryz.underlying38 hA0 ht (by rw [List.getElem?_map, hy]; rfl)
 have fb : ∀ (j : Nat) (tj : TypeId) (y : DataW H × List MemPlace), ([39, 43, 29, 30, 44, 46, 47] : List TypeId)[j]? = some tj → zs[j]? = some y → ∀ n ∈ y.1.weights Tryz.prog tj, n ≤ reachBytes := fun j tj y ht hy => wt_field Tryz.underlying49 hB0 ht (by rw [List.getElem?_map, hy]; rfl)
 refine (asks_law a Af cf Ao co Aa ca b Bf df Bc dc Bi di W hRa hRb ⟨wt_len Tryz.underlying30 (by kernel_rfl) (fa 4 _ _ rfl g4) w4, wt_len Tryz.underlying33 (by kernel_rfl) (fa 9 _ _ rfl g9) w9, wt_len Tryz.underlying36 (by kernel_rfl) (fa 11 _ _ rfl g11) w11, wt_len Tryz.underlying30 (by kernel_rfl) (fb 3 _ _ rfl k3) m3, wt_len Tryz.underlying44 (by kernel_rfl) (fb 4 _ _ rfl k4) m4, wt_len Tryz.underlying47 (by kernel_rfl) (fb 6 _ _ rfl k6) m6⟩ (env_of hS hL)).mono fun e W' ⟨he, hb⟩ => ?_
 subst he
 exact ⟨_, rfl, post_true laidOut Tryz.underlying4 rfl hW' (by kernel_rfl) (by kernel_rfl) rfl rfl rfl hb⟩

theorem reads (os : Os) {H : Type} (enc : TypeId × Value → H) : ∃ x places, DataW.whole enc Tryz.prog ((World.doorLaid Tryz.prog 400 os).forCall (fun _ _ => 0) ⟨#[], #[.agg askZ, .agg ansZ], []⟩).memory Tryz.f4.params.toList Rows.jsonAsksSpec.vars false (#[.agg askZ, .agg ansZ] : Array Value).toList 8 = some (x, [], places) :=
 ⟨[.agg [.lit (.int .i64 0), .lit (.string []), .lit (.string []), .agg [.lit (.int .u8 0), .lit (.int .u8 0), .lit (.int .u8 0), .lit (.int .u8 0), .lit (.int .u8 0), .lit (.int .u8 0), .lit (.int .u8 0), .lit (.int .u8 0), .lit (.int .u8 0), .lit (.int .u8 0), .lit (.int .u8 0), .lit (.int .u8 0), .lit (.int .u8 0), .lit (.int .u8 0), .lit (.int .u8 0), .lit (.int .u8 0), .lit (.int .u8 0), .lit (.int .u8 0), .lit (.int .u8 0), .lit (.int .u8 0), .lit (.int .u8 0), .lit (.int .u8 0), .lit (.int .u8 0), .lit (.int .u8 0), .lit (.int .u8 0), .lit (.int .u8 0), .lit (.int .u8 0), .lit (.int .u8 0), .lit (.int .u8 0), .lit (.int .u8 0), .lit (.int .u8 0), .lit (.int .u8 0)], .nil, .lit (.string []), .agg [.lit (.string []), .lit (.string []), .lit (.string []), .lit (.int .i64 0), .lit (.string [])], .lit (.string []), .lit (.string []), .nil, .agg [.lit (.int .i64 0), .lit (.string []), .lit (.string []), .lit (.string [])], .nil], .agg [.lit (.int .i64 0), .agg [.lit (.int .i64 0), .lit (.int .i64 0), .lit (.int .i64 0)], .agg [.lit (.int .u8 0), .lit (.int .u8 0), .lit (.int .u8 0), .lit (.int .u8 0), .lit (.int .u8 0), .lit (.int .u8 0), .lit (.int .u8 0), .lit (.int .u8 0), .lit (.int .u8 0), .lit (.int .u8 0), .lit (.int .u8 0), .lit (.int .u8 0), .lit (.int .u8 0), .lit (.int .u8 0), .lit (.int .u8 0), .lit (.int .u8 0), .lit (.int .u8 0), .lit (.int .u8 0), .lit (.int .u8 0), .lit (.int .u8 0), .lit (.int .u8 0), .lit (.int .u8 0), .lit (.int .u8 0), .lit (.int .u8 0), .lit (.int .u8 0), .lit (.int .u8 0), .lit (.int .u8 0), .lit (.int .u8 0), .lit (.int .u8 0), .lit (.int .u8 0), .lit (.int .u8 0), .lit (.int .u8 0)], .nil, .nil, .agg [.lit (.int .i64 0), .lit (.string []), .lit (.string []), .lit (.int .i64 0)], .nil]], [], by kernel_rfl⟩

set_option maxRecDepth 100000 in
theorem lifted (os : Os) (started : os.Started) (H : Type) (enc : TypeId × Value → H) (F : Stop.Interp) :
  ReturnsInHanded {} Tryz.checked os 4 .any ((OpenSpec.ofChange Rows.jsonAsksSpec).preRow enc Tryz.prog Tryz.f4 Rows.jsonAsksRow.domain false Rows.jsonAsksRow.laid) (((OpenSpec.ofChange Rows.jsonAsksSpec).at F).post enc Tryz.prog Tryz.f4 false true false false) := by
 obtain ⟨x, places, hx⟩ := reads os enc
 refine returnsInHanded_of_row (C := Tryz.checked) (s := OpenSpec.ofChange Rows.jsonAsksSpec) own started (by kernel_rfl) Tryz.func4
  (witness_row_atRef (enc := enc) (C := Tryz.checked) false (World.doorLaid Tryz.prog 400 os) #[.agg askZ, .agg ansZ] rfl (by kernel_rfl) (by kernel_rfl) (by kernel_rfl)
   (OpenSpec.preRow_of_cond 8 hx (by kernel_rfl) (fun k hk => by cases hk) (by kernel_rfl) (door_met os _))) ?_
 intro W base args ds gs before hval hW _ _ hsz hL hS _
 exact contract H enc W base args ds gs before hval hW hL hS hsz

theorem said : Rows.JsonAsksSaid :=
 OpenClaim.holds_of_cond 4 Tryz.f4 rfl rfl rfl rfl rfl rfl rfl ⟨rfl, rfl, rfl, rfl, rfl⟩ rfl rfl rfl rfl rfl (by kernel_rfl) Tryz.func4 (by kernel_rfl)
  (of_decide_eq_true (by kernel_rfl)) (by unfold Func.isWrapper; first | (rw [if_pos (by decide +kernel)]; kernel_rfl) | (rw [if_neg (by decide +kernel)]; exact ⟨rfl, rfl⟩))
  (fun os started H enc _ F => by rw [OpenClaim.pre_eq_preRow]; exact lifted os started H enc F)

theorem plain (f : FuncId) (fn : Func) (hf : Tryz.pinned.checked.prog.funcNamed "shipwright/shipwrightlaw23.JsonAsks" = some f) (hfn : Tryz.pinned.checked.prog.funcs[f]? = some fn) :
  true = Tryz.pinned.checked.prog.looks [] ∧ ∀ (j : Nat) t, fn.params[j]? = some t → Tryz.pinned.checked.prog.wantsStandIn t = false := by
 obtain rfl : f = 4 := Option.some.inj ((show Tryz.prog.funcNamed "shipwright/shipwrightlaw23.JsonAsks" = some 4 by kernel_rfl).symm.trans hf) |>.symm
 obtain rfl : fn = Tryz.f4 := (Option.some.inj (Tryz.func4.symm.trans hfn)).symm
 refine ⟨by kernel_rfl, fun j t ht => ?_⟩
 rw [Tryz.params4] at ht
 have hm := Array.mem_of_getElem? ht
 simp only [List.mem_toArray, List.mem_cons, List.not_mem_nil, or_false] at hm
 rcases hm with rfl | rfl
 ·exact (show Tryz.prog.wantsStandIn 38 = false by kernel_rfl)
 ·exact (show Tryz.prog.wantsStandIn 49 = false by kernel_rfl)

theorem card : Rows.JsonAsksCardSaid :=
 Claim7.holds_tied_plain_at .later [] _ _ _ _ said (fun _ h => by cases h) (by kernel_rfl) (fun _ h => by cases h) jsonAsks_row_tie rfl ⟨rfl, rfl⟩ (by kernel_rfl) rfl plain (by kernel_rfl)
end Go.Proofs.YtimioelnnhnbiaaGreatDoor.jsonAsks
