/-
 One member more of the document's value, in a region that draws.
-/
import Derived.Test.YtimioelnnhnbiaaGreatDoorS25
namespace Go.Proofs.YtimioelnnhnbiaaGreatDoor
open Go.RowKit
theorem run_ld1 {o : Oper} {a : Act} {W : World} {t : TypeId} {x : Operand} {d : TypeDesc} {b off : Nat} {v : Value} {C : Array Value} {ta : TypeId} (ho : o.op = .load t x) (hx : a.eval x = .pointer (some ⟨b, off, none⟩)) (hu : Tryz.prog.underlying t = some d) (hd : d.isRow = false) (hC : W.heap[b]? = some (.cells C ta (0, 0))) (hv : C[off]? = some v) :
  (execOp a.eval o).run Tryz.prog W = .ok (.value v) W := by
 unfold execOp
 simp only [ho, hx, Instr.loadAt, Instr.sureAddr, Sem.run_bind, Sem.run_pure, Result.andThen_ok, run_loadVar_one W b off t v d ((blk_cells hC off).trans hv) hu hd]
theorem run_ldi {o : Oper} {a : Act} {W : World} {x : Operand} {b off : Nat} {I : Nat → UInt8} {C : Array Value} {ta : TypeId} (ho : o.op = .load 29 x) (hx : a.eval x = .pointer (some ⟨b, off, none⟩)) (hC : W.heap[b]? = some (.cells C ta (0, 0))) (hv : ∀ j v, (idC I)[j]? = some v → C[off + j]? = some v) :
  (execOp a.eval o).run Tryz.prog W = .ok (.value (.agg (idC I).toArray)) W := by
 unfold execOp
 simp only [ho, hx, Instr.loadAt, Instr.sureAddr, Sem.run_bind, Sem.run_pure, Result.andThen_ok, run_loadVar_mid (P := Tryz.prog) W b off 29 (idC I) _ (fun j v hj => (blk_cells hC (off + j)).trans (hv j v hj)) und29 rfl (by rw [info29]; rfl)]
theorem lf_of {f : FuncId} {arg : Value} {us : List Value} {S : Nat → Prop} {v : Js.J} {W : World} (h : Calls Tryz.prog f #[arg] W fun e w' => e = .returned (.agg us.toArray) ∧ Below W.heap.size W w') (hv : ∀ W, JV W S v us) : Calls Tryz.prog f #[arg] W fun e w' => Below W.heap.size W w' ∧ ∃ us, e = .returned (.agg us.toArray) ∧ JV w' S v us :=
 h.mono fun _ w' hR => ⟨hR.2, us, hR.1, hv w'⟩
theorem sharedG {F G : World → List Value → List Value → Prop} {goal : Prop} (tree : (∀ W u v, F W u v → G W u v) → goal) (key : ∀ W u v, F W u v → G W u v) : goal := tree key
theorem stageF {id : Nat} {ops : Array Oper} {Q : Exit → Act → World → Prop} {a : Act} {W : World} {G : World → Prop} {S : Nat → Prop} {X v : Js.J} {vs : List Value} {o0 o1 o2 o3 o4 o5 : Oper} {x0 x5 y5 : Operand} (Y lf : Nat) (p1 val arg : Value) (nm : Js.Bs)
  (hm : Tryz.prog.follows .mixedOrders = true) (hn : ops.size = 6) (i0 : ops[0]? = some o0) (i1 : ops[1]? = some o1) (i2 : ops[2]? = some o2) (i3 : ops[3]? = some o3) (i4 : ops[4]? = some o4) (i5 : ops[5]? = some o5) (e0 : o0.op = .load 25 x0) (e5 : o5.op = .store 25 x5 y5)
  (hG : Nx G) (hB : ∀ W W', G W → But [Y] W W' → G W') (hSY : ¬ S Y) (HG : G W) (HY : W.heap[Y]? = some (.cells vs.toArray 25 (0, 0))) (HJ : JV W S X vs) (hX : Nat.ble X.members.length 1000000 = true) (hnew : ∀ W, G W → ∀ g, W.heap.size ≤ g → S g)
  (hlf : ∀ W, G W → Calls Tryz.prog lf #[arg] W fun e w' => Below W.heap.size W w' ∧ ∃ us, e = .returned (.agg us.toArray) ∧ JV w' S v us)
  (hld : ∀ W, G W → (execOp ((a.put o0.dst (.agg vs.toArray)).put o1.dst p1).eval o2).run Tryz.prog W = .ok (.value val) W)
  (hc : (mayT .any ops (Array.replicate 6 false) 0 = true ∧ Region.wanted o0 (yielded ops a.tmps) = true ∧ a.eval x0 = .pointer (some ⟨Y, 0, none⟩) ∧ waits .any ops 5 0 = true) ∧ (mayT .any ops ((Array.replicate 6 false).setIfInBounds 0 true) 1 = true ∧ Region.wanted o1 (yielded ops (a.put o0.dst (.agg vs.toArray)).tmps) = true ∧ (∀ w, (execOp (a.put o0.dst (.agg vs.toArray)).eval o1).run Tryz.prog w = .ok (.value p1) w) ∧ waits .any ops 5 1 = true) ∧ (mayT .any ops (((Array.replicate 6 false).setIfInBounds 0 true).setIfInBounds 1 true) 2 = true ∧ Region.wanted o2 (yielded ops ((a.put o0.dst (.agg vs.toArray)).put o1.dst p1).tmps) = true ∧ waits .any ops 5 2 = true) ∧ (Region.ready .any ops ((((Array.replicate 6 false).setIfInBounds 0 true).setIfInBounds 1 true).setIfInBounds 2 true) = [3] ∧ Region.wanted o3 (yielded ops (((a.put o0.dst (.agg vs.toArray)).put o1.dst p1).put o2.dst val).tmps) = true ∧ ∀ w, (execOp (((a.put o0.dst (.agg vs.toArray)).put o1.dst p1).put o2.dst val).eval o3).run Tryz.prog w = .ok (.enter lf #[arg]) w) ∧ (∀ us : List Value, Region.ready .any ops (((((Array.replicate 6 false).setIfInBounds 0 true).setIfInBounds 1 true).setIfInBounds 2 true).setIfInBounds 3 true) = [4] ∧ Region.wanted o4 (yielded ops ((((a.put o0.dst (.agg vs.toArray)).put o1.dst p1).put o2.dst val).put o3.dst (.agg us.toArray)).tmps) = true ∧ ∀ w, (execOp ((((a.put o0.dst (.agg vs.toArray)).put o1.dst p1).put o2.dst val).put o3.dst (.agg us.toArray)).eval o4).run Tryz.prog w = .ok (.enter 37 #[.agg vs.toArray, .string (str nm), .agg us.toArray]) w) ∧ (∀ us us9 : List Value, Region.ready .any ops ((((((Array.replicate 6 false).setIfInBounds 0 true).setIfInBounds 1 true).setIfInBounds 2 true).setIfInBounds 3 true).setIfInBounds 4 true) = [5] ∧ Region.wanted o5 (yielded ops (((((a.put o0.dst (.agg vs.toArray)).put o1.dst p1).put o2.dst val).put o3.dst (.agg us.toArray)).put o4.dst (.agg us9.toArray)).tmps) = true ∧ (((((a.put o0.dst (.agg vs.toArray)).put o1.dst p1).put o2.dst val).put o3.dst (.agg us.toArray)).put o4.dst (.agg us9.toArray)).eval x5 = .pointer (some ⟨Y, 0, none⟩) ∧ (((((a.put o0.dst (.agg vs.toArray)).put o1.dst p1).put o2.dst val).put o3.dst (.agg us.toArray)).put o4.dst (.agg us9.toArray)).eval y5 = .agg us9.toArray ∧ Region.ready .any ops (((((((Array.replicate 6 false).setIfInBounds 0 true).setIfInBounds 1 true).setIfInBounds 2 true).setIfInBounds 3 true).setIfInBounds 4 true).setIfInBounds 5 true) = []))
  (hQ : ∀ c a w v, Q (.panic c) (a.put o0.dst v) w → Q (.panic c) a w) (hQ1 : ∀ c a w v, Q (.panic c) (a.put o1.dst v) w → Q (.panic c) a w) (hQ2 : ∀ c a w v, Q (.panic c) (a.put o2.dst v) w → Q (.panic c) a w)
  (h : ∀ (us : List Value) (W : World) (us9 : List Value), G W → W.heap[Y]? = some (.cells us9.toArray 25 (0, 0)) → JV W S (withP X nm v) us9 → Q .normal ((((((a.put o0.dst (.agg vs.toArray)).put o1.dst p1).put o2.dst val).put o3.dst (.agg us.toArray)).put o4.dst (.agg us9.toArray)).put o5.dst undef) W) : (Code.region id ops true).wp Tryz.prog Q a W := by
 obtain ⟨⟨c0, w0, x0e, t0⟩, ⟨c1, w1, r1, t1⟩, ⟨c2, w2, t2⟩, ⟨c3, w3, r3⟩, k4, k5⟩ := hc
 have hvs := HJ.len
 refine wp_region_any hm ?_
 rw [hn]
 change wpAny _ _ _ _ _ _ _ (World.drew _)
 have hb : Below W.heap.size W W.drew := below_drewN (Below.refl _ _) 1
 have G1 := hG _ _ HG hb
 have Y1 := blk_next hb HY
 have J1 := HJ.next hb
 clear hb HG HY HJ
 generalize W.drew = W1 at G1 Y1 J1 ⊢
 refine wpAny_of_till (S := fun W => G W ∧ W.heap[Y]? = some (.cells vs.toArray 25 (0, 0))) (st := fun l => l.getD 5 false) _ _ _ _ ?_
 have s0 : Shutd .any ops (Array.replicate 6 false) := Shutd.start 6
 simp only [mayT, Bool.and_eq_true] at c0
 refine wpTill_take (v := .agg vs.toArray) i0 c0.1.1 c0.1.2 c0.2 s0 (fun l h9 h8 => Shutd.step h9 t0 h8) (fun l => getD_set_ne false (by decide)) (fun c a w => hQ c a w _) (yieldsIf_load_mid w0 25 _ e0 Y 0 x0e vs _ (fun W hS j v hv => (blk_cells hS.2 (0 + j)).trans (by rw [Nat.zero_add, List.getElem?_toArray]; exact hv)) Tryz.underlying25 rfl (by rw [info25s, hvs])) ⟨G1, Y1⟩ (fun s1 => ?_)
 simp only [mayT, Bool.and_eq_true] at c1
 refine wpTill_take (v := p1) i1 c1.1.1 c1.1.2 c1.2 s1 (fun l h9 h8 => Shutd.step h9 t1 h8) (fun l => getD_set_ne false (by decide)) (fun c a w => hQ1 c a w _) (Or.inl ⟨w1, fun w _ => r1 w⟩) ⟨G1, Y1⟩ (fun s2 => ?_)
 simp only [mayT, Bool.and_eq_true] at c2
 refine wpTill_take (v := val) i2 c2.1.1 c2.1.2 c2.2 s2 (fun l h9 h8 => Shutd.step h9 t2 h8) (fun l => getD_set_ne false (by decide)) (fun c a w => hQ2 c a w _) (Or.inl ⟨w2, fun w hS => hld w hS.1⟩) ⟨G1, Y1⟩ (fun s3 => ?_)
 refine wpTill_ready c3 (by simp) (AllTill.cons i3 (fun KK hKK => ?_) AllTill.nil)
 rw [if_pos w3]
 refine wp_callR lf #[arg] (r3 _) (hlf W1 G1) ?_
 rintro e W2 ⟨hb, us, rfl, ju⟩
 have G2 := hG _ _ G1 hb
 have Y2 := blk_next hb Y1
 have J2 := J1.next hb
 refine ⟨_, rfl, hKK _ _ (fun _ => ⟨G2, Y2⟩) ?_⟩
 clear hKK KK
 obtain ⟨c4, w4, r4⟩ := k4 us
 refine wpTill_ready c4 (by simp) (AllTill.cons i4 (fun KK hKK => ?_) AllTill.nil)
 rw [if_pos w4]
 refine wp_callR 37 _ (r4 _) (with_S X nm v vs us S W2 J2 ju (hnew _ G2) (Nat.le_of_ble_eq_true hX)) ?_
 rintro e W3 ⟨hb, us9, rfl, j9⟩
 have G3 := hG _ _ G2 hb
 have Y3 := blk_next hb Y2
 refine ⟨_, rfl, hKK _ _ (fun _ => ⟨G3, Y3⟩) ?_⟩
 clear hKK KK
 obtain ⟨c5, w5, x5e, y5e, ce⟩ := k5 us us9
 refine wpTill_ready c5 (by simp) (AllTill.cons i5 (fun KK hKK => ?_) AllTill.nil)
 rw [if_pos w5]
 refine wp_store_rowd 25 _ _ e5 Y x5e vs.toArray us9.toArray y5e Y3 (by simp [hvs, j9.len]) (by rw [info25s]; simp [j9.len]) (by simpa using j9.one) ?_
 intro W4 hk hx
 refine hKK _ _ (fun h0 => ?_) ?_
 ·exact absurd h0 (by decide)
 ·exact wpTill_done ce (h us W4 us9 (hB _ _ G3 hk) hx (j9.but hk (by intro j hj; simp at hj; subst hj; exact hSY))) _
theorem stageN {id : Nat} {ops : Array Oper} {Q : Exit → Act → World → Prop} {a : Act} {W : World} {G : World → Prop} {S : Nat → Prop} {X v : Js.J} {vs : List Value} {o0 o1 o2 o3 o4 o5 o6 : Oper} {x0 x5 y5 : Operand} (Y lf : Nat) (p1 p2 val arg : Value) (nm : Js.Bs)
  (hm : Tryz.prog.follows .mixedOrders = true) (hn : ops.size = 7) (i0 : ops[0]? = some o0) (i1 : ops[1]? = some o1) (i2 : ops[2]? = some o2) (i3 : ops[3]? = some o3) (i4 : ops[4]? = some o4) (i5 : ops[5]? = some o5) (i6 : ops[6]? = some o6) (e0 : o0.op = .load 25 x0) (e5 : o6.op = .store 25 x5 y5)
  (hG : Nx G) (hB : ∀ W W', G W → But [Y] W W' → G W') (hSY : ¬ S Y) (HG : G W) (HY : W.heap[Y]? = some (.cells vs.toArray 25 (0, 0))) (HJ : JV W S X vs) (hX : Nat.ble X.members.length 1000000 = true) (hnew : ∀ W, G W → ∀ g, W.heap.size ≤ g → S g)
  (hlf : ∀ W, G W → Calls Tryz.prog lf #[arg] W fun e w' => Below W.heap.size W w' ∧ ∃ us, e = .returned (.agg us.toArray) ∧ JV w' S v us)
  (hld : ∀ W, G W → (execOp (((a.put o0.dst (.agg vs.toArray)).put o1.dst p1).put o2.dst p2).eval o3).run Tryz.prog W = .ok (.value val) W)
  (hc : (mayT .any ops (Array.replicate 7 false) 0 = true ∧ Region.wanted o0 (yielded ops a.tmps) = true ∧ a.eval x0 = .pointer (some ⟨Y, 0, none⟩) ∧ waits .any ops 6 0 = true) ∧ (mayT .any ops ((Array.replicate 7 false).setIfInBounds 0 true) 1 = true ∧ Region.wanted o1 (yielded ops (a.put o0.dst (.agg vs.toArray)).tmps) = true ∧ (∀ w, (execOp (a.put o0.dst (.agg vs.toArray)).eval o1).run Tryz.prog w = .ok (.value p1) w) ∧ waits .any ops 6 1 = true) ∧ (mayT .any ops (((Array.replicate 7 false).setIfInBounds 0 true).setIfInBounds 1 true) 2 = true ∧ Region.wanted o2 (yielded ops ((a.put o0.dst (.agg vs.toArray)).put o1.dst p1).tmps) = true ∧ (∀ w, (execOp ((a.put o0.dst (.agg vs.toArray)).put o1.dst p1).eval o2).run Tryz.prog w = .ok (.value p2) w) ∧ waits .any ops 6 2 = true) ∧ (mayT .any ops ((((Array.replicate 7 false).setIfInBounds 0 true).setIfInBounds 1 true).setIfInBounds 2 true) 3 = true ∧ Region.wanted o3 (yielded ops (((a.put o0.dst (.agg vs.toArray)).put o1.dst p1).put o2.dst p2).tmps) = true ∧ waits .any ops 6 3 = true) ∧ (Region.ready .any ops (((((Array.replicate 7 false).setIfInBounds 0 true).setIfInBounds 1 true).setIfInBounds 2 true).setIfInBounds 3 true) = [4] ∧ Region.wanted o4 (yielded ops ((((a.put o0.dst (.agg vs.toArray)).put o1.dst p1).put o2.dst p2).put o3.dst val).tmps) = true ∧ ∀ w, (execOp ((((a.put o0.dst (.agg vs.toArray)).put o1.dst p1).put o2.dst p2).put o3.dst val).eval o4).run Tryz.prog w = .ok (.enter lf #[arg]) w) ∧ (∀ us : List Value, Region.ready .any ops ((((((Array.replicate 7 false).setIfInBounds 0 true).setIfInBounds 1 true).setIfInBounds 2 true).setIfInBounds 3 true).setIfInBounds 4 true) = [5] ∧ Region.wanted o5 (yielded ops (((((a.put o0.dst (.agg vs.toArray)).put o1.dst p1).put o2.dst p2).put o3.dst val).put o4.dst (.agg us.toArray)).tmps) = true ∧ ∀ w, (execOp (((((a.put o0.dst (.agg vs.toArray)).put o1.dst p1).put o2.dst p2).put o3.dst val).put o4.dst (.agg us.toArray)).eval o5).run Tryz.prog w = .ok (.enter 37 #[.agg vs.toArray, .string (str nm), .agg us.toArray]) w) ∧ (∀ us us9 : List Value, Region.ready .any ops (((((((Array.replicate 7 false).setIfInBounds 0 true).setIfInBounds 1 true).setIfInBounds 2 true).setIfInBounds 3 true).setIfInBounds 4 true).setIfInBounds 5 true) = [6] ∧ Region.wanted o6 (yielded ops ((((((a.put o0.dst (.agg vs.toArray)).put o1.dst p1).put o2.dst p2).put o3.dst val).put o4.dst (.agg us.toArray)).put o5.dst (.agg us9.toArray)).tmps) = true ∧ ((((((a.put o0.dst (.agg vs.toArray)).put o1.dst p1).put o2.dst p2).put o3.dst val).put o4.dst (.agg us.toArray)).put o5.dst (.agg us9.toArray)).eval x5 = .pointer (some ⟨Y, 0, none⟩) ∧ ((((((a.put o0.dst (.agg vs.toArray)).put o1.dst p1).put o2.dst p2).put o3.dst val).put o4.dst (.agg us.toArray)).put o5.dst (.agg us9.toArray)).eval y5 = .agg us9.toArray ∧ Region.ready .any ops ((((((((Array.replicate 7 false).setIfInBounds 0 true).setIfInBounds 1 true).setIfInBounds 2 true).setIfInBounds 3 true).setIfInBounds 4 true).setIfInBounds 5 true).setIfInBounds 6 true) = []))
  (hQ : ∀ c a w v, Q (.panic c) (a.put o0.dst v) w → Q (.panic c) a w) (hQ1 : ∀ c a w v, Q (.panic c) (a.put o1.dst v) w → Q (.panic c) a w) (hQ2 : ∀ c a w v, Q (.panic c) (a.put o2.dst v) w → Q (.panic c) a w) (hQ3 : ∀ c a w v, Q (.panic c) (a.put o3.dst v) w → Q (.panic c) a w)
  (h : ∀ (us : List Value) (W : World) (us9 : List Value), G W → W.heap[Y]? = some (.cells us9.toArray 25 (0, 0)) → JV W S (withP X nm v) us9 → Q .normal (((((((a.put o0.dst (.agg vs.toArray)).put o1.dst p1).put o2.dst p2).put o3.dst val).put o4.dst (.agg us.toArray)).put o5.dst (.agg us9.toArray)).put o6.dst undef) W) : (Code.region id ops true).wp Tryz.prog Q a W := by
 obtain ⟨⟨c0, w0, x0e, t0⟩, ⟨c1, w1, r1, t1⟩, ⟨c2, w2, r2, t2⟩, ⟨c3, w3, t3⟩, ⟨c4, w4, r4⟩, k5, k6⟩ := hc
 have hvs := HJ.len
 refine wp_region_any hm ?_
 rw [hn]
 change wpAny _ _ _ _ _ _ _ (World.drew _)
 have hb : Below W.heap.size W W.drew := below_drewN (Below.refl _ _) 1
 have G1 := hG _ _ HG hb
 have Y1 := blk_next hb HY
 have J1 := HJ.next hb
 clear hb HG HY HJ
 generalize W.drew = W1 at G1 Y1 J1 ⊢
 refine wpAny_of_till (S := fun W => G W ∧ W.heap[Y]? = some (.cells vs.toArray 25 (0, 0))) (st := fun l => l.getD 6 false) _ _ _ _ ?_
 have s0 : Shutd .any ops (Array.replicate 7 false) := Shutd.start 7
 simp only [mayT, Bool.and_eq_true] at c0
 refine wpTill_take (v := .agg vs.toArray) i0 c0.1.1 c0.1.2 c0.2 s0 (fun l h9 h8 => Shutd.step h9 t0 h8) (fun l => getD_set_ne false (by decide)) (fun c a w => hQ c a w _) (yieldsIf_load_mid w0 25 _ e0 Y 0 x0e vs _ (fun W hS j v hv => (blk_cells hS.2 (0 + j)).trans (by rw [Nat.zero_add, List.getElem?_toArray]; exact hv)) Tryz.underlying25 rfl (by rw [info25s, hvs])) ⟨G1, Y1⟩ (fun s1 => ?_)
 simp only [mayT, Bool.and_eq_true] at c1
 refine wpTill_take (v := p1) i1 c1.1.1 c1.1.2 c1.2 s1 (fun l h9 h8 => Shutd.step h9 t1 h8) (fun l => getD_set_ne false (by decide)) (fun c a w => hQ1 c a w _) (Or.inl ⟨w1, fun w _ => r1 w⟩) ⟨G1, Y1⟩ (fun s2 => ?_)
 simp only [mayT, Bool.and_eq_true] at c2
 refine wpTill_take (v := p2) i2 c2.1.1 c2.1.2 c2.2 s2 (fun l h9 h8 => Shutd.step h9 t2 h8) (fun l => getD_set_ne false (by decide)) (fun c a w => hQ2 c a w _) (Or.inl ⟨w2, fun w _ => r2 w⟩) ⟨G1, Y1⟩ (fun s3 => ?_)
 simp only [mayT, Bool.and_eq_true] at c3
 refine wpTill_take (v := val) i3 c3.1.1 c3.1.2 c3.2 s3 (fun l h9 h8 => Shutd.step h9 t3 h8) (fun l => getD_set_ne false (by decide)) (fun c a w => hQ3 c a w _) (Or.inl ⟨w3, fun w hS => hld w hS.1⟩) ⟨G1, Y1⟩ (fun s4 => ?_)
 refine wpTill_ready c4 (by simp) (AllTill.cons i4 (fun KK hKK => ?_) AllTill.nil)
 rw [if_pos w4]
 refine wp_callR lf #[arg] (r4 _) (hlf W1 G1) ?_
 rintro e W2 ⟨hb, us, rfl, ju⟩
 have G2 := hG _ _ G1 hb
 have Y2 := blk_next hb Y1
 have J2 := J1.next hb
 refine ⟨_, rfl, hKK _ _ (fun _ => ⟨G2, Y2⟩) ?_⟩
 clear hKK KK
 obtain ⟨c5, w5, r5⟩ := k5 us
 refine wpTill_ready c5 (by simp) (AllTill.cons i5 (fun KK hKK => ?_) AllTill.nil)
 rw [if_pos w5]
 refine wp_callR 37 _ (r5 _) (with_S X nm v vs us S W2 J2 ju (hnew _ G2) (Nat.le_of_ble_eq_true hX)) ?_
 rintro e W3 ⟨hb, us9, rfl, j9⟩
 have G3 := hG _ _ G2 hb
 have Y3 := blk_next hb Y2
 refine ⟨_, rfl, hKK _ _ (fun _ => ⟨G3, Y3⟩) ?_⟩
 clear hKK KK
 obtain ⟨c6, w6, x5e, y5e, ce⟩ := k6 us us9
 refine wpTill_ready c6 (by simp) (AllTill.cons i6 (fun KK hKK => ?_) AllTill.nil)
 rw [if_pos w6]
 refine wp_store_rowd 25 _ _ e5 Y x5e vs.toArray us9.toArray y5e Y3 (by simp [hvs, j9.len]) (by rw [info25s]; simp [j9.len]) (by simpa using j9.one) ?_
 intro W4 hk hx
 refine hKK _ _ (fun h0 => ?_) ?_
 ·exact absurd h0 (by decide)
 ·exact wpTill_done ce (h us W4 us9 (hB _ _ G3 hk) hx (j9.but hk (by intro j hj; simp at hj; subst hj; exact hSY))) _
end Go.Proofs.YtimioelnnhnbiaaGreatDoor
