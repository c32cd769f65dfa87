/-
  Joined: YS ZW YW ZDlong.
-/
import Derived.Test.YtimioelnnhnbiaaGreatDoorS24
import Derived.Test.YtimioelnnhnbiaaGreatDoorS22
import Derived.Great.BuildSlice
import Derived.Test.YtimioelnnhnbiaaGreatDoorS13
import Derived.Test.YtimioelnnhnbiaaGreatDoorS05
import Derived.Deep.AppendLies
namespace Go.Proofs.YtimioelnnhnbiaaGreatDoor
open Go.RowKit
def Nx (F : World → Prop) : Prop := ∀ w w', F w → Below w.heap.size w w' → F w'
theorem nx_and {F G : World → Prop} (h : Nx F) (k : Nx G) : Nx fun W => F W ∧ G W := fun w w' hf hb => ⟨h w w' hf.1 hb, k w w' hf.2 hb⟩
theorem nx_blk {b : Nat} {o : Obj} : Nx fun W => W.heap[b]? = some o := fun _ _ h hb => blk_next hb h
theorem nx_jv {S : Nat → Prop} {x : Js.J} {vs : List Value} : Nx fun W => JV W S x vs := fun _ _ h hb => h.next hb
theorem nx_row {α : Type} {size : Nat} {cells : α → List Value} {A : Option Addr} {l : List α} : Nx fun W => RowAt size cells W A l := fun _ _ h hb => h.next hb
theorem nx_bd {A : Option Addr} : Nx fun W => ∀ a, A = some a → a.block < W.heap.size := fun _ _ h hb a ha => Nat.lt_of_lt_of_le (h a ha) hb.size
section
variable {w0 W W' : World} {N : Nat} {vs : List Value} {CZ : Array Value} {tz : TypeId} {S : Nat → Prop} {x x5 x6 : Js.J} {Y5 Y6 Y7 : Nat} {us5 us6 : List Value}
theorem nx_ta : Nx fun W => Ta w0 N vs CZ tz W := fun _ _ h hb => h.next hb
theorem nx_tb : Nx fun W => Tb w0 N vs CZ tz S x x5 x6 Y5 Y6 us5 us6 W := fun _ _ h hb => h.next hb
theorem Tb.fresh (h : Tb w0 N vs CZ tz S x x5 x6 Y5 Y6 us5 us6 W) (hY : W.heap.size = Y7) : N + 2 ≤ Y7 ∧ Y5 ≠ Y7 ∧ Y6 ≠ Y7 := by
 have h1 := h.t.size
 have h2 := (Array.getElem?_eq_some_iff.1 h.b5).1
 have h3 := (Array.getElem?_eq_some_iff.1 h.b6).1
 omega
theorem Tb.but7 (h : Tb w0 N vs CZ tz S x x5 x6 Y5 Y6 us5 us6 W) (hk : But [Y7] W W') (hS : ∀ g, S g → g < N) (l : N + 2 ≤ Y7 ∧ Y5 ≠ Y7 ∧ Y6 ≠ Y7) : Tb w0 N vs CZ tz S x x5 x6 Y5 Y6 us5 us6 W' :=
 h.but hk hS (fun j hj => by simp at hj; subst hj; exact ⟨l.1, l.2.1.symm, l.2.2.symm⟩)
end
theorem RowAt.but7 {α : Type} {size : Nat} {cells : α → List Value} {W W' : World} {A : Option Addr} {l : List α} {Y : Nat} (h : RowAt size cells W A l) (hk : But [Y] W W') (c : ∀ a, A = some a → a.block ≠ Y) : RowAt size cells W' A l :=
 h.but hk (fun a ha hm => c a ha (by simpa using hm))
theorem nx_ask {a : PAsk} {Af : Option Addr} {cf : Nat} {Ao : Option Addr} {co : Nat} {Aa : Option Addr} {ca : Nat} : Nx fun W => AskRows W a Af cf Ao co Aa ca := fun _ _ h hb => h.next hb
theorem nx_ans {b : PAnswer} {Af : Option Addr} {cf : Nat} {Ac : Option Addr} {cc : Nat} {Ai : Option Addr} {ci : Nat} : Nx fun W => AnsRows W b Af cf Ac cc Ai ci := fun _ _ h hb => h.next hb
theorem Ta.but1 {w0 W W' : World} {N Y : Nat} {vs : List Value} {CZ : Array Value} {tz : TypeId} (h : Ta w0 N vs CZ tz W) (hk : But [Y] W W') (l : N + 2 ≤ Y) : Ta w0 N vs CZ tz W' := h.but hk (fun j hj => by simp at hj; subst hj; exact l)
theorem JV.but1 {W W' : World} {N Y : Nat} {S : Nat → Prop} {x : Js.J} {vs : List Value} (h : JV W S x vs) (hk : But [Y] W W') (hS : ∀ g, S g → g < N) (l : N + 2 ≤ Y) : JV W' S x vs := h.but hk (fun j hj hs => by simp at hj; subst hj; have := hS _ hs; omega)
theorem shared1 {F G : World → Prop} {goal : Prop} (tree : (∀ W, F W → G W) → goal) (key : ∀ W, F W → G W) : goal := tree key
theorem sharedE {F G : World → List Value → Prop} {goal : Prop} (tree : (∀ W u, F W u → G W u) → goal) (key : ∀ W u, F W u → G W u) : goal := tree key
section
variable {ops : Array Oper} {Q : Exit → Act → World → Prop} {md : Region.Mode} {S : World → Prop} {fuel : Nat} {listed : Array Bool} {a : Act} {w : World} {o : Oper} {i j k : Nat}
def Step (md : Region.Mode) (ops : Array Oper) (Q : Exit → Act → World → Prop) (S : World → Prop) (fuel : Nat) (listed : Array Bool) (i : Nat) (o : Oper) (a : Act) (w : World) : Prop :=
 Region.wanted o (yielded ops a.tmps) = true ∧ ∀ K : Act → World → Prop, (∀ a w, S w → wpTill Tryz.prog md ops Q S (fun _ => false) fuel (listed.setIfInBounds i true) a w → K a w) → o.wp Tryz.prog a w K Q
theorem Step.all {rs : List Nat} (ho : ops[i]? = some o) (h : Step md ops Q S fuel listed i o a w) (hs : AllTill Tryz.prog md ops Q S (fun _ => false) fuel listed a w rs) : AllTill Tryz.prog md ops Q S (fun _ => false) fuel listed a w (i :: rs) :=
 AllTill.cons ho (fun K hK => by rw [if_pos h.1]; exact h.2 K fun a w hS hW => hK a w (fun _ => hS) hW) hs
theorem till1 (i : Nat) (ho : ops[i]? = some o) (h : Step md ops Q S fuel listed i o a w) (hr : Region.ready md ops listed = [i] := by kernel_rfl) : wpTill Tryz.prog md ops Q S (fun _ => false) (fuel + 1) listed a w :=
 wpTill_ready hr (by simp) (h.all ho AllTill.nil)
theorem till2 {p : Oper} (i j : Nat) (ho : ops[i]? = some o) (hp : ops[j]? = some p) (h : Step md ops Q S fuel listed i o a w) (k : Step md ops Q S fuel listed j p a w) (hr : Region.ready md ops listed = [i, j] := by kernel_rfl) : wpTill Tryz.prog md ops Q S (fun _ => false) (fuel + 1) listed a w :=
 wpTill_ready hr (by simp) (h.all ho (k.all hp AllTill.nil))
theorem till3 {p q : Oper} (i j k : Nat) (ho : ops[i]? = some o) (hp : ops[j]? = some p) (hq : ops[k]? = some q) (h : Step md ops Q S fuel listed i o a w) (h2 : Step md ops Q S fuel listed j p a w) (h3 : Step md ops Q S fuel listed k q a w) (hr : Region.ready md ops listed = [i, j, k] := by kernel_rfl) : wpTill Tryz.prog md ops Q S (fun _ => false) (fuel + 1) listed a w :=
 wpTill_ready hr (by simp) (h.all ho (h2.all hp (h3.all hq AllTill.nil)))
theorem stepC (f : FuncId) (args : Array Value) {R : Ending → World → Prop} (hc : Calls Tryz.prog f args w R) (h : ∀ e w', R e w' → ∃ v, e = .returned v ∧ S w' ∧ wpTill Tryz.prog md ops Q S (fun _ => false) fuel (listed.setIfInBounds i true) (a.put o.dst v) w') (hw : Region.wanted o (yielded ops a.tmps) = true := by kernel_rfl) (hrun : (execOp a.eval o).run Tryz.prog w = .ok (.enter f args) w := by kernel_rfl) : Step md ops Q S fuel listed i o a w :=
 ⟨hw, fun K hK => wp_callR f args hrun hc fun e w' hR => by
  obtain ⟨v, he, hS, hk⟩ := h e w' hR
  exact ⟨v, he, hK _ _ hS hk⟩⟩
theorem stepL (f : FuncId) (args : Array Value) {v : Value} {F : World → Prop} (hc : Calls Tryz.prog f args w fun e w' => e = .returned v ∧ Below w.heap.size w w') (hn : Nx F) (H : F w) (hs : ∀ w', F w' → S w') (h : ∀ w', F w' → wpTill Tryz.prog md ops Q S (fun _ => false) fuel (listed.setIfInBounds i true) (a.put o.dst v) w') (hw : Region.wanted o (yielded ops a.tmps) = true := by kernel_rfl) (hrun : (execOp a.eval o).run Tryz.prog w = .ok (.enter f args) w := by kernel_rfl) : Step md ops Q S fuel listed i o a w :=
 stepC f args hc (hw := hw) (hrun := hrun) fun _ w' hR => ⟨v, hR.1, hs w' (hn w w' H hR.2), h w' (hn w w' H hR.2)⟩
theorem stepA (t : TypeId) (C : Array Value) {F : World → Prop} (hn : Nx F) (H : F w) (hs : ∀ w', F w' → S w') (h : ∀ Y w', w.heap.size = Y → F w' → w'.heap[Y]? = some (.cells C t (0, 0)) → wpTill Tryz.prog md ops Q S (fun _ => false) fuel (listed.setIfInBounds i true) (a.put o.dst (.pointer (some ⟨Y, 0, none⟩))) w') (hw : Region.wanted o (yielded ops a.tmps) = true := by kernel_rfl) (hrun : (execOp a.eval o).run Tryz.prog w = .ok (.value (.pointer (some ⟨w.heap.size, 0, none⟩))) (w.alloc (.cells C t)) := by kernel_rfl) : Step md ops Q S fuel listed i o a w :=
 ⟨hw, fun K hK => by
  unfold Oper.wp
  rw [hrun, Oper.upon_value]
  have hf := hn w _ H (below_box w (.cells C t))
  exact hK _ _ (hs _ hf) (h _ _ rfl hf (heap_alloc_new w _))⟩
theorem stepS (t Y : Nat) {x y : Operand} (C D : Array Value) (ho : o.op = .store t x y) (h : w.heap[Y]? = some (.cells C t (0, 0))) (hsz : C.size = D.size) (hi : (Tryz.prog.info? t).map (·.size) = some D.size) (h1 : ∀ v ∈ D.toList, v.oneCell' = true) (hS : ∀ w', But [Y] w w' → S w') (k : ∀ w', But [Y] w w' → w'.heap[Y]? = some (.cells D t (0, 0)) → wpTill Tryz.prog md ops Q S (fun _ => false) fuel (listed.setIfInBounds i true) (a.put o.dst undef) w') (hw : Region.wanted o (yielded ops a.tmps) = true := by kernel_rfl) (hx : a.eval x = .pointer (some ⟨Y, 0, none⟩) := by kernel_rfl) (hy : a.eval y = .agg D := by kernel_rfl) : Step md ops Q S fuel listed i o a w :=
 ⟨hw, fun K hK => wp_store_rowd t x y ho Y hx C D hy h hsz hi h1 fun w' hk hx => hK _ _ (hS w' hk) (k w' hk hx)⟩
theorem stepM (t Y off : Nat) {x y : Operand} (C D E : Array Value) {ta : TypeId} (ho : o.op = .store t x y) (h : w.heap[Y]? = some (.cells C ta (0, 0))) (hS : ∀ w', But [Y] w w' → S w') (k : ∀ w', But [Y] w w' → w'.heap[Y]? = some (.cells E ta (0, 0)) → wpTill Tryz.prog md ops Q S (fun _ => false) fuel (listed.setIfInBounds i true) (a.put o.dst undef) w') (hw : Region.wanted o (yielded ops a.tmps) = true := by kernel_rfl) (hx : a.eval x = .pointer (some ⟨Y, off, none⟩) := by kernel_rfl) (hy : a.eval y = .agg D := by kernel_rfl) (hsz : Nat.ble (off + D.size) C.size = true := by kernel_rfl) (hi : (Tryz.prog.info? t).map (·.size) = some D.size := by kernel_rfl) (h1 : D.all (·.oneCell') = true := by kernel_rfl) (he : setsA C off D.toList = E := by kernel_rfl) : Step md ops Q S fuel listed i o a w :=
 ⟨hw, fun K hK => wp_store_midd t x y ho Y off hx C D ta hy h (Nat.le_of_ble_eq_true hsz) hi h1 fun w' hk hx => hK _ _ (hS w' hk) (k w' hk (by rw [← he]; exact hx))⟩
def mayT (md : Region.Mode) (ops : Array Oper) (listed : Array Bool) (i : Nat) : Bool := Region.noSelect ops && Region.free md ops listed i && (Region.ready md ops listed).contains i
theorem takeY (i : Nat) {v : Value} (hi : ops[i]? = some o) (hy : YieldsIf Tryz.prog ops S o v a) (hS : S w) (hsh : Shutd md ops listed) (h : Shutd md ops (listed.setIfInBounds i true) → wpTill Tryz.prog md ops Q S (fun _ => false) fuel (listed.setIfInBounds i true) (a.put o.dst v) w) (hc : mayT md ops listed i = true := by kernel_rfl) (hQ : ∀ c a w, Q (.panic c) (a.put o.dst v) w → Q (.panic c) a w := by exact fun _ _ _ h => h) : wpTill Tryz.prog md ops Q S (fun _ => false) (fuel + 1) listed a w := by
 simp only [mayT, Bool.and_eq_true] at hc
 exact wpTill_take hi hc.1.1 hc.1.2 hc.2 hsh (fun _ _ h9 => by cases h9) (fun _ => rfl) hQ hy hS h
theorem takeB (i Y : Nat) (vs : List Value) {x : Operand} (hi : ops[i]? = some o) (ho : o.op = .load 25 x) (hlen : vs.length = 6) (hSb : ∀ W, S W → W.heap[Y]? = some (.cells vs.toArray 25 (0, 0))) (hS : S w) (hsh : Shutd md ops listed) (h : Shutd md ops (listed.setIfInBounds i true) → wpTill Tryz.prog md ops Q S (fun _ => false) fuel (listed.setIfInBounds i true) (a.put o.dst (.agg vs.toArray)) w) (hc : mayT md ops listed i = true := by kernel_rfl) (hQ : ∀ c a w, Q (.panic c) (a.put o.dst (.agg vs.toArray)) w → Q (.panic c) a w := by exact fun _ _ _ h => h) (hw : Region.wanted o (yielded ops a.tmps) = true := by kernel_rfl) (hx : a.eval x = .pointer (some ⟨Y, 0, none⟩) := by kernel_rfl) : wpTill Tryz.prog md ops Q S (fun _ => false) (fuel + 1) listed a w :=
 takeY i hi (hc := hc) (hQ := hQ) (yieldsIf_load_mid hw 25 _ ho Y 0 hx vs _ (fun W hS j v hv => (blk_cells (hSb W hS) (0 + j)).trans (by rw [Nat.zero_add, List.getElem?_toArray]; exact hv)) Tryz.underlying25 rfl (by rw [info25s, hlen])) hS hsh h
theorem takeP (i : Nat) (v : Value) (hi : ops[i]? = some o) (hS : S w) (h : wpTill Tryz.prog md ops Q S (fun _ => false) fuel (listed.setIfInBounds i true) (a.put o.dst v) w) (hc : mayT md ops listed i = true := by kernel_rfl) (hQ : ∀ c a w, Q (.panic c) (a.put o.dst v) w → Q (.panic c) a w := by exact fun _ _ _ h => h) (hw : Region.wanted o (yielded ops a.tmps) = true := by kernel_rfl) (hy : ∀ w, (execOp a.eval o).run Tryz.prog w = .ok (.value v) w := by intros; kernel_rfl) : wpTill Tryz.prog md ops Q S (fun _ => false) (fuel + 1) listed a w := by
 simp only [mayT, Bool.and_eq_true] at hc
 exact wpTill_takeF hi hc.1.1 hc.1.2 hc.2 (fun _ => rfl) hQ (Or.inl ⟨hw, fun w _ => hy w⟩) (fun _ => hS) h
theorem takeQ (i : Nat) {v : Value} (hi : ops[i]? = some o) (hS : S w) (hsh : Shutd md ops listed) (h : Shutd md ops (listed.setIfInBounds i true) → wpTill Tryz.prog md ops Q S (fun _ => false) fuel (listed.setIfInBounds i true) (a.put o.dst v) w) (hc : mayT md ops listed i = true := by kernel_rfl) (hQ : ∀ c a w, Q (.panic c) (a.put o.dst v) w → Q (.panic c) a w := by exact fun _ _ _ h => h) (hw : Region.wanted o (yielded ops a.tmps) = true := by kernel_rfl) (hy : ∀ w, (execOp a.eval o).run Tryz.prog w = .ok (.value v) w := by intros; kernel_rfl) : wpTill Tryz.prog md ops Q S (fun _ => false) (fuel + 1) listed a w :=
 takeY i hi (hc := hc) (hQ := hQ) (Or.inl ⟨hw, fun w _ => hy w⟩) hS hsh h
theorem takeR (i t : Nat) (parts : Array (Nat × Operand)) (C : Array Value) (hi : ops[i]? = some o) (ho : o.op = .build t parts) (hS : S w) (h : wpTill Tryz.prog md ops Q S (fun _ => false) fuel (listed.setIfInBounds i true) (a.put o.dst (.agg C)) w) (hc : mayT md ops listed i = true := by kernel_rfl) (hQ : ∀ c a w, Q (.panic c) (a.put o.dst (.agg C)) w → Q (.panic c) a w := by exact fun _ _ _ h => h) (hw : Region.wanted o (yielded ops a.tmps) = true := by kernel_rfl) (hb : Tryz.prog.built t (parts.toList.map fun p => (p.1, a.eval p.2)) = some C := by kernel_rfl) : wpTill Tryz.prog md ops Q S (fun _ => false) (fuel + 1) listed a w :=
 takeP i _ hi (hc := hc) (hQ := hQ) (hw := hw) hS h (hy := fun w => by
  unfold execOp
  simp only [ho, Sem.run_bind, run_build w t _ C (by rw [Array.toList_map]; exact hb), Result.andThen_ok]
  rfl)
theorem till_in (n : Nat) (hn : ops.size = n) {F : World → Prop} (hx : Nx F) (H : F w) (hs : ∀ w', F w' → S w') (h : ∀ w', F w' → Shutd md ops (Array.replicate n false) → wpTill Tryz.prog md ops Q S (fun _ => false) n (Array.replicate n false) a w') : wpAny Tryz.prog md ops Q ops.size (Array.replicate ops.size false) a w.drew := by
 rw [hn]
 exact wpAny_of_till _ _ _ _ (h _ (hx w _ H (below_drewN (Below.refl _ _) 1)) (Shutd.start n))
theorem region_till (n : Nat) {id : Nat} {ops : Array Oper} {Q : Exit → Act → World → Prop} {S : World → Prop} {a : Act} {w : World} (hn : ops.size = n) {F : World → Prop} (hx : Nx F) (H : F w) (hs : ∀ w', F w' → S w') (h : ∀ w', F w' → Shutd .any ops (Array.replicate n false) → wpTill Tryz.prog .any ops Q S (fun _ => false) n (Array.replicate n false) a w') (hm : Tryz.prog.follows .mixedOrders = true := by kernel_rfl) : (Code.region id ops true).wp Tryz.prog Q a w := wp_region_any hm (till_in n hn hx H hs h)
end
end Go.Proofs.YtimioelnnhnbiaaGreatDoor
namespace Go.Proofs.YtimioelnnhnbiaaGreatDoor
open Go.RowKit
theorem info20p : (Tryz.prog.info? 20).map (fun i => (i.zero, i.size, i.bytes)) = some (some .nilIface, 1, 16) := by kernel_rfl
theorem wp_bs148 {op : Oper} {a : Act} {w : World} {K : Act → World → Prop} {Q : Exit → Act → World → Prop} (len : Nat) (parts : Array (Nat × Operand)) (ho : op.op = .buildSlice 148 len parts) (C : Array Value) (hl : 0 < len ∧ len ≤ 1000)
  (hf : Instr.fill (fun i => some (i * 1, 1)) ((Array.range (len * 1)).map (Value.nilIface.cells[· % Value.nilIface.cells.size]!)) (parts.toList.map fun p => (p.1, a.eval p.2)) = some C)
  (k : K (a.put op.dst (.slice (some ⟨w.heap.size, 0, none⟩) len len)) (w.alloc (.cells C 20))) : op.wp Tryz.prog a w K Q := by
 obtain ⟨i0, hi, hz0, hz1, hz2⟩ := info_parts info20p
 refine wp_buildSlice 148 20 len parts ho C i0 _ Tryz.underlying148 hi hz0 (by rw [hz1]; omega) (by rw [hz1]; omega) ?_ k
 rw [hz1, Array.toList_map]
 exact hf
theorem pairsOf_len (L : List (Js.Bs × Js.J × List Value)) : (pairsOf L).length = L.length := by unfold pairsOf; rw [List.length_map]
theorem object_L (L : List (Js.Bs × Js.J × List Value)) (S : Nat → Prop) (w : World) (M c n : Nat) (hb : w.heap[M]? = some (.cells (anyCells L).toArray 20 (0, 0))) (hk : ∀ p ∈ L, JV w S p.2.1 p.2.2) (hnew : ∀ g, w.heap.size ≤ g → S g) (hn : n = 2 * L.length) (hlen : L.length ≤ 1000) :
  Calls Tryz.prog 59 #[.slice (some ⟨M, 0, none⟩) n c] w fun e w' => Below w.heap.size w w' ∧ ∃ us, e = .returned (.agg us.toArray) ∧ JV w' S (.mk 6 false 0 [] [] (pairsOf L)) us := by
 have hA : AnyAt w (fun g => S g ∧ g < w.heap.size) (some ⟨M, 0, none⟩) (pairsOf L) := anyAt_of hb rfl (fun p hp => (hk p hp).wide fun g h1 h2 => ⟨h1, h2⟩)
 have h := object_any (fun g => S g ∧ g < w.heap.size) (pairsOf L) (some ⟨M, 0, none⟩) c w (fun g h => h.2) hA (by rw [pairsOf_len]; exact hlen)
 rw [pairsOf_len, ← hn] at h
 exact h.mono fun e w' ⟨hb, Av, cv, he, hj⟩ => ⟨hb, _, he, hj.wide fun g hg _ => hg.elim (fun h => h.1) (fun h => hnew g h)⟩
theorem shared4 {F G : World → Nat → Nat → List Value → Prop} {goal : Prop} (tree : (∀ W Y M us, F W Y M us → G W Y M us) → goal) (key : ∀ W Y M us, F W Y M us → G W Y M us) : goal := tree key
end Go.Proofs.YtimioelnnhnbiaaGreatDoor
namespace Go.Proofs.YtimioelnnhnbiaaGreatDoor
open Go.RowKit
theorem run_loadVar_one (w : World) (b o : Nat) (ty : TypeId) (v : Value) (d : TypeDesc) (hv : w.cell? ⟨b, o, none⟩ = some v) (hu : Tryz.prog.underlying ty = some d) (hd : d.isRow = false) :
  (loadVar ty ⟨b, o, none⟩).run Tryz.prog w = .ok v w := by
 have hagg : (isAgg ty).run Tryz.prog w = .ok false w := by
  unfold isAgg
  rw [Sem.run_bind, run_underlying hu w]
  cases d <;> simp_all [TypeDesc.isRow]
 unfold loadVar
 rw [Sem.run_bind, hagg]
 simp [hv]
section
variable {ops : Array Oper} {Q : Exit → Act → World → Prop} {md : Region.Mode} {S : World → Prop} {fuel : Nat} {listed : Array Bool} {a : Act} {w : World} {o : Oper} {i : Nat}
theorem takeV (i b off : Nat) (v : Value) {t : TypeId} {x : Operand} {d : TypeDesc} (hi : ops[i]? = some o) (ho : o.op = .load t x) (hu : Tryz.prog.underlying t = some d) (hd : d.isRow = false) (hv : ∀ W, S W → W.cell? ⟨b, off, none⟩ = some v) (hS : S w) (hsh : Shutd md ops listed) (h : Shutd md ops (listed.setIfInBounds i true) → wpTill Tryz.prog md ops Q S (fun _ => false) fuel (listed.setIfInBounds i true) (a.put o.dst v) w) (hc : mayT md ops listed i = true := by kernel_rfl) (hQ : ∀ c a w, Q (.panic c) (a.put o.dst v) w → Q (.panic c) a w := by exact fun _ _ _ h => h) (hw : Region.wanted o (yielded ops a.tmps) = true := by kernel_rfl) (hx : a.eval x = .pointer (some ⟨b, off, none⟩) := by kernel_rfl) : wpTill Tryz.prog md ops Q S (fun _ => false) (fuel + 1) listed a w :=
 takeY i hi (hc := hc) (hQ := hQ) (Or.inl ⟨hw, fun W hW => by
  unfold execOp
  simp only [ho, hx, Instr.loadAt, Instr.sureAddr, Sem.run_bind, Sem.run_pure, Result.andThen_ok, run_loadVar_one W b off t v d (hv W hW) hu hd]⟩) hS hsh h
theorem takeI (i b off : Nat) (I : Nat → UInt8) {x : Operand} (hi : ops[i]? = some o) (ho : o.op = .load 29 x) (hv : ∀ W, S W → ∀ j v, (idC I)[j]? = some v → W.cell? ⟨b, off + j, none⟩ = some v) (hS : S w) (hsh : Shutd md ops listed) (h : Shutd md ops (listed.setIfInBounds i true) → wpTill Tryz.prog md ops Q S (fun _ => false) fuel (listed.setIfInBounds i true) (a.put o.dst (.agg (idC I).toArray)) w) (hc : mayT md ops listed i = true := by kernel_rfl) (hQ : ∀ c a w, Q (.panic c) (a.put o.dst (.agg (idC I).toArray)) w → Q (.panic c) a w := by exact fun _ _ _ h => h) (hw : Region.wanted o (yielded ops a.tmps) = true := by kernel_rfl) (hx : a.eval x = .pointer (some ⟨b, off, none⟩) := by kernel_rfl) : wpTill Tryz.prog md ops Q S (fun _ => false) (fuel + 1) listed a w :=
 takeY i hi (hc := hc) (hQ := hQ) (yieldsIf_load_mid hw 29 _ ho b off hx (idC I) _ (fun W hS j v hj => hv W hS j v hj) und29 rfl (by rw [info29]; rfl)) hS hsh h
theorem stepN (t : TypeId) (C : Array Value) (hs : ∀ w', Below w.heap.size w w' → S w') (h : ∀ Y w', w.heap.size = Y → Below w.heap.size w w' → w'.heap[Y]? = some (.cells C t (0, 0)) → wpTill Tryz.prog md ops Q S (fun _ => false) fuel (listed.setIfInBounds i true) (a.put o.dst (.pointer (some ⟨Y, 0, none⟩))) w') (hw : Region.wanted o (yielded ops a.tmps) = true := by kernel_rfl) (hrun : (execOp a.eval o).run Tryz.prog w = .ok (.value (.pointer (some ⟨w.heap.size, 0, none⟩))) (w.alloc (.cells C t)) := by kernel_rfl) : Step md ops Q S fuel listed i o a w :=
 ⟨hw, fun K hK => by
  unfold Oper.wp
  rw [hrun, Oper.upon_value]
  exact hK _ _ (hs _ (below_box w _)) (h _ _ rfl (below_box w _) (heap_alloc_new w _))⟩
theorem stepB (len : Nat) {parts : Array (Nat × Operand)} (C : Array Value) {F : World → Prop} (ho : o.op = .buildSlice 148 len parts) (hl : decide (0 < len ∧ len ≤ 1000) = true) (hn : Nx F) (H : F w) (hs : ∀ w', F w' → S w') (h : ∀ M w', F w' → w'.heap[M]? = some (.cells C 20 (0, 0)) → wpTill Tryz.prog md ops Q S (fun _ => false) fuel (listed.setIfInBounds i true) (a.put o.dst (.slice (some ⟨M, 0, none⟩) len len)) w') (hw : Region.wanted o (yielded ops a.tmps) = true := by kernel_rfl) (hf : Instr.fill (fun i => some (i * 1, 1)) ((Array.range (len * 1)).map (Value.nilIface.cells[· % Value.nilIface.cells.size]!)) (parts.toList.map fun p => (p.1, a.eval p.2)) = some C := by kernel_rfl) : Step md ops Q S fuel listed i o a w :=
 ⟨hw, fun K hK => by
  have hf' := hn w _ H (below_box w (.cells C 20))
  exact wp_bs148 len parts ho C (of_decide_eq_true hl) hf (hK _ _ (hs _ hf') (h _ _ hf' (heap_alloc_new w _)))⟩
end
structure Fq (w0 : World) (N : Nat) (CA : Array Value) (ta : TypeId) (ls : List Nat) (L : List (Nat × Js.J)) (W : World) : Prop where
 fr : Fr w0 N CA ta (NB N ls) L W
 nm : ∀ y ∈ ls, y < W.heap.size
section
variable {w0 W W' : World} {N Y : Nat} {CA : Array Value} {ta : TypeId} {ls : List Nat} {L : List (Nat × Js.J)} {x : Js.J} {vs : List Value}
theorem Fq.next (h : Fq w0 N CA ta ls L W) (hb : Below W.heap.size W W') : Fq w0 N CA ta ls L W' := ⟨h.fr.next hb, fun y hy => Nat.lt_of_lt_of_le (h.nm y hy) hb.size⟩
theorem nx_fq : Nx fun W => Fq w0 N CA ta ls L W := fun _ _ h hb => h.next hb
theorem JV.grow (h : JV W (NB N ls) x vs) (hY : W.heap.size = Y) (hb : Below W.heap.size W W') : JV W' (NB N (Y :: ls)) x vs := (h.wide fun _ h1 h2 => NB.cons h1 (hY ▸ h2)).next hb
theorem Fq.grow {o : Obj} (h : Fq w0 N CA ta ls L W) (hY : W.heap.size = Y) (hb : Below W.heap.size W W') (hz : W'.heap[Y]? = some o) : Fq w0 N CA ta (Y :: ls) L W' :=
 ⟨(h.fr.wide fun _ h1 h2 => NB.cons h1 (hY ▸ h2)).next hb, fun y hy => by
  rcases List.mem_cons.1 hy with rfl | hy
  ·exact (Array.getElem?_eq_some_iff.1 hz).1
  ·exact Nat.lt_of_lt_of_le (h.nm y hy) hb.size⟩
theorem Fq.new (h : Fq w0 N CA ta ls L W) : ∀ g, W.heap.size ≤ g → NB N ls g := fun _ hg => NB.new h.fr.size h.nm hg
theorem Fq.fresh (h : Fq w0 N CA ta ls L W) (hY : W.heap.size = Y) : N + 2 ≤ Y ∧ Y ∉ L.map (·.1) := h.fr.fresh (Nat.le_of_eq hY)
theorem Fq.but (h : Fq w0 N CA ta (Y :: ls) L W) (hk : But [Y] W W') (hf : N + 2 ≤ Y ∧ Y ∉ L.map (·.1)) : Fq w0 N CA ta (Y :: ls) L W' :=
 ⟨h.fr.but hk (by intro j hj; simp at hj; subst hj; exact ⟨hf.1, fun h => h.2 (by simp), hf.2⟩), fun y hy => Nat.lt_of_lt_of_le (h.nm y hy) hk.size⟩
theorem JV.butq (h : JV W (NB N (Y :: ls)) x vs) (hk : But [Y] W W') : JV W' (NB N (Y :: ls)) x vs := h.but hk (by intro j hj; simp at hj; subst hj; exact fun h => h.2 (by simp))
theorem Fq.push (h : Fq w0 N CA ta ls L W) (hY : N + 2 ≤ Y) (b : W.heap[Y]? = some (.cells vs.toArray 25 (0, 0))) (j : JV W (NB N ls) x vs) : Fq w0 N CA ta ls ((Y, x) :: L) W := ⟨h.fr.push hY b j, h.nm⟩
end
structure Iq (w0 : World) (N : Nat) (CA : Array Value) (ta : TypeId) (ls : List Nat) (W : World) : Prop where
 fr : In w0 N CA ta W
 nm : ∀ y ∈ ls, y < W.heap.size
section
variable {w0 W W' : World} {N Y : Nat} {CA : Array Value} {ta : TypeId} {ls : List Nat}
theorem nx_iq : Nx fun W => Iq w0 N CA ta ls W := fun _ _ h hb => ⟨h.fr.next hb, fun y hy => Nat.lt_of_lt_of_le (h.nm y hy) hb.size⟩
theorem Iq.new (h : Iq w0 N CA ta ls W) : ∀ g, W.heap.size ≤ g → NB N ls g := fun _ hg => NB.new h.fr.size h.nm hg
theorem Iq.but (h : Iq w0 N CA ta (Y :: ls) W) (hk : But [Y] W W') (hf : N + 2 ≤ Y) : Iq w0 N CA ta (Y :: ls) W' :=
 ⟨h.fr.but hk (by intro j hj; simp at hj; subst hj; exact hf), fun y hy => Nat.lt_of_lt_of_le (h.nm y hy) hk.size⟩
end
def tL (s : Js.Bs) : List Value := [.int .i64 4, .bool false, .int .i64 0, .string (str s), .slice none 0 0, .slice none 0 0]
def nL (n : Int) : List Value := [.int .i64 3, .bool false, .int .i64 n, .string ⟨#[]⟩, .slice none 0 0, .slice none 0 0]
def lL (A : Option Addr) (n c : Nat) : List Value := [.int .i64 5, .bool false, .int .i64 0, .string ⟨#[]⟩, .slice A n c, .slice none 0 0]
theorem jv_t {w : World} {S : Nat → Prop} (s : Js.Bs) : JV w S (jText s) (tL s) := JV.leaf _ _ 4 false 0 s
theorem jv_n {w : World} {S : Nat → Prop} (n : Int) : JV w S (jNum n) (nL n) := JV.leaf _ _ 3 false n []
theorem jv_i {w : World} {S : Nat → Prop} (I : Nat → UInt8) : JV w S (jId I) (tL (idS I)) := JV.leaf _ _ 4 false 0 (idS I)
def symLL (a : PAsk) : List (Js.Bs × Js.J × List Value) := [([102, 111, 108, 100, 101, 114], jText a.sFolder, tL a.sFolder), ([115, 116, 114, 117, 99, 116], jText a.sStruct, tL a.sStruct), ([110, 97, 109, 101], jText a.sName, tL a.sName), ([108, 111, 99, 97, 108], jNum a.sLocal, nL a.sLocal), ([102, 105, 108, 101], jText a.sFile, tL a.sFile)]
def parLL (a : PAsk) : List (Js.Bs × Js.J × List Value) := [([97, 116], jNum a.pAt, nL a.pAt), ([110, 97, 109, 101], jText a.pName, tL a.pName), ([116, 121, 112, 101], jText a.pType, tL a.pType), ([118, 97, 108, 117, 101], jText a.pValue, tL a.pValue)]
def plLL (b : PAnswer) : List (Js.Bs × Js.J × List Value) := [([101, 114, 114], jNum b.plErr, nL b.plErr), ([102, 105, 108, 101], jNum b.plFile, nL b.plFile), ([97, 116], jNum b.plAt, nL b.plAt)]
def ranLL (b : PAnswer) : List (Js.Bs × Js.J × List Value) := [([101, 110, 100], jNum b.rEnd, nL b.rEnd), ([111, 117, 116], jText b.rOut, tL b.rOut), ([119, 104, 121], jText b.rWhy, tL b.rWhy), ([115, 116, 101, 112, 115], jNum b.rSteps, nL b.rSteps)]
theorem sym_jv {w : World} {S : Nat → Prop} (a : PAsk) : ∀ p ∈ symLL a, JV w S p.2.1 p.2.2 := by
 intro p hp
 simp only [symLL, List.mem_cons, List.not_mem_nil, or_false] at hp
 rcases hp with rfl | rfl | rfl | rfl | rfl
 all_goals first | exact jv_t _ | exact jv_n _
theorem par_jv {w : World} {S : Nat → Prop} (a : PAsk) : ∀ p ∈ parLL a, JV w S p.2.1 p.2.2 := by
 intro p hp
 simp only [parLL, List.mem_cons, List.not_mem_nil, or_false] at hp
 rcases hp with rfl | rfl | rfl | rfl
 all_goals first | exact jv_t _ | exact jv_n _
theorem pl_jv {w : World} {S : Nat → Prop} (b : PAnswer) : ∀ p ∈ plLL b, JV w S p.2.1 p.2.2 := by
 intro p hp
 simp only [plLL, List.mem_cons, List.not_mem_nil, or_false] at hp
 rcases hp with rfl | rfl | rfl
 all_goals first | exact jv_t _ | exact jv_n _
theorem ran_jv {w : World} {S : Nat → Prop} (b : PAnswer) : ∀ p ∈ ranLL b, JV w S p.2.1 p.2.2 := by
 intro p hp
 simp only [ranLL, List.mem_cons, List.not_mem_nil, or_false] at hp
 rcases hp with rfl | rfl | rfl | rfl
 all_goals first | exact jv_t _ | exact jv_n _
end Go.Proofs.YtimioelnnhnbiaaGreatDoor
namespace Go.Proofs.YtimioelnnhnbiaaGreatDoor
open Go.RowKit
set_option maxRecDepth 100000 in
set_option maxHeartbeats 8000000 in
theorem list_long (l : List Int) (A : Option Addr) (c : Nat) (w : World) (hR : RowAt 1 intC w A l) (hlen : l.length ≤ 1000000) :
  Calls Tryz.prog 66 #[.slice A l.length c, .func (.func 67) #[] #[]] w fun e w' => Below w.heap.size w w' ∧ ∃ (Av : Option Addr) (cv : Nat), e = .returned (.agg #[.int .i64 5, .bool false, .int .i64 0, .string ⟨#[]⟩, .slice Av l.length cv, .slice none 0 0]) ∧
   JV w' (fun g => w.heap.size ≤ g) (.mk 5 false 0 [] (l.map jNum) []) [.int .i64 5, .bool false, .int .i64 0, .string ⟨#[]⟩, .slice Av l.length cv, .slice none 0 0] := by
 have HMADE := Lib.hid made_long
 have HR : Hid (∀ W, Below w.heap.size w W → RowAt 1 intC W A l) := Lib.hid (fun W hW => hR.next hW)
 have b1 := below_box w (.cells #[.int .i64 0, .bool false, .int .i64 0, .string ⟨#[]⟩, .slice none 0 0, .slice none 0 0] 25)
 have s1 : (w.alloc (.cells #[.int .i64 0, .bool false, .int .i64 0, .string ⟨#[]⟩, .slice none 0 0, .slice none 0 0] 25)).heap.size = w.heap.size + 1 := by simp
 have e1 : JBox _ _ _ _ _ _ _ _ := heap_alloc_new w (.cells #[.int .i64 0, .bool false, .int .i64 0, .string ⟨#[]⟩, .slice none 0 0, .slice none 0 0] 25)
 have b2 := below_box (w.alloc (.cells #[.int .i64 0, .bool false, .int .i64 0, .string ⟨#[]⟩, .slice none 0 0, .slice none 0 0] 25)) (.cells #[.int .i64 5, .bool false, .int .i64 0, .string ⟨#[]⟩, .slice none 0 0, .slice none 0 0] 25)
 have e2 : JBox _ _ _ _ _ _ _ _ := heap_alloc_new (w.alloc (.cells #[.int .i64 0, .bool false, .int .i64 0, .string ⟨#[]⟩, .slice none 0 0, .slice none 0 0] 25)) (.cells #[.int .i64 5, .bool false, .int .i64 0, .string ⟨#[]⟩, .slice none 0 0, .slice none 0 0] 25)
 have s2 : ((w.alloc (.cells #[.int .i64 0, .bool false, .int .i64 0, .string ⟨#[]⟩, .slice none 0 0, .slice none 0 0] 25)).alloc (.cells #[.int .i64 5, .bool false, .int .i64 0, .string ⟨#[]⟩, .slice none 0 0, .slice none 0 0] 25)).heap.size = w.heap.size + 2 := by simp
 rw [s1] at e2
 have HE1 := Lib.hid (e1.next b2)
 have HE2 := Lib.hid e2
 have HW2 := Lib.hid (b1.trans (b2.mono (by rw [s1]; omega)))
 have HS2 := Lib.hid s2
 clear b1 s1 e1 b2 e2 s2 hR
 go_enter Tryz.func66, Tryz.ntmps66
 go_upto_region 2 with fail
 generalize ((w.alloc (.cells #[.int .i64 0, .bool false, .int .i64 0, .string ⟨#[]⟩, .slice none 0 0, .slice none 0 0] 25)).alloc (.cells #[.int .i64 5, .bool false, .int .i64 0, .string ⟨#[]⟩, .slice none 0 0, .slice none 0 0] 25)) = w2 at HE1 HE2 HW2 HS2 ⊢
 obtain ⟨N, hN⟩ : ∃ N, w.heap.size = N := ⟨_, rfl⟩
 rw [hN] at HE1 HE2 HS2 ⊢
 have HN := Lib.hid hN
 clear hN
 have HG0 : Hid (Gr 25 6 JV (fun g => N + 2 ≤ g) (N + 2) ((l.take 0).map jNum) (.slice none 0 0) [] w2) := Lib.hid (by rw [← HS2.out]; exact Gr.nil)
 go_wp2_with fail
 go_loopw [7, 11] (fun _ i wr => ∃ (k : Nat) (Av : Option Addr) (cv : Nat) (rs : List (List Value)), k ≤ l.length ∧ i = .int .i64 k ∧ Hid (Gr 25 6 JV (fun g => N + 2 ≤ g) (N + 2) ((l.take k).map jNum) (.slice Av k cv) rs wr) ∧
  Hid (JBox wr N (.int .i64 0) (.bool false) (.int .i64 0) (.string ⟨#[]⟩) (.slice none 0 0) (.slice none 0 0)) ∧ Hid (JBox wr (N + 1) (.int .i64 5) (.bool false) (.int .i64 0) (.string ⟨#[]⟩) (.slice Av k cv) (.slice none 0 0)) ∧ Hid (Below N w wr)) (fun _ i _ => l.length - (intOf i).toNat)
 case atStart => exact ⟨0, none, 0, [], by omega, rfl, HG0, HE1, HE2, HN.out ▸ HW2⟩
 case round =>
  obtain ⟨k, Av, cv, rs, hk, rfl, HG, HZ, HX, HW⟩ := hrel
  by_cases hlt : k < l.length
  ·obtain ⟨x, hx⟩ : ∃ x, l[k]? = some x := ⟨l[k], List.getElem?_eq_getElem hlt⟩
   obtain ⟨g, o, hA1, hg, hcell⟩ := HR.out wr (by rw [HN.out]; exact HW.out) k x hx
   subst hA1
   have q0 : wr.cell? ⟨g, o + k, none⟩ = some (.int .i64 x) := by have := hcell 0 _ rfl; rwa [Nat.mul_one] at this
   have HY := Lib.hid hx
   clear hx hcell hg
   go_wp2_with fail
   refine wp_region_any (by kernel_rfl) ?_
   change wpAny _ _ _ _ _ _ _ (World.drew _)
   have hbd : Below wr.heap.size wr wr.drew := below_drewN (Below.refl _ _) 1
   have HG1 := Lib.hid (HG.out.next kept_I hbd)
   have HZ1 := Lib.hid (HZ.out.next hbd)
   have HX1 := Lib.hid (HX.out.next hbd)
   have hwsz : N ≤ wr.heap.size := by have := HX.out.lt; omega
   have HW1 : Hid (Below N w wr.drew) := Lib.hid (HW.out.trans (hbd.mono hwsz))
   have hs5 : wr.drew.cell? ⟨N + 1, 4, none⟩ = some (.slice Av k cv) := HX1.out.cells.2.2.2.2.1
   have HS := Lib.hid (show (fun W => W.cell? ⟨N + 1, 4, none⟩ = some (.slice Av k cv)) wr.drew from hs5)
   clear hbd hs5 HG HZ HX HW q0 hwsz
   generalize wr.drew = W at HG1 HZ1 HX1 HW1 HS ⊢
   refine wpAny_of_till (S := fun W => W.cell? ⟨N + 1, 4, none⟩ = some (.slice Av k cv)) (st := (fun l => l.getD 6 false)) _ _ _ _ ?_
   change wpTill _ _ _ _ _ _ _ #[false, false, false, false, false, false, false, false, false] _ _
   refine tkF 0 (.pointer (some ⟨N + 1, 4, none⟩)) rfl ?yb0 (fun _ => HS.out) ?_
   case yb0 => (intro W0 _; go_simp; (try with_reducible rfl))
   simp only [Act.put, CL]
   refine tk 1 (.slice Av k cv) rfl (fun l h h9 => (Shutd.step h (j := 6) (k := 1) (by kernel_rfl) h9)) (Or.inl ⟨by rfl, ?yb1⟩) HS.out (fun _ => ?_)
   case yb1 => (intro W0 hS; have s1 := hS; go_simp; (try with_reducible rfl))
   simp only [Act.put, CL]
   refine tkF 2 (.func (.func 67) #[] #[]) rfl ?yb2 (fun _ => HS.out) ?_
   case yb2 => (intro W0 _; go_simp; (try with_reducible rfl))
   simp only [Act.put, CL]
   refine tkF 3 (.int .i64 x) rfl ?yb3 (fun _ => HS.out) ?_
   case yb3 => (intro W0 _; go_simp; (try with_reducible rfl))
   simp only [Act.put, CL]
   refine rdy 4 rfl (fun KK hKK => ?_)
   go_simp
   refine (HMADE.out x W).mono ?_
   rintro e W1 ⟨hb, us, rfl, hju⟩
   have HG2 := Lib.hid (HG1.out.next kept_I hb)
   have HZ2 := Lib.hid (HZ1.out.next hb)
   have HX2 := Lib.hid (HX1.out.next hb)
   have hwsz : N + 2 ≤ W.heap.size := by have := HX1.out.lt; omega
   have HW2 := Lib.hid (HW1.out.trans (hb.mono (by omega)))
   have HS2 : Hid ((fun W => W.cell? ⟨N + 1, 4, none⟩ = some (.slice Av k cv)) W1) := Lib.hid ((hb.cell (p := ⟨N + 1, 4, none⟩) HX1.out.lt).trans HS.out)
   have HJ2 : Hid (JV W1 (fun g => N + 2 ≤ g ∧ (Value.slice Av k cv).ownBlock ≠ some g) (jNum x) us) := Lib.hid (hju.wide (fun g hg _ => ⟨by omega, HG1.out.fresh hg⟩))
   clear hb hju hwsz HG1 HZ1 HX1 HW1 HS
   obtain ⟨A7, c7, A8, c8, k1, b1, n1, t1, l7, l8, rfl⟩ := HJ2.out.shape
   refine hKK _ _ (fun _ => HS2.out) ?_
   clear hKK KK
   simp only [Act.put, CL]
   refine rdy 5 rfl (fun KK hKK => ?_)
   go_simp
   have hal := below_box W1 (.cells #[.int .i64 k1, .bool b1, .int .i64 n1, .string t1, .slice A7 l7 c7, .slice A8 l8 c8] 25)
   have HQ := Lib.hid (heap_alloc_new W1 (.cells #[.int .i64 k1, .bool b1, .int .i64 n1, .string t1, .slice A7 l7 c7, .slice A8 l8 c8] 25))
   have HG3 := Lib.hid (HG2.out.next kept_I hal)
   have HZ3 := Lib.hid (HZ2.out.next hal)
   have HX3 := Lib.hid (HX2.out.next hal)
   have HW3 := Lib.hid (HW2.out.trans (hal.mono (by have := HX2.out.lt; omega)))
   have HJ3 := Lib.hid (HJ2.out.next hal)
   have HS3 : Hid ((fun W => W.cell? ⟨N + 1, 4, none⟩ = some (.slice Av k cv)) (W1.alloc (.cells #[.int .i64 k1, .bool b1, .int .i64 n1, .string t1, .slice A7 l7 c7, .slice A8 l8 c8] 25))) := Lib.hid ((hal.cell (p := ⟨N + 1, 4, none⟩) HX2.out.lt).trans HS2.out)
   clear hal HG2 HZ2 HX2 HW2 HJ2 HS2
   generalize (W1.alloc (.cells #[.int .i64 k1, .bool b1, .int .i64 n1, .string t1, .slice A7 l7 c7, .slice A8 l8 c8] 25)) = W2 at HQ HG3 HZ3 HX3 HW3 HJ3 HS3 ⊢
   obtain ⟨M, hM⟩ : ∃ M, W1.heap.size = M := ⟨_, rfl⟩
   rw [hM] at HQ ⊢
   clear hM
   refine hKK _ _ (fun _ => HS3.out) ?_
   clear hKK KK
   simp only [Act.put, CL]
   refine rdy 6 rfl (fun KK hKK => ?_)
   obtain ⟨i0, hi, hz0, hz1, hz2⟩ := info_parts info25
   have hlk : ((l.take k).map jNum).length = k := by rw [List.length_map, List.length_take]; omega
   have hown := HG3.out.own.own
   rw [hlk] at hown
   refine wp_append_lies W2 (.tmp 16) (.tmp 20) 22 rfl (N + 2) 25 i0 zeroJ 6 88 Tryz.underlying22 hi hz0 hz1 hz2 rfl (by decide) (.slice Av k cv) k rs.flatten rfl hown ⟨M, 0, none⟩ 1 1 [.int .i64 k1, .bool b1, .int .i64 n1, .string t1, .slice A7 l7 c7, .slice A8 l8 c8] rfl rfl (World.news_of_block HQ.out) (by intro u hu; simp at hu; rcases hu with rfl | rfl | rfl | rfl | rfl | rfl <;> rfl) (by decide) (by unfold maxLen; omega) (by omega) HG3.out.own.le W2.heap.size rfl ?_
   intro g9 cap W3 hown3 hgrow hat3 hlt3
   have hNo : ∀ j, j < N + 2 → j ∉ (Value.slice Av k cv).ownBlock.toList := by
    intro j hj hm
    have hm : (Value.slice Av k cv).ownBlock = some j := by simpa using hm
    have := (HG3.out.own.lt j hm).1
    omega
   obtain ⟨hG4, hk3⟩ := HG3.out.push kept_I (x := jNum x) (vs := [.int .i64 k1, .bool b1, .int .i64 n1, .string t1, .slice A7 l7 c7, .slice A8 l8 c8]) HJ3.out (by rw [hlk]; exact hown3) hgrow hat3
   rw [hlk] at hG4
   have htk : (l.take k).map jNum ++ [jNum x] = (l.take (k + 1)).map jNum := by rw [List.take_add_one, HY.out, List.map_append]; rfl
   rw [htk] at hG4
   have HG4 := Lib.hid hG4
   have HZ4 : Hid (JBox W3 N _ _ _ _ _ _) := Lib.hid (HZ3.out.but hk3 (hNo N (by omega)))
   have HX4 : Hid (JBox W3 (N + 1) _ _ _ _ _ _) := Lib.hid (HX3.out.but hk3 (hNo (N + 1) (by omega)))
   have HW4 : Hid (Below N w W3) := Lib.hid (HW3.out.trans (hk3.to (by have := HX3.out.lt; omega) (by
    intro j hj
    have hm : (Value.slice Av k cv).ownBlock = some j := by simpa using hj
    have := (HG3.out.own.lt j hm).1
    omega)))
   clear hG4 hk3 hNo hgrow hown3 hown htk hat3 hlt3 hi hz0 hz1 hz2 hlk HG3 HZ3 HX3 HW3 HJ3 HS3 HQ
   refine hKK _ _ (fun h0 => absurd h0 (by decide)) ?_
   clear hKK KK
   simp only [Act.put, CL]
   refine tkF 7 (.pointer (some ⟨N + 1, 4, none⟩)) rfl ?yb7 (fun h0 => absurd h0 (by decide)) ?_
   case yb7 => (intro W0 _; go_simp; (try with_reducible rfl))
   simp only [Act.put, CL]
   refine rdy 8 rfl (fun KK hKK => ?_)
   obtain ⟨hk4, hx4⟩ := but_set (i := 4) (.slice (some ⟨g9, 0, none⟩) (k + 1) cap) HX4.out
   have HG5 : Hid (Gr 25 6 JV (fun g => N + 2 ≤ g) (N + 2) ((l.take (k + 1)).map jNum) (.slice (some ⟨g9, 0, none⟩) (k + 1) cap) (rs ++ [[.int .i64 k1, .bool b1, .int .i64 n1, .string t1, .slice A7 l7 c7, .slice A8 l8 c8]]) (W3.setCell ⟨N + 1, 4, none⟩ (.slice (some ⟨g9, 0, none⟩) (k + 1) cap))) := Lib.hid (HG4.out.but kept_I hk4 (by intro j hj; simp at hj; omega) (by intro j hj; simp at hj; omega))
   have HZ5 : Hid (JBox (W3.setCell ⟨N + 1, 4, none⟩ (.slice (some ⟨g9, 0, none⟩) (k + 1) cap)) N _ _ _ _ _ _) := Lib.hid (HZ4.out.but hk4 (by simp))
   have HX5 : Hid (JBox (W3.setCell ⟨N + 1, 4, none⟩ (.slice (some ⟨g9, 0, none⟩) (k + 1) cap)) (N + 1) (.int .i64 5) (.bool false) (.int .i64 0) (.string ⟨#[]⟩) (.slice (some ⟨g9, 0, none⟩) (k + 1) cap) (.slice none 0 0)) := Lib.hid hx4
   have HW5 := Lib.hid (HW4.out.trans (hk4.to (by have := HX4.out.lt; omega) (by intro j hj; simp at hj; omega)))
   obtain ⟨x0, x1, x2, x3, x4, x5⟩ := HX4.out.cells
   obtain ⟨f0, f1, f2, f3, f4, f5⟩ := HX4.out.frees
   clear hk4 hx4
   go_simp
   clear x0 x1 x2 x3 x4 x5 f0 f1 f2 f3 f4 f5
   refine hKK _ _ (fun h0 => absurd h0 (by decide)) ?_
   clear hKK KK
   simp only [Act.put, CL]
   refine wpTill_done (by kernel_rfl) ?_ _
   (try simp only [Exit.then])
   go_wp2_with fail
   go_roundw
   case rel => exact ⟨k + 1, _, _, _, by omega, by go_num, HG5, HZ5, HX5, HW5⟩
   case measure => simp [intOf]; omega
  ·obtain rfl : k = l.length := by omega
   obtain ⟨x0, x1, x2, x3, x4, x5⟩ := HX.out.cells
   obtain ⟨z0, z1, z2, z3, z4, z5⟩ := HZ.out.cells
   obtain ⟨f0, f1, f2, f3, f4, f5⟩ := HZ.out.frees
   obtain ⟨hk9, hx9⟩ := j25_set (.int .i64 5) (.bool false) (.int .i64 0) (.string ⟨#[]⟩) (.slice Av l.length cv) (.slice none 0 0) HZ.out
   have HK9 := Lib.hid hk9
   have HX9 := Lib.hid hx9
   have HV : Hid (JV wr (fun g => N + 2 ≤ g ∨ N + 2 ≤ g) (.mk 5 false 0 [] (l.map jNum) []) [.int .i64 5, .bool false, .int .i64 0, .string ⟨#[]⟩, .slice Av l.length cv, .slice none 0 0]) := Lib.hid (by
    have h1 := HG.out.list 5 false 0 []
    rw [List.take_length] at h1
    exact h1)
   clear hk9 hx9
   go_wp2_with fail
   refine bodyPost_ret (results_row1 rfl _ _ _ N #[.int .i64 5, .bool false, .int .i64 0, .string ⟨#[]⟩, .slice Av l.length cv, .slice none 0 0] rfl (j25_load HX9.out)) rfl ?_
   rw [HN.out]
   refine ⟨HW.out.trans (HK9.out.to (by have := HX.out.lt; omega) (by intro j hj; simp at hj; omega)), Av, cv, rfl, ?_⟩
   exact (HV.out.but HK9.out (by intro j hj; simp at hj; omega)).wide (fun g hg _ => by omega)
end Go.Proofs.YtimioelnnhnbiaaGreatDoor
