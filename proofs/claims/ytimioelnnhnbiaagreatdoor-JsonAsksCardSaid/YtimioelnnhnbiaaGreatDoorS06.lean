/-
 THE WALKS, ninth part: a list's items under construction; the closure of inner that takes an item. CONDITIONS: as ItAt says.
-/
import Derived.Test.YtimioelnnhnbiaaGreatDoorS04
import Derived.Test.YtimioelnnhnbiaaGreatDoorS05
import Derived.Deep.AppendLies
namespace Go.Proofs.YtimioelnnhnbiaaGreatDoor
open Go.RowKit
def zeroJ : Value := .agg #[.int .i64 0, .bool false, .int .i64 0, .string ⟨#[]⟩, .slice none 0 0, .slice none 0 0]
theorem info25 : (Tryz.prog.info? 25).map (fun i => (i.zero, i.size, i.bytes)) = some (some zeroJ, 6, 88) := by kernel_rfl
theorem JV.shape {w : World} {S : Nat → Prop} {x : Js.J} {vs : List Value} (h : JV w S x vs) : ∃ A c A' c' k0 b0 n0 t0 l0 l1, vs = [.int .i64 k0, .bool b0, .int .i64 n0, .string t0, .slice A l0 c, .slice A' l1 c'] := by
 cases x with | mk k0 b0 n0 t0 l m =>
 unfold JV at h
 obtain ⟨A, c, A', c', rfl, _⟩ := h
 exact ⟨_, _, _, _, _, _, _, _, _, _, rfl⟩
theorem six_cells {w : World} {B g n cap : Nat} {xs : List Value} (h : Own 25 6 B (.slice (some ⟨g, 0, none⟩) (n + 1) cap) (n + 1) (xs ++ [.int .i64 0, .bool false, .int .i64 0, .string ⟨#[]⟩, .slice none 0 0, .slice none 0 0]) w) (hx : xs.length = n * 6) :
  (w.cell? ⟨g, n * 6, none⟩ = some (.int .i64 0) ∧ w.cell? ⟨g, n * 6 + 1, none⟩ = some (.bool false) ∧ w.cell? ⟨g, n * 6 + 2, none⟩ = some (.int .i64 0) ∧ w.cell? ⟨g, n * 6 + 3, none⟩ = some (.string ⟨#[]⟩) ∧ w.cell? ⟨g, n * 6 + 4, none⟩ = some (.slice none 0 0) ∧ w.cell? ⟨g, n * 6 + 5, none⟩ = some (.slice none 0 0)) ∧
  w.frozen? ⟨g, n * 6, none⟩ = false ∧ w.frozen? ⟨g, n * 6 + 1, none⟩ = false ∧ w.frozen? ⟨g, n * 6 + 2, none⟩ = false ∧ w.frozen? ⟨g, n * 6 + 3, none⟩ = false ∧ w.frozen? ⟨g, n * 6 + 4, none⟩ = false ∧ w.frozen? ⟨g, n * 6 + 5, none⟩ = false := by
 have c : ∀ j, j < 6 → w.cell? ⟨g, n * 6 + j, none⟩ = [.int .i64 0, .bool false, .int .i64 0, .string ⟨#[]⟩, .slice none 0 0, .slice none 0 0][j]? := fun j hj => by
  rw [h.own.cellAt (n * 6 + j) (by omega), List.getElem?_append_right (by omega), hx, Nat.add_sub_cancel_left]
 refine ⟨⟨(c 0 (by decide)).trans rfl, (c 1 (by decide)).trans rfl, (c 2 (by decide)).trans rfl, (c 3 (by decide)).trans rfl, (c 4 (by decide)).trans rfl, (c 5 (by decide)).trans rfl⟩, h.own.frozenAt _, h.own.frozenAt _, h.own.frozenAt _, h.own.frozenAt _, h.own.frozenAt _, h.own.frozenAt _⟩
theorem Own.but_in {S : List Nat} {e : TypeId} {size B : Nat} {v : Value} {n : Nat} {xs : List Value} {w w' : World} (h : Own e size B v n xs w) (hk : But S w w') (hS : ∀ j ∈ S, j < B) : Own e size B v n xs w' := h.but hk hS
theorem Own.set {e : TypeId} {size B g n cap : Nat} {xs : List Value} {w : World} (h : Own e size B (.slice (some ⟨g, 0, none⟩) n cap) n xs w) (j : Nat) (u : Value) :
  Own e size B (.slice (some ⟨g, 0, none⟩) n cap) n (xs.set j u) (w.setCell ⟨g, j, none⟩ u) ∧ But [g] w (w.setCell ⟨g, j, none⟩ u) := by
 obtain ⟨h1, h2⟩ := h.own.stored j u
 exact ⟨⟨h1, Nat.le_trans h.le h2.size⟩, But.grown h2⟩
theorem six_set {w : World} {B g n cap : Nat} {xs : List Value} (h : Own 25 6 B (.slice (some ⟨g, 0, none⟩) (n + 1) cap) (n + 1) (xs ++ [.int .i64 0, .bool false, .int .i64 0, .string ⟨#[]⟩, .slice none 0 0, .slice none 0 0]) w) (hx : xs.length = n * 6) (u0 u1 u2 u3 u4 u5 : Value) :
  Own 25 6 B (.slice (some ⟨g, 0, none⟩) (n + 1) cap) (n + 1) (xs ++ [u0, u1, u2, u3, u4, u5]) ((((((w.setCell ⟨g, n * 6, none⟩ u0).setCell ⟨g, n * 6 + 1, none⟩ u1).setCell ⟨g, n * 6 + 2, none⟩ u2).setCell ⟨g, n * 6 + 3, none⟩ u3).setCell ⟨g, n * 6 + 4, none⟩ u4).setCell ⟨g, n * 6 + 5, none⟩ u5) ∧
  But [g] w ((((((w.setCell ⟨g, n * 6, none⟩ u0).setCell ⟨g, n * 6 + 1, none⟩ u1).setCell ⟨g, n * 6 + 2, none⟩ u2).setCell ⟨g, n * 6 + 3, none⟩ u3).setCell ⟨g, n * 6 + 4, none⟩ u4).setCell ⟨g, n * 6 + 5, none⟩ u5) := by
 obtain ⟨a1, b1⟩ := h.set (n * 6) u0
 obtain ⟨a2, b2⟩ := a1.set (n * 6 + 1) u1
 obtain ⟨a3, b3⟩ := a2.set (n * 6 + 2) u2
 obtain ⟨a4, b4⟩ := a3.set (n * 6 + 3) u3
 obtain ⟨a5, b5⟩ := a4.set (n * 6 + 4) u4
 obtain ⟨a6, b6⟩ := a5.set (n * 6 + 5) u5
 refine ⟨?_, ((((b1.trans b2).trans b3).trans b4).trans b5).trans b6⟩
 have e : ∀ (j : Nat) (ys : List Value) (u : Value), (xs ++ ys).set (n * 6 + j) u = xs ++ ys.set j u := fun j ys u => by
  rw [List.set_append_right _ _ (by omega), hx, Nat.add_sub_cancel_left]
 have e0 := e 0
 simp only [Nat.add_zero] at e0
 rw [e0, e 1, e 2, e 3, e 4, e 5] at a6
 exact a6
structure ItAt (w0 : World) (b N : Nat) (acc : List Js.J) (v : Value) (rs : List (List Value)) (w : World) : Prop where
 rbox : w.heap[N]? = some (.cells #[.pointer (some ⟨b, 0, none⟩)] 103 (0, 0))
 zbox : JBox w (N + 1) (.int .i64 0) (.bool false) (.int .i64 0) (.string ⟨#[]⟩) (.slice none 0 0) (.slice none 0 0)
 xbox : JBox w (N + 2) (.int .i64 5) (.bool false) (.int .i64 0) (.string ⟨#[]⟩) v (.slice none 0 0)
 own : Own 25 6 (N + 3) v acc.length rs.flatten w
 len : rs.length = acc.length
 each : ∀ (k : Nat) (x : Js.J), acc[k]? = some x → ∃ vs, rs[k]? = some vs ∧ JV w (fun g => N + 3 ≤ g ∧ v.ownBlock ≠ some g) x vs
 six : ∀ vs ∈ rs, vs.length = 6
 but : But [b] w0 w
 lt : b < N
 base : w0.heap.size ≤ N
theorem ItAt.keep {w0 w w' : World} {b N : Nat} {acc : List Js.J} {v : Value} {rs : List (List Value)} (h : ItAt w0 b N acc v rs w) (hb : But [b] w w') : ItAt w0 b N acc v rs w' := by
 have hlt := h.lt
 refine ⟨hb.blk h.rbox (by simp; omega), h.zbox.but hb (by simp; omega), h.xbox.but hb (by simp; omega), h.own.but hb (by intro j hj; simp at hj; omega), h.len, fun k x hx => ?_, h.six, h.but.trans hb, hlt, h.base⟩
 obtain ⟨vs, h1, h2⟩ := h.each k x hx
 exact ⟨vs, h1, h2.but hb (by intro j hj; simp at hj; subst hj; omega)⟩
theorem ItAt.fresh {w0 w : World} {b N g : Nat} {acc : List Js.J} {v : Value} {rs : List (List Value)} (h : ItAt w0 b N acc v rs w) (hg : w.heap.size ≤ g) : N + 3 ≤ g ∧ v.ownBlock ≠ some g := by
 have h1 := h.xbox.lt
 refine ⟨by omega, fun e => ?_⟩
 have := (h.own.lt g e).2
 omega
theorem ItAt.ownNot {w0 w : World} {b N : Nat} {acc : List Js.J} {v : Value} {rs : List (List Value)} (h : ItAt w0 b N acc v rs w) {j : Nat} (hj : j < N + 3) : j ∉ v.ownBlock.toList := by
 intro hm
 have : v.ownBlock = some j := by simpa using hm
 have := (h.own.lt j this).1
 omega
theorem ItAt.grown {w0 w w' : World} {b N : Nat} {acc : List Js.J} {v : Value} {rs : List (List Value)} (h : ItAt w0 b N acc v rs w) (hg : w.grownBy w' v.ownBlock) :
  JBox w' (N + 2) (.int .i64 5) (.bool false) (.int .i64 0) (.string ⟨#[]⟩) v (.slice none 0 0) ∧ w'.heap[N]? = some (.cells #[.pointer (some ⟨b, 0, none⟩)] 103 (0, 0)) ∧ JBox w' (N + 1) (.int .i64 0) (.bool false) (.int .i64 0) (.string ⟨#[]⟩) (.slice none 0 0) (.slice none 0 0) ∧ But [b] w0 w' ∧ But v.ownBlock.toList w w' := by
 have hk := But.grown hg
 refine ⟨h.xbox.but hk (h.ownNot (by omega)), hk.blk h.rbox (h.ownNot (by omega)), h.zbox.but hk (h.ownNot (by omega)), h.but.on hk (fun j hj => ?_), hk⟩
 have h1 : v.ownBlock = some j := by simpa using hj
 have := (h.own.lt j h1).1
 have := h.base
 exact .inr (by omega)
theorem ItAt.push {w0 w w' : World} {b N g cap : Nat} {acc : List Js.J} {v : Value} {rs : List (List Value)} {x : Js.J} {vs : List Value} (h : ItAt w0 b N acc v rs w) (hj : JV w (fun j => N + 3 ≤ j ∧ v.ownBlock ≠ some j) x vs)
  (hat : v.ownBlock = some g ∨ g = w.heap.size) (hk : But (v.ownBlock.toList.append [g, N + 2]) w w')
  (hx : JBox w' (N + 2) (.int .i64 5) (.bool false) (.int .i64 0) (.string ⟨#[]⟩) (.slice (some ⟨g, 0, none⟩) (acc.length + 1) cap) (.slice none 0 0))
  (ho : Own 25 6 (N + 3) (.slice (some ⟨g, 0, none⟩) (acc.length + 1) cap) (acc.length + 1) (rs.flatten ++ vs) w') :
  ItAt w0 b N (acc ++ [x]) (.slice (some ⟨g, 0, none⟩) (acc.length + 1) cap) (rs ++ [vs]) w' ∧ ∀ {s : Js.Bs} {st : Js.St}, RdAt w b s st → RdAt w' b s st := by
 have hg := (ho.lt g rfl).1
 have hlt := h.lt
 have hbase := h.base
 have hin : ∀ j, j ∈ v.ownBlock.toList.append [g, N + 2] → N + 2 ≤ j := by
  intro j hj
  simp at hj
  rcases hj with hj | rfl | rfl
  ·have := (h.own.lt j hj).1; omega
  ·omega
  ·omega
 have hout : ∀ j, N + 3 ≤ j ∧ v.ownBlock ≠ some j → j < w.heap.size → j ∉ v.ownBlock.toList.append [g, N + 2] := by
  intro j h1 h2 hm
  simp at hm
  rcases hm with hm | rfl | rfl
  ·exact h1.2 hm
  ·rcases hat with e | e
   ·exact h1.2 e
   ·omega
  ·omega
 have hT : ∀ j, N + 3 ≤ j ∧ v.ownBlock ≠ some j → j < w.heap.size → N + 3 ≤ j ∧ Value.ownBlock (.slice (some ⟨g, 0, none⟩) (acc.length + 1) cap) ≠ some j := by
  intro j h1 h2
  refine ⟨h1.1, fun e => ?_⟩
  have e : g = j := by simpa [Value.ownBlock] using e
  subst e
  rcases hat with e | e
  ·exact h1.2 e
  ·omega
 refine ⟨⟨hk.blk h.rbox (fun hm => by have := hin _ hm; omega), h.zbox.but hk (fun hm => by have := hin _ hm; omega), hx, by rw [List.length_append, List.flatten_append]; simpa using ho, by simp [h.len], ?_, ?_, h.but.on hk (fun j hj => .inr (by have := hin _ hj; omega)), hlt, hbase⟩, fun hr => hk.blk hr (fun hm => by have := hin _ hm; omega)⟩
 ·intro k y hy
  by_cases hlt2 : k < acc.length
  ·rw [List.getElem?_append_left hlt2] at hy
   obtain ⟨us, h1, h2⟩ := h.each k y hy
   exact ⟨us, by rw [List.getElem?_append_left (by rw [h.len]; exact hlt2)]; exact h1, JV.keep hk.size hT (fun j h3 h4 => hk.block j h4 (hout j h3 h4)) _ _ h2⟩
  ·have hkl := (List.getElem?_eq_some_iff.1 hy).1
   rw [List.length_append, List.length_singleton] at hkl
   obtain rfl : k = acc.length := by omega
   rw [List.getElem?_append_right (Nat.le_refl _), Nat.sub_self] at hy
   simp at hy
   subst hy
   exact ⟨vs, by rw [← h.len, List.getElem?_append_right (Nat.le_refl _), Nat.sub_self]; rfl, JV.keep hk.size hT (fun j h3 h4 => hk.block j h4 (hout j h3 h4)) _ _ hj⟩
 ·intro us hus
  rcases List.mem_append.1 hus with h1 | h1
  ·exact h.six us h1
  ·rw [List.mem_singleton] at h1; subst h1; exact hj.len
def ItI (w0 : World) (b N : Nat) (acc : List Js.J) (w : World) : Prop := ∃ v rs, ItAt w0 b N acc v rs w
set_option maxRecDepth 100000 in
set_option maxHeartbeats 8000000 in
theorem item_any (w0 : World) (b N : Nat) (s : Js.Bs) (hlen : s.length ≤ 1073741824) (n : Nat) (hval : ValueC b s n) (acc : List Js.J) (st : Js.St) (w : World)
  (h : RdAt w b s st) (hF : Fine s st) (hacc : acc.length ≤ st.at_) (hI : ItI w0 b N acc w) (hne : (Js.value s n st).bind (fun x st => .ok (acc ++ [x]) st) ≠ .out) :
  Calls Tryz.prog 91 #[.pointer (some ⟨N + 2, 0, none⟩), .pointer (some ⟨N, 0, none⟩)] w (LOut b s (ItI w0 b N) (But [b] w0) ((Js.value s n st).bind fun x st => .ok (acc ++ [x]) st)) := by
 obtain ⟨v, rs, hI⟩ := hI
 obtain ⟨A, c, hv⟩ := own_shape hI.own
 have HV := Lib.hid hval
 have HNE := Lib.hid hne
 have hlt := hI.lt
 have hat := hF.at_
 have HIT : Hid (ItAt w0 b N acc v rs w.drew) := Lib.hid (hI.keep ((But.refl [b] w).drewN 1))
 have HR : Hid (RdAt w.drew b s st) := Lib.hid (h.drewN 1)
 have HF := Lib.hid hF
 clear hval hne hI h hF
 go_enter Tryz.func91, Tryz.ntmps91
 go_wp2_with fail
 refine wp_region_any (by kernel_rfl) ?_
 change wpAny _ _ _ _ _ _ _ (World.drew _)
 generalize w.drew = W at HIT HR ⊢
 obtain ⟨x0, x1, x2, x3, x4, x5⟩ := HIT.out.xbox.cells
 have r0 : W.cell? ⟨N, 0, none⟩ = some (.pointer (some ⟨b, 0, none⟩)) := (blk_cells HIT.out.rbox 0).trans rfl
 have HS : Hid (W.cell? ⟨N + 2, 4, none⟩ = some v ∧ W.cell? ⟨N, 0, none⟩ = some (.pointer (some ⟨b, 0, none⟩))) := Lib.hid ⟨x4, r0⟩
 clear x0 x1 x2 x3 x4 x5 r0
 subst hv
 refine wpAny_of_till (S := fun W => W.cell? ⟨N + 2, 4, none⟩ = some (.slice A acc.length c) ∧ W.cell? ⟨N, 0, none⟩ = some (.pointer (some ⟨b, 0, none⟩))) (st := fun l => l.getD 10 false) _ _ _ _ ?_
 change wpTill _ _ _ _ _ _ _ #[false, false, false, false, false, false, false, false, false, false, false] _ _
 refine tk 0 (.pointer (some ⟨N + 2, 4, none⟩)) rfl (fun l h h9 => Shutd.step h (j := 10) (k := 0) (by kernel_rfl) h9) (Or.inl ⟨by rfl, ?yb0⟩) HS.out (fun hsh => ?_)
 case yb0 => (intro w hS; obtain ⟨s1, s2⟩ := hS; go_simp; (try with_reducible rfl))
 simp only [Act.put, CL] at hsh ⊢
 refine wpTill_take (i := 1) (v := .slice A acc.length c) rfl (by kernel_rfl) (by kernel_rfl) (by kernel_rfl) hsh (fun l h h9 => Shutd.step h (j := 10) (k := 1) (by kernel_rfl) h9) (fun l => getD_set_ne false (by decide)) (fun _ _ _ h => h) (Or.inl ⟨by rfl, ?yb1⟩) HS.out (fun hsh' => ?_)
 case yb1 => (intro w hS; obtain ⟨s1, s2⟩ := hS; go_simp; (try with_reducible rfl))
 replace hsh := hsh'
 clear hsh'
 simp only [Act.put, CL] at hsh ⊢
 refine wpTill_take (i := 2) (v := .pointer (some ⟨b, 0, none⟩)) rfl (by kernel_rfl) (by kernel_rfl) (by kernel_rfl) hsh (fun l h h9 => Shutd.step h (j := 10) (k := 2) (by kernel_rfl) h9) (fun l => getD_set_ne false (by decide)) (fun _ _ _ h => h) (Or.inl ⟨by rfl, ?yb2⟩) HS.out (fun hsh' => ?_)
 case yb2 => (intro w hS; obtain ⟨s1, s2⟩ := hS; go_simp; (try with_reducible rfl))
 replace hsh := hsh'
 clear hsh'
 simp only [Act.put, CL] at hsh ⊢
 refine wpTill_take (i := 4) (v := .int .i64 acc.length) rfl (by kernel_rfl) (by kernel_rfl) (by kernel_rfl) hsh (fun l h h9 => Shutd.step h (j := 10) (k := 4) (by kernel_rfl) h9) (fun l => getD_set_ne false (by decide)) (fun _ _ _ h => h) (Or.inl ⟨by rfl, ?yb4⟩) HS.out (fun hsh' => ?_)
 case yb4 => (intro w hS; obtain ⟨s1, s2⟩ := hS; go_simp; (try with_reducible rfl))
 clear hsh' hsh
 simp only [Act.put, CL]
 refine wpTill_ready (rs := [3, 5]) (by kernel_rfl) (by simp) ?_
 refine (AllTill.cons rfl (fun KK hKK => ?_) (AllTill.cons rfl (fun KK hKK => ?_) AllTill.nil))
 ·rw [if_pos (by rfl)]
  go_simp
  have hneV : Js.value s n st ≠ .out := fun e0 => HNE.out (by rw [e0]; rfl)
  refine (HV.out st W HR.out HF.out hneV).mono ?_
  intro e W1 ho
  obtain ⟨r, hr⟩ : ∃ r, Js.value s n st = r := ⟨_, rfl⟩
  have HRQ := Lib.hid hr
  rw [hr] at ho
  clear hr
  cases r with
  | out => exact absurd HRQ.out hneV
  | bad k =>
   obtain ⟨rfl, hb1⟩ := ho
   exact lout_bad (by rw [HRQ.out]; rfl) rfl (HIT.out.but.trans hb1)
  | ok x st3 =>
   obtain ⟨⟨vs, rfl, hjv⟩, hr1, hb1⟩ := ho
   have HRES : Hid ((Js.value s n st).bind (fun x st => .ok (acc ++ [x]) st) = .ok (acc ++ [x]) st3) := Lib.hid (by rw [HRQ.out]; rfl)
   have HI1 := HIT.out.keep hb1
   have hx4 := HI1.xbox.cells.2.2.2.2.1
   have hr0 : W1.cell? ⟨N, 0, none⟩ = some (.pointer (some ⟨b, 0, none⟩)) := (blk_cells HI1.rbox 0).trans rfl
   refine hKK _ _ (fun _ => ⟨hx4, hr0⟩) ?_
   clear hKK KK hneV hx4 hr0
   simp only [Act.put, CL]
   refine rdy 5 rfl (fun KK hKK => ?_)
   go_simp
   have hal := below_box W1 (.cells #[.int .i64 0, .bool false, .int .i64 0, .string ⟨#[]⟩, .slice none 0 0, .slice none 0 0] 25)
   have HZ := Lib.hid (heap_alloc_new W1 (.cells #[.int .i64 0, .bool false, .int .i64 0, .string ⟨#[]⟩, .slice none 0 0, .slice none 0 0] 25))
   have HI2 := Lib.hid (HI1.keep (But.of (S := [b]) hal))
   have HR2 := Lib.hid (hr1.next hal)
   have HJ2 : Hid (JV _ (fun g => N + 3 ≤ g ∧ Value.ownBlock (.slice A acc.length c) ≠ some g) x vs) := Lib.hid ((hjv.next hal).wide (fun g hg _ => ?wideA))
   case wideA => exact HIT.out.fresh hg
   generalize (W1.alloc (.cells #[.int .i64 0, .bool false, .int .i64 0, .string ⟨#[]⟩, .slice none 0 0, .slice none 0 0] 25)) = W2 at HZ HI2 HR2 HJ2 ⊢
   obtain ⟨M, hM⟩ : ∃ M, W1.heap.size = M := ⟨_, rfl⟩
   rw [hM] at HZ ⊢
   have hx4 := HI2.out.xbox.cells.2.2.2.2.1
   have hr0 : W2.cell? ⟨N, 0, none⟩ = some (.pointer (some ⟨b, 0, none⟩)) := (blk_cells HI2.out.rbox 0).trans rfl
   refine hKK _ _ (fun _ => ⟨hx4, hr0⟩) ?_
   clear hKK KK hx4 hr0 hM hal hjv hr1 hb1 HI1 HS HR HIT HV HRQ HNE HF
   simp only [Act.put, CL]
   refine rdy 6 rfl (fun KK hKK => ?_)
   have hown := HI2.out.own
   have hle := hown.le
   obtain ⟨i0, hi, hz0, hz1, hz2⟩ := info_parts info25
   refine wp_append_lies W2 (.tmp 3) (.tmp 7) 22 rfl (N + 3) 25 i0 zeroJ 6 88 Tryz.underlying22 hi hz0 hz1 hz2 rfl (by decide) (.slice A acc.length c) acc.length rs.flatten rfl hown.own ⟨M, 0, none⟩ 1 1 [.int .i64 0, .bool false, .int .i64 0, .string ⟨#[]⟩, .slice none 0 0, .slice none 0 0] rfl rfl (World.news_of_block HZ.out) (by intro u hu; simp at hu; rcases hu with rfl | rfl | rfl | rfl | rfl | rfl <;> rfl) (by decide) (by unfold maxLen; omega) (by omega) hle W2.heap.size rfl ?_
   intro g cap W3 hown3 hgrow hat3 hlt3
   have HI3 := HI2.out.grown hgrow
   have hx4 := HI3.1.cells.2.2.2.2.1
   have hr0 : W3.cell? ⟨N, 0, none⟩ = some (.pointer (some ⟨b, 0, none⟩)) := (blk_cells HI3.2.1 0).trans rfl
   refine hKK _ _ (fun _ => ⟨hx4, hr0⟩) ?_
   clear hKK KK hx4 hr0
   simp only [Act.put, CL]
   refine tkF 7 (.pointer (some ⟨g, acc.length * 6, none⟩)) rfl ?yb7 (fun _ => ⟨HI3.1.cells.2.2.2.2.1, (blk_cells HI3.2.1 0).trans rfl⟩) ?_
   case yb7 => (intro w _; have h7 : (acc.length : Int) < (acc.length : Int) + 1 := (by omega); go_simp; (try with_reducible rfl))
   simp only [Act.put, CL]
   refine tkF 9 (.pointer (some ⟨N + 2, 4, none⟩)) rfl ?yb9 (fun _ => ⟨HI3.1.cells.2.2.2.2.1, (blk_cells HI3.2.1 0).trans rfl⟩) ?_
   case yb9 => (intro w _; go_simp; (try with_reducible rfl))
   simp only [Act.put, CL]
   refine wpTill_ready (rs := [8, 10]) (by kernel_rfl) (by simp) ?_
   have HX : ∃ A c A' c' k0 b0 n0 t0 l0 l1, vs = [.int .i64 k0, .bool b0, .int .i64 n0, .string t0, .slice A l0 c, .slice A' l1 c'] := HJ2.out.shape
   obtain ⟨A5, c5, A6, c6, k0, b0, n0, t0, l5, l6, rfl⟩ := HX
   have hfl : rs.flatten.length = acc.length * 6 := hown.own.1
   have hOWN : Own 25 6 (N + 3) (.slice (some ⟨g, 0, none⟩) (acc.length + 1) cap) (acc.length + 1) (rs.flatten ++ [.int .i64 0, .bool false, .int .i64 0, .string ⟨#[]⟩, .slice none 0 0, .slice none 0 0]) W3 := ⟨hown3, Nat.le_trans hle HI3.2.2.2.2.size⟩
   have HO3 := Lib.hid hOWN
   have HFL := Lib.hid hfl
   have HG3 := Lib.hid HI3
   have HAT := Lib.hid hat3
   obtain ⟨⟨z0, z1, z2, z3, z4, z5⟩, y0, y1, y2, y3, y4, y5⟩ := six_cells hOWN hfl
   have e4 := HI3.1.cells.2.2.2.2.1
   have e5 := HI3.1.frees.2.2.2.2.1
   clear hfl hOWN hown3 hown hle hi hz0 hz1 hz2 HI3 hat3 hgrow
   refine (AllTill.cons rfl (fun KK hKK => ?_) (AllTill.cons rfl (fun KK hKK => ?_) AllTill.nil))
   ·rw [if_pos (by rfl)]
    go_simp
    obtain ⟨ho4, hk4⟩ := six_set HO3.out HFL.out (.int .i64 k0) (.bool b0) (.int .i64 n0) (.string t0) (.slice A5 l5 c5) (.slice A6 l6 c6)
    have hg3 := (HO3.out.lt g rfl).1
    have hx4 := HG3.out.1.but hk4 (by simp; omega)
    have hr4 : ((((((W3.setCell ⟨g, acc.length * 6, none⟩ (.int .i64 k0)).setCell ⟨g, acc.length * 6 + 1, none⟩ (.bool b0)).setCell ⟨g, acc.length * 6 + 2, none⟩ (.int .i64 n0)).setCell ⟨g, acc.length * 6 + 3, none⟩ (.string t0)).setCell ⟨g, acc.length * 6 + 4, none⟩ (.slice A5 l5 c5)).setCell ⟨g, acc.length * 6 + 5, none⟩ (.slice A6 l6 c6)).cell? ⟨N, 0, none⟩ = some (.pointer (some ⟨b, 0, none⟩)) := (blk_cells (hk4.blk HG3.out.2.1 (by simp; omega)) 0).trans rfl
    refine hKK _ _ (fun _ => ⟨hx4.cells.2.2.2.2.1, hr4⟩) ?_
    clear hKK KK z0 z1 z2 z3 z4 z5 y0 y1 y2 y3 y4 y5 e4 e5 hr4
    simp only [Act.put, CL]
    generalize ((((((W3.setCell ⟨g, acc.length * 6, none⟩ (.int .i64 k0)).setCell ⟨g, acc.length * 6 + 1, none⟩ (.bool b0)).setCell ⟨g, acc.length * 6 + 2, none⟩ (.int .i64 n0)).setCell ⟨g, acc.length * 6 + 3, none⟩ (.string t0)).setCell ⟨g, acc.length * 6 + 4, none⟩ (.slice A5 l5 c5)).setCell ⟨g, acc.length * 6 + 5, none⟩ (.slice A6 l6 c6)) = W4 at ho4 hk4 hx4 ⊢
    have HK4 := Lib.hid hk4
    have HO4 := Lib.hid ho4
    have HX4 := Lib.hid hx4
    have e4 := hx4.cells.2.2.2.2.1
    have e5 := hx4.frees.2.2.2.2.1
    clear ho4 hk4 hx4
    refine rdy 10 rfl (fun KK hKK => ?_)
    go_simp
    obtain ⟨hk5, hx5⟩ := but_set (i := 4) (.slice (some ⟨g, 0, none⟩) (acc.length + 1) cap) HX4.out
    have ho5 := HO4.out.but_in hk5 (by intro j hj; simp at hj; omega)
    have hall := (HG3.out.2.2.2.2.mono (T := Value.ownBlock (.slice A acc.length c) |>.toList.append [g, N + 2]) (by intro j hj; simp at hj ⊢; exact .inl hj)).trans ((HK4.out.mono (by intro j hj; simp at hj ⊢; exact .inr (.inl hj))).trans (hk5.mono (by intro j hj; simp at hj ⊢; exact .inr (.inr hj))))
    refine hKK _ _ (fun h0 => by cases h0) ?_
    clear hKK KK
    simp only [Act.put, CL]
    refine wpTill_done (by kernel_rfl) ?_ _
    go_end0
    rw [HRES.out]
    obtain ⟨hp1, hp2⟩ := HI2.out.push HJ2.out HAT.out hall hx5 ho5
    exact ⟨rfl, hp2 HR2.out, _, _, hp1⟩
   ·rw [if_pos (by rfl)]
    go_simp
    obtain ⟨hk4, hx4⟩ := but_set (i := 4) (.slice (some ⟨g, 0, none⟩) (acc.length + 1) cap) HG3.out.1
    have hg3 := (HO3.out.lt g rfl).1
    have ho4 := HO3.out.but_in hk4 (by intro j hj; simp at hj; omega)
    refine hKK _ _ (fun h0 => by cases h0) ?_
    clear hKK KK z0 z1 z2 z3 z4 z5 y0 y1 y2 y3 y4 y5 e4 e5
    simp only [Act.put, CL]
    generalize (W3.setCell ⟨N + 2, 4, none⟩ (.slice (some ⟨g, 0, none⟩) (acc.length + 1) cap)) = W4 at ho4 hk4 hx4 ⊢
    have HK4 := Lib.hid hk4
    have HO4 := Lib.hid ho4
    have HX4 := Lib.hid hx4
    obtain ⟨⟨z0, z1, z2, z3, z4, z5⟩, y0, y1, y2, y3, y4, y5⟩ := six_cells ho4 HFL.out
    clear ho4 hk4 hx4
    refine rdy 8 rfl (fun KK hKK => ?_)
    go_simp
    obtain ⟨ho5, hk5⟩ := six_set HO4.out HFL.out (.int .i64 k0) (.bool b0) (.int .i64 n0) (.string t0) (.slice A5 l5 c5) (.slice A6 l6 c6)
    have hx5 := JBox.but HX4.out hk5 (by simp; omega)
    have hall := (HG3.out.2.2.2.2.mono (T := Value.ownBlock (.slice A acc.length c) |>.toList.append [g, N + 2]) (by intro j hj; simp at hj ⊢; exact .inl hj)).trans ((HK4.out.mono (by intro j hj; simp at hj ⊢; exact .inr (.inr hj))).trans (hk5.mono (by intro j hj; simp at hj ⊢; exact .inr (.inl hj))))
    refine hKK _ _ (fun h0 => by cases h0) ?_
    clear hKK KK
    simp only [Act.put, CL]
    refine wpTill_done (by kernel_rfl) ?_ _
    go_end0
    rw [HRES.out]
    obtain ⟨hp1, hp2⟩ := HI2.out.push HJ2.out HAT.out hall hx5 ho5
    exact ⟨rfl, hp2 HR2.out, _, _, hp1⟩
 ·rw [if_pos (by rfl)]
  go_simp
  have hal := below_box W (.cells #[.int .i64 0, .bool false, .int .i64 0, .string ⟨#[]⟩, .slice none 0 0, .slice none 0 0] 25)
  have HZ0 := heap_alloc_new W (.cells #[.int .i64 0, .bool false, .int .i64 0, .string ⟨#[]⟩, .slice none 0 0, .slice none 0 0] 25)
  have HI0 := HIT.out.keep (But.of (S := [b]) hal)
  have HR0 := HR.out.next hal
  have hsz0 : W.heap.size ≤ (W.alloc (.cells #[.int .i64 0, .bool false, .int .i64 0, .string ⟨#[]⟩, .slice none 0 0, .slice none 0 0] 25)).heap.size := hal.size
  have HMb := HIT.out.fresh (g := W.heap.size) (Nat.le_refl _)
  have hbM : W.heap.size ≠ b := fun e0 => by have := HR.out.lt; omega
  have hfr := fun g (hg : W.heap.size ≤ g) => HIT.out.fresh hg
  generalize (W.alloc (.cells #[.int .i64 0, .bool false, .int .i64 0, .string ⟨#[]⟩, .slice none 0 0, .slice none 0 0] 25)) = W1 at HZ0 HI0 HR0 hsz0 ⊢
  have hx4 := HI0.xbox.cells.2.2.2.2.1
  have hr0 : W1.cell? ⟨N, 0, none⟩ = some (.pointer (some ⟨b, 0, none⟩)) := (blk_cells HI0.rbox 0).trans rfl
  refine hKK _ _ (fun _ => ⟨hx4, hr0⟩) ?_
  clear hKK KK hx4 hr0
  simp only [Act.put, CL]
  refine rdy 3 rfl (fun KK hKK => ?_)
  go_simp
  have hneV : Js.value s n st ≠ .out := fun e0 => HNE.out (by rw [e0]; rfl)
  refine (HV.out st W1 HR0 HF.out hneV).mono ?_
  intro e W2 ho
  obtain ⟨r, hr⟩ : ∃ r, Js.value s n st = r := ⟨_, rfl⟩
  have HRQ := Lib.hid hr
  rw [hr] at ho
  clear hr
  cases r with
  | out => exact absurd HRQ.out hneV
  | bad k =>
   obtain ⟨rfl, hb1⟩ := ho
   exact lout_bad (by rw [HRQ.out]; rfl) rfl (HI0.but.trans hb1)
  | ok x st3 =>
   obtain ⟨⟨vs, rfl, hjv⟩, hr1, hb1⟩ := ho
   have HRES : Hid ((Js.value s n st).bind (fun x st => .ok (acc ++ [x]) st) = .ok (acc ++ [x]) st3) := Lib.hid (by rw [HRQ.out]; rfl)
   have HZ := Lib.hid (hb1.blk HZ0 (by simpa using hbM))
   have HI2 := Lib.hid (HI0.keep hb1)
   have HR2 := Lib.hid hr1
   have HJ2 : Hid (JV W2 (fun g => N + 3 ≤ g ∧ Value.ownBlock (.slice A acc.length c) ≠ some g) x vs) := Lib.hid (hjv.wide (fun g hg _ => hfr g (Nat.le_trans hsz0 hg)))
   obtain ⟨M, hM⟩ : ∃ M, W.heap.size = M := ⟨_, rfl⟩
   rw [hM] at HZ ⊢
   have hx4 := HI2.out.xbox.cells.2.2.2.2.1
   have hr0 : W2.cell? ⟨N, 0, none⟩ = some (.pointer (some ⟨b, 0, none⟩)) := (blk_cells HI2.out.rbox 0).trans rfl
   refine hKK _ _ (fun _ => ⟨hx4, hr0⟩) ?_
   clear hKK KK hx4 hr0 hM hal hjv hr1 hb1 HI0 HS HR HIT HV HRQ HNE HF HZ0 HR0 hsz0 HMb hbM hfr hneV
   simp only [Act.put, CL]
   refine rdy 6 rfl (fun KK hKK => ?_)
   have hown := HI2.out.own
   have hle := hown.le
   obtain ⟨i0, hi, hz0, hz1, hz2⟩ := info_parts info25
   refine wp_append_lies W2 (.tmp 3) (.tmp 7) 22 rfl (N + 3) 25 i0 zeroJ 6 88 Tryz.underlying22 hi hz0 hz1 hz2 rfl (by decide) (.slice A acc.length c) acc.length rs.flatten rfl hown.own ⟨M, 0, none⟩ 1 1 [.int .i64 0, .bool false, .int .i64 0, .string ⟨#[]⟩, .slice none 0 0, .slice none 0 0] rfl rfl (World.news_of_block HZ.out) (by intro u hu; simp at hu; rcases hu with rfl | rfl | rfl | rfl | rfl | rfl <;> rfl) (by decide) (by unfold maxLen; omega) (by omega) hle W2.heap.size rfl ?_
   intro g cap W3 hown3 hgrow hat3 hlt3
   have HI3 := HI2.out.grown hgrow
   have hx4 := HI3.1.cells.2.2.2.2.1
   have hr0 : W3.cell? ⟨N, 0, none⟩ = some (.pointer (some ⟨b, 0, none⟩)) := (blk_cells HI3.2.1 0).trans rfl
   refine hKK _ _ (fun _ => ⟨hx4, hr0⟩) ?_
   clear hKK KK hx4 hr0
   simp only [Act.put, CL]
   refine tkF 7 (.pointer (some ⟨g, acc.length * 6, none⟩)) rfl ?yb7 (fun _ => ⟨HI3.1.cells.2.2.2.2.1, (blk_cells HI3.2.1 0).trans rfl⟩) ?_
   case yb7 => (intro w _; have h7 : (acc.length : Int) < (acc.length : Int) + 1 := (by omega); go_simp; (try with_reducible rfl))
   simp only [Act.put, CL]
   refine tkF 9 (.pointer (some ⟨N + 2, 4, none⟩)) rfl ?yb9 (fun _ => ⟨HI3.1.cells.2.2.2.2.1, (blk_cells HI3.2.1 0).trans rfl⟩) ?_
   case yb9 => (intro w _; go_simp; (try with_reducible rfl))
   simp only [Act.put, CL]
   refine wpTill_ready (rs := [8, 10]) (by kernel_rfl) (by simp) ?_
   have HX : ∃ A c A' c' k0 b0 n0 t0 l0 l1, vs = [.int .i64 k0, .bool b0, .int .i64 n0, .string t0, .slice A l0 c, .slice A' l1 c'] := HJ2.out.shape
   obtain ⟨A5, c5, A6, c6, k0, b0, n0, t0, l5, l6, rfl⟩ := HX
   have hfl : rs.flatten.length = acc.length * 6 := hown.own.1
   have hOWN : Own 25 6 (N + 3) (.slice (some ⟨g, 0, none⟩) (acc.length + 1) cap) (acc.length + 1) (rs.flatten ++ [.int .i64 0, .bool false, .int .i64 0, .string ⟨#[]⟩, .slice none 0 0, .slice none 0 0]) W3 := ⟨hown3, Nat.le_trans hle HI3.2.2.2.2.size⟩
   have HO3 := Lib.hid hOWN
   have HFL := Lib.hid hfl
   have HG3 := Lib.hid HI3
   have HAT := Lib.hid hat3
   obtain ⟨⟨z0, z1, z2, z3, z4, z5⟩, y0, y1, y2, y3, y4, y5⟩ := six_cells hOWN hfl
   have e4 := HI3.1.cells.2.2.2.2.1
   have e5 := HI3.1.frees.2.2.2.2.1
   clear hfl hOWN hown3 hown hle hi hz0 hz1 hz2 HI3 hat3 hgrow
   refine (AllTill.cons rfl (fun KK hKK => ?_) (AllTill.cons rfl (fun KK hKK => ?_) AllTill.nil))
   ·rw [if_pos (by rfl)]
    go_simp
    obtain ⟨ho4, hk4⟩ := six_set HO3.out HFL.out (.int .i64 k0) (.bool b0) (.int .i64 n0) (.string t0) (.slice A5 l5 c5) (.slice A6 l6 c6)
    have hg3 := (HO3.out.lt g rfl).1
    have hx4 := HG3.out.1.but hk4 (by simp; omega)
    have hr4 : ((((((W3.setCell ⟨g, acc.length * 6, none⟩ (.int .i64 k0)).setCell ⟨g, acc.length * 6 + 1, none⟩ (.bool b0)).setCell ⟨g, acc.length * 6 + 2, none⟩ (.int .i64 n0)).setCell ⟨g, acc.length * 6 + 3, none⟩ (.string t0)).setCell ⟨g, acc.length * 6 + 4, none⟩ (.slice A5 l5 c5)).setCell ⟨g, acc.length * 6 + 5, none⟩ (.slice A6 l6 c6)).cell? ⟨N, 0, none⟩ = some (.pointer (some ⟨b, 0, none⟩)) := (blk_cells (hk4.blk HG3.out.2.1 (by simp; omega)) 0).trans rfl
    refine hKK _ _ (fun _ => ⟨hx4.cells.2.2.2.2.1, hr4⟩) ?_
    clear hKK KK z0 z1 z2 z3 z4 z5 y0 y1 y2 y3 y4 y5 e4 e5 hr4
    simp only [Act.put, CL]
    generalize ((((((W3.setCell ⟨g, acc.length * 6, none⟩ (.int .i64 k0)).setCell ⟨g, acc.length * 6 + 1, none⟩ (.bool b0)).setCell ⟨g, acc.length * 6 + 2, none⟩ (.int .i64 n0)).setCell ⟨g, acc.length * 6 + 3, none⟩ (.string t0)).setCell ⟨g, acc.length * 6 + 4, none⟩ (.slice A5 l5 c5)).setCell ⟨g, acc.length * 6 + 5, none⟩ (.slice A6 l6 c6)) = W4 at ho4 hk4 hx4 ⊢
    have HK4 := Lib.hid hk4
    have HO4 := Lib.hid ho4
    have HX4 := Lib.hid hx4
    have e4 := hx4.cells.2.2.2.2.1
    have e5 := hx4.frees.2.2.2.2.1
    clear ho4 hk4 hx4
    refine rdy 10 rfl (fun KK hKK => ?_)
    go_simp
    obtain ⟨hk5, hx5⟩ := but_set (i := 4) (.slice (some ⟨g, 0, none⟩) (acc.length + 1) cap) HX4.out
    have ho5 := HO4.out.but_in hk5 (by intro j hj; simp at hj; omega)
    have hall := (HG3.out.2.2.2.2.mono (T := Value.ownBlock (.slice A acc.length c) |>.toList.append [g, N + 2]) (by intro j hj; simp at hj ⊢; exact .inl hj)).trans ((HK4.out.mono (by intro j hj; simp at hj ⊢; exact .inr (.inl hj))).trans (hk5.mono (by intro j hj; simp at hj ⊢; exact .inr (.inr hj))))
    refine hKK _ _ (fun h0 => by cases h0) ?_
    clear hKK KK
    simp only [Act.put, CL]
    refine wpTill_done (by kernel_rfl) ?_ _
    go_end0
    rw [HRES.out]
    obtain ⟨hp1, hp2⟩ := HI2.out.push HJ2.out HAT.out hall hx5 ho5
    exact ⟨rfl, hp2 HR2.out, _, _, hp1⟩
   ·rw [if_pos (by rfl)]
    go_simp
    obtain ⟨hk4, hx4⟩ := but_set (i := 4) (.slice (some ⟨g, 0, none⟩) (acc.length + 1) cap) HG3.out.1
    have hg3 := (HO3.out.lt g rfl).1
    have ho4 := HO3.out.but_in hk4 (by intro j hj; simp at hj; omega)
    refine hKK _ _ (fun h0 => by cases h0) ?_
    clear hKK KK z0 z1 z2 z3 z4 z5 y0 y1 y2 y3 y4 y5 e4 e5
    simp only [Act.put, CL]
    generalize (W3.setCell ⟨N + 2, 4, none⟩ (.slice (some ⟨g, 0, none⟩) (acc.length + 1) cap)) = W4 at ho4 hk4 hx4 ⊢
    have HK4 := Lib.hid hk4
    have HO4 := Lib.hid ho4
    have HX4 := Lib.hid hx4
    obtain ⟨⟨z0, z1, z2, z3, z4, z5⟩, y0, y1, y2, y3, y4, y5⟩ := six_cells ho4 HFL.out
    clear ho4 hk4 hx4
    refine rdy 8 rfl (fun KK hKK => ?_)
    go_simp
    obtain ⟨ho5, hk5⟩ := six_set HO4.out HFL.out (.int .i64 k0) (.bool b0) (.int .i64 n0) (.string t0) (.slice A5 l5 c5) (.slice A6 l6 c6)
    have hx5 := JBox.but HX4.out hk5 (by simp; omega)
    have hall := (HG3.out.2.2.2.2.mono (T := Value.ownBlock (.slice A acc.length c) |>.toList.append [g, N + 2]) (by intro j hj; simp at hj ⊢; exact .inl hj)).trans ((HK4.out.mono (by intro j hj; simp at hj ⊢; exact .inr (.inr hj))).trans (hk5.mono (by intro j hj; simp at hj ⊢; exact .inr (.inl hj))))
    refine hKK _ _ (fun h0 => by cases h0) ?_
    clear hKK KK
    simp only [Act.put, CL]
    refine wpTill_done (by kernel_rfl) ?_ _
    go_end0
    rw [HRES.out]
    obtain ⟨hp1, hp2⟩ := HI2.out.push HJ2.out HAT.out hall hx5 ho5
    exact ⟨rfl, hp2 HR2.out, _, _, hp1⟩
end Go.Proofs.YtimioelnnhnbiaaGreatDoor
