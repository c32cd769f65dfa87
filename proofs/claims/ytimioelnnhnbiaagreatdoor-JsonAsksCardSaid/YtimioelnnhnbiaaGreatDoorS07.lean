/-
  Joined: WK WL. CONDITIONS: as each law says.
-/
import Derived.Test.YtimioelnnhnbiaaGreatDoorS06
import Derived.StillTailTactics
namespace Go.Proofs.YtimioelnnhnbiaaGreatDoor
open Go.RowKit
def zeroM : Value := .agg #[.string ⟨#[]⟩, .int .i64 0, .bool false, .int .i64 0, .string ⟨#[]⟩, .slice none 0 0, .slice none 0 0]
theorem info43 : (Tryz.prog.info? 89).map (fun i => (i.zero, i.size, i.bytes)) = some (some zeroM, 7, 104) := by kernel_rfl
theorem sev_cells {w : World} {B g n cap : Nat} {xs : List Value} (h : Own 89 7 B (.slice (some ⟨g, 0, none⟩) (n + 1) cap) (n + 1) (xs ++ [.string ⟨#[]⟩, .int .i64 0, .bool false, .int .i64 0, .string ⟨#[]⟩, .slice none 0 0, .slice none 0 0]) w) (hx : xs.length = n * 7) :
  (w.cell? ⟨g, n * 7, none⟩ = some (.string ⟨#[]⟩) ∧ w.cell? ⟨g, n * 7 + 1, none⟩ = some (.int .i64 0) ∧ w.cell? ⟨g, n * 7 + 2, none⟩ = some (.bool false) ∧ w.cell? ⟨g, n * 7 + 3, none⟩ = some (.int .i64 0) ∧ w.cell? ⟨g, n * 7 + 4, none⟩ = some (.string ⟨#[]⟩) ∧ w.cell? ⟨g, n * 7 + 5, none⟩ = some (.slice none 0 0) ∧ w.cell? ⟨g, n * 7 + 6, none⟩ = some (.slice none 0 0)) ∧
  w.frozen? ⟨g, n * 7, none⟩ = false ∧ w.frozen? ⟨g, n * 7 + 1, none⟩ = false ∧ w.frozen? ⟨g, n * 7 + 2, none⟩ = false ∧ w.frozen? ⟨g, n * 7 + 3, none⟩ = false ∧ w.frozen? ⟨g, n * 7 + 4, none⟩ = false ∧ w.frozen? ⟨g, n * 7 + 5, none⟩ = false ∧ w.frozen? ⟨g, n * 7 + 6, none⟩ = false := by
 have c : ∀ j, j < 7 → w.cell? ⟨g, n * 7 + j, none⟩ = [.string ⟨#[]⟩, .int .i64 0, .bool false, .int .i64 0, .string ⟨#[]⟩, .slice none 0 0, .slice none 0 0][j]? := fun j hj => by
  rw [h.own.cellAt (n * 7 + j) (by omega), List.getElem?_append_right (by omega), hx, Nat.add_sub_cancel_left]
 refine ⟨⟨(c 0 (by decide)).trans rfl, (c 1 (by decide)).trans rfl, (c 2 (by decide)).trans rfl, (c 3 (by decide)).trans rfl, (c 4 (by decide)).trans rfl, (c 5 (by decide)).trans rfl, (c 6 (by decide)).trans rfl⟩, h.own.frozenAt _, h.own.frozenAt _, h.own.frozenAt _, h.own.frozenAt _, h.own.frozenAt _, h.own.frozenAt _, h.own.frozenAt _⟩
theorem sev_set {w : World} {B g n cap : Nat} {xs : List Value} (h : Own 89 7 B (.slice (some ⟨g, 0, none⟩) (n + 1) cap) (n + 1) (xs ++ [.string ⟨#[]⟩, .int .i64 0, .bool false, .int .i64 0, .string ⟨#[]⟩, .slice none 0 0, .slice none 0 0]) w) (hx : xs.length = n * 7) (u0 u1 u2 u3 u4 u5 u6 : Value) :
  Own 89 7 B (.slice (some ⟨g, 0, none⟩) (n + 1) cap) (n + 1) (xs ++ [u0, u1, u2, u3, u4, u5, u6]) (((((((w.setCell ⟨g, n * 7, none⟩ u0).setCell ⟨g, n * 7 + 1, none⟩ u1).setCell ⟨g, n * 7 + 2, none⟩ u2).setCell ⟨g, n * 7 + 3, none⟩ u3).setCell ⟨g, n * 7 + 4, none⟩ u4).setCell ⟨g, n * 7 + 5, none⟩ u5).setCell ⟨g, n * 7 + 6, none⟩ u6) ∧
  But [g] w (((((((w.setCell ⟨g, n * 7, none⟩ u0).setCell ⟨g, n * 7 + 1, none⟩ u1).setCell ⟨g, n * 7 + 2, none⟩ u2).setCell ⟨g, n * 7 + 3, none⟩ u3).setCell ⟨g, n * 7 + 4, none⟩ u4).setCell ⟨g, n * 7 + 5, none⟩ u5).setCell ⟨g, n * 7 + 6, none⟩ u6) := by
 obtain ⟨a1, b1⟩ := h.set (n * 7) u0
 obtain ⟨a2, b2⟩ := a1.set (n * 7 + 1) u1
 obtain ⟨a3, b3⟩ := a2.set (n * 7 + 2) u2
 obtain ⟨a4, b4⟩ := a3.set (n * 7 + 3) u3
 obtain ⟨a5, b5⟩ := a4.set (n * 7 + 4) u4
 obtain ⟨a6, b6⟩ := a5.set (n * 7 + 5) u5
 obtain ⟨a7, b7⟩ := a6.set (n * 7 + 6) u6
 refine ⟨?_, (((((b1.trans b2).trans b3).trans b4).trans b5).trans b6).trans b7⟩
 have e : ∀ (j : Nat) (ys : List Value) (u : Value), (xs ++ ys).set (n * 7 + j) u = xs ++ ys.set j u := fun j ys u => by
  rw [List.set_append_right _ _ (by omega), hx, Nat.add_sub_cancel_left]
 have e0 := e 0
 simp only [Nat.add_zero] at e0
 rw [e0, e 1, e 2, e 3, e 4, e 5, e 6] at a7
 exact a7
structure MbAt (w0 : World) (b N : Nat) (acc : List (Js.Bs × Js.J)) (v : Value) (rs : List (List Value)) (w : World) : Prop where
 rbox : w.heap[N]? = some (.cells #[.pointer (some ⟨b, 0, none⟩)] 103 (0, 0))
 zbox : JBox w (N + 1) (.int .i64 0) (.bool false) (.int .i64 0) (.string ⟨#[]⟩) (.slice none 0 0) (.slice none 0 0)
 xbox : JBox w (N + 2) (.int .i64 6) (.bool false) (.int .i64 0) (.string ⟨#[]⟩) (.slice none 0 0) v
 own : Own 89 7 (N + 3) v acc.length rs.flatten w
 len : rs.length = acc.length
 each : ∀ (k : Nat) (nm : Js.Bs) (x : Js.J), acc[k]? = some (nm, x) → ∃ vs, rs[k]? = some (.string (str nm) :: vs) ∧ JV w (fun g => N + 3 ≤ g ∧ v.ownBlock ≠ some g) x vs
 six : ∀ vs ∈ rs, vs.length = 7
 but : But [b] w0 w
 lt : b < N
 base : w0.heap.size ≤ N
theorem MbAt.keep {w0 w w' : World} {b N : Nat} {acc : List (Js.Bs × Js.J)} {v : Value} {rs : List (List Value)} (h : MbAt w0 b N acc v rs w) (hb : But [b] w w') : MbAt w0 b N acc v rs w' := by
 have hlt := h.lt
 refine ⟨hb.blk h.rbox (by simp; omega), h.zbox.but hb (by simp; omega), h.xbox.but hb (by simp; omega), h.own.but hb (by intro j hj; simp at hj; omega), h.len, fun k nm x hx => ?_, h.six, h.but.trans hb, hlt, h.base⟩
 obtain ⟨vs, h1, h2⟩ := h.each k nm x hx
 exact ⟨vs, h1, h2.but hb (by intro j hj; simp at hj; subst hj; omega)⟩
theorem MbAt.fresh {w0 w : World} {b N g : Nat} {acc : List (Js.Bs × Js.J)} {v : Value} {rs : List (List Value)} (h : MbAt w0 b N acc v rs w) (hg : w.heap.size ≤ g) : N + 3 ≤ g ∧ v.ownBlock ≠ some g := by
 have h1 := h.xbox.lt
 refine ⟨by omega, fun e => ?_⟩
 have := (h.own.lt g e).2
 omega
theorem MbAt.ownNot {w0 w : World} {b N : Nat} {acc : List (Js.Bs × Js.J)} {v : Value} {rs : List (List Value)} (h : MbAt w0 b N acc v rs w) {j : Nat} (hj : j < N + 3) : j ∉ v.ownBlock.toList := by
 intro hm
 have : v.ownBlock = some j := by simpa using hm
 have := (h.own.lt j this).1
 omega
theorem MbAt.grown {w0 w w' : World} {b N : Nat} {acc : List (Js.Bs × Js.J)} {v : Value} {rs : List (List Value)} (h : MbAt w0 b N acc v rs w) (hg : w.grownBy w' v.ownBlock) :
  JBox w' (N + 2) (.int .i64 6) (.bool false) (.int .i64 0) (.string ⟨#[]⟩) (.slice none 0 0) v ∧ w'.heap[N]? = some (.cells #[.pointer (some ⟨b, 0, none⟩)] 103 (0, 0)) ∧ JBox w' (N + 1) (.int .i64 0) (.bool false) (.int .i64 0) (.string ⟨#[]⟩) (.slice none 0 0) (.slice none 0 0) ∧ But [b] w0 w' ∧ But v.ownBlock.toList w w' := by
 have hk := But.grown hg
 refine ⟨h.xbox.but hk (h.ownNot (by omega)), hk.blk h.rbox (h.ownNot (by omega)), h.zbox.but hk (h.ownNot (by omega)), h.but.on hk (fun j hj => ?_), hk⟩
 have h1 : v.ownBlock = some j := by simpa using hj
 have := (h.own.lt j h1).1
 have := h.base
 exact .inr (by omega)
theorem MbAt.push {w0 w w' : World} {b N g cap : Nat} {acc : List (Js.Bs × Js.J)} {v : Value} {rs : List (List Value)} {nm : Js.Bs} {x : Js.J} {vs : List Value} (h : MbAt w0 b N acc v rs w) (hj : JV w (fun j => N + 3 ≤ j ∧ v.ownBlock ≠ some j) x vs)
  (hat : v.ownBlock = some g ∨ g = w.heap.size) (hk : But (v.ownBlock.toList.append [g, N + 2]) w w')
  (hx : JBox w' (N + 2) (.int .i64 6) (.bool false) (.int .i64 0) (.string ⟨#[]⟩) (.slice none 0 0) (.slice (some ⟨g, 0, none⟩) (acc.length + 1) cap))
  (ho : Own 89 7 (N + 3) (.slice (some ⟨g, 0, none⟩) (acc.length + 1) cap) (acc.length + 1) (rs.flatten ++ (.string (str nm) :: vs)) w') :
  MbAt w0 b N (acc ++ [(nm, x)]) (.slice (some ⟨g, 0, none⟩) (acc.length + 1) cap) (rs ++ [.string (str nm) :: vs]) w' ∧ ∀ {s : Js.Bs} {st : Js.St}, RdAt w b s st → RdAt w' b s st := by
 have hg := (ho.lt g rfl).1
 have hlt := h.lt
 have hbase := h.base
 have hin : ∀ j, j ∈ v.ownBlock.toList.append [g, N + 2] → N + 2 ≤ j := by
  intro j hj
  simp at hj
  rcases hj with hj | rfl | rfl
  ·have := (h.own.lt j hj).1; omega
  ·omega
  ·omega
 have hout : ∀ j, N + 3 ≤ j ∧ v.ownBlock ≠ some j → j < w.heap.size → j ∉ v.ownBlock.toList.append [g, N + 2] := by
  intro j h1 h2 hm
  simp at hm
  rcases hm with hm | rfl | rfl
  ·exact h1.2 hm
  ·rcases hat with e | e
   ·exact h1.2 e
   ·omega
  ·omega
 have hT : ∀ j, N + 3 ≤ j ∧ v.ownBlock ≠ some j → j < w.heap.size → N + 3 ≤ j ∧ Value.ownBlock (.slice (some ⟨g, 0, none⟩) (acc.length + 1) cap) ≠ some j := by
  intro j h1 h2
  refine ⟨h1.1, fun e => ?_⟩
  have e : g = j := by simpa [Value.ownBlock] using e
  subst e
  rcases hat with e | e
  ·exact h1.2 e
  ·omega
 refine ⟨⟨hk.blk h.rbox (fun hm => by have := hin _ hm; omega), h.zbox.but hk (fun hm => by have := hin _ hm; omega), hx, by rw [List.length_append, List.flatten_append]; simpa using ho, by simp [h.len], ?_, ?_, h.but.on hk (fun j hj => .inr (by have := hin _ hj; omega)), hlt, hbase⟩, fun hr => hk.blk hr (fun hm => by have := hin _ hm; omega)⟩
 ·intro k nm' y hy
  by_cases hlt2 : k < acc.length
  ·rw [List.getElem?_append_left hlt2] at hy
   obtain ⟨us, h1, h2⟩ := h.each k nm' y hy
   exact ⟨us, by rw [List.getElem?_append_left (by rw [h.len]; exact hlt2)]; exact h1, JV.keep hk.size hT (fun j h3 h4 => hk.block j h4 (hout j h3 h4)) _ _ h2⟩
  ·have hkl := (List.getElem?_eq_some_iff.1 hy).1
   rw [List.length_append, List.length_singleton] at hkl
   obtain rfl : k = acc.length := by omega
   rw [List.getElem?_append_right (Nat.le_refl _), Nat.sub_self] at hy
   simp at hy
   obtain ⟨rfl, rfl⟩ := hy
   exact ⟨vs, by rw [← h.len, List.getElem?_append_right (Nat.le_refl _), Nat.sub_self]; rfl, JV.keep hk.size hT (fun j h3 h4 => hk.block j h4 (hout j h3 h4)) _ _ hj⟩
 ·intro us hus
  rcases List.mem_append.1 hus with h1 | h1
  ·exact h.six us h1
  ·rw [List.mem_singleton] at h1; subst h1; rw [List.length_cons, hj.len]
def MbI (w0 : World) (b N : Nat) (acc : List (Js.Bs × Js.J)) (w : World) : Prop := ∃ v rs, MbAt w0 b N acc v rs w
-- THE WALK
theorem str_list (s : Js.Bs) : (str s).toList = s := by unfold str; rw [ByteArray.toList_eq]
theorem str_beq (a c : Js.Bs) : ((str a).toList == (str c).toList) = decide (a = c) := by
 rw [str_list, str_list]
 by_cases h : a = c
 ·subst h; simp
 ·rw [decide_eq_false h]; exact beq_eq_false_iff_ne.2 h
theorem flat_get {m : Nat} : ∀ (rs : List (List Value)), (∀ r ∈ rs, r.length = m) → ∀ (k j : Nat) (r : List Value), rs[k]? = some r → j < m → rs.flatten[k * m + j]? = r[j]?
 | [], _, k, j, r, h, _ => by simp at h
 | r0 :: t, h6, 0, j, r, h, hj => by
  simp at h
  subst h
  rw [List.flatten_cons, Nat.zero_mul, Nat.zero_add, List.getElem?_append_left (by rw [h6 r0 (by simp)]; exact hj)]
 | r0 :: t, h6, k + 1, j, r, h, hj => by
  have ih := flat_get t (fun r hr => h6 r (List.mem_cons_of_mem _ hr)) k j r (by simpa using h) hj
  rw [List.flatten_cons, List.getElem?_append_right (by rw [h6 r0 (by simp), Nat.succ_mul]; omega), h6 r0 (by simp), ← ih]
  congr 1
  rw [Nat.succ_mul]; omega
theorem MbAt.cells {w0 w : World} {b N c : Nat} {acc : List (Js.Bs × Js.J)} {A : Option Addr} {rs : List (List Value)} (h : MbAt w0 b N acc (.slice A acc.length c) rs w) {k : Nat} {nm : Js.Bs} {y : Js.J} (hy : acc[k]? = some (nm, y)) :
  ∃ g k0 b0 n0 t0 A5 l5 c5 A6 l6 c6, A = some ⟨g, 0, none⟩ ∧ w.cell? ⟨g, k * 7, none⟩ = some (.string (str nm)) ∧ w.cell? ⟨g, k * 7 + 1, none⟩ = some (.int .i64 k0) ∧ w.cell? ⟨g, k * 7 + 2, none⟩ = some (.bool b0) ∧ w.cell? ⟨g, k * 7 + 3, none⟩ = some (.int .i64 n0) ∧ w.cell? ⟨g, k * 7 + 4, none⟩ = some (.string t0) ∧ w.cell? ⟨g, k * 7 + 5, none⟩ = some (.slice A5 l5 c5) ∧ w.cell? ⟨g, k * 7 + 6, none⟩ = some (.slice A6 l6 c6) := by
 obtain ⟨vs, h1, h2⟩ := h.each k nm y hy
 obtain ⟨A5, c5, A6, c6, k0, b0, n0, t0, l5, l6, rfl⟩ := h2.shape
 have hk := (List.getElem?_eq_some_iff.1 hy).1
 obtain ⟨g, rfl⟩ : ∃ g, A = some ⟨g, 0, none⟩ := by
  rcases h.own.own.2 with ⟨_, h0⟩ | ⟨g, cap, cur, hv, _⟩
  ·omega
  ·simp at hv; exact ⟨g, hv.1⟩
 have e : ∀ j, j < 7 → w.cell? ⟨g, k * 7 + j, none⟩ = [Value.string (str nm), .int .i64 k0, .bool b0, .int .i64 n0, .string t0, .slice A5 l5 c5, .slice A6 l6 c6][j]? := fun j hj => by
  rw [h.own.own.cellAt (k * 7 + j) (by omega), flat_get rs h.six k j _ h1 hj]
 exact ⟨g, k0, b0, n0, t0, A5, l5, c5, A6, l6, c6, rfl, (e 0 (by decide)).trans rfl, (e 1 (by decide)).trans rfl, (e 2 (by decide)).trans rfl, (e 3 (by decide)).trans rfl, (e 4 (by decide)).trans rfl, (e 5 (by decide)).trans rfl, (e 6 (by decide)).trans rfl⟩
def memberOne (s : Js.Bs) (n : Nat) (acc : List (Js.Bs × Js.J)) (st : Js.St) : Js.Res (List (Js.Bs × Js.J)) :=
 (Js.text s (Js.blanks s st)).bind fun name st => (Js.take s 58 (Js.blanks s st)).bind fun _ st =>
  (Js.value s n { st with large := st.large || acc.any fun m => decide (m.1 = name) }).bind fun x st => .ok (if st.large then acc else acc ++ [(name, x)]) st
theorem MbAt.rcell {w0 w : World} {b N : Nat} {acc : List (Js.Bs × Js.J)} {v : Value} {rs : List (List Value)} (h : MbAt w0 b N acc v rs w) : w.cell? ⟨N, 0, none⟩ = some (.pointer (some ⟨b, 0, none⟩)) := (blk_cells h.rbox 0).trans rfl
set_option maxRecDepth 100000 in
set_option maxHeartbeats 8000000 in
theorem member_any (w0 : World) (b N : Nat) (s : Js.Bs) (hlen : s.length ≤ 1073741824) (n : Nat) (hval : ValueC b s n) (acc : List (Js.Bs × Js.J)) (st : Js.St) (w : World)
  (h : RdAt w b s st) (hF : Fine s st) (hacc : acc.length ≤ st.at_) (hI : MbI w0 b N acc w) (hne : memberOne s n acc st ≠ .out) :
  Calls Tryz.prog 92 #[.pointer (some ⟨N, 0, none⟩), .pointer (some ⟨N + 2, 0, none⟩)] w (LOut b s (MbI w0 b N) (But [b] w0) (memberOne s n acc st)) := by
 obtain ⟨v, rs, hI⟩ := hI
 obtain ⟨A, c, hv⟩ := own_shape hI.own
 have HV := Lib.hid hval
 have HNE := Lib.hid hne
 have hlt := hI.lt
 have hat := hF.at_
 have HIT := Lib.hid hI
 have HR := Lib.hid h
 have HF := Lib.hid hF
 have r0 := hI.rcell
 have HONE : Hid (memberOne s n acc st = (Js.text s (Js.blanks s st)).bind fun name st => (Js.take s 58 (Js.blanks s st)).bind fun _ st => (Js.value s n { st with large := st.large || acc.any fun m => decide (m.1 = name) }).bind fun x st => .ok (if st.large then acc else acc ++ [(name, x)]) st) := Lib.hid rfl
 clear hval hne hI h hF
 go_enter Tryz.func92, Tryz.ntmps92
 go_wp2_with fail
 refine (blanks_any b s st _ HR.out hlen hat).mono ?_
 rintro e w1 ⟨rfl, hr1, hb1⟩
 obtain ⟨hF1, -, hat1⟩ := HF.out.blanks
 generalize Js.blanks s st = st1 at hr1 hF1 hat1 HONE
 have HR1 := Lib.hid hr1
 have HI1 := Lib.hid (HIT.out.keep hb1)
 have HF1 := Lib.hid hF1
 have HA1 := Lib.hid hat1
 clear hr1 hb1 HR HIT r0 hF1 hat1
 have r0 := HI1.out.rcell
 go_wp2_with fail
 have hneT : Js.text s st1 ≠ .out := fun e0 => HNE.out (by rw [HONE.out, e0]; rfl)
 have hb40 : st1.bytes ≤ 1099511627776 := by have := HF1.out.bytes; have := HF1.out.at_; omega
 refine (text_any b s st1 _ HR1.out hlen HF1.out.at_ hb40 hneT).mono ?_
 intro e w2 ho
 obtain ⟨r, hr⟩ : ∃ r, Js.text s st1 = r := ⟨_, rfl⟩
 rw [hr] at ho HONE
 have HTX := Lib.hid hr
 have HNT := Lib.hid hneT
 clear hr r0 hneT hb40
 cases r with
 | out => exact absurd HTX.out HNT.out
 | bad k =>
  obtain ⟨rfl, hb2⟩ := ho
  have HE : Hid (memberOne s n acc st = .bad k) := Lib.hid (by rw [HONE.out]; rfl)
  have HD := Lib.hid (HI1.out.but.trans hb2)
  clear hb2 HONE
  unfold bad
  go_wp2_with fail
  exact lout_bad HE.out rfl HD.out
 | ok name st2 =>
  obtain ⟨rfl, hr2, hb2⟩ := ho
  have HONE : Hid (memberOne s n acc st = (Js.take s 58 (Js.blanks s st2)).bind fun _ st => (Js.value s n { st with large := st.large || acc.any fun m => decide (m.1 = name) }).bind fun x st => .ok (if st.large then acc else acc ++ [(name, x)]) st) := HONE
  obtain ⟨t1, t2, t3, t4, t5⟩ := text_at HTX.out
  have HF2 : Hid (Fine s st2) := Lib.hid ⟨t1, by have := HF1.out.deep; omega, by have := HF1.out.nodes; omega, by have := HF1.out.bytes; omega⟩
  have HA2 : Hid (acc.length ≤ st2.at_) := Lib.hid (by have := HA1.out; omega)
  have HR2 := Lib.hid hr2
  have HI2 := Lib.hid (HI1.out.keep hb2)
  clear hr2 hb2 HR1 HI1 HF1 HA1 HF t1 t2 t3 t4 t5 HTX HNT hacc hat
  have r0 := HI2.out.rcell
  go_wp2_with fail
  refine (blanks_any b s st2 _ HR2.out hlen HF2.out.at_).mono ?_
  rintro e w3 ⟨rfl, hr3, hb3⟩
  obtain ⟨hF3, -, hat3⟩ := HF2.out.blanks
  generalize Js.blanks s st2 = st3 at hr3 hF3 hat3 HONE
  have HR3 := Lib.hid hr3
  have HI3 := Lib.hid (HI2.out.keep hb3)
  have HF3 := Lib.hid hF3
  have HA3 : Hid (acc.length ≤ st3.at_) := Lib.hid (Nat.le_trans HA2.out hat3)
  clear hr3 hb3 HR2 HI2 r0 hF3 hat3 HF2 HA2
  have r0 := HI3.out.rcell
  go_wp2_with fail
  refine (take_any b s 58 st3 _ HR3.out hlen HF3.out.at_).mono ?_
  intro e w4 ho
  rcases take_inv s 58 st3 with ht | ht
  rotate_left
  ·rw [ht] at ho
   obtain ⟨rfl, hb4⟩ := ho
   have HE : Hid (memberOne s n acc st = .bad st3.at_) := Lib.hid (by rw [HONE.out, ht]; rfl)
   have HD := Lib.hid (HI3.out.but.trans hb4)
   clear hb4 HONE ht r0
   unfold bad
   go_wp2_with fail
   exact lout_bad HE.out rfl HD.out
  ·rw [ht] at ho
   obtain ⟨rfl, hr4, hb4⟩ := ho
   have HONE : Hid (memberOne s n acc st = (Js.value s n { Js.step st3 with large := (Js.step st3).large || acc.any fun m => decide (m.1 = name) }).bind fun x st => .ok (if st.large then acc else acc ++ [(name, x)]) st) := Lib.hid (by rw [HONE.out, ht]; rfl)
   have HF4 := Lib.hid (HF3.out.step (take_le ht))
   have HA4 : Hid (acc.length ≤ (Js.step st3).at_) := Lib.hid (Nat.le_succ_of_le HA3.out)
   generalize Js.step st3 = st4 at hr4 HONE HF4 HA4
   have HR4 := Lib.hid hr4
   have HI4 := Lib.hid (HI3.out.keep hb4)
   clear hr4 hb4 HR3 HI3 r0 HF3 HA3 ht
   have r0 := HI4.out.rcell
   obtain ⟨x0, x1, x2, x3, x4, x5⟩ := HI4.out.xbox.cells
   subst hv
   clear x0 x1 x2 x3 x4
   go_wp2_with fail
   clear x5
   have hal : acc.length ≤ 1073741824 := by have := HA4.out; have := HF4.out.at_; omega
   go_loopw [17] (fun i wr => ∃ k : Nat, k ≤ acc.length ∧ i = .int .i64 k ∧ Hid (RdAt wr b s { st4 with large := st4.large || (acc.take k).any fun m => decide (m.1 = name) }) ∧ Hid (MbAt w0 b N acc (.slice A acc.length c) rs wr)) (fun i _ => acc.length - (intOf i).toNat)
   case atStart => exact ⟨0, Nat.zero_le _, rfl, Lib.hid (by rw [show (st4.large || (acc.take 0).any fun m => decide (m.1 = name)) = st4.large by simp]; exact HR4.out), HI4⟩
   case round =>
    obtain ⟨k, hk, rfl, HR, HI⟩ := hrel
    clear HR4 HI4 r0
    by_cases hlt2 : k < acc.length
    ·obtain ⟨nm, y, hy⟩ : ∃ nm y, acc[k]? = some (nm, y) := ⟨acc[k].1, acc[k].2, List.getElem?_eq_getElem hlt2⟩
     obtain ⟨g, k0, b0, n0, t0, A5, l5, c5, A6, l6, c6, rfl, q0, q1, q2, q3, q4, q5, q6⟩ := HI.out.cells hy
     obtain ⟨-, -, -, -, -, d5⟩ := HR.out.cells
     have f5 := HR.out.free 5
     have r0 := HI.out.rcell
     have hbl := HR.out.lt
     have hNl : N < wr.heap.size := (Array.getElem?_eq_some_iff.1 HI.out.rbox).1
     have HNX : Hid ((acc.take (k + 1)).any (fun m => decide (m.1 = name)) = ((acc.take k).any (fun m => decide (m.1 = name)) || decide (nm = name))) := Lib.hid (by
      rw [List.take_add_one, hy, List.any_append]; simp)
     obtain ⟨L, hL⟩ : ∃ L, (st4.large || (acc.take k).any fun m => decide (m.1 = name)) = L := ⟨_, rfl⟩
     rw [hL] at HR
     have HL := Lib.hid hL
     have hbel := below_box wr (.cells #[.string (str nm), .int .i64 k0, .bool b0, .int .i64 n0, .string t0, .slice A5 l5 c5, .slice A6 l6 c6] 89)
     have HBx := Lib.hid (heap_alloc_new wr (.cells #[.string (str nm), .int .i64 k0, .bool b0, .int .i64 n0, .string t0, .slice A5 l5 c5, .slice A6 l6 c6] 89))
     have HRa := Lib.hid (HR.out.next hbel)
     have HIa := Lib.hid (HI.out.keep (But.of (S := [b]) hbel))
     clear hL hy d5 f5 hbel
     go_upto_region 7 with fail
     generalize (wr.alloc (.cells #[.string (str nm), .int .i64 k0, .bool b0, .int .i64 n0, .string t0, .slice A5 l5 c5, .slice A6 l6 c6] 89)) = wA at HBx HRa HIa ⊢
     generalize wr.heap.size = M at HBx ⊢
     have a0 : wA.cell? ⟨M, 0, none⟩ = some (.string (str nm)) := (blk_cells HBx.out 0).trans rfl
     have a1 := HIa.out.rcell
     obtain ⟨-, -, -, -, -, d5⟩ := HRa.out.cells
     have f5 := HRa.out.free 5
     dsimp only at d5
     clear r0 q0 q1 q2 q3 q4 q5 q6 HR HI hbl hNl
     cases L
     ·have hr9 := HRa.out.toLarge ((str nm).toList == (str name).toList)
      have hi9 := HIa.out.keep (HRa.out.but 5 (.bool ((str nm).toList == (str name).toList)))
      have HR9 : Hid (RdAt (wA.setCell ⟨b, 5, none⟩ (.bool ((str nm).toList == (str name).toList))).drew b s { st4 with large := st4.large || (acc.take (k + 1)).any fun m => decide (m.1 = name) }) := Lib.hid (by
       rw [HNX.out, ← Bool.or_assoc, HL.out, Bool.false_or, ← str_beq]
       exact hr9.drewN 1)
      have HI9 : Hid (MbAt w0 b N acc (.slice (some ⟨g, 0, none⟩) acc.length c) rs (wA.setCell ⟨b, 5, none⟩ (.bool ((str nm).toList == (str name).toList))).drew) := Lib.hid (hi9.keep ((But.refl [b] _).drewN 1))
      clear hr9 hi9
      go_still_tail 13, (by kernel_rfl)
      go_wp2_with fail
      go_roundw
      case rel => exact ⟨k + 1, by omega, by go_num, HR9, HI9⟩
      case measure => simp [intOf]; omega
     ·have hr9 := HRa.out.toLarge true
      have hi9 := HIa.out.keep (HRa.out.but 5 (.bool true))
      have HR9 : Hid (RdAt (wA.setCell ⟨b, 5, none⟩ (.bool true)).drew b s { st4 with large := st4.large || (acc.take (k + 1)).any fun m => decide (m.1 = name) }) := Lib.hid (by
       rw [HNX.out, ← Bool.or_assoc, HL.out, Bool.true_or]
       exact hr9.drewN 1)
      have HI9 : Hid (MbAt w0 b N acc (.slice (some ⟨g, 0, none⟩) acc.length c) rs (wA.setCell ⟨b, 5, none⟩ (.bool true)).drew) := Lib.hid (hi9.keep ((But.refl [b] _).drewN 1))
      clear hr9 hi9
      go_still_tail 13, (by kernel_rfl)
      go_wp2_with fail
      go_roundw
      case rel => exact ⟨k + 1, by omega, by go_num, HR9, HI9⟩
      case measure => simp [intOf]; omega
    ·obtain rfl : k = acc.length := by omega
     have hst5 : Fine s { st4 with large := st4.large || (acc.take acc.length).any fun m => decide (m.1 = name) } := ⟨HF4.out.at_, HF4.out.deep, HF4.out.nodes, HF4.out.bytes⟩
     have HONE : Hid (memberOne s n acc st = (Js.value s n { st4 with large := st4.large || (acc.take acc.length).any fun m => decide (m.1 = name) }).bind fun x st => .ok (if st.large then acc else acc ++ [(name, x)]) st) := Lib.hid (by rw [List.take_length]; exact HONE.out)
     have hal5 : acc.length ≤ ({ st4 with large := st4.large || (acc.take acc.length).any fun m => decide (m.1 = name) } : Js.St).at_ := HA4.out
     generalize { st4 with large := st4.large || (acc.take acc.length).any fun m => decide (m.1 = name) } = st5 at HR hst5 HONE hal5
     have HF5 := Lib.hid hst5
     have hneV : Js.value s n st5 ≠ .out := fun e0 => HNE.out (by rw [HONE.out, e0]; rfl)
     have HNV := Lib.hid hneV
     have r0 := HI.out.rcell
     clear hst5 hneV
     go_wp2_with fail
     refine (HV.out st5 wr HR.out HF5.out HNV.out).mono ?_
     intro e w5 ho
     obtain ⟨r, hr⟩ : ∃ r, Js.value s n st5 = r := ⟨_, rfl⟩
     have HRQ := Lib.hid hr
     rw [hr] at ho
     clear hr r0
     cases r with
     | out => exact absurd HRQ.out HNV.out
     | bad kb =>
      obtain ⟨rfl, hb5⟩ := ho
      have HE : Hid (memberOne s n acc st = .bad kb) := Lib.hid (by rw [HONE.out, HRQ.out]; rfl)
      have HD := Lib.hid (HI.out.but.trans hb5)
      clear hb5 HONE
      unfold bad
      go_wp2_with fail
      exact lout_bad HE.out rfl HD.out
     | ok x st6 =>
      obtain ⟨⟨vs, rfl, hjv⟩, hr5, hb5⟩ := ho
      have HRES0 : Hid (memberOne s n acc st = .ok (if st6.large then acc else acc ++ [(name, x)]) st6) := Lib.hid (by rw [HONE.out, HRQ.out]; rfl)
      obtain ⟨A5, c5, A6, c6, k0, b0, n0, t0, l5, l6, rfl⟩ := hjv.shape
      have HI5 := HI.out.keep hb5
      have HJ5 := hjv.wide (T := fun j => N + 3 ≤ j ∧ Value.ownBlock (.slice A acc.length c) ≠ some j) (fun g hg _ => HI.out.fresh hg)
      have hbel := below_box w5 (.cells #[.int .i64 k0, .bool b0, .int .i64 n0, .string t0, .slice A5 l5 c5, .slice A6 l6 c6] 25)
      have HB6 : Hid (JBox _ w5.heap.size _ _ _ _ _ _) := Lib.hid (heap_alloc_new w5 (.cells #[.int .i64 k0, .bool b0, .int .i64 n0, .string t0, .slice A5 l5 c5, .slice A6 l6 c6] 25))
      have HI6 := Lib.hid (HI5.keep (But.of (S := [b]) hbel))
      have HR6 := Lib.hid (hr5.next hbel)
      have HJ6 := Lib.hid (HJ5.next hbel)
      have HMN : Hid (w5.heap.size ∉ (Value.ownBlock (.slice A acc.length c)).toList) := Lib.hid (fun hm => (HI5.fresh (Nat.le_refl _)).2 (by simpa using hm))
      have hr0 := HI5.rcell
      have hNl : N < w5.heap.size := (Array.getElem?_eq_some_iff.1 HI5.rbox).1
      have hbl := hr5.lt
      obtain ⟨-, -, -, -, -, d5⟩ := hr5.cells
      obtain ⟨L, hL⟩ : ∃ L, st6.large = L := ⟨_, rfl⟩
      rw [hL] at d5
      have HL := Lib.hid hL
      clear hjv hr5 hb5 HI5 HJ5 hbel HR HI HONE HRQ HNV HF5 hL
      cases L
      ·have HRES : Hid (memberOne s n acc st = .ok (acc ++ [(name, x)]) st6) := Lib.hid (by rw [HRES0.out, HL.out]; rfl)
       clear HRES0
       go_upto_region 11 with fail
       generalize (w5.alloc (.cells #[.int .i64 k0, .bool b0, .int .i64 n0, .string t0, .slice A5 l5 c5, .slice A6 l6 c6] 25)) = w6 at HB6 HI6 HR6 HJ6 ⊢
       generalize w5.heap.size = M at HB6 HMN ⊢
       clear hr0 hNl hbl d5
       refine wp_region_any (by kernel_rfl) ?_
       change wpAny _ _ _ _ _ _ _ (World.drew _)
       have HS : Hid ((w6.drew.cell? ⟨N + 2, 5, none⟩ = some (.slice A acc.length c)) ∧ JBox w6.drew M (Value.int .i64 k0) (Value.bool b0) (Value.int .i64 n0) (Value.string t0) (Value.slice A5 l5 c5) (Value.slice A6 l6 c6)) := Lib.hid ⟨HI6.out.xbox.cells.2.2.2.2.2, HB6.out.next (below_drewN (Below.refl _ _) 1)⟩
       have HI7 : Hid (MbAt w0 b N acc (.slice A acc.length c) rs w6.drew) := Lib.hid (HI6.out.keep ((But.refl [b] w6).drewN 1))
       have HR7 : Hid (RdAt w6.drew b s st6) := Lib.hid (HR6.out.drewN 1)
       have HJ7 : Hid (JV w6.drew (fun j => N + 3 ≤ j ∧ Value.ownBlock (.slice A acc.length c) ≠ some j) x [.int .i64 k0, .bool b0, .int .i64 n0, .string t0, .slice A5 l5 c5, .slice A6 l6 c6]) := Lib.hid (HJ6.out.next (below_drewN (Below.refl _ _) 1))
       generalize w6.drew = W at HS HI7 HR7 HJ7 ⊢
       clear HI6 HR6 HJ6 HB6
       refine wpAny_of_till (S := fun W => (W.cell? ⟨N + 2, 5, none⟩ = some (.slice A acc.length c)) ∧ JBox W M (Value.int .i64 k0) (Value.bool b0) (Value.int .i64 n0) (Value.string t0) (Value.slice A5 l5 c5) (Value.slice A6 l6 c6)) (st := fun l => l.getD 11 false) _ _ _ _ ?_
       change wpTill _ _ _ _ _ _ _ #[false, false, false, false, false, false, false, false, false, false, false, false] _ _
       refine tk 0 (.pointer (some ⟨N + 2, 5, none⟩)) rfl (fun l h h9 => Shutd.step h (j := 11) (k := 0) (by kernel_rfl) h9) (Or.inl ⟨by rfl, ?yb0⟩) HS.out (fun hsh' => ?_)
       case yb0 => (intro w hS; obtain ⟨s1, s2⟩ := hS; obtain ⟨v0, v1, v2, v3, v4, v5⟩ := s2.cells; go_simp; (try with_reducible rfl))
       have hsh := hsh'
       clear hsh'
       simp only [Act.put, CL] at hsh ⊢
       refine wpTill_take (i := 1) (v := .slice A acc.length c) rfl (by kernel_rfl) (by kernel_rfl) (by kernel_rfl) hsh (fun l h h9 => Shutd.step h (j := 11) (k := 1) (by kernel_rfl) h9) (fun l => getD_set_ne false (by decide)) (fun _ _ _ h => h) (Or.inl ⟨by rfl, ?yb1⟩) HS.out (fun hsh' => ?_)
       case yb1 => (intro w hS; obtain ⟨s1, s2⟩ := hS; obtain ⟨v0, v1, v2, v3, v4, v5⟩ := s2.cells; go_simp; (try with_reducible rfl))
       have hsh := hsh'
       clear hsh'
       simp only [Act.put, CL] at hsh ⊢
       refine wpTill_take (i := 2) (v := .string (str name)) rfl (by kernel_rfl) (by kernel_rfl) (by kernel_rfl) hsh (fun l h h9 => Shutd.step h (j := 11) (k := 2) (by kernel_rfl) h9) (fun l => getD_set_ne false (by decide)) (fun _ _ _ h => h) (Or.inl ⟨by rfl, ?yb2⟩) HS.out (fun hsh' => ?_)
       case yb2 => (intro w hS; obtain ⟨s1, s2⟩ := hS; obtain ⟨v0, v1, v2, v3, v4, v5⟩ := s2.cells; go_simp; (try with_reducible rfl))
       have hsh := hsh'
       clear hsh'
       simp only [Act.put, CL] at hsh ⊢
       refine wpTill_take (i := 3) (v := .agg #[.int .i64 k0, .bool b0, .int .i64 n0, .string t0, .slice A5 l5 c5, .slice A6 l6 c6]) rfl (by kernel_rfl) (by kernel_rfl) (by kernel_rfl) hsh (fun l h h9 => Shutd.step h (j := 11) (k := 3) (by kernel_rfl) h9) (fun l => getD_set_ne false (by decide)) (fun _ _ _ h => h) (Or.inl ⟨by rfl, ?yb3⟩) HS.out (fun hsh' => ?_)
       case yb3 => (intro w hS; obtain ⟨s1, s2⟩ := hS; obtain ⟨v0, v1, v2, v3, v4, v5⟩ := s2.cells; go_simp; (try with_reducible rfl))
       have hsh := hsh'
       clear hsh'
       simp only [Act.put, CL] at hsh ⊢
       refine wpTill_take (i := 4) (v := .agg #[.string (str name), .int .i64 k0, .bool b0, .int .i64 n0, .string t0, .slice A5 l5 c5, .slice A6 l6 c6]) rfl (by kernel_rfl) (by kernel_rfl) (by kernel_rfl) hsh (fun l h h9 => Shutd.step h (j := 11) (k := 4) (by kernel_rfl) h9) (fun l => getD_set_ne false (by decide)) (fun _ _ _ h => h) (Or.inl ⟨by rfl, ?yb4⟩) HS.out (fun hsh' => ?_)
       case yb4 => (intro w hS; obtain ⟨s1, s2⟩ := hS; obtain ⟨v0, v1, v2, v3, v4, v5⟩ := s2.cells; go_simp; (try with_reducible rfl))
       have hsh := hsh'
       clear hsh'
       simp only [Act.put, CL] at hsh ⊢
       refine wpTill_take (i := 5) (v := .int .i64 acc.length) rfl (by kernel_rfl) (by kernel_rfl) (by kernel_rfl) hsh (fun l h h9 => Shutd.step h (j := 11) (k := 5) (by kernel_rfl) h9) (fun l => getD_set_ne false (by decide)) (fun _ _ _ h => h) (Or.inl ⟨by rfl, ?yb5⟩) HS.out (fun hsh' => ?_)
       case yb5 => (intro w hS; obtain ⟨s1, s2⟩ := hS; obtain ⟨v0, v1, v2, v3, v4, v5⟩ := s2.cells; go_simp; (try with_reducible rfl))
       have hsh := hsh'
       clear hsh'
       simp only [Act.put, CL] at hsh ⊢
       clear hsh
       refine rdy 6 rfl (fun KK hKK => ?_)
       go_simp
       have hal2 := below_box W (.cells #[.string ⟨#[]⟩, .int .i64 0, .bool false, .int .i64 0, .string ⟨#[]⟩, .slice none 0 0, .slice none 0 0] 89)
       have HZ := Lib.hid (heap_alloc_new W (.cells #[.string ⟨#[]⟩, .int .i64 0, .bool false, .int .i64 0, .string ⟨#[]⟩, .slice none 0 0, .slice none 0 0] 89))
       have HI2 := Lib.hid (HI7.out.keep (But.of (S := [b]) hal2))
       have HR2 := Lib.hid (HR7.out.next hal2)
       have HJ2 := Lib.hid (HJ7.out.next hal2)
       have HS2 : Hid (((W.alloc (.cells #[.string ⟨#[]⟩, .int .i64 0, .bool false, .int .i64 0, .string ⟨#[]⟩, .slice none 0 0, .slice none 0 0] 89)).cell? ⟨N + 2, 5, none⟩ = some (.slice A acc.length c)) ∧ JBox (W.alloc (.cells #[.string ⟨#[]⟩, .int .i64 0, .bool false, .int .i64 0, .string ⟨#[]⟩, .slice none 0 0, .slice none 0 0] 89)) M (Value.int .i64 k0) (Value.bool b0) (Value.int .i64 n0) (Value.string t0) (Value.slice A5 l5 c5) (Value.slice A6 l6 c6)) := Lib.hid ⟨HI2.out.xbox.cells.2.2.2.2.2, HS.out.2.next hal2⟩
       generalize (W.alloc (.cells #[.string ⟨#[]⟩, .int .i64 0, .bool false, .int .i64 0, .string ⟨#[]⟩, .slice none 0 0, .slice none 0 0] 89)) = W2 at HZ HI2 HR2 HJ2 HS2 ⊢
       obtain ⟨MM, hM⟩ : ∃ MM, W.heap.size = MM := ⟨_, rfl⟩
       rw [hM] at HZ ⊢
       refine hKK _ _ (fun _ => HS2.out) ?_
       clear hKK KK hM hal2 HI7 HR7 HJ7 HS
       simp only [Act.put, CL]
       refine rdy 7 rfl (fun KK hKK => ?_)
       have hown := HI2.out.own
       have hle := hown.le
       obtain ⟨i0, hi, hz0, hz1, hz2⟩ := info_parts info43
       refine wp_append_lies W2 (.tmp 43) (.tmp 48) 23 rfl (N + 3) 89 i0 zeroM 7 104 Tryz.underlying23 hi hz0 hz1 hz2 rfl (by decide) (.slice A acc.length c) acc.length rs.flatten rfl hown.own ⟨MM, 0, none⟩ 1 1 [.string ⟨#[]⟩, .int .i64 0, .bool false, .int .i64 0, .string ⟨#[]⟩, .slice none 0 0, .slice none 0 0] rfl rfl (World.news_of_block HZ.out) (by intro u hu; simp at hu; rcases hu with rfl | rfl | rfl | rfl | rfl | rfl | rfl <;> rfl) (by decide) (by unfold maxLen; omega) (by omega) hle W2.heap.size rfl ?_
       intro g cap W3 hown3 hgrow hat3 hlt3
       have HI3 := HI2.out.grown hgrow
       have hMn : M ∉ (Value.ownBlock (.slice A acc.length c)).toList := HMN.out
       have HS3 : Hid ((W3.cell? ⟨N + 2, 5, none⟩ = some (.slice A acc.length c)) ∧ JBox W3 M (Value.int .i64 k0) (Value.bool b0) (Value.int .i64 n0) (Value.string t0) (Value.slice A5 l5 c5) (Value.slice A6 l6 c6)) := Lib.hid ⟨HI3.1.cells.2.2.2.2.2, HS2.out.2.but HI3.2.2.2.2 hMn⟩
       refine hKK _ _ (fun _ => HS3.out) ?_
       clear hKK KK hMn
       simp only [Act.put, CL]
       refine tkF 8 (.pointer (some ⟨g, acc.length * 7, none⟩)) rfl ?yb8 (fun _ => HS3.out) ?_
       case yb8 => (intro w _; have h7 : (acc.length : Int) < (acc.length : Int) + 1 := (by omega); go_simp; (try with_reducible rfl))
       simp only [Act.put, CL]
       refine tkF 10 (.pointer (some ⟨N + 2, 5, none⟩)) rfl ?yb10 (fun _ => HS3.out) ?_
       case yb10 => (intro w _; go_simp; (try with_reducible rfl))
       simp only [Act.put, CL]
       refine wpTill_ready (rs := [9, 11]) (by kernel_rfl) (by simp) ?_
       have hfl : rs.flatten.length = acc.length * 7 := hown.own.1
       have hOWN : Own 89 7 (N + 3) (.slice (some ⟨g, 0, none⟩) (acc.length + 1) cap) (acc.length + 1) (rs.flatten ++ [.string ⟨#[]⟩, .int .i64 0, .bool false, .int .i64 0, .string ⟨#[]⟩, .slice none 0 0, .slice none 0 0]) W3 := ⟨hown3, Nat.le_trans hle HI3.2.2.2.2.size⟩
       have HO3 := Lib.hid hOWN
       have HFL := Lib.hid hfl
       have HG3 := Lib.hid HI3
       have HAT := Lib.hid hat3
       have hg3 := (HO3.out.lt g rfl).1
       have HMG : Hid (M ≠ g) := Lib.hid (by
        have h1 := HS2.out.2.lt
        intro e0
        subst e0
        rcases hat3 with e | e
        ·exact HMN.out (by simpa using e)
        ·omega)
       obtain ⟨⟨z0, z1, z2, z3, z4, z5, z6⟩, y0, y1, y2, y3, y4, y5, y6⟩ := sev_cells hOWN hfl
       have e4 := HI3.1.cells.2.2.2.2.2
       have e5 := HI3.1.frees.2.2.2.2.2
       clear hfl hOWN hown3 hown hle hi hz0 hz1 hz2 HI3 hat3 hgrow
       refine (AllTill.cons rfl (fun KK hKK => ?_) (AllTill.cons rfl (fun KK hKK => ?_) AllTill.nil))
       ·rw [if_pos (by rfl)]
        go_simp
        obtain ⟨ho4, hk4⟩ := sev_set HO3.out HFL.out (.string (str name)) (.int .i64 k0) (.bool b0) (.int .i64 n0) (.string t0) (.slice A5 l5 c5) (.slice A6 l6 c6)
        have hx4 := HG3.out.1.but hk4 (by simp; omega)
        have hv4 := HS3.out.2.but hk4 (by have := HMG.out; simp; omega)
        refine hKK _ _ (fun _ => ⟨hx4.cells.2.2.2.2.2, hv4⟩) ?_
        clear hKK KK z0 z1 z2 z3 z4 z5 z6 y0 y1 y2 y3 y4 y5 y6 e4 e5 hv4
        simp only [Act.put, CL]
        generalize (((((((W3.setCell ⟨g, acc.length * 7, none⟩ (.string (str name))).setCell ⟨g, acc.length * 7 + 1, none⟩ (.int .i64 k0)).setCell ⟨g, acc.length * 7 + 2, none⟩ (.bool b0)).setCell ⟨g, acc.length * 7 + 3, none⟩ (.int .i64 n0)).setCell ⟨g, acc.length * 7 + 4, none⟩ (.string t0)).setCell ⟨g, acc.length * 7 + 5, none⟩ (.slice A5 l5 c5)).setCell ⟨g, acc.length * 7 + 6, none⟩ (.slice A6 l6 c6)) = W4 at ho4 hk4 hx4 ⊢
        have HK4 := Lib.hid hk4
        have HO4 := Lib.hid ho4
        have HX4 := Lib.hid hx4
        have e4 := hx4.cells.2.2.2.2.2
        have e5 := hx4.frees.2.2.2.2.2
        clear ho4 hk4 hx4
        refine rdy 11 rfl (fun KK hKK => ?_)
        go_simp
        obtain ⟨hk5, hx5⟩ := but_set (i := 5) (.slice (some ⟨g, 0, none⟩) (acc.length + 1) cap) HX4.out
        have ho5 := HO4.out.but_in hk5 (by intro j hj; simp at hj; omega)
        have hall := (HG3.out.2.2.2.2.mono (T := Value.ownBlock (.slice A acc.length c) |>.toList.append [g, N + 2]) (by intro j hj; simp at hj ⊢; exact .inl hj)).trans ((HK4.out.mono (by intro j hj; simp at hj ⊢; exact .inr (.inl hj))).trans (hk5.mono (by intro j hj; simp at hj ⊢; exact .inr (.inr hj))))
        refine hKK _ _ (fun h0 => by cases h0) ?_
        clear hKK KK
        simp only [Act.put, CL]
        refine wpTill_done (by kernel_rfl) ?_ _
        go_wp2_with fail
        go_end0
        rw [HRES.out]
        obtain ⟨hp1, hp2⟩ := HI2.out.push (nm := name) HJ2.out HAT.out hall hx5 ho5
        exact ⟨rfl, hp2 HR2.out, _, _, hp1⟩
       ·rw [if_pos (by rfl)]
        go_simp
        obtain ⟨hk4, hx4⟩ := but_set (i := 5) (.slice (some ⟨g, 0, none⟩) (acc.length + 1) cap) HG3.out.1
        have ho4 := HO3.out.but_in hk4 (by intro j hj; simp at hj; omega)
        refine hKK _ _ (fun h0 => by cases h0) ?_
        clear hKK KK z0 z1 z2 z3 z4 z5 z6 y0 y1 y2 y3 y4 y5 y6 e4 e5
        simp only [Act.put, CL]
        generalize (W3.setCell ⟨N + 2, 5, none⟩ (.slice (some ⟨g, 0, none⟩) (acc.length + 1) cap)) = W4 at ho4 hk4 hx4 ⊢
        have HK4 := Lib.hid hk4
        have HO4 := Lib.hid ho4
        have HX4 := Lib.hid hx4
        obtain ⟨⟨z0, z1, z2, z3, z4, z5, z6⟩, y0, y1, y2, y3, y4, y5, y6⟩ := sev_cells ho4 HFL.out
        clear ho4 hk4 hx4
        refine rdy 9 rfl (fun KK hKK => ?_)
        go_simp
        obtain ⟨ho5, hk5⟩ := sev_set HO4.out HFL.out (.string (str name)) (.int .i64 k0) (.bool b0) (.int .i64 n0) (.string t0) (.slice A5 l5 c5) (.slice A6 l6 c6)
        have hx5 := JBox.but HX4.out hk5 (by simp; omega)
        have hall := (HG3.out.2.2.2.2.mono (T := Value.ownBlock (.slice A acc.length c) |>.toList.append [g, N + 2]) (by intro j hj; simp at hj ⊢; exact .inl hj)).trans ((HK4.out.mono (by intro j hj; simp at hj ⊢; exact .inr (.inr hj))).trans (hk5.mono (by intro j hj; simp at hj ⊢; exact .inr (.inl hj))))
        refine hKK _ _ (fun h0 => by cases h0) ?_
        clear hKK KK
        simp only [Act.put, CL]
        refine wpTill_done (by kernel_rfl) ?_ _
        go_wp2_with fail
        go_end0
        rw [HRES.out]
        obtain ⟨hp1, hp2⟩ := HI2.out.push (nm := name) HJ2.out HAT.out hall hx5 ho5
        exact ⟨rfl, hp2 HR2.out, _, _, hp1⟩
      ·have HRES : Hid (memberOne s n acc st = .ok acc st6) := Lib.hid (by rw [HRES0.out, HL.out]; rfl)
       clear HRES0
       go_wp2_with fail
       go_end0
       rw [HRES.out]
       exact ⟨rfl, HR6.out, _, _, HI6.out⟩
end Go.Proofs.YtimioelnnhnbiaaGreatDoor
namespace Go.Proofs.YtimioelnnhnbiaaGreatDoor
open Go.RowKit
theorem ItAt.start {w0 w : World} {b N : Nat} (hr : w.heap[N]? = some (.cells #[.pointer (some ⟨b, 0, none⟩)] 103 (0, 0)))
  (hz : JBox w (N + 1) (.int .i64 0) (.bool false) (.int .i64 0) (.string ⟨#[]⟩) (.slice none 0 0) (.slice none 0 0))
  (hx : JBox w (N + 2) (.int .i64 5) (.bool false) (.int .i64 0) (.string ⟨#[]⟩) (.slice none 0 0) (.slice none 0 0))
  (hsz : w.heap.size = N + 3) (hb : But [b] w0 w) (hlt : b < N) (hbase : w0.heap.size ≤ N) : ItI w0 b N [] w :=
 ⟨.slice none 0 0, [], ⟨hr, hz, hx, by have := Own.nil 25 6 w; rw [hsz] at this; exact this, rfl, fun k x h => by simp at h, fun vs h => by simp at h, hb, hlt, hbase⟩⟩
theorem MbAt.start {w0 w : World} {b N : Nat} (hr : w.heap[N]? = some (.cells #[.pointer (some ⟨b, 0, none⟩)] 103 (0, 0)))
  (hz : JBox w (N + 1) (.int .i64 0) (.bool false) (.int .i64 0) (.string ⟨#[]⟩) (.slice none 0 0) (.slice none 0 0))
  (hx : JBox w (N + 2) (.int .i64 6) (.bool false) (.int .i64 0) (.string ⟨#[]⟩) (.slice none 0 0) (.slice none 0 0))
  (hsz : w.heap.size = N + 3) (hb : But [b] w0 w) (hlt : b < N) (hbase : w0.heap.size ≤ N) : MbI w0 b N [] w :=
 ⟨.slice none 0 0, [], ⟨hr, hz, hx, by have := Own.nil 89 7 w; rw [hsz] at this; exact this, rfl, fun k nm x h => by simp at h, fun vs h => by simp at h, hb, hlt, hbase⟩⟩
theorem own_cap {e : TypeId} {size B : Nat} {A : Option Addr} {n c : Nat} {xs : List Value} {w : World} (h : Own e size B (.slice A n c) n xs w) : n ≤ c ∧ (0 < n → ∃ g, A = some ⟨g, 0, none⟩ ∧ B ≤ g ∧ g < w.heap.size) := by
 rcases h.own.2 with ⟨hv, h0⟩ | ⟨g, cap, cur, hv, hB, hg, hc, _⟩
 ·exact ⟨by omega, fun h => by omega⟩
 ·simp at hv
  obtain ⟨rfl, rfl⟩ := hv
  exact ⟨hc, fun _ => ⟨g, rfl, hB, (Array.getElem?_eq_some_iff.1 hg).1⟩⟩
theorem ItAt.value {w0 w : World} {b N : Nat} {acc : List Js.J} {v : Value} {rs : List (List Value)} (h : ItAt w0 b N acc v rs w) :
  JV w (fun g => N + 3 ≤ g) (.mk 5 false 0 [] acc []) [.int .i64 5, .bool false, .int .i64 0, .string ⟨#[]⟩, v, .slice none 0 0] := by
 obtain ⟨A, c, rfl⟩ := own_shape h.own
 obtain ⟨hc, hA⟩ := own_cap h.own
 unfold JV
 refine ⟨A, c, none, 0, rfl, hc, Nat.le_refl _, JL.of fun k x hx => ?_, by unfold JM; trivial⟩
 obtain ⟨vs, h1, h2⟩ := h.each k x hx
 have hk := (List.getElem?_eq_some_iff.1 hx).1
 obtain ⟨g, rfl, hB, hg⟩ := hA (by omega)
 refine ⟨g, 0, vs, rfl, hB, hg, fun j u hj => ?_, h2.wide fun g hg _ => hg.1⟩
 have hj6 : j < 6 := by have := (List.getElem?_eq_some_iff.1 hj).1; rw [h2.len] at this; exact this
 rw [show 0 + (0 + k) * 6 + j = k * 6 + j by omega, h.own.own.cellAt (k * 6 + j) (by omega), flat_get rs h.six k j _ h1 hj6]
 exact hj
theorem MbAt.value {w0 w : World} {b N : Nat} {acc : List (Js.Bs × Js.J)} {v : Value} {rs : List (List Value)} (h : MbAt w0 b N acc v rs w) :
  JV w (fun g => N + 3 ≤ g) (.mk 6 false 0 [] [] acc) [.int .i64 6, .bool false, .int .i64 0, .string ⟨#[]⟩, .slice none 0 0, v] := by
 obtain ⟨A, c, rfl⟩ := own_shape h.own
 obtain ⟨hc, hA⟩ := own_cap h.own
 unfold JV
 refine ⟨none, 0, A, c, rfl, Nat.le_refl _, hc, by unfold JL; trivial, JM.of fun k nm x hx => ?_⟩
 obtain ⟨vs, h1, h2⟩ := h.each k nm x hx
 have hk := (List.getElem?_eq_some_iff.1 hx).1
 obtain ⟨g, rfl, hB, hg⟩ := hA (by omega)
 refine ⟨g, 0, vs, rfl, hB, hg, fun j u hj => ?_, h2.wide fun g hg _ => hg.1⟩
 have hj7 : j < 7 := by have := (List.getElem?_eq_some_iff.1 hj).1; rw [List.length_cons, h2.len] at this; exact this
 rw [show 0 + (0 + k) * 7 + j = k * 7 + j by omega, h.own.own.cellAt (k * 7 + j) (by omega), flat_get rs h.six k j _ h1 hj7]
 exact hj
theorem JV.leaf (w : World) (S : Nat → Prop) (k : Int) (q : Bool) (n : Int) (t : Js.Bs) : JV w S (.mk k q n t [] []) [.int .i64 k, .bool q, .int .i64 n, .string (str t), .slice none 0 0, .slice none 0 0] := by
 unfold JV
 exact ⟨none, 0, none, 0, rfl, Nat.le_refl _, Nat.le_refl _, by unfold JL; trivial, by unfold JM; trivial⟩
theorem inner_list (s : Js.Bs) (n : Nat) (st : Js.St) (h : Js.peek s st = 91) :
  Js.inner s (n + 1) st = (listOf s 93 (Js.items s) n [] (Js.step st)).bind fun l st => .ok (.mk 5 false 0 [] l []) st := by
 unfold Js.inner listOf
 simp only [h]
 rw [if_neg (by decide), if_neg (by decide), if_neg (by decide), if_neg (by decide), if_neg (by decide), if_pos trivial]
 split <;> rfl
theorem inner_obj (s : Js.Bs) (n : Nat) (st : Js.St) (h : Js.peek s st = 123) :
  Js.inner s (n + 1) st = (listOf s 125 (Js.members s) n [] (Js.step st)).bind fun l st => .ok (.mk 6 false 0 [] [] l) st := by
 unfold Js.inner listOf
 simp only [h]
 rw [if_neg (by decide), if_neg (by decide), if_neg (by decide), if_neg (by decide), if_neg (by decide), if_neg (by decide), if_pos trivial]
 split <;> rfl
theorem items_succ (s : Js.Bs) (m : Nat) (a : List Js.J) (st : Js.St) : Js.items s (m + 1) a st = ((Js.value s m st).bind fun x st => .ok (a ++ [x]) st).bind fun a st => if Js.peek s st = 93 then .ok a (Js.step st) else (Js.take s 44 st).bind fun _ st => Js.items s m a st := by
 conv => lhs; unfold Js.items
 cases Js.value s m st <;> rfl
theorem bind_assoc {α β γ : Type} (r : Js.Res α) (f : α → Js.St → Js.Res β) (g : β → Js.St → Js.Res γ) : (r.bind f).bind g = r.bind fun a st => (f a st).bind g := by cases r <;> rfl
theorem ok_bind {α β : Type} (a : α) (st : Js.St) (f : α → Js.St → Js.Res β) : (Js.Res.ok a st).bind f = f a st := rfl
theorem members_succ (s : Js.Bs) (m : Nat) (a : List (Js.Bs × Js.J)) (st : Js.St) : Js.members s (m + 1) a st = (memberOne s m a st).bind fun a st => if Js.peek s st = 125 then .ok a (Js.step st) else (Js.take s 44 st).bind fun _ st => Js.members s m a st := by
 conv => lhs; unfold Js.members
 unfold memberOne
 simp only [bind_assoc, ok_bind]
end Go.Proofs.YtimioelnnhnbiaaGreatDoor
