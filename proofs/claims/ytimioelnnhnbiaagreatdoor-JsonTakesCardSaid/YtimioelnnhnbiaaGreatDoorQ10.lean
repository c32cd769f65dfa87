/-
  Joined: WN WO Enough WP. CONDITIONS: as each law says.
-/
import Derived.Test.YtimioelnnhnbiaaGreatDoorQ09
import Derived.Defers
import Derived.Recover
namespace Go.Proofs.YtimioelnnhnbiaaGreatDoor
open Go.RowKit
theorem value_all (b : Nat) (s : Js.Bs) (hlen : s.length ≤ 1073741824) : ∀ n, ValueC b s n ∧ InnerC b s n := by
 intro n
 induction n using Nat.strongRecOn with
 | ind n ih =>
  cases n with
  | zero => exact ⟨fun st w _ _ hne => absurd rfl hne, fun st w _ _ hne => absurd rfl hne⟩
  | succ n => exact ⟨value_of_inner b s hlen n (ih n (Nat.lt_succ_self n)).2, inner_of_value b s hlen n (fun m hm => (ih m (by omega)).1)⟩
def SBox (w : World) (b : Nat) (x y : Int) : Prop := w.heap[b]? = some (.cells #[.int .i64 x, .int .i64 y] 61 (0, 0))
theorem s34_load {w : World} {b : Nat} {x y : Int} (h : SBox w b x y) : (loadVar 61 ⟨b, 0, none⟩).run Tryz.prog w = .ok (.agg #[.int .i64 x, .int .i64 y]) w :=
 run_loadVar_row w b 61 61 #[.int .i64 x, .int .i64 y] (0, 0) _ h Tryz.underlying61 rfl (by kernel_rfl)
theorem s34_set {w : World} {b : Nat} {p q : Int} (x y : Int) (h : SBox w b p q) :
  But [b] w ((w.setCell ⟨b, 0, none⟩ (.int .i64 x)).setCell ⟨b, 1, none⟩ (.int .i64 y)) ∧ SBox ((w.setCell ⟨b, 0, none⟩ (.int .i64 x)).setCell ⟨b, 1, none⟩ (.int .i64 y)) b x y := by
 obtain ⟨h1, h2⟩ := but_set (i := 0) (.int .i64 x) h
 obtain ⟨h3, h4⟩ := but_set (i := 1) (.int .i64 y) h2
 exact ⟨h1.trans h3, h4⟩
theorem SBox.cells {w : World} {b : Nat} {x y : Int} (h : SBox w b x y) : w.cell? ⟨b, 0, none⟩ = some (.int .i64 x) ∧ w.cell? ⟨b, 1, none⟩ = some (.int .i64 y) ∧ w.frozen? ⟨b, 0, none⟩ = false ∧ w.frozen? ⟨b, 1, none⟩ = false :=
 ⟨(blk_cells h 0).trans rfl, (blk_cells h 1).trans rfl, blk_free h 0, blk_free h 1⟩
theorem results_row2 {fn : Func} {p q : Tmp} {ty ty' : TypeId} (h : fn.results = #[.cell p ty, .cell q ty']) (tmps : Array Value) (P : Program) (w : World) (g g' : Nat) (cs cs' : Array Value)
  (hp : tmps.getD p undef = .pointer (some ⟨g, 0, none⟩)) (hl : (loadVar ty ⟨g, 0, none⟩).run P w = .ok (.agg cs) w)
  (hq : tmps.getD q undef = .pointer (some ⟨g', 0, none⟩)) (hl' : (loadVar ty' ⟨g', 0, none⟩).run P w = .ok (.agg cs') w) :
  (results fn tmps).run P w = .ok (.tuple #[.agg cs, .agg cs']) w := by
 rw [Array.getD_eq_getD_getElem?] at hp hq
 simp [results, h, hp, hq, asAddr, hl, hl']
set_option maxRecDepth 100000 in
set_option maxHeartbeats 4000000 in
theorem catch_idle (x e : Nat) (w : World) :
  CallsD Tryz.prog 48 #[.pointer (some ⟨x, 0, none⟩), .pointer (some ⟨e, 0, none⟩)] .returning w fun e u' w' => e = .returned (.tuple #[]) ∧ u' = .returning ∧ w' = w := by
 refine callsD_of_wpS Tryz.func48 rfl fun c₀ cs hu => ?_
 apply wpS_seq
 apply wpS_region
 simp [wpOpsS, go_sem, recoverD, hu, Tryz.ntmps48, Exit.thenS]
 refine wpS_of_wp ?_
 go_wp2_with fail
 cases c₀
 simp_all [bodyPostS, results, Tryz.results48]
theorem recover_two {P : Program} {ops : Array Oper} {Q : Exit → Act → List Frame → World → Prop} {a : Act} {c₀ : Frame} {cs : List Frame} {w : World} {V : Value} {o0 o1 : Oper}
  (h0 : ops[0]? = some o0) (h1 : ops[1]? = some o1) (g0 : o0.guard = none) (g1 : o1.guard = none) (r0 : (execOp a.eval o0).run P w = .ok .recover w)
  (hm : c₀.mode = .panicking [{ v := V, recovered := false }]) (r1 : (execOp (a.put o0.dst V).eval o1).run P w = .ok (.value V) w)
  (h : Q .normal ((a.put o0.dst V).put o1.dst V) ({ c₀ with mode := .panicking [{ v := V, recovered := true }] } :: cs) w) : wpOpsS P ops Q [0, 1] a (c₀ :: cs) w := by
 unfold wpOpsS
 have w0 : ∀ l, Region.wanted o0 l = true := fun l => by simp [Region.wanted, g0]
 have w1 : ∀ l, Region.wanted o1 l = true := fun l => by simp [Region.wanted, g1]
 simp only [h0, w0, if_true, r0, recoverD, hm]
 unfold wpOpsS
 simp only [h1, w1, if_true, r1]
 unfold wpOpsS
 rw [Oper.upon_value]
 exact h
theorem assert_wrong (k : Int) (w : World) : (Instr.typeAssert (.iface 106 (.int .i64 k)) 20 106 true).run Tryz.prog w = .ok (.tuple #[.int .i64 k, .bool true]) w := by kernel_rfl
set_option maxRecDepth 100000 in
set_option maxHeartbeats 4000000 in
theorem catch_bad (x e k : Nat) (w : World) (hxe : x ≠ e) (p0 p1 p2 p3 p4 p5 : Value) (a c : Int) (hx : JBox w x p0 p1 p2 p3 p4 p5) (he : SBox w e a c) :
  CallsD Tryz.prog 48 #[.pointer (some ⟨x, 0, none⟩), .pointer (some ⟨e, 0, none⟩)] (.panicking [{ v := .iface 106 (.int .i64 k), recovered := false }]) w fun en u' w' =>
   en = .returned (.tuple #[]) ∧ u' = .panicking [{ v := .iface 106 (.int .i64 k), recovered := true }] ∧ But [x, e] w w' ∧ JBox w' x (.int .i64 0) (.bool false) (.int .i64 0) (.string ⟨#[]⟩) (.slice none 0 0) (.slice none 0 0) ∧ SBox w' e 330 k := by
 obtain ⟨c0, c1, c2, c3, c4, c5⟩ := hx.cells
 obtain ⟨f0, f1, f2, f3, f4, f5⟩ := hx.frees
 have HX := Lib.hid hx
 have HE := Lib.hid he
 obtain ⟨d0, d1, g0, g1⟩ := he.cells
 clear hx he
 obtain ⟨V, hV⟩ : ∃ V, Value.iface 106 (.int .i64 (k : Int)) = V := ⟨_, rfl⟩
 rw [hV]
 have HV := Lib.hid hV
 clear hV c0 c1 c2 c3 c4 c5 f0 f1 f2 f3 f4 f5 d0 d1 g0 g1
 refine callsD_of_wpS Tryz.func48 rfl fun c₀ cs hu => ?_
 apply wpS_seq
 apply wpS_region
 refine recover_two (V := V) rfl rfl rfl rfl (by kernel_rfl) hu (by kernel_rfl) ?_
 have e2 : ((({ tmps := #[.pointer (some ⟨x, 0, none⟩), .pointer (some ⟨e, 0, none⟩)] ++ Array.replicate (Tryz.f48.ntmps - (#[.pointer (some ⟨x, 0, none⟩), .pointer (some ⟨e, 0, none⟩)] : Array Value).size) undef, defers := [] } : Act).put (some 5) V).put (some 2) V) = { tmps := #[.pointer (some ⟨x, 0, none⟩), .pointer (some ⟨e, 0, none⟩), V, undef, undef, V, undef, undef, undef, undef, undef, undef, undef, undef, undef, undef, undef, undef, undef], defers := [] } := by kernel_rfl
 show Exit.thenS _ _ _ ((({ tmps := #[.pointer (some ⟨x, 0, none⟩), .pointer (some ⟨e, 0, none⟩)] ++ Array.replicate (Tryz.f48.ntmps - (#[.pointer (some ⟨x, 0, none⟩), .pointer (some ⟨e, 0, none⟩)] : Array Value).size) undef, defers := [] } : Act).put (some 5) V).put (some 2) V) _ _
 rw [e2]
 unfold Exit.thenS
 simp only
 refine wpS_of_wp ?_
 have hV := HV.out
 subst hV
 have hta := assert_wrong k
 obtain ⟨c0, c1, c2, c3, c4, c5⟩ := HX.out.cells
 obtain ⟨f0, f1, f2, f3, f4, f5⟩ := HX.out.frees
 obtain ⟨d0, d1, g0, g1⟩ := HE.out.cells
 go_wp2_with fail
 have h1 := j25_set (.int .i64 0) (.bool false) (.int .i64 0) (.string ⟨#[]⟩) (.slice none 0 0) (.slice none 0 0) HX.out
 unfold set6 at h1
 have h2 := s34_set 330 (k : Int) (show SBox _ e a c from h1.1.blk HE.out (by simpa using hxe.symm))
 refine ⟨rfl, _, rfl, .tuple #[], by kernel_rfl, rfl, rfl, (h1.1.mono (by intro j hj; simp at hj; simp [hj])).trans (h2.1.mono (by intro j hj; simp at hj; simp [hj])), h1.2.but h2.1 (by simpa using hxe), h2.2⟩
end Go.Proofs.YtimioelnnhnbiaaGreatDoor
namespace Go.Proofs.YtimioelnnhnbiaaGreatDoor
open Go.RowKit
def spot (e a : Int) : Value := .agg #[.int .i64 e, .int .i64 a]
/-- What Decode hands back, by what the plain parser makes of the text. -/
def DOut (w : World) (s : Js.Bs) : Js.Res Js.J → Ending → World → Prop
 | .ok x st, e, w' => Below w.heap.size w w' ∧ (if st.at_ < s.length then e = .returned (.tuple #[zeroJ, spot 330 st.at_]) else if st.large = true then e = .returned (.tuple #[zeroJ, spot 2 0]) else ∃ vs, e = .returned (.tuple #[.agg vs.toArray, spot 0 0]) ∧ JV w' (fun g => w.heap.size ≤ g) x vs)
 | .bad k, e, w' => Below w.heap.size w w' ∧ e = .returned (.tuple #[zeroJ, spot 330 k])
 | .out, _, _ => False
set_option maxRecDepth 100000 in
set_option maxHeartbeats 8000000 in
theorem decode_any (s : Js.Bs) (hlen : s.length ≤ 1073741824) (n : Nat) (hne : Js.value s n Js.st0 ≠ .out) (w : World) :
  Calls Tryz.prog 16 #[.string (str s)] w (DOut w s (Js.value s n Js.st0)) := by
 have HNE := Lib.hid hne
 have hmf : ∀ (fn : Fn) (first cap : Array Value) (w : World), (Instr.makeFunc fn first cap).run Tryz.prog w = .ok (.func fn first cap) w := fun _ _ _ _ => rfl
 have hz := str_size s
 have b1 := below_box w (.cells #[.int .i64 0, .bool false, .int .i64 0, .string ⟨#[]⟩, .slice none 0 0, .slice none 0 0] 25)
 have n1 : JBox _ w.heap.size _ _ _ _ _ _ := heap_alloc_new w (.cells #[.int .i64 0, .bool false, .int .i64 0, .string ⟨#[]⟩, .slice none 0 0, .slice none 0 0] 25)
 have s1 : (w.alloc (.cells #[.int .i64 0, .bool false, .int .i64 0, .string ⟨#[]⟩, .slice none 0 0, .slice none 0 0] 25)).heap.size = w.heap.size + 1 := by simp
 have b2 := below_box (w.alloc (.cells #[.int .i64 0, .bool false, .int .i64 0, .string ⟨#[]⟩, .slice none 0 0, .slice none 0 0] 25)) (.cells #[.int .i64 0, .int .i64 0] 61)
 have n2 : SBox _ _ _ _ := heap_alloc_new (w.alloc (.cells #[.int .i64 0, .bool false, .int .i64 0, .string ⟨#[]⟩, .slice none 0 0, .slice none 0 0] 25)) (.cells #[.int .i64 0, .int .i64 0] 61)
 have s2 : ((w.alloc (.cells #[.int .i64 0, .bool false, .int .i64 0, .string ⟨#[]⟩, .slice none 0 0, .slice none 0 0] 25)).alloc (.cells #[.int .i64 0, .int .i64 0] 61)).heap.size = w.heap.size + 1 + 1 := by simp
 have b3 := below_box ((w.alloc (.cells #[.int .i64 0, .bool false, .int .i64 0, .string ⟨#[]⟩, .slice none 0 0, .slice none 0 0] 25)).alloc (.cells #[.int .i64 0, .int .i64 0] 61)) (.cells #[.string (str s), .int .i64 0, .int .i64 0, .int .i64 0, .int .i64 0, .bool false] 105)
 have n3 : RdAt _ _ s Js.st0 := heap_alloc_new ((w.alloc (.cells #[.int .i64 0, .bool false, .int .i64 0, .string ⟨#[]⟩, .slice none 0 0, .slice none 0 0] 25)).alloc (.cells #[.int .i64 0, .int .i64 0] 61)) (.cells #[.string (str s), .int .i64 0, .int .i64 0, .int .i64 0, .int .i64 0, .bool false] 105)
 rw [s1] at n2
 rw [s2] at n3
 have HX := Lib.hid ((n1.next b2).next b3)
 have HS : Hid (SBox _ (w.heap.size + 1) 0 0) := Lib.hid (blk_next b3 n2)
 have HR := Lib.hid n3
 have HB := Lib.hid ((b1.trans (b2.mono b1.size)).trans (b3.mono (by rw [s2]; omega)))
 clear hne b1 n1 s1 b2 n2 s2 b3 n3
 go_enter_defers Tryz.func16, Tryz.ntmps16
 go_wp2_with fail
 generalize (((w.alloc (.cells #[.int .i64 0, .bool false, .int .i64 0, .string ⟨#[]⟩, .slice none 0 0, .slice none 0 0] 25)).alloc (.cells #[.int .i64 0, .int .i64 0] 61)).alloc (.cells #[.string (str s), .int .i64 0, .int .i64 0, .int .i64 0, .int .i64 0, .bool false] 105)) = w1 at HX HS HR HB ⊢
 have HDEF : Hid (∀ r e w', DOut w s r e w' ↔ DOut w s r e w') := Lib.hid (fun _ _ _ => Iff.rfl)
 obtain ⟨N, hN⟩ : ∃ N, w.heap.size = N := ⟨_, rfl⟩
 rw [hN] at HX HS HR HB ⊢
 have HN := Lib.hid hN
 clear hN HDEF
 have hF : Fine s Js.st0 := ⟨Nat.zero_le _, Nat.le_refl _, Nat.le_refl _, Nat.le_refl _⟩
 have HST := Lib.hid (fun x st' h => (steps s n).value Js.st0 x st' h hF)
 refine ((value_all (N + 1 + 1) s hlen n).1 Js.st0 _ HR.out hF HNE.out).mono ?_
 intro e w2 ho
 obtain ⟨r, hr⟩ : ∃ r, Js.value s n Js.st0 = r := ⟨_, rfl⟩
 rw [hr] at ho ⊢
 have HRQ := Lib.hid hr
 clear hr hF
 cases r with
 | out => exact ho.elim
 | bad k =>
  obtain ⟨rfl, hb2⟩ := ho
  have HX2 := Lib.hid (HX.out.but hb2 (by simp; omega))
  have HS2 : Hid (SBox w2 (N + 1) 0 0) := Lib.hid (hb2.blk HS.out (by simp))
  have HB2 := Lib.hid (HB.out.trans (hb2.to (Nat.le_of_lt HX.out.lt) (by intro j hj; simp at hj; omega)))
  clear hb2 HX HS HB HR
  unfold bad
  go_wp2_with fail
  refine leaves_cons (f := 48) (args := #[.pointer (some ⟨N, 0, none⟩), .pointer (some ⟨N + 1, 0, none⟩)]) (by simp) (by simp [go_sem]) ?_
  refine (catch_bad N (N + 1) k _ (by omega) _ _ _ _ _ _ _ _ HX2.out HS2.out).mono ?_
  rintro e9 u9 w9 ⟨rfl, rfl, hb9, hx9, hs9⟩
  show Leaves _ _ _ _ [] .returning _
  have HB9 := HB2.out.trans (hb9.to (Nat.le_of_lt HX2.out.lt) (by intro j hj; simp at hj; omega))
  refine ⟨_, results_row2 rfl _ _ _ N (N + 1) _ _ rfl (j25_load hx9) rfl (s34_load hs9), ?_⟩
  exact ⟨by rw [HN.out]; exact HB9, rfl⟩
 | ok x st2 =>
  obtain ⟨⟨vs, rfl, hjv⟩, hr2, hb2⟩ := ho
  obtain ⟨A5, c5, A6, c6, k0, b0, n0, t0, l5, l6, rfl⟩ := hjv.shape
  have hat2 := (HST.out x st2 HRQ.out).1.at_
  have HX2 := Lib.hid (HX.out.but hb2 (by simp; omega))
  have HS2 : Hid (SBox w2 (N + 1) 0 0) := Lib.hid (hb2.blk HS.out (by simp))
  have HB2 := Lib.hid (HB.out.trans (hb2.to (Nat.le_of_lt HX.out.lt) (by intro j hj; simp at hj; omega)))
  have HJ2 : Hid (JV w2 (fun g => N + 2 < g) x [.int .i64 k0, .bool b0, .int .i64 n0, .string t0, .slice A5 l5 c5, .slice A6 l6 c6]) := Lib.hid (hjv.wide (fun g hg _ => Nat.lt_of_lt_of_le HR.out.lt hg))
  have hst := j25_set (.int .i64 k0) (.bool b0) (.int .i64 n0) (.string t0) (.slice A5 l5 c5) (.slice A6 l6 c6) HX2.out
  unfold set6 at hst
  obtain ⟨f0, f1, f2, f3, f4, f5⟩ := HX2.out.frees
  obtain ⟨c0, c1, c2, c3, c4, c5'⟩ := HX2.out.cells
  have HX3 := Lib.hid hst.2
  have HR3 := Lib.hid (show RdAt _ (N + 1 + 1) s st2 from hst.1.blk hr2 (by simp; omega))
  have HS3 : Hid (SBox _ (N + 1) 0 0) := Lib.hid (hst.1.blk HS2.out (by simp))
  have HB3 := Lib.hid (HB2.out.trans (hst.1.to (Nat.le_of_lt HX2.out.lt) (by intro j hj; simp at hj; omega)))
  have HJ3 := Lib.hid (HJ2.out.but hst.1 (by intro j hj; simp at hj; subst hj; omega))
  clear hjv hr2 hb2 HX HS HB HR hst HST
  have hNl := HX2.out.lt
  have k1 := HR3.out.cells.2.1
  have k5 := HR3.out.cells.2.2.2.2.2
  have HNE3 : Hid (N + 1 + 1 ≠ N) := Lib.hid (by omega)
  go_upto_region 4 with fail
  generalize ((((((w2.setCell ⟨N, 0, none⟩ (.int .i64 k0)).setCell ⟨N, 1, none⟩ (.bool b0)).setCell ⟨N, 2, none⟩ (.int .i64 n0)).setCell ⟨N, 3, none⟩ (.string t0)).setCell ⟨N, 4, none⟩ (.slice A5 l5 c5)).setCell ⟨N, 5, none⟩ (.slice A6 l6 c6)) = w3 at HX3 HR3 HS3 HB3 HJ3 k1 k5 ⊢
  clear HX2 HS2 HB2 HJ2 f0 f1 f2 f3 f4 f5 c0 c1 c2 c3 c4 c5' hNl
  by_cases hend : st2.at_ < s.length
  ·have q : decide ((st2.at_ : Int) < (s.length : Int)) = true := by simp; omega
   have HEND := Lib.hid hend
   clear hend
   go_wp2_with fail
   refine (fail_any (N + 1 + 1) s st2 _ HR3.out).mono ?_
   rintro e w' ⟨rfl, rfl⟩
   unfold bad
   go_wp2_with fail
   refine leaves_cons (f := 48) (args := #[.pointer (some ⟨N, 0, none⟩), .pointer (some ⟨N + 1, 0, none⟩)]) (by simp) (by simp [go_sem]) ?_
   refine (catch_bad N (N + 1) st2.at_ _ (by omega) _ _ _ _ _ _ _ _ HX3.out HS3.out).mono ?_
   rintro e9 u9 w9 ⟨rfl, rfl, hb9, hx9, hs9⟩
   show Leaves _ _ _ _ [] .returning _
   have HB9 := HB3.out.trans (hb9.to (Nat.le_of_lt HX3.out.lt) (by intro j hj; simp at hj; omega))
   refine ⟨_, results_row2 rfl _ _ _ N (N + 1) _ _ rfl (j25_load hx9) rfl (s34_load hs9), ?_⟩
   rw [HRQ.out]
   exact ⟨by rw [HN.out]; exact HB9, by rw [if_pos HEND.out]; rfl⟩
  ·have q : decide ((st2.at_ : Int) < (s.length : Int)) = false := by simp; omega
   have HEND := Lib.hid hend
   clear hend
   obtain ⟨x0, x1, x2, x3, x4, x5⟩ := HX3.out.cells
   obtain ⟨f0, f1, f2, f3, f4, f5⟩ := HX3.out.frees
   obtain ⟨d0, d1, g0, g1⟩ := HS3.out.cells
   obtain ⟨L, hL⟩ : ∃ L, st2.large = L := ⟨_, rfl⟩
   rw [hL] at k5
   have HL := Lib.hid hL
   clear hL
   cases L
   ·go_wp2_with fail
    have h1 := j25_set (.int .i64 k0) (.bool b0) (.int .i64 n0) (.string t0) (.slice A5 l5 c5) (.slice A6 l6 c6) HX3.out
    unfold set6 at h1
    have h2 := s34_set 0 0 (show SBox _ (N + 1) 0 0 from h1.1.blk HS3.out (by simp))
    have hx9 := h1.2.but h2.1 (by simp)
    have HB9 := HB3.out.trans ((h1.1.to (Nat.le_of_lt HX3.out.lt) (by intro j hj; simp at hj; omega)).trans (h2.1.to (Nat.le_trans (Nat.le_of_lt HX3.out.lt) h1.1.size) (by intro j hj; simp at hj; omega)))
    have HJ9 := (HJ3.out.but h1.1 (by intro j hj; simp at hj; subst hj; omega)).but h2.1 (by intro j hj; simp at hj; subst hj; omega)
    refine leaves_cons (f := 48) (args := #[.pointer (some ⟨N, 0, none⟩), .pointer (some ⟨N + 1, 0, none⟩)]) (by simp) (by simp [go_sem]) ?_
    refine (catch_idle N (N + 1) _).mono ?_
    rintro e9 u9 w9 ⟨rfl, rfl, rfl⟩
    show Leaves _ _ _ _ [] .returning _
    refine ⟨_, results_row2 rfl _ _ _ N (N + 1) _ _ rfl (j25_load hx9) rfl (s34_load h2.2), ?_⟩
    rw [HRQ.out]
    refine ⟨by rw [HN.out]; exact HB9, ?_⟩
    rw [if_neg HEND.out, HL.out, if_neg (by simp)]
    exact ⟨_, rfl, HJ9.wide (fun g hg _ => by rw [HN.out]; omega)⟩
   ·go_wp2_with fail
    have h1 := j25_set (.int .i64 0) (.bool false) (.int .i64 0) (.string ⟨#[]⟩) (.slice none 0 0) (.slice none 0 0) HX3.out
    unfold set6 at h1
    have h2 := s34_set 2 0 (show SBox _ (N + 1) 0 0 from h1.1.blk HS3.out (by simp))
    have hx9 := h1.2.but h2.1 (by simp)
    have HB9 := HB3.out.trans ((h1.1.to (Nat.le_of_lt HX3.out.lt) (by intro j hj; simp at hj; omega)).trans (h2.1.to (Nat.le_trans (Nat.le_of_lt HX3.out.lt) h1.1.size) (by intro j hj; simp at hj; omega)))
    refine leaves_cons (f := 48) (args := #[.pointer (some ⟨N, 0, none⟩), .pointer (some ⟨N + 1, 0, none⟩)]) (by simp) (by simp [go_sem]) ?_
    refine (catch_idle N (N + 1) _).mono ?_
    rintro e9 u9 w9 ⟨rfl, rfl, rfl⟩
    show Leaves _ _ _ _ [] .returning _
    refine ⟨_, results_row2 rfl _ _ _ N (N + 1) _ _ rfl (j25_load hx9) rfl (s34_load h2.2), ?_⟩
    rw [HRQ.out]
    refine ⟨by rw [HN.out]; exact HB9, ?_⟩
    rw [if_neg HEND.out, HL.out, if_pos rfl]
    rfl
end Go.Proofs.YtimioelnnhnbiaaGreatDoor
namespace Go.Proofs.YtimioelnnhnbiaaGreatDoor
theorem bind_out {α β : Type} {r : Js.Res α} {f : α → Js.St → Js.Res β} (h : r ≠ .out) (h2 : ∀ a st, r = .ok a st → f a st ≠ .out) : r.bind f ≠ .out := by
 cases r with
 | ok a st => exact h2 a st rfl
 | bad k => intro e; cases e
 | out => exact absurd rfl h
theorem take_out (s : Js.Bs) (c : UInt8) (st : Js.St) : Js.take s c st ≠ .out := by
 rcases take_inv s c st with h | h <;> rw [h] <;> exact fun e => by cases e
theorem word_out (s l : Js.Bs) (st : Js.St) : Js.word s l st ≠ .out := by
 rcases word_inv s l st with ⟨st', h, _⟩ | ⟨k, h⟩ <;> rw [h] <;> exact fun e => by cases e
theorem numRest_out (s : Js.Bs) (q : Bool) (st : Js.St) : numRest s q st ≠ .out := by
 unfold numRest
 split
 ·exact fun e => by cases e
 split
 ·exact fun e => by cases e
 ·simp only
  split <;> exact fun e => by cases e
theorem number_out (s : Js.Bs) (st : Js.St) : Js.number s st ≠ .out := by rw [number_eq]; exact numRest_out _ _ _
theorem textGo_out (s : Js.Bs) : ∀ (n : Nat) (acc : Js.Bs) (st : Js.St), st.at_ ≤ s.length → s.length - st.at_ + 1 ≤ n → Js.textGo s n acc st ≠ .out
 | 0, _, st, _, h => absurd h (by omega)
 | n + 1, acc, st, hat, hn => by
  cases hx : s[st.at_]? with
  | none => rw [textGo_end hx]; exact fun e => by cases e
  | some c =>
   have hlt := (List.getElem?_eq_some_iff.1 hx).1
   by_cases h1 : c = 34
   ·subst h1; rw [textGo_quote hx]; exact fun e => by cases e
   ·by_cases h2 : c.toNat < 32 ∨ 126 < c.toNat
    ·rw [textGo_ctl hx h1 h2]; exact fun e => by cases e
    ·by_cases h3 : c = 92
     ·subst h3
      rw [textGo_esc hx]
      rcases pair_inv s (Js.step st) with ⟨d, p, hp, ha, hb⟩ | ⟨k, hp⟩
      ·rw [hp]
       exact textGo_out s n _ _ hb (by have : st.at_ + 1 + 1 ≤ p := ha; show s.length - p + 1 ≤ n; omega)
      ·rw [hp]; exact fun e => by cases e
     ·rw [textGo_one hx h1 h2 h3]
      exact textGo_out s n _ _ hlt (by show s.length - (st.at_ + 1) + 1 ≤ n; omega)
theorem text_out (s : Js.Bs) (st : Js.St) : Js.text s st ≠ .out := by
 unfold Js.text
 refine bind_out (take_out s 34 st) fun _ st1 h1 => bind_out ?_ fun _ _ _ => fun e => by cases e
 obtain ⟨rfl, h2⟩ := take_ok h1
 exact textGo_out s _ _ _ h2 (by omega)
structure Enough (s : Js.Bs) (n : Nat) : Prop where
 value : ∀ st, Fine s st → 3 * (s.length - st.at_) + 2 ≤ n → Js.value s n st ≠ .out
 inner : ∀ st, Near s st → 3 * (s.length - st.at_) + 1 ≤ n → Js.inner s n st ≠ .out
 items : ∀ acc st, Fine s st → 3 * (s.length - st.at_) + 3 ≤ n → Js.items s n acc st ≠ .out
 members : ∀ acc st, Fine s st → 3 * (s.length - st.at_) + 3 ≤ n → Js.members s n acc st ≠ .out
theorem enough (s : Js.Bs) : ∀ n, Enough s n
 | 0 => ⟨(fun _ _ h => absurd h (by omega)), (fun _ _ h => absurd h (by omega)), (fun _ _ _ h => absurd h (by omega)), (fun _ _ _ h => absurd h (by omega))⟩
 | n + 1 => by
  have ih := enough s n
  have sp := steps s n
  refine ⟨?_, ?_, ?_, ?_⟩
  ·intro st hF hn
   unfold Js.value
   obtain ⟨⟨b1, b2, b3, b4⟩, b5, b6⟩ := hF.blanks
   refine bind_out (ih.inner _ ⟨b1, (by show (Js.blanks s st).deep + 1 ≤ (Js.blanks s st).at_ + 1; omega), (by show (Js.blanks s st).nodes + 1 ≤ (Js.blanks s st).at_ + 1; omega), b4⟩ (by show 3 * (s.length - (Js.blanks s st).at_) + 1 ≤ n; omega)) fun _ _ _ => fun e => by cases e
  ·intro st hN hn
   obtain ⟨n1, n2, n3, n4⟩ := hN
   unfold Js.inner
   simp only
   split
   ·exact bind_out (word_out _ _ _) fun _ _ _ => fun e => by cases e
   split
   ·exact bind_out (word_out _ _ _) fun _ _ _ => fun e => by cases e
   split
   ·exact bind_out (word_out _ _ _) fun _ _ _ => fun e => by cases e
   split
   ·exact bind_out (text_out _ _) fun _ _ _ => fun e => by cases e
   split
   ·exact bind_out (number_out _ _) fun _ _ _ => fun e => by cases e
   split
   ·rename_i h91
    have hlt := (List.getElem?_eq_some_iff.1 (peek_some h91 (by decide) n1)).1
    have hF : Fine s (Js.step st) := ⟨hlt, n2, n3, by show st.bytes ≤ st.at_ + 1; omega⟩
    obtain ⟨b1, b2, b3⟩ := hF.blanks
    have b3 : st.at_ + 1 ≤ _ := b3
    split
    ·exact fun e => by cases e
    ·exact bind_out (ih.items _ _ b1 (by omega)) fun _ _ _ => fun e => by cases e
   split
   ·rename_i h123
    have hlt := (List.getElem?_eq_some_iff.1 (peek_some h123 (by decide) n1)).1
    have hF : Fine s (Js.step st) := ⟨hlt, n2, n3, by show st.bytes ≤ st.at_ + 1; omega⟩
    obtain ⟨b1, b2, b3⟩ := hF.blanks
    have b3 : st.at_ + 1 ≤ _ := b3
    split
    ·exact fun e => by cases e
    ·exact bind_out (ih.members _ _ b1 (by omega)) fun _ _ _ => fun e => by cases e
   ·exact fun e => by cases e
  ·intro acc st hF hn
   rw [items_succ, bind_assoc]
   refine bind_out (ih.value _ hF (by omega)) fun x st1 h1 => ?_
   obtain ⟨f1, f2, f3⟩ := sp.value _ _ _ h1 hF
   show (if Js.peek s st1 = 93 then Js.Res.ok (acc ++ [x]) (Js.step st1) else (Js.take s 44 st1).bind fun _ st => Js.items s n (acc ++ [x]) st) ≠ .out
   split
   ·exact fun e => by cases e
   ·refine bind_out (take_out _ _ _) fun _ st2 h2 => ?_
    obtain ⟨rfl, h3⟩ := take_ok h2
    exact ih.items _ _ (f1.step h3) (by show 3 * (s.length - (st1.at_ + 1)) + 3 ≤ n; have := f1.at_; omega)
  ·intro acc st hF hn
   rw [members_succ]
   unfold memberOne
   obtain ⟨b1, b2, b3⟩ := hF.blanks
   simp only [bind_assoc, ok_bind]
   refine bind_out (text_out _ _) fun nm st1 h1 => ?_
   obtain ⟨t1, t2, t3, t4, t5⟩ := text_at h1
   have hF1 : Fine s st1 := by
    obtain ⟨c1, c2, c3, c4⟩ := b1
    exact ⟨t1, by omega, by omega, by omega⟩
   obtain ⟨d1, d2, d3⟩ := hF1.blanks
   refine bind_out (take_out _ _ _) fun _ st2 h2 => ?_
   obtain ⟨rfl, k1⟩ := take_ok h2
   have hF2 : Fine s { Js.step (Js.blanks s st1) with large := (Js.step (Js.blanks s st1)).large || acc.any fun m => decide (m.1 = nm) } := by
    obtain ⟨c1, c2, c3, c4⟩ := d1
    exact ⟨k1, by show (Js.blanks s st1).deep ≤ (Js.blanks s st1).at_ + 1; omega, by show (Js.blanks s st1).nodes ≤ (Js.blanks s st1).at_ + 1; omega, by show (Js.blanks s st1).bytes ≤ (Js.blanks s st1).at_ + 1; omega⟩
   refine bind_out (ih.value _ hF2 (by show 3 * (s.length - ((Js.blanks s st1).at_ + 1)) + 2 ≤ n; omega)) fun x st3 h5 => ?_
   obtain ⟨f1, f2, f3⟩ := sp.value _ _ _ h5 hF2
   have f3 : (Js.blanks s st1).at_ + 1 < st3.at_ := f3
   split
   ·exact fun e => by cases e
   ·refine bind_out (take_out _ _ _) fun _ st4 h6 => ?_
    obtain ⟨rfl, h7⟩ := take_ok h6
    exact ih.members _ _ (f1.step h7) (by show 3 * (s.length - (st3.at_ + 1)) + 3 ≤ n; have := f1.at_; omega)
def run (s : Js.Bs) : Js.Res Js.J := Js.value s (4 * s.length + 8) Js.st0
theorem fine0 (s : Js.Bs) : Fine s Js.st0 := ⟨Nat.zero_le _, Nat.le_refl _, Nat.le_refl _, Nat.le_refl _⟩
theorem run_out (s : Js.Bs) : run s ≠ .out := (enough s _).value Js.st0 (fine0 s) (by show 3 * (s.length - 0) + 2 ≤ _; omega)
open Go.RowKit in
theorem decode_run (s : Js.Bs) (hlen : s.length ≤ 1073741824) (w : World) : Calls Tryz.prog 16 #[.string (str s)] w (DOut w s (run s)) := decode_any s hlen _ (run_out s) w
end Go.Proofs.YtimioelnnhnbiaaGreatDoor
namespace Go.Proofs.YtimioelnnhnbiaaGreatDoor
open Go.RowKit
/-- An item's cells. -/
theorem JL.elem {w : World} {S : Nat → Prop} {A : Option Addr} {l : List Js.J} {k : Nat} {y : Js.J} (h : JL w S A 0 l) (hy : l[k]? = some y) :
  ∃ g o k0 b0 n0 t0 A5 l5 c5 A6 l6 c6, A = some ⟨g, o, none⟩ ∧ S g ∧ g < w.heap.size ∧ w.cell? ⟨g, o + k * 6, none⟩ = some (.int .i64 k0) ∧ w.cell? ⟨g, o + k * 6 + 1, none⟩ = some (.bool b0) ∧ w.cell? ⟨g, o + k * 6 + 2, none⟩ = some (.int .i64 n0) ∧ w.cell? ⟨g, o + k * 6 + 3, none⟩ = some (.string t0) ∧ w.cell? ⟨g, o + k * 6 + 4, none⟩ = some (.slice A5 l5 c5) ∧ w.cell? ⟨g, o + k * 6 + 5, none⟩ = some (.slice A6 l6 c6) ∧ JV w S y [.int .i64 k0, .bool b0, .int .i64 n0, .string t0, .slice A5 l5 c5, .slice A6 l6 c6] := by
 obtain ⟨g, o, vs, h1, h2, h3, h4, h5⟩ := h.at_ hy
 obtain ⟨A5, c5, A6, c6, k0, b0, n0, t0, l5, l6, rfl⟩ := h5.shape
 rw [Nat.zero_add] at h4
 exact ⟨g, o, k0, b0, n0, t0, A5, l5, c5, A6, l6, c6, h1, h2, h3, h4 0 _ rfl, h4 1 _ rfl, h4 2 _ rfl, h4 3 _ rfl, h4 4 _ rfl, h4 5 _ rfl, h5⟩
theorem JM.elem {w : World} {S : Nat → Prop} {A : Option Addr} {l : List (Js.Bs × Js.J)} {k : Nat} {nm : Js.Bs} {y : Js.J} (h : JM w S A 0 l) (hy : l[k]? = some (nm, y)) :
  ∃ g o k0 b0 n0 t0 A5 l5 c5 A6 l6 c6, A = some ⟨g, o, none⟩ ∧ S g ∧ g < w.heap.size ∧ w.cell? ⟨g, o + k * 7, none⟩ = some (.string (str nm)) ∧ w.cell? ⟨g, o + k * 7 + 1, none⟩ = some (.int .i64 k0) ∧ w.cell? ⟨g, o + k * 7 + 2, none⟩ = some (.bool b0) ∧ w.cell? ⟨g, o + k * 7 + 3, none⟩ = some (.int .i64 n0) ∧ w.cell? ⟨g, o + k * 7 + 4, none⟩ = some (.string t0) ∧ w.cell? ⟨g, o + k * 7 + 5, none⟩ = some (.slice A5 l5 c5) ∧ w.cell? ⟨g, o + k * 7 + 6, none⟩ = some (.slice A6 l6 c6) ∧ JV w S y [.int .i64 k0, .bool b0, .int .i64 n0, .string t0, .slice A5 l5 c5, .slice A6 l6 c6] := by
 obtain ⟨g, o, vs, h1, h2, h3, h4, h5⟩ := h.at_ hy
 obtain ⟨A5, c5, A6, c6, k0, b0, n0, t0, l5, l6, rfl⟩ := h5.shape
 rw [Nat.zero_add] at h4
 exact ⟨g, o, k0, b0, n0, t0, A5, l5, c5, A6, l6, c6, h1, h2, h3, h4 0 _ rfl, h4 1 _ rfl, h4 2 _ rfl, h4 3 _ rfl, h4 4 _ rfl, h4 5 _ rfl, h4 6 _ rfl, h5⟩
theorem nat_beq (m : Nat) : ((m : Int) == 0) = decide (m = 0) := by rw [Bool.eq_iff_iff]; simp
/-- plain, by the fields alone. -/
def plainF (k : Int) (b : Bool) (n : Int) (t : Js.Bs) (l m : Nat) : Bool :=
 decide (1 ≤ k) && decide (k ≤ 6) && (decide (k = 2) || !b) && (decide (k = 3) || decide (n = 0)) && (decide (k = 4) || decide (t = [])) && (decide (k = 5) || decide (l = 0)) && (decide (k = 6) || decide (m = 0))
set_option maxRecDepth 100000 in
set_option maxHeartbeats 8000000 in
theorem plainF_any (k : Int) (b : Bool) (n : Int) (t : Js.Bs) (A A' : Option Addr) (l c m c' : Nat) (w : World) :
  Calls Tryz.prog 80 #[.agg #[.int .i64 k, .bool b, .int .i64 n, .string (str t), .slice A l c, .slice A' m c']] w fun e w' => e = .returned (.bool (plainF k b n t l m)) ∧ Below w.heap.size w w' := by
 by_cases h1 : 1 ≤ k
 ·by_cases h6 : k ≤ 6
  ·have hk : k = 1 ∨ k = 2 ∨ k = 3 ∨ k = 4 ∨ k = 5 ∨ k = 6 := by omega
   clear h1 h6
   rcases hk with rfl | rfl | rfl | rfl | rfl | rfl
   all_goals
    go_enter Tryz.func80, Tryz.ntmps80
    go_wp2_with fail
   all_goals
    go_ret
    refine ⟨ret_bool ?_, below_box _ _⟩
    unfold plainF
    simp_all [str_list]
    try exact nat_beq _
  ·have hp := Lib.hid (show plainF k b n t l m = false by unfold plainF; rw [decide_eq_false h6]; simp)
   go_enter Tryz.func80, Tryz.ntmps80
   go_wp2_with fail
   go_ret
   exact ⟨ret_bool hp.out.symm, below_box _ _⟩
 ·have hp := Lib.hid (show plainF k b n t l m = false by unfold plainF; rw [decide_eq_false h1]; simp)
  go_enter Tryz.func80, Tryz.ntmps80
  go_wp2_with fail
  go_ret
  exact ⟨ret_bool hp.out.symm, below_box _ _⟩
set_option maxRecDepth 100000 in
set_option maxHeartbeats 8000000 in
theorem plainR_any (k : Int) (b : Bool) (n : Int) (t : Js.Bs) (A A' : Option Addr) (l c m c' : Nat) (w : World) :
  Calls Tryz.prog 71 #[.agg #[.int .i64 k, .bool b, .int .i64 n, .string (str t), .slice A l c, .slice A' m c']] w fun e w' => e = .returned (.bool (plainF k b n t l m)) ∧ Below w.heap.size w w' := by
 by_cases h1 : 1 ≤ k
 ·by_cases h6 : k ≤ 6
  ·have hk : k = 1 ∨ k = 2 ∨ k = 3 ∨ k = 4 ∨ k = 5 ∨ k = 6 := by omega
   clear h1 h6
   rcases hk with rfl | rfl | rfl | rfl | rfl | rfl
   all_goals
    go_enter Tryz.func71, Tryz.ntmps71
    go_wp2_with fail
   all_goals
    go_ret
    refine ⟨ret_bool ?_, below_box _ _⟩
    unfold plainF
    simp_all [str_list]
    try exact nat_beq _
  ·have hp := Lib.hid (show plainF k b n t l m = false by unfold plainF; rw [decide_eq_false h6]; simp)
   go_enter Tryz.func71, Tryz.ntmps71
   go_wp2_with fail
   go_ret
   exact ⟨ret_bool hp.out.symm, below_box _ _⟩
 ·have hp := Lib.hid (show plainF k b n t l m = false by unfold plainF; rw [decide_eq_false h1]; simp)
  go_enter Tryz.func71, Tryz.ntmps71
  go_wp2_with fail
  go_ret
  exact ⟨ret_bool hp.out.symm, below_box _ _⟩
theorem plainF_eq (k : Int) (b : Bool) (n : Int) (t : Js.Bs) (l : List Js.J) (m : List (Js.Bs × Js.J)) : plainF k b n t l.length m.length = Js.plain (.mk k b n t l m) := by
 have e : ∀ {α : Type} (x : List α), decide (x.length = 0) = x.isEmpty := fun x => by cases x <;> simp
 unfold plainF Js.plain
 rw [e, e]
 rfl
theorem plain_any {w : World} {S : Nat → Prop} {x : Js.J} {vs : List Value} (h : JV w S x vs) : Calls Tryz.prog 80 #[.agg vs.toArray] w fun e w' => e = .returned (.bool (Js.plain x)) ∧ Below w.heap.size w w' := by
 cases x with | mk k b n t l m =>
 unfold JV at h
 obtain ⟨A, c, A', c', rfl, _⟩ := h
 rw [← plainF_eq]
 exact plainF_any k b n t A A' l.length c m.length c' w
theorem plainRef_any {w : World} {S : Nat → Prop} {x : Js.J} {vs : List Value} (h : JV w S x vs) : Calls Tryz.prog 71 #[.agg vs.toArray] w fun e w' => e = .returned (.bool (Js.plain x)) ∧ Below w.heap.size w w' := by
 cases x with | mk k b n t l m =>
 unfold JV at h
 obtain ⟨A, c, A', c', rfl, _⟩ := h
 rw [← plainF_eq]
 exact plainR_any k b n t A A' l.length c m.length c' w
end Go.Proofs.YtimioelnnhnbiaaGreatDoor
