/-
  THE WALKS, thirteenth part: value of json's reader whole; Decode: its deferred closure, each way. CONDITIONS: the text is not too long; the plain parser's rounds are enough.
-/
import Derived.Test.YtimioelnnhnbiaaDoorWM
import Derived.Defers
import Derived.Recover
namespace Go.Proofs.YtimioelnnhnbiaaDoor
open Go.RowKit
theorem value_all (b : Nat) (s : Js.Bs) (hlen : s.length ≤ 1073741824) : ∀ n, ValueC b s n ∧ InnerC b s n := by
  intro n
  induction n using Nat.strongRecOn with
  | ind n ih =>
    cases n with
    | zero => exact ⟨fun st w _ _ hne => absurd rfl hne, fun st w _ _ hne => absurd rfl hne⟩
    | succ n => exact ⟨value_of_inner b s hlen n (ih n (Nat.lt_succ_self n)).2, inner_of_value b s hlen n (fun m hm => (ih m (by omega)).1)⟩
def SBox (w : World) (b : Nat) (x y : Int) : Prop := w.heap[b]? = some (.cells #[.int .i64 x, .int .i64 y] 34 (0, 0))
theorem s34_load {w : World} {b : Nat} {x y : Int} (h : SBox w b x y) : (loadVar 34 ⟨b, 0, none⟩).run Tryd.prog w = .ok (.agg #[.int .i64 x, .int .i64 y]) w :=
  run_loadVar_row w b 34 34 #[.int .i64 x, .int .i64 y] (0, 0) _ h Tryd.underlying34 rfl (by kernel_rfl)
theorem s34_set {w : World} {b : Nat} {p q : Int} (x y : Int) (h : SBox w b p q) :
    But [b] w ((w.setCell ⟨b, 0, none⟩ (.int .i64 x)).setCell ⟨b, 1, none⟩ (.int .i64 y)) ∧ SBox ((w.setCell ⟨b, 0, none⟩ (.int .i64 x)).setCell ⟨b, 1, none⟩ (.int .i64 y)) b x y := by
  obtain ⟨h1, h2⟩ := but_set (i := 0) (.int .i64 x) h
  obtain ⟨h3, h4⟩ := but_set (i := 1) (.int .i64 y) h2
  exact ⟨h1.trans h3, h4⟩
theorem SBox.cells {w : World} {b : Nat} {x y : Int} (h : SBox w b x y) : w.cell? ⟨b, 0, none⟩ = some (.int .i64 x) ∧ w.cell? ⟨b, 1, none⟩ = some (.int .i64 y) ∧ w.frozen? ⟨b, 0, none⟩ = false ∧ w.frozen? ⟨b, 1, none⟩ = false :=
  ⟨(blk_cells h 0).trans rfl, (blk_cells h 1).trans rfl, blk_free h 0, blk_free h 1⟩
theorem results_row2 {fn : Func} {p q : Tmp} {ty ty' : TypeId} (h : fn.results = #[.cell p ty, .cell q ty']) (tmps : Array Value) (P : Program) (w : World) (g g' : Nat) (cs cs' : Array Value)
    (hp : tmps.getD p undef = .pointer (some ⟨g, 0, none⟩)) (hl : (loadVar ty ⟨g, 0, none⟩).run P w = .ok (.agg cs) w)
    (hq : tmps.getD q undef = .pointer (some ⟨g', 0, none⟩)) (hl' : (loadVar ty' ⟨g', 0, none⟩).run P w = .ok (.agg cs') w) :
    (results fn tmps).run P w = .ok (.tuple #[.agg cs, .agg cs']) w := by
  rw [Array.getD_eq_getD_getElem?] at hp hq
  simp [results, h, hp, hq, asAddr, hl, hl']
set_option maxRecDepth 100000 in
set_option maxHeartbeats 4000000 in
theorem catch_idle (x e : Nat) (w : World) :
    CallsD Tryd.prog 24 #[.pointer (some ⟨x, 0, none⟩), .pointer (some ⟨e, 0, none⟩)] .returning w fun e u' w' => e = .returned (.tuple #[]) ∧ u' = .returning ∧ w' = w := by
  refine callsD_of_wpS Tryd.func24 rfl fun c₀ cs hu => ?_
  apply wpS_seq
  apply wpS_region
  simp [wpOpsS, go_sem, recoverD, hu, Tryd.ntmps24, Exit.thenS]
  refine wpS_of_wp ?_
  go_wp2_with fail
  cases c₀
  simp_all [bodyPostS, results, Tryd.results24]
theorem recover_two {P : Program} {ops : Array Oper} {Q : Exit → Act → List Frame → World → Prop} {a : Act} {c₀ : Frame} {cs : List Frame} {w : World} {V : Value} {o0 o1 : Oper}
    (h0 : ops[0]? = some o0) (h1 : ops[1]? = some o1) (g0 : o0.guard = none) (g1 : o1.guard = none) (r0 : (execOp a.eval o0).run P w = .ok .recover w)
    (hm : c₀.mode = .panicking [{ v := V, recovered := false }]) (r1 : (execOp (a.put o0.dst V).eval o1).run P w = .ok (.value V) w)
    (h : Q .normal ((a.put o0.dst V).put o1.dst V) ({ c₀ with mode := .panicking [{ v := V, recovered := true }] } :: cs) w) : wpOpsS P ops Q [0, 1] a (c₀ :: cs) w := by
  unfold wpOpsS
  have w0 : ∀ l, Region.wanted o0 l = true := fun l => by simp [Region.wanted, g0]
  have w1 : ∀ l, Region.wanted o1 l = true := fun l => by simp [Region.wanted, g1]
  simp only [h0, w0, if_true, r0, recoverD, hm]
  unfold wpOpsS
  simp only [h1, w1, if_true, r1]
  unfold wpOpsS
  rw [Oper.upon_value]
  exact h
theorem assert_wrong (k : Int) (w : World) : (Instr.typeAssert (.iface 64 (.int .i64 k)) 20 64 true).run Tryd.prog w = .ok (.tuple #[.int .i64 k, .bool true]) w := by kernel_rfl
set_option maxRecDepth 100000 in
set_option maxHeartbeats 4000000 in
theorem catch_bad (x e k : Nat) (w : World) (hxe : x ≠ e) (p0 p1 p2 p3 p4 p5 : Value) (a c : Int) (hx : JBox w x p0 p1 p2 p3 p4 p5) (he : SBox w e a c) :
    CallsD Tryd.prog 24 #[.pointer (some ⟨x, 0, none⟩), .pointer (some ⟨e, 0, none⟩)] (.panicking [{ v := .iface 64 (.int .i64 k), recovered := false }]) w fun en u' w' =>
      en = .returned (.tuple #[]) ∧ u' = .panicking [{ v := .iface 64 (.int .i64 k), recovered := true }] ∧ But [x, e] w w' ∧ JBox w' x (.int .i64 0) (.bool false) (.int .i64 0) (.string ⟨#[]⟩) (.slice none 0 0) (.slice none 0 0) ∧ SBox w' e 330 k := by
  obtain ⟨c0, c1, c2, c3, c4, c5⟩ := hx.cells
  obtain ⟨f0, f1, f2, f3, f4, f5⟩ := hx.frees
  have HX := Lib.hid hx
  have HE := Lib.hid he
  obtain ⟨d0, d1, g0, g1⟩ := he.cells
  clear hx he
  obtain ⟨V, hV⟩ : ∃ V, Value.iface 64 (.int .i64 (k : Int)) = V := ⟨_, rfl⟩
  rw [hV]
  have HV := Lib.hid hV
  clear hV c0 c1 c2 c3 c4 c5 f0 f1 f2 f3 f4 f5 d0 d1 g0 g1
  refine callsD_of_wpS Tryd.func24 rfl fun c₀ cs hu => ?_
  apply wpS_seq
  apply wpS_region
  refine recover_two (V := V) rfl rfl rfl rfl (by kernel_rfl) hu (by kernel_rfl) ?_
  have e2 : ((({ tmps := #[.pointer (some ⟨x, 0, none⟩), .pointer (some ⟨e, 0, none⟩)] ++ Array.replicate (Tryd.f24.ntmps - (#[.pointer (some ⟨x, 0, none⟩), .pointer (some ⟨e, 0, none⟩)] : Array Value).size) undef, defers := [] } : Act).put (some 5) V).put (some 2) V) = { tmps := #[.pointer (some ⟨x, 0, none⟩), .pointer (some ⟨e, 0, none⟩), V, undef, undef, V, undef, undef, undef, undef, undef, undef, undef, undef, undef, undef, undef, undef, undef], defers := [] } := by kernel_rfl
  show Exit.thenS _ _ _ ((({ tmps := #[.pointer (some ⟨x, 0, none⟩), .pointer (some ⟨e, 0, none⟩)] ++ Array.replicate (Tryd.f24.ntmps - (#[.pointer (some ⟨x, 0, none⟩), .pointer (some ⟨e, 0, none⟩)] : Array Value).size) undef, defers := [] } : Act).put (some 5) V).put (some 2) V) _ _
  rw [e2]
  unfold Exit.thenS
  simp only
  refine wpS_of_wp ?_
  have hV := HV.out
  subst hV
  have hta := assert_wrong k
  obtain ⟨c0, c1, c2, c3, c4, c5⟩ := HX.out.cells
  obtain ⟨f0, f1, f2, f3, f4, f5⟩ := HX.out.frees
  obtain ⟨d0, d1, g0, g1⟩ := HE.out.cells
  go_wp2_with fail
  have h1 := j25_set (.int .i64 0) (.bool false) (.int .i64 0) (.string ⟨#[]⟩) (.slice none 0 0) (.slice none 0 0) HX.out
  unfold set6 at h1
  have h2 := s34_set 330 (k : Int) (show SBox _ e a c from h1.1.blk HE.out (by simpa using hxe.symm))
  refine ⟨rfl, _, rfl, .tuple #[], by kernel_rfl, rfl, rfl, (h1.1.mono (by intro j hj; simp at hj; simp [hj])).trans (h2.1.mono (by intro j hj; simp at hj; simp [hj])), h1.2.but h2.1 (by simpa using hxe), h2.2⟩
end Go.Proofs.YtimioelnnhnbiaaDoor
