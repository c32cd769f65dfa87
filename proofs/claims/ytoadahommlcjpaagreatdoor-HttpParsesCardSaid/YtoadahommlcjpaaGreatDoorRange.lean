/-
  A range over an iterator that keeps state in a cell of its own (block sb): the law for the loop, in a plain walk. CONDITIONS: as the law says.
-/
import Derived.RangeFuncNested
import Derived.RangeFuncBound
import Derived.RangeFuncCalls
import Derived.RangeFuncLeaves
import Derived.Test.YtoadahommlcjpaaGreatDoorBase
namespace Go.Proofs.YtoadahommlcjpaaGreatDoor
open Go.RowKit
section
variable {P : Program}
theorem But.putObj {S : List Nat} (w : World) {k : Nat} (o : Obj) (hk : k ∈ S) : But S w (w.putObj k o) :=
  ⟨rfl, rfl, rfl, by simp, fun j _ hj => World.putObj_heap_other (fun e => hj (e ▸ hk))⟩
/-- What the loop's invariant abides: a step of the iterator's own, and a turn of a block that holds no cells, from B0 on. -/
structure Abides (B0 sb : Nat) (I : World → Prop) : Prop where
  step : ∀ A W, I A → But [sb] A W → I W
  book : ∀ A k o o', I A → B0 ≤ k → A.heap[k]? = some o → o.isCells = false → I (A.putObj k o')
/-- The lowest blocks and the iterator's stand as they stood. -/
def LowKept (lo sb : Nat) (A W : World) : Prop := ∀ j, j < lo ∨ j = sb → W.heap[j]? = A.heap[j]?
/-- The iterator's contract: the elements come in order; it stops where a round says so. -/
def SeqB {α : Type} (P : Program) (gf : Nat) (lb : Array Value) (enc : α → Value) (lo sb : Nat) (ls : List α) (w : World) : Prop :=
  ∀ (l : Nat) (J Jx : List α → World → Prop) (W : World), Below w.heap.size w W → (∀ s A W', J s A → But [sb] A W' → J s W') → (∀ s A W', Jx s A → But [sb] A W' → Jx s W') →
    (∀ pre x W1, J pre W1 → pre ++ [x] <+: ls → YieldAt Fence.wide 0 P l #[enc x] W1 fun e W' =>
      (e = .returned (.bool true) ∧ J (pre ++ [x]) W' ∧ LowKept lo sb W1 W') ∨ (e = .returned (.bool false) ∧ Jx (pre ++ [x]) W')) →
    J [] W →
    CallsIn Fence.wide 0 P gf (#[.func (.yield l) #[] #[]] ++ lb) W fun e W' => (∃ v, e = .returned v) ∧ (J ls W' ∨ ∃ pre, pre <+: ls ∧ Jx pre W')
/-- How a round may be left. -/
def bodyB {α : Type} (lo sb : Nat) (I : List α → World → Prop) (Ix : Code → List α → World → Prop) (xs : List α) (W : World) : Exit → Act → World → Prop
  | .normal, _, W' => KeepsOthers W W' ∧ LowKept lo sb W W' ∧ I xs W'
  | .ret, _, W' => KeepsOthers W W' ∧ Ix .ret xs W'
  | .exit id, _, W' => KeepsOthers W W' ∧ Ix (.exit id) xs W'
  | .goto t, _, W' => KeepsOthers W W' ∧ Ix (.goto t) xs W'
  | .panic _, _, _ => False
  | .outgrown, _, _ => False
theorem wp_rangeB {α : Type} {g : Operand} {ps : Array Tmp} {assign body : Code} {Q : Exit → Act → World → Prop} {a : Act} {w : World}
    {gf : Nat} {lb : Array Value} (hg : a.eval g = .func (.func gf) #[] lb) (eg : ∀ args w, (callFunc gf args).run P w = .ok (.enter gf args) w)
    {enc : α → Value} {lo sb : Nat} {ls : List α} (hseq : SeqB P gf lb enc lo sb ls w) (hlo : lo ≤ w.heap.size) (hsb : sb < w.heap.size) (hps : ps.size = 1)
    (I : List α → World → Prop) (Ix : Code → List α → World → Prop) (hI : ∀ s, Abides w.heap.size sb (I s)) (hIx : ∀ c s, Abides w.heap.size sb (Ix c s)) (h0 : I [] w) (a₁ : α → Act)
    (hassign : ∀ (l : Nat) (x : α) (W : World) (K : Act → World → Prop), K (a₁ x) W →
      assign.wpIn (Fence.wide.inRound l) 0 P (Exit.then K (fun _ _ _ => False)) { tmps := (ps.zip #[enc x]).foldl (fun t (p, v) => t.setIfInBounds p v) a.tmps, defers := [] } W)
    (hbody : ∀ (l : Nat) (pre : List α) (x : α) (W : World), I pre W → pre ++ [x] <+: ls → body.wpIn (Fence.wide.inRound l) 0 P (bodyB lo sb I Ix (pre ++ [x]) W) (a₁ x) W)
    (hdone : ∀ (D : Nat) (W : World), I ls W → w.heap.size ≤ D → W.heap[D]? = some (.deferred (some [])) → Q .normal { a with defers := { target := .collected D, args := #[] } :: a.defers } W)
    (hstop : ∀ (D : Nat) (c : Code) (pre : List α) (W : World), pre <+: ls → Ix c pre W → w.heap.size ≤ D → W.heap[D]? = some (.deferred (some [])) → c.wp P Q { a with defers := { target := .collected D, args := #[] } :: a.defers } W) :
    (Code.rangeFunc g ps assign body).wp P Q a w := by
  refine wpIn_wide.1 (wpIn_rangeFunc (F := Fence.wide) (n := 0) ?_)
  intro fn _
  have hround : Fence.wide.round = none := rfl
  rw [hround]
  obtain ⟨rec, hrec⟩ : ∃ rec : LoopState → Option Code → Loop, rec = fun st pe => { state := st, pending := pe, fn, tmps := a.tmps, params := ps, assign, body, defers := w.heap.size } := ⟨_, rfl⟩
  obtain ⟨N, hN⟩ : ∃ N, w.heap.size = N := ⟨_, rfl⟩
  rw [hN] at hrec hI hIx hdone hstop hsb hlo
  obtain ⟨W1, hW1⟩ : ∃ W1, (w.alloc (.deferred (some []))).alloc (.loop (rec .ready none)) = W1 := ⟨_, rfl⟩
  have hs0 : (w.alloc (.deferred (some []))).heap.size = N + 1 := by rw [World.size_alloc, hN]
  have hL : W1.heap[N + 1]? = some (.loop (rec .ready none)) := by
    rw [← hW1, ← hs0]; exact World.alloc_heap_new _ _
  have hK : W1.heap[N]? = some (.deferred (some [])) := by
    rw [← hW1]; exact (Below.heap_alloc _ _ _ (by rw [hs0]; omega)).trans (hN ▸ World.alloc_heap_new w _)
  have hb : Below N w W1 := by
    rw [← hW1]; exact ((Below.refl _ w).alloc (Nat.le_of_eq hN.symm) _).alloc (by rw [hs0]; omega) _
  have hI1 : I [] W1 := (hI []).step w W1 h0 (But.of (S := [sb]) (hN.symm ▸ hb))
  refine ⟨N + 1, [{ target := .collected N, args := #[] }], W1, { target := .fn (.func gf) lb, args := #[.func (.yield (N + 1)) #[] #[]] }, W1, gf, #[.func (.yield (N + 1)) #[] #[]] ++ lb, W1, ?_, ?_, ?_, ?_, ?_, ?_⟩
  · have h := run_enterLoop_outer (P := P) (w := w) fn a.tmps ps assign body
    rw [hN] at h
    rw [← hW1, hrec]
    exact h
  · simp only [resolve, hg]
    simp [go_sem]
  · intro _ _; trivial
  · simp [invoke, go_sem, eg]
  · intro h; cases h
  have ne1 : (N + 1) ∉ [sb] := by simp; omega
  have ne2 : N ∉ [sb] := by simp; omega
  refine (hseq (N + 1) (fun pre W => I pre W ∧ W.heap[N + 1]? = some (.loop (rec .ready none)) ∧ W.heap[N]? = some (.deferred (some [])))
    (fun pre W => ∃ c, Ix c pre W ∧ W.heap[N + 1]? = some (.loop (rec .done (some c))) ∧ W.heap[N]? = some (.deferred (some [])))
    W1 (hN.symm ▸ hb) (fun s A W' hs hk => ⟨(hI s).step A W' hs.1 hk, hk.blk hs.2.1 ne1, hk.blk hs.2.2 ne2⟩)
    (fun s A W' hs hk => by obtain ⟨c, h1, h2, h3⟩ := hs; exact ⟨c, (hIx c s).step A W' h1 hk, hk.blk h2 ne1, hk.blk h3 ne2⟩) ?_ ⟨hI1, hL, hK⟩).mono ?_
  · rintro pre x W ⟨hi, hl, hk⟩ hpre
    have hlt := (Array.getElem?_eq_some_iff.1 hl).1
    have hy := run_yield (P := P) (args := #[enc x]) hl (by rw [hrec]; simp [hps])
    rw [hrec] at hy
    refine ⟨fn, _, assign, body, hy, roundIn_of_wpIn trivial (hassign _ x W _ ⟨_, run_beginRound hl (by rw [hrec]), ?_⟩)⟩
    obtain ⟨Wb, hWb⟩ : ∃ Wb, W.putObj (N + 1) (.loop { rec .ready none with state := .busy }) = Wb := ⟨_, rfl⟩
    have hlb : Wb.heap[N + 1]? = some (.loop { rec .ready none with state := .busy }) := by rw [← hWb]; exact World.putObj_heap_same hlt
    have hkb : Wb.heap[N]? = some (.deferred (some [])) := by rw [← hWb]; exact (World.putObj_heap_other (by omega)).trans hk
    have hib : I pre Wb := by rw [← hWb]; exact (hI pre).book W _ _ _ hi (by omega) hl rfl
    have hsbb : LowKept lo sb W Wb := fun j hj => by rw [← hWb]; exact World.putObj_heap_other (by omega)
    rw [hWb]
    refine wpIn_mono (hbody _ pre x Wb hib hpre) ?_
    have fin : ∀ (jump : Option Code) (W3 : World), KeepsOthers Wb W3 →
        (Instr.endRound (N + 1) jump).run P W3 = .ok (.bool jump.isNone) (W3.putObj (N + 1) (.loop (rec (if jump.isNone then .ready else .done) jump))) ∧
        W3.heap[N + 1]? = some (.loop { rec .ready none with state := .busy }) ∧
        (W3.putObj (N + 1) (.loop (rec (if jump.isNone then .ready else .done) jump))).heap[N + 1]? = some (.loop (rec (if jump.isNone then .ready else .done) jump)) ∧
        (W3.putObj (N + 1) (.loop (rec (if jump.isNone then .ready else .done) jump))).heap[N]? = some (.deferred (some [])) := fun jump W3 hk3 => by
      have h3 := hk3.same _ _ hlb rfl
      have hr := run_endRound (P := P) jump h3
      rw [hrec] at hr ⊢
      exact ⟨hr, by rw [hrec] at h3; exact h3, World.putObj_heap_same (Array.getElem?_eq_some_iff.1 h3).1, (World.putObj_heap_other (by omega)).trans (hk3.same _ _ hkb rfl)⟩
    rintro e a3 W3 hp
    cases e with
    | normal =>
      obtain ⟨hk3, hs3, hi3⟩ := hp
      obtain ⟨f1, f2, f3, f4⟩ := fin none W3 hk3
      exact ⟨_, _, f1, .inl ⟨rfl, ⟨(hI _).book W3 _ _ _ hi3 (by omega) f2 rfl, f3, f4⟩, fun j hj => (World.putObj_heap_other (by omega)).trans ((hs3 j hj).trans (hsbb j hj))⟩⟩
    | ret =>
      obtain ⟨hk3, hi3⟩ := hp
      obtain ⟨f1, f2, f3, f4⟩ := fin (some .ret) W3 hk3
      exact ⟨_, _, f1, .inr ⟨rfl, .ret, (hIx _ _).book W3 _ _ _ hi3 (by omega) f2 rfl, f3, f4⟩⟩
    | exit id =>
      obtain ⟨hk3, hi3⟩ := hp
      obtain ⟨f1, f2, f3, f4⟩ := fin (some (.exit id)) W3 hk3
      exact ⟨_, _, f1, .inr ⟨rfl, .exit id, (hIx _ _).book W3 _ _ _ hi3 (by omega) f2 rfl, f3, f4⟩⟩
    | goto t =>
      obtain ⟨hk3, hi3⟩ := hp
      obtain ⟨f1, f2, f3, f4⟩ := fin (some (.goto t)) W3 hk3
      exact ⟨_, _, f1, .inr ⟨rfl, .goto t, (hIx _ _).book W3 _ _ _ hi3 (by omega) f2 rfl, f3, f4⟩⟩
    | panic ch => exact hp.elim
    | outgrown => exact hp.elim
  · rintro e W2 ⟨⟨v, rfl⟩, (⟨hi, hl, hk⟩ | ⟨pre, hpre, c, hi, hl, hk⟩)⟩
    · refine ⟨none, _, by have h := run_endLoop (P := P) hl (by rw [hrec]; simp); rw [hrec] at h; exact h, ?_⟩
      exact hdone N _ ((hI _).book W2 _ _ _ hi (by omega) hl rfl) (Nat.le_refl _) ((World.putObj_heap_other (by omega)).trans hk)
    · refine ⟨some c, _, by have h := run_endLoop (P := P) hl (by rw [hrec]; simp); rw [hrec] at h; exact h, ?_⟩
      exact wpIn_wide.2 (hstop N c pre _ hpre ((hIx c pre).book W2 _ _ _ hi (by omega) hl rfl) (Nat.le_refl _) ((World.putObj_heap_other (by omega)).trans hk))
/-- A function with a mark among its deferred calls is left. -/
theorem leave_mark {fn : Func} {R : Ending → World → Prop} {a : Act} {W : World} {D : Nat} (hd : a.defers = [{ target := .collected D, args := #[] }]) (hK : W.heap[D]? = some (.deferred (some []))) {v : Value}
    (hr : (results fn a.tmps).run P (W.putObj D (.deferred none)) = .ok v (W.putObj D (.deferred none))) (h : R (.returned v) (W.putObj D (.deferred none))) : bodyPostM Fence.wide 0 P fn R .ret a W := by
  show LeavesInM Fence.wide 0 P fn a.tmps R a.defers .returning W
  rw [hd]
  exact ⟨by simp, .inl ⟨D, _, rfl, run_takeDeferred hK, ⟨v, hr, h⟩⟩⟩
theorem calls_of_marks {f : FuncId} {fn : Func} {c : Code} {args : Array Value} {w : World} {R : Ending → World → Prop}
    (hf : P.funcs[f]? = some fn) (hb : fn.body = some c) (h : c.wp P (bodyPostM Fence.wide 0 P fn R) { tmps := args ++ Array.replicate (fn.ntmps - args.size) undef, defers := [] } w) : Calls P f args w R :=
  callsIn_wide.1 (callsIn_of_wp_marks (n := 0) hf hb trivial (wpIn_wide.2 h) rfl)
end
end Go.Proofs.YtoadahommlcjpaaGreatDoor
