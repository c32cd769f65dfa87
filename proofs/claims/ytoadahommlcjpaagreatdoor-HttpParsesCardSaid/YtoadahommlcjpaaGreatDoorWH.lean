/-
  THE WALKS, eighth part: rest.
-/
import Derived.Test.YtoadahommlcjpaaGreatDoorWG
import Derived.Test.YtoadahommlcjpaaGreatDoorRefLaw
import Derived.Test.YtoadahommlcjpaaGreatDoorTill
import Derived.ScopeJumps
namespace Go.Proofs.YtoadahommlcjpaaGreatDoor
open Go.RowKit
attribute [local go_sem] Oper.semAt_some
theorem keeps_of_but {S : List Nat} {W W' : World} (h : But S W W') (hS : ∀ j ∈ S, ∀ o, W.heap[j]? = some o → o.isCells = true) : KeepsOthers W W' :=
  ⟨h.size, fun k o hk ho => by
    refine h.blk hk (fun hm => ?_)
    rw [hS k hm o hk] at ho; cases ho⟩
theorem Own.book {e : TypeId} {size B : Nat} {v : Value} {n : Nat} {xs : List Value} {w : World} (h : Own e size B v n xs w) {k : Nat} {o o' : Obj} (hk : w.heap[k]? = some o) (hc : o.isCells = false) : Own e size B v n xs (w.putObj k o') := by
  refine ⟨⟨h.own.1, ?_⟩, by simpa using h.le⟩
  rcases h.own.2 with hn | ⟨g, cap, cur, rfl, hb, hg, rest⟩
  · exact .inl hn
  · refine .inr ⟨g, cap, cur, rfl, hb, ?_, rest⟩
    rw [World.putObj_heap_other (fun e => ?_)]
    · exact hg
    · subst e
      rw [hg] at hk
      cases hk; cases hc
def hdCells (l : List Ht.Hd) : List Value := l.flatMap fun h => [bstr h.name, bstr h.value]
/-- What lies in memory between two lines. -/
def RSt (N : Nat) (W0 : World) (a : Ht.Acc) (W : World) : Prop := ∃ hv,
  W.heap[N]? = some (.cells #[.slice none 0 0, .slice none 0 0, .int .i64 0] 73 (0, 0)) ∧
  W.heap[N + 1]? = some (.cells #[hv, .slice none 0 0, .int .i64 0] 73 (0, 0)) ∧
  W.heap[N + 2]? = some (.cells #[.int .i64 a.n] 3 (0, 0)) ∧ W.heap[N + 3]? = some (.cells #[.int .i64 a.lengths] 3 (0, 0)) ∧ W.heap[N + 4]? = some (.cells #[.bool a.coded] 4 (0, 0)) ∧
  Own 65 2 (N + 6) hv a.heads.length (hdCells a.heads) W ∧ Below N W0 W ∧ Env W
theorem RSt.step {N sb : Nat} {W0 A W : World} {a : Ht.Acc} (hsb : sb = N + 5) (hN : 9 ≤ N) (h : RSt N W0 a A) (hk : But [sb] A W) : RSt N W0 a W := by
  obtain ⟨hv, h1, h2, h3, h4, h5, h6, h7, h8⟩ := h
  exact ⟨hv, hk.blk h1 (by simp; omega), hk.blk h2 (by simp; omega), hk.blk h3 (by simp; omega), hk.blk h4 (by simp; omega), hk.blk h5 (by simp; omega), h6.but hk (by simp; omega), h7.trans (hk.to (by have := h6.le; omega) (by simp; omega)), h8.low (fun j hj => hk.block j (by have := h8.big; omega) (by simp; omega))⟩
theorem RSt.book {N : Nat} {W0 A : World} {a : Ht.Acc} (hN : 9 ≤ N) (h : RSt N W0 a A) {k : Nat} {o o' : Obj} (hk6 : N + 6 ≤ k) (hk : A.heap[k]? = some o) (hc : o.isCells = false) : RSt N W0 a (A.putObj k o') := by
  obtain ⟨hv, h1, h2, h3, h4, h5, h6, h7, h8⟩ := h
  have hb : But [k] A (A.putObj k o') := But.putObj A o' (by simp)
  exact ⟨hv, hb.blk h1 (by simp; omega), hb.blk h2 (by simp; omega), hb.blk h3 (by simp; omega), hb.blk h4 (by simp; omega), hb.blk h5 (by simp; omega), h6.book hk hc, h7.trans (hb.to (by have := h6.le; omega) (by simp; omega)), h8.low (fun j hj => hb.block j (by have := h8.big; omega) (by simp; omega))⟩
/-- What lies in memory where a line was wrong. -/
def RBad (N : Nat) (W0 W : World) : Prop := W.heap[N]? = some (.cells #[.slice none 0 0, .slice none 0 0, .int .i64 0] 73 (0, 0)) ∧ Below N W0 W ∧ N + 6 ≤ W.heap.size
theorem RBad.step {N sb : Nat} {W0 A W : World} (hsb : sb = N + 5) (h : RBad N W0 A) (hk : But [sb] A W) : RBad N W0 W :=
  ⟨hk.blk h.1 (by simp; omega), h.2.1.trans (hk.to (by have := h.2.2; omega) (by simp; omega)), Nat.le_trans h.2.2 hk.size⟩
theorem RBad.book {N : Nat} {W0 A : World} (h : RBad N W0 A) {k : Nat} {o' : Obj} (hk6 : N + 6 ≤ k) : RBad N W0 (A.putObj k o') := by
  have hb : But [k] A (A.putObj k o') := But.putObj A o' (by simp)
  exact ⟨hb.blk h.1 (by simp; omega), h.2.1.trans (hb.to (by have := h.2.2; omega) (by simp; omega)), by have := h.2.2; simpa using this⟩
theorem RSt.env {N : Nat} {W0 W : World} {a : Ht.Acc} (h : RSt N W0 a W) : Env W := by
  obtain ⟨hv, h1, h2, h3, h4, h5, h6, h7, h8⟩ := h
  exact h8
theorem RSt.size {N : Nat} {W0 W : World} {a : Ht.Acc} (h : RSt N W0 a W) : N + 6 ≤ W.heap.size := by
  obtain ⟨hv, h1, h2, h3, h4, h5, h6, h7, h8⟩ := h
  exact h6.le
theorem RSt.next {N : Nat} {W0 A W : World} {a : Ht.Acc} (h : RSt N W0 a A) (hb : Below A.heap.size A W) : RSt N W0 a W := by
  obtain ⟨hv, h1, h2, h3, h4, h5, h6, h7, h8⟩ := h
  have hk : But [] A W := But.of hb
  exact ⟨hv, hk.blk h1 (by simp), hk.blk h2 (by simp), hk.blk h3 (by simp), hk.blk h4 (by simp), hk.blk h5 (by simp), h6.next hb, h7.trans (hb.mono (by have := h6.le; omega)), h8.next hb⟩
theorem RSt.low {N : Nat} {W0 A W : World} {a : Ht.Acc} (h : RSt N W0 a A) (hb : Below A.heap.size A W) : LowKept 9 (N + 5) A W := fun j hj => hb.block j (by
  have := h.size; have := h.env.big; omega)
/-- What stands in the middle of a round: the header lies in block g. -/
structure RMid (N : Nat) (W0 W : World) (g : Nat) (nm vl : Ht.Bs) (a : Ht.Acc) (V : World) : Prop where
  others : KeepsOthers W V
  low : LowKept 9 (N + 5) W V
  st : RSt N W0 a V
  hd : V.heap[g]? = some (.cells #[bstr nm, bstr vl] 65 (0, 0))
  big : 9 ≤ N
  far : N + 6 ≤ g
theorem RMid.next {N : Nat} {W0 W : World} {g : Nat} {nm vl : Ht.Bs} {a : Ht.Acc} {V V' : World} (h : RMid N W0 W g nm vl a V) (hb : Below V.heap.size V V') : RMid N W0 W g nm vl a V' :=
  ⟨h.others.trans (keeps_of_but (But.of (S := []) hb) (by simp)), fun j hj => (h.st.low hb j hj).trans (h.low j hj), h.st.next hb, blk_next hb h.hd, h.big, h.far⟩
theorem RMid.but {N : Nat} {W0 W : World} {g : Nat} {nm vl : Ht.Bs} {a a' : Ht.Acc} {V V' : World} (h : RMid N W0 W g nm vl a V) {b : Nat} (hb1 : N + 1 ≤ b) (hb2 : b ≤ N + 4) (hk : But [b] V V') (hkc : KeepsOthers V V') (hst : RSt N W0 a' V') : RMid N W0 W g nm vl a' V' :=
  ⟨h.others.trans hkc, fun j hj => (hk.block j (by have := h.st.size; have := h.big; omega) (by have := h.big; simp; omega)).trans (h.low j hj), hst, hk.blk h.hd (by have := h.far; simp; omega), h.big, h.far⟩
theorem RMid.set_n {N : Nat} {W0 W : World} {g : Nat} {nm vl : Ht.Bs} {a : Ht.Acc} {V : World} (h : RMid N W0 W g nm vl a V) (v : Int) : RMid N W0 W g nm vl { a with n := v } (V.setCell ⟨N + 2, 0, none⟩ (.int .i64 v)) := by
  have hbig := h.big
  obtain ⟨hv, h1, h2, h3, h4, h5, h6, h7, h8⟩ := h.st
  obtain ⟨hk, hn⟩ := but_set (i := 0) (.int .i64 v) h3
  exact h.but (b := N + 2) (by omega) (by omega) hk (KeepsOthers.setCell _ _ _) ⟨hv, hk.blk h1 (by simp), hk.blk h2 (by simp), hn, hk.blk h4 (by simp), hk.blk h5 (by simp), h6.but hk (by simp), h7.trans (hk.to (by have := h6.le; omega) (by simp)), h8.low (fun j hj => hk.block j (by have := h8.big; omega) (by simp; omega))⟩
theorem RMid.set_lengths {N : Nat} {W0 W : World} {g : Nat} {nm vl : Ht.Bs} {a : Ht.Acc} {V : World} (h : RMid N W0 W g nm vl a V) (v : Int) : RMid N W0 W g nm vl { a with lengths := v } (V.setCell ⟨N + 3, 0, none⟩ (.int .i64 v)) := by
  have hbig := h.big
  obtain ⟨hv, h1, h2, h3, h4, h5, h6, h7, h8⟩ := h.st
  obtain ⟨hk, hn⟩ := but_set (i := 0) (.int .i64 v) h4
  exact h.but (b := N + 3) (by omega) (by omega) hk (KeepsOthers.setCell _ _ _) ⟨hv, hk.blk h1 (by simp), hk.blk h2 (by simp), hk.blk h3 (by simp), hn, hk.blk h5 (by simp), h6.but hk (by simp), h7.trans (hk.to (by have := h6.le; omega) (by simp)), h8.low (fun j hj => hk.block j (by have := h8.big; omega) (by simp; omega))⟩
theorem RMid.set_coded {N : Nat} {W0 W : World} {g : Nat} {nm vl : Ht.Bs} {a : Ht.Acc} {V : World} (h : RMid N W0 W g nm vl a V) (v : Bool) : RMid N W0 W g nm vl { a with coded := v } (V.setCell ⟨N + 4, 0, none⟩ (.bool v)) := by
  have hbig := h.big
  obtain ⟨hv, h1, h2, h3, h4, h5, h6, h7, h8⟩ := h.st
  obtain ⟨hk, hn⟩ := but_set (i := 0) (.bool v) h5
  exact h.but (b := N + 4) (by omega) (by omega) hk (KeepsOthers.setCell _ _ _) ⟨hv, hk.blk h1 (by simp), hk.blk h2 (by simp), hk.blk h3 (by simp), hk.blk h4 (by simp), hn, h6.but hk (by simp), h7.trans (hk.to (by have := h6.le; omega) (by simp)), h8.low (fun j hj => hk.block j (by have := h8.big; omega) (by simp; omega))⟩
/-- The cells that a round reads and writes. -/
theorem RMid.cells {N : Nat} {W0 W : World} {g : Nat} {nm vl : Ht.Bs} {a : Ht.Acc} {V : World} (h : RMid N W0 W g nm vl a V) :
    V.cell? ⟨N + 2, 0, none⟩ = some (.int .i64 a.n) ∧ V.frozen? ⟨N + 2, 0, none⟩ = false ∧ V.cell? ⟨N + 3, 0, none⟩ = some (.int .i64 a.lengths) ∧ V.frozen? ⟨N + 3, 0, none⟩ = false ∧ V.cell? ⟨N + 4, 0, none⟩ = some (.bool a.coded) ∧ V.frozen? ⟨N + 4, 0, none⟩ = false ∧
    V.cell? ⟨g, 0, none⟩ = some (.string ⟨nm.toArray⟩) ∧ V.cell? ⟨g, 1, none⟩ = some (.string ⟨vl.toArray⟩) := by
  obtain ⟨hv, h1, h2, h3, h4, h5, h6, h7, h8⟩ := h.st
  exact ⟨by rw [blk_cells h3 0]; rfl, blk_free h3 0, by rw [blk_cells h4 0]; rfl, blk_free h4 0, by rw [blk_cells h5 0]; rfl, blk_free h5 0, by rw [blk_cells h.hd 0]; rfl, by rw [blk_cells h.hd 1]; rfl⟩
theorem RSt.bad {N : Nat} {W0 W : World} {a : Ht.Acc} (h : RSt N W0 a W) : RBad N W0 W := by
  obtain ⟨hv, h1, h2, h3, h4, h5, h6, h7, h8⟩ := h
  exact ⟨h1, h7, h6.le⟩
/-- What stands where a round is over. -/
structure RFin (N : Nat) (W0 W : World) (a : Ht.Acc) (V : World) : Prop where
  others : KeepsOthers W V
  low : LowKept 9 (N + 5) W V
  st : RSt N W0 a V
theorem RMid.fin {N : Nat} {W0 W : World} {g : Nat} {nm vl : Ht.Bs} {a : Ht.Acc} {V : World} (h : RMid N W0 W g nm vl a V) : RFin N W0 W a V := ⟨h.others, h.low, h.st⟩
theorem info65 : (Tryz.prog.info? 65).map (fun i => (i.zero, i.size, i.bytes)) = some (some (.agg #[.string ⟨#[]⟩, .string ⟨#[]⟩]), 2, 32) := by kernel_rfl
theorem hdCells_snoc (l : List Ht.Hd) (h : Ht.Hd) : hdCells (l ++ [h]) = hdCells l ++ [bstr h.name, bstr h.value] := by
  unfold hdCells; rw [List.flatMap_append]; rfl
theorem wpIn_heads_append {F : Fence} {n : Nat} {ops : Array Oper} {rest : List Oper} {o : Oper} {ac : Act} {Q : Exit → Act → World → Prop} (hgd : o.guard = none) (s x : Operand)
    (hop : o.op = Op.call { callee := Callee.builtin Builtin.append, args := #[s, x], argTypes := #[24, 24] })
    {N : Nat} {W0 W : World} {g : Nat} {nm vl : Ht.Bs} {a : Ht.Acc} {V : World} (h : RMid N W0 W g nm vl a V) {A : Option Addr} {cc : Nat} (hs : ac.eval s = .slice A a.heads.length cc)
    (h1c : V.cell? ⟨N + 1, 0, none⟩ = some (.slice A a.heads.length cc)) (hx : ac.eval x = .slice (some ⟨V.heap.size, 0, none⟩) 1 1) (hlim : a.heads.length < 1048576)
    (hK : ∀ A' c' V4, V4.cell? ⟨N + 1, 0, none⟩ = some (.slice A a.heads.length cc) → V4.frozen? ⟨N + 1, 0, none⟩ = false → Hid (RFin N W0 W { a with heads := a.heads ++ [⟨nm, vl⟩] } (V4.setCell ⟨N + 1, 0, none⟩ (.slice A' (a.heads.length + 1) c'))) →
      wpListIn F n Tryz.prog ops Q rest (ac.put o.dst (.slice A' (a.heads.length + 1) c')) V4) :
    wpListIn F n Tryz.prog ops Q (o :: rest) ac (V.alloc (.cells #[.string ⟨nm.toArray⟩, .string ⟨vl.toArray⟩] 65)) := by
  have hbig := h.big
  have hst1 := h.st
  obtain ⟨hv, b0, b1, b2, b3, b4, hown, hbel, henv⟩ := hst1
  have hhv : hv = .slice A a.heads.length cc := by
    have := blk_cells b1 0
    rw [h1c] at this
    simpa using this.symm
  subst hhv
  have hinf := info65
  cases hi0 : Tryz.prog.info? 65 with
  | none => rw [hi0] at hinf; cases hinf
  | some i0 =>
    rw [hi0] at hinf
    simp only [Option.map_some, Option.some.injEq, Prod.mk.injEq] at hinf
    obtain ⟨hz0, hz1, hz2⟩ := hinf
    have hsz : (V.alloc (.cells #[.string ⟨nm.toArray⟩, .string ⟨vl.toArray⟩] 65)).heap.size = V.heap.size + 1 := by simp
    have hle := hown.le
    refine wpListIn_append_own _ hgd s x 24 hop (N + 6) 65 i0 (.agg #[.string ⟨#[]⟩, .string ⟨#[]⟩]) 2 32 Tryz.underlying24 hi0 hz0 hz1 hz2 rfl (by decide) _ _ _ hs (hown.own.alloc _) ⟨V.heap.size, 0, none⟩ 1 1 [bstr nm, bstr vl] hx rfl ?_ ?_ (by have : maxLen = 9223372036854775807 := rfl; omega) (by omega) (by omega) ?_
    · intro j u hj
      have hadd : (⟨V.heap.size, 0, none⟩ : Addr).add j = ⟨V.heap.size, j, none⟩ := by unfold Addr.add; split <;> simp_all
      rw [hadd, blk_cells (heap_alloc_new V _) j]
      rw [← hj]
      exact List.getElem?_toArray
    · intro u hu
      simp only [List.mem_cons, List.not_mem_nil, or_false] at hu
      rcases hu with rfl | rfl <;> rfl
    · intro v' V4 hown' hgrow _
      have hO4 : Own 65 2 (N + 6) v' (a.heads.length + 1) (hdCells a.heads ++ [bstr nm, bstr vl]) V4 := ⟨hown', by have := hgrow.size; omega⟩
      obtain ⟨A', c', rfl⟩ := own_shape hO4
      have hbg := But.grown hgrow
      have hrow : ∀ j ∈ (Value.slice A a.heads.length cc).ownBlock.toList, N + 6 ≤ j := fun j hj => (hown.lt j (by simpa using hj)).1
      have hb1 : But (Value.slice A a.heads.length cc).ownBlock.toList V V4 := (But.of (below_box V _)).trans hbg
      have e0 := hb1.blk b0 (fun hm => by have := hrow _ hm; omega)
      have e1 := hb1.blk b1 (fun hm => by have := hrow _ hm; omega)
      have e2 := hb1.blk b2 (fun hm => by have := hrow _ hm; omega)
      have e3 := hb1.blk b3 (fun hm => by have := hrow _ hm; omega)
      have e4 := hb1.blk b4 (fun hm => by have := hrow _ hm; omega)
      have hlow : ∀ j, j < N + 6 → V4.heap[j]? = V.heap[j]? := fun j hj => hb1.block j (by omega) (fun hm => by have := hrow _ hm; omega)
      have hoth : KeepsOthers V V4 := keeps_of_but hb1 (fun j hj o ho => by
        rcases hown.own.2 with ⟨hn, _⟩ | ⟨g', cap, cur, hn, hb, hg, _⟩
        · rw [hn] at hj; simp [Value.ownBlock] at hj
        · rw [hn] at hj
          have : j = g' := by simpa [Value.ownBlock] using hj
          subst this
          rw [hg] at ho; cases ho; rfl)
      obtain ⟨hk, hn⟩ := but_set (i := 0) (.slice A' (a.heads.length + 1) c') e1
      refine hK A' c' V4 (by rw [blk_cells e1 0]; rfl) (blk_free e1 0) (Lib.hid ⟨h.others.trans (hoth.trans (KeepsOthers.setCell _ _ _)), fun j hj => ?_, ?_⟩)
      · exact (hk.block j (by have := hb1.size; omega) (by simp; omega)).trans ((hlow j (by omega)).trans (h.low j hj))
      · refine ⟨_, hk.blk e0 (by simp), hn, hk.blk e2 (by simp), hk.blk e3 (by simp), hk.blk e4 (by simp), ?_, ?_, ?_⟩
        · have := hO4.but hk (by simp)
          rw [hdCells_snoc, List.length_append, List.length_singleton]
          exact this
        · exact hbel.trans ((hb1.to (by omega) (fun j hj => by have := hrow _ hj; omega)).trans (hk.to (by have := hb1.size; omega) (by simp)))
        · exact (henv.low (fun j hj => hlow j (by omega))).low (fun j hj => hk.block j (by have := hb1.size; omega) (by simp; omega))
/-- Three stores into a message's block. -/
theorem msg_set {w : World} {b : Nat} {p q r x y z : Value} (h : w.heap[b]? = some (.cells #[p, q, r] 73 (0, 0))) :
    But [b] w (((w.setCell ⟨b, 0, none⟩ x).setCell ⟨b, 1, none⟩ y).setCell ⟨b, 2, none⟩ z) ∧ (((w.setCell ⟨b, 0, none⟩ x).setCell ⟨b, 1, none⟩ y).setCell ⟨b, 2, none⟩ z).heap[b]? = some (.cells #[x, y, z] 73 (0, 0)) := by
  obtain ⟨h1, h2⟩ := but_set (i := 0) x h
  obtain ⟨h3, h4⟩ := but_set (i := 1) y h2
  obtain ⟨h5, h6⟩ := but_set (i := 2) z h4
  exact ⟨(h1.trans h3).trans h5, h6⟩
theorem msg_load {w : World} {b : Nat} {x y z : Value} (h : w.heap[b]? = some (.cells #[x, y, z] 73 (0, 0))) : (loadVar 73 ⟨b, 0, none⟩).run Tryz.prog w = .ok (.agg #[x, y, z]) w :=
  run_loadVar_row w b 73 73 #[x, y, z] (0, 0) _ h Tryz.underlying73 rfl (by kernel_rfl)
theorem own_lower {e : TypeId} {size B B' : Nat} {v : Value} {n : Nat} {xs : List Value} {w : World} (h : Own e size B v n xs w) (hB : B' ≤ B) : Own e size B' v n xs w := by
  refine ⟨⟨h.own.1, ?_⟩, Nat.le_trans hB h.le⟩
  rcases h.own.2 with hn | ⟨g, cap, cur, rfl, hb, hg, rest⟩
  · exact .inl hn
  · exact .inr ⟨g, cap, cur, rfl, Nat.le_trans hB hb, hg, rest⟩
theorem own_none (e : TypeId) (size B : Nat) {w : World} (h : B ≤ w.heap.size) : Own e size B (.slice none 0 0) 0 [] w := own_lower (Own.nil e size w) h
/-- What rest hands back. -/
def RestOut (w : World) (r : (List Ht.Hd × Ht.Bs) × Int) (e : Ending) (w' : World) : Prop :=
  ∃ hv bv, e = .returned (.tuple #[.agg #[hv, bv, .int .i64 (r.1.2.length : Int)], .int .i64 r.2]) ∧ Own 65 2 w.heap.size hv r.1.1.length (hdCells r.1.1) w' ∧ Own 5 1 w.heap.size bv r.1.2.length (Lib.byteCells r.1.2) w' ∧ Below w.heap.size w w'
theorem RestOut.err {w w' : World} {k : Int} (hb : Below w.heap.size w w') : RestOut w (([], []), k) (.returned (.tuple #[.agg #[.slice none 0 0, .slice none 0 0, .int .i64 0], .int .i64 k])) w' :=
  ⟨_, _, rfl, own_none 65 2 _ hb.size, own_none 5 1 _ hb.size, hb⟩
/-- A mark is put away: nothing of the caller's turns. -/
theorem mark_put {w W : World} {D : Nat} (hb : Below w.heap.size w W) (hD : w.heap.size ≤ D) (o : Obj) : Below w.heap.size w (W.putObj D o) :=
  hb.trans ((But.putObj W o (S := [D]) (by simp)).to hb.size (by simp; omega))
theorem rest_leave {w W : World} {D : Nat} {ac : Act} {x y z : Value} {k : Int} {R : Ending → World → Prop} (hd : ac.defers = [{ target := .collected D, args := #[] }]) (hp : ac.tmps.getD 4 undef = .pointer (some ⟨w.heap.size, 0, none⟩)) (hq : ac.tmps.getD 5 undef = .int .i64 k)
    (hD : W.heap[D]? = some (.deferred (some []))) (hc : W.heap[w.heap.size]? = some (.cells #[x, y, z] 73 (0, 0))) (h : R (.returned (.tuple #[.agg #[x, y, z], .int .i64 k])) (W.putObj D (.deferred none))) : bodyPostM Fence.wide 0 Tryz.prog Tryz.f65 R .ret ac W := by
  have hne : w.heap.size ≠ D := fun e => by rw [e, hD] at hc; cases hc
  have hc2 : (W.putObj D (.deferred none)).heap[w.heap.size]? = some (.cells #[x, y, z] 73 (0, 0)) := (World.putObj_heap_other (by omega)).trans hc
  refine leave_mark hd hD (results_row_tmp rfl _ _ _ w.heap.size #[x, y, z] hp (msg_load hc2)) ?_
  rw [hq]
  exact h
/-- bytes.Clone of a row of bytes. -/
theorem clone_any (l : Ht.Bs) (B : Option Addr) (c : Nat) (w : World) (hlen : l.length ≤ 140737488355328) (hc : CellsAt w B (Lib.byteCells l)) :
    Calls Tryz.prog 96 #[.slice B l.length c] w fun e w' => ∃ v, e = .returned v ∧ Own 5 1 w.heap.size v l.length (Lib.byteCells l) w' ∧ Below w.heap.size w w' := by
  by_cases h0 : l = []
  · subst h0
    cases B with
    | none =>
      refine (Tryz.bytes_Clone_nil 0 c w).mono ?_
      rintro e w' ⟨rfl, rfl⟩
      exact ⟨_, rfl, Own.nil 5 1 w', Below.refl _ _⟩
    | some a =>
      refine (Tryz.bytes_Clone_at a 0 c [] w rfl (by omega) (fun i hi => by omega)).mono ?_
      rintro e w' ⟨v, rfl, h1, _, h2⟩
      exact ⟨v, rfl, ⟨h1, h2.size⟩, h2⟩
  · have hne : Lib.byteCells l ≠ [] := by
      intro h
      apply h0
      unfold Lib.byteCells at h
      exact List.map_eq_nil_iff.1 h
    obtain ⟨g, o, rfl, hg, hcell⟩ := hc hne
    have hmap : (l.map fun x => (x.toNat : Int)).map (Value.int .u8) = Lib.byteCells l := by
      unfold Lib.byteCells
      rw [List.map_map]
      rfl
    refine (Tryz.bytes_Clone_at ⟨g, o, none⟩ l.length c (l.map fun x => (x.toNat : Int)) w (by simp) hlen (fun i hi => ?_)).mono ?_
    · have hadd : (⟨g, o, none⟩ : Addr).add i = ⟨g, o + i, none⟩ := by unfold Addr.add; split <;> simp_all
      rw [hadd]
      refine hcell i _ ?_
      unfold Lib.byteCells
      simp [List.getElem?_map, List.getElem?_eq_getElem hi, List.getD_eq_getElem?_getD]
    · rintro e w' ⟨v, rfl, h1, _, h2⟩
      rw [hmap] at h1
      exact ⟨v, rfl, ⟨h1, h2.size⟩, h2⟩
/-- As Q, and no panic. -/
def noPanic (Q : Exit → Act → World → Prop) : Exit → Act → World → Prop
  | .panic _, _, _ => False
  | e, a, w => Q e a w
theorem noPanic_le {Q : Exit → Act → World → Prop} : ∀ e a w, noPanic Q e a w → Q e a w := fun e a w h => by
  cases e <;> first | exact h | exact h.elim
theorem RMid.start {N : Nat} {W0 W W1 : World} {a : Ht.Acc} (nm vl : Ht.Bs) (hO : KeepsOthers W W1) (hL : LowKept 9 (N + 5) W W1) (hR : RSt N W0 a W1) (hN : 9 ≤ N) : RMid N W0 W W1.heap.size nm vl a (W1.alloc (.cells #[bstr nm, bstr vl] 65)) :=
  ⟨hO.trans (KeepsOthers.alloc _ _), fun j hj => (hR.low (below_box _ _) j hj).trans (hL j hj), hR.next (below_box _ _), heap_alloc_new _ _, hN, hR.size⟩
theorem field_len (x : Ht.Bs) : (Ht.fieldOf x).1.name.length ≤ x.length ∧ (Ht.fieldOf x).1.value.length ≤ x.length := by
  have h1 := upto_len 58 x
  have h2 := trim_len (Ht.upto 58 x).2.1
  exact ⟨h1.1, Nat.le_trans h2 h1.2⟩
theorem rest_start (w : World) (head : Ht.Bs) (henv : Env w) {w1 : World} (hw : w1 = (((((w.alloc (.cells #[.slice none 0 0, .slice none 0 0, .int .i64 0] 73)).alloc (.cells #[.slice none 0 0, .slice none 0 0, .int .i64 0] 73)).alloc (.cells #[.int .i64 0] 3)).alloc (.cells #[.int .i64 0] 3)).alloc (.cells #[.bool false] 4)).alloc (.cells #[.string ⟨head.toArray⟩] 9)) :
    w1.heap.size = w.heap.size + 6 ∧ RSt w.heap.size w Ht.acc0 w1 ∧ Env w1 ∧ w1.heap[w.heap.size + 5]? = some (.cells #[bstr head] 9 (0, 0)) := by
  have hsz : w1.heap.size = w.heap.size + 6 := by rw [hw]; simp
  have hb : Below w.heap.size w w1 := by
    rw [hw]
    exact ((((((Below.refl _ w).alloc (Nat.le_refl _) _).alloc (by simp) _).alloc (by simp; omega) _).alloc (by simp; omega) _).alloc (by simp; omega) _).alloc (by simp; omega) _
  have h : ∀ j, j < 6 → w1.heap[w.heap.size + j]? = (#[Obj.cells #[.slice none 0 0, .slice none 0 0, .int .i64 0] 73 (0, 0), .cells #[.slice none 0 0, .slice none 0 0, .int .i64 0] 73 (0, 0), .cells #[.int .i64 0] 3 (0, 0), .cells #[.int .i64 0] 3 (0, 0), .cells #[.bool false] 4 (0, 0), .cells #[.string ⟨head.toArray⟩] 9 (0, 0)] : Array Obj)[j]? := by
    intro j hj
    rw [hw]
    simp only [World.alloc, Array.push_eq_append, Array.append_assoc]
    rw [Array.getElem?_append_right (by omega)]
    simp
  refine ⟨hsz, ⟨.slice none 0 0, h 0 (by omega), h 1 (by omega), h 2 (by omega), h 3 (by omega), h 4 (by omega), ?_, hb, henv.next hb⟩, henv.next hb, h 5 (by omega)⟩
  have := Own.nil 65 2 w1
  rw [hsz] at this
  exact this
/-! ### lines one by one -/
theorem linesGo_snoc (x : Ht.Bs) : ∀ (pre : List Ht.Bs) (a : Ht.Acc), Ht.linesGo (pre ++ [x]) a = (Ht.linesGo pre a).bind fun b => if (Ht.fieldOf x).2 then some (Ht.stepOf b (Ht.fieldOf x).1) else none
  | [], a => by
    simp only [List.nil_append, Ht.linesGo, Option.bind_some]
  | s :: t, a => by
    simp only [List.cons_append, Ht.linesGo]
    split
    · exact linesGo_snoc x t _
    · rfl
theorem linesGo_none : ∀ (pre rest : List Ht.Bs) (a : Ht.Acc), Ht.linesGo pre a = none → Ht.linesGo (pre ++ rest) a = none
  | [], _, a, h => by simp [Ht.linesGo] at h
  | s :: t, rest, a, h => by
    simp only [List.cons_append, Ht.linesGo] at h ⊢
    split
    · rename_i hc
      rw [if_pos hc] at h
      exact linesGo_none t rest _ h
    · rfl
theorem stepOf_bound (b : Ht.Acc) (h : Ht.Hd) : 0 ≤ b.lengths → 0 ≤ (Ht.stepOf b h).lengths ∧ (Ht.stepOf b h).lengths ≤ b.lengths + 3 ∧ (Ht.stepOf b h).heads.length ≤ b.heads.length + 1 := by
  intro h0
  unfold Ht.stepOf
  split
  · simp; omega
  · split
    · simp only
      split <;> simp <;> omega
    · simp; omega
theorem upto2_fst (c d : UInt8) : ∀ s : Ht.Bs, (Ht.upto2 c d s).1.length ≤ s.length
  | [] => by simp [Ht.upto2]
  | [x] => by simp [Ht.upto2]
  | x :: y :: t => by
    have ih := upto2_fst c d (y :: t)
    unfold Ht.upto2
    split
    · simp
    · simp only [List.length_cons] at ih ⊢; omega
theorem linesOf_both : ∀ (n : Nat) (s : Ht.Bs), s.length ≤ n → (∀ x ∈ Ht.linesOf s, x.length ≤ s.length) ∧ (Ht.linesOf s).length ≤ s.length
  | 0, s, h => by
    obtain rfl := List.eq_nil_of_length_eq_zero (Nat.le_zero.1 h)
    rw [Ht.linesOf_nil]
    exact ⟨fun x hx => by simp at hx, Nat.le_refl _⟩
  | n + 1, s, h => by
    by_cases hs : s = []
    · subst hs
      rw [Ht.linesOf_nil]
      exact ⟨fun x hx => by simp at hx, Nat.le_refl _⟩
    · have hlt := Ht.upto2_lt 13 10 s hs
      obtain ⟨i1, i2⟩ := linesOf_both n (Ht.upto2 13 10 s).2.1 (by omega)
      rw [Ht.linesOf_cons hs]
      refine ⟨fun x hx => ?_, by rw [List.length_cons]; omega⟩
      rcases List.mem_cons.1 hx with rfl | hx
      · exact upto2_fst 13 10 s
      · have := i1 x hx; omega
theorem good_nonneg {v : Ht.Bs} (h : Ht.goodLen v = true) : 0 ≤ (Ht.num v).1 := by
  unfold Ht.goodLen at h
  simp only [Bool.and_eq_true, decide_eq_true_eq] at h
  obtain ⟨⟨h1, h2⟩, h3⟩ := h
  by_cases h0 : v = []
  · subst h0
    revert h1; decide
  · have hpos : 1 ≤ v.length := by
      rcases v with _ | ⟨x, t⟩
      · exact absurd rfl h0
      · simp
    rw [Ht.num_val h3 hpos h2]
    exact Int.natCast_nonneg _
theorem stepOf_n {b : Ht.Acc} {h : Ht.Hd} (h0 : 0 ≤ b.lengths) (h1 : b.lengths ≤ 1 → 0 ≤ b.n) : (Ht.stepOf b h).lengths ≤ 1 → 0 ≤ (Ht.stepOf b h).n := by
  unfold Ht.stepOf
  split
  · exact h1
  · split
    · intro hle
      by_cases hg : Ht.goodLen h.value = true
      · exact good_nonneg hg
      · simp only [hg] at hle
        simp at hle
        omega
    · exact h1
theorem linesGo_n : ∀ (ls : List Ht.Bs) (a a' : Ht.Acc), 0 ≤ a.lengths → (a.lengths ≤ 1 → 0 ≤ a.n) → Ht.linesGo ls a = some a' → a'.lengths ≤ 1 → 0 ≤ a'.n
  | [], a, a', _, h1, h => by
    simp only [Ht.linesGo, Option.some.injEq] at h
    subst h; exact h1
  | s :: t, a, a', h0, h1, h => by
    simp only [Ht.linesGo] at h
    split at h
    · exact linesGo_n t _ a' (stepOf_bound _ _ h0).1 (stepOf_n h0 h1) h
    · cases h
theorem linesOf_mem (s : Ht.Bs) : ∀ x ∈ Ht.linesOf s, x.length ≤ s.length := (linesOf_both s.length s (Nat.le_refl _)).1
theorem linesOf_len (s : Ht.Bs) : (Ht.linesOf s).length ≤ s.length := (linesOf_both s.length s (Nat.le_refl _)).2
set_option maxRecDepth 100000 in
set_option maxHeartbeats 4000000 in
theorem rest_any (head : Ht.Bs) (b : Ht.Bs) (B : Option Addr) (c : Nat) (w : World) (henv : Env w) (hlen : head.length < 1048576) (hbc : b.length ≤ c) (hcells : CellsAt w B (Lib.byteCells b)) :
    Calls Tryz.prog 65 #[.string ⟨head.toArray⟩, .slice B b.length c] w (RestOut w (Ht.restOf head b)) := by
  refine calls_of_marks Tryz.func65 rfl ?_
  simp only [Tryz.ntmps65, List.size_toArray, List.length_cons, List.length_nil, Nat.reduceAdd, Nat.reduceSub, Array.replicate_succ, Array.replicate_zero, List.push_toArray, List.append_toArray, List.nil_append, List.cons_append]
  go_wp2_with fail
  refine wp_scope_jumps 0 (fun a' w' => ∃ D, a' = { tmps := #[.string ⟨head.toArray⟩, .slice B b.length c, undef, undef, .pointer (some ⟨w.heap.size, 0, none⟩), .int .i64 0, .pointer (some ⟨w.heap.size + 1, 0, none⟩), .pointer (some ⟨w.heap.size + 2, 0, none⟩), .pointer (some ⟨w.heap.size + 3, 0, none⟩), .pointer (some ⟨w.heap.size + 4, 0, none⟩), .int .i64 340, undef, undef, undef, undef, undef, .string ⟨head.toArray⟩, .func (.func 116) #[] #[.pointer (some ⟨w.heap.size + 5, 0, none⟩)], undef, undef, undef, undef, undef, undef, undef, undef, undef, undef, undef, undef, undef, undef, undef, undef, undef, undef, undef, undef, undef, undef, undef, undef, undef, undef, undef, undef, undef, undef, undef, undef, undef, undef, undef, undef, undef, undef, undef, undef, undef, undef, undef, undef, undef, undef, undef, undef, undef, undef, undef, undef, undef, undef, undef, undef, undef, undef, undef, undef, undef, undef, undef, undef, undef, undef, undef, undef, undef, undef, undef, undef, undef, undef, undef], defers := [{ target := .collected D, args := #[] }] } ∧ w'.heap[D]? = some (.deferred (some [])) ∧ w.heap.size ≤ D ∧ w'.heap[w.heap.size]? = some (.cells #[.slice none 0 0, .slice none 0 0, .int .i64 0] 73 (0, 0)) ∧ Below w.heap.size w w' ∧ Ht.linesGo (Ht.linesOf head) Ht.acc0 = none) (fun _ _ => 0) rfl ?first ?pass
  case pass =>
    rintro a' w' ⟨D, rfl, hD, hle, h0, hb, hn⟩
    have c0 := blk_cells h0 0
    have c1 := blk_cells h0 1
    have c2 := blk_cells h0 2
    have f0 := blk_free h0 0
    have f1 := blk_free h0 1
    have f2 := blk_free h0 2
    simp only [List.getElem?_toArray, List.getElem?_cons_zero, List.getElem?_cons_succ] at c0 c1 c2
    have HN : Hid (Ht.restOf head b = (([], []), 340)) := Lib.hid (by unfold Ht.restOf; rw [hn]; rfl)
    have HS := Lib.hid (msg_set (x := .slice none 0 0) (y := .slice none 0 0) (z := .int .i64 0) h0)
    have HD := Lib.hid hD
    have HB := Lib.hid hb
    have Hlt := Lib.hid (Array.getElem?_eq_some_iff.1 h0).1
    have hne : D ≠ w.heap.size := fun e => by rw [e, h0] at hD; cases hD
    clear hn h0 hD hb
    go_wp2_with fail
    exact rest_leave rfl rfl rfl (HS.out.1.blk HD.out (by simpa using hne)) HS.out.2 (by
      rw [HN.out]
      exact RestOut.err (mark_put (HB.out.trans (HS.out.1.to HB.out.size (by simp))) hle _))
  case first =>
    have HL := Lib.hid (fun W => lines_any head W)
    go_wp2_with fail
    refine (HL.out _).mono ?_
    rintro e w1 ⟨rfl, hw1⟩
    have HS1 := Lib.hid (rest_start w head henv hw1)
    clear hw1
    go_wp2_with fail
    simp only [Nat.add_assoc, Nat.reduceAdd]
    obtain ⟨hS0, hS1, hS2, hS3⟩ := HS1.out
    have hN9 : 9 ≤ w.heap.size := henv.big
    refine wp_rangeB (gf := 116) (lb := #[.pointer (some ⟨w.heap.size + 5, 0, none⟩)]) rfl (enters_of Tryz.func116 (by kernel_rfl) rfl) (enc := bstr) (lo := 9) (sb := w.heap.size + 5) (ls := Ht.linesOf head)
      (lines_seq head (w.heap.size + 5) w1 hS2 (by omega) (by omega) hS3) (by omega) (by omega) rfl
      (fun pre W => ∃ a, Ht.linesGo pre Ht.acc0 = some a ∧ (0 ≤ a.lengths ∧ a.lengths ≤ 3 * (pre.length : Int) ∧ a.heads.length ≤ pre.length) ∧ RSt w.heap.size w a W)
      (fun c pre W => c = .goto 0 ∧ Ht.linesGo pre Ht.acc0 = none ∧ RBad w.heap.size w W)
      (fun s => ⟨fun A W h hk => by obtain ⟨a, h1, h2, h3⟩ := h; exact ⟨a, h1, h2, h3.step rfl hN9 hk⟩, fun A k o o' h hk1 hk2 hk3 => by obtain ⟨a, h1, h2, h3⟩ := h; exact ⟨a, h1, h2, h3.book hN9 (by omega) hk2 hk3⟩⟩)
      (fun c s => ⟨fun A W h hk => ⟨h.1, h.2.1, h.2.2.step rfl hk⟩, fun A k o o' h hk1 hk2 hk3 => ⟨h.1, h.2.1, h.2.2.book (by omega)⟩⟩)
      ⟨Ht.acc0, rfl, ⟨by decide, by decide, by decide⟩, hS1⟩
      (fun x => { tmps := #[.string ⟨head.toArray⟩, .slice B b.length c, undef, undef, .pointer (some ⟨w.heap.size, 0, none⟩), .int .i64 0, .pointer (some ⟨w.heap.size + 1, 0, none⟩), .pointer (some ⟨w.heap.size + 2, 0, none⟩), .pointer (some ⟨w.heap.size + 3, 0, none⟩), .pointer (some ⟨w.heap.size + 4, 0, none⟩), .int .i64 340, bstr x, undef, undef, undef, undef, .string ⟨head.toArray⟩, .func (.func 116) #[] #[.pointer (some ⟨w.heap.size + 5, 0, none⟩)], bstr x, undef, undef, undef, undef, undef, undef, undef, undef, undef, undef, undef, undef, undef, undef, undef, undef, undef, undef, undef, undef, undef, undef, undef, undef, undef, undef, undef, undef, undef, undef, undef, undef, undef, undef, undef, undef, undef, undef, undef, undef, undef, undef, undef, undef, undef, undef, undef, undef, undef, undef, undef, undef, undef, undef, undef, undef, undef, undef, undef, undef, undef, undef, undef, undef, undef, undef, undef, undef, undef, undef, undef, undef, undef, undef], defers := [] }) ?assign ?body ?done ?stop
    case assign =>
      intro l x W K hK
      gi_wp2
      exact hK
    case body =>
      rintro l pre x W ⟨a, hgo, hbd, hR⟩ hpre
      obtain ⟨rest, hrest⟩ := hpre
      have hmem : x ∈ Ht.linesOf head := by rw [← hrest]; simp
      have hxl : x.length < 4294967281 := by have := linesOf_mem head x hmem; omega
      have hpl : pre.length < 1048576 := by
        have := linesOf_len head
        rw [← hrest] at this
        simp at this
        omega
      have hsn := linesGo_snoc x pre Ht.acc0
      rw [hgo, Option.bind_some] at hsn
      have HF := Lib.hid (field_any x W hR.env hxl)
      obtain ⟨f, hf⟩ : ∃ f, Ht.fieldOf x = f := ⟨_, rfl⟩
      rw [hf] at HF hsn
      have hfl := field_len x
      rw [hf] at hfl
      obtain ⟨⟨nm, vl⟩, q⟩ := f
      dsimp only at HF hsn hfl
      have HR := Lib.hid hR
      have HS := Lib.hid hsn
      clear hR hf hsn hrest hmem HS1 hS0 hS1 hS2 hS3
      unfold bstr
      gi_wp2
      refine ⟨trivial, rfl, (CallsIn.inRound l (callsIn_wide.2 HF.out)).mono ?_⟩
      rintro e W1 ⟨rfl, hb1⟩
      have HR1 := Lib.hid (HR.out.next hb1)
      have HO1 := Lib.hid (keeps_of_but (But.of (S := []) hb1) (by simp))
      have HL1 : Hid (LowKept 9 (w.heap.size + 5) W W1) := Lib.hid (HR.out.low hb1)
      clear hb1
      cases q
      · have HX := Lib.hid (show KeepsOthers W (W1.alloc (.cells #[bstr nm, bstr vl] 65)) ∧ Ht.linesGo (pre ++ [x]) Ht.acc0 = none ∧ RBad w.heap.size w (W1.alloc (.cells #[bstr nm, bstr vl] 65)) from
          ⟨HO1.out.trans (KeepsOthers.alloc _ _), HS.out, (HR1.out.next (below_box _ _)).bad⟩)
        gi_wp2
        refine wpIn_goto ?_
        simp only [Exit.inBlock, Exit.then]
        exact ⟨HX.out.1, rfl, HX.out.2.1, HX.out.2.2⟩
      · have HM := Lib.hid (RMid.start nm vl HO1.out HL1.out HR1.out hN9)
        have FIN : Hid (∀ a' V, RFin w.heap.size w W a' V → Ht.stepOf a ⟨nm, vl⟩ = a' → (KeepsOthers W V ∧ LowKept 9 (w.heap.size + 5) W V ∧ ∃ a, Ht.linesGo (pre ++ [x]) Ht.acc0 = some a ∧ (0 ≤ a.lengths ∧ a.lengths ≤ 3 * ((pre ++ [x]).length : Int) ∧ a.heads.length ≤ (pre ++ [x]).length) ∧ RSt w.heap.size w a V)) := Lib.hid (fun a' V hm he => by
          have hsb := stepOf_bound a ⟨nm, vl⟩ hbd.1
          refine ⟨hm.others, hm.low, a', ?_, ?_, hm.st⟩
          · have := HS.out
            rw [if_pos rfl, he] at this
            exact this
          · rw [← he, List.length_append, List.length_singleton]
            refine ⟨hsb.1, ?_, ?_⟩ <;> push_cast <;> omega)
        clear HS HR HO1 HL1
        obtain ⟨g, hg⟩ : ∃ g, W1.heap.size = g := ⟨_, rfl⟩
        obtain ⟨V, hV⟩ : ∃ V, W1.alloc (.cells #[bstr nm, bstr vl] 65) = V := ⟨_, rfl⟩
        obtain ⟨q1, hq1⟩ : ∃ q, Ht.alikeB nm Ht.codW = q := ⟨_, rfl⟩
        obtain ⟨q2, hq2⟩ : ∃ q, Ht.alikeB nm Ht.lenW = q := ⟨_, rfl⟩
        have HA1 := Lib.hid (fun b hb U hl => alike_q ⟨nm.toArray⟩ b U (by rw [Lib.size_eq]; show nm.length ≤ _; omega) hb (l := Ht.codW) hl hq1)
        have HA2 := Lib.hid (fun b hb U hl => alike_q ⟨nm.toArray⟩ b U (by rw [Lib.size_eq]; show nm.length ≤ _; omega) hb (l := Ht.lenW) hl hq2)
        have HSt : Hid (Ht.stepOf a ⟨nm, vl⟩ = if q1 then { a with coded := true } else if q2 then { a with lengths := a.lengths + (if Ht.goodLen vl then 1 else 3), n := (Ht.num vl).1 } else { a with heads := a.heads ++ [⟨nm, vl⟩] }) := Lib.hid (by unfold Ht.stepOf; rw [hq1, hq2])
        clear hq1 hq2
        rw [hV, hg] at HM
        obtain ⟨k1, k2, k3, k4, k5, k6, k7, k8⟩ := HM.out.cells
        unfold bstr at hV
        gi_wp2
        clear hV hg k1 k2 k3 k4 k5 k6 k7 k8
        refine ⟨trivial, rfl, (CallsIn.inRound l (callsIn_wide.2 (HA1.out _ (by decide) _ (by rfl)))).mono ?_⟩
        rintro e V2 ⟨rfl, hV2⟩
        have HM1 : Hid (RMid w.heap.size w W g nm vl a V2) := Lib.hid (by obtain ⟨n, rfl⟩ := hV2; exact HM.out.next (below_drewN (Below.refl _ _) n))
        clear hV2 HM
        obtain ⟨k1, k2, k3, k4, k5, k6, k7, k8⟩ := HM1.out.cells
        cases q1
        · gi_wp2
          refine ⟨trivial, rfl, (CallsIn.inRound l (callsIn_wide.2 (HA2.out _ (by decide) _ (by rfl)))).mono ?_⟩
          rintro e V3 ⟨rfl, hV3⟩
          have HM2 : Hid (RMid w.heap.size w W g nm vl a V3) := Lib.hid (by obtain ⟨n, rfl⟩ := hV3; exact HM1.out.next (below_drewN (Below.refl _ _) n))
          clear hV3 HM1 k1 k2 k3 k4 k5 k6 k7 k8
          obtain ⟨k1, k2, k3, k4, k5, k6, k7, k8⟩ := HM2.out.cells
          cases q2
          · obtain ⟨hv, h0, h1, h2, h3, h4, h5, h6, h7⟩ := HM2.out.st
            obtain ⟨A, cc, rfl⟩ := own_shape h5
            have m1 : V3.cell? ⟨w.heap.size + 1, 0, none⟩ = some (.slice A a.heads.length cc) := by rw [blk_cells h1 0]; rfl
            have m2 := blk_free h1 0
            clear h0 h1 h2 h3 h4 h5 h6 h7
            have hlim : a.heads.length < 1048576 := by omega
            gi_wp2_with (gi_at_builtin; refine wpIn_heads_append rfl _ _ rfl HM2.out rfl m1 rfl hlim ?_; intro A' c' V4 m3 m4 HF4)
            exact FIN.out _ _ HF4.out (by rw [HSt.out]; rfl)
          · have HT := Lib.hid (atoi_any vl V3 HM2.out.st.env (by omega))
            gi_wp2
            refine ⟨trivial, rfl, (CallsIn.inRound l (callsIn_wide.2 HT.out)).mono ?_⟩
            rintro e V4 ⟨⟨ev, rfl, hev⟩, hb4⟩
            have HM3 := Lib.hid (HM2.out.next hb4)
            clear hb4 HM2 k1 k2 k3 k4 k5 k6 k7 k8
            obtain ⟨k1, k2, k3, k4, k5, k6, k7, k8⟩ := HM3.out.cells
            obtain ⟨⟨nv, nq⟩, hnum⟩ : ∃ p, Ht.num vl = p := ⟨_, rfl⟩
            have HGL : Hid (Ht.goodLen vl = (nq && decide (vl.length ≤ 9) && Ht.allB vl 48 57)) := Lib.hid (by unfold Ht.goodLen; rw [hnum])
            rw [hnum] at hev HSt
            dsimp only at hev HSt
            rw [hnum]
            clear hnum HT
            have hl0 := hbd.1
            have hl1 := hbd.2.1
            obtain ⟨L, hL⟩ : ∃ L, a.lengths = L := ⟨_, rfl⟩
            rw [hL] at k3 hl0 hl1 HSt
            have HM4 := Lib.hid (HM3.out.set_lengths (L + 1))
            rcases hev with ⟨rfl, rfl⟩ | ⟨rfl, te, pe, rfl⟩
            · by_cases h9 : vl.length ≤ 9
              · obtain ⟨qa, hqa⟩ : ∃ q, Ht.allB vl 48 57 = q := ⟨_, rfl⟩
                have HAll := Lib.hid (fun U => allB_any ⟨vl.toArray⟩ 48 57 U (by rw [Lib.size_eq]; show vl.length ≤ _; omega) hqa)
                rw [hqa] at HGL
                clear hqa
                gi_wp2
                generalize V4.setCell ⟨w.heap.size + 3, 0, none⟩ (.int .i64 (L + 1)) = V5 at HM4 ⊢
                clear k1 k2 k3 k4 k5 k6 k7 k8 HM3
                obtain ⟨k1, k2, k3, k4, k5, k6, k7, k8⟩ := HM4.out.cells
                dsimp only at k1 k3 k5
                refine ⟨trivial, rfl, (CallsIn.inRound l (callsIn_wide.2 (HAll.out _))).mono ?_⟩
                rintro e V6 ⟨rfl, rfl⟩
                cases qa
                · have hG : Ht.goodLen vl = false := by rw [HGL.out]; simp
                  have HM5 := Lib.hid (HM4.out.set_lengths (L + 1 + 2))
                  obtain ⟨j1, j2, j3, j4, j5, j6, j7, j8⟩ := HM5.out.cells
                  dsimp only at j1 j3 j5
                  gi_wp2
                  exact FIN.out _ _ (HM5.out.set_n nv).fin (by rw [HSt.out, hG]; simp; omega)
                · have hG : Ht.goodLen vl = true := by rw [HGL.out]; simp [h9]
                  gi_wp2
                  exact FIN.out _ _ (HM4.out.set_n nv).fin (by rw [HSt.out, hG]; rfl)
              · gi_wp2
                refine ⟨trivial, ?_⟩
                generalize V4.setCell ⟨w.heap.size + 3, 0, none⟩ (.int .i64 (L + 1)) = V5 at HM4 ⊢
                clear k1 k2 k3 k4 k5 k6 k7 k8 HM3
                obtain ⟨k1, k2, k3, k4, k5, k6, k7, k8⟩ := HM4.out.cells
                dsimp only at k1 k3 k5
                have hG : Ht.goodLen vl = false := by rw [HGL.out]; simp [h9]
                have HM5 := Lib.hid (HM4.out.set_lengths (L + 1 + 2))
                obtain ⟨j1, j2, j3, j4, j5, j6, j7, j8⟩ := HM5.out.cells
                dsimp only at j1 j3 j5
                gi_wp2
                exact FIN.out _ _ (HM5.out.set_n nv).fin (by rw [HSt.out, hG]; simp; omega)
            · gi_wp2
              refine ⟨trivial, ?_⟩
              generalize V4.setCell ⟨w.heap.size + 3, 0, none⟩ (.int .i64 (L + 1)) = V5 at HM4 ⊢
              clear k1 k2 k3 k4 k5 k6 k7 k8 HM3
              obtain ⟨k1, k2, k3, k4, k5, k6, k7, k8⟩ := HM4.out.cells
              dsimp only at k1 k3 k5
              have hG : Ht.goodLen vl = false := by rw [HGL.out]; simp
              have HM5 := Lib.hid (HM4.out.set_lengths (L + 1 + 2))
              obtain ⟨j1, j2, j3, j4, j5, j6, j7, j8⟩ := HM5.out.cells
              dsimp only at j1 j3 j5
              gi_wp2
              exact FIN.out _ _ (HM5.out.set_n nv).fin (by rw [HSt.out, hG]; simp; omega)
        · gi_wp2
          exact FIN.out _ _ (HM1.out.set_coded true).fin (by rw [HSt.out]; rfl)
    case done =>
      rintro D W ⟨a, hgo, hbd, hR⟩ hle hD
      have HRF : Hid (Ht.restOf head b = Ht.restFin (some a) b) := Lib.hid (by unfold Ht.restOf; rw [hgo])
      have hleD : w.heap.size ≤ D := by omega
      have hnn := linesGo_n _ _ _ (show 0 ≤ Ht.acc0.lengths by decide) (fun _ => by decide) hgo
      obtain ⟨hv, b0, b1, b2, b3, b4, hown, hbel, henv4⟩ := hR
      have HOwn := Lib.hid hown
      obtain ⟨A, cc, rfl⟩ := own_shape hown
      have m0 : W.cell? ⟨w.heap.size + 1, 0, none⟩ = some (.slice A a.heads.length cc) := by rw [blk_cells b1 0]; rfl
      have m1 : W.cell? ⟨w.heap.size + 1, 1, none⟩ = some (.slice none 0 0) := by rw [blk_cells b1 1]; rfl
      have m2 : W.cell? ⟨w.heap.size + 1, 2, none⟩ = some (.int .i64 0) := by rw [blk_cells b1 2]; rfl
      have g0 := blk_free b1 0
      have g1 := blk_free b1 1
      have g2 := blk_free b1 2
      have n0 : W.cell? ⟨w.heap.size + 2, 0, none⟩ = some (.int .i64 a.n) := by rw [blk_cells b2 0]; rfl
      have l0 : W.cell? ⟨w.heap.size + 3, 0, none⟩ = some (.int .i64 a.lengths) := by rw [blk_cells b3 0]; rfl
      have d0 : W.cell? ⟨w.heap.size + 4, 0, none⟩ = some (.bool a.coded) := by rw [blk_cells b4 0]; rfl
      have c0 := blk_cells b0 0
      have c1 := blk_cells b0 1
      have c2 := blk_cells b0 2
      have f0 := blk_free b0 0
      have f1 := blk_free b0 1
      have f2 := blk_free b0 2
      simp only [List.getElem?_toArray, List.getElem?_cons_zero, List.getElem?_cons_succ] at c0 c1 c2
      have HS := Lib.hid (msg_set (x := .slice none 0 0) (y := .slice none 0 0) (z := .int .i64 0) b0)
      have hne : D ≠ w.heap.size := fun e => by rw [e, b0] at hD; cases hD
      have HD := Lib.hid hD
      have HB := Lib.hid hbel
      have HB0 := Lib.hid b0
      have HB1 := Lib.hid b1
      have HENV := Lib.hid henv4
      have HNX : ∀ k, Ht.restFin (some a) b = (([], []), k) → Hid (RestOut w (Ht.restOf head b) (.returned (.tuple #[.agg #[.slice none 0 0, .slice none 0 0, .int .i64 0], .int .i64 k])) ((((W.setCell ⟨w.heap.size, 0, none⟩ (.slice none 0 0)).setCell ⟨w.heap.size, 1, none⟩ (.slice none 0 0)).setCell ⟨w.heap.size, 2, none⟩ (.int .i64 0)).putObj D (.deferred none))) := fun k hk => Lib.hid (by
        rw [HRF.out, hk]
        exact RestOut.err (mark_put (HB.out.trans (HS.out.1.to HB.out.size (by simp))) (by omega) _))
      have HNXh := Lib.hid HNX
      clear hD b0 b1 b2 b3 b4 hown hbel henv4 hgo HS1 hS0 hS1 hS2 hS3 HNX
      obtain ⟨ah, an, al, ac⟩ := a
      dsimp only at m0 n0 l0 d0 hbd HRF HOwn HNXh hnn
      cases ac
      · by_cases q1 : 1 < al
        · have HX := HNXh.out 340 (by unfold Ht.restFin; simp [q1])
          go_wp2_with fail
          refine wp_label ?_
          simp only [Exit.then]
          go_wp2_with fail
          exact rest_leave rfl rfl rfl (HS.out.1.blk HD.out (by simpa using hne)) HS.out.2 HX.out
        · by_cases q2 : 16 < ah.length
          · have HX := HNXh.out 342 (by unfold Ht.restFin; simp [q1, q2])
            go_wp2_with fail
            refine wp_label ?_
            simp only [Exit.then]
            go_wp2_with fail
            exact rest_leave rfl rfl rfl (HS.out.1.blk HD.out (by simpa using hne)) HS.out.2 HX.out
          · by_cases q3 : 8192 < an
            · have HX := HNXh.out 343 (by unfold Ht.restFin; simp [q1, q2, q3])
              go_wp2_with fail
              refine wp_label ?_
              simp only [Exit.then]
              go_wp2_with fail
              exact rest_leave rfl rfl rfl (HS.out.1.blk HD.out (by simpa using hne)) HS.out.2 HX.out
            · by_cases q4 : (b.length : Int) < an
              · have HX := HNXh.out 341 (by unfold Ht.restFin; simp [q1, q2, q3, q4])
                go_wp2_with fail
                refine wp_label ?_
                simp only [Exit.then]
                go_wp2_with fail
                exact rest_leave rfl rfl rfl (HS.out.1.blk HD.out (by simpa using hne)) HS.out.2 HX.out
              · have hn0 : 0 ≤ an := hnn (by omega)
                obtain ⟨k, rfl⟩ : ∃ k : Nat, an = k := ⟨an.toNat, (Int.toNat_of_nonneg hn0).symm⟩
                have hkb : k ≤ b.length := by omega
                have hkc : k ≤ c := by omega
                go_wp2_with fail
                obtain ⟨W5, hW5⟩ : ∃ W5, W.drew = W5 := ⟨_, rfl⟩
                have hWW : Below W.heap.size W W5 := by rw [← hW5]; exact below_drewN (Below.refl _ _) 1
                have HS5 : Hid (∀ U, Below W5.heap.size W5 U → U.cell? ⟨w.heap.size + 2, 0, none⟩ = some (.int .i64 (k : Int))) := Lib.hid (fun U h => by
                  rw [h.cell (p := ⟨w.heap.size + 2, 0, none⟩) (by rw [← hW5]; show w.heap.size + 2 < W.heap.size; have := HOwn.out.le; omega), ← hW5]
                  exact n0)
                have HCL : Hid (Calls Tryz.prog 96 #[.slice B k c] W5 fun e w' => ∃ v, e = .returned v ∧ Own 5 1 W5.heap.size v k (Lib.byteCells (b.take k)) w' ∧ Below W5.heap.size W5 w') := Lib.hid (by
                  have h := clone_any (b.take k) B c W5 (by rw [List.length_take]; omega) (by
                    have hc5 : CellsAt W5 B (Lib.byteCells b) := (hcells.next HB.out (Nat.le_refl _)).next hWW (Nat.le_refl _)
                    intro hne
                    have hne2 : Lib.byteCells b ≠ [] := fun h0 => hne (by unfold Lib.byteCells at h0 ⊢; rw [List.map_eq_nil_iff.1 h0, List.take_nil]; rfl)
                    obtain ⟨g, o, h1, h2, h3⟩ := hc5 hne2
                    refine ⟨g, o, h1, h2, fun i v hi => h3 i v ?_⟩
                    unfold Lib.byteCells at hi ⊢
                    rw [List.map_take, List.getElem?_take] at hi
                    split at hi
                    · exact hi
                    · cases hi)
                  rw [show (b.take k).length = k by rw [List.length_take]; omega] at h
                  exact h)
                refine wp_mono ?_ noPanic_le
                refine wp_region_any (by kernel_rfl) ?_
                change wpAny _ _ _ _ _ _ _ (World.drew _)
                rw [hW5]
                refine wpAny_of_till (S := fun U => U.cell? ⟨w.heap.size + 2, 0, none⟩ = some (.int .i64 (k : Int))) (st := fun l => l.getD 8 false) _ _ _ _ ?_
                change wpTill _ _ _ _ _ _ _ #[false, false, false, false, false, false, false, false, false] _ _
                refine wpTill_take (i := 1) (v := ?va1) rfl (by kernel_rfl) (by kernel_rfl) (by kernel_rfl) (show Shutd _ _ #[false, false, false, false, false, false, false, false, false] from Shutd.start 9) (fun l h h9 => (Shutd.step h (j := 2) (k := 1) (by kernel_rfl) (Shutd.step h (j := 3) (k := 2) (by kernel_rfl) (Shutd.step h (j := 8) (k := 3) (by kernel_rfl) h9)))) (fun l => getD_set_ne false (by decide)) (fun _ _ _ h => h.elim) (Or.inl ⟨by rfl, ?ya1⟩) (HS5.out _ (Below.refl _ _)) (fun hsh1 => ?_)
                case ya1 => (intro w hS; go_simp; (try with_reducible rfl))
                simp only [Act.put, List.getElem_toArray, List.getElem_cons_zero, List.getElem_cons_succ, List.setIfInBounds_toArray, List.set_cons_zero, List.set_cons_succ] at hsh1 ⊢
                refine wpTill_take (i := 4) (v := ?va2) rfl (by kernel_rfl) (by kernel_rfl) (by kernel_rfl) hsh1 (fun l h h9 => (Shutd.step h (j := 8) (k := 4) (by kernel_rfl) h9)) (fun l => getD_set_ne false (by decide)) (fun _ _ _ h => h.elim) (Or.inl ⟨by rfl, ?ya2⟩) (HS5.out _ (Below.refl _ _)) (fun hsh2 => ?_)
                case ya2 => (intro w hS; go_simp; (try with_reducible rfl))
                simp only [Act.put, List.getElem_toArray, List.getElem_cons_zero, List.getElem_cons_succ, List.setIfInBounds_toArray, List.set_cons_zero, List.set_cons_succ] at hsh2 ⊢
                refine wpTill_ready (rs := [0]) (by kernel_rfl) (by simp) ?_
                refine (AllTill.cons rfl (fun KK hKK => ?_) AllTill.nil)
                rw [if_pos (by rfl)]
                go_simp
                refine hKK _ _ (fun _ => HS5.out _ (Below.refl _ _)) ?_
                clear hKK KK
                simp only [List.setIfInBounds_toArray, List.set_cons_zero]
                refine wpTill_ready (rs := [2]) (by kernel_rfl) (by simp) ?_
                refine (AllTill.cons rfl (fun KK hKK => ?_) AllTill.nil)
                rw [if_pos (by rfl)]
                go_simp
                refine hKK _ _ (fun _ => HS5.out _ (Below.refl _ _)) ?_
                clear hKK KK
                simp only [List.setIfInBounds_toArray, List.set_cons_zero, List.set_cons_succ]
                refine wpTill_ready (rs := [3]) (by kernel_rfl) (by simp) ?_
                refine (AllTill.cons rfl (fun KK hKK => ?_) AllTill.nil)
                rw [if_pos (by rfl)]
                go_simp
                refine HCL.out.mono ?_
                rintro e U1 ⟨v, rfl, hO, hbU⟩
                obtain ⟨A2, c2', rfl⟩ := own_shape hO
                have HBU := Lib.hid hbU
                have HOU := Lib.hid hO
                have hsz5 : w.heap.size + 6 ≤ W5.heap.size := by rw [← hW5]; exact HOwn.out.le
                have u1 : U1.cell? ⟨w.heap.size + 1, 1, none⟩ = some (.slice none 0 0) := by
                  rw [hbU.cell (p := ⟨w.heap.size + 1, 1, none⟩) (by show w.heap.size + 1 < _; omega), ← hW5]; exact m1
                have u2 : U1.cell? ⟨w.heap.size + 1, 2, none⟩ = some (.int .i64 0) := by
                  rw [hbU.cell (p := ⟨w.heap.size + 1, 2, none⟩) (by show w.heap.size + 1 < _; omega), ← hW5]; exact m2
                have HU1 : Hid (U1.heap[w.heap.size + 1]? = some (.cells #[.slice A ah.length cc, .slice none 0 0, .int .i64 0] 73 (0, 0))) := Lib.hid (by rw [hbU.block (w.heap.size + 1) (by omega), ← hW5]; exact HB1.out)
                have u3 := blk_free HU1.out 1
                have u4 := blk_free HU1.out 2
                clear hO hbU
                refine hKK _ _ (fun _ => HS5.out _ (HBU.out)) ?_
                clear hKK KK
                simp only [List.setIfInBounds_toArray, List.set_cons_zero, List.set_cons_succ]
                refine wpTill_ready (rs := [5]) (by kernel_rfl) (by simp) ?_
                refine (AllTill.cons rfl (fun KK hKK => ?_) AllTill.nil)
                rw [if_pos (by rfl)]
                go_simp
                refine hKK _ _ (fun _ => HS5.out _ (HBU.out)) ?_
                clear hKK KK
                simp only [List.setIfInBounds_toArray, List.set_cons_zero, List.set_cons_succ]
                refine wpTill_ready (rs := [6]) (by kernel_rfl) (by simp) ?_
                refine (AllTill.cons rfl (fun KK hKK => ?_) AllTill.nil)
                rw [if_pos (by rfl)]
                go_simp
                obtain ⟨hs1, hs2⟩ := but_set (i := 1) (.slice A2 k c2') HU1.out
                have HS1b := Lib.hid hs1
                have HU2 : Hid ((U1.setCell ⟨w.heap.size + 1, 1, none⟩ (.slice A2 k c2')).heap[w.heap.size + 1]? = some (.cells #[.slice A ah.length cc, .slice A2 k c2', .int .i64 0] 73 (0, 0))) := Lib.hid hs2
                clear hs1 hs2
                have HN2 : (U1.setCell ⟨w.heap.size + 1, 1, none⟩ (.slice A2 k c2')).cell? ⟨w.heap.size + 2, 0, none⟩ = some (.int .i64 (k : Int)) := by
                  have h1 := HS5.out _ HBU.out
                  have hb := HS1b.out.block (w.heap.size + 2) (by have := HBU.out.size; omega) (by simp)
                  simp only [World.cell?] at h1 ⊢
                  rw [hb]; exact h1
                refine hKK _ _ (fun _ => HN2) ?_
                clear hKK KK
                simp only [List.setIfInBounds_toArray, List.set_cons_zero, List.set_cons_succ]
                refine wpTill_ready (rs := [7]) (by kernel_rfl) (by simp) ?_
                refine (AllTill.cons rfl (fun KK hKK => ?_) AllTill.nil)
                rw [if_pos (by rfl)]
                go_simp
                refine hKK _ _ (fun _ => HN2) ?_
                clear hKK KK
                simp only [List.setIfInBounds_toArray, List.set_cons_zero, List.set_cons_succ]
                refine wpTill_ready (rs := [8]) (by kernel_rfl) (by simp) ?_
                refine (AllTill.cons rfl (fun KK hKK => ?_) AllTill.nil)
                rw [if_pos (by rfl)]
                go_simp
                obtain ⟨hs3, hs4⟩ := but_set (i := 2) (.int .i64 (k : Int)) HU2.out
                have hsT : (#[.slice A ah.length cc, .slice A2 k c2', .int .i64 0] : Array Value).setIfInBounds 2 (.int .i64 (k : Int)) = #[.slice A ah.length cc, .slice A2 k c2', .int .i64 (k : Int)] := rfl
                rw [hsT] at hs4
                have HBut := Lib.hid (HS1b.out.trans hs3)
                have HU3 := Lib.hid hs4
                clear hs3 hs4 hsT
                refine hKK _ _ (fun h0 => by cases h0) ?_
                clear hKK KK
                simp only [List.setIfInBounds_toArray, List.set_cons_zero, List.set_cons_succ]
                refine wpTill_done (by kernel_rfl) ?_ _
                simp only [noPanic]
                simp only [Exit.then]
                obtain ⟨U3, hU3⟩ : ∃ U3, (U1.setCell ⟨w.heap.size + 1, 1, none⟩ (.slice A2 k c2')).setCell ⟨w.heap.size + 1, 2, none⟩ (.int .i64 (k : Int)) = U3 := ⟨_, rfl⟩
                rw [hU3] at HU3 HBut ⊢
                clear hU3 u1 u2 u3 u4 HN2 HU2 HS1b c0 c1 c2 f0 f1 f2 m0 m1 m2 g0 g1 g2 n0 l0 d0
                have hU1N : U1.heap[w.heap.size]? = some (.cells #[.slice none 0 0, .slice none 0 0, .int .i64 0] 73 (0, 0)) := by
                  rw [HBU.out.block w.heap.size (by omega), ← hW5]; exact HB0.out
                have hU3N := HBut.out.blk hU1N (by simp)
                have c0 := blk_cells hU3N 0
                have c1 := blk_cells hU3N 1
                have c2 := blk_cells hU3N 2
                have f0 := blk_free hU3N 0
                have f1 := blk_free hU3N 1
                have f2 := blk_free hU3N 2
                have r0 := blk_cells HU3.out 0
                have r1 := blk_cells HU3.out 1
                have r2 := blk_cells HU3.out 2
                simp only [List.getElem?_toArray, List.getElem?_cons_zero, List.getElem?_cons_succ] at c0 c1 c2 r0 r1 r2
                go_wp2_with fail
                have HSet := Lib.hid (msg_set (x := .slice A ah.length cc) (y := .slice A2 k c2') (z := .int .i64 (k : Int)) hU3N)
                have hDlt := (Array.getElem?_eq_some_iff.1 HD.out).1
                have hne1 : D ≠ w.heap.size + 1 := fun e => by
                  have h1 := HB1.out
                  rw [← e, HD.out] at h1; cases h1
                have hD5 : W5.heap[D]? = some (.deferred (some [])) := by rw [← hW5]; exact HD.out
                have hDU : U1.heap[D]? = some (.deferred (some [])) := by
                  rw [HBU.out.block D (by rw [← hW5]; exact hDlt)]; exact hD5
                have hDU3 := HBut.out.blk hDU (by simp; omega)
                have hRV : Ht.restFin (some ⟨ah, k, al, false⟩) b = ((ah, b.take k), 0) := by
                  unfold Ht.restFin
                  simp only [Bool.false_eq_true, if_false]
                  rw [if_neg (by omega), if_neg (by omega), if_neg (by omega), if_neg (by omega)]
                  rfl
                have hkl : (b.take k).length = k := by rw [List.length_take]; omega
                exact rest_leave rfl rfl rfl (HSet.out.1.blk hDU3 (by simpa using hne)) HSet.out.2 (by
                  rw [HRF.out, hRV]
                  have hD4 := HSet.out.1.blk hDU3 (by simpa using hne)
                  have o1 := (((HOwn.out.next hWW).next HBU.out).but HBut.out (by simp)).but HSet.out.1 (by simp)
                  have o2 := (HOU.out.but HBut.out (by simp; omega)).but HSet.out.1 (by simp; omega)
                  have hW5s := hWW.size
                  have hWs := HB.out.size
                  have e1 : Below w.heap.size w U1 := (HB.out.trans (hWW.mono HB.out.size)).trans (HBU.out.mono (Nat.le_trans HB.out.size hWW.size))
                  have e3 := e1.trans (HBut.out.to e1.size (by simp))
                  have e4 := e3.trans (HSet.out.1.to e3.size (by simp))
                  refine ⟨_, _, by rw [hkl], own_lower (o1.book hD4 rfl) (by omega), ?_, mark_put e4 hleD _⟩
                  rw [hkl]
                  exact own_lower (o2.book hD4 rfl) (by omega))
      · have HX := HNXh.out 344 (by unfold Ht.restFin; simp)
        go_wp2_with fail
        refine wp_label ?_
        simp only [Exit.then]
        go_wp2_with fail
        exact rest_leave rfl rfl rfl (HS.out.1.blk HD.out (by simpa using hne)) HS.out.2 HX.out
    case stop =>
      rintro D c pre W hpre ⟨rfl, hgo, hB⟩ hle hD
      refine wp_goto ?_
      simp only [Exit.inBlock, Exit.then]
      obtain ⟨rest, hrest⟩ := hpre
      exact ⟨rfl, D, rfl, hD, by omega, hB.1, hB.2.1, by rw [← hrest]; exact linesGo_none _ _ _ hgo⟩
end Go.Proofs.YtoadahommlcjpaaGreatDoor
