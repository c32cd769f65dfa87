/-
  THE WALKS: copies of rows, made by append to an empty row: what holds between the operations of such a region, in whatever order they come up. CONDITIONS: as each says.
-/
import Derived.Test.YthpojljfmipngaaDoorWalkV
import Derived.Test.YthpojljfmipngaaDoorTill
import Derived.Laws.AppendOwnNone
namespace Go.Proofs.YthpojljfmipngaaDoor
open Go.RowKit
theorem boolCells_one (l : List Bool) : ∀ v ∈ boolCells l, v.oneCell' = true := by
  intro v hv
  simp only [boolCells, List.mem_map] at hv
  obtain ⟨b, _, rfl⟩ := hv; rfl
theorem boolCells_len (l : List Bool) : (boolCells l).length = l.length := by unfold boolCells; rw [List.length_map]
section
variable {e t : TypeId} {size sz B B' : Nat} {u v : Value} {n m : Nat} {xs ys : List Value} {w w' : World}
theorem own_not (h : Own e size B v n xs w) (hne : t ≠ e) : ∀ j ∈ v.ownBlock.toList, ∀ cs fz, w.heap[j]? ≠ some (.cells cs t fz) := by
  intro j hm cs fz hj
  rcases h.own.2 with ⟨rfl, _⟩ | ⟨g, cap, cur, rfl, _, hg, _⟩
  · simp [Value.ownBlock] at hm
  · simp [Value.ownBlock] at hm
    subst hm
    rw [hj] at hg; injection hg with hg; injection hg with _ hg; exact hne hg
theorem RowT.grownT {A : Option Addr} (h : RowT w t A ys) (hg : w.grownBy w' v.ownBlock) (ho : Own e size B v n xs w) (hne : t ≠ e) : RowT w' t A ys :=
  h.but (But.grown hg) (own_not ho hne)
theorem Own.grownT (h : Own t sz B' u m ys w) (hg : w.grownBy w' v.ownBlock) (ho : Own e size B v n xs w) (hne : t ≠ e) : Own t sz B' u m ys w' := by
  refine ⟨⟨h.own.1, ?_⟩, Nat.le_trans h.le hg.size⟩
  rcases h.own.2 with hn | ⟨g, cap, cur, rfl, hb, hc, rest⟩
  · exact .inl hn
  · exact .inr ⟨g, cap, cur, rfl, hb, (But.grown hg).blk hc (fun hm => own_not ho hne g hm _ _ hc), rest⟩
theorem own_empty (w : World) (e : TypeId) (hB : B ≤ w.heap.size) : Own e 1 B (.slice (some ⟨w.heap.size, 0, none⟩) 0 0) 0 [] (w.alloc (.cells #[] e)) :=
  ⟨World.ownsRow_lit w #[] 0 hB (Nat.zero_le _) rfl, by simp; omega⟩
end
theorem run_append_empty (base : Nat) (t ty e : TypeId) (i : TypeInfo) (size : Nat) (w : World) (ht : Tryd.prog.underlying t = some (.slice e)) (hi : Tryd.prog.info? e = some i)
    (v : Value) (n : Nat) (xs : List Value) (hown : w.ownsRow base e size v n xs) (c : Nat) :
    (Builtin.append_ #[t, t] ty #[v, .slice none 0 c]).run Tryd.prog w = .ok v w := by
  rcases hown.2 with ⟨rfl, rfl⟩ | ⟨g, cap, cur, rfl, _, _, hnc, _⟩
  · simp [Builtin.append_, run_underlying ht, sizeOf, typeInfo, hi, Builtin.lenOf, Builtin.firstCells]
  · simp [Builtin.append_, run_underlying ht, sizeOf, typeInfo, hi, Builtin.lenOf, Builtin.firstCells, hnc, storeCells]
/-- append to an empty row of the call's own, wherever the other lies. -/
theorem wp_row_copy {o : Oper} {a : Act} {K : Act → World → Prop} {Q : Exit → Act → World → Prop} (s x : Operand) (t e : TypeId) (z : Value) (bytes : Nat)
    (ho : o.op = .call { callee := .builtin .append, args := #[s, x], argTypes := #[t, t] }) (ht : Tryd.prog.underlying t = some (.slice e))
    (hi : (Tryd.prog.info? e).map (fun i => (i.zero, i.size, i.bytes)) = some (some z, 1, bytes)) (hzs : z.cells.size = 1)
    {B : Nat} {v : Value} {w : World} (hb : Own e 1 B v 0 [] w) (hs : a.eval s = v)
    (vs : List Value) (m : Nat) (hm : vs.length = m) (A : Option Addr) (c : Nat) (hx : a.eval x = .slice A m c) (hA : CellsAt w A vs) (h1 : ∀ u ∈ vs, u.oneCell' = true) (h63 : m ≤ maxLen) (hbytes : m * bytes ≤ 140737488355328)
    (h : ∀ v' w', Own e 1 B v' m vs w' → Below B w w' → w.grownBy w' v.ownBlock → K (a.put o.dst v') w') : o.wp Tryd.prog a w K Q := by
  subst hm
  cases hinf : Tryd.prog.info? e with
  | none => rw [hinf] at hi; cases hi
  | some i0 =>
    rw [hinf] at hi
    simp only [Option.map_some, Option.some.injEq, Prod.mk.injEq] at hi
    obtain ⟨hz0, hz1, hz2⟩ := hi
    cases A with
    | none =>
      have hv : vs = [] := by
        by_cases hne : vs = []
        · exact hne
        · obtain ⟨b, off, h1, _⟩ := hA hne
          cases h1
      subst hv
      have hrun := run_append_empty B t o.type e i0 1 w ht hinf v 0 [] hb.own c
      unfold Oper.wp execOp
      simp only [ho, resolve, invoke, builtin, Sem.run_bind, Sem.run_pure, Result.andThen_ok, List.map_toArray, List.map_cons, List.map_nil, hs, hx]
      simp only [List.length_nil] at hrun ⊢
      simp only [hrun]
      exact h v w hb (Below.refl _ _) ⟨rfl, rfl, rfl, Nat.le_refl _, fun _ _ _ => rfl⟩
    | some ad =>
      refine wp_append_own _ s x t ho B e i0 z 1 bytes ht hinf hz0 hz1 hz2 hzs (by decide) v 0 [] hs hb.own ad vs.length c vs hx (Nat.mul_one _).symm ?_ h1 (by omega) (by rw [Nat.zero_add]; exact hbytes) hb.le ?_
      · intro j u hj
        obtain ⟨b, off, h1, _, h3⟩ := hA (by intro e; rw [e] at hj; simp at hj)
        cases h1
        rw [show (⟨b, off, none⟩ : Addr).add j = ⟨b, off + j, none⟩ by simp [Addr.add]]
        exact h3 j u hj
      · intro v' w' h1' h2 _
        rw [Nat.zero_add, List.nil_append] at h1'
        exact h v' w' ⟨h1', Nat.le_trans hb.le h2.size⟩ ((Below.refl B w).grown h2 hb.le (fun k hk => (hb.own.lt k hk).1)) h2
/-- What holds between the operations: a, b: the bytes' row is begun, is filled; c, d: the bits' row. -/
structure CF (w0 : World) (x : Sc.Ev) (a b c d : Bool) (va vb vc vd : Value) (W : World) : Prop where
  below : Below w0.heap.size w0 W
  fa : a = true → b = false → Own 5 1 w0.heap.size va 0 [] W
  fb : b = true → ∃ A k, vb = .slice A x.bytes.length k ∧ RowT W 5 A (Lib.byteCells x.bytes)
  fc : c = true → d = false → Own 4 1 w0.heap.size vc 0 [] W
  fd : d = true → ∃ A k, vd = .slice A x.keep.length k ∧ RowT W 4 A (boolCells x.keep)
section
variable {w0 W W' : World} {x : Sc.Ev} {a b c d : Bool} {va vb vc vd v' : Value} {n : Nat}
theorem RowT.next {t : TypeId} {A : Option Addr} {vs : List Value} (h : RowT W t A vs) (hb : Below W.heap.size W W') : RowT W' t A vs := h.but (But.of (S := []) hb) (by simp)
theorem CF.start (w0 : World) (x : Sc.Ev) (va vb vc vd : Value) : CF w0 x false false false false va vb vc vd w0 :=
  ⟨Below.refl _ _, fun h => (by cases h), fun h => (by cases h), fun h => (by cases h), fun h => (by cases h)⟩
theorem CF.stepA (h : CF w0 x false false c d va vb vc vd W) : CF w0 x true false c d (.slice (some ⟨W.heap.size, 0, none⟩) 0 0) vb vc vd (W.alloc (.cells #[] 5)) := by
  have hb := below_box W (.cells #[] 5)
  refine ⟨h.below.trans (hb.mono h.below.size), fun _ _ => own_empty W 5 h.below.size, fun h => (by cases h), fun h1 h2 => (h.fc h1 h2).next hb, fun h1 => ?_⟩
  obtain ⟨A, k, e, hr⟩ := h.fd h1
  exact ⟨A, k, e, hr.next hb⟩
theorem CF.stepC (h : CF w0 x a b false false va vb vc vd W) : CF w0 x a b true false va vb (.slice (some ⟨W.heap.size, 0, none⟩) 0 0) vd (W.alloc (.cells #[] 4)) := by
  have hb := below_box W (.cells #[] 4)
  refine ⟨h.below.trans (hb.mono h.below.size), fun h1 h2 => (h.fa h1 h2).next hb, fun h1 => ?_, fun _ _ => own_empty W 4 h.below.size, fun h => (by cases h)⟩
  obtain ⟨A, k, e, hr⟩ := h.fb h1
  exact ⟨A, k, e, hr.next hb⟩
theorem CF.stepB (h : CF w0 x true false c d va vb vc vd W) (hO : Own 5 1 w0.heap.size v' x.bytes.length (Lib.byteCells x.bytes) W') (hb : Below w0.heap.size W W') (hg : W.grownBy W' va.ownBlock) : CF w0 x true true c d va v' vc vd W' := by
  have ho := h.fa rfl rfl
  refine ⟨h.below.trans hb, fun _ h => (by cases h), fun _ => RowT.own hO, fun h1 h2 => (h.fc h1 h2).grownT hg ho (by decide), fun h1 => ?_⟩
  obtain ⟨A, k, e, hr⟩ := h.fd h1
  exact ⟨A, k, e, hr.grownT hg ho (by decide)⟩
theorem CF.stepD (h : CF w0 x a b true false va vb vc vd W) (hO : Own 4 1 w0.heap.size v' x.keep.length (boolCells x.keep) W') (hb : Below w0.heap.size W W') (hg : W.grownBy W' vc.ownBlock) : CF w0 x a b true true va vb vc v' W' := by
  have ho := h.fc rfl rfl
  refine ⟨h.below.trans hb, fun h1 h2 => (h.fa h1 h2).grownT hg ho (by decide), fun h1 => ?_, fun _ h => (by cases h), fun _ => RowT.own hO⟩
  obtain ⟨A, k, e, hr⟩ := h.fb h1
  exact ⟨A, k, e, hr.grownT hg ho (by decide)⟩
end
end Go.Proofs.YthpojljfmipngaaDoor
