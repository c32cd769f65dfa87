/-
  THE WALKS: append of a row of bytes to a row of the call's own, wherever the other lies. CONDITIONS: lengths.
-/
import Derived.Test.YtoadahommlcjpaaGreatDoorWN
namespace Go.Proofs.YtoadahommlcjpaaGreatDoor
open Go.RowKit
theorem own_empty {B : Nat} (w : World) (hB : B ≤ w.heap.size) : Own 5 1 B (.slice (some ⟨w.heap.size, 0, none⟩) 0 0) 0 [] (w.alloc (.cells #[] 5)) :=
  ⟨World.ownsRow_lit w #[] 0 hB (Nat.zero_le _) rfl, by simp; omega⟩
theorem run_append_empty (base : Nat) (t ty e : TypeId) (i : TypeInfo) (size : Nat) (w : World) (ht : Tryz.prog.underlying t = some (.slice e)) (hi : Tryz.prog.info? e = some i)
    (v : Value) (n : Nat) (xs : List Value) (hown : w.ownsRow base e size v n xs) (c : Nat) :
    (Builtin.append_ #[t, t] ty #[v, .slice none 0 c]).run Tryz.prog w = .ok v w := by
  rcases hown.2 with ⟨rfl, rfl⟩ | ⟨g, cap, cur, rfl, _, _, hnc, _⟩
  · simp [Builtin.append_, run_underlying ht, sizeOf, typeInfo, hi, Builtin.lenOf, Builtin.firstCells]
  · simp [Builtin.append_, run_underlying ht, sizeOf, typeInfo, hi, Builtin.lenOf, Builtin.firstCells, hnc, storeCells]
theorem wpList_app_row {ops : Array Oper} {rest : List Oper} {o : Oper} {a : Act} {Q : Exit → Act → World → Prop} (hgd : o.guard = none) (s x : Operand)
    (ho : o.op = .call { callee := .builtin .append, args := #[s, x], argTypes := #[22, 22] })
    {B : Nat} {v : Value} {n : Nat} {xs : List Value} {w : World} (hb : Own 5 1 B v n xs w) (hs : a.eval s = v)
    (l : Ht.Bs) (A : Option Addr) (c : Nat) (hx : a.eval x = .slice A l.length c) (hA : CellsAt w A (Lib.byteCells l)) (hlim : n + l.length ≤ 140737488355328)
    (h : ∀ v' w', Own 5 1 B v' (n + l.length) (xs ++ Lib.byteCells l) w' → Below B w w' → w.grownBy w' v.ownBlock → wpList Tryz.prog ops Q rest (a.put o.dst v') w') : wpList Tryz.prog ops Q (o :: rest) a w := by
  have hi := info5
  have hcl : (Lib.byteCells l).length = l.length := by simp [Lib.byteCells]
  cases hinf : Tryz.prog.info? 5 with
  | none => rw [hinf] at hi; cases hi
  | some i0 =>
    rw [hinf] at hi
    simp only [Option.map_some, Option.some.injEq, Prod.mk.injEq] at hi
    obtain ⟨hz0, hz1, hz2⟩ := hi
    cases A with
    | none =>
      have hv : l = [] := by
        by_cases hne : l = []
        · exact hne
        · obtain ⟨b, off, h1, _⟩ := hA (fun e => hne (List.map_eq_nil_iff.1 e))
          cases h1
      subst hv
      refine wpList_plain hgd fun K' hK' => ?_
      have hrun := run_append_empty B 22 o.type 5 i0 1 w Tryz.underlying22 hinf v n xs hb.own c
      unfold Oper.wp execOp
      simp only [ho, resolve, invoke, builtin, Sem.run_bind, Sem.run_pure, Result.andThen_ok, List.map_toArray, List.map_cons, List.map_nil, hs, hx]
      simp only [List.length_nil] at hrun ⊢
      simp only [hrun]
      have h2 := h v w (by simpa [Lib.byteCells] using hb) (Below.refl _ _) ⟨rfl, rfl, rfl, Nat.le_refl _, fun _ _ _ => rfl⟩
      exact hK' _ _ h2
    | some ad =>
      refine wpList_append_own _ hgd s x 22 ho B 5 i0 (.int .u8 0) 1 1 Tryz.underlying22 hinf hz0 hz1 hz2 rfl (by decide) v n xs hs hb.own ad l.length c (Lib.byteCells l) hx (by rw [hcl, Nat.mul_one]) ?_ (ones_bytes l) (by have : maxLen = 9223372036854775807 := rfl; omega) (by omega) hb.le ?_
      · intro j u hj
        obtain ⟨b, off, h1, _, h3⟩ := hA (by intro e; rw [e] at hj; simp at hj)
        cases h1
        rw [show (⟨b, off, none⟩ : Addr).add j = ⟨b, off + j, none⟩ by simp [Addr.add]]
        exact h3 j u hj
      · intro v' w' h1' h2 _
        exact h v' w' ⟨h1', Nat.le_trans hb.le h2.size⟩ ((Below.refl B w).grown h2 hb.le (fun k hk => (hb.own.lt k hk).1)) h2
end Go.Proofs.YtoadahommlcjpaaGreatDoor
