/-
  THE WALKS of the document's answer, fourth part: numbers, Hex, Bits, Quote. CONDITIONS: the rows lie as CellsAt says; lengths as each says.
-/
import Derived.Test.YthpojljfmipngaaGreatDoorRefC
import Derived.Lib.AppendStr
namespace Go.Proofs.YthpojljfmipngaaGreatDoor
open Go.RowKit
/-- A buffer of bytes of the call's own. -/
def Bf (B : Nat) (v : Value) (out : Sc.Bs) (w : World) : Prop := Own 5 1 B v out.length (Lib.byteCells out) w
theorem Bf.next {B : Nat} {v : Value} {out : Sc.Bs} {w w' : World} (h : Bf B v out w) (hb : Below w.heap.size w w') : Bf B v out w' := Own.next h hb
theorem Bf.nil (w : World) : Bf w.heap.size (.slice none 0 0) [] w := Own.nil 5 1 w
theorem info5' : ∃ i0, Tryz.prog.info? 5 = some i0 ∧ i0.zero = some (.int .u8 0) ∧ i0.size = 1 ∧ i0.bytes = 1 := by
  have h := info5
  cases hi : Tryz.prog.info? 5 with
  | none => rw [hi] at h; cases h
  | some i0 =>
    rw [hi] at h
    simp only [Option.map_some, Option.some.injEq, Prod.mk.injEq] at h
    exact ⟨i0, rfl, h.1, h.2.1, h.2.2⟩
theorem wpList_bf_str {ops : Array Oper} {rest : List Oper} {o : Oper} {a : Act} {Q : Exit → Act → World → Prop} (hgd : o.guard = none) (s x : Operand)
    (ho : o.op = .call { callee := .builtin .append, args := #[s, x], argTypes := #[37, 9] }) {B : Nat} {v : Value} {out : Sc.Bs} {w : World} (hb : Bf B v out w) (hs : a.eval s = v)
    (m : Sc.Bs) (str : ByteArray) (hm : str.data.toList = m) (hx : a.eval x = .string str) (hlen : out.length + m.length ≤ 140737488355328)
    (h : ∀ v' w', Bf B v' (out ++ m) w' → Below B w w' → wpList Tryz.prog ops Q rest (a.put o.dst v') w') : wpList Tryz.prog ops Q (o :: rest) a w := by
  obtain ⟨i0, hi, hz0, hz1, hz2⟩ := info5'
  subst hm
  have hsz : str.size = str.data.toList.length := Lib.size_eq str
  refine Lib.wpList_append_own_string _ hgd s x 37 9 ho B 5 i0 Tryz.underlying37 Tryz.underlying9 hi hz0 hz1 hz2 v out.length (Lib.byteCells out) hs hb.own str hx (by rw [hsz]; unfold maxLen; omega) (by rw [hsz]; exact hlen) hb.le ?_
  intro v' w' h1 h2 _
  refine h v' w' ⟨?_, Nat.le_trans hb.le h2.size⟩ ((Below.refl B w).grown h2 hb.le (fun k hk => (hb.lt k hk).1))
  rw [List.length_append, byteCells_app, ← hsz]
  exact h1
theorem bf_string {B : Nat} {v : Value} {out : Sc.Bs} {w : World} (h : Bf B v out w) : (convert 37 9 v).run Tryz.prog w = .ok (.string ⟨out.toArray⟩) w := own_string h
theorem bf_lit (w : World) (l : Sc.Bs) (hl : l.length ≤ 1000) {C : Array Value} (hC : C = (Lib.byteCells l).toArray) : Bf w.heap.size (.slice (some ⟨w.heap.size, 0, none⟩) l.length l.length) l (w.alloc (.cells C 5)) := by
  subst hC
  refine ⟨⟨by rw [byteCells_len, Nat.mul_one], .inr ⟨w.heap.size, l.length, (Lib.byteCells l).toArray, rfl, Nat.le_refl _, heap_alloc_new w _, Nat.le_refl _, by unfold maxLen; omega, by rw [List.size_toArray, byteCells_len, Nat.mul_one], ?_⟩⟩, by simp⟩
  rw [Nat.mul_one, List.take_of_length_le (by simp [byteCells_len])]
def intCells (l : List Int) : List Value := l.map fun n => .int .i64 n
theorem intCells_get {l : List Int} {k : Nat} {n : Int} (h : l[k]? = some n) : (intCells l)[k]? = some (.int .i64 n) := by unfold intCells; rw [List.getElem?_map, h]; rfl
theorem numsText_le (vs : List Int) (h : ∀ v ∈ vs, -9223372036854775808 ≤ v ∧ v ≤ 9223372036854775807) : (Sc.numsText vs).length ≤ 22 * vs.length := by
  induction vs with
  | nil => exact Nat.le_refl _
  | cons v vs ih =>
    rw [Sc.numsText_cons]
    have h0 := h v (by simp)
    have h1 := Lib.itoa_length_le v h0.1 h0.2
    have h2 := ih (fun x hx => h x (by simp [hx]))
    simp; omega
end Go.Proofs.YthpojljfmipngaaGreatDoor
