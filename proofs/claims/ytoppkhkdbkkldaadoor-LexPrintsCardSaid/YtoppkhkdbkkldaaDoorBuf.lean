/-
  PROVED: a buffer of bytes that a call owns: what append and the turn to a string make of it. CONDITIONS: as each law says.
-/
import Derived.Test.YtoppkhkdbkkldaaDoorRefD
import Derived.Laws.AppendOwn
import Derived.Laws.OwnMore
import Derived.Laws.IdiomStrings
import Derived.Lib.UnsafeStr
namespace Go.Proofs.YtoppkhkdbkkldaaDoor
open Go.RowKit
structure Buf (B : Nat) (v : Value) (out : List UInt8) (W0 w : World) : Prop where
  own : w.ownsRow B 5 1 v out.length (Lib.byteCells out)
  below : Below B W0 w
  le : B ≤ w.heap.size
theorem Buf.empty {w : World} : Buf w.heap.size (.slice none 0 0) [] w w := ⟨World.ownsRow_nil _ _ _ _, Below.refl _ _, Nat.le_refl _⟩
theorem Buf.alloc {B : Nat} {v : Value} {out : List UInt8} {W0 w : World} (h : Buf B v out W0 w) (o : Obj) : Buf B v out W0 (w.alloc o) := ⟨h.own.alloc o, h.below.alloc h.le o, Nat.le_trans h.le ((Below.refl 0 w).alloc (Nat.zero_le _) o).size⟩
theorem Buf.next {B : Nat} {v : Value} {out : List UInt8} {W0 w w' : World} (h : Buf B v out W0 w) (hb : Below w.heap.size w w') : Buf B v out W0 w' := ⟨own_below h.own hb, h.below.trans (hb.mono h.le), Nat.le_trans h.le hb.size⟩
theorem byteCells_app (l m : List UInt8) : Lib.byteCells (l ++ m) = Lib.byteCells l ++ Lib.byteCells m := by unfold Lib.byteCells; rw [List.map_append]
theorem byteCells_one (l : List UInt8) : ∀ v ∈ Lib.byteCells l, v.oneCell' = true := by
  intro v hv
  simp only [Lib.byteCells, List.mem_map] at hv
  obtain ⟨b, _, rfl⟩ := hv; rfl
theorem Buf.lit (w : World) (l : List UInt8) (hl : l.length ≤ 1000) {C : Array Value} (hC : C = (Lib.byteCells l).toArray) : Buf w.heap.size (.slice (some ⟨w.heap.size, 0, none⟩) l.length l.length) l w (w.alloc (.cells C 5)) := by
  subst hC
  refine ⟨⟨by rw [byteCells_len, Nat.mul_one], .inr ⟨w.heap.size, l.length, (Lib.byteCells l).toArray, rfl, Nat.le_refl _, heap_alloc_new w _, Nat.le_refl _, by unfold maxLen; omega, by rw [List.size_toArray, byteCells_len, Nat.mul_one], ?_⟩⟩, below_box _ _, by simp⟩
  show (Lib.byteCells l).toArray.toList.take (l.length * 1) = _
  rw [Nat.mul_one, List.take_of_length_le (by simp [byteCells_len])]
theorem wpList_buf_append {ops : Array Oper} {rest : List Oper} {o : Oper} {a : Act} {Q : Exit → Act → World → Prop} (hgd : o.guard = none) (s x : Operand)
    (ho : o.op = .call { callee := .builtin .append, args := #[s, x], argTypes := #[61, 61] }) {B : Nat} {v : Value} {out : List UInt8} {W0 w : World} (hb : Buf B v out W0 w)
    (hs : a.eval s = v) (news : List UInt8) {C : Array Value} (hC : C = (Lib.byteCells news).toArray) (hx : a.eval x = .slice (some ⟨w.heap.size, 0, none⟩) news.length news.length) (hlen : out.length + news.length ≤ 1099511627776)
    (h : ∀ v' w', Buf B v' (out ++ news) W0 w' → wpList Tryd.prog ops Q rest (a.put o.dst v') w') : wpList Tryd.prog ops Q (o :: rest) a (w.alloc (.cells C 5)) := by
  subst hC
  obtain ⟨i0, hi, hz0, hz1, hz2⟩ := info_parts byte_info
  have hb' := hb.alloc (.cells (Lib.byteCells news).toArray 5)
  refine wpList_append_own _ hgd s x 61 ho B 5 i0 (.int .u8 0) 1 1 Tryd.underlying61 hi hz0 hz1 hz2 rfl (by decide) v out.length (Lib.byteCells out) hs hb'.own ⟨w.heap.size, 0, none⟩ news.length news.length (Lib.byteCells news) hx (by rw [byteCells_len, Nat.mul_one]) ?_ (byteCells_one _) (by unfold maxLen; omega) (by omega) hb'.le ?_
  · intro j u hj
    have hadd : (⟨w.heap.size, 0, none⟩ : Addr).add j = ⟨w.heap.size, j, none⟩ := by unfold Addr.add; split <;> simp_all
    rw [hadd, blk_cells (heap_alloc_new w _) j, List.getElem?_toArray, hj]
  · intro v' w' h1 h2 _
    exact h v' w' ⟨by rw [List.length_append, byteCells_app]; exact h1, hb'.below.grown h2 hb'.le (fun k hk => (hb'.own.lt k hk).1), Nat.le_trans hb'.le h2.size⟩
theorem Buf.string {B : Nat} {v : Value} {out : List UInt8} {W0 w : World} (h : Buf B v out W0 w) : (convert 61 9 v).run Tryd.prog w = .ok (.string ⟨out.toArray⟩) w := by
  rcases h.own.2 with ⟨hv, hn⟩ | ⟨g, cap, cur, hv, _⟩
  · obtain rfl : out = [] := List.length_eq_zero_iff.1 hn
    rw [hv]
    rw [run_convert_bytes_string w 61 9 5 none 0 0 Tryd.underlying61 Tryd.underlying5 Tryd.underlying9]
    simp [Conv.bytesToString]
    rfl
  · have ho := h.own
    rw [hv] at ho ⊢
    refine run_convert_bytes_back w 61 9 5 _ cap out Tryd.underlying61 Tryd.underlying5 Tryd.underlying9 ?_
    intro j hj
    have hadd : (⟨g, 0, none⟩ : Addr).add j = ⟨g, j, none⟩ := by unfold Addr.add; split <;> simp_all
    rw [hadd, ho.cellAt j (by omega)]
    simp [Lib.byteCells, hj]
end Go.Proofs.YtoppkhkdbkkldaaDoor
