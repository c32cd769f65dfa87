/-
  THE WALKS' GROUND: rows in memory, blocks kept, rows that a call grows; what the package-level variables hold; the library's numbers. CONDITIONS: as each says.
-/
import Derived.Test.YtimioelnnhnbiaaDoorRows
import Derived.Test.YtimioelnnhnbiaaDoorShelf
import Derived.Test.YtimioelnnhnbiaaDoorParse
import Derived.WalkKit
import Derived.WalkSpells
import Derived.WalkLawsBesides
import Derived.BigQuiet
import Derived.Lib.Hide
import Derived.Lib.SmallJoins
import Derived.Deep.RegionWith
import Derived.Deep.QuietTactic
import Derived.Deep.CutBlock
import Derived.Lib.LazyBuf
import Derived.Laws.AppendOwn
import Derived.Laws.OwnMore
import Derived.Laws.IdiomStrings
import Derived.Lib.UnsafeStr
import Derived.WalkMore
namespace Go.Proofs.YtimioelnnhnbiaaDoor
open Go.RowKit
theorem ret_bool {a b : Bool} (h : a = b) : Ending.returned (.bool a) = .returned (.bool b) := by rw [h]
theorem ret_boolI {a b : Bool} (h : a = true ↔ b = true) : Ending.returned (.bool a) = .returned (.bool b) := by rw [Bool.eq_iff_iff.2 h]
theorem ret_int {k : IntKind} {a b : Int} (h : a = b) : Ending.returned (.int k a) = .returned (.int k b) := by rw [h]
theorem retv {a b : Value} (h : a = b) : Ending.returned a = .returned b := by rw [h]
theorem below_box (w : World) (o : Obj) : Below w.heap.size w (w.alloc o) := (Below.refl _ _).alloc (Nat.le_refl _) o
theorem below_drewN {B : Nat} {a w : World} (h : Below B a w) (n : Nat) : Below B a (w.drewN n) := ⟨h.os, h.tape, h.output, h.size, h.block⟩
theorem blk_cells {w : World} {b : Nat} {t : TypeId} {cs : Array Value} (h : w.heap[b]? = some (.cells cs t (0, 0))) (i : Nat) : w.cell? ⟨b, i, none⟩ = cs[i]? := cell_of_row w b i cs t (0, 0) h
theorem blk_free {w : World} {b : Nat} {t : TypeId} {cs : Array Value} (h : w.heap[b]? = some (.cells cs t (0, 0))) (i : Nat) : w.frozen? ⟨b, i, none⟩ = false := by simp [World.frozen?, h]
theorem blk_next {w w' : World} {b : Nat} {o : Obj} (hb : Below w.heap.size w w') (h : w.heap[b]? = some o) : w'.heap[b]? = some o := by
  have hlt : b < w.heap.size := (Array.getElem?_eq_some_iff.1 h).1
  exact (hb.block b hlt).trans h
/-- A row of values that each fill one cell. -/
def CellsAt (w : World) (A : Option Addr) (vs : List Value) : Prop :=
  vs ≠ [] → ∃ b off, A = some ⟨b, off, none⟩ ∧ b < w.heap.size ∧ ∀ i v, vs[i]? = some v → w.cell? ⟨b, off + i, none⟩ = some v
theorem CellsAt.nil (w : World) (A : Option Addr) : CellsAt w A [] := fun h => absurd rfl h
theorem CellsAt.next {w w' : World} {A : Option Addr} {vs : List Value} (h : CellsAt w A vs) {B : Nat} (hb : Below B w w') (hB : w.heap.size ≤ B) : CellsAt w' A vs := fun hne => by
  obtain ⟨b, off, h1, h2, h3⟩ := h hne
  exact ⟨b, off, h1, Nat.lt_of_lt_of_le h2 hb.size, fun i v hi => (hb.cell (p := ⟨b, off + i, none⟩) (by show b < B; omega)).trans (h3 i v hi)⟩
theorem CellsAt.at_ {w wr : World} {A : Option Addr} {vs : List Value} (h : CellsAt w A vs) (hb : Below w.heap.size w wr) {k : Nat} {v : Value} (hv : vs[k]? = some v) :
    ∃ b off, A = some ⟨b, off, none⟩ ∧ b < w.heap.size ∧ wr.cell? ⟨b, off + k, none⟩ = some v := by
  obtain ⟨b, off, h1, h2, h3⟩ := h (by intro e; subst e; simp at hv)
  exact ⟨b, off, h1, h2, (hb.cell (p := ⟨b, off + k, none⟩) h2).trans (h3 k v hv)⟩
theorem cells_new (w : World) (C : Array Value) (vs : List Value) (t : TypeId) (h : C = vs.toArray) : CellsAt (w.alloc (.cells C t)) (some ⟨w.heap.size, 0, none⟩) vs := fun _ => by
  subst h
  refine ⟨w.heap.size, 0, rfl, by simp, fun i v hi => ?_⟩
  rw [Nat.zero_add, blk_cells (heap_alloc_new w _) i, List.getElem?_toArray, hi]
theorem CellsAt.drewN {w : World} {A : Option Addr} {vs : List Value} (h : CellsAt w A vs) (q : Nat) : CellsAt (w.drewN q) A vs := h.next (below_drewN (Below.refl _ _) q) (Nat.le_refl _)
/-- Nothing that stood has turned, but the blocks of S. -/
structure But (S : List Nat) (a w : World) : Prop where
  os : w.os = a.os
  tape : w.tape = a.tape
  output : w.output = a.output
  size : a.heap.size ≤ w.heap.size
  block : ∀ j, j < a.heap.size → j ∉ S → w.heap[j]? = a.heap[j]?
theorem But.refl (S : List Nat) (a : World) : But S a a := ⟨rfl, rfl, rfl, Nat.le_refl _, fun _ _ _ => rfl⟩
theorem But.trans {S : List Nat} {a b c : World} (h : But S a b) (k : But S b c) : But S a c :=
  ⟨k.os.trans h.os, k.tape.trans h.tape, k.output.trans h.output, Nat.le_trans h.size k.size, fun j hj hs => (k.block j (Nat.lt_of_lt_of_le hj h.size) hs).trans (h.block j hj hs)⟩
theorem But.of {S : List Nat} {a w : World} (h : Below a.heap.size a w) : But S a w := ⟨h.os, h.tape, h.output, h.size, fun j hj _ => h.block j hj⟩
theorem But.to {S : List Nat} {a w : World} (h : But S a w) {B : Nat} (hB : B ≤ a.heap.size) (hS : ∀ j ∈ S, B ≤ j) : Below B a w :=
  ⟨h.os, h.tape, h.output, h.size, fun j hj => h.block j (Nat.lt_of_lt_of_le hj hB) (fun hm => by have := hS j hm; omega)⟩
theorem But.mono {S T : List Nat} {a w : World} (h : But S a w) (hST : ∀ j ∈ S, j ∈ T) : But T a w := ⟨h.os, h.tape, h.output, h.size, fun j hj hs => h.block j hj (fun hm => hs (hST j hm))⟩
theorem But.blk {S : List Nat} {a w : World} (h : But S a w) {j : Nat} {o : Obj} (hj : a.heap[j]? = some o) (hs : j ∉ S) : w.heap[j]? = some o :=
  (h.block j (Array.getElem?_eq_some_iff.1 hj).1 hs).trans hj
/-- A store into a block. -/
theorem but_set {w : World} {b i : Nat} {cs : Array Value} {t : TypeId} {fz : Nat × Nat} (v : Value) (h : w.heap[b]? = some (.cells cs t fz)) :
    But [b] w (w.setCell ⟨b, i, none⟩ v) ∧ (w.setCell ⟨b, i, none⟩ v).heap[b]? = some (.cells (cs.setIfInBounds i v) t fz) := by
  rw [setCell_eq_setRow w b i cs t fz v h]
  refine ⟨⟨rfl, rfl, rfl, by simp, fun j hj hs => setRow_other w b j _ (by simpa using hs)⟩, setRow_heap w b cs _ t fz h⟩
/-- A row that a call grows of its own, in blocks from B on. -/
structure Own (e : TypeId) (size B : Nat) (v : Value) (n : Nat) (xs : List Value) (w : World) : Prop where
  own : w.ownsRow B e size v n xs
  le : B ≤ w.heap.size
section
variable {e : TypeId} {size B : Nat} {v : Value} {n : Nat} {xs : List Value} {w w' : World}
theorem Own.nil (e : TypeId) (size : Nat) (w : World) : Own e size w.heap.size (.slice none 0 0) 0 [] w := ⟨World.ownsRow_nil _ _ _ _, Nat.le_refl _⟩
theorem Own.lt (h : Own e size B v n xs w) : ∀ k, v.ownBlock = some k → B ≤ k ∧ k < w.heap.size := h.own.lt
theorem Own.but {S : List Nat} (h : Own e size B v n xs w) (hk : But S w w') (hS : ∀ j ∈ S, j < B) : Own e size B v n xs w' := by
  refine ⟨⟨h.own.1, ?_⟩, Nat.le_trans h.le hk.size⟩
  rcases h.own.2 with hn | ⟨g, cap, cur, rfl, hb, hg, rest⟩
  · exact .inl hn
  · exact .inr ⟨g, cap, cur, rfl, hb, hk.blk hg (fun hm => by have := hS g hm; omega), rest⟩
theorem Own.next (h : Own e size B v n xs w) (hb : Below w.heap.size w w') : Own e size B v n xs w' := h.but (But.of (S := []) hb) (by simp)
theorem Own.slice (h : Own e 1 B v n xs w) : ∃ A c, v = .slice A n c ∧ CellsAt w A xs := by
  rcases h.own.2 with ⟨rfl, rfl⟩ | ⟨g, cap, cur, rfl, hb, hg, rest⟩
  · have : xs = [] := List.eq_nil_of_length_eq_zero (by simpa using h.own.1)
    subst this
    exact ⟨_, _, rfl, CellsAt.nil _ _⟩
  · refine ⟨_, _, rfl, fun _ => ⟨g, 0, rfl, (Array.getElem?_eq_some_iff.1 hg).1, fun i u hi => ?_⟩⟩
    have hc := h.own.cells (g := g) rfl i u hi
    have hadd : (⟨g, 0, none⟩ : Addr).add i = ⟨g, i, none⟩ := by unfold Addr.add; split <;> simp_all
    rw [hadd] at hc
    rw [Nat.zero_add]; exact hc
end
theorem wpList_own_append {ops : Array Oper} {rest : List Oper} {o : Oper} {a : Act} {Q : Exit → Act → World → Prop} (hgd : o.guard = none) (s x : Operand) (t e : TypeId) (z : Value) (size bytes : Nat)
    (ho : o.op = .call { callee := .builtin .append, args := #[s, x], argTypes := #[t, t] }) (ht : Tryd.prog.underlying t = some (.slice e))
    (hi : (Tryd.prog.info? e).map (fun i => (i.zero, i.size, i.bytes)) = some (some z, size, bytes)) (hzs : z.cells.size = size) (hsz : 0 < size)
    {B : Nat} {v : Value} {n : Nat} {xs : List Value} {w : World} (hb : Own e size B v n xs w) (hs : a.eval s = v)
    (news : List Value) (m : Nat) {C : Array Value} (hC : C = news.toArray) (hm : news.length = m * size) (h1 : ∀ u ∈ news, u.oneCell' = true)
    (hx : a.eval x = .slice (some ⟨w.heap.size, 0, none⟩) m m) (h63 : n + m ≤ maxLen) (hbytes : (n + m) * bytes ≤ 140737488355328)
    (h : ∀ v' w', Own e size B v' (n + m) (xs ++ news) w' → Below B w w' → wpList Tryd.prog ops Q rest (a.put o.dst v') w') : wpList Tryd.prog ops Q (o :: rest) a (w.alloc (.cells C e)) := by
  subst hC
  cases hinf : Tryd.prog.info? e with
  | none => rw [hinf] at hi; cases hi
  | some i0 =>
    rw [hinf] at hi
    simp only [Option.map_some, Option.some.injEq, Prod.mk.injEq] at hi
    obtain ⟨hz0, hz1, hz2⟩ := hi
    have hle : B ≤ (w.alloc (.cells news.toArray e)).heap.size := by simp; have := hb.le; omega
    refine wpList_append_own _ hgd s x t ho B e i0 z size bytes ht hinf hz0 hz1 hz2 hzs hsz v n xs hs (hb.own.alloc _) ⟨w.heap.size, 0, none⟩ m m news hx hm ?_ h1 h63 hbytes hle ?_
    · intro j u hj
      have hadd : (⟨w.heap.size, 0, none⟩ : Addr).add j = ⟨w.heap.size, j, none⟩ := by unfold Addr.add; split <;> simp_all
      rw [hadd, blk_cells (heap_alloc_new w _) j, List.getElem?_toArray, hj]
    · intro v' w' h1' h2 _
      refine h v' w' ⟨h1', Nat.le_trans hle h2.size⟩ ?_
      exact ((Below.refl B w).alloc hb.le (.cells news.toArray e)).grown h2 hle (fun k hk => (hb.own.lt k hk).1)
theorem byteCells_one (l : List UInt8) : ∀ v ∈ Lib.byteCells l, v.oneCell' = true := by
  intro v hv
  simp only [Lib.byteCells, List.mem_map] at hv
  obtain ⟨b, _, rfl⟩ := hv; rfl
theorem byteCells_app (l m : List UInt8) : Lib.byteCells (l ++ m) = Lib.byteCells l ++ Lib.byteCells m := by unfold Lib.byteCells; rw [List.map_append]
theorem But.step {S : List Nat} {a w w' : World} (h : But S a w) (hb : Below a.heap.size w w') : But S a w' :=
  ⟨hb.os.trans h.os, hb.tape.trans h.tape, hb.output.trans h.output, Nat.le_trans h.size hb.size, fun j hj hs => (hb.block j hj).trans (h.block j hj hs)⟩
theorem wp_own_append {o : Oper} {a : Act} {K : Act → World → Prop} {Q : Exit → Act → World → Prop} (s x : Operand) (t e : TypeId) (z : Value) (size bytes : Nat)
    (ho : o.op = .call { callee := .builtin .append, args := #[s, x], argTypes := #[t, t] }) (ht : Tryd.prog.underlying t = some (.slice e))
    (hi : (Tryd.prog.info? e).map (fun i => (i.zero, i.size, i.bytes)) = some (some z, size, bytes)) (hzs : z.cells.size = size) (hsz : 0 < size)
    {B : Nat} {v : Value} {n : Nat} {xs : List Value} {w : World} (hb : Own e size B v n xs w) (hs : a.eval s = v)
    (news : List Value) (m : Nat) {C : Array Value} (hC : C = news.toArray) (hm : news.length = m * size) (h1 : ∀ u ∈ news, u.oneCell' = true)
    (hx : a.eval x = .slice (some ⟨w.heap.size, 0, none⟩) m m) (h63 : n + m ≤ maxLen) (hbytes : (n + m) * bytes ≤ 140737488355328)
    (h : ∀ v' w', Own e size B v' (n + m) (xs ++ news) w' → Below B w w' → w.grownBy w' v.ownBlock → K (a.put o.dst v') w') : o.wp Tryd.prog a (w.alloc (.cells C e)) K Q := by
  subst hC
  cases hinf : Tryd.prog.info? e with
  | none => rw [hinf] at hi; cases hi
  | some i0 =>
    rw [hinf] at hi
    simp only [Option.map_some, Option.some.injEq, Prod.mk.injEq] at hi
    obtain ⟨hz0, hz1, hz2⟩ := hi
    have hle : B ≤ (w.alloc (.cells news.toArray e)).heap.size := by simp; have := hb.le; omega
    refine wp_append_own _ s x t ho B e i0 z size bytes ht hinf hz0 hz1 hz2 hzs hsz v n xs hs (hb.own.alloc _) ⟨w.heap.size, 0, none⟩ m m news hx hm ?_ h1 h63 hbytes hle ?_
    · intro j u hj
      have hadd : (⟨w.heap.size, 0, none⟩ : Addr).add j = ⟨w.heap.size, j, none⟩ := by unfold Addr.add; split <;> simp_all
      rw [hadd, blk_cells (heap_alloc_new w _) j, List.getElem?_toArray, hj]
    · intro v' w' h1' h2 _
      refine h v' w' ⟨h1', Nat.le_trans hle h2.size⟩ ?_ ?_
      · exact ((Below.refl B w).alloc hb.le (.cells news.toArray e)).grown h2 hle (fun k hk => (hb.own.lt k hk).1)
      · refine ⟨h2.os, h2.tape, h2.output, Nat.le_trans (by simp) h2.size, fun k hk hne => ?_⟩
        exact (h2.block k (by simp; omega) hne).trans (heap_alloc_old w _ hk)
theorem own_shape {e : TypeId} {size B : Nat} {v : Value} {n : Nat} {xs : List Value} {w : World} (h : Own e size B v n xs w) : ∃ A c, v = .slice A n c := by
  rcases h.own.2 with ⟨rfl, rfl⟩ | ⟨g, cap, cur, rfl, _⟩
  · exact ⟨_, _, rfl⟩
  · exact ⟨_, _, rfl⟩
theorem But.grown {w w' : World} {row : Option Nat} (h : w.grownBy w' row) : But row.toList w w' :=
  ⟨h.os, h.tape, h.output, h.size, fun j hj hs => h.block j hj (fun e => hs (by rw [← e]; simp))⟩
theorem below_grow (w : World) (k : Nat) (os : Array Obj) : Below w.heap.size w (Go.Sort.grow (w.drewN k) os) := by
  refine ⟨rfl, rfl, rfl, by simp [Go.Sort.grow, World.drewN], fun j hj => ?_⟩
  show (w.heap ++ os)[j]? = w.heap[j]?
  rw [Array.getElem?_append_left hj]
/-- What the package-level variables hold that the walks come to. -/
structure Env (w : World) : Prop where
  tab : Lib.TabIs Tryd.prog w "internal/strconv.uint64pow10" .u64 Lib.pow10Tab
  big : 4 ≤ w.heap.size
theorem tab_named : Tryd.prog.globalNamed "internal/strconv.uint64pow10" = some 0 := by kernel_rfl
theorem Env.below {B : Nat} {w w' : World} (h : Env w) (hb : Below B w w') (hB : 4 ≤ B) : Env w' := by
  obtain ⟨ht, hbig⟩ := h
  have hv : Lib.TabIs Tryd.prog w' "internal/strconv.uint64pow10" .u64 Lib.pow10Tab := by
    unfold Lib.TabIs World.var? at ht ⊢
    rw [tab_named] at ht ⊢
    simp only [Option.bind_some] at ht ⊢
    rw [hb.block 0 (by omega)]
    exact ht
  exact ⟨hv, Nat.le_trans hbig hb.size⟩
theorem Env.next {w w' : World} (h : Env w) (hb : Below w.heap.size w w') : Env w' := h.below hb h.big
theorem info5 : (Tryd.prog.info? 5).map (fun i => (i.zero, i.size, i.bytes)) = some (some (.int .u8 0), 1, 1) := by kernel_rfl
theorem But.drew {S : List Nat} {a w : World} (h : But S a w) : But S a w.drew := ⟨h.os, h.tape, h.output, h.size, h.block⟩
theorem But.drewN {S : List Nat} {a w : World} (h : But S a w) (n : Nat) : But S a (w.drewN n) := h.trans (But.of (below_drewN (Below.refl _ _) n))
end Go.Proofs.YtimioelnnhnbiaaDoor
