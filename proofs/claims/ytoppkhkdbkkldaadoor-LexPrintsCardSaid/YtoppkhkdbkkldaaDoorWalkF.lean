/-
  THE WALKS, sixth part: Lex of package lex: its parts (the memory, the step behind a line, the token told, the pass).
-/
import Derived.Test.YtoppkhkdbkkldaaDoorWalkE
import Derived.ScopeJumps
import Derived.Deep.CutBlock
import Derived.Deep.CutRange
namespace Go.Proofs.YtoppkhkdbkkldaaDoor
open Go.RowKit

/-! ### Lex: the parts of its body -/
def unscope : Code → Code
  | .scope c => c
  | c => c
def sndOf : Code → Code
  | .seq _ y => y
  | c => c
noncomputable def lexIn : Code := unscope (sndOf (Tryd.f12.body.getD .skip))
noncomputable def restAt (l : Nat) : Code := (findLabel lexIn l).getD .skip
theorem find0 : findLabel lexIn 0 = some (restAt 0) := by kernel_rfl
theorem find1 : findLabel lexIn 1 = some (restAt 1) := by kernel_rfl
theorem arr_of (t : Array Value) (n : Nat) (h : t.size = n) : t = ((List.range n).map (fun i => t.getD i undef)).toArray := by
  subst h
  apply Array.ext
  · simp
  · intro i h1 h2
    simp [Array.getD, h1]
abbrev lexFrame (s : ByteArray) (bS bT : Nat) (v : Value) (a : Nat) (f : Nat → Value) : Act := ⟨#[.string s, f 1, f 2, .pointer (some ⟨bS, 0, none⟩), v, .int .i64 (a : Nat), .int .i64 0, .pointer (some ⟨bT, 0, none⟩), f 8, f 9, f 10, f 11, f 12, f 13, f 14, f 15, f 16, f 17, f 18, f 19, f 20, f 21, f 22, f 23, f 24, f 25, f 26, f 27, f 28, f 29, f 30, f 31, f 32, f 33, f 34, f 35, f 36, f 37, f 38, f 39, f 40, f 41, f 42, f 43, f 44, f 45, f 46, f 47, f 48, f 49, f 50, f 51, f 52, f 53, f 54, f 55, f 56, f 57, f 58, f 59, f 60, f 61, f 62, f 63, f 64, f 65, f 66, f 67, f 68, f 69, f 70, f 71, f 72, f 73, f 74, f 75, f 76, f 77, f 78, f 79, f 80, f 81, f 82, f 83, f 84, f 85, f 86, f 87, f 88, f 89, f 90, f 91, f 92, f 93, f 94, f 95, f 96, f 97], []⟩
structure IsFrame (s : ByteArray) (bS bT : Nat) (v : Value) (a : Nat) (t : Array Value) : Prop where
  size : t.size = 98
  t0 : t.getD 0 undef = .string s
  t3 : t.getD 3 undef = .pointer (some ⟨bS, 0, none⟩)
  t4 : t.getD 4 undef = v
  t5 : t.getD 5 undef = .int .i64 (a : Nat)
  t6 : t.getD 6 undef = .int .i64 0
  t7 : t.getD 7 undef = .pointer (some ⟨bT, 0, none⟩)
theorem IsFrame.eq {s : ByteArray} {bS bT : Nat} {v : Value} {a : Nat} {t : Array Value} (h : IsFrame s bS bT v a t) : (⟨t, []⟩ : Act) = lexFrame s bS bT v a (fun i => t.getD i undef) := by
  obtain ⟨h0, h1, h2, h3, h4, h5, h6⟩ := h
  have e := arr_of t 98 h0
  rw [e]
  show (⟨((List.range 98).map (fun i => t.getD i undef)).toArray, []⟩ : Act) = _
  rw [← e]
  unfold lexFrame
  rw [← h1, ← h2, ← h3, ← h4, ← h5, ← h6]
  conv => lhs; rw [e]
  rfl

theorem blk_cells {w : World} {b : Nat} {t : TypeId} {cs : Array Value} (h : w.heap[b]? = some (.cells cs t (0, 0))) (i : Nat) : w.cell? ⟨b, i, none⟩ = cs[i]? := cell_of_row w b i cs t (0, 0) h
theorem blk_free {w : World} {b : Nat} {t : TypeId} {cs : Array Value} (h : w.heap[b]? = some (.cells cs t (0, 0))) (i : Nat) : w.frozen? ⟨b, i, none⟩ = false := by simp [World.frozen?, h]

set_option maxRecDepth 100000 in
set_option maxHeartbeats 2000000 in
theorem lex_step (s : ByteArray) (hs : s.size ≤ 4096) (bS bT : Nat) (v : Value) (a : Nat) (f : Nat → Value) (w : World) (Q : Exit → Act → World → Prop) (ha : a ≤ s.size)
    (hS : w.heap[bS]? = some (.cells #[.int .i64 0, .int .i64 0] 27 (0, 0)))
    (hgo : a < s.size → ∀ t, IsFrame s bS bT v (a + 1) t → Q (.goto 0) ⟨t, []⟩ w)
    (hret : a = s.size → ∀ tmps w', tmps.getD 2 undef = v → tmps.getD 3 undef = .pointer (some ⟨bS, 0, none⟩) → w' = (w.setCell ⟨bS, 0, none⟩ (.int .i64 0)).setCell ⟨bS, 1, none⟩ (.int .i64 0) → Q .ret ⟨tmps, []⟩ w') :
    (restAt 1).wp Tryd.prog Q (lexFrame s bS bT v a f) w := by
  have c0 := blk_cells hS 0
  have c1 := blk_cells hS 1
  have f0 := blk_free hS 0
  have f1 := blk_free hS 1
  simp at c0 c1
  change Code.wp Tryd.prog (Code.seq _ _) _ _ _
  by_cases hlt : a < s.size
  · go_wp2_with fail
    apply wp_goto
    simp only [Exit.then]
    exact hgo hlt _ ⟨rfl, rfl, rfl, rfl, by go_num, rfl, rfl⟩
  · go_wp2_with fail
    exact hret (by omega) _ _ rfl rfl rfl
/-! ### A row of tokens that the call owns; the memory of Lex -/
def toksCells (l : List Lx.Tok) : List Value := l.flatMap fun t => [.int .i64 t.kind, .string ⟨t.text.toArray⟩, .int .i64 t.place]
theorem toksCells_nil : toksCells [] = [] := rfl
theorem toksCells_cons (t : Lx.Tok) (l : List Lx.Tok) : toksCells (t :: l) = .int .i64 t.kind :: .string ⟨t.text.toArray⟩ :: .int .i64 t.place :: toksCells l := rfl
theorem toksCells_length (l : List Lx.Tok) : (toksCells l).length = l.length * 3 := by
  induction l with
  | nil => rfl
  | cons t l ih => rw [toksCells_cons]; simp only [List.length_cons, ih]; omega
theorem toksCells_snoc (l : List Lx.Tok) (t : Lx.Tok) : toksCells (l ++ [t]) = toksCells l ++ [.int .i64 t.kind, .string ⟨t.text.toArray⟩, .int .i64 t.place] := by
  unfold toksCells; rw [List.flatMap_append]; rfl
theorem toksCells_get (l : List Lx.Tok) : ∀ (i : Nat) (t : Lx.Tok), l[i]? = some t → (toksCells l)[i * 3]? = some (.int .i64 t.kind) ∧ (toksCells l)[i * 3 + 1]? = some (.string ⟨t.text.toArray⟩) ∧ (toksCells l)[i * 3 + 2]? = some (.int .i64 t.place) := by
  induction l with
  | nil => intro i t h; simp at h
  | cons a l ih =>
    intro i t h
    cases i with
    | zero =>
      rw [List.getElem?_cons_zero, Option.some_inj] at h
      subst h
      exact ⟨rfl, rfl, rfl⟩
    | succ i =>
      rw [List.getElem?_cons_succ] at h
      obtain ⟨h1, h2, h3⟩ := ih i t h
      rw [toksCells_cons, show (i + 1) * 3 = i * 3 + 1 + 1 + 1 by omega]
      refine ⟨?_, ?_, ?_⟩
      · simpa using h1
      · rw [show i * 3 + 1 + 1 + 1 + 1 = (i * 3 + 1) + 1 + 1 + 1 by omega]; simpa using h2
      · rw [show i * 3 + 1 + 1 + 1 + 2 = (i * 3 + 2) + 1 + 1 + 1 by omega]; simpa using h3
theorem own_toks {w : World} {base : Nat} {v : Value} {l : List Lx.Tok} (h : w.ownsRow base 32 3 v l.length (toksCells l)) : ∃ A cap, v = .slice A l.length cap ∧ HasToks w A l := by
  rcases h.2 with ⟨rfl, hn⟩ | ⟨g, cap, cur, rfl, _, hg, _⟩
  · exact ⟨none, 0, by rw [hn], fun hne => absurd (List.eq_nil_of_length_eq_zero hn) hne⟩
  · refine ⟨some ⟨g, 0, none⟩, cap, rfl, fun _ => ⟨g, rfl, (Array.getElem?_eq_some_iff.1 hg).1, fun i t hi => ?_⟩⟩
    obtain ⟨h1, h2, h3⟩ := toksCells_get l i t hi
    have hlt : i < l.length := (List.getElem?_eq_some_iff.1 hi).1
    exact ⟨(h.cellAt _ (by omega)).trans h1, (h.cellAt _ (by omega)).trans h2, (h.cellAt _ (by omega)).trans h3⟩
theorem own_below {w w' : World} {base : Nat} {e : TypeId} {size n : Nat} {v : Value} {xs : List Value} (h : w.ownsRow base e size v n xs) (hb : Below w.heap.size w w') : w'.ownsRow base e size v n xs :=
  h.kept (row := none) ⟨hb.os, hb.tape, hb.output, hb.size, fun k hk _ => hb.block k hk⟩ (by cases hv : v.ownBlock <;> simp)
theorem own_base {w : World} {base base' : Nat} {e : TypeId} {size n : Nat} {v : Value} {xs : List Value} (h : w.ownsRow base e size v n xs) (hb : base' ≤ base) : w.ownsRow base' e size v n xs := by
  refine ⟨h.1, ?_⟩
  rcases h.2 with h' | ⟨g, cap, cur, h1, h2, r⟩
  · exact .inl h'
  · exact .inr ⟨g, cap, cur, h1, Nat.le_trans hb h2, r⟩

structure LexW (w0 w : World) (v : Value) (acc : List Lx.Tok) : Prop where
  own : w.ownsRow (w0.heap.size + 2) 32 3 v acc.length (toksCells acc)
  nil : acc = [] → v = .slice none 0 0
  spot : w.heap[w0.heap.size]? = some (.cells #[.int .i64 0, .int .i64 0] 27 (0, 0))
  tok : ∃ x y z, w.heap[w0.heap.size + 1]? = some (.cells #[x, y, z] 32 (0, 0))
  below : Below w0.heap.size w0 w
  big : w0.heap.size + 2 ≤ w.heap.size
theorem LexW.env {w0 w : World} {v : Value} {acc : List Lx.Tok} (h : LexW w0 w v acc) (he : Env w0) : Env w := he.next h.below
theorem LexW.next {w0 w w' : World} {v : Value} {acc : List Lx.Tok} (h : LexW w0 w v acc) (hb : Below w.heap.size w w') : LexW w0 w' v acc := by
  obtain ⟨h1, h2, h3, ⟨x, y, z, h4⟩, h5, h6⟩ := h
  exact ⟨own_below h1 hb, h2, (hb.block _ (by omega)).trans h3, ⟨x, y, z, (hb.block _ (by omega)).trans h4⟩, h5.trans (hb.mono (by omega)), Nat.le_trans h6 hb.size⟩
theorem heap_set (w : World) (b i : Nat) (u : Value) {cs : Array Value} {t : TypeId} (h : w.heap[b]? = some (.cells cs t (0, 0))) : (w.setCell ⟨b, i, none⟩ u).heap[b]? = some (.cells (cs.setIfInBounds i u) t (0, 0)) := by
  simp [World.setCell, Array.getElem?_modify, h]
theorem LexW.setTok {w0 w : World} {v : Value} {acc : List Lx.Tok} (h : LexW w0 w v acc) (i : Nat) (u : Value) : LexW w0 (w.setCell ⟨w0.heap.size + 1, i, none⟩ u) v acc := by
  obtain ⟨h1, h2, h3, ⟨x, y, z, h4⟩, h5, h6⟩ := h
  refine ⟨ownsRow_setCell_below h1 (by show w0.heap.size + 1 < _; omega) u, h2, (Below.heap_setCell _ _ _ _ (by show w0.heap.size ≠ w0.heap.size + 1; omega)).trans h3, ?_, h5.setCell (by show _ ≤ w0.heap.size + 1; omega) u, by simpa [World.setCell] using h6⟩
  have hs := heap_set w (w0.heap.size + 1) i u h4
  match i, hs with
  | 0, hs => exact ⟨u, y, z, hs⟩
  | 1, hs => exact ⟨x, u, z, hs⟩
  | 2, hs => exact ⟨x, y, u, hs⟩
  | (k + 3), hs => exact ⟨x, y, z, by rw [hs]; simp⟩
/-- Behind the append of a token. -/
theorem LexW.grown {w0 w w' : World} {v v' : Value} {acc : List Lx.Tok} {o : Obj} {t : Lx.Tok} (h : LexW w0 w v acc) (hown : w'.ownsRow (w0.heap.size + 2) 32 3 v' (acc ++ [t]).length (toksCells (acc ++ [t]))) (hg : (w.alloc o).grownBy w' v.ownBlock) : LexW w0 w' v' (acc ++ [t]) := by
  obtain ⟨h1, h2, h3, ⟨x, y, z, h4⟩, h5, h6⟩ := h
  have hv : ∀ k, v.ownBlock = some k → w0.heap.size + 2 ≤ k := fun k hk => (h1.lt k hk).1
  have hk : ∀ k, k < w0.heap.size + 2 → w'.heap[k]? = w.heap[k]? := fun k hk => by
    rw [hg.block k (by simp; omega) (fun e => by have := hv k e.symm; omega)]
    exact Below.heap_alloc _ _ _ (by omega)
  have hsz : w.heap.size + 1 ≤ w'.heap.size := by have := hg.size; simpa using this
  exact ⟨hown, fun e => by simp at e, (hk _ (by omega)).trans h3, ⟨x, y, z, (hk _ (by omega)).trans h4⟩,
    ((h5.alloc (by omega) o).grown hg (by simp; omega) (fun k e => by have := hv k e; omega)), by omega⟩

theorem tok_info : (Tryd.prog.info? 32).map (fun i => (i.zero, i.size, i.bytes)) = some (some (.agg #[.int .i64 0, .string ⟨#[]⟩, .int .i64 0]), 3, 32) := by kernel_rfl
noncomputable def lexM : Code := sndOf (sndOf (sndOf (sndOf (restAt 0))))
theorem lastClosing_snoc (l : List Lx.Tok) (t : Lx.Tok) : Lx.lastClosing (l ++ [t]) = Lx.isClosing t := by
  unfold Lx.lastClosing; rw [List.getLast?_append]; rfl
theorem getElem_snoc (l : List Lx.Tok) (t : Lx.Tok) : (l ++ [t])[l.length]? = some t := by simp

structure RetOk (w0 : World) (x : List Lx.Tok × Int × Nat) (tmps : Array Value) (w' : World) : Prop where
  t3 : tmps.getD 3 undef = .pointer (some ⟨w0.heap.size, 0, none⟩)
  c0 : w'.cell? ⟨w0.heap.size, 0, none⟩ = some (.int .i64 x.2.1)
  c1 : w'.cell? ⟨w0.heap.size, 1, none⟩ = some (.int .i64 x.2.2)
  own : w'.ownsRow (w0.heap.size + 2) 32 3 (tmps.getD 2 undef) x.1.length (toksCells x.1)
  nil : x.1 = [] → tmps.getD 2 undef = .slice none 0 0
  below : Below w0.heap.size w0 w'
theorem spot_set {w : World} {b : Nat} {x y u v : Value} (h : w.heap[b]? = some (.cells #[x, y] 27 (0, 0))) : ((w.setCell ⟨b, 0, none⟩ u).setCell ⟨b, 1, none⟩ v).heap[b]? = some (.cells #[u, v] 27 (0, 0)) := by
  rw [heap_set _ b 1 v (heap_set w b 0 u h)]; rfl
theorem LexW.ret_err {w0 w : World} {v : Value} {acc : List Lx.Tok} (h : LexW w0 w v acc) (e : Int) (a : Nat) (tmps : Array Value) (h2 : tmps.getD 2 undef = .slice none 0 0) (h3 : tmps.getD 3 undef = .pointer (some ⟨w0.heap.size, 0, none⟩)) :
    RetOk w0 ([], e, a) tmps ((w.setCell ⟨w0.heap.size, 0, none⟩ (.int .i64 e)).setCell ⟨w0.heap.size, 1, none⟩ (.int .i64 (a : Nat))) := by
  have hs := spot_set (u := .int .i64 e) (v := .int .i64 (a : Nat)) h.spot
  refine ⟨h3, (blk_cells hs 0).trans rfl, (blk_cells hs 1).trans rfl, ?_, fun _ => h2, (h.below.setCell (Nat.le_refl _) _).setCell (Nat.le_refl _) _⟩
  rw [h2]; exact World.ownsRow_nil _ _ _ _
theorem LexW.ret_ok {w0 w : World} {v : Value} {acc : List Lx.Tok} (h : LexW w0 w v acc) (tmps : Array Value) (h2 : tmps.getD 2 undef = v) (h3 : tmps.getD 3 undef = .pointer (some ⟨w0.heap.size, 0, none⟩)) :
    RetOk w0 (acc, 0, 0) tmps ((w.setCell ⟨w0.heap.size, 0, none⟩ (.int .i64 0)).setCell ⟨w0.heap.size, 1, none⟩ (.int .i64 0)) := by
  have hs := spot_set (u := .int .i64 0) (v := .int .i64 0) h.spot
  refine ⟨h3, (blk_cells hs 0).trans rfl, (blk_cells hs 1).trans rfl, ?_, fun e => h2.trans (h.nil e), (h.below.setCell (Nat.le_refl _) _).setCell (Nat.le_refl _) _⟩
  rw [h2]
  exact ownsRow_setCell_below (ownsRow_setCell_below h.own (by show w0.heap.size < _; omega) _) (by show w0.heap.size < _; omega) _

theorem three_new (w : World) (x y z : Value) (t : TypeId) : ∀ (j : Nat) (u : Value), [x, y, z][j]? = some u → (w.alloc (.cells #[x, y, z] t)).cell? ((⟨w.heap.size, 0, none⟩ : Addr).add j) = some u := by
  intro j u hj
  have hadd : (⟨w.heap.size, 0, none⟩ : Addr).add j = ⟨w.heap.size, j, none⟩ := by unfold Addr.add; split <;> simp_all
  rw [hadd, blk_cells (heap_alloc_new w _) j, ← hj]
  simp
theorem three_one (k a : Int) (s : ByteArray) : ∀ u ∈ [Value.int .i64 k, .string s, .int .i64 a], u.oneCell' = true := by
  intro u hu
  simp at hu
  rcases hu with rfl | rfl | rfl <;> rfl

set_option maxRecDepth 100000 in
set_option maxHeartbeats 2000000 in
theorem mid_open_nil (s : ByteArray) (v : Value) (a : Nat) (f : Nat → Value) (w0 w : World) (hW : LexW w0 w v []) (Q : Exit → Act → World → Prop)
    (hgo : ∀ t w', IsFrame s w0.heap.size (w0.heap.size + 1) v a t → LexW w0 w' v [] → Q (.goto 1) ⟨t, []⟩ w') :
    lexM.wp Tryd.prog Q ⟨#[.string s, f 1, f 2, .pointer (some ⟨w0.heap.size, 0, none⟩), v, .int .i64 (a : Nat), .int .i64 0, .pointer (some ⟨w0.heap.size + 1, 0, none⟩), .bool true, f 9, f 10, f 11, f 12, f 13, f 14, f 15, f 16, f 17, f 18, f 19, f 20, f 21, f 22, f 23, f 24, f 25, f 26, f 27, f 28, f 29, f 30, f 31, f 32, f 33, f 34, f 35, f 36, f 37, f 38, f 39, f 40, f 41, f 42, f 43, f 44, f 45, f 46, f 47, f 48, f 49, f 50, f 51, f 52, f 53, f 54, f 55, f 56, f 57, f 58, f 59, f 60, f 61, f 62, f 63, f 64, f 65, f 66, f 67, f 68, f 69, f 70, f 71, f 72, f 73, f 74, f 75, f 76, f 77, f 78, f 79, f 80, f 81, f 82, f 83, f 84, f 85, f 86, f 87, f 88, f 89, f 90, f 91, f 92, f 93, f 94, f 95, f 96, f 97], []⟩ w := by
  obtain rfl := hW.nil rfl
  change Code.wp Tryd.prog (Code.seq _ _) _ _ _
  go_wp2_with fail
  apply wp_goto
  simp only [Exit.then, Exit.inBlock]
  exact hgo _ _ ⟨rfl, rfl, rfl, rfl, rfl, rfl, rfl⟩ hW

set_option maxRecDepth 100000 in
set_option maxHeartbeats 2000000 in
theorem mid_open (s : ByteArray) (v : Value) (a : Nat) (f : Nat → Value) (w0 w : World) (pre : List Lx.Tok) (t : Lx.Tok) (hn : pre.length < 1024) (hW : LexW w0 w v (pre ++ [t])) (henv : Env w0) (hc : Lx.isClosing t = false) (Q : Exit → Act → World → Prop)
    (hgo : ∀ t' w', IsFrame s w0.heap.size (w0.heap.size + 1) v a t' → LexW w0 w' v (pre ++ [t]) → Q (.goto 1) ⟨t', []⟩ w') :
    lexM.wp Tryd.prog Q ⟨#[.string s, f 1, f 2, .pointer (some ⟨w0.heap.size, 0, none⟩), v, .int .i64 (a : Nat), .int .i64 0, .pointer (some ⟨w0.heap.size + 1, 0, none⟩), .bool true, f 9, f 10, f 11, f 12, f 13, f 14, f 15, f 16, f 17, f 18, f 19, f 20, f 21, f 22, f 23, f 24, f 25, f 26, f 27, f 28, f 29, f 30, f 31, f 32, f 33, f 34, f 35, f 36, f 37, f 38, f 39, f 40, f 41, f 42, f 43, f 44, f 45, f 46, f 47, f 48, f 49, f 50, f 51, f 52, f 53, f 54, f 55, f 56, f 57, f 58, f 59, f 60, f 61, f 62, f 63, f 64, f 65, f 66, f 67, f 68, f 69, f 70, f 71, f 72, f 73, f 74, f 75, f 76, f 77, f 78, f 79, f 80, f 81, f 82, f 83, f 84, f 85, f 86, f 87, f 88, f 89, f 90, f 91, f 92, f 93, f 94, f 95, f 96, f 97], []⟩ w := by
  obtain ⟨A, cap, rfl, hh⟩ := own_toks hW.own
  obtain ⟨g, rfl, hg, c0, c1, c2⟩ := hh.at_ (Below.refl _ _) (getElem_snoc pre t)
  have HC := Lib.hid hc
  clear hc hh
  rw [show (pre ++ [t]).length = pre.length + 1 by simp] at hgo ⊢
  change Code.wp Tryd.prog (Code.seq _ _) _ _ _
  go_wp2_with fail
  refine (closing_tok t _ (hW.env henv)).mono ?_
  rintro e w1 ⟨rfl, hb⟩
  rw [HC.out]
  have hW1 := hW.next hb
  rw [show (pre ++ [t]).length = pre.length + 1 by simp] at hW1
  go_wp2_with fail
  apply wp_goto
  simp only [Exit.then, Exit.inBlock]
  exact hgo _ _ ⟨rfl, rfl, rfl, rfl, rfl, rfl, rfl⟩ hW1

set_option maxRecDepth 100000 in
set_option maxHeartbeats 2000000 in
theorem mid_full (s : ByteArray) (v : Value) (a : Nat) (f : Nat → Value) (w0 w : World) (pre : List Lx.Tok) (t : Lx.Tok) (hn : pre.length = 1023) (hW : LexW w0 w v (pre ++ [t])) (henv : Env w0) (hc : Lx.isClosing t = true) (Q : Exit → Act → World → Prop)
    (hret : ∀ t' w', RetOk w0 ([], 3, a) t' w' → Q .ret ⟨t', []⟩ w') :
    lexM.wp Tryd.prog Q ⟨#[.string s, f 1, f 2, .pointer (some ⟨w0.heap.size, 0, none⟩), v, .int .i64 (a : Nat), .int .i64 0, .pointer (some ⟨w0.heap.size + 1, 0, none⟩), .bool true, f 9, f 10, f 11, f 12, f 13, f 14, f 15, f 16, f 17, f 18, f 19, f 20, f 21, f 22, f 23, f 24, f 25, f 26, f 27, f 28, f 29, f 30, f 31, f 32, f 33, f 34, f 35, f 36, f 37, f 38, f 39, f 40, f 41, f 42, f 43, f 44, f 45, f 46, f 47, f 48, f 49, f 50, f 51, f 52, f 53, f 54, f 55, f 56, f 57, f 58, f 59, f 60, f 61, f 62, f 63, f 64, f 65, f 66, f 67, f 68, f 69, f 70, f 71, f 72, f 73, f 74, f 75, f 76, f 77, f 78, f 79, f 80, f 81, f 82, f 83, f 84, f 85, f 86, f 87, f 88, f 89, f 90, f 91, f 92, f 93, f 94, f 95, f 96, f 97], []⟩ w := by
  obtain ⟨A, cap, rfl, hh⟩ := own_toks hW.own
  obtain ⟨g, rfl, hg, c0, c1, c2⟩ := hh.at_ (Below.refl _ _) (getElem_snoc pre t)
  have HC := Lib.hid hc
  clear hc hh
  rw [show (pre ++ [t]).length = 1024 by simp [hn]] at hW ⊢
  rw [hn] at c0 c1 c2
  clear hn
  change Code.wp Tryd.prog (Code.seq _ _) _ _ _
  go_wp2_with fail
  refine (closing_tok t _ (hW.env henv)).mono ?_
  rintro e w1 ⟨rfl, hb⟩
  rw [HC.out]
  have hW1 := hW.next hb
  obtain ⟨x, y, z, hT⟩ := hW1.tok
  have d0 := (blk_cells hT 0).trans rfl
  have d1 := (blk_cells hT 1).trans rfl
  have d2 := (blk_cells hT 2).trans rfl
  have e0 := blk_free hT 0
  have e1 := blk_free hT 1
  have e2 := blk_free hT 2
  have s0 := (blk_cells hW1.spot 0).trans rfl
  have s1 := (blk_cells hW1.spot 1).trans rfl
  have g0 := blk_free hW1.spot 0
  have g1 := blk_free hW1.spot 1
  clear hT
  go_wp2_with fail
  exact (((hW1.setTok 0 _).setTok 1 _).setTok 2 _).ret_err 3 a _ rfl rfl

set_option maxRecDepth 100000 in
set_option maxHeartbeats 4000000 in
theorem mid_told (s : ByteArray) (hs : s.size ≤ 4096) (v : Value) (a : Nat) (ha : a ≤ s.size) (f : Nat → Value) (w0 w : World) (pre : List Lx.Tok) (t : Lx.Tok) (hn : pre.length < 1023) (hW : LexW w0 w v (pre ++ [t])) (henv : Env w0) (hc : Lx.isClosing t = true) (Q : Exit → Act → World → Prop)
    (hgo : a < s.size → ∀ t' v' w', IsFrame s w0.heap.size (w0.heap.size + 1) v' (a + 1) t' → LexW w0 w' v' ((pre ++ [t]) ++ [⟨5, [], (a : Nat)⟩]) → Q (.goto 0) ⟨t', []⟩ w')
    (hret : a = s.size → ∀ t' w', RetOk w0 ((pre ++ [t]) ++ [⟨5, [], (a : Nat)⟩], 0, 0) t' w' → Q .ret ⟨t', []⟩ w') :
    lexM.wp Tryd.prog Q ⟨#[.string s, f 1, f 2, .pointer (some ⟨w0.heap.size, 0, none⟩), v, .int .i64 (a : Nat), .int .i64 0, .pointer (some ⟨w0.heap.size + 1, 0, none⟩), .bool true, f 9, f 10, f 11, f 12, f 13, f 14, f 15, f 16, f 17, f 18, f 19, f 20, f 21, f 22, f 23, f 24, f 25, f 26, f 27, f 28, f 29, f 30, f 31, f 32, f 33, f 34, f 35, f 36, f 37, f 38, f 39, f 40, f 41, f 42, f 43, f 44, f 45, f 46, f 47, f 48, f 49, f 50, f 51, f 52, f 53, f 54, f 55, f 56, f 57, f 58, f 59, f 60, f 61, f 62, f 63, f 64, f 65, f 66, f 67, f 68, f 69, f 70, f 71, f 72, f 73, f 74, f 75, f 76, f 77, f 78, f 79, f 80, f 81, f 82, f 83, f 84, f 85, f 86, f 87, f 88, f 89, f 90, f 91, f 92, f 93, f 94, f 95, f 96, f 97], []⟩ w := by
  obtain ⟨A, cap, rfl, hh⟩ := own_toks hW.own
  obtain ⟨g, rfl, hg, c0, c1, c2⟩ := hh.at_ (Below.refl _ _) (getElem_snoc pre t)
  have HC := Lib.hid hc
  have HGO := Lib.hid hgo
  have HRET := Lib.hid hret
  clear hc hh hgo hret
  rw [show (pre ++ [t]).length = pre.length + 1 by simp]
  change Code.wp Tryd.prog (Code.seq _ _) _ _ _
  go_wp2_with fail
  refine (closing_tok t _ (hW.env henv)).mono ?_
  rintro e w1 ⟨rfl, hb⟩
  rw [HC.out]
  have hW1 := hW.next hb
  obtain ⟨x, y, z, hT⟩ := hW1.tok
  have d0 := (blk_cells hT 0).trans rfl
  have d1 := (blk_cells hT 1).trans rfl
  have d2 := (blk_cells hT 2).trans rfl
  have e0 := blk_free hT 0
  have e1 := blk_free hT 1
  have e2 := blk_free hT 2
  have s0 := (blk_cells hW1.spot 0).trans rfl
  have s1 := (blk_cells hW1.spot 1).trans rfl
  have g0 := blk_free hW1.spot 0
  have g1 := blk_free hW1.spot 1
  have hW2 := ((((hW1.setTok 0 (.int .i64 5)).setTok 1 (.string ⟨#[]⟩)).setTok 2 (.int .i64 0)).setTok 2 (.int .i64 (a : Nat)))
  have hT4 := heap_set _ _ 2 (.int .i64 (a : Nat)) (heap_set _ _ 2 (.int .i64 0) (heap_set _ _ 1 (.string ⟨#[]⟩) (heap_set _ _ 0 (.int .i64 5) hT)))
  clear hT
  obtain ⟨i0, hi, hz0, hz1, hz2⟩ := info_parts tok_info
  rw [show (pre ++ [t]).length = pre.length + 1 by simp] at hW2
  go_upto_region 19 with (fail)
  generalize ((((w1.setCell ⟨w0.heap.size + 1, 0, none⟩ (.int .i64 5)).setCell ⟨w0.heap.size + 1, 1, none⟩ (.string ⟨#[]⟩)).setCell ⟨w0.heap.size + 1, 2, none⟩ (.int .i64 0)).setCell ⟨w0.heap.size + 1, 2, none⟩ (.int .i64 (a : Nat))) = w4 at hW2 hT4 ⊢
  clear d0 d1 d2 e0 e1 e2 s0 s1 g0 g1 hW1 hb c0 c1 c2
  have d0 := (blk_cells hT4 0).trans rfl
  have d1 := (blk_cells hT4 1).trans rfl
  have d2 := (blk_cells hT4 2).trans rfl
  clear hT4
  have hown := hW2.own
  rw [show (pre ++ [t]).length = pre.length + 1 by simp] at hown
  go_wp2_with (at_builtin; refine wpList_append_own _ rfl _ _ 24 rfl (w0.heap.size + 2) 32 i0 (.agg #[.int .i64 0, .string ⟨#[]⟩, .int .i64 0]) 3 32 Tryd.underlying24 hi hz0 hz1 hz2 rfl (by decide) _ _ _ rfl (hown.alloc _) ⟨w4.heap.size, 0, none⟩ 1 1 [.int .i64 5, .string ⟨#[]⟩, .int .i64 (a : Nat)] rfl rfl ?c1 ?c2 ?c3 ?c4 ?c5 ?_)
  case c1 => exact three_new _ _ _ _ _
  case c2 => exact three_one _ _ _
  case c3 => unfold maxLen; omega
  case c4 => omega
  case c5 => have := hW2.big; simp; omega
  intro v' w5 hown' hgrow _
  have hW5 : LexW w0 w5 v' ((pre ++ [t]) ++ [⟨5, [], (a : Nat)⟩]) := hW2.grown (by rw [toksCells_snoc]; simpa using hown') hgrow
  clear hown hown' hgrow hW2 d0 d1 d2 hg hW
  have s0 := (blk_cells hW5.spot 0).trans rfl
  have s1 := (blk_cells hW5.spot 1).trans rfl
  have g0 := blk_free hW5.spot 0
  have g1 := blk_free hW5.spot 1
  go_wp2_with fail
  apply wp_label
  by_cases hlt : a < s.size
  · go_wp2_with fail
    apply wp_goto
    simp only [Exit.then]
    exact HGO.out hlt _ _ _ ⟨rfl, rfl, rfl, rfl, by go_num, rfl, rfl⟩ hW5
  · go_wp2_with fail
    exact HRET.out (by omega) _ _ (hW5.ret_ok _ rfl rfl)

/-- What 'token' says of the rest of the text. -/
theorem token_rest (s : ByteArray) (hs : s.size ≤ 4096) (a : Nat) (ha : a < s.size) (w : World) (henv : Env w) :
    Calls Tryd.prog 37 #[.string (s.extract a s.size)] w fun e w' => e = .returned (tokRes (s.data.toList.drop a)) ∧ Below w.heap.size w w' := by
  have hsz : (s.extract a s.size).size = s.size - a := by simp
  have h := token_any (s.extract a s.size) (by omega) (by omega) w henv
  rw [Lib.extract_data] at h
  rwa [List.take_of_length_le (by rw [List.length_drop, ← Lib.size_eq]; omega)] at h

set_option maxRecDepth 100000 in
set_option maxHeartbeats 4000000 in
theorem mid_tok_err (s : ByteArray) (hs : s.size ≤ 4096) (A : Option Addr) (n cap : Nat) (a : Nat) (ha : a < s.size) (f : Nat → Value) (w0 w : World) (acc : List Lx.Tok) (hW : LexW w0 w (.slice A n cap) acc) (henv : Env w0) (he : ¬ (Lx.tokenOf (s.data.toList.drop a)).2.2 = 0) (Q : Exit → Act → World → Prop)
    (hret : ∀ t' w', RetOk w0 ([], (Lx.tokenOf (s.data.toList.drop a)).2.2, a) t' w' → Q .ret ⟨t', []⟩ w') :
    lexM.wp Tryd.prog Q ⟨#[.string s, f 1, f 2, .pointer (some ⟨w0.heap.size, 0, none⟩), .slice A n cap, .int .i64 (a : Nat), .int .i64 0, .pointer (some ⟨w0.heap.size + 1, 0, none⟩), .bool false, f 9, f 10, f 11, f 12, f 13, f 14, f 15, f 16, f 17, f 18, f 19, f 20, f 21, f 22, f 23, f 24, f 25, f 26, f 27, f 28, f 29, f 30, f 31, f 32, f 33, f 34, f 35, f 36, f 37, f 38, f 39, f 40, f 41, f 42, f 43, f 44, f 45, f 46, f 47, f 48, f 49, f 50, f 51, f 52, f 53, f 54, f 55, f 56, f 57, f 58, f 59, f 60, f 61, f 62, f 63, f 64, f 65, f 66, f 67, f 68, f 69, f 70, f 71, f 72, f 73, f 74, f 75, f 76, f 77, f 78, f 79, f 80, f 81, f 82, f 83, f 84, f 85, f 86, f 87, f 88, f 89, f 90, f 91, f 92, f 93, f 94, f 95, f 96, f 97], []⟩ w := by
  have HRET := Lib.hid hret
  clear hret
  change Code.wp Tryd.prog (Code.seq _ _) _ _ _
  go_wp2_with fail
  refine (token_rest s hs a ha _ (hW.env henv)).mono ?_
  rintro e w1 ⟨rfl, hb⟩
  rw [tokRes_agg]
  generalize hx : Lx.tokenOf (s.data.toList.drop a) = q at he HRET
  obtain ⟨k', n', e'⟩ := q
  clear hx
  have hne : ¬ e' = 0 := he
  clear he
  have hW1 := hW.next hb
  obtain ⟨x, y, z, hT⟩ := hW1.tok
  have d0 := (blk_cells hT 0).trans rfl
  have d1 := (blk_cells hT 1).trans rfl
  have d2 := (blk_cells hT 2).trans rfl
  have e0 := blk_free hT 0
  have e1 := blk_free hT 1
  have e2 := blk_free hT 2
  have s0 := (blk_cells hW1.spot 0).trans rfl
  have s1 := (blk_cells hW1.spot 1).trans rfl
  have g0 := blk_free hW1.spot 0
  have g1 := blk_free hW1.spot 1
  clear hT
  go_wp2_with fail
  exact HRET.out _ _ ((((hW1.setTok 0 _).setTok 1 _).setTok 2 _).ret_err e' a _ rfl rfl)

set_option maxRecDepth 100000 in
set_option maxHeartbeats 4000000 in
theorem mid_tok_full (s : ByteArray) (hs : s.size ≤ 4096) (A : Option Addr) (cap : Nat) (a : Nat) (ha : a < s.size) (f : Nat → Value) (w0 w : World) (acc : List Lx.Tok) (hW : LexW w0 w (.slice A 1024 cap) acc) (henv : Env w0) (he : (Lx.tokenOf (s.data.toList.drop a)).2.2 = 0) (Q : Exit → Act → World → Prop)
    (hret : ∀ t' w', RetOk w0 ([], 3, a) t' w' → Q .ret ⟨t', []⟩ w') :
    lexM.wp Tryd.prog Q ⟨#[.string s, f 1, f 2, .pointer (some ⟨w0.heap.size, 0, none⟩), .slice A 1024 cap, .int .i64 (a : Nat), .int .i64 0, .pointer (some ⟨w0.heap.size + 1, 0, none⟩), .bool false, f 9, f 10, f 11, f 12, f 13, f 14, f 15, f 16, f 17, f 18, f 19, f 20, f 21, f 22, f 23, f 24, f 25, f 26, f 27, f 28, f 29, f 30, f 31, f 32, f 33, f 34, f 35, f 36, f 37, f 38, f 39, f 40, f 41, f 42, f 43, f 44, f 45, f 46, f 47, f 48, f 49, f 50, f 51, f 52, f 53, f 54, f 55, f 56, f 57, f 58, f 59, f 60, f 61, f 62, f 63, f 64, f 65, f 66, f 67, f 68, f 69, f 70, f 71, f 72, f 73, f 74, f 75, f 76, f 77, f 78, f 79, f 80, f 81, f 82, f 83, f 84, f 85, f 86, f 87, f 88, f 89, f 90, f 91, f 92, f 93, f 94, f 95, f 96, f 97], []⟩ w := by
  have HRET := Lib.hid hret
  clear hret
  change Code.wp Tryd.prog (Code.seq _ _) _ _ _
  go_wp2_with fail
  refine (token_rest s hs a ha _ (hW.env henv)).mono ?_
  rintro e w1 ⟨rfl, hb⟩
  rw [tokRes_agg, he]
  clear he
  have hW1 := hW.next hb
  obtain ⟨x, y, z, hT⟩ := hW1.tok
  have d0 := (blk_cells hT 0).trans rfl
  have d1 := (blk_cells hT 1).trans rfl
  have d2 := (blk_cells hT 2).trans rfl
  have e0 := blk_free hT 0
  have e1 := blk_free hT 1
  have e2 := blk_free hT 2
  have s0 := (blk_cells hW1.spot 0).trans rfl
  have s1 := (blk_cells hW1.spot 1).trans rfl
  have g0 := blk_free hW1.spot 0
  have g1 := blk_free hW1.spot 1
  clear hT
  go_wp2_with fail
  exact HRET.out _ _ ((((hW1.setTok 0 _).setTok 1 _).setTok 2 _).ret_err 3 a _ rfl rfl)

set_option maxRecDepth 100000 in
set_option maxHeartbeats 4000000 in
theorem mid_tok_told (s : ByteArray) (hs : s.size ≤ 4096) (A : Option Addr) (cap : Nat) (a : Nat) (ha : a < s.size) (f : Nat → Value) (w0 w : World) (acc : List Lx.Tok) (hn : acc.length < 1024) (hW : LexW w0 w (.slice A acc.length cap) acc) (henv : Env w0) (k : Int) (txt : List UInt8) (htxt : a + txt.length ≤ s.size) (he : tokRes (s.data.toList.drop a) = .tuple #[.agg #[.int .i64 k, .string ⟨txt.toArray⟩, .int .i64 0], .int .i64 0]) (Q : Exit → Act → World → Prop)
    (hgo : ∀ t' v' w', IsFrame s w0.heap.size (w0.heap.size + 1) v' (a + txt.length) t' → LexW w0 w' v' (acc ++ [⟨k, txt, (a : Nat)⟩]) → Q (.goto 0) ⟨t', []⟩ w') :
    lexM.wp Tryd.prog Q ⟨#[.string s, f 1, f 2, .pointer (some ⟨w0.heap.size, 0, none⟩), .slice A acc.length cap, .int .i64 (a : Nat), .int .i64 0, .pointer (some ⟨w0.heap.size + 1, 0, none⟩), .bool false, f 9, f 10, f 11, f 12, f 13, f 14, f 15, f 16, f 17, f 18, f 19, f 20, f 21, f 22, f 23, f 24, f 25, f 26, f 27, f 28, f 29, f 30, f 31, f 32, f 33, f 34, f 35, f 36, f 37, f 38, f 39, f 40, f 41, f 42, f 43, f 44, f 45, f 46, f 47, f 48, f 49, f 50, f 51, f 52, f 53, f 54, f 55, f 56, f 57, f 58, f 59, f 60, f 61, f 62, f 63, f 64, f 65, f 66, f 67, f 68, f 69, f 70, f 71, f 72, f 73, f 74, f 75, f 76, f 77, f 78, f 79, f 80, f 81, f 82, f 83, f 84, f 85, f 86, f 87, f 88, f 89, f 90, f 91, f 92, f 93, f 94, f 95, f 96, f 97], []⟩ w := by
  have HGO := Lib.hid hgo
  have HE := Lib.hid he
  clear hgo he
  change Code.wp Tryd.prog (Code.seq _ _) _ _ _
  go_wp2_with fail
  refine (token_rest s hs a ha _ (hW.env henv)).mono ?_
  rintro e w1 ⟨rfl, hb⟩
  rw [HE.out]
  have hW1 := hW.next hb
  obtain ⟨x, y, z, hT⟩ := hW1.tok
  have d0 := (blk_cells hT 0).trans rfl
  have d1 := (blk_cells hT 1).trans rfl
  have d2 := (blk_cells hT 2).trans rfl
  have e0 := blk_free hT 0
  have e1 := blk_free hT 1
  have e2 := blk_free hT 2
  have s0 := (blk_cells hW1.spot 0).trans rfl
  have s1 := (blk_cells hW1.spot 1).trans rfl
  have g0 := blk_free hW1.spot 0
  have g1 := blk_free hW1.spot 1
  have hW2 := ((((hW1.setTok 0 (.int .i64 k)).setTok 1 (.string ⟨txt.toArray⟩)).setTok 2 (.int .i64 0)).setTok 2 (.int .i64 (a : Nat)))
  have hT4 := heap_set _ _ 2 (.int .i64 (a : Nat)) (heap_set _ _ 2 (.int .i64 0) (heap_set _ _ 1 (.string ⟨txt.toArray⟩) (heap_set _ _ 0 (.int .i64 k) hT)))
  clear hT
  obtain ⟨i0, hi, hz0, hz1, hz2⟩ := info_parts tok_info
  go_upto_region 19 with (fail)
  generalize ((((w1.setCell ⟨w0.heap.size + 1, 0, none⟩ (.int .i64 k)).setCell ⟨w0.heap.size + 1, 1, none⟩ (.string ⟨txt.toArray⟩)).setCell ⟨w0.heap.size + 1, 2, none⟩ (.int .i64 0)).setCell ⟨w0.heap.size + 1, 2, none⟩ (.int .i64 (a : Nat))) = w4 at hW2 hT4 ⊢
  clear d0 d1 d2 e0 e1 e2 s0 s1 g0 g1 hW1 hb
  have d0 := (blk_cells hT4 0).trans rfl
  have d1 := (blk_cells hT4 1).trans rfl
  have d2 := (blk_cells hT4 2).trans rfl
  have hown := hW2.own
  go_wp2_with (at_builtin; refine wpList_append_own _ rfl _ _ 24 rfl (w0.heap.size + 2) 32 i0 (.agg #[.int .i64 0, .string ⟨#[]⟩, .int .i64 0]) 3 32 Tryd.underlying24 hi hz0 hz1 hz2 rfl (by decide) _ _ _ rfl (hown.alloc _) ⟨w4.heap.size, 0, none⟩ 1 1 [.int .i64 k, .string ⟨txt.toArray⟩, .int .i64 (a : Nat)] rfl rfl ?c1 ?c2 ?c3 ?c4 ?c5 ?_)
  case c1 => exact three_new _ _ _ _ _
  case c2 => exact three_one _ _ _
  case c3 => unfold maxLen; omega
  case c4 => omega
  case c5 => have := hW2.big; simp; omega
  intro v' w5 hown' hgrow _
  have hW5 : LexW w0 w5 v' (acc ++ [⟨k, txt, (a : Nat)⟩]) := hW2.grown (by rw [toksCells_snoc]; simpa using hown') hgrow
  have hbT : w5.heap[w0.heap.size + 1]? = w4.heap[w0.heap.size + 1]? := by
    have h2 := hW2.big
    rw [hgrow.block _ (by simp; omega) (fun e => by have := (hown.lt _ e.symm).1; omega)]
    exact Below.heap_alloc _ _ _ (by omega)
  have hT5 := hbT.trans hT4
  clear hbT hT4 d0 d1 d2 hown hown' hgrow hW2 hW
  have d1 := (blk_cells hT5 1).trans rfl
  clear hT5
  go_wp2_with fail
  apply wp_goto
  simp only [Exit.then]
  exact HGO.out _ _ _ ⟨rfl, rfl, rfl, rfl, by go_num, rfl, rfl⟩ hW5
end Go.Proofs.YtoppkhkdbkkldaaDoor
