/-
  PROVED: what the walk of the document's Message leans on: its record in memory, two rows that grow side by side, the lines one by one.
-/
import Derived.Test.YtoadahommlcjpaaGreatDoorPLines
import Derived.Test.YtoadahommlcjpaaGreatDoorPField
import Derived.Test.YtoadahommlcjpaaGreatDoorAppB
import Derived.Test.YtoadahommlcjpaaGreatDoorReqCut
import Derived.Deep.Cut
import Derived.Deep.CutBlock
import Derived.Deep.CutRange
namespace Go.Proofs.YtoadahommlcjpaaGreatDoor
open Go.RowKit
theorem blk6 {w : World} {b : Nat} {t : TypeId} {x0 x1 x2 x3 x4 x5 : Value} (h : w.heap[b]? = some (.cells #[x0, x1, x2, x3, x4, x5] t (0, 0))) :
    w.cell? ⟨b, 0, none⟩ = some x0 ∧ w.cell? ⟨b, 1, none⟩ = some x1 ∧ w.cell? ⟨b, 2, none⟩ = some x2 ∧ w.cell? ⟨b, 3, none⟩ = some x3 ∧ w.cell? ⟨b, 4, none⟩ = some x4 ∧ w.cell? ⟨b, 5, none⟩ = some x5 :=
  ⟨by rw [blk_cells h 0]; rfl, by rw [blk_cells h 1]; rfl, by rw [blk_cells h 2]; rfl, by rw [blk_cells h 3]; rfl, by rw [blk_cells h 4]; rfl, by rw [blk_cells h 5]; rfl⟩
theorem blk6_free {w : World} {b : Nat} {t : TypeId} {x0 x1 x2 x3 x4 x5 : Value} (h : w.heap[b]? = some (.cells #[x0, x1, x2, x3, x4, x5] t (0, 0))) :
    w.frozen? ⟨b, 0, none⟩ = false ∧ w.frozen? ⟨b, 1, none⟩ = false ∧ w.frozen? ⟨b, 2, none⟩ = false ∧ w.frozen? ⟨b, 3, none⟩ = false ∧ w.frozen? ⟨b, 4, none⟩ = false ∧ w.frozen? ⟨b, 5, none⟩ = false :=
  ⟨blk_free h 0, blk_free h 1, blk_free h 2, blk_free h 3, blk_free h 4, blk_free h 5⟩
theorem m119_load {w : World} {b : Nat} {x0 x1 x2 x3 x4 x5 : Value} (h : w.heap[b]? = some (.cells #[x0, x1, x2, x3, x4, x5] 119 (0, 0))) : (loadVar 119 ⟨b, 0, none⟩).run Tryz.prog w = .ok (.agg #[x0, x1, x2, x3, x4, x5]) w :=
  run_loadVar_row w b 119 119 #[x0, x1, x2, x3, x4, x5] (0, 0) _ h Tryz.underlying119 rfl (by kernel_rfl)
theorem m119_set {w : World} {b : Nat} {p0 p1 p2 p3 p4 p5 x0 x1 x2 x3 x4 x5 : Value} (h : w.heap[b]? = some (.cells #[p0, p1, p2, p3, p4, p5] 119 (0, 0))) :
    But [b] w ((((((w.setCell ⟨b, 0, none⟩ x0).setCell ⟨b, 1, none⟩ x1).setCell ⟨b, 2, none⟩ x2).setCell ⟨b, 3, none⟩ x3).setCell ⟨b, 4, none⟩ x4).setCell ⟨b, 5, none⟩ x5) ∧ ((((((w.setCell ⟨b, 0, none⟩ x0).setCell ⟨b, 1, none⟩ x1).setCell ⟨b, 2, none⟩ x2).setCell ⟨b, 3, none⟩ x3).setCell ⟨b, 4, none⟩ x4).setCell ⟨b, 5, none⟩ x5).heap[b]? = some (.cells #[x0, x1, x2, x3, x4, x5] 119 (0, 0)) := by
  obtain ⟨h1, h2⟩ := but_set (i := 0) x0 h
  obtain ⟨h3, h4⟩ := but_set (i := 1) x1 h2
  obtain ⟨h5, h6⟩ := but_set (i := 2) x2 h4
  obtain ⟨h7, h8⟩ := but_set (i := 3) x3 h6
  obtain ⟨h9, ha⟩ := but_set (i := 4) x4 h8
  obtain ⟨hb, hc⟩ := but_set (i := 5) x5 ha
  exact ⟨((((h1.trans h3).trans h5).trans h7).trans h9).trans hb, hc⟩
/-- A row of another element's type abides what one row's append turns. -/
theorem Own.other {e e2 : TypeId} {s s2 B B2 n n2 : Nat} {v v2 : Value} {xs xs2 : List Value} {w w' : World} (h : Own e s B v n xs w) (k : Own e2 s2 B2 v2 n2 xs2 w) (hne : e ≠ e2) (hk : But v2.ownBlock.toList w w') : Own e s B v n xs w' := by
  refine ⟨⟨h.own.1, ?_⟩, Nat.le_trans h.le hk.size⟩
  rcases h.own.2 with hn | ⟨g, cap, cur, rfl, hb, hg, rest⟩
  · exact .inl hn
  · refine .inr ⟨g, cap, cur, rfl, hb, hk.blk hg (fun hm => ?_), rest⟩
    rcases k.own.2 with ⟨rfl, _⟩ | ⟨g2, cap2, cur2, rfl, _, hg2, _⟩
    · simp [Value.ownBlock] at hm
    · simp [Value.ownBlock] at hm
      subst hm
      rw [hg] at hg2
      injection hg2 with h1
      injection h1 with _ h2 _
      exact hne h2
/-- What lies in memory while Message goes through the lines. -/
structure MSt (O : Nat) (w3 : World) (f : Ht.Bs) (hs : List Ht.Hd) (ln : List Ht.Bs) (HA : Option Addr) (hc : Nat) (LB : Option Addr) (lc : Nat) (W : World) : Prop where
  below : Below O w3 W
  box : W.heap[O]? = some (.cells #[.string ⟨f.toArray⟩, .slice HA hs.length hc, .slice none 0 0, .int .i64 0, .int .i64 0, .bool false] 119 (0, 0))
  heads : Own 65 2 (O + 1) (.slice HA hs.length hc) hs.length (hdCells hs) W
  lens : Own 9 1 (O + 1) (.slice LB ln.length lc) ln.length (ln.map bstr) W
theorem MSt.size {O : Nat} {w3 : World} {f : Ht.Bs} {hs : List Ht.Hd} {ln : List Ht.Bs} {HA : Option Addr} {hc : Nat} {LB : Option Addr} {lc : Nat} {W : World} (h : MSt O w3 f hs ln HA hc LB lc W) : O < W.heap.size := (Array.getElem?_eq_some_iff.1 h.box).1
theorem MSt.next {O : Nat} {w3 : World} {f : Ht.Bs} {hs : List Ht.Hd} {ln : List Ht.Bs} {HA : Option Addr} {hc : Nat} {LB : Option Addr} {lc : Nat} {W W' : World} (h : MSt O w3 f hs ln HA hc LB lc W) (hb : Below W.heap.size W W') : MSt O w3 f hs ln HA hc LB lc W' :=
  ⟨h.below.trans (hb.mono (Nat.le_of_lt h.size)), blk_next hb h.box, h.heads.next hb, h.lens.next hb⟩
theorem MSt.last {O : Nat} {w w3 : World} {f : Ht.Bs} {hs : List Ht.Hd} {ln : List Ht.Bs} {HA : Option Addr} {hc : Nat} {LB : Option Addr} {lc : Nat} {W W1 W2 : World} (h : MSt O w3 f hs ln HA hc LB lc W) (h3 : Below w.heap.size w w3) (hO : w.heap.size < O) (k1 : But [O] W W1) (k2 : But [w.heap.size] W1 W2) :
    Own 65 2 w.heap.size (.slice HA hs.length hc) hs.length (hdCells hs) W2 ∧ Below w.heap.size w W2 := by
  have hz := h.size
  refine ⟨own_lower ((h.heads.but k1 (by simp)).but k2 (by simp; omega)) (by omega), ?_⟩
  have h4 := h3.trans (h.below.mono (Nat.le_of_lt hO))
  exact (h4.trans (k1.to h4.size (by simp; omega))).trans (k2.to (Nat.le_trans h4.size k1.size) (by simp))
theorem MSt.put_len {O : Nat} {w3 : World} {f : Ht.Bs} {hs : List Ht.Hd} {ln : List Ht.Bs} {HA : Option Addr} {hc : Nat} {LB : Option Addr} {lc : Nat} {W W' : World} {A' : Option Addr} {c' : Nat} {vl : Ht.Bs} (h : MSt O w3 f hs ln HA hc LB lc W)
    (hO : Own 9 1 (O + 1) (.slice A' (ln.length + 1) c') (ln.length + 1) (ln.map bstr ++ [bstr vl]) W') (hk : But (Value.slice LB ln.length lc).ownBlock.toList W W') : MSt O w3 f hs (ln ++ [vl]) HA hc A' c' W' :=
  ⟨h.below.trans (hk.row h.lens (Nat.le_succ O)), hk.blk h.box (fun hm => by have := (h.lens.lt O (by simpa using hm)).1; omega), h.heads.other h.lens (by decide) hk, by simpa using hO⟩
theorem MSt.put_hd {O : Nat} {w3 : World} {f : Ht.Bs} {hs : List Ht.Hd} {ln : List Ht.Bs} {HA : Option Addr} {hc : Nat} {LB : Option Addr} {lc : Nat} {W W' : World} (h : MSt O w3 f hs ln HA hc LB lc W)
    (hk : But (Value.slice HA hs.length hc).ownBlock.toList W W') : Below O w3 W' ∧ W'.heap[O]? = some (.cells #[.string ⟨f.toArray⟩, .slice HA hs.length hc, .slice none 0 0, .int .i64 0, .int .i64 0, .bool false] 119 (0, 0)) ∧ Own 9 1 (O + 1) (.slice LB ln.length lc) ln.length (ln.map bstr) W' :=
  ⟨h.below.trans (hk.row h.heads (Nat.le_succ O)), hk.blk h.box (fun hm => by have := (h.heads.lt O (by simpa using hm)).1; omega), h.lens.other h.heads (by decide) hk⟩
theorem MSt.filled {O : Nat} {w3 : World} {f : Ht.Bs} {hs : List Ht.Hd} {x : Ht.Hd} {ln : List Ht.Bs} {A8 : Option Addr} {c8 : Nat} {LB : Option Addr} {lc : Nat} {W8 W9 : World} (hb : Below O w3 W8)
    (hz : W9.heap[O]? = some (.cells #[.string ⟨f.toArray⟩, .slice A8 (hs.length + 1) c8, .slice none 0 0, .int .i64 0, .int .i64 0, .bool false] 119 (0, 0))) (hk : But [O] W8 W9)
    (hO : Own 65 2 (O + 1) (.slice A8 (hs.length + 1) c8) (hs.length + 1) (hdCells (hs ++ [x])) W8) (hl : Own 9 1 (O + 1) (.slice LB ln.length lc) ln.length (ln.map bstr) W8) (h3 : O ≤ w3.heap.size) : MSt O w3 f (hs ++ [x]) ln A8 c8 LB lc W9 := by
  refine ⟨hb.trans (hk.to (Nat.le_trans h3 hb.size) (by simp)), ?_, ?_, hl.but hk (by simp)⟩
  · simpa using hz
  · have := hO.but hk (by simp)
    simpa using this
theorem wpList_hds_append2 {ops : Array Oper} {rest : List Oper} {o : Oper} {ac : Act} {Q : Exit → Act → World → Prop} (hgd : o.guard = none) (s x : Operand)
    (hop : o.op = Op.call { callee := Callee.builtin Builtin.append, args := #[s, x], argTypes := #[24, 24] })
    {B n : Nat} {V : World} {A : Option Addr} {cc : Nat} {hs : List Ht.Hd} {h : Ht.Hd} (hn : hs.length = n) (hown : Own 65 2 B (.slice A n cc) hs.length (hdCells hs) V) (hs1 : ac.eval s = .slice A n cc)
    (hx : ac.eval x = .slice (some ⟨V.heap.size, 0, none⟩) 1 1) (hlim : n < 1048576)
    (hK : ∀ A' c' V4, Own 65 2 B (.slice A' (n + 1) c') (n + 1) (hdCells (hs ++ [h])) V4 → But (Value.slice A n cc).ownBlock.toList V V4 → wpList Tryz.prog ops Q rest (ac.put o.dst (.slice A' (n + 1) c')) V4) :
    wpList Tryz.prog ops Q (o :: rest) ac (V.alloc (.cells #[.string ⟨h.name.toArray⟩, .string ⟨h.value.toArray⟩] 65)) := by
  subst hn
  have hinf := info65
  cases hi0 : Tryz.prog.info? 65 with
  | none => rw [hi0] at hinf; cases hinf
  | some i0 =>
    rw [hi0] at hinf
    simp only [Option.map_some, Option.some.injEq, Prod.mk.injEq] at hinf
    obtain ⟨hz0, hz1, hz2⟩ := hinf
    have hle := hown.le
    refine wpList_append_own _ hgd s x 24 hop B 65 i0 (.agg #[.string ⟨#[]⟩, .string ⟨#[]⟩]) 2 32 Tryz.underlying24 hi0 hz0 hz1 hz2 rfl (by decide) _ _ _ hs1 (hown.own.alloc _) ⟨V.heap.size, 0, none⟩ 1 1 [bstr h.name, bstr h.value] hx rfl ?_ ?_ (by have : maxLen = 9223372036854775807 := rfl; omega) (by omega) (by simp; omega) ?_
    · intro j u hj
      have hadd : (⟨V.heap.size, 0, none⟩ : Addr).add j = ⟨V.heap.size, j, none⟩ := by unfold Addr.add; split <;> simp_all
      rw [hadd, blk_cells (heap_alloc_new V _) j]
      rw [← hj]
      exact List.getElem?_toArray
    · intro u hu
      simp only [List.mem_cons, List.not_mem_nil, or_false] at hu
      rcases hu with rfl | rfl <;> rfl
    · intro v' V4 hown' hgrow _
      have hO4 : Own 65 2 B v' (hs.length + 1) (hdCells hs ++ [bstr h.name, bstr h.value]) V4 := ⟨hown', by have := hgrow.size; simp at this; omega⟩
      obtain ⟨A', c', rfl⟩ := own_shape hO4
      refine hK A' c' V4 ?_ ((But.of (below_box V _)).trans (But.grown hgrow))
      rw [hdCells_snoc]
      exact hO4
theorem refAlike_c (x y : Ht.Bs) (w : World) (hx : x.length ≤ 1073741824) (hy : y.length ≤ 1073741824) {q : Bool} (h : Ht.alikeB x y = q) :
    Calls Tryz.prog 62 #[.string ⟨x.toArray⟩, .string ⟨y.toArray⟩] w fun e w' => e = .returned (.bool q) ∧ ∃ n, w' = w.drewN n := by
  have := refAlike_any ⟨x.toArray⟩ ⟨y.toArray⟩ w (by rw [Lib.size_eq]; show x.length ≤ _; omega) (by rw [Lib.size_eq]; show y.length ≤ _; omega)
  rwa [show (⟨x.toArray⟩ : ByteArray).data.toList = x from rfl, show (⟨y.toArray⟩ : ByteArray).data.toList = y from rfl, h] at this
/-- What lies in memory behind the switch at Message's end. -/
structure MFin (w : World) (O : Nat) (f : Ht.Bs) (hs : List Ht.Hd) (HA : Option Addr) (hc : Nat) (M : Ht.RMsg) (W : World) : Prop where
  box : ∃ bA bc, W.heap[O]? = some (.cells #[.string ⟨f.toArray⟩, .slice HA hs.length hc, .slice bA M.body.length bc, .int .i64 (M.used : Int), .int .i64 M.err, .bool false] 119 (0, 0)) ∧ Own 5 1 (w.heap.size + 1) (.slice bA M.body.length bc) M.body.length (Lib.byteCells M.body) W
  nb : W.heap[w.heap.size]? = some (.cells #[.string ⟨#[]⟩, .slice none 0 0, .slice none 0 0, .int .i64 0, .int .i64 0, .bool false] 119 (0, 0))
  heads : Own 65 2 (w.heap.size + 1) (.slice HA hs.length hc) hs.length (hdCells hs) W
  below : Below w.heap.size w W
  first : M.first = f
  head : M.head = false
  same : M.heads = hs
theorem MFin.err {O : Nat} {w w3 : World} {f : Ht.Bs} {hs : List Ht.Hd} {ln : List Ht.Bs} {HA : Option Addr} {hc : Nat} {LB : Option Addr} {lc : Nat} {W : World} {M : Ht.RMsg} {E : Int} (h : MSt O w3 f hs ln HA hc LB lc W) (h3 : Below w.heap.size w w3) (hO : w.heap.size < O)
    (hN : w3.heap[w.heap.size]? = some (.cells #[.string ⟨#[]⟩, .slice none 0 0, .slice none 0 0, .int .i64 0, .int .i64 0, .bool false] 119 (0, 0))) (hM : M = ⟨f, hs, [], 0, E, false⟩) : MFin w O f hs HA hc M (W.setCell ⟨O, 4, none⟩ (.int .i64 E)) := by
  subst hM
  obtain ⟨k1, z1⟩ := but_set (i := 4) (.int .i64 E) h.box
  have hz := h.size
  have h4 := h3.trans (h.below.mono (Nat.le_of_lt hO))
  have h5 := h4.trans (k1.to h4.size (by simp; omega))
  exact ⟨⟨none, 0, z1, own_none 5 1 _ (by have := k1.size; omega)⟩, k1.blk ((h.below.block w.heap.size hO).trans hN) (by simp; omega), own_lower (h.heads.but k1 (by simp)) (by omega), h5, rfl, rfl, rfl⟩
theorem MFin.full {O BB : Nat} {w w3 : World} {f bd : Ht.Bs} {hs : List Ht.Hd} {ln : List Ht.Bs} {HA A7 : Option Addr} {hc c7 : Nat} {LB : Option Addr} {lc u : Nat} {W : World} {M : Ht.RMsg} (h : MSt O w3 f hs ln HA hc LB lc W) (h3 : Below w.heap.size w w3) (hO : w.heap.size < O)
    (hN : w3.heap[w.heap.size]? = some (.cells #[.string ⟨#[]⟩, .slice none 0 0, .slice none 0 0, .int .i64 0, .int .i64 0, .bool false] 119 (0, 0))) (hM : M = ⟨f, hs, bd, u, 0, false⟩) (hB : O < BB)
    (hb : Own 5 1 BB (.slice A7 (0 + bd.length) c7) (0 + bd.length) ([] ++ Lib.byteCells bd) W) : MFin w O f hs HA hc M ((W.setCell ⟨O, 2, none⟩ (.slice A7 (0 + bd.length) c7)).setCell ⟨O, 3, none⟩ (.int .i64 (u : Int))) := by
  subst hM
  obtain ⟨k1, z1⟩ := but_set (i := 2) (.slice A7 (0 + bd.length) c7) h.box
  obtain ⟨k2, z2⟩ := but_set (i := 3) (.int .i64 (u : Int)) z1
  have hk := k1.trans k2
  have hz := h.size
  have h4 := h3.trans (h.below.mono (Nat.le_of_lt hO))
  have h5 := h4.trans (hk.to h4.size (by simp; omega))
  have hb2 := own_lower (hb.but hk (by simpa using hB)) (show w.heap.size + 1 ≤ BB by omega)
  simp only [Nat.zero_add, List.nil_append] at hb2 z2
  exact ⟨⟨A7, c7, by simpa using z2, by simpa using hb2⟩, hk.blk ((h.below.block w.heap.size hO).trans hN) (by simp; omega), own_lower (h.heads.but hk (by simp)) (by omega), h5, rfl, rfl, rfl⟩
/-- What is known of the lengths behind Message's second if. -/
def MLen (M : Ht.RMsg) (f : Ht.Bs) (ah : List Ht.Hd) (ac : Bool) (b : Ht.Bs) (n : Nat) (q : Bool) (sz : Nat) : Prop :=
  M = if ac then ⟨f, ah, [], 0, 344, false⟩ else if q then ⟨f, ah, [], 0, 340, false⟩ else if 16 < ah.length then ⟨f, ah, [], 0, 342, false⟩ else if 8192 < sz then ⟨f, ah, [], 0, 343, false⟩ else if b.length - n < sz then ⟨f, ah, [], 0, 341, false⟩ else ⟨f, ah, (b.drop n).take sz, n + sz, 0, false⟩
/-- What Message leaves. -/
def MsgOut (w : World) (M : Ht.RMsg) (e : Ending) (w' : World) : Prop :=
  ∃ hv bv hs, e = .returned (.agg #[.string ⟨M.first.toArray⟩, hv, bv, .int .i64 (M.used : Int), .int .i64 M.err, .bool M.head]) ∧ Own 65 2 w.heap.size hv hs.length (hdCells hs) w' ∧ (M.err = 0 → hs = M.heads) ∧ Own 5 1 w.heap.size bv M.body.length (Lib.byteCells M.body) w' ∧ Below w.heap.size w w'
namespace Ht
def msgOf (b : Bs) : Option (List Bs × Nat) → RMsg
  | none => ⟨[], [], [], 0, if 2048 ≤ b.length then 342 else 341, true⟩
  | some (l, n) => if 2048 < n then ⟨[], [], [], 0, if 2048 ≤ b.length then 342 else 341, true⟩ else msgFin (l.headD []) (linesR l.tail accR0) b n
theorem refMsg_of (b : Bs) : refMsg b = msgOf b (refLines b [] [] 0) := by
  unfold refMsg msgOf
  cases refLines b [] [] 0 with
  | none => rfl
  | some p => rfl
theorem refLines_ne (b cur : Bs) (out : List Bs) (pos : Nat) {l : List Bs} {n : Nat} (h : refLines b cur out pos = some (l, n)) : l ≠ [] := by
  induction b, cur, out, pos using refLines.induct with
  | case1 cur out pos => simp [refLines] at h
  | case2 x cur out pos => simp [refLines] at h
  | case3 x y t cur out pos h1 h2 =>
    rw [refLines, if_pos h1, if_pos h2] at h
    simp only [Option.some.injEq, Prod.mk.injEq] at h
    rw [← h.1]; exact h2.2
  | case4 x y t cur out pos h1 h2 ih => rw [refLines, if_pos h1, if_neg h2] at h; exact ih h
  | case5 x y t cur out pos h1 ih => rw [refLines, if_neg h1] at h; exact ih h
theorem refLines_fit (b cur : Bs) (out : List Bs) (pos M : Nat) {l : List Bs} {n : Nat} (h : refLines b cur out pos = some (l, n)) (ho : ∀ s ∈ out, s.length ≤ M) (hM : cur.length + b.length ≤ M) :
    (∀ s ∈ l, s.length ≤ M) ∧ l.length ≤ out.length + b.length ∧ n ≤ pos + b.length := by
  induction b, cur, out, pos using refLines.induct with
  | case1 cur out pos => simp [refLines] at h
  | case2 x cur out pos => simp [refLines] at h
  | case3 x y t cur out pos h1 h2 =>
    rw [refLines, if_pos h1, if_pos h2] at h
    simp only [Option.some.injEq, Prod.mk.injEq] at h
    obtain ⟨rfl, rfl⟩ := h
    exact ⟨ho, by omega, by simp⟩
  | case4 x y t cur out pos h1 h2 ih =>
    rw [refLines, if_pos h1, if_neg h2] at h
    simp only [List.length_cons] at hM
    obtain ⟨h3, h4, h5⟩ := ih h (fun s hs => by
      rcases List.mem_append.1 hs with h6 | h6
      · exact ho s h6
      · simp at h6; subst h6; omega) (by simp; omega)
    simp only [List.length_append, List.length_cons, List.length_nil] at h4 ⊢
    exact ⟨h3, by omega, by omega⟩
  | case5 x y t cur out pos h1 ih =>
    rw [refLines, if_neg h1] at h
    simp only [List.length_cons] at hM
    obtain ⟨h3, h4, h5⟩ := ih h ho (by simp; omega)
    simp only [List.length_cons] at h4 h5 ⊢
    exact ⟨h3, by omega, by omega⟩
theorem linesR_app (l m : List Bs) : ∀ a : AccR, linesR (l ++ m) a = (linesR l a).bind (linesR m) := by
  induction l with
  | nil => intro a; rfl
  | cons s t ih =>
    intro a
    rw [List.cons_append, linesR, linesR]
    split
    · exact ih _
    · rfl
theorem linesR_hit {l : List Bs} {k : Nat} {s : Bs} {a : AccR} (hs : l[k]? = some s) (h : linesR (l.take k) accR0 = some a) (hok : (fieldOf s).2 = true) : linesR (l.take (k + 1)) accR0 = some (stepR a (fieldOf s).1) := by
  obtain ⟨hk, rfl⟩ := List.getElem?_eq_some_iff.1 hs
  rw [List.take_succ_eq_append_getElem hk, linesR_app, h]
  show linesR [l[k]] a = _
  rw [linesR, if_pos hok]; rfl
theorem linesR_bad {l : List Bs} {k : Nat} {s : Bs} {a : AccR} (hs : l[k]? = some s) (h : linesR (l.take k) accR0 = some a) (hok : (fieldOf s).2 = false) : linesR l accR0 = none := by
  obtain ⟨hk, rfl⟩ := List.getElem?_eq_some_iff.1 hs
  conv => lhs; rw [← List.take_append_drop (k + 1) l]
  rw [List.take_succ_eq_append_getElem hk, List.append_assoc, linesR_app, h]
  show linesR ([l[k]] ++ _) a = _
  rw [List.singleton_append, linesR, if_neg (by rw [hok]; simp)]
theorem msgFin_eq (f : Bs) (a : AccR) (b : Bs) (n : Nat) (q : Bool) (sz : Nat) (hq : (decide (1 < a.lens.length) || (decide (a.lens.length = 1) && !okLen (a.lens.headD []))) = q) (hs : (if a.lens.length = 1 ∧ okLen (a.lens.headD []) = true then valR (a.lens.headD []) 0 else 0) = sz) :
    msgFin f (some a) b n = if a.coded then ⟨f, a.heads, [], 0, 344, false⟩ else if q then ⟨f, a.heads, [], 0, 340, false⟩ else if 16 < a.heads.length then ⟨f, a.heads, [], 0, 342, false⟩ else if 8192 < sz then ⟨f, a.heads, [], 0, 343, false⟩ else if b.length - n < sz then ⟨f, a.heads, [], 0, 341, false⟩ else ⟨f, a.heads, (b.drop n).take sz, n + sz, 0, false⟩ := by
  subst hq hs; rfl
theorem valR_snoc (l : Bs) (c : UInt8) (n : Nat) : valR (l ++ [c]) n = 10 * valR l n + (c.toNat - 48) := by unfold valR; rw [List.foldl_append]; rfl
theorem valR_small {s : Bs} (h : allB s 48 57 = true) (h9 : s.length ≤ 9) : valR s 0 < 1000000000 := by
  have h1 := valR_bound s 0 h
  have h2 : 10 ^ s.length ≤ 10 ^ 9 := Nat.pow_le_pow_right (by decide) h9
  omega
theorem allB_take {s : Bs} (h : allB s 48 57 = true) (k : Nat) : allB (s.take k) 48 57 = true := by
  unfold allB at h ⊢
  rw [List.all_eq_true] at h ⊢
  exact fun c hc => h c (List.mem_of_mem_take hc)
end Ht
end Go.Proofs.YtoadahommlcjpaaGreatDoor
