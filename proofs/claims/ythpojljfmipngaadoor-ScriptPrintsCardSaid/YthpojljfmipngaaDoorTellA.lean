/-
  THE WALKS: Lines of package script. CONDITIONS: the replies lie as RepsAt says; Env.
-/
import Derived.Test.YthpojljfmipngaaDoorTellN
import Derived.Test.YthpojljfmipngaaDoorRefD
import Derived.Test.YthpojljfmipngaaDoorWalkE
namespace Go.Proofs.YthpojljfmipngaaDoor
open Go.RowKit
structure Rep where
  req : Int
  bytes : Sc.Bs
structure Tol where
  err : Int
  req : Int
  tick : Int
  reps : List Rep
def repLine (r : Rep) : Sc.Bs := [114, 101, 112, 108, 121] ++ Sc.numsText [r.req] ++ Sc.quoteT r.bytes ++ [10]
def tellHead (x : Sc.Ev) (t : Tol) : Sc.Bs := (if t.err ≠ 0 then [101, 114, 114] ++ Sc.numsText [t.err] else if x.kind = 1 then [111, 107] ++ Sc.numsText [t.req, t.tick] else [111, 107]) ++ [10]
def tellOf (x : Sc.Ev) (t : Tol) : Sc.Bs := tellHead x t ++ t.reps.flatMap repLine
def u32 (n : Int) : Prop := 0 ≤ n ∧ n ≤ 4294967295
/-- A row of replies. -/
def RepsAt (w : World) (A : Option Addr) (l : List Rep) : Prop :=
  l ≠ [] → ∃ b off, A = some ⟨b, off, none⟩ ∧ b < w.heap.size ∧ ∀ i r, l[i]? = some r → ∃ B bc, w.cell? ⟨b, off + i * 2, none⟩ = some (.int .u32 r.req) ∧ w.cell? ⟨b, off + i * 2 + 1, none⟩ = some (.slice B r.bytes.length bc) ∧ CellsAt w B (Lib.byteCells r.bytes) ∧ u32 r.req ∧ r.bytes.length ≤ 9223372036854775807
theorem RepsAt.at_ {w wr : World} {A : Option Addr} {l : List Rep} (h : RepsAt w A l) (hb : Below w.heap.size w wr) {k : Nat} {r : Rep} (hr : l[k]? = some r) :
    ∃ b off B bc, A = some ⟨b, off, none⟩ ∧ b < wr.heap.size ∧ wr.cell? ⟨b, off + k * 2, none⟩ = some (.int .u32 r.req) ∧ wr.cell? ⟨b, off + k * 2 + 1, none⟩ = some (.slice B r.bytes.length bc) ∧ CellsAt w B (Lib.byteCells r.bytes) ∧ u32 r.req := by
  obtain ⟨b, off, h1, h2, h3⟩ := h (by intro e; subst e; simp at hr)
  obtain ⟨B, bc, c0, c1, c2, c3, _⟩ := h3 k r hr
  exact ⟨b, off, B, bc, h1, Nat.lt_of_lt_of_le h2 hb.size, (hb.cell (p := ⟨b, off + k * 2, none⟩) h2).trans c0, (hb.cell (p := ⟨b, off + k * 2 + 1, none⟩) h2).trans c1, c2, c3⟩
theorem three (w : World) (a b c : Value) : ((((w.alloc (.cells #[a] 3)).alloc (.cells #[b] 3)).alloc (.cells #[c] 3)).drew).heap[w.heap.size]? = some (.cells #[a] 3 (0, 0)) ∧ ((((w.alloc (.cells #[a] 3)).alloc (.cells #[b] 3)).alloc (.cells #[c] 3)).drew).heap[w.heap.size + 1]? = some (.cells #[b] 3 (0, 0)) ∧ ((((w.alloc (.cells #[a] 3)).alloc (.cells #[b] 3)).alloc (.cells #[c] 3)).drew).heap[w.heap.size + 1 + 1]? = some (.cells #[c] 3 (0, 0)) ∧ Below w.heap.size w ((((w.alloc (.cells #[a] 3)).alloc (.cells #[b] 3)).alloc (.cells #[c] 3)).drew) := by
  have h1 := below_box w (.cells #[a] 3)
  have h2 := below_box (w.alloc (.cells #[a] 3)) (.cells #[b] 3)
  have h3 := below_box ((w.alloc (.cells #[a] 3)).alloc (.cells #[b] 3)) (.cells #[c] 3)
  have s1 : (w.alloc (.cells #[a] 3)).heap.size = w.heap.size + 1 := by simp
  have s2 : ((w.alloc (.cells #[a] 3)).alloc (.cells #[b] 3)).heap.size = w.heap.size + 1 + 1 := by simp
  have e1 := blk_next h3 (blk_next h2 (heap_alloc_new w (.cells #[a] 3)))
  refine ⟨e1, ?_, ?_, below_drewN (h1.trans ((h2.mono h1.size).trans (h3.mono (Nat.le_trans h1.size h2.size)))) 1⟩
  · have := blk_next h3 (heap_alloc_new (w.alloc (.cells #[a] 3)) (.cells #[b] 3))
    rw [s1] at this
    exact this
  · have := heap_alloc_new ((w.alloc (.cells #[a] 3)).alloc (.cells #[b] 3)) (.cells #[c] 3)
    rw [s2] at this
    exact this
/-- What stands behind the three boxes, in whatever order they were laid. -/
def TellF (w3 : World) (b : Nat) (t : Tol) (v6 v7 v8 : Value) (W : World) : Prop :=
  ∃ p6 p7 p8 : Nat, v6 = .pointer (some ⟨p6, 0, none⟩) ∧ v7 = .pointer (some ⟨p7, 0, none⟩) ∧ v8 = .pointer (some ⟨p8, 0, none⟩) ∧ b < p6 ∧ b < p7 ∧ b < p8 ∧
    W.heap[p6]? = some (.cells #[.int .i64 t.err] 3 (0, 0)) ∧ W.heap[p7]? = some (.cells #[.int .i64 t.req] 3 (0, 0)) ∧ W.heap[p8]? = some (.cells #[.int .i64 t.tick] 3 (0, 0)) ∧ Below w3.heap.size w3 W
theorem tell_len (x : Sc.Ev) (t : Tol) (k : Nat) (he : inI t.err) (hr : u32 t.req) (ht : u32 t.tick) (hn : t.reps.length ≤ 9) (hb : ∀ r ∈ t.reps, r.bytes.length ≤ 300 ∧ u32 r.req) : (tellHead x t ++ (t.reps.take k).flatMap repLine).length ≤ 100000 := by
  have h1 : (tellHead x t).length ≤ 100 := by
    have a1 := numsText_le [t.err] (by intro v hv; simp at hv; subst hv; exact he)
    have a2 := numsText_le [t.req, t.tick] (by intro v hv; unfold u32 at hr ht; simp at hv; rcases hv with rfl | rfl <;> omega)
    unfold tellHead
    split
    · simp only [List.length_append, List.length_cons, List.length_nil] at a1 ⊢; omega
    split
    · simp only [List.length_append, List.length_cons, List.length_nil] at a2 ⊢; omega
    · simp
  have h2 : ∀ l : List Rep, (∀ r ∈ l, r.bytes.length ≤ 300 ∧ u32 r.req) → (l.flatMap repLine).length ≤ 2000 * l.length := by
    intro l
    induction l with
    | nil => intro _; exact Nat.le_refl _
    | cons r l ih =>
      intro h
      have i1 := ih (fun y hy => h y (by simp [hy]))
      obtain ⟨i2, i3⟩ := h r (by simp)
      have i4 := quoteT_len r.bytes
      have i5 := numsText_le [r.req] (by intro v hv; unfold u32 at i3; simp at hv; subst hv; omega)
      have i6 : (repLine r).length = 5 + (Sc.numsText [r.req]).length + (Sc.quoteT r.bytes).length + 1 := by
        unfold repLine
        simp only [List.length_append, List.length_cons, List.length_nil]
      rw [List.flatMap_cons, List.length_append, List.length_cons]
      simp only [List.length_cons, List.length_nil] at i5
      omega
  have h3 := h2 (t.reps.take k) (fun r hr => hb r (List.mem_of_mem_take hr))
  rw [List.length_append]
  rw [List.length_take] at h3
  omega
def tolV (t : Tol) (A : Option Addr) (c : Nat) : Value := .agg #[.int .i64 t.err, .int .u32 t.req, .int .u32 t.tick, .slice A t.reps.length c]
set_option maxRecDepth 100000 in
set_option maxHeartbeats 8000000 in
theorem lines28_any (x : Sc.Ev) (K A : Option Addr) (kc bc : Nat) (t : Tol) (R : Option Addr) (rc : Nat) (w : World) (henv : Env w) (hR : RepsAt w R t.reps) (he : inI t.err) (hr : u32 t.req) (ht : u32 t.tick) (hn : t.reps.length ≤ 9) (hby2 : ∀ r ∈ t.reps, r.bytes.length ≤ 300 ∧ u32 r.req) :
    Calls Tryd.prog 18 #[evV x K A kc bc, tolV t R rc] w fun e w' => e = .returned (.string ⟨(tellOf x t).toArray⟩) ∧ Below w.heap.size w w' := by
  have hb1 := below_box w (.cells #[.int .i64 x.kind, .int .i64 x.node, .int .i64 x.to, .int .i64 x.n, .int .i64 x.bit, .slice K x.keep.length kc, .slice A x.bytes.length bc] 45)
  have hx1 := heap_alloc_new w (.cells #[.int .i64 x.kind, .int .i64 x.node, .int .i64 x.to, .int .i64 x.n, .int .i64 x.bit, .slice K x.keep.length kc, .slice A x.bytes.length bc] 45)
  generalize hw1 : w.alloc (.cells #[.int .i64 x.kind, .int .i64 x.node, .int .i64 x.to, .int .i64 x.n, .int .i64 x.bit, .slice K x.keep.length kc, .slice A x.bytes.length bc] 45) = w1 at hb1 hx1
  have hs1 : w1.heap.size = w.heap.size + 1 := by rw [← hw1]; simp
  have hb2 := below_box w1 (.cells #[.int .i64 t.err, .int .u32 t.req, .int .u32 t.tick, .slice R t.reps.length rc] 49)
  have hx2 := heap_alloc_new w1 (.cells #[.int .i64 t.err, .int .u32 t.req, .int .u32 t.tick, .slice R t.reps.length rc] 49)
  generalize hw2 : w1.alloc (.cells #[.int .i64 t.err, .int .u32 t.req, .int .u32 t.tick, .slice R t.reps.length rc] 49) = w2 at hb2 hx2
  have hs2 : w2.heap.size = w.heap.size + 2 := by rw [← hw2]; simp [hs1]
  have hb3 := below_box w2 (.cells #[.pointer none, .slice none 0 0] 65)
  have hi3 := isB_new w2
  have HX : Hid (EvBox (w2.alloc (.cells #[.pointer none, .slice none 0 0] 65)) w.heap.size x K A kc bc) := Lib.hid (blk_next hb3 (blk_next hb2 hx1))
  have HT : Hid ((w2.alloc (.cells #[.pointer none, .slice none 0 0] 65)).heap[w.heap.size + 1]? = some (.cells #[.int .i64 t.err, .int .u32 t.req, .int .u32 t.tick, .slice R t.reps.length rc] 49 (0, 0))) := Lib.hid (blk_next hb3 (by rw [← hs1]; exact hx2))
  have hbw := hb1.trans ((hb2.mono hb1.size).trans (hb3.mono (Nat.le_trans hb1.size hb2.size)))
  rw [hs2] at hi3
  have HI := Lib.hid hi3
  have HB := Lib.hid hbw
  have HR := Lib.hid hR
  have HENV := Lib.hid henv
  have HE := Lib.hid he
  have HLEN : Hid (∀ k, (tellHead x t ++ (t.reps.take k).flatMap repLine).length ≤ 100000) := Lib.hid (fun k => tell_len x t k he hr ht hn hby2)
  have hb := fun r h => (hby2 r h).1
  have HBY := Lib.hid hb
  obtain ⟨r1, r2⟩ := hr
  obtain ⟨k1, k2⟩ := ht
  clear hb1 hx1 hx2 hb3 hi3 hbw hR henv he hb hb2 hby2
  unfold evV tolV
  go_enter Tryd.func18, Tryd.ntmps18
  go_wp2_with fail
  generalize w2.alloc (.cells #[.pointer none, .slice none 0 0] 65) = w3 at HX HT HI HB ⊢
  generalize hb' : w.heap.size + 2 = b at HI hs2 ⊢
  generalize htb : w.heap.size + 1 = tb at HT ⊢
  generalize hxb : w.heap.size = xb at HX ⊢
  clear hw1 hw2 hs1 hs2
  have hb6 : 6 ≤ b := by have := HENV.out.big; omega
  have hbge : w.heap.size ≤ b := by omega
  refine (fun (key : ∀ (v6 v7 v8 : Value) (W : World), TellF w3 b t v6 v7 v8 W → (?H : Value → Value → Value → World → Prop) v6 v7 v8 W) => ?step) ?main
  case step =>
    have t0 := blk_cells HT.out 0
    have t1 := blk_cells HT.out 1
    have t2 := blk_cells HT.out 2
    have tlt : tb < w3.heap.size := (Array.getElem?_eq_some_iff.1 HT.out).1
    have hlt3 := HI.out.lt
    have tl1 : tb < w3.heap.size + 1 := by omega
    have tl2 : tb < w3.heap.size + 2 := by omega
    have tl3 : tb < w3.heap.size + 1 + 1 := by omega
    have tn0 : tb ≠ w3.heap.size := by omega
    have tn1 : tb ≠ w3.heap.size + 1 := by omega
    have tn2 : tb ≠ w3.heap.size + 2 := by omega
    have tn3 : tb ≠ w3.heap.size + 1 + 1 := by omega
    go_region
    · obtain ⟨g0, g1, g2, hbw⟩ := three w3 (.int .i64 t.err) (.int .i64 t.req) (.int .i64 t.tick)
      have hF : TellF w3 b t (Value.pointer (some ⟨w3.heap.size, 0, none⟩)) (Value.pointer (some ⟨w3.heap.size + 1, 0, none⟩)) (Value.pointer (some ⟨w3.heap.size + 1 + 1, 0, none⟩)) ((((w3.alloc (.cells #[.int .i64 t.err] 3)).alloc (.cells #[.int .i64 t.req] 3)).alloc (.cells #[.int .i64 t.tick] 3)).drew) := ⟨_, _, _, rfl, rfl, rfl, by omega, by omega, by omega, g0, g1, g2, hbw⟩
      clear g0 g1 g2 hbw
      generalize Value.pointer (some ⟨w3.heap.size, 0, none⟩) = v6 at hF ⊢
      generalize Value.pointer (some ⟨w3.heap.size + 1, 0, none⟩) = v7 at hF ⊢
      generalize Value.pointer (some ⟨w3.heap.size + 1 + 1, 0, none⟩) = v8 at hF ⊢
      generalize (((w3.alloc (.cells #[.int .i64 t.err] 3)).alloc (.cells #[.int .i64 t.req] 3)).alloc (.cells #[.int .i64 t.tick] 3)).drew = w4 at hF ⊢
      exact key v6 v7 v8 w4 hF
    · obtain ⟨g0, g1, g2, hbw⟩ := three w3 (.int .i64 t.err) (.int .i64 t.tick) (.int .i64 t.req)
      have hF : TellF w3 b t (Value.pointer (some ⟨w3.heap.size, 0, none⟩)) (Value.pointer (some ⟨w3.heap.size + 1 + 1, 0, none⟩)) (Value.pointer (some ⟨w3.heap.size + 1, 0, none⟩)) ((((w3.alloc (.cells #[.int .i64 t.err] 3)).alloc (.cells #[.int .i64 t.tick] 3)).alloc (.cells #[.int .i64 t.req] 3)).drew) := ⟨_, _, _, rfl, rfl, rfl, by omega, by omega, by omega, g0, g2, g1, hbw⟩
      clear g0 g1 g2 hbw
      generalize Value.pointer (some ⟨w3.heap.size, 0, none⟩) = v6 at hF ⊢
      generalize Value.pointer (some ⟨w3.heap.size + 1 + 1, 0, none⟩) = v7 at hF ⊢
      generalize Value.pointer (some ⟨w3.heap.size + 1, 0, none⟩) = v8 at hF ⊢
      generalize (((w3.alloc (.cells #[.int .i64 t.err] 3)).alloc (.cells #[.int .i64 t.tick] 3)).alloc (.cells #[.int .i64 t.req] 3)).drew = w4 at hF ⊢
      exact key v6 v7 v8 w4 hF
    · obtain ⟨g0, g1, g2, hbw⟩ := three w3 (.int .i64 t.req) (.int .i64 t.err) (.int .i64 t.tick)
      have hF : TellF w3 b t (Value.pointer (some ⟨w3.heap.size + 1, 0, none⟩)) (Value.pointer (some ⟨w3.heap.size, 0, none⟩)) (Value.pointer (some ⟨w3.heap.size + 1 + 1, 0, none⟩)) ((((w3.alloc (.cells #[.int .i64 t.req] 3)).alloc (.cells #[.int .i64 t.err] 3)).alloc (.cells #[.int .i64 t.tick] 3)).drew) := ⟨_, _, _, rfl, rfl, rfl, by omega, by omega, by omega, g1, g0, g2, hbw⟩
      clear g0 g1 g2 hbw
      generalize Value.pointer (some ⟨w3.heap.size + 1, 0, none⟩) = v6 at hF ⊢
      generalize Value.pointer (some ⟨w3.heap.size, 0, none⟩) = v7 at hF ⊢
      generalize Value.pointer (some ⟨w3.heap.size + 1 + 1, 0, none⟩) = v8 at hF ⊢
      generalize (((w3.alloc (.cells #[.int .i64 t.req] 3)).alloc (.cells #[.int .i64 t.err] 3)).alloc (.cells #[.int .i64 t.tick] 3)).drew = w4 at hF ⊢
      exact key v6 v7 v8 w4 hF
    · obtain ⟨g0, g1, g2, hbw⟩ := three w3 (.int .i64 t.req) (.int .i64 t.tick) (.int .i64 t.err)
      have hF : TellF w3 b t (Value.pointer (some ⟨w3.heap.size + 1 + 1, 0, none⟩)) (Value.pointer (some ⟨w3.heap.size, 0, none⟩)) (Value.pointer (some ⟨w3.heap.size + 1, 0, none⟩)) ((((w3.alloc (.cells #[.int .i64 t.req] 3)).alloc (.cells #[.int .i64 t.tick] 3)).alloc (.cells #[.int .i64 t.err] 3)).drew) := ⟨_, _, _, rfl, rfl, rfl, by omega, by omega, by omega, g2, g0, g1, hbw⟩
      clear g0 g1 g2 hbw
      generalize Value.pointer (some ⟨w3.heap.size + 1 + 1, 0, none⟩) = v6 at hF ⊢
      generalize Value.pointer (some ⟨w3.heap.size, 0, none⟩) = v7 at hF ⊢
      generalize Value.pointer (some ⟨w3.heap.size + 1, 0, none⟩) = v8 at hF ⊢
      generalize (((w3.alloc (.cells #[.int .i64 t.req] 3)).alloc (.cells #[.int .i64 t.tick] 3)).alloc (.cells #[.int .i64 t.err] 3)).drew = w4 at hF ⊢
      exact key v6 v7 v8 w4 hF
    · obtain ⟨g0, g1, g2, hbw⟩ := three w3 (.int .i64 t.tick) (.int .i64 t.err) (.int .i64 t.req)
      have hF : TellF w3 b t (Value.pointer (some ⟨w3.heap.size + 1, 0, none⟩)) (Value.pointer (some ⟨w3.heap.size + 1 + 1, 0, none⟩)) (Value.pointer (some ⟨w3.heap.size, 0, none⟩)) ((((w3.alloc (.cells #[.int .i64 t.tick] 3)).alloc (.cells #[.int .i64 t.err] 3)).alloc (.cells #[.int .i64 t.req] 3)).drew) := ⟨_, _, _, rfl, rfl, rfl, by omega, by omega, by omega, g1, g2, g0, hbw⟩
      clear g0 g1 g2 hbw
      generalize Value.pointer (some ⟨w3.heap.size + 1, 0, none⟩) = v6 at hF ⊢
      generalize Value.pointer (some ⟨w3.heap.size + 1 + 1, 0, none⟩) = v7 at hF ⊢
      generalize Value.pointer (some ⟨w3.heap.size, 0, none⟩) = v8 at hF ⊢
      generalize (((w3.alloc (.cells #[.int .i64 t.tick] 3)).alloc (.cells #[.int .i64 t.err] 3)).alloc (.cells #[.int .i64 t.req] 3)).drew = w4 at hF ⊢
      exact key v6 v7 v8 w4 hF
    · obtain ⟨g0, g1, g2, hbw⟩ := three w3 (.int .i64 t.tick) (.int .i64 t.req) (.int .i64 t.err)
      have hF : TellF w3 b t (Value.pointer (some ⟨w3.heap.size + 1 + 1, 0, none⟩)) (Value.pointer (some ⟨w3.heap.size + 1, 0, none⟩)) (Value.pointer (some ⟨w3.heap.size, 0, none⟩)) ((((w3.alloc (.cells #[.int .i64 t.tick] 3)).alloc (.cells #[.int .i64 t.req] 3)).alloc (.cells #[.int .i64 t.err] 3)).drew) := ⟨_, _, _, rfl, rfl, rfl, by omega, by omega, by omega, g2, g1, g0, hbw⟩
      clear g0 g1 g2 hbw
      generalize Value.pointer (some ⟨w3.heap.size + 1 + 1, 0, none⟩) = v6 at hF ⊢
      generalize Value.pointer (some ⟨w3.heap.size + 1, 0, none⟩) = v7 at hF ⊢
      generalize Value.pointer (some ⟨w3.heap.size, 0, none⟩) = v8 at hF ⊢
      generalize (((w3.alloc (.cells #[.int .i64 t.tick] 3)).alloc (.cells #[.int .i64 t.req] 3)).alloc (.cells #[.int .i64 t.err] 3)).drew = w4 at hF ⊢
      exact key v6 v7 v8 w4 hF
  case main =>
    intro v6 v7 v8 w4 hF
    obtain ⟨p6, p7, p8, h6, h7, h8, hq6, hq7, hq8, g6, g7, g8, hbw⟩ := hF
    subst h6
    subst h7
    subst h8
    have HX4 := Lib.hid (HX.out.next hbw)
    have HT4 := Lib.hid (blk_next hbw HT.out)
    have HI4 := Lib.hid (HI.out.next hbw)
    have HB4 := Lib.hid (HB.out.trans (hbw.mono HB.out.size))
    have G6 := Lib.hid g6
    have G7 := Lib.hid g7
    have G8 := Lib.hid g8
    have j6 := (blk_cells g6 0).trans rfl
    have c0 := HX4.out.cells.1
    clear g6 g7 g8 hbw HX HT HI HB
    by_cases he0 : t.err = 0
    · have eb : (t.err != 0) = false := by rw [he0]; rfl
      by_cases hk1 : x.kind = 1
      · have kb : (x.kind == 1) = true := by rw [hk1]; rfl
        have HHD : Hid (tellHead x t = ([] ++ [111, 107]) ++ Sc.numsText [t.req, t.tick] ++ [10]) := Lib.hid (by unfold tellHead; rw [if_neg (by simp [he0]), if_pos hk1]; simp)
        have HNT : Hid ((Sc.numsText [t.req, t.tick]).length ≤ 44) := Lib.hid (numsText_le [t.req, t.tick] (by intro v hv; simp at hv; rcases hv with rfl | rfl <;> omega))
        clear he0 hk1
        have N70 := G7
        have N80 := G8
        go_wp2_with fail
        refine (writeString_at b b [] [111, 107] _ rfl _ HI4.out (by simp)).mono ?_
        rintro e wh ⟨rfl, hIh, hbh, hkh⟩
        have N7 := Lib.hid (hkh p7 _ N70.out (fun e => by have := Option.some.inj e; omega) (fun c fz e => by injection e with _ e2; cases e2))
        have N8 := Lib.hid (hkh p8 _ N80.out (fun e => by have := Option.some.inj e; omega) (fun c fz e => by injection e with _ e2; cases e2))
        have HTh := Lib.hid (hkh tb _ HT4.out (fun e => by have := Option.some.inj e; omega) (fun c fz e => by injection e with _ e2; cases e2))
        have HBh := Lib.hid (HB4.out.trans (hbh.mono hbge))
        have HIh := Lib.hid hIh
        clear hIh hbh hkh
        go_wp2_with fail
        have hal := below_box wh (.cells #[.pointer (some ⟨p7, 0, none⟩), .pointer (some ⟨p8, 0, none⟩)] 81)
        have N7c := Lib.hid (blk_next hal N7.out)
        have N8c := Lib.hid (blk_next hal N8.out)
        have HTc := Lib.hid (blk_next hal HTh.out)
        have HBc := Lib.hid (HBh.out.trans (hal.mono HBh.out.size))
        refine (wnumbersP_any b b _ _ [p7, p8] [t.req, t.tick] _ _ (HENV.out.next HBc.out) hb6 (HIh.out.next hal) (by have := HNT.out; simp only [List.length_append, List.length_cons, List.length_nil] at this ⊢; omega) (by simp) rfl (rowP_new wh _ [p7, p8] rfl) (by
          intro i p v hp hv
          match i, hp, hv with
          | 0, hp, hv =>
            simp at hp hv
            subst hp
            subst hv
            exact ⟨N7c.out, by omega, by unfold inI; omega⟩
          | 1, hp, hv =>
            simp at hp hv
            subst hp
            subst hv
            exact ⟨N8c.out, by omega, by unfold inI; omega⟩)).mono ?_
        rintro e wn ⟨rfl, hIn, hbn, hkn⟩
        have HTn := Lib.hid (hkn tb _ HTc.out (fun e => by have := Option.some.inj e; omega) (fun c fz e => by injection e with _ e2; cases e2))
        have HBn := Lib.hid (HBc.out.trans (hbn.mono hbge))
        have HIn := Lib.hid hIn
        clear hal hIn hbn hkn HIh HBh HTh HTc HBc
        have HIh := HIn
        have HBh := HBn
        have HTh := HTn
        clear HIn HBn HTn
        go_wp2_with fail
        refine (writeByte_at b b _ 10 10 rfl _ HIh.out (by have := HNT.out; simp only [List.length_append, List.length_cons, List.length_nil] at this ⊢; omega)).mono ?_
        rintro e wl ⟨rfl, hIl, hbl, hkl⟩
        have HTL := Lib.hid (hkl tb _ HTh.out (fun e => by have := Option.some.inj e; omega) (fun c fz e => by injection e with _ e2; cases e2))
        have HBL := Lib.hid (HBh.out.trans (hbl.mono hbge))
        have HIL : Hid (IsB b b (tellHead x t) wl) := Lib.hid (by rw [HHD.out]; exact hIl)
        clear hIl hbl hkl HIh HBh HTh
        obtain ⟨tc0, tc1, tc2, tc3⟩ : _ ∧ _ ∧ _ ∧ _ := ⟨blk_cells HTL.out 0, blk_cells HTL.out 1, blk_cells HTL.out 2, (blk_cells HTL.out 3).trans rfl⟩
        clear tc0 tc1 tc2
        go_wp2_with fail
        clear tc3
        go_loopw [10, 11, 42] (fun _ _ i wr => ∃ k : Nat, k ≤ t.reps.length ∧ i = .int .i64 k ∧ IsB b b (tellHead x t ++ (t.reps.take k).flatMap repLine) wr ∧ Below w.heap.size w wr) (fun _ _ i _ => t.reps.length - (intOf i).toNat)
        case atStart => exact ⟨0, Nat.zero_le _, rfl, by simpa using HIL.out, HBL.out⟩
        case round =>
          obtain ⟨k, hk, rfl, hI, hb⟩ := hrel
          have HIk := Lib.hid hI
          have HBk := Lib.hid hb
          clear hI
          by_cases hlt : k < t.reps.length
          · have hr1 : t.reps[k]? = some t.reps[k] := List.getElem?_eq_getElem hlt
            have HS : Hid (tellHead x t ++ (t.reps.take (k + 1)).flatMap repLine = (tellHead x t ++ (t.reps.take k).flatMap repLine) ++ repLine t.reps[k]) := Lib.hid (by
              rw [List.take_succ_eq_append_getElem hlt, List.flatMap_append]; simp)
            have hlen := HLEN.out k
            have hby := HBY.out _ (List.getElem_mem hlt)
            obtain ⟨g, off, B', bc', rfl, hgl, e0, e1, hcb, hu⟩ := HR.out.at_ hb hr1
            generalize t.reps[k] = r at HS hby e0 e1 hcb hu
            generalize tellHead x t ++ (t.reps.take k).flatMap repLine = out at HIk HS hlen
            obtain ⟨u1, u2⟩ := hu
            have hba := below_box wr (.cells #[.int .u32 r.req, .slice B' r.bytes.length bc'] 51)
            have hbb := below_box (wr.alloc (.cells #[.int .u32 r.req, .slice B' r.bytes.length bc'] 51)) (.cells #[.int .i64 r.req] 3)
            have hx1 := blk_next hbb (heap_alloc_new wr (.cells #[.int .u32 r.req, .slice B' r.bytes.length bc'] 51))
            have hx2 := heap_alloc_new (wr.alloc (.cells #[.int .u32 r.req, .slice B' r.bytes.length bc'] 51)) (.cells #[.int .i64 r.req] 3)
            have hz1 : (wr.alloc (.cells #[.int .u32 r.req, .slice B' r.bytes.length bc'] 51)).heap.size = wr.heap.size + 1 := by simp
            rw [hz1] at hx2
            have hbw := hba.trans (hbb.mono hba.size)
            have HX1 := Lib.hid hx1
            have HX2 := Lib.hid hx2
            have HI1 := Lib.hid (HIk.out.next hbw)
            have HB1 := Lib.hid (HBk.out.trans (hbw.mono HBk.out.size))
            have HCB := Lib.hid hcb
            have hblt := HIk.out.lt
            have hlu : (Sc.numsText [r.req]).length ≤ 22 := numsText_le [r.req] (by intro v hv; simp at hv; subst hv; omega)
            have hql := quoteT_len r.bytes
            clear hba hbb hx1 hx2 hz1 hbw hr1 hb hcb
            go_wp2_with fail
            generalize (wr.alloc (.cells #[.int .u32 r.req, .slice B' r.bytes.length bc'] 51)).alloc (.cells #[.int .i64 r.req] 3) = wa at HX1 HX2 HI1 HB1 ⊢
            generalize hnb : wr.heap.size + 1 = nb at HX2 ⊢
            generalize hrb : wr.heap.size = rb at HX1 hblt ⊢
            clear e0 e1
            refine (writeString_at b b out [114, 101, 112, 108, 121] _ rfl _ HI1.out (by simp only [List.length_cons, List.length_nil]; omega)).mono ?_
            rintro e wb ⟨rfl, hI2, hb2, hk2⟩
            have HX1b := Lib.hid (hk2 rb _ HX1.out (fun e => by have := Option.some.inj e; omega) (fun c fz e => by injection e with _ e2; cases e2))
            have HX2b := Lib.hid (hk2 nb _ HX2.out (fun e => by have := Option.some.inj e; omega) (fun c fz e => by injection e with _ e2; cases e2))
            have HI2 := Lib.hid hI2
            have HB2 := Lib.hid (HB1.out.trans (hb2.mono hbge))
            clear hI2 hb2 hk2 HX1 HX2 HI1 HB1
            go_wp2_with fail
            have hal := below_box wb (.cells #[.pointer (some ⟨nb, 0, none⟩)] 81)
            have HX1c := Lib.hid (blk_next hal HX1b.out)
            have HX2c := Lib.hid (blk_next hal HX2b.out)
            have HB2c := Lib.hid (HB2.out.trans (hal.mono HB2.out.size))
            refine (wnumbersP_any b b _ _ [nb] [r.req] _ _ (HENV.out.next HB2c.out) hb6 (HI2.out.next hal) (by simp only [List.length_append, List.length_cons, List.length_nil]; omega) (by simp) rfl (rowP_new wb _ [nb] rfl) (by
              intro i p v hp hv
              match i, hp, hv with
              | 0, hp, hv =>
                simp at hp hv
                subst hp
                subst hv
                exact ⟨HX2c.out, by omega, by unfold inI; omega⟩)).mono ?_
            rintro e wc ⟨rfl, hI3, hb3, hk3⟩
            have HX1d := Lib.hid (hk3 rb _ HX1c.out (fun e => by have := Option.some.inj e; omega) (fun c fz e => by injection e with _ e2; cases e2))
            have HI3 := Lib.hid hI3
            have HB3 := Lib.hid (HB2c.out.trans (hb3.mono hbge))
            have HCB3 := Lib.hid (HCB.out.next HB3.out (Nat.le_refl _))
            clear hal hI3 hb3 hk3 HX1b HX2b HI2 HB2 HX1c HX2c HB2c
            have f1 := (blk_cells HX1d.out 1).trans rfl
            have hcv := conv_bytes HCB3.out bc'
            go_wp2_with fail
            refine (wquote_any b b _ _ _ (by rw [Lib.size_eq]; simp only; omega) HI3.out (by simp only [List.length_append, List.length_cons, List.length_nil]; omega)).mono ?_
            rintro e wd ⟨rfl, hI4, hb4⟩
            have HI4 := Lib.hid hI4
            have HB4 := Lib.hid (HB3.out.trans (hb4.mono hbge))
            clear hI4 hb4 f1 hcv HX1d HI3 HB3 HCB3
            go_wp2_with fail
            refine (writeByte_at b b _ 10 10 rfl _ HI4.out (by simp only [List.length_append, List.length_cons, List.length_nil]; omega)).mono ?_
            rintro e we ⟨rfl, hI5, hb5, _⟩
            have HI5 := Lib.hid hI5
            have HB5 := Lib.hid (HB4.out.trans (hb5.mono hbge))
            clear hI5 hb5 HI4 HB4
            go_wp2_with fail
            go_roundw
            case rel => exact ⟨k + 1, by omega, by go_num, by rw [HS.out]; have := HI5.out; unfold repLine; simpa using this, HB5.out⟩
            case measure => simp [intOf]; omega
          · have HF : Hid (IsB b b (tellOf x t) wr) := Lib.hid (by
              have := HIk.out
              rw [List.take_of_length_le (by omega)] at this
              exact this)
            have hne : tellOf x t ≠ [] := by unfold tellOf tellHead; split <;> simp
            have HNE := Lib.hid hne
            clear hb hne
            go_wp2_with fail
            refine (bldString_any b b _ _ HF.out HNE.out).mono ?_
            rintro e wz ⟨rfl, hbz⟩
            have HBZ := Lib.hid (HBk.out.trans (hbz.mono hbge))
            clear hbz
            go_wp2_with fail
            go_ret
            exact ⟨rfl, by rw [hxb]; exact hxb ▸ HBZ.out⟩
      · have kb : (x.kind == 1) = false := beq_eq_false_iff_ne.2 hk1
        have HHD : Hid (tellHead x t = ([] ++ [111, 107]) ++ [10]) := Lib.hid (by unfold tellHead; rw [if_neg (by simp [he0]), if_neg hk1]; simp)
        clear he0 hk1
        go_wp2_with fail
        refine (writeString_at b b [] [111, 107] _ rfl _ HI4.out (by simp)).mono ?_
        rintro e wh ⟨rfl, hIh, hbh, hkh⟩
        have HTh := Lib.hid (hkh tb _ HT4.out (fun e => by have := Option.some.inj e; omega) (fun c fz e => by injection e with _ e2; cases e2))
        have HBh := Lib.hid (HB4.out.trans (hbh.mono hbge))
        have HIh := Lib.hid hIh
        clear hIh hbh hkh
        go_wp2_with fail
        refine (writeByte_at b b _ 10 10 rfl _ HIh.out (by simp)).mono ?_
        rintro e wl ⟨rfl, hIl, hbl, hkl⟩
        have HTL := Lib.hid (hkl tb _ HTh.out (fun e => by have := Option.some.inj e; omega) (fun c fz e => by injection e with _ e2; cases e2))
        have HBL := Lib.hid (HBh.out.trans (hbl.mono hbge))
        have HIL : Hid (IsB b b (tellHead x t) wl) := Lib.hid (by rw [HHD.out]; exact hIl)
        clear hIl hbl hkl HIh HBh HTh
        obtain ⟨tc0, tc1, tc2, tc3⟩ : _ ∧ _ ∧ _ ∧ _ := ⟨blk_cells HTL.out 0, blk_cells HTL.out 1, blk_cells HTL.out 2, (blk_cells HTL.out 3).trans rfl⟩
        clear tc0 tc1 tc2
        go_wp2_with fail
        clear tc3
        go_loopw [10, 11, 42] (fun _ _ i wr => ∃ k : Nat, k ≤ t.reps.length ∧ i = .int .i64 k ∧ IsB b b (tellHead x t ++ (t.reps.take k).flatMap repLine) wr ∧ Below w.heap.size w wr) (fun _ _ i _ => t.reps.length - (intOf i).toNat)
        case atStart => exact ⟨0, Nat.zero_le _, rfl, by simpa using HIL.out, HBL.out⟩
        case round =>
          obtain ⟨k, hk, rfl, hI, hb⟩ := hrel
          have HIk := Lib.hid hI
          have HBk := Lib.hid hb
          clear hI
          by_cases hlt : k < t.reps.length
          · have hr1 : t.reps[k]? = some t.reps[k] := List.getElem?_eq_getElem hlt
            have HS : Hid (tellHead x t ++ (t.reps.take (k + 1)).flatMap repLine = (tellHead x t ++ (t.reps.take k).flatMap repLine) ++ repLine t.reps[k]) := Lib.hid (by
              rw [List.take_succ_eq_append_getElem hlt, List.flatMap_append]; simp)
            have hlen := HLEN.out k
            have hby := HBY.out _ (List.getElem_mem hlt)
            obtain ⟨g, off, B', bc', rfl, hgl, e0, e1, hcb, hu⟩ := HR.out.at_ hb hr1
            generalize t.reps[k] = r at HS hby e0 e1 hcb hu
            generalize tellHead x t ++ (t.reps.take k).flatMap repLine = out at HIk HS hlen
            obtain ⟨u1, u2⟩ := hu
            have hba := below_box wr (.cells #[.int .u32 r.req, .slice B' r.bytes.length bc'] 51)
            have hbb := below_box (wr.alloc (.cells #[.int .u32 r.req, .slice B' r.bytes.length bc'] 51)) (.cells #[.int .i64 r.req] 3)
            have hx1 := blk_next hbb (heap_alloc_new wr (.cells #[.int .u32 r.req, .slice B' r.bytes.length bc'] 51))
            have hx2 := heap_alloc_new (wr.alloc (.cells #[.int .u32 r.req, .slice B' r.bytes.length bc'] 51)) (.cells #[.int .i64 r.req] 3)
            have hz1 : (wr.alloc (.cells #[.int .u32 r.req, .slice B' r.bytes.length bc'] 51)).heap.size = wr.heap.size + 1 := by simp
            rw [hz1] at hx2
            have hbw := hba.trans (hbb.mono hba.size)
            have HX1 := Lib.hid hx1
            have HX2 := Lib.hid hx2
            have HI1 := Lib.hid (HIk.out.next hbw)
            have HB1 := Lib.hid (HBk.out.trans (hbw.mono HBk.out.size))
            have HCB := Lib.hid hcb
            have hblt := HIk.out.lt
            have hlu : (Sc.numsText [r.req]).length ≤ 22 := numsText_le [r.req] (by intro v hv; simp at hv; subst hv; omega)
            have hql := quoteT_len r.bytes
            clear hba hbb hx1 hx2 hz1 hbw hr1 hb hcb
            go_wp2_with fail
            generalize (wr.alloc (.cells #[.int .u32 r.req, .slice B' r.bytes.length bc'] 51)).alloc (.cells #[.int .i64 r.req] 3) = wa at HX1 HX2 HI1 HB1 ⊢
            generalize hnb : wr.heap.size + 1 = nb at HX2 ⊢
            generalize hrb : wr.heap.size = rb at HX1 hblt ⊢
            clear e0 e1
            refine (writeString_at b b out [114, 101, 112, 108, 121] _ rfl _ HI1.out (by simp only [List.length_cons, List.length_nil]; omega)).mono ?_
            rintro e wb ⟨rfl, hI2, hb2, hk2⟩
            have HX1b := Lib.hid (hk2 rb _ HX1.out (fun e => by have := Option.some.inj e; omega) (fun c fz e => by injection e with _ e2; cases e2))
            have HX2b := Lib.hid (hk2 nb _ HX2.out (fun e => by have := Option.some.inj e; omega) (fun c fz e => by injection e with _ e2; cases e2))
            have HI2 := Lib.hid hI2
            have HB2 := Lib.hid (HB1.out.trans (hb2.mono hbge))
            clear hI2 hb2 hk2 HX1 HX2 HI1 HB1
            go_wp2_with fail
            have hal := below_box wb (.cells #[.pointer (some ⟨nb, 0, none⟩)] 81)
            have HX1c := Lib.hid (blk_next hal HX1b.out)
            have HX2c := Lib.hid (blk_next hal HX2b.out)
            have HB2c := Lib.hid (HB2.out.trans (hal.mono HB2.out.size))
            refine (wnumbersP_any b b _ _ [nb] [r.req] _ _ (HENV.out.next HB2c.out) hb6 (HI2.out.next hal) (by simp only [List.length_append, List.length_cons, List.length_nil]; omega) (by simp) rfl (rowP_new wb _ [nb] rfl) (by
              intro i p v hp hv
              match i, hp, hv with
              | 0, hp, hv =>
                simp at hp hv
                subst hp
                subst hv
                exact ⟨HX2c.out, by omega, by unfold inI; omega⟩)).mono ?_
            rintro e wc ⟨rfl, hI3, hb3, hk3⟩
            have HX1d := Lib.hid (hk3 rb _ HX1c.out (fun e => by have := Option.some.inj e; omega) (fun c fz e => by injection e with _ e2; cases e2))
            have HI3 := Lib.hid hI3
            have HB3 := Lib.hid (HB2c.out.trans (hb3.mono hbge))
            have HCB3 := Lib.hid (HCB.out.next HB3.out (Nat.le_refl _))
            clear hal hI3 hb3 hk3 HX1b HX2b HI2 HB2 HX1c HX2c HB2c
            have f1 := (blk_cells HX1d.out 1).trans rfl
            have hcv := conv_bytes HCB3.out bc'
            go_wp2_with fail
            refine (wquote_any b b _ _ _ (by rw [Lib.size_eq]; simp only; omega) HI3.out (by simp only [List.length_append, List.length_cons, List.length_nil]; omega)).mono ?_
            rintro e wd ⟨rfl, hI4, hb4⟩
            have HI4 := Lib.hid hI4
            have HB4 := Lib.hid (HB3.out.trans (hb4.mono hbge))
            clear hI4 hb4 f1 hcv HX1d HI3 HB3 HCB3
            go_wp2_with fail
            refine (writeByte_at b b _ 10 10 rfl _ HI4.out (by simp only [List.length_append, List.length_cons, List.length_nil]; omega)).mono ?_
            rintro e we ⟨rfl, hI5, hb5, _⟩
            have HI5 := Lib.hid hI5
            have HB5 := Lib.hid (HB4.out.trans (hb5.mono hbge))
            clear hI5 hb5 HI4 HB4
            go_wp2_with fail
            go_roundw
            case rel => exact ⟨k + 1, by omega, by go_num, by rw [HS.out]; have := HI5.out; unfold repLine; simpa using this, HB5.out⟩
            case measure => simp [intOf]; omega
          · have HF : Hid (IsB b b (tellOf x t) wr) := Lib.hid (by
              have := HIk.out
              rw [List.take_of_length_le (by omega)] at this
              exact this)
            have hne : tellOf x t ≠ [] := by unfold tellOf tellHead; split <;> simp
            have HNE := Lib.hid hne
            clear hb hne
            go_wp2_with fail
            refine (bldString_any b b _ _ HF.out HNE.out).mono ?_
            rintro e wz ⟨rfl, hbz⟩
            have HBZ := Lib.hid (HBk.out.trans (hbz.mono hbge))
            clear hbz
            go_wp2_with fail
            go_ret
            exact ⟨rfl, by rw [hxb]; exact hxb ▸ HBZ.out⟩
    · have eb : (t.err != 0) = true := by rw [bne_iff_ne]; exact he0
      have HHD : Hid (tellHead x t = ([] ++ [101, 114, 114]) ++ Sc.numsText [t.err] ++ [10]) := Lib.hid (by unfold tellHead; rw [if_pos he0]; simp)
      have HNT : Hid ((Sc.numsText [t.err]).length ≤ 22) := Lib.hid (numsText_le [t.err] (by intro v hv; simp at hv; subst hv; exact HE.out))
      clear he0
      have N60 := G6
      go_wp2_with fail
      refine (writeString_at b b [] [101, 114, 114] _ rfl _ HI4.out (by simp)).mono ?_
      rintro e wh ⟨rfl, hIh, hbh, hkh⟩
      have N6 := Lib.hid (hkh p6 _ N60.out (fun e => by have := Option.some.inj e; omega) (fun c fz e => by injection e with _ e2; cases e2))
      have HTh := Lib.hid (hkh tb _ HT4.out (fun e => by have := Option.some.inj e; omega) (fun c fz e => by injection e with _ e2; cases e2))
      have HBh := Lib.hid (HB4.out.trans (hbh.mono hbge))
      have HIh := Lib.hid hIh
      clear hIh hbh hkh
      go_wp2_with fail
      have hal := below_box wh (.cells #[.pointer (some ⟨p6, 0, none⟩)] 81)
      have N6c := Lib.hid (blk_next hal N6.out)
      have HTc := Lib.hid (blk_next hal HTh.out)
      have HBc := Lib.hid (HBh.out.trans (hal.mono HBh.out.size))
      refine (wnumbersP_any b b _ _ [p6] [t.err] _ _ (HENV.out.next HBc.out) hb6 (HIh.out.next hal) (by have := HNT.out; simp only [List.length_append, List.length_cons, List.length_nil] at this ⊢; omega) (by simp) rfl (rowP_new wh _ [p6] rfl) (by
        intro i p v hp hv
        match i, hp, hv with
        | 0, hp, hv =>
          simp at hp hv
          subst hp
          subst hv
          exact ⟨N6c.out, by omega, HE.out⟩)).mono ?_
      rintro e wn ⟨rfl, hIn, hbn, hkn⟩
      have HTn := Lib.hid (hkn tb _ HTc.out (fun e => by have := Option.some.inj e; omega) (fun c fz e => by injection e with _ e2; cases e2))
      have HBn := Lib.hid (HBc.out.trans (hbn.mono hbge))
      have HIn := Lib.hid hIn
      clear hal hIn hbn hkn HIh HBh HTh HTc HBc
      have HIh := HIn
      have HBh := HBn
      have HTh := HTn
      clear HIn HBn HTn
      go_wp2_with fail
      refine (writeByte_at b b _ 10 10 rfl _ HIh.out (by have := HNT.out; simp only [List.length_append, List.length_cons, List.length_nil] at this ⊢; omega)).mono ?_
      rintro e wl ⟨rfl, hIl, hbl, hkl⟩
      have HTL := Lib.hid (hkl tb _ HTh.out (fun e => by have := Option.some.inj e; omega) (fun c fz e => by injection e with _ e2; cases e2))
      have HBL := Lib.hid (HBh.out.trans (hbl.mono hbge))
      have HIL : Hid (IsB b b (tellHead x t) wl) := Lib.hid (by rw [HHD.out]; exact hIl)
      clear hIl hbl hkl HIh HBh HTh
      obtain ⟨tc0, tc1, tc2, tc3⟩ : _ ∧ _ ∧ _ ∧ _ := ⟨blk_cells HTL.out 0, blk_cells HTL.out 1, blk_cells HTL.out 2, (blk_cells HTL.out 3).trans rfl⟩
      clear tc0 tc1 tc2
      go_wp2_with fail
      clear tc3
      go_loopw [10, 11, 42] (fun _ _ i wr => ∃ k : Nat, k ≤ t.reps.length ∧ i = .int .i64 k ∧ IsB b b (tellHead x t ++ (t.reps.take k).flatMap repLine) wr ∧ Below w.heap.size w wr) (fun _ _ i _ => t.reps.length - (intOf i).toNat)
      case atStart => exact ⟨0, Nat.zero_le _, rfl, by simpa using HIL.out, HBL.out⟩
      case round =>
        obtain ⟨k, hk, rfl, hI, hb⟩ := hrel
        have HIk := Lib.hid hI
        have HBk := Lib.hid hb
        clear hI
        by_cases hlt : k < t.reps.length
        · have hr1 : t.reps[k]? = some t.reps[k] := List.getElem?_eq_getElem hlt
          have HS : Hid (tellHead x t ++ (t.reps.take (k + 1)).flatMap repLine = (tellHead x t ++ (t.reps.take k).flatMap repLine) ++ repLine t.reps[k]) := Lib.hid (by
            rw [List.take_succ_eq_append_getElem hlt, List.flatMap_append]; simp)
          have hlen := HLEN.out k
          have hby := HBY.out _ (List.getElem_mem hlt)
          obtain ⟨g, off, B', bc', rfl, hgl, e0, e1, hcb, hu⟩ := HR.out.at_ hb hr1
          generalize t.reps[k] = r at HS hby e0 e1 hcb hu
          generalize tellHead x t ++ (t.reps.take k).flatMap repLine = out at HIk HS hlen
          obtain ⟨u1, u2⟩ := hu
          have hba := below_box wr (.cells #[.int .u32 r.req, .slice B' r.bytes.length bc'] 51)
          have hbb := below_box (wr.alloc (.cells #[.int .u32 r.req, .slice B' r.bytes.length bc'] 51)) (.cells #[.int .i64 r.req] 3)
          have hx1 := blk_next hbb (heap_alloc_new wr (.cells #[.int .u32 r.req, .slice B' r.bytes.length bc'] 51))
          have hx2 := heap_alloc_new (wr.alloc (.cells #[.int .u32 r.req, .slice B' r.bytes.length bc'] 51)) (.cells #[.int .i64 r.req] 3)
          have hz1 : (wr.alloc (.cells #[.int .u32 r.req, .slice B' r.bytes.length bc'] 51)).heap.size = wr.heap.size + 1 := by simp
          rw [hz1] at hx2
          have hbw := hba.trans (hbb.mono hba.size)
          have HX1 := Lib.hid hx1
          have HX2 := Lib.hid hx2
          have HI1 := Lib.hid (HIk.out.next hbw)
          have HB1 := Lib.hid (HBk.out.trans (hbw.mono HBk.out.size))
          have HCB := Lib.hid hcb
          have hblt := HIk.out.lt
          have hlu : (Sc.numsText [r.req]).length ≤ 22 := numsText_le [r.req] (by intro v hv; simp at hv; subst hv; omega)
          have hql := quoteT_len r.bytes
          clear hba hbb hx1 hx2 hz1 hbw hr1 hb hcb
          go_wp2_with fail
          generalize (wr.alloc (.cells #[.int .u32 r.req, .slice B' r.bytes.length bc'] 51)).alloc (.cells #[.int .i64 r.req] 3) = wa at HX1 HX2 HI1 HB1 ⊢
          generalize hnb : wr.heap.size + 1 = nb at HX2 ⊢
          generalize hrb : wr.heap.size = rb at HX1 hblt ⊢
          clear e0 e1
          refine (writeString_at b b out [114, 101, 112, 108, 121] _ rfl _ HI1.out (by simp only [List.length_cons, List.length_nil]; omega)).mono ?_
          rintro e wb ⟨rfl, hI2, hb2, hk2⟩
          have HX1b := Lib.hid (hk2 rb _ HX1.out (fun e => by have := Option.some.inj e; omega) (fun c fz e => by injection e with _ e2; cases e2))
          have HX2b := Lib.hid (hk2 nb _ HX2.out (fun e => by have := Option.some.inj e; omega) (fun c fz e => by injection e with _ e2; cases e2))
          have HI2 := Lib.hid hI2
          have HB2 := Lib.hid (HB1.out.trans (hb2.mono hbge))
          clear hI2 hb2 hk2 HX1 HX2 HI1 HB1
          go_wp2_with fail
          have hal := below_box wb (.cells #[.pointer (some ⟨nb, 0, none⟩)] 81)
          have HX1c := Lib.hid (blk_next hal HX1b.out)
          have HX2c := Lib.hid (blk_next hal HX2b.out)
          have HB2c := Lib.hid (HB2.out.trans (hal.mono HB2.out.size))
          refine (wnumbersP_any b b _ _ [nb] [r.req] _ _ (HENV.out.next HB2c.out) hb6 (HI2.out.next hal) (by simp only [List.length_append, List.length_cons, List.length_nil]; omega) (by simp) rfl (rowP_new wb _ [nb] rfl) (by
            intro i p v hp hv
            match i, hp, hv with
            | 0, hp, hv =>
              simp at hp hv
              subst hp
              subst hv
              exact ⟨HX2c.out, by omega, by unfold inI; omega⟩)).mono ?_
          rintro e wc ⟨rfl, hI3, hb3, hk3⟩
          have HX1d := Lib.hid (hk3 rb _ HX1c.out (fun e => by have := Option.some.inj e; omega) (fun c fz e => by injection e with _ e2; cases e2))
          have HI3 := Lib.hid hI3
          have HB3 := Lib.hid (HB2c.out.trans (hb3.mono hbge))
          have HCB3 := Lib.hid (HCB.out.next HB3.out (Nat.le_refl _))
          clear hal hI3 hb3 hk3 HX1b HX2b HI2 HB2 HX1c HX2c HB2c
          have f1 := (blk_cells HX1d.out 1).trans rfl
          have hcv := conv_bytes HCB3.out bc'
          go_wp2_with fail
          refine (wquote_any b b _ _ _ (by rw [Lib.size_eq]; simp only; omega) HI3.out (by simp only [List.length_append, List.length_cons, List.length_nil]; omega)).mono ?_
          rintro e wd ⟨rfl, hI4, hb4⟩
          have HI4 := Lib.hid hI4
          have HB4 := Lib.hid (HB3.out.trans (hb4.mono hbge))
          clear hI4 hb4 f1 hcv HX1d HI3 HB3 HCB3
          go_wp2_with fail
          refine (writeByte_at b b _ 10 10 rfl _ HI4.out (by simp only [List.length_append, List.length_cons, List.length_nil]; omega)).mono ?_
          rintro e we ⟨rfl, hI5, hb5, _⟩
          have HI5 := Lib.hid hI5
          have HB5 := Lib.hid (HB4.out.trans (hb5.mono hbge))
          clear hI5 hb5 HI4 HB4
          go_wp2_with fail
          go_roundw
          case rel => exact ⟨k + 1, by omega, by go_num, by rw [HS.out]; have := HI5.out; unfold repLine; simpa using this, HB5.out⟩
          case measure => simp [intOf]; omega
        · have HF : Hid (IsB b b (tellOf x t) wr) := Lib.hid (by
            have := HIk.out
            rw [List.take_of_length_le (by omega)] at this
            exact this)
          have hne : tellOf x t ≠ [] := by unfold tellOf tellHead; split <;> simp
          have HNE := Lib.hid hne
          clear hb hne
          go_wp2_with fail
          refine (bldString_any b b _ _ HF.out HNE.out).mono ?_
          rintro e wz ⟨rfl, hbz⟩
          have HBZ := Lib.hid (HBk.out.trans (hbz.mono hbge))
          clear hbz
          go_wp2_with fail
          go_ret
          exact ⟨rfl, by rw [hxb]; exact hxb ▸ HBZ.out⟩
end Go.Proofs.YthpojljfmipngaaDoor
