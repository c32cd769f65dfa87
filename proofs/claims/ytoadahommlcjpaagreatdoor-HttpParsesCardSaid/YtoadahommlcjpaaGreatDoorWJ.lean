/-
  THE WALKS, tenth part: the closures of ParseRequest; read at a request.
-/
import Derived.Test.YtoadahommlcjpaaGreatDoorWI
import Derived.Deep.QuietTactic
import Derived.Lib.SlBytesConst
import Derived.IntWalk
import Derived.Deep.RegionHeld3
namespace Go.Proofs.YtoadahommlcjpaaGreatDoor
open Go.RowKit
theorem results_row_tmp2 {fn : Func} {p u v : Tmp} {ty : TypeId} (h : fn.results = #[.cell p ty, .tmp u, .tmp v]) (tmps : Array Value) (P : Program) (w : World) (g : Nat) (cs : Array Value)
    (hp : tmps.getD p undef = .pointer (some ⟨g, 0, none⟩)) (hl : (loadVar ty ⟨g, 0, none⟩).run P w = .ok (.agg cs) w) :
    (results fn tmps).run P w = .ok (.tuple #[.agg cs, tmps.getD u undef, tmps.getD v undef]) w := by
  rw [Array.getD_eq_getD_getElem?] at hp
  simp [results, h, hp, asAddr, Result.andThen, hl]
theorem rq_load {w : World} {b : Nat} {x y z u : Value} (h : w.heap[b]? = some (.cells #[x, y, z, u] 26 (0, 0))) : (loadVar 26 ⟨b, 0, none⟩).run Tryz.prog w = .ok (.agg #[x, y, z, u]) w :=
  run_loadVar_row w b 26 26 #[x, y, z, u] (0, 0) _ h Tryz.underlying26 rfl (by kernel_rfl)
/-- Four stores into a request's block. -/
theorem rq_set {w : World} {b : Nat} {p q r s x y z u : Value} (h : w.heap[b]? = some (.cells #[p, q, r, s] 26 (0, 0))) :
    But [b] w ((((w.setCell ⟨b, 0, none⟩ x).setCell ⟨b, 1, none⟩ y).setCell ⟨b, 2, none⟩ z).setCell ⟨b, 3, none⟩ u) ∧ ((((w.setCell ⟨b, 0, none⟩ x).setCell ⟨b, 1, none⟩ y).setCell ⟨b, 2, none⟩ z).setCell ⟨b, 3, none⟩ u).heap[b]? = some (.cells #[x, y, z, u] 26 (0, 0)) := by
  obtain ⟨h1, h2⟩ := but_set (i := 0) x h
  obtain ⟨h3, h4⟩ := but_set (i := 1) y h2
  obtain ⟨h5, h6⟩ := but_set (i := 2) z h4
  obtain ⟨h7, h8⟩ := but_set (i := 3) u h6
  exact ⟨((h1.trans h3).trans h5).trans h7, h8⟩
theorem target_q (l : Ht.Bs) (w : World) (hl : l.length < 4294967281) {q : Bool} (h : Ht.targetB l = q) :
    Calls Tryz.prog 40 #[.string ⟨l.toArray⟩] w fun e w' => e = .returned (.bool q) ∧ w' = w := by
  have := target_any ⟨l.toArray⟩ w (by rw [Lib.size_eq]; show l.length ≤ _; omega)
  rwa [show (⟨l.toArray⟩ : ByteArray).data.toList = l from rfl, h] at this
theorem three_len (s : Ht.Bs) : (Ht.threeOf s).1.length ≤ s.length ∧ (Ht.threeOf s).2.1.length ≤ s.length ∧ (Ht.threeOf s).2.2.1.length ≤ s.length := by
  have h1 := upto_len 32 s
  have h2 := upto_len 32 (Ht.upto 32 s).2.1
  exact ⟨h1.1, Nat.le_trans h2.1 h1.2, Nat.le_trans h2.2 h1.2⟩
theorem beq_ver (z : Ht.Bs) : (z == [72, 84, 84, 80, 47, 49, 46, 49]) = decide (z = Ht.verW) := by
  unfold Ht.verW
  rw [Bool.eq_iff_iff, decide_eq_true_iff]
  simp
set_option maxRecDepth 100000 in
set_option maxHeartbeats 4000000 in
theorem firstQ_any (l : Ht.Bs) (w : World) (henv : Env w) (hlen : l.length < 4294967281) :
    Calls Tryz.prog 37 #[.string ⟨l.toArray⟩] w fun e w' => e = .returned (.tuple #[.agg #[.string ⟨(Ht.firstQ l).1.method.toArray⟩, .string ⟨(Ht.firstQ l).1.target.toArray⟩, .slice none 0 0, .slice none 0 0], .bool (Ht.firstQ l).2]) ∧ Below w.heap.size w w' := by
  obtain ⟨p, hp⟩ : ∃ p, Ht.threeOf l = p := ⟨_, rfl⟩
  have hpl := three_len l
  rw [hp] at hpl
  obtain ⟨q1, hq1⟩ : ∃ q, Ht.tokenB p.1 = q := ⟨_, rfl⟩
  obtain ⟨q2, hq2⟩ : ∃ q, Ht.targetB p.2.1 = q := ⟨_, rfl⟩
  have H1 := Lib.hid (fun W (hE : Env W) => three_any l W hE hlen)
  have H2 := Lib.hid (fun W => token_q p.1 W (by omega) hq1)
  have H3 := Lib.hid (fun W => target_q p.2.1 W (by omega) hq2)
  have HE : Hid (Ht.firstQ l = (⟨p.1, p.2.1, [], []⟩, p.2.2.2 && q1 && q2 && decide (p.2.2.1 = Ht.verW))) := Lib.hid (by unfold Ht.firstQ; rw [hp, hq1, hq2])
  rw [hp] at H1
  generalize Ht.firstQ l = R at HE ⊢
  clear hp hpl hq1 hq2 hlen
  obtain ⟨x, y, z, ok⟩ := p
  obtain rfl := HE.out
  clear HE
  dsimp only at H1 H2 H3 ⊢
  have HW0 := Lib.hid (below_box w (.cells #[.string ⟨#[]⟩, .string ⟨#[]⟩, .slice none 0 0, .slice none 0 0] 26))
  have HB0 : Hid ((w.alloc (.cells #[.string ⟨#[]⟩, .string ⟨#[]⟩, .slice none 0 0, .slice none 0 0] 26)).heap[w.heap.size]? = some (.cells #[.string ⟨#[]⟩, .string ⟨#[]⟩, .slice none 0 0, .slice none 0 0] 26 (0, 0))) := Lib.hid (heap_alloc_new w _)
  have HEnv := Lib.hid henv
  clear henv
  go_enter Tryz.func37, Tryz.ntmps37
  go_wp2_with fail
  generalize w.alloc (.cells #[.string ⟨#[]⟩, .string ⟨#[]⟩, .slice none 0 0, .slice none 0 0] 26) = wa at HW0 HB0 ⊢
  have HEa := Lib.hid (HEnv.out.next HW0.out)
  refine (H1.out _ HEa.out).mono ?_
  rintro e w' ⟨rfl, n, rfl⟩
  have HWb : Hid (Below w.heap.size w (wa.drewN n)) := Lib.hid (below_drewN HW0.out n)
  have HBb : Hid ((wa.drewN n).heap[w.heap.size]? = some (.cells #[.string ⟨#[]⟩, .string ⟨#[]⟩, .slice none 0 0, .slice none 0 0] 26 (0, 0))) := HB0
  generalize wa.drewN n = wb at HWb HBb ⊢
  clear HB0 HW0 HEa
  have c0 := blk_cells HBb.out 0
  have c1 := blk_cells HBb.out 1
  have c2 := blk_cells HBb.out 2
  have c3 := blk_cells HBb.out 3
  have f0 := blk_free HBb.out 0
  have f1 := blk_free HBb.out 1
  have f2 := blk_free HBb.out 2
  have f3 := blk_free HBb.out 3
  simp only [List.getElem?_toArray, List.getElem?_cons_zero, List.getElem?_cons_succ] at c0 c1 c2 c3
  have HS := Lib.hid (rq_set (x := .string ⟨x.toArray⟩) (y := .string ⟨y.toArray⟩) (z := .slice none 0 0) (u := .slice none 0 0) HBb.out)
  have HT := Lib.hid (HWb.out.trans (HS.out.1.to HWb.out.size (by simp)))
  cases ok
  · go_wp2_with fail
    (try simp only [Exit.inBlock, Exit.then])
    refine bodyPost_ret (results_row_tmp rfl _ _ _ w.heap.size _ rfl (rq_load HS.out.2)) rfl ?_
    exact ⟨retv (by simp), HT.out⟩
  · go_wp2_with fail
    refine (H2.out _).mono ?_
    rintro e w' ⟨rfl, rfl⟩
    cases q1
    · go_wp2_with fail
      (try simp only [Exit.inBlock, Exit.then])
      refine bodyPost_ret (results_row_tmp rfl _ _ _ w.heap.size _ rfl (rq_load HS.out.2)) rfl ?_
      exact ⟨retv (by simp), HT.out⟩
    · go_wp2_with fail
      refine (H3.out _).mono ?_
      rintro e w' ⟨rfl, rfl⟩
      cases q2
      · go_wp2_with fail
        (try simp only [Exit.inBlock, Exit.then])
        refine bodyPost_ret (results_row_tmp rfl _ _ _ w.heap.size _ rfl (rq_load HS.out.2)) rfl ?_
        exact ⟨retv (by simp), HT.out⟩
      · go_wp2_with fail
        (try simp only [Exit.inBlock, Exit.then])
        refine bodyPost_ret (results_row_tmp rfl _ _ _ w.heap.size _ rfl (rq_load HS.out.2)) rfl ?_
        exact ⟨retv (by simp; exact beq_ver z), HT.out⟩
set_option maxRecDepth 100000 in
set_option maxHeartbeats 4000000 in
theorem fillQ_any (g : Nat) (x y z u k : Value) (A B : Option Addr) (n c m d : Nat) (w : World) (hg : w.heap[g]? = some (.cells #[x, y, z, u] 26 (0, 0))) :
    Calls Tryz.prog 41 #[.pointer (some ⟨g, 0, none⟩), .agg #[.slice A n c, .slice B m d, k]] w fun e w' => e = .returned (.tuple #[]) ∧ w'.heap[g]? = some (.cells #[x, y, .slice A n c, .slice B m d] 26 (0, 0)) ∧ But [g] w w' := by
  have hglt := (Array.getElem?_eq_some_iff.1 hg).1
  have hne : g ≠ w.heap.size := by omega
  have hb1 := below_box w (.cells #[.slice A n c, .slice B m d, k] 73)
  have hgm := heap_alloc_new w (.cells #[.slice A n c, .slice B m d, k] 73)
  have hgg := blk_next hb1 hg
  have c2 := blk_cells hgg 2
  have c3 := blk_cells hgg 3
  have f2 := blk_free hgg 2
  have f3 := blk_free hgg 3
  have m0 := blk_cells hgm 0
  have m1 := blk_cells hgm 1
  simp only [List.getElem?_toArray, List.getElem?_cons_zero, List.getElem?_cons_succ] at c2 c3 m0 m1
  have HBt := Lib.hid (But.of (S := [g]) hb1)
  have HG := Lib.hid hgg
  have HN := Lib.hid hne
  clear hb1 hgm hgg hne hg hglt
  go_enter Tryz.func41, Tryz.ntmps41
  go_wp2_with fail
  generalize w.alloc (.cells #[.slice A n c, .slice B m d, k] 73) = wa at *
  generalize w.heap.size = gm at *
  go_region
  go_end0
  obtain ⟨h1, h2⟩ := but_set (i := 2) (.slice A n c) HG.out
  obtain ⟨h3, h4⟩ := but_set (i := 3) (.slice B m d) h2
  exact ⟨rfl, h4, ((HBt.out.trans h1).trans h3).trans (But.of (below_drewN (Below.refl _ _) 1))⟩
/-- What a parser of requests hands back. -/
def ReqOut (w : World) (r : Ht.Req × Nat × Int) (e : Ending) (w' : World) : Prop :=
  ∃ hv bv, e = .returned (.tuple #[.agg #[.string ⟨r.1.method.toArray⟩, .string ⟨r.1.target.toArray⟩, hv, bv], .int .i64 (r.2.1 : Int), .int .i64 r.2.2]) ∧ Own 65 2 w.heap.size hv r.1.heads.length (hdCells r.1.heads) w' ∧ Own 5 1 w.heap.size bv r.1.body.length (Lib.byteCells r.1.body) w' ∧ Below w.heap.size w w'
theorem ReqOut.err {w w' : World} {k : Int} (hb : Below w.heap.size w w') : ReqOut w (Ht.zReq, 0, k) (.returned (.tuple #[.agg #[.string ⟨#[]⟩, .string ⟨#[]⟩, .slice none 0 0, .slice none 0 0], .int .i64 0, .int .i64 k])) w' :=
  ⟨_, _, rfl, own_none 65 2 _ hb.size, own_none 5 1 _ hb.size, hb⟩
theorem ReqOut.mk' {w W : World} {R : Ht.Req × Nat × Int} {m t : Ht.Bs} {hds : List Ht.Hd} {bd : Ht.Bs} {k : Nat} {v : Int} {x y : Value} (hR : R = (⟨m, t, hds, bd⟩, k, 0)) (hv : v = (k : Int))
    (h1 : Own 65 2 w.heap.size x hds.length (hdCells hds) W) (h2 : Own 5 1 w.heap.size y bd.length (Lib.byteCells bd) W) (hb : Below w.heap.size w W) :
    ReqOut w R (.returned (.tuple #[.agg #[.string ⟨m.toArray⟩, .string ⟨t.toArray⟩, x, y], .int .i64 v, .int .i64 0])) W := by
  subst hR hv
  exact ⟨x, y, rfl, h1, h2, hb⟩
def zq : Array Value := #[.string ⟨#[]⟩, .string ⟨#[]⟩, .slice none 0 0, .slice none 0 0]
theorem crlf_cells (w : World) : ∀ i v, (Lib.byteCells [13, 10, 13, 10])[i]? = some v → (w.alloc (.cells #[.int .u8 13, .int .u8 10, .int .u8 13, .int .u8 10] 5 (4, 5))).cell? ⟨w.heap.size, 0 + i, none⟩ = some v := by
  intro i v hi
  rw [Nat.zero_add, cell_of_row _ _ i _ 5 (4, 5) (heap_alloc_new w _), ← hi]
  exact List.getElem?_toArray
/-- What lies in memory while a request is read. -/
structure QSt (w W : World) : Prop where
  below : Below w.heap.size w W
  out : W.heap[w.heap.size]? = some (.cells #[.string ⟨#[]⟩, .string ⟨#[]⟩, .slice none 0 0, .slice none 0 0] 26 (0, 0))
  none_ : W.heap[w.heap.size + 1]? = some (.cells #[.string ⟨#[]⟩, .string ⟨#[]⟩, .slice none 0 0, .slice none 0 0] 26 (0, 0))
  env : Env W
theorem QSt.next {w W W' : World} (h : QSt w W) (hb : Below W.heap.size W W') : QSt w W' :=
  ⟨h.below.trans (hb.mono h.below.size), blk_next hb h.out, blk_next hb h.none_, h.env.next hb⟩
theorem blk4 {w : World} {b : Nat} {x y z u : Value} (h : w.heap[b]? = some (.cells #[x, y, z, u] 26 (0, 0))) :
    w.cell? ⟨b, 0, none⟩ = some x ∧ w.cell? ⟨b, 1, none⟩ = some y ∧ w.cell? ⟨b, 2, none⟩ = some z ∧ w.cell? ⟨b, 3, none⟩ = some u :=
  ⟨by rw [blk_cells h 0]; rfl, by rw [blk_cells h 1]; rfl, by rw [blk_cells h 2]; rfl, by rw [blk_cells h 3]; rfl⟩
theorem blk4_free {w : World} {b : Nat} {x y z u : Value} (h : w.heap[b]? = some (.cells #[x, y, z, u] 26 (0, 0))) :
    w.frozen? ⟨b, 0, none⟩ = false ∧ w.frozen? ⟨b, 1, none⟩ = false ∧ w.frozen? ⟨b, 2, none⟩ = false ∧ w.frozen? ⟨b, 3, none⟩ = false :=
  ⟨blk_free h 0, blk_free h 1, blk_free h 2, blk_free h 3⟩
theorem QSt.zero {w W : World} (h : QSt w W) {R : Ht.Req × Nat × Int} {k : Int} (hR : R = (Ht.zReq, 0, k)) :
    ReqOut w R (.returned (.tuple #[.agg #[.string ⟨#[]⟩, .string ⟨#[]⟩, .slice none 0 0, .slice none 0 0], .int .i64 0, .int .i64 k])) ((((W.setCell ⟨w.heap.size, 0, none⟩ (.string ⟨#[]⟩)).setCell ⟨w.heap.size, 1, none⟩ (.string ⟨#[]⟩)).setCell ⟨w.heap.size, 2, none⟩ (.slice none 0 0)).setCell ⟨w.heap.size, 3, none⟩ (.slice none 0 0)) := by
  rw [hR]
  exact ReqOut.err (h.below.trans ((rq_set h.out).1.to h.below.size (by simp)))
theorem QSt.load {w W : World} (h : QSt w W) : (loadVar 26 ⟨w.heap.size, 0, none⟩).run Tryz.prog ((((W.setCell ⟨w.heap.size, 0, none⟩ (.string ⟨#[]⟩)).setCell ⟨w.heap.size, 1, none⟩ (.string ⟨#[]⟩)).setCell ⟨w.heap.size, 2, none⟩ (.slice none 0 0)).setCell ⟨w.heap.size, 3, none⟩ (.slice none 0 0)) = .ok (.agg #[.string ⟨#[]⟩, .string ⟨#[]⟩, .slice none 0 0, .slice none 0 0]) ((((W.setCell ⟨w.heap.size, 0, none⟩ (.string ⟨#[]⟩)).setCell ⟨w.heap.size, 1, none⟩ (.string ⟨#[]⟩)).setCell ⟨w.heap.size, 2, none⟩ (.slice none 0 0)).setCell ⟨w.heap.size, 3, none⟩ (.slice none 0 0)) :=
  rq_load (rq_set h.out).2
theorem QSt.but {w W W' : World} {g : Nat} (h : QSt w W) (hw : 9 ≤ w.heap.size) (hg : w.heap.size + 2 ≤ g) (hk : But [g] W W') : QSt w W' :=
  ⟨h.below.trans (hk.to h.below.size (by simp; omega)), hk.blk h.out (by simp; omega), hk.blk h.none_ (by simp; omega), h.env.low (fun j hj => hk.block j (by have := h.env.big; omega) (by simp; omega))⟩
theorem cells_dropO {l : Ht.Bs} {B : Option Addr} {w : World} (h : CellsAt w B (Lib.byteCells l)) {k j : Nat} (hj : j = k) : CellsAt w (B.map fun x => { block := x.block, off := x.off + j }) (Lib.byteCells (l.drop k)) := by
  subst hj
  intro hne
  have hne2 : Lib.byteCells l ≠ [] := fun h0 => hne (by unfold Lib.byteCells at h0 ⊢; rw [List.map_eq_nil_iff.1 h0, List.drop_nil]; rfl)
  obtain ⟨g, o, rfl, h2, h3⟩ := h hne2
  exact cells_drop (h) j hne
theorem restOf_len (head b : Ht.Bs) : (Ht.restOf head b).1.2.length ≤ b.length := by
  unfold Ht.restOf Ht.restFin
  split
  · simp
  · split
    · simp
    · split
      · simp
      · split
        · simp
        · split
          · simp
          · split
            · simp
            · simp only [List.length_take]; exact Nat.min_le_right _ _
/-- What the last region loads. -/
def RegS (xb mb : Nat) (a b : Ht.Bs) (u v : Value) (k : Nat) (W : World) : Prop :=
  W.cell? ⟨xb, 0, none⟩ = some (.string ⟨a.toArray⟩) ∧ W.cell? ⟨xb, 1, none⟩ = some (.string ⟨b.toArray⟩) ∧ W.cell? ⟨xb, 2, none⟩ = some u ∧ W.cell? ⟨xb, 3, none⟩ = some v ∧ W.cell? ⟨mb, 2, none⟩ = some (.int .i64 (k : Int))
theorem But.cellAt {S : List Nat} {W W' : World} (h : But S W W') {j i : Nat} {v : Value} (hj : j ∉ S) (hc : W.cell? ⟨j, i, none⟩ = some v) : W'.cell? ⟨j, i, none⟩ = some v := by
  have hlt : j < W.heap.size := by
    rcases Nat.lt_or_ge j W.heap.size with h1 | h1
    · exact h1
    · simp [World.cell?, Array.getElem?_eq_none h1] at hc
  have hb := h.block j hlt hj
  simp only [World.cell?] at hc ⊢
  rw [hb]; exact hc
theorem regS_set {xb mb r : Nat} {a b : Ht.Bs} {u v p q s o x y z t : Value} {k : Nat} {W : World} (h1 : xb ≠ r) (h2 : mb ≠ r) (h : RegS xb mb a b u v k W) (hr : W.heap[r]? = some (.cells #[p, q, s, o] 26 (0, 0))) :
    RegS xb mb a b u v k ((((W.setCell ⟨r, 0, none⟩ x).setCell ⟨r, 1, none⟩ y).setCell ⟨r, 2, none⟩ z).setCell ⟨r, 3, none⟩ t) := by
  have hk := (rq_set (x := x) (y := y) (z := z) (u := t) hr).1
  obtain ⟨c0, c1, c2, c3, c4⟩ := h
  exact ⟨hk.cellAt (by simpa using h1) c0, hk.cellAt (by simpa using h1) c1, hk.cellAt (by simpa using h1) c2, hk.cellAt (by simpa using h1) c3, hk.cellAt (by simpa using h2) c4⟩
set_option maxRecDepth 100000 in
set_option maxHeartbeats 4000000 in
theorem readQ_any (b : Ht.Bs) (B : Option Addr) (c : Nat) (w : World) (henv : Env w) (hbc : b.length ≤ c) (hc : b.length ≤ 140737488355328) (hcells : CellsAt w B (Lib.byteCells b)) :
    Calls Tryz.prog 36 #[.slice B b.length c, .func (.func 37) #[] #[], .func (.func 41) #[] #[]] w (ReqOut w (Ht.parseReq b)) := by
  have hw9 : 9 ≤ w.heap.size := henv.big
  obtain ⟨l, hl⟩ : ∃ l, b.take 2048 = l := ⟨_, rfl⟩
  have hll : l.length = min b.length 2048 := by rw [← hl, List.length_take, Nat.min_comm]
  have hmk : min (b.length : Int) 2048 = (l.length : Int) := by rw [hll]; omega
  have hlb : l.length ≤ b.length := by omega
  have hl2 : l.length ≤ 2048 := by omega
  have HL := Lib.hid hl
  have HLL := Lib.hid hll
  have kc := Lib.run_convert_bytes_const (P := Tryz.prog) ((w.alloc (.cells #[.string ⟨#[]⟩, .string ⟨#[]⟩, .slice none 0 0, .slice none 0 0] 26)).alloc (.cells #[.string ⟨#[]⟩, .string ⟨#[]⟩, .slice none 0 0, .slice none 0 0] 26)) 22 5 #[.int .u8 13, .int .u8 10, .int .u8 13, .int .u8 10] 4 4 Tryz.underlying22 Tryz.underlying5
  rw [show ((w.alloc (.cells #[.string ⟨#[]⟩, .string ⟨#[]⟩, .slice none 0 0, .slice none 0 0] 26)).alloc (.cells #[.string ⟨#[]⟩, .string ⟨#[]⟩, .slice none 0 0, .slice none 0 0] 26)).heap.size = w.heap.size + 1 + 1 by simp] at kc
  have HCL : Hid (∀ W, Below w.heap.size w W → CellsAt W B (Lib.byteCells b)) := Lib.hid (fun W hW => hcells.next hW (Nat.le_refl _))
  have hsz : ((w.alloc (.cells #[.string ⟨#[]⟩, .string ⟨#[]⟩, .slice none 0 0, .slice none 0 0] 26)).alloc (.cells #[.string ⟨#[]⟩, .string ⟨#[]⟩, .slice none 0 0, .slice none 0 0] 26)).heap.size = w.heap.size + 1 + 1 := by simp
  have HB0 := Lib.hid (blk_next (below_box _ (.cells #[.string ⟨#[]⟩, .string ⟨#[]⟩, .slice none 0 0, .slice none 0 0] 26)) (heap_alloc_new w (.cells #[.string ⟨#[]⟩, .string ⟨#[]⟩, .slice none 0 0, .slice none 0 0] 26)))
  have HB1 := Lib.hid (heap_alloc_new (w.alloc (.cells #[.string ⟨#[]⟩, .string ⟨#[]⟩, .slice none 0 0, .slice none 0 0] 26)) (.cells #[.string ⟨#[]⟩, .string ⟨#[]⟩, .slice none 0 0, .slice none 0 0] 26))
  rw [show (w.alloc (.cells #[.string ⟨#[]⟩, .string ⟨#[]⟩, .slice none 0 0, .slice none 0 0] 26)).heap.size = w.heap.size + 1 by simp] at HB1
  have HG := Lib.hid (crlf_cells ((w.alloc (.cells #[.string ⟨#[]⟩, .string ⟨#[]⟩, .slice none 0 0, .slice none 0 0] 26)).alloc (.cells #[.string ⟨#[]⟩, .string ⟨#[]⟩, .slice none 0 0, .slice none 0 0] 26)))
  have hb3 : Below ((w.alloc (.cells #[.string ⟨#[]⟩, .string ⟨#[]⟩, .slice none 0 0, .slice none 0 0] 26)).alloc (.cells #[.string ⟨#[]⟩, .string ⟨#[]⟩, .slice none 0 0, .slice none 0 0] 26)).heap.size ((w.alloc (.cells #[.string ⟨#[]⟩, .string ⟨#[]⟩, .slice none 0 0, .slice none 0 0] 26)).alloc (.cells #[.string ⟨#[]⟩, .string ⟨#[]⟩, .slice none 0 0, .slice none 0 0] 26)) (((w.alloc (.cells #[.string ⟨#[]⟩, .string ⟨#[]⟩, .slice none 0 0, .slice none 0 0] 26)).alloc (.cells #[.string ⟨#[]⟩, .string ⟨#[]⟩, .slice none 0 0, .slice none 0 0] 26)).alloc (.cells #[.int .u8 13, .int .u8 10, .int .u8 13, .int .u8 10] 5 (4, 5))) := below_box _ _
  have HB0' := Lib.hid (blk_next hb3 HB0.out)
  have HB1' := Lib.hid (blk_next hb3 HB1.out)
  have HW3 := Lib.hid ((((Below.refl _ w).alloc (Nat.le_refl _) (.cells #[.string ⟨#[]⟩, .string ⟨#[]⟩, .slice none 0 0, .slice none 0 0] 26)).alloc (by simp) (.cells #[.string ⟨#[]⟩, .string ⟨#[]⟩, .slice none 0 0, .slice none 0 0] 26)).trans (hb3.mono (by rw [hsz]; omega)))
  rw [hsz] at HG
  have HEnv := Lib.hid (henv.next HW3.out)
  clear hl hll hcells henv hsz HB0 HB1 hb3
  have HPR : Hid (Ht.parseReq b = match Ht.endAt l with
    | none => (Ht.zReq, 0, if 2048 ≤ b.length then 342 else 341)
    | some at_ => if (Ht.firstQ (Ht.upto2 13 10 (b.take (at_ + 2))).1).2 then
        if (Ht.restOf (Ht.upto2 13 10 (b.take (at_ + 2))).2.1 (b.drop (at_ + 4))).2 = 0 then ({ (Ht.firstQ (Ht.upto2 13 10 (b.take (at_ + 2))).1).1 with heads := (Ht.restOf (Ht.upto2 13 10 (b.take (at_ + 2))).2.1 (b.drop (at_ + 4))).1.1, body := (Ht.restOf (Ht.upto2 13 10 (b.take (at_ + 2))).2.1 (b.drop (at_ + 4))).1.2 }, at_ + 4 + (Ht.restOf (Ht.upto2 13 10 (b.take (at_ + 2))).2.1 (b.drop (at_ + 4))).1.2.length, 0)
        else (Ht.zReq, 0, (Ht.restOf (Ht.upto2 13 10 (b.take (at_ + 2))).2.1 (b.drop (at_ + 4))).2)
      else (Ht.zReq, 0, 340)) := Lib.hid (by unfold Ht.parseReq Ht.readOf; rw [HL.out]; cases Ht.endAt l <;> rfl)
  generalize Ht.parseReq b = R at HPR ⊢
  go_enter Tryz.func36, Tryz.ntmps36
  go_wp2_with fail
  generalize ((w.alloc (.cells #[.string ⟨#[]⟩, .string ⟨#[]⟩, .slice none 0 0, .slice none 0 0] 26)).alloc (.cells #[.string ⟨#[]⟩, .string ⟨#[]⟩, .slice none 0 0, .slice none 0 0] 26)).alloc (.cells #[.int .u8 13, .int .u8 10, .int .u8 13, .int .u8 10] 5 (4, 5)) = W3 at HB0' HB1' HW3 HG HEnv ⊢
  clear kc
  have HCl := Lib.hid (show CellsAt W3 B (Lib.byteCells l) by rw [← HL.out]; exact cells_take (HCL.out W3 HW3.out) 2048)
  refine (findEnd_any l B c _ _ HEnv.out (by omega) (by omega) HCl.out HG.out).mono ?_
  rintro e w' ⟨rfl, n, rfl⟩
  have HS4 : Hid (QSt w (W3.drewN n)) := Lib.hid ⟨below_drewN HW3.out n, HB0'.out, HB1'.out, HEnv.out.next (below_drewN (Below.refl _ _) n)⟩
  generalize W3.drewN n = W4 at HS4 ⊢
  clear HB0' HB1' HW3 HG HEnv HCl
  cases hp : Ht.endAt l with
  | none =>
    rw [endI_none hp]
    rw [hp] at HPR
    by_cases h2 : 2048 ≤ b.length
    · have HR := HPR.out
      simp only at HR
      rw [if_pos h2] at HR
      have HRR := Lib.hid HR
      clear HR hp
      obtain ⟨d0, d1, d2, d3⟩ := blk4 HS4.out.none_
      obtain ⟨c0, c1, c2, c3⟩ := blk4 HS4.out.out
      obtain ⟨f0, f1, f2, f3⟩ := blk4_free HS4.out.out
      go_wp2_with fail
      (try simp only [Exit.inBlock, Exit.then])
      refine bodyPost_ret (results_row_tmp2 rfl _ _ _ w.heap.size _ rfl HS4.out.load) rfl ?_
      exact HS4.out.zero HRR.out
    · have HR := HPR.out
      simp only at HR
      rw [if_neg h2] at HR
      have HRR := Lib.hid HR
      clear HR hp
      obtain ⟨d0, d1, d2, d3⟩ := blk4 HS4.out.none_
      obtain ⟨c0, c1, c2, c3⟩ := blk4 HS4.out.out
      obtain ⟨f0, f1, f2, f3⟩ := blk4_free HS4.out.out
      go_wp2_with fail
      (try simp only [Exit.inBlock, Exit.then])
      refine bodyPost_ret (results_row_tmp2 rfl _ _ _ w.heap.size _ rfl HS4.out.load) rfl ?_
      exact HS4.out.zero HRR.out
  | some p =>
    have hp4 := (Ht.endAt_le l p hp).1
    rw [endI_some hp]
    rw [hp] at HPR
    have HP := Lib.hid hp
    clear hp
    obtain ⟨s, hs⟩ : ∃ s, b.take (p + 2) = s := ⟨_, rfl⟩
    have hsl : s.length = p + 2 := by rw [← hs, List.length_take]; omega
    have kts : (convert 22 9 (.slice B (p + 2) c)).run Tryz.prog W4 = .ok (.string ⟨s.toArray⟩) W4 := by
      have h := toStr (cells_take (HCL.out W4 HS4.out.below) (p + 2)) c
      rw [hs, hsl] at h
      exact h
    obtain ⟨⟨top, head, q0⟩, hcut⟩ : ∃ x, Ht.upto2 13 10 s = x := ⟨_, rfl⟩
    have htop : top.length ≤ s.length := by have := upto2_fst 13 10 s; rw [hcut] at this; exact this
    have hhead : head.length ≤ s.length := by have := upto2_len 13 10 s; rw [hcut] at this; exact this
    have HC := Lib.hid (fun sep hs => cut2_any s sep 13 10 W4 HS4.out.env (by omega) hs)
    rw [hcut] at HC
    dsimp only at HC
    have hR := HPR.out
    simp only [hs, hcut] at hR
    have HRR := Lib.hid hR
    clear hcut hR HPR
    go_wp2_with fail
    refine (HC.out _ (by rfl)).mono ?_
    rintro e w' ⟨rfl, n2, rfl⟩
    have HS5 := Lib.hid (HS4.out.next (below_drewN (Below.refl _ _) n2))
    generalize W4.drewN n2 = W5 at HS5 ⊢
    clear HC kts HS4
    have HF := Lib.hid (firstQ_any top W5 HS5.out.env (by omega))
    obtain ⟨⟨x, ok⟩, hx⟩ : ∃ x, Ht.firstQ top = x := ⟨_, rfl⟩
    rw [hx] at HF
    dsimp only at HF
    have hR := HRR.out
    simp only [hx] at hR
    have HR2 := Lib.hid hR
    clear hx hR HRR
    go_wp2_with fail
    refine HF.out.mono ?_
    rintro e W6 ⟨rfl, hb6⟩
    have HS6 := Lib.hid (HS5.out.next hb6)
    clear HF hb6 HS5
    have HXB : Hid ((W6.alloc (.cells #[.string ⟨x.method.toArray⟩, .string ⟨x.target.toArray⟩, .slice none 0 0, .slice none 0 0] 26)).heap[W6.heap.size]? = some (.cells #[.string ⟨x.method.toArray⟩, .string ⟨x.target.toArray⟩, .slice none 0 0, .slice none 0 0] 26 (0, 0))) := Lib.hid (heap_alloc_new W6 _)
    have HS7 := Lib.hid (HS6.out.next (below_box W6 (.cells #[.string ⟨x.method.toArray⟩, .string ⟨x.target.toArray⟩, .slice none 0 0, .slice none 0 0] 26)))
    have hN6 : Hid (w.heap.size + 2 ≤ W6.heap.size) := Lib.hid (by have := (Array.getElem?_eq_some_iff.1 HS6.out.none_).1; omega)
    obtain ⟨d0, d1, d2, d3⟩ := blk4 HS7.out.none_
    obtain ⟨c0, c1, c2, c3⟩ := blk4 HS7.out.out
    obtain ⟨f0, f1, f2, f3⟩ := blk4_free HS7.out.out
    cases ok
    · have hR := HR2.out
      simp only [Bool.false_eq_true, if_false] at hR
      have HR3 := Lib.hid hR
      clear hR HR2 HP
      go_wp2_with fail
      (try simp only [Exit.inBlock, Exit.then])
      refine bodyPost_ret (results_row_tmp2 rfl _ _ _ w.heap.size _ rfl HS7.out.load) rfl ?_
      exact HS7.out.zero HR3.out
    · have hR := HR2.out
      simp only [if_true] at hR
      have HR3 := Lib.hid hR
      clear hR HR2 HP d0 d1 d2 d3 c0 c1 c2 c3 f0 f1 f2 f3
      have HREST : Hid (∀ B' c', (b.drop (p + 4)).length ≤ c' → CellsAt (W6.alloc (.cells #[.string ⟨x.method.toArray⟩, .string ⟨x.target.toArray⟩, .slice none 0 0, .slice none 0 0] 26)) B' (Lib.byteCells (b.drop (p + 4))) →
          Calls Tryz.prog 65 #[.string ⟨head.toArray⟩, .slice B' (b.length - (p + 4)) c'] (W6.alloc (.cells #[.string ⟨x.method.toArray⟩, .string ⟨x.target.toArray⟩, .slice none 0 0, .slice none 0 0] 26)) (RestOut (W6.alloc (.cells #[.string ⟨x.method.toArray⟩, .string ⟨x.target.toArray⟩, .slice none 0 0, .slice none 0 0] 26)) (Ht.restOf head (b.drop (p + 4))))) := Lib.hid (fun B' c' h1 h2 => by
        have h := rest_any head (b.drop (p + 4)) B' c' _ HS7.out.env (by omega) h1 h2
        rw [List.length_drop] at h
        exact h)
      have HCB := Lib.hid (HCL.out _ HS7.out.below)
      obtain ⟨r, hr⟩ : ∃ r, Ht.restOf head (b.drop (p + 4)) = r := ⟨_, rfl⟩
      have hbl := restOf_len head (b.drop (p + 4))
      rw [List.length_drop] at hbl
      rw [hr] at HREST HR3 hbl
      clear hr
      obtain ⟨⟨hds, bd⟩, er⟩ := r
      dsimp only at HREST HR3 hbl
      have hNg : 9 ≤ w.heap.size := hw9
      by_cases hcp : c = p + 4
      · subst hcp
        have HREST0 := HREST.out B 0 (by rw [List.length_drop]; omega) (by rw [List.drop_of_length_le (by omega)]; exact CellsAt.nil _ _)
        rw [show b.length - (p + 4) = 0 by omega] at HREST0
        have HREST0 := Lib.hid HREST0
        go_wp2_with fail
        refine (HREST0.out).mono ?_
        rintro e W8 ⟨hv, bv, rfl, hO1, hO2, hb8⟩
        dsimp only at hO1 hO2
        obtain ⟨A1, n1, rfl⟩ := own_shape hO1
        obtain ⟨A2, n2, rfl⟩ := own_shape hO2
        have HO1 := Lib.hid hO1
        have HO2 := Lib.hid hO2
        have HS9 := Lib.hid ((HS7.out.next hb8).next (below_box W8 (.cells #[.slice A1 hds.length n1, .slice A2 bd.length n2, .int .i64 (bd.length : Int)] 73)))
        have HX9 := Lib.hid (blk_next (below_box W8 (.cells #[.slice A1 hds.length n1, .slice A2 bd.length n2, .int .i64 (bd.length : Int)] 73)) (blk_next hb8 HXB.out))
        have HM9 := Lib.hid (heap_alloc_new W8 (.cells #[.slice A1 hds.length n1, .slice A2 bd.length n2, .int .i64 (bd.length : Int)] 73))
        have hne86 : W6.heap.size < W8.heap.size := by
          have h1 := hb8.size
          have h2 : (W6.alloc (.cells #[.string ⟨x.method.toArray⟩, .string ⟨x.target.toArray⟩, .slice none 0 0, .slice none 0 0] 26)).heap.size = W6.heap.size + 1 := by simp
          omega
        have HNE := Lib.hid hne86
        have HB9 := Lib.hid (below_box W8 (.cells #[.slice A1 hds.length n1, .slice A2 bd.length n2, .int .i64 (bd.length : Int)] 73))
        clear hO1 hO2 hb8 HREST HREST0 HCB hne86
        by_cases her : er = 0
        · subst her
          have hR := HR3.out
          simp only [if_true] at hR
          have HR4 := Lib.hid hR
          clear hR HR3
          have m0 := blk_cells HM9.out 0
          have m1 := blk_cells HM9.out 1
          have m2 := blk_cells HM9.out 2
          simp only [List.getElem?_toArray, List.getElem?_cons_zero, List.getElem?_cons_succ] at m0 m1 m2
          go_wp2_with fail
          generalize W8.alloc (.cells #[.slice A1 hds.length n1, .slice A2 bd.length n2, .int .i64 (bd.length : Int)] 73) = W9 at HS9 HX9 HM9 HB9 m0 m1 m2 ⊢
          refine (fillQ_any _ _ _ _ _ _ _ _ _ _ _ _ _ HX9.out).mono ?_
          rintro e W10 ⟨rfl, hx10, hk10⟩
          have hg2 := hN6.out
          have HS10 := Lib.hid (HS9.out.but hNg hg2 hk10)
          have HX10 := Lib.hid hx10
          have HM10 := Lib.hid (hk10.blk HM9.out (by have := HNE.out; simp; omega))
          have HK10 := Lib.hid hk10
          clear hx10 hk10 m0 m1 m2
          have m2 := blk_cells HM10.out 2
          simp only [List.getElem?_toArray, List.getElem?_cons_zero, List.getElem?_cons_succ] at m2
          obtain ⟨x0, x1, x2, x3⟩ := blk4 HX10.out
          obtain ⟨c0, c1, c2, c3⟩ := blk4 HS10.out.out
          obtain ⟨f0, f1, f2, f3⟩ := blk4_free HS10.out.out
          go_wp2_with fail
          have hwr : IntKind.i64.wrap ((p : Int) + 4 + (bd.length : Int)) = ((p + 4 + bd.length : Nat) : Int) := by
            rw [IntWalk.i64_in _ (by omega)]; push_cast; rfl
          have HSA : Hid (RegS W6.heap.size W8.heap.size x.method x.target (.slice A1 hds.length n1) (.slice A2 bd.length n2) bd.length W10.drew) := Lib.hid ⟨x0, x1, x2, x3, m2⟩
          have HSB := Lib.hid (regS_set (r := w.heap.size) (x := .string ⟨x.method.toArray⟩) (y := .string ⟨x.target.toArray⟩) (z := .slice A1 hds.length n1) (t := .slice A2 bd.length n2) (by omega) (by have := HNE.out; omega) HSA.out HS10.out.out)
          unfold RegS at HSA HSB
          go_region_held3 (fun w' => w'.cell? ⟨W6.heap.size, 0, none⟩ = some (.string ⟨x.method.toArray⟩) ∧ w'.cell? ⟨W6.heap.size, 1, none⟩ = some (.string ⟨x.target.toArray⟩) ∧ w'.cell? ⟨W6.heap.size, 2, none⟩ = some (.slice A1 hds.length n1) ∧ w'.cell? ⟨W6.heap.size, 3, none⟩ = some (.slice A2 bd.length n2) ∧ w'.cell? ⟨W8.heap.size, 2, none⟩ = some (.int .i64 (bd.length : Int))) (first | exact HSA.out | exact HSB.out) (fail)
          simp only [Exit.then]
          go_wp2_with fail
          (try simp only [Exit.inBlock, Exit.then])
          have hst := rq_set (x := .string ⟨x.method.toArray⟩) (y := .string ⟨x.target.toArray⟩) (z := .slice A1 hds.length n1) (u := .slice A2 bd.length n2) HS10.out.out
          refine bodyPost_ret (results_row_tmp2 rfl _ _ _ w.heap.size _ rfl (rq_load hst.2)) rfl ?_
          have hs7 : (W6.alloc (.cells #[.string ⟨x.method.toArray⟩, .string ⟨x.target.toArray⟩, .slice none 0 0, .slice none 0 0] 26)).heap.size = W6.heap.size + 1 := by simp
          have o1 := HO1.out
          have o2 := HO2.out
          rw [hs7] at o1 o2
          have hdr : ∀ U : World, Below U.heap.size U U.drew := fun U => below_drewN (Below.refl _ _) 1
          refine ReqOut.mk' HR4.out (by push_cast; omega) (own_lower ((((o1.next HB9.out).but HK10.out (by simp)).but hst.1 (by simp; omega)).next (hdr _)) (by omega)) (own_lower ((((o2.next HB9.out).but HK10.out (by simp)).but hst.1 (by simp; omega)).next (hdr _)) (by omega)) ((HS10.out.below.trans (hst.1.to HS10.out.below.size (by simp))).trans ((hdr _).mono ?_))
          exact Nat.le_trans HS10.out.below.size hst.1.size
        · have hR := HR3.out
          rw [if_neg her] at hR
          have HR4 := Lib.hid hR
          clear hR HR3
          obtain ⟨d0, d1, d2, d3⟩ := blk4 HS9.out.none_
          obtain ⟨c0, c1, c2, c3⟩ := blk4 HS9.out.out
          obtain ⟨f0, f1, f2, f3⟩ := blk4_free HS9.out.out
          go_wp2_with fail
          (try simp only [Exit.inBlock, Exit.then])
          refine bodyPost_ret (results_row_tmp2 rfl _ _ _ w.heap.size _ rfl HS9.out.load) rfl ?_
          exact HS9.out.zero HR4.out
      · go_wp2_with fail
        refine (HREST.out _ _ (by rw [List.length_drop]; omega) (cells_dropO HCB.out (by omega))).mono ?_
        rintro e W8 ⟨hv, bv, rfl, hO1, hO2, hb8⟩
        dsimp only at hO1 hO2
        obtain ⟨A1, n1, rfl⟩ := own_shape hO1
        obtain ⟨A2, n2, rfl⟩ := own_shape hO2
        have HO1 := Lib.hid hO1
        have HO2 := Lib.hid hO2
        have HS9 := Lib.hid ((HS7.out.next hb8).next (below_box W8 (.cells #[.slice A1 hds.length n1, .slice A2 bd.length n2, .int .i64 (bd.length : Int)] 73)))
        have HX9 := Lib.hid (blk_next (below_box W8 (.cells #[.slice A1 hds.length n1, .slice A2 bd.length n2, .int .i64 (bd.length : Int)] 73)) (blk_next hb8 HXB.out))
        have HM9 := Lib.hid (heap_alloc_new W8 (.cells #[.slice A1 hds.length n1, .slice A2 bd.length n2, .int .i64 (bd.length : Int)] 73))
        have hne86 : W6.heap.size < W8.heap.size := by
          have h1 := hb8.size
          have h2 : (W6.alloc (.cells #[.string ⟨x.method.toArray⟩, .string ⟨x.target.toArray⟩, .slice none 0 0, .slice none 0 0] 26)).heap.size = W6.heap.size + 1 := by simp
          omega
        have HNE := Lib.hid hne86
        have HB9 := Lib.hid (below_box W8 (.cells #[.slice A1 hds.length n1, .slice A2 bd.length n2, .int .i64 (bd.length : Int)] 73))
        clear hO1 hO2 hb8 HREST HCB hne86
        by_cases her : er = 0
        · subst her
          have hR := HR3.out
          simp only [if_true] at hR
          have HR4 := Lib.hid hR
          clear hR HR3
          have m0 := blk_cells HM9.out 0
          have m1 := blk_cells HM9.out 1
          have m2 := blk_cells HM9.out 2
          simp only [List.getElem?_toArray, List.getElem?_cons_zero, List.getElem?_cons_succ] at m0 m1 m2
          go_wp2_with fail
          generalize W8.alloc (.cells #[.slice A1 hds.length n1, .slice A2 bd.length n2, .int .i64 (bd.length : Int)] 73) = W9 at HS9 HX9 HM9 HB9 m0 m1 m2 ⊢
          refine (fillQ_any _ _ _ _ _ _ _ _ _ _ _ _ _ HX9.out).mono ?_
          rintro e W10 ⟨rfl, hx10, hk10⟩
          have hg2 := hN6.out
          have HS10 := Lib.hid (HS9.out.but hNg hg2 hk10)
          have HX10 := Lib.hid hx10
          have HM10 := Lib.hid (hk10.blk HM9.out (by have := HNE.out; simp; omega))
          have HK10 := Lib.hid hk10
          clear hx10 hk10 m0 m1 m2
          have m2 := blk_cells HM10.out 2
          simp only [List.getElem?_toArray, List.getElem?_cons_zero, List.getElem?_cons_succ] at m2
          obtain ⟨x0, x1, x2, x3⟩ := blk4 HX10.out
          obtain ⟨c0, c1, c2, c3⟩ := blk4 HS10.out.out
          obtain ⟨f0, f1, f2, f3⟩ := blk4_free HS10.out.out
          go_wp2_with fail
          have hwr : IntKind.i64.wrap ((p : Int) + 4 + (bd.length : Int)) = ((p + 4 + bd.length : Nat) : Int) := by
            rw [IntWalk.i64_in _ (by omega)]; push_cast; rfl
          have HSA : Hid (RegS W6.heap.size W8.heap.size x.method x.target (.slice A1 hds.length n1) (.slice A2 bd.length n2) bd.length W10.drew) := Lib.hid ⟨x0, x1, x2, x3, m2⟩
          have HSB := Lib.hid (regS_set (r := w.heap.size) (x := .string ⟨x.method.toArray⟩) (y := .string ⟨x.target.toArray⟩) (z := .slice A1 hds.length n1) (t := .slice A2 bd.length n2) (by omega) (by have := HNE.out; omega) HSA.out HS10.out.out)
          unfold RegS at HSA HSB
          go_region_held3 (fun w' => w'.cell? ⟨W6.heap.size, 0, none⟩ = some (.string ⟨x.method.toArray⟩) ∧ w'.cell? ⟨W6.heap.size, 1, none⟩ = some (.string ⟨x.target.toArray⟩) ∧ w'.cell? ⟨W6.heap.size, 2, none⟩ = some (.slice A1 hds.length n1) ∧ w'.cell? ⟨W6.heap.size, 3, none⟩ = some (.slice A2 bd.length n2) ∧ w'.cell? ⟨W8.heap.size, 2, none⟩ = some (.int .i64 (bd.length : Int))) (first | exact HSA.out | exact HSB.out) (fail)
          simp only [Exit.then]
          go_wp2_with fail
          (try simp only [Exit.inBlock, Exit.then])
          have hst := rq_set (x := .string ⟨x.method.toArray⟩) (y := .string ⟨x.target.toArray⟩) (z := .slice A1 hds.length n1) (u := .slice A2 bd.length n2) HS10.out.out
          refine bodyPost_ret (results_row_tmp2 rfl _ _ _ w.heap.size _ rfl (rq_load hst.2)) rfl ?_
          have hs7 : (W6.alloc (.cells #[.string ⟨x.method.toArray⟩, .string ⟨x.target.toArray⟩, .slice none 0 0, .slice none 0 0] 26)).heap.size = W6.heap.size + 1 := by simp
          have o1 := HO1.out
          have o2 := HO2.out
          rw [hs7] at o1 o2
          have hdr : ∀ U : World, Below U.heap.size U U.drew := fun U => below_drewN (Below.refl _ _) 1
          refine ReqOut.mk' HR4.out (by push_cast; omega) (own_lower ((((o1.next HB9.out).but HK10.out (by simp)).but hst.1 (by simp; omega)).next (hdr _)) (by omega)) (own_lower ((((o2.next HB9.out).but HK10.out (by simp)).but hst.1 (by simp; omega)).next (hdr _)) (by omega)) ((HS10.out.below.trans (hst.1.to HS10.out.below.size (by simp))).trans ((hdr _).mono ?_))
          exact Nat.le_trans HS10.out.below.size hst.1.size
        · have hR := HR3.out
          rw [if_neg her] at hR
          have HR4 := Lib.hid hR
          clear hR HR3
          obtain ⟨d0, d1, d2, d3⟩ := blk4 HS9.out.none_
          obtain ⟨c0, c1, c2, c3⟩ := blk4 HS9.out.out
          obtain ⟨f0, f1, f2, f3⟩ := blk4_free HS9.out.out
          go_wp2_with fail
          (try simp only [Exit.inBlock, Exit.then])
          refine bodyPost_ret (results_row_tmp2 rfl _ _ _ w.heap.size _ rfl HS9.out.load) rfl ?_
          exact HS9.out.zero HR4.out
end Go.Proofs.YtoadahommlcjpaaGreatDoor
