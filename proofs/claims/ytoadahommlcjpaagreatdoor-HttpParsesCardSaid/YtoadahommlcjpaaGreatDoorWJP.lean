/-
  THE WALKS: the closures of ParseResponse; read at a response.
-/
import Derived.Test.YtoadahommlcjpaaGreatDoorWO
import Derived.Deep.QuietTactic
import Derived.Lib.SlBytesConst
import Derived.IntWalk
import Derived.Deep.RegionHeld3
namespace Go.Proofs.YtoadahommlcjpaaGreatDoor
open Go.RowKit
theorem rp_load {w : World} {b : Nat} {x y z : Value} (h : w.heap[b]? = some (.cells #[x, y, z] 36 (0, 0))) : (loadVar 36 ⟨b, 0, none⟩).run Tryz.prog w = .ok (.agg #[x, y, z]) w :=
  run_loadVar_row w b 36 36 #[x, y, z] (0, 0) _ h Tryz.underlying36 rfl (by kernel_rfl)
/-- Three stores into a response's block. -/
theorem rp_set {w : World} {b : Nat} {p q r x y z : Value} (h : w.heap[b]? = some (.cells #[p, q, r] 36 (0, 0))) :
    But [b] w (((w.setCell ⟨b, 0, none⟩ x).setCell ⟨b, 1, none⟩ y).setCell ⟨b, 2, none⟩ z) ∧ (((w.setCell ⟨b, 0, none⟩ x).setCell ⟨b, 1, none⟩ y).setCell ⟨b, 2, none⟩ z).heap[b]? = some (.cells #[x, y, z] 36 (0, 0)) := by
  obtain ⟨h1, h2⟩ := but_set (i := 0) x h
  obtain ⟨h3, h4⟩ := but_set (i := 1) y h2
  obtain ⟨h5, h6⟩ := but_set (i := 2) z h4
  exact ⟨(h1.trans h3).trans h5, h6⟩
theorem blk3_free {w : World} {b : Nat} {x y z : Value} (h : w.heap[b]? = some (.cells #[x, y, z] 36 (0, 0))) :
    w.frozen? ⟨b, 0, none⟩ = false ∧ w.frozen? ⟨b, 1, none⟩ = false ∧ w.frozen? ⟨b, 2, none⟩ = false :=
  ⟨blk_free h 0, blk_free h 1, blk_free h 2⟩
set_option maxRecDepth 100000 in
set_option maxHeartbeats 4000000 in
theorem firstP_any (l : Ht.Bs) (w : World) (henv : Env w) (hlen : l.length < 4294967281) :
    Calls Tryz.prog 47 #[.string ⟨l.toArray⟩] w fun e w' => e = .returned (.tuple #[.agg #[.int .i64 (Ht.firstP l).1.status, .slice none 0 0, .slice none 0 0], .bool (Ht.firstP l).2]) ∧ Below w.heap.size w w' := by
  obtain ⟨p, hp⟩ : ∃ p, Ht.threeOf l = p := ⟨_, rfl⟩
  have hpl := three_len l
  rw [hp] at hpl
  obtain ⟨nm, hnm⟩ : ∃ q, Ht.num p.2.1 = q := ⟨_, rfl⟩
  obtain ⟨q5, hq5⟩ : ∃ q, Ht.allB p.2.1 48 57 = q := ⟨_, rfl⟩
  obtain ⟨q8, hq8⟩ : ∃ q, Ht.allB p.2.2.1 32 126 = q := ⟨_, rfl⟩
  have H1 := Lib.hid (fun W (hE : Env W) => three_any l W hE hlen)
  have H2 := Lib.hid (fun W (hE : Env W) => atoi_any p.2.1 W hE (by omega))
  have H5 := Lib.hid (fun W => allB_any ⟨p.2.1.toArray⟩ 48 57 W (by rw [Lib.size_eq]; show p.2.1.length ≤ _; omega) hq5)
  have H8 := Lib.hid (fun W => allB_any ⟨p.2.2.1.toArray⟩ 32 126 W (by rw [Lib.size_eq]; show p.2.2.1.length ≤ _; omega) hq8)
  have HE : Hid (Ht.firstP l = (⟨nm.1, [], []⟩, p.2.2.2 && nm.2 && decide (p.1 = Ht.verW) && decide (p.2.1.length = 3) && q5 && decide (200 ≤ nm.1) && decide (nm.1 ≤ 599) && q8)) := Lib.hid (by unfold Ht.firstP; rw [hp, hnm, hq5, hq8])
  rw [hp] at H1
  rw [hnm] at H2
  generalize Ht.firstP l = R at HE ⊢
  clear hp hpl hq5 hq8 hlen hnm
  obtain ⟨x, y, z, ok⟩ := p
  obtain ⟨n, nok⟩ := nm
  obtain ⟨rs, rq⟩ := R
  have HX := HE.out
  injection HX with hx1 hx2
  subst hx1
  have HQ := Lib.hid hx2
  clear HE hx2
  dsimp only at H1 H2 H5 H8 HQ ⊢
  have HW0 := Lib.hid (below_box w (.cells #[.int .i64 0, .slice none 0 0, .slice none 0 0] 36))
  have HB0 : Hid ((w.alloc (.cells #[.int .i64 0, .slice none 0 0, .slice none 0 0] 36)).heap[w.heap.size]? = some (.cells #[.int .i64 0, .slice none 0 0, .slice none 0 0] 36 (0, 0))) := Lib.hid (heap_alloc_new w _)
  have HEnv := Lib.hid henv
  clear henv
  go_enter Tryz.func47, Tryz.ntmps47
  go_wp2_with fail
  generalize w.alloc (.cells #[.int .i64 0, .slice none 0 0, .slice none 0 0] 36) = wa at HW0 HB0 ⊢
  have HEa := Lib.hid (HEnv.out.next HW0.out)
  refine (H1.out _ HEa.out).mono ?_
  rintro e w' ⟨rfl, n1, rfl⟩
  have HWb : Hid (Below w.heap.size w (wa.drewN n1)) := Lib.hid (below_drewN HW0.out n1)
  have HBb : Hid ((wa.drewN n1).heap[w.heap.size]? = some (.cells #[.int .i64 0, .slice none 0 0, .slice none 0 0] 36 (0, 0))) := HB0
  generalize wa.drewN n1 = wb at HWb HBb ⊢
  clear HB0 HW0 HEa
  go_wp2_with fail
  refine (H2.out _ (HEnv.out.next HWb.out)).mono ?_
  rintro e wc ⟨⟨ev, rfl, hev⟩, hbc⟩
  have HWc := Lib.hid (HWb.out.trans (hbc.mono HWb.out.size))
  have HBc := Lib.hid (blk_next hbc HBb.out)
  clear hbc HWb HBb
  obtain ⟨c0, c1, c2⟩ := blk3 HBc.out
  obtain ⟨f0, f1, f2⟩ := blk3_free HBc.out
  have HS := Lib.hid (rp_set (x := .int .i64 n) (y := .slice none 0 0) (z := .slice none 0 0) HBc.out)
  have HT := Lib.hid (HWc.out.trans (HS.out.1.to HWc.out.size (by simp)))
  cases ok
  · rcases hev with ⟨rfl, rfl⟩ | ⟨rfl, te, pe, rfl⟩
    · go_wp2_with fail
      (try simp only [Exit.inBlock, Exit.then])
      refine bodyPost_ret (results_row_tmp rfl _ _ _ w.heap.size _ rfl (rp_load HS.out.2)) rfl ?_
      exact ⟨retv (by rw [HQ.out]; simp), HT.out⟩
    · go_wp2_with fail
      (try simp only [Exit.inBlock, Exit.then])
      refine bodyPost_ret (results_row_tmp rfl _ _ _ w.heap.size _ rfl (rp_load HS.out.2)) rfl ?_
      exact ⟨retv (by rw [HQ.out]; simp), HT.out⟩
  · rcases hev with ⟨rfl, rfl⟩ | ⟨rfl, te, pe, rfl⟩
    · by_cases h3 : x = Ht.verW
      · have hb3 : (x == [72, 84, 84, 80, 47, 49, 46, 49]) = true := by rw [beq_ver]; simp [h3]
        by_cases h4 : y.length = 3
        · have hb4 : ((y.length : Int) == 3) = true := by simp [h4]
          go_wp2_with fail
          refine (H5.out _).mono ?_
          rintro e w' ⟨rfl, rfl⟩
          cases q5
          · have h5 : True := trivial
            go_wp2_with fail
            (try simp only [Exit.inBlock, Exit.then])
            refine bodyPost_ret (results_row_tmp rfl _ _ _ w.heap.size _ rfl (rp_load HS.out.2)) rfl ?_
            exact ⟨retv (by rw [HQ.out]; simp [h4]), HT.out⟩
          · have h5 : True := trivial
            by_cases h6 : 200 ≤ n
            · by_cases h7 : n ≤ 599
              · go_wp2_with fail
                refine (H8.out _).mono ?_
                rintro e w' ⟨rfl, rfl⟩
                go_wp2_with fail
                (try simp only [Exit.inBlock, Exit.then])
                refine bodyPost_ret (results_row_tmp rfl _ _ _ w.heap.size _ rfl (rp_load HS.out.2)) rfl ?_
                exact ⟨retv (by rw [HQ.out]; simp [h3, h4, h6, h7]), HT.out⟩
              · have h7n : 599 < n := by omega
                go_wp2_with fail
                (try simp only [Exit.inBlock, Exit.then])
                refine bodyPost_ret (results_row_tmp rfl _ _ _ w.heap.size _ rfl (rp_load HS.out.2)) rfl ?_
                exact ⟨retv (by rw [HQ.out, show decide (n ≤ 599) = false from decide_eq_false (by omega)]; simp), HT.out⟩
            · have h6n : n < 200 := by omega
              go_wp2_with fail
              (try simp only [Exit.inBlock, Exit.then])
              refine bodyPost_ret (results_row_tmp rfl _ _ _ w.heap.size _ rfl (rp_load HS.out.2)) rfl ?_
              exact ⟨retv (by rw [HQ.out, show decide (200 ≤ n) = false from decide_eq_false (by omega)]; simp), HT.out⟩
        · have hb4 : ((y.length : Int) == 3) = false := by rw [beq_eq_false_iff_ne]; omega
          go_wp2_with fail
          (try simp only [Exit.inBlock, Exit.then])
          refine bodyPost_ret (results_row_tmp rfl _ _ _ w.heap.size _ rfl (rp_load HS.out.2)) rfl ?_
          exact ⟨retv (by rw [HQ.out]; simp [h4]), HT.out⟩
      · have hb3 : (x == [72, 84, 84, 80, 47, 49, 46, 49]) = false := by rw [beq_ver]; simp [h3]
        go_wp2_with fail
        (try simp only [Exit.inBlock, Exit.then])
        refine bodyPost_ret (results_row_tmp rfl _ _ _ w.heap.size _ rfl (rp_load HS.out.2)) rfl ?_
        exact ⟨retv (by rw [HQ.out]; simp [h3]), HT.out⟩
    · go_wp2_with fail
      (try simp only [Exit.inBlock, Exit.then])
      refine bodyPost_ret (results_row_tmp rfl _ _ _ w.heap.size _ rfl (rp_load HS.out.2)) rfl ?_
      exact ⟨retv (by rw [HQ.out]; simp), HT.out⟩
set_option maxRecDepth 100000 in
set_option maxHeartbeats 4000000 in
theorem fillP_any (g : Nat) (x y z k : Value) (A B : Option Addr) (n c m d : Nat) (w : World) (hg : w.heap[g]? = some (.cells #[x, y, z] 36 (0, 0))) :
    Calls Tryz.prog 50 #[.pointer (some ⟨g, 0, none⟩), .agg #[.slice A n c, .slice B m d, k]] w fun e w' => e = .returned (.tuple #[]) ∧ w'.heap[g]? = some (.cells #[x, .slice A n c, .slice B m d] 36 (0, 0)) ∧ But [g] w w' := by
  have hglt := (Array.getElem?_eq_some_iff.1 hg).1
  have hne : g ≠ w.heap.size := by omega
  have hb1 := below_box w (.cells #[.slice A n c, .slice B m d, k] 73)
  have hgm := heap_alloc_new w (.cells #[.slice A n c, .slice B m d, k] 73)
  have hgg := blk_next hb1 hg
  have c2 := blk_cells hgg 1
  have c3 := blk_cells hgg 2
  have f2 := blk_free hgg 1
  have f3 := blk_free hgg 2
  have m0 := blk_cells hgm 0
  have m1 := blk_cells hgm 1
  simp only [List.getElem?_toArray, List.getElem?_cons_zero, List.getElem?_cons_succ] at c2 c3 m0 m1
  have HBt := Lib.hid (But.of (S := [g]) hb1)
  have HG := Lib.hid hgg
  have HN := Lib.hid hne
  clear hb1 hgm hgg hne hg hglt
  go_enter Tryz.func50, Tryz.ntmps50
  go_wp2_with fail
  generalize w.alloc (.cells #[.slice A n c, .slice B m d, k] 73) = wa at *
  generalize w.heap.size = gm at *
  have hne1 := HN.out
  have hne2 := Ne.symm HN.out
  go_region
  go_end0
  obtain ⟨h1, h2⟩ := but_set (i := 1) (.slice A n c) HG.out
  obtain ⟨h3, h4⟩ := but_set (i := 2) (.slice B m d) h2
  exact ⟨rfl, h4, ((HBt.out.trans h1).trans h3).trans (But.of (below_drewN (Below.refl _ _) 1))⟩
/-- What a parser of responses hands back. -/
def RspOut (w : World) (r : Ht.Rsp × Nat × Int) (e : Ending) (w' : World) : Prop :=
  ∃ hv bv, e = .returned (.tuple #[.agg #[.int .i64 r.1.status, hv, bv], .int .i64 (r.2.1 : Int), .int .i64 r.2.2]) ∧ Own 65 2 w.heap.size hv r.1.heads.length (hdCells r.1.heads) w' ∧ Own 5 1 w.heap.size bv r.1.body.length (Lib.byteCells r.1.body) w' ∧ Below w.heap.size w w'
theorem RspOut.err {w w' : World} {k : Int} (hb : Below w.heap.size w w') : RspOut w (Ht.zRsp, 0, k) (.returned (.tuple #[.agg #[.int .i64 0, .slice none 0 0, .slice none 0 0], .int .i64 0, .int .i64 k])) w' :=
  ⟨_, _, rfl, own_none 65 2 _ hb.size, own_none 5 1 _ hb.size, hb⟩
theorem RspOut.mk' {w W : World} {R : Ht.Rsp × Nat × Int} {m : Int} {hds : List Ht.Hd} {bd : Ht.Bs} {k : Nat} {v : Int} {x y : Value} (hR : R = (⟨m, hds, bd⟩, k, 0)) (hv : v = (k : Int))
    (h1 : Own 65 2 w.heap.size x hds.length (hdCells hds) W) (h2 : Own 5 1 w.heap.size y bd.length (Lib.byteCells bd) W) (hb : Below w.heap.size w W) :
    RspOut w R (.returned (.tuple #[.agg #[.int .i64 m, x, y], .int .i64 v, .int .i64 0])) W := by
  subst hR hv
  exact ⟨x, y, rfl, h1, h2, hb⟩
def zp : Array Value := #[.int .i64 0, .slice none 0 0, .slice none 0 0]
/-- What lies in memory while a response is read. -/
structure PSt (w W : World) : Prop where
  below : Below w.heap.size w W
  out : W.heap[w.heap.size]? = some (.cells #[.int .i64 0, .slice none 0 0, .slice none 0 0] 36 (0, 0))
  none_ : W.heap[w.heap.size + 1]? = some (.cells #[.int .i64 0, .slice none 0 0, .slice none 0 0] 36 (0, 0))
  env : Env W
theorem PSt.next {w W W' : World} (h : PSt w W) (hb : Below W.heap.size W W') : PSt w W' :=
  ⟨h.below.trans (hb.mono h.below.size), blk_next hb h.out, blk_next hb h.none_, h.env.next hb⟩
theorem PSt.zero {w W : World} (h : PSt w W) {R : Ht.Rsp × Nat × Int} {k : Int} (hR : R = (Ht.zRsp, 0, k)) :
    RspOut w R (.returned (.tuple #[.agg #[.int .i64 0, .slice none 0 0, .slice none 0 0], .int .i64 0, .int .i64 k])) (((W.setCell ⟨w.heap.size, 0, none⟩ (.int .i64 0)).setCell ⟨w.heap.size, 1, none⟩ (.slice none 0 0)).setCell ⟨w.heap.size, 2, none⟩ (.slice none 0 0)) := by
  rw [hR]
  exact RspOut.err (h.below.trans ((rp_set h.out).1.to h.below.size (by simp)))
theorem PSt.load {w W : World} (h : PSt w W) : (loadVar 36 ⟨w.heap.size, 0, none⟩).run Tryz.prog (((W.setCell ⟨w.heap.size, 0, none⟩ (.int .i64 0)).setCell ⟨w.heap.size, 1, none⟩ (.slice none 0 0)).setCell ⟨w.heap.size, 2, none⟩ (.slice none 0 0)) = .ok (.agg #[.int .i64 0, .slice none 0 0, .slice none 0 0]) (((W.setCell ⟨w.heap.size, 0, none⟩ (.int .i64 0)).setCell ⟨w.heap.size, 1, none⟩ (.slice none 0 0)).setCell ⟨w.heap.size, 2, none⟩ (.slice none 0 0)) :=
  rp_load (rp_set h.out).2
theorem PSt.but {w W W' : World} {g : Nat} (h : PSt w W) (hw : 9 ≤ w.heap.size) (hg : w.heap.size + 2 ≤ g) (hk : But [g] W W') : PSt w W' :=
  ⟨h.below.trans (hk.to h.below.size (by simp; omega)), hk.blk h.out (by simp; omega), hk.blk h.none_ (by simp; omega), h.env.low (fun j hj => hk.block j (by have := h.env.big; omega) (by simp; omega))⟩
/-- What the last region loads. -/
def RegP (xb mb : Nat) (a : Int) (u v : Value) (k : Nat) (W : World) : Prop :=
  W.cell? ⟨xb, 0, none⟩ = some (.int .i64 a) ∧ W.cell? ⟨xb, 1, none⟩ = some u ∧ W.cell? ⟨xb, 2, none⟩ = some v ∧ W.cell? ⟨mb, 2, none⟩ = some (.int .i64 (k : Int))
theorem regP_set {xb mb r : Nat} {a : Int} {u v p q s x y z : Value} {k : Nat} {W : World} (h1 : xb ≠ r) (h2 : mb ≠ r) (h : RegP xb mb a u v k W) (hr : W.heap[r]? = some (.cells #[p, q, s] 36 (0, 0))) :
    RegP xb mb a u v k (((W.setCell ⟨r, 0, none⟩ x).setCell ⟨r, 1, none⟩ y).setCell ⟨r, 2, none⟩ z) := by
  have hk := (rp_set (x := x) (y := y) (z := z) hr).1
  obtain ⟨c0, c1, c2, c3⟩ := h
  exact ⟨hk.cellAt (by simpa using h1) c0, hk.cellAt (by simpa using h1) c1, hk.cellAt (by simpa using h1) c2, hk.cellAt (by simpa using h2) c3⟩
set_option maxRecDepth 100000 in
set_option maxHeartbeats 4000000 in
theorem readP_any (b : Ht.Bs) (B : Option Addr) (c : Nat) (w : World) (henv : Env w) (hbc : b.length ≤ c) (hc : b.length ≤ 140737488355328) (hcells : CellsAt w B (Lib.byteCells b)) :
    Calls Tryz.prog 46 #[.slice B b.length c, .func (.func 47) #[] #[], .func (.func 50) #[] #[]] w (RspOut w (Ht.parseRsp b)) := by
  have hw9 : 9 ≤ w.heap.size := henv.big
  obtain ⟨l, hl⟩ : ∃ l, b.take 2048 = l := ⟨_, rfl⟩
  have hll : l.length = min b.length 2048 := by rw [← hl, List.length_take, Nat.min_comm]
  have hmk : min (b.length : Int) 2048 = (l.length : Int) := by rw [hll]; omega
  have hlb : l.length ≤ b.length := by omega
  have hl2 : l.length ≤ 2048 := by omega
  have HL := Lib.hid hl
  have HLL := Lib.hid hll
  have kc := Lib.run_convert_bytes_const (P := Tryz.prog) ((w.alloc (.cells #[.int .i64 0, .slice none 0 0, .slice none 0 0] 36)).alloc (.cells #[.int .i64 0, .slice none 0 0, .slice none 0 0] 36)) 22 5 #[.int .u8 13, .int .u8 10, .int .u8 13, .int .u8 10] 4 4 Tryz.underlying22 Tryz.underlying5
  rw [show ((w.alloc (.cells #[.int .i64 0, .slice none 0 0, .slice none 0 0] 36)).alloc (.cells #[.int .i64 0, .slice none 0 0, .slice none 0 0] 36)).heap.size = w.heap.size + 1 + 1 by simp] at kc
  have HCL : Hid (∀ W, Below w.heap.size w W → CellsAt W B (Lib.byteCells b)) := Lib.hid (fun W hW => hcells.next hW (Nat.le_refl _))
  have hsz : ((w.alloc (.cells #[.int .i64 0, .slice none 0 0, .slice none 0 0] 36)).alloc (.cells #[.int .i64 0, .slice none 0 0, .slice none 0 0] 36)).heap.size = w.heap.size + 1 + 1 := by simp
  have HB0 := Lib.hid (blk_next (below_box _ (.cells #[.int .i64 0, .slice none 0 0, .slice none 0 0] 36)) (heap_alloc_new w (.cells #[.int .i64 0, .slice none 0 0, .slice none 0 0] 36)))
  have HB1 := Lib.hid (heap_alloc_new (w.alloc (.cells #[.int .i64 0, .slice none 0 0, .slice none 0 0] 36)) (.cells #[.int .i64 0, .slice none 0 0, .slice none 0 0] 36))
  rw [show (w.alloc (.cells #[.int .i64 0, .slice none 0 0, .slice none 0 0] 36)).heap.size = w.heap.size + 1 by simp] at HB1
  have HG := Lib.hid (crlf_cells ((w.alloc (.cells #[.int .i64 0, .slice none 0 0, .slice none 0 0] 36)).alloc (.cells #[.int .i64 0, .slice none 0 0, .slice none 0 0] 36)))
  have hb3 : Below ((w.alloc (.cells #[.int .i64 0, .slice none 0 0, .slice none 0 0] 36)).alloc (.cells #[.int .i64 0, .slice none 0 0, .slice none 0 0] 36)).heap.size ((w.alloc (.cells #[.int .i64 0, .slice none 0 0, .slice none 0 0] 36)).alloc (.cells #[.int .i64 0, .slice none 0 0, .slice none 0 0] 36)) (((w.alloc (.cells #[.int .i64 0, .slice none 0 0, .slice none 0 0] 36)).alloc (.cells #[.int .i64 0, .slice none 0 0, .slice none 0 0] 36)).alloc (.cells #[.int .u8 13, .int .u8 10, .int .u8 13, .int .u8 10] 5 (4, 5))) := below_box _ _
  have HB0' := Lib.hid (blk_next hb3 HB0.out)
  have HB1' := Lib.hid (blk_next hb3 HB1.out)
  have HW3 := Lib.hid ((((Below.refl _ w).alloc (Nat.le_refl _) (.cells #[.int .i64 0, .slice none 0 0, .slice none 0 0] 36)).alloc (by simp) (.cells #[.int .i64 0, .slice none 0 0, .slice none 0 0] 36)).trans (hb3.mono (by rw [hsz]; omega)))
  rw [hsz] at HG
  have HEnv := Lib.hid (henv.next HW3.out)
  clear hl hll hcells henv hsz HB0 HB1 hb3
  have HPR : Hid (Ht.parseRsp b = match Ht.endAt l with
    | none => (Ht.zRsp, 0, if 2048 ≤ b.length then 342 else 341)
    | some at_ => if (Ht.firstP (Ht.upto2 13 10 (b.take (at_ + 2))).1).2 then
        if (Ht.restOf (Ht.upto2 13 10 (b.take (at_ + 2))).2.1 (b.drop (at_ + 4))).2 = 0 then ({ (Ht.firstP (Ht.upto2 13 10 (b.take (at_ + 2))).1).1 with heads := (Ht.restOf (Ht.upto2 13 10 (b.take (at_ + 2))).2.1 (b.drop (at_ + 4))).1.1, body := (Ht.restOf (Ht.upto2 13 10 (b.take (at_ + 2))).2.1 (b.drop (at_ + 4))).1.2 }, at_ + 4 + (Ht.restOf (Ht.upto2 13 10 (b.take (at_ + 2))).2.1 (b.drop (at_ + 4))).1.2.length, 0)
        else (Ht.zRsp, 0, (Ht.restOf (Ht.upto2 13 10 (b.take (at_ + 2))).2.1 (b.drop (at_ + 4))).2)
      else (Ht.zRsp, 0, 340)) := Lib.hid (by unfold Ht.parseRsp Ht.readOf; rw [HL.out]; cases Ht.endAt l <;> rfl)
  generalize Ht.parseRsp b = R at HPR ⊢
  go_enter Tryz.func46, Tryz.ntmps46
  go_wp2_with fail
  generalize ((w.alloc (.cells #[.int .i64 0, .slice none 0 0, .slice none 0 0] 36)).alloc (.cells #[.int .i64 0, .slice none 0 0, .slice none 0 0] 36)).alloc (.cells #[.int .u8 13, .int .u8 10, .int .u8 13, .int .u8 10] 5 (4, 5)) = W3 at HB0' HB1' HW3 HG HEnv ⊢
  clear kc
  have HCl := Lib.hid (show CellsAt W3 B (Lib.byteCells l) by rw [← HL.out]; exact cells_take (HCL.out W3 HW3.out) 2048)
  refine (findEnd_any l B c _ _ HEnv.out (by omega) (by omega) HCl.out HG.out).mono ?_
  rintro e w' ⟨rfl, n, rfl⟩
  have HS4 : Hid (PSt w (W3.drewN n)) := Lib.hid ⟨below_drewN HW3.out n, HB0'.out, HB1'.out, HEnv.out.next (below_drewN (Below.refl _ _) n)⟩
  generalize W3.drewN n = W4 at HS4 ⊢
  clear HB0' HB1' HW3 HG HEnv HCl
  cases hp : Ht.endAt l with
  | none =>
    rw [endI_none hp]
    rw [hp] at HPR
    by_cases h2 : 2048 ≤ b.length
    · have HR := HPR.out
      simp only at HR
      rw [if_pos h2] at HR
      have HRR := Lib.hid HR
      clear HR hp
      obtain ⟨d0, d1, d2⟩ := blk3 HS4.out.none_
      obtain ⟨c0, c1, c2⟩ := blk3 HS4.out.out
      obtain ⟨f0, f1, f2⟩ := blk3_free HS4.out.out
      go_wp2_with fail
      (try simp only [Exit.inBlock, Exit.then])
      refine bodyPost_ret (results_row_tmp2 rfl _ _ _ w.heap.size _ rfl HS4.out.load) rfl ?_
      exact HS4.out.zero HRR.out
    · have HR := HPR.out
      simp only at HR
      rw [if_neg h2] at HR
      have HRR := Lib.hid HR
      clear HR hp
      obtain ⟨d0, d1, d2⟩ := blk3 HS4.out.none_
      obtain ⟨c0, c1, c2⟩ := blk3 HS4.out.out
      obtain ⟨f0, f1, f2⟩ := blk3_free HS4.out.out
      go_wp2_with fail
      (try simp only [Exit.inBlock, Exit.then])
      refine bodyPost_ret (results_row_tmp2 rfl _ _ _ w.heap.size _ rfl HS4.out.load) rfl ?_
      exact HS4.out.zero HRR.out
  | some p =>
    have hp4 := (Ht.endAt_le l p hp).1
    rw [endI_some hp]
    rw [hp] at HPR
    have HP := Lib.hid hp
    clear hp
    obtain ⟨s, hs⟩ : ∃ s, b.take (p + 2) = s := ⟨_, rfl⟩
    have hsl : s.length = p + 2 := by rw [← hs, List.length_take]; omega
    have kts : (convert 22 9 (.slice B (p + 2) c)).run Tryz.prog W4 = .ok (.string ⟨s.toArray⟩) W4 := by
      have h := toStr (cells_take (HCL.out W4 HS4.out.below) (p + 2)) c
      rw [hs, hsl] at h
      exact h
    obtain ⟨⟨top, head, q0⟩, hcut⟩ : ∃ x, Ht.upto2 13 10 s = x := ⟨_, rfl⟩
    have htop : top.length ≤ s.length := by have := upto2_fst 13 10 s; rw [hcut] at this; exact this
    have hhead : head.length ≤ s.length := by have := upto2_len 13 10 s; rw [hcut] at this; exact this
    have HC := Lib.hid (fun sep hs => cut2_any s sep 13 10 W4 HS4.out.env (by omega) hs)
    rw [hcut] at HC
    dsimp only at HC
    have hR := HPR.out
    simp only [hs, hcut] at hR
    have HRR := Lib.hid hR
    clear hcut hR HPR
    go_wp2_with fail
    refine (HC.out _ (by rfl)).mono ?_
    rintro e w' ⟨rfl, n2, rfl⟩
    have HS5 := Lib.hid (HS4.out.next (below_drewN (Below.refl _ _) n2))
    generalize W4.drewN n2 = W5 at HS5 ⊢
    clear HC kts HS4
    have HF := Lib.hid (firstP_any top W5 HS5.out.env (by omega))
    obtain ⟨⟨x, ok⟩, hx⟩ : ∃ x, Ht.firstP top = x := ⟨_, rfl⟩
    rw [hx] at HF
    dsimp only at HF
    have hR := HRR.out
    simp only [hx] at hR
    have HR2 := Lib.hid hR
    clear hx hR HRR
    go_wp2_with fail
    refine HF.out.mono ?_
    rintro e W6 ⟨rfl, hb6⟩
    have HS6 := Lib.hid (HS5.out.next hb6)
    clear HF hb6 HS5
    have HXB : Hid ((W6.alloc (.cells #[.int .i64 x.status, .slice none 0 0, .slice none 0 0] 36)).heap[W6.heap.size]? = some (.cells #[.int .i64 x.status, .slice none 0 0, .slice none 0 0] 36 (0, 0))) := Lib.hid (heap_alloc_new W6 _)
    have HS7 := Lib.hid (HS6.out.next (below_box W6 (.cells #[.int .i64 x.status, .slice none 0 0, .slice none 0 0] 36)))
    have hN6 : Hid (w.heap.size + 2 ≤ W6.heap.size) := Lib.hid (by have := (Array.getElem?_eq_some_iff.1 HS6.out.none_).1; omega)
    obtain ⟨d0, d1, d2⟩ := blk3 HS7.out.none_
    obtain ⟨c0, c1, c2⟩ := blk3 HS7.out.out
    obtain ⟨f0, f1, f2⟩ := blk3_free HS7.out.out
    cases ok
    · have hR := HR2.out
      simp only [Bool.false_eq_true, if_false] at hR
      have HR3 := Lib.hid hR
      clear hR HR2 HP
      go_wp2_with fail
      (try simp only [Exit.inBlock, Exit.then])
      refine bodyPost_ret (results_row_tmp2 rfl _ _ _ w.heap.size _ rfl HS7.out.load) rfl ?_
      exact HS7.out.zero HR3.out
    · have hR := HR2.out
      simp only [if_true] at hR
      have HR3 := Lib.hid hR
      clear hR HR2 HP d0 d1 d2 c0 c1 c2 f0 f1 f2
      have HREST : Hid (∀ B' c', (b.drop (p + 4)).length ≤ c' → CellsAt (W6.alloc (.cells #[.int .i64 x.status, .slice none 0 0, .slice none 0 0] 36)) B' (Lib.byteCells (b.drop (p + 4))) →
          Calls Tryz.prog 65 #[.string ⟨head.toArray⟩, .slice B' (b.length - (p + 4)) c'] (W6.alloc (.cells #[.int .i64 x.status, .slice none 0 0, .slice none 0 0] 36)) (RestOut (W6.alloc (.cells #[.int .i64 x.status, .slice none 0 0, .slice none 0 0] 36)) (Ht.restOf head (b.drop (p + 4))))) := Lib.hid (fun B' c' h1 h2 => by
        have h := rest_any head (b.drop (p + 4)) B' c' _ HS7.out.env (by omega) h1 h2
        rw [List.length_drop] at h
        exact h)
      have HCB := Lib.hid (HCL.out _ HS7.out.below)
      obtain ⟨r, hr⟩ : ∃ r, Ht.restOf head (b.drop (p + 4)) = r := ⟨_, rfl⟩
      have hbl := restOf_len head (b.drop (p + 4))
      rw [List.length_drop] at hbl
      rw [hr] at HREST HR3 hbl
      clear hr
      obtain ⟨⟨hds, bd⟩, er⟩ := r
      dsimp only at HREST HR3 hbl
      have hNg : 9 ≤ w.heap.size := hw9
      by_cases hcp : c = p + 4
      · subst hcp
        have HREST0 := HREST.out B 0 (by rw [List.length_drop]; omega) (by rw [List.drop_of_length_le (by omega)]; exact CellsAt.nil _ _)
        rw [show b.length - (p + 4) = 0 by omega] at HREST0
        have HREST0 := Lib.hid HREST0
        go_wp2_with fail
        refine (HREST0.out).mono ?_
        rintro e W8 ⟨hv, bv, rfl, hO1, hO2, hb8⟩
        dsimp only at hO1 hO2
        obtain ⟨A1, n1, rfl⟩ := own_shape hO1
        obtain ⟨A2, n2, rfl⟩ := own_shape hO2
        have HO1 := Lib.hid hO1
        have HO2 := Lib.hid hO2
        have HS9 := Lib.hid ((HS7.out.next hb8).next (below_box W8 (.cells #[.slice A1 hds.length n1, .slice A2 bd.length n2, .int .i64 (bd.length : Int)] 73)))
        have HX9 := Lib.hid (blk_next (below_box W8 (.cells #[.slice A1 hds.length n1, .slice A2 bd.length n2, .int .i64 (bd.length : Int)] 73)) (blk_next hb8 HXB.out))
        have HM9 := Lib.hid (heap_alloc_new W8 (.cells #[.slice A1 hds.length n1, .slice A2 bd.length n2, .int .i64 (bd.length : Int)] 73))
        have hne86 : W6.heap.size < W8.heap.size := by
          have h1 := hb8.size
          have h2 : (W6.alloc (.cells #[.int .i64 x.status, .slice none 0 0, .slice none 0 0] 36)).heap.size = W6.heap.size + 1 := by simp
          omega
        have HNE := Lib.hid hne86
        have HB9 := Lib.hid (below_box W8 (.cells #[.slice A1 hds.length n1, .slice A2 bd.length n2, .int .i64 (bd.length : Int)] 73))
        clear hO1 hO2 hb8 HREST HREST0 HCB hne86
        by_cases her : er = 0
        · subst her
          have hR := HR3.out
          simp only [if_true] at hR
          have HR4 := Lib.hid hR
          clear hR HR3
          have m0 := blk_cells HM9.out 0
          have m1 := blk_cells HM9.out 1
          have m2 := blk_cells HM9.out 2
          simp only [List.getElem?_toArray, List.getElem?_cons_zero, List.getElem?_cons_succ] at m0 m1 m2
          go_wp2_with fail
          generalize W8.alloc (.cells #[.slice A1 hds.length n1, .slice A2 bd.length n2, .int .i64 (bd.length : Int)] 73) = W9 at HS9 HX9 HM9 HB9 m0 m1 m2 ⊢
          refine (fillP_any _ _ _ _ _ _ _ _ _ _ _ _ HX9.out).mono ?_
          rintro e W10 ⟨rfl, hx10, hk10⟩
          have hg2 := hN6.out
          have HS10 := Lib.hid (HS9.out.but hNg hg2 hk10)
          have HX10 := Lib.hid hx10
          have HM10 := Lib.hid (hk10.blk HM9.out (by have := HNE.out; simp; omega))
          have HK10 := Lib.hid hk10
          clear hx10 hk10 m0 m1 m2
          have m2 := blk_cells HM10.out 2
          simp only [List.getElem?_toArray, List.getElem?_cons_zero, List.getElem?_cons_succ] at m2
          obtain ⟨x0, x1, x2⟩ := blk3 HX10.out
          obtain ⟨c0, c1, c2⟩ := blk3 HS10.out.out
          obtain ⟨f0, f1, f2⟩ := blk3_free HS10.out.out
          go_wp2_with fail
          have hwr : IntKind.i64.wrap ((p : Int) + 4 + (bd.length : Int)) = ((p + 4 + bd.length : Nat) : Int) := by
            rw [IntWalk.i64_in _ (by omega)]; push_cast; rfl
          have HSA : Hid (RegP W6.heap.size W8.heap.size x.status (.slice A1 hds.length n1) (.slice A2 bd.length n2) bd.length W10.drew) := Lib.hid ⟨x0, x1, x2, m2⟩
          have HSB := Lib.hid (regP_set (r := w.heap.size) (x := .int .i64 x.status) (y := .slice A1 hds.length n1) (z := .slice A2 bd.length n2) (by omega) (by have := HNE.out; omega) HSA.out HS10.out.out)
          unfold RegP at HSA HSB
          go_region_held3 (fun w' => w'.cell? ⟨W6.heap.size, 0, none⟩ = some (.int .i64 x.status) ∧ w'.cell? ⟨W6.heap.size, 1, none⟩ = some (.slice A1 hds.length n1) ∧ w'.cell? ⟨W6.heap.size, 2, none⟩ = some (.slice A2 bd.length n2) ∧ w'.cell? ⟨W8.heap.size, 2, none⟩ = some (.int .i64 (bd.length : Int))) (first | exact HSA.out | exact HSB.out) (fail)
          simp only [Exit.then]
          go_wp2_with fail
          (try simp only [Exit.inBlock, Exit.then])
          have hst := rp_set (x := .int .i64 x.status) (y := .slice A1 hds.length n1) (z := .slice A2 bd.length n2) HS10.out.out
          refine bodyPost_ret (results_row_tmp2 rfl _ _ _ w.heap.size _ rfl (rp_load hst.2)) rfl ?_
          have hs7 : (W6.alloc (.cells #[.int .i64 x.status, .slice none 0 0, .slice none 0 0] 36)).heap.size = W6.heap.size + 1 := by simp
          have o1 := HO1.out
          have o2 := HO2.out
          rw [hs7] at o1 o2
          have hdr : ∀ U : World, Below U.heap.size U U.drew := fun U => below_drewN (Below.refl _ _) 1
          refine RspOut.mk' HR4.out (by push_cast; omega) (own_lower ((((o1.next HB9.out).but HK10.out (by simp)).but hst.1 (by simp; omega)).next (hdr _)) (by omega)) (own_lower ((((o2.next HB9.out).but HK10.out (by simp)).but hst.1 (by simp; omega)).next (hdr _)) (by omega)) ((HS10.out.below.trans (hst.1.to HS10.out.below.size (by simp))).trans ((hdr _).mono ?_))
          exact Nat.le_trans HS10.out.below.size hst.1.size
        · have hR := HR3.out
          rw [if_neg her] at hR
          have HR4 := Lib.hid hR
          clear hR HR3
          obtain ⟨d0, d1, d2⟩ := blk3 HS9.out.none_
          obtain ⟨c0, c1, c2⟩ := blk3 HS9.out.out
          obtain ⟨f0, f1, f2⟩ := blk3_free HS9.out.out
          go_wp2_with fail
          (try simp only [Exit.inBlock, Exit.then])
          refine bodyPost_ret (results_row_tmp2 rfl _ _ _ w.heap.size _ rfl HS9.out.load) rfl ?_
          exact HS9.out.zero HR4.out
      · go_wp2_with fail
        refine (HREST.out _ _ (by rw [List.length_drop]; omega) (cells_dropO HCB.out (by omega))).mono ?_
        rintro e W8 ⟨hv, bv, rfl, hO1, hO2, hb8⟩
        dsimp only at hO1 hO2
        obtain ⟨A1, n1, rfl⟩ := own_shape hO1
        obtain ⟨A2, n2, rfl⟩ := own_shape hO2
        have HO1 := Lib.hid hO1
        have HO2 := Lib.hid hO2
        have HS9 := Lib.hid ((HS7.out.next hb8).next (below_box W8 (.cells #[.slice A1 hds.length n1, .slice A2 bd.length n2, .int .i64 (bd.length : Int)] 73)))
        have HX9 := Lib.hid (blk_next (below_box W8 (.cells #[.slice A1 hds.length n1, .slice A2 bd.length n2, .int .i64 (bd.length : Int)] 73)) (blk_next hb8 HXB.out))
        have HM9 := Lib.hid (heap_alloc_new W8 (.cells #[.slice A1 hds.length n1, .slice A2 bd.length n2, .int .i64 (bd.length : Int)] 73))
        have hne86 : W6.heap.size < W8.heap.size := by
          have h1 := hb8.size
          have h2 : (W6.alloc (.cells #[.int .i64 x.status, .slice none 0 0, .slice none 0 0] 36)).heap.size = W6.heap.size + 1 := by simp
          omega
        have HNE := Lib.hid hne86
        have HB9 := Lib.hid (below_box W8 (.cells #[.slice A1 hds.length n1, .slice A2 bd.length n2, .int .i64 (bd.length : Int)] 73))
        clear hO1 hO2 hb8 HREST HCB hne86
        by_cases her : er = 0
        · subst her
          have hR := HR3.out
          simp only [if_true] at hR
          have HR4 := Lib.hid hR
          clear hR HR3
          have m0 := blk_cells HM9.out 0
          have m1 := blk_cells HM9.out 1
          have m2 := blk_cells HM9.out 2
          simp only [List.getElem?_toArray, List.getElem?_cons_zero, List.getElem?_cons_succ] at m0 m1 m2
          go_wp2_with fail
          generalize W8.alloc (.cells #[.slice A1 hds.length n1, .slice A2 bd.length n2, .int .i64 (bd.length : Int)] 73) = W9 at HS9 HX9 HM9 HB9 m0 m1 m2 ⊢
          refine (fillP_any _ _ _ _ _ _ _ _ _ _ _ _ HX9.out).mono ?_
          rintro e W10 ⟨rfl, hx10, hk10⟩
          have hg2 := hN6.out
          have HS10 := Lib.hid (HS9.out.but hNg hg2 hk10)
          have HX10 := Lib.hid hx10
          have HM10 := Lib.hid (hk10.blk HM9.out (by have := HNE.out; simp; omega))
          have HK10 := Lib.hid hk10
          clear hx10 hk10 m0 m1 m2
          have m2 := blk_cells HM10.out 2
          simp only [List.getElem?_toArray, List.getElem?_cons_zero, List.getElem?_cons_succ] at m2
          obtain ⟨x0, x1, x2⟩ := blk3 HX10.out
          obtain ⟨c0, c1, c2⟩ := blk3 HS10.out.out
          obtain ⟨f0, f1, f2⟩ := blk3_free HS10.out.out
          go_wp2_with fail
          have hwr : IntKind.i64.wrap ((p : Int) + 4 + (bd.length : Int)) = ((p + 4 + bd.length : Nat) : Int) := by
            rw [IntWalk.i64_in _ (by omega)]; push_cast; rfl
          have HSA : Hid (RegP W6.heap.size W8.heap.size x.status (.slice A1 hds.length n1) (.slice A2 bd.length n2) bd.length W10.drew) := Lib.hid ⟨x0, x1, x2, m2⟩
          have HSB := Lib.hid (regP_set (r := w.heap.size) (x := .int .i64 x.status) (y := .slice A1 hds.length n1) (z := .slice A2 bd.length n2) (by omega) (by have := HNE.out; omega) HSA.out HS10.out.out)
          unfold RegP at HSA HSB
          go_region_held3 (fun w' => w'.cell? ⟨W6.heap.size, 0, none⟩ = some (.int .i64 x.status) ∧ w'.cell? ⟨W6.heap.size, 1, none⟩ = some (.slice A1 hds.length n1) ∧ w'.cell? ⟨W6.heap.size, 2, none⟩ = some (.slice A2 bd.length n2) ∧ w'.cell? ⟨W8.heap.size, 2, none⟩ = some (.int .i64 (bd.length : Int))) (first | exact HSA.out | exact HSB.out) (fail)
          simp only [Exit.then]
          go_wp2_with fail
          (try simp only [Exit.inBlock, Exit.then])
          have hst := rp_set (x := .int .i64 x.status) (y := .slice A1 hds.length n1) (z := .slice A2 bd.length n2) HS10.out.out
          refine bodyPost_ret (results_row_tmp2 rfl _ _ _ w.heap.size _ rfl (rp_load hst.2)) rfl ?_
          have hs7 : (W6.alloc (.cells #[.int .i64 x.status, .slice none 0 0, .slice none 0 0] 36)).heap.size = W6.heap.size + 1 := by simp
          have o1 := HO1.out
          have o2 := HO2.out
          rw [hs7] at o1 o2
          have hdr : ∀ U : World, Below U.heap.size U U.drew := fun U => below_drewN (Below.refl _ _) 1
          refine RspOut.mk' HR4.out (by push_cast; omega) (own_lower ((((o1.next HB9.out).but HK10.out (by simp)).but hst.1 (by simp; omega)).next (hdr _)) (by omega)) (own_lower ((((o2.next HB9.out).but HK10.out (by simp)).but hst.1 (by simp; omega)).next (hdr _)) (by omega)) ((HS10.out.below.trans (hst.1.to HS10.out.below.size (by simp))).trans ((hdr _).mono ?_))
          exact Nat.le_trans HS10.out.below.size hst.1.size
        · have hR := HR3.out
          rw [if_neg her] at hR
          have HR4 := Lib.hid hR
          clear hR HR3
          obtain ⟨d0, d1, d2⟩ := blk3 HS9.out.none_
          obtain ⟨c0, c1, c2⟩ := blk3 HS9.out.out
          obtain ⟨f0, f1, f2⟩ := blk3_free HS9.out.out
          go_wp2_with fail
          (try simp only [Exit.inBlock, Exit.then])
          refine bodyPost_ret (results_row_tmp2 rfl _ _ _ w.heap.size _ rfl HS9.out.load) rfl ?_
          exact HS9.out.zero HR4.out
end Go.Proofs.YtoadahommlcjpaaGreatDoor
