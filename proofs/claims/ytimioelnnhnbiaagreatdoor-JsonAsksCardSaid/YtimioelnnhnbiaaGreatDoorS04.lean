/-
  Joined: WH WI. CONDITIONS: as each law says.
-/
import Derived.Test.YtimioelnnhnbiaaGreatDoorS03
namespace Go.Proofs.YtimioelnnhnbiaaGreatDoor
open Go.RowKit
theorem results_row1 {fn : Func} {p : Tmp} {ty : TypeId} (h : fn.results = #[.cell p ty]) (tmps : Array Value) (P : Program) (w : World) (g : Nat) (cs : Array Value)
  (hp : tmps.getD p undef = .pointer (some ⟨g, 0, none⟩)) (hl : (loadVar ty ⟨g, 0, none⟩).run P w = .ok (.agg cs) w) :
  (results fn tmps).run P w = .ok (.agg cs) w := by
 rw [Array.getD_eq_getD_getElem?] at hp
 simp [results, h, hp, asAddr, hl]
theorem But.on {S T : List Nat} {a c d : World} (h : But S a c) (k : But T c d) (hT : ∀ j ∈ T, j ∈ S ∨ a.heap.size ≤ j) : But S a d :=
 ⟨k.os.trans h.os, k.tape.trans h.tape, k.output.trans h.output, Nat.le_trans h.size k.size, fun j hj hs => (k.block j (Nat.lt_of_lt_of_le hj h.size) (fun hm => (hT j hm).elim hs (fun hle => by omega))).trans (h.block j hj hs)⟩
def JBox (w : World) (b : Nat) (x0 x1 x2 x3 x4 x5 : Value) : Prop := w.heap[b]? = some (.cells #[x0, x1, x2, x3, x4, x5] 25 (0, 0))
theorem j25_load {w : World} {b : Nat} {x0 x1 x2 x3 x4 x5 : Value} (h : JBox w b x0 x1 x2 x3 x4 x5) : (loadVar 25 ⟨b, 0, none⟩).run Tryz.prog w = .ok (.agg #[x0, x1, x2, x3, x4, x5]) w :=
 run_loadVar_row w b 25 25 #[x0, x1, x2, x3, x4, x5] (0, 0) _ h Tryz.underlying25 rfl (by kernel_rfl)
def set6 (w : World) (b : Nat) (x0 x1 x2 x3 x4 x5 : Value) : World := ((((((w.setCell ⟨b, 0, none⟩ x0).setCell ⟨b, 1, none⟩ x1).setCell ⟨b, 2, none⟩ x2).setCell ⟨b, 3, none⟩ x3).setCell ⟨b, 4, none⟩ x4).setCell ⟨b, 5, none⟩ x5)
theorem j25_set {w : World} {b : Nat} {p0 p1 p2 p3 p4 p5 : Value} (x0 x1 x2 x3 x4 x5 : Value) (h : JBox w b p0 p1 p2 p3 p4 p5) :
  But [b] w (set6 w b x0 x1 x2 x3 x4 x5) ∧ JBox (set6 w b x0 x1 x2 x3 x4 x5) b x0 x1 x2 x3 x4 x5 := by
 obtain ⟨h1, h2⟩ := but_set (i := 0) x0 h
 obtain ⟨h3, h4⟩ := but_set (i := 1) x1 h2
 obtain ⟨h5, h6⟩ := but_set (i := 2) x2 h4
 obtain ⟨h7, h8⟩ := but_set (i := 3) x3 h6
 obtain ⟨h9, ha⟩ := but_set (i := 4) x4 h8
 obtain ⟨hb, hc⟩ := but_set (i := 5) x5 ha
 exact ⟨((((h1.trans h3).trans h5).trans h7).trans h9).trans hb, hc⟩
theorem JBox.cells {w : World} {b : Nat} {x0 x1 x2 x3 x4 x5 : Value} (h : JBox w b x0 x1 x2 x3 x4 x5) :
  w.cell? ⟨b, 0, none⟩ = some x0 ∧ w.cell? ⟨b, 1, none⟩ = some x1 ∧ w.cell? ⟨b, 2, none⟩ = some x2 ∧ w.cell? ⟨b, 3, none⟩ = some x3 ∧ w.cell? ⟨b, 4, none⟩ = some x4 ∧ w.cell? ⟨b, 5, none⟩ = some x5 :=
 ⟨(blk_cells h 0).trans rfl, (blk_cells h 1).trans rfl, (blk_cells h 2).trans rfl, (blk_cells h 3).trans rfl, (blk_cells h 4).trans rfl, (blk_cells h 5).trans rfl⟩
theorem JBox.frees {w : World} {b : Nat} {x0 x1 x2 x3 x4 x5 : Value} (h : JBox w b x0 x1 x2 x3 x4 x5) :
  w.frozen? ⟨b, 0, none⟩ = false ∧ w.frozen? ⟨b, 1, none⟩ = false ∧ w.frozen? ⟨b, 2, none⟩ = false ∧ w.frozen? ⟨b, 3, none⟩ = false ∧ w.frozen? ⟨b, 4, none⟩ = false ∧ w.frozen? ⟨b, 5, none⟩ = false :=
 ⟨blk_free h 0, blk_free h 1, blk_free h 2, blk_free h 3, blk_free h 4, blk_free h 5⟩
theorem JBox.but {L : List Nat} {w w' : World} {b : Nat} {x0 x1 x2 x3 x4 x5 : Value} (h : JBox w b x0 x1 x2 x3 x4 x5) (hb : But L w w') (hL : b ∉ L) : JBox w' b x0 x1 x2 x3 x4 x5 := hb.blk h hL
theorem JBox.next {w w' : World} {b : Nat} {x0 x1 x2 x3 x4 x5 : Value} (h : JBox w b x0 x1 x2 x3 x4 x5) (hb : Below w.heap.size w w') : JBox w' b x0 x1 x2 x3 x4 x5 := blk_next hb h
theorem JBox.lt {w : World} {b : Nat} {x0 x1 x2 x3 x4 x5 : Value} (h : JBox w b x0 x1 x2 x3 x4 x5) : b < w.heap.size := (Array.getElem?_eq_some_iff.1 h).1
def VOut (b : Nat) (s : Js.Bs) (w : World) : Js.Res Js.J → Ending → World → Prop
 | .ok x st, e, w' => (∃ vs, e = .returned (.agg vs.toArray) ∧ JV w' (fun g => w.heap.size ≤ g) x vs) ∧ RdAt w' b s st ∧ But [b] w w'
 | .bad k, e, w' => e = bad k ∧ But [b] w w'
 | .out, _, _ => False
theorem vout_bad {fn : Func} {b : Nat} {s : Js.Bs} {w w' : World} {r : Js.Res Js.J} {k : Nat} {a : Act} (hr : r = .bad k) (hd : a.defers = []) (hb : But [b] w w') :
  bodyPost Tryz.prog fn (VOut b s w r) (.panic [{ v := .iface 106 (.int .i64 k), recovered := false }]) a w' := by
 subst hr
 exact ⟨hd, rfl, hb⟩
def ValueC (b : Nat) (s : Js.Bs) (n : Nat) : Prop := ∀ (st : Js.St) (w : World), RdAt w b s st → Fine s st → Js.value s n st ≠ .out → Calls Tryz.prog 49 #[.pointer (some ⟨b, 0, none⟩)] w (VOut b s w (Js.value s n st))
def InnerC (b : Nat) (s : Js.Bs) (n : Nat) : Prop := ∀ (st : Js.St) (w : World), RdAt w b s st → Near s st → Js.inner s n st ≠ .out → Calls Tryz.prog 74 #[.pointer (some ⟨b, 0, none⟩)] w (VOut b s w (Js.inner s n st))
set_option maxRecDepth 100000 in
set_option maxHeartbeats 8000000 in
theorem value_of_inner (b : Nat) (s : Js.Bs) (hlen : s.length ≤ 1073741824) (n : Nat) (hin : InnerC b s n) : ValueC b s (n + 1) := by
 intro st w h hF hne
 have HIN := Lib.hid hin
 have HNE := Lib.hid hne
 have HF := Lib.hid hF
 have hbw := h.lt
 have HB0 := Lib.hid (heap_alloc_new w (.cells #[.int .i64 0, .bool false, .int .i64 0, .string ⟨#[]⟩, .slice none 0 0, .slice none 0 0] 25))
 have HR0 := Lib.hid (h.next (below_box w (.cells #[.int .i64 0, .bool false, .int .i64 0, .string ⟨#[]⟩, .slice none 0 0, .slice none 0 0] 25)))
 have HW0 := Lib.hid (But.of (S := [b]) (below_box w (.cells #[.int .i64 0, .bool false, .int .i64 0, .string ⟨#[]⟩, .slice none 0 0, .slice none 0 0] 25)))
 clear hin hne h
 go_enter Tryz.func49, Tryz.ntmps49
 go_wp2_with fail
 generalize (w.alloc (.cells #[.int .i64 0, .bool false, .int .i64 0, .string ⟨#[]⟩, .slice none 0 0, .slice none 0 0] 25)) = w0 at HB0 HR0 HW0 ⊢
 obtain ⟨N, hN⟩ : ∃ N, w.heap.size = N := ⟨_, rfl⟩
 rw [hN] at HB0 hbw ⊢
 have HN := Lib.hid hN
 clear hN
 have hNb : N ≠ b := by omega
 refine (blanks_any b s st _ HR0.out hlen hF.at_).mono ?_
 rintro e w1 ⟨rfl, hr1, hb1⟩
 have HR1 := Lib.hid hr1
 have HW1 := Lib.hid (HW0.out.trans hb1)
 have HB1 := Lib.hid (show JBox w1 N _ _ _ _ _ _ from hb1.blk HB0.out (by simp; omega))
 obtain ⟨⟨b1, b2, b3, b4⟩, b5, b6⟩ := hF.blanks
 have HV : Hid (Js.value s (n + 1) st = (Js.inner s n { Js.blanks s st with nodes := (Js.blanks s st).nodes + 1, deep := (Js.blanks s st).deep + 1, large := (Js.blanks s st).large || decide (8 < (Js.blanks s st).deep + 1) || decide (256 < (Js.blanks s st).nodes + 1) }).bind fun x st => .ok x (Js.blanks s { st with deep := st.deep - 1 })) := Lib.hid (by
  conv => lhs; unfold Js.value)
 generalize Js.blanks s st = st1 at HR1 HV b1 b2 b3 b4 b5 b6
 clear hr1 hb1 HR0 HW0 HB0 hF b5 b6
 obtain ⟨c0, c1, c2, c3, c4, c5⟩ := HR1.out.cells
 have f2 := HR1.out.free 2
 have f3 := HR1.out.free 3
 have f5 := HR1.out.free 5
 have d1 : (st1.deep : Int) ≤ 1073741824 := by omega
 have d2 : (st1.nodes : Int) ≤ 1073741824 := by omega
 obtain ⟨L, hL⟩ : ∃ L, st1.large = L := ⟨_, rfl⟩
 rw [hL] at c5
 have HL := Lib.hid hL
 clear hL
 cases L
 ·by_cases h8 : 8 < st1.deep + 1
  ·have q8 : decide ((8 : Int) < (st1.deep : Int) + 1) = true := by simp; omega
   go_wp2_with fail
   have HQ : Hid ((st1.large || decide (8 < st1.deep + 1) || decide (256 < st1.nodes + 1)) = true) := Lib.hid (by rw [HL.out, decide_eq_true h8]; rfl)
   have hr2 : RdAt (((w1.setCell ⟨b, 3, none⟩ (.int .i64 ((st1.nodes : Int) + 1))).setCell ⟨b, 2, none⟩ (.int .i64 ((st1.deep : Int) + 1))).setCell ⟨b, 5, none⟩ (.bool true)) b s { st1 with nodes := st1.nodes + 1, deep := st1.deep + 1, large := true } := ((HR1.out.toNodes (st1.nodes + 1)).toDeep (st1.deep + 1)).toLarge true
   have hb2 : But [b] w1 (((w1.setCell ⟨b, 3, none⟩ (.int .i64 ((st1.nodes : Int) + 1))).setCell ⟨b, 2, none⟩ (.int .i64 ((st1.deep : Int) + 1))).setCell ⟨b, 5, none⟩ (.bool true)) := ((HR1.out.but 3 _).trans ((HR1.out.toNodes (st1.nodes + 1)).but 2 _)).trans (((HR1.out.toNodes (st1.nodes + 1)).toDeep (st1.deep + 1)).but 5 _)
   generalize (((w1.setCell ⟨b, 3, none⟩ (.int .i64 ((st1.nodes : Int) + 1))).setCell ⟨b, 2, none⟩ (.int .i64 ((st1.deep : Int) + 1))).setCell ⟨b, 5, none⟩ (.bool true)) = w2 at hr2 hb2 ⊢
   rw [HQ.out] at HV
   have HR2 := Lib.hid hr2
   have HW2 := Lib.hid (HW1.out.trans hb2)
   have HB2 := Lib.hid (HB1.out.but hb2 (by simp; omega))
   have hnear : Near s { st1 with nodes := st1.nodes + 1, deep := st1.deep + 1, large := true } := ⟨b1, Nat.succ_le_succ b2, Nat.succ_le_succ b3, b4⟩
   have HST := (steps s n).inner { st1 with nodes := st1.nodes + 1, deep := st1.deep + 1, large := true }
   have hneI : Js.inner s n { st1 with nodes := st1.nodes + 1, deep := st1.deep + 1, large := true } ≠ .out := by
    intro e0
    apply HNE.out
    rw [HV.out, e0]; rfl
   clear hr2 hb2 c0 c1 c2 c3 c4 c5 f2 f3 f5 HR1 HW1 HB1
   refine (HIN.out _ _ HR2.out hnear hneI).mono ?_
   intro e w3 ho
   generalize Js.inner s n { st1 with nodes := st1.nodes + 1, deep := st1.deep + 1, large := true } = r at ho HV HST hneI
   cases r with
   | out => exact absurd rfl hneI
   | bad k =>
    obtain ⟨rfl, hb3⟩ := ho
    have HE : Hid (Js.value s (n + 1) st = .bad k) := Lib.hid (by rw [HV.out]; rfl)
    have HB3 := Lib.hid (HW2.out.trans hb3)
    clear hb3 HST hneI hnear
    unfold bad
    go_wp2_with fail
    exact vout_bad HE.out rfl HB3.out
   | ok x st3 =>
    obtain ⟨⟨vs, rfl, hjv⟩, hr3, hb3⟩ := ho
    obtain ⟨s1, s2, s3, s4, s5⟩ := HST x st3 rfl hnear
    have s2 : st3.deep = st1.deep + 1 := s2
    have HE : Hid (Js.value s (n + 1) st = .ok x (Js.blanks s { st3 with deep := st3.deep - 1 })) := Lib.hid (by rw [HV.out]; rfl)
    have HW3 := Lib.hid (HW2.out.trans hb3)
    have HB3 := Lib.hid (HB2.out.but hb3 (by simp; omega))
    have HR3 := Lib.hid hr3
    have HJ3 : Hid (JV w3 (fun g => N < g) x vs) := Lib.hid (hjv.wide (fun g hg _ => Nat.lt_of_lt_of_le HB2.out.lt hg))
    have HX : ∃ A c A' c' k0 b0 n0 t0 l0 l1, vs = [.int .i64 k0, .bool b0, .int .i64 n0, .string t0, .slice A l0 c, .slice A' l1 c'] := by
     cases x with | mk k0 b0 n0 t0 l m =>
     unfold JV at hjv
     obtain ⟨A, c, A', c', rfl, _⟩ := hjv
     exact ⟨_, _, _, _, _, _, _, _, _, _, rfl⟩
    have HS2 := Lib.hid s2
    clear hjv hr3 hb3 HR2 HW2 HB2 HV HST hneI hnear s2
    obtain ⟨A, c, A', c', k0, b0, n0, t0, l0, l1, rfl⟩ := HX
    have hN3 := HB3.out.lt
    have c2 : w3.cell? ⟨b, 2, none⟩ = some (.int .i64 ((st1.deep : Int) + 1)) := by
     have := HR3.out.cells.2.2.1
     rw [HS2.out] at this
     exact this
    have f2 := HR3.out.free 2
    have hb3 : b < w3.heap.size := HR3.out.lt
    go_wp2_with fail
    have hr3a : RdAt (w3.setCell ⟨b, 2, none⟩ (.int .i64 (st1.deep : Int))) b s { st3 with deep := st1.deep } := HR3.out.toDeep st1.deep
    have hba := HR3.out.but 2 (.int .i64 (st1.deep : Int))
    have hsz : (w3.setCell ⟨b, 2, none⟩ (.int .i64 (st1.deep : Int))).heap.size = w3.heap.size := by simp
    have HW3a := Lib.hid (HW3.out.trans hba)
    have HB3a := Lib.hid (HB3.out.but hba (by simp; omega))
    have HJ3a := Lib.hid (HJ3.out.but hba (by intro j hj; simp at hj; subst hj; omega))
    generalize (w3.setCell ⟨b, 2, none⟩ (.int .i64 (st1.deep : Int))) = w3a at hr3a hsz HW3a HB3a HJ3a ⊢
    rw [← hsz] at hN3 hb3 ⊢
    have HB4 : Hid (JBox _ w3a.heap.size _ _ _ _ _ _) := Lib.hid (heap_alloc_new w3a (.cells #[.int .i64 k0, .bool b0, .int .i64 n0, .string t0, .slice A l0 c, .slice A' l1 c'] 25))
    have hbel := below_box w3a (.cells #[.int .i64 k0, .bool b0, .int .i64 n0, .string t0, .slice A l0 c, .slice A' l1 c'] 25)
    have HR4 := Lib.hid (hr3a.next hbel)
    have HN4 := Lib.hid (HB3a.out.next hbel)
    have HW4 := Lib.hid (HW3a.out.below hbel HW3a.out.size)
    have HJ4 := Lib.hid (HJ3a.out.next hbel)
    have HE : Hid (Js.value s (n + 1) st = .ok x (Js.blanks s { st3 with deep := st1.deep })) := Lib.hid (by rw [HE.out, HS2.out, Nat.add_sub_cancel])
    obtain ⟨M, hM⟩ : ∃ M, w3a.heap.size = M := ⟨_, rfl⟩
    rw [hM] at HB4 hN3 hb3
    have HM := Lib.hid hM
    clear hbel hba hsz hr3a HR3 HB3 HW3 HJ3 HW3a HB3a HJ3a c2 f2 hM
    refine (blanks_any b s { st3 with deep := st1.deep } _ HR4.out hlen s1).mono ?_
    rintro e w5 ⟨rfl, hr5, hb5⟩
    have HR5 := Lib.hid hr5
    have HW5 := Lib.hid (HW4.out.trans hb5)
    have HN5 := Lib.hid (HN4.out.but hb5 (by simp; omega))
    have HB5 := Lib.hid (HB4.out.but hb5 (by simp; omega))
    have HJ5 := Lib.hid (HJ4.out.but hb5 (by intro j hj; simp at hj; subst hj; omega))
    rw [HM.out]
    clear hr5 hb5 HR4 HW4 HN4 HB4 HJ4 HM
    obtain ⟨x0, x1, x2, x3, x4, x5⟩ := HB5.out.cells
    obtain ⟨y0, y1, y2, y3, y4, y5⟩ := HN5.out.cells
    obtain ⟨g0, g1, g2, g3, g4, g5⟩ := HN5.out.frees
    go_wp2_with fail
    have hst := j25_set (.int .i64 k0) (.bool b0) (.int .i64 n0) (.string t0) (.slice A l0 c) (.slice A' l1 c') HN5.out
    unfold set6 at hst
    refine bodyPost_ret (results_row1 rfl _ _ _ N #[.int .i64 k0, .bool b0, .int .i64 n0, .string t0, .slice A l0 c, .slice A' l1 c'] rfl (j25_load hst.2)) rfl ?_
    rw [HE.out]
    have hNw : w.heap.size = N := HN.out
    exact ⟨⟨_, rfl, (HJ5.out.but hst.1 (by intro j hj; simp at hj; subst hj; exact Nat.lt_irrefl _)).wide (fun g hg _ => by rw [hNw]; exact Nat.le_of_lt hg)⟩, hst.1.blk HR5.out (by simp; omega), HW5.out.on hst.1 (by intro j hj; simp at hj; subst hj; right; omega)⟩
  ·have q8 : decide ((8 : Int) < (st1.deep : Int) + 1) = false := by simp; omega
   by_cases h256 : 256 < st1.nodes + 1
   ·have q9 : decide ((256 : Int) < (st1.nodes : Int) + 1) = true := by simp; omega
    go_wp2_with fail
    have HQ : Hid ((st1.large || decide (8 < st1.deep + 1) || decide (256 < st1.nodes + 1)) = true) := Lib.hid (by rw [HL.out, decide_eq_true h256]; simp)
    have hr2 : RdAt (((w1.setCell ⟨b, 3, none⟩ (.int .i64 ((st1.nodes : Int) + 1))).setCell ⟨b, 2, none⟩ (.int .i64 ((st1.deep : Int) + 1))).setCell ⟨b, 5, none⟩ (.bool true)) b s { st1 with nodes := st1.nodes + 1, deep := st1.deep + 1, large := true } := ((HR1.out.toNodes (st1.nodes + 1)).toDeep (st1.deep + 1)).toLarge true
    have hb2 : But [b] w1 (((w1.setCell ⟨b, 3, none⟩ (.int .i64 ((st1.nodes : Int) + 1))).setCell ⟨b, 2, none⟩ (.int .i64 ((st1.deep : Int) + 1))).setCell ⟨b, 5, none⟩ (.bool true)) := ((HR1.out.but 3 _).trans ((HR1.out.toNodes (st1.nodes + 1)).but 2 _)).trans (((HR1.out.toNodes (st1.nodes + 1)).toDeep (st1.deep + 1)).but 5 _)
    generalize (((w1.setCell ⟨b, 3, none⟩ (.int .i64 ((st1.nodes : Int) + 1))).setCell ⟨b, 2, none⟩ (.int .i64 ((st1.deep : Int) + 1))).setCell ⟨b, 5, none⟩ (.bool true)) = w2 at hr2 hb2 ⊢
    rw [HQ.out] at HV
    have HR2 := Lib.hid hr2
    have HW2 := Lib.hid (HW1.out.trans hb2)
    have HB2 := Lib.hid (HB1.out.but hb2 (by simp; omega))
    have hnear : Near s { st1 with nodes := st1.nodes + 1, deep := st1.deep + 1, large := true } := ⟨b1, Nat.succ_le_succ b2, Nat.succ_le_succ b3, b4⟩
    have HST := (steps s n).inner { st1 with nodes := st1.nodes + 1, deep := st1.deep + 1, large := true }
    have hneI : Js.inner s n { st1 with nodes := st1.nodes + 1, deep := st1.deep + 1, large := true } ≠ .out := by
     intro e0
     apply HNE.out
     rw [HV.out, e0]; rfl
    clear hr2 hb2 c0 c1 c2 c3 c4 c5 f2 f3 f5 HR1 HW1 HB1
    refine (HIN.out _ _ HR2.out hnear hneI).mono ?_
    intro e w3 ho
    generalize Js.inner s n { st1 with nodes := st1.nodes + 1, deep := st1.deep + 1, large := true } = r at ho HV HST hneI
    cases r with
    | out => exact absurd rfl hneI
    | bad k =>
     obtain ⟨rfl, hb3⟩ := ho
     have HE : Hid (Js.value s (n + 1) st = .bad k) := Lib.hid (by rw [HV.out]; rfl)
     have HB3 := Lib.hid (HW2.out.trans hb3)
     clear hb3 HST hneI hnear
     unfold bad
     go_wp2_with fail
     exact vout_bad HE.out rfl HB3.out
    | ok x st3 =>
     obtain ⟨⟨vs, rfl, hjv⟩, hr3, hb3⟩ := ho
     obtain ⟨s1, s2, s3, s4, s5⟩ := HST x st3 rfl hnear
     have s2 : st3.deep = st1.deep + 1 := s2
     have HE : Hid (Js.value s (n + 1) st = .ok x (Js.blanks s { st3 with deep := st3.deep - 1 })) := Lib.hid (by rw [HV.out]; rfl)
     have HW3 := Lib.hid (HW2.out.trans hb3)
     have HB3 := Lib.hid (HB2.out.but hb3 (by simp; omega))
     have HR3 := Lib.hid hr3
     have HJ3 : Hid (JV w3 (fun g => N < g) x vs) := Lib.hid (hjv.wide (fun g hg _ => Nat.lt_of_lt_of_le HB2.out.lt hg))
     have HX : ∃ A c A' c' k0 b0 n0 t0 l0 l1, vs = [.int .i64 k0, .bool b0, .int .i64 n0, .string t0, .slice A l0 c, .slice A' l1 c'] := by
      cases x with | mk k0 b0 n0 t0 l m =>
      unfold JV at hjv
      obtain ⟨A, c, A', c', rfl, _⟩ := hjv
      exact ⟨_, _, _, _, _, _, _, _, _, _, rfl⟩
     have HS2 := Lib.hid s2
     clear hjv hr3 hb3 HR2 HW2 HB2 HV HST hneI hnear s2
     obtain ⟨A, c, A', c', k0, b0, n0, t0, l0, l1, rfl⟩ := HX
     have hN3 := HB3.out.lt
     have c2 : w3.cell? ⟨b, 2, none⟩ = some (.int .i64 ((st1.deep : Int) + 1)) := by
      have := HR3.out.cells.2.2.1
      rw [HS2.out] at this
      exact this
     have f2 := HR3.out.free 2
     have hb3 : b < w3.heap.size := HR3.out.lt
     go_wp2_with fail
     have hr3a : RdAt (w3.setCell ⟨b, 2, none⟩ (.int .i64 (st1.deep : Int))) b s { st3 with deep := st1.deep } := HR3.out.toDeep st1.deep
     have hba := HR3.out.but 2 (.int .i64 (st1.deep : Int))
     have hsz : (w3.setCell ⟨b, 2, none⟩ (.int .i64 (st1.deep : Int))).heap.size = w3.heap.size := by simp
     have HW3a := Lib.hid (HW3.out.trans hba)
     have HB3a := Lib.hid (HB3.out.but hba (by simp; omega))
     have HJ3a := Lib.hid (HJ3.out.but hba (by intro j hj; simp at hj; subst hj; omega))
     generalize (w3.setCell ⟨b, 2, none⟩ (.int .i64 (st1.deep : Int))) = w3a at hr3a hsz HW3a HB3a HJ3a ⊢
     rw [← hsz] at hN3 hb3 ⊢
     have HB4 : Hid (JBox _ w3a.heap.size _ _ _ _ _ _) := Lib.hid (heap_alloc_new w3a (.cells #[.int .i64 k0, .bool b0, .int .i64 n0, .string t0, .slice A l0 c, .slice A' l1 c'] 25))
     have hbel := below_box w3a (.cells #[.int .i64 k0, .bool b0, .int .i64 n0, .string t0, .slice A l0 c, .slice A' l1 c'] 25)
     have HR4 := Lib.hid (hr3a.next hbel)
     have HN4 := Lib.hid (HB3a.out.next hbel)
     have HW4 := Lib.hid (HW3a.out.below hbel HW3a.out.size)
     have HJ4 := Lib.hid (HJ3a.out.next hbel)
     have HE : Hid (Js.value s (n + 1) st = .ok x (Js.blanks s { st3 with deep := st1.deep })) := Lib.hid (by rw [HE.out, HS2.out, Nat.add_sub_cancel])
     obtain ⟨M, hM⟩ : ∃ M, w3a.heap.size = M := ⟨_, rfl⟩
     rw [hM] at HB4 hN3 hb3
     have HM := Lib.hid hM
     clear hbel hba hsz hr3a HR3 HB3 HW3 HJ3 HW3a HB3a HJ3a c2 f2 hM
     refine (blanks_any b s { st3 with deep := st1.deep } _ HR4.out hlen s1).mono ?_
     rintro e w5 ⟨rfl, hr5, hb5⟩
     have HR5 := Lib.hid hr5
     have HW5 := Lib.hid (HW4.out.trans hb5)
     have HN5 := Lib.hid (HN4.out.but hb5 (by simp; omega))
     have HB5 := Lib.hid (HB4.out.but hb5 (by simp; omega))
     have HJ5 := Lib.hid (HJ4.out.but hb5 (by intro j hj; simp at hj; subst hj; omega))
     rw [HM.out]
     clear hr5 hb5 HR4 HW4 HN4 HB4 HJ4 HM
     obtain ⟨x0, x1, x2, x3, x4, x5⟩ := HB5.out.cells
     obtain ⟨y0, y1, y2, y3, y4, y5⟩ := HN5.out.cells
     obtain ⟨g0, g1, g2, g3, g4, g5⟩ := HN5.out.frees
     go_wp2_with fail
     have hst := j25_set (.int .i64 k0) (.bool b0) (.int .i64 n0) (.string t0) (.slice A l0 c) (.slice A' l1 c') HN5.out
     unfold set6 at hst
     refine bodyPost_ret (results_row1 rfl _ _ _ N #[.int .i64 k0, .bool b0, .int .i64 n0, .string t0, .slice A l0 c, .slice A' l1 c'] rfl (j25_load hst.2)) rfl ?_
     rw [HE.out]
     have hNw : w.heap.size = N := HN.out
     exact ⟨⟨_, rfl, (HJ5.out.but hst.1 (by intro j hj; simp at hj; subst hj; exact Nat.lt_irrefl _)).wide (fun g hg _ => by rw [hNw]; exact Nat.le_of_lt hg)⟩, hst.1.blk HR5.out (by simp; omega), HW5.out.on hst.1 (by intro j hj; simp at hj; subst hj; right; omega)⟩
   ·have q9 : decide ((256 : Int) < (st1.nodes : Int) + 1) = false := by simp; omega
    go_wp2_with fail
    have HQ : Hid ((st1.large || decide (8 < st1.deep + 1) || decide (256 < st1.nodes + 1)) = false) := Lib.hid (by rw [HL.out, decide_eq_false h8, decide_eq_false h256]; rfl)
    have hr2 : RdAt (((w1.setCell ⟨b, 3, none⟩ (.int .i64 ((st1.nodes : Int) + 1))).setCell ⟨b, 2, none⟩ (.int .i64 ((st1.deep : Int) + 1))).setCell ⟨b, 5, none⟩ (.bool false)) b s { st1 with nodes := st1.nodes + 1, deep := st1.deep + 1, large := false } := ((HR1.out.toNodes (st1.nodes + 1)).toDeep (st1.deep + 1)).toLarge false
    have hb2 : But [b] w1 (((w1.setCell ⟨b, 3, none⟩ (.int .i64 ((st1.nodes : Int) + 1))).setCell ⟨b, 2, none⟩ (.int .i64 ((st1.deep : Int) + 1))).setCell ⟨b, 5, none⟩ (.bool false)) := ((HR1.out.but 3 _).trans ((HR1.out.toNodes (st1.nodes + 1)).but 2 _)).trans (((HR1.out.toNodes (st1.nodes + 1)).toDeep (st1.deep + 1)).but 5 _)
    generalize (((w1.setCell ⟨b, 3, none⟩ (.int .i64 ((st1.nodes : Int) + 1))).setCell ⟨b, 2, none⟩ (.int .i64 ((st1.deep : Int) + 1))).setCell ⟨b, 5, none⟩ (.bool false)) = w2 at hr2 hb2 ⊢
    rw [HQ.out] at HV
    have HR2 := Lib.hid hr2
    have HW2 := Lib.hid (HW1.out.trans hb2)
    have HB2 := Lib.hid (HB1.out.but hb2 (by simp; omega))
    have hnear : Near s { st1 with nodes := st1.nodes + 1, deep := st1.deep + 1, large := false } := ⟨b1, Nat.succ_le_succ b2, Nat.succ_le_succ b3, b4⟩
    have HST := (steps s n).inner { st1 with nodes := st1.nodes + 1, deep := st1.deep + 1, large := false }
    have hneI : Js.inner s n { st1 with nodes := st1.nodes + 1, deep := st1.deep + 1, large := false } ≠ .out := by
     intro e0
     apply HNE.out
     rw [HV.out, e0]; rfl
    clear hr2 hb2 c0 c1 c2 c3 c4 c5 f2 f3 f5 HR1 HW1 HB1
    refine (HIN.out _ _ HR2.out hnear hneI).mono ?_
    intro e w3 ho
    generalize Js.inner s n { st1 with nodes := st1.nodes + 1, deep := st1.deep + 1, large := false } = r at ho HV HST hneI
    cases r with
    | out => exact absurd rfl hneI
    | bad k =>
     obtain ⟨rfl, hb3⟩ := ho
     have HE : Hid (Js.value s (n + 1) st = .bad k) := Lib.hid (by rw [HV.out]; rfl)
     have HB3 := Lib.hid (HW2.out.trans hb3)
     clear hb3 HST hneI hnear
     unfold bad
     go_wp2_with fail
     exact vout_bad HE.out rfl HB3.out
    | ok x st3 =>
     obtain ⟨⟨vs, rfl, hjv⟩, hr3, hb3⟩ := ho
     obtain ⟨s1, s2, s3, s4, s5⟩ := HST x st3 rfl hnear
     have s2 : st3.deep = st1.deep + 1 := s2
     have HE : Hid (Js.value s (n + 1) st = .ok x (Js.blanks s { st3 with deep := st3.deep - 1 })) := Lib.hid (by rw [HV.out]; rfl)
     have HW3 := Lib.hid (HW2.out.trans hb3)
     have HB3 := Lib.hid (HB2.out.but hb3 (by simp; omega))
     have HR3 := Lib.hid hr3
     have HJ3 : Hid (JV w3 (fun g => N < g) x vs) := Lib.hid (hjv.wide (fun g hg _ => Nat.lt_of_lt_of_le HB2.out.lt hg))
     have HX : ∃ A c A' c' k0 b0 n0 t0 l0 l1, vs = [.int .i64 k0, .bool b0, .int .i64 n0, .string t0, .slice A l0 c, .slice A' l1 c'] := by
      cases x with | mk k0 b0 n0 t0 l m =>
      unfold JV at hjv
      obtain ⟨A, c, A', c', rfl, _⟩ := hjv
      exact ⟨_, _, _, _, _, _, _, _, _, _, rfl⟩
     have HS2 := Lib.hid s2
     clear hjv hr3 hb3 HR2 HW2 HB2 HV HST hneI hnear s2
     obtain ⟨A, c, A', c', k0, b0, n0, t0, l0, l1, rfl⟩ := HX
     have hN3 := HB3.out.lt
     have c2 : w3.cell? ⟨b, 2, none⟩ = some (.int .i64 ((st1.deep : Int) + 1)) := by
      have := HR3.out.cells.2.2.1
      rw [HS2.out] at this
      exact this
     have f2 := HR3.out.free 2
     have hb3 : b < w3.heap.size := HR3.out.lt
     go_wp2_with fail
     have hr3a : RdAt (w3.setCell ⟨b, 2, none⟩ (.int .i64 (st1.deep : Int))) b s { st3 with deep := st1.deep } := HR3.out.toDeep st1.deep
     have hba := HR3.out.but 2 (.int .i64 (st1.deep : Int))
     have hsz : (w3.setCell ⟨b, 2, none⟩ (.int .i64 (st1.deep : Int))).heap.size = w3.heap.size := by simp
     have HW3a := Lib.hid (HW3.out.trans hba)
     have HB3a := Lib.hid (HB3.out.but hba (by simp; omega))
     have HJ3a := Lib.hid (HJ3.out.but hba (by intro j hj; simp at hj; subst hj; omega))
     generalize (w3.setCell ⟨b, 2, none⟩ (.int .i64 (st1.deep : Int))) = w3a at hr3a hsz HW3a HB3a HJ3a ⊢
     rw [← hsz] at hN3 hb3 ⊢
     have HB4 : Hid (JBox _ w3a.heap.size _ _ _ _ _ _) := Lib.hid (heap_alloc_new w3a (.cells #[.int .i64 k0, .bool b0, .int .i64 n0, .string t0, .slice A l0 c, .slice A' l1 c'] 25))
     have hbel := below_box w3a (.cells #[.int .i64 k0, .bool b0, .int .i64 n0, .string t0, .slice A l0 c, .slice A' l1 c'] 25)
     have HR4 := Lib.hid (hr3a.next hbel)
     have HN4 := Lib.hid (HB3a.out.next hbel)
     have HW4 := Lib.hid (HW3a.out.below hbel HW3a.out.size)
     have HJ4 := Lib.hid (HJ3a.out.next hbel)
     have HE : Hid (Js.value s (n + 1) st = .ok x (Js.blanks s { st3 with deep := st1.deep })) := Lib.hid (by rw [HE.out, HS2.out, Nat.add_sub_cancel])
     obtain ⟨M, hM⟩ : ∃ M, w3a.heap.size = M := ⟨_, rfl⟩
     rw [hM] at HB4 hN3 hb3
     have HM := Lib.hid hM
     clear hbel hba hsz hr3a HR3 HB3 HW3 HJ3 HW3a HB3a HJ3a c2 f2 hM
     refine (blanks_any b s { st3 with deep := st1.deep } _ HR4.out hlen s1).mono ?_
     rintro e w5 ⟨rfl, hr5, hb5⟩
     have HR5 := Lib.hid hr5
     have HW5 := Lib.hid (HW4.out.trans hb5)
     have HN5 := Lib.hid (HN4.out.but hb5 (by simp; omega))
     have HB5 := Lib.hid (HB4.out.but hb5 (by simp; omega))
     have HJ5 := Lib.hid (HJ4.out.but hb5 (by intro j hj; simp at hj; subst hj; omega))
     rw [HM.out]
     clear hr5 hb5 HR4 HW4 HN4 HB4 HJ4 HM
     obtain ⟨x0, x1, x2, x3, x4, x5⟩ := HB5.out.cells
     obtain ⟨y0, y1, y2, y3, y4, y5⟩ := HN5.out.cells
     obtain ⟨g0, g1, g2, g3, g4, g5⟩ := HN5.out.frees
     go_wp2_with fail
     have hst := j25_set (.int .i64 k0) (.bool b0) (.int .i64 n0) (.string t0) (.slice A l0 c) (.slice A' l1 c') HN5.out
     unfold set6 at hst
     refine bodyPost_ret (results_row1 rfl _ _ _ N #[.int .i64 k0, .bool b0, .int .i64 n0, .string t0, .slice A l0 c, .slice A' l1 c'] rfl (j25_load hst.2)) rfl ?_
     rw [HE.out]
     have hNw : w.heap.size = N := HN.out
     exact ⟨⟨_, rfl, (HJ5.out.but hst.1 (by intro j hj; simp at hj; subst hj; exact Nat.lt_irrefl _)).wide (fun g hg _ => by rw [hNw]; exact Nat.le_of_lt hg)⟩, hst.1.blk HR5.out (by simp; omega), HW5.out.on hst.1 (by intro j hj; simp at hj; subst hj; right; omega)⟩
 ·go_wp2_with fail
  have HQ : Hid ((st1.large || decide (8 < st1.deep + 1) || decide (256 < st1.nodes + 1)) = true) := Lib.hid (by rw [HL.out]; rfl)
  have hr2 : RdAt (((w1.setCell ⟨b, 3, none⟩ (.int .i64 ((st1.nodes : Int) + 1))).setCell ⟨b, 2, none⟩ (.int .i64 ((st1.deep : Int) + 1))).setCell ⟨b, 5, none⟩ (.bool true)) b s { st1 with nodes := st1.nodes + 1, deep := st1.deep + 1, large := true } := ((HR1.out.toNodes (st1.nodes + 1)).toDeep (st1.deep + 1)).toLarge true
  have hb2 : But [b] w1 (((w1.setCell ⟨b, 3, none⟩ (.int .i64 ((st1.nodes : Int) + 1))).setCell ⟨b, 2, none⟩ (.int .i64 ((st1.deep : Int) + 1))).setCell ⟨b, 5, none⟩ (.bool true)) := ((HR1.out.but 3 _).trans ((HR1.out.toNodes (st1.nodes + 1)).but 2 _)).trans (((HR1.out.toNodes (st1.nodes + 1)).toDeep (st1.deep + 1)).but 5 _)
  generalize (((w1.setCell ⟨b, 3, none⟩ (.int .i64 ((st1.nodes : Int) + 1))).setCell ⟨b, 2, none⟩ (.int .i64 ((st1.deep : Int) + 1))).setCell ⟨b, 5, none⟩ (.bool true)) = w2 at hr2 hb2 ⊢
  rw [HQ.out] at HV
  have HR2 := Lib.hid hr2
  have HW2 := Lib.hid (HW1.out.trans hb2)
  have HB2 := Lib.hid (HB1.out.but hb2 (by simp; omega))
  have hnear : Near s { st1 with nodes := st1.nodes + 1, deep := st1.deep + 1, large := true } := ⟨b1, Nat.succ_le_succ b2, Nat.succ_le_succ b3, b4⟩
  have HST := (steps s n).inner { st1 with nodes := st1.nodes + 1, deep := st1.deep + 1, large := true }
  have hneI : Js.inner s n { st1 with nodes := st1.nodes + 1, deep := st1.deep + 1, large := true } ≠ .out := by
   intro e0
   apply HNE.out
   rw [HV.out, e0]; rfl
  clear hr2 hb2 c0 c1 c2 c3 c4 c5 f2 f3 f5 HR1 HW1 HB1
  refine (HIN.out _ _ HR2.out hnear hneI).mono ?_
  intro e w3 ho
  generalize Js.inner s n { st1 with nodes := st1.nodes + 1, deep := st1.deep + 1, large := true } = r at ho HV HST hneI
  cases r with
  | out => exact absurd rfl hneI
  | bad k =>
   obtain ⟨rfl, hb3⟩ := ho
   have HE : Hid (Js.value s (n + 1) st = .bad k) := Lib.hid (by rw [HV.out]; rfl)
   have HB3 := Lib.hid (HW2.out.trans hb3)
   clear hb3 HST hneI hnear
   unfold bad
   go_wp2_with fail
   exact vout_bad HE.out rfl HB3.out
  | ok x st3 =>
   obtain ⟨⟨vs, rfl, hjv⟩, hr3, hb3⟩ := ho
   obtain ⟨s1, s2, s3, s4, s5⟩ := HST x st3 rfl hnear
   have s2 : st3.deep = st1.deep + 1 := s2
   have HE : Hid (Js.value s (n + 1) st = .ok x (Js.blanks s { st3 with deep := st3.deep - 1 })) := Lib.hid (by rw [HV.out]; rfl)
   have HW3 := Lib.hid (HW2.out.trans hb3)
   have HB3 := Lib.hid (HB2.out.but hb3 (by simp; omega))
   have HR3 := Lib.hid hr3
   have HJ3 : Hid (JV w3 (fun g => N < g) x vs) := Lib.hid (hjv.wide (fun g hg _ => Nat.lt_of_lt_of_le HB2.out.lt hg))
   have HX : ∃ A c A' c' k0 b0 n0 t0 l0 l1, vs = [.int .i64 k0, .bool b0, .int .i64 n0, .string t0, .slice A l0 c, .slice A' l1 c'] := by
    cases x with | mk k0 b0 n0 t0 l m =>
    unfold JV at hjv
    obtain ⟨A, c, A', c', rfl, _⟩ := hjv
    exact ⟨_, _, _, _, _, _, _, _, _, _, rfl⟩
   have HS2 := Lib.hid s2
   clear hjv hr3 hb3 HR2 HW2 HB2 HV HST hneI hnear s2
   obtain ⟨A, c, A', c', k0, b0, n0, t0, l0, l1, rfl⟩ := HX
   have hN3 := HB3.out.lt
   have c2 : w3.cell? ⟨b, 2, none⟩ = some (.int .i64 ((st1.deep : Int) + 1)) := by
    have := HR3.out.cells.2.2.1
    rw [HS2.out] at this
    exact this
   have f2 := HR3.out.free 2
   have hb3 : b < w3.heap.size := HR3.out.lt
   go_wp2_with fail
   have hr3a : RdAt (w3.setCell ⟨b, 2, none⟩ (.int .i64 (st1.deep : Int))) b s { st3 with deep := st1.deep } := HR3.out.toDeep st1.deep
   have hba := HR3.out.but 2 (.int .i64 (st1.deep : Int))
   have hsz : (w3.setCell ⟨b, 2, none⟩ (.int .i64 (st1.deep : Int))).heap.size = w3.heap.size := by simp
   have HW3a := Lib.hid (HW3.out.trans hba)
   have HB3a := Lib.hid (HB3.out.but hba (by simp; omega))
   have HJ3a := Lib.hid (HJ3.out.but hba (by intro j hj; simp at hj; subst hj; omega))
   generalize (w3.setCell ⟨b, 2, none⟩ (.int .i64 (st1.deep : Int))) = w3a at hr3a hsz HW3a HB3a HJ3a ⊢
   rw [← hsz] at hN3 hb3 ⊢
   have HB4 : Hid (JBox _ w3a.heap.size _ _ _ _ _ _) := Lib.hid (heap_alloc_new w3a (.cells #[.int .i64 k0, .bool b0, .int .i64 n0, .string t0, .slice A l0 c, .slice A' l1 c'] 25))
   have hbel := below_box w3a (.cells #[.int .i64 k0, .bool b0, .int .i64 n0, .string t0, .slice A l0 c, .slice A' l1 c'] 25)
   have HR4 := Lib.hid (hr3a.next hbel)
   have HN4 := Lib.hid (HB3a.out.next hbel)
   have HW4 := Lib.hid (HW3a.out.below hbel HW3a.out.size)
   have HJ4 := Lib.hid (HJ3a.out.next hbel)
   have HE : Hid (Js.value s (n + 1) st = .ok x (Js.blanks s { st3 with deep := st1.deep })) := Lib.hid (by rw [HE.out, HS2.out, Nat.add_sub_cancel])
   obtain ⟨M, hM⟩ : ∃ M, w3a.heap.size = M := ⟨_, rfl⟩
   rw [hM] at HB4 hN3 hb3
   have HM := Lib.hid hM
   clear hbel hba hsz hr3a HR3 HB3 HW3 HJ3 HW3a HB3a HJ3a c2 f2 hM
   refine (blanks_any b s { st3 with deep := st1.deep } _ HR4.out hlen s1).mono ?_
   rintro e w5 ⟨rfl, hr5, hb5⟩
   have HR5 := Lib.hid hr5
   have HW5 := Lib.hid (HW4.out.trans hb5)
   have HN5 := Lib.hid (HN4.out.but hb5 (by simp; omega))
   have HB5 := Lib.hid (HB4.out.but hb5 (by simp; omega))
   have HJ5 := Lib.hid (HJ4.out.but hb5 (by intro j hj; simp at hj; subst hj; omega))
   rw [HM.out]
   clear hr5 hb5 HR4 HW4 HN4 HB4 HJ4 HM
   obtain ⟨x0, x1, x2, x3, x4, x5⟩ := HB5.out.cells
   obtain ⟨y0, y1, y2, y3, y4, y5⟩ := HN5.out.cells
   obtain ⟨g0, g1, g2, g3, g4, g5⟩ := HN5.out.frees
   go_wp2_with fail
   have hst := j25_set (.int .i64 k0) (.bool b0) (.int .i64 n0) (.string t0) (.slice A l0 c) (.slice A' l1 c') HN5.out
   unfold set6 at hst
   refine bodyPost_ret (results_row1 rfl _ _ _ N #[.int .i64 k0, .bool b0, .int .i64 n0, .string t0, .slice A l0 c, .slice A' l1 c'] rfl (j25_load hst.2)) rfl ?_
   rw [HE.out]
   have hNw : w.heap.size = N := HN.out
   exact ⟨⟨_, rfl, (HJ5.out.but hst.1 (by intro j hj; simp at hj; subst hj; exact Nat.lt_irrefl _)).wide (fun g hg _ => by rw [hNw]; exact Nat.le_of_lt hg)⟩, hst.1.blk HR5.out (by simp; omega), HW5.out.on hst.1 (by intro j hj; simp at hj; subst hj; right; omega)⟩
end Go.Proofs.YtimioelnnhnbiaaGreatDoor
namespace Go.Proofs.YtimioelnnhnbiaaGreatDoor
open Go.RowKit
def LOut {α : Type} (b : Nat) (s : Js.Bs) (I : α → World → Prop) (D : World → Prop) : Js.Res α → Ending → World → Prop
 | .ok a st, e, w' => e = .returned (.tuple #[]) ∧ RdAt w' b s st ∧ I a w'
 | .bad k, e, w' => e = bad k ∧ D w'
 | .out, _, _ => False
theorem lout_bad {α : Type} {fn : Func} {b : Nat} {s : Js.Bs} {w' : World} {I : α → World → Prop} {D : World → Prop} {r : Js.Res α} {k : Nat} {a : Act} (hr : r = .bad k) (hd : a.defers = []) (hb : D w') :
  bodyPost Tryz.prog fn (LOut b s I D r) (.panic [{ v := .iface 106 (.int .i64 k), recovered := false }]) a w' := by
 subst hr
 exact ⟨hd, rfl, hb⟩
def listOf {α : Type} (s : Js.Bs) (end_ : UInt8) (go : Nat → α → Js.St → Js.Res α) (n : Nat) (a : α) (st : Js.St) : Js.Res α :=
 if Js.peek s (Js.blanks s st) = end_ then .ok a (Js.step (Js.blanks s st)) else go n a (Js.blanks s st)
theorem Fine.step {s : Js.Bs} {st : Js.St} (h : Fine s st) (hlt : st.at_ < s.length) : Fine s (Js.step st) := by
 obtain ⟨h1, h2, h3, h4⟩ := h
 exact ⟨hlt, by show st.deep ≤ st.at_ + 1; omega, by show st.nodes ≤ st.at_ + 1; omega, by show st.bytes ≤ st.at_ + 1; omega⟩
set_option maxRecDepth 100000 in
set_option maxHeartbeats 8000000 in
theorem list_any {α : Type} (end_ : UInt8) (hend : end_ ≠ 0) (f : FuncId) (cap : Array Value) (b : Nat) (s : Js.Bs) (hlen : s.length ≤ 1073741824)
  (one go : Nat → α → Js.St → Js.Res α) (I : α → World → Prop) (D : World → Prop) (n : Nat)
  (hrun : ∀ w, (callFunc f cap).run Tryz.prog w = .ok (.enter f cap) w)
  (hgo0 : ∀ a st, go 0 a st = .out)
  (hgo : ∀ m a st, go (m + 1) a st = (one m a st).bind fun a st => if Js.peek s st = end_ then .ok a (Js.step st) else (Js.take s 44 st).bind fun _ st => go m a st)
  (F : α → Js.St → Prop) (hF1 : ∀ a st, F a st → Fine s st) (hF2 : ∀ a st, F a st → st.at_ < s.length → F a (Js.step st)) (hF3 : ∀ a st, F a st → F a (Js.blanks s st))
  (hI : ∀ a w w', I a w → But [b] w w' → I a w') (hD : ∀ a w w', I a w → But [b] w w' → D w')
  (hone : ∀ m a st w, m < n → RdAt w b s st → F a st → I a w → one m a st ≠ .out → Calls Tryz.prog f cap w (LOut b s I D (one m a st)))
  (hfine : ∀ m a st a' st', one m a st = .ok a' st' → F a st → F a' st')
  (a : α) (st : Js.St) (w : World) (h : RdAt w b s st) (hF : F a st) (ha : I a w) (hne : listOf s end_ go n a st ≠ .out) :
  Calls Tryz.prog 90 #[.pointer (some ⟨b, 0, none⟩), .int .u8 end_.toNat, .func (.func f) #[] cap] w (LOut b s I D (listOf s end_ go n a st)) := by
 have HRUN := Lib.hid hrun
 have H0 := Lib.hid hgo0
 have HG := Lib.hid hgo
 have HI := Lib.hid hI
 have HDD := Lib.hid hD
 have H1 := Lib.hid hone
 have HFN := Lib.hid hfine
 have HA := Lib.hid ha
 have G1 := Lib.hid hF1
 have G2 := Lib.hid hF2
 have hFb := hF3 a st hF
 have hat0 := (hF1 a st hF).at_
 have HNE := Lib.hid hne
 clear hrun hgo0 hgo hI hD hone hfine ha hne hF1 hF2 hF3
 go_enter Tryz.func90, Tryz.ntmps90
 go_wp2_with fail
 refine (blanks_any b s st _ h hlen hat0).mono ?_
 rintro e w1 ⟨rfl, hr1, hb1⟩
 have HL : Hid (listOf s end_ go n a st = if Js.peek s (Js.blanks s st) = end_ then .ok a (Js.step (Js.blanks s st)) else go n a (Js.blanks s st)) := Lib.hid rfl
 generalize Js.blanks s st = st1 at hr1 hFb HL
 have HR1 := Lib.hid hr1
 have HA1 := Lib.hid (HI.out a w w1 HA.out hb1)
 have HF1 := Lib.hid hFb
 clear hr1 hb1 h hF hFb HA hat0
 go_wp2_with fail
 obtain ⟨c, hp⟩ : ∃ c, Js.peek s st1 = c := ⟨_, rfl⟩
 have HP := Lib.hid hp
 clear hp
 refine (peek_at c HP.out HR1.out hlen (G1.out _ _ HF1.out).at_).mono ?_
 rintro e w2 ⟨rfl, n2, rfl⟩
 by_cases hc : c = end_
 ·have HE : Hid (listOf s end_ go n a st = .ok a (Js.step st1)) := Lib.hid (by rw [HL.out, HP.out, if_pos hc])
  have q := u8_eq hc
  obtain ⟨k0, k1, -⟩ := HR1.out.cells
  have f1 := HR1.out.free 1
  have hat := (G1.out _ _ HF1.out).at_
  clear hc
  go_wp2_with fail
  refine bodyPost_ret (results_none rfl _ _ _) rfl ?_
  rw [HE.out]
  have hb := ((But.refl [b] w1).drewN n2).trans ((HR1.out.drewN n2).but 1 (.int .i64 ((st1.at_ : Int) + 1)))
  exact ⟨rfl, (HR1.out.drewN n2).step, HI.out a _ _ HA1.out hb⟩
 ·have HE : Hid (listOf s end_ go n a st = go n a st1) := Lib.hid (by rw [HL.out, HP.out, if_neg hc])
  have q := (u8_ne hc).1
  have HR2 := Lib.hid (HR1.out.drewN n2)
  have HA2 := Lib.hid (HI.out a _ _ HA1.out ((But.refl [b] w1).drewN n2))
  clear hc HR1 HA1 HL HP
  go_wp2_with fail
  go_loopg [20] n (fun k _ wr => ∃ (a' : α) (st' : Js.St), k ≤ n ∧ Hid (RdAt wr b s st') ∧ Hid (F a' st') ∧ Hid (I a' wr) ∧ Hid (listOf s end_ go n a st = go k a' st'))
  case atStart => exact ⟨a, st1, Nat.le_refl _, HR2, HF1, HA2, HE⟩
  case round =>
   obtain ⟨a', st', hk, HR, HF, HA, HE⟩ := hrel
   clear HR2 HF1 HA2 q
   cases gk with
   | zero =>
    refine absurd ?_ HNE.out
    rw [HE.out, H0.out]
   | succ k =>
    have HE1 := Lib.hid (HE.out.trans (HG.out k a' st'))
    have hneO : one k a' st' ≠ .out := by
     intro e0
     apply HNE.out
     rw [HE1.out, e0]; rfl
    have HFO := Lib.hid (HFN.out k a' st')
    go_wp2_with fail
    rw [HRUN.out]
    rw [Oper.upon_enter]
    refine (H1.out k a' st' wr (by omega) HR.out HF.out HA.out hneO).mono ?_
    intro e w3 ho
    generalize one k a' st' = r at ho HE1 HFO hneO
    cases r with
    | out => exact absurd rfl hneO
    | bad kb =>
     obtain ⟨rfl, hd3⟩ := ho
     have HE2 : Hid (listOf s end_ go n a st = .bad kb) := Lib.hid (by rw [HE1.out]; rfl)
     have HD3 := Lib.hid hd3
     clear hd3 hneO HFO HE1 HE
     unfold bad
     go_wp2_with fail
     exact lout_bad HE2.out rfl HD3.out
    | ok a3 st3 =>
     obtain ⟨rfl, hr3, ha3⟩ := ho
     have hf3 := HFO.out a3 st3 rfl HF.out
     have HE2 : Hid (listOf s end_ go n a st = if Js.peek s st3 = end_ then Js.Res.ok a3 (Js.step st3) else (Js.take s 44 st3).bind fun _ st => go k a3 st) := Lib.hid (by rw [HE1.out]; rfl)
     have HR3 := Lib.hid hr3
     have HA3 := Lib.hid ha3
     have HF3 := Lib.hid hf3
     clear hr3 ha3 hf3 hneO HFO HE1 HE HR HA HF
     obtain ⟨c, hp⟩ : ∃ c, Js.peek s st3 = c := ⟨_, rfl⟩
     have HP := Lib.hid hp
     clear hp
     go_wp2_with fail
     refine (peek_at c HP.out HR3.out hlen (G1.out _ _ HF3.out).at_).mono ?_
     rintro e w4 ⟨rfl, n4, rfl⟩
     by_cases hc : c = end_
     ·have HE3 : Hid (listOf s end_ go n a st = .ok a3 (Js.step st3)) := Lib.hid (by rw [HE2.out, HP.out, if_pos hc])
      have q := u8_eq hc
      obtain ⟨k0, k1, -⟩ := HR3.out.cells
      have f1 := HR3.out.free 1
      have hat := (G1.out _ _ HF3.out).at_
      clear hc
      go_wp2_with fail
      refine bodyPost_ret (results_none rfl _ _ _) rfl ?_
      rw [HE3.out]
      have hb := ((But.refl [b] w3).drewN n4).trans ((HR3.out.drewN n4).but 1 (.int .i64 ((st3.at_ : Int) + 1)))
      exact ⟨rfl, (HR3.out.drewN n4).step, HI.out a3 _ _ HA3.out hb⟩
     ·have HE3 : Hid (listOf s end_ go n a st = (Js.take s 44 st3).bind fun _ st => go k a3 st) := Lib.hid (by rw [HE2.out, HP.out, if_neg hc])
      have q := (u8_ne hc).1
      have HR4 := Lib.hid (HR3.out.drewN n4)
      have HA4 := Lib.hid (HI.out a3 _ _ HA3.out ((But.refl [b] w3).drewN n4))
      clear hc HR3 HA3 HP HE2
      go_wp2_with fail
      refine (take_any b s 44 st3 _ HR4.out hlen (G1.out _ _ HF3.out).at_).mono ?_
      intro e w5 ho
      rcases take_inv s 44 st3 with ht | ht
      ·rw [ht] at ho
       obtain ⟨rfl, hr5, hb5⟩ := ho
       have HR5 := Lib.hid hr5
       have HA5 := Lib.hid (HI.out a3 _ _ HA4.out hb5)
       have HF5 := Lib.hid (G2.out _ _ HF3.out (take_le ht))
       have HE5 : Hid (listOf s end_ go n a st = go k a3 (Js.step st3)) := Lib.hid (by rw [HE3.out, ht]; rfl)
       clear hr5 hb5 ht HR4 HA4 HE3
       go_wp2_with fail
       go_roundg k
       case measure => omega
       case rel => exact ⟨a3, Js.step st3, by omega, HR5, HF5, HA5, HE5⟩
      ·rw [ht] at ho
       obtain ⟨rfl, hb5⟩ := ho
       have HE5 : Hid (listOf s end_ go n a st = .bad st3.at_) := Lib.hid (by rw [HE3.out, ht]; rfl)
       have HD5 := Lib.hid (HDD.out a3 _ _ HA4.out hb5)
       clear hb5 ht HE3
       unfold bad
       go_wp2_with fail
       exact lout_bad HE5.out rfl HD5.out
end Go.Proofs.YtimioelnnhnbiaaGreatDoor
