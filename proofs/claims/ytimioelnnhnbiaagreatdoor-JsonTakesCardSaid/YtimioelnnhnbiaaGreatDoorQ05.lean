/-
 THE WALKS, seventh part: value of json's reader, the contract of inner handed in. CONDITIONS: the reader lies in a block of its own; the text is not too long.
-/
import Derived.Test.YtimioelnnhnbiaaGreatDoorQ04
namespace Go.Proofs.YtimioelnnhnbiaaGreatDoor
open Go.RowKit
theorem results_row1 {fn : Func} {p : Tmp} {ty : TypeId} (h : fn.results = #[.cell p ty]) (tmps : Array Value) (P : Program) (w : World) (g : Nat) (cs : Array Value)
  (hp : tmps.getD p undef = .pointer (some ⟨g, 0, none⟩)) (hl : (loadVar ty ⟨g, 0, none⟩).run P w = .ok (.agg cs) w) :
  (results fn tmps).run P w = .ok (.agg cs) w := by
 rw [Array.getD_eq_getD_getElem?] at hp
 simp [results, h, hp, asAddr, hl]
theorem But.on {S T : List Nat} {a c d : World} (h : But S a c) (k : But T c d) (hT : ∀ j ∈ T, j ∈ S ∨ a.heap.size ≤ j) : But S a d :=
 ⟨k.os.trans h.os, k.tape.trans h.tape, k.output.trans h.output, Nat.le_trans h.size k.size, fun j hj hs => (k.block j (Nat.lt_of_lt_of_le hj h.size) (fun hm => (hT j hm).elim hs (fun hle => by omega))).trans (h.block j hj hs)⟩
/-- A value's block. -/
def JBox (w : World) (b : Nat) (x0 x1 x2 x3 x4 x5 : Value) : Prop := w.heap[b]? = some (.cells #[x0, x1, x2, x3, x4, x5] 25 (0, 0))
theorem j25_load {w : World} {b : Nat} {x0 x1 x2 x3 x4 x5 : Value} (h : JBox w b x0 x1 x2 x3 x4 x5) : (loadVar 25 ⟨b, 0, none⟩).run Tryz.prog w = .ok (.agg #[x0, x1, x2, x3, x4, x5]) w :=
 run_loadVar_row w b 25 25 #[x0, x1, x2, x3, x4, x5] (0, 0) _ h Tryz.underlying25 rfl (by kernel_rfl)
def set6 (w : World) (b : Nat) (x0 x1 x2 x3 x4 x5 : Value) : World := ((((((w.setCell ⟨b, 0, none⟩ x0).setCell ⟨b, 1, none⟩ x1).setCell ⟨b, 2, none⟩ x2).setCell ⟨b, 3, none⟩ x3).setCell ⟨b, 4, none⟩ x4).setCell ⟨b, 5, none⟩ x5)
theorem j25_set {w : World} {b : Nat} {p0 p1 p2 p3 p4 p5 : Value} (x0 x1 x2 x3 x4 x5 : Value) (h : JBox w b p0 p1 p2 p3 p4 p5) :
  But [b] w (set6 w b x0 x1 x2 x3 x4 x5) ∧ JBox (set6 w b x0 x1 x2 x3 x4 x5) b x0 x1 x2 x3 x4 x5 := by
 obtain ⟨h1, h2⟩ := but_set (i := 0) x0 h
 obtain ⟨h3, h4⟩ := but_set (i := 1) x1 h2
 obtain ⟨h5, h6⟩ := but_set (i := 2) x2 h4
 obtain ⟨h7, h8⟩ := but_set (i := 3) x3 h6
 obtain ⟨h9, ha⟩ := but_set (i := 4) x4 h8
 obtain ⟨hb, hc⟩ := but_set (i := 5) x5 ha
 exact ⟨((((h1.trans h3).trans h5).trans h7).trans h9).trans hb, hc⟩
theorem JBox.cells {w : World} {b : Nat} {x0 x1 x2 x3 x4 x5 : Value} (h : JBox w b x0 x1 x2 x3 x4 x5) :
  w.cell? ⟨b, 0, none⟩ = some x0 ∧ w.cell? ⟨b, 1, none⟩ = some x1 ∧ w.cell? ⟨b, 2, none⟩ = some x2 ∧ w.cell? ⟨b, 3, none⟩ = some x3 ∧ w.cell? ⟨b, 4, none⟩ = some x4 ∧ w.cell? ⟨b, 5, none⟩ = some x5 :=
 ⟨(blk_cells h 0).trans rfl, (blk_cells h 1).trans rfl, (blk_cells h 2).trans rfl, (blk_cells h 3).trans rfl, (blk_cells h 4).trans rfl, (blk_cells h 5).trans rfl⟩
theorem JBox.frees {w : World} {b : Nat} {x0 x1 x2 x3 x4 x5 : Value} (h : JBox w b x0 x1 x2 x3 x4 x5) :
  w.frozen? ⟨b, 0, none⟩ = false ∧ w.frozen? ⟨b, 1, none⟩ = false ∧ w.frozen? ⟨b, 2, none⟩ = false ∧ w.frozen? ⟨b, 3, none⟩ = false ∧ w.frozen? ⟨b, 4, none⟩ = false ∧ w.frozen? ⟨b, 5, none⟩ = false :=
 ⟨blk_free h 0, blk_free h 1, blk_free h 2, blk_free h 3, blk_free h 4, blk_free h 5⟩
theorem JBox.but {L : List Nat} {w w' : World} {b : Nat} {x0 x1 x2 x3 x4 x5 : Value} (h : JBox w b x0 x1 x2 x3 x4 x5) (hb : But L w w') (hL : b ∉ L) : JBox w' b x0 x1 x2 x3 x4 x5 := hb.blk h hL
theorem JBox.next {w w' : World} {b : Nat} {x0 x1 x2 x3 x4 x5 : Value} (h : JBox w b x0 x1 x2 x3 x4 x5) (hb : Below w.heap.size w w') : JBox w' b x0 x1 x2 x3 x4 x5 := blk_next hb h
theorem JBox.lt {w : World} {b : Nat} {x0 x1 x2 x3 x4 x5 : Value} (h : JBox w b x0 x1 x2 x3 x4 x5) : b < w.heap.size := (Array.getElem?_eq_some_iff.1 h).1
/-- What comes of a reader's value: the value, fresh, and the reader turned; or a panic. -/
def VOut (b : Nat) (s : Js.Bs) (w : World) : Js.Res Js.J → Ending → World → Prop
 | .ok x st, e, w' => (∃ vs, e = .returned (.agg vs.toArray) ∧ JV w' (fun g => w.heap.size ≤ g) x vs) ∧ RdAt w' b s st ∧ But [b] w w'
 | .bad k, e, w' => e = bad k ∧ But [b] w w'
 | .out, _, _ => False
theorem vout_bad {fn : Func} {b : Nat} {s : Js.Bs} {w w' : World} {r : Js.Res Js.J} {k : Nat} {a : Act} (hr : r = .bad k) (hd : a.defers = []) (hb : But [b] w w') :
  bodyPost Tryz.prog fn (VOut b s w r) (.panic [{ v := .iface 106 (.int .i64 k), recovered := false }]) a w' := by
 subst hr
 exact ⟨hd, rfl, hb⟩
def ValueC (b : Nat) (s : Js.Bs) (n : Nat) : Prop := ∀ (st : Js.St) (w : World), RdAt w b s st → Fine s st → Js.value s n st ≠ .out → Calls Tryz.prog 49 #[.pointer (some ⟨b, 0, none⟩)] w (VOut b s w (Js.value s n st))
def InnerC (b : Nat) (s : Js.Bs) (n : Nat) : Prop := ∀ (st : Js.St) (w : World), RdAt w b s st → Near s st → Js.inner s n st ≠ .out → Calls Tryz.prog 74 #[.pointer (some ⟨b, 0, none⟩)] w (VOut b s w (Js.inner s n st))
set_option maxRecDepth 100000 in
set_option maxHeartbeats 8000000 in
theorem value_of_inner (b : Nat) (s : Js.Bs) (hlen : s.length ≤ 1073741824) (n : Nat) (hin : InnerC b s n) : ValueC b s (n + 1) := by
 intro st w h hF hne
 have HIN := Lib.hid hin
 have HNE := Lib.hid hne
 have HF := Lib.hid hF
 have hbw := h.lt
 have HB0 := Lib.hid (heap_alloc_new w (.cells #[.int .i64 0, .bool false, .int .i64 0, .string ⟨#[]⟩, .slice none 0 0, .slice none 0 0] 25))
 have HR0 := Lib.hid (h.next (below_box w (.cells #[.int .i64 0, .bool false, .int .i64 0, .string ⟨#[]⟩, .slice none 0 0, .slice none 0 0] 25)))
 have HW0 := Lib.hid (But.of (S := [b]) (below_box w (.cells #[.int .i64 0, .bool false, .int .i64 0, .string ⟨#[]⟩, .slice none 0 0, .slice none 0 0] 25)))
 clear hin hne h
 go_enter Tryz.func49, Tryz.ntmps49
 go_wp2_with fail
 generalize (w.alloc (.cells #[.int .i64 0, .bool false, .int .i64 0, .string ⟨#[]⟩, .slice none 0 0, .slice none 0 0] 25)) = w0 at HB0 HR0 HW0 ⊢
 obtain ⟨N, hN⟩ : ∃ N, w.heap.size = N := ⟨_, rfl⟩
 rw [hN] at HB0 hbw ⊢
 have HN := Lib.hid hN
 clear hN
 have hNb : N ≠ b := by omega
 refine (blanks_any b s st _ HR0.out hlen hF.at_).mono ?_
 rintro e w1 ⟨rfl, hr1, hb1⟩
 have HR1 := Lib.hid hr1
 have HW1 := Lib.hid (HW0.out.trans hb1)
 have HB1 := Lib.hid (show JBox w1 N _ _ _ _ _ _ from hb1.blk HB0.out (by simp; omega))
 obtain ⟨⟨b1, b2, b3, b4⟩, b5, b6⟩ := hF.blanks
 have HV : Hid (Js.value s (n + 1) st = (Js.inner s n { Js.blanks s st with nodes := (Js.blanks s st).nodes + 1, deep := (Js.blanks s st).deep + 1, large := (Js.blanks s st).large || decide (8 < (Js.blanks s st).deep + 1) || decide (256 < (Js.blanks s st).nodes + 1) }).bind fun x st => .ok x (Js.blanks s { st with deep := st.deep - 1 })) := Lib.hid (by
  conv => lhs; unfold Js.value)
 generalize Js.blanks s st = st1 at HR1 HV b1 b2 b3 b4 b5 b6
 clear hr1 hb1 HR0 HW0 HB0 hF b5 b6
 obtain ⟨c0, c1, c2, c3, c4, c5⟩ := HR1.out.cells
 have f2 := HR1.out.free 2
 have f3 := HR1.out.free 3
 have f5 := HR1.out.free 5
 have d1 : (st1.deep : Int) ≤ 1073741824 := by omega
 have d2 : (st1.nodes : Int) ≤ 1073741824 := by omega
 obtain ⟨L, hL⟩ : ∃ L, st1.large = L := ⟨_, rfl⟩
 rw [hL] at c5
 have HL := Lib.hid hL
 clear hL
 cases L
 ·by_cases h8 : 8 < st1.deep + 1
  ·have q8 : decide ((8 : Int) < (st1.deep : Int) + 1) = true := by simp; omega
   go_wp2_with fail
   have HQ : Hid ((st1.large || decide (8 < st1.deep + 1) || decide (256 < st1.nodes + 1)) = true) := Lib.hid (by rw [HL.out, decide_eq_true h8]; rfl)
   have hr2 : RdAt (((w1.setCell ⟨b, 3, none⟩ (.int .i64 ((st1.nodes : Int) + 1))).setCell ⟨b, 2, none⟩ (.int .i64 ((st1.deep : Int) + 1))).setCell ⟨b, 5, none⟩ (.bool true)) b s { st1 with nodes := st1.nodes + 1, deep := st1.deep + 1, large := true } := ((HR1.out.toNodes (st1.nodes + 1)).toDeep (st1.deep + 1)).toLarge true
   have hb2 : But [b] w1 (((w1.setCell ⟨b, 3, none⟩ (.int .i64 ((st1.nodes : Int) + 1))).setCell ⟨b, 2, none⟩ (.int .i64 ((st1.deep : Int) + 1))).setCell ⟨b, 5, none⟩ (.bool true)) := ((HR1.out.but 3 _).trans ((HR1.out.toNodes (st1.nodes + 1)).but 2 _)).trans (((HR1.out.toNodes (st1.nodes + 1)).toDeep (st1.deep + 1)).but 5 _)
   generalize (((w1.setCell ⟨b, 3, none⟩ (.int .i64 ((st1.nodes : Int) + 1))).setCell ⟨b, 2, none⟩ (.int .i64 ((st1.deep : Int) + 1))).setCell ⟨b, 5, none⟩ (.bool true)) = w2 at hr2 hb2 ⊢
   rw [HQ.out] at HV
   have HR2 := Lib.hid hr2
   have HW2 := Lib.hid (HW1.out.trans hb2)
   have HB2 := Lib.hid (HB1.out.but hb2 (by simp; omega))
   have hnear : Near s { st1 with nodes := st1.nodes + 1, deep := st1.deep + 1, large := true } := ⟨b1, Nat.succ_le_succ b2, Nat.succ_le_succ b3, b4⟩
   have HST := (steps s n).inner { st1 with nodes := st1.nodes + 1, deep := st1.deep + 1, large := true }
   have hneI : Js.inner s n { st1 with nodes := st1.nodes + 1, deep := st1.deep + 1, large := true } ≠ .out := by
    intro e0
    apply HNE.out
    rw [HV.out, e0]; rfl
   clear hr2 hb2 c0 c1 c2 c3 c4 c5 f2 f3 f5 HR1 HW1 HB1
   refine (HIN.out _ _ HR2.out hnear hneI).mono ?_
   intro e w3 ho
   generalize Js.inner s n { st1 with nodes := st1.nodes + 1, deep := st1.deep + 1, large := true } = r at ho HV HST hneI
   cases r with
   | out => exact absurd rfl hneI
   | bad k =>
    obtain ⟨rfl, hb3⟩ := ho
    have HE : Hid (Js.value s (n + 1) st = .bad k) := Lib.hid (by rw [HV.out]; rfl)
    have HB3 := Lib.hid (HW2.out.trans hb3)
    clear hb3 HST hneI hnear
    unfold bad
    go_wp2_with fail
    exact vout_bad HE.out rfl HB3.out
   | ok x st3 =>
    obtain ⟨⟨vs, rfl, hjv⟩, hr3, hb3⟩ := ho
    obtain ⟨s1, s2, s3, s4, s5⟩ := HST x st3 rfl hnear
    have s2 : st3.deep = st1.deep + 1 := s2
    have HE : Hid (Js.value s (n + 1) st = .ok x (Js.blanks s { st3 with deep := st3.deep - 1 })) := Lib.hid (by rw [HV.out]; rfl)
    have HW3 := Lib.hid (HW2.out.trans hb3)
    have HB3 := Lib.hid (HB2.out.but hb3 (by simp; omega))
    have HR3 := Lib.hid hr3
    have HJ3 : Hid (JV w3 (fun g => N < g) x vs) := Lib.hid (hjv.wide (fun g hg _ => Nat.lt_of_lt_of_le HB2.out.lt hg))
    have HX : ∃ A c A' c' k0 b0 n0 t0 l0 l1, vs = [.int .i64 k0, .bool b0, .int .i64 n0, .string t0, .slice A l0 c, .slice A' l1 c'] := by
     cases x with | mk k0 b0 n0 t0 l m =>
     unfold JV at hjv
     obtain ⟨A, c, A', c', rfl, _⟩ := hjv
     exact ⟨_, _, _, _, _, _, _, _, _, _, rfl⟩
    have HS2 := Lib.hid s2
    clear hjv hr3 hb3 HR2 HW2 HB2 HV HST hneI hnear s2
    obtain ⟨A, c, A', c', k0, b0, n0, t0, l0, l1, rfl⟩ := HX
    have hN3 := HB3.out.lt
    have c2 : w3.cell? ⟨b, 2, none⟩ = some (.int .i64 ((st1.deep : Int) + 1)) := by
     have := HR3.out.cells.2.2.1
     rw [HS2.out] at this
     exact this
    have f2 := HR3.out.free 2
    have hb3 : b < w3.heap.size := HR3.out.lt
    go_wp2_with fail
    have hr3a : RdAt (w3.setCell ⟨b, 2, none⟩ (.int .i64 (st1.deep : Int))) b s { st3 with deep := st1.deep } := HR3.out.toDeep st1.deep
    have hba := HR3.out.but 2 (.int .i64 (st1.deep : Int))
    have hsz : (w3.setCell ⟨b, 2, none⟩ (.int .i64 (st1.deep : Int))).heap.size = w3.heap.size := by simp
    have HW3a := Lib.hid (HW3.out.trans hba)
    have HB3a := Lib.hid (HB3.out.but hba (by simp; omega))
    have HJ3a := Lib.hid (HJ3.out.but hba (by intro j hj; simp at hj; subst hj; omega))
    generalize (w3.setCell ⟨b, 2, none⟩ (.int .i64 (st1.deep : Int))) = w3a at hr3a hsz HW3a HB3a HJ3a ⊢
    rw [← hsz] at hN3 hb3 ⊢
    have HB4 : Hid (JBox _ w3a.heap.size _ _ _ _ _ _) := Lib.hid (heap_alloc_new w3a (.cells #[.int .i64 k0, .bool b0, .int .i64 n0, .string t0, .slice A l0 c, .slice A' l1 c'] 25))
    have hbel := below_box w3a (.cells #[.int .i64 k0, .bool b0, .int .i64 n0, .string t0, .slice A l0 c, .slice A' l1 c'] 25)
    have HR4 := Lib.hid (hr3a.next hbel)
    have HN4 := Lib.hid (HB3a.out.next hbel)
    have HW4 := Lib.hid (HW3a.out.below hbel HW3a.out.size)
    have HJ4 := Lib.hid (HJ3a.out.next hbel)
    have HE : Hid (Js.value s (n + 1) st = .ok x (Js.blanks s { st3 with deep := st1.deep })) := Lib.hid (by rw [HE.out, HS2.out, Nat.add_sub_cancel])
    obtain ⟨M, hM⟩ : ∃ M, w3a.heap.size = M := ⟨_, rfl⟩
    rw [hM] at HB4 hN3 hb3
    have HM := Lib.hid hM
    clear hbel hba hsz hr3a HR3 HB3 HW3 HJ3 HW3a HB3a HJ3a c2 f2 hM
    refine (blanks_any b s { st3 with deep := st1.deep } _ HR4.out hlen s1).mono ?_
    rintro e w5 ⟨rfl, hr5, hb5⟩
    have HR5 := Lib.hid hr5
    have HW5 := Lib.hid (HW4.out.trans hb5)
    have HN5 := Lib.hid (HN4.out.but hb5 (by simp; omega))
    have HB5 := Lib.hid (HB4.out.but hb5 (by simp; omega))
    have HJ5 := Lib.hid (HJ4.out.but hb5 (by intro j hj; simp at hj; subst hj; omega))
    rw [HM.out]
    clear hr5 hb5 HR4 HW4 HN4 HB4 HJ4 HM
    obtain ⟨x0, x1, x2, x3, x4, x5⟩ := HB5.out.cells
    obtain ⟨y0, y1, y2, y3, y4, y5⟩ := HN5.out.cells
    obtain ⟨g0, g1, g2, g3, g4, g5⟩ := HN5.out.frees
    go_wp2_with fail
    have hst := j25_set (.int .i64 k0) (.bool b0) (.int .i64 n0) (.string t0) (.slice A l0 c) (.slice A' l1 c') HN5.out
    unfold set6 at hst
    refine bodyPost_ret (results_row1 rfl _ _ _ N #[.int .i64 k0, .bool b0, .int .i64 n0, .string t0, .slice A l0 c, .slice A' l1 c'] rfl (j25_load hst.2)) rfl ?_
    rw [HE.out]
    have hNw : w.heap.size = N := HN.out
    exact ⟨⟨_, rfl, (HJ5.out.but hst.1 (by intro j hj; simp at hj; subst hj; exact Nat.lt_irrefl _)).wide (fun g hg _ => by rw [hNw]; exact Nat.le_of_lt hg)⟩, hst.1.blk HR5.out (by simp; omega), HW5.out.on hst.1 (by intro j hj; simp at hj; subst hj; right; omega)⟩
  ·have q8 : decide ((8 : Int) < (st1.deep : Int) + 1) = false := by simp; omega
   by_cases h256 : 256 < st1.nodes + 1
   ·have q9 : decide ((256 : Int) < (st1.nodes : Int) + 1) = true := by simp; omega
    go_wp2_with fail
    have HQ : Hid ((st1.large || decide (8 < st1.deep + 1) || decide (256 < st1.nodes + 1)) = true) := Lib.hid (by rw [HL.out, decide_eq_true h256]; simp)
    have hr2 : RdAt (((w1.setCell ⟨b, 3, none⟩ (.int .i64 ((st1.nodes : Int) + 1))).setCell ⟨b, 2, none⟩ (.int .i64 ((st1.deep : Int) + 1))).setCell ⟨b, 5, none⟩ (.bool true)) b s { st1 with nodes := st1.nodes + 1, deep := st1.deep + 1, large := true } := ((HR1.out.toNodes (st1.nodes + 1)).toDeep (st1.deep + 1)).toLarge true
    have hb2 : But [b] w1 (((w1.setCell ⟨b, 3, none⟩ (.int .i64 ((st1.nodes : Int) + 1))).setCell ⟨b, 2, none⟩ (.int .i64 ((st1.deep : Int) + 1))).setCell ⟨b, 5, none⟩ (.bool true)) := ((HR1.out.but 3 _).trans ((HR1.out.toNodes (st1.nodes + 1)).but 2 _)).trans (((HR1.out.toNodes (st1.nodes + 1)).toDeep (st1.deep + 1)).but 5 _)
    generalize (((w1.setCell ⟨b, 3, none⟩ (.int .i64 ((st1.nodes : Int) + 1))).setCell ⟨b, 2, none⟩ (.int .i64 ((st1.deep : Int) + 1))).setCell ⟨b, 5, none⟩ (.bool true)) = w2 at hr2 hb2 ⊢
    rw [HQ.out] at HV
    have HR2 := Lib.hid hr2
    have HW2 := Lib.hid (HW1.out.trans hb2)
    have HB2 := Lib.hid (HB1.out.but hb2 (by simp; omega))
    have hnear : Near s { st1 with nodes := st1.nodes + 1, deep := st1.deep + 1, large := true } := ⟨b1, Nat.succ_le_succ b2, Nat.succ_le_succ b3, b4⟩
    have HST := (steps s n).inner { st1 with nodes := st1.nodes + 1, deep := st1.deep + 1, large := true }
    have hneI : Js.inner s n { st1 with nodes := st1.nodes + 1, deep := st1.deep + 1, large := true } ≠ .out := by
     intro e0
     apply HNE.out
     rw [HV.out, e0]; rfl
    clear hr2 hb2 c0 c1 c2 c3 c4 c5 f2 f3 f5 HR1 HW1 HB1
    refine (HIN.out _ _ HR2.out hnear hneI).mono ?_
    intro e w3 ho
    generalize Js.inner s n { st1 with nodes := st1.nodes + 1, deep := st1.deep + 1, large := true } = r at ho HV HST hneI
    cases r with
    | out => exact absurd rfl hneI
    | bad k =>
     obtain ⟨rfl, hb3⟩ := ho
     have HE : Hid (Js.value s (n + 1) st = .bad k) := Lib.hid (by rw [HV.out]; rfl)
     have HB3 := Lib.hid (HW2.out.trans hb3)
     clear hb3 HST hneI hnear
     unfold bad
     go_wp2_with fail
     exact vout_bad HE.out rfl HB3.out
    | ok x st3 =>
     obtain ⟨⟨vs, rfl, hjv⟩, hr3, hb3⟩ := ho
     obtain ⟨s1, s2, s3, s4, s5⟩ := HST x st3 rfl hnear
     have s2 : st3.deep = st1.deep + 1 := s2
     have HE : Hid (Js.value s (n + 1) st = .ok x (Js.blanks s { st3 with deep := st3.deep - 1 })) := Lib.hid (by rw [HV.out]; rfl)
     have HW3 := Lib.hid (HW2.out.trans hb3)
     have HB3 := Lib.hid (HB2.out.but hb3 (by simp; omega))
     have HR3 := Lib.hid hr3
     have HJ3 : Hid (JV w3 (fun g => N < g) x vs) := Lib.hid (hjv.wide (fun g hg _ => Nat.lt_of_lt_of_le HB2.out.lt hg))
     have HX : ∃ A c A' c' k0 b0 n0 t0 l0 l1, vs = [.int .i64 k0, .bool b0, .int .i64 n0, .string t0, .slice A l0 c, .slice A' l1 c'] := by
      cases x with | mk k0 b0 n0 t0 l m =>
      unfold JV at hjv
      obtain ⟨A, c, A', c', rfl, _⟩ := hjv
      exact ⟨_, _, _, _, _, _, _, _, _, _, rfl⟩
     have HS2 := Lib.hid s2
     clear hjv hr3 hb3 HR2 HW2 HB2 HV HST hneI hnear s2
     obtain ⟨A, c, A', c', k0, b0, n0, t0, l0, l1, rfl⟩ := HX
     have hN3 := HB3.out.lt
     have c2 : w3.cell? ⟨b, 2, none⟩ = some (.int .i64 ((st1.deep : Int) + 1)) := by
      have := HR3.out.cells.2.2.1
      rw [HS2.out] at this
      exact this
     have f2 := HR3.out.free 2
     have hb3 : b < w3.heap.size := HR3.out.lt
     go_wp2_with fail
     have hr3a : RdAt (w3.setCell ⟨b, 2, none⟩ (.int .i64 (st1.deep : Int))) b s { st3 with deep := st1.deep } := HR3.out.toDeep st1.deep
     have hba := HR3.out.but 2 (.int .i64 (st1.deep : Int))
     have hsz : (w3.setCell ⟨b, 2, none⟩ (.int .i64 (st1.deep : Int))).heap.size = w3.heap.size := by simp
     have HW3a := Lib.hid (HW3.out.trans hba)
     have HB3a := Lib.hid (HB3.out.but hba (by simp; omega))
     have HJ3a := Lib.hid (HJ3.out.but hba (by intro j hj; simp at hj; subst hj; omega))
     generalize (w3.setCell ⟨b, 2, none⟩ (.int .i64 (st1.deep : Int))) = w3a at hr3a hsz HW3a HB3a HJ3a ⊢
     rw [← hsz] at hN3 hb3 ⊢
     have HB4 : Hid (JBox _ w3a.heap.size _ _ _ _ _ _) := Lib.hid (heap_alloc_new w3a (.cells #[.int .i64 k0, .bool b0, .int .i64 n0, .string t0, .slice A l0 c, .slice A' l1 c'] 25))
     have hbel := below_box w3a (.cells #[.int .i64 k0, .bool b0, .int .i64 n0, .string t0, .slice A l0 c, .slice A' l1 c'] 25)
     have HR4 := Lib.hid (hr3a.next hbel)
     have HN4 := Lib.hid (HB3a.out.next hbel)
     have HW4 := Lib.hid (HW3a.out.below hbel HW3a.out.size)
     have HJ4 := Lib.hid (HJ3a.out.next hbel)
     have HE : Hid (Js.value s (n + 1) st = .ok x (Js.blanks s { st3 with deep := st1.deep })) := Lib.hid (by rw [HE.out, HS2.out, Nat.add_sub_cancel])
     obtain ⟨M, hM⟩ : ∃ M, w3a.heap.size = M := ⟨_, rfl⟩
     rw [hM] at HB4 hN3 hb3
     have HM := Lib.hid hM
     clear hbel hba hsz hr3a HR3 HB3 HW3 HJ3 HW3a HB3a HJ3a c2 f2 hM
     refine (blanks_any b s { st3 with deep := st1.deep } _ HR4.out hlen s1).mono ?_
     rintro e w5 ⟨rfl, hr5, hb5⟩
     have HR5 := Lib.hid hr5
     have HW5 := Lib.hid (HW4.out.trans hb5)
     have HN5 := Lib.hid (HN4.out.but hb5 (by simp; omega))
     have HB5 := Lib.hid (HB4.out.but hb5 (by simp; omega))
     have HJ5 := Lib.hid (HJ4.out.but hb5 (by intro j hj; simp at hj; subst hj; omega))
     rw [HM.out]
     clear hr5 hb5 HR4 HW4 HN4 HB4 HJ4 HM
     obtain ⟨x0, x1, x2, x3, x4, x5⟩ := HB5.out.cells
     obtain ⟨y0, y1, y2, y3, y4, y5⟩ := HN5.out.cells
     obtain ⟨g0, g1, g2, g3, g4, g5⟩ := HN5.out.frees
     go_wp2_with fail
     have hst := j25_set (.int .i64 k0) (.bool b0) (.int .i64 n0) (.string t0) (.slice A l0 c) (.slice A' l1 c') HN5.out
     unfold set6 at hst
     refine bodyPost_ret (results_row1 rfl _ _ _ N #[.int .i64 k0, .bool b0, .int .i64 n0, .string t0, .slice A l0 c, .slice A' l1 c'] rfl (j25_load hst.2)) rfl ?_
     rw [HE.out]
     have hNw : w.heap.size = N := HN.out
     exact ⟨⟨_, rfl, (HJ5.out.but hst.1 (by intro j hj; simp at hj; subst hj; exact Nat.lt_irrefl _)).wide (fun g hg _ => by rw [hNw]; exact Nat.le_of_lt hg)⟩, hst.1.blk HR5.out (by simp; omega), HW5.out.on hst.1 (by intro j hj; simp at hj; subst hj; right; omega)⟩
   ·have q9 : decide ((256 : Int) < (st1.nodes : Int) + 1) = false := by simp; omega
    go_wp2_with fail
    have HQ : Hid ((st1.large || decide (8 < st1.deep + 1) || decide (256 < st1.nodes + 1)) = false) := Lib.hid (by rw [HL.out, decide_eq_false h8, decide_eq_false h256]; rfl)
    have hr2 : RdAt (((w1.setCell ⟨b, 3, none⟩ (.int .i64 ((st1.nodes : Int) + 1))).setCell ⟨b, 2, none⟩ (.int .i64 ((st1.deep : Int) + 1))).setCell ⟨b, 5, none⟩ (.bool false)) b s { st1 with nodes := st1.nodes + 1, deep := st1.deep + 1, large := false } := ((HR1.out.toNodes (st1.nodes + 1)).toDeep (st1.deep + 1)).toLarge false
    have hb2 : But [b] w1 (((w1.setCell ⟨b, 3, none⟩ (.int .i64 ((st1.nodes : Int) + 1))).setCell ⟨b, 2, none⟩ (.int .i64 ((st1.deep : Int) + 1))).setCell ⟨b, 5, none⟩ (.bool false)) := ((HR1.out.but 3 _).trans ((HR1.out.toNodes (st1.nodes + 1)).but 2 _)).trans (((HR1.out.toNodes (st1.nodes + 1)).toDeep (st1.deep + 1)).but 5 _)
    generalize (((w1.setCell ⟨b, 3, none⟩ (.int .i64 ((st1.nodes : Int) + 1))).setCell ⟨b, 2, none⟩ (.int .i64 ((st1.deep : Int) + 1))).setCell ⟨b, 5, none⟩ (.bool false)) = w2 at hr2 hb2 ⊢
    rw [HQ.out] at HV
    have HR2 := Lib.hid hr2
    have HW2 := Lib.hid (HW1.out.trans hb2)
    have HB2 := Lib.hid (HB1.out.but hb2 (by simp; omega))
    have hnear : Near s { st1 with nodes := st1.nodes + 1, deep := st1.deep + 1, large := false } := ⟨b1, Nat.succ_le_succ b2, Nat.succ_le_succ b3, b4⟩
    have HST := (steps s n).inner { st1 with nodes := st1.nodes + 1, deep := st1.deep + 1, large := false }
    have hneI : Js.inner s n { st1 with nodes := st1.nodes + 1, deep := st1.deep + 1, large := false } ≠ .out := by
     intro e0
     apply HNE.out
     rw [HV.out, e0]; rfl
    clear hr2 hb2 c0 c1 c2 c3 c4 c5 f2 f3 f5 HR1 HW1 HB1
    refine (HIN.out _ _ HR2.out hnear hneI).mono ?_
    intro e w3 ho
    generalize Js.inner s n { st1 with nodes := st1.nodes + 1, deep := st1.deep + 1, large := false } = r at ho HV HST hneI
    cases r with
    | out => exact absurd rfl hneI
    | bad k =>
     obtain ⟨rfl, hb3⟩ := ho
     have HE : Hid (Js.value s (n + 1) st = .bad k) := Lib.hid (by rw [HV.out]; rfl)
     have HB3 := Lib.hid (HW2.out.trans hb3)
     clear hb3 HST hneI hnear
     unfold bad
     go_wp2_with fail
     exact vout_bad HE.out rfl HB3.out
    | ok x st3 =>
     obtain ⟨⟨vs, rfl, hjv⟩, hr3, hb3⟩ := ho
     obtain ⟨s1, s2, s3, s4, s5⟩ := HST x st3 rfl hnear
     have s2 : st3.deep = st1.deep + 1 := s2
     have HE : Hid (Js.value s (n + 1) st = .ok x (Js.blanks s { st3 with deep := st3.deep - 1 })) := Lib.hid (by rw [HV.out]; rfl)
     have HW3 := Lib.hid (HW2.out.trans hb3)
     have HB3 := Lib.hid (HB2.out.but hb3 (by simp; omega))
     have HR3 := Lib.hid hr3
     have HJ3 : Hid (JV w3 (fun g => N < g) x vs) := Lib.hid (hjv.wide (fun g hg _ => Nat.lt_of_lt_of_le HB2.out.lt hg))
     have HX : ∃ A c A' c' k0 b0 n0 t0 l0 l1, vs = [.int .i64 k0, .bool b0, .int .i64 n0, .string t0, .slice A l0 c, .slice A' l1 c'] := by
      cases x with | mk k0 b0 n0 t0 l m =>
      unfold JV at hjv
      obtain ⟨A, c, A', c', rfl, _⟩ := hjv
      exact ⟨_, _, _, _, _, _, _, _, _, _, rfl⟩
     have HS2 := Lib.hid s2
     clear hjv hr3 hb3 HR2 HW2 HB2 HV HST hneI hnear s2
     obtain ⟨A, c, A', c', k0, b0, n0, t0, l0, l1, rfl⟩ := HX
     have hN3 := HB3.out.lt
     have c2 : w3.cell? ⟨b, 2, none⟩ = some (.int .i64 ((st1.deep : Int) + 1)) := by
      have := HR3.out.cells.2.2.1
      rw [HS2.out] at this
      exact this
     have f2 := HR3.out.free 2
     have hb3 : b < w3.heap.size := HR3.out.lt
     go_wp2_with fail
     have hr3a : RdAt (w3.setCell ⟨b, 2, none⟩ (.int .i64 (st1.deep : Int))) b s { st3 with deep := st1.deep } := HR3.out.toDeep st1.deep
     have hba := HR3.out.but 2 (.int .i64 (st1.deep : Int))
     have hsz : (w3.setCell ⟨b, 2, none⟩ (.int .i64 (st1.deep : Int))).heap.size = w3.heap.size := by simp
     have HW3a := Lib.hid (HW3.out.trans hba)
     have HB3a := Lib.hid (HB3.out.but hba (by simp; omega))
     have HJ3a := Lib.hid (HJ3.out.but hba (by intro j hj; simp at hj; subst hj; omega))
     generalize (w3.setCell ⟨b, 2, none⟩ (.int .i64 (st1.deep : Int))) = w3a at hr3a hsz HW3a HB3a HJ3a ⊢
     rw [← hsz] at hN3 hb3 ⊢
     have HB4 : Hid (JBox _ w3a.heap.size _ _ _ _ _ _) := Lib.hid (heap_alloc_new w3a (.cells #[.int .i64 k0, .bool b0, .int .i64 n0, .string t0, .slice A l0 c, .slice A' l1 c'] 25))
     have hbel := below_box w3a (.cells #[.int .i64 k0, .bool b0, .int .i64 n0, .string t0, .slice A l0 c, .slice A' l1 c'] 25)
     have HR4 := Lib.hid (hr3a.next hbel)
     have HN4 := Lib.hid (HB3a.out.next hbel)
     have HW4 := Lib.hid (HW3a.out.below hbel HW3a.out.size)
     have HJ4 := Lib.hid (HJ3a.out.next hbel)
     have HE : Hid (Js.value s (n + 1) st = .ok x (Js.blanks s { st3 with deep := st1.deep })) := Lib.hid (by rw [HE.out, HS2.out, Nat.add_sub_cancel])
     obtain ⟨M, hM⟩ : ∃ M, w3a.heap.size = M := ⟨_, rfl⟩
     rw [hM] at HB4 hN3 hb3
     have HM := Lib.hid hM
     clear hbel hba hsz hr3a HR3 HB3 HW3 HJ3 HW3a HB3a HJ3a c2 f2 hM
     refine (blanks_any b s { st3 with deep := st1.deep } _ HR4.out hlen s1).mono ?_
     rintro e w5 ⟨rfl, hr5, hb5⟩
     have HR5 := Lib.hid hr5
     have HW5 := Lib.hid (HW4.out.trans hb5)
     have HN5 := Lib.hid (HN4.out.but hb5 (by simp; omega))
     have HB5 := Lib.hid (HB4.out.but hb5 (by simp; omega))
     have HJ5 := Lib.hid (HJ4.out.but hb5 (by intro j hj; simp at hj; subst hj; omega))
     rw [HM.out]
     clear hr5 hb5 HR4 HW4 HN4 HB4 HJ4 HM
     obtain ⟨x0, x1, x2, x3, x4, x5⟩ := HB5.out.cells
     obtain ⟨y0, y1, y2, y3, y4, y5⟩ := HN5.out.cells
     obtain ⟨g0, g1, g2, g3, g4, g5⟩ := HN5.out.frees
     go_wp2_with fail
     have hst := j25_set (.int .i64 k0) (.bool b0) (.int .i64 n0) (.string t0) (.slice A l0 c) (.slice A' l1 c') HN5.out
     unfold set6 at hst
     refine bodyPost_ret (results_row1 rfl _ _ _ N #[.int .i64 k0, .bool b0, .int .i64 n0, .string t0, .slice A l0 c, .slice A' l1 c'] rfl (j25_load hst.2)) rfl ?_
     rw [HE.out]
     have hNw : w.heap.size = N := HN.out
     exact ⟨⟨_, rfl, (HJ5.out.but hst.1 (by intro j hj; simp at hj; subst hj; exact Nat.lt_irrefl _)).wide (fun g hg _ => by rw [hNw]; exact Nat.le_of_lt hg)⟩, hst.1.blk HR5.out (by simp; omega), HW5.out.on hst.1 (by intro j hj; simp at hj; subst hj; right; omega)⟩
 ·go_wp2_with fail
  have HQ : Hid ((st1.large || decide (8 < st1.deep + 1) || decide (256 < st1.nodes + 1)) = true) := Lib.hid (by rw [HL.out]; rfl)
  have hr2 : RdAt (((w1.setCell ⟨b, 3, none⟩ (.int .i64 ((st1.nodes : Int) + 1))).setCell ⟨b, 2, none⟩ (.int .i64 ((st1.deep : Int) + 1))).setCell ⟨b, 5, none⟩ (.bool true)) b s { st1 with nodes := st1.nodes + 1, deep := st1.deep + 1, large := true } := ((HR1.out.toNodes (st1.nodes + 1)).toDeep (st1.deep + 1)).toLarge true
  have hb2 : But [b] w1 (((w1.setCell ⟨b, 3, none⟩ (.int .i64 ((st1.nodes : Int) + 1))).setCell ⟨b, 2, none⟩ (.int .i64 ((st1.deep : Int) + 1))).setCell ⟨b, 5, none⟩ (.bool true)) := ((HR1.out.but 3 _).trans ((HR1.out.toNodes (st1.nodes + 1)).but 2 _)).trans (((HR1.out.toNodes (st1.nodes + 1)).toDeep (st1.deep + 1)).but 5 _)
  generalize (((w1.setCell ⟨b, 3, none⟩ (.int .i64 ((st1.nodes : Int) + 1))).setCell ⟨b, 2, none⟩ (.int .i64 ((st1.deep : Int) + 1))).setCell ⟨b, 5, none⟩ (.bool true)) = w2 at hr2 hb2 ⊢
  rw [HQ.out] at HV
  have HR2 := Lib.hid hr2
  have HW2 := Lib.hid (HW1.out.trans hb2)
  have HB2 := Lib.hid (HB1.out.but hb2 (by simp; omega))
  have hnear : Near s { st1 with nodes := st1.nodes + 1, deep := st1.deep + 1, large := true } := ⟨b1, Nat.succ_le_succ b2, Nat.succ_le_succ b3, b4⟩
  have HST := (steps s n).inner { st1 with nodes := st1.nodes + 1, deep := st1.deep + 1, large := true }
  have hneI : Js.inner s n { st1 with nodes := st1.nodes + 1, deep := st1.deep + 1, large := true } ≠ .out := by
   intro e0
   apply HNE.out
   rw [HV.out, e0]; rfl
  clear hr2 hb2 c0 c1 c2 c3 c4 c5 f2 f3 f5 HR1 HW1 HB1
  refine (HIN.out _ _ HR2.out hnear hneI).mono ?_
  intro e w3 ho
  generalize Js.inner s n { st1 with nodes := st1.nodes + 1, deep := st1.deep + 1, large := true } = r at ho HV HST hneI
  cases r with
  | out => exact absurd rfl hneI
  | bad k =>
   obtain ⟨rfl, hb3⟩ := ho
   have HE : Hid (Js.value s (n + 1) st = .bad k) := Lib.hid (by rw [HV.out]; rfl)
   have HB3 := Lib.hid (HW2.out.trans hb3)
   clear hb3 HST hneI hnear
   unfold bad
   go_wp2_with fail
   exact vout_bad HE.out rfl HB3.out
  | ok x st3 =>
   obtain ⟨⟨vs, rfl, hjv⟩, hr3, hb3⟩ := ho
   obtain ⟨s1, s2, s3, s4, s5⟩ := HST x st3 rfl hnear
   have s2 : st3.deep = st1.deep + 1 := s2
   have HE : Hid (Js.value s (n + 1) st = .ok x (Js.blanks s { st3 with deep := st3.deep - 1 })) := Lib.hid (by rw [HV.out]; rfl)
   have HW3 := Lib.hid (HW2.out.trans hb3)
   have HB3 := Lib.hid (HB2.out.but hb3 (by simp; omega))
   have HR3 := Lib.hid hr3
   have HJ3 : Hid (JV w3 (fun g => N < g) x vs) := Lib.hid (hjv.wide (fun g hg _ => Nat.lt_of_lt_of_le HB2.out.lt hg))
   have HX : ∃ A c A' c' k0 b0 n0 t0 l0 l1, vs = [.int .i64 k0, .bool b0, .int .i64 n0, .string t0, .slice A l0 c, .slice A' l1 c'] := by
    cases x with | mk k0 b0 n0 t0 l m =>
    unfold JV at hjv
    obtain ⟨A, c, A', c', rfl, _⟩ := hjv
    exact ⟨_, _, _, _, _, _, _, _, _, _, rfl⟩
   have HS2 := Lib.hid s2
   clear hjv hr3 hb3 HR2 HW2 HB2 HV HST hneI hnear s2
   obtain ⟨A, c, A', c', k0, b0, n0, t0, l0, l1, rfl⟩ := HX
   have hN3 := HB3.out.lt
   have c2 : w3.cell? ⟨b, 2, none⟩ = some (.int .i64 ((st1.deep : Int) + 1)) := by
    have := HR3.out.cells.2.2.1
    rw [HS2.out] at this
    exact this
   have f2 := HR3.out.free 2
   have hb3 : b < w3.heap.size := HR3.out.lt
   go_wp2_with fail
   have hr3a : RdAt (w3.setCell ⟨b, 2, none⟩ (.int .i64 (st1.deep : Int))) b s { st3 with deep := st1.deep } := HR3.out.toDeep st1.deep
   have hba := HR3.out.but 2 (.int .i64 (st1.deep : Int))
   have hsz : (w3.setCell ⟨b, 2, none⟩ (.int .i64 (st1.deep : Int))).heap.size = w3.heap.size := by simp
   have HW3a := Lib.hid (HW3.out.trans hba)
   have HB3a := Lib.hid (HB3.out.but hba (by simp; omega))
   have HJ3a := Lib.hid (HJ3.out.but hba (by intro j hj; simp at hj; subst hj; omega))
   generalize (w3.setCell ⟨b, 2, none⟩ (.int .i64 (st1.deep : Int))) = w3a at hr3a hsz HW3a HB3a HJ3a ⊢
   rw [← hsz] at hN3 hb3 ⊢
   have HB4 : Hid (JBox _ w3a.heap.size _ _ _ _ _ _) := Lib.hid (heap_alloc_new w3a (.cells #[.int .i64 k0, .bool b0, .int .i64 n0, .string t0, .slice A l0 c, .slice A' l1 c'] 25))
   have hbel := below_box w3a (.cells #[.int .i64 k0, .bool b0, .int .i64 n0, .string t0, .slice A l0 c, .slice A' l1 c'] 25)
   have HR4 := Lib.hid (hr3a.next hbel)
   have HN4 := Lib.hid (HB3a.out.next hbel)
   have HW4 := Lib.hid (HW3a.out.below hbel HW3a.out.size)
   have HJ4 := Lib.hid (HJ3a.out.next hbel)
   have HE : Hid (Js.value s (n + 1) st = .ok x (Js.blanks s { st3 with deep := st1.deep })) := Lib.hid (by rw [HE.out, HS2.out, Nat.add_sub_cancel])
   obtain ⟨M, hM⟩ : ∃ M, w3a.heap.size = M := ⟨_, rfl⟩
   rw [hM] at HB4 hN3 hb3
   have HM := Lib.hid hM
   clear hbel hba hsz hr3a HR3 HB3 HW3 HJ3 HW3a HB3a HJ3a c2 f2 hM
   refine (blanks_any b s { st3 with deep := st1.deep } _ HR4.out hlen s1).mono ?_
   rintro e w5 ⟨rfl, hr5, hb5⟩
   have HR5 := Lib.hid hr5
   have HW5 := Lib.hid (HW4.out.trans hb5)
   have HN5 := Lib.hid (HN4.out.but hb5 (by simp; omega))
   have HB5 := Lib.hid (HB4.out.but hb5 (by simp; omega))
   have HJ5 := Lib.hid (HJ4.out.but hb5 (by intro j hj; simp at hj; subst hj; omega))
   rw [HM.out]
   clear hr5 hb5 HR4 HW4 HN4 HB4 HJ4 HM
   obtain ⟨x0, x1, x2, x3, x4, x5⟩ := HB5.out.cells
   obtain ⟨y0, y1, y2, y3, y4, y5⟩ := HN5.out.cells
   obtain ⟨g0, g1, g2, g3, g4, g5⟩ := HN5.out.frees
   go_wp2_with fail
   have hst := j25_set (.int .i64 k0) (.bool b0) (.int .i64 n0) (.string t0) (.slice A l0 c) (.slice A' l1 c') HN5.out
   unfold set6 at hst
   refine bodyPost_ret (results_row1 rfl _ _ _ N #[.int .i64 k0, .bool b0, .int .i64 n0, .string t0, .slice A l0 c, .slice A' l1 c'] rfl (j25_load hst.2)) rfl ?_
   rw [HE.out]
   have hNw : w.heap.size = N := HN.out
   exact ⟨⟨_, rfl, (HJ5.out.but hst.1 (by intro j hj; simp at hj; subst hj; exact Nat.lt_irrefl _)).wide (fun g hg _ => by rw [hNw]; exact Nat.le_of_lt hg)⟩, hst.1.blk HR5.out (by simp; omega), HW5.out.on hst.1 (by intro j hj; simp at hj; subst hj; right; omega)⟩
end Go.Proofs.YtimioelnnhnbiaaGreatDoor
