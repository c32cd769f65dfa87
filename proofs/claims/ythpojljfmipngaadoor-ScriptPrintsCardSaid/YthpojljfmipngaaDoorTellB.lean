/-
  THE WALKS: Lines of package shipwrightref28. CONDITIONS: the replies lie as RepsAt says; sizes.
-/
import Derived.Test.YthpojljfmipngaaDoorTellA
import Derived.Test.YthpojljfmipngaaDoorRefF
import Derived.Test.YthpojljfmipngaaDoorLawLines
import Derived.Deep.RegionHeld3
namespace Go.Proofs.YthpojljfmipngaaDoor
open Go.RowKit
theorem quoteT_ref (s : Sc.Bs) : Sc.quoteT s = 32 :: refQuote s := by unfold Sc.quoteT refQuote; simp
theorem repLine_ref (r : Rep) : repLine r = (([114, 101, 112, 108, 121, 32] ++ Lib.itoa r.req) ++ [32]) ++ refQuote r.bytes ++ [10] := by
  unfold repLine
  rw [quoteT_ref, Sc.numsText_cons]
  simp [Sc.numsText]
theorem add_str (x y : Sc.Bs) (h : x.length + y.length ≤ 9223372036854775807) : ∃ T : ByteArray, (∀ w, (Op.stringOp .add ⟨x.toArray⟩ ⟨y.toArray⟩).run Tryd.prog w = .ok (.string T) w) ∧ T = ⟨(x ++ y).toArray⟩ := by
  refine ⟨_, fun w => ?_, rfl⟩
  rw [run_string_add_sum w _ _ (by rw [Lib.size_eq, Lib.size_eq]; exact h), app_str]
theorem repLine_len (r : Rep) (h1 : r.bytes.length ≤ 300) (h2 : u32 r.req) : (repLine r).length ≤ 2000 := by
  have i4 := quoteT_len r.bytes
  have i5 := numsText_le [r.req] (by intro v hv; unfold u32 at h2; simp at hv; subst hv; omega)
  have i6 : (repLine r).length = 5 + (Sc.numsText [r.req]).length + (Sc.quoteT r.bytes).length + 1 := by
    unfold repLine
    simp only [List.length_append, List.length_cons, List.length_nil]
  simp only [List.length_cons, List.length_nil] at i5
  omega
set_option maxRecDepth 100000 in
set_option maxHeartbeats 8000000 in
theorem refLines28_any (x : Sc.Ev) (K A : Option Addr) (kc bc : Nat) (t : Tol) (R : Option Addr) (rc : Nat) (w : World) (hR : RepsAt w R t.reps) (he : -4611686018427387904 ≤ t.err ∧ t.err ≤ 9223372036854775807) (hr : u32 t.req) (ht : u32 t.tick) (hn : t.reps.length ≤ 9) (hby2 : ∀ r ∈ t.reps, r.bytes.length ≤ 300 ∧ u32 r.req) :
    Calls Tryd.prog 19 #[evV x K A kc bc, tolV t R rc] w fun e w' => e = .returned (.string ⟨(tellOf x t).toArray⟩) ∧ Below w.heap.size w w' := by
  have hb1 := below_box w (.cells #[.int .i64 x.kind, .int .i64 x.node, .int .i64 x.to, .int .i64 x.n, .int .i64 x.bit, .slice K x.keep.length kc, .slice A x.bytes.length bc] 45)
  have hx1 := heap_alloc_new w (.cells #[.int .i64 x.kind, .int .i64 x.node, .int .i64 x.to, .int .i64 x.n, .int .i64 x.bit, .slice K x.keep.length kc, .slice A x.bytes.length bc] 45)
  generalize hw1 : w.alloc (.cells #[.int .i64 x.kind, .int .i64 x.node, .int .i64 x.to, .int .i64 x.n, .int .i64 x.bit, .slice K x.keep.length kc, .slice A x.bytes.length bc] 45) = w1 at hb1 hx1
  have hs1 : w1.heap.size = w.heap.size + 1 := by rw [← hw1]; simp
  have hb2 := below_box w1 (.cells #[.int .i64 t.err, .int .u32 t.req, .int .u32 t.tick, .slice R t.reps.length rc] 49)
  have hx2 := heap_alloc_new w1 (.cells #[.int .i64 t.err, .int .u32 t.req, .int .u32 t.tick, .slice R t.reps.length rc] 49)
  have HX : Hid (EvBox _ w.heap.size x K A kc bc) := Lib.hid (blk_next hb2 hx1)
  rw [hs1] at hx2
  have HT := Lib.hid hx2
  have HB := Lib.hid (hb1.trans (hb2.mono hb1.size))
  have HR := Lib.hid hR
  have HLEN : Hid (∀ k, (tellHead x t ++ (t.reps.take k).flatMap repLine).length ≤ 100000) := Lib.hid (fun k => tell_len x t k (by unfold inI; omega) hr ht hn hby2)
  have HBY := Lib.hid hby2
  obtain ⟨r1, r2⟩ := hr
  obtain ⟨k1, k2⟩ := ht
  obtain ⟨e1, e2⟩ := he
  clear hb1 hx1 hx2 hb2 hby2 hR
  unfold evV tolV
  go_enter Tryd.func19, Tryd.ntmps19
  go_upto_region 1 with (fail)
  generalize w1.alloc (.cells #[.int .i64 t.err, .int .u32 t.req, .int .u32 t.tick, .slice R t.reps.length rc] 49) = w3 at HX HT HB ⊢
  generalize htb : w.heap.size + 1 = tb at HT ⊢
  generalize hxb : w.heap.size = xb at HX ⊢
  obtain ⟨c0, d0, d1, d2⟩ : _ ∧ _ ∧ _ ∧ _ := ⟨HX.out.cells.1, blk_cells HT.out 0, blk_cells HT.out 1, blk_cells HT.out 2⟩
  by_cases he0 : t.err = 0
  · have eb : (t.err != 0) = false := by rw [he0]; rfl
    by_cases hk1 : x.kind = 1
    · have kb : (x.kind == 1) = true := by rw [hk1]; rfl
      have HHD : Hid (tellHead x t = ([111, 107] ++ Sc.numsText [t.req, t.tick]) ++ [10]) := Lib.hid (by unfold tellHead; rw [if_neg (by simp [he0]), if_pos hk1])
      clear he0 hk1
      have hal := below_box w3 (.cells #[.int .i64 t.req, .int .i64 t.tick] 3)
      have hw2 : IntKind.i64.wrap t.req = t.req := by rw [IntKind.wrap_i64]; omega
      have hw3 : IntKind.i64.wrap t.tick = t.tick := by rw [IntKind.wrap_i64]; omega
      obtain ⟨T1, a1, E1⟩ := add_str [111, 107] (Sc.numsText [t.req, t.tick]) (by
        have := numsText_le [t.req, t.tick] (by intro v hv; simp at hv; rcases hv with rfl | rfl <;> omega)
        simp only [List.length_cons, List.length_nil] at this ⊢; omega)
      obtain ⟨T2, a2, E2⟩ := add_str ([111, 107] ++ Sc.numsText [t.req, t.tick]) [10] (by
        have := numsText_le [t.req, t.tick] (by intro v hv; simp at hv; rcases hv with rfl | rfl <;> omega)
        simp only [List.length_append, List.length_cons, List.length_nil] at this ⊢; omega)
      rw [← E1] at a2
      rw [← HHD.out] at E2
      have HN : Hid (Calls Tryd.prog 40 #[.slice (some ⟨w3.heap.size, 0, none⟩) 2 2] (w3.alloc (.cells #[.int .i64 t.req, .int .i64 t.tick] 3)) fun e w' => e = .returned (.string ⟨(Sc.numsText [t.req, t.tick]).toArray⟩) ∧ Below (w3.alloc (.cells #[.int .i64 t.req, .int .i64 t.tick] 3)).heap.size (w3.alloc (.cells #[.int .i64 t.req, .int .i64 t.tick] 3)) w') :=
        Lib.hid (refNumbers_any [t.req, t.tick] _ 2 _ (by simp) (cells_new w3 _ _ _ rfl) (by intro v hv; simp at hv; rcases hv with rfl | rfl <;> omega))
      generalize (⟨(Sc.numsText [t.req, t.tick]).toArray⟩ : ByteArray) = S1 at HN a1
      clear E1
      go_wp2_with fail
      refine HN.out.mono ?_
      rintro e w4 ⟨rfl, hb4⟩
      have hbw := hal.trans (hb4.mono hal.size)
      have HTL := Lib.hid (blk_next hbw HT.out)
      have HBL := Lib.hid (HB.out.trans (hbw.mono HB.out.size))
      clear hal hb4 hbw HN
      obtain ⟨tc0, tc1, tc2, tc3⟩ : _ ∧ _ ∧ _ ∧ _ := ⟨blk_cells HTL.out 0, blk_cells HTL.out 1, blk_cells HTL.out 2, (blk_cells HTL.out 3).trans rfl⟩
      clear tc0 tc1 tc2 HT HX HB
      go_wp2_with fail
      clear tc3
      go_loopw [5, 7, 33] (fun s _ i wr => ∃ k : Nat, k ≤ t.reps.length ∧ i = .int .i64 k ∧ s = .string ⟨(tellHead x t ++ (t.reps.take k).flatMap repLine).toArray⟩ ∧ Below w.heap.size w wr) (fun _ _ i _ => t.reps.length - (intOf i).toNat)
      case atStart => exact ⟨0, Nat.zero_le _, rfl, by simp, HBL.out⟩
      case round =>
        obtain ⟨k, hk, rfl, rfl, hb⟩ := hrel
        have HBk := Lib.hid hb
        by_cases hlt : k < t.reps.length
        · have hr1 : t.reps[k]? = some t.reps[k] := List.getElem?_eq_getElem hlt
          have HS : Hid (tellHead x t ++ (t.reps.take (k + 1)).flatMap repLine = (tellHead x t ++ (t.reps.take k).flatMap repLine) ++ repLine t.reps[k]) := Lib.hid (by
            rw [List.take_succ_eq_append_getElem hlt, List.flatMap_append]; simp)
          have hlen := HLEN.out k
          obtain ⟨hby, hby'⟩ := HBY.out _ (List.getElem_mem hlt)
          obtain ⟨g, off, B', bc', rfl, hgl, e0, e1, hcb, u1, u2⟩ := HR.out.at_ hb hr1
          generalize t.reps[k] = r at HS hby hby' e0 e1 hcb u1 u2
          generalize tellHead x t ++ (t.reps.take k).flatMap repLine = out at HS hlen ⊢
          have hba := below_box wr (.cells #[.int .u32 r.req, .slice B' r.bytes.length bc'] 51)
          have HX1 := Lib.hid (heap_alloc_new wr (.cells #[.int .u32 r.req, .slice B' r.bytes.length bc'] 51))
          have HB1 := Lib.hid (HBk.out.trans (hba.mono HBk.out.size))
          have HCB := Lib.hid (hcb.next HB1.out (Nat.le_refl _))
          have HRL := Lib.hid (repLine_len r hby hby')
          clear hba hr1 hb hcb hby' HBk
          go_upto_region 10 with (fail)
          generalize wr.alloc (.cells #[.int .u32 r.req, .slice B' r.bytes.length bc'] 51) = wa at HX1 HB1 HCB ⊢
          generalize hrb : wr.heap.size = rb at HX1 ⊢
          have f0 := (blk_cells HX1.out 0).trans rfl
          have f1 := (blk_cells HX1.out 1).trans rfl
          have HSIZE : Hid ((⟨r.bytes.toArray⟩ : ByteArray).size ≤ 1073741824) := Lib.hid (by rw [Lib.size_eq]; simp only; omega)
          have hrl : rb < wa.heap.size := (Array.getElem?_eq_some_iff.1 HX1.out).1
          have HSW : Hid (∀ w', Below wa.heap.size wa w' → (w'.cell? ⟨rb, 0, none⟩ = some (.int .u32 r.req) ∧ w'.cell? ⟨rb, 1, none⟩ = some (.slice B' r.bytes.length bc') ∧ (convert 43 9 (.slice B' r.bytes.length bc')).run Tryd.prog w' = .ok (.string ⟨r.bytes.toArray⟩) w' ∧ Hid (Below wa.heap.size wa w'))) :=
            Lib.hid (fun w' h => ⟨(h.cell (p := ⟨rb, 0, none⟩) hrl).trans f0, (h.cell (p := ⟨rb, 1, none⟩) hrl).trans f1, conv_bytes (HCB.out.next h (Nat.le_refl _)) bc', Lib.hid h⟩)
          have hwr : IntKind.i64.wrap r.req = r.req := by rw [IntKind.wrap_i64]; omega
          have HC1 : Hid (∀ W, Calls Tryd.prog 39 #[.int .i64 r.req] W fun e w' => e = .returned (.string ⟨(Lib.itoa r.req).toArray⟩) ∧ w' = W) := Lib.hid (fun W => number_any r.req (by omega) (by omega) W)
          have HC2 : Hid (∀ W, Calls Tryd.prog 41 #[.string ⟨r.bytes.toArray⟩] W fun e w' => e = .returned (.string ⟨(refQuote r.bytes).toArray⟩) ∧ Below W.heap.size W w') := Lib.hid (fun W => refQuote_any _ W HSIZE.out)
          have hI : (repLine r).length = 6 + (Lib.itoa r.req).length + 1 + (refQuote r.bytes).length + 1 := by
            rw [repLine_ref]
            simp only [List.length_append, List.length_cons, List.length_nil]
          have hrl2 := HRL.out
          obtain ⟨T1, a1, E1⟩ := add_str [114, 101, 112, 108, 121, 32] (Lib.itoa r.req) (by simp only [List.length_cons, List.length_nil]; omega)
          obtain ⟨T2, a2, E2⟩ := add_str ([114, 101, 112, 108, 121, 32] ++ Lib.itoa r.req) [32] (by simp only [List.length_append, List.length_cons, List.length_nil]; omega)
          obtain ⟨T3, a3, E3⟩ := add_str ([114, 101, 112, 108, 121, 32] ++ Lib.itoa r.req ++ [32]) (refQuote r.bytes) (by simp only [List.length_append, List.length_cons, List.length_nil]; omega)
          obtain ⟨T4, a4, E4⟩ := add_str ([114, 101, 112, 108, 121, 32] ++ Lib.itoa r.req ++ [32] ++ refQuote r.bytes) [10] (by simp only [List.length_append, List.length_cons, List.length_nil]; omega)
          obtain ⟨T5, a5, E5⟩ := add_str out ([114, 101, 112, 108, 121, 32] ++ Lib.itoa r.req ++ [32] ++ refQuote r.bytes ++ [10]) (by simp only [List.length_append, List.length_cons, List.length_nil]; omega)
          rw [← E1] at a2
          rw [← E2] at a3
          rw [← E3] at a4
          rw [← E4] at a5
          generalize (⟨(Lib.itoa r.req).toArray⟩ : ByteArray) = S1 at HC1 a1
          generalize (⟨(refQuote r.bytes).toArray⟩ : ByteArray) = S2 at HC2 a3
          have HE5 := Lib.hid E5
          clear e0 e1 f0 f1 hrl hI hrl2 E1 E2 E3 E4 E5 u1 u2 hlen hby
          generalize (⟨out.toArray⟩ : ByteArray) = SO at a5 ⊢
          go_region_held3 (fun w' => w'.cell? ⟨rb, 0, none⟩ = some (.int .u32 r.req) ∧ w'.cell? ⟨rb, 1, none⟩ = some (.slice B' r.bytes.length bc') ∧ (convert 43 9 (.slice B' r.bytes.length bc')).run Tryd.prog w' = .ok (.string ⟨r.bytes.toArray⟩) w' ∧ Hid (Below wa.heap.size wa w')) (first
            | assumption
            | exact HSW.out _ (below_drewN (Below.refl _ _) 1)
            | (obtain ⟨_, _, _, hbl⟩ := ‹_ ∧ _ ∧ _ ∧ Hid _›; exact HSW.out _ (hbl.out.trans (hb3.mono hbl.out.size)))) (first
            | (go_at_call 39; refine (HC1.out _).mono ?_; rintro e w2 ⟨rfl, rfl⟩)
            | (go_at_call 41; refine (HC2.out _).mono ?_; rintro e w3 ⟨rfl, hb3⟩))
          all_goals
            obtain ⟨_, _, _, hbl⟩ := ‹_ ∧ _ ∧ _ ∧ Hid _›
            have HBn := Lib.hid (HB1.out.trans (hbl.out.mono HB1.out.size))
            clear hbl
            go_wp2_with fail
            go_roundw
            case rel => exact ⟨k + 1, by omega, by go_num, by rw [HE5.out, HS.out, repLine_ref], HBn.out⟩
            case measure => simp [intOf]; omega
        · have HF : Hid (tellHead x t ++ (t.reps.take k).flatMap repLine = tellOf x t) := Lib.hid (by
            rw [List.take_of_length_le (by omega)]; rfl)
          clear hb
          go_wp2_with fail
          rw [HF.out]
          go_ret
          exact ⟨rfl, by rw [hxb]; exact hxb ▸ HBk.out⟩
    · have kb : (x.kind == 1) = false := beq_eq_false_iff_ne.2 hk1
      have HHD : Hid (tellHead x t = [111, 107] ++ [10]) := Lib.hid (by unfold tellHead; rw [if_neg (by simp [he0]), if_neg hk1])
      clear he0 hk1
      have HTL := HT
      have HBL := HB
      obtain ⟨tc0, tc1, tc2, tc3⟩ : _ ∧ _ ∧ _ ∧ _ := ⟨blk_cells HTL.out 0, blk_cells HTL.out 1, blk_cells HTL.out 2, (blk_cells HTL.out 3).trans rfl⟩
      clear tc0 tc1 tc2
      go_wp2_with fail
      clear tc3
      rw [app_str _ [10], ← HHD.out]
      go_loopw [5, 7, 33] (fun s _ i wr => ∃ k : Nat, k ≤ t.reps.length ∧ i = .int .i64 k ∧ s = .string ⟨(tellHead x t ++ (t.reps.take k).flatMap repLine).toArray⟩ ∧ Below w.heap.size w wr) (fun _ _ i _ => t.reps.length - (intOf i).toNat)
      case atStart => exact ⟨0, Nat.zero_le _, rfl, by simp, HBL.out⟩
      case round =>
        obtain ⟨k, hk, rfl, rfl, hb⟩ := hrel
        have HBk := Lib.hid hb
        by_cases hlt : k < t.reps.length
        · have hr1 : t.reps[k]? = some t.reps[k] := List.getElem?_eq_getElem hlt
          have HS : Hid (tellHead x t ++ (t.reps.take (k + 1)).flatMap repLine = (tellHead x t ++ (t.reps.take k).flatMap repLine) ++ repLine t.reps[k]) := Lib.hid (by
            rw [List.take_succ_eq_append_getElem hlt, List.flatMap_append]; simp)
          have hlen := HLEN.out k
          obtain ⟨hby, hby'⟩ := HBY.out _ (List.getElem_mem hlt)
          obtain ⟨g, off, B', bc', rfl, hgl, e0, e1, hcb, u1, u2⟩ := HR.out.at_ hb hr1
          generalize t.reps[k] = r at HS hby hby' e0 e1 hcb u1 u2
          generalize tellHead x t ++ (t.reps.take k).flatMap repLine = out at HS hlen ⊢
          have hba := below_box wr (.cells #[.int .u32 r.req, .slice B' r.bytes.length bc'] 51)
          have HX1 := Lib.hid (heap_alloc_new wr (.cells #[.int .u32 r.req, .slice B' r.bytes.length bc'] 51))
          have HB1 := Lib.hid (HBk.out.trans (hba.mono HBk.out.size))
          have HCB := Lib.hid (hcb.next HB1.out (Nat.le_refl _))
          have HRL := Lib.hid (repLine_len r hby hby')
          clear hba hr1 hb hcb hby' HBk
          go_upto_region 10 with (fail)
          generalize wr.alloc (.cells #[.int .u32 r.req, .slice B' r.bytes.length bc'] 51) = wa at HX1 HB1 HCB ⊢
          generalize hrb : wr.heap.size = rb at HX1 ⊢
          have f0 := (blk_cells HX1.out 0).trans rfl
          have f1 := (blk_cells HX1.out 1).trans rfl
          have HSIZE : Hid ((⟨r.bytes.toArray⟩ : ByteArray).size ≤ 1073741824) := Lib.hid (by rw [Lib.size_eq]; simp only; omega)
          have hrl : rb < wa.heap.size := (Array.getElem?_eq_some_iff.1 HX1.out).1
          have HSW : Hid (∀ w', Below wa.heap.size wa w' → (w'.cell? ⟨rb, 0, none⟩ = some (.int .u32 r.req) ∧ w'.cell? ⟨rb, 1, none⟩ = some (.slice B' r.bytes.length bc') ∧ (convert 43 9 (.slice B' r.bytes.length bc')).run Tryd.prog w' = .ok (.string ⟨r.bytes.toArray⟩) w' ∧ Hid (Below wa.heap.size wa w'))) :=
            Lib.hid (fun w' h => ⟨(h.cell (p := ⟨rb, 0, none⟩) hrl).trans f0, (h.cell (p := ⟨rb, 1, none⟩) hrl).trans f1, conv_bytes (HCB.out.next h (Nat.le_refl _)) bc', Lib.hid h⟩)
          have hwr : IntKind.i64.wrap r.req = r.req := by rw [IntKind.wrap_i64]; omega
          have HC1 : Hid (∀ W, Calls Tryd.prog 39 #[.int .i64 r.req] W fun e w' => e = .returned (.string ⟨(Lib.itoa r.req).toArray⟩) ∧ w' = W) := Lib.hid (fun W => number_any r.req (by omega) (by omega) W)
          have HC2 : Hid (∀ W, Calls Tryd.prog 41 #[.string ⟨r.bytes.toArray⟩] W fun e w' => e = .returned (.string ⟨(refQuote r.bytes).toArray⟩) ∧ Below W.heap.size W w') := Lib.hid (fun W => refQuote_any _ W HSIZE.out)
          have hI : (repLine r).length = 6 + (Lib.itoa r.req).length + 1 + (refQuote r.bytes).length + 1 := by
            rw [repLine_ref]
            simp only [List.length_append, List.length_cons, List.length_nil]
          have hrl2 := HRL.out
          obtain ⟨T1, a1, E1⟩ := add_str [114, 101, 112, 108, 121, 32] (Lib.itoa r.req) (by simp only [List.length_cons, List.length_nil]; omega)
          obtain ⟨T2, a2, E2⟩ := add_str ([114, 101, 112, 108, 121, 32] ++ Lib.itoa r.req) [32] (by simp only [List.length_append, List.length_cons, List.length_nil]; omega)
          obtain ⟨T3, a3, E3⟩ := add_str ([114, 101, 112, 108, 121, 32] ++ Lib.itoa r.req ++ [32]) (refQuote r.bytes) (by simp only [List.length_append, List.length_cons, List.length_nil]; omega)
          obtain ⟨T4, a4, E4⟩ := add_str ([114, 101, 112, 108, 121, 32] ++ Lib.itoa r.req ++ [32] ++ refQuote r.bytes) [10] (by simp only [List.length_append, List.length_cons, List.length_nil]; omega)
          obtain ⟨T5, a5, E5⟩ := add_str out ([114, 101, 112, 108, 121, 32] ++ Lib.itoa r.req ++ [32] ++ refQuote r.bytes ++ [10]) (by simp only [List.length_append, List.length_cons, List.length_nil]; omega)
          rw [← E1] at a2
          rw [← E2] at a3
          rw [← E3] at a4
          rw [← E4] at a5
          generalize (⟨(Lib.itoa r.req).toArray⟩ : ByteArray) = S1 at HC1 a1
          generalize (⟨(refQuote r.bytes).toArray⟩ : ByteArray) = S2 at HC2 a3
          have HE5 := Lib.hid E5
          clear e0 e1 f0 f1 hrl hI hrl2 E1 E2 E3 E4 E5 u1 u2 hlen hby
          generalize (⟨out.toArray⟩ : ByteArray) = SO at a5 ⊢
          go_region_held3 (fun w' => w'.cell? ⟨rb, 0, none⟩ = some (.int .u32 r.req) ∧ w'.cell? ⟨rb, 1, none⟩ = some (.slice B' r.bytes.length bc') ∧ (convert 43 9 (.slice B' r.bytes.length bc')).run Tryd.prog w' = .ok (.string ⟨r.bytes.toArray⟩) w' ∧ Hid (Below wa.heap.size wa w')) (first
            | assumption
            | exact HSW.out _ (below_drewN (Below.refl _ _) 1)
            | (obtain ⟨_, _, _, hbl⟩ := ‹_ ∧ _ ∧ _ ∧ Hid _›; exact HSW.out _ (hbl.out.trans (hb3.mono hbl.out.size)))) (first
            | (go_at_call 39; refine (HC1.out _).mono ?_; rintro e w2 ⟨rfl, rfl⟩)
            | (go_at_call 41; refine (HC2.out _).mono ?_; rintro e w3 ⟨rfl, hb3⟩))
          all_goals
            obtain ⟨_, _, _, hbl⟩ := ‹_ ∧ _ ∧ _ ∧ Hid _›
            have HBn := Lib.hid (HB1.out.trans (hbl.out.mono HB1.out.size))
            clear hbl
            go_wp2_with fail
            go_roundw
            case rel => exact ⟨k + 1, by omega, by go_num, by rw [HE5.out, HS.out, repLine_ref], HBn.out⟩
            case measure => simp [intOf]; omega
        · have HF : Hid (tellHead x t ++ (t.reps.take k).flatMap repLine = tellOf x t) := Lib.hid (by
            rw [List.take_of_length_le (by omega)]; rfl)
          clear hb
          go_wp2_with fail
          rw [HF.out]
          go_ret
          exact ⟨rfl, by rw [hxb]; exact hxb ▸ HBk.out⟩
  · have eb : (t.err != 0) = true := by rw [bne_iff_ne]; exact he0
    have HHD : Hid (tellHead x t = ([101, 114, 114, 32] ++ Lib.itoa t.err) ++ [10]) := Lib.hid (by unfold tellHead; rw [if_pos he0, Sc.numsText_cons]; simp [Sc.numsText])
    clear he0
    obtain ⟨T1, a1, E1⟩ := add_str [101, 114, 114, 32] (Lib.itoa t.err) (by
      have := Lib.itoa_length_le t.err (by omega) (by omega)
      simp only [List.length_cons, List.length_nil]; omega)
    obtain ⟨T2, a2, E2⟩ := add_str ([101, 114, 114, 32] ++ Lib.itoa t.err) [10] (by
      have := Lib.itoa_length_le t.err (by omega) (by omega)
      simp only [List.length_append, List.length_cons, List.length_nil]; omega)
    rw [← E1] at a2
    rw [← HHD.out] at E2
    have HN : Hid (∀ W, Calls Tryd.prog 39 #[.int .i64 t.err] W fun e w' => e = .returned (.string ⟨(Lib.itoa t.err).toArray⟩) ∧ w' = W) := Lib.hid (fun W => number_any t.err e1 e2 W)
    generalize (⟨(Lib.itoa t.err).toArray⟩ : ByteArray) = S1 at HN a1
    clear E1
    go_wp2_with fail
    refine (HN.out _).mono ?_
    rintro e w4 ⟨rfl, rfl⟩
    have HTL := HT
    have HBL := HB
    obtain ⟨tc0, tc1, tc2, tc3⟩ : _ ∧ _ ∧ _ ∧ _ := ⟨blk_cells HTL.out 0, blk_cells HTL.out 1, blk_cells HTL.out 2, (blk_cells HTL.out 3).trans rfl⟩
    clear tc0 tc1 tc2 HT HX HB
    go_wp2_with fail
    clear tc3
    go_loopw [5, 7, 33] (fun s _ i wr => ∃ k : Nat, k ≤ t.reps.length ∧ i = .int .i64 k ∧ s = .string ⟨(tellHead x t ++ (t.reps.take k).flatMap repLine).toArray⟩ ∧ Below w.heap.size w wr) (fun _ _ i _ => t.reps.length - (intOf i).toNat)
    case atStart => exact ⟨0, Nat.zero_le _, rfl, by simp, HBL.out⟩
    case round =>
      obtain ⟨k, hk, rfl, rfl, hb⟩ := hrel
      have HBk := Lib.hid hb
      by_cases hlt : k < t.reps.length
      · have hr1 : t.reps[k]? = some t.reps[k] := List.getElem?_eq_getElem hlt
        have HS : Hid (tellHead x t ++ (t.reps.take (k + 1)).flatMap repLine = (tellHead x t ++ (t.reps.take k).flatMap repLine) ++ repLine t.reps[k]) := Lib.hid (by
          rw [List.take_succ_eq_append_getElem hlt, List.flatMap_append]; simp)
        have hlen := HLEN.out k
        obtain ⟨hby, hby'⟩ := HBY.out _ (List.getElem_mem hlt)
        obtain ⟨g, off, B', bc', rfl, hgl, e0, e1, hcb, u1, u2⟩ := HR.out.at_ hb hr1
        generalize t.reps[k] = r at HS hby hby' e0 e1 hcb u1 u2
        generalize tellHead x t ++ (t.reps.take k).flatMap repLine = out at HS hlen ⊢
        have hba := below_box wr (.cells #[.int .u32 r.req, .slice B' r.bytes.length bc'] 51)
        have HX1 := Lib.hid (heap_alloc_new wr (.cells #[.int .u32 r.req, .slice B' r.bytes.length bc'] 51))
        have HB1 := Lib.hid (HBk.out.trans (hba.mono HBk.out.size))
        have HCB := Lib.hid (hcb.next HB1.out (Nat.le_refl _))
        have HRL := Lib.hid (repLine_len r hby hby')
        clear hba hr1 hb hcb hby' HBk
        go_upto_region 10 with (fail)
        generalize wr.alloc (.cells #[.int .u32 r.req, .slice B' r.bytes.length bc'] 51) = wa at HX1 HB1 HCB ⊢
        generalize hrb : wr.heap.size = rb at HX1 ⊢
        have f0 := (blk_cells HX1.out 0).trans rfl
        have f1 := (blk_cells HX1.out 1).trans rfl
        have HSIZE : Hid ((⟨r.bytes.toArray⟩ : ByteArray).size ≤ 1073741824) := Lib.hid (by rw [Lib.size_eq]; simp only; omega)
        have hrl : rb < wa.heap.size := (Array.getElem?_eq_some_iff.1 HX1.out).1
        have HSW : Hid (∀ w', Below wa.heap.size wa w' → (w'.cell? ⟨rb, 0, none⟩ = some (.int .u32 r.req) ∧ w'.cell? ⟨rb, 1, none⟩ = some (.slice B' r.bytes.length bc') ∧ (convert 43 9 (.slice B' r.bytes.length bc')).run Tryd.prog w' = .ok (.string ⟨r.bytes.toArray⟩) w' ∧ Hid (Below wa.heap.size wa w'))) :=
          Lib.hid (fun w' h => ⟨(h.cell (p := ⟨rb, 0, none⟩) hrl).trans f0, (h.cell (p := ⟨rb, 1, none⟩) hrl).trans f1, conv_bytes (HCB.out.next h (Nat.le_refl _)) bc', Lib.hid h⟩)
        have hwr : IntKind.i64.wrap r.req = r.req := by rw [IntKind.wrap_i64]; omega
        have HC1 : Hid (∀ W, Calls Tryd.prog 39 #[.int .i64 r.req] W fun e w' => e = .returned (.string ⟨(Lib.itoa r.req).toArray⟩) ∧ w' = W) := Lib.hid (fun W => number_any r.req (by omega) (by omega) W)
        have HC2 : Hid (∀ W, Calls Tryd.prog 41 #[.string ⟨r.bytes.toArray⟩] W fun e w' => e = .returned (.string ⟨(refQuote r.bytes).toArray⟩) ∧ Below W.heap.size W w') := Lib.hid (fun W => refQuote_any _ W HSIZE.out)
        have hI : (repLine r).length = 6 + (Lib.itoa r.req).length + 1 + (refQuote r.bytes).length + 1 := by
          rw [repLine_ref]
          simp only [List.length_append, List.length_cons, List.length_nil]
        have hrl2 := HRL.out
        obtain ⟨T1, a1, E1⟩ := add_str [114, 101, 112, 108, 121, 32] (Lib.itoa r.req) (by simp only [List.length_cons, List.length_nil]; omega)
        obtain ⟨T2, a2, E2⟩ := add_str ([114, 101, 112, 108, 121, 32] ++ Lib.itoa r.req) [32] (by simp only [List.length_append, List.length_cons, List.length_nil]; omega)
        obtain ⟨T3, a3, E3⟩ := add_str ([114, 101, 112, 108, 121, 32] ++ Lib.itoa r.req ++ [32]) (refQuote r.bytes) (by simp only [List.length_append, List.length_cons, List.length_nil]; omega)
        obtain ⟨T4, a4, E4⟩ := add_str ([114, 101, 112, 108, 121, 32] ++ Lib.itoa r.req ++ [32] ++ refQuote r.bytes) [10] (by simp only [List.length_append, List.length_cons, List.length_nil]; omega)
        obtain ⟨T5, a5, E5⟩ := add_str out ([114, 101, 112, 108, 121, 32] ++ Lib.itoa r.req ++ [32] ++ refQuote r.bytes ++ [10]) (by simp only [List.length_append, List.length_cons, List.length_nil]; omega)
        rw [← E1] at a2
        rw [← E2] at a3
        rw [← E3] at a4
        rw [← E4] at a5
        generalize (⟨(Lib.itoa r.req).toArray⟩ : ByteArray) = S1 at HC1 a1
        generalize (⟨(refQuote r.bytes).toArray⟩ : ByteArray) = S2 at HC2 a3
        have HE5 := Lib.hid E5
        clear e0 e1 f0 f1 hrl hI hrl2 E1 E2 E3 E4 E5 u1 u2 hlen hby
        generalize (⟨out.toArray⟩ : ByteArray) = SO at a5 ⊢
        go_region_held3 (fun w' => w'.cell? ⟨rb, 0, none⟩ = some (.int .u32 r.req) ∧ w'.cell? ⟨rb, 1, none⟩ = some (.slice B' r.bytes.length bc') ∧ (convert 43 9 (.slice B' r.bytes.length bc')).run Tryd.prog w' = .ok (.string ⟨r.bytes.toArray⟩) w' ∧ Hid (Below wa.heap.size wa w')) (first
          | assumption
          | exact HSW.out _ (below_drewN (Below.refl _ _) 1)
          | (obtain ⟨_, _, _, hbl⟩ := ‹_ ∧ _ ∧ _ ∧ Hid _›; exact HSW.out _ (hbl.out.trans (hb3.mono hbl.out.size)))) (first
          | (go_at_call 39; refine (HC1.out _).mono ?_; rintro e w2 ⟨rfl, rfl⟩)
          | (go_at_call 41; refine (HC2.out _).mono ?_; rintro e w3 ⟨rfl, hb3⟩))
        all_goals
          obtain ⟨_, _, _, hbl⟩ := ‹_ ∧ _ ∧ _ ∧ Hid _›
          have HBn := Lib.hid (HB1.out.trans (hbl.out.mono HB1.out.size))
          clear hbl
          go_wp2_with fail
          go_roundw
          case rel => exact ⟨k + 1, by omega, by go_num, by rw [HE5.out, HS.out, repLine_ref], HBn.out⟩
          case measure => simp [intOf]; omega
      · have HF : Hid (tellHead x t ++ (t.reps.take k).flatMap repLine = tellOf x t) := Lib.hid (by
          rw [List.take_of_length_le (by omega)]; rfl)
        clear hb
        go_wp2_with fail
        rw [HF.out]
        go_ret
        exact ⟨rfl, by rw [hxb]; exact hxb ▸ HBk.out⟩
end Go.Proofs.YthpojljfmipngaaDoor
