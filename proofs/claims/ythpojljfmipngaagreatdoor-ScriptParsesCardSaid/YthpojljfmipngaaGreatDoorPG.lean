/-
  THE WALK of the document's line. CONDITIONS: the script lies as ScrAt says; the line's length.
-/
import Derived.Test.YthpojljfmipngaaGreatDoorPLaw2
import Derived.Test.YthpojljfmipngaaGreatDoorWalkR
import Derived.Test.YthpojljfmipngaaGreatDoorTill
namespace Go.Proofs.YthpojljfmipngaaGreatDoor
open Go.RowKit
namespace Rf
theorem glue_len (l : List Sc.Bs) : l.length ≤ (glue l).length ∧ ∀ p ∈ l, p.length + 1 ≤ (glue l).length := by
  induction l with
  | nil => exact ⟨Nat.le_refl _, by simp⟩
  | cons a l ih =>
    rw [glue_cons]
    refine ⟨by simp; omega, fun p hp => ?_⟩
    rcases List.mem_cons.1 hp with rfl | hp
    · simp
    · have := ih.2 p hp; simp; omega
theorem parts_len (t : Sc.Bs) : (partsOf t).length ≤ t.length + 1 ∧ (∀ p ∈ partsOf t, p.length ≤ t.length) ∧ partsOf t ≠ [] := by
  have h := glue_len (partsOf t)
  rw [glue_parts, List.length_cons] at h
  refine ⟨h.1, fun p hp => by have := h.2 p hp; omega, fun e => ?_⟩
  have := glue_parts t
  rw [e] at this; cases this
end Rf
/-- What line leaves. -/
def LineOut (sb B : Nat) (s : Sc.Scr) (text : Sc.Bs) (n : Nat) (w : World) (e : Ending) (w' : World) : Prop :=
  e = .returned (.bool (Rf.lineR s text n).2) ∧ ((Rf.lineR s text n).2 = true → ∃ v' rs', ScrAt w' sb B (Rf.lineR s text n).1 v' rs') ∧ Below sb w w'
theorem LineOut.no {sb B : Nat} {s : Sc.Scr} {text : Sc.Bs} {n : Nat} {w w' : World} (h : (Rf.lineR s text n).2 = false) (hb : Below sb w w') : LineOut sb B s text n w (.returned (.bool false)) w' :=
  ⟨by rw [h], fun h' => by (rw [h] at h'; cases h'), hb⟩
theorem LineOut.yes {sb B : Nat} {s : Sc.Scr} {text : Sc.Bs} {n : Nat} {w w' : World} {s' : Sc.Scr} {b : Bool} {v : Value} {rs : List EvR} (h : Rf.lineR s text n = (s', b)) (hS : b = true → ScrAt w' sb B s' v rs) (hb : Below sb w w') : LineOut sb B s text n w (.returned (.bool b)) w' :=
  ⟨by rw [h], fun h' => by (rw [h] at h' ⊢; exact ⟨v, rs, hS h'⟩), hb⟩
theorem ScrAt.setup {w : World} {sb B : Nat} {s : Sc.Scr} {v : Value} {rs : List EvR} (h : ScrAt w sb B s v rs) (x y : Int) : ScrAt ((w.setCell ⟨sb, 0, none⟩ (.int .i64 x)).setCell ⟨sb, 1, none⟩ (.int .i64 y)) sb B ⟨x, y, s.events⟩ v rs ∧ But [sb] w ((w.setCell ⟨sb, 0, none⟩ (.int .i64 x)).setCell ⟨sb, 1, none⟩ (.int .i64 y)) := by
  have h1 := but_set (i := 0) (.int .i64 x) h.box
  have h2 := but_set (i := 1) (.int .i64 y) h1.2
  have hk := h1.1.trans h2.1
  refine ⟨⟨h.lt, h2.2, h.own.but hk (by intro j hj; simp at hj; subst hj; exact h.lt), h.evs, fun r hr => (h.each r hr).but hk (by intro j hj; simp at hj; subst hj; exact ⟨_, _, _, h.box, by decide, by decide⟩)⟩, hk⟩
set_option maxRecDepth 100000 in
set_option maxHeartbeats 8000000 in
theorem refLine20_any (sb B : Nat) (s : Sc.Scr) (v : Value) (rs : List EvR) (text : Sc.Bs) (n : Nat) (w : World) (hS : ScrAt w sb B s v rs) (hlen : text.length ≤ 60000) (hn : rs.length ≤ 300) :
    Calls Tryz.prog 20 #[.pointer (some ⟨sb, 0, none⟩), .string ⟨text.toArray⟩, .int .i64 n] w (LineOut sb B s text n w) := by
  obtain ⟨hpl, hpp, hpne⟩ := Rf.parts_len text
  have hcall := refParts_any ⟨text.toArray⟩ w (by rw [Lib.size_eq]; show text.length ≤ 1073741824; omega)
  simp only at hcall
  have HLR : Hid (∀ P, Rf.partsOf text = P → n < 1 → Rf.lineR s text n = ((if (Rf.allNum P.tail && decide (P.tail.length = 2) && decide (P.getD 0 [] = Sc.worldW)) then ⟨(Rf.vals P.tail).getD 0 0, (Rf.vals P.tail).getD 1 0, s.events⟩ else s), Rf.allNum P.tail && decide (P.tail.length = 2) && decide (P.getD 0 [] = Sc.worldW))) := Lib.hid (fun P hP hn => by
    unfold Rf.lineR Rf.headR; rw [if_pos hn, hP, List.drop_one])
  have HLE : Hid (∀ P, Rf.partsOf text = P → ¬ n < 1 → Rf.lineR s text n = (⟨s.servers, s.area, s.events ++ [(Rf.evR P).1]⟩, (Rf.evR P).2 && decide (s.events.length + 1 ≤ 300))) := Lib.hid (fun P hP hn => by
    unfold Rf.lineR; rw [if_neg hn, hP])
  obtain ⟨P, hP⟩ : ∃ P, Rf.partsOf text = P := ⟨_, rfl⟩
  have HLR := Lib.hid (HLR.out P hP)
  have HLE := Lib.hid (HLE.out P hP)
  rw [hP] at hcall hpl hpp hpne
  clear hP
  obtain ⟨p0, pt, rfl⟩ := List.exists_cons_of_ne_nil hpne
  have HCALL := Lib.hid hcall
  have HPP := Lib.hid hpp
  have HSS := Lib.hid hS
  have HN := Lib.hid hn
  have hsw := hS.cells.2.2.2.2
  clear hcall hpp hpne hS hn
  go_enter Tryz.func20, Tryz.ntmps20
  go_wp2_with fail
  refine HCALL.out.mono ?_
  rintro e w1 ⟨v1, rfl, hO, hb1⟩
  have HS1 := Lib.hid (HSS.out.next hb1)
  have HB1 : Hid (Below sb w w1) := Lib.hid (hb1.mono (Nat.le_of_lt hsw))
  have hcap : ∃ g cap, v1 = .slice (some ⟨g, 0, none⟩) (pt.length + 1) cap ∧ pt.length + 1 ≤ cap ∧ cap ≤ 9223372036854775807 ∧ CellsAt w1 (some ⟨g, 0, none⟩) ((p0 :: pt).map strV) := by
    rcases hO.own.2 with ⟨_, h1⟩ | ⟨g, cap, cur, rfl, _, hg, hnc, hcm, _, _⟩
    · cases h1
    · obtain ⟨A, c, he, hA⟩ := RowT.own hO
      injection he with e1 e2 e3
      subst e1
      exact ⟨g, cap, rfl, hnc, hcm, hA.cells⟩
  obtain ⟨g, cap, rfl, hnc, hcm, hA⟩ := hcap
  have HA := Lib.hid hA
  clear hO hb1 hA HCALL HSS
  have hpl2 : pt.length ≤ 60000 := by simp at hpl; omega
  clear hpl
  by_cases hn1 : n < 1
  · obtain rfl : n = 0 := by omega
    have HL : Hid (Rf.lineR s text 0 = ((if (Rf.allNum pt && decide (pt.length = 2) && decide (p0 = Sc.worldW)) then ⟨(Rf.vals pt).getD 0 0, (Rf.vals pt).getD 1 0, s.events⟩ else s), Rf.allNum pt && decide (pt.length = 2) && decide (p0 = Sc.worldW))) := Lib.hid (HLR.out hn1)
    clear HLR HLE hn1
    have e0 : ((0 : Nat) : Int) = 0 := rfl
    obtain ⟨m, hm⟩ : ∃ m, pt.length = m := ⟨_, rfl⟩
    have HM := Lib.hid hm
    rw [hm] at hnc hpl2 ⊢
    clear hm
    have q1 : (1 : Int) ≤ (m : Int) + 1 := by omega
    have q2 : (m : Int) + 1 - 1 = m := by omega
    have q3 : (m + 1 : Nat) - 1 = m := by omega
    have hci : ((m : Int) + 1) ≤ (cap : Int) := by omega
    have HCN : Hid (∀ (A' : Option Addr) (c' : Nat), (m ≠ 0 → A' = some ⟨g, 0 + 1, none⟩) → Calls Tryz.prog 35 #[.slice A' m c', .int .i64 2] w1 fun e w' => ∃ F fc vs, e = .returned (.tuple #[.slice F vs fc, .bool (Rf.allNum pt && decide (pt.length = 2))]) ∧ (Rf.allNum pt = true → vs = m ∧ CellsAt w' F (intCells (Rf.vals pt))) ∧ Below w1.heap.size w1 w') := Lib.hid (fun A' c' hA' => by
      have hcs : CellsAt w1 A' (pt.map strV) := by
        intro hne
        have h0 : m ≠ 0 := by intro h; rw [← HM.out] at h; exact hne (by rw [List.map_eq_nil_iff]; exact List.length_eq_zero_iff.1 h)
        obtain ⟨b, off, e1, hbl, hcell⟩ := HA.out (by simp)
        injection e1 with e1
        injection e1 with e1 e2 _
        subst e1
        subst e2
        refine ⟨_, _, hA' h0, hbl, fun i u hi => ?_⟩
        have := hcell (1 + i) u (by rw [List.map_cons, Nat.add_comm 1 i, List.getElem?_cons_succ]; exact hi)
        rw [← Nat.add_assoc] at this
        exact this
      have := refNums_any pt A' c' 2 w1 (by rw [HM.out]; omega) (by omega) hcs
      rw [HM.out] at this ⊢
      exact this)
    go_upto_region 3 with fail
    go_cut [7, 8, 9] (fun s7 s8 s9 wx => ∃ F fc vs c', s7 = .slice (some ⟨g, 0, none⟩) (m + 1 : Nat) c' ∧ s8 = .slice F vs fc ∧ s9 = .bool (Rf.allNum pt && decide (pt.length = 2)) ∧ (Rf.allNum pt = true → vs = m ∧ CellsAt wx F (intCells (Rf.vals pt))) ∧ Below w1.heap.size w1 wx)
    case first =>
      go_wp2_with fail
      all_goals
        refine (HCN.out _ _ (by first | exact fun _ => rfl | exact fun h => absurd (by omega) h)).mono ?_
        rintro e w4 ⟨F, fc, vs, rfl, hF, hb4⟩
        have HQ := Lib.hid hF
        have HB4 := Lib.hid hb4
        clear hF hb4
        go_wp2_with fail
        go_meet
        exact ⟨F, fc, vs, _, rfl, rfl, rfl, HQ.out, HB4.out⟩
    case rest =>
    obtain ⟨F, fc, vs, c', rfl, rfl, rfl, hF, hb4⟩ := hcut
    have HS4 := Lib.hid (HS1.out.next hb4)
    have HB4 : Hid (Below sb w wc) := Lib.hid (HB1.out.trans (hb4.mono (Nat.le_of_lt HS1.out.cells.2.2.2.2)))
    have hp0 : wc.cell? ⟨g, 0, none⟩ = some (.string ⟨p0.toArray⟩) := by
      obtain ⟨b, off, e1, hbl, hcell⟩ := HA.out (by simp)
      injection e1 with e1
      injection e1 with e1 e2 _
      subst e1
      subst e2
      exact (hb4.cell (p := ⟨_, 0, none⟩) hbl).trans (hcell 0 (strV p0) rfl)
    have HF := Lib.hid hF
    clear hF hb4 HCN HA HS1 HB1 q2 q3
    cases hok : (Rf.allNum pt && decide (pt.length = 2)) with
    | false =>
      rw [hok, Bool.false_and] at HL
      have HE := Lib.hid (congrArg Prod.snd HL.out)
      clear hok HF
      go_wp2_with fail
      go_ret
      exact LineOut.no HE.out HB4.out
    | true =>
      rw [hok, Bool.true_and] at HL
      rw [Bool.and_eq_true, decide_eq_true_eq] at hok
      obtain ⟨hvm, hF⟩ := HF.out hok.1
      have hm2 : m = 2 := by rw [← HM.out]; exact hok.2
      have hvl : (Rf.vals pt).length = 2 := by rw [vals_len]; exact hok.2
      clear hok HF
      subst hvm
      subst hm2
      obtain ⟨x, y, hxy⟩ := Sc.two_of hvl
      rw [hxy] at HL hF
      obtain ⟨fb, fo, rfl, hfl, hfc⟩ := hF (by simp [intCells])
      have f0 := hfc 0 (.int .i64 x) rfl
      have f1 := hfc 1 (.int .i64 y) rfl
      rw [Nat.add_zero] at f0
      simp only [List.getD_cons_zero, List.getD_cons_succ] at HL
      clear hxy hvl hfc
      by_cases hww : p0 = Sc.worldW
      · rw [decide_eq_true hww, if_pos rfl] at HL
        subst hww
        unfold Sc.worldW at hp0
        have h3 := HS4.out.setup x y
        have HS6 := Lib.hid h3.1
        have HB6 : Hid (Below sb w ((wc.setCell ⟨sb, 0, none⟩ (.int .i64 x)).setCell ⟨sb, 1, none⟩ (.int .i64 y))) := Lib.hid (HB4.out.trans (h3.2.to (Nat.le_of_lt HS4.out.cells.2.2.2.2) (by intro j hj; simp at hj; omega)))
        have HD : Hid (∀ W, ScrAt W sb B ⟨x, y, s.events⟩ v rs → Below sb w W → LineOut sb B s text 0 w (.returned (.bool true)) W) := Lib.hid (fun W h1 h2 => LineOut.yes HL.out (fun _ => h1) h2)
        have c0 := (blk_cells HS4.out.box 0).trans rfl
        have c1 := (blk_cells HS4.out.box 1).trans rfl
        have cf := fun i => blk_free HS4.out.box i
        have clt := HS4.out.cells.2.2.2.2
        clear h3 HS4 HB4
        go_upto_region 6 with fail
        go_region
        all_goals
          go_wp2_with fail
          go_ret
          exact HD.out _ (HS6.out.next (below_drewN (Below.refl _ _) 1)) (HB6.out.trans (Below.mono (below_drewN (Below.refl _ _) 1) (Nat.le_of_lt HS6.out.cells.2.2.2.2)))
      · rw [decide_eq_false hww] at HL
        have HE := Lib.hid (congrArg Prod.snd HL.out)
        unfold Sc.worldW at hww
        have hs2 : (p0 == [119, 111, 114, 108, 100]) = false := by rw [beq_eq_false_iff_ne]; exact hww
        clear f0 f1 hww
        go_wp2_with fail
        go_ret
        exact LineOut.no HE.out HB4.out
  · have hni : ((n : Int) == 0) = false := by rw [beq_eq_false_iff_ne]; omega
    have HL := Lib.hid (HLE.out hn1)
    clear HLR HLE hn1
    have hev := refEv_any (p0 :: pt) (some ⟨g, 0, none⟩) cap w1 (by simp) (by simp; omega) (by simpa using hnc) hcm (fun p hp => Nat.le_trans (HPP.out p hp) (by omega)) HA.out
    rw [List.length_cons] at hev
    have HEV := Lib.hid hev
    clear hev HPP HA hnc hcm
    generalize p0 :: pt = PP at HL HEV
    go_wp2_with fail
    refine HEV.out.mono ?_
    rintro e w2 ⟨x, K, A, kc, bc, rfl, hx, hb2⟩
    have HS2 := Lib.hid (HS1.out.next hb2)
    have HB2 : Hid (Below sb w w2) := Lib.hid (HB1.out.trans (hb2.mono (Nat.le_of_lt HS1.out.cells.2.2.2.2)))
    have HX : Hid ((Rf.evR PP).2 = true → x = (Rf.evR PP).1 ∧ EvT sb w2 x K A) := Lib.hid (fun h => ⟨(hx h).1, (hx h).2.mono (Nat.le_of_lt HS1.out.cells.2.2.2.2)⟩)
    clear hx hb2 HS1 HB1 HEV
    generalize (Rf.evR PP).2 = ok at HL HX
    generalize (Rf.evR PP).1 = xx at HL HX
    unfold evV
    go_upto_region 9 with fail
    have hb3 := below_box w2 (.cells #[.int .i64 x.kind, .int .i64 x.node, .int .i64 x.to, .int .i64 x.n, .int .i64 x.bit, .slice K x.keep.length kc, .slice A x.bytes.length bc] 39)
    have hx3 : EvBox (w2.alloc (.cells #[.int .i64 x.kind, .int .i64 x.node, .int .i64 x.to, .int .i64 x.n, .int .i64 x.bit, .slice K x.keep.length kc, .slice A x.bytes.length bc] 39)) w2.heap.size x K A kc bc := heap_alloc_new w2 _
    have HS3 : Hid (ScrAt (w2.alloc (.cells #[.int .i64 x.kind, .int .i64 x.node, .int .i64 x.to, .int .i64 x.n, .int .i64 x.bit, .slice K x.keep.length kc, .slice A x.bytes.length bc] 39)).drew sb B s v rs) := Lib.hid (HS2.out.next (hb3.trans (Below.mono (below_drewN (Below.refl _ _) 1) hb3.size)))
    have HB3 : Hid (Below sb w (w2.alloc (.cells #[.int .i64 x.kind, .int .i64 x.node, .int .i64 x.to, .int .i64 x.n, .int .i64 x.bit, .slice K x.keep.length kc, .slice A x.bytes.length bc] 39)).drew) := Lib.hid (HB2.out.trans ((hb3.trans (Below.mono (below_drewN (Below.refl _ _) 1) hb3.size)).mono (Nat.le_of_lt HS2.out.cells.2.2.2.2)))
    have HX3 : Hid (ok = true → x = xx ∧ EvT sb (w2.alloc (.cells #[.int .i64 x.kind, .int .i64 x.node, .int .i64 x.to, .int .i64 x.n, .int .i64 x.bit, .slice K x.keep.length kc, .slice A x.bytes.length bc] 39)).drew x K A) := Lib.hid (fun h => ⟨(HX.out h).1, (HX.out h).2.next (hb3.trans (Below.mono (below_drewN (Below.refl _ _) 1) hb3.size))⟩)
    have HBX3 : Hid (EvBox (w2.alloc (.cells #[.int .i64 x.kind, .int .i64 x.node, .int .i64 x.to, .int .i64 x.n, .int .i64 x.bit, .slice K x.keep.length kc, .slice A x.bytes.length bc] 39)).drew w2.heap.size x K A kc bc) := Lib.hid (hx3.next (below_drewN (Below.refl _ _) 1))
    have hown : ∀ k, v.ownBlock = some k → k ≠ w2.heap.size := fun k hk => by have := (HS2.out.own.lt k hk).2; omega
    have HOWN := Lib.hid hown
    have hxs : sb ≠ w2.heap.size := by have := HS2.out.cells.2.2.2.2; omega
    have HXS := Lib.hid hxs
    clear hb3 hx3 HS2 HB2 HX hown hxs
    refine wp_region_any (by kernel_rfl) ?_
    change wpAny _ _ _ _ _ _ _ (World.drew _)
    generalize (w2.alloc (.cells #[.int .i64 x.kind, .int .i64 x.node, .int .i64 x.to, .int .i64 x.n, .int .i64 x.bit, .slice K x.keep.length kc, .slice A x.bytes.length bc] 39)).drew = w4 at HS3 HB3 HX3 HBX3 ⊢
    generalize w2.heap.size = xb at HBX3 HOWN HXS ⊢
    have HSW : Hid (∀ W, EvBox W xb x K A kc bc → W.heap[sb]? = some (.cells #[.int .i64 s.servers, .int .i64 s.area, v] 30 (0, 0)) → EvBox W xb x K A kc bc ∧ W.cell? ⟨sb, 2, none⟩ = some v) := Lib.hid (fun W h1 h2 => ⟨h1, (blk_cells h2 2).trans rfl⟩)
    refine wpAny_of_till (S := fun W => EvBox W xb x K A kc bc ∧ W.cell? ⟨sb, 2, none⟩ = some v) (st := fun l => l.getD 10 false) _ _ _ _ ?_
    change wpTill _ _ _ _ _ _ _ #[false, false, false, false, false, false, false, false, false, false, false] _ _
    refine wpTill_take (i := 0) (v := ?vaA0) rfl (by kernel_rfl) (by kernel_rfl) (by kernel_rfl) (show Shutd _ _ #[false, false, false, false, false, false, false, false, false, false, false] from Shutd.start 11) (fun l h h9 => (Shutd.step h (j := 8) (k := 0) (by kernel_rfl) (Shutd.step h (j := 9) (k := 8) (by kernel_rfl) (Shutd.step h (j := 10) (k := 9) (by kernel_rfl) h9)))) (fun l => getD_set_ne false (by decide)) (fun _ _ _ h => h) (Or.inl ⟨by rfl, ?yaA0⟩) (HSW.out _ HBX3.out HS3.out.box) (fun hshA0 => ?_)
    case yaA0 => (intro w hS; obtain ⟨hy, s6⟩ := hS; obtain ⟨y0, y1, y2, y3, y4, y5, y6⟩ := EvBox.cells hy; clear hy; go_simp; (try with_reducible rfl))
    simp only [Act.put, List.getElem_toArray, List.getElem_cons_zero, List.getElem_cons_succ, List.setIfInBounds_toArray, List.set_cons_zero, List.set_cons_succ] at hshA0 ⊢
    refine wpTill_take (i := 1) (v := ?vaA1) rfl (by kernel_rfl) (by kernel_rfl) (by kernel_rfl) hshA0 (fun l h h9 => (Shutd.step h (j := 2) (k := 1) (by kernel_rfl) (Shutd.step h (j := 3) (k := 2) (by kernel_rfl) (Shutd.step h (j := 4) (k := 3) (by kernel_rfl) (Shutd.step h (j := 7) (k := 4) (by kernel_rfl) (Shutd.step h (j := 10) (k := 7) (by kernel_rfl) h9)))))) (fun l => getD_set_ne false (by decide)) (fun _ _ _ h => h) (Or.inl ⟨by rfl, ?yaA1⟩) (HSW.out _ HBX3.out HS3.out.box) (fun hshA1 => ?_)
    case yaA1 => (intro w hS; obtain ⟨hy, s6⟩ := hS; obtain ⟨y0, y1, y2, y3, y4, y5, y6⟩ := EvBox.cells hy; clear hy; go_simp; (try with_reducible rfl))
    simp only [Act.put, List.getElem_toArray, List.getElem_cons_zero, List.getElem_cons_succ, List.setIfInBounds_toArray, List.set_cons_zero, List.set_cons_succ] at hshA1 ⊢
    refine wpTill_take (i := 2) (v := ?vaA2) rfl (by kernel_rfl) (by kernel_rfl) (by kernel_rfl) hshA1 (fun l h h9 => (Shutd.step h (j := 3) (k := 2) (by kernel_rfl) (Shutd.step h (j := 4) (k := 3) (by kernel_rfl) (Shutd.step h (j := 7) (k := 4) (by kernel_rfl) (Shutd.step h (j := 10) (k := 7) (by kernel_rfl) h9))))) (fun l => getD_set_ne false (by decide)) (fun _ _ _ h => h) (Or.inl ⟨by rfl, ?yaA2⟩) (HSW.out _ HBX3.out HS3.out.box) (fun hshA2 => ?_)
    case yaA2 => (intro w hS; obtain ⟨hy, s6⟩ := hS; obtain ⟨y0, y1, y2, y3, y4, y5, y6⟩ := EvBox.cells hy; clear hy; go_simp; (try with_reducible rfl))
    simp only [Act.put, List.getElem_toArray, List.getElem_cons_zero, List.getElem_cons_succ, List.setIfInBounds_toArray, List.set_cons_zero, List.set_cons_succ] at hshA2 ⊢
    refine wpTill_take (i := 3) (v := ?vaA3) rfl (by kernel_rfl) (by kernel_rfl) (by kernel_rfl) hshA2 (fun l h h9 => (Shutd.step h (j := 4) (k := 3) (by kernel_rfl) (Shutd.step h (j := 7) (k := 4) (by kernel_rfl) (Shutd.step h (j := 10) (k := 7) (by kernel_rfl) h9)))) (fun l => getD_set_ne false (by decide)) (fun _ _ _ h => h) (Or.inl ⟨by rfl, ?yaA3⟩) (HSW.out _ HBX3.out HS3.out.box) (fun hshA3 => ?_)
    case yaA3 => (intro w hS; obtain ⟨hy, s6⟩ := hS; obtain ⟨y0, y1, y2, y3, y4, y5, y6⟩ := EvBox.cells hy; clear hy; go_simp; (try with_reducible rfl))
    simp only [Act.put, List.getElem_toArray, List.getElem_cons_zero, List.getElem_cons_succ, List.setIfInBounds_toArray, List.set_cons_zero, List.set_cons_succ] at hshA3 ⊢
    refine wpTill_take (i := 4) (v := ?vaA4) rfl (by kernel_rfl) (by kernel_rfl) (by kernel_rfl) hshA3 (fun l h h9 => (Shutd.step h (j := 7) (k := 4) (by kernel_rfl) (Shutd.step h (j := 10) (k := 7) (by kernel_rfl) h9))) (fun l => getD_set_ne false (by decide)) (fun _ _ _ h => h) (Or.inl ⟨by rfl, ?yaA4⟩) (HSW.out _ HBX3.out HS3.out.box) (fun hshA4 => ?_)
    case yaA4 => (intro w hS; obtain ⟨hy, s6⟩ := hS; obtain ⟨y0, y1, y2, y3, y4, y5, y6⟩ := EvBox.cells hy; clear hy; go_simp; (try with_reducible rfl))
    simp only [Act.put, List.getElem_toArray, List.getElem_cons_zero, List.getElem_cons_succ, List.setIfInBounds_toArray, List.set_cons_zero, List.set_cons_succ] at hshA4 ⊢
    refine wpTill_take (i := 5) (v := ?vaA5) rfl (by kernel_rfl) (by kernel_rfl) (by kernel_rfl) hshA4 (fun l h h9 => (Shutd.step h (j := 6) (k := 5) (by kernel_rfl) (Shutd.step h (j := 7) (k := 6) (by kernel_rfl) (Shutd.step h (j := 10) (k := 7) (by kernel_rfl) h9)))) (fun l => getD_set_ne false (by decide)) (fun _ _ _ h => h) (Or.inl ⟨by rfl, ?yaA5⟩) (HSW.out _ HBX3.out HS3.out.box) (fun hshA5 => ?_)
    case yaA5 => (intro w hS; obtain ⟨hy, s6⟩ := hS; obtain ⟨y0, y1, y2, y3, y4, y5, y6⟩ := EvBox.cells hy; clear hy; go_simp; (try with_reducible rfl))
    simp only [Act.put, List.getElem_toArray, List.getElem_cons_zero, List.getElem_cons_succ, List.setIfInBounds_toArray, List.set_cons_zero, List.set_cons_succ] at hshA5 ⊢
    refine wpTill_ready (rs := [6]) (by kernel_rfl) (by simp) ?_
    refine (AllTill.cons rfl (fun KK hKK => ?_) AllTill.nil)
    rw [if_pos (by rfl)]
    go_simp
    refine hKK _ _ (fun _ => HSW.out _ (HBX3.out.next (below_box _ _)) (blk_next (below_box _ _) HS3.out.box)) ?_
    clear hKK KK
    simp only [Act.put, List.getElem_toArray, List.getElem_cons_zero, List.getElem_cons_succ, List.setIfInBounds_toArray, List.set_cons_zero, List.set_cons_succ]
    refine wpTill_ready (rs := [7]) (by kernel_rfl) (by simp) ?_
    refine (AllTill.cons rfl (fun KK hKK => ?_) AllTill.nil)
    rw [if_pos (by rfl)]
    refine wp_own_append _ _ 28 39 zeroEv 7 88 rfl Tryz.underlying28 info45 rfl (by decide) HS3.out.own rfl (EvR.row ⟨x, K, A, kc, bc⟩) 1 rfl rfl (by intro u hu; simp [EvR.row] at hu; rcases hu with rfl | rfl | rfl | rfl | rfl | rfl | rfl <;> rfl) rfl (by have := HN.out; unfold maxLen; omega) (by have := HN.out; omega) ?_
    intro v' w5 hO5 hb5 hg5
    obtain ⟨A9, c9, rfl⟩ := own_shape hO5
    have HG := Lib.hid (But.grown hg5)
    have HX5 := Lib.hid (HG.out.blk HS3.out.box (HS3.out.notOwn HS3.out.box (by decide)))
    have HBX5 : Hid (EvBox w5 xb x K A kc bc) := Lib.hid (HG.out.blk HBX3.out (by intro hm; cases hv : v.ownBlock with | none => rw [hv] at hm; simp at hm | some k => rw [hv] at hm; simp at hm; exact HOWN.out k hv hm.symm))
    have HO5 := Lib.hid hO5
    have hst := but_set (i := 2) (.slice A9 (rs.length + 1) c9) HX5.out
    have x2 := (blk_cells HX5.out 2).trans rfl
    have xf := blk_free HX5.out 2
    have xlt : sb < w5.heap.size := (Array.getElem?_eq_some_iff.1 HX5.out).1
    have HS6 : Hid (ok = true → ScrAt (w5.setCell ⟨sb, 2, none⟩ (.slice A9 (rs.length + 1) c9)) sb B ⟨s.servers, s.area, s.events ++ [xx]⟩ (.slice A9 (rs.length + 1) c9) (rs ++ [⟨x, K, A, kc, bc⟩])) := Lib.hid (fun h => by obtain ⟨hxe, hxt⟩ := HX3.out h; rw [← hxe]; exact HS3.out.push ⟨x, K, A, kc, bc⟩ hxt HG.out HO5.out)
    have HB6 : Hid (Below sb w (w5.setCell ⟨sb, 2, none⟩ (.slice A9 (rs.length + 1) c9))) := Lib.hid (HB3.out.trans ((hb5.mono (Nat.le_of_lt HS3.out.lt)).trans (hst.1.to (Nat.le_of_lt xlt) (by intro j hj; simp at hj; omega))))
    have HC6 := Lib.hid hst.2
    refine hKK _ _ (fun _ => HSW.out _ HBX5.out HX5.out) ?_
    clear hKK KK hO5 hb5 hg5 hst
    simp only [Act.put, List.getElem_toArray, List.getElem_cons_zero, List.getElem_cons_succ, List.setIfInBounds_toArray, List.set_cons_zero, List.set_cons_succ]
    refine wpTill_ready (rs := [8]) (by kernel_rfl) (by simp) ?_
    refine (AllTill.cons rfl (fun KK hKK => ?_) AllTill.nil)
    rw [if_pos (by rfl)]
    go_simp
    refine hKK _ _ (fun _ => HSW.out _ HBX5.out HX5.out) ?_
    clear hKK KK
    simp only [Act.put, List.getElem_toArray, List.getElem_cons_zero, List.getElem_cons_succ, List.setIfInBounds_toArray, List.set_cons_zero, List.set_cons_succ]
    refine wpTill_ready (rs := [9]) (by kernel_rfl) (by simp) ?_
    refine (AllTill.cons rfl (fun KK hKK => ?_) AllTill.nil)
    rw [if_pos (by rfl)]
    go_simp
    refine hKK _ _ (fun _ => HSW.out _ HBX5.out HX5.out) ?_
    clear hKK KK
    simp only [Act.put, List.getElem_toArray, List.getElem_cons_zero, List.getElem_cons_succ, List.setIfInBounds_toArray, List.set_cons_zero, List.set_cons_succ]
    refine wpTill_ready (rs := [10]) (by kernel_rfl) (by simp) ?_
    refine (AllTill.cons rfl (fun KK hKK => ?_) AllTill.nil)
    rw [if_pos (by rfl)]
    go_simp
    refine hKK _ _ (fun h => absurd h (by decide)) ?_
    clear hKK KK x2 xf xlt HSW
    simp only [Act.put, List.getElem_toArray, List.getElem_cons_zero, List.getElem_cons_succ, List.setIfInBounds_toArray, List.set_cons_zero, List.set_cons_succ]
    refine wpTill_done (by kernel_rfl) ?_ _
    generalize w5.setCell ⟨sb, 2, none⟩ (.slice A9 (rs.length + 1) c9) = w6 at HS6 HB6 HC6 ⊢
    have z2 := (blk_cells HC6.out 2).trans rfl
    have zlt : sb < w6.heap.size := (Array.getElem?_eq_some_iff.1 HC6.out).1
    have HEL : Hid (s.events.length = rs.length) := Lib.hid (by rw [HS3.out.evs, List.length_map])
    rw [HEL.out] at HL
    clear HX3 HBX3 HBX5 HO5 HG HX5 HC6 HOWN
    cases ok with
    | false =>
      rw [Bool.false_and] at HL
      have HE := Lib.hid (congrArg Prod.snd HL.out)
      go_wp2_with fail
      go_ret
      exact LineOut.no HE.out HB6.out
    | true =>
      rw [Bool.true_and] at HL
      by_cases h3 : rs.length + 1 ≤ 300
      · rw [decide_eq_true h3] at HL
        have h3i : (rs.length : Int) + 1 ≤ 300 := by omega
        go_wp2_with fail
        go_ret
        exact LineOut.yes HL.out (fun _ => HS6.out (by simp)) HB6.out
      · rw [decide_eq_false h3] at HL
        have h3i : ¬ (rs.length : Int) + 1 ≤ 300 := by omega
        have HE := Lib.hid (congrArg Prod.snd HL.out)
        go_wp2_with fail
        go_ret
        exact LineOut.no HE.out HB6.out
end Go.Proofs.YthpojljfmipngaaGreatDoor
