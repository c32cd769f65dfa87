/-
  Joined: WM WN. CONDITIONS: as each law says.
-/
import Derived.Test.YtimioelnnhnbiaaGreatDoorS07
import Derived.Defers
import Derived.Recover
namespace Go.Proofs.YtimioelnnhnbiaaGreatDoor
open Go.RowKit
theorem item_fine (s : Js.Bs) : ∀ (m : Nat) (a : List Js.J) (st : Js.St) (a' : List Js.J) (st' : Js.St), (Js.value s m st).bind (fun x st => .ok (a ++ [x]) st) = .ok a' st' → Fine s st ∧ a.length ≤ st.at_ → Fine s st' ∧ a'.length ≤ st'.at_ := by
 intro m a st a' st' h hF
 obtain ⟨x, st1, h1, h2⟩ := bind_ok h
 injection h2 with e1 e2
 subst e1 e2
 obtain ⟨f1, f2, f3⟩ := (steps s m).value _ _ _ h1 hF.1
 exact ⟨f1, by rw [List.length_append, List.length_singleton]; have := hF.2; omega⟩
theorem member_fine (s : Js.Bs) : ∀ (m : Nat) (a : List (Js.Bs × Js.J)) (st : Js.St) (a' : List (Js.Bs × Js.J)) (st' : Js.St), memberOne s m a st = .ok a' st' → Fine s st ∧ a.length ≤ st.at_ → Fine s st' ∧ a'.length ≤ st'.at_ := by
 intro m a st a' st' h hF
 unfold memberOne at h
 obtain ⟨nm, st1, h1, h2⟩ := bind_ok h
 obtain ⟨_, st2, h3, h4⟩ := bind_ok h2
 obtain ⟨x, st3, h5, h6⟩ := bind_ok h4
 injection h6 with e1 e2
 obtain ⟨b1, b2, b3⟩ := hF.1.blanks
 obtain ⟨t1, t2, t3, t4, t5⟩ := text_at h1
 have hF1 : Fine s st1 := by
  obtain ⟨c1, c2, c3, c4⟩ := b1
  exact ⟨t1, by omega, by omega, by omega⟩
 obtain ⟨d1, d2, d3⟩ := hF1.blanks
 obtain ⟨rfl, k1⟩ := take_ok h3
 have hF2 : Fine s { Js.step (Js.blanks s st1) with large := (Js.step (Js.blanks s st1)).large || a.any fun m => decide (m.1 = nm) } := by
  obtain ⟨c1, c2, c3, c4⟩ := d1
  exact ⟨k1, by show (Js.blanks s st1).deep ≤ (Js.blanks s st1).at_ + 1; omega, by show (Js.blanks s st1).nodes ≤ (Js.blanks s st1).at_ + 1; omega, by show (Js.blanks s st1).bytes ≤ (Js.blanks s st1).at_ + 1; omega⟩
 obtain ⟨f1, f2, f3⟩ := (steps s m).value _ _ _ h5 hF2
 have f3 : (Js.blanks s st1).at_ + 1 < st3.at_ := f3
 have hl : a'.length ≤ a.length + 1 := by rw [← e1]; split <;> simp
 rw [← e2]
 exact ⟨f1, by have := hF.2; omega⟩
theorem leaf_done {b N : Nat} {s : Js.Bs} {w w3 : World} {st3 : Js.St} {x : Js.J} {y0 y1 y2 y3 y4 y5 : Value} (hN : w.heap.size = N) (hlt : b < N) (hz : JBox w3 (N + 1) (.int .i64 0) (.bool false) (.int .i64 0) (.string ⟨#[]⟩) (.slice none 0 0) (.slice none 0 0)) (hr : RdAt w3 b s st3) (hw : But [b] w w3)
  (hj : JV w3 (fun g => N + 1 < g) x [y0, y1, y2, y3, y4, y5]) :
  VOut b s w (.ok x st3) (.returned (.agg #[y0, y1, y2, y3, y4, y5])) (set6 w3 (N + 1) y0 y1 y2 y3 y4 y5) := by
 have hst := (j25_set y0 y1 y2 y3 y4 y5 hz).1
 refine ⟨⟨_, rfl, (hj.but hst (by intro j hj; simp at hj; subst hj; exact Nat.lt_irrefl _)).wide (fun g hg _ => by rw [hN]; omega)⟩, hst.blk hr (by simp; omega), hw.on hst (by intro j hj; simp at hj; subst hj; right; omega)⟩
set_option maxRecDepth 100000 in
set_option maxHeartbeats 16000000 in
theorem inner_of_value (b : Nat) (s : Js.Bs) (hlen : s.length ≤ 1073741824) (n : Nat) (hv : ∀ m, m < n → ValueC b s m) : InnerC b s (n + 1) := by
 intro st w h hN hne
 have HV := Lib.hid hv
 have HNE := Lib.hid hne
 have HNN := Lib.hid hN
 have hat := hN.at_
 have hbw := h.lt
 have hbel1 := below_box w (.cells #[.pointer (some ⟨b, 0, none⟩)] 103)
 have HRB1 := heap_alloc_new w (.cells #[.pointer (some ⟨b, 0, none⟩)] 103)
 have hs1 : (w.alloc (.cells #[.pointer (some ⟨b, 0, none⟩)] 103)).heap.size = w.heap.size + 1 := by simp
 have hbel2 := below_box (w.alloc (.cells #[.pointer (some ⟨b, 0, none⟩)] 103)) (.cells #[.int .i64 0, .bool false, .int .i64 0, .string ⟨#[]⟩, .slice none 0 0, .slice none 0 0] 25)
 have HZ2 : JBox _ (w.alloc (.cells #[.pointer (some ⟨b, 0, none⟩)] 103)).heap.size _ _ _ _ _ _ := heap_alloc_new (w.alloc (.cells #[.pointer (some ⟨b, 0, none⟩)] 103)) (.cells #[.int .i64 0, .bool false, .int .i64 0, .string ⟨#[]⟩, .slice none 0 0, .slice none 0 0] 25)
 have hs2 : ((w.alloc (.cells #[.pointer (some ⟨b, 0, none⟩)] 103)).alloc (.cells #[.int .i64 0, .bool false, .int .i64 0, .string ⟨#[]⟩, .slice none 0 0, .slice none 0 0] 25)).heap.size = w.heap.size + 2 := by simp
 rw [hs1] at HZ2
 have HRB := Lib.hid (blk_next hbel2 HRB1)
 have HZ := Lib.hid HZ2
 have HR := Lib.hid ((h.next hbel1).next hbel2)
 have HW := Lib.hid ((But.of (S := [b]) hbel1).below hbel2 (by omega))
 have HSZ := Lib.hid hs2
 clear hv hne hN h hbel1 HRB1 hs1 hbel2 HZ2 hs2
 go_enter Tryz.func74, Tryz.ntmps74
 go_wp2_with fail
 generalize ((w.alloc (.cells #[.pointer (some ⟨b, 0, none⟩)] 103)).alloc (.cells #[.int .i64 0, .bool false, .int .i64 0, .string ⟨#[]⟩, .slice none 0 0, .slice none 0 0] 25)) = wA at HRB HZ HR HW HSZ ⊢
 obtain ⟨N, hN⟩ : ∃ N, w.heap.size = N := ⟨_, rfl⟩
 rw [hN] at HRB HZ HSZ hbw ⊢
 have HN := Lib.hid hN
 have r0 : wA.cell? ⟨N, 0, none⟩ = some (.pointer (some ⟨b, 0, none⟩)) := (blk_cells HRB.out 0).trans rfl
 clear hN
 obtain ⟨c, hp⟩ : ∃ c, Js.peek s st = c := ⟨_, rfl⟩
 have HP := Lib.hid hp
 clear hp
 refine (peek_at c HP.out HR.out hlen hat).mono ?_
 rintro e w1 ⟨rfl, n1, rfl⟩
 obtain ⟨w1, hw1⟩ : ∃ w1, wA.drewN n1 = w1 := ⟨_, rfl⟩
 have HRB1 : Hid (w1.heap[N]? = some (.cells #[.pointer (some ⟨b, 0, none⟩)] 103 (0, 0))) := Lib.hid (by rw [← hw1]; exact HRB.out)
 have HZ1 : Hid (JBox w1 (N + 1) (.int .i64 0) (.bool false) (.int .i64 0) (.string ⟨#[]⟩) (.slice none 0 0) (.slice none 0 0)) := Lib.hid (by rw [← hw1]; exact HZ.out)
 have HR1 : Hid (RdAt w1 b s st) := Lib.hid (by rw [← hw1]; exact HR.out.drewN n1)
 have HW1 : Hid (But [b] w w1) := Lib.hid (by rw [← hw1]; exact HW.out.drewN n1)
 have HSZ1 : Hid (w1.heap.size = N + 2) := Lib.hid (by rw [← hw1]; exact HSZ.out)
 rw [hw1]
 clear hw1 HRB HZ HR HW HSZ r0
 have r0 : w1.cell? ⟨N, 0, none⟩ = some (.pointer (some ⟨b, 0, none⟩)) := (blk_cells HRB1.out 0).trans rfl
 obtain ⟨z0, z1, z2, z3, z4, z5⟩ := HZ1.out.cells
 obtain ⟨g0, g1, g2, g3, g4, g5⟩ := HZ1.out.frees
 by_cases h110 : c = 110
 ·subst h110
  have HE : Hid (Js.inner s (n + 1) st = (Js.word s [110, 117, 108, 108] st).bind fun _ st => .ok (.mk 1 false 0 [] [] []) st) := Lib.hid (by unfold Js.inner; simp only [HP.out]; rfl)
  go_wp2_with fail
  refine (word_any [110, 117, 108, 108] (by decide) b s st _ HR1.out hlen hat).mono ?_
  intro e w3 ho
  obtain ⟨r, hr⟩ : ∃ r, Js.word s [110, 117, 108, 108] st = r := ⟨_, rfl⟩
  rw [hr] at ho HE
  clear hr
  cases r with
  | out => exact ho.elim
  | bad kb =>
   obtain ⟨rfl, hb3⟩ := ho
   have HE2 : Hid (Js.inner s (n + 1) st = .bad kb) := Lib.hid (by rw [HE.out]; rfl)
   have HB3 := Lib.hid (HW1.out.trans hb3)
   clear hb3
   unfold bad
   go_wp2_with fail
   exact vout_bad HE2.out rfl HB3.out
  | ok u st3 =>
   obtain ⟨rfl, hr3, hb3⟩ := ho
   have HE : Hid (Js.inner s (n + 1) st = .ok (.mk 1 false 0 [] [] []) st3) := Lib.hid (by rw [HE.out]; rfl)
   have HR3 := Lib.hid hr3
   have HW3 := Lib.hid (HW1.out.trans hb3)
   have HZ3 := Lib.hid (HZ1.out.but hb3 (by simp; omega))
   clear hr3 hb3 z0 z1 z2 z3 z4 z5 g0 g1 g2 g3 g4 g5 r0
   obtain ⟨z0, z1, z2, z3, z4, z5⟩ := HZ3.out.cells
   obtain ⟨g0, g1, g2, g3, g4, g5⟩ := HZ3.out.frees
   go_wp2_with fail
   have hst := j25_set (.int .i64 1) (.bool false) (.int .i64 0) (.string ⟨#[]⟩) (.slice none 0 0) (.slice none 0 0) HZ3.out
   unfold set6 at hst
   refine bodyPost_ret (results_row1 rfl _ _ _ (N + 1) #[.int .i64 1, .bool false, .int .i64 0, .string ⟨#[]⟩, .slice none 0 0, .slice none 0 0] rfl (j25_load hst.2)) rfl ?_
   rw [HE.out]
   exact leaf_done HN.out hbw HZ3.out HR3.out HW3.out (JV.leaf _ _ _ _ _ _)
 ·have q110 : ((c.toNat : Int) == 110) = false := (u8_ne h110).1
  by_cases h116 : c = 116
  ·subst h116
   have HE : Hid (Js.inner s (n + 1) st = (Js.word s [116, 114, 117, 101] st).bind fun _ st => .ok (.mk 2 true 0 [] [] []) st) := Lib.hid (by unfold Js.inner; simp only [HP.out]; rfl)
   go_wp2_with fail
   refine (word_any [116, 114, 117, 101] (by decide) b s st _ HR1.out hlen hat).mono ?_
   intro e w3 ho
   obtain ⟨r, hr⟩ : ∃ r, Js.word s [116, 114, 117, 101] st = r := ⟨_, rfl⟩
   rw [hr] at ho HE
   clear hr
   cases r with
   | out => exact ho.elim
   | bad kb =>
    obtain ⟨rfl, hb3⟩ := ho
    have HE2 : Hid (Js.inner s (n + 1) st = .bad kb) := Lib.hid (by rw [HE.out]; rfl)
    have HB3 := Lib.hid (HW1.out.trans hb3)
    clear hb3
    unfold bad
    go_wp2_with fail
    exact vout_bad HE2.out rfl HB3.out
   | ok u st3 =>
    obtain ⟨rfl, hr3, hb3⟩ := ho
    have HE : Hid (Js.inner s (n + 1) st = .ok (.mk 2 true 0 [] [] []) st3) := Lib.hid (by rw [HE.out]; rfl)
    have HR3 := Lib.hid hr3
    have HW3 := Lib.hid (HW1.out.trans hb3)
    have HZ3 := Lib.hid (HZ1.out.but hb3 (by simp; omega))
    clear hr3 hb3 z0 z1 z2 z3 z4 z5 g0 g1 g2 g3 g4 g5 r0
    obtain ⟨z0, z1, z2, z3, z4, z5⟩ := HZ3.out.cells
    obtain ⟨g0, g1, g2, g3, g4, g5⟩ := HZ3.out.frees
    go_wp2_with fail
    have hst := j25_set (.int .i64 2) (.bool true) (.int .i64 0) (.string ⟨#[]⟩) (.slice none 0 0) (.slice none 0 0) HZ3.out
    unfold set6 at hst
    refine bodyPost_ret (results_row1 rfl _ _ _ (N + 1) #[.int .i64 2, .bool true, .int .i64 0, .string ⟨#[]⟩, .slice none 0 0, .slice none 0 0] rfl (j25_load hst.2)) rfl ?_
    rw [HE.out]
    exact leaf_done HN.out hbw HZ3.out HR3.out HW3.out (JV.leaf _ _ _ _ _ _)
  ·have q116 : ((c.toNat : Int) == 116) = false := (u8_ne h116).1
   by_cases h102 : c = 102
   ·subst h102
    have HE : Hid (Js.inner s (n + 1) st = (Js.word s [102, 97, 108, 115, 101] st).bind fun _ st => .ok (.mk 2 false 0 [] [] []) st) := Lib.hid (by unfold Js.inner; simp only [HP.out]; rfl)
    go_wp2_with fail
    refine (word_any [102, 97, 108, 115, 101] (by decide) b s st _ HR1.out hlen hat).mono ?_
    intro e w3 ho
    obtain ⟨r, hr⟩ : ∃ r, Js.word s [102, 97, 108, 115, 101] st = r := ⟨_, rfl⟩
    rw [hr] at ho HE
    clear hr
    cases r with
    | out => exact ho.elim
    | bad kb =>
     obtain ⟨rfl, hb3⟩ := ho
     have HE2 : Hid (Js.inner s (n + 1) st = .bad kb) := Lib.hid (by rw [HE.out]; rfl)
     have HB3 := Lib.hid (HW1.out.trans hb3)
     clear hb3
     unfold bad
     go_wp2_with fail
     exact vout_bad HE2.out rfl HB3.out
    | ok u st3 =>
     obtain ⟨rfl, hr3, hb3⟩ := ho
     have HE : Hid (Js.inner s (n + 1) st = .ok (.mk 2 false 0 [] [] []) st3) := Lib.hid (by rw [HE.out]; rfl)
     have HR3 := Lib.hid hr3
     have HW3 := Lib.hid (HW1.out.trans hb3)
     have HZ3 := Lib.hid (HZ1.out.but hb3 (by simp; omega))
     clear hr3 hb3 z0 z1 z2 z3 z4 z5 g0 g1 g2 g3 g4 g5 r0
     obtain ⟨z0, z1, z2, z3, z4, z5⟩ := HZ3.out.cells
     obtain ⟨g0, g1, g2, g3, g4, g5⟩ := HZ3.out.frees
     go_wp2_with fail
     have hst := j25_set (.int .i64 2) (.bool false) (.int .i64 0) (.string ⟨#[]⟩) (.slice none 0 0) (.slice none 0 0) HZ3.out
     unfold set6 at hst
     refine bodyPost_ret (results_row1 rfl _ _ _ (N + 1) #[.int .i64 2, .bool false, .int .i64 0, .string ⟨#[]⟩, .slice none 0 0, .slice none 0 0] rfl (j25_load hst.2)) rfl ?_
     rw [HE.out]
     exact leaf_done HN.out hbw HZ3.out HR3.out HW3.out (JV.leaf _ _ _ _ _ _)
   ·have q102 : ((c.toNat : Int) == 102) = false := (u8_ne h102).1
    by_cases h34 : c = 34
    ·subst h34
     have HE : Hid (Js.inner s (n + 1) st = (Js.text s st).bind fun t st => .ok (.mk 4 false 0 t [] []) st) := Lib.hid (by unfold Js.inner; simp only [HP.out]; rfl)
     have hneT : Js.text s st ≠ .out := fun e0 => HNE.out (by rw [HE.out, e0]; rfl)
     have HNT := Lib.hid hneT
     have hb40 : st.bytes ≤ 1099511627776 := by have := HNN.out.bytes; omega
     clear hneT
     go_wp2_with fail
     refine (text_any b s st _ HR1.out hlen hat hb40 HNT.out).mono ?_
     intro e w3 ho
     obtain ⟨r, hr⟩ : ∃ r, Js.text s st = r := ⟨_, rfl⟩
     rw [hr] at ho HE
     clear hr hb40 HNT
     cases r with
     | out => exact ho.elim
     | bad kb =>
      obtain ⟨rfl, hb3⟩ := ho
      have HE2 : Hid (Js.inner s (n + 1) st = .bad kb) := Lib.hid (by rw [HE.out]; rfl)
      have HB3 := Lib.hid (HW1.out.trans hb3)
      clear hb3
      unfold bad
      go_wp2_with fail
      exact vout_bad HE2.out rfl HB3.out
     | ok t st3 =>
      obtain ⟨rfl, hr3, hb3⟩ := ho
      have HE : Hid (Js.inner s (n + 1) st = .ok (.mk 4 false 0 t [] []) st3) := Lib.hid (by rw [HE.out]; rfl)
      have HR3 := Lib.hid hr3
      have HW3 := Lib.hid (HW1.out.trans hb3)
      have HZ3 := Lib.hid (HZ1.out.but hb3 (by simp; omega))
      clear hr3 hb3 z0 z1 z2 z3 z4 z5 g0 g1 g2 g3 g4 g5 r0
      obtain ⟨z0, z1, z2, z3, z4, z5⟩ := HZ3.out.cells
      obtain ⟨g0, g1, g2, g3, g4, g5⟩ := HZ3.out.frees
      go_wp2_with fail
      have hst := j25_set (.int .i64 4) (.bool false) (.int .i64 0) (.string (str t)) (.slice none 0 0) (.slice none 0 0) HZ3.out
      unfold set6 at hst
      refine bodyPost_ret (results_row1 rfl _ _ _ (N + 1) #[.int .i64 4, .bool false, .int .i64 0, .string (str t), .slice none 0 0, .slice none 0 0] rfl (j25_load hst.2)) rfl ?_
      rw [HE.out]
      exact leaf_done HN.out hbw HZ3.out HR3.out HW3.out (JV.leaf _ _ _ _ _ _)
    ·have q34 : ((c.toNat : Int) == 34) = false := (u8_ne h34).1
     by_cases h45 : c = 45
     ·subst h45
      have HE : Hid (Js.inner s (n + 1) st = (Js.number s st).bind fun k st => .ok (.mk 3 false k [] [] []) st) := Lib.hid (by unfold Js.inner; simp only [HP.out]; rfl)
      go_wp2_with fail
      refine (number_any b s st _ HR1.out hlen hat).mono ?_
      intro e w3 ho
      obtain ⟨r, hr⟩ : ∃ r, Js.number s st = r := ⟨_, rfl⟩
      rw [hr] at ho HE
      clear hr
      cases r with
      | out => exact ho.elim
      | bad kb =>
       obtain ⟨rfl, hb3⟩ := ho
       have HE2 : Hid (Js.inner s (n + 1) st = .bad kb) := Lib.hid (by rw [HE.out]; rfl)
       have HB3 := Lib.hid (HW1.out.trans hb3)
       clear hb3
       unfold bad
       go_wp2_with fail
       exact vout_bad HE2.out rfl HB3.out
      | ok t st3 =>
       obtain ⟨rfl, hr3, hb3⟩ := ho
       have HE : Hid (Js.inner s (n + 1) st = .ok (.mk 3 false t [] [] []) st3) := Lib.hid (by rw [HE.out]; rfl)
       have HR3 := Lib.hid hr3
       have HW3 := Lib.hid (HW1.out.trans hb3)
       have HZ3 := Lib.hid (HZ1.out.but hb3 (by simp; omega))
       clear hr3 hb3 z0 z1 z2 z3 z4 z5 g0 g1 g2 g3 g4 g5 r0
       obtain ⟨z0, z1, z2, z3, z4, z5⟩ := HZ3.out.cells
       obtain ⟨g0, g1, g2, g3, g4, g5⟩ := HZ3.out.frees
       go_wp2_with fail
       have hst := j25_set (.int .i64 3) (.bool false) (.int .i64 t) (.string ⟨#[]⟩) (.slice none 0 0) (.slice none 0 0) HZ3.out
       unfold set6 at hst
       refine bodyPost_ret (results_row1 rfl _ _ _ (N + 1) #[.int .i64 3, .bool false, .int .i64 t, .string ⟨#[]⟩, .slice none 0 0, .slice none 0 0] rfl (j25_load hst.2)) rfl ?_
       rw [HE.out]
       exact leaf_done HN.out hbw HZ3.out HR3.out HW3.out (JV.leaf _ _ _ _ _ _)
     ·have q45 : ((c.toNat : Int) == 45) = false := (u8_ne h45).1
      by_cases hd : Js.isDig c = true
      ·obtain ⟨d1, d2⟩ := (isDig_iff c).1 hd
       have r1 : (48 : Int) ≤ c.toNat := by omega
       have r2 : (c.toNat : Int) ≤ 57 := by omega
       have HE : Hid (Js.inner s (n + 1) st = (Js.number s st).bind fun k st => .ok (.mk 3 false k [] [] []) st) := Lib.hid (by unfold Js.inner; simp only [HP.out]; rw [if_neg h110, if_neg h116, if_neg h102, if_neg h34, if_pos (Or.inr hd)])
       go_wp2_with fail
       refine (number_any b s st _ HR1.out hlen hat).mono ?_
       intro e w3 ho
       obtain ⟨r, hr⟩ : ∃ r, Js.number s st = r := ⟨_, rfl⟩
       rw [hr] at ho HE
       clear hr
       cases r with
       | out => exact ho.elim
       | bad kb =>
        obtain ⟨rfl, hb3⟩ := ho
        have HE2 : Hid (Js.inner s (n + 1) st = .bad kb) := Lib.hid (by rw [HE.out]; rfl)
        have HB3 := Lib.hid (HW1.out.trans hb3)
        clear hb3
        unfold bad
        go_wp2_with fail
        exact vout_bad HE2.out rfl HB3.out
       | ok t st3 =>
        obtain ⟨rfl, hr3, hb3⟩ := ho
        have HE : Hid (Js.inner s (n + 1) st = .ok (.mk 3 false t [] [] []) st3) := Lib.hid (by rw [HE.out]; rfl)
        have HR3 := Lib.hid hr3
        have HW3 := Lib.hid (HW1.out.trans hb3)
        have HZ3 := Lib.hid (HZ1.out.but hb3 (by simp; omega))
        clear hr3 hb3 z0 z1 z2 z3 z4 z5 g0 g1 g2 g3 g4 g5 r0
        obtain ⟨z0, z1, z2, z3, z4, z5⟩ := HZ3.out.cells
        obtain ⟨g0, g1, g2, g3, g4, g5⟩ := HZ3.out.frees
        go_wp2_with fail
        have hst := j25_set (.int .i64 3) (.bool false) (.int .i64 t) (.string ⟨#[]⟩) (.slice none 0 0) (.slice none 0 0) HZ3.out
        unfold set6 at hst
        refine bodyPost_ret (results_row1 rfl _ _ _ (N + 1) #[.int .i64 3, .bool false, .int .i64 t, .string ⟨#[]⟩, .slice none 0 0, .slice none 0 0] rfl (j25_load hst.2)) rfl ?_
        rw [HE.out]
        exact leaf_done HN.out hbw HZ3.out HR3.out HW3.out (JV.leaf _ _ _ _ _ _)
      ·have hd' : c.toNat < 48 ∨ 57 < c.toNat := by rw [isDig_iff] at hd; omega
       by_cases h91 : c = 91
       ·subst h91
        have hlt : st.at_ < s.length := (List.getElem?_eq_some_iff.1 (peek_some HP.out (by decide) hat)).1
        have HE : Hid (Js.inner s (n + 1) st = (listOf s 93 (Js.items s) n [] (Js.step st)).bind fun l st => .ok (.mk 5 false 0 [] l []) st) := Lib.hid (inner_list s n st HP.out)
        have hneL : listOf s 93 (Js.items s) n [] (Js.step st) ≠ .out := fun e0 => HNE.out (by rw [HE.out, e0]; rfl)
        have HNL := Lib.hid hneL
        have hFs : Fine s (Js.step st) := by
         obtain ⟨a1, a2, a3, a4⟩ := HNN.out
         exact ⟨hlt, a2, a3, Nat.le_succ_of_le a4⟩
        have HFS := Lib.hid hFs
        have hmf : ∀ (fn : Fn) (first cap : Array Value) (w : World), (Instr.makeFunc fn first cap).run Tryz.prog w = .ok (.func fn first cap) w := fun _ _ _ _ => rfl
        have k1 : w1.cell? ⟨b, 1, none⟩ = some (.int .i64 st.at_) := HR1.out.cells.2.1
        have f1 := HR1.out.free 1
        have hNl : N < w1.heap.size := (Array.getElem?_eq_some_iff.1 HRB1.out).1
        have hbl := HR1.out.lt
        have HX2 : Hid (∀ W, w1.setCell ⟨b, 1, none⟩ (.int .i64 ((st.at_ : Int) + 1)) = W → RdAt W b s (Js.step st) ∧ But [b] w W ∧ W.heap[N]? = some (.cells #[.pointer (some ⟨b, 0, none⟩)] 103 (0, 0)) ∧ JBox W (N + 1) (.int .i64 0) (.bool false) (.int .i64 0) (.string ⟨#[]⟩) (.slice none 0 0) (.slice none 0 0) ∧ W.heap.size = N + 2) := Lib.hid (by
         rintro W rfl
         have hb2 := HR1.out.but 1 (.int .i64 ((st.at_ : Int) + 1))
         exact ⟨HR1.out.step, HW1.out.trans hb2, hb2.blk HRB1.out (by simp; omega), HZ1.out.but hb2 (by simp; omega), by rw [← HSZ1.out]; simp⟩)
        have HSZe : w1.heap.size = N + 2 := HSZ1.out
        clear hneL hFs z0 z1 z2 z3 z4 z5 g0 g1 g2 g3 g4 g5
        go_wp2_with fail
        clear HSZe hmf
        obtain ⟨W, hW⟩ : ∃ W, w1.setCell ⟨b, 1, none⟩ (.int .i64 ((st.at_ : Int) + 1)) = W := ⟨_, rfl⟩
        obtain ⟨x1, x2, x3, x4, x5⟩ := HX2.out W hW
        rw [hW]
        have hal := below_box W (.cells #[.int .i64 5, .bool false, .int .i64 0, .string ⟨#[]⟩, .slice none 0 0, .slice none 0 0] 25)
        have hnb : JBox _ W.heap.size _ _ _ _ _ _ := heap_alloc_new W (.cells #[.int .i64 5, .bool false, .int .i64 0, .string ⟨#[]⟩, .slice none 0 0, .slice none 0 0] 25)
        have hsz : (W.alloc (.cells #[.int .i64 5, .bool false, .int .i64 0, .string ⟨#[]⟩, .slice none 0 0, .slice none 0 0] 25)).heap.size = N + 3 := by rw [show N + 3 = (N + 2) + 1 from rfl, ← x5]; simp
        rw [x5] at hnb
        have HI4 : Hid (ItI w b N [] (W.alloc (.cells #[.int .i64 5, .bool false, .int .i64 0, .string ⟨#[]⟩, .slice none 0 0, .slice none 0 0] 25))) := Lib.hid (ItAt.start (blk_next hal x3) (x4.next hal) hnb hsz (x2.below hal x2.size) hbw (by rw [HN.out]; exact Nat.le_refl _))
        have HR4 := Lib.hid (x1.next hal)
        generalize (W.alloc (.cells #[.int .i64 5, .bool false, .int .i64 0, .string ⟨#[]⟩, .slice none 0 0, .slice none 0 0] 25)) = w4 at HI4 HR4 ⊢
        clear hnb hsz hal x1 x2 x3 x4 x5 hW HX2 k1 f1 hNl hbl
        refine (list_any 93 (by decide) 91 #[.pointer (some ⟨N + 2, 0, none⟩), .pointer (some ⟨N, 0, none⟩)] b s hlen (fun m a st => (Js.value s m st).bind fun x st => .ok (a ++ [x]) st) (Js.items s) (ItI w b N) (But [b] w) n (fun w => enters_of Tryz.func91 (by kernel_rfl) rfl _ w) (fun _ _ => by unfold Js.items; rfl) (items_succ s)
         (fun a st => Fine s st ∧ a.length ≤ st.at_) (fun a st h => h.1) (fun a st h hlt => ⟨h.1.step hlt, Nat.le_succ_of_le h.2⟩) (fun a st h => ⟨h.1.blanks.1, Nat.le_trans h.2 h.1.blanks.2.2⟩)
         (fun a w' w'' ⟨v, rs, hI⟩ hb => ⟨v, rs, hI.keep hb⟩) (fun a w' w'' ⟨v, rs, hI⟩ hb => hI.but.trans hb)
         (fun m a st w' hm hr hF hI hne => item_any w b N s hlen m (HV.out m hm) a st w' hr hF.1 hF.2 hI hne) (item_fine s) [] (Js.step st) w4 HR4.out ⟨HFS.out, Nat.zero_le _⟩ HI4.out HNL.out).mono ?_
        intro e w5 ho
        obtain ⟨r, hr⟩ : ∃ r, listOf s 93 (Js.items s) n [] (Js.step st) = r := ⟨_, rfl⟩
        rw [hr] at ho HE
        clear hr HNL
        cases r with
        | out => exact ho.elim
        | bad kb =>
         obtain ⟨rfl, hb5⟩ := ho
         have HE2 : Hid (Js.inner s (n + 1) st = .bad kb) := Lib.hid (by rw [HE.out]; rfl)
         have HB5 := Lib.hid hb5
         clear hb5
         unfold bad
         go_wp2_with fail
         exact vout_bad HE2.out rfl HB5.out
        | ok l st5 =>
         obtain ⟨rfl, hr5, v, rs, hI5⟩ := ho
         have HE2 : Hid (Js.inner s (n + 1) st = .ok (.mk 5 false 0 [] l []) st5) := Lib.hid (by rw [HE.out]; rfl)
         have HR3 := Lib.hid hr5
         have HJ5 := Lib.hid (hI5.value.wide (T := fun g => N + 1 < g) (fun g hg _ => by omega))
         have HW3 := Lib.hid hI5.but
         have HZ3 := Lib.hid hI5.zbox
         obtain ⟨A, c, hv⟩ := own_shape hI5.own
         obtain ⟨x0, x1, x2, x3, x4, x5⟩ := hI5.xbox.cells
         obtain ⟨z0, z1, z2, z3, z4, z5⟩ := hI5.zbox.cells
         obtain ⟨g0, g1, g2, g3, g4, g5⟩ := hI5.zbox.frees
         have hNl := hI5.xbox.lt
         subst hv
         clear hr5 hI5
         go_wp2_with fail
         have hst := j25_set (.int .i64 5) (.bool false) (.int .i64 0) (.string ⟨#[]⟩) (.slice A l.length c) (.slice none 0 0) HZ3.out
         unfold set6 at hst
         refine bodyPost_ret (results_row1 rfl _ _ _ (N + 1) #[.int .i64 5, .bool false, .int .i64 0, .string ⟨#[]⟩, .slice A l.length c, .slice none 0 0] rfl (j25_load hst.2)) rfl ?_
         rw [HE2.out]
         exact leaf_done HN.out hbw HZ3.out HR3.out HW3.out HJ5.out
       ·have q91 : ((c.toNat : Int) == 91) = false := (u8_ne h91).1
        by_cases h123 : c = 123
        ·subst h123
         have hlt : st.at_ < s.length := (List.getElem?_eq_some_iff.1 (peek_some HP.out (by decide) hat)).1
         have HE : Hid (Js.inner s (n + 1) st = (listOf s 125 (Js.members s) n [] (Js.step st)).bind fun l st => .ok (.mk 6 false 0 [] [] l) st) := Lib.hid (inner_obj s n st HP.out)
         have hneL : listOf s 125 (Js.members s) n [] (Js.step st) ≠ .out := fun e0 => HNE.out (by rw [HE.out, e0]; rfl)
         have HNL := Lib.hid hneL
         have hFs : Fine s (Js.step st) := by
          obtain ⟨a1, a2, a3, a4⟩ := HNN.out
          exact ⟨hlt, a2, a3, Nat.le_succ_of_le a4⟩
         have HFS := Lib.hid hFs
         have hmf : ∀ (fn : Fn) (first cap : Array Value) (w : World), (Instr.makeFunc fn first cap).run Tryz.prog w = .ok (.func fn first cap) w := fun _ _ _ _ => rfl
         have k1 : w1.cell? ⟨b, 1, none⟩ = some (.int .i64 st.at_) := HR1.out.cells.2.1
         have f1 := HR1.out.free 1
         have hNl : N < w1.heap.size := (Array.getElem?_eq_some_iff.1 HRB1.out).1
         have hbl := HR1.out.lt
         have HX2 : Hid (∀ W, w1.setCell ⟨b, 1, none⟩ (.int .i64 ((st.at_ : Int) + 1)) = W → RdAt W b s (Js.step st) ∧ But [b] w W ∧ W.heap[N]? = some (.cells #[.pointer (some ⟨b, 0, none⟩)] 103 (0, 0)) ∧ JBox W (N + 1) (.int .i64 0) (.bool false) (.int .i64 0) (.string ⟨#[]⟩) (.slice none 0 0) (.slice none 0 0) ∧ W.heap.size = N + 2) := Lib.hid (by
          rintro W rfl
          have hb2 := HR1.out.but 1 (.int .i64 ((st.at_ : Int) + 1))
          exact ⟨HR1.out.step, HW1.out.trans hb2, hb2.blk HRB1.out (by simp; omega), HZ1.out.but hb2 (by simp; omega), by rw [← HSZ1.out]; simp⟩)
         have HSZe : w1.heap.size = N + 2 := HSZ1.out
         clear hneL hFs z0 z1 z2 z3 z4 z5 g0 g1 g2 g3 g4 g5
         go_wp2_with fail
         clear HSZe hmf
         obtain ⟨W, hW⟩ : ∃ W, w1.setCell ⟨b, 1, none⟩ (.int .i64 ((st.at_ : Int) + 1)) = W := ⟨_, rfl⟩
         obtain ⟨x1, x2, x3, x4, x5⟩ := HX2.out W hW
         rw [hW]
         have hal := below_box W (.cells #[.int .i64 6, .bool false, .int .i64 0, .string ⟨#[]⟩, .slice none 0 0, .slice none 0 0] 25)
         have hnb : JBox _ W.heap.size _ _ _ _ _ _ := heap_alloc_new W (.cells #[.int .i64 6, .bool false, .int .i64 0, .string ⟨#[]⟩, .slice none 0 0, .slice none 0 0] 25)
         have hsz : (W.alloc (.cells #[.int .i64 6, .bool false, .int .i64 0, .string ⟨#[]⟩, .slice none 0 0, .slice none 0 0] 25)).heap.size = N + 3 := by rw [show N + 3 = (N + 2) + 1 from rfl, ← x5]; simp
         rw [x5] at hnb
         have HI4 : Hid (MbI w b N [] (W.alloc (.cells #[.int .i64 6, .bool false, .int .i64 0, .string ⟨#[]⟩, .slice none 0 0, .slice none 0 0] 25))) := Lib.hid (MbAt.start (blk_next hal x3) (x4.next hal) hnb hsz (x2.below hal x2.size) hbw (by rw [HN.out]; exact Nat.le_refl _))
         have HR4 := Lib.hid (x1.next hal)
         generalize (W.alloc (.cells #[.int .i64 6, .bool false, .int .i64 0, .string ⟨#[]⟩, .slice none 0 0, .slice none 0 0] 25)) = w4 at HI4 HR4 ⊢
         clear hnb hsz hal x1 x2 x3 x4 x5 hW HX2 k1 f1 hNl hbl
         refine (list_any 125 (by decide) 92 #[.pointer (some ⟨N, 0, none⟩), .pointer (some ⟨N + 2, 0, none⟩)] b s hlen (memberOne s) (Js.members s) (MbI w b N) (But [b] w) n (fun w => enters_of Tryz.func92 (by kernel_rfl) rfl _ w) (fun _ _ => by unfold Js.members; rfl) (members_succ s)
          (fun a st => Fine s st ∧ a.length ≤ st.at_) (fun a st h => h.1) (fun a st h hlt => ⟨h.1.step hlt, Nat.le_succ_of_le h.2⟩) (fun a st h => ⟨h.1.blanks.1, Nat.le_trans h.2 h.1.blanks.2.2⟩)
          (fun a w' w'' ⟨v, rs, hI⟩ hb => ⟨v, rs, hI.keep hb⟩) (fun a w' w'' ⟨v, rs, hI⟩ hb => hI.but.trans hb)
          (fun m a st w' hm hr hF hI hne => member_any w b N s hlen m (HV.out m hm) a st w' hr hF.1 hF.2 hI hne) (member_fine s) [] (Js.step st) w4 HR4.out ⟨HFS.out, Nat.zero_le _⟩ HI4.out HNL.out).mono ?_
         intro e w5 ho
         obtain ⟨r, hr⟩ : ∃ r, listOf s 125 (Js.members s) n [] (Js.step st) = r := ⟨_, rfl⟩
         rw [hr] at ho HE
         clear hr HNL
         cases r with
         | out => exact ho.elim
         | bad kb =>
          obtain ⟨rfl, hb5⟩ := ho
          have HE2 : Hid (Js.inner s (n + 1) st = .bad kb) := Lib.hid (by rw [HE.out]; rfl)
          have HB5 := Lib.hid hb5
          clear hb5
          unfold bad
          go_wp2_with fail
          exact vout_bad HE2.out rfl HB5.out
         | ok l st5 =>
          obtain ⟨rfl, hr5, v, rs, hI5⟩ := ho
          have HE2 : Hid (Js.inner s (n + 1) st = .ok (.mk 6 false 0 [] [] l) st5) := Lib.hid (by rw [HE.out]; rfl)
          have HR3 := Lib.hid hr5
          have HJ5 := Lib.hid (hI5.value.wide (T := fun g => N + 1 < g) (fun g hg _ => by omega))
          have HW3 := Lib.hid hI5.but
          have HZ3 := Lib.hid hI5.zbox
          obtain ⟨A, c, hv⟩ := own_shape hI5.own
          obtain ⟨x0, x1, x2, x3, x4, x5⟩ := hI5.xbox.cells
          obtain ⟨z0, z1, z2, z3, z4, z5⟩ := hI5.zbox.cells
          obtain ⟨g0, g1, g2, g3, g4, g5⟩ := hI5.zbox.frees
          have hNl := hI5.xbox.lt
          subst hv
          clear hr5 hI5
          go_wp2_with fail
          have hst := j25_set (.int .i64 6) (.bool false) (.int .i64 0) (.string ⟨#[]⟩) (.slice none 0 0) (.slice A l.length c) HZ3.out
          unfold set6 at hst
          refine bodyPost_ret (results_row1 rfl _ _ _ (N + 1) #[.int .i64 6, .bool false, .int .i64 0, .string ⟨#[]⟩, .slice none 0 0, .slice A l.length c] rfl (j25_load hst.2)) rfl ?_
          rw [HE2.out]
          exact leaf_done HN.out hbw HZ3.out HR3.out HW3.out HJ5.out
        ·have q123 : ((c.toNat : Int) == 123) = false := (u8_ne h123).1
         have HE : Hid (Js.inner s (n + 1) st = .bad st.at_) := Lib.hid (by
          unfold Js.inner
          simp only [HP.out]
          rw [if_neg h110, if_neg h116, if_neg h102, if_neg h34, if_neg (fun e => e.elim h45 hd), if_neg h91, if_neg h123])
         rcases hd' with hc | hc
         ·have r1 : ¬ (48 : Int) ≤ c.toNat := by omega
          go_wp2_with fail
          refine (fail_any b s st _ HR1.out).mono ?_
          rintro e w' ⟨rfl, rfl⟩
          unfold bad
          go_wp2_with fail
          exact vout_bad HE.out rfl HW1.out
         ·have r1 : (48 : Int) ≤ c.toNat := by omega
          have r2 : ¬ (c.toNat : Int) ≤ 57 := by omega
          go_wp2_with fail
          refine (fail_any b s st _ HR1.out).mono ?_
          rintro e w' ⟨rfl, rfl⟩
          unfold bad
          go_wp2_with fail
          exact vout_bad HE.out rfl HW1.out
end Go.Proofs.YtimioelnnhnbiaaGreatDoor
namespace Go.Proofs.YtimioelnnhnbiaaGreatDoor
open Go.RowKit
theorem value_all (b : Nat) (s : Js.Bs) (hlen : s.length ≤ 1073741824) : ∀ n, ValueC b s n ∧ InnerC b s n := by
 intro n
 induction n using Nat.strongRecOn with
 | ind n ih =>
  cases n with
  | zero => exact ⟨fun st w _ _ hne => absurd rfl hne, fun st w _ _ hne => absurd rfl hne⟩
  | succ n => exact ⟨value_of_inner b s hlen n (ih n (Nat.lt_succ_self n)).2, inner_of_value b s hlen n (fun m hm => (ih m (by omega)).1)⟩
def SBox (w : World) (b : Nat) (x y : Int) : Prop := w.heap[b]? = some (.cells #[.int .i64 x, .int .i64 y] 61 (0, 0))
theorem s34_load {w : World} {b : Nat} {x y : Int} (h : SBox w b x y) : (loadVar 61 ⟨b, 0, none⟩).run Tryz.prog w = .ok (.agg #[.int .i64 x, .int .i64 y]) w :=
 run_loadVar_row w b 61 61 #[.int .i64 x, .int .i64 y] (0, 0) _ h Tryz.underlying61 rfl (by kernel_rfl)
theorem s34_set {w : World} {b : Nat} {p q : Int} (x y : Int) (h : SBox w b p q) :
  But [b] w ((w.setCell ⟨b, 0, none⟩ (.int .i64 x)).setCell ⟨b, 1, none⟩ (.int .i64 y)) ∧ SBox ((w.setCell ⟨b, 0, none⟩ (.int .i64 x)).setCell ⟨b, 1, none⟩ (.int .i64 y)) b x y := by
 obtain ⟨h1, h2⟩ := but_set (i := 0) (.int .i64 x) h
 obtain ⟨h3, h4⟩ := but_set (i := 1) (.int .i64 y) h2
 exact ⟨h1.trans h3, h4⟩
theorem SBox.cells {w : World} {b : Nat} {x y : Int} (h : SBox w b x y) : w.cell? ⟨b, 0, none⟩ = some (.int .i64 x) ∧ w.cell? ⟨b, 1, none⟩ = some (.int .i64 y) ∧ w.frozen? ⟨b, 0, none⟩ = false ∧ w.frozen? ⟨b, 1, none⟩ = false :=
 ⟨(blk_cells h 0).trans rfl, (blk_cells h 1).trans rfl, blk_free h 0, blk_free h 1⟩
theorem results_row2 {fn : Func} {p q : Tmp} {ty ty' : TypeId} (h : fn.results = #[.cell p ty, .cell q ty']) (tmps : Array Value) (P : Program) (w : World) (g g' : Nat) (cs cs' : Array Value)
  (hp : tmps.getD p undef = .pointer (some ⟨g, 0, none⟩)) (hl : (loadVar ty ⟨g, 0, none⟩).run P w = .ok (.agg cs) w)
  (hq : tmps.getD q undef = .pointer (some ⟨g', 0, none⟩)) (hl' : (loadVar ty' ⟨g', 0, none⟩).run P w = .ok (.agg cs') w) :
  (results fn tmps).run P w = .ok (.tuple #[.agg cs, .agg cs']) w := by
 rw [Array.getD_eq_getD_getElem?] at hp hq
 simp [results, h, hp, hq, asAddr, hl, hl']
set_option maxRecDepth 100000 in
set_option maxHeartbeats 4000000 in
theorem catch_idle (x e : Nat) (w : World) :
  CallsD Tryz.prog 48 #[.pointer (some ⟨x, 0, none⟩), .pointer (some ⟨e, 0, none⟩)] .returning w fun e u' w' => e = .returned (.tuple #[]) ∧ u' = .returning ∧ w' = w := by
 refine callsD_of_wpS Tryz.func48 rfl fun c₀ cs hu => ?_
 apply wpS_seq
 apply wpS_region
 simp [wpOpsS, go_sem, recoverD, hu, Tryz.ntmps48, Exit.thenS]
 refine wpS_of_wp ?_
 go_wp2_with fail
 cases c₀
 simp_all [bodyPostS, results, Tryz.results48]
theorem recover_two {P : Program} {ops : Array Oper} {Q : Exit → Act → List Frame → World → Prop} {a : Act} {c₀ : Frame} {cs : List Frame} {w : World} {V : Value} {o0 o1 : Oper}
  (h0 : ops[0]? = some o0) (h1 : ops[1]? = some o1) (g0 : o0.guard = none) (g1 : o1.guard = none) (r0 : (execOp a.eval o0).run P w = .ok .recover w)
  (hm : c₀.mode = .panicking [{ v := V, recovered := false }]) (r1 : (execOp (a.put o0.dst V).eval o1).run P w = .ok (.value V) w)
  (h : Q .normal ((a.put o0.dst V).put o1.dst V) ({ c₀ with mode := .panicking [{ v := V, recovered := true }] } :: cs) w) : wpOpsS P ops Q [0, 1] a (c₀ :: cs) w := by
 unfold wpOpsS
 have w0 : ∀ l, Region.wanted o0 l = true := fun l => by simp [Region.wanted, g0]
 have w1 : ∀ l, Region.wanted o1 l = true := fun l => by simp [Region.wanted, g1]
 simp only [h0, w0, if_true, r0, recoverD, hm]
 unfold wpOpsS
 simp only [h1, w1, if_true, r1]
 unfold wpOpsS
 rw [Oper.upon_value]
 exact h
theorem assert_wrong (k : Int) (w : World) : (Instr.typeAssert (.iface 106 (.int .i64 k)) 20 106 true).run Tryz.prog w = .ok (.tuple #[.int .i64 k, .bool true]) w := by kernel_rfl
set_option maxRecDepth 100000 in
set_option maxHeartbeats 4000000 in
theorem catch_bad (x e k : Nat) (w : World) (hxe : x ≠ e) (p0 p1 p2 p3 p4 p5 : Value) (a c : Int) (hx : JBox w x p0 p1 p2 p3 p4 p5) (he : SBox w e a c) :
  CallsD Tryz.prog 48 #[.pointer (some ⟨x, 0, none⟩), .pointer (some ⟨e, 0, none⟩)] (.panicking [{ v := .iface 106 (.int .i64 k), recovered := false }]) w fun en u' w' =>
   en = .returned (.tuple #[]) ∧ u' = .panicking [{ v := .iface 106 (.int .i64 k), recovered := true }] ∧ But [x, e] w w' ∧ JBox w' x (.int .i64 0) (.bool false) (.int .i64 0) (.string ⟨#[]⟩) (.slice none 0 0) (.slice none 0 0) ∧ SBox w' e 330 k := by
 obtain ⟨c0, c1, c2, c3, c4, c5⟩ := hx.cells
 obtain ⟨f0, f1, f2, f3, f4, f5⟩ := hx.frees
 have HX := Lib.hid hx
 have HE := Lib.hid he
 obtain ⟨d0, d1, g0, g1⟩ := he.cells
 clear hx he
 obtain ⟨V, hV⟩ : ∃ V, Value.iface 106 (.int .i64 (k : Int)) = V := ⟨_, rfl⟩
 rw [hV]
 have HV := Lib.hid hV
 clear hV c0 c1 c2 c3 c4 c5 f0 f1 f2 f3 f4 f5 d0 d1 g0 g1
 refine callsD_of_wpS Tryz.func48 rfl fun c₀ cs hu => ?_
 apply wpS_seq
 apply wpS_region
 refine recover_two (V := V) rfl rfl rfl rfl (by kernel_rfl) hu (by kernel_rfl) ?_
 have e2 : ((({ tmps := #[.pointer (some ⟨x, 0, none⟩), .pointer (some ⟨e, 0, none⟩)] ++ Array.replicate (Tryz.f48.ntmps - (#[.pointer (some ⟨x, 0, none⟩), .pointer (some ⟨e, 0, none⟩)] : Array Value).size) undef, defers := [] } : Act).put (some 5) V).put (some 2) V) = { tmps := #[.pointer (some ⟨x, 0, none⟩), .pointer (some ⟨e, 0, none⟩), V, undef, undef, V, undef, undef, undef, undef, undef, undef, undef, undef, undef, undef, undef, undef, undef], defers := [] } := by kernel_rfl
 show Exit.thenS _ _ _ ((({ tmps := #[.pointer (some ⟨x, 0, none⟩), .pointer (some ⟨e, 0, none⟩)] ++ Array.replicate (Tryz.f48.ntmps - (#[.pointer (some ⟨x, 0, none⟩), .pointer (some ⟨e, 0, none⟩)] : Array Value).size) undef, defers := [] } : Act).put (some 5) V).put (some 2) V) _ _
 rw [e2]
 unfold Exit.thenS
 simp only
 refine wpS_of_wp ?_
 have hV := HV.out
 subst hV
 have hta := assert_wrong k
 obtain ⟨c0, c1, c2, c3, c4, c5⟩ := HX.out.cells
 obtain ⟨f0, f1, f2, f3, f4, f5⟩ := HX.out.frees
 obtain ⟨d0, d1, g0, g1⟩ := HE.out.cells
 go_wp2_with fail
 have h1 := j25_set (.int .i64 0) (.bool false) (.int .i64 0) (.string ⟨#[]⟩) (.slice none 0 0) (.slice none 0 0) HX.out
 unfold set6 at h1
 have h2 := s34_set 330 (k : Int) (show SBox _ e a c from h1.1.blk HE.out (by simpa using hxe.symm))
 refine ⟨rfl, _, rfl, .tuple #[], by kernel_rfl, rfl, rfl, (h1.1.mono (by intro j hj; simp at hj; simp [hj])).trans (h2.1.mono (by intro j hj; simp at hj; simp [hj])), h1.2.but h2.1 (by simpa using hxe), h2.2⟩
end Go.Proofs.YtimioelnnhnbiaaGreatDoor
