/-
  Joined: WF WG. CONDITIONS: as each law says.
-/
import Derived.Test.YtimioelnnhnbiaaGreatDoorQ02
namespace Go.Proofs.YtimioelnnhnbiaaGreatDoor
open Go.RowKit
def digsAt (s : Js.Bs) (st : Js.St) : Js.Bs := (s.drop st.at_).takeWhile Js.isDig
/-- How far number's loop has come. -/
structure NumInv (s : Js.Bs) (st0 : Js.St) (n : Int) (st' : Js.St) : Prop where
 fold : (digsAt s st0).foldl Js.digStep (0, st0.large) = (digsAt s st').foldl Js.digStep (n, st'.large)
 len : st0.at_ + (digsAt s st0).length = st'.at_ + (digsAt s st').length
 same : st' = { st0 with at_ := st'.at_, large := st'.large }
 lo : -9223372036854775808 ≤ n
 hi : n ≤ 0
theorem digsAt_cons {s : Js.Bs} {st : Js.St} {c : UInt8} (h : s[st.at_]? = some c) (hd : Js.isDig c = true) : digsAt s st = c :: (s.drop (st.at_ + 1)).takeWhile Js.isDig := by
 unfold digsAt
 obtain ⟨hk, e⟩ := List.getElem?_eq_some_iff.1 h
 rw [List.drop_eq_getElem_cons hk, e, List.takeWhile_cons, hd]; rfl
theorem digsAt_nil {s : Js.Bs} {st : Js.St} (h : ∀ c, s[st.at_]? = some c → Js.isDig c = false) : digsAt s st = [] := by
 unfold digsAt
 by_cases hlt : st.at_ < s.length
 ·rw [List.drop_eq_getElem_cons hlt, List.takeWhile_cons, h _ (List.getElem?_eq_getElem hlt)]; rfl
 ·rw [List.drop_eq_nil_of_le (by omega)]; rfl
theorem tdiv_lo (n d : Int) (h0 : 0 ≤ d) (h9 : d ≤ 9) (hn : ¬ n < Int.tdiv (-9223372036854775808 + d) 10) : -9223372036854775808 ≤ 10 * n - d := by
 have e : Int.tdiv (-9223372036854775808 + d) 10 = -((9223372036854775808 - d) / 10) := by
  rw [show (-9223372036854775808 + d : Int) = -(9223372036854775808 - d) by omega, Int.neg_tdiv, Int.tdiv_eq_ediv_of_nonneg (by omega)]
 rw [e] at hn
 omega
theorem NumInv.next {s : Js.Bs} {st0 st' : Js.St} {n : Int} {c : UInt8} (h : NumInv s st0 n st') (hx : s[st'.at_]? = some c) (hd : Js.isDig c = true) :
  NumInv s st0 (Js.digStep (n, st'.large) c).1 { Js.step st' with large := (Js.digStep (n, st'.large) c).2 } := by
 obtain ⟨h1, h2, h3, h4, h5⟩ := h
 rw [digsAt_cons hx hd] at h1 h2
 have hd2 : 48 ≤ c.toNat ∧ c.toNat ≤ 57 := by unfold Js.isDig at hd; simpa using hd
 refine ⟨by rw [h1]; rfl, by rw [h2]; show _ + (_ + 1) = _ + 1 + _; unfold digsAt; show _ = st'.at_ + 1 + (List.takeWhile Js.isDig (s.drop (st'.at_ + 1))).length; omega, ?_, ?_, ?_⟩
 ·rw [h3]; rfl
 ·unfold Js.digStep
  split
  ·exact h4
  ·rename_i hn
   exact tdiv_lo n _ (by omega) (by omega) hn
 ·unfold Js.digStep
  split
  ·exact h5
  ·show 10 * n - _ ≤ 0
   omega
theorem isDig_iff (c : UInt8) : Js.isDig c = true ↔ 48 ≤ c.toNat ∧ c.toNat ≤ 57 := by unfold Js.isDig; simp
theorem NumInv.done {s : Js.Bs} {st0 st' : Js.St} {n : Int} (h : NumInv s st0 n st') (hx : ∀ c, s[st'.at_]? = some c → Js.isDig c = false) :
  (digsAt s st0).foldl Js.digStep (0, st0.large) = (n, st'.large) ∧ { st0 with at_ := st0.at_ + (digsAt s st0).length } = { st' with large := st0.large } := by
 obtain ⟨h1, h2, h3, -, -⟩ := h
 rw [digsAt_nil hx] at h1 h2
 refine ⟨h1, ?_⟩
 rw [h2]
 conv => rhs; rw [h3]
 rfl
theorem NumInv.start (s : Js.Bs) (st : Js.St) : NumInv s st 0 st := ⟨rfl, rfl, rfl, by decide, by decide⟩
theorem digStep_big {n : Int} {L : Bool} {c : UInt8} (h : n < Int.tdiv (-9223372036854775808 + ((c.toNat : Int) - 48)) 10) : Js.digStep (n, L) c = (n, true) := by unfold Js.digStep; rw [if_pos h]
theorem digStep_fit {n : Int} {L : Bool} {c : UInt8} (h : ¬ n < Int.tdiv (-9223372036854775808 + ((c.toNat : Int) - 48)) 10) : Js.digStep (n, L) c = (10 * n - ((c.toNat : Int) - 48), L) := by unfold Js.digStep; rw [if_neg h]
/-- What number makes of the text behind a sign. -/
def numRest (s : Js.Bs) (below : Bool) (st : Js.St) : Js.Res Int :=
 if !Js.isDig (Js.peek s st) then .bad st.at_
 else if Js.peek s st = 48 then .ok 0 (Js.step st)
 else
  let a := (digsAt s st).foldl Js.digStep (0, st.large)
  let st := { st with at_ := st.at_ + (digsAt s st).length }
  if below then .ok a.1 { st with large := a.2 }
  else .ok (if a.1 = -9223372036854775808 then -9223372036854775808 else -a.1) { st with large := a.2 || decide (a.1 = -9223372036854775808) }
theorem number_eq (s : Js.Bs) (st : Js.St) : Js.number s st = numRest s (decide (Js.peek s st = 45)) (if Js.peek s st = 45 then Js.step st else st) := by
 unfold Js.number numRest
 simp only [decide_eq_true_eq]
 rfl
theorem wrap_min : wrap64 (- -9223372036854775808) = -9223372036854775808 := by unfold wrap64; omega
theorem u8_eq {c d : UInt8} (h : c = d) : ((c.toNat : Int) == (d.toNat : Int)) = true := by rw [h]; simp
theorem take45 {s : Js.Bs} {st : Js.St} (hat : st.at_ ≤ s.length) (h : Js.peek s st = 45) : st.at_ < s.length := by
 rcases peek_cases s st hat with ⟨h1, _⟩ | ⟨_, _, h1⟩
 ·exact h1
 ·rw [h1] at h; exact absurd h (by decide)
set_option maxRecDepth 100000 in
set_option maxHeartbeats 8000000 in
theorem number_any (b : Nat) (s : Js.Bs) (st : Js.St) (w : World) (h : RdAt w b s st) (hlen : s.length ≤ 1073741824) (hat : st.at_ ≤ s.length) :
  Calls Tryz.prog 89 #[.pointer (some ⟨b, 0, none⟩)] w (ROut b s w (fun n : Int => .int .i64 n) (Js.number s st)) := by
 have hz := str_size s
 have f1 := h.free 1
 obtain ⟨k0, k1, -⟩ := h.cells
 have HR0 := Lib.hid h
 by_cases hm : Js.peek s st = 45
 ·have HN : Hid (Js.number s st = numRest s true (Js.step st)) := Lib.hid (by rw [number_eq, if_pos hm, decide_eq_true hm])
  have hat1 : (Js.step st).at_ ≤ s.length := take45 hat hm
  have HP0 := Lib.hid hm
  clear h hm
  go_enter Tryz.func89, Tryz.ntmps89
  go_wp2_with fail
  refine (peek_at 45 HP0.out HR0.out hlen hat).mono ?_
  rintro e w1 ⟨rfl, n1, rfl⟩
  go_wp2_with fail
  obtain ⟨hr1, hb1⟩ := And.intro (HR0.out.drewN n1).step (((But.refl [b] w).drewN n1).trans ((HR0.out.drewN n1).but 1 (.int .i64 ((st.at_ : Int) + 1))))
  generalize (World.setCell (w.drewN n1) ⟨b, 1, none⟩ (.int .i64 ((st.at_ : Int) + 1))) = w1 at hr1 hb1 ⊢
  have HR1 := Lib.hid hr1
  have HB1 := Lib.hid hb1
  clear hr1 hb1 HR0 f1 k0 k1 HP0
  generalize Js.step st = st1 at HR1 HN hat1
  obtain ⟨c, hp⟩ : ∃ c, Js.peek s st1 = c := ⟨_, rfl⟩
  have HC := Lib.hid (peek_cases s st1 hat1)
  rw [hp] at HC
  have HP := Lib.hid hp
  clear hp
  refine (peek_at c HP.out HR1.out hlen hat1).mono ?_
  rintro e w2 ⟨rfl, n2, rfl⟩
  by_cases hd : Js.isDig c = true
  ·obtain ⟨d1, d2⟩ := (isDig_iff c).1 hd
   have r1 : ¬ (c.toNat : Int) < 48 := by omega
   have r2 : ¬ (57 : Int) < c.toNat := by omega
   have HD := Lib.hid hd
   clear hd
   go_wp2_with fail
   refine (peek_at c HP.out (HR1.out.drewN _) hlen hat1).mono ?_
   rintro e w3 ⟨rfl, n3, rfl⟩
   by_cases h48 : c = 48
   ·have HE : Hid (Js.number s st = .ok 0 (Js.step st1)) := Lib.hid (by
     rw [HN.out]; unfold numRest
     rw [HP.out, HD.out, h48]; rfl)
    have q48 : ((c.toNat : Int) == 48) = true := u8_eq h48
    obtain ⟨k0, k1, -⟩ := HR1.out.cells
    have f1 := HR1.out.free 1
    clear h48
    go_wp2_with fail
    go_ret
    rw [HE.out]
    exact ⟨rfl, (HR1.out.drewN _).step, (HB1.out.drewN _).trans ((HR1.out.drewN _).but 1 _)⟩
   ·have q48 : ((c.toNat : Int) == 48) = false := (u8_ne h48).1
    have HN2 : Hid (Js.number s st = .ok ((digsAt s st1).foldl Js.digStep (0, st1.large)).1 { st1 with at_ := st1.at_ + (digsAt s st1).length, large := ((digsAt s st1).foldl Js.digStep (0, st1.large)).2 }) := Lib.hid (by
     rw [HN.out]; unfold numRest
     rw [HP.out, HD.out, if_neg (by simp), if_neg h48]; rfl)
    clear h48
    go_wp2_with fail
    refine (peek_at c HP.out (HR1.out.drewN _) hlen hat1).mono ?_
    rintro e w4 ⟨rfl, n4, rfl⟩
    have HR4 := Lib.hid (HR1.out.drewN (n2 + n3 + n4))
    have HB4 := Lib.hid (HB1.out.drewN (n2 + n3 + n4))
    clear HR1 HB1
    clear HC r1 r2
    go_wp2_with fail
    go_loopg [5, 6, 7] (s.length - st1.at_) (fun k n c _ wr => ∃ (st' : Js.St) (m : Int) (x : UInt8), st'.at_ ≤ s.length ∧ n = .int .i64 m ∧ c = .int .u8 x.toNat ∧ Hid (k = s.length - st'.at_) ∧ Hid (Js.peek s st' = x) ∧ Hid (RdAt wr b s st') ∧ Hid (But [b] w wr) ∧ Hid (NumInv s st1 m st'))
    case atStart => exact ⟨st1, 0, c, hat1, rfl, rfl, Lib.hid rfl, HP, HR4, HB4, Lib.hid (NumInv.start _ _)⟩
    case round =>
     obtain ⟨st', m, x, hat', rfl, rfl, HK, HPx, HR, HB, HI⟩ := hrel
     clear HR4 HB4 HP HD
     have HCx := Lib.hid (peek_cases s st' hat')
     rw [HPx.out] at HCx
     obtain ⟨k0, k1, -⟩ := HR.out.cells
     have f1 := HR.out.free 1
     have f5 := HR.out.free 5
     have x256 := x.toNat_lt
     by_cases hd : Js.isDig x = true
     ·obtain ⟨d1, d2⟩ := (isDig_iff x).1 hd
      have hx : s[st'.at_]? = some x := by
       rcases HCx.out with ⟨_, hx⟩ | ⟨_, _, rfl⟩
       ·exact hx
       ·exact absurd hd (by decide)
      have hlt : st'.at_ < s.length := (List.getElem?_eq_some_iff.1 hx).1
      have HI2 := Lib.hid (HI.out.next hx hd)
      have hmlo := HI.out.lo
      have hmhi := HI.out.hi
      clear hx hd x256
      have r1 : (48 : Int) ≤ x.toNat := by omega
      have r2 : (x.toNat : Int) ≤ 57 := by omega
      obtain ⟨-, -, -, -, -, k5⟩ := HR.out.cells
      by_cases hbig : m < Int.tdiv (-9223372036854775808 + ((x.toNat : Int) - 48)) 10
      ·rw [digStep_big hbig] at HI2
       have hr5 : RdAt ((wr.setCell ⟨b, 5, none⟩ (.bool true)).setCell ⟨b, 1, none⟩ (.int .i64 ((st'.at_ : Int) + 1))) b s { Js.step st' with large := true } := (HR.out.toLarge true).step
       have hb5 := HB.out.trans ((HR.out.but 5 (.bool true)).trans ((HR.out.toLarge true).but 1 (.int .i64 ((st'.at_ : Int) + 1))))
       have HR5 := Lib.hid hr5
       have HB5 := Lib.hid hb5
       clear hr5 hb5
       go_wp2_with fail
       obtain ⟨y, hy⟩ : ∃ y, Js.peek s { Js.step st' with large := true } = y := ⟨_, rfl⟩
       have HY := Lib.hid hy
       clear hy
       refine (peek_at y HY.out HR5.out hlen hlt).mono ?_
       rintro e w6 ⟨rfl, n6, rfl⟩
       have HR6 := Lib.hid (HR5.out.drewN n6)
       have HB6 := Lib.hid (HB5.out.drewN n6)
       clear HR5 HB5
       go_wp2_with fail
       go_roundg (s.length - (st'.at_ + 1))
       case measure => rw [HK.out]; omega
       case rel => exact ⟨{ Js.step st' with large := true }, m, y, hlt, rfl, rfl, Lib.hid rfl, HY, HR6, HB6, HI2⟩
      ·rw [digStep_fit hbig] at HI2
       have HR5 : Hid (RdAt (wr.setCell ⟨b, 1, none⟩ (.int .i64 ((st'.at_ : Int) + 1))) b s (Js.step st')) := Lib.hid HR.out.step
       have HB5 := Lib.hid (HB.out.trans (HR.out.but 1 (.int .i64 ((st'.at_ : Int) + 1))))
       have hl1 := HI2.out.lo
       have hl2 := HI2.out.hi
       have hl3 : -9223372036854775808 ≤ 10 * m := by simp only at hl1; omega
       have hl4 : 10 * m ≤ 0 := by omega
       go_wp2_with fail
       obtain ⟨y, hy⟩ : ∃ y, Js.peek s (Js.step st') = y := ⟨_, rfl⟩
       have HY := Lib.hid hy
       clear hy
       refine (peek_at y HY.out HR5.out hlen hlt).mono ?_
       rintro e w6 ⟨rfl, n6, rfl⟩
       have HR6 := Lib.hid (HR5.out.drewN n6)
       have HB6 := Lib.hid (HB5.out.drewN n6)
       clear HR5 HB5
       go_wp2_with fail
       go_roundg (s.length - (st'.at_ + 1))
       case measure => rw [HK.out]; omega
       case rel => exact ⟨Js.step st', 10 * m - ((x.toNat : Int) - 48), y, hlt, rfl, rfl, Lib.hid rfl, HY, HR6, HB6, HI2⟩
     ·obtain ⟨hf1, hf2⟩ := HI.out.done (by
       intro c' hc'
       rcases HCx.out with ⟨_, hx⟩ | ⟨_, hx, _⟩
       ·rw [hx] at hc'; obtain rfl := Option.some.inj hc'; simpa using hd
       ·rw [hx] at hc'; cases hc')
      have HE : Hid (Js.number s st = .ok m st') := Lib.hid (by
       rw [HN2.out, hf1]
       show Js.Res.ok m { ({ st1 with at_ := st1.at_ + (digsAt s st1).length } : Js.St) with large := st'.large } = _
       rw [hf2])
      have hd' : x.toNat < 48 ∨ 57 < x.toNat := by
       rw [isDig_iff] at hd; omega
      clear hd hf1 hf2
      rcases hd' with hc | hc
      ·have r1 : ¬ (48 : Int) ≤ x.toNat := by omega
       go_wp2_with fail
       go_ret
       rw [HE.out]
       exact ⟨rfl, HR.out, HB.out⟩
      ·have r1 : (48 : Int) ≤ x.toNat := by omega
       have r2 : ¬ (x.toNat : Int) ≤ 57 := by omega
       go_wp2_with fail
       go_ret
       rw [HE.out]
       exact ⟨rfl, HR.out, HB.out⟩
  ·have HE : Hid (Js.number s st = .bad st1.at_) := Lib.hid (by
    rw [HN.out]; unfold numRest
    rw [HP.out, if_pos (by simpa using hd)])
   have hd' : c.toNat < 48 ∨ 57 < c.toNat := by
    rw [isDig_iff] at hd; omega
   clear hd
   rcases hd' with hc | hc
   ·have r1 : (c.toNat : Int) < 48 := by omega
    go_wp2_with fail
    refine (fail_any b s st1 _ (HR1.out.drewN _)).mono ?_
    rintro e w' ⟨rfl, rfl⟩
    unfold bad
    go_wp2_with fail
    exact out_bad HE.out rfl (HB1.out.drewN _)
   ·have r1 : ¬ (c.toNat : Int) < 48 := by omega
    have r2 : (57 : Int) < c.toNat := by omega
    go_wp2_with fail
    refine (fail_any b s st1 _ (HR1.out.drewN _)).mono ?_
    rintro e w' ⟨rfl, rfl⟩
    unfold bad
    go_wp2_with fail
    exact out_bad HE.out rfl (HB1.out.drewN _)
 ·have HN : Hid (Js.number s st = numRest s false st) := Lib.hid (by rw [number_eq, if_neg hm, decide_eq_false hm])
  obtain ⟨c, hp⟩ : ∃ c, Js.peek s st = c := ⟨_, rfl⟩
  have hc45 : c ≠ 45 := by rw [← hp]; exact hm
  have q45 : ((c.toNat : Int) == 45) = false := (u8_ne hc45).1
  clear hc45
  have HC := Lib.hid (peek_cases s st hat)
  rw [hp] at HC
  have HP := Lib.hid hp
  clear h hm hp k0 k1
  go_enter Tryz.func89, Tryz.ntmps89
  go_wp2_with fail
  refine (peek_at c HP.out HR0.out hlen hat).mono ?_
  rintro e w1 ⟨rfl, n1, rfl⟩
  obtain ⟨w1, hw1⟩ : ∃ w1, w.drewN n1 = w1 := ⟨_, rfl⟩
  have HR1 : Hid (RdAt w1 b s st) := Lib.hid (by rw [← hw1]; exact HR0.out.drewN n1)
  have HB1 : Hid (But [b] w w1) := Lib.hid (by rw [← hw1]; exact (But.refl [b] w).drewN n1)
  rw [hw1]
  clear hw1 f1 HR0
  go_wp2_with fail
  refine (peek_at c HP.out HR1.out hlen hat).mono ?_
  rintro e w2 ⟨rfl, n2, rfl⟩
  by_cases hd : Js.isDig c = true
  ·obtain ⟨d1, d2⟩ := (isDig_iff c).1 hd
   have r1 : ¬ (c.toNat : Int) < 48 := by omega
   have r2 : ¬ (57 : Int) < c.toNat := by omega
   have HD := Lib.hid hd
   clear hd
   go_wp2_with fail
   refine (peek_at c HP.out (HR1.out.drewN _) hlen hat).mono ?_
   rintro e w3 ⟨rfl, n3, rfl⟩
   by_cases h48 : c = 48
   ·have HE : Hid (Js.number s st = .ok 0 (Js.step st)) := Lib.hid (by
     rw [HN.out]; unfold numRest
     rw [HP.out, HD.out, h48]; rfl)
    have q48 : ((c.toNat : Int) == 48) = true := u8_eq h48
    obtain ⟨k0, k1, -⟩ := HR1.out.cells
    have f1 := HR1.out.free 1
    clear h48
    go_wp2_with fail
    go_ret
    rw [HE.out]
    exact ⟨rfl, (HR1.out.drewN _).step, (HB1.out.drewN _).trans ((HR1.out.drewN _).but 1 _)⟩
   ·have q48 : ((c.toNat : Int) == 48) = false := (u8_ne h48).1
    have HN2 : Hid (Js.number s st = .ok (if ((digsAt s st).foldl Js.digStep (0, st.large)).1 = -9223372036854775808 then -9223372036854775808 else -((digsAt s st).foldl Js.digStep (0, st.large)).1) { st with at_ := st.at_ + (digsAt s st).length, large := ((digsAt s st).foldl Js.digStep (0, st.large)).2 || decide (((digsAt s st).foldl Js.digStep (0, st.large)).1 = -9223372036854775808) }) := Lib.hid (by
     rw [HN.out]; unfold numRest
     rw [HP.out, HD.out, if_neg (by simp), if_neg h48]; rfl)
    clear h48
    go_wp2_with fail
    refine (peek_at c HP.out (HR1.out.drewN _) hlen hat).mono ?_
    rintro e w4 ⟨rfl, n4, rfl⟩
    have HR4 := Lib.hid (HR1.out.drewN (n2 + n3 + n4))
    have HB4 := Lib.hid (HB1.out.drewN (n2 + n3 + n4))
    clear HR1 HB1
    clear HC r1 r2
    go_wp2_with fail
    go_loopg [5, 6, 7] (s.length - st.at_) (fun k n c _ wr => ∃ (st' : Js.St) (m : Int) (x : UInt8), st'.at_ ≤ s.length ∧ n = .int .i64 m ∧ c = .int .u8 x.toNat ∧ Hid (k = s.length - st'.at_) ∧ Hid (Js.peek s st' = x) ∧ Hid (RdAt wr b s st') ∧ Hid (But [b] w wr) ∧ Hid (NumInv s st m st'))
    case atStart => exact ⟨st, 0, c, hat, rfl, rfl, Lib.hid rfl, HP, HR4, HB4, Lib.hid (NumInv.start _ _)⟩
    case round =>
     obtain ⟨st', m, x, hat', rfl, rfl, HK, HPx, HR, HB, HI⟩ := hrel
     clear HR4 HB4 HP HD
     have HCx := Lib.hid (peek_cases s st' hat')
     rw [HPx.out] at HCx
     obtain ⟨k0, k1, -⟩ := HR.out.cells
     have f1 := HR.out.free 1
     have f5 := HR.out.free 5
     have x256 := x.toNat_lt
     by_cases hd : Js.isDig x = true
     ·obtain ⟨d1, d2⟩ := (isDig_iff x).1 hd
      have hx : s[st'.at_]? = some x := by
       rcases HCx.out with ⟨_, hx⟩ | ⟨_, _, rfl⟩
       ·exact hx
       ·exact absurd hd (by decide)
      have hlt : st'.at_ < s.length := (List.getElem?_eq_some_iff.1 hx).1
      have HI2 := Lib.hid (HI.out.next hx hd)
      have hmlo := HI.out.lo
      have hmhi := HI.out.hi
      clear hx hd x256
      have r1 : (48 : Int) ≤ x.toNat := by omega
      have r2 : (x.toNat : Int) ≤ 57 := by omega
      obtain ⟨-, -, -, -, -, k5⟩ := HR.out.cells
      by_cases hbig : m < Int.tdiv (-9223372036854775808 + ((x.toNat : Int) - 48)) 10
      ·rw [digStep_big hbig] at HI2
       have hr5 : RdAt ((wr.setCell ⟨b, 5, none⟩ (.bool true)).setCell ⟨b, 1, none⟩ (.int .i64 ((st'.at_ : Int) + 1))) b s { Js.step st' with large := true } := (HR.out.toLarge true).step
       have hb5 := HB.out.trans ((HR.out.but 5 (.bool true)).trans ((HR.out.toLarge true).but 1 (.int .i64 ((st'.at_ : Int) + 1))))
       have HR5 := Lib.hid hr5
       have HB5 := Lib.hid hb5
       clear hr5 hb5
       go_wp2_with fail
       obtain ⟨y, hy⟩ : ∃ y, Js.peek s { Js.step st' with large := true } = y := ⟨_, rfl⟩
       have HY := Lib.hid hy
       clear hy
       refine (peek_at y HY.out HR5.out hlen hlt).mono ?_
       rintro e w6 ⟨rfl, n6, rfl⟩
       have HR6 := Lib.hid (HR5.out.drewN n6)
       have HB6 := Lib.hid (HB5.out.drewN n6)
       clear HR5 HB5
       go_wp2_with fail
       go_roundg (s.length - (st'.at_ + 1))
       case measure => rw [HK.out]; omega
       case rel => exact ⟨{ Js.step st' with large := true }, m, y, hlt, rfl, rfl, Lib.hid rfl, HY, HR6, HB6, HI2⟩
      ·rw [digStep_fit hbig] at HI2
       have HR5 : Hid (RdAt (wr.setCell ⟨b, 1, none⟩ (.int .i64 ((st'.at_ : Int) + 1))) b s (Js.step st')) := Lib.hid HR.out.step
       have HB5 := Lib.hid (HB.out.trans (HR.out.but 1 (.int .i64 ((st'.at_ : Int) + 1))))
       have hl1 := HI2.out.lo
       have hl2 := HI2.out.hi
       have hl3 : -9223372036854775808 ≤ 10 * m := by simp only at hl1; omega
       have hl4 : 10 * m ≤ 0 := by omega
       go_wp2_with fail
       obtain ⟨y, hy⟩ : ∃ y, Js.peek s (Js.step st') = y := ⟨_, rfl⟩
       have HY := Lib.hid hy
       clear hy
       refine (peek_at y HY.out HR5.out hlen hlt).mono ?_
       rintro e w6 ⟨rfl, n6, rfl⟩
       have HR6 := Lib.hid (HR5.out.drewN n6)
       have HB6 := Lib.hid (HB5.out.drewN n6)
       clear HR5 HB5
       go_wp2_with fail
       go_roundg (s.length - (st'.at_ + 1))
       case measure => rw [HK.out]; omega
       case rel => exact ⟨Js.step st', 10 * m - ((x.toNat : Int) - 48), y, hlt, rfl, rfl, Lib.hid rfl, HY, HR6, HB6, HI2⟩
     ·obtain ⟨hf1, hf2⟩ := HI.out.done (by
       intro c' hc'
       rcases HCx.out with ⟨_, hx⟩ | ⟨_, hx, _⟩
       ·rw [hx] at hc'; obtain rfl := Option.some.inj hc'; simpa using hd
       ·rw [hx] at hc'; cases hc')
      have hmlo := HI.out.lo
      have hmhi := HI.out.hi
      have HE : Hid (Js.number s st = .ok (if m = -9223372036854775808 then -9223372036854775808 else -m) { st' with large := st'.large || decide (m = -9223372036854775808) }) := Lib.hid (by
       rw [HN2.out, hf1]
       show Js.Res.ok (if m = -9223372036854775808 then -9223372036854775808 else -m) { ({ st with at_ := st.at_ + (digsAt s st).length } : Js.St) with large := st'.large || decide (m = -9223372036854775808) } = _
       rw [hf2])
      have hd' : x.toNat < 48 ∨ 57 < x.toNat := by
       rw [isDig_iff] at hd; omega
      obtain ⟨-, -, -, -, -, k5⟩ := HR.out.cells
      have f5 := HR.out.free 5
      clear hd hf1 hf2 HI
      obtain ⟨L, hL⟩ : ∃ L, st'.large = L := ⟨_, rfl⟩
      rw [hL] at k5 HE
      have HLL := Lib.hid hL
      clear hL
      by_cases hM : m = -9223372036854775808
      ·have HE2 : Hid (Js.number s st = .ok (-9223372036854775808) { st' with large := true }) := Lib.hid (by rw [HE.out, if_pos hM, decide_eq_true hM, Bool.or_true])
       have qM : (m == -9223372036854775808) = true := by simpa using hM
       have HMM := Lib.hid hM
       have hneg : wrap64 (-m) = -9223372036854775808 := by rw [hM]; exact wrap_min
       have HNG := Lib.hid hneg
       clear hM hneg
       rcases hd' with hc | hc
       ·have r1 : ¬ (48 : Int) ≤ x.toNat := by omega
        cases L
        all_goals
         go_wp2_with fail
         go_ret
         rw [HE2.out]
         exact ⟨ret_int HNG.out, HR.out.toLarge true, HB.out.trans (HR.out.but 5 _)⟩
       ·have r1 : (48 : Int) ≤ x.toNat := by omega
        have r2 : ¬ (x.toNat : Int) ≤ 57 := by omega
        cases L
        all_goals
         go_wp2_with fail
         go_ret
         rw [HE2.out]
         exact ⟨ret_int HNG.out, HR.out.toLarge true, HB.out.trans (HR.out.but 5 _)⟩
      ·have HE2 : Hid (Js.number s st = .ok (-m) { st' with large := L }) := Lib.hid (by rw [HE.out, if_neg hM, decide_eq_false hM, Bool.or_false])
       have qM : (m == -9223372036854775808) = false := by simpa using hM
       have hm1 : -m ≤ 9223372036854775807 := by omega
       have hm2 : 0 ≤ -m := by omega
       clear hM
       rcases hd' with hc | hc
       ·have r1 : ¬ (48 : Int) ≤ x.toNat := by omega
        cases L
        all_goals
         go_wp2_with fail
         go_ret
         rw [HE2.out]
         exact ⟨rfl, HR.out.toLarge _, HB.out.trans (HR.out.but 5 _)⟩
       ·have r1 : (48 : Int) ≤ x.toNat := by omega
        have r2 : ¬ (x.toNat : Int) ≤ 57 := by omega
        cases L
        all_goals
         go_wp2_with fail
         go_ret
         rw [HE2.out]
         exact ⟨rfl, HR.out.toLarge _, HB.out.trans (HR.out.but 5 _)⟩
  ·have HE : Hid (Js.number s st = .bad st.at_) := Lib.hid (by
    rw [HN.out]; unfold numRest
    rw [HP.out, if_pos (by simpa using hd)])
   have hd' : c.toNat < 48 ∨ 57 < c.toNat := by
    rw [isDig_iff] at hd; omega
   clear hd
   rcases hd' with hc | hc
   ·have r1 : (c.toNat : Int) < 48 := by omega
    go_wp2_with fail
    refine (fail_any b s st _ (HR1.out.drewN _)).mono ?_
    rintro e w' ⟨rfl, rfl⟩
    unfold bad
    go_wp2_with fail
    exact out_bad HE.out rfl (HB1.out.drewN _)
   ·have r1 : ¬ (c.toNat : Int) < 48 := by omega
    have r2 : (57 : Int) < c.toNat := by omega
    go_wp2_with fail
    refine (fail_any b s st _ (HR1.out.drewN _)).mono ?_
    rintro e w' ⟨rfl, rfl⟩
    unfold bad
    go_wp2_with fail
    exact out_bad HE.out rfl (HB1.out.drewN _)
end Go.Proofs.YtimioelnnhnbiaaGreatDoor
namespace Go.Proofs.YtimioelnnhnbiaaGreatDoor
open Go.RowKit
mutual
/-- A value lies in memory: its six cells; its rows lie in blocks of S. -/
def JV (w : World) (S : Nat → Prop) : Js.J → List Value → Prop
 | .mk k b n t l m, vs => ∃ A c A' c', vs = [.int .i64 k, .bool b, .int .i64 n, .string (str t), .slice A l.length c, .slice A' m.length c'] ∧ l.length ≤ c ∧ m.length ≤ c' ∧ JL w S A 0 l ∧ JM w S A' 0 m
def JL (w : World) (S : Nat → Prop) (A : Option Addr) : Nat → List Js.J → Prop
 | _, [] => True
 | i, x :: t => (∃ g o vs, A = some ⟨g, o, none⟩ ∧ S g ∧ g < w.heap.size ∧ (∀ j u, vs[j]? = some u → w.cell? ⟨g, o + i * 6 + j, none⟩ = some u) ∧ JV w S x vs) ∧ JL w S A (i + 1) t
def JM (w : World) (S : Nat → Prop) (A : Option Addr) : Nat → List (Js.Bs × Js.J) → Prop
 | _, [] => True
 | i, (nm, x) :: t => (∃ g o vs, A = some ⟨g, o, none⟩ ∧ S g ∧ g < w.heap.size ∧ (∀ j u, (Value.string (str nm) :: vs)[j]? = some u → w.cell? ⟨g, o + i * 7 + j, none⟩ = some u) ∧ JV w S x vs) ∧ JM w S A (i + 1) t
end
mutual
theorem JV.keep {w w' : World} {S T : Nat → Prop} (hsz : w.heap.size ≤ w'.heap.size) (hST : ∀ g, S g → g < w.heap.size → T g) (hk : ∀ g, S g → g < w.heap.size → w'.heap[g]? = w.heap[g]?) : ∀ (x : Js.J) (vs : List Value), JV w S x vs → JV w' T x vs
 | .mk k b n t l m, vs, h => by
  unfold JV at h ⊢
  obtain ⟨A, c, A', c', h1, h2, h3, h4, h5⟩ := h
  exact ⟨A, c, A', c', h1, h2, h3, JL.keep hsz hST hk A 0 l h4, JM.keep hsz hST hk A' 0 m h5⟩
theorem JL.keep {w w' : World} {S T : Nat → Prop} (hsz : w.heap.size ≤ w'.heap.size) (hST : ∀ g, S g → g < w.heap.size → T g) (hk : ∀ g, S g → g < w.heap.size → w'.heap[g]? = w.heap[g]?) (A : Option Addr) : ∀ (i : Nat) (l : List Js.J), JL w S A i l → JL w' T A i l
 | _, [], _ => by unfold JL; trivial
 | i, x :: t, h => by
  unfold JL at h ⊢
  obtain ⟨⟨g, o, vs, h1, h2, h3, h4, h5⟩, h6⟩ := h
  exact ⟨⟨g, o, vs, h1, hST g h2 h3, Nat.lt_of_lt_of_le h3 hsz, fun j u hj => (World.cell?_of_block (a := ⟨g, o + i * 6 + j, none⟩) (hk g h2 h3)).trans (h4 j u hj), JV.keep hsz hST hk x vs h5⟩, JL.keep hsz hST hk A (i + 1) t h6⟩
theorem JM.keep {w w' : World} {S T : Nat → Prop} (hsz : w.heap.size ≤ w'.heap.size) (hST : ∀ g, S g → g < w.heap.size → T g) (hk : ∀ g, S g → g < w.heap.size → w'.heap[g]? = w.heap[g]?) (A : Option Addr) : ∀ (i : Nat) (l : List (Js.Bs × Js.J)), JM w S A i l → JM w' T A i l
 | _, [], _ => by unfold JM; trivial
 | i, (nm, x) :: t, h => by
  unfold JM at h ⊢
  obtain ⟨⟨g, o, vs, h1, h2, h3, h4, h5⟩, h6⟩ := h
  exact ⟨⟨g, o, vs, h1, hST g h2 h3, Nat.lt_of_lt_of_le h3 hsz, fun j u hj => (World.cell?_of_block (a := ⟨g, o + i * 7 + j, none⟩) (hk g h2 h3)).trans (h4 j u hj), JV.keep hsz hST hk x vs h5⟩, JM.keep hsz hST hk A (i + 1) t h6⟩
end
theorem JV.next {w w' : World} {S : Nat → Prop} {x : Js.J} {vs : List Value} (h : JV w S x vs) (hb : Below w.heap.size w w') : JV w' S x vs :=
 JV.keep hb.size (fun _ h _ => h) (fun g _ hg => hb.block g hg) x vs h
theorem JV.but {L : List Nat} {w w' : World} {S : Nat → Prop} {x : Js.J} {vs : List Value} (h : JV w S x vs) (hb : But L w w') (hL : ∀ j ∈ L, ¬ S j) : JV w' S x vs :=
 JV.keep hb.size (fun _ h _ => h) (fun g hS hg => hb.block g hg (fun hm => hL g hm hS)) x vs h
theorem JV.wide {w : World} {S T : Nat → Prop} {x : Js.J} {vs : List Value} (h : JV w S x vs) (hST : ∀ g, S g → g < w.heap.size → T g) : JV w T x vs :=
 JV.keep (Nat.le_refl _) hST (fun _ _ _ => rfl) x vs h
theorem JV.below {w w' : World} {B : Nat} {S : Nat → Prop} {x : Js.J} {vs : List Value} (h : JV w S x vs) (hb : Below B w w') (hS : ∀ g, S g → g < B) (hsz : w.heap.size ≤ w'.heap.size) : JV w' S x vs :=
 JV.keep hsz (fun _ h _ => h) (fun g hg _ => hb.block g (hS g hg)) x vs h
theorem JV.len {w : World} {S : Nat → Prop} {x : Js.J} {vs : List Value} (h : JV w S x vs) : vs.length = 6 := by
 cases x with | mk k b n t l m =>
 unfold JV at h
 obtain ⟨A, c, A', c', rfl, _⟩ := h
 rfl
theorem JV.one {w : World} {S : Nat → Prop} {x : Js.J} {vs : List Value} (h : JV w S x vs) : ∀ v ∈ vs, v.oneCell' = true := by
 cases x with | mk k b n t l m =>
 unfold JV at h
 obtain ⟨A, c, A', c', rfl, _⟩ := h
 intro v hv
 simp at hv
 rcases hv with rfl | rfl | rfl | rfl | rfl | rfl <;> rfl
theorem JL.at_ {w : World} {S : Nat → Prop} {A : Option Addr} : ∀ {i : Nat} {l : List Js.J} {k : Nat} {x : Js.J}, JL w S A i l → l[k]? = some x → ∃ g o vs, A = some ⟨g, o, none⟩ ∧ S g ∧ g < w.heap.size ∧ (∀ j u, vs[j]? = some u → w.cell? ⟨g, o + (i + k) * 6 + j, none⟩ = some u) ∧ JV w S x vs
 | _, [], _, _, _, h => by simp at h
 | i, y :: t, 0, x, h, hx => by
  unfold JL at h
  simp at hx
  subst hx
  exact h.1
 | i, y :: t, k + 1, x, h, hx => by
  unfold JL at h
  have := JL.at_ h.2 (k := k) (by simpa using hx)
  rwa [show i + 1 + k = i + (k + 1) by omega] at this
theorem JM.at_ {w : World} {S : Nat → Prop} {A : Option Addr} : ∀ {i : Nat} {l : List (Js.Bs × Js.J)} {k : Nat} {nm : Js.Bs} {x : Js.J}, JM w S A i l → l[k]? = some (nm, x) → ∃ g o vs, A = some ⟨g, o, none⟩ ∧ S g ∧ g < w.heap.size ∧ (∀ j u, (Value.string (str nm) :: vs)[j]? = some u → w.cell? ⟨g, o + (i + k) * 7 + j, none⟩ = some u) ∧ JV w S x vs
 | _, [], _, _, _, _, h => by simp at h
 | i, (_, y) :: t, 0, nm, x, h, hx => by
  unfold JM at h
  simp at hx
  obtain ⟨rfl, rfl⟩ := hx
  exact h.1
 | i, (_, y) :: t, k + 1, nm, x, h, hx => by
  unfold JM at h
  have := JM.at_ h.2 (k := k) (by simpa using hx)
  rwa [show i + 1 + k = i + (k + 1) by omega] at this
/-- From each element to the row. -/
theorem JL.of {w : World} {S : Nat → Prop} {A : Option Addr} : ∀ {i : Nat} {l : List Js.J}, (∀ k x, l[k]? = some x → ∃ g o vs, A = some ⟨g, o, none⟩ ∧ S g ∧ g < w.heap.size ∧ (∀ j u, vs[j]? = some u → w.cell? ⟨g, o + (i + k) * 6 + j, none⟩ = some u) ∧ JV w S x vs) → JL w S A i l
 | _, [], _ => by unfold JL; trivial
 | i, y :: t, h => by
  unfold JL
  refine ⟨h 0 y rfl, JL.of fun k x hx => ?_⟩
  have := h (k + 1) x (by simpa using hx)
  rwa [show i + (k + 1) = i + 1 + k by omega] at this
theorem JM.of {w : World} {S : Nat → Prop} {A : Option Addr} : ∀ {i : Nat} {l : List (Js.Bs × Js.J)}, (∀ k nm x, l[k]? = some (nm, x) → ∃ g o vs, A = some ⟨g, o, none⟩ ∧ S g ∧ g < w.heap.size ∧ (∀ j u, (Value.string (str nm) :: vs)[j]? = some u → w.cell? ⟨g, o + (i + k) * 7 + j, none⟩ = some u) ∧ JV w S x vs) → JM w S A i l
 | _, [], _ => by unfold JM; trivial
 | i, (nm, y) :: t, h => by
  unfold JM
  refine ⟨h 0 nm y rfl, JM.of fun k nm x hx => ?_⟩
  have := h (k + 1) nm x (by simpa using hx)
  rwa [show i + (k + 1) = i + 1 + k by omega] at this
end Go.Proofs.YtimioelnnhnbiaaGreatDoor
