/-
  Joined: WE WF. CONDITIONS: as each law says.
-/
import Derived.Test.YtimioelnnhnbiaaGreatDoorS01
namespace Go.Proofs.YtimioelnnhnbiaaGreatDoor
open Go.RowKit
theorem IsB.but {S : List Nat} {B b : Nat} {l : List UInt8} {w w' : World} (h : IsB B b l w) (hk : But S w w') (hS : ∀ j ∈ S, j < B) : IsB B b l w' := by
 have key : ∀ p, Lib.BuilderAtF 112 5 B b p (Lib.byteCells l) w → Lib.BuilderAtF 112 5 B b p (Lib.byteCells l) w' := by
  intro p hp
  have hlt := hp.lt
  obtain ⟨h1, v, h2, h3, h4⟩ := hp
  have hb : b ∉ S := fun hm => by have := hS b hm; omega
  refine ⟨h1, v, hk.blk h2 hb, ?_, h4⟩
  rcases h3.2 with ⟨hv, hz⟩ | ⟨g, cap, cur, fz, hv, hB, hg, rest⟩
  ·exact ⟨h3.1, .inl ⟨hv, hz⟩⟩
  ·exact ⟨h3.1, .inr ⟨g, cap, cur, fz, hv, hB, hk.blk hg (fun hm => by have := hS g hm; omega), rest⟩⟩
 exact h.elim (fun x => .inl (key _ x)) (fun x => .inr (key _ x))
theorem IsB.next {B b : Nat} {l : List UInt8} {w w' : World} (h : IsB B b l w) (hb : Below w.heap.size w w') : IsB B b l w' := h.but (But.of (S := []) hb) (by simp)
theorem RdAt.below {w w' : World} {b B : Nat} {s : Js.Bs} {st : Js.St} (h : RdAt w b s st) (hb : Below B w w') (hB : b < B) : RdAt w' b s st := (hb.block b hB).trans h
theorem But.below {S : List Nat} {a w w' : World} {B : Nat} (h : But S a w) (hb : Below B w w') (hB : a.heap.size ≤ B) : But S a w' :=
 ⟨hb.os.trans h.os, hb.tape.trans h.tape, hb.output.trans h.output, Nat.le_trans h.size hb.size, fun j hj hs => (hb.block j (Nat.lt_of_lt_of_le hj hB)).trans (h.block j hj hs)⟩
theorem word_at (s : Js.Bs) : ∀ (l : Js.Bs) (st st' : Js.St), Js.word s l st = .ok () st' → st' = { st with at_ := st.at_ + l.length }
 | [], st, st', h => by injection h with _ h; subst h; rfl
 | c :: t, st, st', h => by
  rw [word_cons] at h
  rcases take_inv s c st with ht | ht
  ·rw [ht] at h
   have := word_at s t (Js.step st) st' h
   rw [this, List.length_cons]
   show Js.St.mk (st.at_ + 1 + _) _ _ _ _ = _
   rw [Nat.add_assoc, Nat.add_comm 1]; rfl
  ·rw [ht] at h; cases h
theorem pair_inv (s : Js.Bs) (st : Js.St) : (∃ c p, Js.pair s st = .ok c { st with at_ := p } ∧ st.at_ + 1 ≤ p ∧ p ≤ s.length) ∨ ∃ k, Js.pair s st = .bad k := by
 unfold Js.pair
 split
 ·rename_i hx
  have hat := Nat.le_of_lt (List.getElem?_eq_some_iff.1 hx).1
  rcases word_inv s [117, 48, 48] st with ⟨st2, hw, h2⟩ | ⟨k, hw⟩
  ·have h3 := word_at s _ _ _ hw
   rw [hw]
   rcases digit_inv (s := s) (st := st2) with ⟨a, ha, hd, hl⟩ | hd
   ·rcases digit_inv (s := s) (st := Js.step st2) with ⟨a', ha', hd', hl'⟩ | hd'
    ·refine .inl ⟨UInt8.ofNat (16 * a + a'), st.at_ + 5, (by show (Js.digit s st2).bind _ = _; rw [hd]; show (Js.digit s (Js.step st2)).bind _ = _; rw [hd', h3]; rfl), by omega, ?_⟩
     rw [h3] at hl'
     exact hl'
    ·exact .inr ⟨_, (by show (Js.digit s st2).bind _ = _; rw [hd]; show (Js.digit s (Js.step st2)).bind _ = _; rw [hd']; rfl)⟩
   ·exact .inr ⟨_, (by show (Js.digit s st2).bind _ = _; rw [hd]; rfl)⟩
  ·exact .inr ⟨k, by rw [hw]; rfl⟩
 ·cases hx : s[st.at_]? with
  | none => exact .inr ⟨_, rfl⟩
  | some c =>
   rw [Option.bind_some]
   cases hv : Js.escV c with
   | none => exact .inr ⟨_, rfl⟩
   | some n => exact .inl ⟨n, st.at_ + 1, rfl, Nat.le_refl _, (List.getElem?_eq_some_iff.1 hx).1⟩
theorem textGo_end {s : Js.Bs} {n : Nat} {acc : Js.Bs} {st : Js.St} (h : s[st.at_]? = none) : Js.textGo s (n + 1) acc st = .bad st.at_ := by
 unfold Js.textGo; rw [h]
theorem textGo_quote {s : Js.Bs} {n : Nat} {acc : Js.Bs} {st : Js.St} (h : s[st.at_]? = some 34) : Js.textGo s (n + 1) acc st = .ok acc (Js.step st) := by
 unfold Js.textGo; rw [h]; rfl
theorem textGo_ctl {s : Js.Bs} {n : Nat} {acc : Js.Bs} {st : Js.St} {c : UInt8} (h : s[st.at_]? = some c) (h1 : c ≠ 34) (h2 : c.toNat < 32 ∨ 126 < c.toNat) : Js.textGo s (n + 1) acc st = .bad st.at_ := by
 unfold Js.textGo; rw [h]; simp only; rw [if_neg h1, if_pos h2]
theorem textGo_esc {s : Js.Bs} {n : Nat} {acc : Js.Bs} {st : Js.St} (h : s[st.at_]? = some 92) : Js.textGo s (n + 1) acc st = (Js.pair s (Js.step st)).bind fun d st => Js.textGo s n (acc ++ [d]) st := by
 conv => lhs; unfold Js.textGo
 rw [h]; simp only; rw [if_neg (by decide), if_neg (by decide), if_pos trivial]
theorem textGo_one {s : Js.Bs} {n : Nat} {acc : Js.Bs} {st : Js.St} {c : UInt8} (h : s[st.at_]? = some c) (h1 : c ≠ 34) (h2 : ¬ (c.toNat < 32 ∨ 126 < c.toNat)) (h3 : c ≠ 92) : Js.textGo s (n + 1) acc st = Js.textGo s n (acc ++ [c]) (Js.step st) := by
 conv => lhs; unfold Js.textGo
 rw [h]; simp only; rw [if_neg h1, if_neg h2, if_neg h3]
theorem u8_ne {c d : UInt8} (h : c ≠ d) : ((c.toNat : Int) == (d.toNat : Int)) = false ∧ ((c.toNat : Int) != (d.toNat : Int)) = true := by
 have : (c.toNat : Int) ≠ d.toNat := fun e => h (UInt8.toNat_inj.1 (by omega))
 constructor
 ·simpa using this
 ·simpa using this
set_option maxRecDepth 100000 in
set_option maxHeartbeats 8000000 in
theorem text_any (b : Nat) (s : Js.Bs) (st : Js.St) (w : World) (h : RdAt w b s st) (hlen : s.length ≤ 1073741824) (hat : st.at_ ≤ s.length) (hbytes : st.bytes ≤ 1099511627776) (hne : Js.text s st ≠ .out) :
  Calls Tryz.prog 88 #[.pointer (some ⟨b, 0, none⟩)] w (ROut b s w (fun t : Js.Bs => .string (str t)) (Js.text s st)) := by
 have hz := str_size s
 have HNE := Lib.hid hne
 clear hne
 go_enter Tryz.func88, Tryz.ntmps88
 go_wp2_with fail
 refine (take_any b s 34 st _ h hlen hat).mono ?_
 intro e w1 ho
 rcases take_inv s 34 st with ht | ht
 rotate_left
 ·rw [ht] at ho
  obtain ⟨rfl, hb1⟩ := ho
  have HT : Hid (Js.text s st = .bad st.at_) := Lib.hid (by unfold Js.text; rw [ht]; rfl)
  have HB1 := Lib.hid hb1
  clear hb1 ht
  unfold bad
  go_wp2_with fail
  exact out_bad HT.out rfl HB1.out
 rw [ht] at ho
 obtain ⟨rfl, hr1, hb1⟩ := ho
 have hat1 : (Js.step st).at_ ≤ s.length := take_le ht
 have HT : Hid (Js.text s st = (Js.textGo s (s.length + 1) [] (Js.step st)).bind fun t st => .ok t { st with bytes := st.bytes + t.length, large := st.large || decide (32768 < st.bytes + t.length) }) := Lib.hid (by unfold Js.text; rw [ht]; rfl)
 have hby1 : (Js.step st).bytes ≤ 1099511627776 := hbytes
 clear ht h hat hbytes
 generalize Js.step st = st1 at hr1 hat1 hby1 HT
 have hbw : b < w1.heap.size := hr1.lt
 have hsz1 := hb1.size
 have HR1 := Lib.hid (hr1.next (below_box w1 (.cells #[.pointer none, .slice none 0 0] 112)))
 have HS1 := Lib.hid (isB_new w1)
 have HB1 := Lib.hid (hb1.trans (But.of (S := [b]) (below_box w1 (.cells #[.pointer none, .slice none 0 0] 112))))
 clear hr1 hb1
 go_wp2_with fail
 generalize w1.alloc (.cells #[.pointer none, .slice none 0 0] 112) = w2 at HR1 HS1 HB1 ⊢
 have HSZ := Lib.hid HB1.out.size
 obtain ⟨N, hN⟩ : ∃ N, w1.heap.size = N := ⟨_, rfl⟩
 rw [hN] at HS1 hbw hsz1 ⊢
 have HWN := Lib.hid hsz1
 clear hsz1
 clear hN
 go_loopg [4] (s.length + 1) (fun k _ wr => ∃ (st' : Js.St) (acc : Js.Bs), st'.at_ ≤ s.length ∧ acc.length ≤ st'.at_ ∧ st'.bytes = st1.bytes ∧ Hid (RdAt wr b s st') ∧ Hid (IsB N N acc wr) ∧ Hid (But [b] w wr) ∧ Hid (Js.textGo s (s.length + 1) [] st1 = Js.textGo s k acc st'))
 case atStart => exact ⟨st1, [], hat1, Nat.zero_le _, rfl, HR1, HS1, HB1, Lib.hid rfl⟩
 case round =>
  obtain ⟨st', acc, hat', hacc, hby', HR, HS, HB, HG⟩ := hrel
  have HBY := Lib.hid hby'
  clear hby' HR1 HS1 HB1 hat1
  cases gk with
  | zero =>
   refine absurd ?_ HNE.out
   rw [HT.out, HG.out]; rfl
  | succ k =>
   obtain ⟨c0, c1, c2, c3, c4, c5⟩ := HR.out.cells
   have f1 := HR.out.free 1
   have HC := Lib.hid (peek_cases s st' hat')
   obtain ⟨c, hp⟩ : ∃ c, Js.peek s st' = c := ⟨_, rfl⟩
   rw [hp] at HC
   have HP := Lib.hid hp
   clear hp
   by_cases hq : c = 34
   ·subst hq
    have hx : s[st'.at_]? = some 34 := by
     rcases HC.out with ⟨_, hx⟩ | ⟨_, _, e⟩
     ·exact hx
     ·exact absurd e (by decide)
    have hlt : st'.at_ < s.length := (List.getElem?_eq_some_iff.1 hx).1
    have e1 : ((st'.at_ : Int) == (s.length : Int)) = false := by simp; omega
    have HE : Hid (Js.text s st = .ok acc { Js.step st' with bytes := st'.bytes + acc.length, large := st'.large || decide (32768 < st'.bytes + acc.length) }) := Lib.hid (by rw [HT.out, HG.out, textGo_quote hx]; rfl)
    have HX : Hid (∀ m, RdAt ((wr.drewN m).setCell ⟨b, 1, none⟩ (.int .i64 ((st'.at_ : Int) + 1))) b s (Js.step st') ∧ IsB N N acc ((wr.drewN m).setCell ⟨b, 1, none⟩ (.int .i64 ((st'.at_ : Int) + 1))) ∧ But [b] w ((wr.drewN m).setCell ⟨b, 1, none⟩ (.int .i64 ((st'.at_ : Int) + 1)))) := Lib.hid fun m =>
        have hb := ((But.refl [b] wr).drewN m).trans ((HR.out.drewN m).but 1 (.int .i64 ((st'.at_ : Int) + 1)))
        ⟨(HR.out.drewN m).step, HS.out.but hb (by intro j hj; simp at hj; omega), HB.out.trans hb⟩
    clear hx HG HT HNE
    go_wp2_with fail
    go_quiet ((go_at_call 86; exact Calls.quiet_of (peek_at 34 HP.out (HR.out.drewN _) hlen hat')))
    go_wp2_with fail
    obtain ⟨hr5, hs5, hb5⟩ := HX.out nq
    generalize (World.setCell (wr.drewN nq) ⟨b, 1, none⟩ (.int .i64 ((st'.at_ : Int) + 1))) = w5 at hr5 hs5 hb5 ⊢
    have HR5 := Lib.hid hr5
    have HS5 := Lib.hid hs5
    have HB5 := Lib.hid hb5
    clear hr5 hs5 hb5 HX c0 c1 c2 c3 c4 c5 f1 HR HS HB
    obtain ⟨c0, c1, c2, c3, c4, c5⟩ := HR5.out.cells
    have c4' : w5.cell? ⟨b, 4, none⟩ = some (.int .i64 (st'.bytes : Nat)) := c4
    have f4 := HR5.out.free 4
    clear c0 c1 c2 c3 c4 c5
    have HWR : Hid (IntKind.i64.wrap ((st'.bytes : Int) + (acc.length : Int)) = ((st'.bytes + acc.length : Nat) : Int)) := Lib.hid (by rw [IntWalk.i64_in _ (by have := HBY.out; omega)]; omega)
    go_region_with ((go_at_call 100; refine (bldLen_any N N acc _ (HS5.out.next (below_drewN (Below.refl _ _) 1))).mono ?_; rintro e w' ⟨rfl, rfl⟩))
    all_goals
     rw [HWR.out]
     have hr6 := (HR5.out.drewN 1).toBytes (st'.bytes + acc.length)
     have hb6 := (HB5.out.drewN 1).trans ((HR5.out.drewN 1).but 4 (.int .i64 ((st'.bytes + acc.length : Nat) : Int)))
     have hs6 := (HS5.out.next (below_drewN (Below.refl _ _) 1)).but ((HR5.out.drewN 1).but 4 (.int .i64 ((st'.bytes + acc.length : Nat) : Int))) (by intro j hj; simp at hj; omega)
     generalize (World.setCell (w5.drewN 1) ⟨b, 4, none⟩ (.int .i64 ((st'.bytes + acc.length : Nat) : Int))) = w6 at hr6 hs6 hb6 ⊢
     have HR6 := Lib.hid hr6
     have HB6 := Lib.hid hb6
     have HS6 := Lib.hid hs6
     clear hr6 hs6 hb6 HR5 HS5 HB5 c4' f4
     have c4 : w6.cell? ⟨b, 4, none⟩ = some (.int .i64 ((st'.bytes + acc.length : Nat) : Int)) := HR6.out.cells.2.2.2.2.1
     have c5 : w6.cell? ⟨b, 5, none⟩ = some (.bool st'.large) := HR6.out.cells.2.2.2.2.2
     have f5 := HR6.out.free 5
     obtain ⟨N2, hN2⟩ : ∃ N2, st'.bytes + acc.length = N2 := ⟨_, rfl⟩
     rw [hN2] at HE c4 HR6
     generalize st'.large = L at HE c5
     have HN2 := Lib.hid hN2
     clear hN2
     cases L
     ·go_wp2_with fail
      have hr7 := HR6.out.toLarge (decide ((32768 : Int) < (N2 : Int)))
      have hb7 := HB6.out.trans (HR6.out.but 5 (.bool (decide ((32768 : Int) < (N2 : Int)))))
      have hs7 := HS6.out.but (HR6.out.but 5 (.bool (decide ((32768 : Int) < (N2 : Int))))) (by intro j hj; simp at hj; omega)
      refine (bldString_any N N acc _ hs7).mono ?_
      rintro e w8 ⟨rfl, -, hb8, -⟩
      have HR8 := Lib.hid (hr7.below hb8 hbw)
      have HB8 := Lib.hid (hb7.below hb8 HWN.out)
      clear hr7 hs7 hb7 hb8
      go_wp2_with fail
      go_ret
      rw [HE.out]
      refine ⟨rfl, ?_, HB8.out⟩
      have := HR8.out
      rw [show decide ((32768 : Int) < (N2 : Int)) = decide (32768 < N2) by simp; omega] at this
      exact this
     ·go_wp2_with fail
      have hr7 := HR6.out.toLarge (true)
      have hb7 := HB6.out.trans (HR6.out.but 5 (.bool (true)))
      have hs7 := HS6.out.but (HR6.out.but 5 (.bool (true))) (by intro j hj; simp at hj; omega)
      refine (bldString_any N N acc _ hs7).mono ?_
      rintro e w8 ⟨rfl, -, hb8, -⟩
      have HR8 := Lib.hid (hr7.below hb8 hbw)
      have HB8 := Lib.hid (hb7.below hb8 HWN.out)
      clear hr7 hs7 hb7 hb8
      go_wp2_with fail
      go_ret
      rw [HE.out]
      refine ⟨rfl, ?_, HB8.out⟩
      exact HR8.out
   ·obtain ⟨q1, q2⟩ := u8_ne hq
    have q2 : ((c.toNat : Int) != 34) = true := q2
    clear q1
    go_wp2_with fail
    go_quiet ((go_at_call 86; exact Calls.quiet_of (peek_at c HP.out (HR.out.drewN _) hlen hat')))
    go_wp2_with fail
    refine (peek_at c HP.out (HR.out.drewN _) hlen hat').mono ?_
    rintro e w4 ⟨rfl, n, rfl⟩
    by_cases hend : st'.at_ = s.length
    ·have HE : Hid (Js.text s st = .bad st'.at_) := Lib.hid (by rw [HT.out, HG.out, textGo_end (List.getElem?_eq_none (by omega))]; rfl)
     have e1 : ((st'.at_ : Int) == (s.length : Int)) = true := by simp [hend]
     clear hend
     go_wp2_with fail
     go_quiet (fail)
     go_wp2_with fail
     refine (fail_any b s st' _ (HR.out.drewN _)).mono ?_
     rintro e w' ⟨rfl, rfl⟩
     unfold bad
     go_wp2_with fail
     exact out_bad HE.out rfl (HB.out.drewN _)
    ·have hlt : st'.at_ < s.length := by omega
     have hx : s[st'.at_]? = some c := by
      rcases HC.out with ⟨_, hx⟩ | ⟨e, _, _⟩
      ·exact hx
      ·exact absurd e hend
     have e1 : ((st'.at_ : Int) == (s.length : Int)) = false := by simp; omega
     by_cases hctl : c.toNat < 32 ∨ 126 < c.toNat
     ·have HE : Hid (Js.text s st = .bad st'.at_) := Lib.hid (by rw [HT.out, HG.out, textGo_ctl hx hq hctl]; rfl)
      clear hx hend
      rcases hctl with hc | hc
      ·have r1 : decide ((c.toNat : Int) < 32) = true := by simp; omega
       go_wp2_with fail
       go_quiet (fail)
       go_wp2_with fail
       refine (fail_any b s st' _ (HR.out.drewN _)).mono ?_
       rintro e w' ⟨rfl, rfl⟩
       unfold bad
       go_wp2_with fail
       exact out_bad HE.out rfl (HB.out.drewN _)
      ·have r1 : decide ((c.toNat : Int) < 32) = false := by simp; omega
       have r2 : decide ((126 : Int) < c.toNat) = true := by simp; omega
       go_wp2_with fail
       go_quiet (fail)
       go_wp2_with fail
       refine (fail_any b s st' _ (HR.out.drewN _)).mono ?_
       rintro e w' ⟨rfl, rfl⟩
       unfold bad
       go_wp2_with fail
       exact out_bad HE.out rfl (HB.out.drewN _)
     ·have r1 : decide ((c.toNat : Int) < 32) = false := by simp; omega
      have r2 : decide ((126 : Int) < c.toNat) = false := by simp; omega
      by_cases h92 : c = 92
      ·have HG2 : Hid (Js.textGo s (s.length + 1) [] st1 = (Js.pair s (Js.step st')).bind fun d st => Js.textGo s k (acc ++ [d]) st) := Lib.hid (by rw [HG.out, textGo_esc (by rw [hx, h92])])
       have q3 : ((c.toNat : Int) == 92) = true := by rw [h92]; rfl
       have HX : Hid (∀ m, RdAt ((wr.drewN m).setCell ⟨b, 1, none⟩ (.int .i64 ((st'.at_ : Int) + 1))) b s (Js.step st') ∧ IsB N N acc ((wr.drewN m).setCell ⟨b, 1, none⟩ (.int .i64 ((st'.at_ : Int) + 1))) ∧ But [b] w ((wr.drewN m).setCell ⟨b, 1, none⟩ (.int .i64 ((st'.at_ : Int) + 1)))) := Lib.hid fun m =>
        have hb := ((But.refl [b] wr).drewN m).trans ((HR.out.drewN m).but 1 (.int .i64 ((st'.at_ : Int) + 1)))
        ⟨(HR.out.drewN m).step, HS.out.but hb (by intro j hj; simp at hj; omega), HB.out.trans hb⟩
       clear hx hend HG h92
       go_wp2_with fail
       go_quiet (fail)
       go_wp2_with fail
       refine (pair_any b s (Js.step st') _ (HX.out _).1 hlen hlt).mono ?_
       intro e w5 ho
       rcases pair_inv s (Js.step st') with ⟨d, p5, hp, ha1, ha2⟩ | ⟨kb, hp⟩
       ·obtain ⟨st5, h5⟩ : ∃ st5 : Js.St, { Js.step st' with at_ := p5 } = st5 := ⟨_, rfl⟩
        rw [h5] at hp
        have HBY5 : st5.bytes = st1.bytes := by rw [← h5]; exact HBY.out
        have h5p : st5.at_ = p5 := by rw [← h5]
        rw [← h5p] at ha1 ha2
        rw [hp] at ho
        obtain ⟨rfl, hr5, hb5⟩ := ho
        have HR5 := Lib.hid hr5
        have HS5 := Lib.hid ((HX.out _).2.1.but hb5 (by intro j hj; simp at hj; omega))
        have HB5 := Lib.hid ((HX.out _).2.2.trans hb5)
        have HG3 : Hid (Js.textGo s (s.length + 1) [] st1 = Js.textGo s k (acc ++ [d]) st5) := Lib.hid (by rw [HG2.out, hp]; rfl)
        have ha3 : st'.at_ + 2 ≤ st5.at_ := ha1
        have HBY5 := Lib.hid HBY5
        clear hr5 hb5 hp HX HG2 ha1 h5 h5p
        go_wp2_with fail
        refine (writeByte_any N N acc d _ HS5.out (by omega)).mono ?_
        rintro e w6 ⟨rfl, hs6, hb6, -⟩
        have HR6 := Lib.hid (HR5.out.below hb6 hbw)
        have HS6 := Lib.hid hs6
        have HB6 := Lib.hid (HB5.out.below hb6 HWN.out)
        clear hs6 hb6 HR5 HS5 HB5
        go_wp2_with fail
        go_roundg k
        case measure => omega
        case rel => exact ⟨st5, acc ++ [d], ha2, by simp; omega, HBY5.out, HR6, HS6, HB6, HG3⟩
       ·rw [hp] at ho
        obtain ⟨rfl, hb5⟩ := ho
        have HE : Hid (Js.text s st = .bad kb) := Lib.hid (by rw [HT.out, HG2.out, hp]; rfl)
        have HB5 := Lib.hid ((HX.out _).2.2.trans hb5)
        clear hb5 hp HX HG2
        unfold bad
        go_wp2_with fail
        exact out_bad HE.out rfl HB5.out
      ·have HG2 : Hid (Js.textGo s (s.length + 1) [] st1 = Js.textGo s k (acc ++ [c]) (Js.step st')) := Lib.hid (by rw [HG.out, textGo_one hx hq hctl h92])
       have q3 : ((c.toNat : Int) == 92) = false := (u8_ne h92).1
       have HX : Hid (∀ m, RdAt ((wr.drewN m).setCell ⟨b, 1, none⟩ (.int .i64 ((st'.at_ : Int) + 1))) b s (Js.step st') ∧ IsB N N acc ((wr.drewN m).setCell ⟨b, 1, none⟩ (.int .i64 ((st'.at_ : Int) + 1))) ∧ But [b] w ((wr.drewN m).setCell ⟨b, 1, none⟩ (.int .i64 ((st'.at_ : Int) + 1)))) := Lib.hid fun m =>
        have hb := ((But.refl [b] wr).drewN m).trans ((HR.out.drewN m).but 1 (.int .i64 ((st'.at_ : Int) + 1)))
        ⟨(HR.out.drewN m).step, HS.out.but hb (by intro j hj; simp at hj; omega), HB.out.trans hb⟩
       clear hx hend HG h92
       go_wp2_with fail
       go_quiet (fail)
       go_wp2_with fail
       refine (writeByte_any N N acc c _ (HX.out _).2.1 (by omega)).mono ?_
       rintro e w6 ⟨rfl, hs6, hb6, -⟩
       have HR6 := Lib.hid ((HX.out _).1.below hb6 hbw)
       have HS6 := Lib.hid hs6
       have HB6 := Lib.hid ((HX.out _).2.2.below hb6 HWN.out)
       clear hs6 hb6 HX
       go_wp2_with fail
       go_roundg k
       case measure => omega
       case rel => exact ⟨Js.step st', acc ++ [c], hlt, by simp; show acc.length + 1 ≤ st'.at_ + 1; omega, HBY.out, HR6, HS6, HB6, HG2⟩
end Go.Proofs.YtimioelnnhnbiaaGreatDoor
namespace Go.Proofs.YtimioelnnhnbiaaGreatDoor
open Go.RowKit
def digsAt (s : Js.Bs) (st : Js.St) : Js.Bs := (s.drop st.at_).takeWhile Js.isDig
structure NumInv (s : Js.Bs) (st0 : Js.St) (n : Int) (st' : Js.St) : Prop where
 fold : (digsAt s st0).foldl Js.digStep (0, st0.large) = (digsAt s st').foldl Js.digStep (n, st'.large)
 len : st0.at_ + (digsAt s st0).length = st'.at_ + (digsAt s st').length
 same : st' = { st0 with at_ := st'.at_, large := st'.large }
 lo : -9223372036854775808 ≤ n
 hi : n ≤ 0
theorem digsAt_cons {s : Js.Bs} {st : Js.St} {c : UInt8} (h : s[st.at_]? = some c) (hd : Js.isDig c = true) : digsAt s st = c :: (s.drop (st.at_ + 1)).takeWhile Js.isDig := by
 unfold digsAt
 obtain ⟨hk, e⟩ := List.getElem?_eq_some_iff.1 h
 rw [List.drop_eq_getElem_cons hk, e, List.takeWhile_cons, hd]; rfl
theorem digsAt_nil {s : Js.Bs} {st : Js.St} (h : ∀ c, s[st.at_]? = some c → Js.isDig c = false) : digsAt s st = [] := by
 unfold digsAt
 by_cases hlt : st.at_ < s.length
 ·rw [List.drop_eq_getElem_cons hlt, List.takeWhile_cons, h _ (List.getElem?_eq_getElem hlt)]; rfl
 ·rw [List.drop_eq_nil_of_le (by omega)]; rfl
theorem tdiv_lo (n d : Int) (h0 : 0 ≤ d) (h9 : d ≤ 9) (hn : ¬ n < Int.tdiv (-9223372036854775808 + d) 10) : -9223372036854775808 ≤ 10 * n - d := by
 have e : Int.tdiv (-9223372036854775808 + d) 10 = -((9223372036854775808 - d) / 10) := by
  rw [show (-9223372036854775808 + d : Int) = -(9223372036854775808 - d) by omega, Int.neg_tdiv, Int.tdiv_eq_ediv_of_nonneg (by omega)]
 rw [e] at hn
 omega
theorem NumInv.next {s : Js.Bs} {st0 st' : Js.St} {n : Int} {c : UInt8} (h : NumInv s st0 n st') (hx : s[st'.at_]? = some c) (hd : Js.isDig c = true) :
  NumInv s st0 (Js.digStep (n, st'.large) c).1 { Js.step st' with large := (Js.digStep (n, st'.large) c).2 } := by
 obtain ⟨h1, h2, h3, h4, h5⟩ := h
 rw [digsAt_cons hx hd] at h1 h2
 have hd2 : 48 ≤ c.toNat ∧ c.toNat ≤ 57 := by unfold Js.isDig at hd; simpa using hd
 refine ⟨by rw [h1]; rfl, by rw [h2]; show _ + (_ + 1) = _ + 1 + _; unfold digsAt; show _ = st'.at_ + 1 + (List.takeWhile Js.isDig (s.drop (st'.at_ + 1))).length; omega, ?_, ?_, ?_⟩
 ·rw [h3]; rfl
 ·unfold Js.digStep
  split
  ·exact h4
  ·rename_i hn
   exact tdiv_lo n _ (by omega) (by omega) hn
 ·unfold Js.digStep
  split
  ·exact h5
  ·show 10 * n - _ ≤ 0
   omega
theorem isDig_iff (c : UInt8) : Js.isDig c = true ↔ 48 ≤ c.toNat ∧ c.toNat ≤ 57 := by unfold Js.isDig; simp
theorem NumInv.done {s : Js.Bs} {st0 st' : Js.St} {n : Int} (h : NumInv s st0 n st') (hx : ∀ c, s[st'.at_]? = some c → Js.isDig c = false) :
  (digsAt s st0).foldl Js.digStep (0, st0.large) = (n, st'.large) ∧ { st0 with at_ := st0.at_ + (digsAt s st0).length } = { st' with large := st0.large } := by
 obtain ⟨h1, h2, h3, -, -⟩ := h
 rw [digsAt_nil hx] at h1 h2
 refine ⟨h1, ?_⟩
 rw [h2]
 conv => rhs; rw [h3]
 rfl
theorem NumInv.start (s : Js.Bs) (st : Js.St) : NumInv s st 0 st := ⟨rfl, rfl, rfl, by decide, by decide⟩
theorem digStep_big {n : Int} {L : Bool} {c : UInt8} (h : n < Int.tdiv (-9223372036854775808 + ((c.toNat : Int) - 48)) 10) : Js.digStep (n, L) c = (n, true) := by unfold Js.digStep; rw [if_pos h]
theorem digStep_fit {n : Int} {L : Bool} {c : UInt8} (h : ¬ n < Int.tdiv (-9223372036854775808 + ((c.toNat : Int) - 48)) 10) : Js.digStep (n, L) c = (10 * n - ((c.toNat : Int) - 48), L) := by unfold Js.digStep; rw [if_neg h]
def numRest (s : Js.Bs) (below : Bool) (st : Js.St) : Js.Res Int :=
 if !Js.isDig (Js.peek s st) then .bad st.at_
 else if Js.peek s st = 48 then .ok 0 (Js.step st)
 else
  let a := (digsAt s st).foldl Js.digStep (0, st.large)
  let st := { st with at_ := st.at_ + (digsAt s st).length }
  if below then .ok a.1 { st with large := a.2 }
  else .ok (if a.1 = -9223372036854775808 then -9223372036854775808 else -a.1) { st with large := a.2 || decide (a.1 = -9223372036854775808) }
theorem number_eq (s : Js.Bs) (st : Js.St) : Js.number s st = numRest s (decide (Js.peek s st = 45)) (if Js.peek s st = 45 then Js.step st else st) := by
 unfold Js.number numRest
 simp only [decide_eq_true_eq]
 rfl
theorem wrap_min : wrap64 (- -9223372036854775808) = -9223372036854775808 := by unfold wrap64; omega
theorem u8_eq {c d : UInt8} (h : c = d) : ((c.toNat : Int) == (d.toNat : Int)) = true := by rw [h]; simp
theorem take45 {s : Js.Bs} {st : Js.St} (hat : st.at_ ≤ s.length) (h : Js.peek s st = 45) : st.at_ < s.length := by
 rcases peek_cases s st hat with ⟨h1, _⟩ | ⟨_, _, h1⟩
 ·exact h1
 ·rw [h1] at h; exact absurd h (by decide)
set_option maxRecDepth 100000 in
set_option maxHeartbeats 8000000 in
theorem number_any (b : Nat) (s : Js.Bs) (st : Js.St) (w : World) (h : RdAt w b s st) (hlen : s.length ≤ 1073741824) (hat : st.at_ ≤ s.length) :
  Calls Tryz.prog 89 #[.pointer (some ⟨b, 0, none⟩)] w (ROut b s w (fun n : Int => .int .i64 n) (Js.number s st)) := by
 have hz := str_size s
 have f1 := h.free 1
 obtain ⟨k0, k1, -⟩ := h.cells
 have HR0 := Lib.hid h
 by_cases hm : Js.peek s st = 45
 ·have HN : Hid (Js.number s st = numRest s true (Js.step st)) := Lib.hid (by rw [number_eq, if_pos hm, decide_eq_true hm])
  have hat1 : (Js.step st).at_ ≤ s.length := take45 hat hm
  have HP0 := Lib.hid hm
  clear h hm
  go_enter Tryz.func89, Tryz.ntmps89
  go_wp2_with fail
  refine (peek_at 45 HP0.out HR0.out hlen hat).mono ?_
  rintro e w1 ⟨rfl, n1, rfl⟩
  go_wp2_with fail
  obtain ⟨hr1, hb1⟩ := And.intro (HR0.out.drewN n1).step (((But.refl [b] w).drewN n1).trans ((HR0.out.drewN n1).but 1 (.int .i64 ((st.at_ : Int) + 1))))
  generalize (World.setCell (w.drewN n1) ⟨b, 1, none⟩ (.int .i64 ((st.at_ : Int) + 1))) = w1 at hr1 hb1 ⊢
  have HR1 := Lib.hid hr1
  have HB1 := Lib.hid hb1
  clear hr1 hb1 HR0 f1 k0 k1 HP0
  generalize Js.step st = st1 at HR1 HN hat1
  obtain ⟨c, hp⟩ : ∃ c, Js.peek s st1 = c := ⟨_, rfl⟩
  have HC := Lib.hid (peek_cases s st1 hat1)
  rw [hp] at HC
  have HP := Lib.hid hp
  clear hp
  refine (peek_at c HP.out HR1.out hlen hat1).mono ?_
  rintro e w2 ⟨rfl, n2, rfl⟩
  by_cases hd : Js.isDig c = true
  ·obtain ⟨d1, d2⟩ := (isDig_iff c).1 hd
   have r1 : ¬ (c.toNat : Int) < 48 := by omega
   have r2 : ¬ (57 : Int) < c.toNat := by omega
   have HD := Lib.hid hd
   clear hd
   go_wp2_with fail
   refine (peek_at c HP.out (HR1.out.drewN _) hlen hat1).mono ?_
   rintro e w3 ⟨rfl, n3, rfl⟩
   by_cases h48 : c = 48
   ·have HE : Hid (Js.number s st = .ok 0 (Js.step st1)) := Lib.hid (by
     rw [HN.out]; unfold numRest
     rw [HP.out, HD.out, h48]; rfl)
    have q48 : ((c.toNat : Int) == 48) = true := u8_eq h48
    obtain ⟨k0, k1, -⟩ := HR1.out.cells
    have f1 := HR1.out.free 1
    clear h48
    go_wp2_with fail
    go_ret
    rw [HE.out]
    exact ⟨rfl, (HR1.out.drewN _).step, (HB1.out.drewN _).trans ((HR1.out.drewN _).but 1 _)⟩
   ·have q48 : ((c.toNat : Int) == 48) = false := (u8_ne h48).1
    have HN2 : Hid (Js.number s st = .ok ((digsAt s st1).foldl Js.digStep (0, st1.large)).1 { st1 with at_ := st1.at_ + (digsAt s st1).length, large := ((digsAt s st1).foldl Js.digStep (0, st1.large)).2 }) := Lib.hid (by
     rw [HN.out]; unfold numRest
     rw [HP.out, HD.out, if_neg (by simp), if_neg h48]; rfl)
    clear h48
    go_wp2_with fail
    refine (peek_at c HP.out (HR1.out.drewN _) hlen hat1).mono ?_
    rintro e w4 ⟨rfl, n4, rfl⟩
    have HR4 := Lib.hid (HR1.out.drewN (n2 + n3 + n4))
    have HB4 := Lib.hid (HB1.out.drewN (n2 + n3 + n4))
    clear HR1 HB1
    clear HC r1 r2
    go_wp2_with fail
    go_loopg [5, 6, 7] (s.length - st1.at_) (fun k n c _ wr => ∃ (st' : Js.St) (m : Int) (x : UInt8), st'.at_ ≤ s.length ∧ n = .int .i64 m ∧ c = .int .u8 x.toNat ∧ Hid (k = s.length - st'.at_) ∧ Hid (Js.peek s st' = x) ∧ Hid (RdAt wr b s st') ∧ Hid (But [b] w wr) ∧ Hid (NumInv s st1 m st'))
    case atStart => exact ⟨st1, 0, c, hat1, rfl, rfl, Lib.hid rfl, HP, HR4, HB4, Lib.hid (NumInv.start _ _)⟩
    case round =>
     obtain ⟨st', m, x, hat', rfl, rfl, HK, HPx, HR, HB, HI⟩ := hrel
     clear HR4 HB4 HP HD
     have HCx := Lib.hid (peek_cases s st' hat')
     rw [HPx.out] at HCx
     obtain ⟨k0, k1, -⟩ := HR.out.cells
     have f1 := HR.out.free 1
     have f5 := HR.out.free 5
     have x256 := x.toNat_lt
     by_cases hd : Js.isDig x = true
     ·obtain ⟨d1, d2⟩ := (isDig_iff x).1 hd
      have hx : s[st'.at_]? = some x := by
       rcases HCx.out with ⟨_, hx⟩ | ⟨_, _, rfl⟩
       ·exact hx
       ·exact absurd hd (by decide)
      have hlt : st'.at_ < s.length := (List.getElem?_eq_some_iff.1 hx).1
      have HI2 := Lib.hid (HI.out.next hx hd)
      have hmlo := HI.out.lo
      have hmhi := HI.out.hi
      clear hx hd x256
      have r1 : (48 : Int) ≤ x.toNat := by omega
      have r2 : (x.toNat : Int) ≤ 57 := by omega
      obtain ⟨-, -, -, -, -, k5⟩ := HR.out.cells
      by_cases hbig : m < Int.tdiv (-9223372036854775808 + ((x.toNat : Int) - 48)) 10
      ·rw [digStep_big hbig] at HI2
       have hr5 : RdAt ((wr.setCell ⟨b, 5, none⟩ (.bool true)).setCell ⟨b, 1, none⟩ (.int .i64 ((st'.at_ : Int) + 1))) b s { Js.step st' with large := true } := (HR.out.toLarge true).step
       have hb5 := HB.out.trans ((HR.out.but 5 (.bool true)).trans ((HR.out.toLarge true).but 1 (.int .i64 ((st'.at_ : Int) + 1))))
       have HR5 := Lib.hid hr5
       have HB5 := Lib.hid hb5
       clear hr5 hb5
       go_wp2_with fail
       obtain ⟨y, hy⟩ : ∃ y, Js.peek s { Js.step st' with large := true } = y := ⟨_, rfl⟩
       have HY := Lib.hid hy
       clear hy
       refine (peek_at y HY.out HR5.out hlen hlt).mono ?_
       rintro e w6 ⟨rfl, n6, rfl⟩
       have HR6 := Lib.hid (HR5.out.drewN n6)
       have HB6 := Lib.hid (HB5.out.drewN n6)
       clear HR5 HB5
       go_wp2_with fail
       go_roundg (s.length - (st'.at_ + 1))
       case measure => rw [HK.out]; omega
       case rel => exact ⟨{ Js.step st' with large := true }, m, y, hlt, rfl, rfl, Lib.hid rfl, HY, HR6, HB6, HI2⟩
      ·rw [digStep_fit hbig] at HI2
       have HR5 : Hid (RdAt (wr.setCell ⟨b, 1, none⟩ (.int .i64 ((st'.at_ : Int) + 1))) b s (Js.step st')) := Lib.hid HR.out.step
       have HB5 := Lib.hid (HB.out.trans (HR.out.but 1 (.int .i64 ((st'.at_ : Int) + 1))))
       have hl1 := HI2.out.lo
       have hl2 := HI2.out.hi
       have hl3 : -9223372036854775808 ≤ 10 * m := by simp only at hl1; omega
       have hl4 : 10 * m ≤ 0 := by omega
       go_wp2_with fail
       obtain ⟨y, hy⟩ : ∃ y, Js.peek s (Js.step st') = y := ⟨_, rfl⟩
       have HY := Lib.hid hy
       clear hy
       refine (peek_at y HY.out HR5.out hlen hlt).mono ?_
       rintro e w6 ⟨rfl, n6, rfl⟩
       have HR6 := Lib.hid (HR5.out.drewN n6)
       have HB6 := Lib.hid (HB5.out.drewN n6)
       clear HR5 HB5
       go_wp2_with fail
       go_roundg (s.length - (st'.at_ + 1))
       case measure => rw [HK.out]; omega
       case rel => exact ⟨Js.step st', 10 * m - ((x.toNat : Int) - 48), y, hlt, rfl, rfl, Lib.hid rfl, HY, HR6, HB6, HI2⟩
     ·obtain ⟨hf1, hf2⟩ := HI.out.done (by
       intro c' hc'
       rcases HCx.out with ⟨_, hx⟩ | ⟨_, hx, _⟩
       ·rw [hx] at hc'; obtain rfl := Option.some.inj hc'; simpa using hd
       ·rw [hx] at hc'; cases hc')
      have HE : Hid (Js.number s st = .ok m st') := Lib.hid (by
       rw [HN2.out, hf1]
       show Js.Res.ok m { ({ st1 with at_ := st1.at_ + (digsAt s st1).length } : Js.St) with large := st'.large } = _
       rw [hf2])
      have hd' : x.toNat < 48 ∨ 57 < x.toNat := by
       rw [isDig_iff] at hd; omega
      clear hd hf1 hf2
      rcases hd' with hc | hc
      ·have r1 : ¬ (48 : Int) ≤ x.toNat := by omega
       go_wp2_with fail
       go_ret
       rw [HE.out]
       exact ⟨rfl, HR.out, HB.out⟩
      ·have r1 : (48 : Int) ≤ x.toNat := by omega
       have r2 : ¬ (x.toNat : Int) ≤ 57 := by omega
       go_wp2_with fail
       go_ret
       rw [HE.out]
       exact ⟨rfl, HR.out, HB.out⟩
  ·have HE : Hid (Js.number s st = .bad st1.at_) := Lib.hid (by
    rw [HN.out]; unfold numRest
    rw [HP.out, if_pos (by simpa using hd)])
   have hd' : c.toNat < 48 ∨ 57 < c.toNat := by
    rw [isDig_iff] at hd; omega
   clear hd
   rcases hd' with hc | hc
   ·have r1 : (c.toNat : Int) < 48 := by omega
    go_wp2_with fail
    refine (fail_any b s st1 _ (HR1.out.drewN _)).mono ?_
    rintro e w' ⟨rfl, rfl⟩
    unfold bad
    go_wp2_with fail
    exact out_bad HE.out rfl (HB1.out.drewN _)
   ·have r1 : ¬ (c.toNat : Int) < 48 := by omega
    have r2 : (57 : Int) < c.toNat := by omega
    go_wp2_with fail
    refine (fail_any b s st1 _ (HR1.out.drewN _)).mono ?_
    rintro e w' ⟨rfl, rfl⟩
    unfold bad
    go_wp2_with fail
    exact out_bad HE.out rfl (HB1.out.drewN _)
 ·have HN : Hid (Js.number s st = numRest s false st) := Lib.hid (by rw [number_eq, if_neg hm, decide_eq_false hm])
  obtain ⟨c, hp⟩ : ∃ c, Js.peek s st = c := ⟨_, rfl⟩
  have hc45 : c ≠ 45 := by rw [← hp]; exact hm
  have q45 : ((c.toNat : Int) == 45) = false := (u8_ne hc45).1
  clear hc45
  have HC := Lib.hid (peek_cases s st hat)
  rw [hp] at HC
  have HP := Lib.hid hp
  clear h hm hp k0 k1
  go_enter Tryz.func89, Tryz.ntmps89
  go_wp2_with fail
  refine (peek_at c HP.out HR0.out hlen hat).mono ?_
  rintro e w1 ⟨rfl, n1, rfl⟩
  obtain ⟨w1, hw1⟩ : ∃ w1, w.drewN n1 = w1 := ⟨_, rfl⟩
  have HR1 : Hid (RdAt w1 b s st) := Lib.hid (by rw [← hw1]; exact HR0.out.drewN n1)
  have HB1 : Hid (But [b] w w1) := Lib.hid (by rw [← hw1]; exact (But.refl [b] w).drewN n1)
  rw [hw1]
  clear hw1 f1 HR0
  go_wp2_with fail
  refine (peek_at c HP.out HR1.out hlen hat).mono ?_
  rintro e w2 ⟨rfl, n2, rfl⟩
  by_cases hd : Js.isDig c = true
  ·obtain ⟨d1, d2⟩ := (isDig_iff c).1 hd
   have r1 : ¬ (c.toNat : Int) < 48 := by omega
   have r2 : ¬ (57 : Int) < c.toNat := by omega
   have HD := Lib.hid hd
   clear hd
   go_wp2_with fail
   refine (peek_at c HP.out (HR1.out.drewN _) hlen hat).mono ?_
   rintro e w3 ⟨rfl, n3, rfl⟩
   by_cases h48 : c = 48
   ·have HE : Hid (Js.number s st = .ok 0 (Js.step st)) := Lib.hid (by
     rw [HN.out]; unfold numRest
     rw [HP.out, HD.out, h48]; rfl)
    have q48 : ((c.toNat : Int) == 48) = true := u8_eq h48
    obtain ⟨k0, k1, -⟩ := HR1.out.cells
    have f1 := HR1.out.free 1
    clear h48
    go_wp2_with fail
    go_ret
    rw [HE.out]
    exact ⟨rfl, (HR1.out.drewN _).step, (HB1.out.drewN _).trans ((HR1.out.drewN _).but 1 _)⟩
   ·have q48 : ((c.toNat : Int) == 48) = false := (u8_ne h48).1
    have HN2 : Hid (Js.number s st = .ok (if ((digsAt s st).foldl Js.digStep (0, st.large)).1 = -9223372036854775808 then -9223372036854775808 else -((digsAt s st).foldl Js.digStep (0, st.large)).1) { st with at_ := st.at_ + (digsAt s st).length, large := ((digsAt s st).foldl Js.digStep (0, st.large)).2 || decide (((digsAt s st).foldl Js.digStep (0, st.large)).1 = -9223372036854775808) }) := Lib.hid (by
     rw [HN.out]; unfold numRest
     rw [HP.out, HD.out, if_neg (by simp), if_neg h48]; rfl)
    clear h48
    go_wp2_with fail
    refine (peek_at c HP.out (HR1.out.drewN _) hlen hat).mono ?_
    rintro e w4 ⟨rfl, n4, rfl⟩
    have HR4 := Lib.hid (HR1.out.drewN (n2 + n3 + n4))
    have HB4 := Lib.hid (HB1.out.drewN (n2 + n3 + n4))
    clear HR1 HB1
    clear HC r1 r2
    go_wp2_with fail
    go_loopg [5, 6, 7] (s.length - st.at_) (fun k n c _ wr => ∃ (st' : Js.St) (m : Int) (x : UInt8), st'.at_ ≤ s.length ∧ n = .int .i64 m ∧ c = .int .u8 x.toNat ∧ Hid (k = s.length - st'.at_) ∧ Hid (Js.peek s st' = x) ∧ Hid (RdAt wr b s st') ∧ Hid (But [b] w wr) ∧ Hid (NumInv s st m st'))
    case atStart => exact ⟨st, 0, c, hat, rfl, rfl, Lib.hid rfl, HP, HR4, HB4, Lib.hid (NumInv.start _ _)⟩
    case round =>
     obtain ⟨st', m, x, hat', rfl, rfl, HK, HPx, HR, HB, HI⟩ := hrel
     clear HR4 HB4 HP HD
     have HCx := Lib.hid (peek_cases s st' hat')
     rw [HPx.out] at HCx
     obtain ⟨k0, k1, -⟩ := HR.out.cells
     have f1 := HR.out.free 1
     have f5 := HR.out.free 5
     have x256 := x.toNat_lt
     by_cases hd : Js.isDig x = true
     ·obtain ⟨d1, d2⟩ := (isDig_iff x).1 hd
      have hx : s[st'.at_]? = some x := by
       rcases HCx.out with ⟨_, hx⟩ | ⟨_, _, rfl⟩
       ·exact hx
       ·exact absurd hd (by decide)
      have hlt : st'.at_ < s.length := (List.getElem?_eq_some_iff.1 hx).1
      have HI2 := Lib.hid (HI.out.next hx hd)
      have hmlo := HI.out.lo
      have hmhi := HI.out.hi
      clear hx hd x256
      have r1 : (48 : Int) ≤ x.toNat := by omega
      have r2 : (x.toNat : Int) ≤ 57 := by omega
      obtain ⟨-, -, -, -, -, k5⟩ := HR.out.cells
      by_cases hbig : m < Int.tdiv (-9223372036854775808 + ((x.toNat : Int) - 48)) 10
      ·rw [digStep_big hbig] at HI2
       have hr5 : RdAt ((wr.setCell ⟨b, 5, none⟩ (.bool true)).setCell ⟨b, 1, none⟩ (.int .i64 ((st'.at_ : Int) + 1))) b s { Js.step st' with large := true } := (HR.out.toLarge true).step
       have hb5 := HB.out.trans ((HR.out.but 5 (.bool true)).trans ((HR.out.toLarge true).but 1 (.int .i64 ((st'.at_ : Int) + 1))))
       have HR5 := Lib.hid hr5
       have HB5 := Lib.hid hb5
       clear hr5 hb5
       go_wp2_with fail
       obtain ⟨y, hy⟩ : ∃ y, Js.peek s { Js.step st' with large := true } = y := ⟨_, rfl⟩
       have HY := Lib.hid hy
       clear hy
       refine (peek_at y HY.out HR5.out hlen hlt).mono ?_
       rintro e w6 ⟨rfl, n6, rfl⟩
       have HR6 := Lib.hid (HR5.out.drewN n6)
       have HB6 := Lib.hid (HB5.out.drewN n6)
       clear HR5 HB5
       go_wp2_with fail
       go_roundg (s.length - (st'.at_ + 1))
       case measure => rw [HK.out]; omega
       case rel => exact ⟨{ Js.step st' with large := true }, m, y, hlt, rfl, rfl, Lib.hid rfl, HY, HR6, HB6, HI2⟩
      ·rw [digStep_fit hbig] at HI2
       have HR5 : Hid (RdAt (wr.setCell ⟨b, 1, none⟩ (.int .i64 ((st'.at_ : Int) + 1))) b s (Js.step st')) := Lib.hid HR.out.step
       have HB5 := Lib.hid (HB.out.trans (HR.out.but 1 (.int .i64 ((st'.at_ : Int) + 1))))
       have hl1 := HI2.out.lo
       have hl2 := HI2.out.hi
       have hl3 : -9223372036854775808 ≤ 10 * m := by simp only at hl1; omega
       have hl4 : 10 * m ≤ 0 := by omega
       go_wp2_with fail
       obtain ⟨y, hy⟩ : ∃ y, Js.peek s (Js.step st') = y := ⟨_, rfl⟩
       have HY := Lib.hid hy
       clear hy
       refine (peek_at y HY.out HR5.out hlen hlt).mono ?_
       rintro e w6 ⟨rfl, n6, rfl⟩
       have HR6 := Lib.hid (HR5.out.drewN n6)
       have HB6 := Lib.hid (HB5.out.drewN n6)
       clear HR5 HB5
       go_wp2_with fail
       go_roundg (s.length - (st'.at_ + 1))
       case measure => rw [HK.out]; omega
       case rel => exact ⟨Js.step st', 10 * m - ((x.toNat : Int) - 48), y, hlt, rfl, rfl, Lib.hid rfl, HY, HR6, HB6, HI2⟩
     ·obtain ⟨hf1, hf2⟩ := HI.out.done (by
       intro c' hc'
       rcases HCx.out with ⟨_, hx⟩ | ⟨_, hx, _⟩
       ·rw [hx] at hc'; obtain rfl := Option.some.inj hc'; simpa using hd
       ·rw [hx] at hc'; cases hc')
      have hmlo := HI.out.lo
      have hmhi := HI.out.hi
      have HE : Hid (Js.number s st = .ok (if m = -9223372036854775808 then -9223372036854775808 else -m) { st' with large := st'.large || decide (m = -9223372036854775808) }) := Lib.hid (by
       rw [HN2.out, hf1]
       show Js.Res.ok (if m = -9223372036854775808 then -9223372036854775808 else -m) { ({ st with at_ := st.at_ + (digsAt s st).length } : Js.St) with large := st'.large || decide (m = -9223372036854775808) } = _
       rw [hf2])
      have hd' : x.toNat < 48 ∨ 57 < x.toNat := by
       rw [isDig_iff] at hd; omega
      obtain ⟨-, -, -, -, -, k5⟩ := HR.out.cells
      have f5 := HR.out.free 5
      clear hd hf1 hf2 HI
      obtain ⟨L, hL⟩ : ∃ L, st'.large = L := ⟨_, rfl⟩
      rw [hL] at k5 HE
      have HLL := Lib.hid hL
      clear hL
      by_cases hM : m = -9223372036854775808
      ·have HE2 : Hid (Js.number s st = .ok (-9223372036854775808) { st' with large := true }) := Lib.hid (by rw [HE.out, if_pos hM, decide_eq_true hM, Bool.or_true])
       have qM : (m == -9223372036854775808) = true := by simpa using hM
       have HMM := Lib.hid hM
       have hneg : wrap64 (-m) = -9223372036854775808 := by rw [hM]; exact wrap_min
       have HNG := Lib.hid hneg
       clear hM hneg
       rcases hd' with hc | hc
       ·have r1 : ¬ (48 : Int) ≤ x.toNat := by omega
        cases L
        all_goals
         go_wp2_with fail
         go_ret
         rw [HE2.out]
         exact ⟨ret_int HNG.out, HR.out.toLarge true, HB.out.trans (HR.out.but 5 _)⟩
       ·have r1 : (48 : Int) ≤ x.toNat := by omega
        have r2 : ¬ (x.toNat : Int) ≤ 57 := by omega
        cases L
        all_goals
         go_wp2_with fail
         go_ret
         rw [HE2.out]
         exact ⟨ret_int HNG.out, HR.out.toLarge true, HB.out.trans (HR.out.but 5 _)⟩
      ·have HE2 : Hid (Js.number s st = .ok (-m) { st' with large := L }) := Lib.hid (by rw [HE.out, if_neg hM, decide_eq_false hM, Bool.or_false])
       have qM : (m == -9223372036854775808) = false := by simpa using hM
       have hm1 : -m ≤ 9223372036854775807 := by omega
       have hm2 : 0 ≤ -m := by omega
       clear hM
       rcases hd' with hc | hc
       ·have r1 : ¬ (48 : Int) ≤ x.toNat := by omega
        cases L
        all_goals
         go_wp2_with fail
         go_ret
         rw [HE2.out]
         exact ⟨rfl, HR.out.toLarge _, HB.out.trans (HR.out.but 5 _)⟩
       ·have r1 : (48 : Int) ≤ x.toNat := by omega
        have r2 : ¬ (x.toNat : Int) ≤ 57 := by omega
        cases L
        all_goals
         go_wp2_with fail
         go_ret
         rw [HE2.out]
         exact ⟨rfl, HR.out.toLarge _, HB.out.trans (HR.out.but 5 _)⟩
  ·have HE : Hid (Js.number s st = .bad st.at_) := Lib.hid (by
    rw [HN.out]; unfold numRest
    rw [HP.out, if_pos (by simpa using hd)])
   have hd' : c.toNat < 48 ∨ 57 < c.toNat := by
    rw [isDig_iff] at hd; omega
   clear hd
   rcases hd' with hc | hc
   ·have r1 : (c.toNat : Int) < 48 := by omega
    go_wp2_with fail
    refine (fail_any b s st _ (HR1.out.drewN _)).mono ?_
    rintro e w' ⟨rfl, rfl⟩
    unfold bad
    go_wp2_with fail
    exact out_bad HE.out rfl (HB1.out.drewN _)
   ·have r1 : ¬ (c.toNat : Int) < 48 := by omega
    have r2 : (57 : Int) < c.toNat := by omega
    go_wp2_with fail
    refine (fail_any b s st _ (HR1.out.drewN _)).mono ?_
    rintro e w' ⟨rfl, rfl⟩
    unfold bad
    go_wp2_with fail
    exact out_bad HE.out rfl (HB1.out.drewN _)
end Go.Proofs.YtimioelnnhnbiaaGreatDoor
