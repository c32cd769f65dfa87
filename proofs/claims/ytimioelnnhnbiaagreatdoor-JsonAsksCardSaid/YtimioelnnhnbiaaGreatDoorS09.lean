/-
  Joined: WO Enough WP Meas. CONDITIONS: as each law says.
-/
import Derived.Test.YtimioelnnhnbiaaGreatDoorS08
import Derived.Test.YtimioelnnhnbiaaGreatDoorS00
namespace Go.Proofs.YtimioelnnhnbiaaGreatDoor
open Go.RowKit
def spot (e a : Int) : Value := .agg #[.int .i64 e, .int .i64 a]
def DOut (w : World) (s : Js.Bs) : Js.Res Js.J → Ending → World → Prop
 | .ok x st, e, w' => Below w.heap.size w w' ∧ (if st.at_ < s.length then e = .returned (.tuple #[zeroJ, spot 330 st.at_]) else if st.large = true then e = .returned (.tuple #[zeroJ, spot 2 0]) else ∃ vs, e = .returned (.tuple #[.agg vs.toArray, spot 0 0]) ∧ JV w' (fun g => w.heap.size ≤ g) x vs)
 | .bad k, e, w' => Below w.heap.size w w' ∧ e = .returned (.tuple #[zeroJ, spot 330 k])
 | .out, _, _ => False
set_option maxRecDepth 100000 in
set_option maxHeartbeats 8000000 in
theorem decode_any (s : Js.Bs) (hlen : s.length ≤ 1073741824) (n : Nat) (hne : Js.value s n Js.st0 ≠ .out) (w : World) :
  Calls Tryz.prog 16 #[.string (str s)] w (DOut w s (Js.value s n Js.st0)) := by
 have HNE := Lib.hid hne
 have hmf : ∀ (fn : Fn) (first cap : Array Value) (w : World), (Instr.makeFunc fn first cap).run Tryz.prog w = .ok (.func fn first cap) w := fun _ _ _ _ => rfl
 have hz := str_size s
 have b1 := below_box w (.cells #[.int .i64 0, .bool false, .int .i64 0, .string ⟨#[]⟩, .slice none 0 0, .slice none 0 0] 25)
 have n1 : JBox _ w.heap.size _ _ _ _ _ _ := heap_alloc_new w (.cells #[.int .i64 0, .bool false, .int .i64 0, .string ⟨#[]⟩, .slice none 0 0, .slice none 0 0] 25)
 have s1 : (w.alloc (.cells #[.int .i64 0, .bool false, .int .i64 0, .string ⟨#[]⟩, .slice none 0 0, .slice none 0 0] 25)).heap.size = w.heap.size + 1 := by simp
 have b2 := below_box (w.alloc (.cells #[.int .i64 0, .bool false, .int .i64 0, .string ⟨#[]⟩, .slice none 0 0, .slice none 0 0] 25)) (.cells #[.int .i64 0, .int .i64 0] 61)
 have n2 : SBox _ _ _ _ := heap_alloc_new (w.alloc (.cells #[.int .i64 0, .bool false, .int .i64 0, .string ⟨#[]⟩, .slice none 0 0, .slice none 0 0] 25)) (.cells #[.int .i64 0, .int .i64 0] 61)
 have s2 : ((w.alloc (.cells #[.int .i64 0, .bool false, .int .i64 0, .string ⟨#[]⟩, .slice none 0 0, .slice none 0 0] 25)).alloc (.cells #[.int .i64 0, .int .i64 0] 61)).heap.size = w.heap.size + 1 + 1 := by simp
 have b3 := below_box ((w.alloc (.cells #[.int .i64 0, .bool false, .int .i64 0, .string ⟨#[]⟩, .slice none 0 0, .slice none 0 0] 25)).alloc (.cells #[.int .i64 0, .int .i64 0] 61)) (.cells #[.string (str s), .int .i64 0, .int .i64 0, .int .i64 0, .int .i64 0, .bool false] 105)
 have n3 : RdAt _ _ s Js.st0 := heap_alloc_new ((w.alloc (.cells #[.int .i64 0, .bool false, .int .i64 0, .string ⟨#[]⟩, .slice none 0 0, .slice none 0 0] 25)).alloc (.cells #[.int .i64 0, .int .i64 0] 61)) (.cells #[.string (str s), .int .i64 0, .int .i64 0, .int .i64 0, .int .i64 0, .bool false] 105)
 rw [s1] at n2
 rw [s2] at n3
 have HX := Lib.hid ((n1.next b2).next b3)
 have HS : Hid (SBox _ (w.heap.size + 1) 0 0) := Lib.hid (blk_next b3 n2)
 have HR := Lib.hid n3
 have HB := Lib.hid ((b1.trans (b2.mono b1.size)).trans (b3.mono (by rw [s2]; omega)))
 clear hne b1 n1 s1 b2 n2 s2 b3 n3
 go_enter_defers Tryz.func16, Tryz.ntmps16
 go_wp2_with fail
 generalize (((w.alloc (.cells #[.int .i64 0, .bool false, .int .i64 0, .string ⟨#[]⟩, .slice none 0 0, .slice none 0 0] 25)).alloc (.cells #[.int .i64 0, .int .i64 0] 61)).alloc (.cells #[.string (str s), .int .i64 0, .int .i64 0, .int .i64 0, .int .i64 0, .bool false] 105)) = w1 at HX HS HR HB ⊢
 have HDEF : Hid (∀ r e w', DOut w s r e w' ↔ DOut w s r e w') := Lib.hid (fun _ _ _ => Iff.rfl)
 obtain ⟨N, hN⟩ : ∃ N, w.heap.size = N := ⟨_, rfl⟩
 rw [hN] at HX HS HR HB ⊢
 have HN := Lib.hid hN
 clear hN HDEF
 have hF : Fine s Js.st0 := ⟨Nat.zero_le _, Nat.le_refl _, Nat.le_refl _, Nat.le_refl _⟩
 have HST := Lib.hid (fun x st' h => (steps s n).value Js.st0 x st' h hF)
 refine ((value_all (N + 1 + 1) s hlen n).1 Js.st0 _ HR.out hF HNE.out).mono ?_
 intro e w2 ho
 obtain ⟨r, hr⟩ : ∃ r, Js.value s n Js.st0 = r := ⟨_, rfl⟩
 rw [hr] at ho ⊢
 have HRQ := Lib.hid hr
 clear hr hF
 cases r with
 | out => exact ho.elim
 | bad k =>
  obtain ⟨rfl, hb2⟩ := ho
  have HX2 := Lib.hid (HX.out.but hb2 (by simp; omega))
  have HS2 : Hid (SBox w2 (N + 1) 0 0) := Lib.hid (hb2.blk HS.out (by simp))
  have HB2 := Lib.hid (HB.out.trans (hb2.to (Nat.le_of_lt HX.out.lt) (by intro j hj; simp at hj; omega)))
  clear hb2 HX HS HB HR
  unfold bad
  go_wp2_with fail
  refine leaves_cons (f := 48) (args := #[.pointer (some ⟨N, 0, none⟩), .pointer (some ⟨N + 1, 0, none⟩)]) (by simp) (by simp [go_sem]) ?_
  refine (catch_bad N (N + 1) k _ (by omega) _ _ _ _ _ _ _ _ HX2.out HS2.out).mono ?_
  rintro e9 u9 w9 ⟨rfl, rfl, hb9, hx9, hs9⟩
  show Leaves _ _ _ _ [] .returning _
  have HB9 := HB2.out.trans (hb9.to (Nat.le_of_lt HX2.out.lt) (by intro j hj; simp at hj; omega))
  refine ⟨_, results_row2 rfl _ _ _ N (N + 1) _ _ rfl (j25_load hx9) rfl (s34_load hs9), ?_⟩
  exact ⟨by rw [HN.out]; exact HB9, rfl⟩
 | ok x st2 =>
  obtain ⟨⟨vs, rfl, hjv⟩, hr2, hb2⟩ := ho
  obtain ⟨A5, c5, A6, c6, k0, b0, n0, t0, l5, l6, rfl⟩ := hjv.shape
  have hat2 := (HST.out x st2 HRQ.out).1.at_
  have HX2 := Lib.hid (HX.out.but hb2 (by simp; omega))
  have HS2 : Hid (SBox w2 (N + 1) 0 0) := Lib.hid (hb2.blk HS.out (by simp))
  have HB2 := Lib.hid (HB.out.trans (hb2.to (Nat.le_of_lt HX.out.lt) (by intro j hj; simp at hj; omega)))
  have HJ2 : Hid (JV w2 (fun g => N + 2 < g) x [.int .i64 k0, .bool b0, .int .i64 n0, .string t0, .slice A5 l5 c5, .slice A6 l6 c6]) := Lib.hid (hjv.wide (fun g hg _ => Nat.lt_of_lt_of_le HR.out.lt hg))
  have hst := j25_set (.int .i64 k0) (.bool b0) (.int .i64 n0) (.string t0) (.slice A5 l5 c5) (.slice A6 l6 c6) HX2.out
  unfold set6 at hst
  obtain ⟨f0, f1, f2, f3, f4, f5⟩ := HX2.out.frees
  obtain ⟨c0, c1, c2, c3, c4, c5'⟩ := HX2.out.cells
  have HX3 := Lib.hid hst.2
  have HR3 := Lib.hid (show RdAt _ (N + 1 + 1) s st2 from hst.1.blk hr2 (by simp; omega))
  have HS3 : Hid (SBox _ (N + 1) 0 0) := Lib.hid (hst.1.blk HS2.out (by simp))
  have HB3 := Lib.hid (HB2.out.trans (hst.1.to (Nat.le_of_lt HX2.out.lt) (by intro j hj; simp at hj; omega)))
  have HJ3 := Lib.hid (HJ2.out.but hst.1 (by intro j hj; simp at hj; subst hj; omega))
  clear hjv hr2 hb2 HX HS HB HR hst HST
  have hNl := HX2.out.lt
  have k1 := HR3.out.cells.2.1
  have k5 := HR3.out.cells.2.2.2.2.2
  have HNE3 : Hid (N + 1 + 1 ≠ N) := Lib.hid (by omega)
  go_upto_region 4 with fail
  generalize ((((((w2.setCell ⟨N, 0, none⟩ (.int .i64 k0)).setCell ⟨N, 1, none⟩ (.bool b0)).setCell ⟨N, 2, none⟩ (.int .i64 n0)).setCell ⟨N, 3, none⟩ (.string t0)).setCell ⟨N, 4, none⟩ (.slice A5 l5 c5)).setCell ⟨N, 5, none⟩ (.slice A6 l6 c6)) = w3 at HX3 HR3 HS3 HB3 HJ3 k1 k5 ⊢
  clear HX2 HS2 HB2 HJ2 f0 f1 f2 f3 f4 f5 c0 c1 c2 c3 c4 c5' hNl
  by_cases hend : st2.at_ < s.length
  ·have q : decide ((st2.at_ : Int) < (s.length : Int)) = true := by simp; omega
   have HEND := Lib.hid hend
   clear hend
   go_wp2_with fail
   refine (fail_any (N + 1 + 1) s st2 _ HR3.out).mono ?_
   rintro e w' ⟨rfl, rfl⟩
   unfold bad
   go_wp2_with fail
   refine leaves_cons (f := 48) (args := #[.pointer (some ⟨N, 0, none⟩), .pointer (some ⟨N + 1, 0, none⟩)]) (by simp) (by simp [go_sem]) ?_
   refine (catch_bad N (N + 1) st2.at_ _ (by omega) _ _ _ _ _ _ _ _ HX3.out HS3.out).mono ?_
   rintro e9 u9 w9 ⟨rfl, rfl, hb9, hx9, hs9⟩
   show Leaves _ _ _ _ [] .returning _
   have HB9 := HB3.out.trans (hb9.to (Nat.le_of_lt HX3.out.lt) (by intro j hj; simp at hj; omega))
   refine ⟨_, results_row2 rfl _ _ _ N (N + 1) _ _ rfl (j25_load hx9) rfl (s34_load hs9), ?_⟩
   rw [HRQ.out]
   exact ⟨by rw [HN.out]; exact HB9, by rw [if_pos HEND.out]; rfl⟩
  ·have q : decide ((st2.at_ : Int) < (s.length : Int)) = false := by simp; omega
   have HEND := Lib.hid hend
   clear hend
   obtain ⟨x0, x1, x2, x3, x4, x5⟩ := HX3.out.cells
   obtain ⟨f0, f1, f2, f3, f4, f5⟩ := HX3.out.frees
   obtain ⟨d0, d1, g0, g1⟩ := HS3.out.cells
   obtain ⟨L, hL⟩ : ∃ L, st2.large = L := ⟨_, rfl⟩
   rw [hL] at k5
   have HL := Lib.hid hL
   clear hL
   cases L
   ·go_wp2_with fail
    have h1 := j25_set (.int .i64 k0) (.bool b0) (.int .i64 n0) (.string t0) (.slice A5 l5 c5) (.slice A6 l6 c6) HX3.out
    unfold set6 at h1
    have h2 := s34_set 0 0 (show SBox _ (N + 1) 0 0 from h1.1.blk HS3.out (by simp))
    have hx9 := h1.2.but h2.1 (by simp)
    have HB9 := HB3.out.trans ((h1.1.to (Nat.le_of_lt HX3.out.lt) (by intro j hj; simp at hj; omega)).trans (h2.1.to (Nat.le_trans (Nat.le_of_lt HX3.out.lt) h1.1.size) (by intro j hj; simp at hj; omega)))
    have HJ9 := (HJ3.out.but h1.1 (by intro j hj; simp at hj; subst hj; omega)).but h2.1 (by intro j hj; simp at hj; subst hj; omega)
    refine leaves_cons (f := 48) (args := #[.pointer (some ⟨N, 0, none⟩), .pointer (some ⟨N + 1, 0, none⟩)]) (by simp) (by simp [go_sem]) ?_
    refine (catch_idle N (N + 1) _).mono ?_
    rintro e9 u9 w9 ⟨rfl, rfl, rfl⟩
    show Leaves _ _ _ _ [] .returning _
    refine ⟨_, results_row2 rfl _ _ _ N (N + 1) _ _ rfl (j25_load hx9) rfl (s34_load h2.2), ?_⟩
    rw [HRQ.out]
    refine ⟨by rw [HN.out]; exact HB9, ?_⟩
    rw [if_neg HEND.out, HL.out, if_neg (by simp)]
    exact ⟨_, rfl, HJ9.wide (fun g hg _ => by rw [HN.out]; omega)⟩
   ·go_wp2_with fail
    have h1 := j25_set (.int .i64 0) (.bool false) (.int .i64 0) (.string ⟨#[]⟩) (.slice none 0 0) (.slice none 0 0) HX3.out
    unfold set6 at h1
    have h2 := s34_set 2 0 (show SBox _ (N + 1) 0 0 from h1.1.blk HS3.out (by simp))
    have hx9 := h1.2.but h2.1 (by simp)
    have HB9 := HB3.out.trans ((h1.1.to (Nat.le_of_lt HX3.out.lt) (by intro j hj; simp at hj; omega)).trans (h2.1.to (Nat.le_trans (Nat.le_of_lt HX3.out.lt) h1.1.size) (by intro j hj; simp at hj; omega)))
    refine leaves_cons (f := 48) (args := #[.pointer (some ⟨N, 0, none⟩), .pointer (some ⟨N + 1, 0, none⟩)]) (by simp) (by simp [go_sem]) ?_
    refine (catch_idle N (N + 1) _).mono ?_
    rintro e9 u9 w9 ⟨rfl, rfl, rfl⟩
    show Leaves _ _ _ _ [] .returning _
    refine ⟨_, results_row2 rfl _ _ _ N (N + 1) _ _ rfl (j25_load hx9) rfl (s34_load h2.2), ?_⟩
    rw [HRQ.out]
    refine ⟨by rw [HN.out]; exact HB9, ?_⟩
    rw [if_neg HEND.out, HL.out, if_pos rfl]
    rfl
end Go.Proofs.YtimioelnnhnbiaaGreatDoor
namespace Go.Proofs.YtimioelnnhnbiaaGreatDoor
theorem bind_out {α β : Type} {r : Js.Res α} {f : α → Js.St → Js.Res β} (h : r ≠ .out) (h2 : ∀ a st, r = .ok a st → f a st ≠ .out) : r.bind f ≠ .out := by
 cases r with
 | ok a st => exact h2 a st rfl
 | bad k => intro e; cases e
 | out => exact absurd rfl h
theorem take_out (s : Js.Bs) (c : UInt8) (st : Js.St) : Js.take s c st ≠ .out := by
 rcases take_inv s c st with h | h <;> rw [h] <;> exact fun e => by cases e
theorem word_out (s l : Js.Bs) (st : Js.St) : Js.word s l st ≠ .out := by
 rcases word_inv s l st with ⟨st', h, _⟩ | ⟨k, h⟩ <;> rw [h] <;> exact fun e => by cases e
theorem numRest_out (s : Js.Bs) (q : Bool) (st : Js.St) : numRest s q st ≠ .out := by
 unfold numRest
 split
 ·exact fun e => by cases e
 split
 ·exact fun e => by cases e
 ·simp only
  split <;> exact fun e => by cases e
theorem number_out (s : Js.Bs) (st : Js.St) : Js.number s st ≠ .out := by rw [number_eq]; exact numRest_out _ _ _
theorem textGo_out (s : Js.Bs) : ∀ (n : Nat) (acc : Js.Bs) (st : Js.St), st.at_ ≤ s.length → s.length - st.at_ + 1 ≤ n → Js.textGo s n acc st ≠ .out
 | 0, _, st, _, h => absurd h (by omega)
 | n + 1, acc, st, hat, hn => by
  cases hx : s[st.at_]? with
  | none => rw [textGo_end hx]; exact fun e => by cases e
  | some c =>
   have hlt := (List.getElem?_eq_some_iff.1 hx).1
   by_cases h1 : c = 34
   ·subst h1; rw [textGo_quote hx]; exact fun e => by cases e
   ·by_cases h2 : c.toNat < 32 ∨ 126 < c.toNat
    ·rw [textGo_ctl hx h1 h2]; exact fun e => by cases e
    ·by_cases h3 : c = 92
     ·subst h3
      rw [textGo_esc hx]
      rcases pair_inv s (Js.step st) with ⟨d, p, hp, ha, hb⟩ | ⟨k, hp⟩
      ·rw [hp]
       exact textGo_out s n _ _ hb (by have : st.at_ + 1 + 1 ≤ p := ha; show s.length - p + 1 ≤ n; omega)
      ·rw [hp]; exact fun e => by cases e
     ·rw [textGo_one hx h1 h2 h3]
      exact textGo_out s n _ _ hlt (by show s.length - (st.at_ + 1) + 1 ≤ n; omega)
theorem text_out (s : Js.Bs) (st : Js.St) : Js.text s st ≠ .out := by
 unfold Js.text
 refine bind_out (take_out s 34 st) fun _ st1 h1 => bind_out ?_ fun _ _ _ => fun e => by cases e
 obtain ⟨rfl, h2⟩ := take_ok h1
 exact textGo_out s _ _ _ h2 (by omega)
structure Enough (s : Js.Bs) (n : Nat) : Prop where
 value : ∀ st, Fine s st → 3 * (s.length - st.at_) + 2 ≤ n → Js.value s n st ≠ .out
 inner : ∀ st, Near s st → 3 * (s.length - st.at_) + 1 ≤ n → Js.inner s n st ≠ .out
 items : ∀ acc st, Fine s st → 3 * (s.length - st.at_) + 3 ≤ n → Js.items s n acc st ≠ .out
 members : ∀ acc st, Fine s st → 3 * (s.length - st.at_) + 3 ≤ n → Js.members s n acc st ≠ .out
theorem enough (s : Js.Bs) : ∀ n, Enough s n
 | 0 => ⟨(fun _ _ h => absurd h (by omega)), (fun _ _ h => absurd h (by omega)), (fun _ _ _ h => absurd h (by omega)), (fun _ _ _ h => absurd h (by omega))⟩
 | n + 1 => by
  have ih := enough s n
  have sp := steps s n
  refine ⟨?_, ?_, ?_, ?_⟩
  ·intro st hF hn
   unfold Js.value
   obtain ⟨⟨b1, b2, b3, b4⟩, b5, b6⟩ := hF.blanks
   refine bind_out (ih.inner _ ⟨b1, (by show (Js.blanks s st).deep + 1 ≤ (Js.blanks s st).at_ + 1; omega), (by show (Js.blanks s st).nodes + 1 ≤ (Js.blanks s st).at_ + 1; omega), b4⟩ (by show 3 * (s.length - (Js.blanks s st).at_) + 1 ≤ n; omega)) fun _ _ _ => fun e => by cases e
  ·intro st hN hn
   obtain ⟨n1, n2, n3, n4⟩ := hN
   unfold Js.inner
   simp only
   split
   ·exact bind_out (word_out _ _ _) fun _ _ _ => fun e => by cases e
   split
   ·exact bind_out (word_out _ _ _) fun _ _ _ => fun e => by cases e
   split
   ·exact bind_out (word_out _ _ _) fun _ _ _ => fun e => by cases e
   split
   ·exact bind_out (text_out _ _) fun _ _ _ => fun e => by cases e
   split
   ·exact bind_out (number_out _ _) fun _ _ _ => fun e => by cases e
   split
   ·rename_i h91
    have hlt := (List.getElem?_eq_some_iff.1 (peek_some h91 (by decide) n1)).1
    have hF : Fine s (Js.step st) := ⟨hlt, n2, n3, by show st.bytes ≤ st.at_ + 1; omega⟩
    obtain ⟨b1, b2, b3⟩ := hF.blanks
    have b3 : st.at_ + 1 ≤ _ := b3
    split
    ·exact fun e => by cases e
    ·exact bind_out (ih.items _ _ b1 (by omega)) fun _ _ _ => fun e => by cases e
   split
   ·rename_i h123
    have hlt := (List.getElem?_eq_some_iff.1 (peek_some h123 (by decide) n1)).1
    have hF : Fine s (Js.step st) := ⟨hlt, n2, n3, by show st.bytes ≤ st.at_ + 1; omega⟩
    obtain ⟨b1, b2, b3⟩ := hF.blanks
    have b3 : st.at_ + 1 ≤ _ := b3
    split
    ·exact fun e => by cases e
    ·exact bind_out (ih.members _ _ b1 (by omega)) fun _ _ _ => fun e => by cases e
   ·exact fun e => by cases e
  ·intro acc st hF hn
   rw [items_succ, bind_assoc]
   refine bind_out (ih.value _ hF (by omega)) fun x st1 h1 => ?_
   obtain ⟨f1, f2, f3⟩ := sp.value _ _ _ h1 hF
   show (if Js.peek s st1 = 93 then Js.Res.ok (acc ++ [x]) (Js.step st1) else (Js.take s 44 st1).bind fun _ st => Js.items s n (acc ++ [x]) st) ≠ .out
   split
   ·exact fun e => by cases e
   ·refine bind_out (take_out _ _ _) fun _ st2 h2 => ?_
    obtain ⟨rfl, h3⟩ := take_ok h2
    exact ih.items _ _ (f1.step h3) (by show 3 * (s.length - (st1.at_ + 1)) + 3 ≤ n; have := f1.at_; omega)
  ·intro acc st hF hn
   rw [members_succ]
   unfold memberOne
   obtain ⟨b1, b2, b3⟩ := hF.blanks
   simp only [bind_assoc, ok_bind]
   refine bind_out (text_out _ _) fun nm st1 h1 => ?_
   obtain ⟨t1, t2, t3, t4, t5⟩ := text_at h1
   have hF1 : Fine s st1 := by
    obtain ⟨c1, c2, c3, c4⟩ := b1
    exact ⟨t1, by omega, by omega, by omega⟩
   obtain ⟨d1, d2, d3⟩ := hF1.blanks
   refine bind_out (take_out _ _ _) fun _ st2 h2 => ?_
   obtain ⟨rfl, k1⟩ := take_ok h2
   have hF2 : Fine s { Js.step (Js.blanks s st1) with large := (Js.step (Js.blanks s st1)).large || acc.any fun m => decide (m.1 = nm) } := by
    obtain ⟨c1, c2, c3, c4⟩ := d1
    exact ⟨k1, by show (Js.blanks s st1).deep ≤ (Js.blanks s st1).at_ + 1; omega, by show (Js.blanks s st1).nodes ≤ (Js.blanks s st1).at_ + 1; omega, by show (Js.blanks s st1).bytes ≤ (Js.blanks s st1).at_ + 1; omega⟩
   refine bind_out (ih.value _ hF2 (by show 3 * (s.length - ((Js.blanks s st1).at_ + 1)) + 2 ≤ n; omega)) fun x st3 h5 => ?_
   obtain ⟨f1, f2, f3⟩ := sp.value _ _ _ h5 hF2
   have f3 : (Js.blanks s st1).at_ + 1 < st3.at_ := f3
   split
   ·exact fun e => by cases e
   ·refine bind_out (take_out _ _ _) fun _ st4 h6 => ?_
    obtain ⟨rfl, h7⟩ := take_ok h6
    exact ih.members _ _ (f1.step h7) (by show 3 * (s.length - (st3.at_ + 1)) + 3 ≤ n; have := f1.at_; omega)
def run (s : Js.Bs) : Js.Res Js.J := Js.value s (4 * s.length + 8) Js.st0
theorem fine0 (s : Js.Bs) : Fine s Js.st0 := ⟨Nat.zero_le _, Nat.le_refl _, Nat.le_refl _, Nat.le_refl _⟩
theorem run_out (s : Js.Bs) : run s ≠ .out := (enough s _).value Js.st0 (fine0 s) (by show 3 * (s.length - 0) + 2 ≤ _; omega)
open Go.RowKit in
theorem decode_run (s : Js.Bs) (hlen : s.length ≤ 1073741824) (w : World) : Calls Tryz.prog 16 #[.string (str s)] w (DOut w s (run s)) := decode_any s hlen _ (run_out s) w
end Go.Proofs.YtimioelnnhnbiaaGreatDoor
namespace Go.Proofs.YtimioelnnhnbiaaGreatDoor
open Go.RowKit
theorem JL.elem {w : World} {S : Nat → Prop} {A : Option Addr} {l : List Js.J} {k : Nat} {y : Js.J} (h : JL w S A 0 l) (hy : l[k]? = some y) :
  ∃ g o k0 b0 n0 t0 A5 l5 c5 A6 l6 c6, A = some ⟨g, o, none⟩ ∧ S g ∧ g < w.heap.size ∧ w.cell? ⟨g, o + k * 6, none⟩ = some (.int .i64 k0) ∧ w.cell? ⟨g, o + k * 6 + 1, none⟩ = some (.bool b0) ∧ w.cell? ⟨g, o + k * 6 + 2, none⟩ = some (.int .i64 n0) ∧ w.cell? ⟨g, o + k * 6 + 3, none⟩ = some (.string t0) ∧ w.cell? ⟨g, o + k * 6 + 4, none⟩ = some (.slice A5 l5 c5) ∧ w.cell? ⟨g, o + k * 6 + 5, none⟩ = some (.slice A6 l6 c6) ∧ JV w S y [.int .i64 k0, .bool b0, .int .i64 n0, .string t0, .slice A5 l5 c5, .slice A6 l6 c6] := by
 obtain ⟨g, o, vs, h1, h2, h3, h4, h5⟩ := h.at_ hy
 obtain ⟨A5, c5, A6, c6, k0, b0, n0, t0, l5, l6, rfl⟩ := h5.shape
 rw [Nat.zero_add] at h4
 exact ⟨g, o, k0, b0, n0, t0, A5, l5, c5, A6, l6, c6, h1, h2, h3, h4 0 _ rfl, h4 1 _ rfl, h4 2 _ rfl, h4 3 _ rfl, h4 4 _ rfl, h4 5 _ rfl, h5⟩
theorem JM.elem {w : World} {S : Nat → Prop} {A : Option Addr} {l : List (Js.Bs × Js.J)} {k : Nat} {nm : Js.Bs} {y : Js.J} (h : JM w S A 0 l) (hy : l[k]? = some (nm, y)) :
  ∃ g o k0 b0 n0 t0 A5 l5 c5 A6 l6 c6, A = some ⟨g, o, none⟩ ∧ S g ∧ g < w.heap.size ∧ w.cell? ⟨g, o + k * 7, none⟩ = some (.string (str nm)) ∧ w.cell? ⟨g, o + k * 7 + 1, none⟩ = some (.int .i64 k0) ∧ w.cell? ⟨g, o + k * 7 + 2, none⟩ = some (.bool b0) ∧ w.cell? ⟨g, o + k * 7 + 3, none⟩ = some (.int .i64 n0) ∧ w.cell? ⟨g, o + k * 7 + 4, none⟩ = some (.string t0) ∧ w.cell? ⟨g, o + k * 7 + 5, none⟩ = some (.slice A5 l5 c5) ∧ w.cell? ⟨g, o + k * 7 + 6, none⟩ = some (.slice A6 l6 c6) ∧ JV w S y [.int .i64 k0, .bool b0, .int .i64 n0, .string t0, .slice A5 l5 c5, .slice A6 l6 c6] := by
 obtain ⟨g, o, vs, h1, h2, h3, h4, h5⟩ := h.at_ hy
 obtain ⟨A5, c5, A6, c6, k0, b0, n0, t0, l5, l6, rfl⟩ := h5.shape
 rw [Nat.zero_add] at h4
 exact ⟨g, o, k0, b0, n0, t0, A5, l5, c5, A6, l6, c6, h1, h2, h3, h4 0 _ rfl, h4 1 _ rfl, h4 2 _ rfl, h4 3 _ rfl, h4 4 _ rfl, h4 5 _ rfl, h4 6 _ rfl, h5⟩
theorem nat_beq (m : Nat) : ((m : Int) == 0) = decide (m = 0) := by rw [Bool.eq_iff_iff]; simp
def plainF (k : Int) (b : Bool) (n : Int) (t : Js.Bs) (l m : Nat) : Bool :=
 decide (1 ≤ k) && decide (k ≤ 6) && (decide (k = 2) || !b) && (decide (k = 3) || decide (n = 0)) && (decide (k = 4) || decide (t = [])) && (decide (k = 5) || decide (l = 0)) && (decide (k = 6) || decide (m = 0))
set_option maxRecDepth 100000 in
set_option maxHeartbeats 8000000 in
theorem plainF_any (k : Int) (b : Bool) (n : Int) (t : Js.Bs) (A A' : Option Addr) (l c m c' : Nat) (w : World) :
  Calls Tryz.prog 80 #[.agg #[.int .i64 k, .bool b, .int .i64 n, .string (str t), .slice A l c, .slice A' m c']] w fun e w' => e = .returned (.bool (plainF k b n t l m)) ∧ Below w.heap.size w w' := by
 by_cases h1 : 1 ≤ k
 ·by_cases h6 : k ≤ 6
  ·have hk : k = 1 ∨ k = 2 ∨ k = 3 ∨ k = 4 ∨ k = 5 ∨ k = 6 := by omega
   clear h1 h6
   rcases hk with rfl | rfl | rfl | rfl | rfl | rfl
   all_goals
    go_enter Tryz.func80, Tryz.ntmps80
    go_wp2_with fail
   all_goals
    go_ret
    refine ⟨ret_bool ?_, below_box _ _⟩
    unfold plainF
    simp_all [str_list]
    try exact nat_beq _
  ·have hp := Lib.hid (show plainF k b n t l m = false by unfold plainF; rw [decide_eq_false h6]; simp)
   go_enter Tryz.func80, Tryz.ntmps80
   go_wp2_with fail
   go_ret
   exact ⟨ret_bool hp.out.symm, below_box _ _⟩
 ·have hp := Lib.hid (show plainF k b n t l m = false by unfold plainF; rw [decide_eq_false h1]; simp)
  go_enter Tryz.func80, Tryz.ntmps80
  go_wp2_with fail
  go_ret
  exact ⟨ret_bool hp.out.symm, below_box _ _⟩
set_option maxRecDepth 100000 in
set_option maxHeartbeats 8000000 in
theorem plainR_any (k : Int) (b : Bool) (n : Int) (t : Js.Bs) (A A' : Option Addr) (l c m c' : Nat) (w : World) :
  Calls Tryz.prog 71 #[.agg #[.int .i64 k, .bool b, .int .i64 n, .string (str t), .slice A l c, .slice A' m c']] w fun e w' => e = .returned (.bool (plainF k b n t l m)) ∧ Below w.heap.size w w' := by
 by_cases h1 : 1 ≤ k
 ·by_cases h6 : k ≤ 6
  ·have hk : k = 1 ∨ k = 2 ∨ k = 3 ∨ k = 4 ∨ k = 5 ∨ k = 6 := by omega
   clear h1 h6
   rcases hk with rfl | rfl | rfl | rfl | rfl | rfl
   all_goals
    go_enter Tryz.func71, Tryz.ntmps71
    go_wp2_with fail
   all_goals
    go_ret
    refine ⟨ret_bool ?_, below_box _ _⟩
    unfold plainF
    simp_all [str_list]
    try exact nat_beq _
  ·have hp := Lib.hid (show plainF k b n t l m = false by unfold plainF; rw [decide_eq_false h6]; simp)
   go_enter Tryz.func71, Tryz.ntmps71
   go_wp2_with fail
   go_ret
   exact ⟨ret_bool hp.out.symm, below_box _ _⟩
 ·have hp := Lib.hid (show plainF k b n t l m = false by unfold plainF; rw [decide_eq_false h1]; simp)
  go_enter Tryz.func71, Tryz.ntmps71
  go_wp2_with fail
  go_ret
  exact ⟨ret_bool hp.out.symm, below_box _ _⟩
theorem plainF_eq (k : Int) (b : Bool) (n : Int) (t : Js.Bs) (l : List Js.J) (m : List (Js.Bs × Js.J)) : plainF k b n t l.length m.length = Js.plain (.mk k b n t l m) := by
 have e : ∀ {α : Type} (x : List α), decide (x.length = 0) = x.isEmpty := fun x => by cases x <;> simp
 unfold plainF Js.plain
 rw [e, e]
 rfl
theorem plain_any {w : World} {S : Nat → Prop} {x : Js.J} {vs : List Value} (h : JV w S x vs) : Calls Tryz.prog 80 #[.agg vs.toArray] w fun e w' => e = .returned (.bool (Js.plain x)) ∧ Below w.heap.size w w' := by
 cases x with | mk k b n t l m =>
 unfold JV at h
 obtain ⟨A, c, A', c', rfl, _⟩ := h
 rw [← plainF_eq]
 exact plainF_any k b n t A A' l.length c m.length c' w
theorem plainRef_any {w : World} {S : Nat → Prop} {x : Js.J} {vs : List Value} (h : JV w S x vs) : Calls Tryz.prog 71 #[.agg vs.toArray] w fun e w' => e = .returned (.bool (Js.plain x)) ∧ Below w.heap.size w w' := by
 cases x with | mk k b n t l m =>
 unfold JV at h
 obtain ⟨A, c, A', c', rfl, _⟩ := h
 rw [← plainF_eq]
 exact plainR_any k b n t A A' l.length c m.length c' w
end Go.Proofs.YtimioelnnhnbiaaGreatDoor
namespace Go.Proofs.YtimioelnnhnbiaaGreatDoor
namespace Js
structure Ms where
 nodes : Nat
 bytes : Nat
 wrong : Bool
def measOne (x : J) (d : Nat) (s : Ms) : Ms :=
 ⟨s.nodes + 1, s.bytes + x.text.length, s.wrong || !plain x || decide (8 < d) || decide (256 < s.nodes + 1) || decide (32768 < s.bytes + x.text.length)⟩
def measName (n : Bs) (prev : List Bs) (s : Ms) : Ms := ⟨s.nodes, s.bytes + n.length, s.wrong || prev.any fun p => decide (p = n)⟩
mutual
def meas : J → Nat → Ms → Ms
 | .mk k b n t l m, d, s => if (measOne (.mk k b n t l m) d s).wrong then measOne (.mk k b n t l m) d s else measM m [] d (measL l d (measOne (.mk k b n t l m) d s))
def measL : List J → Nat → Ms → Ms
 | [], _, s => s
 | x :: t, d, s => measL t d (meas x (d + 1) s)
def measM : List (Bs × J) → List Bs → Nat → Ms → Ms
 | [], _, _, s => s
 | (n, x) :: t, prev, d, s => measM t (prev ++ [n]) d (meas x (d + 1) (measName n prev s))
end
mutual
theorem meas_le : ∀ (x : J) (d : Nat) (s : Ms), (meas x d s).nodes ≤ s.nodes + nodes x ∧ (meas x d s).bytes ≤ s.bytes + bytes x ∧ s.nodes ≤ (meas x d s).nodes ∧ s.bytes ≤ (meas x d s).bytes
 | .mk k b n t l m, d, s => by
  unfold meas nodes bytes
  have h1 := measL_le l d (measOne (.mk k b n t l m) d s)
  have h2 := measM_le m [] d (measL l d (measOne (.mk k b n t l m) d s))
  have e1 : (measOne (.mk k b n t l m) d s).nodes = s.nodes + 1 := rfl
  have e2 : (measOne (.mk k b n t l m) d s).bytes = s.bytes + t.length := rfl
  split <;> omega
theorem measL_le : ∀ (l : List J) (d : Nat) (s : Ms), (measL l d s).nodes ≤ s.nodes + nodesL l ∧ (measL l d s).bytes ≤ s.bytes + bytesL l ∧ s.nodes ≤ (measL l d s).nodes ∧ s.bytes ≤ (measL l d s).bytes
 | [], _, s => by unfold measL nodesL bytesL; omega
 | x :: t, d, s => by
  unfold measL nodesL bytesL
  have h1 := meas_le x (d + 1) s
  have h2 := measL_le t d (meas x (d + 1) s)
  omega
theorem measM_le : ∀ (l : List (Bs × J)) (prev : List Bs) (d : Nat) (s : Ms), (measM l prev d s).nodes ≤ s.nodes + nodesM l ∧ (measM l prev d s).bytes ≤ s.bytes + bytesM l ∧ s.nodes ≤ (measM l prev d s).nodes ∧ s.bytes ≤ (measM l prev d s).bytes
 | [], _, _, s => by unfold measM nodesM bytesM; omega
 | (n, x) :: t, prev, d, s => by
  unfold measM nodesM bytesM
  have h1 := meas_le x (d + 1) (measName n prev s)
  have h2 := measM_le t (prev ++ [n]) d (meas x (d + 1) (measName n prev s))
  have e1 : (measName n prev s).nodes = s.nodes := rfl
  have e2 : (measName n prev s).bytes = s.bytes + n.length := rfl
  omega
end
mutual
theorem meas_wrong : ∀ (x : J) (d : Nat) (s : Ms), s.wrong = true → (meas x d s).wrong = true
 | .mk k b n t l m, d, s, h => by
  unfold meas
  have : (measOne (.mk k b n t l m) d s).wrong = true := by unfold measOne; simp [h]
  rw [if_pos this]; exact this
theorem measL_wrong : ∀ (l : List J) (d : Nat) (s : Ms), s.wrong = true → (measL l d s).wrong = true
 | [], _, s, h => by unfold measL; exact h
 | x :: t, d, s, h => by unfold measL; exact measL_wrong t d _ (meas_wrong x _ s h)
theorem measM_wrong : ∀ (l : List (Bs × J)) (prev : List Bs) (d : Nat) (s : Ms), s.wrong = true → (measM l prev d s).wrong = true
 | [], _, _, s, h => by unfold measM; exact h
 | (n, x) :: t, prev, d, s, h => by unfold measM; exact measM_wrong t _ d _ (meas_wrong x _ _ (by unfold measName; simp [h]))
end
def fresh : List (Bs × J) → List Bs → Bool
 | [], _ => true
 | (n, _) :: t, prev => !(prev.any fun p => decide (p = n)) && fresh t (prev ++ [n])
theorem fresh_nodup : ∀ (l : List (Bs × J)) (prev : List Bs), fresh l prev = true ↔ (l.map (·.1)).Nodup ∧ ∀ n ∈ l.map (·.1), n ∉ prev
 | [], prev => by simp [fresh]
 | (n, x) :: t, prev => by
  unfold fresh
  simp only [Bool.and_eq_true, Bool.not_eq_true', List.any_eq_false, decide_eq_true_eq, List.map_cons, List.nodup_cons, List.mem_cons]
  rw [fresh_nodup t (prev ++ [n])]
  constructor
  ·rintro ⟨h1, h2, h3⟩
   refine ⟨⟨fun hm => (h3 n hm) (by simp), h2⟩, fun y hy => ?_⟩
   rcases hy with rfl | hy
   ·exact fun hm => h1 _ hm rfl
   ·exact fun hm => h3 y hy (by simp [hm])
  ·rintro ⟨⟨h1, h2⟩, h3⟩
   refine ⟨fun p hp e => ?_, h2, fun y hy hm => ?_⟩
   ·subst e; exact h3 _ (.inl rfl) hp
   ·rcases List.mem_append.1 hm with hm | hm
    ·exact h3 y (.inr hy) hm
    ·rw [List.mem_singleton] at hm; subst hm; exact h1 hy
def fits (x : J) (d : Nat) (s : Ms) : Bool := good x && decide (d + deep x ≤ 9) && decide (s.nodes + nodes x ≤ 256) && decide (s.bytes + bytes x ≤ 32768)
theorem nodes_pos (x : J) : 1 ≤ nodes x := by cases x; unfold nodes; omega
mutual
theorem meas_ok : ∀ (x : J) (d : Nat) (s : Ms), s.wrong = false → ((meas x d s).wrong = false → (meas x d s).nodes = s.nodes + nodes x ∧ (meas x d s).bytes = s.bytes + bytes x ∧ good x = true ∧ d + deep x ≤ 9 ∧ s.nodes + nodes x ≤ 256) ∧ (fits x d s = true → (meas x d s).wrong = false)
 | .mk k b n t l m, d, s, h => by
  have e1 : (measOne (.mk k b n t l m) d s).nodes = s.nodes + 1 := rfl
  have e2 : (measOne (.mk k b n t l m) d s).bytes = s.bytes + t.length := rfl
  have e3 : (measOne (.mk k b n t l m) d s).wrong = (!plain (.mk k b n t l m) || decide (8 < d) || decide (256 < s.nodes + 1) || decide (32768 < s.bytes + t.length)) := by unfold measOne; rw [h, Bool.false_or]; rfl
  unfold meas
  generalize measOne (.mk k b n t l m) d s = s1 at e1 e2 e3
  by_cases hw : s1.wrong = true
  ·rw [if_pos hw]
   refine ⟨fun h0 => (by rw [hw] at h0; cases h0), fun hf => ?_⟩
   exfalso
   unfold fits good nodes bytes deep at hf
   rw [e3] at hw
   simp only [Bool.and_eq_true, decide_eq_true_eq, Bool.or_eq_true, Bool.not_eq_true'] at hf hw
   obtain ⟨⟨⟨⟨⟨⟨hp, _⟩, _⟩, _⟩, hd⟩, hn⟩, hb⟩ := hf
   rcases hw with ((hw | hw) | hw) | hw
   ·rw [hp] at hw; cases hw
   ·omega
   ·omega
   ·omega
  ·rw [if_neg hw]
   have hw0 : s1.wrong = false := by simpa using hw
   have HL := measL_ok l d s1 hw0
   rw [e3] at hw0
   simp only [Bool.or_eq_false_iff, Bool.not_eq_false', decide_eq_false_iff_not] at hw0
   obtain ⟨⟨⟨hp, hd⟩, hn⟩, hb⟩ := hw0
   generalize hsl : measL l d s1 = s2 at HL
   constructor
   ·intro h0
    have hw2 : s2.wrong = false := by
     cases hs2 : s2.wrong with
     | false => rfl
     | true => rw [measM_wrong m [] d s2 hs2] at h0; cases h0
    obtain ⟨l1, l2, l3, l4⟩ := HL.1 hw2
    obtain ⟨m1, m2, m3, m4, m5⟩ := (measM_ok m [] d s2 hw2).1 h0
    have hf := (fresh_nodup m []).1 m5
    unfold nodes bytes deep good
    refine ⟨by omega, by omega, ?_, ?_, ?_⟩
    ·simp only [Bool.and_eq_true, decide_eq_true_eq]
     exact ⟨⟨⟨hp, l3.1⟩, m3.1⟩, hf.1⟩
    ·have := l3.2 (by omega); have := m3.2 (by omega); omega
    ·have := l4 (by omega); have := m4 (by omega); omega
   ·intro hf
    unfold fits good nodes bytes deep at hf
    simp only [Bool.and_eq_true, decide_eq_true_eq] at hf
    obtain ⟨⟨⟨⟨⟨⟨_, hgl⟩, hgm⟩, hnd⟩, hd⟩, hnn⟩, hbb⟩ := hf
    have hs2w : s2.wrong = false := HL.2 hgl (by omega) (by omega) (by omega)
    obtain ⟨l1, l2, l3, l4⟩ := HL.1 hs2w
    exact (measM_ok m [] d s2 hs2w).2 hgm ((fresh_nodup m []).2 ⟨hnd, fun _ _ h => by cases h⟩) (by omega) (by omega) (by omega)
theorem measL_ok : ∀ (l : List J) (d : Nat) (s : Ms), s.wrong = false → ((measL l d s).wrong = false → (measL l d s).nodes = s.nodes + nodesL l ∧ (measL l d s).bytes = s.bytes + bytesL l ∧ (goodL l = true ∧ (d ≤ 8 → d + deepL l ≤ 8)) ∧ (s.nodes ≤ 256 → s.nodes + nodesL l ≤ 256)) ∧ (goodL l = true → d + deepL l ≤ 8 → s.nodes + nodesL l ≤ 256 → s.bytes + bytesL l ≤ 32768 → (measL l d s).wrong = false)
 | [], d, s, h => by
  unfold measL nodesL bytesL goodL deepL
  exact ⟨fun _ => ⟨rfl, rfl, ⟨rfl, fun h => h⟩, fun h => h⟩, fun _ _ _ _ => h⟩
 | x :: t, d, s, h => by
  have HX := meas_ok x (d + 1) s h
  unfold measL nodesL bytesL goodL deepL
  generalize meas x (d + 1) s = s1 at HX
  constructor
  ·intro h0
   have hw1 : s1.wrong = false := by
    cases hs1 : s1.wrong with
    | false => rfl
    | true => rw [measL_wrong t d s1 hs1] at h0; cases h0
   obtain ⟨x1, x2, x3, x4, x5⟩ := HX.1 hw1
   obtain ⟨t1, t2, ⟨t3, t4⟩, t5⟩ := (measL_ok t d s1 hw1).1 h0
   refine ⟨by omega, by omega, ⟨by rw [x3, t3]; rfl, fun hd => ?_⟩, fun _ => ?_⟩
   ·have := t4 hd; omega
   ·have := t5 (by omega); omega
  ·intro hg hd hn hb
   rw [Bool.and_eq_true] at hg
   have hw1 : s1.wrong = false := HX.2 (by unfold fits; simp only [Bool.and_eq_true, decide_eq_true_eq]; exact ⟨⟨⟨hg.1, by omega⟩, by omega⟩, by omega⟩)
   obtain ⟨x1, x2, x3, x4, x5⟩ := HX.1 hw1
   exact (measL_ok t d s1 hw1).2 hg.2 (by omega) (by omega) (by omega)
theorem measM_ok : ∀ (l : List (Bs × J)) (prev : List Bs) (d : Nat) (s : Ms), s.wrong = false → ((measM l prev d s).wrong = false → (measM l prev d s).nodes = s.nodes + nodesM l ∧ (measM l prev d s).bytes = s.bytes + bytesM l ∧ (goodM l = true ∧ (d ≤ 8 → d + deepM l ≤ 8)) ∧ (s.nodes ≤ 256 → s.nodes + nodesM l ≤ 256) ∧ fresh l prev = true) ∧ (goodM l = true → fresh l prev = true → d + deepM l ≤ 8 → s.nodes + nodesM l ≤ 256 → s.bytes + bytesM l ≤ 32768 → (measM l prev d s).wrong = false)
 | [], prev, d, s, h => by
  unfold measM nodesM bytesM goodM fresh deepM
  exact ⟨fun _ => ⟨rfl, rfl, ⟨rfl, fun h => h⟩, fun h => h, rfl⟩, fun _ _ _ _ _ => h⟩
 | (n, x) :: t, prev, d, s, h => by
  have e1 : (measName n prev s).nodes = s.nodes := rfl
  have e2 : (measName n prev s).bytes = s.bytes + n.length := rfl
  have e3 : (measName n prev s).wrong = (prev.any fun p => decide (p = n)) := by unfold measName; simp [h]
  unfold measM nodesM bytesM goodM deepM fresh
  generalize measName n prev s = s0 at e1 e2 e3
  by_cases hp : (prev.any fun p => decide (p = n)) = true
  ·rw [hp] at e3 ⊢
   refine ⟨fun h0 => ?_, fun _ hf => by simp at hf⟩
   rw [measM_wrong t _ d _ (meas_wrong x _ s0 e3)] at h0; cases h0
  ·have hp0 : (prev.any fun p => decide (p = n)) = false := Bool.not_eq_true _ ▸ hp
   rw [hp0] at e3 ⊢
   have HX := meas_ok x (d + 1) s0 e3
   generalize meas x (d + 1) s0 = s1 at HX
   constructor
   ·intro h0
    have hw1 : s1.wrong = false := by
     cases hs1 : s1.wrong with
     | false => rfl
     | true => rw [measM_wrong t _ d s1 hs1] at h0; cases h0
    obtain ⟨x1, x2, x3, x4, x5⟩ := HX.1 hw1
    obtain ⟨t1, t2, ⟨t3, t4⟩, t5, t6⟩ := (measM_ok t (prev ++ [n]) d s1 hw1).1 h0
    refine ⟨by omega, by omega, ⟨by rw [x3, t3]; rfl, fun hd => ?_⟩, fun _ => ?_, by rw [t6]; rfl⟩
    ·have := t4 hd; omega
    ·have := t5 (by omega); omega
   ·intro hg hf hd hn hb
    rw [Bool.and_eq_true] at hg hf
    have hw1 : s1.wrong = false := HX.2 (by unfold fits; simp only [Bool.and_eq_true, decide_eq_true_eq]; exact ⟨⟨⟨hg.1, by omega⟩, by omega⟩, by omega⟩)
    obtain ⟨x1, x2, x3, x4, x5⟩ := HX.1 hw1
    exact (measM_ok t (prev ++ [n]) d s1 hw1).2 hg.2 hf.2 (by omega) (by omega) (by omega)
end
theorem check_right (x : J) : (!((meas x 1 ⟨0, 0, false⟩).wrong || decide (32768 < (meas x 1 ⟨0, 0, false⟩).bytes))) = right x := by
 have H := meas_ok x 1 ⟨0, 0, false⟩ rfl
 generalize meas x 1 ⟨0, 0, false⟩ = s at H
 rw [Bool.eq_iff_iff]
 unfold right
 simp only [Bool.not_eq_true', Bool.or_eq_false_iff, decide_eq_false_iff_not, Bool.and_eq_true, decide_eq_true_eq]
 constructor
 ·rintro ⟨h1, h2⟩
  obtain ⟨a1, a2, a3, a4, a5⟩ := H.1 h1
  have a2 : s.bytes = 0 + bytes x := a2
  have a5 : 0 + nodes x ≤ 256 := a5
  exact ⟨⟨⟨a3, by omega⟩, by omega⟩, by omega⟩
 ·rintro ⟨⟨⟨h1, h2⟩, h3⟩, h4⟩
  have hw := H.2 (by unfold fits; simp only [Bool.and_eq_true, decide_eq_true_eq]; exact ⟨⟨⟨h1, by omega⟩, (show 0 + nodes x ≤ 256 by omega)⟩, (show 0 + bytes x ≤ 32768 by omega)⟩)
  obtain ⟨a1, a2, a3, a4, a5⟩ := H.1 hw
  have a2 : s.bytes = 0 + bytes x := a2
  exact ⟨hw, by omega⟩
theorem measL_snoc : ∀ (l : List J) (k : Nat) (y : J) (d : Nat) (s : Ms), l[k]? = some y → measL (l.take (k + 1)) d s = meas y (d + 1) (measL (l.take k) d s)
 | [], k, y, d, s, h => by simp at h
 | x :: t, 0, y, d, s, h => by
  simp at h; subst h
  rw [List.take_succ_cons, List.take_zero, List.take_zero]
  show measL [] d _ = meas x (d + 1) (measL [] d s)
  rfl
 | x :: t, k + 1, y, d, s, h => by
  rw [List.take_succ_cons, List.take_succ_cons]
  show measL (t.take (k + 1)) d _ = meas y (d + 1) (measL (t.take k) d _)
  exact measL_snoc t k y d _ (by simpa using h)
theorem measM_snoc : ∀ (l : List (Bs × J)) (prev : List Bs) (k : Nat) (n : Bs) (y : J) (d : Nat) (s : Ms), l[k]? = some (n, y) → measM (l.take (k + 1)) prev d s = meas y (d + 1) (measName n (prev ++ (l.take k).map (·.1)) (measM (l.take k) prev d s))
 | [], prev, k, n, y, d, s, h => by simp at h
 | (n0, x) :: t, prev, 0, n, y, d, s, h => by
  simp at h; obtain ⟨rfl, rfl⟩ := h
  rw [List.take_succ_cons, List.take_zero, List.take_zero]
  show measM [] (prev ++ [n0]) d (meas x (d + 1) (measName n0 prev s)) = meas x (d + 1) (measName n0 (prev ++ []) (measM [] prev d s))
  rw [List.append_nil]; rfl
 | (n0, x) :: t, prev, k + 1, n, y, d, s, h => by
  rw [List.take_succ_cons, List.take_succ_cons]
  show measM (t.take (k + 1)) (prev ++ [n0]) d (meas x (d + 1) (measName n0 prev s)) = meas y (d + 1) (measName n (prev ++ (n0 :: (t.take k).map (·.1))) (measM (t.take k) (prev ++ [n0]) d (meas x (d + 1) (measName n0 prev s))))
  rw [measM_snoc t (prev ++ [n0]) k n y d _ (by simpa using h), List.append_assoc]; rfl
theorem nodesL_split : ∀ (l : List J) (k : Nat) (y : J), l[k]? = some y → nodesL (l.take k) + nodes y ≤ nodesL l ∧ bytesL (l.take k) + bytes y ≤ bytesL l ∧ deep y ≤ deepL l
 | [], k, y, h => by simp at h
 | x :: t, 0, y, h => by
  simp at h; subst h
  rw [List.take_zero]
  show nodesL [] + nodes x ≤ nodes x + nodesL t ∧ bytesL [] + bytes x ≤ bytes x + bytesL t ∧ deep x ≤ max (deep x) (deepL t)
  unfold nodesL bytesL; omega
 | x :: t, k + 1, y, h => by
  rw [List.take_succ_cons]
  have ih := nodesL_split t k y (by simpa using h)
  show nodes x + nodesL (t.take k) + nodes y ≤ nodes x + nodesL t ∧ bytes x + bytesL (t.take k) + bytes y ≤ bytes x + bytesL t ∧ deep y ≤ max (deep x) (deepL t)
  omega
theorem nodesM_split : ∀ (l : List (Bs × J)) (k : Nat) (n : Bs) (y : J), l[k]? = some (n, y) → nodesM (l.take k) + nodes y ≤ nodesM l ∧ bytesM (l.take k) + n.length + bytes y ≤ bytesM l ∧ deep y ≤ deepM l
 | [], k, n, y, h => by simp at h
 | (n0, x) :: t, 0, n, y, h => by
  simp at h; obtain ⟨rfl, rfl⟩ := h
  rw [List.take_zero]
  show nodesM [] + nodes x ≤ nodes x + nodesM t ∧ bytesM [] + n0.length + bytes x ≤ n0.length + bytes x + bytesM t ∧ deep x ≤ max (deep x) (deepM t)
  unfold nodesM bytesM; omega
 | (n0, x) :: t, k + 1, n, y, h => by
  rw [List.take_succ_cons]
  have ih := nodesM_split t k n y (by simpa using h)
  show nodes x + nodesM (t.take k) + nodes y ≤ nodes x + nodesM t ∧ n0.length + bytes x + bytesM (t.take k) + n.length + bytes y ≤ n0.length + bytes x + bytesM t ∧ deep y ≤ max (deep x) (deepM t)
  omega
theorem length_nodesL : ∀ l : List J, l.length ≤ nodesL l
 | [] => Nat.zero_le _
 | x :: t => by have := length_nodesL t; have := nodes_pos x; show t.length + 1 ≤ nodes x + nodesL t; omega
theorem length_nodesM : ∀ l : List (Bs × J), l.length ≤ nodesM l
 | [] => Nat.zero_le _
 | (n, x) :: t => by have := length_nodesM t; have := nodes_pos x; show t.length + 1 ≤ nodes x + nodesM t; omega
end Js
end Go.Proofs.YtimioelnnhnbiaaGreatDoor
