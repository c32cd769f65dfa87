/-
  Joined: WD WE. CONDITIONS: as each law says.
-/
import Derived.Test.YtimioelnnhnbiaaGreatDoorQ01
namespace Go.Proofs.YtimioelnnhnbiaaGreatDoor
open Go.RowKit
theorem peek_at {b : Nat} {s : Js.Bs} {st : Js.St} {w : World} (c : UInt8) (hc : Js.peek s st = c) (h : RdAt w b s st) (hlen : s.length ≤ 1073741824) (hat : st.at_ ≤ s.length) :
  Calls Tryz.prog 86 #[.pointer (some ⟨b, 0, none⟩)] w fun e w' => e = .returned (.int .u8 c.toNat) ∧ ∃ n, w' = w.drewN n := by
 subst hc
 exact peek_any b s st w h hlen hat
def peI (c : UInt8) : Int := Lib.indexByte [34, 92, 47, 98, 102, 110, 114, 116] c
def peB (n : Nat) : UInt8 := [34, 92, 47, 8, 12, 10, 13, 9].getD n 0
theorem peI_facts (c : UInt8) : (-1 ≤ peI c ∧ peI c ≤ 7) ∧ (0 ≤ peI c → Js.escV c = some (peB (peI c).toNat)) ∧ (peI c < 0 → Js.escV c = none) := by
 have h : ∀ n : Fin 256, (fun c : UInt8 => (-1 ≤ peI c ∧ peI c ≤ 7) ∧ (0 ≤ peI c → Js.escV c = some (peB (peI c).toNat)) ∧ (peI c < 0 → Js.escV c = none)) (UInt8.ofNat n.val) := by decide +kernel
 have := h ⟨c.toNat, c.toNat_lt⟩
 simpa using this
theorem indexPe_any (c : UInt8) (w : World) :
  Calls Tryz.prog 85 #[.string ⟨#[34, 92, 47, 98, 102, 110, 114, 116]⟩, .int .u8 c.toNat] w fun e w' => e = .returned (.int .i64 (peI c)) ∧ w' = w := by
 refine (Tryz.strings_IndexByte _ _ _).mono ?_
 rintro e w' ⟨rfl, rfl⟩
 refine ⟨ret_int ?_, rfl⟩
 unfold peI
 congr 1
 simp
theorem hexV_lt {c : UInt8} {n : Nat} (h : Js.hexV c = some n) : n < 16 := by
 unfold Js.hexV at h
 split at h
 ·simp at h; omega
 ·split at h
  ·simp at h; omega
  ·split at h
   ·simp at h; omega
   ·cases h
theorem digit_inv {s : Js.Bs} {st : Js.St} : (∃ n, n < 16 ∧ Js.digit s st = .ok n (Js.step st) ∧ st.at_ < s.length) ∨ Js.digit s st = .bad st.at_ := by
 unfold Js.digit
 cases hx : s[st.at_]? with
 | none => exact .inr rfl
 | some c =>
  rw [Option.bind_some]
  cases hv : Js.hexV c with
  | none => exact .inr rfl
  | some n => exact .inl ⟨n, hexV_lt hv, rfl, (List.getElem?_eq_some_iff.1 hx).1⟩
theorem word_inv (s : Js.Bs) : ∀ (l : Js.Bs) (st : Js.St), (∃ st', Js.word s l st = .ok () st' ∧ (st.at_ ≤ s.length → st'.at_ ≤ s.length)) ∨ ∃ k, Js.word s l st = .bad k
 | [], st => .inl ⟨st, rfl, id⟩
 | c :: t, st => by
  rw [word_cons]
  rcases take_inv s c st with h | h
  ·rw [h]
   rcases word_inv s t (Js.step st) with ⟨st', h', h2⟩ | ⟨k, h'⟩
   ·exact .inl ⟨st', h', fun _ => h2 (take_le h)⟩
   ·exact .inr ⟨k, h'⟩
  ·rw [h]
   exact .inr ⟨_, rfl⟩
theorem peB_get (k : Nat) (h : k < (⟨#[34, 92, 47, 8, 12, 10, 13, 9]⟩ : ByteArray).size) : (⟨#[34, 92, 47, 8, 12, 10, 13, 9]⟩ : ByteArray)[k] = peB k := by
 have h8 : k < 8 := h
 match k, h8 with
 | 0, _ => rfl
 | 1, _ => rfl
 | 2, _ => rfl
 | 3, _ => rfl
 | 4, _ => rfl
 | 5, _ => rfl
 | 6, _ => rfl
 | 7, _ => rfl
theorem pair_bits : ∀ a b : Fin 16, bits BinOp.or IntKind.u8 ((a.val : Int) * 16) b.val = ((UInt8.ofNat (16 * a.val + b.val)).toNat : Int) := by decide +kernel
set_option maxRecDepth 100000 in
set_option maxHeartbeats 4000000 in
theorem pair_u (b : Nat) (s : Js.Bs) (st : Js.St) (w : World) (h : RdAt w b s st) (hlen : s.length ≤ 1073741824) (hlt : st.at_ < s.length) (hx : s[st.at_]? = some 117) :
  Calls Tryz.prog 99 #[.pointer (some ⟨b, 0, none⟩)] w (ROut b s w (fun c : UInt8 => .int .u8 c.toNat) (Js.pair s st)) := by
 have hz := str_size s
 have HR := Lib.hid h
 obtain ⟨c0, c1, -⟩ := h.cells
 have hat : st.at_ ≤ s.length := Nat.le_of_lt hlt
 have HP := Lib.hid (peek_of hx)
 have HD : Hid (Js.pair s st = (Js.word s [117, 48, 48] st).bind fun _ st => (Js.digit s st).bind fun a st => (Js.digit s st).bind fun b st => .ok (UInt8.ofNat (16 * a + b)) st) := Lib.hid (by unfold Js.pair; rw [if_pos hx])
 have q : decide ((st.at_ : Int) < (s.length : Int)) = true := by simp; omega
 clear h hx
 go_enter Tryz.func99, Tryz.ntmps99
 go_wp2_with fail
 go_quiet ((go_at_call 86; exact Calls.quiet_of (peek_at 117 HP.out (HR.out.drewN _) hlen hat)))
 go_wp2_with fail
 refine (word_any [117, 48, 48] (by decide) b s st _ (HR.out.drewN _) hlen hat).mono ?_
 intro e w2 ho
 rcases word_inv s [117, 48, 48] st with ⟨st2, hw, ha2⟩ | ⟨k, hw⟩
 ·rw [hw] at ho
  obtain ⟨rfl, hr2, hb2⟩ := ho
  have HR2 := Lib.hid hr2
  have HB2 := Lib.hid (((But.refl [b] w).drewN nq).trans hb2)
  have ha2 := ha2 hat
  have HD2 : Hid (Js.pair s st = (Js.digit s st2).bind fun a st => (Js.digit s st).bind fun b st => .ok (UInt8.ofNat (16 * a + b)) st) := Lib.hid (by rw [HD.out, hw]; rfl)
  clear hr2 hb2 hw HD c0 c1
  go_wp2_with fail
  refine (digit_any b s st2 _ HR2.out hlen ha2).mono ?_
  intro e w3 ho
  rcases digit_inv (s := s) (st := st2) with ⟨a, ha, hd, hl⟩ | hd
  ·rw [hd] at ho
   obtain ⟨rfl, hr3, hb3⟩ := ho
   have HR3 := Lib.hid hr3
   have HB3 := Lib.hid (HB2.out.trans hb3)
   have HD3 : Hid (Js.pair s st = (Js.digit s (Js.step st2)).bind fun b st => .ok (UInt8.ofNat (16 * a + b)) st) := Lib.hid (by rw [HD2.out, hd]; rfl)
   clear hr3 hb3 hd HD2 HR2 HB2
   go_wp2_with fail
   refine (digit_any b s (Js.step st2) _ HR3.out hlen hl).mono ?_
   intro e w4 ho
   rcases digit_inv (s := s) (st := Js.step st2) with ⟨a', ha', hd, hl'⟩ | hd
   ·rw [hd] at ho
    obtain ⟨rfl, hr4, hb4⟩ := ho
    have HR4 := Lib.hid hr4
    have HB4 := Lib.hid (HB3.out.trans hb4)
    have HD4 : Hid (Js.pair s st = .ok (UInt8.ofNat (16 * a + a')) (Js.step (Js.step st2))) := Lib.hid (by rw [HD3.out, hd]; rfl)
    clear hr4 hb4 hd HD3 HR3 HB3
    go_wp2_with fail
    go_ret
    rw [HD4.out]
    exact ⟨ret_int (pair_bits ⟨a, ha⟩ ⟨a', ha'⟩), HR4.out, HB4.out⟩
   ·rw [hd] at ho
    obtain ⟨rfl, hb4⟩ := ho
    have HD4 : Hid (Js.pair s st = .bad (Js.step st2).at_) := Lib.hid (by rw [HD3.out, hd]; rfl)
    have HB4 := Lib.hid (HB3.out.trans hb4)
    clear hb4 hd
    unfold bad
    go_wp2_with fail
    exact out_bad HD4.out rfl HB4.out
  ·rw [hd] at ho
   obtain ⟨rfl, hb3⟩ := ho
   have HD3 : Hid (Js.pair s st = .bad st2.at_) := Lib.hid (by rw [HD2.out, hd]; rfl)
   have HB3 := Lib.hid (HB2.out.trans hb3)
   clear hb3 hd
   unfold bad
   go_wp2_with fail
   exact out_bad HD3.out rfl HB3.out
 ·rw [hw] at ho
  obtain ⟨rfl, hb2⟩ := ho
  have HD2 : Hid (Js.pair s st = .bad k) := Lib.hid (by rw [HD.out, hw]; rfl)
  have HB2 := Lib.hid (((But.refl [b] w).drewN nq).trans hb2)
  clear hb2 hw
  unfold bad
  go_wp2_with fail
  exact out_bad HD2.out rfl HB2.out
set_option maxRecDepth 100000 in
set_option maxHeartbeats 4000000 in
theorem pair_no (b : Nat) (s : Js.Bs) (st : Js.St) (w : World) (h : RdAt w b s st) (hlen : s.length ≤ 1073741824) (hat : st.at_ ≤ s.length) (hx : s[st.at_]? ≠ some 117) :
  Calls Tryz.prog 99 #[.pointer (some ⟨b, 0, none⟩)] w (ROut b s w (fun c : UInt8 => .int .u8 c.toNat) (Js.pair s st)) := by
 have hz := str_size s
 have HR := Lib.hid h
 obtain ⟨c0, c1, -⟩ := h.cells
 have f1 := h.free 1
 have HC := Lib.hid (peek_cases s st hat)
 have HD : Hid (Js.pair s st = match (s[st.at_]?).bind Js.escV with | some c => .ok c (Js.step st) | none => .bad st.at_) := Lib.hid (by unfold Js.pair; rw [if_neg hx]; cases (s[st.at_]?).bind Js.escV <;> rfl)
 obtain ⟨c, hp⟩ : ∃ c, Js.peek s st = c := ⟨_, rfl⟩
 rw [hp] at HC
 have q117 : ((c.toNat : Int) == 117) = false := by
  simp
  intro e
  have : c = 117 := UInt8.toNat_inj.1 (by simpa using (by omega : c.toNat = 117))
  subst this
  rcases HC.out with ⟨_, h2⟩ | ⟨_, _, h2⟩
  ·exact hx h2
  ·exact absurd h2 (by decide)
 have HP := Lib.hid hp
 obtain ⟨⟨i1, i2⟩, g1, g2⟩ := peI_facts c
 have G := Lib.hid (And.intro g1 g2)
 clear h hx hp g1 g2
 go_enter Tryz.func99, Tryz.ntmps99
 go_wp2_with fail
 go_quiet ((go_at_call 86; exact Calls.quiet_of (peek_at c HP.out (HR.out.drewN _) hlen hat)))
 go_wp2_with fail
 refine (peek_at c HP.out (HR.out.drewN _) hlen hat).mono ?_
 rintro e w2 ⟨rfl, n, rfl⟩
 go_wp2_with fail
 refine (indexPe_any c _).mono ?_
 rintro e w2 ⟨rfl, rfl⟩
 by_cases hi : peI c < 0
 ·have HD2 : Hid (Js.pair s st = .bad st.at_) := Lib.hid (by
   rw [HD.out]
   rcases HC.out with ⟨_, hx⟩ | ⟨_, hx, _⟩
   ·rw [hx, Option.bind_some, G.out.2 hi]
   ·rw [hx]; rfl)
  have j1 : decide (peI c < 0) = true := by simpa using hi
  go_wp2_with fail
  go_quiet (fail)
  go_wp2_with fail
  refine (fail_any b s st _ (HR.out.drewN _)).mono ?_
  rintro e w' ⟨rfl, rfl⟩
  unfold bad
  go_wp2_with fail
  exact out_bad HD2.out rfl ((But.refl _ _).drewN _)
 ·have hlt : st.at_ < s.length := by
   rcases HC.out with ⟨hlt, _⟩ | ⟨_, _, rfl⟩
   ·exact hlt
   ·exact absurd (show peI 0 < 0 by decide) hi
  have hx : s[st.at_]? = some c := by
   rcases HC.out with ⟨_, hx⟩ | ⟨e, _, _⟩
   ·exact hx
   ·omega
  have j4 : 0 ≤ peI c := by omega
  have HD2 : Hid (Js.pair s st = .ok (peB (peI c).toNat) (Js.step st)) := Lib.hid (by rw [HD.out, hx, Option.bind_some, G.out.1 j4])
  have q : ((st.at_ : Int) == (s.length : Int)) = false := by simp; omega
  have j1 : decide (peI c < 0) = false := by simpa using hi
  obtain ⟨k, hk, hk8⟩ : ∃ k : Nat, peI c = k ∧ k < 8 := ⟨(peI c).toNat, by omega, by omega⟩
  rw [hk] at HD2 j1 j4 i1 i2 ⊢
  clear hx G hk
  go_wp2_with fail
  go_quiet (fail)
  go_wp2_with fail
  go_ret
  rw [HD2.out]
  exact ⟨ret_int (by rw [peB_get]; rfl), (HR.out.drewN _).step, ((But.refl _ _).drewN _).trans ((HR.out.drewN _).but 1 _)⟩
theorem pair_any (b : Nat) (s : Js.Bs) (st : Js.St) (w : World) (h : RdAt w b s st) (hlen : s.length ≤ 1073741824) (hat : st.at_ ≤ s.length) :
  Calls Tryz.prog 99 #[.pointer (some ⟨b, 0, none⟩)] w (ROut b s w (fun c : UInt8 => .int .u8 c.toNat) (Js.pair s st)) := by
 by_cases hx : s[st.at_]? = some 117
 ·exact pair_u b s st w h hlen (List.getElem?_eq_some_iff.1 hx).1 hx
 ·exact pair_no b s st w h hlen hat hx
end Go.Proofs.YtimioelnnhnbiaaGreatDoor
namespace Go.Proofs.YtimioelnnhnbiaaGreatDoor
open Go.RowKit
theorem IsB.but {S : List Nat} {B b : Nat} {l : List UInt8} {w w' : World} (h : IsB B b l w) (hk : But S w w') (hS : ∀ j ∈ S, j < B) : IsB B b l w' := by
 have key : ∀ p, Lib.BuilderAtF 112 5 B b p (Lib.byteCells l) w → Lib.BuilderAtF 112 5 B b p (Lib.byteCells l) w' := by
  intro p hp
  have hlt := hp.lt
  obtain ⟨h1, v, h2, h3, h4⟩ := hp
  have hb : b ∉ S := fun hm => by have := hS b hm; omega
  refine ⟨h1, v, hk.blk h2 hb, ?_, h4⟩
  rcases h3.2 with ⟨hv, hz⟩ | ⟨g, cap, cur, fz, hv, hB, hg, rest⟩
  ·exact ⟨h3.1, .inl ⟨hv, hz⟩⟩
  ·exact ⟨h3.1, .inr ⟨g, cap, cur, fz, hv, hB, hk.blk hg (fun hm => by have := hS g hm; omega), rest⟩⟩
 exact h.elim (fun x => .inl (key _ x)) (fun x => .inr (key _ x))
theorem IsB.next {B b : Nat} {l : List UInt8} {w w' : World} (h : IsB B b l w) (hb : Below w.heap.size w w') : IsB B b l w' := h.but (But.of (S := []) hb) (by simp)
theorem RdAt.below {w w' : World} {b B : Nat} {s : Js.Bs} {st : Js.St} (h : RdAt w b s st) (hb : Below B w w') (hB : b < B) : RdAt w' b s st := (hb.block b hB).trans h
theorem But.below {S : List Nat} {a w w' : World} {B : Nat} (h : But S a w) (hb : Below B w w') (hB : a.heap.size ≤ B) : But S a w' :=
 ⟨hb.os.trans h.os, hb.tape.trans h.tape, hb.output.trans h.output, Nat.le_trans h.size hb.size, fun j hj hs => (hb.block j (Nat.lt_of_lt_of_le hj hB)).trans (h.block j hj hs)⟩
theorem word_at (s : Js.Bs) : ∀ (l : Js.Bs) (st st' : Js.St), Js.word s l st = .ok () st' → st' = { st with at_ := st.at_ + l.length }
 | [], st, st', h => by injection h with _ h; subst h; rfl
 | c :: t, st, st', h => by
  rw [word_cons] at h
  rcases take_inv s c st with ht | ht
  ·rw [ht] at h
   have := word_at s t (Js.step st) st' h
   rw [this, List.length_cons]
   show Js.St.mk (st.at_ + 1 + _) _ _ _ _ = _
   rw [Nat.add_assoc, Nat.add_comm 1]; rfl
  ·rw [ht] at h; cases h
theorem pair_inv (s : Js.Bs) (st : Js.St) : (∃ c p, Js.pair s st = .ok c { st with at_ := p } ∧ st.at_ + 1 ≤ p ∧ p ≤ s.length) ∨ ∃ k, Js.pair s st = .bad k := by
 unfold Js.pair
 split
 ·rename_i hx
  have hat := Nat.le_of_lt (List.getElem?_eq_some_iff.1 hx).1
  rcases word_inv s [117, 48, 48] st with ⟨st2, hw, h2⟩ | ⟨k, hw⟩
  ·have h3 := word_at s _ _ _ hw
   rw [hw]
   rcases digit_inv (s := s) (st := st2) with ⟨a, ha, hd, hl⟩ | hd
   ·rcases digit_inv (s := s) (st := Js.step st2) with ⟨a', ha', hd', hl'⟩ | hd'
    ·refine .inl ⟨UInt8.ofNat (16 * a + a'), st.at_ + 5, (by show (Js.digit s st2).bind _ = _; rw [hd]; show (Js.digit s (Js.step st2)).bind _ = _; rw [hd', h3]; rfl), by omega, ?_⟩
     rw [h3] at hl'
     exact hl'
    ·exact .inr ⟨_, (by show (Js.digit s st2).bind _ = _; rw [hd]; show (Js.digit s (Js.step st2)).bind _ = _; rw [hd']; rfl)⟩
   ·exact .inr ⟨_, (by show (Js.digit s st2).bind _ = _; rw [hd]; rfl)⟩
  ·exact .inr ⟨k, by rw [hw]; rfl⟩
 ·cases hx : s[st.at_]? with
  | none => exact .inr ⟨_, rfl⟩
  | some c =>
   rw [Option.bind_some]
   cases hv : Js.escV c with
   | none => exact .inr ⟨_, rfl⟩
   | some n => exact .inl ⟨n, st.at_ + 1, rfl, Nat.le_refl _, (List.getElem?_eq_some_iff.1 hx).1⟩
theorem textGo_end {s : Js.Bs} {n : Nat} {acc : Js.Bs} {st : Js.St} (h : s[st.at_]? = none) : Js.textGo s (n + 1) acc st = .bad st.at_ := by
 unfold Js.textGo; rw [h]
theorem textGo_quote {s : Js.Bs} {n : Nat} {acc : Js.Bs} {st : Js.St} (h : s[st.at_]? = some 34) : Js.textGo s (n + 1) acc st = .ok acc (Js.step st) := by
 unfold Js.textGo; rw [h]; rfl
theorem textGo_ctl {s : Js.Bs} {n : Nat} {acc : Js.Bs} {st : Js.St} {c : UInt8} (h : s[st.at_]? = some c) (h1 : c ≠ 34) (h2 : c.toNat < 32 ∨ 126 < c.toNat) : Js.textGo s (n + 1) acc st = .bad st.at_ := by
 unfold Js.textGo; rw [h]; simp only; rw [if_neg h1, if_pos h2]
theorem textGo_esc {s : Js.Bs} {n : Nat} {acc : Js.Bs} {st : Js.St} (h : s[st.at_]? = some 92) : Js.textGo s (n + 1) acc st = (Js.pair s (Js.step st)).bind fun d st => Js.textGo s n (acc ++ [d]) st := by
 conv => lhs; unfold Js.textGo
 rw [h]; simp only; rw [if_neg (by decide), if_neg (by decide), if_pos trivial]
theorem textGo_one {s : Js.Bs} {n : Nat} {acc : Js.Bs} {st : Js.St} {c : UInt8} (h : s[st.at_]? = some c) (h1 : c ≠ 34) (h2 : ¬ (c.toNat < 32 ∨ 126 < c.toNat)) (h3 : c ≠ 92) : Js.textGo s (n + 1) acc st = Js.textGo s n (acc ++ [c]) (Js.step st) := by
 conv => lhs; unfold Js.textGo
 rw [h]; simp only; rw [if_neg h1, if_neg h2, if_neg h3]
theorem u8_ne {c d : UInt8} (h : c ≠ d) : ((c.toNat : Int) == (d.toNat : Int)) = false ∧ ((c.toNat : Int) != (d.toNat : Int)) = true := by
 have : (c.toNat : Int) ≠ d.toNat := fun e => h (UInt8.toNat_inj.1 (by omega))
 constructor
 ·simpa using this
 ·simpa using this
set_option maxRecDepth 100000 in
set_option maxHeartbeats 8000000 in
theorem text_any (b : Nat) (s : Js.Bs) (st : Js.St) (w : World) (h : RdAt w b s st) (hlen : s.length ≤ 1073741824) (hat : st.at_ ≤ s.length) (hbytes : st.bytes ≤ 1099511627776) (hne : Js.text s st ≠ .out) :
  Calls Tryz.prog 88 #[.pointer (some ⟨b, 0, none⟩)] w (ROut b s w (fun t : Js.Bs => .string (str t)) (Js.text s st)) := by
 have hz := str_size s
 have HNE := Lib.hid hne
 clear hne
 go_enter Tryz.func88, Tryz.ntmps88
 go_wp2_with fail
 refine (take_any b s 34 st _ h hlen hat).mono ?_
 intro e w1 ho
 rcases take_inv s 34 st with ht | ht
 rotate_left
 ·rw [ht] at ho
  obtain ⟨rfl, hb1⟩ := ho
  have HT : Hid (Js.text s st = .bad st.at_) := Lib.hid (by unfold Js.text; rw [ht]; rfl)
  have HB1 := Lib.hid hb1
  clear hb1 ht
  unfold bad
  go_wp2_with fail
  exact out_bad HT.out rfl HB1.out
 rw [ht] at ho
 obtain ⟨rfl, hr1, hb1⟩ := ho
 have hat1 : (Js.step st).at_ ≤ s.length := take_le ht
 have HT : Hid (Js.text s st = (Js.textGo s (s.length + 1) [] (Js.step st)).bind fun t st => .ok t { st with bytes := st.bytes + t.length, large := st.large || decide (32768 < st.bytes + t.length) }) := Lib.hid (by unfold Js.text; rw [ht]; rfl)
 have hby1 : (Js.step st).bytes ≤ 1099511627776 := hbytes
 clear ht h hat hbytes
 generalize Js.step st = st1 at hr1 hat1 hby1 HT
 have hbw : b < w1.heap.size := hr1.lt
 have hsz1 := hb1.size
 have HR1 := Lib.hid (hr1.next (below_box w1 (.cells #[.pointer none, .slice none 0 0] 112)))
 have HS1 := Lib.hid (isB_new w1)
 have HB1 := Lib.hid (hb1.trans (But.of (S := [b]) (below_box w1 (.cells #[.pointer none, .slice none 0 0] 112))))
 clear hr1 hb1
 go_wp2_with fail
 generalize w1.alloc (.cells #[.pointer none, .slice none 0 0] 112) = w2 at HR1 HS1 HB1 ⊢
 have HSZ := Lib.hid HB1.out.size
 obtain ⟨N, hN⟩ : ∃ N, w1.heap.size = N := ⟨_, rfl⟩
 rw [hN] at HS1 hbw hsz1 ⊢
 have HWN := Lib.hid hsz1
 clear hsz1
 clear hN
 go_loopg [4] (s.length + 1) (fun k _ wr => ∃ (st' : Js.St) (acc : Js.Bs), st'.at_ ≤ s.length ∧ acc.length ≤ st'.at_ ∧ st'.bytes = st1.bytes ∧ Hid (RdAt wr b s st') ∧ Hid (IsB N N acc wr) ∧ Hid (But [b] w wr) ∧ Hid (Js.textGo s (s.length + 1) [] st1 = Js.textGo s k acc st'))
 case atStart => exact ⟨st1, [], hat1, Nat.zero_le _, rfl, HR1, HS1, HB1, Lib.hid rfl⟩
 case round =>
  obtain ⟨st', acc, hat', hacc, hby', HR, HS, HB, HG⟩ := hrel
  have HBY := Lib.hid hby'
  clear hby' HR1 HS1 HB1 hat1
  cases gk with
  | zero =>
   refine absurd ?_ HNE.out
   rw [HT.out, HG.out]; rfl
  | succ k =>
   obtain ⟨c0, c1, c2, c3, c4, c5⟩ := HR.out.cells
   have f1 := HR.out.free 1
   have HC := Lib.hid (peek_cases s st' hat')
   obtain ⟨c, hp⟩ : ∃ c, Js.peek s st' = c := ⟨_, rfl⟩
   rw [hp] at HC
   have HP := Lib.hid hp
   clear hp
   by_cases hq : c = 34
   ·subst hq
    have hx : s[st'.at_]? = some 34 := by
     rcases HC.out with ⟨_, hx⟩ | ⟨_, _, e⟩
     ·exact hx
     ·exact absurd e (by decide)
    have hlt : st'.at_ < s.length := (List.getElem?_eq_some_iff.1 hx).1
    have e1 : ((st'.at_ : Int) == (s.length : Int)) = false := by simp; omega
    have HE : Hid (Js.text s st = .ok acc { Js.step st' with bytes := st'.bytes + acc.length, large := st'.large || decide (32768 < st'.bytes + acc.length) }) := Lib.hid (by rw [HT.out, HG.out, textGo_quote hx]; rfl)
    have HX : Hid (∀ m, RdAt ((wr.drewN m).setCell ⟨b, 1, none⟩ (.int .i64 ((st'.at_ : Int) + 1))) b s (Js.step st') ∧ IsB N N acc ((wr.drewN m).setCell ⟨b, 1, none⟩ (.int .i64 ((st'.at_ : Int) + 1))) ∧ But [b] w ((wr.drewN m).setCell ⟨b, 1, none⟩ (.int .i64 ((st'.at_ : Int) + 1)))) := Lib.hid fun m =>
        have hb := ((But.refl [b] wr).drewN m).trans ((HR.out.drewN m).but 1 (.int .i64 ((st'.at_ : Int) + 1)))
        ⟨(HR.out.drewN m).step, HS.out.but hb (by intro j hj; simp at hj; omega), HB.out.trans hb⟩
    clear hx HG HT HNE
    go_wp2_with fail
    go_quiet ((go_at_call 86; exact Calls.quiet_of (peek_at 34 HP.out (HR.out.drewN _) hlen hat')))
    go_wp2_with fail
    obtain ⟨hr5, hs5, hb5⟩ := HX.out nq
    generalize (World.setCell (wr.drewN nq) ⟨b, 1, none⟩ (.int .i64 ((st'.at_ : Int) + 1))) = w5 at hr5 hs5 hb5 ⊢
    have HR5 := Lib.hid hr5
    have HS5 := Lib.hid hs5
    have HB5 := Lib.hid hb5
    clear hr5 hs5 hb5 HX c0 c1 c2 c3 c4 c5 f1 HR HS HB
    obtain ⟨c0, c1, c2, c3, c4, c5⟩ := HR5.out.cells
    have c4' : w5.cell? ⟨b, 4, none⟩ = some (.int .i64 (st'.bytes : Nat)) := c4
    have f4 := HR5.out.free 4
    clear c0 c1 c2 c3 c4 c5
    have HWR : Hid (IntKind.i64.wrap ((st'.bytes : Int) + (acc.length : Int)) = ((st'.bytes + acc.length : Nat) : Int)) := Lib.hid (by rw [IntWalk.i64_in _ (by have := HBY.out; omega)]; omega)
    go_region_with ((go_at_call 100; refine (bldLen_any N N acc _ (HS5.out.next (below_drewN (Below.refl _ _) 1))).mono ?_; rintro e w' ⟨rfl, rfl⟩))
    all_goals
     rw [HWR.out]
     have hr6 := (HR5.out.drewN 1).toBytes (st'.bytes + acc.length)
     have hb6 := (HB5.out.drewN 1).trans ((HR5.out.drewN 1).but 4 (.int .i64 ((st'.bytes + acc.length : Nat) : Int)))
     have hs6 := (HS5.out.next (below_drewN (Below.refl _ _) 1)).but ((HR5.out.drewN 1).but 4 (.int .i64 ((st'.bytes + acc.length : Nat) : Int))) (by intro j hj; simp at hj; omega)
     generalize (World.setCell (w5.drewN 1) ⟨b, 4, none⟩ (.int .i64 ((st'.bytes + acc.length : Nat) : Int))) = w6 at hr6 hs6 hb6 ⊢
     have HR6 := Lib.hid hr6
     have HB6 := Lib.hid hb6
     have HS6 := Lib.hid hs6
     clear hr6 hs6 hb6 HR5 HS5 HB5 c4' f4
     have c4 : w6.cell? ⟨b, 4, none⟩ = some (.int .i64 ((st'.bytes + acc.length : Nat) : Int)) := HR6.out.cells.2.2.2.2.1
     have c5 : w6.cell? ⟨b, 5, none⟩ = some (.bool st'.large) := HR6.out.cells.2.2.2.2.2
     have f5 := HR6.out.free 5
     obtain ⟨N2, hN2⟩ : ∃ N2, st'.bytes + acc.length = N2 := ⟨_, rfl⟩
     rw [hN2] at HE c4 HR6
     generalize st'.large = L at HE c5
     have HN2 := Lib.hid hN2
     clear hN2
     cases L
     ·go_wp2_with fail
      have hr7 := HR6.out.toLarge (decide ((32768 : Int) < (N2 : Int)))
      have hb7 := HB6.out.trans (HR6.out.but 5 (.bool (decide ((32768 : Int) < (N2 : Int)))))
      have hs7 := HS6.out.but (HR6.out.but 5 (.bool (decide ((32768 : Int) < (N2 : Int))))) (by intro j hj; simp at hj; omega)
      refine (bldString_any N N acc _ hs7).mono ?_
      rintro e w8 ⟨rfl, -, hb8, -⟩
      have HR8 := Lib.hid (hr7.below hb8 hbw)
      have HB8 := Lib.hid (hb7.below hb8 HWN.out)
      clear hr7 hs7 hb7 hb8
      go_wp2_with fail
      go_ret
      rw [HE.out]
      refine ⟨rfl, ?_, HB8.out⟩
      have := HR8.out
      rw [show decide ((32768 : Int) < (N2 : Int)) = decide (32768 < N2) by simp; omega] at this
      exact this
     ·go_wp2_with fail
      have hr7 := HR6.out.toLarge (true)
      have hb7 := HB6.out.trans (HR6.out.but 5 (.bool (true)))
      have hs7 := HS6.out.but (HR6.out.but 5 (.bool (true))) (by intro j hj; simp at hj; omega)
      refine (bldString_any N N acc _ hs7).mono ?_
      rintro e w8 ⟨rfl, -, hb8, -⟩
      have HR8 := Lib.hid (hr7.below hb8 hbw)
      have HB8 := Lib.hid (hb7.below hb8 HWN.out)
      clear hr7 hs7 hb7 hb8
      go_wp2_with fail
      go_ret
      rw [HE.out]
      refine ⟨rfl, ?_, HB8.out⟩
      exact HR8.out
   ·obtain ⟨q1, q2⟩ := u8_ne hq
    have q2 : ((c.toNat : Int) != 34) = true := q2
    clear q1
    go_wp2_with fail
    go_quiet ((go_at_call 86; exact Calls.quiet_of (peek_at c HP.out (HR.out.drewN _) hlen hat')))
    go_wp2_with fail
    refine (peek_at c HP.out (HR.out.drewN _) hlen hat').mono ?_
    rintro e w4 ⟨rfl, n, rfl⟩
    by_cases hend : st'.at_ = s.length
    ·have HE : Hid (Js.text s st = .bad st'.at_) := Lib.hid (by rw [HT.out, HG.out, textGo_end (List.getElem?_eq_none (by omega))]; rfl)
     have e1 : ((st'.at_ : Int) == (s.length : Int)) = true := by simp [hend]
     clear hend
     go_wp2_with fail
     go_quiet (fail)
     go_wp2_with fail
     refine (fail_any b s st' _ (HR.out.drewN _)).mono ?_
     rintro e w' ⟨rfl, rfl⟩
     unfold bad
     go_wp2_with fail
     exact out_bad HE.out rfl (HB.out.drewN _)
    ·have hlt : st'.at_ < s.length := by omega
     have hx : s[st'.at_]? = some c := by
      rcases HC.out with ⟨_, hx⟩ | ⟨e, _, _⟩
      ·exact hx
      ·exact absurd e hend
     have e1 : ((st'.at_ : Int) == (s.length : Int)) = false := by simp; omega
     by_cases hctl : c.toNat < 32 ∨ 126 < c.toNat
     ·have HE : Hid (Js.text s st = .bad st'.at_) := Lib.hid (by rw [HT.out, HG.out, textGo_ctl hx hq hctl]; rfl)
      clear hx hend
      rcases hctl with hc | hc
      ·have r1 : decide ((c.toNat : Int) < 32) = true := by simp; omega
       go_wp2_with fail
       go_quiet (fail)
       go_wp2_with fail
       refine (fail_any b s st' _ (HR.out.drewN _)).mono ?_
       rintro e w' ⟨rfl, rfl⟩
       unfold bad
       go_wp2_with fail
       exact out_bad HE.out rfl (HB.out.drewN _)
      ·have r1 : decide ((c.toNat : Int) < 32) = false := by simp; omega
       have r2 : decide ((126 : Int) < c.toNat) = true := by simp; omega
       go_wp2_with fail
       go_quiet (fail)
       go_wp2_with fail
       refine (fail_any b s st' _ (HR.out.drewN _)).mono ?_
       rintro e w' ⟨rfl, rfl⟩
       unfold bad
       go_wp2_with fail
       exact out_bad HE.out rfl (HB.out.drewN _)
     ·have r1 : decide ((c.toNat : Int) < 32) = false := by simp; omega
      have r2 : decide ((126 : Int) < c.toNat) = false := by simp; omega
      by_cases h92 : c = 92
      ·have HG2 : Hid (Js.textGo s (s.length + 1) [] st1 = (Js.pair s (Js.step st')).bind fun d st => Js.textGo s k (acc ++ [d]) st) := Lib.hid (by rw [HG.out, textGo_esc (by rw [hx, h92])])
       have q3 : ((c.toNat : Int) == 92) = true := by rw [h92]; rfl
       have HX : Hid (∀ m, RdAt ((wr.drewN m).setCell ⟨b, 1, none⟩ (.int .i64 ((st'.at_ : Int) + 1))) b s (Js.step st') ∧ IsB N N acc ((wr.drewN m).setCell ⟨b, 1, none⟩ (.int .i64 ((st'.at_ : Int) + 1))) ∧ But [b] w ((wr.drewN m).setCell ⟨b, 1, none⟩ (.int .i64 ((st'.at_ : Int) + 1)))) := Lib.hid fun m =>
        have hb := ((But.refl [b] wr).drewN m).trans ((HR.out.drewN m).but 1 (.int .i64 ((st'.at_ : Int) + 1)))
        ⟨(HR.out.drewN m).step, HS.out.but hb (by intro j hj; simp at hj; omega), HB.out.trans hb⟩
       clear hx hend HG h92
       go_wp2_with fail
       go_quiet (fail)
       go_wp2_with fail
       refine (pair_any b s (Js.step st') _ (HX.out _).1 hlen hlt).mono ?_
       intro e w5 ho
       rcases pair_inv s (Js.step st') with ⟨d, p5, hp, ha1, ha2⟩ | ⟨kb, hp⟩
       ·obtain ⟨st5, h5⟩ : ∃ st5 : Js.St, { Js.step st' with at_ := p5 } = st5 := ⟨_, rfl⟩
        rw [h5] at hp
        have HBY5 : st5.bytes = st1.bytes := by rw [← h5]; exact HBY.out
        have h5p : st5.at_ = p5 := by rw [← h5]
        rw [← h5p] at ha1 ha2
        rw [hp] at ho
        obtain ⟨rfl, hr5, hb5⟩ := ho
        have HR5 := Lib.hid hr5
        have HS5 := Lib.hid ((HX.out _).2.1.but hb5 (by intro j hj; simp at hj; omega))
        have HB5 := Lib.hid ((HX.out _).2.2.trans hb5)
        have HG3 : Hid (Js.textGo s (s.length + 1) [] st1 = Js.textGo s k (acc ++ [d]) st5) := Lib.hid (by rw [HG2.out, hp]; rfl)
        have ha3 : st'.at_ + 2 ≤ st5.at_ := ha1
        have HBY5 := Lib.hid HBY5
        clear hr5 hb5 hp HX HG2 ha1 h5 h5p
        go_wp2_with fail
        refine (writeByte_any N N acc d _ HS5.out (by omega)).mono ?_
        rintro e w6 ⟨rfl, hs6, hb6, -⟩
        have HR6 := Lib.hid (HR5.out.below hb6 hbw)
        have HS6 := Lib.hid hs6
        have HB6 := Lib.hid (HB5.out.below hb6 HWN.out)
        clear hs6 hb6 HR5 HS5 HB5
        go_wp2_with fail
        go_roundg k
        case measure => omega
        case rel => exact ⟨st5, acc ++ [d], ha2, by simp; omega, HBY5.out, HR6, HS6, HB6, HG3⟩
       ·rw [hp] at ho
        obtain ⟨rfl, hb5⟩ := ho
        have HE : Hid (Js.text s st = .bad kb) := Lib.hid (by rw [HT.out, HG2.out, hp]; rfl)
        have HB5 := Lib.hid ((HX.out _).2.2.trans hb5)
        clear hb5 hp HX HG2
        unfold bad
        go_wp2_with fail
        exact out_bad HE.out rfl HB5.out
      ·have HG2 : Hid (Js.textGo s (s.length + 1) [] st1 = Js.textGo s k (acc ++ [c]) (Js.step st')) := Lib.hid (by rw [HG.out, textGo_one hx hq hctl h92])
       have q3 : ((c.toNat : Int) == 92) = false := (u8_ne h92).1
       have HX : Hid (∀ m, RdAt ((wr.drewN m).setCell ⟨b, 1, none⟩ (.int .i64 ((st'.at_ : Int) + 1))) b s (Js.step st') ∧ IsB N N acc ((wr.drewN m).setCell ⟨b, 1, none⟩ (.int .i64 ((st'.at_ : Int) + 1))) ∧ But [b] w ((wr.drewN m).setCell ⟨b, 1, none⟩ (.int .i64 ((st'.at_ : Int) + 1)))) := Lib.hid fun m =>
        have hb := ((But.refl [b] wr).drewN m).trans ((HR.out.drewN m).but 1 (.int .i64 ((st'.at_ : Int) + 1)))
        ⟨(HR.out.drewN m).step, HS.out.but hb (by intro j hj; simp at hj; omega), HB.out.trans hb⟩
       clear hx hend HG h92
       go_wp2_with fail
       go_quiet (fail)
       go_wp2_with fail
       refine (writeByte_any N N acc c _ (HX.out _).2.1 (by omega)).mono ?_
       rintro e w6 ⟨rfl, hs6, hb6, -⟩
       have HR6 := Lib.hid ((HX.out _).1.below hb6 hbw)
       have HS6 := Lib.hid hs6
       have HB6 := Lib.hid ((HX.out _).2.2.below hb6 HWN.out)
       clear hs6 hb6 HX
       go_wp2_with fail
       go_roundg k
       case measure => omega
       case rel => exact ⟨Js.step st', acc ++ [c], hlt, by simp; show acc.length + 1 ≤ st'.at_ + 1; omega, HBY.out, HR6, HS6, HB6, HG2⟩
end Go.Proofs.YtimioelnnhnbiaaGreatDoor
