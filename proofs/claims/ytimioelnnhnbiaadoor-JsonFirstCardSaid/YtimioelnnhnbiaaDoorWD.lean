/-
  THE WALKS, fourth part: pair of json's reader. CONDITIONS: the reader lies in a block of its own; the text is not too long.
-/
import Derived.Test.YtimioelnnhnbiaaDoorWC
namespace Go.Proofs.YtimioelnnhnbiaaDoor
open Go.RowKit
theorem peek_at {b : Nat} {s : Js.Bs} {st : Js.St} {w : World} (c : UInt8) (hc : Js.peek s st = c) (h : RdAt w b s st) (hlen : s.length ≤ 1073741824) (hat : st.at_ ≤ s.length) :
    Calls Tryd.prog 46 #[.pointer (some ⟨b, 0, none⟩)] w fun e w' => e = .returned (.int .u8 c.toNat) ∧ ∃ n, w' = w.drewN n := by
  subst hc
  exact peek_any b s st w h hlen hat
def peI (c : UInt8) : Int := Lib.indexByte [34, 92, 47, 98, 102, 110, 114, 116] c
def peB (n : Nat) : UInt8 := [34, 92, 47, 8, 12, 10, 13, 9].getD n 0
theorem peI_facts (c : UInt8) : (-1 ≤ peI c ∧ peI c ≤ 7) ∧ (0 ≤ peI c → Js.escV c = some (peB (peI c).toNat)) ∧ (peI c < 0 → Js.escV c = none) := by
  have h : ∀ n : Fin 256, (fun c : UInt8 => (-1 ≤ peI c ∧ peI c ≤ 7) ∧ (0 ≤ peI c → Js.escV c = some (peB (peI c).toNat)) ∧ (peI c < 0 → Js.escV c = none)) (UInt8.ofNat n.val) := by decide +kernel
  have := h ⟨c.toNat, c.toNat_lt⟩
  simpa using this
theorem indexPe_any (c : UInt8) (w : World) :
    Calls Tryd.prog 44 #[.string ⟨#[34, 92, 47, 98, 102, 110, 114, 116]⟩, .int .u8 c.toNat] w fun e w' => e = .returned (.int .i64 (peI c)) ∧ w' = w := by
  refine (Tryd.strings_IndexByte _ _ _).mono ?_
  rintro e w' ⟨rfl, rfl⟩
  refine ⟨ret_int ?_, rfl⟩
  unfold peI
  congr 1
  simp
theorem hexV_lt {c : UInt8} {n : Nat} (h : Js.hexV c = some n) : n < 16 := by
  unfold Js.hexV at h
  split at h
  · simp at h; omega
  · split at h
    · simp at h; omega
    · split at h
      · simp at h; omega
      · cases h
theorem digit_inv {s : Js.Bs} {st : Js.St} : (∃ n, n < 16 ∧ Js.digit s st = .ok n (Js.step st) ∧ st.at_ < s.length) ∨ Js.digit s st = .bad st.at_ := by
  unfold Js.digit
  cases hx : s[st.at_]? with
  | none => exact .inr rfl
  | some c =>
    rw [Option.bind_some]
    cases hv : Js.hexV c with
    | none => exact .inr rfl
    | some n => exact .inl ⟨n, hexV_lt hv, rfl, (List.getElem?_eq_some_iff.1 hx).1⟩
theorem word_inv (s : Js.Bs) : ∀ (l : Js.Bs) (st : Js.St), (∃ st', Js.word s l st = .ok () st' ∧ (st.at_ ≤ s.length → st'.at_ ≤ s.length)) ∨ ∃ k, Js.word s l st = .bad k
  | [], st => .inl ⟨st, rfl, id⟩
  | c :: t, st => by
    rw [word_cons]
    rcases take_inv s c st with h | h
    · rw [h]
      rcases word_inv s t (Js.step st) with ⟨st', h', h2⟩ | ⟨k, h'⟩
      · exact .inl ⟨st', h', fun _ => h2 (take_le h)⟩
      · exact .inr ⟨k, h'⟩
    · rw [h]
      exact .inr ⟨_, rfl⟩
theorem peB_get (k : Nat) (h : k < (⟨#[34, 92, 47, 8, 12, 10, 13, 9]⟩ : ByteArray).size) : (⟨#[34, 92, 47, 8, 12, 10, 13, 9]⟩ : ByteArray)[k] = peB k := by
  have h8 : k < 8 := h
  match k, h8 with
  | 0, _ => rfl
  | 1, _ => rfl
  | 2, _ => rfl
  | 3, _ => rfl
  | 4, _ => rfl
  | 5, _ => rfl
  | 6, _ => rfl
  | 7, _ => rfl
theorem pair_bits : ∀ a b : Fin 16, bits BinOp.or IntKind.u8 ((a.val : Int) * 16) b.val = ((UInt8.ofNat (16 * a.val + b.val)).toNat : Int) := by decide +kernel
set_option maxRecDepth 100000 in
set_option maxHeartbeats 4000000 in
theorem pair_u (b : Nat) (s : Js.Bs) (st : Js.St) (w : World) (h : RdAt w b s st) (hlen : s.length ≤ 1073741824) (hlt : st.at_ < s.length) (hx : s[st.at_]? = some 117) :
    Calls Tryd.prog 60 #[.pointer (some ⟨b, 0, none⟩)] w (ROut b s w (fun c : UInt8 => .int .u8 c.toNat) (Js.pair s st)) := by
  have hz := str_size s
  have HR := Lib.hid h
  obtain ⟨c0, c1, -⟩ := h.cells
  have hat : st.at_ ≤ s.length := Nat.le_of_lt hlt
  have HP := Lib.hid (peek_of hx)
  have HD : Hid (Js.pair s st = (Js.word s [117, 48, 48] st).bind fun _ st => (Js.digit s st).bind fun a st => (Js.digit s st).bind fun b st => .ok (UInt8.ofNat (16 * a + b)) st) := Lib.hid (by unfold Js.pair; rw [if_pos hx])
  have q : decide ((st.at_ : Int) < (s.length : Int)) = true := by simp; omega
  clear h hx
  go_enter Tryd.func60, Tryd.ntmps60
  go_wp2_with fail
  go_quiet ((go_at_call 46; exact Calls.quiet_of (peek_at 117 HP.out (HR.out.drewN _) hlen hat)))
  go_wp2_with fail
  refine (word_any [117, 48, 48] (by decide) b s st _ (HR.out.drewN _) hlen hat).mono ?_
  intro e w2 ho
  rcases word_inv s [117, 48, 48] st with ⟨st2, hw, ha2⟩ | ⟨k, hw⟩
  · rw [hw] at ho
    obtain ⟨rfl, hr2, hb2⟩ := ho
    have HR2 := Lib.hid hr2
    have HB2 := Lib.hid (((But.refl [b] w).drewN nq).trans hb2)
    have ha2 := ha2 hat
    have HD2 : Hid (Js.pair s st = (Js.digit s st2).bind fun a st => (Js.digit s st).bind fun b st => .ok (UInt8.ofNat (16 * a + b)) st) := Lib.hid (by rw [HD.out, hw]; rfl)
    clear hr2 hb2 hw HD c0 c1
    go_wp2_with fail
    refine (digit_any b s st2 _ HR2.out hlen ha2).mono ?_
    intro e w3 ho
    rcases digit_inv (s := s) (st := st2) with ⟨a, ha, hd, hl⟩ | hd
    · rw [hd] at ho
      obtain ⟨rfl, hr3, hb3⟩ := ho
      have HR3 := Lib.hid hr3
      have HB3 := Lib.hid (HB2.out.trans hb3)
      have HD3 : Hid (Js.pair s st = (Js.digit s (Js.step st2)).bind fun b st => .ok (UInt8.ofNat (16 * a + b)) st) := Lib.hid (by rw [HD2.out, hd]; rfl)
      clear hr3 hb3 hd HD2 HR2 HB2
      go_wp2_with fail
      refine (digit_any b s (Js.step st2) _ HR3.out hlen hl).mono ?_
      intro e w4 ho
      rcases digit_inv (s := s) (st := Js.step st2) with ⟨a', ha', hd, hl'⟩ | hd
      · rw [hd] at ho
        obtain ⟨rfl, hr4, hb4⟩ := ho
        have HR4 := Lib.hid hr4
        have HB4 := Lib.hid (HB3.out.trans hb4)
        have HD4 : Hid (Js.pair s st = .ok (UInt8.ofNat (16 * a + a')) (Js.step (Js.step st2))) := Lib.hid (by rw [HD3.out, hd]; rfl)
        clear hr4 hb4 hd HD3 HR3 HB3
        go_wp2_with fail
        go_ret
        rw [HD4.out]
        exact ⟨ret_int (pair_bits ⟨a, ha⟩ ⟨a', ha'⟩), HR4.out, HB4.out⟩
      · rw [hd] at ho
        obtain ⟨rfl, hb4⟩ := ho
        have HD4 : Hid (Js.pair s st = .bad (Js.step st2).at_) := Lib.hid (by rw [HD3.out, hd]; rfl)
        have HB4 := Lib.hid (HB3.out.trans hb4)
        clear hb4 hd
        unfold bad
        go_wp2_with fail
        exact out_bad HD4.out rfl HB4.out
    · rw [hd] at ho
      obtain ⟨rfl, hb3⟩ := ho
      have HD3 : Hid (Js.pair s st = .bad st2.at_) := Lib.hid (by rw [HD2.out, hd]; rfl)
      have HB3 := Lib.hid (HB2.out.trans hb3)
      clear hb3 hd
      unfold bad
      go_wp2_with fail
      exact out_bad HD3.out rfl HB3.out
  · rw [hw] at ho
    obtain ⟨rfl, hb2⟩ := ho
    have HD2 : Hid (Js.pair s st = .bad k) := Lib.hid (by rw [HD.out, hw]; rfl)
    have HB2 := Lib.hid (((But.refl [b] w).drewN nq).trans hb2)
    clear hb2 hw
    unfold bad
    go_wp2_with fail
    exact out_bad HD2.out rfl HB2.out
set_option maxRecDepth 100000 in
set_option maxHeartbeats 4000000 in
theorem pair_no (b : Nat) (s : Js.Bs) (st : Js.St) (w : World) (h : RdAt w b s st) (hlen : s.length ≤ 1073741824) (hat : st.at_ ≤ s.length) (hx : s[st.at_]? ≠ some 117) :
    Calls Tryd.prog 60 #[.pointer (some ⟨b, 0, none⟩)] w (ROut b s w (fun c : UInt8 => .int .u8 c.toNat) (Js.pair s st)) := by
  have hz := str_size s
  have HR := Lib.hid h
  obtain ⟨c0, c1, -⟩ := h.cells
  have f1 := h.free 1
  have HC := Lib.hid (peek_cases s st hat)
  have HD : Hid (Js.pair s st = match (s[st.at_]?).bind Js.escV with | some c => .ok c (Js.step st) | none => .bad st.at_) := Lib.hid (by unfold Js.pair; rw [if_neg hx]; cases (s[st.at_]?).bind Js.escV <;> rfl)
  obtain ⟨c, hp⟩ : ∃ c, Js.peek s st = c := ⟨_, rfl⟩
  rw [hp] at HC
  have q117 : ((c.toNat : Int) == 117) = false := by
    simp
    intro e
    have : c = 117 := UInt8.toNat_inj.1 (by simpa using (by omega : c.toNat = 117))
    subst this
    rcases HC.out with ⟨_, h2⟩ | ⟨_, _, h2⟩
    · exact hx h2
    · exact absurd h2 (by decide)
  have HP := Lib.hid hp
  obtain ⟨⟨i1, i2⟩, g1, g2⟩ := peI_facts c
  have G := Lib.hid (And.intro g1 g2)
  clear h hx hp g1 g2
  go_enter Tryd.func60, Tryd.ntmps60
  go_wp2_with fail
  go_quiet ((go_at_call 46; exact Calls.quiet_of (peek_at c HP.out (HR.out.drewN _) hlen hat)))
  go_wp2_with fail
  refine (peek_at c HP.out (HR.out.drewN _) hlen hat).mono ?_
  rintro e w2 ⟨rfl, n, rfl⟩
  go_wp2_with fail
  refine (indexPe_any c _).mono ?_
  rintro e w2 ⟨rfl, rfl⟩
  by_cases hi : peI c < 0
  · have HD2 : Hid (Js.pair s st = .bad st.at_) := Lib.hid (by
      rw [HD.out]
      rcases HC.out with ⟨_, hx⟩ | ⟨_, hx, _⟩
      · rw [hx, Option.bind_some, G.out.2 hi]
      · rw [hx]; rfl)
    have j1 : decide (peI c < 0) = true := by simpa using hi
    go_wp2_with fail
    go_quiet (fail)
    go_wp2_with fail
    refine (fail_any b s st _ (HR.out.drewN _)).mono ?_
    rintro e w' ⟨rfl, rfl⟩
    unfold bad
    go_wp2_with fail
    exact out_bad HD2.out rfl ((But.refl _ _).drewN _)
  · have hlt : st.at_ < s.length := by
      rcases HC.out with ⟨hlt, _⟩ | ⟨_, _, rfl⟩
      · exact hlt
      · exact absurd (show peI 0 < 0 by decide) hi
    have hx : s[st.at_]? = some c := by
      rcases HC.out with ⟨_, hx⟩ | ⟨e, _, _⟩
      · exact hx
      · omega
    have j4 : 0 ≤ peI c := by omega
    have HD2 : Hid (Js.pair s st = .ok (peB (peI c).toNat) (Js.step st)) := Lib.hid (by rw [HD.out, hx, Option.bind_some, G.out.1 j4])
    have q : ((st.at_ : Int) == (s.length : Int)) = false := by simp; omega
    have j1 : decide (peI c < 0) = false := by simpa using hi
    obtain ⟨k, hk, hk8⟩ : ∃ k : Nat, peI c = k ∧ k < 8 := ⟨(peI c).toNat, by omega, by omega⟩
    rw [hk] at HD2 j1 j4 i1 i2 ⊢
    clear hx G hk
    go_wp2_with fail
    go_quiet (fail)
    go_wp2_with fail
    go_ret
    rw [HD2.out]
    exact ⟨ret_int (by rw [peB_get]; rfl), (HR.out.drewN _).step, ((But.refl _ _).drewN _).trans ((HR.out.drewN _).but 1 _)⟩
theorem pair_any (b : Nat) (s : Js.Bs) (st : Js.St) (w : World) (h : RdAt w b s st) (hlen : s.length ≤ 1073741824) (hat : st.at_ ≤ s.length) :
    Calls Tryd.prog 60 #[.pointer (some ⟨b, 0, none⟩)] w (ROut b s w (fun c : UInt8 => .int .u8 c.toNat) (Js.pair s st)) := by
  by_cases hx : s[st.at_]? = some 117
  · exact pair_u b s st w h hlen (List.getElem?_eq_some_iff.1 hx).1 hx
  · exact pair_no b s st w h hlen hat hx
end Go.Proofs.YtimioelnnhnbiaaDoor
