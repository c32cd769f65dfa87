/-
  THE WALKS, third part: digit, pair of json's reader. CONDITIONS: the reader lies in a block of its own; the text is not too long.
-/
import Derived.Test.YtimioelnnhnbiaaDoorWB
namespace Go.Proofs.YtimioelnnhnbiaaDoor
open Go.RowKit
def hxI (c : UInt8) : Int := Lib.indexByte [48, 49, 50, 51, 52, 53, 54, 55, 56, 57, 97, 98, 99, 100, 101, 102] (c ||| 32)
theorem hxI_facts (c : UInt8) : (-1 ≤ hxI c ∧ hxI c ≤ 15) ∧ bits BinOp.or IntKind.u8 c.toNat 32 = ((c ||| 32).toNat : Int) ∧ (48 ≤ c.toNat → c.toNat ≤ 57 → Js.hexV c = some (c.toNat - 48)) ∧ ((c.toNat < 48 ∨ 57 < c.toNat) → 10 ≤ hxI c → Js.hexV c = some (hxI c).toNat) ∧ ((c.toNat < 48 ∨ 57 < c.toNat) → hxI c < 10 → Js.hexV c = none) := by
  have h : ∀ n : Fin 256, (fun c : UInt8 => (-1 ≤ hxI c ∧ hxI c ≤ 15) ∧ bits BinOp.or IntKind.u8 c.toNat 32 = ((c ||| 32).toNat : Int) ∧ (48 ≤ c.toNat → c.toNat ≤ 57 → Js.hexV c = some (c.toNat - 48)) ∧ ((c.toNat < 48 ∨ 57 < c.toNat) → 10 ≤ hxI c → Js.hexV c = some (hxI c).toNat) ∧ ((c.toNat < 48 ∨ 57 < c.toNat) → hxI c < 10 → Js.hexV c = none)) (UInt8.ofNat n.val) := by decide +kernel
  have := h ⟨c.toNat, c.toNat_lt⟩
  simpa using this
theorem indexHx_any (c : UInt8) (v : Int) (hv : ((c ||| 32).toNat : Int) = v) (w : World) :
    Calls Tryd.prog 44 #[.string ⟨#[48, 49, 50, 51, 52, 53, 54, 55, 56, 57, 97, 98, 99, 100, 101, 102]⟩, .int .u8 v] w fun e w' => e = .returned (.int .i64 (hxI c)) ∧ w' = w := by
  subst hv
  refine (Tryd.strings_IndexByte _ _ _).mono ?_
  rintro e w' ⟨rfl, rfl⟩
  refine ⟨ret_int ?_, rfl⟩
  unfold hxI
  congr 1
  simp
theorem peek_cases (s : Js.Bs) (st : Js.St) (h : st.at_ ≤ s.length) : (st.at_ < s.length ∧ s[st.at_]? = some (Js.peek s st)) ∨ (st.at_ = s.length ∧ s[st.at_]? = none ∧ Js.peek s st = 0) := by
  by_cases hlt : st.at_ < s.length
  · refine .inl ⟨hlt, ?_⟩
    rw [peek_of (List.getElem?_eq_getElem hlt)]
    exact List.getElem?_eq_getElem hlt
  · exact .inr ⟨by omega, List.getElem?_eq_none (by omega), peek_end (by omega)⟩
set_option maxRecDepth 100000 in
set_option maxHeartbeats 4000000 in
theorem digit_any (b : Nat) (s : Js.Bs) (st : Js.St) (w : World) (h : RdAt w b s st) (hlen : s.length ≤ 1073741824) (hat : st.at_ ≤ s.length) :
    Calls Tryd.prog 68 #[.pointer (some ⟨b, 0, none⟩)] w (ROut b s w (fun n => .int .u8 (n : Nat)) (Js.digit s st)) := by
  have hz := str_size s
  have HC := Lib.hid (peek_cases s st hat)
  have HR := Lib.hid h
  go_enter Tryd.func68, Tryd.ntmps68
  go_wp2_with fail
  refine (peek_any b s st _ h hlen hat).mono ?_
  rintro e w2 ⟨rfl, n, rfl⟩
  obtain ⟨c0, c1, -⟩ := h.cells
  have f1 := h.free 1
  clear h
  have HD : Hid (Js.digit s st = match (s[st.at_]?).bind Js.hexV with | some n => .ok n (Js.step st) | none => .bad st.at_) := Lib.hid rfl
  generalize Js.peek s st = c at HC ⊢
  obtain ⟨⟨i1, i2⟩, hor, g1, g2, g3⟩ := hxI_facts c
  have hc256 := c.toNat_lt
  have G := Lib.hid (And.intro g1 (And.intro g2 g3))
  have HOR := Lib.hid hor
  clear g1 g2 g3 hor
  go_wp2_with fail
  refine (indexHx_any c _ HOR.out.symm _).mono ?_
  rintro e w3 ⟨rfl, rfl⟩
  by_cases hd : 48 ≤ c.toNat ∧ c.toNat ≤ 57
  · obtain ⟨d1, d2⟩ := hd
    have HV := Lib.hid (G.out.1 d1 d2)
    rcases HC.out with ⟨hlt, hx⟩ | ⟨_, _, rfl⟩
    · have HD2 : Hid (Js.digit s st = .ok (c.toNat - 48) (Js.step st)) := Lib.hid (by rw [HD.out, hx, Option.bind_some, HV.out])
      have q : ((st.at_ : Int) == (s.length : Int)) = false := by simp; omega
      have b1 : (48 : Int) ≤ c.toNat := by omega
      have b2 : (c.toNat : Int) ≤ 57 := by omega
      have b3 : (c.toNat : Int) - 48 < 10 := by omega
      have b4 : decide ((c.toNat : Int) - 48 < 10) = true := by simp; omega
      have b5 : ¬ (c.toNat : Int) < 48 := by omega
      have b6 : ¬ (57 : Int) < c.toNat := by omega
      have HE : Hid ((c.toNat : Int) - 48 = ((c.toNat - 48 : Nat) : Int)) := Lib.hid (by omega)
      clear hx hc256
      go_wp2_with fail
      go_quiet (fail)
      go_wp2_with fail
      go_ret
      rw [HD2.out]
      exact ⟨ret_int HE.out, (HR.out.drewN _).step, ((But.refl _ _).drewN _).trans ((HR.out.drewN _).but 1 _)⟩
    · exact absurd d1 (by decide)
  · have hdc : c.toNat < 48 ∨ 57 < c.toNat := by omega
    rcases hdc with b0 | b0
    · have hdc : c.toNat < 48 ∨ 57 < c.toNat := .inl b0
      by_cases hi : 10 ≤ hxI c
      · have hlt : st.at_ < s.length := by
          rcases HC.out with ⟨hlt, _⟩ | ⟨_, _, rfl⟩
          · exact hlt
          · exact absurd hi (by decide)
        have hx : s[st.at_]? = some c := by
          rcases HC.out with ⟨_, hx⟩ | ⟨e, _, _⟩
          · exact hx
          · omega
        have HD2 : Hid (Js.digit s st = .ok (hxI c).toNat (Js.step st)) := Lib.hid (by rw [HD.out, hx, Option.bind_some, G.out.2.1 hdc hi])
        have q : ((st.at_ : Int) == (s.length : Int)) = false := by simp; omega
        have HE : Hid (hxI c = ((hxI c).toNat : Nat)) := Lib.hid (by omega)
        have j1 : ¬ hxI c < 0 := by omega
        have j2 : ¬ hxI c < 10 := by omega
        have j3 : decide (hxI c < 10) = false := by simp; omega
        have j4 : 0 ≤ hxI c := by omega
        have j5 : hxI c < 256 := by omega
        clear hx hc256 hdc
        have n1 : (c.toNat : Int) < 48 := by omega
        have n2 : ¬ (48 : Int) ≤ c.toNat := by omega
        have n3 : decide ((c.toNat : Int) < 48) = true := by simp; omega
        go_wp2_with fail
        go_quiet (fail)
        go_wp2_with fail
        go_ret
        rw [HD2.out]
        exact ⟨ret_int HE.out, (HR.out.drewN _).step, ((But.refl _ _).drewN _).trans ((HR.out.drewN _).but 1 _)⟩
      · have HD2 : Hid (Js.digit s st = .bad st.at_) := Lib.hid (by
          rw [HD.out]
          rcases HC.out with ⟨_, hx⟩ | ⟨_, hx, _⟩
          · rw [hx, Option.bind_some, G.out.2.2 hdc (by omega)]
          · rw [hx]; rfl)
        clear hc256 hdc
        by_cases hj : hxI c < 0
        · have j1 : decide (hxI c < 0) = true := by simpa using hj
          have n1 : (c.toNat : Int) < 48 := by omega
          have n2 : ¬ (48 : Int) ≤ c.toNat := by omega
          have n3 : decide ((c.toNat : Int) < 48) = true := by simp; omega
          go_wp2_with fail
          go_quiet (fail)
          go_wp2_with fail
          refine (fail_any b s st _ (HR.out.drewN _)).mono ?_
          rintro e w' ⟨rfl, rfl⟩
          unfold bad
          go_wp2_with fail
          exact out_bad HD2.out rfl ((But.refl _ _).drewN _)
        · have hlt : st.at_ < s.length := by
            rcases HC.out with ⟨hlt, _⟩ | ⟨_, _, rfl⟩
            · exact hlt
            · exact absurd (show hxI 0 < 0 by decide) hj
          have q : ((st.at_ : Int) == (s.length : Int)) = false := by simp; omega
          have j1 : decide (hxI c < 0) = false := by simpa using hj
          have j2 : hxI c < 10 := by omega
          have j3 : decide (hxI c < 10) = true := by simpa using j2
          have j4 : 0 ≤ hxI c := by omega
          have n1 : (c.toNat : Int) < 48 := by omega
          have n2 : ¬ (48 : Int) ≤ c.toNat := by omega
          have n3 : decide ((c.toNat : Int) < 48) = true := by simp; omega
          go_wp2_with fail
          go_quiet (fail)
          go_wp2_with fail
          refine (fail_any b s st _ (HR.out.drewN _)).mono ?_
          rintro e w' ⟨rfl, rfl⟩
          unfold bad
          go_wp2_with fail
          exact out_bad HD2.out rfl ((But.refl _ _).drewN _)
    · have hdc : c.toNat < 48 ∨ 57 < c.toNat := .inr b0
      by_cases hi : 10 ≤ hxI c
      · have hlt : st.at_ < s.length := by
          rcases HC.out with ⟨hlt, _⟩ | ⟨_, _, rfl⟩
          · exact hlt
          · exact absurd hi (by decide)
        have hx : s[st.at_]? = some c := by
          rcases HC.out with ⟨_, hx⟩ | ⟨e, _, _⟩
          · exact hx
          · omega
        have HD2 : Hid (Js.digit s st = .ok (hxI c).toNat (Js.step st)) := Lib.hid (by rw [HD.out, hx, Option.bind_some, G.out.2.1 hdc hi])
        have q : ((st.at_ : Int) == (s.length : Int)) = false := by simp; omega
        have HE : Hid (hxI c = ((hxI c).toNat : Nat)) := Lib.hid (by omega)
        have j1 : ¬ hxI c < 0 := by omega
        have j2 : ¬ hxI c < 10 := by omega
        have j3 : decide (hxI c < 10) = false := by simp; omega
        have j4 : 0 ≤ hxI c := by omega
        have j5 : hxI c < 256 := by omega
        clear hx hc256 hdc
        have n1 : (48 : Int) ≤ c.toNat := by omega
        have n2 : ¬ (c.toNat : Int) ≤ 57 := by omega
        have n3 : decide ((c.toNat : Int) < 48) = false := by simp; omega
        have n4 : decide ((57 : Int) < c.toNat) = true := by simp; omega
        have n5 : decide ((c.toNat : Int) ≤ 57) = false := by simp; omega
        go_wp2_with fail
        go_quiet (fail)
        go_wp2_with fail
        go_ret
        rw [HD2.out]
        exact ⟨ret_int HE.out, (HR.out.drewN _).step, ((But.refl _ _).drewN _).trans ((HR.out.drewN _).but 1 _)⟩
      · have HD2 : Hid (Js.digit s st = .bad st.at_) := Lib.hid (by
          rw [HD.out]
          rcases HC.out with ⟨_, hx⟩ | ⟨_, hx, _⟩
          · rw [hx, Option.bind_some, G.out.2.2 hdc (by omega)]
          · rw [hx]; rfl)
        clear hc256 hdc
        by_cases hj : hxI c < 0
        · have j1 : decide (hxI c < 0) = true := by simpa using hj
          have n1 : (48 : Int) ≤ c.toNat := by omega
          have n2 : ¬ (c.toNat : Int) ≤ 57 := by omega
          have n3 : decide ((c.toNat : Int) < 48) = false := by simp; omega
          have n4 : decide ((57 : Int) < c.toNat) = true := by simp; omega
          have n5 : decide ((c.toNat : Int) ≤ 57) = false := by simp; omega
          go_wp2_with fail
          go_quiet (fail)
          go_wp2_with fail
          refine (fail_any b s st _ (HR.out.drewN _)).mono ?_
          rintro e w' ⟨rfl, rfl⟩
          unfold bad
          go_wp2_with fail
          exact out_bad HD2.out rfl ((But.refl _ _).drewN _)
        · have hlt : st.at_ < s.length := by
            rcases HC.out with ⟨hlt, _⟩ | ⟨_, _, rfl⟩
            · exact hlt
            · exact absurd (show hxI 0 < 0 by decide) hj
          have q : ((st.at_ : Int) == (s.length : Int)) = false := by simp; omega
          have j1 : decide (hxI c < 0) = false := by simpa using hj
          have j2 : hxI c < 10 := by omega
          have j3 : decide (hxI c < 10) = true := by simpa using j2
          have j4 : 0 ≤ hxI c := by omega
          have n1 : (48 : Int) ≤ c.toNat := by omega
          have n2 : ¬ (c.toNat : Int) ≤ 57 := by omega
          have n3 : decide ((c.toNat : Int) < 48) = false := by simp; omega
          have n4 : decide ((57 : Int) < c.toNat) = true := by simp; omega
          have n5 : decide ((c.toNat : Int) ≤ 57) = false := by simp; omega
          go_wp2_with fail
          go_quiet (fail)
          go_wp2_with fail
          refine (fail_any b s st _ (HR.out.drewN _)).mono ?_
          rintro e w' ⟨rfl, rfl⟩
          unfold bad
          go_wp2_with fail
          exact out_bad HD2.out rfl ((But.refl _ _).drewN _)
end Go.Proofs.YtimioelnnhnbiaaDoor
