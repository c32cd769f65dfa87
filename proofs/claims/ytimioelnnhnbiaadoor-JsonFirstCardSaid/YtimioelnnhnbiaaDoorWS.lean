/-
  THE WALKS, eighteenth part: quote of package json. CONDITIONS: the builder lies as IsB says; lengths.
-/
import Derived.Test.YtimioelnnhnbiaaDoorWR
namespace Go.Proofs.YtimioelnnhnbiaaDoor
open Go.RowKit
/-- What comes of writing to a builder. -/
def WOut (B bb : Nat) (l : Js.Bs) (w : World) (e : Ending) (w' : World) : Prop := e = .returned (.tuple #[]) ∧ IsB B bb l w' ∧ Below B w w' ∧ Lib.OthersKept 5 (some bb) w w'
def qI (c : UInt8) : Int := Lib.indexByte [34, 92, 10, 13, 9] c
def qB (n : Nat) : UInt8 := [34, 92, 110, 114, 116].getD n 0
def hB (n : Nat) : UInt8 := [48, 49, 50, 51, 52, 53, 54, 55, 56, 57, 97, 98, 99, 100, 101, 102].getD n 0
theorem qI_facts (c : UInt8) : (-1 ≤ qI c ∧ qI c ≤ 4) ∧ (0 ≤ qI c → Js.esc c = [92, qB (qI c).toNat]) ∧ (qI c < 0 → (32 ≤ c.toNat ∧ c.toNat ≤ 126) → Js.esc c = [c]) ∧ (qI c < 0 → ¬ (32 ≤ c.toNat ∧ c.toNat ≤ 126) → Js.esc c = [92, 117, 48, 48, hB (c.toNat / 16), hB (c.toNat % 16)]) ∧ bits BinOp.and IntKind.u8 c.toNat 15 = ((c.toNat % 16 : Nat) : Int) := by
  have h : ∀ n : Fin 256, (fun c : UInt8 => (-1 ≤ qI c ∧ qI c ≤ 4) ∧ (0 ≤ qI c → Js.esc c = [92, qB (qI c).toNat]) ∧ (qI c < 0 → (32 ≤ c.toNat ∧ c.toNat ≤ 126) → Js.esc c = [c]) ∧ (qI c < 0 → ¬ (32 ≤ c.toNat ∧ c.toNat ≤ 126) → Js.esc c = [92, 117, 48, 48, hB (c.toNat / 16), hB (c.toNat % 16)]) ∧ bits BinOp.and IntKind.u8 c.toNat 15 = ((c.toNat % 16 : Nat) : Int)) (UInt8.ofNat n.val) := by decide +kernel
  have := h ⟨c.toNat, c.toNat_lt⟩
  simpa using this
theorem indexQ_any (c : UInt8) (w : World) :
    Calls Tryd.prog 44 #[.string ⟨#[34, 92, 10, 13, 9]⟩, .int .u8 c.toNat] w fun e w' => e = .returned (.int .i64 (qI c)) ∧ w' = w := by
  refine (Tryd.strings_IndexByte _ _ _).mono ?_
  rintro e w' ⟨rfl, rfl⟩
  refine ⟨ret_int ?_, rfl⟩
  unfold qI
  congr 1
  simp
theorem qB_get (k : Nat) (h : k < (⟨#[34, 92, 110, 114, 116]⟩ : ByteArray).size) : (⟨#[34, 92, 110, 114, 116]⟩ : ByteArray)[k] = qB k := by
  have h8 : k < 5 := h
  match k, h8 with
  | 0, _ => rfl
  | 1, _ => rfl
  | 2, _ => rfl
  | 3, _ => rfl
  | 4, _ => rfl
theorem hB_get (k : Nat) (h : k < (⟨#[48, 49, 50, 51, 52, 53, 54, 55, 56, 57, 97, 98, 99, 100, 101, 102]⟩ : ByteArray).size) : (⟨#[48, 49, 50, 51, 52, 53, 54, 55, 56, 57, 97, 98, 99, 100, 101, 102]⟩ : ByteArray)[k] = hB k := by
  have h8 : k < 16 := h
  match k, h8 with
  | 0, _ => rfl
  | 1, _ => rfl
  | 2, _ => rfl
  | 3, _ => rfl
  | 4, _ => rfl
  | 5, _ => rfl
  | 6, _ => rfl
  | 7, _ => rfl
  | 8, _ => rfl
  | 9, _ => rfl
  | 10, _ => rfl
  | 11, _ => rfl
  | 12, _ => rfl
  | 13, _ => rfl
  | 14, _ => rfl
  | 15, _ => rfl
  | n + 16, h => exact absurd h (by omega)
theorem esc_len (c : UInt8) : 1 ≤ (Js.esc c).length ∧ (Js.esc c).length ≤ 6 := by
  unfold Js.esc
  repeat' split
  all_goals simp
theorem flat_esc_len (s : Js.Bs) (k : Nat) : ((s.take k).flatMap Js.esc).length ≤ 6 * s.length := by
  have h : ∀ l : Js.Bs, (l.flatMap Js.esc).length ≤ 6 * l.length := by
    intro l
    induction l with
    | nil => simp
    | cons c t ih => rw [List.flatMap_cons, List.length_append, List.length_cons]; have := (esc_len c).2; omega
  have := h (s.take k)
  have := List.length_take_le k s
  have h2 : (s.take k).length ≤ s.length := by rw [List.length_take]; omega
  omega
set_option maxRecDepth 100000 in
set_option maxHeartbeats 8000000 in
theorem quote_any (B bb : Nat) (acc s : Js.Bs) (w : World) (h : IsB B bb acc w) (hacc : acc.length ≤ 1099511627776) (hs : s.length ≤ 1073741824) :
    Calls Tryd.prog 33 #[.pointer (some ⟨bb, 0, none⟩), .string (str s)] w (WOut B bb (acc ++ Js.quote s) w) := by
  have hz := str_size s
  have HH := Lib.hid h
  clear h
  go_enter Tryd.func33, Tryd.ntmps33
  go_wp2_with fail
  refine (writeByte_at B bb acc 34 34 rfl _ HH.out (by omega)).mono ?_
  rintro e w1 ⟨rfl, h1, b1, k1⟩
  have H1 : Hid (IsB B bb (acc ++ [34] ++ (s.take 0).flatMap Js.esc) w1) := Lib.hid (by simpa using h1)
  have B1 := Lib.hid b1
  have K1 := Lib.hid k1
  clear h1 b1 k1
  go_wp2_with fail
  go_loopw [4, 5, 6, 11] (fun _ _ _ i wr => ∃ k : Nat, k ≤ s.length ∧ i = .int .i64 k ∧ Hid (IsB B bb (acc ++ [34] ++ (s.take k).flatMap Js.esc) wr) ∧ Hid (Below B w wr) ∧ Hid (Lib.OthersKept 5 (some bb) w wr)) (fun _ _ _ i _ => s.length - (intOf i).toNat)
  case atStart => exact ⟨0, Nat.zero_le _, rfl, H1, B1, K1⟩
  case round =>
    obtain ⟨k, hk, rfl, HB, HW, HK⟩ := hrel
    clear H1 B1 K1
    have hl0 : (acc ++ [34] ++ (s.take k).flatMap Js.esc).length ≤ 1109511627776 := by
      have := flat_esc_len s k
      rw [List.length_append, List.length_append, List.length_singleton]; omega
    by_cases hlt : k < s.length
    · have hks : k < (str s).size := by omega
      obtain ⟨c, hc⟩ : ∃ c, s[k]? = some c := ⟨_, List.getElem?_eq_getElem hlt⟩
      have HG := str_get hc hks
      have HNX : Hid (acc ++ [34] ++ (s.take (k + 1)).flatMap Js.esc = (acc ++ [34] ++ (s.take k).flatMap Js.esc) ++ Js.esc c) := Lib.hid (by
        rw [List.take_add_one, hc, List.flatMap_append]; simp)
      generalize acc ++ [34] ++ (s.take k).flatMap Js.esc = q at HB HNX hl0
      obtain ⟨⟨i1, i2⟩, e1, e2, e3, e4⟩ := qI_facts c
      have HE := Lib.hid (And.intro e1 (And.intro e2 e3))
      have HAND := e4
      have c256 := c.toNat_lt
      clear hc e1 e2 e3 e4
      go_wp2_with fail
      refine (indexQ_any c _).mono ?_
      rintro e w2 ⟨rfl, rfl⟩
      by_cases hq : 0 ≤ qI c
      · have HES := Lib.hid (HE.out.1 hq)
        obtain ⟨j, hj, hj5⟩ : ∃ j : Nat, qI c = j ∧ j < 5 := ⟨(qI c).toNat, by omega, by omega⟩
        rw [hj] at HES hq i1 i2 ⊢
        clear hj HE HAND
        go_wp2_with fail
        refine (writeByte_at B bb q 92 92 rfl _ HB.out (by omega)).mono ?_
        rintro e w3 ⟨rfl, h3, b3, k3⟩
        have H3 := Lib.hid h3
        have B3 := Lib.hid (HW.out.trans b3)
        have K3 := Lib.hid (HK.out.trans k3)
        clear h3 b3 k3 HB HW HK
        go_wp2_with fail
        refine (writeByte_at B bb _ _ (qB j) (by rw [qB_get]) _ H3.out (by rw [List.length_append, List.length_singleton]; omega)).mono ?_
        rintro e w4 ⟨rfl, h4, b4, k4⟩
        have H4 : Hid (IsB B bb (acc ++ [34] ++ (s.take (k + 1)).flatMap Js.esc) w4) := Lib.hid (by
          rw [HNX.out, HES.out]
          have e : q ++ [92, qB (j : Int).toNat] = q ++ [92] ++ [qB j] := by simp
          rw [e]; exact h4)
        have B4 := Lib.hid (B3.out.trans b4)
        have K4 := Lib.hid (K3.out.trans k4)
        clear h4 b4 k4 H3 B3 K3
        go_wp2_with fail
        go_roundw
        case rel => exact ⟨k + 1, by omega, by go_num, H4, B4, K4⟩
        case measure => simp [intOf]; omega
      · have hq' : ¬ 0 ≤ qI c := hq
        by_cases hp : 32 ≤ c.toNat ∧ c.toNat ≤ 126
        · have HES := Lib.hid (HE.out.2.1 (by omega) hp)
          have p1 : (32 : Int) ≤ c.toNat := by omega
          have p2 : (c.toNat : Int) ≤ 126 := by omega
          clear HE HAND hp
          go_wp2_with fail
          refine (writeByte_any B bb q c _ HB.out (by omega)).mono ?_
          rintro e w3 ⟨rfl, h3, b3, k3⟩
          have H3 : Hid (IsB B bb (acc ++ [34] ++ (s.take (k + 1)).flatMap Js.esc) w3) := Lib.hid (by rw [HNX.out, HES.out]; exact h3)
          have B3 := Lib.hid (HW.out.trans b3)
          have K3 := Lib.hid (HK.out.trans k3)
          clear h3 b3 k3 HB HW HK
          go_wp2_with fail
          go_roundw
          case rel => exact ⟨k + 1, by omega, by go_num, H3, B3, K3⟩
          case measure => simp [intOf]; omega
        · have HES := Lib.hid (HE.out.2.2 (by omega) hp)
          have hp' : c.toNat < 32 ∨ 126 < c.toNat := by omega
          clear HE hp
          rcases hp' with p0 | p0
          · have p1 : ¬ (32 : Int) ≤ c.toNat := by omega
            go_wp2_with fail
            refine (writeString_at B bb q [92, 117, 48, 48] _ rfl _ HB.out (by simp; omega)).mono ?_
            rintro e w3 ⟨rfl, h3, b3, k3⟩
            have H3 := Lib.hid h3
            have B3 := Lib.hid (HW.out.trans b3)
            have K3 := Lib.hid (HK.out.trans k3)
            clear h3 b3 k3 HB HW HK
            go_wp2_with fail
            refine (writeByte_at B bb _ _ (hB (c.toNat / 16)) (by rw [hB_get]) _ H3.out (by rw [List.length_append]; simp; omega)).mono ?_
            rintro e w4 ⟨rfl, h4, b4, k4⟩
            have H4 := Lib.hid h4
            have B4 := Lib.hid (B3.out.trans b4)
            have K4 := Lib.hid (K3.out.trans k4)
            clear h4 b4 k4 H3 B3 K3
            have hm16 : ((c.toNat % 16 : Nat) : Int) < 16 := by omega
            go_wp2_with fail
            refine (writeByte_at B bb _ _ (hB (c.toNat % 16)) (by rw [hB_get]) _ H4.out (by rw [List.length_append, List.length_append]; simp; omega)).mono ?_
            rintro e w5 ⟨rfl, h5, b5, k5⟩
            have H5 : Hid (IsB B bb (acc ++ [34] ++ (s.take (k + 1)).flatMap Js.esc) w5) := Lib.hid (by
              rw [HNX.out, HES.out]
              have e : q ++ [92, 117, 48, 48, hB (c.toNat / 16), hB (c.toNat % 16)] = q ++ [92, 117, 48, 48] ++ [hB (c.toNat / 16)] ++ [hB (c.toNat % 16)] := by simp
              rw [e]; exact h5)
            have B5 := Lib.hid (B4.out.trans b5)
            have K5 := Lib.hid (K4.out.trans k5)
            clear h5 b5 k5 H4 B4 K4
            go_wp2_with fail
            go_roundw
            case rel => exact ⟨k + 1, by omega, by go_num, H5, B5, K5⟩
            case measure => simp [intOf]; omega
          · have p1 : (32 : Int) ≤ c.toNat := by omega
            have p2 : ¬ (c.toNat : Int) ≤ 126 := by omega
            go_wp2_with fail
            refine (writeString_at B bb q [92, 117, 48, 48] _ rfl _ HB.out (by simp; omega)).mono ?_
            rintro e w3 ⟨rfl, h3, b3, k3⟩
            have H3 := Lib.hid h3
            have B3 := Lib.hid (HW.out.trans b3)
            have K3 := Lib.hid (HK.out.trans k3)
            clear h3 b3 k3 HB HW HK
            go_wp2_with fail
            refine (writeByte_at B bb _ _ (hB (c.toNat / 16)) (by rw [hB_get]) _ H3.out (by rw [List.length_append]; simp; omega)).mono ?_
            rintro e w4 ⟨rfl, h4, b4, k4⟩
            have H4 := Lib.hid h4
            have B4 := Lib.hid (B3.out.trans b4)
            have K4 := Lib.hid (K3.out.trans k4)
            clear h4 b4 k4 H3 B3 K3
            have hm16 : ((c.toNat % 16 : Nat) : Int) < 16 := by omega
            go_wp2_with fail
            refine (writeByte_at B bb _ _ (hB (c.toNat % 16)) (by rw [hB_get]) _ H4.out (by rw [List.length_append, List.length_append]; simp; omega)).mono ?_
            rintro e w5 ⟨rfl, h5, b5, k5⟩
            have H5 : Hid (IsB B bb (acc ++ [34] ++ (s.take (k + 1)).flatMap Js.esc) w5) := Lib.hid (by
              rw [HNX.out, HES.out]
              have e : q ++ [92, 117, 48, 48, hB (c.toNat / 16), hB (c.toNat % 16)] = q ++ [92, 117, 48, 48] ++ [hB (c.toNat / 16)] ++ [hB (c.toNat % 16)] := by simp
              rw [e]; exact h5)
            have B5 := Lib.hid (B4.out.trans b5)
            have K5 := Lib.hid (K4.out.trans k5)
            clear h5 b5 k5 H4 B4 K4
            go_wp2_with fail
            go_roundw
            case rel => exact ⟨k + 1, by omega, by go_num, H5, B5, K5⟩
            case measure => simp [intOf]; omega
    · obtain rfl : k = s.length := by omega
      rw [List.take_length] at HB
      go_wp2_with fail
      refine (writeByte_at B bb _ 34 34 rfl _ HB.out (by rw [List.take_length] at hl0; omega)).mono ?_
      rintro e w3 ⟨rfl, h3, b3, k3⟩
      have H3 : Hid (IsB B bb (acc ++ Js.quote s) w3) := Lib.hid (by
        have e : acc ++ Js.quote s = acc ++ [34] ++ s.flatMap Js.esc ++ [34] := by unfold Js.quote; simp
        rw [e]; exact h3)
      have B3 := Lib.hid (HW.out.trans b3)
      have K3 := Lib.hid (HK.out.trans k3)
      clear h3 b3 k3 HB HW HK
      go_wp2_with fail
      go_end0
      exact ⟨rfl, H3.out, B3.out, K3.out⟩
end Go.Proofs.YtimioelnnhnbiaaDoor
