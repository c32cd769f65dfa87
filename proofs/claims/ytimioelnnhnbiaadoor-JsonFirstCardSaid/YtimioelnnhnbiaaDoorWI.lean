/-
  THE WALKS, eighth part: list of json's reader, for whatever closure. CONDITIONS: the reader lies in a block of its own; the text is not too long; the closure's contract is handed in.
-/
import Derived.Test.YtimioelnnhnbiaaDoorWH
namespace Go.Proofs.YtimioelnnhnbiaaDoor
open Go.RowKit
/-- What comes of a part that turns what is kept. -/
def LOut {α : Type} (b : Nat) (s : Js.Bs) (I : α → World → Prop) (D : World → Prop) : Js.Res α → Ending → World → Prop
  | .ok a st, e, w' => e = .returned (.tuple #[]) ∧ RdAt w' b s st ∧ I a w'
  | .bad k, e, w' => e = bad k ∧ D w'
  | .out, _, _ => False
theorem lout_bad {α : Type} {fn : Func} {b : Nat} {s : Js.Bs} {w' : World} {I : α → World → Prop} {D : World → Prop} {r : Js.Res α} {k : Nat} {a : Act} (hr : r = .bad k) (hd : a.defers = []) (hb : D w') :
    bodyPost Tryd.prog fn (LOut b s I D r) (.panic [{ v := .iface 64 (.int .i64 k), recovered := false }]) a w' := by
  subst hr
  exact ⟨hd, rfl, hb⟩
def listOf {α : Type} (s : Js.Bs) (end_ : UInt8) (go : Nat → α → Js.St → Js.Res α) (n : Nat) (a : α) (st : Js.St) : Js.Res α :=
  if Js.peek s (Js.blanks s st) = end_ then .ok a (Js.step (Js.blanks s st)) else go n a (Js.blanks s st)
theorem Fine.step {s : Js.Bs} {st : Js.St} (h : Fine s st) (hlt : st.at_ < s.length) : Fine s (Js.step st) := by
  obtain ⟨h1, h2, h3, h4⟩ := h
  exact ⟨hlt, by show st.deep ≤ st.at_ + 1; omega, by show st.nodes ≤ st.at_ + 1; omega, by show st.bytes ≤ st.at_ + 1; omega⟩
set_option maxRecDepth 100000 in
set_option maxHeartbeats 8000000 in
theorem list_any {α : Type} (end_ : UInt8) (hend : end_ ≠ 0) (f : FuncId) (cap : Array Value) (b : Nat) (s : Js.Bs) (hlen : s.length ≤ 1073741824)
    (one go : Nat → α → Js.St → Js.Res α) (I : α → World → Prop) (D : World → Prop) (n : Nat)
    (hrun : ∀ w, (callFunc f cap).run Tryd.prog w = .ok (.enter f cap) w)
    (hgo0 : ∀ a st, go 0 a st = .out)
    (hgo : ∀ m a st, go (m + 1) a st = (one m a st).bind fun a st => if Js.peek s st = end_ then .ok a (Js.step st) else (Js.take s 44 st).bind fun _ st => go m a st)
    (F : α → Js.St → Prop) (hF1 : ∀ a st, F a st → Fine s st) (hF2 : ∀ a st, F a st → st.at_ < s.length → F a (Js.step st)) (hF3 : ∀ a st, F a st → F a (Js.blanks s st))
    (hI : ∀ a w w', I a w → But [b] w w' → I a w') (hD : ∀ a w w', I a w → But [b] w w' → D w')
    (hone : ∀ m a st w, m < n → RdAt w b s st → F a st → I a w → one m a st ≠ .out → Calls Tryd.prog f cap w (LOut b s I D (one m a st)))
    (hfine : ∀ m a st a' st', one m a st = .ok a' st' → F a st → F a' st')
    (a : α) (st : Js.St) (w : World) (h : RdAt w b s st) (hF : F a st) (ha : I a w) (hne : listOf s end_ go n a st ≠ .out) :
    Calls Tryd.prog 50 #[.pointer (some ⟨b, 0, none⟩), .int .u8 end_.toNat, .func (.func f) #[] cap] w (LOut b s I D (listOf s end_ go n a st)) := by
  have HRUN := Lib.hid hrun
  have H0 := Lib.hid hgo0
  have HG := Lib.hid hgo
  have HI := Lib.hid hI
  have HDD := Lib.hid hD
  have H1 := Lib.hid hone
  have HFN := Lib.hid hfine
  have HA := Lib.hid ha
  have G1 := Lib.hid hF1
  have G2 := Lib.hid hF2
  have hFb := hF3 a st hF
  have hat0 := (hF1 a st hF).at_
  have HNE := Lib.hid hne
  clear hrun hgo0 hgo hI hD hone hfine ha hne hF1 hF2 hF3
  go_enter Tryd.func50, Tryd.ntmps50
  go_wp2_with fail
  refine (blanks_any b s st _ h hlen hat0).mono ?_
  rintro e w1 ⟨rfl, hr1, hb1⟩
  have HL : Hid (listOf s end_ go n a st = if Js.peek s (Js.blanks s st) = end_ then .ok a (Js.step (Js.blanks s st)) else go n a (Js.blanks s st)) := Lib.hid rfl
  generalize Js.blanks s st = st1 at hr1 hFb HL
  have HR1 := Lib.hid hr1
  have HA1 := Lib.hid (HI.out a w w1 HA.out hb1)
  have HF1 := Lib.hid hFb
  clear hr1 hb1 h hF hFb HA hat0
  go_wp2_with fail
  obtain ⟨c, hp⟩ : ∃ c, Js.peek s st1 = c := ⟨_, rfl⟩
  have HP := Lib.hid hp
  clear hp
  refine (peek_at c HP.out HR1.out hlen (G1.out _ _ HF1.out).at_).mono ?_
  rintro e w2 ⟨rfl, n2, rfl⟩
  by_cases hc : c = end_
  · have HE : Hid (listOf s end_ go n a st = .ok a (Js.step st1)) := Lib.hid (by rw [HL.out, HP.out, if_pos hc])
    have q := u8_eq hc
    obtain ⟨k0, k1, -⟩ := HR1.out.cells
    have f1 := HR1.out.free 1
    have hat := (G1.out _ _ HF1.out).at_
    clear hc
    go_wp2_with fail
    refine bodyPost_ret (results_none rfl _ _ _) rfl ?_
    rw [HE.out]
    have hb := ((But.refl [b] w1).drewN n2).trans ((HR1.out.drewN n2).but 1 (.int .i64 ((st1.at_ : Int) + 1)))
    exact ⟨rfl, (HR1.out.drewN n2).step, HI.out a _ _ HA1.out hb⟩
  · have HE : Hid (listOf s end_ go n a st = go n a st1) := Lib.hid (by rw [HL.out, HP.out, if_neg hc])
    have q := (u8_ne hc).1
    have HR2 := Lib.hid (HR1.out.drewN n2)
    have HA2 := Lib.hid (HI.out a _ _ HA1.out ((But.refl [b] w1).drewN n2))
    clear hc HR1 HA1 HL HP
    go_wp2_with fail
    go_loopg [20] n (fun k _ wr => ∃ (a' : α) (st' : Js.St), k ≤ n ∧ Hid (RdAt wr b s st') ∧ Hid (F a' st') ∧ Hid (I a' wr) ∧ Hid (listOf s end_ go n a st = go k a' st'))
    case atStart => exact ⟨a, st1, Nat.le_refl _, HR2, HF1, HA2, HE⟩
    case round =>
      obtain ⟨a', st', hk, HR, HF, HA, HE⟩ := hrel
      clear HR2 HF1 HA2 q
      cases gk with
      | zero =>
        refine absurd ?_ HNE.out
        rw [HE.out, H0.out]
      | succ k =>
        have HE1 := Lib.hid (HE.out.trans (HG.out k a' st'))
        have hneO : one k a' st' ≠ .out := by
          intro e0
          apply HNE.out
          rw [HE1.out, e0]; rfl
        have HFO := Lib.hid (HFN.out k a' st')
        go_wp2_with fail
        rw [HRUN.out]
        rw [Oper.upon_enter]
        refine (H1.out k a' st' wr (by omega) HR.out HF.out HA.out hneO).mono ?_
        intro e w3 ho
        generalize one k a' st' = r at ho HE1 HFO hneO
        cases r with
        | out => exact absurd rfl hneO
        | bad kb =>
          obtain ⟨rfl, hd3⟩ := ho
          have HE2 : Hid (listOf s end_ go n a st = .bad kb) := Lib.hid (by rw [HE1.out]; rfl)
          have HD3 := Lib.hid hd3
          clear hd3 hneO HFO HE1 HE
          unfold bad
          go_wp2_with fail
          exact lout_bad HE2.out rfl HD3.out
        | ok a3 st3 =>
          obtain ⟨rfl, hr3, ha3⟩ := ho
          have hf3 := HFO.out a3 st3 rfl HF.out
          have HE2 : Hid (listOf s end_ go n a st = if Js.peek s st3 = end_ then Js.Res.ok a3 (Js.step st3) else (Js.take s 44 st3).bind fun _ st => go k a3 st) := Lib.hid (by rw [HE1.out]; rfl)
          have HR3 := Lib.hid hr3
          have HA3 := Lib.hid ha3
          have HF3 := Lib.hid hf3
          clear hr3 ha3 hf3 hneO HFO HE1 HE HR HA HF
          obtain ⟨c, hp⟩ : ∃ c, Js.peek s st3 = c := ⟨_, rfl⟩
          have HP := Lib.hid hp
          clear hp
          go_wp2_with fail
          refine (peek_at c HP.out HR3.out hlen (G1.out _ _ HF3.out).at_).mono ?_
          rintro e w4 ⟨rfl, n4, rfl⟩
          by_cases hc : c = end_
          · have HE3 : Hid (listOf s end_ go n a st = .ok a3 (Js.step st3)) := Lib.hid (by rw [HE2.out, HP.out, if_pos hc])
            have q := u8_eq hc
            obtain ⟨k0, k1, -⟩ := HR3.out.cells
            have f1 := HR3.out.free 1
            have hat := (G1.out _ _ HF3.out).at_
            clear hc
            go_wp2_with fail
            refine bodyPost_ret (results_none rfl _ _ _) rfl ?_
            rw [HE3.out]
            have hb := ((But.refl [b] w3).drewN n4).trans ((HR3.out.drewN n4).but 1 (.int .i64 ((st3.at_ : Int) + 1)))
            exact ⟨rfl, (HR3.out.drewN n4).step, HI.out a3 _ _ HA3.out hb⟩
          · have HE3 : Hid (listOf s end_ go n a st = (Js.take s 44 st3).bind fun _ st => go k a3 st) := Lib.hid (by rw [HE2.out, HP.out, if_neg hc])
            have q := (u8_ne hc).1
            have HR4 := Lib.hid (HR3.out.drewN n4)
            have HA4 := Lib.hid (HI.out a3 _ _ HA3.out ((But.refl [b] w3).drewN n4))
            clear hc HR3 HA3 HP HE2
            go_wp2_with fail
            refine (take_any b s 44 st3 _ HR4.out hlen (G1.out _ _ HF3.out).at_).mono ?_
            intro e w5 ho
            rcases take_inv s 44 st3 with ht | ht
            · rw [ht] at ho
              obtain ⟨rfl, hr5, hb5⟩ := ho
              have HR5 := Lib.hid hr5
              have HA5 := Lib.hid (HI.out a3 _ _ HA4.out hb5)
              have HF5 := Lib.hid (G2.out _ _ HF3.out (take_le ht))
              have HE5 : Hid (listOf s end_ go n a st = go k a3 (Js.step st3)) := Lib.hid (by rw [HE3.out, ht]; rfl)
              clear hr5 hb5 ht HR4 HA4 HE3
              go_wp2_with fail
              go_roundg k
              case measure => omega
              case rel => exact ⟨a3, Js.step st3, by omega, HR5, HF5, HA5, HE5⟩
            · rw [ht] at ho
              obtain ⟨rfl, hb5⟩ := ho
              have HE5 : Hid (listOf s end_ go n a st = .bad st3.at_) := Lib.hid (by rw [HE3.out, ht]; rfl)
              have HD5 := Lib.hid (HDD.out a3 _ _ HA4.out hb5)
              clear hb5 ht HE3
              unfold bad
              go_wp2_with fail
              exact lout_bad HE5.out rfl HD5.out
end Go.Proofs.YtimioelnnhnbiaaDoor
