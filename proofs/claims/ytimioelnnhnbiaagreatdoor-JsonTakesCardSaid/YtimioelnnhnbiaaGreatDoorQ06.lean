/-
  Joined: WI Till TillF. CONDITIONS: as each law says.
-/
import Derived.Test.YtimioelnnhnbiaaGreatDoorQ05
import Derived.Deep.RegionHeld3
namespace Go.Proofs.YtimioelnnhnbiaaGreatDoor
open Go.RowKit
/-- What comes of a part that turns what is kept. -/
def LOut {α : Type} (b : Nat) (s : Js.Bs) (I : α → World → Prop) (D : World → Prop) : Js.Res α → Ending → World → Prop
 | .ok a st, e, w' => e = .returned (.tuple #[]) ∧ RdAt w' b s st ∧ I a w'
 | .bad k, e, w' => e = bad k ∧ D w'
 | .out, _, _ => False
theorem lout_bad {α : Type} {fn : Func} {b : Nat} {s : Js.Bs} {w' : World} {I : α → World → Prop} {D : World → Prop} {r : Js.Res α} {k : Nat} {a : Act} (hr : r = .bad k) (hd : a.defers = []) (hb : D w') :
  bodyPost Tryz.prog fn (LOut b s I D r) (.panic [{ v := .iface 106 (.int .i64 k), recovered := false }]) a w' := by
 subst hr
 exact ⟨hd, rfl, hb⟩
def listOf {α : Type} (s : Js.Bs) (end_ : UInt8) (go : Nat → α → Js.St → Js.Res α) (n : Nat) (a : α) (st : Js.St) : Js.Res α :=
 if Js.peek s (Js.blanks s st) = end_ then .ok a (Js.step (Js.blanks s st)) else go n a (Js.blanks s st)
theorem Fine.step {s : Js.Bs} {st : Js.St} (h : Fine s st) (hlt : st.at_ < s.length) : Fine s (Js.step st) := by
 obtain ⟨h1, h2, h3, h4⟩ := h
 exact ⟨hlt, by show st.deep ≤ st.at_ + 1; omega, by show st.nodes ≤ st.at_ + 1; omega, by show st.bytes ≤ st.at_ + 1; omega⟩
set_option maxRecDepth 100000 in
set_option maxHeartbeats 8000000 in
theorem list_any {α : Type} (end_ : UInt8) (hend : end_ ≠ 0) (f : FuncId) (cap : Array Value) (b : Nat) (s : Js.Bs) (hlen : s.length ≤ 1073741824)
  (one go : Nat → α → Js.St → Js.Res α) (I : α → World → Prop) (D : World → Prop) (n : Nat)
  (hrun : ∀ w, (callFunc f cap).run Tryz.prog w = .ok (.enter f cap) w)
  (hgo0 : ∀ a st, go 0 a st = .out)
  (hgo : ∀ m a st, go (m + 1) a st = (one m a st).bind fun a st => if Js.peek s st = end_ then .ok a (Js.step st) else (Js.take s 44 st).bind fun _ st => go m a st)
  (F : α → Js.St → Prop) (hF1 : ∀ a st, F a st → Fine s st) (hF2 : ∀ a st, F a st → st.at_ < s.length → F a (Js.step st)) (hF3 : ∀ a st, F a st → F a (Js.blanks s st))
  (hI : ∀ a w w', I a w → But [b] w w' → I a w') (hD : ∀ a w w', I a w → But [b] w w' → D w')
  (hone : ∀ m a st w, m < n → RdAt w b s st → F a st → I a w → one m a st ≠ .out → Calls Tryz.prog f cap w (LOut b s I D (one m a st)))
  (hfine : ∀ m a st a' st', one m a st = .ok a' st' → F a st → F a' st')
  (a : α) (st : Js.St) (w : World) (h : RdAt w b s st) (hF : F a st) (ha : I a w) (hne : listOf s end_ go n a st ≠ .out) :
  Calls Tryz.prog 90 #[.pointer (some ⟨b, 0, none⟩), .int .u8 end_.toNat, .func (.func f) #[] cap] w (LOut b s I D (listOf s end_ go n a st)) := by
 have HRUN := Lib.hid hrun
 have H0 := Lib.hid hgo0
 have HG := Lib.hid hgo
 have HI := Lib.hid hI
 have HDD := Lib.hid hD
 have H1 := Lib.hid hone
 have HFN := Lib.hid hfine
 have HA := Lib.hid ha
 have G1 := Lib.hid hF1
 have G2 := Lib.hid hF2
 have hFb := hF3 a st hF
 have hat0 := (hF1 a st hF).at_
 have HNE := Lib.hid hne
 clear hrun hgo0 hgo hI hD hone hfine ha hne hF1 hF2 hF3
 go_enter Tryz.func90, Tryz.ntmps90
 go_wp2_with fail
 refine (blanks_any b s st _ h hlen hat0).mono ?_
 rintro e w1 ⟨rfl, hr1, hb1⟩
 have HL : Hid (listOf s end_ go n a st = if Js.peek s (Js.blanks s st) = end_ then .ok a (Js.step (Js.blanks s st)) else go n a (Js.blanks s st)) := Lib.hid rfl
 generalize Js.blanks s st = st1 at hr1 hFb HL
 have HR1 := Lib.hid hr1
 have HA1 := Lib.hid (HI.out a w w1 HA.out hb1)
 have HF1 := Lib.hid hFb
 clear hr1 hb1 h hF hFb HA hat0
 go_wp2_with fail
 obtain ⟨c, hp⟩ : ∃ c, Js.peek s st1 = c := ⟨_, rfl⟩
 have HP := Lib.hid hp
 clear hp
 refine (peek_at c HP.out HR1.out hlen (G1.out _ _ HF1.out).at_).mono ?_
 rintro e w2 ⟨rfl, n2, rfl⟩
 by_cases hc : c = end_
 ·have HE : Hid (listOf s end_ go n a st = .ok a (Js.step st1)) := Lib.hid (by rw [HL.out, HP.out, if_pos hc])
  have q := u8_eq hc
  obtain ⟨k0, k1, -⟩ := HR1.out.cells
  have f1 := HR1.out.free 1
  have hat := (G1.out _ _ HF1.out).at_
  clear hc
  go_wp2_with fail
  refine bodyPost_ret (results_none rfl _ _ _) rfl ?_
  rw [HE.out]
  have hb := ((But.refl [b] w1).drewN n2).trans ((HR1.out.drewN n2).but 1 (.int .i64 ((st1.at_ : Int) + 1)))
  exact ⟨rfl, (HR1.out.drewN n2).step, HI.out a _ _ HA1.out hb⟩
 ·have HE : Hid (listOf s end_ go n a st = go n a st1) := Lib.hid (by rw [HL.out, HP.out, if_neg hc])
  have q := (u8_ne hc).1
  have HR2 := Lib.hid (HR1.out.drewN n2)
  have HA2 := Lib.hid (HI.out a _ _ HA1.out ((But.refl [b] w1).drewN n2))
  clear hc HR1 HA1 HL HP
  go_wp2_with fail
  go_loopg [20] n (fun k _ wr => ∃ (a' : α) (st' : Js.St), k ≤ n ∧ Hid (RdAt wr b s st') ∧ Hid (F a' st') ∧ Hid (I a' wr) ∧ Hid (listOf s end_ go n a st = go k a' st'))
  case atStart => exact ⟨a, st1, Nat.le_refl _, HR2, HF1, HA2, HE⟩
  case round =>
   obtain ⟨a', st', hk, HR, HF, HA, HE⟩ := hrel
   clear HR2 HF1 HA2 q
   cases gk with
   | zero =>
    refine absurd ?_ HNE.out
    rw [HE.out, H0.out]
   | succ k =>
    have HE1 := Lib.hid (HE.out.trans (HG.out k a' st'))
    have hneO : one k a' st' ≠ .out := by
     intro e0
     apply HNE.out
     rw [HE1.out, e0]; rfl
    have HFO := Lib.hid (HFN.out k a' st')
    go_wp2_with fail
    rw [HRUN.out]
    rw [Oper.upon_enter]
    refine (H1.out k a' st' wr (by omega) HR.out HF.out HA.out hneO).mono ?_
    intro e w3 ho
    generalize one k a' st' = r at ho HE1 HFO hneO
    cases r with
    | out => exact absurd rfl hneO
    | bad kb =>
     obtain ⟨rfl, hd3⟩ := ho
     have HE2 : Hid (listOf s end_ go n a st = .bad kb) := Lib.hid (by rw [HE1.out]; rfl)
     have HD3 := Lib.hid hd3
     clear hd3 hneO HFO HE1 HE
     unfold bad
     go_wp2_with fail
     exact lout_bad HE2.out rfl HD3.out
    | ok a3 st3 =>
     obtain ⟨rfl, hr3, ha3⟩ := ho
     have hf3 := HFO.out a3 st3 rfl HF.out
     have HE2 : Hid (listOf s end_ go n a st = if Js.peek s st3 = end_ then Js.Res.ok a3 (Js.step st3) else (Js.take s 44 st3).bind fun _ st => go k a3 st) := Lib.hid (by rw [HE1.out]; rfl)
     have HR3 := Lib.hid hr3
     have HA3 := Lib.hid ha3
     have HF3 := Lib.hid hf3
     clear hr3 ha3 hf3 hneO HFO HE1 HE HR HA HF
     obtain ⟨c, hp⟩ : ∃ c, Js.peek s st3 = c := ⟨_, rfl⟩
     have HP := Lib.hid hp
     clear hp
     go_wp2_with fail
     refine (peek_at c HP.out HR3.out hlen (G1.out _ _ HF3.out).at_).mono ?_
     rintro e w4 ⟨rfl, n4, rfl⟩
     by_cases hc : c = end_
     ·have HE3 : Hid (listOf s end_ go n a st = .ok a3 (Js.step st3)) := Lib.hid (by rw [HE2.out, HP.out, if_pos hc])
      have q := u8_eq hc
      obtain ⟨k0, k1, -⟩ := HR3.out.cells
      have f1 := HR3.out.free 1
      have hat := (G1.out _ _ HF3.out).at_
      clear hc
      go_wp2_with fail
      refine bodyPost_ret (results_none rfl _ _ _) rfl ?_
      rw [HE3.out]
      have hb := ((But.refl [b] w3).drewN n4).trans ((HR3.out.drewN n4).but 1 (.int .i64 ((st3.at_ : Int) + 1)))
      exact ⟨rfl, (HR3.out.drewN n4).step, HI.out a3 _ _ HA3.out hb⟩
     ·have HE3 : Hid (listOf s end_ go n a st = (Js.take s 44 st3).bind fun _ st => go k a3 st) := Lib.hid (by rw [HE2.out, HP.out, if_neg hc])
      have q := (u8_ne hc).1
      have HR4 := Lib.hid (HR3.out.drewN n4)
      have HA4 := Lib.hid (HI.out a3 _ _ HA3.out ((But.refl [b] w3).drewN n4))
      clear hc HR3 HA3 HP HE2
      go_wp2_with fail
      refine (take_any b s 44 st3 _ HR4.out hlen (G1.out _ _ HF3.out).at_).mono ?_
      intro e w5 ho
      rcases take_inv s 44 st3 with ht | ht
      ·rw [ht] at ho
       obtain ⟨rfl, hr5, hb5⟩ := ho
       have HR5 := Lib.hid hr5
       have HA5 := Lib.hid (HI.out a3 _ _ HA4.out hb5)
       have HF5 := Lib.hid (G2.out _ _ HF3.out (take_le ht))
       have HE5 : Hid (listOf s end_ go n a st = go k a3 (Js.step st3)) := Lib.hid (by rw [HE3.out, ht]; rfl)
       clear hr5 hb5 ht HR4 HA4 HE3
       go_wp2_with fail
       go_roundg k
       case measure => omega
       case rel => exact ⟨a3, Js.step st3, by omega, HR5, HF5, HA5, HE5⟩
      ·rw [ht] at ho
       obtain ⟨rfl, hb5⟩ := ho
       have HE5 : Hid (listOf s end_ go n a st = .bad st3.at_) := Lib.hid (by rw [HE3.out, ht]; rfl)
       have HD5 := Lib.hid (HDD.out a3 _ _ HA4.out hb5)
       clear hb5 ht HE3
       unfold bad
       go_wp2_with fail
       exact lout_bad HE5.out rfl HD5.out
end Go.Proofs.YtimioelnnhnbiaaGreatDoor
namespace Go.Proofs.YtimioelnnhnbiaaGreatDoor
open Go
/-- What an act's cells and the list of what has come up are, laid open. -/
theorem CL {α : Type} : (∀ (xs : List α) (i : Nat) (h : i < xs.toArray.size), xs.toArray[i] = xs[i]'(by simpa using h)) ∧ (∀ (a : α) (l : List α) (h : 0 < (a :: l).length), (a :: l)[0] = a) ∧ (∀ (a : α) (l : List α) (i : Nat) (h : i + 1 < (a :: l).length), (a :: l)[i + 1] = l[i]'(by simpa using h)) ∧ (∀ (l : List α) (i : Nat) (a : α), l.toArray.setIfInBounds i a = (l.set i a).toArray) ∧ (∀ (b a : α) (l : List α), (b :: l).set 0 a = a :: l) ∧ ∀ (b : α) (l : List α) (n : Nat) (a : α), (b :: l).set (n + 1) a = b :: l.set n a :=
 ⟨fun _ _ _ => by simp, fun _ _ _ => rfl, fun _ _ _ _ => rfl, fun _ _ _ => by simp, fun _ _ _ => rfl, fun _ _ _ _ => rfl⟩
section
variable {P : Program} {ops : Array Oper} {Q : Exit → Act → World → Prop} {md : Region.Mode} {S : World → Prop} {st : Array Bool → Bool}
/-- What has come up has come up behind all that it waits for. -/
def Shutd (md : Region.Mode) (ops : Array Oper) (l : Array Bool) : Prop :=
 ∀ (j : Nat) (o : Oper), ops[j]? = some o → l.getD j false = true → ∀ e ∈ o.after, Region.binds md e = true → l.getD e.on false = true
theorem Shutd.start (n : Nat) : Shutd md ops (Array.replicate n false) := fun j o _ h => by
 simp only [Array.getD_eq_getD_getElem?, Array.getElem?_replicate] at h
 split at h <;> simp at h
theorem Shutd.set {l : Array Bool} {j : Nat} (h : Shutd md ops l) (hj : j ∈ Region.ready md ops l) : Shutd md ops (l.setIfInBounds j true) := fun k o hk hl e he hb => by
 by_cases hkj : j = k
 ·subst hkj
  obtain ⟨_, o', ho', hall⟩ := mem_ready.1 hj
  rw [hk] at ho'
  cases ho'
  exact getD_set_true (hall e he hb)
 ·rw [getD_set_ne false hkj] at hl
  exact getD_set_true (h k o hk hl e he hb)
/-- The same, as the kernel can look it up. -/
def shutB (md : Region.Mode) (ops : Array Oper) (l : Array Bool) : Bool :=
 (List.range ops.size).all fun j => (ops[j]?.map fun o => !l.getD j false || o.after.all fun e => !Region.binds md e || l.getD e.on false).getD true
theorem shut_of {l : Array Bool} (h : shutB md ops l = true) : Shutd md ops l := fun j o ho hl e he hb => by
 have hj : j < ops.size := (Array.getElem?_eq_some_iff.1 ho).1
 have h1 := List.all_eq_true.1 h j (List.mem_range.2 hj)
 rw [ho] at h1
 simp only [Option.map_some, Option.getD_some, hl, Bool.not_true, Bool.false_or] at h1
 obtain ⟨n, hn, rfl⟩ := Array.mem_iff_getElem.1 he
 have h2 := Array.all_eq_true.1 h1 n hn
 simpa [hb] using h2
/-- Number j waits for number k. -/
def waits (md : Region.Mode) (ops : Array Oper) (j k : Nat) : Bool := (ops[j]?.map (·.after.any fun e => Region.binds md e && e.on == k)).getD false
theorem Shutd.step {l : Array Bool} {j k : Nat} (h : Shutd md ops l) (hw : waits md ops j k = true) (hj : l.getD j false = true) : l.getD k false = true := by
 unfold waits at hw
 cases ho : ops[j]? with
 | none => rw [ho] at hw; cases hw
 | some o =>
  rw [ho] at hw
  simp only [Option.map_some, Option.getD_some] at hw
  obtain ⟨n, hn, hb⟩ := Array.any_eq_true.1 hw
  simp only [Bool.and_eq_true, beq_iff_eq] at hb
  rw [← hb.2]
  exact h j o ho hj _ (Array.getElem_mem hn) hb.1
def wpTill (P : Program) (md : Region.Mode) (ops : Array Oper) (Q : Exit → Act → World → Prop) (S : World → Prop) (st : Array Bool → Bool) : Nat → Array Bool → Act → World → Prop
 | 0, listed, a, w => Region.ready md ops listed = [] ∧ Q .normal a w
 | fuel + 1, listed, a, w =>
  (Region.ready md ops listed = [] → Q .normal a w) ∧
  ∀ i ∈ Region.ready md ops listed, wpOp P ops Q i (fun a' w' => (st (listed.setIfInBounds i true) = false → S w') ∧ wpTill P md ops Q S st fuel (listed.setIfInBounds i true) a' w') a w
theorem wpAny_of_till : ∀ (fuel : Nat) (listed : Array Bool) (a : Act) (w : World), wpTill P md ops Q S st fuel listed a w → wpAny P md ops Q fuel listed a w
 | 0, _, _, _, h => h
 | fuel + 1, _, _, _, h => ⟨h.1, fun i hi => wpOp_mono (fun a' w' h' => wpAny_of_till fuel _ a' w' h'.2) (h.2 i hi)⟩
theorem wpTill_first {i : Nat} {oi : Oper} {v : Value} (hi : ops[i]? = some oi) (hsel : ∀ (j : Nat) (o : Oper) cs b, ops[j]? = some o → o.op ≠ .select cs b)
  (hQ : ∀ c a w, Q (.panic c) (a.put oi.dst v) w → Q (.panic c) a w) (hst : ∀ l, Shutd md ops l → st l = true → l.getD i false = true) (hst2 : ∀ l : Array Bool, st (l.setIfInBounds i true) = st l) :
  ∀ (fuel : Nat) (listed : Array Bool) (a : Act) (w : World),
   Shutd md ops listed → (∀ j oj, ops[j]? = some oj → j ≠ i → listed.getD j true = false → (∀ e ∈ oj.after, Region.binds md e = true → e.on ≠ i) → oi.apart ops oj = true) →
   i ∈ Region.ready md ops listed → YieldsIf P ops S oi v a → S w →
   wpTill P md ops Q S st fuel (listed.setIfInBounds i true) (a.put oi.dst v) w → wpTill P md ops Q S st (fuel + 1) listed a w := by
 intro fuel
 induction fuel with
 | zero =>
  intro listed a w _ _ hr hy hS H
  refine ⟨fun h => (by rw [h] at hr; cases hr), fun j hj => ?_⟩
  by_cases hji : j = i
  ·subst hji; exact hy.wpOp hi hS ⟨fun _ => hS, H⟩
  ·have := ready_mono hj hji
   rw [H.1] at this
   cases this
 | succ fuel ih =>
  intro listed a w hsh hfree hr hy hS H
  refine ⟨fun h => (by rw [h] at hr; cases hr), fun j hj => ?_⟩
  by_cases hji : j = i
  ·subst hji; exact hy.wpOp hi hS ⟨fun _ => hS, H⟩
  ·have h1 := H.2 j (ready_mono hj hji)
   obtain ⟨hjun, oj, hoj, hall⟩ := mem_ready.1 hj
   have hi0 : listed.getD i false = false := by
    have := (mem_ready.1 hr).1
    simp only [Array.getD_eq_getD_getElem?] at this ⊢
    cases h : listed[i]? with
    | none => rfl
    | some b => rw [h] at this; exact this
   have hnot : ∀ e ∈ oj.after, Region.binds md e = true → e.on ≠ i := fun e he hb heq => by
    have h1 := hall e he hb
    rw [heq, hi0] at h1
    cases h1
   have hsh' := hsh.set hj
   have hi1 : (listed.setIfInBounds j true).getD i false = false := by rw [getD_set_ne false hji]; exact hi0
   have hs0 : st ((listed.setIfInBounds i true).setIfInBounds j true) = false := by
    rw [Array.setIfInBounds_comm _ _ (Ne.symm hji), hst2]
    cases h : st (listed.setIfInBounds j true) with
    | false => rfl
    | true => rw [hst _ hsh' h] at hi1; cases hi1
   have h2 := wpOp_putIf hoj (hfree j oj hoj hji hjun hnot) (fun cs b => hsel i oi cs b hi) (fun cs b => hsel j oj cs b hoj) hQ hy h1
   have hfree' : ∀ k ok, ops[k]? = some ok → k ≠ i → (listed.setIfInBounds j true).getD k true = false →
     (∀ e ∈ ok.after, Region.binds md e = true → e.on ≠ i) → oi.apart ops ok = true := fun k ok hk hki hun hno => by
    refine hfree k ok hk hki ?_ hno
    by_cases hjk : j = k
    ·subst hjk; exact hjun
    ·rw [getD_set_ne true hjk] at hun; exact hun
   refine wpOp_mono (fun a' w' h3 => ⟨fun _ => h3.2.1 hs0, ih (listed.setIfInBounds j true) a' w' hsh' hfree' (ready_mono hr (Ne.symm hji)) h3.1 (h3.2.1 hs0) ?_⟩) h2
   rw [Array.setIfInBounds_comm _ _ hji]
   exact h3.2.2
/-- Take number i first. The listed ones are given as a list of what has come up, in order. -/
theorem wpTill_take {i : Nat} {oi : Oper} {v : Value} {fuel : Nat} {listed : Array Bool} {a : Act} {w : World} (hi : ops[i]? = some oi)
  (hs : Region.noSelect ops = true) (hf : Region.free md ops listed i = true) (hr : (Region.ready md ops listed).contains i = true) (hsh : Shutd md ops listed)
  (hst : ∀ l, Shutd md ops l → st l = true → l.getD i false = true) (hst2 : ∀ l : Array Bool, st (l.setIfInBounds i true) = st l)
  (hQ : ∀ c a w, Q (.panic c) (a.put oi.dst v) w → Q (.panic c) a w) (hy : YieldsIf P ops S oi v a) (hS : S w)
  (h : Shutd md ops (listed.setIfInBounds i true) → wpTill P md ops Q S st fuel (listed.setIfInBounds i true) (a.put oi.dst v) w) : wpTill P md ops Q S st (fuel + 1) listed a w :=
 wpTill_first hi (Region.noSelect_spec hs) hQ hst hst2 fuel listed a w hsh (Region.free_spec hi hf) (by simpa using hr) hy hS (h (hsh.set (by simpa using hr)))
def AllTill (P : Program) (md : Region.Mode) (ops : Array Oper) (Q : Exit → Act → World → Prop) (S : World → Prop) (st : Array Bool → Bool) (fuel : Nat) (listed : Array Bool) (a : Act) (w : World) (rs : List Nat) : Prop :=
 ∀ i ∈ rs, wpOp P ops Q i (fun a' w' => (st (listed.setIfInBounds i true) = false → S w') ∧ wpTill P md ops Q S st fuel (listed.setIfInBounds i true) a' w') a w
theorem AllTill.nil {fuel : Nat} {listed : Array Bool} {a : Act} {w : World} : AllTill P md ops Q S st fuel listed a w [] := fun _ h => by cases h
theorem AllTill.cons {fuel : Nat} {listed : Array Bool} {a : Act} {w : World} {i : Nat} {o : Oper} {rs : List Nat} (ho : ops[i]? = some o)
  (h : ∀ K' : Act → World → Prop, (∀ a w, (st (listed.setIfInBounds i true) = false → S w) → wpTill P md ops Q S st fuel (listed.setIfInBounds i true) a w → K' a w) → if Region.wanted o (yielded ops a.tmps) = true then Oper.wp P o a w K' Q else K' (a.put o.dst undef) w)
  (hs : AllTill P md ops Q S st fuel listed a w rs) : AllTill P md ops Q S st fuel listed a w (i :: rs) := fun j hj => by
 rcases List.mem_cons.1 hj with rfl | hj
 ·exact wpOp_step ho (fun K' hK => h K' (fun a w hS hW => hK a w ⟨hS, hW⟩))
 ·exact hs j hj
theorem wpTill_ready {rs : List Nat} {fuel : Nat} {listed : Array Bool} {a : Act} {w : World} (hr : Region.ready md ops listed = rs) (hne : rs ≠ [])
  (h : AllTill P md ops Q S st fuel listed a w rs) : wpTill P md ops Q S st (fuel + 1) listed a w :=
 ⟨fun h0 => absurd (hr ▸ h0) hne, hr ▸ h⟩
theorem wpTill_done {listed : Array Bool} {a : Act} {w : World} (hr : Region.ready md ops listed = []) (h : Q .normal a w) :
  ∀ fuel, wpTill P md ops Q S st fuel listed a w
 | 0 => ⟨hr, h⟩
 | _ + 1 => ⟨fun _ => h, by rw [hr]; simp⟩
/-- Behind the last of those that ask the fact: as ever. -/
theorem wpTill_of_any (hst : ∀ l i, st l = true → st (l.setIfInBounds i true) = true) : ∀ (fuel : Nat) (listed : Array Bool) (a : Act) (w : World), st listed = true → wpAny P md ops Q fuel listed a w → wpTill P md ops Q S st fuel listed a w
 | 0, _, _, _, _, h => h
 | fuel + 1, _, _, _, hs, h => ⟨h.1, fun i hi => wpOp_mono (fun a' w' h' => ⟨fun h0 => (by rw [hst _ i hs] at h0; cases h0), wpTill_of_any hst fuel _ a' w' (hst _ i hs) h'⟩) (h.2 i hi)⟩
end
end Go.Proofs.YtimioelnnhnbiaaGreatDoor
namespace Go.Proofs.YtimioelnnhnbiaaGreatDoor
open Go
section
variable {P : Program} {ops : Array Oper} {Q : Exit → Act → World → Prop} {md : Region.Mode} {S : World → Prop} {st : Array Bool → Bool}
theorem wpTill_firstF {i : Nat} {oi : Oper} {v : Value} (hi : ops[i]? = some oi) (hsel : ∀ (j : Nat) (o : Oper) cs b, ops[j]? = some o → o.op ≠ .select cs b)
  (hQ : ∀ c a w, Q (.panic c) (a.put oi.dst v) w → Q (.panic c) a w) (hst2 : ∀ l : Array Bool, st (l.setIfInBounds i true) = st l) :
  ∀ (fuel : Nat) (listed : Array Bool) (a : Act) (w : World),
   (∀ j oj, ops[j]? = some oj → j ≠ i → listed.getD j true = false → (∀ e ∈ oj.after, Region.binds md e = true → e.on ≠ i) → oi.apart ops oj = true) →
   i ∈ Region.ready md ops listed → YieldsIf P ops (fun _ => True) oi v a → (st listed = false → S w) →
   wpTill P md ops Q S st fuel (listed.setIfInBounds i true) (a.put oi.dst v) w → wpTill P md ops Q S st (fuel + 1) listed a w := by
 intro fuel
 induction fuel with
 | zero =>
  intro listed a w _ hr hy hS H
  refine ⟨fun h => (by rw [h] at hr; cases hr), fun j hj => ?_⟩
  by_cases hji : j = i
  ·subst hji; exact hy.wpOp hi trivial ⟨fun h => hS (by rw [← hst2]; exact h), H⟩
  ·have := ready_mono hj hji
   rw [H.1] at this
   cases this
 | succ fuel ih =>
  intro listed a w hfree hr hy hS H
  refine ⟨fun h => (by rw [h] at hr; cases hr), fun j hj => ?_⟩
  by_cases hji : j = i
  ·subst hji; exact hy.wpOp hi trivial ⟨fun h => hS (by rw [← hst2]; exact h), H⟩
  ·have h1 := H.2 j (ready_mono hj hji)
   obtain ⟨hjun, oj, hoj, hall⟩ := mem_ready.1 hj
   have hi0 : listed.getD i false = false := by
    have := (mem_ready.1 hr).1
    simp only [Array.getD_eq_getD_getElem?] at this ⊢
    cases h : listed[i]? with
    | none => rfl
    | some b => rw [h] at this; exact this
   have hnot : ∀ e ∈ oj.after, Region.binds md e = true → e.on ≠ i := fun e he hb heq => by
    have h1 := hall e he hb
    rw [heq, hi0] at h1
    cases h1
   have h2 := wpOp_putIf hoj (hfree j oj hoj hji hjun hnot) (fun cs b => hsel i oi cs b hi) (fun cs b => hsel j oj cs b hoj) hQ hy h1
   have hfree' : ∀ k ok, ops[k]? = some ok → k ≠ i → (listed.setIfInBounds j true).getD k true = false →
     (∀ e ∈ ok.after, Region.binds md e = true → e.on ≠ i) → oi.apart ops ok = true := fun k ok hk hki hun hno => by
    refine hfree k ok hk hki ?_ hno
    by_cases hjk : j = k
    ·subst hjk; exact hjun
    ·rw [getD_set_ne true hjk] at hun; exact hun
   have hcom : (listed.setIfInBounds i true).setIfInBounds j true = (listed.setIfInBounds j true).setIfInBounds i true := Array.setIfInBounds_comm _ _ (Ne.symm hji)
   have hs1 : st ((listed.setIfInBounds i true).setIfInBounds j true) = st (listed.setIfInBounds j true) := by rw [hcom, hst2]
   refine wpOp_mono (fun a' w' h3 => ⟨fun h0 => h3.2.1 (by rw [hs1]; exact h0), ih (listed.setIfInBounds j true) a' w' hfree' (ready_mono hr (Ne.symm hji)) h3.1 (fun h0 => h3.2.1 (by rw [hs1]; exact h0)) ?_⟩) h2
   rw [Array.setIfInBounds_comm _ _ hji]
   exact h3.2.2
/-- Take number i first: it asks nothing of the world. -/
theorem wpTill_takeF {i : Nat} {oi : Oper} {v : Value} {fuel : Nat} {listed : Array Bool} {a : Act} {w : World} (hi : ops[i]? = some oi)
  (hs : Region.noSelect ops = true) (hf : Region.free md ops listed i = true) (hr : (Region.ready md ops listed).contains i = true) (hst2 : ∀ l : Array Bool, st (l.setIfInBounds i true) = st l)
  (hQ : ∀ c a w, Q (.panic c) (a.put oi.dst v) w → Q (.panic c) a w) (hy : YieldsIf P ops (fun _ => True) oi v a) (hS : st listed = false → S w)
  (h : wpTill P md ops Q S st fuel (listed.setIfInBounds i true) (a.put oi.dst v) w) : wpTill P md ops Q S st (fuel + 1) listed a w :=
 wpTill_firstF hi (Region.noSelect_spec hs) hQ hst2 fuel listed a w (Region.free_spec hi hf) (by simpa using hr) hy hS h
theorem Shutd.put {l : Array Bool} {i : Nat} (h : Shutd md ops l) (hr : (Region.ready md ops l).contains i = true) : Shutd md ops (l.setIfInBounds i true) := h.set (by simpa using hr)
end
end Go.Proofs.YtimioelnnhnbiaaGreatDoor
