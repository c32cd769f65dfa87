/-
  Joined: Till TillF. CONDITIONS: as each law says.
-/
import Derived.Deep.RegionHeld3
namespace Go.Proofs.YtimioelnnhnbiaaGreatDoor
open Go
theorem CL {α : Type} : (∀ (xs : List α) (i : Nat) (h : i < xs.toArray.size), xs.toArray[i] = xs[i]'(by simpa using h)) ∧ (∀ (a : α) (l : List α) (h : 0 < (a :: l).length), (a :: l)[0] = a) ∧ (∀ (a : α) (l : List α) (i : Nat) (h : i + 1 < (a :: l).length), (a :: l)[i + 1] = l[i]'(by simpa using h)) ∧ (∀ (l : List α) (i : Nat) (a : α), l.toArray.setIfInBounds i a = (l.set i a).toArray) ∧ (∀ (b a : α) (l : List α), (b :: l).set 0 a = a :: l) ∧ ∀ (b : α) (l : List α) (n : Nat) (a : α), (b :: l).set (n + 1) a = b :: l.set n a :=
 ⟨fun _ _ _ => by simp, fun _ _ _ => rfl, fun _ _ _ _ => rfl, fun _ _ _ => by simp, fun _ _ _ => rfl, fun _ _ _ _ => rfl⟩
section
variable {P : Program} {ops : Array Oper} {Q : Exit → Act → World → Prop} {md : Region.Mode} {S : World → Prop} {st : Array Bool → Bool}
def Shutd (md : Region.Mode) (ops : Array Oper) (l : Array Bool) : Prop :=
 ∀ (j : Nat) (o : Oper), ops[j]? = some o → l.getD j false = true → ∀ e ∈ o.after, Region.binds md e = true → l.getD e.on false = true
theorem Shutd.start (n : Nat) : Shutd md ops (Array.replicate n false) := fun j o _ h => by
 simp only [Array.getD_eq_getD_getElem?, Array.getElem?_replicate] at h
 split at h <;> simp at h
theorem Shutd.set {l : Array Bool} {j : Nat} (h : Shutd md ops l) (hj : j ∈ Region.ready md ops l) : Shutd md ops (l.setIfInBounds j true) := fun k o hk hl e he hb => by
 by_cases hkj : j = k
 ·subst hkj
  obtain ⟨_, o', ho', hall⟩ := mem_ready.1 hj
  rw [hk] at ho'
  cases ho'
  exact getD_set_true (hall e he hb)
 ·rw [getD_set_ne false hkj] at hl
  exact getD_set_true (h k o hk hl e he hb)
def shutB (md : Region.Mode) (ops : Array Oper) (l : Array Bool) : Bool :=
 (List.range ops.size).all fun j => (ops[j]?.map fun o => !l.getD j false || o.after.all fun e => !Region.binds md e || l.getD e.on false).getD true
theorem shut_of {l : Array Bool} (h : shutB md ops l = true) : Shutd md ops l := fun j o ho hl e he hb => by
 have hj : j < ops.size := (Array.getElem?_eq_some_iff.1 ho).1
 have h1 := List.all_eq_true.1 h j (List.mem_range.2 hj)
 rw [ho] at h1
 simp only [Option.map_some, Option.getD_some, hl, Bool.not_true, Bool.false_or] at h1
 obtain ⟨n, hn, rfl⟩ := Array.mem_iff_getElem.1 he
 have h2 := Array.all_eq_true.1 h1 n hn
 simpa [hb] using h2
def waits (md : Region.Mode) (ops : Array Oper) (j k : Nat) : Bool := (ops[j]?.map (·.after.any fun e => Region.binds md e && e.on == k)).getD false
theorem Shutd.step {l : Array Bool} {j k : Nat} (h : Shutd md ops l) (hw : waits md ops j k = true) (hj : l.getD j false = true) : l.getD k false = true := by
 unfold waits at hw
 cases ho : ops[j]? with
 | none => rw [ho] at hw; cases hw
 | some o =>
  rw [ho] at hw
  simp only [Option.map_some, Option.getD_some] at hw
  obtain ⟨n, hn, hb⟩ := Array.any_eq_true.1 hw
  simp only [Bool.and_eq_true, beq_iff_eq] at hb
  rw [← hb.2]
  exact h j o ho hj _ (Array.getElem_mem hn) hb.1
def wpTill (P : Program) (md : Region.Mode) (ops : Array Oper) (Q : Exit → Act → World → Prop) (S : World → Prop) (st : Array Bool → Bool) : Nat → Array Bool → Act → World → Prop
 | 0, listed, a, w => Region.ready md ops listed = [] ∧ Q .normal a w
 | fuel + 1, listed, a, w =>
  (Region.ready md ops listed = [] → Q .normal a w) ∧
  ∀ i ∈ Region.ready md ops listed, wpOp P ops Q i (fun a' w' => (st (listed.setIfInBounds i true) = false → S w') ∧ wpTill P md ops Q S st fuel (listed.setIfInBounds i true) a' w') a w
theorem wpAny_of_till : ∀ (fuel : Nat) (listed : Array Bool) (a : Act) (w : World), wpTill P md ops Q S st fuel listed a w → wpAny P md ops Q fuel listed a w
 | 0, _, _, _, h => h
 | fuel + 1, _, _, _, h => ⟨h.1, fun i hi => wpOp_mono (fun a' w' h' => wpAny_of_till fuel _ a' w' h'.2) (h.2 i hi)⟩
theorem wpTill_first {i : Nat} {oi : Oper} {v : Value} (hi : ops[i]? = some oi) (hsel : ∀ (j : Nat) (o : Oper) cs b, ops[j]? = some o → o.op ≠ .select cs b)
  (hQ : ∀ c a w, Q (.panic c) (a.put oi.dst v) w → Q (.panic c) a w) (hst : ∀ l, Shutd md ops l → st l = true → l.getD i false = true) (hst2 : ∀ l : Array Bool, st (l.setIfInBounds i true) = st l) :
  ∀ (fuel : Nat) (listed : Array Bool) (a : Act) (w : World),
   Shutd md ops listed → (∀ j oj, ops[j]? = some oj → j ≠ i → listed.getD j true = false → (∀ e ∈ oj.after, Region.binds md e = true → e.on ≠ i) → oi.apart ops oj = true) →
   i ∈ Region.ready md ops listed → YieldsIf P ops S oi v a → S w →
   wpTill P md ops Q S st fuel (listed.setIfInBounds i true) (a.put oi.dst v) w → wpTill P md ops Q S st (fuel + 1) listed a w := by
 intro fuel
 induction fuel with
 | zero =>
  intro listed a w _ _ hr hy hS H
  refine ⟨fun h => (by rw [h] at hr; cases hr), fun j hj => ?_⟩
  by_cases hji : j = i
  ·subst hji; exact hy.wpOp hi hS ⟨fun _ => hS, H⟩
  ·have := ready_mono hj hji
   rw [H.1] at this
   cases this
 | succ fuel ih =>
  intro listed a w hsh hfree hr hy hS H
  refine ⟨fun h => (by rw [h] at hr; cases hr), fun j hj => ?_⟩
  by_cases hji : j = i
  ·subst hji; exact hy.wpOp hi hS ⟨fun _ => hS, H⟩
  ·have h1 := H.2 j (ready_mono hj hji)
   obtain ⟨hjun, oj, hoj, hall⟩ := mem_ready.1 hj
   have hi0 : listed.getD i false = false := by
    have := (mem_ready.1 hr).1
    simp only [Array.getD_eq_getD_getElem?] at this ⊢
    cases h : listed[i]? with
    | none => rfl
    | some b => rw [h] at this; exact this
   have hnot : ∀ e ∈ oj.after, Region.binds md e = true → e.on ≠ i := fun e he hb heq => by
    have h1 := hall e he hb
    rw [heq, hi0] at h1
    cases h1
   have hsh' := hsh.set hj
   have hi1 : (listed.setIfInBounds j true).getD i false = false := by rw [getD_set_ne false hji]; exact hi0
   have hs0 : st ((listed.setIfInBounds i true).setIfInBounds j true) = false := by
    rw [Array.setIfInBounds_comm _ _ (Ne.symm hji), hst2]
    cases h : st (listed.setIfInBounds j true) with
    | false => rfl
    | true => rw [hst _ hsh' h] at hi1; cases hi1
   have h2 := wpOp_putIf hoj (hfree j oj hoj hji hjun hnot) (fun cs b => hsel i oi cs b hi) (fun cs b => hsel j oj cs b hoj) hQ hy h1
   have hfree' : ∀ k ok, ops[k]? = some ok → k ≠ i → (listed.setIfInBounds j true).getD k true = false →
     (∀ e ∈ ok.after, Region.binds md e = true → e.on ≠ i) → oi.apart ops ok = true := fun k ok hk hki hun hno => by
    refine hfree k ok hk hki ?_ hno
    by_cases hjk : j = k
    ·subst hjk; exact hjun
    ·rw [getD_set_ne true hjk] at hun; exact hun
   refine wpOp_mono (fun a' w' h3 => ⟨fun _ => h3.2.1 hs0, ih (listed.setIfInBounds j true) a' w' hsh' hfree' (ready_mono hr (Ne.symm hji)) h3.1 (h3.2.1 hs0) ?_⟩) h2
   rw [Array.setIfInBounds_comm _ _ hji]
   exact h3.2.2
theorem wpTill_take {i : Nat} {oi : Oper} {v : Value} {fuel : Nat} {listed : Array Bool} {a : Act} {w : World} (hi : ops[i]? = some oi)
  (hs : Region.noSelect ops = true) (hf : Region.free md ops listed i = true) (hr : (Region.ready md ops listed).contains i = true) (hsh : Shutd md ops listed)
  (hst : ∀ l, Shutd md ops l → st l = true → l.getD i false = true) (hst2 : ∀ l : Array Bool, st (l.setIfInBounds i true) = st l)
  (hQ : ∀ c a w, Q (.panic c) (a.put oi.dst v) w → Q (.panic c) a w) (hy : YieldsIf P ops S oi v a) (hS : S w)
  (h : Shutd md ops (listed.setIfInBounds i true) → wpTill P md ops Q S st fuel (listed.setIfInBounds i true) (a.put oi.dst v) w) : wpTill P md ops Q S st (fuel + 1) listed a w :=
 wpTill_first hi (Region.noSelect_spec hs) hQ hst hst2 fuel listed a w hsh (Region.free_spec hi hf) (by simpa using hr) hy hS (h (hsh.set (by simpa using hr)))
def AllTill (P : Program) (md : Region.Mode) (ops : Array Oper) (Q : Exit → Act → World → Prop) (S : World → Prop) (st : Array Bool → Bool) (fuel : Nat) (listed : Array Bool) (a : Act) (w : World) (rs : List Nat) : Prop :=
 ∀ i ∈ rs, wpOp P ops Q i (fun a' w' => (st (listed.setIfInBounds i true) = false → S w') ∧ wpTill P md ops Q S st fuel (listed.setIfInBounds i true) a' w') a w
theorem AllTill.nil {fuel : Nat} {listed : Array Bool} {a : Act} {w : World} : AllTill P md ops Q S st fuel listed a w [] := fun _ h => by cases h
theorem AllTill.cons {fuel : Nat} {listed : Array Bool} {a : Act} {w : World} {i : Nat} {o : Oper} {rs : List Nat} (ho : ops[i]? = some o)
  (h : ∀ K' : Act → World → Prop, (∀ a w, (st (listed.setIfInBounds i true) = false → S w) → wpTill P md ops Q S st fuel (listed.setIfInBounds i true) a w → K' a w) → if Region.wanted o (yielded ops a.tmps) = true then Oper.wp P o a w K' Q else K' (a.put o.dst undef) w)
  (hs : AllTill P md ops Q S st fuel listed a w rs) : AllTill P md ops Q S st fuel listed a w (i :: rs) := fun j hj => by
 rcases List.mem_cons.1 hj with rfl | hj
 ·exact wpOp_step ho (fun K' hK => h K' (fun a w hS hW => hK a w ⟨hS, hW⟩))
 ·exact hs j hj
theorem wpTill_ready {rs : List Nat} {fuel : Nat} {listed : Array Bool} {a : Act} {w : World} (hr : Region.ready md ops listed = rs) (hne : rs ≠ [])
  (h : AllTill P md ops Q S st fuel listed a w rs) : wpTill P md ops Q S st (fuel + 1) listed a w :=
 ⟨fun h0 => absurd (hr ▸ h0) hne, hr ▸ h⟩
theorem wpTill_done {listed : Array Bool} {a : Act} {w : World} (hr : Region.ready md ops listed = []) (h : Q .normal a w) :
  ∀ fuel, wpTill P md ops Q S st fuel listed a w
 | 0 => ⟨hr, h⟩
 | _ + 1 => ⟨fun _ => h, by rw [hr]; simp⟩
theorem tk (i : Nat) {oi : Oper} (v : Value) {fuel : Nat} {listed : Array Bool} {a : Act} {w : World} (hi : ops[i]? = some oi) (hst : ∀ l, Shutd md ops l → st l = true → l.getD i false = true) (hy : YieldsIf P ops S oi v a) (hS : S w)
  (h : Shutd md ops (listed.setIfInBounds i true) → wpTill P md ops Q S st fuel (listed.setIfInBounds i true) (a.put oi.dst v) w)
  (hs : Region.noSelect ops = true := by kernel_rfl) (hf : Region.free md ops listed i = true := by kernel_rfl) (hr : (Region.ready md ops listed).contains i = true := by kernel_rfl) (hsh : Shutd md ops listed := by exact shut_of (by kernel_rfl))
  (hst2 : ∀ l : Array Bool, st (l.setIfInBounds i true) = st l := by first | exact fun _ => rfl | exact fun _ => getD_set_ne false (by decide)) (hQ : ∀ c a w, Q (.panic c) (a.put oi.dst v) w → Q (.panic c) a w := by exact fun _ _ _ h => h) : wpTill P md ops Q S st (fuel + 1) listed a w :=
 wpTill_take hi hs hf hr hsh hst hst2 hQ hy hS h
theorem tk0 (i : Nat) {oi : Oper} (v : Value) {fuel : Nat} {listed : Array Bool} {a : Act} {w : World} (hi : ops[i]? = some oi) (hy : YieldsIf P ops S oi v a) (hS : S w)
  (h : Shutd md ops (listed.setIfInBounds i true) → wpTill P md ops Q S (fun _ => false) fuel (listed.setIfInBounds i true) (a.put oi.dst v) w)
  (hs : Region.noSelect ops = true := by kernel_rfl) (hf : Region.free md ops listed i = true := by kernel_rfl) (hr : (Region.ready md ops listed).contains i = true := by kernel_rfl) (hsh : Shutd md ops listed := by exact shut_of (by kernel_rfl))
  (hQ : ∀ c a w, Q (.panic c) (a.put oi.dst v) w → Q (.panic c) a w := by exact fun _ _ _ h => h) : wpTill P md ops Q S (fun _ => false) (fuel + 1) listed a w :=
 wpTill_take hi hs hf hr hsh (fun _ _ h9 => by cases h9) (fun _ => rfl) hQ hy hS h
theorem rdy (i : Nat) {o : Oper} {fuel : Nat} {listed : Array Bool} {a : Act} {w : World} (ho : ops[i]? = some o)
  (h : ∀ K' : Act → World → Prop, (∀ a w, (st (listed.setIfInBounds i true) = false → S w) → wpTill P md ops Q S st fuel (listed.setIfInBounds i true) a w → K' a w) → Oper.wp P o a w K' Q)
  (hr : Region.ready md ops listed = [i] := by kernel_rfl) (hw : Region.wanted o (yielded ops a.tmps) = true := by rfl) : wpTill P md ops Q S st (fuel + 1) listed a w :=
 wpTill_ready hr (by simp) (AllTill.cons ho (fun K hK => by rw [if_pos hw]; exact h K hK) AllTill.nil)
end
end Go.Proofs.YtimioelnnhnbiaaGreatDoor
namespace Go.Proofs.YtimioelnnhnbiaaGreatDoor
open Go
section
variable {P : Program} {ops : Array Oper} {Q : Exit → Act → World → Prop} {md : Region.Mode} {S : World → Prop} {st : Array Bool → Bool}
theorem wpTill_firstF {i : Nat} {oi : Oper} {v : Value} (hi : ops[i]? = some oi) (hsel : ∀ (j : Nat) (o : Oper) cs b, ops[j]? = some o → o.op ≠ .select cs b)
  (hQ : ∀ c a w, Q (.panic c) (a.put oi.dst v) w → Q (.panic c) a w) (hst2 : ∀ l : Array Bool, st (l.setIfInBounds i true) = st l) :
  ∀ (fuel : Nat) (listed : Array Bool) (a : Act) (w : World),
   (∀ j oj, ops[j]? = some oj → j ≠ i → listed.getD j true = false → (∀ e ∈ oj.after, Region.binds md e = true → e.on ≠ i) → oi.apart ops oj = true) →
   i ∈ Region.ready md ops listed → YieldsIf P ops (fun _ => True) oi v a → (st listed = false → S w) →
   wpTill P md ops Q S st fuel (listed.setIfInBounds i true) (a.put oi.dst v) w → wpTill P md ops Q S st (fuel + 1) listed a w := by
 intro fuel
 induction fuel with
 | zero =>
  intro listed a w _ hr hy hS H
  refine ⟨fun h => (by rw [h] at hr; cases hr), fun j hj => ?_⟩
  by_cases hji : j = i
  ·subst hji; exact hy.wpOp hi trivial ⟨fun h => hS (by rw [← hst2]; exact h), H⟩
  ·have := ready_mono hj hji
   rw [H.1] at this
   cases this
 | succ fuel ih =>
  intro listed a w hfree hr hy hS H
  refine ⟨fun h => (by rw [h] at hr; cases hr), fun j hj => ?_⟩
  by_cases hji : j = i
  ·subst hji; exact hy.wpOp hi trivial ⟨fun h => hS (by rw [← hst2]; exact h), H⟩
  ·have h1 := H.2 j (ready_mono hj hji)
   obtain ⟨hjun, oj, hoj, hall⟩ := mem_ready.1 hj
   have hi0 : listed.getD i false = false := by
    have := (mem_ready.1 hr).1
    simp only [Array.getD_eq_getD_getElem?] at this ⊢
    cases h : listed[i]? with
    | none => rfl
    | some b => rw [h] at this; exact this
   have hnot : ∀ e ∈ oj.after, Region.binds md e = true → e.on ≠ i := fun e he hb heq => by
    have h1 := hall e he hb
    rw [heq, hi0] at h1
    cases h1
   have h2 := wpOp_putIf hoj (hfree j oj hoj hji hjun hnot) (fun cs b => hsel i oi cs b hi) (fun cs b => hsel j oj cs b hoj) hQ hy h1
   have hfree' : ∀ k ok, ops[k]? = some ok → k ≠ i → (listed.setIfInBounds j true).getD k true = false →
     (∀ e ∈ ok.after, Region.binds md e = true → e.on ≠ i) → oi.apart ops ok = true := fun k ok hk hki hun hno => by
    refine hfree k ok hk hki ?_ hno
    by_cases hjk : j = k
    ·subst hjk; exact hjun
    ·rw [getD_set_ne true hjk] at hun; exact hun
   have hcom : (listed.setIfInBounds i true).setIfInBounds j true = (listed.setIfInBounds j true).setIfInBounds i true := Array.setIfInBounds_comm _ _ (Ne.symm hji)
   have hs1 : st ((listed.setIfInBounds i true).setIfInBounds j true) = st (listed.setIfInBounds j true) := by rw [hcom, hst2]
   refine wpOp_mono (fun a' w' h3 => ⟨fun h0 => h3.2.1 (by rw [hs1]; exact h0), ih (listed.setIfInBounds j true) a' w' hfree' (ready_mono hr (Ne.symm hji)) h3.1 (fun h0 => h3.2.1 (by rw [hs1]; exact h0)) ?_⟩) h2
   rw [Array.setIfInBounds_comm _ _ hji]
   exact h3.2.2
theorem wpTill_takeF {i : Nat} {oi : Oper} {v : Value} {fuel : Nat} {listed : Array Bool} {a : Act} {w : World} (hi : ops[i]? = some oi)
  (hs : Region.noSelect ops = true) (hf : Region.free md ops listed i = true) (hr : (Region.ready md ops listed).contains i = true) (hst2 : ∀ l : Array Bool, st (l.setIfInBounds i true) = st l)
  (hQ : ∀ c a w, Q (.panic c) (a.put oi.dst v) w → Q (.panic c) a w) (hy : YieldsIf P ops (fun _ => True) oi v a) (hS : st listed = false → S w)
  (h : wpTill P md ops Q S st fuel (listed.setIfInBounds i true) (a.put oi.dst v) w) : wpTill P md ops Q S st (fuel + 1) listed a w :=
 wpTill_firstF hi (Region.noSelect_spec hs) hQ hst2 fuel listed a w (Region.free_spec hi hf) (by simpa using hr) hy hS h
theorem Shutd.put {l : Array Bool} {i : Nat} (h : Shutd md ops l) (hr : (Region.ready md ops l).contains i = true) : Shutd md ops (l.setIfInBounds i true) := h.set (by simpa using hr)
theorem tkF (i : Nat) {oi : Oper} (v : Value) {fuel : Nat} {listed : Array Bool} {a : Act} {w : World} (hi : ops[i]? = some oi) (hy : ∀ w, True → (execOp a.eval oi).run P w = .ok (.value v) w) (hS : st listed = false → S w)
  (h : wpTill P md ops Q S st fuel (listed.setIfInBounds i true) (a.put oi.dst v) w) (hw : Region.wanted oi (yielded ops a.tmps) = true := by rfl)
  (hs : Region.noSelect ops = true := by kernel_rfl) (hf : Region.free md ops listed i = true := by kernel_rfl) (hr : (Region.ready md ops listed).contains i = true := by kernel_rfl)
  (hst2 : ∀ l : Array Bool, st (l.setIfInBounds i true) = st l := by first | exact fun _ => rfl | exact fun _ => getD_set_ne false (by decide)) (hQ : ∀ c a w, Q (.panic c) (a.put oi.dst v) w → Q (.panic c) a w := by exact fun _ _ _ h => h) : wpTill P md ops Q S st (fuel + 1) listed a w :=
 wpTill_takeF hi hs hf hr hst2 hQ (Or.inl ⟨hw, hy⟩) hS h
theorem tkG (i : Nat) {oi : Oper} (v : Value) {fuel : Nat} {listed : Array Bool} {a : Act} {w : World} (hi : ops[i]? = some oi) (hS : st listed = false → S w)
  (h : wpTill P md ops Q S st fuel (listed.setIfInBounds i true) (a.put oi.dst v) w) (hy : ∀ w, (execOp a.eval oi).run P w = .ok (.value v) w := by intro W0; kernel_rfl) (hw : Region.wanted oi (yielded ops a.tmps) = true := by rfl)
  (hs : Region.noSelect ops = true := by kernel_rfl) (hf : Region.free md ops listed i = true := by kernel_rfl) (hr : (Region.ready md ops listed).contains i = true := by kernel_rfl)
  (hst2 : ∀ l : Array Bool, st (l.setIfInBounds i true) = st l := by first | exact fun _ => rfl | exact fun _ => getD_set_ne false (by decide)) (hQ : ∀ c a w, Q (.panic c) (a.put oi.dst v) w → Q (.panic c) a w := by exact fun _ _ _ h => h) : wpTill P md ops Q S st (fuel + 1) listed a w :=
 wpTill_takeF hi hs hf hr hst2 hQ (Or.inl ⟨hw, fun w _ => hy w⟩) hS h
end
end Go.Proofs.YtimioelnnhnbiaaGreatDoor
