/-
  An operation that asks nothing of the world may be taken first, whatever stands open. CONDITIONS: none.
-/
import Derived.Test.YtimioelnnhnbiaaDoorTill
namespace Go.Proofs.YtimioelnnhnbiaaDoor
open Go
section
variable {P : Program} {ops : Array Oper} {Q : Exit → Act → World → Prop} {md : Region.Mode} {S : World → Prop} {st : Array Bool → Bool}
theorem wpTill_firstF {i : Nat} {oi : Oper} {v : Value} (hi : ops[i]? = some oi) (hsel : ∀ (j : Nat) (o : Oper) cs b, ops[j]? = some o → o.op ≠ .select cs b)
    (hQ : ∀ c a w, Q (.panic c) (a.put oi.dst v) w → Q (.panic c) a w) (hst2 : ∀ l : Array Bool, st (l.setIfInBounds i true) = st l) :
    ∀ (fuel : Nat) (listed : Array Bool) (a : Act) (w : World),
      (∀ j oj, ops[j]? = some oj → j ≠ i → listed.getD j true = false → (∀ e ∈ oj.after, Region.binds md e = true → e.on ≠ i) → oi.apart ops oj = true) →
      i ∈ Region.ready md ops listed → YieldsIf P ops (fun _ => True) oi v a → (st listed = false → S w) →
      wpTill P md ops Q S st fuel (listed.setIfInBounds i true) (a.put oi.dst v) w → wpTill P md ops Q S st (fuel + 1) listed a w := by
  intro fuel
  induction fuel with
  | zero =>
    intro listed a w _ hr hy hS H
    refine ⟨fun h => (by rw [h] at hr; cases hr), fun j hj => ?_⟩
    by_cases hji : j = i
    · subst hji; exact hy.wpOp hi trivial ⟨fun h => hS (by rw [← hst2]; exact h), H⟩
    · have := ready_mono hj hji
      rw [H.1] at this
      cases this
  | succ fuel ih =>
    intro listed a w hfree hr hy hS H
    refine ⟨fun h => (by rw [h] at hr; cases hr), fun j hj => ?_⟩
    by_cases hji : j = i
    · subst hji; exact hy.wpOp hi trivial ⟨fun h => hS (by rw [← hst2]; exact h), H⟩
    · have h1 := H.2 j (ready_mono hj hji)
      obtain ⟨hjun, oj, hoj, hall⟩ := mem_ready.1 hj
      have hi0 : listed.getD i false = false := by
        have := (mem_ready.1 hr).1
        simp only [Array.getD_eq_getD_getElem?] at this ⊢
        cases h : listed[i]? with
        | none => rfl
        | some b => rw [h] at this; exact this
      have hnot : ∀ e ∈ oj.after, Region.binds md e = true → e.on ≠ i := fun e he hb heq => by
        have h1 := hall e he hb
        rw [heq, hi0] at h1
        cases h1
      have h2 := wpOp_putIf hoj (hfree j oj hoj hji hjun hnot) (fun cs b => hsel i oi cs b hi) (fun cs b => hsel j oj cs b hoj) hQ hy h1
      have hfree' : ∀ k ok, ops[k]? = some ok → k ≠ i → (listed.setIfInBounds j true).getD k true = false →
          (∀ e ∈ ok.after, Region.binds md e = true → e.on ≠ i) → oi.apart ops ok = true := fun k ok hk hki hun hno => by
        refine hfree k ok hk hki ?_ hno
        by_cases hjk : j = k
        · subst hjk; exact hjun
        · rw [getD_set_ne true hjk] at hun; exact hun
      have hcom : (listed.setIfInBounds i true).setIfInBounds j true = (listed.setIfInBounds j true).setIfInBounds i true := Array.setIfInBounds_comm _ _ (Ne.symm hji)
      have hs1 : st ((listed.setIfInBounds i true).setIfInBounds j true) = st (listed.setIfInBounds j true) := by rw [hcom, hst2]
      refine wpOp_mono (fun a' w' h3 => ⟨fun h0 => h3.2.1 (by rw [hs1]; exact h0), ih (listed.setIfInBounds j true) a' w' hfree' (ready_mono hr (Ne.symm hji)) h3.1 (fun h0 => h3.2.1 (by rw [hs1]; exact h0)) ?_⟩) h2
      rw [Array.setIfInBounds_comm _ _ hji]
      exact h3.2.2
/-- Take number i first: it asks nothing of the world. -/
theorem wpTill_takeF {i : Nat} {oi : Oper} {v : Value} {fuel : Nat} {listed : Array Bool} {a : Act} {w : World} (hi : ops[i]? = some oi)
    (hs : Region.noSelect ops = true) (hf : Region.free md ops listed i = true) (hr : (Region.ready md ops listed).contains i = true) (hst2 : ∀ l : Array Bool, st (l.setIfInBounds i true) = st l)
    (hQ : ∀ c a w, Q (.panic c) (a.put oi.dst v) w → Q (.panic c) a w) (hy : YieldsIf P ops (fun _ => True) oi v a) (hS : st listed = false → S w)
    (h : wpTill P md ops Q S st fuel (listed.setIfInBounds i true) (a.put oi.dst v) w) : wpTill P md ops Q S st (fuel + 1) listed a w :=
  wpTill_firstF hi (Region.noSelect_spec hs) hQ hst2 fuel listed a w (Region.free_spec hi hf) (by simpa using hr) hy hS h
theorem Shutd.put {l : Array Bool} {i : Nat} (h : Shutd md ops l) (hr : (Region.ready md ops l).contains i = true) : Shutd md ops (l.setIfInBounds i true) := h.set (by simpa using hr)
end
end Go.Proofs.YtimioelnnhnbiaaDoor
