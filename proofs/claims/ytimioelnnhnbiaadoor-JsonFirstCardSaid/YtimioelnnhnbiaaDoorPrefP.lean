/-
  The plain parser on two texts that agree ahead of a place; more rounds change nothing. No program in sight.
-/
import Derived.Test.YtimioelnnhnbiaaDoorEnough
namespace Go.Proofs.YtimioelnnhnbiaaDoor
/-- The texts agree ahead of k. -/
def Agree (k : Nat) (s s' : Js.Bs) : Prop := ∀ i, i < k → s[i]? = s'[i]?
/-- f goes on, stays within L, and answers as f' where it ends ahead of k. -/
structure Good {α : Type} (k L : Nat) (f f' : Js.St → Js.Res α) : Prop where
  ok : ∀ st a st', f st = .ok a st' → st.at_ ≤ st'.at_ ∧ (st.at_ ≤ L → st'.at_ ≤ L) ∧ (st'.at_ < k → f' st = .ok a st')
  bad : ∀ st j, f st = .bad j → st.at_ ≤ j ∧ (st.at_ ≤ L → j ≤ L) ∧ (j < k → f' st = .bad j)
/-- What f takes ends with a byte that it asks for. -/
def Shut {α : Type} (k : Nat) (f f' : Js.St → Js.Res α) : Prop := ∀ st a st', f st = .ok a st' → st.at_ < st'.at_ ∧ (st'.at_ ≤ k → f' st = .ok a st')
theorem bind_bad {α β : Type} {r : Js.Res α} {f : α → Js.St → Js.Res β} {j : Nat} (h : r.bind f = .bad j) : r = .bad j ∨ ∃ a st, r = .ok a st ∧ f a st = .bad j := by
  cases r with
  | ok a st => exact .inr ⟨a, st, rfl, h⟩
  | bad i => injection h with h; exact .inl (by rw [h])
  | out => cases h
section
variable {α β : Type} {k L : Nat}
theorem Good.bind {f f' : Js.St → Js.Res α} {g g' : α → Js.St → Js.Res β} (hf : Good k L f f') (hg : ∀ a, Good k L (g a) (g' a)) : Good k L (fun st => (f st).bind g) (fun st => (f' st).bind g') := by
  refine ⟨fun st b st2 h => ?_, fun st j h => ?_⟩
  · obtain ⟨a, st1, h1, h2⟩ := bind_ok h
    obtain ⟨x1, x2, x3⟩ := hf.ok _ _ _ h1
    obtain ⟨y1, y2, y3⟩ := (hg a).ok _ _ _ h2
    refine ⟨by omega, fun hl => y2 (x2 hl), fun hk => ?_⟩
    show (f' st).bind g' = _
    rw [x3 (by omega)]
    exact y3 hk
  · rcases bind_bad h with h1 | ⟨a, st1, h1, h2⟩
    · obtain ⟨x1, x2, x3⟩ := hf.bad _ _ h1
      refine ⟨x1, x2, fun hk => ?_⟩
      show (f' st).bind g' = _
      rw [x3 hk]; rfl
    · obtain ⟨x1, x2, x3⟩ := hf.ok _ _ _ h1
      obtain ⟨y1, y2, y3⟩ := (hg a).bad _ _ h2
      refine ⟨by omega, fun hl => y2 (x2 hl), fun hk => ?_⟩
      show (f' st).bind g' = _
      rw [x3 (by omega)]
      exact y3 hk
theorem Good.shut {f f' : Js.St → Js.Res α} {g g' : α → Js.St → Js.Res β} (hf : Good k L f f') (hg : ∀ a, Shut k (g a) (g' a)) : Shut k (fun st => (f st).bind g) (fun st => (f' st).bind g') := by
  intro st b st2 h
  obtain ⟨a, st1, h1, h2⟩ := bind_ok h
  obtain ⟨x1, _, x3⟩ := hf.ok _ _ _ h1
  obtain ⟨y1, y3⟩ := hg a _ _ _ h2
  refine ⟨by omega, fun hk => ?_⟩
  show (f' st).bind g' = _
  rw [x3 (by omega)]
  exact y3 hk
theorem Shut.then {f f' : Js.St → Js.Res α} {v : α → Js.St → β} {u : α → Js.St → Js.St} (hf : Shut k f f') (hu : ∀ a st, (u a st).at_ = st.at_) :
    Shut k (fun st => (f st).bind fun a st => .ok (v a st) (u a st)) (fun st => (f' st).bind fun a st => .ok (v a st) (u a st)) := by
  intro st b st2 h
  obtain ⟨a, st1, h1, h2⟩ := bind_ok h
  obtain ⟨x1, x3⟩ := hf _ _ _ h1
  injection h2 with e1 e2
  have e3 := hu a st1
  subst e1 e2
  refine ⟨by omega, fun hk => ?_⟩
  show (f' st).bind _ = _
  rw [x3 (by omega)]
  rfl
theorem Good.pure (v : Js.St → α) (u : Js.St → Js.St) (hu : ∀ st, (u st).at_ = st.at_) : Good k L (fun st => .ok (v st) (u st)) (fun st => .ok (v st) (u st)) := by
  refine ⟨fun st b st2 h => ?_, fun st j h => by cases h⟩
  injection h with e1 e2
  have := hu st
  subst e1 e2
  exact ⟨by omega, fun _ => by omega, fun _ => rfl⟩
theorem Good.stop : Good (α := α) k L (fun st => .bad st.at_) (fun st => .bad st.at_) := by
  refine ⟨(fun st b st2 h => by cases h), fun st j h => ?_⟩
  injection h with h
  subst h
  exact ⟨Nat.le_refl _, id, fun _ => rfl⟩
theorem Good.pre {f f' : Js.St → Js.Res α} {u u' : Js.St → Js.St} (hf : Good k L f f') (h1 : ∀ st, st.at_ ≤ (u st).at_) (h2 : ∀ st, st.at_ ≤ L → (u st).at_ ≤ L) (h3 : ∀ st, (u st).at_ < k → u' st = u st) :
    Good k L (fun st => f (u st)) (fun st => f' (u' st)) := by
  refine ⟨fun st b st2 h => ?_, fun st j h => ?_⟩
  · obtain ⟨x1, x2, x3⟩ := hf.ok _ _ _ h
    have := h1 st
    exact ⟨by omega, fun hl => x2 (h2 st hl), fun hk => by show f' (u' st) = _; rw [h3 st (by omega)]; exact x3 hk⟩
  · obtain ⟨x1, x2, x3⟩ := hf.bad _ _ h
    have := h1 st
    exact ⟨by omega, fun hl => x2 (h2 st hl), fun hk => by show f' (u' st) = _; rw [h3 st (by omega)]; exact x3 hk⟩
theorem Shut.pre {f f' : Js.St → Js.Res α} {u u' : Js.St → Js.St} (hf : Shut k f f') (h1 : ∀ st, st.at_ ≤ (u st).at_) (h3 : ∀ st, (u st).at_ < k → u' st = u st) :
    Shut k (fun st => f (u st)) (fun st => f' (u' st)) := by
  intro st b st2 h
  obtain ⟨x1, x3⟩ := hf _ _ _ h
  have := h1 st
  exact ⟨by omega, fun hk => by show f' (u' st) = _; rw [h3 st (by omega)]; exact x3 hk⟩
theorem Good.ite {p p' : Js.St → Prop} [∀ st, Decidable (p st)] [∀ st, Decidable (p' st)] {f f' g g' : Js.St → Js.Res α} (hp : ∀ st, st.at_ < k → (p st ↔ p' st)) (hf : Good k L f f') (hg : Good k L g g') :
    Good k L (fun st => if p st then f st else g st) (fun st => if p' st then f' st else g' st) := by
  refine ⟨fun st b st2 h => ?_, fun st j h => ?_⟩
  · by_cases hh : p st
    · have h : f st = .ok b st2 := (if_pos hh).symm.trans h
      obtain ⟨x1, x2, x3⟩ := hf.ok _ _ _ h
      exact ⟨x1, x2, fun hk => (if_pos ((hp st (by omega)).1 hh)).trans (x3 hk)⟩
    · have h : g st = .ok b st2 := (if_neg hh).symm.trans h
      obtain ⟨x1, x2, x3⟩ := hg.ok _ _ _ h
      exact ⟨x1, x2, fun hk => (if_neg (fun h' => hh ((hp st (by omega)).2 h'))).trans (x3 hk)⟩
  · by_cases hh : p st
    · have h : f st = .bad j := (if_pos hh).symm.trans h
      obtain ⟨x1, x2, x3⟩ := hf.bad _ _ h
      exact ⟨x1, x2, fun hk => (if_pos ((hp st (by omega)).1 hh)).trans (x3 hk)⟩
    · have h : g st = .bad j := (if_neg hh).symm.trans h
      obtain ⟨x1, x2, x3⟩ := hg.bad _ _ h
      exact ⟨x1, x2, fun hk => (if_neg (fun h' => hh ((hp st (by omega)).2 h'))).trans (x3 hk)⟩
theorem Shut.ite {p p' : Js.St → Prop} [∀ st, Decidable (p st)] [∀ st, Decidable (p' st)] {f f' g g' : Js.St → Js.Res α} (hp : ∀ st, st.at_ < k → (p st ↔ p' st)) (hf : Shut k f f') (hg : Shut k g g') :
    Shut k (fun st => if p st then f st else g st) (fun st => if p' st then f' st else g' st) := by
  intro st b st2 h
  by_cases hh : p st
  · have h : f st = .ok b st2 := (if_pos hh).symm.trans h
    obtain ⟨x1, x3⟩ := hf _ _ _ h
    exact ⟨x1, fun hk => (if_pos ((hp st (by omega)).1 hh)).trans (x3 hk)⟩
  · have h : g st = .ok b st2 := (if_neg hh).symm.trans h
    obtain ⟨x1, x3⟩ := hg _ _ _ h
    exact ⟨x1, fun hk => (if_neg (fun h' => hh ((hp st (by omega)).2 h'))).trans (x3 hk)⟩
end
section
variable {k : Nat} {s s' : Js.Bs}
theorem Agree.peek (h : Agree k s s') {st : Js.St} (hk : st.at_ < k) : Js.peek s st = Js.peek s' st := by
  unfold Js.peek
  have h2 := h _ hk
  rw [← List.head?_drop, ← List.head?_drop] at h2
  rw [List.headD_eq_head?_getD, List.headD_eq_head?_getD, h2]
theorem takeWhile_agree {p : UInt8 → Bool} : ∀ (l l' : Js.Bs), (∀ i, i ≤ (l.takeWhile p).length → l[i]? = l'[i]?) → l'.takeWhile p = l.takeWhile p
  | [], l', h => by
    have := h 0 (Nat.zero_le _)
    cases l' with
    | nil => rfl
    | cons c t => simp at this
  | c :: t, l', h => by
    have h0 := h 0 (Nat.zero_le _)
    cases l' with
    | nil => simp at h0
    | cons c' t' =>
      simp only [List.getElem?_cons_zero, Option.some.injEq] at h0
      subst h0
      by_cases hc : p c = true
      · rw [List.takeWhile_cons_of_pos hc, List.takeWhile_cons_of_pos hc]
        congr 1
        refine takeWhile_agree t t' fun i hi => ?_
        have := h (i + 1) (by rw [List.takeWhile_cons_of_pos hc, List.length_cons]; omega)
        simpa using this
      · rw [List.takeWhile_cons_of_neg hc, List.takeWhile_cons_of_neg hc]
theorem Agree.drop (h : Agree k s s') (p : UInt8 → Bool) (n : Nat) (hk : n + ((s.drop n).takeWhile p).length < k) : (s'.drop n).takeWhile p = (s.drop n).takeWhile p := by
  refine takeWhile_agree _ _ fun i hi => ?_
  rw [List.getElem?_drop, List.getElem?_drop]
  exact h _ (by omega)
theorem Agree.blanks (h : Agree k s s') (st : Js.St) (hk : (Js.blanks s st).at_ < k) : Js.blanks s' st = Js.blanks s st := by
  unfold Js.blanks at hk ⊢
  rw [h.drop _ _ hk]
theorem blanks_ge (s : Js.Bs) (st : Js.St) : st.at_ ≤ (Js.blanks s st).at_ := Nat.le_add_right _ _
theorem Agree.take (h : Agree k s s') (c : UInt8) : Good k s.length (Js.take s c) (Js.take s' c) := by
  refine ⟨fun st b st2 h1 => ?_, fun st j h1 => ?_⟩
  · unfold Js.take at h1 ⊢
    split at h1
    · rename_i hx
      injection h1 with e1 e2
      subst e2
      refine ⟨Nat.le_succ _, fun _ => (List.getElem?_eq_some_iff.1 hx).1, fun hk => ?_⟩
      have hk : st.at_ + 1 < k := hk
      rw [if_pos (by rw [← h _ (by omega)]; exact hx)]
    · cases h1
  · unfold Js.take at h1 ⊢
    split at h1
    · cases h1
    · rename_i hx
      injection h1 with e1
      subst e1
      exact ⟨Nat.le_refl _, id, fun hk => by rw [if_neg (by rw [← h _ hk]; exact hx)]⟩
theorem Agree.takeS (h : Agree k s s') (c : UInt8) : Shut k (Js.take s c) (Js.take s' c) := by
  intro st b st2 h1
  unfold Js.take at h1 ⊢
  split at h1
  · rename_i hx
    injection h1 with e1 e2
    subst e2
    refine ⟨Nat.lt_succ_self _, fun hk => ?_⟩
    have hk : st.at_ + 1 ≤ k := hk
    rw [if_pos (by rw [← h _ (by omega)]; exact hx)]
  · cases h1
theorem Agree.word (h : Agree k s s') : ∀ l : Js.Bs, Good k s.length (Js.word s l) (Js.word s' l)
  | [] => Good.pure (fun _ => ()) id (fun _ => rfl)
  | c :: t => Good.bind (g := fun _ => Js.word s t) (g' := fun _ => Js.word s' t) (h.take c) (fun _ => h.word t)
theorem Agree.digit (h : Agree k s s') : Good k s.length (Js.digit s) (Js.digit s') := by
  refine ⟨fun st b st2 h1 => ?_, fun st j h1 => ?_⟩
  · unfold Js.digit at h1 ⊢
    cases hx : s[st.at_]? with
    | none => rw [hx] at h1; cases h1
    | some c =>
      rw [hx] at h1
      simp only [Option.bind_some] at h1
      split at h1
      · rename_i n hn
        injection h1 with e1 e2
        subst e1 e2
        refine ⟨Nat.le_succ _, fun _ => (List.getElem?_eq_some_iff.1 hx).1, fun hk => ?_⟩
        have hk : st.at_ + 1 < k := hk
        rw [← h _ (by omega), hx]
        simp only [Option.bind_some, hn]
      · cases h1
  · have hj : j = st.at_ := by
      rcases digit_inv (s := s) (st := st) with ⟨n, _, hd, _⟩ | hd
      · rw [hd] at h1; cases h1
      · rw [hd] at h1; injection h1 with e; exact e.symm
    subst hj
    refine ⟨Nat.le_refl _, id, fun hk => ?_⟩
    rw [← h1]
    unfold Js.digit
    rw [h _ hk]
theorem Agree.pair (h : Agree k s s') : Good k s.length (Js.pair s) (Js.pair s') := by
  unfold Js.pair
  refine Good.ite (fun st hk => by rw [h _ hk]) ?_ ?_
  · exact Good.bind (g := fun _ st => (Js.digit s st).bind fun a st => (Js.digit s st).bind fun b st => .ok (UInt8.ofNat (16 * a + b)) st) (g' := fun _ st => (Js.digit s' st).bind fun a st => (Js.digit s' st).bind fun b st => .ok (UInt8.ofNat (16 * a + b)) st) (h.word _)
      fun _ => Good.bind (g := fun a st => (Js.digit s st).bind fun b st => .ok (UInt8.ofNat (16 * a + b)) st) (g' := fun a st => (Js.digit s' st).bind fun b st => .ok (UInt8.ofNat (16 * a + b)) st) h.digit
      fun a => Good.bind (g := fun b st => .ok (UInt8.ofNat (16 * a + b)) st) (g' := fun b st => .ok (UInt8.ofNat (16 * a + b)) st) h.digit fun b => Good.pure (fun _ => _) id (fun _ => rfl)
  · refine ⟨fun st b st2 h1 => ?_, fun st j h1 => ?_⟩
    · (try simp only at h1 ⊢)
      cases hx : s[st.at_]? with
      | none => rw [hx] at h1; cases h1
      | some c =>
        rw [hx] at h1
        simp only [Option.bind_some] at h1
        split at h1
        · rename_i n hn
          injection h1 with e1 e2
          subst e1 e2
          refine ⟨Nat.le_succ _, fun _ => (List.getElem?_eq_some_iff.1 hx).1, fun hk => ?_⟩
          have hk : st.at_ + 1 < k := hk
          rw [← h _ (by omega), hx]
          simp only [Option.bind_some, hn]
        · cases h1
    · (try simp only at h1 ⊢)
      have hj : j = st.at_ := by
        split at h1
        · cases h1
        · injection h1 with e; exact e.symm
      subst hj
      refine ⟨Nat.le_refl _, id, fun hk => ?_⟩
      rw [← h _ hk]
      exact h1
theorem Agree.numRest (h : Agree k s s') (q : Bool) : Good k s.length (numRest s q) (numRest s' q) := by
  refine ⟨fun st b st2 h1 => ?_, fun st j h1 => ?_⟩
  · have hr : st.at_ ≤ s.length → st2.at_ ≤ s.length := fun hl => (numRest_at h1 hl).1
    unfold Go.Proofs.YtimioelnnhnbiaaDoor.numRest at h1 ⊢
    by_cases hd : (!Js.isDig (Js.peek s st)) = true
    · rw [if_pos hd] at h1; cases h1
    rw [if_neg hd] at h1
    by_cases h0 : Js.peek s st = 48
    · rw [if_pos h0] at h1
      injection h1 with e1 e2
      subst e1 e2
      refine ⟨Nat.le_succ _, hr, fun hk => ?_⟩
      have hk : st.at_ + 1 < k := hk
      rw [← h.peek (by omega), if_neg hd, if_pos h0]
    · rw [if_neg h0] at h1
      have key : st2.at_ = st.at_ + (digsAt s st).length := by
        simp only at h1
        split at h1 <;> (injection h1 with e1 e2; subst e2; rfl)
      refine ⟨by omega, hr, fun hk => ?_⟩
      have hds : digsAt s' st = digsAt s st := h.drop _ _ (by unfold digsAt at key; omega)
      rw [← h.peek (by omega), if_neg hd, if_neg h0, hds]
      exact h1
  · unfold Go.Proofs.YtimioelnnhnbiaaDoor.numRest at h1 ⊢
    by_cases hd : (!Js.isDig (Js.peek s st)) = true
    · rw [if_pos hd] at h1
      injection h1 with e
      subst e
      exact ⟨Nat.le_refl _, id, fun hk => by rw [← h.peek hk, if_pos hd]⟩
    rw [if_neg hd] at h1
    by_cases h0 : Js.peek s st = 48
    · rw [if_pos h0] at h1; cases h1
    · rw [if_neg h0] at h1
      simp only at h1
      split at h1 <;> cases h1
theorem Good.congr {α : Type} {L : Nat} {f f' g g' : Js.St → Js.Res α} (h : Good k L f f') (h1 : ∀ st, g st = f st) (h2 : ∀ st, g' st = f' st) : Good k L g g' :=
  ⟨fun st a st' e => by rw [h1] at e; rw [h2]; exact h.ok _ _ _ e, fun st j e => by rw [h1] at e; rw [h2]; exact h.bad _ _ e⟩
theorem Shut.congr {α : Type} {f f' g g' : Js.St → Js.Res α} (h : Shut k f f') (h1 : ∀ st, g st = f st) (h2 : ∀ st, g' st = f' st) : Shut k g g' :=
  fun st a st' e => by rw [h1] at e; rw [h2]; exact h _ _ _ e
/-- One byte on, where there is one. -/
theorem Good.stepped {α : Type} {c : UInt8} (hc : c ≠ 0) {f f' : Js.St → Js.Res α} (h : Agree k s s') (hf : Good k s.length f f') : Good k s.length (fun st => if Js.peek s st = c then f (Js.step st) else .bad st.at_) (fun st => if Js.peek s' st = c then f' (Js.step st) else .bad st.at_) := by
  refine ⟨fun st b st2 h1 => ?_, fun st j h1 => ?_⟩
  · by_cases hp : Js.peek s st = c
    · simp only [if_pos hp] at h1
      obtain ⟨x1, x2, x3⟩ := hf.ok _ _ _ h1
      have x1 : st.at_ + 1 ≤ _ := x1
      refine ⟨by omega, fun hl => x2 (List.getElem?_eq_some_iff.1 (peek_some hp hc hl)).1, fun hk => ?_⟩
      (try simp only)
      rw [← h.peek (by omega), if_pos hp]
      exact x3 hk
    · simp only [if_neg hp] at h1; cases h1
  · by_cases hp : Js.peek s st = c
    · simp only [if_pos hp] at h1
      obtain ⟨x1, x2, x3⟩ := hf.bad _ _ h1
      have x1 : st.at_ + 1 ≤ _ := x1
      refine ⟨by omega, fun hl => x2 (List.getElem?_eq_some_iff.1 (peek_some hp hc hl)).1, fun hk => ?_⟩
      (try simp only)
      rw [← h.peek (by omega), if_pos hp]
      exact x3 hk
    · simp only [if_neg hp] at h1
      injection h1 with e
      subst e
      refine ⟨Nat.le_refl _, id, fun hk => ?_⟩
      (try simp only)
      rw [← h.peek hk, if_neg hp]
end
end Go.Proofs.YtimioelnnhnbiaaDoor
