/-
  The plain parser reads a value's text as the value. No program in sight.
-/
import Derived.Test.YtimioelnnhnbiaaDoorPrefQ
namespace Go.Proofs.YtimioelnnhnbiaaDoor
/-- Neither a blank nor a digit goes on here. -/
def Ends (q : Js.Bs) : Prop := ∀ c t, q = c :: t → Js.isBl c = false ∧ Js.isDig c = false
theorem ends_nil : Ends [] := fun _ _ h => by cases h
theorem ends_cons {c : UInt8} {t : Js.Bs} (h : Js.isBl c = false ∧ Js.isDig c = false) : Ends (c :: t) := fun c' t' e => by cases e; exact h
theorem at_cons {s : Js.Bs} {n : Nat} {c : UInt8} {t : Js.Bs} (h : s.drop n = c :: t) : s[n]? = some c ∧ s.drop (n + 1) = t := by
  constructor
  · have := congrArg List.head? h
    rwa [List.head?_drop] at this
  · have := congrArg List.tail h
    rwa [List.tail_drop] at this
theorem at_app {s a b : Js.Bs} {n : Nat} (h : s.drop n = a ++ b) : s.drop (n + a.length) = b := by
  rw [← List.drop_drop, h, List.drop_left]
theorem at_none {s : Js.Bs} {n : Nat} (h : s.drop n = []) : s[n]? = none := by
  have := congrArg List.head? h
  rwa [List.head?_drop] at this
theorem ends_at {s q : Js.Bs} {n : Nat} (h : s.drop n = q) (hq : Ends q) : ∀ c, s[n]? = some c → Js.isBl c = false ∧ Js.isDig c = false := by
  intro c hc
  cases q with
  | nil => rw [at_none h] at hc; cases hc
  | cons d t =>
    rw [(at_cons h).1] at hc
    injection hc with hc
    subst hc
    exact hq _ _ rfl
theorem stop_at {s q : Js.Bs} {st : Js.St} (h : s.drop st.at_ = q) (hq : Ends q) : Js.blanks s st = st := blanks_stop fun c hc => (ends_at h hq c hc).1
theorem stop_cons {s t : Js.Bs} {st : Js.St} {c : UInt8} (h : s.drop st.at_ = c :: t) (hc : Js.isBl c = false) : Js.blanks s st = st := blanks_stop fun d hd => by
  rw [(at_cons h).1] at hd
  injection hd with hd
  subst hd
  exact hc
/-- The reader, so many bytes on, so many values and bytes more. -/
def adv (st : Js.St) (a b c : Nat) : Js.St := { st with at_ := st.at_ + a, nodes := st.nodes + b, bytes := st.bytes + c }
theorem adv_adv (st : Js.St) (a b c a' b' c' : Nat) : adv (adv st a b c) a' b' c' = adv st (a + a') (b + b') (c + c') := by unfold adv; simp [Nat.add_assoc]
theorem step_adv (st : Js.St) : Js.step st = adv st 1 0 0 := rfl
theorem adv_of {st : Js.St} {a b c a' b' c' : Nat} (h1 : a = a') (h2 : b = b') (h3 : c = c') : adv st a b c = adv st a' b' c' := by rw [h1, h2, h3]
theorem bind_ne {α β : Type} {r : Js.Res α} {f : α → Js.St → Js.Res β} (h : r.bind f ≠ .out) : r ≠ .out := fun e => h (by rw [e]; rfl)
theorem word_back (s : Js.Bs) : ∀ (l : Js.Bs) (st : Js.St) (q : Js.Bs), s.drop st.at_ = l ++ q → Js.word s l st = .ok () (adv st l.length 0 0)
  | [], st, q, _ => rfl
  | c :: t, st, q, h => by
    obtain ⟨h1, h2⟩ := at_cons (c := c) (t := t ++ q) h
    rw [word_cons, take_hit h1, ok_bind, word_back s t (Js.step st) q h2, step_adv, adv_adv]
    exact congrArg _ (adv_of (by simp; omega) rfl rfl)
theorem pair_back {s : Js.Bs} {st : Js.St} {e d : UInt8} (h : s[st.at_]? = some e) (h1 : e ≠ 117) (h2 : Js.escV e = some d) : Js.pair s st = .ok d (Js.step st) := by
  unfold Js.pair
  rw [if_neg (by rw [h]; simpa using h1), h]
  simp only [Option.bind_some, h2]
theorem hexV_hexD : ∀ n : Fin 16, Js.hexV (Js.hexD n.val) = some n.val := by decide
theorem digit_back {s : Js.Bs} {st : Js.St} {n : Nat} (hn : n < 16) (h : s[st.at_]? = some (Js.hexD n)) : Js.digit s st = .ok n (Js.step st) := by
  unfold Js.digit
  rw [h]
  simp only [Option.bind_some, hexV_hexD ⟨n, hn⟩]
theorem textGo_back (s : Js.Bs) : ∀ (t : Js.Bs) (n : Nat) (acc : Js.Bs) (st : Js.St) (q : Js.Bs), s.drop st.at_ = t.flatMap Js.esc ++ 34 :: q → Js.textGo s n acc st ≠ .out →
    Js.textGo s n acc st = .ok (acc ++ t) (adv st ((t.flatMap Js.esc).length + 1) 0 0)
  | _, 0, _, _, _, _, hne => absurd rfl hne
  | [], n + 1, acc, st, q, h, _ => by
    rw [textGo_quote (at_cons (c := 34) (t := q) h).1, List.append_nil, step_adv]
    rfl
  | c :: t, n + 1, acc, st, q, h, hne => by
    have h : s.drop st.at_ = Js.esc c ++ (t.flatMap Js.esc ++ 34 :: q) := by rw [h, List.flatMap_cons, List.append_assoc]
    have fin : ∀ a, Js.esc c = a → ∀ k, a.length = k → ∀ st2, st2 = adv st k 0 0 → Js.textGo s n (acc ++ [c]) st2 ≠ .out → Js.textGo s n (acc ++ [c]) st2 = .ok (acc ++ c :: t) (adv st (((c :: t).flatMap Js.esc).length + 1) 0 0) := by
      intro a ha k hk st2 hst hne2
      subst hst hk ha
      rw [textGo_back s t n (acc ++ [c]) _ q (at_app h) hne2, adv_adv]
      rw [List.append_assoc, List.singleton_append, List.flatMap_cons, List.length_append]
      exact congrArg _ (adv_of (by omega) rfl rfl)
    by_cases h34 : c = 34 ∨ c = 92
    · have he : Js.esc c = [92, c] := by unfold Js.esc; rw [if_pos h34]
      have h' := h
      rw [he] at h'
      obtain ⟨h1, h2⟩ := at_cons (c := 92) (t := c :: (t.flatMap Js.esc ++ 34 :: q)) h'
      have h3 := (at_cons h2).1
      have hp : Js.pair s (Js.step st) = .ok c (Js.step (Js.step st)) := pair_back (st := Js.step st) h3 (by rcases h34 with e | e <;> rw [e] <;> decide) (by rcases h34 with e | e <;> rw [e] <;> rfl)
      rw [textGo_esc h1, hp, ok_bind] at hne ⊢
      exact fin _ he 2 rfl _ (by rw [step_adv, step_adv, adv_adv]) hne
    have esc2 : ∀ d : UInt8, Js.esc c = [92, d] → d ≠ 117 → Js.escV d = some c → Js.textGo s (n + 1) acc st = .ok (acc ++ c :: t) (adv st (((c :: t).flatMap Js.esc).length + 1) 0 0) := by
      intro d he hd hv
      have h' := h
      rw [he] at h'
      obtain ⟨h1, h2⟩ := at_cons (c := 92) (t := d :: (t.flatMap Js.esc ++ 34 :: q)) h'
      have h3 := (at_cons h2).1
      have hp : Js.pair s (Js.step st) = .ok c (Js.step (Js.step st)) := pair_back (st := Js.step st) h3 hd hv
      rw [textGo_esc h1, hp, ok_bind] at hne ⊢
      exact fin _ he 2 rfl _ (by rw [step_adv, step_adv, adv_adv]) hne
    by_cases h10 : c = 10
    · subst h10; exact esc2 110 rfl (by decide) rfl
    by_cases h13 : c = 13
    · subst h13; exact esc2 114 rfl (by decide) rfl
    by_cases h9 : c = 9
    · subst h9; exact esc2 116 rfl (by decide) rfl
    by_cases hp : 32 ≤ c.toNat ∧ c.toNat ≤ 126
    · have he : Js.esc c = [c] := by unfold Js.esc; rw [if_neg h34, if_neg h10, if_neg h13, if_neg h9, if_pos hp]
      have h' := h
      rw [he] at h'
      obtain ⟨h1, h2⟩ := at_cons (c := c) (t := t.flatMap Js.esc ++ 34 :: q) h'
      have e1 : c ≠ 34 := fun e => h34 (.inl e)
      have e3 : c ≠ 92 := fun e => h34 (.inr e)
      have e2 : ¬ (c.toNat < 32 ∨ 126 < c.toNat) := by omega
      rw [textGo_one h1 e1 e2 e3] at hne ⊢
      exact fin _ he 1 rfl _ (step_adv st) hne
    · have he : Js.esc c = [92, 117, 48, 48, Js.hexD (c.toNat / 16), Js.hexD (c.toNat % 16)] := by unfold Js.esc; rw [if_neg h34, if_neg h10, if_neg h13, if_neg h9, if_neg hp]
      have h' := h
      rw [he] at h'
      have hc := c.toNat_lt
      obtain ⟨h1, h2⟩ := at_cons (c := 92) (t := 117 :: 48 :: 48 :: Js.hexD (c.toNat / 16) :: Js.hexD (c.toNat % 16) :: (t.flatMap Js.esc ++ 34 :: q)) h'
      have h3 := (at_cons h2).1
      have hw := word_back s [117, 48, 48] (Js.step st) (Js.hexD (c.toNat / 16) :: Js.hexD (c.toNat % 16) :: (t.flatMap Js.esc ++ 34 :: q)) h2
      have h4 := at_app (a := [117, 48, 48]) (b := Js.hexD (c.toNat / 16) :: Js.hexD (c.toNat % 16) :: (t.flatMap Js.esc ++ 34 :: q)) (n := st.at_ + 1) h2
      obtain ⟨h5, h6⟩ := at_cons h4
      obtain ⟨h7, h8⟩ := at_cons h6
      have hd1 := digit_back (s := s) (st := adv (Js.step st) [117, 48, 48].length 0 0) (n := c.toNat / 16) (by omega) h5
      have hd2 := digit_back (s := s) (st := Js.step (adv (Js.step st) [117, 48, 48].length 0 0)) (n := c.toNat % 16) (by omega) h7
      have hp : Js.pair s (Js.step st) = .ok c (adv st 6 0 0) := by
        unfold Js.pair
        rw [if_pos (show s[(Js.step st).at_]? = some 117 from h3), hw, ok_bind, hd1, ok_bind, hd2, ok_bind]
        have e1 : UInt8.ofNat (16 * (c.toNat / 16) + c.toNat % 16) = c := by rw [Nat.div_add_mod]; exact UInt8.ofNat_toNat
        rw [e1]
        rfl
      rw [textGo_esc h1, hp, ok_bind] at hne ⊢
      exact fin _ he 6 rfl _ rfl hne
theorem quote_at {s t q : Js.Bs} {n : Nat} (h : s.drop n = Js.quote t ++ q) : s.drop n = 34 :: (t.flatMap Js.esc ++ 34 :: q) := by
  rw [h]; unfold Js.quote; simp
theorem text_back {s t q : Js.Bs} {st : Js.St} (h : s.drop st.at_ = Js.quote t ++ q) (hl : st.large = false) (hb : st.bytes + t.length ≤ 32768) : Js.text s st = .ok t (adv st (Js.quote t).length 0 t.length) := by
  obtain ⟨h1, h2⟩ := at_cons (quote_at h)
  have ht := take_hit h1
  have hne := textGo_out s (s.length + 1) [] (Js.step st) (take_le ht) (by omega)
  unfold Js.text
  rw [ht, ok_bind, textGo_back s t _ [] (Js.step st) q h2 hne, ok_bind]
  have e1 : (Js.quote t).length = 1 + ((t.flatMap Js.esc).length + 1) := by unfold Js.quote; simp; omega
  have e2 : (adv (Js.step st) ((t.flatMap Js.esc).length + 1) 0 0).large = false := hl
  have e3 : decide (32768 < (adv (Js.step st) ((t.flatMap Js.esc).length + 1) 0 0).bytes + ([] ++ t).length) = false := by
    show decide (32768 < st.bytes + 0 + 0 + ([] ++ t).length) = false
    simp only [List.nil_append, decide_eq_false_iff_not]; omega
  rw [e1, e2, e3, step_adv, adv_adv]
  show Js.Res.ok t _ = Js.Res.ok t _
  congr 1
  unfold adv
  simp only [Js.St.mk.injEq, Bool.or_self, List.nil_append]
  exact ⟨trivial, trivial, trivial, by omega, hl.symm⟩
theorem dig_dec : ∀ d : Fin 10, Js.isDig (UInt8.ofNat (48 + d.val)) = true ∧ (UInt8.ofNat (48 + d.val)).toNat = 48 + d.val := by decide
theorem dec_dig : ∀ (u : Nat), ∀ c ∈ Lib.decDigits u, Js.isDig c = true := by
  intro u
  induction u using Nat.strongRecOn with
  | ind u ih =>
    intro c hc
    rw [Lib.decDigits] at hc
    split at hc
    · rename_i h
      simp only [List.mem_singleton] at hc
      rw [hc]; exact (dig_dec ⟨u, h⟩).1
    · rename_i h
      rcases List.mem_append.1 hc with hc | hc
      · exact ih (u / 10) (by omega) c hc
      · simp only [List.mem_singleton] at hc
        rw [hc]; exact (dig_dec ⟨u % 10, by omega⟩).1
theorem dec_head : ∀ (u : Nat), u ≠ 0 → ∃ c t, Lib.decDigits u = c :: t ∧ c ≠ 48 := by
  intro u
  induction u using Nat.strongRecOn with
  | ind u ih =>
    intro hu
    rw [Lib.decDigits]
    split
    · rename_i h
      refine ⟨_, _, rfl, fun e => ?_⟩
      have := (dig_dec ⟨u, h⟩).2
      simp only at this
      rw [e] at this
      have e2 : (48 : UInt8).toNat = 48 := rfl
      omega
    · rename_i h
      obtain ⟨c, t, h1, h2⟩ := ih (u / 10) (by omega) (by omega)
      exact ⟨c, t ++ [UInt8.ofNat (48 + u % 10)], by rw [h1]; rfl, h2⟩
theorem dec_ne (u : Nat) : Lib.decDigits u ≠ [] := by
  rw [Lib.decDigits]
  split <;> simp
theorem dec_fold (L : Bool) : ∀ (u : Nat), u ≤ 9223372036854775808 → (Lib.decDigits u).foldl Js.digStep (0, L) = (-(u : Int), L) := by
  intro u
  induction u using Nat.strongRecOn with
  | ind u ih =>
    intro hu
    have key : ∀ (a d : Nat), d < 10 → 10 * a + d ≤ 9223372036854775808 → Js.digStep (-(a : Int), L) (UInt8.ofNat (48 + d)) = (-((10 * a + d : Nat) : Int), L) := by
      intro a d hd hle
      have e1 : ((UInt8.ofNat (48 + d)).toNat : Int) - 48 = d := by
        have := (dig_dec ⟨d, hd⟩).2
        simp only at this
        rw [this]; omega
      have e2 : Int.tdiv (-9223372036854775808 + (d : Int)) 10 = -((9223372036854775808 - (d : Int)) / 10) := by
        rw [show -9223372036854775808 + (d : Int) = -(9223372036854775808 - (d : Int)) by omega, Int.neg_tdiv, Int.tdiv_eq_ediv_of_nonneg (by omega)]
      unfold Js.digStep
      simp only [e1, e2]
      rw [if_neg (by omega)]
      congr 1
      omega
    rw [Lib.decDigits]
    split
    · rename_i h
      have := key 0 u h (by omega)
      simpa using this
    · rename_i h
      rw [List.foldl_append, ih (u / 10) (by omega) (by omega)]
      have := key (u / 10) (u % 10) (by omega) (by omega)
      rw [List.foldl_cons, List.foldl_nil, this]
      congr 1
      omega
theorem takeWhile_all {p : UInt8 → Bool} : ∀ (l q : Js.Bs), (∀ c ∈ l, p c = true) → (∀ c t, q = c :: t → p c = false) → (l ++ q).takeWhile p = l
  | [], q, _, h => by
    cases q with
    | nil => rfl
    | cons c t => rw [List.nil_append, List.takeWhile_cons_of_neg (by rw [h c t rfl]; simp)]
  | c :: t, q, hl, h => by
    rw [List.cons_append, List.takeWhile_cons_of_pos (hl c (by simp)), takeWhile_all t q (fun d hd => hl d (by simp [hd])) h]
theorem numRest_back {s q : Js.Bs} {st : Js.St} {u : Nat} (b : Bool) (h : s.drop st.at_ = Lib.decDigits u ++ q) (hq : Ends q) (hu : u ≤ 9223372036854775808) (hb : b = false → u ≤ 9223372036854775807) :
    numRest s b st = .ok (if b then -(u : Int) else (u : Int)) (adv st (Lib.decDigits u).length 0 0) := by
  have hds : digsAt s st = Lib.decDigits u := by unfold digsAt; rw [h]; exact takeWhile_all _ _ (dec_dig u) fun c t e => (hq c t e).2
  obtain ⟨c, t, hc⟩ : ∃ c t, Lib.decDigits u = c :: t := by
    cases hd : Lib.decDigits u with
    | nil => exact absurd hd (dec_ne u)
    | cons c t => exact ⟨c, t, rfl⟩
  have hp : Js.peek s st = c := peek_of (at_cons (c := c) (t := t ++ q) (by rw [h, hc]; rfl)).1
  have hd : Js.isDig c = true := dec_dig u c (by rw [hc]; simp)
  unfold numRest
  rw [hp, hd]
  rw [if_neg (by simp)]
  by_cases h0 : u = 0
  · subst h0
    have hz : Lib.decDigits 0 = [48] := by rw [Lib.decDigits]; rfl
    rw [hz] at hc ⊢
    injection hc with hc _
    rw [if_pos hc.symm, step_adv]
    cases b <;> rfl
  · obtain ⟨c', t', h1, h2⟩ := dec_head u h0
    rw [hc] at h1
    injection h1 with h1 _
    rw [if_neg (by rw [h1]; exact h2), hds, dec_fold _ u hu]
    cases b with
    | true => rfl
    | false =>
      have := hb rfl
      simp only [Bool.false_eq_true, if_false]
      rw [if_neg (by omega), decide_eq_false (by omega), Bool.or_false, Int.neg_neg]
      rfl
theorem itoa_neg {n : Int} (h : n < 0) : Lib.itoa n = 45 :: Lib.decDigits n.natAbs := by unfold Lib.itoa; rw [if_pos h]
theorem itoa_pos {n : Int} (h : ¬ n < 0) : Lib.itoa n = Lib.decDigits n.toNat := by unfold Lib.itoa; rw [if_neg h]
theorem number_back {s q : Js.Bs} {st : Js.St} {n : Int} (h : s.drop st.at_ = Lib.itoa n ++ q) (hq : Ends q) (h1 : -9223372036854775808 ≤ n) (h2 : n ≤ 9223372036854775807) :
    Js.number s st = .ok n (adv st (Lib.itoa n).length 0 0) := by
  rw [number_eq]
  by_cases hn : n < 0
  · rw [itoa_neg hn] at h ⊢
    obtain ⟨a1, a2⟩ := at_cons (c := 45) (t := Lib.decDigits n.natAbs ++ q) h
    rw [peek_of a1, if_pos rfl, decide_eq_true rfl, numRest_back (st := Js.step st) true a2 hq (by omega) (fun e => by cases e), step_adv, adv_adv]
    have e : (if true = true then -((n.natAbs : Nat) : Int) else (n.natAbs : Int)) = n := by rw [if_pos rfl]; omega
    rw [e]
    exact congrArg _ (adv_of (by rw [List.length_cons]; omega) rfl rfl)
  · rw [itoa_pos hn] at h ⊢
    have hne : Js.peek s st ≠ 45 := by
      obtain ⟨c, t, hc⟩ : ∃ c t, Lib.decDigits n.toNat = c :: t := by
        cases hd : Lib.decDigits n.toNat with
        | nil => exact absurd hd (dec_ne _)
        | cons c t => exact ⟨c, t, rfl⟩
      have hp : Js.peek s st = c := peek_of (at_cons (c := c) (t := t ++ q) (by rw [h, hc]; rfl)).1
      have hd : Js.isDig c = true := dec_dig n.toNat c (by rw [hc]; simp)
      rw [hp]
      intro e
      rw [e] at hd
      exact absurd hd (by decide)
    rw [if_neg hne, decide_eq_false hne, numRest_back (st := st) false h hq (by omega) (fun _ => by omega)]
    have e : (if false = true then -((n.toNat : Nat) : Int) else (n.toNat : Int)) = n := by rw [if_neg (by decide)]; omega
    rw [e]
end Go.Proofs.YtimioelnnhnbiaaDoor
