/-
  THE PLAIN LAW OF ScriptBack, first part: numbers, tokens, texts, there and back. No program in sight.
-/
import Derived.Test.YthpojljfmipngaaGreatDoorPure3
import Derived.Lib.AtoiAllCases
import Derived.Lib.ItoaMem
namespace Go.Proofs.YthpojljfmipngaaGreatDoor
namespace Sc
theorem u8_nat {n : Nat} (h : n < 256) : (UInt8.ofNat n).toNat = n := by
  rw [UInt8.toNat_ofNat']; exact Nat.mod_eq_of_lt h
theorem dec_digit (u : Nat) : ∀ c ∈ Lib.decDigits u, 48 ≤ c.toNat ∧ c.toNat ≤ 57 := by
  induction u using Nat.strongRecOn with
  | ind u ih =>
    intro c hc
    rw [Lib.decDigits] at hc
    split at hc
    · rename_i h
      rw [List.mem_singleton] at hc; subst hc
      rw [u8_nat (by omega)]; omega
    · rename_i h
      rw [List.mem_append] at hc
      rcases hc with hc | hc
      · exact ih _ (by omega) c hc
      · rw [List.mem_singleton] at hc; subst hc
        rw [u8_nat (by omega)]; omega
theorem dec_ne (u : Nat) : Lib.decDigits u ≠ [] := by
  rw [Lib.decDigits]
  split <;> simp
theorem parse_dec (u : Nat) (hu : u < 1000000000000000000) (r : List UInt8) : Lib.parseUint10 0 (Lib.decDigits u ++ r) = Lib.parseUint10 u r := by
  induction u using Nat.strongRecOn generalizing r with
  | ind u ih =>
    rw [Lib.decDigits]
    split
    · rename_i h
      rw [List.singleton_append, Lib.parseUint10, u8_nat (by omega), if_pos (by omega), if_neg (by omega), if_neg (by omega)]
      congr 1; omega
    · rename_i h
      rw [List.append_assoc, ih (u / 10) (by omega) (by omega), List.singleton_append, Lib.parseUint10, u8_nat (by omega), if_pos (by omega), if_neg (by omega), if_neg (by omega)]
      congr 1; omega
theorem mag_dec (u : Nat) (hu : u < 1000000000000000000) : Lib.parseMag (Lib.decDigits u) = .ok u := by
  unfold Lib.parseMag
  rw [if_neg (dec_ne u)]
  have := parse_dec u hu []
  rw [List.append_nil] at this
  rw [this]; rfl
theorem itoa_char (v : Int) : ∀ c ∈ Lib.itoa v, c.toNat = 45 ∨ (48 ≤ c.toNat ∧ c.toNat ≤ 57) := by
  intro c hc
  unfold Lib.itoa at hc
  split at hc
  · rcases List.mem_cons.1 hc with rfl | h
    · exact .inl rfl
    · exact .inr (dec_digit _ c h)
  · exact .inr (dec_digit _ c hc)
theorem itoa_ne (v : Int) : Lib.itoa v ≠ [] := by
  unfold Lib.itoa
  split
  · simp
  · exact dec_ne _
theorem atoi_itoa (v : Int) (h1 : -1000000000000000000 < v) (h2 : v < 1000000000000000000) : Lib.atoiAll (Lib.itoa v) = .ok v := by
  by_cases h : v < 0
  · have e : Lib.itoa v = 45 :: Lib.decDigits v.natAbs := by unfold Lib.itoa; rw [if_pos h]
    rw [e, Lib.atoiAll_minus, mag_dec _ (by omega)]
    unfold Lib.signed
    simp only
    rw [if_neg (by omega)]
    congr 1; omega
  · have e : Lib.itoa v = Lib.decDigits v.toNat := by unfold Lib.itoa; rw [if_neg h]
    rw [e]
    cases hd : Lib.decDigits v.toNat with
    | nil => exact absurd hd (dec_ne _)
    | cons c r =>
      have hc := dec_digit v.toNat c (by rw [hd]; simp)
      rw [Lib.atoiAll_plain c r (by omega) (by omega), ← hd, mag_dec _ (by omega)]
      unfold Lib.signless
      simp only
      rw [if_neg (by omega)]
      congr 1; omega
theorem numOf_itoa (v : Int) (h : wideN v = false) : numOf (Lib.itoa v) = (v, false) := by
  unfold wideN at h
  rw [Bool.or_eq_false_iff, decide_eq_false_iff_not, decide_eq_false_iff_not] at h
  unfold numOf
  rw [atoi_itoa v (by omega) (by omega)]
  simp only
  rw [decide_eq_false (by simp), decide_eq_false (by omega), decide_eq_false (by omega)]
  rfl
theorem numOf_ok (s : Bs) (h : (numOf s).2 = false) : s = Lib.itoa (numOf s).1 ∧ wideN (numOf s).1 = false := by
  unfold numOf at h ⊢
  cases ha : Lib.atoiAll s with
  | ok v =>
    rw [ha] at h
    simp only [Bool.or_eq_false_iff, decide_eq_false_iff_not, ne_eq, Decidable.not_not] at h
    refine ⟨h.1, ?_⟩
    unfold wideN
    rw [Bool.or_eq_false_iff, decide_eq_false_iff_not, decide_eq_false_iff_not]
    exact ⟨h.2.2, h.2.1⟩
  | _ => rw [ha] at h; cases h
/-! ### tokens -/
theorem upto_word (c : UInt8) (w m : Bs) (hw : ∀ x ∈ w, x ≠ c) : upto c (w ++ c :: m) = (w, m, true) := by
  induction w with
  | nil => simp [upto]
  | cons x t ih =>
    rw [List.cons_append, upto, if_neg (hw x (by simp)), ih (fun y hy => hw y (by simp [hy]))]
theorem upto_alone (c : UInt8) (w : Bs) (hw : ∀ x ∈ w, x ≠ c) : upto c w = (w, [], false) := by
  induction w with
  | nil => rfl
  | cons x t ih => rw [upto, if_neg (hw x (by simp)), ih (fun y hy => hw y (by simp [hy]))]
theorem upto_none (c : UInt8) : ∀ l : Bs, (upto c l).2.2 = false → (upto c l).1 = l ∧ (upto c l).2.1 = []
  | [], _ => ⟨rfl, rfl⟩
  | x :: t, h => by
    have ih := upto_none c t
    rw [upto] at h ⊢
    split
    · rename_i e; rw [if_pos e] at h; cases h
    · rename_i e
      rw [if_neg e] at h
      obtain ⟨h1, h2⟩ := ih h
      exact ⟨by rw [h1], h2⟩
theorem upto_free (c : UInt8) : ∀ l : Bs, ∀ x ∈ (upto c l).1, x ≠ c
  | [], x, h => by simp [upto] at h
  | y :: t, x, h => by
    rw [upto] at h
    split at h
    · simp at h
    · rename_i e
      rcases List.mem_cons.1 h with rfl | h
      · exact e
      · exact upto_free c t x h
/-- What stands behind a token: nothing, or a blank and the rest. -/
def tl (t : Bs) : Bs := if t = [] then [] else 32 :: t
theorem tl_nil : tl [] = [] := rfl
theorem tl_ne {t : Bs} (h : t ≠ []) : tl t = 32 :: t := if_neg h
theorem token_word (w t : Bs) (b : Bool) (hw : ∀ x ∈ w, x ≠ 32) : token ⟨w ++ tl t, b⟩ = (w, ⟨t, b⟩) := by
  unfold token
  by_cases h : t = []
  · subst h
    rw [tl_nil, List.append_nil, upto_alone 32 w hw]
    simp
  · rw [tl_ne h, upto_word 32 w t hw]
    simp [h]
theorem token_inv (r : Rd) (h : (token r).2.bad = false) : r.bad = false ∧ r.rest = (token r).1 ++ tl (token r).2.rest ∧ ∀ x ∈ (token r).1, x ≠ 32 := by
  unfold token at h ⊢
  simp only [Bool.or_eq_false_iff] at h
  refine ⟨h.1, ?_, upto_free 32 r.rest⟩
  cases hm : (upto 32 r.rest).2.2 with
  | false =>
    obtain ⟨h1, h2⟩ := upto_none 32 r.rest hm
    simp only
    rw [h2, tl_nil, List.append_nil, h1]
  | true =>
    rw [hm] at h
    have hne : (upto 32 r.rest).2.1 ≠ [] := by
      intro e; rw [e] at h; simp at h
    simp only
    rw [tl_ne hne]
    exact upto_split 32 r.rest hm
/-! ### rows of numbers -/
theorem numsRd_cons (k : Nat) (r : Rd) : numsRd (k + 1) r = ((numOf (token r).1).1 :: (numsRd k ⟨(token r).2.rest, (token r).2.bad || (numOf (token r).1).2⟩).1, (numsRd k ⟨(token r).2.rest, (token r).2.bad || (numOf (token r).1).2⟩).2) := by
  induction k with
  | zero => rfl
  | succ k ih =>
    show ((numsRd (k + 1) r).1 ++ [(numOf (token (numsRd (k + 1) r).2).1).1], (⟨(token (numsRd (k + 1) r).2).2.rest, (token (numsRd (k + 1) r).2).2.bad || (numOf (token (numsRd (k + 1) r).2).1).2⟩ : Rd)) = _
    rw [ih]
    rfl
theorem itoa_blank (v : Int) : ∀ x ∈ Lib.itoa v, x ≠ 32 := by
  intro x hx e
  subst e
  have := itoa_char v _ hx
  have e : (32 : UInt8).toNat = 32 := rfl
  omega
theorem numsText_cons (v : Int) (vs : List Int) : numsText (v :: vs) = 32 :: (Lib.itoa v ++ numsText vs) := rfl
theorem numsText_app (vs : List Int) (v : Int) : numsText (vs ++ [v]) = numsText vs ++ 32 :: Lib.itoa v := by unfold numsText; rw [List.flatMap_append]; simp
/-- A rest that begins as the numbers say. -/
theorem nums_tl (vs : List Int) (t : Bs) : ∃ m, numsText vs ++ tl t = tl m ∧ (vs = [] → m = t) := by
  cases vs with
  | nil => exact ⟨t, rfl, fun _ => rfl⟩
  | cons v vs =>
    refine ⟨Lib.itoa v ++ numsText vs ++ tl t, ?_, fun h => by cases h⟩
    rw [show tl (Lib.itoa v ++ numsText vs ++ tl t) = 32 :: (Lib.itoa v ++ numsText vs ++ tl t) from tl_ne (by simp [itoa_ne v]), numsText_cons]
    simp
theorem tl_inj {a b : Bs} (h : tl a = tl b) : a = b := by
  unfold tl at h
  split at h <;> split at h
  · rename_i h1 h2; rw [h1, h2]
  · cases h
  · cases h
  · injection h
theorem numsRd_print (vs : List Int) : ∀ (m t : Bs), (∀ v ∈ vs, wideN v = false) → tl m = numsText vs ++ tl t → numsRd vs.length ⟨m, false⟩ = (vs, ⟨t, false⟩) := by
  induction vs with
  | nil => intro m t _ h; rw [tl_inj h]; rfl
  | cons v vs ih =>
    intro m t hv h
    obtain ⟨m', hm', _⟩ := nums_tl vs t
    have e : m = Lib.itoa v ++ tl m' := by
      rw [numsText_cons, List.cons_append, List.append_assoc, hm'] at h
      unfold tl at h
      split at h
      · cases h
      · injection h
    rw [List.length_cons, numsRd_cons, e, token_word _ _ _ (itoa_blank v)]
    simp only
    rw [numOf_itoa v (hv v (by simp))]
    simp only [Bool.or_false]
    rw [ih m' t (fun x hx => hv x (by simp [hx])) hm'.symm]
theorem nums_inv (k : Nat) (r : Rd) (h : (numsRd k r).2.bad = false) : r.bad = false ∧ tl r.rest = numsText (numsRd k r).1 ++ tl (numsRd k r).2.rest ∧ ∀ v ∈ (numsRd k r).1, wideN v = false := by
  induction k with
  | zero => exact ⟨h, rfl, fun v hv => by simp [numsRd] at hv⟩
  | succ k ih =>
    have h' : ((token (numsRd k r).2).2.bad || (numOf (token (numsRd k r).2).1).2) = false := h
    rw [Bool.or_eq_false_iff] at h'
    obtain ⟨hb, hr, _⟩ := token_inv _ h'.1
    obtain ⟨hn, hw⟩ := numOf_ok _ h'.2
    obtain ⟨i1, i2, i3⟩ := ih hb
    refine ⟨i1, ?_, ?_⟩
    · show tl r.rest = numsText ((numsRd k r).1 ++ [(numOf (token (numsRd k r).2).1).1]) ++ tl (token (numsRd k r).2).2.rest
      rw [numsText_app, ← hn, i2, List.append_assoc]
      congr 1
      rw [List.cons_append, ← hr, tl_ne]
      rw [hr, hn]
      have := itoa_ne (numOf (token (numsRd k r).2).1).1
      simp [this]
    · intro v hv
      have hv' : v ∈ (numsRd k r).1 ++ [(numOf (token (numsRd k r).2).1).1] := hv
      rcases List.mem_append.1 hv' with h | h
      · exact i3 v h
      · rw [List.mem_singleton] at h; rw [h]; exact hw
/-! ### texts -/
theorem hex_there : ∀ n : Fin 256, hexOf [hexd (n.val / 16), hexd (n.val % 16)] = some (UInt8.ofNat n.val) := by decide +kernel
theorem hexOf_more (a b : UInt8) (t : Bs) : hexOf (a :: b :: t) = hexOf [a, b] := rfl
theorem hv_lt : ∀ n : Fin 256, ∀ m, hv (UInt8.ofNat n.val) = some m → m < 16 ∧ hexd m = UInt8.ofNat n.val := by
  have h : ∀ n : Fin 256, (match hv (UInt8.ofNat n.val) with | some m => decide (m < 16) && decide (hexd m = UInt8.ofNat n.val) | none => true) = true := by decide +kernel
  intro n m hm
  have := h n
  rw [hm] at this
  simpa using this
theorem hv_back (c : UInt8) (m : Nat) (h : hv c = some m) : m < 16 ∧ hexd m = c := by
  have e : UInt8.ofNat c.toNat = c := by simp
  have := hv_lt ⟨c.toNat, c.toNat_lt⟩ m (by simp only [e]; exact h)
  simpa only [e] using this
theorem hexOf_back (t : Bs) (x : UInt8) (h : hexOf t = some x) : ∃ a b u, t = a :: b :: u ∧ hexd (x.toNat / 16) = a ∧ hexd (x.toNat % 16) = b := by
  match t, h with
  | a :: b :: u, h =>
    have e0 : hexOf (a :: b :: u) = match hv a, hv b with | some m, some n => some (UInt8.ofNat (16 * m + n)) | _, _ => none := rfl
    rw [e0] at h
    cases ha : hv a with
    | none => rw [ha] at h; cases h
    | some m =>
      cases hb : hv b with
      | none => rw [ha, hb] at h; cases h
      | some n =>
        rw [ha, hb] at h
        simp only [Option.some.injEq] at h
        obtain ⟨m1, m2⟩ := hv_back a m ha
        obtain ⟨n1, n2⟩ := hv_back b n hb
        refine ⟨a, b, u, rfl, ?_, ?_⟩
        · rw [← h, u8_nat (by omega), show (16 * m + n) / 16 = m by omega]; exact m2
        · rw [← h, u8_nat (by omega), show (16 * m + n) % 16 = n by omega]; exact n2
theorem hex_there' (c : UInt8) (t : Bs) : hexOf (hexd (c.toNat / 16) :: hexd (c.toNat % 16) :: t) = some c := by
  rw [hexOf_more, hex_there ⟨c.toNat, c.toNat_lt⟩]; simp
theorem needs_of {c : UInt8} (h10 : c.toNat ≠ 10) (h13 : c.toNat ≠ 13) (h : c.toNat < 32 ∨ 126 < c.toNat) : needs c = true := by
  unfold needs
  simp [h10, h13]; omega
theorem textGo_print (rest : Bs) : ∀ (s out : Bs), textGo (s.flatMap esc ++ 34 :: rest) out = (out ++ s, ⟨rest, !rest.isEmpty⟩) := by
  intro s
  induction s with
  | nil => intro out; rw [List.flatMap_nil, List.nil_append, textGo, if_pos (show (34 : UInt8).toNat = 34 from rfl), List.append_nil]
  | cons c s ih =>
    intro out
    rw [List.flatMap_cons, List.append_assoc]
    have done : textGo (s.flatMap esc ++ 34 :: rest) (out ++ [c]) = (out ++ c :: s, ⟨rest, !rest.isEmpty⟩) := by
      rw [ih, List.append_assoc]; rfl
    generalize s.flatMap esc ++ 34 :: rest = X at done ⊢
    have n92 : (92 : UInt8).toNat = 92 := rfl
    by_cases h1 : c.toNat = 34 ∨ c.toNat = 92
    · have e : escaped ⟨c :: X, false⟩ = (c, ⟨X, false⟩) := by unfold escaped; simp only; rw [if_pos h1]
      rw [show esc c = [92, c] by unfold esc; rw [if_pos h1]]
      rw [List.cons_append, List.singleton_append, textGo, if_neg (by omega), if_pos n92, e]
      simpa using done
    by_cases h2 : c.toNat = 10
    · have hc : c = 10 := UInt8.toNat_inj.1 h2
      have e : escaped ⟨110 :: X, false⟩ = (c, ⟨X, false⟩) := by rw [hc]; rfl
      rw [show esc c = [92, 110] by unfold esc; rw [if_neg h1, if_pos h2]]
      rw [List.cons_append, List.singleton_append, textGo, if_neg (by omega), if_pos n92, e]
      simpa using done
    by_cases h3 : c.toNat = 13
    · have hc : c = 13 := UInt8.toNat_inj.1 h3
      have e : escaped ⟨114 :: X, false⟩ = (c, ⟨X, false⟩) := by rw [hc]; rfl
      rw [show esc c = [92, 114] by unfold esc; rw [if_neg h1, if_neg h2, if_pos h3]]
      rw [List.cons_append, List.singleton_append, textGo, if_neg (by omega), if_pos n92, e]
      simpa using done
    by_cases h4 : c.toNat < 32 ∨ 126 < c.toNat
    · have e : escaped ⟨120 :: hexd (c.toNat / 16) :: hexd (c.toNat % 16) :: X, false⟩ = (c, ⟨X, false⟩) := by
        unfold escaped
        simp only
        rw [if_neg (by decide), if_neg (by decide), if_neg (by decide), if_pos (by decide), hex_there']
        simp only
        rw [if_pos (needs_of h2 h3 h4)]
        rfl
      rw [show esc c = [92, 120, hexd (c.toNat / 16), hexd (c.toNat % 16)] by unfold esc; rw [if_neg h1, if_neg h2, if_neg h3, if_pos h4]]
      rw [List.cons_append, List.cons_append, List.cons_append, List.singleton_append, textGo, if_neg (by omega), if_pos n92, e]
      simpa using done
    · rw [show esc c = [c] by unfold esc; rw [if_neg h1, if_neg h2, if_neg h3, if_neg h4]]
      rw [List.singleton_append, textGo, if_neg (by omega), if_neg (by omega), if_neg h4]
      exact done
theorem text_print (s rest : Bs) : text ⟨34 :: (s.flatMap esc ++ 34 :: rest), false⟩ = (s, ⟨rest, !rest.isEmpty⟩) := by
  have h1 : Lib.hasPrefix (34 :: (s.flatMap esc ++ 34 :: rest)) [34] = true := by unfold Lib.hasPrefix; simp
  have h2 : Lib.trimPrefix (34 :: (s.flatMap esc ++ 34 :: rest)) [34] = s.flatMap esc ++ 34 :: rest := by unfold Lib.trimPrefix; rw [if_pos h1]; rfl
  unfold text
  simp only
  rw [if_pos ⟨trivial, h1⟩, h2, textGo_print]
  rfl
theorem esc_inv (t : Bs) (h : (escaped ⟨t, false⟩).2.bad = false) : 92 :: t = esc (escaped ⟨t, false⟩).1 ++ (escaped ⟨t, false⟩).2.rest := by
  unfold escaped at h ⊢
  cases t with
  | nil => cases h
  | cons c t =>
    simp only at h ⊢
    by_cases h1 : c.toNat = 34 ∨ c.toNat = 92
    · rw [if_pos h1]
      rw [show esc c = [92, c] by unfold esc; rw [if_pos h1]]
      rfl
    rw [if_neg h1] at h ⊢
    by_cases h2 : c.toNat = 110
    · rw [if_pos h2]
      have hc : c = 110 := UInt8.toNat_inj.1 h2
      rw [hc]; rfl
    rw [if_neg h2] at h ⊢
    by_cases h3 : c.toNat = 114
    · rw [if_pos h3]
      have hc : c = 114 := UInt8.toNat_inj.1 h3
      rw [hc]; rfl
    rw [if_neg h3] at h ⊢
    by_cases h4 : c.toNat = 120
    · rw [if_pos h4] at h ⊢
      have hc : c = 120 := UInt8.toNat_inj.1 h4
      cases hx : hexOf t with
      | none => rw [hx] at h; cases h
      | some x =>
        rw [hx] at h
        simp only at h ⊢
        by_cases hn : needs x = true
        · rw [if_pos hn]
          obtain ⟨a, b, u, rfl, ha, hb⟩ := hexOf_back t x hx
          unfold needs at hn
          simp at hn
          rw [show esc x = [92, 120, hexd (x.toNat / 16), hexd (x.toNat % 16)] by
            unfold esc; rw [if_neg (by omega), if_neg (by omega), if_neg (by omega), if_pos (by omega)]]
          rw [ha, hb, hc]; rfl
        · rw [if_neg hn] at h; cases h
    · rw [if_neg h4] at h; cases h
theorem textGo_inv (rest out : Bs) (h : (textGo rest out).2.bad = false) : ∃ s, (textGo rest out).1 = out ++ s ∧ rest = s.flatMap esc ++ [34] ∧ (textGo rest out).2.rest = [] := by
  induction rest, out using textGo.induct with
  | case1 out => rw [textGo] at h; cases h
  | case2 out c t hc =>
    rw [textGo, if_pos hc] at h ⊢
    have ht : t = [] := by cases t with
      | nil => rfl
      | cons a b => simp at h
    have : c = 34 := UInt8.toNat_inj.1 hc
    exact ⟨[], by simp, by rw [ht, this]; rfl, ht⟩
  | case3 out c t h1 h2 hb =>
    rw [textGo, if_neg h1, if_pos h2, if_pos hb] at h
    rw [hb] at h; cases h
  | case4 out c t h1 h2 hb ih =>
    have e : textGo (c :: t) out = textGo (escaped ⟨t, false⟩).2.rest (out ++ [(escaped ⟨t, false⟩).1]) := by rw [textGo, if_neg h1, if_pos h2, if_neg hb]
    rw [e] at h ⊢
    obtain ⟨s, i1, i2, i3⟩ := ih h
    refine ⟨(escaped ⟨t, false⟩).1 :: s, by rw [i1]; simp, ?_, i3⟩
    have hc : c = 92 := UInt8.toNat_inj.1 h2
    rw [hc, esc_inv t (by simpa using hb), List.flatMap_cons, List.append_assoc, ← i2]
  | case5 out c t h1 h2 h3 =>
    rw [textGo, if_neg h1, if_neg h2, if_pos h3] at h; cases h
  | case6 out c t h1 h2 h3 ih =>
    have e : textGo (c :: t) out = textGo t (out ++ [c]) := by rw [textGo, if_neg h1, if_neg h2, if_neg h3]
    rw [e] at h ⊢
    obtain ⟨s, i1, i2, i3⟩ := ih h
    refine ⟨c :: s, by rw [i1]; simp, ?_, i3⟩
    rw [List.flatMap_cons, show esc c = [c] by unfold esc; rw [if_neg (by omega), if_neg (by omega), if_neg (by omega), if_neg h3], List.append_assoc, ← i2]
    rfl
theorem text_inv (r : Rd) (h : (text r).2.bad = false) : r.bad = false ∧ r.rest = 34 :: ((text r).1.flatMap esc ++ [34]) ∧ (text r).2.rest = [] := by
  unfold text at h ⊢
  by_cases hp : r.bad = false ∧ Lib.hasPrefix r.rest [34] = true
  · rw [if_pos hp] at h ⊢
    obtain ⟨s, i1, i2, i3⟩ := textGo_inv _ _ h
    refine ⟨hp.1, ?_, i3⟩
    rw [i1, List.nil_append, ← i2]
    have h2 := hp.2
    unfold Lib.trimPrefix
    rw [if_pos h2]
    unfold Lib.hasPrefix at h2
    cases hr : r.rest with
    | nil => rw [hr] at h2; simp at h2
    | cons a b => rw [hr] at h2; simp at h2; simp [h2]
  · rw [if_neg hp] at h; cases h
end Sc
end Go.Proofs.YthpojljfmipngaaGreatDoor
