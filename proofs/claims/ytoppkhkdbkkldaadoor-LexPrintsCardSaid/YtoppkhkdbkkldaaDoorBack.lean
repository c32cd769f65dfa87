/-
  PROVED, with no program in sight: what Print made of tokens that Check lets pass is lexed as it was. CONDITION: at most 4096 letters.
-/
import Derived.Test.YtoppkhkdbkkldaaDoorLexEq
namespace Go.Proofs.YtoppkhkdbkkldaaDoor
namespace Lx

/-- What stands behind a token in a printed text. -/
def Sep (r : Bs) : Prop := ∀ c, r.head? = some c → c = 32 ∨ c = 10
theorem Sep.nil : Sep [] := fun _ h => by cases h
theorem Sep.feed (r : Bs) : Sep (10 :: r) := fun c h => .inr (by simpa using h.symm)
theorem Sep.gap (r : Bs) : Sep (32 :: r) := fun c h => .inl (by simpa using h.symm)

theorem runLen_app (p : UInt8 → Bool) {r : Bs} (hr : ∀ c, r.head? = some c → p c = false) : ∀ l : Bs, runLen p (l ++ r) = runLen p l
  | [] => by
    cases r with
    | nil => rfl
    | cons c r => simp [runLen, hr c rfl]
  | c :: l => by simp only [List.cons_append, runLen, runLen_app p hr l]
theorem Sep.word {r : Bs} (h : Sep r) : ∀ c, r.head? = some c → isWord c = false := fun c hc => by rcases h c hc with rfl | rfl <;> rfl
theorem Sep.digit {r : Bs} (h : Sep r) : ∀ c, r.head? = some c → isDigit c = false := fun c hc => by rcases h c hc with rfl | rfl <;> rfl
theorem Sep.letter {r : Bs} (h : Sep r) : ∀ c, r.head? = some c → isLetter c = false := fun c hc => by rcases h c hc with rfl | rfl <;> rfl

theorem quoteTail_app (r : Bs) : ∀ (k : Nat) (l : Bs), l.length ≤ k → ∀ n, quoteTail l = some n → quoteTail (l ++ r) = some n := by
  intro k
  induction k with
  | zero =>
    intro l hl n h
    obtain rfl : l = [] := List.length_eq_zero_iff.1 (by omega)
    simp [quoteTail] at h
  | succ k ih =>
    intro l hl n h
    cases l with
    | nil => simp [quoteTail] at h
    | cons c l =>
      rw [quoteTail_cons] at h
      rw [List.cons_append, quoteTail_cons]
      by_cases h34 : c.toNat = 34
      · rw [if_pos h34] at h ⊢; exact h
      rw [if_neg h34] at h ⊢
      by_cases h92 : c.toNat = 92
      · rw [if_pos h92] at h ⊢
        cases l with
        | nil => simp at h
        | cons d l =>
          simp only [List.cons_append] at h ⊢
          by_cases hd : d.toNat = 34 ∨ d.toNat = 92 ∨ d.toNat = 110
          · rw [if_pos hd] at h ⊢
            obtain ⟨m, hm, rfl⟩ := Option.map_eq_some_iff.1 h
            rw [ih l (by simp at hl; omega) m hm]; rfl
          · rw [if_neg hd] at h; cases h
      rw [if_neg h92] at h ⊢
      by_cases hb : c.toNat < 32 ∨ 126 < c.toNat
      · rw [if_pos hb] at h; cases h
      rw [if_neg hb] at h ⊢
      obtain ⟨m, hm, rfl⟩ := Option.map_eq_some_iff.1 h
      rw [ih l (by simp at hl; omega) m hm]; rfl
theorem textLen_app {l : Bs} (h : textLen l ≠ 0) (r : Bs) : textLen (l ++ r) = textLen l := by
  cases l with
  | nil => simp [textLen, quoteTail] at h
  | cons c l =>
    unfold textLen at h ⊢
    rw [List.cons_append, List.tail_cons, List.tail_cons] at *
    cases hq : quoteTail l with
    | none => rw [hq] at h; simp at h
    | some n => rw [quoteTail_app r _ l (Nat.le_refl _) n hq]

theorem two_second {c d : UInt8} (h : twoSigns.contains [c, d] = true) : d.toNat = 61 ∨ d.toNat = 38 ∨ d.toNat = 124 := by
  have h' : [c, d] ∈ twoSigns := List.contains_iff_mem.1 h
  simp only [twoSigns, List.mem_cons, List.cons.injEq, and_true, List.not_mem_nil, or_false] at h'
  rcases h' with h | h | h | h | h | h | h <;> (obtain ⟨_, rfl⟩ := h; simp)
theorem two_two {l : Bs} (h : twoSigns.contains l = true) : l.length = 2 := by
  have h' : l ∈ twoSigns := List.contains_iff_mem.1 h
  simp only [twoSigns, List.mem_cons, List.not_mem_nil, or_false] at h'
  rcases h' with rfl | rfl | rfl | rfl | rfl | rfl | rfl <;> rfl
theorem signLen_app {l r : Bs} (hl : signLen l = l.length) (h0 : l ≠ []) (hr : Sep r) : signLen (l ++ r) = l.length := by
  cases l with
  | nil => exact absurd rfl h0
  | cons c l =>
    cases l with
    | cons d l =>
      unfold signLen at hl ⊢
      by_cases h2 : twoSigns.contains ((c :: d :: l).take 2) = true
      · rw [if_pos h2] at hl
        rw [show (c :: d :: l ++ r).take 2 = (c :: d :: l).take 2 by simp, if_pos h2]; exact hl
      · rw [if_neg h2] at hl
        simp only [] at hl
        split at hl <;> simp at hl
    | nil =>
      unfold signLen at hl ⊢
      have h2 : ¬ twoSigns.contains ([c].take 2) = true := fun h => by have := two_two h; simp at this
      rw [if_neg h2] at hl
      have h3 : ¬ twoSigns.contains (([c] ++ r).take 2) = true := fun h => by
        cases r with
        | nil => exact h2 h
        | cons d r =>
          have h4 := two_second (c := c) (d := d) h
          rcases hr d rfl with rfl | rfl <;> simp at h4
      rw [if_neg h3]
      exact hl

/-- A token whose text is whole is told again where a gap, a feed or nothing stands behind it. -/
theorem tokenOf_app {l r : Bs} {k : Int} (h : tokenOf l = (k, l.length, 0)) (h0 : l ≠ []) (hr : Sep r) : tokenOf (l ++ r) = (k, l.length, 0) := by
  cases l with
  | nil => exact absurd rfl h0
  | cons c l =>
    have e1 := runLen_app isWord hr.word (c :: l)
    have e2 := runLen_app isDigit hr.digit (c :: l)
    rw [tokenOf.eq_def] at h ⊢
    simp only [List.cons_append] at h e1 e2 ⊢
    by_cases hl : isLetter c = true
    · rw [if_pos hl] at h ⊢
      rw [e1]; exact h
    rw [if_neg hl] at h ⊢
    by_cases hd : isDigit c = true
    · rw [if_pos hd] at h ⊢
      rw [e2]
      by_cases ha : ((((c :: l).drop (runLen isDigit (c :: l))).head?.map isLetter).getD false) = true
      · rw [if_pos ha] at h; simp at h
      rw [if_neg ha] at h
      by_cases hw : (wholeNum ((c :: l).take (runLen isDigit (c :: l)))).isNone = true
      · rw [if_pos hw] at h; simp at h
      rw [if_neg hw] at h
      have hn : runLen isDigit (c :: l) = (c :: l).length := by simp only [Prod.mk.injEq] at h; exact h.2.1
      have ed : (c :: (l ++ r)).drop (runLen isDigit (c :: l)) = r := by rw [hn, ← List.cons_append, List.drop_left]
      have et : (c :: (l ++ r)).take (runLen isDigit (c :: l)) = c :: l := by rw [hn, ← List.cons_append, List.take_left]
      have et' : (c :: l).take (runLen isDigit (c :: l)) = c :: l := by rw [hn, List.take_length]
      rw [et'] at hw
      rw [ed, et, if_neg hw]
      have hr' : ((r.head?.map isLetter).getD false) = false := by
        cases hh : r.head? with
        | none => rfl
        | some d => simp [hr.letter d hh]
      rw [if_neg (by rw [hr']; exact Bool.false_ne_true)]
      exact h
    rw [if_neg hd] at h ⊢
    by_cases hq : c.toNat = 34
    · rw [if_pos hq] at h ⊢
      by_cases ht : textLen (c :: l) = 0
      · rw [if_pos ht] at h; simp at h
      · rw [if_neg ht] at h
        have e3 := textLen_app ht r
        rw [List.cons_append] at e3
        rw [e3, if_neg ht]; exact h
    rw [if_neg hq] at h ⊢
    by_cases hs : c.toNat = 59
    · rw [if_pos hs] at h ⊢; exact h
    rw [if_neg hs] at h ⊢
    by_cases hg : signLen (c :: l) = 0
    · rw [if_pos hg] at h; simp at h
    · rw [if_neg hg] at h
      have hn : signLen (c :: l) = (c :: l).length := by simp only [Prod.mk.injEq] at h; exact h.2.1
      have e4 := signLen_app hn (by simp) hr
      rw [List.cons_append] at e4
      rw [e4, if_neg (by simp)]
      rw [hn] at h; exact h

/-! ### what was printed, lexed -/
/-- What Check lets pass behind a token that was, or was not, a closing one. -/
def Okl : Bool → List Tok → Prop
  | was, [] => was = false
  | was, t :: l => isAlone t = true ∧ (t.text ≠ [] ∨ was = true) ∧ Okl (isClosing t) l
/-- What Print makes of tokens, with a gap ahead. -/
def pr : Bs → List Tok → Bs
  | _, [] => []
  | g, t :: l => if t.text.isEmpty then 10 :: pr [] l else g ++ (t.text ++ pr [32] l)
theorem pr_sep : ∀ l : List Tok, Sep (pr [32] l)
  | [] => Sep.nil
  | t :: l => by
    unfold pr
    split
    · exact Sep.feed _
    · exact Sep.gap _
theorem foldl_pr : ∀ (l : List Tok) (out g : Bs), (l.foldl printStep (out, g)).1 = out ++ pr g l
  | [], out, g => by simp [pr]
  | t :: l, out, g => by
    rw [List.foldl_cons, pr, printStep]
    split
    · rw [foldl_pr l]; simp
    · rw [foldl_pr l]; simp
theorem printText_eq (l : List Tok) : printText l = pr [] l := by rw [printText, foldl_pr]; rfl

theorem foldl_check_false (l : List Tok) : ∀ was : Bool, (l.foldl checkStep (false, was)).1 = false := by
  induction l with
  | nil => intro was; rfl
  | cons t l ih => intro was; rw [List.foldl_cons, checkStep]; simp only [Bool.false_and]; exact ih _
theorem okl_of : ∀ (l : List Tok) (was : Bool), (l.foldl checkStep (true, was)).1 = true → (l.foldl checkStep (true, was)).2 = false → Okl was l
  | [], _, _, h => h
  | t :: l, was, h1, h2 => by
    rw [List.foldl_cons] at h1 h2
    by_cases hb : (true && isAlone t && (!t.text.isEmpty || was)) = true
    · have e : checkStep (true, was) t = (true, isClosing t) := by unfold checkStep; rw [hb]
      rw [e] at h1 h2
      simp only [Bool.true_and, Bool.and_eq_true, Bool.or_eq_true, Bool.not_eq_true'] at hb
      refine ⟨hb.1, ?_, okl_of l _ h1 h2⟩
      rcases hb.2 with h | h
      · exact .inl (fun e => by rw [e] at h; cases h)
      · exact .inr h
    · have e : checkStep (true, was) t = (false, isClosing t) := by
        unfold checkStep
        have := Bool.not_eq_true _ ▸ hb
        simp only [Bool.not_eq_true] at hb
        rw [hb]
      rw [e, foldl_check_false] at h1
      cases h1
theorem okl_check {l : List Tok} (h : checkOf l = 0) : l.length ≤ 1024 ∧ Okl false l := by
  unfold checkOf at h
  by_cases hl : l.length ≤ 1024
  · refine ⟨hl, ?_⟩
    rw [decide_eq_true hl] at h
    by_cases hc : (!(l.foldl checkStep (true, false)).1 || (l.foldl checkStep (true, false)).2) = true
    · rw [if_pos hc] at h; cases h
    · simp only [Bool.or_eq_true, Bool.not_eq_true', not_or, Bool.not_eq_false, Bool.not_eq_true] at hc
      exact okl_of l false hc.1 hc.2
  · rw [decide_eq_false hl, foldl_check_false] at h
    simp at h

theorem alone_text {t : Tok} (h : isAlone t = true) (h0 : t.text ≠ []) : tokenOf t.text = (t.kind, t.text.length, 0) := by
  unfold isAlone at h
  rw [if_neg (by simpa using h0)] at h
  simp only [Bool.and_eq_true, beq_iff_eq, decide_eq_true_eq] at h
  obtain ⟨h1, h2, h3⟩ := h
  have hp := (tokenOf_pos h1).2
  have hn : (tokenOf t.text).2.1 = t.text.length := by
    have := congrArg List.length h3
    rw [List.length_take] at this; omega
  rw [← hn, ← h2, ← h1]
theorem alone_empty {t : Tok} (h : isAlone t = true) (h0 : t.text = []) : t.kind = 5 := by
  unfold isAlone at h
  rw [if_pos (by simp [h0])] at h
  simpa using h

theorem token_head {c : UInt8} {l : Bs} (h : (tokenOf (c :: l)).2.2 = 0) : isBlank c = false ∧ c.toNat ≠ 10 := by
  have hx : ∀ d : UInt8, d = 9 ∨ d = 13 ∨ d = 32 ∨ d = 10 → (tokenOf (d :: l)).2.2 ≠ 0 := by
    intro d hd
    have h2 : ∀ d : UInt8, d = 9 ∨ d = 13 ∨ d = 32 ∨ d = 10 → twoSigns.contains ((d :: l).take 2) = false := by
      intro d hd
      cases l with
      | nil => rcases hd with rfl | rfl | rfl | rfl <;> rfl
      | cons e l =>
        have h3 : ¬ [d, e] ∈ twoSigns := by
          simp only [twoSigns, List.mem_cons, List.cons.injEq, and_true, List.not_mem_nil, or_false]
          rcases hd with rfl | rfl | rfl | rfl <;> simp
        cases hc : twoSigns.contains ((d :: e :: l).take 2) with
        | false => rfl
        | true => exact absurd (List.contains_iff_mem.1 hc) h3
    have h4 : signLen (d :: l) = 0 := by
      unfold signLen
      rw [h2 d hd]
      rcases hd with rfl | rfl | rfl | rfl <;> rfl
    have h5 : tokenOf (d :: l) = (0, 0, 200) := by
      rw [tokenOf.eq_def]
      simp only [h4]
      rcases hd with rfl | rfl | rfl | rfl <;> rfl
    rw [h5]; decide
  constructor
  · cases hb : isBlank c with
    | false => rfl
    | true =>
      simp only [isBlank, Bool.or_eq_true, beq_iff_eq] at hb
      refine absurd h (hx c ?_)
      rcases hb with (hb | hb) | hb
      · exact .inl (UInt8.toNat_inj.1 hb)
      · exact .inr (.inl (UInt8.toNat_inj.1 hb))
      · exact .inr (.inr (.inl (UInt8.toNat_inj.1 hb)))
  · intro h10
    exact absurd h (hx c (.inr (.inr (.inr (UInt8.toNat_inj.1 h10)))))

theorem two_first {c d : UInt8} (h : twoSigns.contains [c, d] = true) : c.toNat ≠ 47 := by
  have h' : [c, d] ∈ twoSigns := List.contains_iff_mem.1 h
  simp only [twoSigns, List.mem_cons, List.cons.injEq, and_true, List.not_mem_nil, or_false] at h'
  rcases h' with h | h | h | h | h | h | h <;> (obtain ⟨rfl, _⟩ := h; simp)
/-- Where a token stands there is no comment. -/
theorem no_comment {l r : Bs} {k : Int} (h : tokenOf l = (k, l.length, 0)) (h0 : l ≠ []) (hr : Sep r) : Lib.hasPrefix (l ++ r) [47, 47] = false := by
  cases hp : Lib.hasPrefix (l ++ r) [47, 47] with
  | false => rfl
  | true =>
    exfalso
    cases l with
    | nil => exact h0 rfl
    | cons c l =>
      cases l with
      | nil =>
        cases r with
        | nil => simp [Lib.hasPrefix] at hp
        | cons d r =>
          rcases hr d rfl with rfl | rfl <;> simp [Lib.hasPrefix] at hp
      | cons d l =>
        have hc : c = 47 ∧ d = 47 := by
          unfold Lib.hasPrefix at hp
          rw [List.cons_append, List.cons_append, List.isPrefixOf_cons_cons, List.isPrefixOf_cons_cons] at hp
          simp only [Bool.and_eq_true, beq_iff_eq] at hp
          exact ⟨hp.1.symm, hp.2.1.symm⟩
        obtain ⟨rfl, rfl⟩ := hc
        have h2 : twoSigns.contains ((47 :: 47 :: l).take 2) = false := by rfl
        have h4 : signLen (47 :: 47 :: l) = 1 := by unfold signLen; rw [h2]; rfl
        have h5 : tokenOf (47 :: 47 :: l) = (4, 1, 0) := by
          rw [tokenOf.eq_def]; simp only [h4]; rfl
        rw [h5] at h
        simp at h

theorem skip_feed (r : Bs) : skipLen (10 :: r) = 0 := by
  unfold skipLen
  simp [runLen, isBlank, Lib.hasPrefix]
theorem skip_nil : skipLen [] = 0 := rfl
theorem skip_tok {l r g : Bs} {k : Int} (h : tokenOf l = (k, l.length, 0)) (h0 : l ≠ []) (hr : Sep r) (hg : g = [] ∨ g = [32]) : skipLen (g ++ (l ++ r)) = g.length := by
  have hb : runLen isBlank (l ++ r) = 0 := by
    cases l with
    | nil => exact absurd rfl h0
    | cons c l =>
      have := (token_head (c := c) (l := l) (by rw [h])).1
      simp [runLen, this]
  have hrun : runLen isBlank (g ++ (l ++ r)) = g.length := by
    rcases hg with rfl | rfl
    · exact hb
    · show runLen isBlank (32 :: (l ++ r)) = 1
      rw [runLen, hb]; rfl
  unfold skipLen
  rw [hrun, List.drop_left, no_comment h h0 hr]
  simp

theorem lastClosing_snoc (acc : List Tok) (t : Tok) : lastClosing (acc ++ [t]) = isClosing t := by unfold lastClosing; rw [List.getLast?_concat]

theorem lexGo_print : ∀ (l : List Tok) (g : Bs) (acc : List Tok) (a f : Nat), Okl (lastClosing acc) l → (g = [] ∨ g = [32]) → acc.length + l.length ≤ 1024 → (pr g l).length < f →
    ∃ m, lexGo f acc a (pr g l) = (acc ++ m, 0, 0) ∧ sameToks l m = true
  | [], g, acc, a, f, hok, _, _, hf => by
    obtain ⟨f, rfl⟩ : ∃ k, f = k + 1 := ⟨f - 1, by omega⟩
    refine ⟨[], ?_, rfl⟩
    rw [pr, lexGo_succ, skip_nil]
    have hc : lastClosing acc = false := hok
    simp [hc]
  | t :: l, g, acc, a, f, hok, hg, hn, hf => by
    obtain ⟨f, rfl⟩ : ∃ k, f = k + 1 := ⟨f - 1, by omega⟩
    obtain ⟨ha, hw, hl⟩ := hok
    rw [List.length_cons] at hn
    by_cases h0 : t.text = []
    · have hk := alone_empty ha h0
      have hc : lastClosing acc = true := by rcases hw with h | h; exact absurd h0 h; exact h
      have ep : pr g (t :: l) = 10 :: pr [] l := by rw [pr, if_pos (by simp [h0])]
      rw [ep] at hf ⊢
      rw [lexGo_succ, skip_feed]
      simp only [List.drop_zero]
      rw [if_pos (by decide), if_pos hc, if_neg (by omega)]
      have hcl : isClosing t = isClosing ⟨5, [], ((a + 0 : Nat) : Int)⟩ := by unfold isClosing; rw [hk, h0]
      obtain ⟨m, hm, hs⟩ := lexGo_print l [] (acc ++ [⟨5, [], ((a + 0 : Nat) : Int)⟩]) (a + 0 + 1) f (by rw [lastClosing_snoc, ← hcl]; exact hl) (.inl rfl) (by simp; omega) (by simp at hf; omega)
      refine ⟨⟨5, [], ((a + 0 : Nat) : Int)⟩ :: m, ?_, ?_⟩
      · rw [hm]; simp
      · rw [sameToks, hs, sameTok, hk, h0]; simp
    · have ht := alone_text ha h0
      have ep : pr g (t :: l) = g ++ (t.text ++ pr [32] l) := by rw [pr, if_neg (by simpa using h0)]
      rw [ep] at hf ⊢
      have hsep := pr_sep l
      have hto := tokenOf_app ht h0 hsep
      rw [lexGo_succ, skip_tok ht h0 hsep hg, List.drop_left]
      obtain ⟨c, r, hcr⟩ : ∃ c r, t.text ++ pr [32] l = c :: r := by
        cases hx : t.text with
        | nil => exact absurd hx h0
        | cons c r => exact ⟨c, _, rfl⟩
      have h10 : c.toNat ≠ 10 := (token_head (c := c) (l := r) (by rw [← hcr, hto])).2
      rw [hcr]
      simp only []
      rw [if_neg h10, ← hcr, hto]
      simp only []
      rw [if_neg (by simp), if_neg (by omega), List.take_left, List.drop_left]
      have hcl : isClosing t = isClosing ⟨t.kind, t.text, ((a + g.length : Nat) : Int)⟩ := rfl
      have hlen : (pr [32] l).length < f := by
        have : 0 < t.text.length := List.length_pos_iff.2 h0
        simp only [List.length_append] at hf; omega
      obtain ⟨m, hm, hs⟩ := lexGo_print l [32] (acc ++ [⟨t.kind, t.text, ((a + g.length : Nat) : Int)⟩]) (a + g.length + t.text.length) f (by rw [lastClosing_snoc, ← hcl]; exact hl) (.inr rfl) (by simp; omega) hlen
      refine ⟨⟨t.kind, t.text, ((a + g.length : Nat) : Int)⟩ :: m, ?_, ?_⟩
      · rw [hm]; simp
      · rw [sameToks, hs, sameTok]; simp

/-- What was printed is lexed as it was. -/
theorem lex_print {l : List Tok} (hc : checkOf l = 0) (hp : (printText l).length ≤ 4096) : ∃ m, lexOf (printText l) = (m, 0, 0) ∧ sameToks l m = true := by
  obtain ⟨hl, hok⟩ := okl_check hc
  rw [lexOf, if_neg (by omega), printText_eq]
  obtain ⟨m, hm, hs⟩ := lexGo_print l [] [] 0 ((pr [] l).length + 1) hok (.inl rfl) (by simpa using hl) (by omega)
  exact ⟨m, by simpa using hm, hs⟩
end Lx
end Go.Proofs.YtoppkhkdbkkldaaDoor
