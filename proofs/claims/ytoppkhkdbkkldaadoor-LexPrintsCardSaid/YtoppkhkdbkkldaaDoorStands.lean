/-
  PROVED, with no program in sight: where the tokens of a text stand; that Check lets them pass. CONDITION: none.
-/
import Derived.Test.YtoppkhkdbkkldaaDoorBack
namespace Go.Proofs.YtoppkhkdbkkldaaDoor
namespace Lx

/-! ### what lies between tokens -/
/-- A text in which there is nothing. -/
def Quiet (g : Bs) : Prop := ∀ f a, g.length < f → lexGo f [] a g = ([], 0, 0)
theorem quiet_of_skip {g : Bs} (h : skipLen g = g.length) : Quiet g := by
  intro f a hf
  obtain ⟨f, rfl⟩ : ∃ k, f = k + 1 := ⟨f - 1, by omega⟩
  rw [lexGo_succ, h, List.drop_length]
  rfl
theorem runLen_take (p : UInt8 → Bool) : ∀ l : Bs, runLen p (l.take (runLen p l)) = runLen p l
  | [] => rfl
  | c :: l => by
    rw [runLen]
    split
    · rename_i h
      rw [List.take_succ_cons, runLen, if_pos h, runLen_take p l]
    · rfl
theorem runLen_whole {p : UInt8 → Bool} : ∀ {l : Bs}, runLen p l = l.length → ∀ c ∈ l, p c = true
  | [], _, c, hc => by cases hc
  | d :: l, h, c, hc => by
    rw [runLen, List.length_cons] at h
    split at h
    · rename_i hd
      rcases List.mem_cons.1 hc with rfl | hc
      · exact hd
      · exact runLen_whole (by omega) c hc
    · omega
theorem runLen_head {p : UInt8 → Bool} {l r : Bs} (h : runLen p l = l.length) : runLen p (l ++ r) = l.length + runLen p r := by
  induction l with
  | nil => simp
  | cons c l ih =>
    rw [runLen, List.length_cons] at h
    split at h
    · rename_i hc
      rw [List.cons_append, runLen, if_pos hc, ih (by omega), List.length_cons]; omega
    · omega

/-- The blanks and the comment, parted. -/
theorem skip_parts (l : Bs) : ∃ b c : Bs, l.take (skipLen l) = b ++ c ∧ runLen isBlank b = b.length ∧ runLen notFeed c = c.length ∧ (c = [] ∨ Lib.hasPrefix c [47, 47] = true) ∧ skipLen l = b.length + c.length := by
  have h1 := runLen_le isBlank l
  have hb : (l.take (runLen isBlank l)).length = runLen isBlank l := by rw [List.length_take]; omega
  by_cases hp : Lib.hasPrefix (l.drop (runLen isBlank l)) [47, 47] = true
  · have hs : skipLen l = runLen isBlank l + runLen notFeed (l.drop (runLen isBlank l)) := by unfold skipLen; rw [if_pos hp]
    have h2 := runLen_le notFeed (l.drop (runLen isBlank l))
    have hc : ((l.drop (runLen isBlank l)).take (runLen notFeed (l.drop (runLen isBlank l)))).length = runLen notFeed (l.drop (runLen isBlank l)) := by rw [List.length_take]; omega
    refine ⟨l.take (runLen isBlank l), (l.drop (runLen isBlank l)).take (runLen notFeed (l.drop (runLen isBlank l))), ?_, by rw [runLen_take, hb], by rw [runLen_take, hc], .inr ?_, by rw [hb, hc, hs]⟩
    · rw [hs, List.take_add]
    · generalize l.drop (runLen isBlank l) = m at hp
      unfold Lib.hasPrefix at hp ⊢
      cases m with
      | nil => simp [List.isPrefixOf] at hp
      | cons x m =>
        cases m with
        | nil => simp [List.isPrefixOf] at hp
        | cons y m =>
          rw [List.isPrefixOf_cons_cons, List.isPrefixOf_cons_cons] at hp
          simp only [Bool.and_eq_true, beq_iff_eq] at hp
          obtain ⟨rfl, rfl, _⟩ := hp
          have h3 : runLen notFeed (47 :: 47 :: m) = runLen notFeed m + 1 + 1 := rfl
          rw [h3]; rfl
  · have hs : skipLen l = runLen isBlank l := by unfold skipLen; rw [if_neg hp]; rfl
    exact ⟨l.take (runLen isBlank l), [], by rw [hs, List.append_nil], by rw [runLen_take, hb], rfl, .inl rfl, by rw [hb, hs]; rfl⟩
/-- .. and joined again, with nothing or a feed behind them. -/
theorem skip_join {b c x : Bs} (hb : runLen isBlank b = b.length) (hc : runLen notFeed c = c.length) (hc2 : c = [] ∨ Lib.hasPrefix c [47, 47] = true) (hx : x = [] ∨ x.head? = some 10) :
    skipLen (b ++ c ++ x) = b.length + c.length := by
  have hx1 : ∀ d, x.head? = some d → isBlank d = false := fun d hd => by
    rcases hx with rfl | hx
    · cases hd
    · rw [hx] at hd; cases hd; rfl
  have hx2 : ∀ d, x.head? = some d → notFeed d = false := fun d hd => by
    rcases hx with rfl | hx
    · cases hd
    · rw [hx] at hd; cases hd; rfl
  have hrun : runLen isBlank (b ++ (c ++ x)) = b.length := by
    rw [runLen_head hb]
    have : runLen isBlank (c ++ x) = 0 := by
      rcases hc2 with rfl | hc2
      · cases x with
        | nil => rfl
        | cons d x => rw [List.nil_append, runLen, if_neg (by rw [hx1 d rfl]; exact Bool.false_ne_true)]
      · cases c with
        | nil => simp [Lib.hasPrefix] at hc2
        | cons d c =>
          have : d = 47 := by
            unfold Lib.hasPrefix at hc2
            rw [List.isPrefixOf_cons_cons] at hc2
            simp only [Bool.and_eq_true, beq_iff_eq] at hc2
            exact hc2.1.symm
          subst this; rfl
    omega
  unfold skipLen
  rw [List.append_assoc, hrun, List.drop_left]
  have hnf : runLen notFeed (c ++ x) = c.length := by
    rw [runLen_app notFeed hx2, hc]
  rcases hc2 with rfl | hc2
  · have : Lib.hasPrefix ([] ++ x) [47, 47] = false := by
      cases x with
      | nil => rfl
      | cons d x =>
        rcases hx with h | h
        · cases h
        · simp only [List.head?_cons, Option.some.injEq] at h
          subst h
          unfold Lib.hasPrefix
          rw [List.nil_append, List.isPrefixOf_cons_cons]; rfl
    rw [this]; simp
  · have : Lib.hasPrefix (c ++ x) [47, 47] = true := by
      unfold Lib.hasPrefix at hc2 ⊢
      rw [List.isPrefixOf_iff_prefix] at hc2 ⊢
      exact hc2.trans (List.prefix_append _ _)
    rw [this, if_pos rfl, hnf]
theorem quiet_skip (l : Bs) : Quiet (l.take (skipLen l)) := by
  obtain ⟨b, c, e, hb, hc, hc2, _⟩ := skip_parts l
  rw [e]
  refine quiet_of_skip ?_
  have := skip_join (x := []) hb hc hc2 (.inl rfl)
  rw [List.append_nil] at this
  rw [this, List.length_append]
theorem quiet_feed (l x : Bs) (hx : Quiet x) : Quiet (l.take (skipLen l) ++ 10 :: x) := by
  obtain ⟨b, c, e, hb, hc, hc2, _⟩ := skip_parts l
  rw [e]
  intro f a hf
  obtain ⟨f, rfl⟩ : ∃ k, f = k + 1 := ⟨f - 1, by omega⟩
  have hs := skip_join (x := 10 :: x) hb hc hc2 (.inr rfl)
  rw [lexGo_succ, hs]
  rw [show (b ++ c ++ 10 :: x).drop (b.length + c.length) = 10 :: x by rw [← List.length_append, List.drop_left]]
  simp only []
  rw [if_pos (by decide), if_neg (by decide)]
  refine hx _ _ ?_
  simp only [List.length_append, List.length_cons] at hf
  omega
/-- What may stand ahead of whatever is quiet. -/
def Ahead (g : Bs) : Prop := ∀ x, Quiet x → Quiet (g ++ x)
theorem Ahead.nil : Ahead [] := fun _ h => h
theorem Ahead.feed {g : Bs} (h : Ahead g) (l : Bs) : Ahead (g ++ (l.take (skipLen l) ++ [10])) := fun x hx => by
  have := h _ (quiet_feed l x hx)
  simpa using this
theorem Ahead.one : Ahead [10] := fun x hx => by
  have := quiet_feed [] x hx
  simpa [skip_nil] using this

/-! ### a token's text alone -/
theorem quoteTail_take : ∀ (k : Nat) (l : Bs), l.length ≤ k → ∀ n, quoteTail l = some n → quoteTail (l.take n) = some n := by
  intro k
  induction k with
  | zero =>
    intro l hl n h
    obtain rfl : l = [] := List.length_eq_zero_iff.1 (by omega)
    simp [quoteTail] at h
  | succ k ih =>
    intro l hl n h
    cases l with
    | nil => simp [quoteTail] at h
    | cons c l =>
      rw [quoteTail_cons] at h
      by_cases h34 : c.toNat = 34
      · rw [if_pos h34] at h
        obtain rfl : 1 = n := Option.some.inj h
        rw [List.take_succ_cons, List.take_zero, quoteTail_cons, if_pos h34]
      rw [if_neg h34] at h
      by_cases h92 : c.toNat = 92
      · rw [if_pos h92] at h
        cases l with
        | nil => simp at h
        | cons d l =>
          simp only [] at h
          by_cases hd : d.toNat = 34 ∨ d.toNat = 92 ∨ d.toNat = 110
          · rw [if_pos hd] at h
            obtain ⟨m, hm, rfl⟩ := Option.map_eq_some_iff.1 h
            rw [List.take_succ_cons, List.take_succ_cons, quoteTail_cons, if_neg h34, if_pos h92]
            simp only []
            rw [if_pos hd, ih l (by simp at hl; omega) m hm]; rfl
          · rw [if_neg hd] at h; cases h
      rw [if_neg h92] at h
      by_cases hb : c.toNat < 32 ∨ 126 < c.toNat
      · rw [if_pos hb] at h; cases h
      rw [if_neg hb] at h
      obtain ⟨m, hm, rfl⟩ := Option.map_eq_some_iff.1 h
      rw [List.take_succ_cons, quoteTail_cons, if_neg h34, if_neg h92, if_neg hb, ih l (by simp at hl; omega) m hm]; rfl
theorem tokenOf_take {l : Bs} {k : Int} {n : Nat} (h : tokenOf l = (k, n, 0)) : tokenOf (l.take n) = (k, n, 0) := by
  have hpos := tokenOf_pos (l := l) (by rw [h])
  rw [h] at hpos
  simp only [] at hpos
  cases l with
  | nil => simp at hpos; omega
  | cons c l =>
    obtain ⟨m, rfl⟩ : ∃ m, n = m + 1 := ⟨n - 1, by omega⟩
    have e1 := runLen_take isWord (c :: l)
    have e2 := runLen_take isDigit (c :: l)
    rw [List.take_succ_cons]
    rw [tokenOf.eq_def] at h ⊢
    simp only [] at h ⊢
    by_cases hl : isLetter c = true
    · rw [if_pos hl] at h ⊢
      by_cases hm : 24 < runLen isWord (c :: l)
      · rw [if_pos hm] at h; simp at h
      rw [if_neg hm] at h
      have hn : runLen isWord (c :: l) = m + 1 := by simp only [Prod.mk.injEq] at h; exact h.2.1
      rw [hn, List.take_succ_cons] at e1
      rw [e1, if_neg (by omega)]
      rw [hn] at h; exact h
    rw [if_neg hl] at h ⊢
    by_cases hd : isDigit c = true
    · rw [if_pos hd] at h ⊢
      by_cases ha : ((((c :: l).drop (runLen isDigit (c :: l))).head?.map isLetter).getD false) = true
      · rw [if_pos ha] at h; simp at h
      rw [if_neg ha] at h
      by_cases hw : (wholeNum ((c :: l).take (runLen isDigit (c :: l)))).isNone = true
      · rw [if_pos hw] at h; simp at h
      rw [if_neg hw] at h
      have hn : runLen isDigit (c :: l) = m + 1 := by simp only [Prod.mk.injEq] at h; exact h.2.1
      rw [hn, List.take_succ_cons] at e2
      rw [hn, List.take_succ_cons] at hw
      have hlen : (c :: l.take m).length = m + 1 := by simp at hpos ⊢; omega
      rw [e2, List.drop_eq_nil_of_le (by rw [hlen]; exact Nat.le_refl _), List.take_of_length_le (by rw [hlen]; exact Nat.le_refl _), if_neg (by simp), if_neg hw]
      rw [hn] at h; exact h
    rw [if_neg hd] at h ⊢
    by_cases hq : c.toNat = 34
    · rw [if_pos hq] at h ⊢
      by_cases ht : textLen (c :: l) = 0
      · rw [if_pos ht] at h; simp at h
      · rw [if_neg ht] at h
        have hn : textLen (c :: l) = m + 1 := by simp only [Prod.mk.injEq] at h; exact h.2.1
        have e3 : textLen (c :: l.take m) = m + 1 := by
          unfold textLen at hn ⊢
          simp only [List.tail_cons] at hn ⊢
          cases hx : quoteTail l with
          | none => rw [hx] at hn; simp at hn
          | some x =>
            rw [hx] at hn
            simp only [] at hn
            obtain rfl : x = m := by omega
            rw [quoteTail_take _ l (Nat.le_refl _) x hx]
        rw [e3, if_neg (by omega)]
        rw [hn] at h; exact h
    rw [if_neg hq] at h ⊢
    by_cases hs : c.toNat = 59
    · rw [if_pos hs] at h ⊢; exact h
    rw [if_neg hs] at h ⊢
    by_cases hg : signLen (c :: l) = 0
    · rw [if_pos hg] at h; simp at h
    · rw [if_neg hg] at h
      have hn : signLen (c :: l) = m + 1 := by simp only [Prod.mk.injEq] at h; exact h.2.1
      have e4 : signLen (c :: l.take m) = m + 1 := by
        unfold signLen at hn ⊢
        by_cases h2 : twoSigns.contains ((c :: l).take 2) = true
        · rw [if_pos h2] at hn
          obtain rfl : m = 1 := by omega
          have : (c :: l.take 1).take 2 = (c :: l).take 2 := by simp [List.take_take]
          rw [this, if_pos h2]
        · rw [if_neg h2] at hn
          simp only [] at hn
          split at hn
          · rename_i hc
            obtain rfl : m = 0 := by omega
            have h3 : ¬ twoSigns.contains ((c :: l.take 0).take 2) = true := fun h => by have := two_two h; simp at this
            rw [if_neg h3]
            simp only []
            rw [if_pos hc]
          · omega
      rw [e4, if_neg (by omega)]
      rw [hn] at h; exact h
theorem alone_take {l : Bs} {k : Int} {n : Nat} (h : tokenOf l = (k, n, 0)) (p : Int) : isAlone ⟨k, l.take n, p⟩ = true ∧ l.take n ≠ [] ∧ (l.take n).length = n := by
  have hpos := tokenOf_pos (l := l) (by rw [h])
  rw [h] at hpos
  simp only [] at hpos
  have hlen : (l.take n).length = n := by rw [List.length_take]; omega
  have hne : l.take n ≠ [] := by intro e; rw [e] at hlen; simp at hlen; omega
  refine ⟨?_, hne, hlen⟩
  unfold isAlone
  simp only []
  rw [if_neg (by simpa using hne), tokenOf_take h]
  simp [List.take_take]

/-! ### where the tokens stand -/
def Stands (L : Bs) : Nat → List Tok → Prop
  | e, [] => e ≤ L.length ∧ Quiet (L.drop e)
  | e, t :: l => ∃ p : Nat, t.place = p ∧ e ≤ p ∧ p + t.text.length ≤ L.length ∧ (L.drop p).take t.text.length = t.text ∧ Quiet ((L.drop e).take (p - e)) ∧ Stands L (p + t.text.length) l
theorem gap_add (L : Bs) {e a : Nat} (h : e ≤ a) (n : Nat) : (L.drop e).take (a + n - e) = (L.drop e).take (a - e) ++ (L.drop a).take n := by
  rw [show a + n - e = (a - e) + n by omega, List.take_add, List.drop_drop, show e + (a - e) = a by omega]

theorem lexGo_stands (L : Bs) : ∀ (f : Nat) (acc : List Tok) (a e : Nat) (res : List Tok), a ≤ L.length → e ≤ a → Ahead ((L.drop e).take (a - e)) → L.length - a < f → acc.length ≤ 1024 →
    lexGo f acc a (L.drop a) = (res, 0, 0) → ∃ m, res = acc ++ m ∧ Stands L e m ∧ Okl (lastClosing acc) m ∧ res.length ≤ 1024 := by
  intro f
  induction f with
  | zero => intro acc a e res ha _ _ hf; omega
  | succ f ih =>
    intro acc a e res ha he hg hf hn h
    have hsk := skipLen_le (L.drop a)
    rw [List.length_drop] at hsk
    have hq : Quiet ((L.drop e).take (a + skipLen (L.drop a) - e)) := by
      rw [gap_add L he]
      exact hg _ (quiet_skip (L.drop a))
    rw [lexGo_succ, List.drop_drop] at h
    generalize hp : a + skipLen (L.drop a) = p at h hq
    have hpl : p ≤ L.length := by omega
    by_cases hend : p = L.length
    · rw [List.drop_eq_nil_of_le (by omega)] at h
      simp only [] at h
      by_cases hc : lastClosing acc = true
      · rw [if_pos hc] at h
        by_cases hf' : acc.length = 1024
        · rw [if_pos hf'] at h; simp at h
        rw [if_neg hf'] at h
        simp only [Prod.mk.injEq, and_true] at h
        refine ⟨[⟨5, [], (p : Nat)⟩], h.symm, ⟨p, rfl, by omega, by simpa using hpl, rfl, hq, by simpa using hpl, ?_⟩, ⟨rfl, .inr hc, rfl⟩, by rw [← h]; simp; omega⟩
        simp only [List.length_nil, Nat.add_zero]
        rw [List.drop_eq_nil_of_le (by omega)]
        exact quiet_of_skip rfl
      · rw [if_neg hc] at h
        simp only [Prod.mk.injEq, and_true] at h
        refine ⟨[], by simpa using h.symm, ⟨by omega, ?_⟩, by simpa [Okl] using hc, by rw [← h]; exact hn⟩
        have : (L.drop e).take (p - e) = L.drop e := by rw [List.take_of_length_le]; rw [List.length_drop]; omega
        rw [← this]; exact hq
    · have hlt : p < L.length := by omega
      rw [List.drop_eq_getElem_cons hlt] at h
      simp only [] at h
      by_cases h10 : L[p].toNat = 10
      · rw [if_pos h10] at h
        have hc10 : L[p] = 10 := UInt8.toNat_inj.1 h10
        have hone : (L.drop p).take 1 = [10] := by rw [List.drop_eq_getElem_cons hlt, hc10]; rfl
        by_cases hc : lastClosing acc = true
        · rw [if_pos hc] at h
          by_cases hf' : acc.length = 1024
          · rw [if_pos hf'] at h; simp at h
          rw [if_neg hf'] at h
          obtain ⟨m, rfl, hs, hok, hlen⟩ := ih _ (p + 1) p res (by omega) (by omega) (by rw [show p + 1 - p = 1 by omega, hone]; exact Ahead.one) (by omega) (by simp; omega) h
          rw [lastClosing_snoc] at hok
          exact ⟨⟨5, [], (p : Nat)⟩ :: m, by simp, ⟨p, rfl, by omega, by simpa using hpl, rfl, hq, by simpa using hs⟩, ⟨rfl, .inr hc, hok⟩, hlen⟩
        · rw [if_neg hc] at h
          refine ih acc (p + 1) e res (by omega) (by omega) ?_ (by omega) hn h
          rw [gap_add L (by omega : e ≤ p), hone]
          have := hg.feed (L.drop a)
          rw [← hp, gap_add L he, List.append_assoc]
          exact this
      · rw [if_neg h10] at h
        rw [← List.drop_eq_getElem_cons hlt] at h
        by_cases her : (tokenOf (L.drop p)).2.2 = 0
        · rw [if_neg (by simpa using her)] at h
          by_cases hf' : acc.length = 1024
          · rw [if_pos hf'] at h; simp at h
          rw [if_neg hf'] at h
          obtain ⟨k, n, ht⟩ : ∃ k n, tokenOf (L.drop p) = (k, n, 0) := ⟨(tokenOf (L.drop p)).1, (tokenOf (L.drop p)).2.1, by rw [← her]⟩
          have hpos := tokenOf_pos her
          rw [ht] at h hpos
          simp only [List.drop_drop, List.length_drop] at h hpos
          obtain ⟨ha1, ha2, ha3⟩ := alone_take ht (p : Nat)
          obtain ⟨m, rfl, hs, hok, hlen⟩ := ih _ (p + n) (p + n) res (by omega) (Nat.le_refl _) (by rw [Nat.sub_self, List.take_zero]; exact Ahead.nil) (by omega) (by simp; omega) h
          rw [lastClosing_snoc] at hok
          refine ⟨⟨k, (L.drop p).take n, (p : Nat)⟩ :: m, by simp, ⟨p, rfl, by omega, by rw [ha3]; omega, by rw [ha3], hq, by rw [ha3]; exact hs⟩, ⟨ha1, .inl ha2, hok⟩, hlen⟩
        · rw [if_pos her] at h
          simp only [Prod.mk.injEq] at h
          exact absurd h.2.1 her
theorem lex_stands {L : Bs} {l : List Tok} {at' : Nat} (h : lexOf L = (l, 0, at')) (h0 : at' = 0) : Stands L 0 l ∧ Okl false l ∧ l.length ≤ 1024 := by
  subst h0
  unfold lexOf at h
  by_cases hl : 4096 < L.length
  · rw [if_pos hl] at h; simp at h
  rw [if_neg hl] at h
  obtain ⟨m, rfl, hs, hok, hlen⟩ := lexGo_stands L (L.length + 1) [] 0 0 l (Nat.zero_le _) (Nat.le_refl _) (by rw [Nat.sub_self, List.take_zero]; exact Ahead.nil) (by omega) (by simp) h
  exact ⟨hs, hok, hlen⟩

theorem foldl_check_ok : ∀ (l : List Tok) (was : Bool), Okl was l → l.foldl checkStep (true, was) = (true, false)
  | [], was, h => by have : was = false := h; subst this; rfl
  | t :: l, was, h => by
    obtain ⟨h1, h2, h3⟩ := h
    rw [List.foldl_cons]
    have e : checkStep (true, was) t = (true, isClosing t) := by
      unfold checkStep
      simp only [h1, Bool.true_and, Prod.mk.injEq, and_true, Bool.or_eq_true, Bool.not_eq_true']
      rcases h2 with h2 | h2
      · exact .inl (by simpa using h2)
      · exact .inr h2
    rw [e]
    exact foldl_check_ok l _ h3
theorem check_ok {l : List Tok} (h : Okl false l) (hl : l.length ≤ 1024) : checkOf l = 0 := by
  unfold checkOf
  rw [decide_eq_true hl, foldl_check_ok l false h]; rfl

/-- An error leaves no tokens, and stands in the text; no error, no place. -/
theorem lexGo_err : ∀ (f : Nat) (acc : List Tok) (a : Nat) (l : Bs), ((lexGo f acc a l).2.1 ≠ 0 → (lexGo f acc a l).1 = [] ∧ (lexGo f acc a l).2.2 ≤ a + l.length) ∧ ((lexGo f acc a l).2.1 = 0 → (lexGo f acc a l).2.2 = 0) := by
  intro f
  induction f with
  | zero => intro acc a l; exact ⟨fun h => absurd rfl h, fun _ => rfl⟩
  | succ f ih =>
    intro acc a l
    have hsk := skipLen_le l
    have hlen : (l.drop (skipLen l)).length = l.length - skipLen l := List.length_drop
    rw [lexGo_succ]
    generalize l.drop (skipLen l) = m at hlen
    cases m with
    | nil =>
      simp only []
      split
      · split
        · exact ⟨fun _ => ⟨rfl, by show a + skipLen l ≤ _; omega⟩, fun h => by cases h⟩
        · exact ⟨fun h => absurd rfl h, fun _ => rfl⟩
      · exact ⟨fun h => absurd rfl h, fun _ => rfl⟩
    | cons d r =>
      rw [List.length_cons] at hlen
      simp only []
      have hr : ∀ acc', ((lexGo f acc' (a + skipLen l + 1) r).2.1 ≠ 0 → (lexGo f acc' (a + skipLen l + 1) r).1 = [] ∧ (lexGo f acc' (a + skipLen l + 1) r).2.2 ≤ a + l.length) ∧ ((lexGo f acc' (a + skipLen l + 1) r).2.1 = 0 → (lexGo f acc' (a + skipLen l + 1) r).2.2 = 0) := fun acc' => by
        obtain ⟨i1, i2⟩ := ih acc' (a + skipLen l + 1) r
        exact ⟨fun h => ⟨(i1 h).1, by have := (i1 h).2; omega⟩, i2⟩
      split
      · split
        · split
          · exact ⟨fun _ => ⟨rfl, by show a + skipLen l ≤ _; omega⟩, fun h => by cases h⟩
          · exact hr _
        · exact hr _
      split
      · rename_i he
        exact ⟨fun _ => ⟨rfl, by show a + skipLen l ≤ _; omega⟩, fun h => absurd h he⟩
      split
      · exact ⟨fun _ => ⟨rfl, by show a + skipLen l ≤ _; omega⟩, fun h => by cases h⟩
      rename_i he _
      have hp := tokenOf_pos (l := d :: r) (by omega)
      rw [List.length_cons] at hp
      obtain ⟨i1, i2⟩ := ih (acc ++ [⟨(tokenOf (d :: r)).1, (d :: r).take (tokenOf (d :: r)).2.1, (a + skipLen l : Nat)⟩]) (a + skipLen l + (tokenOf (d :: r)).2.1) ((d :: r).drop (tokenOf (d :: r)).2.1)
      refine ⟨fun h => ⟨(i1 h).1, ?_⟩, i2⟩
      have := (i1 h).2
      rw [List.length_drop, List.length_cons] at this
      omega
theorem lex_err {L : Bs} : ((lexOf L).2.1 ≠ 0 → (lexOf L).1 = [] ∧ (lexOf L).2.2 ≤ L.length) ∧ ((lexOf L).2.1 = 0 → (lexOf L).2.2 = 0) := by
  unfold lexOf
  split
  · exact ⟨fun _ => ⟨rfl, Nat.zero_le _⟩, fun h => by cases h⟩
  · have := lexGo_err (L.length + 1) [] 0 L
    simpa using this
theorem quiet_lex {g : Bs} (h : Quiet g) (hl : g.length ≤ 4096) : lexOf g = ([], 0, 0) := by
  unfold lexOf
  rw [if_neg (by omega)]
  exact h _ _ (by omega)
end Lx
end Go.Proofs.YtoppkhkdbkkldaaDoor
