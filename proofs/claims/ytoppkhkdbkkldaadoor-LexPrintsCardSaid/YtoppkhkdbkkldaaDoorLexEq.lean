/-
  Plain facts on 'lexGo': it does not hang on its fuel; one pass of it as the program makes it.
-/
import Derived.Test.YtoppkhkdbkkldaaDoorNum
namespace Go.Proofs.YtoppkhkdbkkldaaDoor
namespace Lx

theorem tokenOf_pos {l : Bs} (h : (tokenOf l).2.2 = 0) : 0 < (tokenOf l).2.1 ∧ (tokenOf l).2.1 ≤ l.length := by
  have h1 := runLen_le isWord l
  have h2 := runLen_le isDigit l
  have h3 := textLen_le l
  have h4 := signLen_le l
  cases l with
  | nil => simp [tokenOf] at h
  | cons c r =>
    have key : ∀ x : Int × Nat × Int, tokenOf (c :: r) = x → x.2.2 = 0 → 0 < x.2.1 ∧ x.2.1 ≤ (c :: r).length := by
      intro x hx hz
      rw [tokenOf.eq_def] at hx
      simp only [] at hx
      split at hx
      · rename_i hl
        have hp : 0 < runLen isWord (c :: r) := runLen_pos (by simp [isWord, hl])
        split at hx <;> subst hx
        · simp at hz
        · exact ⟨hp, h1⟩
      split at hx
      · rename_i hd
        have hp : 0 < runLen isDigit (c :: r) := runLen_pos hd
        split at hx
        · subst hx; simp at hz
        split at hx <;> subst hx
        · simp at hz
        · exact ⟨hp, h2⟩
      split at hx
      · split at hx <;> subst hx
        · simp at hz
        · exact ⟨by simp only []; omega, h3⟩
      split at hx
      · subst hx; simp
      split at hx <;> subst hx
      · simp at hz
      · exact ⟨by simp only []; omega, h4⟩
    exact key _ rfl h

/-- The blanks and the comment that stand in the way. -/
def skipLen (l : Bs) : Nat :=
  runLen isBlank l + (if Lib.hasPrefix (l.drop (runLen isBlank l)) [47, 47] then runLen notFeed (l.drop (runLen isBlank l)) else 0)
theorem skipLen_le (l : Bs) : skipLen l ≤ l.length := by
  have h1 := runLen_le isBlank l
  have h2 := runLen_le notFeed (l.drop (runLen isBlank l))
  rw [List.length_drop] at h2
  unfold skipLen
  split <;> omega

theorem lexGo_succ (f : Nat) (acc : List Tok) (a : Nat) (l : Bs) : lexGo (f + 1) acc a l =
    match l.drop (skipLen l) with
    | [] => if lastClosing acc then (if acc.length = 1024 then ([], 3, a + skipLen l) else (acc ++ [⟨5, [], (a + skipLen l : Nat)⟩], 0, 0)) else (acc, 0, 0)
    | d :: r =>
      if d.toNat = 10 then
        if lastClosing acc then (if acc.length = 1024 then ([], 3, a + skipLen l) else lexGo f (acc ++ [⟨5, [], (a + skipLen l : Nat)⟩]) (a + skipLen l + 1) r)
        else lexGo f acc (a + skipLen l + 1) r
      else if (tokenOf (d :: r)).2.2 ≠ 0 then ([], (tokenOf (d :: r)).2.2, a + skipLen l)
      else if acc.length = 1024 then ([], 3, a + skipLen l)
      else lexGo f (acc ++ [⟨(tokenOf (d :: r)).1, (d :: r).take (tokenOf (d :: r)).2.1, (a + skipLen l : Nat)⟩]) (a + skipLen l + (tokenOf (d :: r)).2.1) ((d :: r).drop (tokenOf (d :: r)).2.1) := by
  have e1 : (l.drop (runLen isBlank l)).drop (if Lib.hasPrefix (l.drop (runLen isBlank l)) [47, 47] then runLen notFeed (l.drop (runLen isBlank l)) else 0) = l.drop (skipLen l) := by
    rw [List.drop_drop]; rfl
  have e2 : a + runLen isBlank l + (if Lib.hasPrefix (l.drop (runLen isBlank l)) [47, 47] then runLen notFeed (l.drop (runLen isBlank l)) else 0) = a + skipLen l := by
    unfold skipLen; omega
  rw [lexGo]
  simp only [e1, e2]
  cases l.drop (skipLen l) <;> rfl

theorem lexGo_fuel : ∀ (f f' : Nat) (acc : List Tok) (a : Nat) (l : Bs), l.length < f → l.length < f' → lexGo f acc a l = lexGo f' acc a l := by
  intro f
  induction f with
  | zero => intro f' acc a l h; omega
  | succ f ih =>
    intro f' acc a l h h'
    obtain ⟨f', rfl⟩ : ∃ k, f' = k + 1 := ⟨f' - 1, by omega⟩
    rw [lexGo_succ, lexGo_succ]
    have hlen : (l.drop (skipLen l)).length ≤ l.length := by rw [List.length_drop]; omega
    generalize l.drop (skipLen l) = m at hlen
    cases m with
    | nil => rfl
    | cons d r =>
      rw [List.length_cons] at hlen
      simp only []
      split
      · split
        · split
          · rfl
          · exact ih _ _ _ _ (by omega) (by omega)
        · exact ih _ _ _ _ (by omega) (by omega)
      split
      · rfl
      split
      · rfl
      rename_i he _
      have hp := tokenOf_pos (l := d :: r) (by omega)
      exact ih _ _ _ _ (by rw [List.length_drop, List.length_cons]; omega) (by rw [List.length_drop, List.length_cons]; omega)

/-- What comes of the rest of a text, from a place on. -/
def lexFrom (L : Bs) (acc : List Tok) (a : Nat) : List Tok × Int × Nat := lexGo (L.length + 1) acc a (L.drop a)
/-- .. behind a line's end. -/
def lexStep (L : Bs) (acc : List Tok) (a : Nat) : List Tok × Int × Nat := if a < L.length then lexFrom L acc (a + 1) else (acc, 0, 0)
theorem lexOf_long {L : Bs} (h : 4096 < L.length) : lexOf L = ([], 3, 0) := by unfold lexOf; rw [if_pos h]
theorem lexOf_from {L : Bs} (h : ¬ 4096 < L.length) : lexOf L = lexFrom L [] 0 := by unfold lexOf lexFrom; rw [if_neg h, List.drop_zero]
theorem lexStep_go {L : Bs} {acc : List Tok} {a : Nat} (h : a < L.length) : lexStep L acc a = lexFrom L acc (a + 1) := by unfold lexStep; rw [if_pos h]
theorem lexStep_end {L : Bs} {acc : List Tok} {a : Nat} (h : ¬ a < L.length) : lexStep L acc a = (acc, 0, 0) := by unfold lexStep; rw [if_neg h]

/-- The place at which something stands, from a place on. -/
def placeOf (L : Bs) (a : Nat) : Nat := a + skipLen (L.drop a)
theorem placeOf_le {L : Bs} {a : Nat} (h : a ≤ L.length) : placeOf L a ≤ L.length := by
  have := skipLen_le (L.drop a)
  rw [List.length_drop] at this
  unfold placeOf; omega
theorem placeOf_ge (L : Bs) (a : Nat) : a ≤ placeOf L a := by unfold placeOf; omega
theorem drop_place (L : Bs) (a : Nat) : (L.drop a).drop (skipLen (L.drop a)) = L.drop (placeOf L a) := by rw [List.drop_drop]; rfl

/-- At the end, or at a line feed, there is nothing to tell. -/
theorem from_ends_open {L : Bs} {acc : List Tok} {a : Nat} (he : placeOf L a = L.length ∨ (L.drop (placeOf L a)).head? = some 10) (hc : lastClosing acc = false) : lexFrom L acc a = lexStep L acc (placeOf L a) := by
  unfold lexFrom
  rw [lexGo_succ, drop_place]
  by_cases hp : placeOf L a < L.length
  · rw [lexStep_go hp]
    rw [List.drop_eq_getElem_cons hp] at he ⊢
    have h10 : L[placeOf L a].toNat = 10 := by
      rcases he with he | he
      · omega
      · rw [List.head?_cons, Option.some_inj] at he; rw [he]; rfl
    simp only []
    rw [if_pos h10, if_neg (by rw [hc]; exact Bool.false_ne_true)]
    unfold lexFrom
    exact lexGo_fuel _ _ _ _ _ (by rw [List.length_drop]; omega) (by rw [List.length_drop]; omega)
  · rw [lexStep_end hp, List.drop_eq_nil_of_le (by omega)]
    simp only []
    rw [if_neg (by rw [hc]; exact Bool.false_ne_true)]
theorem from_ends_full {L : Bs} {acc : List Tok} {a : Nat} (he : placeOf L a = L.length ∨ (L.drop (placeOf L a)).head? = some 10) (hc : lastClosing acc = true) (hn : acc.length = 1024) : lexFrom L acc a = ([], 3, placeOf L a) := by
  unfold lexFrom
  rw [lexGo_succ, drop_place]
  by_cases hp : placeOf L a < L.length
  · rw [List.drop_eq_getElem_cons hp] at he ⊢
    have h10 : L[placeOf L a].toNat = 10 := by
      rcases he with he | he
      · omega
      · rw [List.head?_cons, Option.some_inj] at he; rw [he]; rfl
    simp only []
    rw [if_pos h10, if_pos hc, if_pos hn]; rfl
  · rw [List.drop_eq_nil_of_le (by omega)]
    simp only []
    rw [if_pos hc, if_pos hn]; rfl
theorem from_ends_told {L : Bs} {acc : List Tok} {a : Nat} (he : placeOf L a = L.length ∨ (L.drop (placeOf L a)).head? = some 10) (hc : lastClosing acc = true) (hn : ¬ acc.length = 1024) :
    lexFrom L acc a = lexStep L (acc ++ [⟨5, [], (placeOf L a : Nat)⟩]) (placeOf L a) := by
  unfold lexFrom
  rw [lexGo_succ, drop_place]
  by_cases hp : placeOf L a < L.length
  · rw [lexStep_go hp]
    rw [List.drop_eq_getElem_cons hp] at he ⊢
    have h10 : L[placeOf L a].toNat = 10 := by
      rcases he with he | he
      · omega
      · rw [List.head?_cons, Option.some_inj] at he; rw [he]; rfl
    simp only []
    rw [if_pos h10, if_pos hc, if_neg hn]
    unfold lexFrom
    exact lexGo_fuel _ _ _ _ _ (by rw [List.length_drop]; omega) (by rw [List.length_drop]; omega)
  · rw [lexStep_end hp, List.drop_eq_nil_of_le (by omega)]
    simp only []
    rw [if_pos hc, if_neg hn]; rfl
theorem from_tok_err {L : Bs} {acc : List Tok} {a : Nat} (hp : placeOf L a < L.length) (h10 : ¬ (L.drop (placeOf L a)).head? = some 10) (he : ¬ (tokenOf (L.drop (placeOf L a))).2.2 = 0) :
    lexFrom L acc a = ([], (tokenOf (L.drop (placeOf L a))).2.2, placeOf L a) := by
  unfold lexFrom
  rw [lexGo_succ, drop_place]
  rw [List.drop_eq_getElem_cons hp] at h10 he ⊢
  simp only []
  rw [if_neg (fun h => h10 (by rw [List.head?_cons]; congr 1; exact UInt8.toNat_inj.1 h)), if_pos he]; rfl
theorem from_tok_full {L : Bs} {acc : List Tok} {a : Nat} (hp : placeOf L a < L.length) (h10 : ¬ (L.drop (placeOf L a)).head? = some 10) (he : (tokenOf (L.drop (placeOf L a))).2.2 = 0) (hn : acc.length = 1024) :
    lexFrom L acc a = ([], 3, placeOf L a) := by
  unfold lexFrom
  rw [lexGo_succ, drop_place]
  rw [List.drop_eq_getElem_cons hp] at h10 he ⊢
  simp only []
  rw [if_neg (fun h => h10 (by rw [List.head?_cons]; congr 1; exact UInt8.toNat_inj.1 h)), if_neg (by omega), if_pos hn]; rfl
theorem from_tok_told {L : Bs} {acc : List Tok} {a : Nat} (hp : placeOf L a < L.length) (h10 : ¬ (L.drop (placeOf L a)).head? = some 10) (he : (tokenOf (L.drop (placeOf L a))).2.2 = 0) (hn : ¬ acc.length = 1024) :
    lexFrom L acc a = lexFrom L (acc ++ [⟨(tokenOf (L.drop (placeOf L a))).1, (L.drop (placeOf L a)).take (tokenOf (L.drop (placeOf L a))).2.1, (placeOf L a : Nat)⟩]) (placeOf L a + (tokenOf (L.drop (placeOf L a))).2.1) := by
  have hpos := tokenOf_pos he
  unfold lexFrom
  rw [lexGo_succ, drop_place]
  rw [← List.drop_drop]
  rw [List.drop_eq_getElem_cons hp] at h10 he hpos ⊢
  simp only []
  rw [if_neg (fun h => h10 (by rw [List.head?_cons]; congr 1; exact UInt8.toNat_inj.1 h)), if_neg (by omega), if_neg hn]
  rw [List.length_cons, List.length_drop] at hpos
  exact lexGo_fuel _ _ _ _ _ (by rw [List.length_drop, List.length_cons, List.length_drop]; omega) (by rw [List.length_drop, List.length_cons, List.length_drop]; omega)
end Lx
end Go.Proofs.YtoppkhkdbkkldaaDoor
