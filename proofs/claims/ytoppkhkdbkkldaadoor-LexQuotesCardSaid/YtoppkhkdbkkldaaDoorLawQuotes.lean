/-
  PROVED: the call of LexQuotes returns true and writes nothing below the old heap. CONDITION: Env.
-/
import Derived.Test.YtoppkhkdbkkldaaDoorWalkM
import Derived.Test.YtoppkhkdbkkldaaDoorWalkN
import Derived.Test.YtoppkhkdbkkldaaDoorBack
import Derived.Laws.StructEq
namespace Go.Proofs.YtoppkhkdbkkldaaDoor
open Go.RowKit
namespace Lx
theorem quoteBody_told : ∀ (S b : Bs), quoteBody S = some b → ∃ e, b = e ++ [34] ∧ unescape false e = S ∧ quoteTail (e ++ [34]) = some (e.length + 1)
  | [], b, h => ⟨[], by simpa [quoteBody] using h.symm, rfl, rfl⟩
  | c :: S, b, h => by
    rw [quoteBody] at h
    by_cases h10 : c.toNat = 10
    · rw [if_pos h10] at h
      obtain ⟨b', hb', rfl⟩ := Option.map_eq_some_iff.1 h
      obtain ⟨e, rfl, hu, hq⟩ := quoteBody_told S b' hb'
      obtain rfl : c = 10 := UInt8.toNat_inj.1 h10
      refine ⟨92 :: 110 :: e, rfl, ?_, ?_⟩
      · simp [unescape, hu]
      · rw [List.cons_append, quoteTail_cons, if_neg (by decide), if_pos (by decide)]
        simp only [List.cons_append]
        rw [if_pos (by decide), hq]; rfl
    rw [if_neg h10] at h
    by_cases h2 : c.toNat = 34 ∨ c.toNat = 92
    · rw [if_pos h2] at h
      obtain ⟨b', hb', rfl⟩ := Option.map_eq_some_iff.1 h
      obtain ⟨e, rfl, hu, hq⟩ := quoteBody_told S b' hb'
      refine ⟨92 :: c :: e, rfl, ?_, ?_⟩
      · have h110 : ¬ c.toNat = 110 := by omega
        simp [unescape, hu, h110]
      · rw [List.cons_append, quoteTail_cons, if_neg (by decide), if_pos (by decide)]
        simp only [List.cons_append]
        rw [if_pos (by omega), hq]; rfl
    rw [if_neg h2] at h
    by_cases h3 : c.toNat < 32 ∨ 126 < c.toNat
    · rw [if_pos h3] at h; cases h
    rw [if_neg h3] at h
    obtain ⟨b', hb', rfl⟩ := Option.map_eq_some_iff.1 h
    obtain ⟨e, rfl, hu, hq⟩ := quoteBody_told S b' hb'
    refine ⟨c :: e, rfl, ?_, ?_⟩
    · rw [unescape]
      have h92 : (c.toNat == 92) = false := by rw [beq_eq_false_iff_ne]; omega
      have h92' : (c.toNat != 92) = true := by rw [bne, h92]; rfl
      simp [hu, h92, h92']
    · rw [List.cons_append, quoteTail_cons, if_neg (by omega), if_neg (by omega), if_neg h3, hq]; rfl
theorem quote_token {S q : Bs} (h : quoteOf S = some q) : ∃ e, q = 34 :: (e ++ [34]) ∧ unescape false e = S ∧ tokenOf q = (3, q.length, 0) := by
  unfold quoteOf at h
  obtain ⟨b, hb, rfl⟩ := Option.map_eq_some_iff.1 h
  obtain ⟨e, rfl, hu, hq⟩ := quoteBody_told S b hb
  refine ⟨e, rfl, hu, ?_⟩
  have ht : textLen (34 :: (e ++ [34])) = (34 :: (e ++ [34])).length := by
    unfold textLen
    rw [List.tail_cons, hq]; simp
  rw [tokenOf.eq_def]
  simp only []
  rw [if_neg (by decide), if_neg (by decide), if_pos (by decide), if_neg (by rw [ht]; simp), ht]
theorem quote_value {S q : Bs} (h : quoteOf S = some q) : valueOf ⟨3, q, 0⟩ = some S := by
  obtain ⟨e, rfl, hu, ht⟩ := quote_token h
  have ha : isAlone ⟨3, 34 :: (e ++ [34]), 0⟩ = true := by
    unfold isAlone
    simp only []
    rw [if_neg (by simp), ht]
    simp only [beq_self_eq_true, Bool.true_and, decide_eq_true_eq]
    exact List.take_length
  unfold valueOf
  rw [ha]
  simp only [List.drop_succ_cons, List.drop_zero, List.length_cons, List.length_append, List.length_nil]
  rw [show e.length + (0 + 1) + 1 - 2 = e.length by omega, List.take_left, hu]
  rfl
theorem quote_lex {S q : Bs} (h : quoteOf S = some q) (hl : q.length ≤ 4096) : lexOf q = ([⟨3, q, 0⟩, ⟨5, [], (q.length : Int)⟩], 0, 0) := by
  obtain ⟨e, hqe, _, ht⟩ := quote_token h
  have h0 : q ≠ [] := by rw [hqe]; simp
  have hs := skip_tok (g := []) ht h0 Sep.nil (.inl rfl)
  simp only [List.append_nil, List.nil_append, List.length_nil] at hs
  rw [lexOf, if_neg (by omega), lexGo_succ, hs, List.drop_zero]
  obtain ⟨c, r, hcr⟩ : ∃ c r, q = c :: r := ⟨_, _, hqe⟩
  have h10 : c.toNat ≠ 10 := (token_head (c := c) (l := r) (by rw [← hcr, ht])).2
  have hlen : q.length = (q.length - 1) + 1 := by rw [hcr]; simp
  rw [hlen]
  generalize hn : q.length - 1 = n at hlen
  clear hs hqe
  subst hcr
  simp only []
  rw [if_neg h10, ht]
  simp only []
  rw [if_neg (by simp), if_neg (by simp), List.take_length, List.drop_length, lexGo_succ, skip_nil]
  have hc : lastClosing ([] ++ [⟨3, c :: r, ((0 + 0 : Nat) : Int)⟩]) = true := rfl
  simp only [List.drop_zero]
  rw [if_pos hc, if_neg (by simp)]
  have hr : r.length = n := by rw [List.length_cons] at hlen; omega
  simp [hr]
end Lx
theorem quote_len : ∀ (S b : List UInt8), Lx.quoteBody S = some b → b.length ≤ 2 * S.length + 1
  | [], b, h => by
    have : b = [34] := by simpa [Lx.quoteBody] using h.symm
    subst this; simp
  | c :: S, b, h => by
    rw [Lx.quoteBody] at h
    split at h
    · obtain ⟨b', hb', rfl⟩ := Option.map_eq_some_iff.1 h
      have := quote_len S b' hb'
      simp; omega
    split at h
    · obtain ⟨b', hb', rfl⟩ := Option.map_eq_some_iff.1 h
      have := quote_len S b' hb'
      simp; omega
    split at h
    · cases h
    obtain ⟨b', hb', rfl⟩ := Option.map_eq_some_iff.1 h
    have := quote_len S b' hb'
    simp; omega
theorem data_of (q : List UInt8) : (⟨q.toArray⟩ : ByteArray).data.toList = q := by simp
theorem of_data (u : ByteArray) : (⟨u.data.toList.toArray⟩ : ByteArray) = u := by simp
set_option maxRecDepth 100000 in
set_option maxHeartbeats 4000000 in
theorem lawQuotes_any (s : ByteArray) (w : World) (henv : Env w) (hs : s.size ≤ 9223372036854775807) :
    Calls Tryd.prog 8 #[.string s] w fun e w' => e = .returned (.bool true) ∧ Below w.heap.size w w' := by
  obtain ⟨n, hn⟩ : ∃ n, n = min s.size 2000 := ⟨_, rfl⟩
  have hmin : min (s.size : Int) 2000 = (n : Int) := by omega
  have hn2 : n ≤ s.size := by omega
  have hn9 : n ≤ 2000 := by omega
  clear hn
  go_enter Tryd.func8, Tryd.ntmps8
  go_wp2_with fail
  refine (wakes_any w henv).mono ?_
  rintro e w1 ⟨rfl, hb1⟩
  have e1 := henv.below hb1 henv.big
  have hu : (s.extract 0 n).size = n := extract_size0 s n hn2
  have hu9 : (s.extract 0 n).data.toList.length ≤ 2000 := by rw [← Lib.size_eq]; omega
  go_wp2_with fail
  generalize s.extract 0 n = u at hu hu9 ⊢
  refine (quote_any u w1 (by omega)).mono ?_
  rintro e w2 ⟨rfl, hb2⟩
  have hb12 := hb1.trans (hb2.mono hb1.size)
  have e2 := henv.below hb12 henv.big
  clear hmin
  cases hq : Lx.quoteOf u.data.toList with
  | none =>
    rw [quoteRes_none hq]
    clear hq
    go_wp2_with fail
    go_ret
    exact ⟨rfl, hb12⟩
  | some q =>
    rw [quoteRes_some hq]
    have hV := Lx.quote_value hq
    have hql : q.length ≤ 4002 := by
      unfold Lx.quoteOf at hq
      obtain ⟨b, hb, rfl⟩ := Option.map_eq_some_iff.1 hq
      have := quote_len _ b hb
      rw [List.length_cons]; omega
    have HL := Lib.hid (Lx.quote_lex hq (by omega))
    have HV := Lib.hid hV
    clear hq hV
    have hlong : ¬ (4096 : Int) < (q.length : Int) := by omega
    go_wp2_with fail
    refine (value_any 3 0 ⟨q.toArray⟩ w2 e2 (by show q.length ≤ _; omega)).mono ?_
    rintro e w3 ⟨rfl, hb3⟩
    rw [data_of, valueRes_some HV.out, of_data]
    have hb13 := hb12.trans (hb3.mono hb12.size)
    have e3 := henv.below hb13 henv.big
    go_wp2_with fail
    refine (lex_any ⟨q.toArray⟩ w3 e3 (by show q.length ≤ _; omega)).mono ?_
    rintro e w4 ⟨v, rfl, hown, _, hb4⟩
    have hb14 := hb13.trans (hb4.mono hb13.size)
    rw [data_of, HL.out] at hown ⊢
    simp only [] at hown ⊢
    obtain ⟨A, cap, rfl, hh⟩ := own_toks hown
    obtain ⟨g, rfl, hg, hc⟩ := hh (by simp)
    obtain ⟨c00, c01, c02⟩ := hc 0 _ rfl
    obtain ⟨c10, c11, c12⟩ := hc 1 _ rfl
    simp only [Nat.zero_mul, Nat.reduceAdd, Nat.zero_add, Nat.one_mul] at c00 c01 c02 c10 c11 c12
    simp only [List.length_cons, List.length_nil, Nat.reduceAdd]
    clear hown hh hc
    go_wp2_with fail
    go_ret
    exact ⟨rfl, hb14.alloc hb14.size _⟩

end Go.Proofs.YtoppkhkdbkkldaaDoor
