/-
  THE PLAIN LAW OF ScriptBack, second part: events, lines, whole texts, there and back. No program in sight.
-/
import Derived.Test.YthpojljfmipngaaGreatDoorBackA
namespace Go.Proofs.YthpojljfmipngaaGreatDoor
namespace Sc
theorem kind_word : ∀ k : Fin 12, kindOf (words.getD k.val []) = k.val := by decide +kernel
theorem kind_word' {k : Int} (h1 : 1 ≤ k) (h2 : k ≤ 11) : kindOf (words.getD k.toNat []) = k := by
  have := kind_word ⟨k.toNat, by omega⟩
  simp only at this
  rw [this]; omega
theorem words_len : words.length = 12 := rfl
theorem kind_rg (w : Bs) : 0 ≤ kindOf w ∧ kindOf w ≤ 11 := by
  unfold kindOf
  have := Nat.mod_lt (words.idxOf w) (show 12 > 0 by decide)
  omega
theorem word_kind {w : Bs} (h : 1 ≤ kindOf w) : words.getD (kindOf w).toNat [] = w := by
  unfold kindOf at h ⊢
  have hle : words.idxOf w ≤ 12 := List.idxOf_le_length
  have hlt : words.idxOf w < words.length := by
    rw [words_len]
    rcases Nat.lt_or_ge (words.idxOf w) 12 with h' | h'
    · exact h'
    · have : words.idxOf w = 12 := by omega
      rw [this] at h; simp at h
  rw [words_len] at hlt
  rw [Int.toNat_natCast, Nat.mod_eq_of_lt hlt, List.getD_eq_getElem?_getD, List.getElem?_eq_getElem (by rw [words_len]; exact hlt)]
  exact List.getElem_idxOf _
theorem words_chars : ∀ w ∈ words, ∀ c ∈ w, c ≠ 32 ∧ c ≠ 10 := by decide
theorem getD_word (k : Nat) : ∀ c ∈ words.getD k [], c ≠ 32 ∧ c ≠ 10 := by
  intro c hc
  rw [List.getD_eq_getElem?_getD] at hc
  cases hk : words[k]? with
  | none => rw [hk] at hc; simp at hc
  | some w => rw [hk] at hc; exact words_chars w (List.mem_of_getElem? hk) c hc
/-! ### the event that its numbers build -/
theorem two_of {l : List Int} (h : l.length = 2) : ∃ a b, l = [a, b] := by
  match l, h with
  | [a, b], _ => exact ⟨a, b, rfl⟩
theorem ix13 : List.idxOf 3 [1, 3] = 1 := rfl
theorem ix34 : List.idxOf 4 [3, 4] = 1 := rfl
theorem ix12 : List.idxOf 2 [1, 2] = 1 := rfl
theorem build_nums (x : Ev) : build x.kind (nums x) = { clean x with keep := [], bytes := [] } := by
  unfold build nums clean offs getF
  simp only
  split
  · simp
  split
  · simp [ix13]
  split
  · simp
  split
  · simp [ix34]
  split
  · simp [ix12]
  · simp
theorem nums_build (k : Int) (vs : List Int) (h : vs.length = (offs k).length) : (offs k).map (getF (build k vs)) = vs := by
  unfold build getF
  simp only
  unfold offs at h ⊢
  split at h
  · rename_i hc
    obtain ⟨a, rfl⟩ := List.length_eq_one_iff.1 h
    simp [hc]
  rename_i c1
  split at h
  · rename_i hc
    obtain ⟨a, b, rfl⟩ := two_of h
    simp [c1, hc, ix13]
  rename_i c2
  split at h
  · rename_i hc
    obtain ⟨a, rfl⟩ := List.length_eq_one_iff.1 h
    simp [c1, c2, hc]
  rename_i c3
  split at h
  · rename_i hc
    obtain ⟨a, b, rfl⟩ := two_of h
    simp [hc, ix34]
  rename_i c4
  split at h
  · rename_i hc
    obtain ⟨a, b, rfl⟩ := two_of h
    simp [hc, ix12]
  · rename_i hc
    have : vs = [] := List.length_eq_zero_iff.1 h
    simp [c1, c2, c3, c4, hc, this]
/-! ### what a line says behind its numbers -/
def more (x : Ev) : Bs := if x.kind = 1 then quoteT x.bytes else if x.kind = 8 then [32, 61] ++ bits x.keep else []
theorem evLine_eq (x : Ev) : evLine x = (words.getD x.kind.toNat [] ++ (numsText (nums x) ++ more x)) ++ [10] := by
  unfold evLine more; simp
theorem quoteT_tl (s : Bs) : quoteT s = tl (34 :: (s.flatMap esc ++ [34])) := by
  rw [tl_ne (by simp)]; rfl
theorem bits_chars (l : List Bool) : ∀ c ∈ bits l, c = 48 ∨ c = 49 := by
  intro c hc
  unfold bits at hc
  rw [List.mem_map] at hc
  obtain ⟨b, _, rfl⟩ := hc
  cases b
  · exact .inl rfl
  · exact .inr rfl
theorem bitsOf_bits (l : List Bool) : bitsOf (bits l) = l := by
  unfold bitsOf bits
  rw [List.map_map]
  conv => rhs; rw [← List.map_id l]
  exact List.map_congr_left (fun b _ => by cases b <;> rfl)
theorem isBits_bits (l : List Bool) : isBits (bits l) = true := by
  unfold isBits
  rw [List.all_eq_true]
  intro c hc
  rcases bits_chars l c hc with rfl | rfl <;> rfl
theorem bits_bitsOf (s : Bs) (h : isBits s = true) : bits (bitsOf s) = s := by
  unfold isBits at h
  rw [List.all_eq_true] at h
  unfold bits bitsOf
  rw [List.map_map]
  conv => rhs; rw [← List.map_id s]
  refine List.map_congr_left (fun c hc => ?_)
  have := h c hc
  simp only [Bool.or_eq_true, decide_eq_true_eq] at this
  rcases this with h | h
  · have : c = 48 := UInt8.toNat_inj.1 h
    subst this; rfl
  · have : c = 49 := UInt8.toNat_inj.1 h
    subst this; rfl
/-! ### there -/
theorem wrong_parts {x : Ev} (h : wrong x = false) : 1 ≤ x.kind ∧ x.kind ≤ 11 ∧ (∀ v ∈ nums x, wideN v = false) ∧ x = clean x := by
  unfold wrong wides at h
  simp only [Bool.or_eq_false_iff, Bool.not_eq_false', decide_eq_false_iff_not, decide_eq_true_eq, List.any_eq_false, Bool.not_eq_true] at h
  exact ⟨by omega, by omega, h.1.1.1.2, h.1.1.2⟩
theorem event_print {x : Ev} (hx : wrong x = false) (m : Bs) (hm : tl m = numsText (nums x) ++ more x) : event (words.getD x.kind.toNat []) ⟨m, false⟩ = (x, ⟨[], false⟩) := by
  obtain ⟨k1, k2, hw, hc⟩ := wrong_parts hx
  have hlen : (offs x.kind).length = (nums x).length := by unfold nums; rw [List.length_map]
  have e0 : event0 x.kind ⟨m, false⟩ = (x, ⟨[], false⟩) := by
    unfold event0
    by_cases h1 : x.kind = 1
    · have hm' : tl m = numsText (nums x) ++ tl (34 :: (x.bytes.flatMap esc ++ 34 :: [])) := by rw [hm, ← quoteT_tl]; unfold more; rw [if_pos h1]
      rw [if_pos h1, hlen, numsRd_print (nums x) m _ hw hm']
      simp only
      rw [text_print, build_nums, hc]
      have : clean (clean x) = clean x := by rw [← hc]; exact hc.symm
      rw [← hc]
      conv => rhs; rw [hc]
      unfold clean
      simp [h1]
    · by_cases h8 : x.kind = 8
      · have hm' : tl m = numsText (nums x) ++ tl (61 :: bits x.keep) := by
          rw [hm, show tl (61 :: bits x.keep) = 32 :: 61 :: bits x.keep from tl_ne (by simp)]; unfold more; rw [if_neg h1, if_pos h8]; rfl
        have ht : token ⟨61 :: bits x.keep, false⟩ = (61 :: bits x.keep, ⟨[], false⟩) := by
          have := token_word (61 :: bits x.keep) [] false (by
            intro c hc
            rcases List.mem_cons.1 hc with rfl | h
            · decide
            · rcases bits_chars _ c h with rfl | rfl <;> decide)
          rwa [tl_nil, List.append_nil] at this
        have p1 : Lib.hasPrefix (61 :: bits x.keep) [61] = true := by unfold Lib.hasPrefix; simp
        have p2 : Lib.trimPrefix (61 :: bits x.keep) [61] = bits x.keep := by unfold Lib.trimPrefix; rw [if_pos p1]; rfl
        rw [if_neg h1, if_pos h8, hlen, numsRd_print (nums x) m _ hw hm']
        simp only
        rw [ht]
        simp only
        rw [p1, p2, isBits_bits, bitsOf_bits, build_nums]
        conv => rhs; rw [hc]
        unfold clean
        simp [h8]
      · have hm' : tl m = numsText (nums x) ++ tl [] := by rw [hm]; unfold more; rw [if_neg h1, if_neg h8]; rfl
        rw [if_neg h1, if_neg h8, hlen, numsRd_print (nums x) m _ hw hm', build_nums]
        conv => rhs; rw [hc]
        unfold clean
        simp [h1, h8]
  unfold event
  rw [kind_word' k1 k2, e0]
  simp [hx]
theorem body_print {x : Ev} (hx : wrong x = false) (k : Nat) (hk : k + 1 ≤ 300) : body (words.getD x.kind.toNat [] ++ (numsText (nums x) ++ more x)) k = (x, true) := by
  obtain ⟨m, hm, _⟩ : ∃ m, numsText (nums x) ++ more x = tl m ∧ True := by
    unfold more
    split
    · rw [quoteT_tl]; obtain ⟨m, h, _⟩ := nums_tl (nums x) (34 :: (x.bytes.flatMap esc ++ [34])); exact ⟨m, h, trivial⟩
    split
    · obtain ⟨m, h, _⟩ := nums_tl (nums x) (61 :: bits x.keep)
      rw [show tl (61 :: bits x.keep) = 32 :: 61 :: bits x.keep from tl_ne (by simp)] at h
      exact ⟨m, h, trivial⟩
    · obtain ⟨m, h, _⟩ := nums_tl (nums x) []
      rw [tl_nil] at h
      exact ⟨m, h, trivial⟩
  unfold body
  rw [hm, token_word _ m false (fun c hc => (getD_word _ c hc).1)]
  simp only
  rw [event_print hx m hm.symm]
  simp; omega
theorem head_print (a b : Int) (ha : wideN a = false) (hb : wideN b = false) : head (worldW ++ numsText [a, b]) = (a, b, true) := by
  obtain ⟨m, hm, _⟩ := nums_tl [a, b] []
  rw [tl_nil, List.append_nil] at hm
  unfold head
  rw [hm, token_word _ m false (by decide)]
  simp only
  rw [show (2 : Nat) = [a, b].length from rfl, numsRd_print [a, b] m [] (by intro v hv; simp at hv; rcases hv with rfl | rfl <;> assumption) (by rw [tl_nil, List.append_nil]; exact hm.symm)]
  simp
theorem itoa_feed (v : Int) : ∀ x ∈ Lib.itoa v, x ≠ 10 := by
  intro x hx e
  subst e
  have := itoa_char v _ hx
  have e : (10 : UInt8).toNat = 10 := rfl
  omega
theorem nums_feed (vs : List Int) : ∀ x ∈ numsText vs, x ≠ 10 := by
  intro x hx
  unfold numsText at hx
  rw [List.mem_flatMap] at hx
  obtain ⟨v, _, h⟩ := hx
  rcases List.mem_cons.1 h with rfl | h
  · decide
  · exact itoa_feed v x h
theorem hexd_feed : ∀ n : Fin 16, hexd n.val ≠ 10 := by decide
theorem esc_feed' (c : UInt8) : ∀ x ∈ esc c, x ≠ 10 := by
  intro x hx e
  subst e
  unfold esc at hx
  have d1 := hexd_feed ⟨c.toNat / 16, by have := c.toNat_lt; omega⟩
  have d2 := hexd_feed ⟨c.toNat % 16, by omega⟩
  simp only at d1 d2
  split at hx
  · rename_i h
    simp at hx
    subst hx
    simp at h
  split at hx
  · simp at hx
  split at hx
  · simp at hx
  split at hx
  · simp at hx
    rcases hx with h | h
    · exact d1 h.symm
    · exact d2 h.symm
  · rename_i h _ _
    simp at hx
    subst hx
    simp at h
theorem quote_feed (s : Bs) : ∀ x ∈ quoteT s, x ≠ 10 := by
  intro x hx
  unfold quoteT at hx
  simp only [List.mem_append, List.mem_cons, List.mem_flatMap, List.not_mem_nil, or_false] at hx
  rcases hx with (rfl | rfl) | (⟨c, _, h⟩ | rfl)
  · decide
  · decide
  · exact esc_feed' c x h
  · decide
theorem line_feed (x : Ev) : ∀ c ∈ words.getD x.kind.toNat [] ++ (numsText (nums x) ++ more x), c ≠ 10 := by
  intro c hc
  rcases List.mem_append.1 hc with h | h
  · exact (getD_word _ c h).2
  rcases List.mem_append.1 h with h | h
  · exact nums_feed _ c h
  · unfold more at h
    split at h
    · exact quote_feed _ c h
    split at h
    · rcases List.mem_append.1 h with h | h
      · simp at h; rcases h with rfl | rfl <;> decide
      · rcases bits_chars _ c h with rfl | rfl <;> decide
    · simp at h
theorem parse_events (evs : List Ev) : ∀ (at_ n : Nat) (s : Scr), 1 ≤ n → (∀ x ∈ evs, wrong x = false) → s.events.length + evs.length ≤ 300 → parseGo (evs.flatMap evLine) at_ n s = (⟨s.servers, s.area, s.events ++ evs⟩, 0, 0) := by
  induction evs with
  | nil =>
    intro at_ n s hn _ _
    rw [List.flatMap_nil, parseGo, if_pos rfl, if_neg (by omega), List.append_nil]
  | cons x evs ih =>
    intro at_ n s hn hw hl
    have hx := hw x (by simp)
    rw [List.length_cons] at hl
    rw [List.flatMap_cons, evLine_eq, List.append_assoc, List.singleton_append, parseGo, if_neg (by simp), upto_word 10 _ _ (line_feed x), if_pos rfl]
    have hline : line s (words.getD x.kind.toNat [] ++ (numsText (nums x) ++ more x)) n = (⟨s.servers, s.area, s.events ++ [x]⟩, true) := by
      unfold line
      rw [if_neg (by omega), body_print hx _ (by omega)]
    rw [hline, if_pos rfl, ih _ _ _ (by omega) (fun y hy => hw y (by simp [hy])) (by simp; omega)]
    simp
theorem check_parts {s : Scr} (h : checkOf s = 0) : wideN s.servers = false ∧ wideN s.area = false ∧ s.events.length ≤ 300 ∧ ∀ x ∈ s.events, wrong x = false := by
  unfold checkOf at h
  split at h
  · cases h
  · rename_i hc
    simp only [Bool.not_eq_true, Bool.or_eq_false_iff, decide_eq_false_iff_not, wides, List.any_cons, List.any_nil, Bool.or_false, List.any_eq_false] at hc
    exact ⟨hc.1.1.1, hc.1.1.2, by omega, hc.2⟩
theorem check_of {s : Scr} (h1 : wideN s.servers = false) (h2 : wideN s.area = false) (h3 : s.events.length ≤ 300) (h4 : ∀ x ∈ s.events, wrong x = false) : checkOf s = 0 := by
  unfold checkOf
  rw [if_neg]
  simp only [Bool.not_eq_true, Bool.or_eq_false_iff, decide_eq_false_iff_not, wides, List.any_cons, List.any_nil, Bool.or_false, List.any_eq_false]
  exact ⟨⟨⟨h1, h2⟩, by omega⟩, h4⟩
/-- What was printed is read as it was. -/
theorem parse_print (s : Scr) (h : (printOf s).2 = 0) : parseOf (printOf s).1 = (s, 0, 0) := by
  unfold printOf at h ⊢
  split at h
  · rename_i hc
    split at h
    · cases h
    · rename_i hl
      rw [if_pos hc, if_neg hl]
      obtain ⟨h1, h2, h3, h4⟩ := check_parts hc
      unfold parseOf
      simp only
      rw [if_neg hl]
      have e : textOf s = (worldW ++ numsText [s.servers, s.area]) ++ 10 :: s.events.flatMap evLine := by unfold textOf worldW; simp
      rw [e, parseGo, if_neg (by simp), upto_word 10 _ _ (by
        intro c hc
        rcases List.mem_append.1 hc with h | h
        · exact (show ∀ c ∈ worldW, c ≠ 10 by decide) c h
        · exact nums_feed _ c h), if_pos rfl]
      have hline : line zeroS (worldW ++ numsText [s.servers, s.area]) 0 = (⟨s.servers, s.area, []⟩, true) := by
        unfold line
        rw [if_pos (by omega), head_print _ _ h1 h2]; rfl
      rw [hline, if_pos rfl, parse_events _ _ _ _ (by omega) h4 (by simpa using h3)]
      simp
  · cases h
/-! ### back -/
theorem event0_kind (k : Int) (r : Rd) : (event0 k r).1.kind = k := by
  unfold event0 build
  split
  · rfl
  split <;> rfl
theorem event_inv (w : Bs) (r : Rd) (hb : (event w r).2.bad = false) (hr : (event w r).2.rest = []) : r.bad = false ∧ wrong (event w r).1 = false ∧ evLine (event w r).1 = (w ++ tl r.rest) ++ [10] := by
  unfold event at hb hr ⊢
  simp only [Bool.or_eq_false_iff] at hb hr ⊢
  obtain ⟨hb, hw⟩ := hb
  obtain ⟨k1, k2, _, _⟩ := wrong_parts hw
  rw [event0_kind] at k1 k2
  have hword := word_kind k1
  generalize kindOf w = k at *
  have hlen : (numsRd (offs k).length r).1.length = (offs k).length := numsRd_len _ _
  have key : r.bad = false ∧ tl r.rest = numsText (numsRd (offs k).length r).1 ++ more (event0 k r).1 ∧ nums (event0 k r).1 = (numsRd (offs k).length r).1 := by
    unfold event0 at hb hr ⊢
    by_cases h1 : k = 1
    · rw [if_pos h1] at hb hr ⊢
      simp only at hb hr ⊢
      obtain ⟨t1, t2, t3⟩ := text_inv _ hb
      obtain ⟨n1, n2, _⟩ := nums_inv _ _ t1
      refine ⟨n1, ?_, nums_build k _ hlen⟩
      rw [n2]
      unfold more
      rw [if_pos (show (build k _).kind = 1 from h1)]
      rw [quoteT_tl, ← t2]
    · by_cases h8 : k = 8
      · rw [if_neg h1, if_pos h8] at hb hr ⊢
        simp only [Bool.or_eq_false_iff, Bool.not_eq_false', Bool.and_eq_true] at hb hr ⊢
        obtain ⟨t1, t2, _⟩ := token_inv _ hb.1
        obtain ⟨n1, n2, _⟩ := nums_inv _ _ t1
        refine ⟨n1, ?_, nums_build k _ hlen⟩
        rw [n2]
        unfold more
        rw [if_neg (show ¬ (build k _).kind = 1 from h1), if_pos (show (build k _).kind = 8 from h8)]
        simp only
        rw [bits_bitsOf _ hb.2.2, t2, hr, tl_nil, List.append_nil]
        have hp := hb.2.1
        generalize (token (numsRd (offs k).length r).2).1 = s at hp
        unfold Lib.trimPrefix
        rw [if_pos hp]
        unfold Lib.hasPrefix at hp
        cases s with
        | nil => simp at hp
        | cons a b =>
          simp at hp
          rw [tl_ne (by simp), hp]; rfl
      · rw [if_neg h1, if_neg h8] at hb hr ⊢
        obtain ⟨n1, n2, _⟩ := nums_inv _ _ hb
        refine ⟨n1, ?_, nums_build k _ hlen⟩
        rw [n2]
        unfold more
        rw [if_neg (show ¬ (build k _).kind = 1 from h1), if_neg (show ¬ (build k _).kind = 8 from h8), hr, tl_nil]
  refine ⟨key.1, hw, ?_⟩
  rw [evLine_eq, event0_kind, hword, key.2.2, ← key.2.1]
theorem body_inv (l : Bs) (k : Nat) (h : (body l k).2 = true) : wrong (body l k).1 = false ∧ evLine (body l k).1 = l ++ [10] ∧ k + 1 ≤ 300 := by
  unfold body at h ⊢
  simp only [Bool.and_eq_true, Bool.not_eq_true', Bool.or_eq_false_iff, decide_eq_false_iff_not, List.isEmpty_iff] at h ⊢
  obtain ⟨e1, e2, e3⟩ := event_inv _ _ h.1.1 h.2
  obtain ⟨_, t2, _⟩ := token_inv _ e1
  refine ⟨e2, ?_, by omega⟩
  rw [e3, ← t2]
theorem head_inv (l : Bs) (h : (head l).2.2 = true) : wideN (head l).1 = false ∧ wideN (head l).2.1 = false ∧ l = worldW ++ numsText [(head l).1, (head l).2.1] := by
  unfold head at h ⊢
  simp only [Bool.and_eq_true, Bool.not_eq_true', Bool.or_eq_false_iff, Bool.not_eq_false', decide_eq_true_eq, List.isEmpty_iff] at h ⊢
  obtain ⟨⟨hb, hw⟩, hr⟩ := h
  obtain ⟨n1, n2, n3⟩ := nums_inv _ _ hb
  obtain ⟨_, t2, _⟩ := token_inv _ n1
  rw [hr, tl_nil, List.append_nil] at n2
  obtain ⟨a, b, hab⟩ := two_of (numsRd_len 2 (token ⟨l, false⟩).2)
  rw [hab] at n2 n3 ⊢
  refine ⟨n3 a (by simp), n3 b (by simp), ?_⟩
  simp only [List.getD_cons_zero, List.getD_cons_succ]
  rw [← n2, ← hw]
  exact t2
theorem parse_inv (rest : Bs) (at_ n : Nat) (s : Scr) (hn : 1 ≤ n) (hs : s.events.length ≤ 300) (h : (parseGo rest at_ n s).2.2 = 0) :
    ∃ evs, (parseGo rest at_ n s).1 = ⟨s.servers, s.area, s.events ++ evs⟩ ∧ rest = evs.flatMap evLine ∧ (∀ x ∈ evs, wrong x = false) ∧ s.events.length + evs.length ≤ 300 := by
  induction rest, at_, n, s using parseGo.induct with
  | case1 at_ n s h0 => omega
  | case2 at_ n s h0 =>
    rw [parseGo, if_pos rfl, if_neg h0]
    exact ⟨[], by simp, rfl, by simp, by simpa using hs⟩
  | case3 rest at_ n s h0 h1 h2 ih =>
    have e : parseGo rest at_ n s = parseGo (upto 10 rest).2.1 (at_ + (upto 10 rest).1.length + 1) (n + 1) (line s (upto 10 rest).1 n).1 := by
      rw [parseGo, if_neg h0, if_pos h1, if_pos h2]
    have hsp := upto_split 10 rest h1
    rw [e] at h ⊢
    have hl : line s (upto 10 rest).1 n = (⟨s.servers, s.area, s.events ++ [(body (upto 10 rest).1 s.events.length).1]⟩, (body (upto 10 rest).1 s.events.length).2) := by
      unfold line; rw [if_neg (by omega)]
    rw [hl] at ih h h2 ⊢
    obtain ⟨b1, b2, b3⟩ := body_inv _ _ h2
    obtain ⟨evs, i1, i2, i3, i4⟩ := ih (by omega) (by simp; omega) h
    refine ⟨(body (upto 10 rest).1 s.events.length).1 :: evs, ?_, ?_, ?_, ?_⟩
    · rw [i1]; simp
    · rw [List.flatMap_cons, b2, ← i2, List.append_assoc]; exact hsp
    · intro x hx
      rcases List.mem_cons.1 hx with rfl | hx
      · exact b1
      · exact i3 x hx
    · simp at i4 ⊢; omega
  | case4 rest at_ n s h0 h1 h2 => rw [parseGo, if_neg h0, if_pos h1, if_neg h2] at h; cases h
  | case5 rest at_ n s h0 h1 => rw [parseGo, if_neg h0, if_neg h1] at h; cases h
/-- What was read is printed as it was. -/
theorem print_parse (text : Bs) (h : (parseOf text).2.2 = 0) : (parseOf text).2.1 = 0 ∧ checkOf (parseOf text).1 = 0 ∧ printOf (parseOf text).1 = (text, 0) := by
  unfold parseOf at h ⊢
  split at h
  · cases h
  · rename_i hl
    rw [if_neg hl]
    by_cases h0 : text = []
    · subst h0; rw [parseGo, if_pos rfl, if_pos (by omega)] at h; cases h
    by_cases h1 : (upto 10 text).2.2 = true
    · by_cases h2 : (line zeroS (upto 10 text).1 0).2 = true
      · have e : parseGo text 0 0 zeroS = parseGo (upto 10 text).2.1 (0 + (upto 10 text).1.length + 1) (0 + 1) (line zeroS (upto 10 text).1 0).1 := by
          rw [parseGo, if_neg h0, if_pos h1, if_pos h2]
        have hl0 : line zeroS (upto 10 text).1 0 = (⟨(head (upto 10 text).1).1, (head (upto 10 text).1).2.1, []⟩, (head (upto 10 text).1).2.2) := by
          unfold line; rw [if_pos (by omega)]; rfl
        rw [e] at h ⊢
        rw [hl0] at h h2 ⊢
        obtain ⟨a1, a2, a3⟩ := head_inv _ h2
        obtain ⟨evs, i1, i2, i3, i4⟩ := parse_inv _ _ _ _ (by omega) (by simp) h
        have hp : ∀ (rest : Bs) (at_ n : Nat) (s : Scr), 1 ≤ n → (parseGo rest at_ n s).2.2 = 0 → (parseGo rest at_ n s).2.1 = 0 := by
          intro rest at_ n s
          induction rest, at_, n, s using parseGo.induct with
          | case1 at_ n s h0 => intro hn; omega
          | case2 at_ n s h0 => intro _ _; rw [parseGo, if_pos rfl, if_neg h0]
          | case3 rest at_ n s h0 h1 h2 ih => intro hn hh; rw [parseGo, if_neg h0, if_pos h1, if_pos h2] at hh ⊢; exact ih (by omega) hh
          | case4 rest at_ n s h0 h1 h2 => intro _ hh; rw [parseGo, if_neg h0, if_pos h1, if_neg h2] at hh; cases hh
          | case5 rest at_ n s h0 h1 => intro _ hh; rw [parseGo, if_neg h0, if_neg h1] at hh; cases hh
        refine ⟨hp _ _ _ _ (by omega) h, ?_⟩
        rw [i1]
        have hck : checkOf (⟨(head (upto 10 text).1).1, (head (upto 10 text).1).2.1, [] ++ evs⟩ : Scr) = 0 := check_of a1 a2 (by simpa using i4) (by simpa using i3)
        refine ⟨hck, ?_⟩
        have ht : textOf (⟨(head (upto 10 text).1).1, (head (upto 10 text).1).2.1, [] ++ evs⟩ : Scr) = text := by
          conv => rhs; rw [upto_split 10 text h1, i2, a3]
          unfold textOf worldW
          simp
        unfold printOf
        rw [if_pos hck, ht, if_neg hl]
      · rw [parseGo, if_neg h0, if_pos h1, if_neg h2] at h; cases h
    · rw [parseGo, if_neg h0, if_neg h1] at h; cases h
end Sc
end Go.Proofs.YthpojljfmipngaaGreatDoor
