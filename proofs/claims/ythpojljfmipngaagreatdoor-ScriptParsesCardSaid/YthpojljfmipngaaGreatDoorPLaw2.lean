/-
  THE PLAIN LAW of ScriptParses, second part: events, lines, whole texts. No walk in sight. NO CONDITIONS.
-/
import Derived.Test.YthpojljfmipngaaGreatDoorPLaw
namespace Go.Proofs.YthpojljfmipngaaGreatDoor
theorem word_right {k : Int} (h1 : 1 ≤ k) (h2 : k ≤ 11) : Sc.wordOf k = Sc.words.getD k.toNat [] := by unfold Sc.wordOf; rw [if_neg (by omega)]
theorem word_len (k : Int) : (Sc.wordOf k).length ≤ 10 := by
  unfold Sc.wordOf
  split
  · decide
  · rename_i h
    have hk : k = 1 ∨ k = 2 ∨ k = 3 ∨ k = 4 ∨ k = 5 ∨ k = 6 ∨ k = 7 ∨ k = 8 ∨ k = 9 ∨ k = 10 ∨ k = 11 := by omega
    rcases hk with rfl | rfl | rfl | rfl | rfl | rfl | rfl | rfl | rfl | rfl | rfl <;> decide
theorem wrong_lens {x : Sc.Ev} (h : Sc.wrong x = false) : x.bytes.length ≤ 10240 ∧ x.keep.length ≤ 2048 := by
  unfold Sc.wrong at h
  simp only [Bool.or_eq_false_iff, decide_eq_false_iff_not] at h
  omega
theorem nums_in {x : Sc.Ev} (h : Sc.wrong x = false) : ∀ v ∈ Sc.nums x, -9999999999 ≤ v ∧ v ≤ 9999999999 := by
  intro v hv
  have := (Sc.wrong_parts h).2.2.1 v hv
  unfold Sc.wideN at this
  simp only [Bool.or_eq_false_iff, decide_eq_false_iff_not] at this
  omega
theorem evLine_len {x : Sc.Ev} (h : Sc.wrong x = false) : (Sc.evLine x).length ≤ 50000 := by
  obtain ⟨hl1, hl2⟩ := wrong_lens h
  have hin := nums_in h
  have hnl := numsText_le (Sc.nums x) (fun v hv => by have := hin v hv; omega)
  have hn2 := numsx_len x
  have hwl := word_len x.kind
  have hql := quoteT_len x.bytes
  have hbl : (Sc.bits x.keep).length = x.keep.length := by unfold Sc.bits; rw [List.length_map]
  unfold Sc.evLine
  rw [← word_right (Sc.wrong_parts h).1 (Sc.wrong_parts h).2.1]
  simp only [List.length_append, List.length_cons, List.length_nil]
  split
  · omega
  split
  · simp only [List.length_append, List.length_cons, List.length_nil]; omega
  · simp only [List.length_nil]; omega
namespace Rf
open Sc (Bs Ev Scr)
theorem kindTo_word (x : Bs) : ∀ k, kindTo x k ≠ 0 → Sc.wordOf (kindTo x k) = x
  | 0, h => absurd rfl h
  | k + 1, h => by
    unfold kindTo at h ⊢
    split
    · assumption
    · rename_i hc; rw [if_neg hc] at h; exact kindTo_word x k h
theorem kindR_word {x : Bs} (h : kindR x ≠ 0) : 1 ≤ kindR x ∧ kindR x ≤ 11 ∧ Sc.words.getD (kindR x).toNat [] = x := by
  have h1 := kindTo_in x 11
  have h2 := kindTo_word x 11 h
  unfold kindR at h ⊢
  have h3 : 1 ≤ kindTo x 11 ∧ kindTo x 11 ≤ 11 := by omega
  rw [word_right h3.1 h3.2] at h2
  exact ⟨h3.1, h3.2, h2⟩
theorem kindR_of : ∀ k : Fin 11, kindR (Sc.words.getD (k.val + 1) []) = (k.val : Int) + 1 := by decide +kernel
theorem kindR_of' {k : Int} (h1 : 1 ≤ k) (h2 : k ≤ 11) : kindR (Sc.words.getD k.toNat []) = k := by
  have := kindR_of ⟨k.toNat - 1, by omega⟩
  simp only at this
  rw [show k.toNat - 1 + 1 = k.toNat by omega] at this
  rw [this]; omega
/-! ### an event that is taken -/
theorem refQuote_tl (s : Bs) : 32 :: refQuote s = Sc.quoteT s := by unfold refQuote Sc.quoteT; simp
theorem build_kind (k : Int) (vs : List Int) : (Sc.build k vs).kind = k := rfl
theorem tail_inv {x0 : Ev} {rest : List Bs} (h : (evTail x0 rest).2 = true) : Sc.wrong (evTail x0 rest).1 = false ∧ (evTail x0 rest).1.kind = x0.kind ∧ Sc.nums (evTail x0 rest).1 = Sc.nums x0 ∧ Sc.more (evTail x0 rest).1 = glue rest := by
  unfold evTail at h ⊢
  by_cases h1 : x0.kind = 1
  · rw [if_pos h1] at h ⊢
    simp only [Bool.and_eq_true, decide_eq_true_eq, Bool.not_eq_true'] at h ⊢
    obtain ⟨r, rfl⟩ := List.length_eq_one_iff.1 h.1.1
    simp only [List.getD_cons_zero] at h ⊢
    refine ⟨h.2, trivial, rfl, ?_⟩
    unfold Sc.more
    rw [if_pos h1, glue_one]
    simp only
    rw [← refQuote_tl, unq_ok r h.1.2]
  · rw [if_neg h1] at h ⊢
    by_cases h8 : x0.kind = 8
    · rw [if_pos h8] at h ⊢
      simp only [Bool.and_eq_true, decide_eq_true_eq, Bool.not_eq_true'] at h ⊢
      obtain ⟨r, rfl⟩ := List.length_eq_one_iff.1 h.1.1.1
      simp only [List.getD_cons_zero] at h ⊢
      refine ⟨h.2, trivial, rfl, ?_⟩
      unfold Sc.more
      rw [if_neg h1, if_pos h8, glue_one]
      simp only
      rw [Sc.bits_bitsOf _ h.1.2]
      cases r with
      | nil => simp at h
      | cons c r =>
        have hc := h.1.1.2
        simp at hc
        subst hc; rfl
    · rw [if_neg h8] at h ⊢
      simp only [Bool.and_eq_true, decide_eq_true_eq, Bool.not_eq_true'] at h ⊢
      have hr := List.length_eq_zero_iff.1 h.1
      subst hr
      refine ⟨h.2, trivial, trivial, ?_⟩
      unfold Sc.more
      rw [if_neg h1, if_neg h8]; rfl
theorem evR_inv {l : List Bs} {t : Bs} (hg : glue l = 32 :: t) (h : (evR l).2 = true) : Sc.wrong (evR l).1 = false ∧ Sc.evLine (evR l).1 = t ++ [10] := by
  by_cases hc : kindR (l.getD 0 []) = 0 ∨ l.length < 1 + (Sc.offs (kindR (l.getD 0 []))).length ∨ allNum ((l.drop 1).take (Sc.offs (kindR (l.getD 0 []))).length) = false
  · rw [evR_off rfl rfl rfl hc] at h; cases h
  · rw [not_or, not_or] at hc
    obtain ⟨h0, hl, ha⟩ := hc
    have ha : allNum ((l.drop 1).take (Sc.offs (kindR (l.getD 0 []))).length) = true := by simpa using ha
    have he := evR_on (l := l) rfl rfl rfl h0 (by omega) ha
    rw [he] at h ⊢
    obtain ⟨t1, t2, t3, t4⟩ := tail_inv h
    refine ⟨t1, ?_⟩
    obtain ⟨k1, k2, kw⟩ := kindR_word h0
    obtain ⟨g1, _⟩ := glue_nums _ ha
    rw [Sc.evLine_eq, t2, t3, t4, build_kind, kw]
    have hn : Sc.nums (Sc.build (kindR (l.getD 0 [])) (vals ((l.drop 1).take (Sc.offs (kindR (l.getD 0 []))).length))) = vals ((l.drop 1).take (Sc.offs (kindR (l.getD 0 []))).length) :=
      nums_build _ _ (by rw [vals_len, List.length_take, List.length_drop]; omega)
    rw [hn, ← g1]
    congr 1
    cases l with
    | nil => simp at hl
    | cons w l =>
      rw [glue_cons] at hg
      injection hg with _ hg
      rw [← hg]
      simp only [List.getD_cons_zero, List.drop_succ_cons, List.drop_zero]
      rw [show 1 + (Sc.offs (kindR w)).length = (Sc.offs (kindR w)).length + 1 by omega, List.drop_succ_cons, ← glue_app, List.take_append_drop]
/-! ### a right event's line is taken -/
theorem clean_same {x : Ev} (h : x = Sc.clean x) : (x.kind ≠ 1 → x.bytes = []) ∧ (x.kind ≠ 8 → x.keep = []) := by
  refine ⟨fun h1 => ?_, fun h8 => ?_⟩
  · rw [h]; unfold Sc.clean; simp [h1]
  · rw [h]; unfold Sc.clean; simp [h8]
theorem word_plain (k : Nat) : plainB (Sc.words.getD k []) := by
  have hw : ∀ w ∈ Sc.words, ∀ c ∈ w, c ≠ 32 ∧ c ≠ 34 := by decide
  intro c hc
  rw [List.getD_eq_getElem?_getD] at hc
  cases hk : Sc.words[k]? with
  | none => rw [hk] at hc; simp at hc
  | some w => rw [hk] at hc; exact hw w (List.mem_of_getElem? hk) c hc
theorem bits_plain (l : List Bool) : plainB (61 :: Sc.bits l) := by
  intro c hc
  rcases List.mem_cons.1 hc with rfl | h
  · decide
  · rcases Sc.bits_chars l c h with rfl | rfl <;> decide
/-- The last part, if there is one. -/
def lastOf (x : Ev) : List Bs := if x.kind = 1 then [refQuote x.bytes] else if x.kind = 8 then [61 :: Sc.bits x.keep] else []
theorem parts_line {x : Ev} (hx : Sc.wrong x = false) : partsOf (Sc.words.getD x.kind.toNat [] ++ (Sc.numsText (Sc.nums x) ++ Sc.more x)) = Sc.words.getD x.kind.toNat [] :: ((Sc.nums x).map Lib.itoa ++ lastOf x) := by
  obtain ⟨k1, k2, hw, hc⟩ := Sc.wrong_parts hx
  obtain ⟨n1, n2, n3, n4⟩ := nums_glue (Sc.nums x) hw
  rw [n1]
  unfold Sc.more lastOf
  by_cases h1 : x.kind = 1
  · rw [if_pos h1, if_pos h1, ← refQuote_tl, parts_quoted _ _ _ (word_plain _) n4]
  · rw [if_neg h1, if_neg h1]
    by_cases h8 : x.kind = 8
    · rw [if_pos h8, if_pos h8]
      have e : glue ((Sc.nums x).map Lib.itoa) ++ ([32, 61] ++ Sc.bits x.keep) = glue ((Sc.nums x).map Lib.itoa ++ [61 :: Sc.bits x.keep]) := by rw [glue_app, glue_one]; rfl
      rw [e, parts_plain _ _ (word_plain _)]
      intro p hp
      rcases List.mem_append.1 hp with h | h
      · exact n4 p h
      · rw [List.mem_singleton] at h; subst h; exact bits_plain _
    · rw [if_neg h8, if_neg h8, List.append_nil, List.append_nil, parts_plain _ _ (word_plain _) n4]
theorem evR_line {x : Ev} (hx : Sc.wrong x = false) : evR (partsOf (Sc.words.getD x.kind.toNat [] ++ (Sc.numsText (Sc.nums x) ++ Sc.more x))) = (x, true) := by
  obtain ⟨k1, k2, hw, hc⟩ := Sc.wrong_parts hx
  obtain ⟨n1, n2, n3, n4⟩ := nums_glue (Sc.nums x) hw
  have hlen : (Sc.offs x.kind).length = ((Sc.nums x).map Lib.itoa).length := by unfold Sc.nums; rw [List.length_map, List.length_map]
  rw [parts_line hx]
  have hk : kindR ((Sc.words.getD x.kind.toNat [] :: ((Sc.nums x).map Lib.itoa ++ lastOf x)).getD 0 []) = x.kind := by rw [List.getD_cons_zero]; exact kindR_of' k1 k2
  have hf : ((Sc.words.getD x.kind.toNat [] :: ((Sc.nums x).map Lib.itoa ++ lastOf x)).drop 1).take (Sc.offs x.kind).length = (Sc.nums x).map Lib.itoa := by
    rw [List.drop_succ_cons, List.drop_zero, hlen, List.take_append_of_le_length (Nat.le_refl _), List.take_length]
  rw [evR_on hk rfl hf (by omega) (by rw [hlen]; simp; omega) n2, n3]
  have hd : (Sc.words.getD x.kind.toNat [] :: ((Sc.nums x).map Lib.itoa ++ lastOf x)).drop (1 + (Sc.offs x.kind).length) = lastOf x := by
    rw [show 1 + (Sc.offs x.kind).length = (Sc.offs x.kind).length + 1 by omega, List.drop_succ_cons, hlen, List.drop_left]
  rw [hd]
  have hb : Sc.build x.kind (Sc.nums x) = { x with keep := [], bytes := [] } := by
    rw [Sc.build_nums]; conv => rhs; rw [hc]
  obtain ⟨c1, c8⟩ := clean_same hc
  rw [hb]
  unfold evTail lastOf
  by_cases h1 : x.kind = 1
  · have e : ({ { x with keep := [], bytes := [] } with bytes := x.bytes } : Ev) = x := by
      have := c8 (by omega)
      obtain ⟨a, b, c, d, e, f, g⟩ := x
      simp only at this; subst this; rfl
    simp only [h1, if_true, List.getD_cons_zero, unq_quote]
    have e' : (⟨1, x.node, x.to, x.n, x.bit, [], x.bytes⟩ : Ev) = x := by rw [← h1]; exact e
    rw [e', hx]; simp
  · by_cases h8 : x.kind = 8
    · have e : (⟨8, x.node, x.to, x.n, x.bit, x.keep, []⟩ : Ev) = x := by
        have := c1 h1
        obtain ⟨a, b, c, d, e, f, g⟩ := x
        simp only at this h8; subst this; subst h8; rfl
      simp only [h8, if_true, if_neg (show ¬ (8 : Int) = 1 by decide), List.getD_cons_zero, List.tail_cons, Sc.bitsOf_bits, Sc.isBits_bits, List.head?_cons]
      rw [e, hx]; simp
    · have e : ({ x with keep := [], bytes := [] } : Ev) = x := by
        have i1 := c1 h1
        have i8 := c8 h8
        obtain ⟨a, b, c, d, e, f, g⟩ := x
        simp only at i1 i8; subst i1; subst i8; rfl
      simp only [if_neg h1, if_neg h8]
      rw [e, hx]; simp
/-! ### lines and texts -/
def headR (text : Bs) : Int × Int × Bool :=
  ((vals ((partsOf text).drop 1)).getD 0 0, (vals ((partsOf text).drop 1)).getD 1 0, allNum ((partsOf text).drop 1) && decide (((partsOf text).drop 1).length = 2) && decide ((partsOf text).getD 0 [] = Sc.worldW))
def lineR (s : Scr) (text : Bs) (k : Nat) : Scr × Bool :=
  if k < 1 then ((if (headR text).2.2 then ⟨(headR text).1, (headR text).2.1, s.events⟩ else s), (headR text).2.2)
  else (⟨s.servers, s.area, s.events ++ [(evR (partsOf text)).1]⟩, (evR (partsOf text)).2 && decide (s.events.length + 1 ≤ 300))
def parseRGo (rest : Bs) (at_ n : Nat) (s : Scr) : Scr × Nat × Int :=
  if rest = [] then (if n < 1 then (Sc.zeroS, at_, 380) else (s, 0, 0))
  else if (Sc.upto 10 rest).2.2 = true then
    if (Sc.upto 10 rest).1.length ≤ 60000 ∧ (lineR s (Sc.upto 10 rest).1 n).2 = true then parseRGo (Sc.upto 10 rest).2.1 (at_ + (Sc.upto 10 rest).1.length + 1) (n + 1) (lineR s (Sc.upto 10 rest).1 n).1
    else (Sc.zeroS, at_, 380)
  else (Sc.zeroS, at_, 380)
termination_by rest.length
decreasing_by exact Sc.upto_less 10 rest (by assumption)
def parseR (text : Bs) : Scr × Nat × Int := if 262144 < text.length then (Sc.zeroS, 0, 3) else parseRGo text 0 0 Sc.zeroS
theorem head_same (t : Bs) : (Sc.head t).2.2 = (headR t).2.2 ∧ ((Sc.head t).2.2 = true → (Sc.head t).1 = (headR t).1 ∧ (Sc.head t).2.1 = (headR t).2.1 ∧ t.length ≤ 60000) := by
  have hworld : plainB Sc.worldW := by unfold plainB; decide
  have A : (Sc.head t).2.2 = true → headR t = Sc.head t ∧ t.length ≤ 60000 := by
    intro h
    obtain ⟨h1, h2, h3⟩ := Sc.head_inv t h
    generalize (Sc.head t).1 = a at h1 h3
    generalize (Sc.head t).2.1 = b at h2 h3
    have hw : ∀ v ∈ [a, b], Sc.wideN v = false := by intro v hv; simp at hv; rcases hv with rfl | rfl <;> assumption
    obtain ⟨n1, n2, n3, n4⟩ := nums_glue [a, b] hw
    have hp : partsOf t = Sc.worldW :: [a, b].map Lib.itoa := by rw [h3, n1, parts_plain _ _ hworld n4]
    refine ⟨?_, ?_⟩
    · rw [h3, Sc.head_print a b h1 h2, ← h3]
      unfold headR
      rw [hp, List.drop_succ_cons, List.drop_zero, n2, n3]
      simp
    · rw [h3]
      have la : (Lib.itoa a).length ≤ 11 := by
        by_cases hl : 11 < (Lib.itoa a).length
        · have := numR_itoa a h1; unfold numR at this; rw [if_pos (.inl hl)] at this; cases this
        · omega
      have lb : (Lib.itoa b).length ≤ 11 := by
        by_cases hl : 11 < (Lib.itoa b).length
        · have := numR_itoa b h2; unfold numR at this; rw [if_pos (.inl hl)] at this; cases this
        · omega
      unfold Sc.numsText Sc.worldW
      simp; omega
  have B : (headR t).2.2 = true → (Sc.head t).2.2 = true := by
    intro h
    unfold headR at h
    simp only [Bool.and_eq_true, decide_eq_true_eq] at h
    have hg := glue_parts t
    cases hp : partsOf t with
    | nil => rw [hp] at h; simp at h
    | cons w l =>
      rw [hp] at h hg
      simp only [List.drop_succ_cons, List.drop_zero, List.getD_cons_zero] at h
      obtain ⟨⟨h1, h2⟩, rfl⟩ := h
      obtain ⟨g1, g2⟩ := glue_nums l h1
      rw [glue_cons, g1] at hg
      injection hg with _ hg
      have hl : (vals l).length = 2 := by rw [vals_len]; exact h2
      obtain ⟨a, b, hab⟩ := Sc.two_of hl
      rw [hab] at hg g2
      rw [← hg, Sc.head_print a b (g2 a (by simp)) (g2 b (by simp))]
  have C : (Sc.head t).2.2 = (headR t).2.2 := by
    rw [Bool.eq_iff_iff]
    exact ⟨fun h => by rw [(A h).1]; exact h, B⟩
  exact ⟨C, fun h => by obtain ⟨a1, a2⟩ := A h; rw [a1]; exact ⟨rfl, rfl, a2⟩⟩
theorem body_same (t : Bs) (k : Nat) : (Sc.body t k).2 = ((evR (partsOf t)).2 && decide (k + 1 ≤ 300)) ∧ ((Sc.body t k).2 = true → (Sc.body t k).1 = (evR (partsOf t)).1 ∧ t.length ≤ 60000) := by
  have hsplit : ∀ x : Ev, Sc.evLine x = t ++ [10] → t = Sc.words.getD x.kind.toNat [] ++ (Sc.numsText (Sc.nums x) ++ Sc.more x) := by
    intro x h
    rw [Sc.evLine_eq] at h
    exact (List.append_cancel_right h).symm
  have A : (Sc.body t k).2 = true → evR (partsOf t) = ((Sc.body t k).1, true) ∧ k + 1 ≤ 300 ∧ t.length ≤ 60000 := by
    intro h
    obtain ⟨h1, h2, h3⟩ := Sc.body_inv t k h
    generalize (Sc.body t k).1 = x at h1 h2
    have hl := evLine_len h1
    rw [h2, List.length_append, List.length_singleton] at hl
    have ht := hsplit x h2
    refine ⟨by rw [ht, evR_line h1], h3, by omega⟩
  have B : (evR (partsOf t)).2 = true → k + 1 ≤ 300 → (Sc.body t k).2 = true := by
    intro h hk
    obtain ⟨h1, h2⟩ := evR_inv (glue_parts t) h
    generalize (evR (partsOf t)).1 = x at h1 h2
    rw [hsplit x h2, Sc.body_print h1 k hk]
  refine ⟨?_, fun h => ?_⟩
  · rw [Bool.eq_iff_iff, Bool.and_eq_true, decide_eq_true_eq]
    exact ⟨fun h => by obtain ⟨a, b, _⟩ := A h; rw [a]; exact ⟨rfl, b⟩, fun h => B h.1 h.2⟩
  · obtain ⟨a, _, c⟩ := A h
    rw [a]; exact ⟨rfl, c⟩
theorem line_same (s : Scr) (t : Bs) (n : Nat) : (Sc.line s t n).2 = (lineR s t n).2 ∧ ((Sc.line s t n).2 = true → (Sc.line s t n).1 = (lineR s t n).1 ∧ t.length ≤ 60000) := by
  unfold Sc.line lineR
  by_cases hn : n < 1
  · rw [if_pos hn, if_pos hn]
    obtain ⟨h1, h2⟩ := head_same t
    refine ⟨h1, fun h => ?_⟩
    obtain ⟨a, b, c⟩ := h2 h
    simp only at h ⊢
    rw [← h1, if_pos h, a, b]
    exact ⟨rfl, c⟩
  · rw [if_neg hn, if_neg hn]
    obtain ⟨h1, h2⟩ := body_same t s.events.length
    refine ⟨h1, fun h => ?_⟩
    obtain ⟨a, c⟩ := h2 h
    simp only
    rw [a]
    exact ⟨rfl, c⟩
theorem parseGo_same (rest : Bs) (at_ n : Nat) (s : Scr) : Sc.parseGo rest at_ n s = parseRGo rest at_ n s := by
  induction rest, at_, n, s using Sc.parseGo.induct with
  | case1 at_ n s h => rw [Sc.parseGo, if_pos rfl, parseRGo, if_pos rfl]
  | case2 at_ n s h => rw [Sc.parseGo, if_pos rfl, parseRGo, if_pos rfl]
  | case3 rest at_ n s h0 h1 h2 ih =>
    obtain ⟨l1, l2⟩ := line_same s (Sc.upto 10 rest).1 n
    obtain ⟨l3, l4⟩ := l2 h2
    rw [Sc.parseGo, if_neg h0, if_pos h1, if_pos h2, parseRGo, if_neg h0, if_pos h1, if_pos ⟨l4, l1 ▸ h2⟩, ih, l3]
  | case4 rest at_ n s h0 h1 h2 =>
    obtain ⟨l1, _⟩ := line_same s (Sc.upto 10 rest).1 n
    rw [Sc.parseGo, if_neg h0, if_pos h1, if_neg h2, parseRGo, if_neg h0, if_pos h1, if_neg (fun h => h2 (l1 ▸ h.2))]
  | case5 rest at_ n s h0 h1 => rw [Sc.parseGo, if_neg h0, if_neg h1, parseRGo, if_neg h0, if_neg h1]
/-- THE PLAIN LAW: the two readers agree. -/
theorem parse_same (text : Bs) : Sc.parseOf text = parseR text := by
  unfold Sc.parseOf parseR
  split
  · rfl
  · exact parseGo_same _ _ _ _
end Rf
end Go.Proofs.YthpojljfmipngaaGreatDoor
