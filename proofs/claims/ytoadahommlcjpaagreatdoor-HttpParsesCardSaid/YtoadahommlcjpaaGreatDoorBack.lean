/-
  Plain: what was printed is read as it was, whatever stands behind; less of it is not whole; what was read, printed, is read as it was. No program in sight.
-/
import Derived.Test.YtoadahommlcjpaaGreatDoorLines
import Derived.Lib.AtoiAllCases
import Derived.Lib.ItoaMem
namespace Go.Proofs.YtoadahommlcjpaaGreatDoor
namespace Ht
/-! ### one byte as a mark -/
theorem upto_word (c : UInt8) (w m : Bs) (hw : ∀ x ∈ w, x ≠ c) : upto c (w ++ c :: m) = (w, m, true) := by
  induction w with
  | nil => simp [upto]
  | cons x t ih => rw [List.cons_append, upto, if_neg (hw x (by simp)), ih (fun y hy => hw y (by simp [hy]))]
theorem upto_alone (c : UInt8) (w : Bs) (hw : ∀ x ∈ w, x ≠ c) : upto c w = (w, [], false) := by
  induction w with
  | nil => rfl
  | cons x t ih => rw [upto, if_neg (hw x (by simp)), ih (fun y hy => hw y (by simp [hy]))]
theorem upto_split (c : UInt8) : ∀ l : Bs, (upto c l).2.2 = true → l = (upto c l).1 ++ c :: (upto c l).2.1
  | [], h => by simp [upto] at h
  | x :: t, h => by
    have ih := upto_split c t
    rw [upto] at h ⊢
    split
    · rename_i e; rw [e]; rfl
    · rename_i e
      rw [if_neg e] at h
      rw [List.cons_append, ← ih h]
theorem upto_none (c : UInt8) : ∀ l : Bs, (upto c l).2.2 = false → (upto c l).1 = l ∧ (upto c l).2.1 = []
  | [], _ => ⟨rfl, rfl⟩
  | x :: t, h => by
    have ih := upto_none c t
    rw [upto] at h ⊢
    split
    · rename_i e; rw [if_pos e] at h; cases h
    · rename_i e
      rw [if_neg e] at h
      obtain ⟨h1, h2⟩ := ih h
      exact ⟨by rw [h1], h2⟩
theorem upto2_word (w m : Bs) (hw : ∀ x ∈ w, x ≠ 13) : upto2 13 10 (w ++ 13 :: 10 :: m) = (w, m, true) := by
  induction w with
  | nil => simp [upto2]
  | cons x t ih =>
    have hx := hw x (by simp)
    have h2 := ih (fun y hy => hw y (by simp [hy]))
    cases t with
    | nil =>
      rw [List.cons_append, List.nil_append] at *
      rw [upto2, if_neg (fun e => hx e.1), h2]
    | cons y t =>
      rw [List.cons_append, List.cons_append] at *
      rw [upto2, if_neg (fun e => hx e.1), h2]
theorem endAt_word (w m : Bs) (hw : ∀ x ∈ w, x ≠ 13) : endAt (w ++ m) = (endAt m).map (· + w.length) := by
  induction w with
  | nil => rw [List.nil_append]; cases endAt m <;> simp
  | cons x t ih =>
    have hx := hw x (by simp)
    rw [List.cons_append, endAt_cons, if_neg (by intro h; simp at h; exact hx h.1), ih (fun y hy => hw y (by simp [hy]))]
    cases endAt m with
    | none => rfl
    | some p => simp; omega
theorem endAt_crlf (m : Bs) : endAt (13 :: 10 :: m) = if m.take 2 = [13, 10] then some 0 else (endAt m).map (· + 2) := by
  rw [endAt_cons]
  by_cases h : m.take 2 = [13, 10]
  · rw [if_pos h, if_pos (by simp [h])]
  · rw [if_neg h, if_neg (by simpa using h), endAt_cons, if_neg (by simp)]
    cases endAt m <;> simp
/-- Lines, each with its end. -/
def joinL (l : List Bs) : Bs := l.flatMap fun s => s ++ [13, 10]
theorem joinL_cons (s : Bs) (l : List Bs) : joinL (s :: l) = s ++ 13 :: 10 :: joinL l := by unfold joinL; simp
theorem joinL_app (l m : List Bs) : joinL (l ++ m) = joinL l ++ joinL m := by unfold joinL; rw [List.flatMap_append]
theorem endAt_lines (ls : List Bs) : ∀ (l0 t : Bs), (∀ x ∈ l0, x ≠ 13) → (∀ s ∈ ls, s ≠ [] ∧ ∀ x ∈ s, x ≠ 13) → endAt (joinL (l0 :: ls) ++ 13 :: 10 :: t) = some ((joinL (l0 :: ls)).length - 2) := by
  induction ls with
  | nil =>
    intro l0 t h0 _
    rw [joinL_cons, List.append_assoc, endAt_word _ _ h0, List.cons_append, List.cons_append, endAt_crlf, if_pos (by simp [joinL])]
    simp [joinL]
  | cons s ls ih =>
    intro l0 t h0 h
    obtain ⟨hs, hs13⟩ := h s (by simp)
    rw [joinL_cons, List.append_assoc, endAt_word _ _ h0, List.cons_append, List.cons_append, endAt_crlf, if_neg, ih s t hs13 (fun u hu => h u (by simp [hu]))]
    · rw [Option.map_some, Option.map_some]
      congr 1
      rw [joinL_cons]
      simp; omega
    · obtain ⟨x, u, rfl⟩ := List.exists_cons_of_ne_nil hs
      have hx := hs13 x (by simp)
      intro e
      rw [joinL_cons] at e
      cases u with
      | nil => simp at e
      | cons y u => simp at e; exact hx e.1
theorem linesOf_join (ls : List Bs) (h : ∀ s ∈ ls, ∀ x ∈ s, x ≠ 13) : linesOf (joinL ls) = ls := by
  induction ls with
  | nil => exact linesOf_nil
  | cons s ls ih =>
    rw [linesOf_cons (by rw [joinL_cons]; simp), joinL_cons, upto2_word _ _ (h s (by simp))]
    simp only
    rw [ih (fun u hu => h u (by simp [hu]))]
/-! ### bytes of kinds -/
theorem tokC_ne : ∀ n : Fin 256, tokC (UInt8.ofNat n.val) = true → UInt8.ofNat n.val ≠ 13 ∧ UInt8.ofNat n.val ≠ 58 ∧ UInt8.ofNat n.val ≠ 32 := by decide +kernel
theorem tok_ne {c : UInt8} (h : tokC c = true) : c ≠ 13 ∧ c ≠ 58 ∧ c ≠ 32 := by
  have := tokC_ne ⟨c.toNat, c.toNat_lt⟩
  simp only [UInt8.ofNat_toNat] at this
  exact this h
theorem token_parts {s : Bs} (h : tokenB s = true) : (∀ c ∈ s, c ≠ 13 ∧ c ≠ 58 ∧ c ≠ 32) ∧ s ≠ [] ∧ s.length ≤ 40 := by
  unfold tokenB at h
  simp only [Bool.and_eq_true, decide_eq_true_eq, List.all_eq_true] at h
  exact ⟨fun c hc => tok_ne (h.1.1 c hc), List.length_pos_iff.1 h.1.2, h.2⟩
theorem all_mem {s : Bs} {lo hi : Nat} (h : allB s lo hi = true) : ∀ c ∈ s, lo ≤ c.toNat ∧ c.toNat ≤ hi := by
  unfold allB at h
  simp only [List.all_eq_true, Bool.and_eq_true, decide_eq_true_eq] at h
  exact h
theorem ne_of_nat {c : UInt8} {n : Nat} (hn : n < 256) (h : c.toNat ≠ n) : c ≠ UInt8.ofNat n := by
  intro e; rw [e, UInt8.toNat_ofNat_of_lt' hn] at h; exact h rfl
theorem target_parts {s : Bs} (h : targetB s = true) : (∀ c ∈ s, c ≠ 13 ∧ c ≠ 32) ∧ s ≠ [] := by
  unfold targetB at h
  simp only [Bool.and_eq_true, decide_eq_true_eq] at h
  refine ⟨fun c hc => ?_, by intro e; rw [e] at h; simp at h⟩
  have := all_mem h.2 c hc
  exact ⟨ne_of_nat (n := 13) (by decide) (by omega), ne_of_nat (n := 32) (by decide) (by omega)⟩
theorem valued_parts {s : Bs} (h : valuedB s = true) : (∀ c ∈ s, c ≠ 13 ∧ c ≠ 9) ∧ s.head? ≠ some 32 ∧ s.getLast? ≠ some 32 := by
  unfold valuedB at h
  simp only [Bool.and_eq_true, decide_eq_true_eq, Bool.not_eq_true', decide_eq_false_iff_not] at h
  refine ⟨fun c hc => ?_, h.1.2, h.2⟩
  have := all_mem h.1.1.2 c hc
  exact ⟨ne_of_nat (n := 13) (by decide) (by omega), ne_of_nat (n := 9) (by decide) (by omega)⟩
theorem drop_same {s : Bs} (h9 : ∀ c ∈ s, c ≠ 9) (h : s.head? ≠ some 32) : s.dropWhile isBl = s := by
  cases s with
  | nil => rfl
  | cons c t =>
    have h1 : c ≠ 9 := h9 c (by simp)
    have h2 : c ≠ 32 := by intro e; apply h; rw [e]; rfl
    rw [List.dropWhile_cons_of_neg]
    unfold isBl; simp [h1, h2]
theorem trim_same {s : Bs} (h : valuedB s = true) : trim s = s := by
  obtain ⟨h1, h2, h3⟩ := valued_parts h
  unfold trim
  rw [drop_same (fun c hc => (h1 c hc).2) h2, drop_same (fun c hc => (h1 c (by simpa using hc)).2) (by rw [List.head?_reverse]; exact h3), List.reverse_reverse]
theorem trim_blank {s : Bs} (h : valuedB s = true) : trim (32 :: s) = s := by
  have : trim (32 :: s) = trim s := by unfold trim; rw [List.dropWhile_cons_of_pos (by rfl)]
  rw [this, trim_same h]
/-- A header's line, without its end. -/
def hdBare (h : Hd) : Bs := h.name ++ 58 :: (if h.value = [] then [] else 32 :: h.value)
theorem hdLine_eq (h : Hd) : hdLine h = hdBare h ++ [13, 10] := by unfold hdLine hdBare; simp
theorem field_back {h : Hd} (h1 : tokenB h.name = true) (h2 : valuedB h.value = true) : fieldOf (hdBare h) = (h, true) := by
  have ht := token_parts h1
  have htr : trim (if h.value = [] then [] else 32 :: h.value) = h.value := by
    split
    · rename_i e; rw [e]; rfl
    · exact trim_blank h2
  unfold fieldOf hdBare
  rw [upto_word 58 _ _ (fun c hc => (ht.1 c hc).2.1)]
  simp only
  rw [htr, h1, h2]; rfl
theorem bare_13 {h : Hd} (h1 : tokenB h.name = true) (h2 : valuedB h.value = true) : hdBare h ≠ [] ∧ ∀ x ∈ hdBare h, x ≠ 13 := by
  have ht := token_parts h1
  have hv := valued_parts h2
  refine ⟨by unfold hdBare; simp, fun x hx => ?_⟩
  unfold hdBare at hx
  simp only [List.mem_append, List.mem_cons] at hx
  rcases hx with hx | rfl | hx
  · exact (ht.1 x hx).1
  · decide
  · split at hx
    · simp at hx
    · rcases List.mem_cons.1 hx with rfl | hx
      · decide
      · exact (hv.1 x hx).1
theorem wrong_no {h : Hd} (hw : wrongH h = false) : tokenB h.name = true ∧ alikeB h.name lenW = false ∧ alikeB h.name codW = false ∧ valuedB h.value = true := by
  unfold wrongH at hw
  simp only [Bool.or_eq_false_iff, Bool.not_eq_false'] at hw
  exact ⟨hw.1.1.1, hw.1.1.2, hw.1.2, hw.2⟩
theorem lines_heads (l : List Hd) : ∀ (t : List Bs) (a : Acc), (∀ h ∈ l, wrongH h = false) → linesGo (l.map hdBare ++ t) a = linesGo t { a with heads := a.heads ++ l } := by
  induction l with
  | nil => intro t a _; simp
  | cons h l ih =>
    intro t a hl
    obtain ⟨h1, h2, h3, h4⟩ := wrong_no (hl h (by simp))
    rw [List.map_cons, List.cons_append, linesGo, field_back h1 h4, if_pos rfl, ih _ _ (fun x hx => hl x (by simp [hx]))]
    unfold stepOf
    simp only
    rw [h3, h2]
    simp
/-! ### the length -/
theorem dec_digit (u : Nat) : ∀ c ∈ Lib.decDigits u, 48 ≤ c.toNat ∧ c.toNat ≤ 57 := by
  induction u using Nat.strongRecOn with
  | ind u ih =>
    intro c hc
    rw [Lib.decDigits] at hc
    split at hc
    · rename_i h
      rw [List.mem_singleton] at hc; subst hc
      rw [UInt8.toNat_ofNat_of_lt' (by simp [UInt8.size]; omega)]; omega
    · rename_i h
      rw [List.mem_append] at hc
      rcases hc with hc | hc
      · exact ih _ (by omega) c hc
      · rw [List.mem_singleton] at hc; subst hc
        rw [UInt8.toNat_ofNat_of_lt' (by simp [UInt8.size]; omega)]; omega
theorem dec_ne (u : Nat) : Lib.decDigits u ≠ [] := by
  rw [Lib.decDigits]
  split <;> simp
theorem parse_dec (u : Nat) (hu : u < 1000000000000000000) (r : List UInt8) : Lib.parseUint10 0 (Lib.decDigits u ++ r) = Lib.parseUint10 u r := by
  induction u using Nat.strongRecOn generalizing r with
  | ind u ih =>
    rw [Lib.decDigits]
    split
    · rename_i h
      rw [List.singleton_append, Lib.parseUint10, UInt8.toNat_ofNat_of_lt' (by simp [UInt8.size]; omega), if_pos (by omega), if_neg (by omega), if_neg (by omega)]
      congr 1; omega
    · rename_i h
      rw [List.append_assoc, ih (u / 10) (by omega) (by omega), List.singleton_append, Lib.parseUint10, UInt8.toNat_ofNat_of_lt' (by simp [UInt8.size]; omega), if_pos (by omega), if_neg (by omega), if_neg (by omega)]
      congr 1; omega
theorem mag_dec (u : Nat) (hu : u < 1000000000000000000) : Lib.parseMag (Lib.decDigits u) = .ok u := by
  unfold Lib.parseMag
  rw [if_neg (dec_ne u)]
  have := parse_dec u hu []
  rw [List.append_nil] at this
  rw [this]; rfl
theorem itoa_nat (n : Nat) : Lib.itoa (n : Int) = Lib.decDigits n := by unfold Lib.itoa; rw [if_neg (by omega)]; simp
theorem num_dec (u : Nat) (hu : u < 1000000000000000000) : num (Lib.decDigits u) = ((u : Int), true) := by
  unfold num
  cases hd : Lib.decDigits u with
  | nil => exact absurd hd (dec_ne _)
  | cons c r =>
    have hc := dec_digit u c (by rw [hd]; simp)
    rw [Lib.atoiAll_plain c r (by omega) (by omega), ← hd, mag_dec _ hu]
    unfold Lib.signless
    simp only
    rw [if_neg (by omega)]
theorem dec_short (k : Nat) : ∀ u : Nat, u < 10 ^ (k + 1) → (Lib.decDigits u).length ≤ k + 1 := by
  induction k with
  | zero => intro u h; rw [Lib.decDigits, dif_pos (by simpa using h)]; simp
  | succ k ih =>
    intro u h
    rw [Lib.decDigits]
    split
    · simp
    · have := ih (u / 10) (by rw [Nat.pow_succ] at h; omega)
      simp; omega
theorem good_dec (u : Nat) (hu : u ≤ 8192) : goodLen (Lib.decDigits u) = true ∧ (num (Lib.decDigits u)).1 = u ∧ valuedB (Lib.decDigits u) = true := by
  have hl := dec_short 3 u (by omega)
  have hn := num_dec u (by omega)
  have hd := dec_digit u
  refine ⟨?_, by rw [hn], ?_⟩
  · unfold goodLen allB
    rw [hn]
    simp only [Bool.and_eq_true, decide_eq_true_eq, List.all_eq_true, Bool.true_and]
    exact ⟨by omega, hd⟩
  · unfold valuedB allB
    simp only [Bool.and_eq_true, decide_eq_true_eq, List.all_eq_true, Bool.not_eq_true', decide_eq_false_iff_not]
    refine ⟨⟨⟨by omega, fun c hc => by have := hd c hc; omega⟩, fun e => ?_⟩, fun e => ?_⟩
    · have := hd 32 (List.mem_of_mem_head? e); simp at this
    · have := hd 32 (List.mem_of_getLast? e); simp at this
/-! ### a head -/
def lenHd (n : Nat) : Hd := ⟨lenW, Lib.itoa n⟩
theorem len_bare (n : Nat) : hdBare (lenHd n) = lenW ++ ([58, 32] ++ Lib.itoa n) := by
  unfold hdBare lenHd
  simp only
  rw [if_neg (by rw [itoa_nat]; exact dec_ne n)]; rfl
theorem head_join (first : Bs) (l : List Hd) (n : Nat) : headOf first l n = joinL (first :: (l.map hdBare ++ [hdBare (lenHd n)])) ++ [13, 10] := by
  rw [joinL_cons, joinL_app]
  have e1 : joinL (l.map hdBare) = l.flatMap hdLine := by
    unfold joinL
    rw [List.flatMap_map]
    congr 1
    funext h
    exact (hdLine_eq h).symm
  have e2 : joinL [hdBare (lenHd n)] = lenW ++ ([58, 32] ++ (Lib.itoa n ++ [13, 10])) := by
    unfold joinL; rw [List.flatMap_singleton, len_bare]; simp
  rw [e1, e2]
  unfold headOf
  simp
theorem tok_lenW : tokenB lenW = true := by decide
theorem rest_lines (l : List Hd) (n : Nat) (hl : ∀ h ∈ l, wrongH h = false) (hn : n ≤ 8192) : linesGo (l.map hdBare ++ [hdBare (lenHd n)]) acc0 = some ⟨l, n, 1, false⟩ := by
  obtain ⟨g1, g2, g3⟩ := good_dec n hn
  rw [lines_heads l _ _ hl, linesGo, field_back (h := lenHd n) tok_lenW (by unfold lenHd; simp only; rw [itoa_nat]; exact g3), if_pos rfl, linesGo]
  unfold stepOf lenHd acc0
  simp only
  rw [if_neg (by decide), if_pos (by unfold alikeB; simp), itoa_nat, g1, g2]
  simp
theorem all_13 (l : List Hd) (n : Nat) (hl : ∀ h ∈ l, wrongH h = false) (hn : n ≤ 8192) : ∀ s ∈ l.map hdBare ++ [hdBare (lenHd n)], s ≠ [] ∧ ∀ x ∈ s, x ≠ 13 := by
  intro s hs
  rcases List.mem_append.1 hs with h | h
  · obtain ⟨hd, hm, rfl⟩ := List.mem_map.1 h
    obtain ⟨h1, _, _, h4⟩ := wrong_no (hl hd hm)
    exact bare_13 h1 h4
  · rw [List.mem_singleton] at h
    subst h
    exact bare_13 (h := lenHd n) tok_lenW (by unfold lenHd; simp only; rw [itoa_nat]; exact (good_dec n hn).2.2)
theorem checked_parts {l : List Hd} {body : Bs} (h : checkedB l body = true) : l.length ≤ 16 ∧ body.length ≤ 8192 ∧ ∀ h ∈ l, wrongH h = false := by
  unfold checkedB at h
  simp only [Bool.and_eq_true, decide_eq_true_eq, Bool.not_eq_true', List.any_eq_false, Bool.not_eq_true] at h
  exact ⟨h.1.1, h.1.2, h.2⟩
/-- What a reader says of a printed message and what stands behind it. -/
theorem read_head {α : Type} (z : α) (first : Bs → α × Bool) (fill : α → List Hd → Bs → α) (f : Bs) (x : α) (l : List Hd) (body behind : Bs) (hf13 : ∀ c ∈ f, c ≠ 13) (hf : first f = (x, true)) (hc : checkedB l body = true)
    (hh : (headOf f l body.length).length ≤ 2048) (d : Bs) :
    readOf z first fill (headOf f l body.length ++ d) = if d.length < body.length then (z, 0, 341) else (fill x l (d.take body.length), (headOf f l body.length).length + body.length, 0) := by
  obtain ⟨c1, c2, c3⟩ := checked_parts hc
  have h13 := all_13 l body.length c3 c2
  have hj := head_join f l body.length
  have hlen : (headOf f l body.length).length = (joinL (f :: (l.map hdBare ++ [hdBare (lenHd body.length)]))).length + 2 := by rw [hj]; simp
  have h2 : 2 ≤ (joinL (f :: (l.map hdBare ++ [hdBare (lenHd body.length)]))).length := by rw [joinL_cons]; simp; omega
  have he : ∀ k, 2048 ≤ k ∨ (headOf f l body.length ++ d).length ≤ k → endAt ((headOf f l body.length ++ d).take k) = some ((joinL (f :: (l.map hdBare ++ [hdBare (lenHd body.length)]))).length - 2) := by
    intro k hk
    rw [endAt_take, hj, List.append_assoc, List.cons_append, List.cons_append, endAt_lines _ _ _ hf13 h13]
    simp only [Option.bind_some]
    rw [if_pos]
    rcases hk with hk | hk
    · omega
    · rw [List.length_append] at hk; omega
  unfold readOf
  rw [he 2048 (.inl (Nat.le_refl _))]
  generalize hJ : joinL (f :: (l.map hdBare ++ [hdBare (lenHd body.length)])) = J at hj hlen h2 he ⊢
  simp only
  have ht : (headOf f l body.length ++ d).take (J.length - 2 + 2) = J := by
    rw [hj, List.append_assoc, show J.length - 2 + 2 = J.length by omega, List.take_left]
  have hd : (headOf f l body.length ++ d).drop (J.length - 2 + 4) = d := by
    have e : J.length - 2 + 4 = (headOf f l body.length).length := by omega
    rw [e, List.drop_left]
  rw [ht, hd, ← hJ, joinL_cons, upto2_word _ _ hf13]
  simp only
  rw [hf]
  simp only [if_true]
  have hr : restOf (joinL (l.map hdBare ++ [hdBare (lenHd body.length)])) d = if d.length < body.length then (([], []), 341) else ((l, d.take body.length), 0) := by
    unfold restOf restFin
    rw [linesOf_join _ (fun s hs => (h13 s hs).2), rest_lines l _ c3 c2]
    simp only
    rw [if_neg (by decide), if_neg (by decide), if_neg (by omega), if_neg (by omega)]
    by_cases hd : d.length < body.length
    · rw [if_pos hd, if_pos (by omega)]
    · rw [if_neg hd, if_neg (by omega)]; simp
  rw [hr]
  by_cases hd : d.length < body.length
  · rw [if_pos hd, if_pos hd]; simp
  · rw [if_neg hd, if_neg hd]
    simp only [if_true]
    have hmin : (d.take body.length).length = body.length := by rw [List.length_take]; omega
    rw [hmin, ← joinL_cons, hJ, show J.length - 2 + 4 = (headOf f l body.length).length by omega]
theorem read_less {α : Type} (z : α) (first : Bs → α × Bool) (fill : α → List Hd → Bs → α) (f : Bs) (l : List Hd) (n : Nat) (hf13 : ∀ c ∈ f, c ≠ 13) (hl : ∀ h ∈ l, wrongH h = false) (hn : n ≤ 8192)
    (hh : (headOf f l n).length ≤ 2048) (k : Nat) (hk : k < (headOf f l n).length) (d : Bs) :
    readOf z first fill ((headOf f l n ++ d).take k) = (z, 0, 341) := by
  have h13 := all_13 l n hl hn
  have hj := head_join f l n
  have hlen : (headOf f l n).length = (joinL (f :: (l.map hdBare ++ [hdBare (lenHd n)]))).length + 2 := by rw [hj]; simp
  have h2 : 2 ≤ (joinL (f :: (l.map hdBare ++ [hdBare (lenHd n)]))).length := by rw [joinL_cons]; simp; omega
  have he : endAt (((headOf f l n ++ d).take k).take 2048) = none := by
    rw [endAt_take, endAt_take, hj, List.append_assoc, List.cons_append, List.cons_append, endAt_lines _ _ _ hf13 h13]
    simp only [Option.bind_some]
    rw [if_neg (by omega)]; rfl
  unfold readOf
  rw [he]
  simp only
  rw [if_neg (by rw [List.length_take]; omega)]
theorem printed_parts {l : List Hd} {body f : Bs} (h : (printedOf l body f).2 = 0) : (headOf f l body.length).length ≤ 2048 ∧ printedOf l body f = (headOf f l body.length ++ body, 0) := by
  unfold printedOf at h ⊢
  split at h
  · cases h
  · rename_i hh
    rw [if_neg hh]
    exact ⟨by omega, rfl⟩
theorem req_parts {r : Req} (h : (printReq r).2 = 0) : tokenB r.method = true ∧ targetB r.target = true ∧ checkedB r.heads r.body = true ∧ (printedOf r.heads r.body (firstReq r)).2 = 0 ∧ printReq r = printedOf r.heads r.body (firstReq r) := by
  unfold printReq at h ⊢
  split at h
  · rename_i hc
    rw [if_pos hc]
    simp only [Bool.and_eq_true] at hc
    exact ⟨hc.1.1, hc.1.2, hc.2, h, rfl⟩
  · cases h
theorem first_req {r : Req} (h1 : tokenB r.method = true) (h2 : targetB r.target = true) : firstQ (firstReq r) = ({ r with heads := [], body := [] }, true) ∧ ∀ c ∈ firstReq r, c ≠ 13 := by
  have t1 := token_parts h1
  have t2 := target_parts h2
  refine ⟨?_, fun c hc => ?_⟩
  · unfold firstQ threeOf firstReq
    rw [upto_word 32 _ _ (fun c hc => (t1.1 c hc).2.2)]
    simp only
    rw [upto_word 32 _ _ (fun c hc => (t2.1 c hc).2)]
    simp only
    rw [h1, h2]; simp
  · unfold firstReq at hc
    simp only [List.mem_append, List.mem_cons] at hc
    rcases hc with hc | rfl | hc | rfl | hc
    · exact (t1.1 c hc).1
    · decide
    · exact (t2.1 c hc).1
    · decide
    · exact (show ∀ c ∈ verW, c ≠ 13 by decide) c hc
/-- THE STAGE's THEOREM, of requests. -/
theorem back_req (r : Req) (h : (printReq r).2 = 0) (behind : Bs) : parseReq ((printReq r).1 ++ behind) = (r, (printReq r).1.length, 0) := by
  obtain ⟨h1, h2, h3, h4, h5⟩ := req_parts h
  obtain ⟨p1, p2⟩ := printed_parts h4
  obtain ⟨f1, f2⟩ := first_req h1 h2
  rw [h5, p2]
  unfold parseReq
  simp only
  rw [List.append_assoc, read_head zReq firstQ _ (firstReq r) _ r.heads r.body behind f2 f1 h3 p1, if_neg (by simp)]
  simp
theorem less_req (r : Req) (h : (printReq r).2 = 0) (k : Nat) (hk : k < (printReq r).1.length) : parseReq ((printReq r).1.take k) = (zReq, 0, 341) := by
  obtain ⟨h1, h2, h3, h4, h5⟩ := req_parts h
  obtain ⟨p1, p2⟩ := printed_parts h4
  obtain ⟨f1, f2⟩ := first_req h1 h2
  obtain ⟨c1, c2, c3⟩ := checked_parts h3
  rw [h5, p2] at hk ⊢
  simp only at hk ⊢
  unfold parseReq
  by_cases hkh : k < (headOf (firstReq r) r.heads r.body.length).length
  · exact read_less _ _ _ _ _ _ f2 c3 c2 p1 k hkh r.body
  · rw [List.length_append] at hk
    rw [List.take_append, List.take_of_length_le (by omega), read_head zReq firstQ _ (firstReq r) _ r.heads r.body [] f2 f1 h3 p1, if_pos (by rw [List.length_take]; omega)]
theorem rsp_parts {r : Rsp} (h : (printRsp r).2 = 0) : 200 ≤ r.status ∧ r.status ≤ 599 ∧ checkedB r.heads r.body = true ∧ (printedOf r.heads r.body (firstRsp r)).2 = 0 ∧ printRsp r = printedOf r.heads r.body (firstRsp r) := by
  unfold printRsp at h ⊢
  split at h
  · rename_i hc
    rw [if_pos hc]
    simp only [Bool.and_eq_true, decide_eq_true_eq] at hc
    exact ⟨hc.1.1, hc.1.2, hc.2, h, rfl⟩
  · cases h
def okR (s : Bs) : Bool := allB s 32 126 && s.all fun c => decide (c ≠ 13)
theorem reason_okR (s : Int) : okR (reasonOf s) = true := by
  unfold reasonOf
  by_cases h200 : s = 200
  · rw [if_pos h200]; decide
  rw [if_neg h200]
  by_cases h201 : s = 201
  · rw [if_pos h201]; decide
  rw [if_neg h201]
  by_cases h400 : s = 400
  · rw [if_pos h400]; decide
  rw [if_neg h400]
  by_cases h403 : s = 403
  · rw [if_pos h403]; decide
  rw [if_neg h403]
  by_cases h404 : s = 404
  · rw [if_pos h404]; decide
  rw [if_neg h404]
  by_cases h405 : s = 405
  · rw [if_pos h405]; decide
  rw [if_neg h405]
  by_cases h409 : s = 409
  · rw [if_pos h409]; decide
  rw [if_neg h409]
  by_cases h413 : s = 413
  · rw [if_pos h413]; decide
  rw [if_neg h413]
  by_cases h422 : s = 422
  · rw [if_pos h422]; decide
  rw [if_neg h422]
  by_cases h431 : s = 431
  · rw [if_pos h431]; decide
  rw [if_neg h431]
  by_cases h500 : s = 500
  · rw [if_pos h500]; decide
  rw [if_neg h500]
  by_cases h501 : s = 501
  · rw [if_pos h501]; decide
  rw [if_neg h501]
  by_cases h503 : s = 503
  · rw [if_pos h503]; decide
  rw [if_neg h503]
  by_cases h507 : s = 507
  · rw [if_pos h507]; decide
  rw [if_neg h507]
  decide
theorem reason_ok (s : Int) : allB (reasonOf s) 32 126 = true ∧ ∀ c ∈ reasonOf s, c ≠ 13 := by
  have h := reason_okR s
  unfold okR at h
  simp only [Bool.and_eq_true, List.all_eq_true, decide_eq_true_eq] at h
  exact h
theorem dec3 (u : Nat) (h1 : 200 ≤ u) (h2 : u ≤ 599) : (Lib.decDigits u).length = 3 := by
  rw [Lib.decDigits, dif_neg (by omega), Lib.decDigits, dif_neg (by omega), Lib.decDigits, dif_pos (by omega)]; rfl
theorem first_rsp {r : Rsp} (h1 : 200 ≤ r.status) (h2 : r.status ≤ 599) : firstP (firstRsp r) = ({ r with heads := [], body := [] }, true) ∧ ∀ c ∈ firstRsp r, c ≠ 13 := by
  obtain ⟨u, hu⟩ : ∃ u : Nat, r.status = u := ⟨r.status.toNat, by omega⟩
  have hi : Lib.itoa r.status = Lib.decDigits u := by rw [hu, itoa_nat]
  have hd := dec_digit u
  have hn := num_dec u (by omega)
  have hr := reason_ok r.status
  refine ⟨?_, fun c hc => ?_⟩
  · have ha : allB (Lib.decDigits u) 48 57 = true := by unfold allB; simp only [List.all_eq_true, Bool.and_eq_true, decide_eq_true_eq]; exact hd
    unfold firstP threeOf firstRsp
    rw [upto_word 32 _ _ (by decide)]
    simp only
    rw [hi, upto_word 32 _ _ (fun c hc => ne_of_nat (n := 32) (by decide) (by have := hd c hc; omega))]
    simp only
    rw [hn, hr.1, ha, dec3 u (by omega) (by omega)]
    have e1 : decide ((200 : Int) ≤ u) = true := decide_eq_true (by omega)
    have e2 : decide ((u : Int) ≤ 599) = true := decide_eq_true (by omega)
    simp only [e1, e2, hu, decide_true, Bool.and_self]
  · unfold firstRsp at hc
    rw [hi] at hc
    simp only [List.mem_append, List.mem_cons] at hc
    rcases hc with hc | rfl | hc | rfl | hc
    · exact (show ∀ c ∈ verW, c ≠ 13 by decide) c hc
    · decide
    · exact ne_of_nat (n := 13) (by decide) (by have := hd c hc; omega)
    · decide
    · exact hr.2 c hc
/-- THE STAGE's THEOREM, of responses. -/
theorem back_rsp (r : Rsp) (h : (printRsp r).2 = 0) (behind : Bs) : parseRsp ((printRsp r).1 ++ behind) = (r, (printRsp r).1.length, 0) := by
  obtain ⟨h1, h2, h3, h4, h5⟩ := rsp_parts h
  obtain ⟨p1, p2⟩ := printed_parts h4
  obtain ⟨f1, f2⟩ := first_rsp h1 h2
  rw [h5, p2]
  unfold parseRsp
  simp only
  rw [List.append_assoc, read_head zRsp firstP _ (firstRsp r) _ r.heads r.body behind f2 f1 h3 p1, if_neg (by simp)]
  simp
theorem less_rsp (r : Rsp) (h : (printRsp r).2 = 0) (k : Nat) (hk : k < (printRsp r).1.length) : parseRsp ((printRsp r).1.take k) = (zRsp, 0, 341) := by
  obtain ⟨h1, h2, h3, h4, h5⟩ := rsp_parts h
  obtain ⟨p1, p2⟩ := printed_parts h4
  obtain ⟨f1, f2⟩ := first_rsp h1 h2
  obtain ⟨c1, c2, c3⟩ := checked_parts h3
  rw [h5, p2] at hk ⊢
  simp only at hk ⊢
  unfold parseRsp
  by_cases hkh : k < (headOf (firstRsp r) r.heads r.body.length).length
  · exact read_less _ _ _ _ _ _ f2 c3 c2 p1 k hkh r.body
  · rw [List.length_append] at hk
    rw [List.take_append, List.take_of_length_le (by omega), read_head zRsp firstP _ (firstRsp r) _ r.heads r.body [] f2 f1 h3 p1, if_pos (by rw [List.length_take]; omega)]
end Ht
end Go.Proofs.YtoadahommlcjpaaGreatDoor
