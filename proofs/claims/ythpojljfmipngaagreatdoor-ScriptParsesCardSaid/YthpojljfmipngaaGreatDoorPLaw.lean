/-
  THE PLAIN LAW of ScriptParses: the two readers of a text agree. No walk in sight. NO CONDITIONS.
-/
import Derived.Test.YthpojljfmipngaaGreatDoorPF
import Derived.Test.YthpojljfmipngaaGreatDoorBackB
namespace Go.Proofs.YthpojljfmipngaaGreatDoor
namespace Rf
open Sc (Bs Ev)
/-! ### parts, glued again -/
def glue (l : List Bs) : Bs := l.flatMap fun p => 32 :: p
theorem glue_cons (p : Bs) (l : List Bs) : glue (p :: l) = 32 :: (p ++ glue l) := rfl
theorem glue_app (l m : List Bs) : glue (l ++ m) = glue l ++ glue m := by unfold glue; rw [List.flatMap_append]
theorem glue_one (p : Bs) : glue [p] = 32 :: p := by unfold glue; simp
theorem glue_go (s : Bs) (q : Bool) (done : List Bs) (cur : Bs) : glue (partsGo s q done cur) = glue done ++ 32 :: (cur ++ s) := by
  induction s, q, done, cur using partsGo.induct with
  | case1 q done cur => rw [partsGo, glue_app, glue_one, List.append_nil]
  | case2 c q done cur h => rw [partsGo, if_pos h, glue_app, glue_app, glue_one, glue_one, h.1]; simp
  | case3 c q done cur h => rw [partsGo, if_neg h, glue_app, glue_one]
  | case4 c d t q done cur h ih => rw [partsGo, if_pos h, ih, glue_app, glue_one, h.1]; simp
  | case5 c d t q done cur h h2 ih => rw [partsGo, if_neg h, if_pos h2, ih]; simp
  | case6 c d t q done cur h h2 ih => rw [partsGo, if_neg h, if_neg h2, ih]; simp
theorem glue_parts (s : Bs) : glue (partsOf s) = 32 :: s := by unfold partsOf; rw [glue_go]; rfl
def plainB (p : Bs) : Prop := ∀ c ∈ p, c ≠ 32 ∧ c ≠ 34
theorem go_plain (p : Bs) : ∀ (t : Bs) (done : List Bs) (cur : Bs), plainB p → partsGo (p ++ t) false done cur = partsGo t false done (cur ++ p) := by
  induction p with
  | nil => intro t done cur _; rw [List.nil_append, List.append_nil]
  | cons c p ih =>
    intro t done cur h
    have hc := h c (by simp)
    rw [List.cons_append, go_one (fun e => hc.1 e.1) (fun e => by cases e.1), if_neg hc.2, ih t done _ (fun x hx => h x (by simp [hx]))]
    simp
theorem go_glue (ps : List Bs) : ∀ (t : Bs) (done : List Bs) (cur : Bs), (∀ p ∈ ps, plainB p) → ∃ done' cur', done' ++ [cur'] = done ++ cur :: ps ∧ partsGo (glue ps ++ t) false done cur = partsGo t false done' cur' := by
  induction ps with
  | nil => intro t done cur _; exact ⟨done, cur, rfl, rfl⟩
  | cons p ps ih =>
    intro t done cur h
    obtain ⟨d', c', h1, h2⟩ := ih t (done ++ [cur]) p (fun x hx => h x (by simp [hx]))
    refine ⟨d', c', by rw [h1]; simp, ?_⟩
    rw [glue_cons, List.cons_append, List.append_assoc, go_blank rfl, go_plain p _ _ _ (h p (by simp)), List.nil_append, h2]
theorem parts_plain (w : Bs) (ps : List Bs) (hw : plainB w) (hp : ∀ p ∈ ps, plainB p) : partsOf (w ++ glue ps) = w :: ps := by
  obtain ⟨d, c, h1, h2⟩ := go_glue ps [] [] w hp
  unfold partsOf
  rw [go_plain w _ _ _ hw, List.nil_append]
  rw [List.append_nil] at h2
  rw [h2, partsGo, h1]; rfl
theorem hexd_ne : ∀ n : Fin 16, Sc.hexd n.val ≠ 34 ∧ Sc.hexd n.val ≠ 92 ∧ Sc.hexd n.val ≠ 32 := by decide
theorem go_esc1 (c : UInt8) (t : Bs) (done : List Bs) (cur : Bs) (ht : t ≠ []) : partsGo (Sc.esc c ++ t) true done cur = partsGo t true done (cur ++ Sc.esc c) := by
  have d1 := hexd_ne ⟨c.toNat / 16, by have := c.toNat_lt; omega⟩
  have d2 := hexd_ne ⟨c.toNat % 16, by omega⟩
  simp only at d1 d2
  unfold Sc.esc
  split
  · rw [List.cons_append, List.singleton_append, go_esc]
  split
  · rw [List.cons_append, List.singleton_append, go_esc]
  split
  · rw [List.cons_append, List.singleton_append, go_esc]
  split
  · rw [List.cons_append, List.cons_append, List.cons_append, List.singleton_append, go_esc, go_one (fun e => by cases e.2) (fun e => d1.2.1 e.2.1), if_neg d1.1, go_one (fun e => by cases e.2) (fun e => d2.2.1 e.2.1), if_neg d2.1]
    simp
  · rename_i h1 h2 h3 h4
    rw [List.singleton_append, go_one (fun e => by cases e.2) (fun e => h1 (.inr (by rw [e.2.1]; rfl))), if_neg (fun e => h1 (.inl (by rw [e]; rfl)))]
theorem go_quoted (s : Bs) : ∀ (done : List Bs) (cur : Bs), partsGo (s.flatMap Sc.esc ++ [34]) true done cur = done ++ [cur ++ (s.flatMap Sc.esc ++ [34])] := by
  induction s with
  | nil =>
    intro done cur
    rw [List.flatMap_nil, List.nil_append, partsGo, if_neg (fun e => by cases e.2)]
  | cons c s ih =>
    intro done cur
    rw [List.flatMap_cons, List.append_assoc, go_esc1 c _ _ _ (by simp), ih]
    simp
theorem parts_quoted (w : Bs) (ps : List Bs) (s : Bs) (hw : plainB w) (hp : ∀ p ∈ ps, plainB p) : partsOf (w ++ (glue ps ++ 32 :: refQuote s)) = w :: (ps ++ [refQuote s]) := by
  obtain ⟨d, c, h1, h2⟩ := go_glue ps (32 :: refQuote s) [] w hp
  unfold partsOf
  rw [go_plain w _ _ _ hw, List.nil_append, h2, go_blank rfl, h1]
  unfold refQuote
  rw [List.append_assoc, List.singleton_append, go_one (fun e => by simp at e) (fun e => by cases e.1), if_pos rfl, Bool.not_false, go_quoted]
  simp
/-! ### numbers -/
theorem dec_all (u : Nat) : (Lib.decDigits u).all isDig = true := by
  rw [List.all_eq_true]
  intro c hc
  have := Sc.dec_digit u c hc
  unfold isDig
  simp [this]
theorem dec_digs (u : Nat) : digs (Lib.decDigits u) 0 = u := by
  induction u using Nat.strongRecOn with
  | ind u ih =>
    rw [Lib.decDigits]
    split
    · rename_i h
      unfold digs
      simp only [List.foldl_cons, List.foldl_nil]
      rw [Sc.u8_nat (by omega)]; omega
    · rename_i h
      rw [digs_snoc, ih _ (by omega), Sc.u8_nat (by omega)]; omega
theorem dec_short (k : Nat) : ∀ u : Nat, u < 10 ^ (k + 1) → (Lib.decDigits u).length ≤ k + 1 := by
  induction k with
  | zero => intro u h; rw [Lib.decDigits, dif_pos (by simpa using h)]; simp
  | succ k ih =>
    intro u h
    rw [Lib.decDigits]
    split
    · simp
    · have := ih (u / 10) (by rw [Nat.pow_succ] at h; omega)
      simp; omega
theorem numR_itoa (v : Int) (h : Sc.wideN v = false) : numR (Lib.itoa v) = (v, true) := by
  unfold Sc.wideN at h
  rw [Bool.or_eq_false_iff, decide_eq_false_iff_not, decide_eq_false_iff_not] at h
  by_cases hv : v < 0
  · have e : Lib.itoa v = 45 :: Lib.decDigits v.natAbs := by unfold Lib.itoa; rw [if_pos hv]
    have hb : bodyOf (Lib.itoa v) = Lib.decDigits v.natAbs := by rw [e]; rfl
    have hval : valOf (Lib.itoa v) = v := by
      unfold valOf
      rw [hb, e, List.head?_cons, if_pos rfl, dec_digs]; omega
    have hl := dec_short 9 v.natAbs (by omega)
    unfold numR
    rw [if_neg, hval, decide_eq_true rfl, decide_eq_true (by omega), decide_eq_true (by omega)]
    · rfl
    · rw [hb, dec_all, e]; simp; omega
  · have e : Lib.itoa v = Lib.decDigits v.toNat := by unfold Lib.itoa; rw [if_neg hv]
    have h45 : ¬ (Lib.itoa v).head? = some 45 := by
      intro hh
      have hm : (45 : UInt8) ∈ Lib.decDigits v.toNat := by rw [← e]; exact List.mem_of_mem_head? hh
      have := Sc.dec_digit _ _ hm
      have e45 : (45 : UInt8).toNat = 45 := rfl
      omega
    have hb : bodyOf (Lib.itoa v) = Lib.decDigits v.toNat := by unfold bodyOf; rw [if_neg h45, e]
    have hval : valOf (Lib.itoa v) = v := by
      unfold valOf
      rw [if_neg h45, hb, dec_digs]; omega
    have hl := dec_short 9 v.toNat (by omega)
    unfold numR
    rw [if_neg, hval, decide_eq_true rfl, decide_eq_true (by omega), decide_eq_true (by omega)]
    · rfl
    · rw [hb, dec_all, e]; have := Sc.dec_ne v.toNat; simp [this]; omega
theorem numR_ok (s : Bs) (h : (numR s).2 = true) : s = Lib.itoa (numR s).1 ∧ Sc.wideN (numR s).1 = false := by
  unfold numR at h ⊢
  split
  · rename_i hc; rw [if_pos hc] at h; cases h
  · rename_i hc
    rw [if_neg hc] at h
    simp only [Bool.and_eq_true, decide_eq_true_eq] at h
    refine ⟨h.1.1.symm, ?_⟩
    unfold Sc.wideN
    rw [Bool.or_eq_false_iff, decide_eq_false_iff_not, decide_eq_false_iff_not]
    omega
theorem glue_nums : ∀ fs : List Bs, allNum fs = true → glue fs = Sc.numsText (vals fs) ∧ ∀ v ∈ vals fs, Sc.wideN v = false
  | [], _ => ⟨rfl, by simp [vals]⟩
  | p :: fs, h => by
    unfold allNum at h
    rw [List.all_cons, Bool.and_eq_true] at h
    obtain ⟨h1, h2⟩ := numR_ok p h.1
    obtain ⟨i1, i2⟩ := glue_nums fs h.2
    have e : vals (p :: fs) = (numR p).1 :: vals fs := rfl
    rw [e, glue_cons, Sc.numsText_cons, i1, ← h1]
    refine ⟨rfl, ?_⟩
    intro v hv
    rcases List.mem_cons.1 hv with rfl | hv
    · exact h2
    · exact i2 v hv
theorem nums_glue (vs : List Int) (h : ∀ v ∈ vs, Sc.wideN v = false) : Sc.numsText vs = glue (vs.map Lib.itoa) ∧ allNum (vs.map Lib.itoa) = true ∧ vals (vs.map Lib.itoa) = vs ∧ ∀ p ∈ vs.map Lib.itoa, plainB p := by
  induction vs with
  | nil => exact ⟨rfl, rfl, rfl, by simp⟩
  | cons v vs ih =>
    obtain ⟨i1, i2, i3, i4⟩ := ih (fun x hx => h x (by simp [hx]))
    have hv := numR_itoa v (h v (by simp))
    refine ⟨by rw [Sc.numsText_cons, List.map_cons, glue_cons, i1], ?_, ?_, ?_⟩
    · unfold allNum at i2 ⊢; rw [List.map_cons, List.all_cons, i2, hv]; rfl
    · unfold vals at i3 ⊢; rw [List.map_cons, List.map_cons, i3, hv]
    · intro p hp
      rw [List.map_cons] at hp
      rcases List.mem_cons.1 hp with rfl | hp
      · intro c hc
        have := Sc.itoa_char v c hc
        refine ⟨fun e => ?_, fun e => ?_⟩ <;> subst e
        · have e : (32 : UInt8).toNat = 32 := rfl; omega
        · have e : (34 : UInt8).toNat = 34 := rfl; omega
      · exact i4 p hp
/-! ### quoted texts -/
theorem hex_back : ∀ n : Fin 256, badHex (Sc.hexd (n.val / 16)) (Sc.hexd (n.val % 16)) = false ∧ hexV (Sc.hexd (n.val / 16)) (Sc.hexd (n.val % 16)) = UInt8.ofNat n.val := by decide +kernel
theorem dec_esc1 (c : UInt8) (t out : Bs) (ht : t ≠ [] ∨ c ≠ 92) : decGo (Sc.esc c ++ t) out = decGo t (out ++ [c]) := by
  have hb := hex_back ⟨c.toNat, c.toNat_lt⟩
  simp only [UInt8.ofNat_toNat] at hb
  unfold Sc.esc
  split
  · rename_i h
    have hc : c = 34 ∨ c = 92 := by
      rcases h with h | h
      · exact .inl (UInt8.toNat_inj.1 h)
      · exact .inr (UInt8.toNat_inj.1 h)
    rw [List.cons_append, List.singleton_append, dec_esc (fun e => by rcases hc with rfl | rfl <;> simp at e)]
    rcases hc with rfl | rfl <;> rfl
  split
  · rename_i h
    have hc : c = 10 := UInt8.toNat_inj.1 h
    subst hc
    rw [List.cons_append, List.singleton_append, dec_esc (fun e => by simp at e)]; rfl
  split
  · rename_i h
    have hc : c = 13 := UInt8.toNat_inj.1 h
    subst hc
    rw [List.cons_append, List.singleton_append, dec_esc (fun e => by simp at e)]; rfl
  split
  · rw [List.cons_append, List.cons_append, List.cons_append, List.singleton_append, dec_hex hb.1, hb.2]
  · rename_i h1 _ _ _
    rw [List.singleton_append, dec_one (fun e => h1 (.inr (by rw [e.1]; rfl)))]
theorem dec_quote (s : Bs) : ∀ out : Bs, decGo (s.flatMap Sc.esc) out = some (out ++ s) := by
  induction s with
  | nil => intro out; rw [List.flatMap_nil, decGo, List.append_nil]
  | cons c s ih =>
    intro out
    rw [List.flatMap_cons]
    have e : decGo (Sc.esc c ++ s.flatMap Sc.esc) out = decGo (s.flatMap Sc.esc) (out ++ [c]) := by
      by_cases hc : c = 92
      · subst hc
        rw [show Sc.esc 92 = [92, 92] from rfl, List.cons_append, List.singleton_append, dec_esc (fun e => by simp at e)]; rfl
      · exact dec_esc1 c _ out (.inr hc)
    rw [e, ih]; simp
theorem unq_quote (s : Bs) : unqR (refQuote s) = (s, true) := by
  have hb : bodyQ (refQuote s) = s.flatMap Sc.esc := by
    unfold bodyQ refQuote
    rw [List.append_assoc, List.singleton_append, List.drop_succ_cons, List.drop_zero]
    rw [List.take_append_of_le_length (by simp), List.take_of_length_le (by simp)]
  unfold unqR
  rw [if_neg, hb, dec_quote]
  · simp
  · have h0 : (refQuote s).length = (s.flatMap Sc.esc).length + 2 := by unfold refQuote; simp
    have h1 : (refQuote s).getD 0 0 = 34 := by unfold refQuote; simp
    have h2 : (refQuote s).getD ((refQuote s).length - 1) 0 = 34 := by
      rw [h0, List.getD_eq_getElem?_getD]; unfold refQuote
      rw [List.getElem?_append_right (by simp)]; simp
    rw [h1, h2, h0]; simp
theorem unq_ok (s : Bs) (h : (unqR s).2 = true) : refQuote (unqR s).1 = s := by
  unfold unqR at h ⊢
  split
  · rename_i hc; rw [if_pos hc] at h; cases h
  · rename_i hc
    rw [if_neg hc] at h
    split
    · rename_i e; rw [e] at h; cases h
    · rename_i o e; rw [e] at h; simpa using h
end Rf
end Go.Proofs.YthpojljfmipngaaGreatDoor
