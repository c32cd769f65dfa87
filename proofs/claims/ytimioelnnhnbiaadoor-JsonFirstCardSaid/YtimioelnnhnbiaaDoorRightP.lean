/-
  What the plain parser reads, and is not large, is right. No program in sight.
-/
import Derived.Test.YtimioelnnhnbiaaDoorBackQ
namespace Go.Proofs.YtimioelnnhnbiaaDoor
/-- Nothing was large, and the counts grew by so much. -/
structure Rt (st st' : Js.St) (n b : Nat) : Prop where
  large : st.large = false
  deep : st'.deep = st.deep
  nodes : st'.nodes = st.nodes + n
  bytes : st'.bytes = st.bytes + b
  nle : st.nodes ≤ 256 → st'.nodes ≤ 256
  ble : st.bytes ≤ 32768 → st'.bytes ≤ 32768
theorem Rt.trans {a b c : Js.St} {n m p q : Nat} (h : Rt a b n p) (k : Rt b c m q) : Rt a c (n + m) (p + q) :=
  ⟨h.large, k.deep.trans h.deep, by rw [k.nodes, h.nodes, Nat.add_assoc], by rw [k.bytes, h.bytes, Nat.add_assoc], fun e => k.nle (h.nle e), fun e => k.ble (h.ble e)⟩
theorem Rt.of {a b : Js.St} {n m p q : Nat} (h : Rt a b n p) (e1 : n = m) (e2 : p = q) : Rt a b m q := by subst e1 e2; exact h
theorem Rt.at_ {st : Js.St} (p : Nat) (h : st.large = false) : Rt st { st with at_ := p } 0 0 := ⟨h, rfl, rfl, rfl, id, id⟩
theorem Rt.blanks (s : Js.Bs) {st : Js.St} (h : (Js.blanks s st).large = false) : Rt st (Js.blanks s st) 0 0 := by
  obtain ⟨k, e⟩ := blanks_at s st
  rw [e] at h ⊢
  exact Rt.at_ _ h
theorem Rt.step {st : Js.St} (h : st.large = false) : Rt st (Js.step st) 0 0 := Rt.at_ _ h
theorem take_rt {s : Js.Bs} {c : UInt8} {st st' : Js.St} {u : Unit} (h : Js.take s c st = .ok u st') (hl : st'.large = false) : Rt st st' 0 0 := by
  obtain ⟨rfl, _⟩ := take_ok h
  exact Rt.step hl
theorem word_rt {s l : Js.Bs} {st st' : Js.St} {u : Unit} (h : Js.word s l st = .ok u st') (hl : st'.large = false) : Rt st st' 0 0 := by
  have e := word_at s l st st' h
  subst e
  exact Rt.at_ _ hl
theorem textGo_st (s : Js.Bs) : ∀ (n : Nat) (acc : Js.Bs) (st : Js.St) (t : Js.Bs) (st' : Js.St), Js.textGo s n acc st = .ok t st' → ∃ p, st' = { st with at_ := p }
  | 0, _, _, _, _, h => by cases h
  | n + 1, acc, st, t, st', h => by
    cases hx : s[st.at_]? with
    | none => rw [textGo_end hx] at h; cases h
    | some c =>
      by_cases h1 : c = 34
      · subst h1
        rw [textGo_quote hx] at h
        injection h with h2 h3
        exact ⟨st.at_ + 1, h3.symm⟩
      · by_cases h2 : c.toNat < 32 ∨ 126 < c.toNat
        · rw [textGo_ctl hx h1 h2] at h; cases h
        · by_cases h3 : c = 92
          · subst h3
            rw [textGo_esc hx] at h
            obtain ⟨d, st2, hp, hg⟩ := bind_ok h
            rcases pair_inv s (Js.step st) with ⟨c', p, hp', _, _⟩ | ⟨k, hp'⟩
            · rw [hp] at hp'
              injection hp' with e1 e2
              subst e2
              obtain ⟨p', q1⟩ := textGo_st s n _ _ t st' hg
              exact ⟨p', q1⟩
            · rw [hp] at hp'; cases hp'
          · rw [textGo_one hx h1 h2 h3] at h
            obtain ⟨p', q1⟩ := textGo_st s n _ _ t st' h
            exact ⟨p', q1⟩
theorem text_rt {s : Js.Bs} {st st' : Js.St} {t : Js.Bs} (h : Js.text s st = .ok t st') (hl : st'.large = false) : Rt st st' 0 t.length := by
  unfold Js.text at h
  obtain ⟨_, st1, h1, h2⟩ := bind_ok h
  obtain ⟨t2, st2, h3, h4⟩ := bind_ok h2
  obtain ⟨rfl, _⟩ := take_ok h1
  obtain ⟨p, rfl⟩ := textGo_st s _ _ _ _ _ h3
  injection h4 with e1 e2
  subst e1 e2
  have hl : (st.large || decide (32768 < st.bytes + t2.length)) = false := hl
  simp only [Bool.or_eq_false_iff, decide_eq_false_iff_not] at hl
  exact ⟨hl.1, rfl, rfl, rfl, id, fun _ => by show st.bytes + t2.length ≤ 32768; omega⟩
theorem fold_dig : ∀ (ds : Js.Bs) (a : Int) (L : Bool), (∀ c ∈ ds, Js.isDig c = true) → -9223372036854775808 ≤ a → a ≤ 0 →
    -9223372036854775808 ≤ (ds.foldl Js.digStep (a, L)).1 ∧ (ds.foldl Js.digStep (a, L)).1 ≤ 0 ∧ ((ds.foldl Js.digStep (a, L)).2 = false → L = false)
  | [], a, L, _, h1, h2 => ⟨h1, h2, id⟩
  | c :: t, a, L, h, h1, h2 => by
    have hc := (isDig_iff c).1 (h c (by simp))
    rw [List.foldl_cons]
    by_cases hb : a < Int.tdiv (-9223372036854775808 + ((c.toNat : Int) - 48)) 10
    · rw [digStep_big hb]
      obtain ⟨r1, r2, r3⟩ := fold_dig t a true (fun d hd => h d (by simp [hd])) h1 h2
      exact ⟨r1, r2, fun e => by have := r3 e; cases this⟩
    · rw [digStep_fit hb]
      have hlo := tdiv_lo a ((c.toNat : Int) - 48) (by omega) (by omega) hb
      exact fold_dig t _ L (fun d hd => h d (by simp [hd])) hlo (by omega)
theorem numRest_rt {s : Js.Bs} {st st' : Js.St} {q : Bool} {n : Int} (h : numRest s q st = .ok n st') (hl : st'.large = false) : Rt st st' 0 0 ∧ -9223372036854775808 ≤ n ∧ n ≤ 9223372036854775807 := by
  unfold numRest at h
  by_cases hd : (!Js.isDig (Js.peek s st)) = true
  · rw [if_pos hd] at h; cases h
  rw [if_neg hd] at h
  by_cases h0 : Js.peek s st = 48
  · rw [if_pos h0] at h
    injection h with e1 e2
    subst e1 e2
    exact ⟨Rt.step hl, by decide, by decide⟩
  · rw [if_neg h0] at h
    obtain ⟨f1, f2, f3⟩ := fold_dig (digsAt s st) 0 st.large (fun c hc => List.all_eq_true.1 (List.all_takeWhile (p := Js.isDig) (l := s.drop st.at_)) c hc) (by decide) (by decide)
    simp only at h
    generalize (digsAt s st).foldl Js.digStep (0, st.large) = F at h f1 f2 f3
    cases q with
    | true =>
      simp only [if_true] at h
      injection h with e1 e2
      subst e1 e2
      have hl : F.2 = false := hl
      exact ⟨⟨f3 hl, rfl, rfl, rfl, id, id⟩, f1, by omega⟩
    | false =>
      simp only [Bool.false_eq_true, if_false] at h
      injection h with e1 e2
      subst e1 e2
      have hl : (F.2 || decide (F.1 = -9223372036854775808)) = false := hl
      simp only [Bool.or_eq_false_iff, decide_eq_false_iff_not] at hl
      refine ⟨⟨f3 hl.1, rfl, rfl, rfl, id, id⟩, ?_, ?_⟩
      · rw [if_neg hl.2]; omega
      · rw [if_neg hl.2]; omega
theorem number_rt {s : Js.Bs} {st st' : Js.St} {n : Int} (h : Js.number s st = .ok n st') (hl : st'.large = false) : Rt st st' 0 0 ∧ -9223372036854775808 ≤ n ∧ n ≤ 9223372036854775807 := by
  rw [number_eq] at h
  split at h
  · obtain ⟨h1, h2⟩ := numRest_rt h hl
    exact ⟨(Rt.step (st := st) h1.large).trans h1, h2⟩
  · exact numRest_rt h hl
structure Rts (s : Js.Bs) (n : Nat) : Prop where
  value : ∀ st x st', Js.value s n st = .ok x st' → st'.large = false → Rt st st' (Js.nodes x) (Js.bytes x) ∧ Js.good x = true ∧ Js.inR x = true ∧ st.deep + Js.deep x ≤ 8
  inner : ∀ st x st', Js.inner s n st = .ok x st' → st'.large = false → (∃ a, Js.nodes x = a + 1 ∧ Rt st st' a (Js.bytes x)) ∧ Js.good x = true ∧ Js.inR x = true ∧ (st.deep ≤ 8 → st.deep + Js.deep x ≤ 9)
  items : ∀ acc st l st', Js.items s n acc st = .ok l st' → st'.large = false → ∃ l', l = acc ++ l' ∧ Rt st st' (Js.nodesL l') (Js.bytesL l') ∧ Js.goodL l' = true ∧ Js.inRL l' = true ∧ st.deep + Js.deepL l' ≤ 8
  members : ∀ acc st l st', Js.members s n acc st = .ok l st' → st'.large = false → ∃ l', l = acc ++ l' ∧ Rt st st' (Js.nodesM l') (Js.bytesM l') ∧ Js.goodM l' = true ∧ Js.inRM l' = true ∧ st.deep + Js.deepM l' ≤ 8 ∧ ((acc.map (·.1)).Nodup → (l.map (·.1)).Nodup)
theorem leaf_good (k : Int) (b : Bool) (n : Int) (t : Js.Bs) (hp : Js.plain (.mk k b n t [] []) = true) (h1 : -9223372036854775808 ≤ n) (h2 : n ≤ 9223372036854775807) (h3 : -9223372036854775808 ≤ k) (h4 : k ≤ 9223372036854775807) :
    Js.good (.mk k b n t [] []) = true ∧ Js.inR (.mk k b n t [] []) = true := by
  constructor
  · unfold Js.good
    rw [hp]
    rfl
  · unfold Js.inR
    rw [decide_eq_true h1, decide_eq_true h2, decide_eq_true h3, decide_eq_true h4]
    rfl
theorem deep_leaf (k : Int) (b : Bool) (n : Int) (t : Js.Bs) : Js.deep (.mk k b n t [] []) = 1 := rfl
theorem nodes_leaf (k : Int) (b : Bool) (n : Int) (t : Js.Bs) : Js.nodes (.mk k b n t [] []) = 0 + 1 := rfl
theorem bytes_leaf (k : Int) (b : Bool) (n : Int) (t : Js.Bs) : Js.bytes (.mk k b n t [] []) = t.length := by show t.length + 0 + 0 = _; omega
theorem rts (s : Js.Bs) : ∀ n, Rts s n
  | 0 => ⟨(fun _ _ _ h => by cases h), (fun _ _ _ h => by cases h), (fun _ _ _ _ h => by cases h), (fun _ _ _ _ h => by cases h)⟩
  | n + 1 => by
    have ih := rts s n
    refine ⟨?_, ?_, ?_, ?_⟩
    · intro st x st' h hl
      rw [value_eq] at h
      obtain ⟨x1, st1, h1, h2⟩ := bind_ok h
      injection h2 with e1 e2
      subst e1 e2
      have hb := Rt.blanks s hl
      have hl1 : st1.large = false := hb.large
      have hbl : ∀ (h : (begun (Js.blanks s st)).large = false), (Js.blanks s st).large = false ∧ (Js.blanks s st).deep + 1 ≤ 8 ∧ (Js.blanks s st).nodes + 1 ≤ 256 := by
        intro h
        have h : ((Js.blanks s st).large || decide (8 < (Js.blanks s st).deep + 1) || decide (256 < (Js.blanks s st).nodes + 1)) = false := h
        simp only [Bool.or_eq_false_iff, decide_eq_false_iff_not] at h
        exact ⟨h.1.1, by omega, by omega⟩
      obtain ⟨⟨a, ha, hr⟩, hg, hi, hd⟩ := ih.inner _ _ _ h1 hl1
      obtain ⟨g1, g2, g3⟩ := hbl hr.large
      have hd := hd (by show (Js.blanks s st).deep + 1 ≤ 8; omega)
      have hb0 := Rt.blanks s g1
      have hd0 : (Js.blanks s st).deep = st.deep := hb0.deep
      have hd : (Js.blanks s st).deep + 1 + Js.deep x1 ≤ 9 := hd
      have r1 : st1.deep = (Js.blanks s st).deep + 1 := hr.deep
      have r2 : st1.nodes = (Js.blanks s st).nodes + 1 + a := hr.nodes
      have r3 : st1.bytes = (Js.blanks s st).bytes + Js.bytes x1 := hr.bytes
      have r4 : (Js.blanks s st).nodes + 1 ≤ 256 → st1.nodes ≤ 256 := hr.nle
      have r5 : (Js.blanks s st).bytes ≤ 32768 → st1.bytes ≤ 32768 := hr.ble
      have rr : Rt (Js.blanks s st) (ended st1) (Js.nodes x1) (Js.bytes x1) := ⟨g1, by show st1.deep - 1 = _; omega, by show st1.nodes = _; omega, r3, fun _ => r4 g3, r5⟩
      exact ⟨((hb0.trans rr).trans hb).of (by omega) (by omega), hg, hi, by omega⟩
    · intro st x st' h hl
      rw [inner_eq] at h
      split at h
      · obtain ⟨_, st1, h1, h2⟩ := bind_ok h
        injection h2 with e1 e2; subst e1 e2
        obtain ⟨q1, q2⟩ := leaf_good 1 false 0 [] (by decide) (by decide) (by decide) (by decide) (by decide)
        exact ⟨⟨0, nodes_leaf .., by rw [bytes_leaf]; exact word_rt h1 hl⟩, q1, q2, fun _ => by rw [deep_leaf]; omega⟩
      split at h
      · obtain ⟨_, st1, h1, h2⟩ := bind_ok h
        injection h2 with e1 e2; subst e1 e2
        obtain ⟨q1, q2⟩ := leaf_good 2 true 0 [] (by decide) (by decide) (by decide) (by decide) (by decide)
        exact ⟨⟨0, nodes_leaf .., by rw [bytes_leaf]; exact word_rt h1 hl⟩, q1, q2, fun _ => by rw [deep_leaf]; omega⟩
      split at h
      · obtain ⟨_, st1, h1, h2⟩ := bind_ok h
        injection h2 with e1 e2; subst e1 e2
        obtain ⟨q1, q2⟩ := leaf_good 2 false 0 [] (by decide) (by decide) (by decide) (by decide) (by decide)
        exact ⟨⟨0, nodes_leaf .., by rw [bytes_leaf]; exact word_rt h1 hl⟩, q1, q2, fun _ => by rw [deep_leaf]; omega⟩
      split at h
      · obtain ⟨t, st1, h1, h2⟩ := bind_ok h
        injection h2 with e1 e2; subst e1 e2
        obtain ⟨q1, q2⟩ := leaf_good 4 false 0 t (by unfold Js.plain; simp [Js.J.kind, Js.J.bool, Js.J.num, Js.J.text, Js.J.items, Js.J.members]) (by decide) (by decide) (by decide) (by decide)
        exact ⟨⟨0, nodes_leaf .., by rw [bytes_leaf]; exact text_rt h1 hl⟩, q1, q2, fun _ => by rw [deep_leaf]; omega⟩
      split at h
      · obtain ⟨k, st1, h1, h2⟩ := bind_ok h
        injection h2 with e1 e2; subst e1 e2
        obtain ⟨w1, w2, w3⟩ := number_rt h1 hl
        obtain ⟨q1, q2⟩ := leaf_good 3 false k [] (by unfold Js.plain; simp [Js.J.kind, Js.J.bool, Js.J.num, Js.J.text, Js.J.items, Js.J.members]) w2 w3 (by decide) (by decide)
        exact ⟨⟨0, nodes_leaf .., by rw [bytes_leaf]; exact w1⟩, q1, q2, fun _ => by rw [deep_leaf]; omega⟩
      split at h
      · unfold listIn at h
        split at h
        · injection h with e1 e2; subst e1 e2
          obtain ⟨q1, q2⟩ := leaf_good 5 false 0 [] (by decide) (by decide) (by decide) (by decide) (by decide)
          have hs := Rt.step (st := Js.blanks s (Js.step st)) hl
          have hb := Rt.blanks s hs.large
          exact ⟨⟨0, nodes_leaf .., by rw [bytes_leaf]; exact ((Rt.step (st := st) hb.large).trans hb).trans hs⟩, q1, q2, fun _ => by rw [deep_leaf]; omega⟩
        · obtain ⟨l, st1, h1, h2⟩ := bind_ok h
          injection h2 with e1 e2; subst e1 e2
          obtain ⟨l', he, hr, hg, hi, hd2⟩ := ih.items _ _ _ _ h1 hl
          rw [List.nil_append] at he
          subst he
          have hb := Rt.blanks s hr.large
          have hs := Rt.step (st := st) hb.large
          have hd2 : (Js.blanks s (Js.step st)).deep + Js.deepL l ≤ 8 := hd2
          have hdd : (Js.blanks s (Js.step st)).deep = st.deep := (hs.trans hb).deep
          refine ⟨⟨Js.nodesL l, ?_, ((hs.trans hb).trans hr).of (by omega) ?_⟩, ?_, ?_, ?_⟩
          · show 1 + Js.nodesL l + 0 = _; omega
          · show _ = 0 + Js.bytesL l + 0; omega
          · unfold Js.good
            rw [hg]
            unfold Js.plain
            simp [Js.J.kind, Js.J.bool, Js.J.num, Js.J.text, Js.J.members, Js.goodM]
          · unfold Js.inR
            rw [hi]
            simp [Js.inRM]
          · intro _; show st.deep + (max (Js.deepL l) 0 + 1) ≤ 9
            omega
      split at h
      · unfold objIn at h
        split at h
        · injection h with e1 e2; subst e1 e2
          obtain ⟨q1, q2⟩ := leaf_good 6 false 0 [] (by decide) (by decide) (by decide) (by decide) (by decide)
          have hs := Rt.step (st := Js.blanks s (Js.step st)) hl
          have hb := Rt.blanks s hs.large
          exact ⟨⟨0, nodes_leaf .., by rw [bytes_leaf]; exact ((Rt.step (st := st) hb.large).trans hb).trans hs⟩, q1, q2, fun _ => by rw [deep_leaf]; omega⟩
        · obtain ⟨l, st1, h1, h2⟩ := bind_ok h
          injection h2 with e1 e2; subst e1 e2
          obtain ⟨l', he, hr, hg, hi, hd2, hnd⟩ := ih.members _ _ _ _ h1 hl
          rw [List.nil_append] at he
          subst he
          have hb := Rt.blanks s hr.large
          have hs := Rt.step (st := st) hb.large
          have hdd : (Js.blanks s (Js.step st)).deep = st.deep := (hs.trans hb).deep
          refine ⟨⟨Js.nodesM l, ?_, ((hs.trans hb).trans hr).of (by omega) ?_⟩, ?_, ?_, ?_⟩
          · show 1 + 0 + Js.nodesM l = _; omega
          · show _ = 0 + 0 + Js.bytesM l; omega
          · unfold Js.good
            rw [hg, decide_eq_true (hnd (by simp))]
            unfold Js.plain
            simp [Js.J.kind, Js.J.bool, Js.J.num, Js.J.text, Js.J.items, Js.goodL]
          · unfold Js.inR
            rw [hi]
            simp [Js.inRL]
          · intro _; show st.deep + (max 0 (Js.deepM l) + 1) ≤ 9
            omega
      · cases h
    · intro acc st l st' h hl
      rw [items_eq] at h
      obtain ⟨x, st1, h1, h2⟩ := bind_ok h
      unfold itemsEnd at h2
      split at h2
      · injection h2 with e1 e2; subst e1 e2
        obtain ⟨r, g, i, d⟩ := ih.value _ _ _ h1 hl
        refine ⟨[x], rfl, (r.trans (Rt.step (st := st1) hl)).of ?_ ?_, ?_, ?_, ?_⟩
        · simp [Js.nodesL]
        · simp [Js.bytesL]
        · simp [Js.goodL, g]
        · simp [Js.inRL, i]
        · simp [Js.deepL]; omega
      · obtain ⟨_, st2, h3, h4⟩ := bind_ok h2
        obtain ⟨l', he, hr, hg, hi, hd⟩ := ih.items _ _ _ _ h4 hl
        have ht := take_rt h3 hr.large
        obtain ⟨r, g, i, d⟩ := ih.value _ _ _ h1 ht.large
        have hdd : st2.deep = st.deep := (r.trans ht).deep
        refine ⟨x :: l', by rw [he]; simp, ((r.trans ht).trans hr).of ?_ ?_, ?_, ?_, ?_⟩
        · simp [Js.nodesL]
        · simp [Js.bytesL]
        · simp [Js.goodL, g, hg]
        · simp [Js.inRL, i, hi]
        · show st.deep + max (Js.deep x) (Js.deepL l') ≤ 8; omega
    · intro acc st l st' h hl
      rw [members_eq] at h
      obtain ⟨nm, st1, h1, h2⟩ := bind_ok h
      obtain ⟨_, st2, h3, h4⟩ := bind_ok h2
      obtain ⟨x, st3, h5, h6⟩ := bind_ok h4
      -- what stands ahead of the end, were the end not large
      have head : st3.large = false → Rt st st3 (Js.nodes x) (nm.length + Js.bytes x) ∧ Js.good x = true ∧ Js.inR x = true ∧ st.deep + Js.deep x ≤ 8 ∧ (acc.any fun m => decide (m.1 = nm)) = false := by
        intro hl3
        obtain ⟨r, g, i, d⟩ := ih.value _ _ _ h5 hl3
        have hl2 : (st2.large || acc.any fun m => decide (m.1 = nm)) = false := r.large
        rw [Bool.or_eq_false_iff] at hl2
        have r' : Rt st2 st3 (Js.nodes x) (Js.bytes x) := ⟨hl2.1, r.deep, r.nodes, r.bytes, r.nle, r.ble⟩
        have t2 := take_rt h3 hl2.1
        have b2 := Rt.blanks s t2.large
        have t1 := text_rt h1 b2.large
        have b1 := Rt.blanks s t1.large
        have rr := b1.trans (t1.trans (b2.trans t2))
        have d' : st2.deep + Js.deep x ≤ 8 := d
        have hdd : st2.deep = st.deep := rr.deep
        exact ⟨(rr.trans r').of (by omega) (by omega), g, i, by omega, hl2.2⟩
      have fresh : (acc.any fun m => decide (m.1 = nm)) = false → (acc.map (·.1)).Nodup → ((acc ++ [(nm, x)]).map (·.1)).Nodup := by
        intro h0 h1
        rw [List.map_append, List.nodup_append]
        refine ⟨h1, by simp, ?_⟩
        intro a ha b hb
        simp only [List.map_cons, List.map_nil, List.mem_singleton] at hb
        subst hb
        obtain ⟨m, hm, rfl⟩ := List.mem_map.1 ha
        have := List.any_eq_false.1 h0 m hm
        simpa using this
      have hend : membersEnd s n (if st3.large = true then acc else acc ++ [(nm, x)]) st3 = .ok l st' := by
        unfold membersIf at h6
        split at h6
        · rename_i hh; rw [if_pos hh]; exact h6
        · rename_i hh; rw [if_neg hh]; exact h6
      unfold membersEnd at hend
      split at hend
      · injection hend with e1 e2; subst e1 e2
        have hl3 : st3.large = false := hl
        obtain ⟨r, g, i, d, hf⟩ := head hl3
        rw [if_neg (by rw [hl3]; simp)]
        refine ⟨[(nm, x)], rfl, (r.trans (Rt.step (st := st3) hl)).of ?_ ?_, ?_, ?_, ?_, fresh hf⟩
        · simp [Js.nodesM]
        · simp [Js.bytesM]
        · simp [Js.goodM, g]
        · simp [Js.inRM, i]
        · simp [Js.deepM]; omega
      · obtain ⟨_, st4, h7, h8⟩ := bind_ok hend
        obtain ⟨l', he, hr, hg, hi, hd, hnd⟩ := ih.members _ _ _ _ h8 hl
        have ht := take_rt h7 hr.large
        have hl3 : st3.large = false := ht.large
        obtain ⟨r, g, i, d, hf⟩ := head hl3
        rw [if_neg (by rw [hl3]; simp)] at he hnd
        have hdd : st4.deep = st.deep := (r.trans ht).deep
        refine ⟨(nm, x) :: l', by rw [he]; simp, ((r.trans ht).trans hr).of ?_ ?_, ?_, ?_, ?_, fun h0 => hnd (fresh hf h0)⟩
        · simp [Js.nodesM]
        · simp [Js.bytesM]
        · simp [Js.goodM, g, hg]
        · simp [Js.inRM, i, hi]
        · show st.deep + max (Js.deep x) (Js.deepM l') ≤ 8; omega
/-- What a text is, and is not large, may be. -/
theorem run_right {s : Js.Bs} {x : Js.J} {st : Js.St} (h : run s = .ok x st) (hl : st.large = false) : Js.right x = true ∧ Js.inR x = true := by
  obtain ⟨r, g, i, d⟩ := (rts s _).value _ _ _ h hl
  have h1 := r.nle (Nat.zero_le _)
  have h2 := r.ble (Nat.zero_le _)
  have h3 : st.nodes = 0 + Js.nodes x := r.nodes
  have h4 : st.bytes = 0 + Js.bytes x := r.bytes
  have d : 0 + Js.deep x ≤ 8 := d
  refine ⟨?_, i⟩
  unfold Js.right
  rw [g, decide_eq_true (by omega), decide_eq_true (by omega), decide_eq_true (by omega)]
  rfl
end Go.Proofs.YtimioelnnhnbiaaDoor
