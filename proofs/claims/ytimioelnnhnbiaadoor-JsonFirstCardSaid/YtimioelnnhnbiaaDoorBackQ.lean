/-
  The plain parser reads a right value's text as the value; each beginning of a list's, an object's or a text's text is wrong at its end. No program in sight.
-/
import Derived.Test.YtimioelnnhnbiaaDoorBackP
import Derived.Test.YtimioelnnhnbiaaDoorWU
namespace Go.Proofs.YtimioelnnhnbiaaDoor
theorem good_cases {k : Int} {b : Bool} {n : Int} {t : Js.Bs} {l : List Js.J} {m : List (Js.Bs × Js.J)} (h : Js.good (.mk k b n t l m) = true) :
    (k = 1 ∧ b = false ∧ n = 0 ∧ t = [] ∧ l = [] ∧ m = []) ∨ (k = 2 ∧ n = 0 ∧ t = [] ∧ l = [] ∧ m = []) ∨ (k = 3 ∧ b = false ∧ t = [] ∧ l = [] ∧ m = []) ∨ (k = 4 ∧ b = false ∧ n = 0 ∧ l = [] ∧ m = []) ∨
    (k = 5 ∧ b = false ∧ n = 0 ∧ t = [] ∧ m = [] ∧ Js.goodL l = true) ∨ (k = 6 ∧ b = false ∧ n = 0 ∧ t = [] ∧ l = [] ∧ Js.goodM m = true ∧ (m.map (·.1)).Nodup) := by
  unfold Js.good at h
  have h : (decide (1 ≤ k) && decide (k ≤ 6) && (decide (k = 2) || !b) && (decide (k = 3) || decide (n = 0)) && (decide (k = 4) || decide (t = [])) && (decide (k = 5) || l.isEmpty) && (decide (k = 6) || m.isEmpty) && Js.goodL l && Js.goodM m && decide ((m.map (·.1)).Nodup)) = true := h
  simp only [Bool.and_eq_true, Bool.or_eq_true, decide_eq_true_eq, Bool.not_eq_true', List.isEmpty_iff] at h
  obtain ⟨⟨⟨⟨⟨⟨⟨⟨⟨h1, h2⟩, h3⟩, h4⟩, h5⟩, h6⟩, h7⟩, h8⟩, h9⟩, h10⟩ := h
  have hk : k = 1 ∨ k = 2 ∨ k = 3 ∨ k = 4 ∨ k = 5 ∨ k = 6 := by omega
  rcases hk with rfl | rfl | rfl | rfl | rfl | rfl
  · exact .inl ⟨rfl, h3.resolve_left (by decide), h4.resolve_left (by decide), h5.resolve_left (by decide), h6.resolve_left (by decide), h7.resolve_left (by decide)⟩
  · exact .inr (.inl ⟨rfl, h4.resolve_left (by decide), h5.resolve_left (by decide), h6.resolve_left (by decide), h7.resolve_left (by decide)⟩)
  · exact .inr (.inr (.inl ⟨rfl, h3.resolve_left (by decide), h5.resolve_left (by decide), h6.resolve_left (by decide), h7.resolve_left (by decide)⟩))
  · exact .inr (.inr (.inr (.inl ⟨rfl, h3.resolve_left (by decide), h4.resolve_left (by decide), h6.resolve_left (by decide), h7.resolve_left (by decide)⟩)))
  · exact .inr (.inr (.inr (.inr (.inl ⟨rfl, h3.resolve_left (by decide), h4.resolve_left (by decide), h5.resolve_left (by decide), h7.resolve_left (by decide), h8⟩))))
  · exact .inr (.inr (.inr (.inr (.inr ⟨rfl, h3.resolve_left (by decide), h4.resolve_left (by decide), h5.resolve_left (by decide), h6.resolve_left (by decide), h9, h10⟩))))
theorem textL_next (y : Js.J) (t : List Js.J) : Js.textL (y :: t) false = 44 :: Js.textL (y :: t) true := by
  rw [Js.textL, Js.textL]; rfl
theorem textM_next (y : Js.Bs × Js.J) (t : List (Js.Bs × Js.J)) : Js.textM (y :: t) false = 44 :: Js.textM (y :: t) true := by
  obtain ⟨nm, x⟩ := y
  rw [Js.textM, Js.textM]; rfl
theorem textL_one (x : Js.J) (t : List Js.J) : Js.textL (x :: t) true = Js.textOf x ++ Js.textL t false := by rw [Js.textL]; rfl
theorem textM_one (nm : Js.Bs) (x : Js.J) (t : List (Js.Bs × Js.J)) : Js.textM ((nm, x) :: t) true = Js.quote nm ++ (58 :: (Js.textOf x ++ Js.textM t false)) := by rw [Js.textM]; rfl
theorem textOf_1 (b n t l m) : Js.textOf (.mk 1 b n t l m) = [110, 117, 108, 108] := by rw [Js.textOf]; rfl
theorem textOf_2t (n t l m) : Js.textOf (.mk 2 true n t l m) = [116, 114, 117, 101] := by rw [Js.textOf]; rfl
theorem textOf_2f (n t l m) : Js.textOf (.mk 2 false n t l m) = [102, 97, 108, 115, 101] := by rw [Js.textOf]; rfl
theorem textOf_3 (b n t l m) : Js.textOf (.mk 3 b n t l m) = Lib.itoa n := by rw [Js.textOf]; rfl
theorem textOf_4 (b n t l m) : Js.textOf (.mk 4 b n t l m) = Js.quote t := by rw [Js.textOf]; rfl
theorem textOf_5 (b n t l m) : Js.textOf (.mk 5 b n t l m) = 91 :: (Js.textL l true ++ [93]) := by rw [Js.textOf]; rfl
theorem textOf_6 (b n t l m) : Js.textOf (.mk 6 b n t l m) = 123 :: (Js.textM m true ++ [125]) := by rw [Js.textOf]; rfl
theorem itoa_head (n : Int) : ∃ c t, Lib.itoa n = c :: t ∧ (c = 45 ∨ Js.isDig c = true) := by
  by_cases hn : n < 0
  · exact ⟨_, _, itoa_neg hn, .inl rfl⟩
  · rw [itoa_pos hn]
    cases hd : Lib.decDigits n.toNat with
    | nil => exact absurd hd (dec_ne _)
    | cons c t => exact ⟨c, t, rfl, .inr (dec_dig n.toNat c (by rw [hd]; simp))⟩
theorem numHead {c : UInt8} (h : c = 45 ∨ Js.isDig c = true) : Js.isBl c = false ∧ c ≠ 93 ∧ c ≠ 110 ∧ c ≠ 116 ∧ c ≠ 102 ∧ c ≠ 34 := by
  rcases h with rfl | h
  · decide
  · rw [isDig_iff] at h
    have ne : ∀ d : UInt8, 57 < d.toNat ∨ d.toNat < 48 → c ≠ d := fun d hd e => by rw [e] at h; omega
    refine ⟨?_, ne _ (by decide), ne _ (by decide), ne _ (by decide), ne _ (by decide), ne _ (by decide)⟩
    unfold Js.isBl
    simp only [ne 32 (by decide), ne 9 (by decide), ne 10 (by decide), ne 13 (by decide), decide_false, Bool.or_self]
theorem textOf_head {x : Js.J} (h : Js.good x = true) : ∃ c t, Js.textOf x = c :: t ∧ Js.isBl c = false ∧ c ≠ 93 := by
  obtain ⟨k, b, n, t, l, m⟩ := x
  rcases good_cases h with ⟨rfl, _⟩ | ⟨rfl, _⟩ | ⟨rfl, _⟩ | ⟨rfl, _⟩ | ⟨rfl, _⟩ | ⟨rfl, _⟩
  · exact ⟨_, _, textOf_1 .., by decide, by decide⟩
  · cases b
    · exact ⟨_, _, textOf_2f .., by decide, by decide⟩
    · exact ⟨_, _, textOf_2t .., by decide, by decide⟩
  · obtain ⟨c, t', h1, h2⟩ := itoa_head n
    exact ⟨c, t', by rw [textOf_3, h1], (numHead h2).1, (numHead h2).2.1⟩
  · exact ⟨_, _, textOf_4 .., by decide, by decide⟩
  · exact ⟨_, _, textOf_5 .., by decide, by decide⟩
  · exact ⟨_, _, textOf_6 .., by decide, by decide⟩
theorem begun_small {st : Js.St} (hl : st.large = false) (hd : st.deep + 1 ≤ 8) (hn : st.nodes + 1 ≤ 256) : (begun st).large = false := by
  unfold begun
  simp only
  rw [hl, decide_eq_false (by omega), decide_eq_false (by omega)]
  rfl
/-- What inner reads, value reads with the blanks round it. -/
theorem value_of {s q : Js.Bs} {st : Js.St} {x : Js.J} {T : Js.Bs} {n a b : Nat} (h : s.drop st.at_ = T ++ q) (hq : Ends q) {c : UInt8} {t : Js.Bs} (hT : T = c :: t) (hc : Js.isBl c = false) (hne : Js.value s n st ≠ .out)
    (hl : st.large = false) (hd : st.deep + 1 ≤ 8) (hn : st.nodes + 1 ≤ 256) (H : ∀ n', Js.inner s (n' + 1) (begun st) ≠ .out → Js.inner s (n' + 1) (begun st) = .ok x (adv (begun st) T.length a b)) :
    Js.value s n st = .ok x (adv st T.length (a + 1) b) := by
  cases n with
  | zero => exact absurd rfl hne
  | succ n =>
    rw [value_eq, stop_cons (c := c) (t := t ++ q) (by rw [h, hT]; rfl) hc] at hne ⊢
    cases n with
    | zero => exact absurd rfl hne
    | succ n =>
      rw [H n (bind_ne hne), ok_bind]
      have e : ended (adv (begun st) T.length a b) = adv st T.length (a + 1) b := by
        have h1 := begun_small hl hd hn
        unfold ended adv begun at *
        simp only [Js.St.mk.injEq] at h1 ⊢
        exact ⟨trivial, by omega, by omega, trivial, by rw [h1, hl]⟩
      rw [e, stop_at (q := q) (at_app h) hq]
theorem fresh_name {acc : List (Js.Bs × Js.J)} {nm : Js.Bs} {x : Js.J} {t : List (Js.Bs × Js.J)} (h : ((acc ++ (nm, x) :: t).map (·.1)).Nodup) : (acc.any fun m => decide (m.1 = nm)) = false := by
  rw [List.any_eq_false]
  intro m hm
  simp only [decide_eq_true_eq]
  intro e
  rw [List.map_append, List.nodup_append] at h
  exact h.2.2 m.1 (List.mem_map_of_mem hm) nm (by simp) e
theorem ends_44 (t : Js.Bs) : Ends (44 :: t) := ends_cons (by decide)
theorem ends_93 (t : Js.Bs) : Ends (93 :: t) := ends_cons (by decide)
theorem ends_125 (t : Js.Bs) : Ends (125 :: t) := ends_cons (by decide)
mutual
theorem value_back (s : Js.Bs) : ∀ (x : Js.J) (n : Nat) (st : Js.St) (q : Js.Bs), s.drop st.at_ = Js.textOf x ++ q → Ends q → Js.value s n st ≠ .out → Js.good x = true → Js.inR x = true → st.large = false →
    st.deep + Js.deep x ≤ 8 → st.nodes + Js.nodes x ≤ 256 → st.bytes + Js.bytes x ≤ 32768 → Js.value s n st = .ok x (adv st (Js.textOf x).length (Js.nodes x) (Js.bytes x))
  | .mk k b nn t l m, n, st, q, h, hq, hne, hg, hr, hl, hd, hn, hb => by
    obtain ⟨c, t', hc1, hc2, hc3⟩ := textOf_head hg
    have hd : st.deep + (max (Js.deepL l) (Js.deepM m) + 1) ≤ 8 := hd
    have hn : st.nodes + (1 + Js.nodesL l + Js.nodesM m) ≤ 256 := hn
    have hb : st.bytes + (t.length + Js.bytesL l + Js.bytesM m) ≤ 32768 := hb
    have hbl := begun_small hl (show st.deep + 1 ≤ 8 by omega) (show st.nodes + 1 ≤ 256 by omega)
    have e1 : Js.nodes (.mk k b nn t l m) = (Js.nodesL l + Js.nodesM m) + 1 := by show 1 + Js.nodesL l + Js.nodesM m = _; omega
    have e2 : Js.bytes (.mk k b nn t l m) = t.length + Js.bytesL l + Js.bytesM m := rfl
    rw [e1, e2]
    refine value_of h hq hc1 hc2 hne hl (by omega) (by omega) fun n' hne' => ?_
    have hp : Js.peek s (begun st) = c := peek_of (st := begun st) (at_cons (c := c) (t := t' ++ q) (n := st.at_) (by rw [h, hc1]; rfl)).1
    have h' : s.drop (begun st).at_ = Js.textOf (.mk k b nn t l m) ++ q := h
    unfold Js.inR at hr
    simp only [Bool.and_eq_true, decide_eq_true_eq] at hr
    obtain ⟨⟨⟨⟨⟨r1, r2⟩, _⟩, _⟩, r3⟩, r4⟩ := hr
    rw [inner_eq] at hne' ⊢
    rw [hp] at hne' ⊢
    rcases good_cases hg with ⟨rfl, rfl, rfl, rfl, rfl, rfl⟩ | ⟨rfl, rfl, rfl, rfl, rfl⟩ | ⟨rfl, rfl, rfl, rfl, rfl⟩ | ⟨rfl, rfl, rfl, rfl, rfl⟩ | ⟨rfl, rfl, rfl, rfl, rfl, hgl⟩ | ⟨rfl, rfl, rfl, rfl, rfl, hgm, hnd⟩
    · rw [textOf_1] at hc1 h' ⊢
      injection hc1 with hc1 _
      subst hc1
      rw [if_pos rfl, word_back s _ _ q h', ok_bind]
      rfl
    · cases b
      · rw [textOf_2f] at hc1 h' ⊢
        injection hc1 with hc1 _
        subst hc1
        rw [if_neg (by decide), if_neg (by decide), if_pos rfl, word_back s _ _ q h', ok_bind]
        rfl
      · rw [textOf_2t] at hc1 h' ⊢
        injection hc1 with hc1 _
        subst hc1
        rw [if_neg (by decide), if_pos rfl, word_back s _ _ q h', ok_bind]
        rfl
    · rw [textOf_3] at hc1 h' ⊢
      obtain ⟨c2, t2, g1, g2⟩ := itoa_head nn
      rw [g1] at hc1
      injection hc1 with hc1 _
      subst hc1
      obtain ⟨_, _, n1, n2, n3, n4⟩ := numHead g2
      rw [if_neg n1, if_neg n2, if_neg n3, if_neg n4, if_pos g2, number_back h' hq r1 r2, ok_bind]
      rfl
    · rw [textOf_4] at hc1 h' ⊢
      have hc1 : (34 : UInt8) :: _ = c :: t' := hc1
      injection hc1 with hc1 _
      subst hc1
      rw [if_neg (by decide), if_neg (by decide), if_neg (by decide), if_pos rfl, text_back h' hbl (by show st.bytes + t.length ≤ 32768; omega), ok_bind]
      exact congrArg _ (adv_of rfl rfl (by simp [Js.bytesL, Js.bytesM]))
    · rw [textOf_5] at hc1 h' ⊢
      injection hc1 with hc1 _
      subst hc1
      rw [if_neg (by decide), if_neg (by decide), if_neg (by decide), if_neg (by decide), if_neg (by decide), if_pos rfl] at hne' ⊢
      have h' : s.drop (begun st).at_ = 91 :: (Js.textL l true ++ 93 :: q) := by rw [h']; simp
      have h2 : s.drop (st.at_ + 1) = _ := (at_cons h').2
      cases l with
      | nil =>
        have h3 : s.drop (Js.step (begun st)).at_ = 93 :: q := h2
        rw [stop_cons h3 (by decide)]
        unfold listIn
        rw [if_pos (peek_of (at_cons h3).1), step_adv, step_adv, adv_adv]
        rfl
      | cons x t =>
        have hgx : Js.good x = true := by
          unfold Js.goodL at hgl
          simp only [Bool.and_eq_true] at hgl
          exact hgl.1
        obtain ⟨c3, t3, k1, k2, k3⟩ := textOf_head hgx
        have h3 : s.drop (Js.step (begun st)).at_ = c3 :: (t3 ++ (Js.textL t false ++ 93 :: q)) := by
          show s.drop (st.at_ + 1) = _
          rw [h2, textL_one, k1]; simp
        rw [stop_cons h3 k2] at hne' ⊢
        unfold listIn at hne' ⊢
        rw [if_neg (by rw [peek_of (at_cons h3).1]; exact k3)] at hne' ⊢
        have hi := items_back s (x :: t) n' [] (Js.step (begun st)) q (by simp) h2 (bind_ne hne') hgl r3 hbl (by show st.deep + 1 + Js.deepL (x :: t) ≤ 8; omega) (by show st.nodes + 1 + Js.nodesL (x :: t) ≤ 256; omega) (by show st.bytes + Js.bytesL (x :: t) ≤ 32768; omega)
        rw [hi, ok_bind, step_adv, adv_adv]
        exact congrArg _ (adv_of (by simp; omega) (by simp [Js.nodesM]) (by simp [Js.bytesM]))
    · rw [textOf_6] at hc1 h' ⊢
      injection hc1 with hc1 _
      subst hc1
      rw [if_neg (by decide), if_neg (by decide), if_neg (by decide), if_neg (by decide), if_neg (by decide), if_neg (by decide), if_pos rfl] at hne' ⊢
      have h' : s.drop (begun st).at_ = 123 :: (Js.textM m true ++ 125 :: q) := by rw [h']; simp
      have h2 : s.drop (st.at_ + 1) = _ := (at_cons h').2
      cases m with
      | nil =>
        have h3 : s.drop (Js.step (begun st)).at_ = 125 :: q := h2
        rw [stop_cons h3 (by decide)]
        unfold objIn
        rw [if_pos (peek_of (at_cons h3).1), step_adv, step_adv, adv_adv]
        rfl
      | cons y t =>
        obtain ⟨nm, x⟩ := y
        have h3 : s.drop (Js.step (begun st)).at_ = 34 :: ((nm.flatMap Js.esc ++ [34]) ++ (58 :: (Js.textOf x ++ (Js.textM t false ++ 125 :: q)))) := by
          show s.drop (st.at_ + 1) = _
          rw [h2, textM_one]
          unfold Js.quote
          simp
        rw [stop_cons h3 (by decide)] at hne' ⊢
        unfold objIn at hne' ⊢
        rw [if_neg (by rw [peek_of (at_cons h3).1]; decide)] at hne' ⊢
        have hi := members_back s ((nm, x) :: t) n' [] (Js.step (begun st)) q (by simp) h2 (bind_ne hne') hgm r4 hnd hbl (by show st.deep + 1 + Js.deepM ((nm, x) :: t) ≤ 8; omega) (by show st.nodes + 1 + Js.nodesM ((nm, x) :: t) ≤ 256; omega) (by show st.bytes + Js.bytesM ((nm, x) :: t) ≤ 32768; omega)
        rw [hi, ok_bind, step_adv, adv_adv]
        exact congrArg _ (adv_of (by simp; omega) (by simp [Js.nodesL]) (by simp [Js.bytesL]))
theorem items_back (s : Js.Bs) : ∀ (l : List Js.J) (n : Nat) (acc : List Js.J) (st : Js.St) (q : Js.Bs), l ≠ [] → s.drop (st.at_) = Js.textL l true ++ 93 :: q → Js.items s n acc st ≠ .out → Js.goodL l = true → Js.inRL l = true → st.large = false →
    st.deep + Js.deepL l ≤ 8 → st.nodes + Js.nodesL l ≤ 256 → st.bytes + Js.bytesL l ≤ 32768 → Js.items s n acc st = .ok (acc ++ l) (adv st ((Js.textL l true).length + 1) (Js.nodesL l) (Js.bytesL l))
  | [], _, _, _, _, h0, _, _, _, _, _, _, _, _ => absurd rfl h0
  | _ :: _, 0, _, _, _, _, _, hne, _, _, _, _, _, _ => absurd rfl hne
  | x :: t, n + 1, acc, st, q, _, h, hne, hg, hr, hl, hd, hn, hb => by
    unfold Js.goodL at hg
    unfold Js.inRL at hr
    simp only [Bool.and_eq_true] at hg hr
    have hd : st.deep + max (Js.deep x) (Js.deepL t) ≤ 8 := hd
    have hn : st.nodes + (Js.nodes x + Js.nodesL t) ≤ 256 := hn
    have hb : st.bytes + (Js.bytes x + Js.bytesL t) ≤ 32768 := hb
    rw [textL_one, List.append_assoc] at h
    rw [items_eq] at hne ⊢
    have hE : Ends (Js.textL t false ++ 93 :: q) := by
      cases t with
      | nil => exact ends_93 _
      | cons y t => rw [textL_next]; exact ends_44 _
    have hv := value_back s x n st _ h hE (bind_ne hne) hg.1 hr.1 hl (by omega) (by omega) (by omega)
    rw [hv, ok_bind] at hne ⊢
    have h2 : s.drop (adv st (Js.textOf x).length (Js.nodes x) (Js.bytes x)).at_ = Js.textL t false ++ 93 :: q := at_app h
    have hl2 : (adv st (Js.textOf x).length (Js.nodes x) (Js.bytes x)).large = false := hl
    unfold itemsEnd at hne ⊢
    match t, hg, hr, hd, hn, hb, hne, hE, h2 with
    | [], _, _, _, _, _, _, _, h2 =>
      have h2 : s.drop (adv st (Js.textOf x).length (Js.nodes x) (Js.bytes x)).at_ = 93 :: q := h2
      rw [if_pos (peek_of (at_cons h2).1), step_adv, adv_adv, textL_one]
      exact congrArg _ (adv_of (by simp [Js.textL]) rfl rfl)
    | y :: t, hg, hr, hd, hn, hb, hne, hE, h2 =>
      rw [textL_next] at h2
      have h2 : s.drop (adv st (Js.textOf x).length (Js.nodes x) (Js.bytes x)).at_ = 44 :: (Js.textL (y :: t) true ++ 93 :: q) := h2
      obtain ⟨a1, a2⟩ := at_cons h2
      rw [if_neg (by rw [peek_of a1]; decide), take_hit a1, ok_bind] at hne ⊢
      rw [items_back s (y :: t) n (acc ++ [x]) (Js.step (adv st (Js.textOf x).length (Js.nodes x) (Js.bytes x))) q (by simp) a2 hne hg.2 hr.2 hl2
        (by show st.deep + Js.deepL (y :: t) ≤ 8; omega) (by show st.nodes + Js.nodes x + Js.nodesL (y :: t) ≤ 256; omega) (by show st.bytes + Js.bytes x + Js.bytesL (y :: t) ≤ 32768; omega), step_adv, adv_adv, adv_adv, List.append_assoc, List.singleton_append, textL_one x, textL_next]
      exact congrArg _ (adv_of (by simp; omega) (by show _ = Js.nodes x + Js.nodesL (y :: t); omega) (by show _ = Js.bytes x + Js.bytesL (y :: t); omega))
theorem members_back (s : Js.Bs) : ∀ (l : List (Js.Bs × Js.J)) (n : Nat) (acc : List (Js.Bs × Js.J)) (st : Js.St) (q : Js.Bs), l ≠ [] → s.drop (st.at_) = Js.textM l true ++ 125 :: q → Js.members s n acc st ≠ .out → Js.goodM l = true → Js.inRM l = true →
    ((acc ++ l).map (·.1)).Nodup → st.large = false →
    st.deep + Js.deepM l ≤ 8 → st.nodes + Js.nodesM l ≤ 256 → st.bytes + Js.bytesM l ≤ 32768 → Js.members s n acc st = .ok (acc ++ l) (adv st ((Js.textM l true).length + 1) (Js.nodesM l) (Js.bytesM l))
  | [], _, _, _, _, h0, _, _, _, _, _, _, _, _, _ => absurd rfl h0
  | _ :: _, 0, _, _, _, _, _, hne, _, _, _, _, _, _, _ => absurd rfl hne
  | (nm, x) :: t, n + 1, acc, st, q, _, h, hne, hg, hr, hnd, hl, hd, hn, hb => by
    unfold Js.goodM at hg
    unfold Js.inRM at hr
    simp only [Bool.and_eq_true] at hg hr
    have hd : st.deep + max (Js.deep x) (Js.deepM t) ≤ 8 := hd
    have hn : st.nodes + (Js.nodes x + Js.nodesM t) ≤ 256 := hn
    have hb : st.bytes + (nm.length + Js.bytes x + Js.bytesM t) ≤ 32768 := hb
    have h : s.drop st.at_ = Js.quote nm ++ (58 :: (Js.textOf x ++ (Js.textM t false ++ 125 :: q))) := by rw [h, textM_one]; simp
    rw [members_eq, stop_cons (quote_at h) (by decide)] at hne ⊢
    rw [text_back h hl (by omega), ok_bind] at hne ⊢
    have h2 : s.drop (adv st (Js.quote nm).length 0 nm.length).at_ = 58 :: (Js.textOf x ++ (Js.textM t false ++ 125 :: q)) := at_app h
    obtain ⟨a1, a2⟩ := at_cons h2
    rw [stop_cons h2 (by decide), take_hit a1, ok_bind] at hne ⊢
    have htw : twice acc nm (Js.step (adv st (Js.quote nm).length 0 nm.length)) = adv st ((Js.quote nm).length + 1) 0 nm.length := by
      unfold twice
      rw [fresh_name hnd, Bool.or_false]
      rfl
    rw [htw] at hne ⊢
    have a2 : s.drop (adv st ((Js.quote nm).length + 1) 0 nm.length).at_ = Js.textOf x ++ (Js.textM t false ++ 125 :: q) := a2
    have hE : Ends (Js.textM t false ++ 125 :: q) := by
      cases t with
      | nil => exact ends_125 _
      | cons y t => rw [textM_next]; exact ends_44 _
    have hv := value_back s x n _ _ a2 hE (bind_ne hne) hg.1 hr.1 hl (by show st.deep + Js.deep x ≤ 8; omega) (by show st.nodes + 0 + Js.nodes x ≤ 256; omega) (by show st.bytes + nm.length + Js.bytes x ≤ 32768; omega)
    rw [hv, ok_bind, adv_adv] at hne ⊢
    have h3 : s.drop (adv st ((Js.quote nm).length + 1 + (Js.textOf x).length) (0 + Js.nodes x) (nm.length + Js.bytes x)).at_ = Js.textM t false ++ 125 :: q := by
      have h4 : s.drop (st.at_ + ((Js.quote nm).length + 1) + (Js.textOf x).length) = _ := at_app a2
      rw [Nat.add_assoc] at h4
      exact h4
    have hl2 : (adv st ((Js.quote nm).length + 1 + (Js.textOf x).length) (0 + Js.nodes x) (nm.length + Js.bytes x)).large = false := hl
    unfold membersIf at hne ⊢
    rw [if_neg (by rw [hl2]; decide)] at hne ⊢
    unfold membersEnd at hne ⊢
    match t, hg, hr, hnd, hd, hn, hb, hne, hE, h3 with
    | [], _, _, _, _, _, _, _, _, h3 =>
      have h3 : s.drop (adv st ((Js.quote nm).length + 1 + (Js.textOf x).length) (0 + Js.nodes x) (nm.length + Js.bytes x)).at_ = 125 :: q := h3
      rw [if_pos (peek_of (at_cons h3).1), step_adv, adv_adv, textM_one]
      exact congrArg _ (adv_of (by simp [Js.textM]; omega) (by simp [Js.nodesM]) (by simp [Js.bytesM]))
    | y :: t, hg, hr, hnd, hd, hn, hb, hne, hE, h3 =>
      rw [textM_next] at h3
      have h3 : s.drop (adv st ((Js.quote nm).length + 1 + (Js.textOf x).length) (0 + Js.nodes x) (nm.length + Js.bytes x)).at_ = 44 :: (Js.textM (y :: t) true ++ 125 :: q) := h3
      obtain ⟨a3, a4⟩ := at_cons h3
      rw [if_neg (by rw [peek_of a3]; decide), take_hit a3, ok_bind] at hne ⊢
      rw [members_back s (y :: t) n (acc ++ [(nm, x)]) (Js.step (adv st ((Js.quote nm).length + 1 + (Js.textOf x).length) (0 + Js.nodes x) (nm.length + Js.bytes x))) q (by simp) a4 hne hg.2 hr.2 (by rw [List.append_assoc]; exact hnd) hl2
        (by show st.deep + Js.deepM (y :: t) ≤ 8; omega) (by show st.nodes + (0 + Js.nodes x) + Js.nodesM (y :: t) ≤ 256; omega) (by show st.bytes + (nm.length + Js.bytes x) + Js.bytesM (y :: t) ≤ 32768; omega), step_adv, adv_adv, adv_adv, List.append_assoc, List.singleton_append, textM_one nm x, textM_next]
      exact congrArg _ (adv_of (by simp; omega) (by show _ = Js.nodes x + Js.nodesM (y :: t); omega) (by show _ = nm.length + Js.bytes x + Js.bytesM (y :: t); omega))
end
theorem right_parts {x : Js.J} (h : Js.right x = true) : Js.good x = true ∧ Js.nodes x ≤ 256 ∧ Js.deep x ≤ 8 ∧ Js.bytes x ≤ 32768 := by
  unfold Js.right at h
  simp only [Bool.and_eq_true, decide_eq_true_eq] at h
  exact ⟨h.1.1.1, h.1.1.2, h.1.2, h.2⟩
/-- What was written is read as it was. -/
theorem run_back {x : Js.J} (h : Js.right x = true) (hr : Js.inR x = true) : run (Js.textOf x) = .ok x (adv Js.st0 (Js.textOf x).length (Js.nodes x) (Js.bytes x)) := by
  obtain ⟨h1, h2, h3, h4⟩ := right_parts h
  refine value_back (Js.textOf x) x _ Js.st0 [] (by simp [Js.st0]) ends_nil (run_out _) h1 hr rfl ?_ ?_ ?_
  · show 0 + _ ≤ 8; omega
  · show 0 + _ ≤ 256; omega
  · show 0 + _ ≤ 32768; omega
/-- A strict beginning of a text's, a list's or an object's text is wrong at its end. -/
theorem run_begin {x : Js.J} (h : Js.right x = true) (hr : Js.inR x = true) (hk : x.kind = 4 ∨ x.kind = 5 ∨ x.kind = 6) {k : Nat} (hlt : k < (Js.textOf x).length) : run ((Js.textOf x).take k) = .bad k := by
  have hA : Agree k ((Js.textOf x).take k) (Js.textOf x) := fun i hi => by rw [List.getElem?_take, if_pos hi]
  have hback := run_back h hr
  have hlen : ((Js.textOf x).take k).length = k := by rw [List.length_take]; omega
  obtain ⟨r, hrun⟩ : ∃ r, run ((Js.textOf x).take k) = r := ⟨_, rfl⟩
  cases r with
  | out => exact absurd hrun (run_out _)
  | bad j =>
    have hj := run_bad_le hrun
    by_cases hjk : j < k
    · have := run_bad_agree hA hrun hjk
      rw [hback] at this; cases this
    · rw [hrun, show j = k by omega]
  | ok y st =>
    exfalso
    have hj := run_ok_le hrun
    by_cases hjk : st.at_ < k
    · have := run_ok_agree hA hrun hjk
      rw [hback] at this
      injection this with _ e
      rw [← e] at hjk
      have : 0 + (Js.textOf x).length < k := hjk
      omega
    · -- the whole beginning is a value: then so it is in the text
      obtain ⟨c, t, hT, hc⟩ : ∃ c t, Js.textOf x = c :: t ∧ (c = 34 ∨ c = 91 ∨ c = 123) := by
        obtain ⟨k', b, n, t, l, m⟩ := x
        simp only [Js.J.kind] at hk
        rcases hk with rfl | rfl | rfl
        · exact ⟨_, _, textOf_4 .., .inl rfl⟩
        · exact ⟨_, _, textOf_5 .., .inr (.inl rfl)⟩
        · exact ⟨_, _, textOf_6 .., .inr (.inr rfl)⟩
      have hbl : Js.isBl c = false := by rcases hc with rfl | rfl | rfl <;> decide
      obtain ⟨u, d, hU, hd⟩ : ∃ u d, Js.textOf x = u ++ [d] ∧ Js.isBl d = false := by
        obtain ⟨k', b, n, t, l, m⟩ := x
        simp only [Js.J.kind] at hk
        rcases hk with rfl | rfl | rfl
        · exact ⟨34 :: t.flatMap Js.esc, 34, by rw [textOf_4]; rfl, by decide⟩
        · exact ⟨91 :: Js.textL l true, 93, by rw [textOf_5]; rfl, by decide⟩
        · exact ⟨123 :: Js.textM m true, 125, by rw [textOf_6]; rfl, by decide⟩
      generalize Js.textOf x = s at *
      have hk0 : 0 < k := by
        rcases Nat.eq_zero_or_pos k with rfl | h0
        · have e0 : run (s.take 0) = .bad 0 := by rw [List.take_zero]; rfl
          rw [e0] at hrun; cases hrun
        · exact h0
      obtain ⟨k1, rfl⟩ : ∃ k1, k = k1 + 1 := ⟨k - 1, by omega⟩
      have hd' : (s.take (k1 + 1)).drop Js.st0.at_ = c :: t.take k1 := by rw [hT]; rfl
      have hds : s.drop Js.st0.at_ = c :: t := by rw [hT]; rfl
      unfold run at hrun
      rw [show 4 * (s.take (k1 + 1)).length + 8 = (4 * (s.take (k1 + 1)).length + 7) + 1 from rfl, value_eq, stop_cons hd' hbl] at hrun
      obtain ⟨y1, st1, g1, g2⟩ := bind_ok hrun
      injection g2 with g2 g3
      have hst : st1.at_ ≤ st.at_ := by rw [← g3]; exact blanks_ge _ (ended st1)
      have hp := peek_of (st := begun Js.st0) (at_cons hd').1
      obtain ⟨_, g4⟩ := inner_shut hA _ g1 (by rw [hp]; exact hc) (by omega)
      have g5 : Js.value s ((4 * (s.take (k1 + 1)).length + 7) + 1) Js.st0 = .ok y1 (Js.blanks s (ended st1)) := by
        rw [value_eq, stop_cons hds hbl, g4, ok_bind]
      have g6 := run_of g5 (fun e => by cases e)
      rw [hback] at g6
      injection g6 with _ g6
      have g7 : 0 + s.length = st1.at_ + ((s.drop st1.at_).takeWhile Js.isBl).length := congrArg Js.St.at_ g6
      have hpre := List.takeWhile_prefix (p := Js.isBl) (l := s.drop st1.at_)
      have heq : (s.drop st1.at_).takeWhile Js.isBl = s.drop st1.at_ := hpre.eq_of_length (by rw [List.length_drop]; omega)
      have hmem : d ∈ s.drop st1.at_ := by
        rw [hU, List.drop_append_of_le_length (by rw [hU] at hlt; simp at hlt; omega)]
        simp
      rw [← heq] at hmem
      have := List.all_eq_true.1 (List.all_takeWhile (p := Js.isBl) (l := s.drop st1.at_)) d hmem
      rw [hd] at this
      cases this
end Go.Proofs.YtimioelnnhnbiaaDoor
