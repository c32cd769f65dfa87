/-
  The plain parser's rounds are enough. No program in sight.
-/
import Derived.Test.YtimioelnnhnbiaaDoorWO
namespace Go.Proofs.YtimioelnnhnbiaaDoor
theorem bind_out {α β : Type} {r : Js.Res α} {f : α → Js.St → Js.Res β} (h : r ≠ .out) (h2 : ∀ a st, r = .ok a st → f a st ≠ .out) : r.bind f ≠ .out := by
  cases r with
  | ok a st => exact h2 a st rfl
  | bad k => intro e; cases e
  | out => exact absurd rfl h
theorem take_out (s : Js.Bs) (c : UInt8) (st : Js.St) : Js.take s c st ≠ .out := by
  rcases take_inv s c st with h | h <;> rw [h] <;> exact fun e => by cases e
theorem word_out (s l : Js.Bs) (st : Js.St) : Js.word s l st ≠ .out := by
  rcases word_inv s l st with ⟨st', h, _⟩ | ⟨k, h⟩ <;> rw [h] <;> exact fun e => by cases e
theorem numRest_out (s : Js.Bs) (q : Bool) (st : Js.St) : numRest s q st ≠ .out := by
  unfold numRest
  split
  · exact fun e => by cases e
  split
  · exact fun e => by cases e
  · simp only
    split <;> exact fun e => by cases e
theorem number_out (s : Js.Bs) (st : Js.St) : Js.number s st ≠ .out := by rw [number_eq]; exact numRest_out _ _ _
theorem textGo_out (s : Js.Bs) : ∀ (n : Nat) (acc : Js.Bs) (st : Js.St), st.at_ ≤ s.length → s.length - st.at_ + 1 ≤ n → Js.textGo s n acc st ≠ .out
  | 0, _, st, _, h => absurd h (by omega)
  | n + 1, acc, st, hat, hn => by
    cases hx : s[st.at_]? with
    | none => rw [textGo_end hx]; exact fun e => by cases e
    | some c =>
      have hlt := (List.getElem?_eq_some_iff.1 hx).1
      by_cases h1 : c = 34
      · subst h1; rw [textGo_quote hx]; exact fun e => by cases e
      · by_cases h2 : c.toNat < 32 ∨ 126 < c.toNat
        · rw [textGo_ctl hx h1 h2]; exact fun e => by cases e
        · by_cases h3 : c = 92
          · subst h3
            rw [textGo_esc hx]
            rcases pair_inv s (Js.step st) with ⟨d, p, hp, ha, hb⟩ | ⟨k, hp⟩
            · rw [hp]
              exact textGo_out s n _ _ hb (by have : st.at_ + 1 + 1 ≤ p := ha; show s.length - p + 1 ≤ n; omega)
            · rw [hp]; exact fun e => by cases e
          · rw [textGo_one hx h1 h2 h3]
            exact textGo_out s n _ _ hlt (by show s.length - (st.at_ + 1) + 1 ≤ n; omega)
theorem text_out (s : Js.Bs) (st : Js.St) : Js.text s st ≠ .out := by
  unfold Js.text
  refine bind_out (take_out s 34 st) fun _ st1 h1 => bind_out ?_ fun _ _ _ => fun e => by cases e
  obtain ⟨rfl, h2⟩ := take_ok h1
  exact textGo_out s _ _ _ h2 (by omega)
structure Enough (s : Js.Bs) (n : Nat) : Prop where
  value : ∀ st, Fine s st → 3 * (s.length - st.at_) + 2 ≤ n → Js.value s n st ≠ .out
  inner : ∀ st, Near s st → 3 * (s.length - st.at_) + 1 ≤ n → Js.inner s n st ≠ .out
  items : ∀ acc st, Fine s st → 3 * (s.length - st.at_) + 3 ≤ n → Js.items s n acc st ≠ .out
  members : ∀ acc st, Fine s st → 3 * (s.length - st.at_) + 3 ≤ n → Js.members s n acc st ≠ .out
theorem enough (s : Js.Bs) : ∀ n, Enough s n
  | 0 => ⟨(fun _ _ h => absurd h (by omega)), (fun _ _ h => absurd h (by omega)), (fun _ _ _ h => absurd h (by omega)), (fun _ _ _ h => absurd h (by omega))⟩
  | n + 1 => by
    have ih := enough s n
    have sp := steps s n
    refine ⟨?_, ?_, ?_, ?_⟩
    · intro st hF hn
      unfold Js.value
      obtain ⟨⟨b1, b2, b3, b4⟩, b5, b6⟩ := hF.blanks
      refine bind_out (ih.inner _ ⟨b1, (by show (Js.blanks s st).deep + 1 ≤ (Js.blanks s st).at_ + 1; omega), (by show (Js.blanks s st).nodes + 1 ≤ (Js.blanks s st).at_ + 1; omega), b4⟩ (by show 3 * (s.length - (Js.blanks s st).at_) + 1 ≤ n; omega)) fun _ _ _ => fun e => by cases e
    · intro st hN hn
      obtain ⟨n1, n2, n3, n4⟩ := hN
      unfold Js.inner
      simp only
      split
      · exact bind_out (word_out _ _ _) fun _ _ _ => fun e => by cases e
      split
      · exact bind_out (word_out _ _ _) fun _ _ _ => fun e => by cases e
      split
      · exact bind_out (word_out _ _ _) fun _ _ _ => fun e => by cases e
      split
      · exact bind_out (text_out _ _) fun _ _ _ => fun e => by cases e
      split
      · exact bind_out (number_out _ _) fun _ _ _ => fun e => by cases e
      split
      · rename_i h91
        have hlt := (List.getElem?_eq_some_iff.1 (peek_some h91 (by decide) n1)).1
        have hF : Fine s (Js.step st) := ⟨hlt, n2, n3, by show st.bytes ≤ st.at_ + 1; omega⟩
        obtain ⟨b1, b2, b3⟩ := hF.blanks
        have b3 : st.at_ + 1 ≤ _ := b3
        split
        · exact fun e => by cases e
        · exact bind_out (ih.items _ _ b1 (by omega)) fun _ _ _ => fun e => by cases e
      split
      · rename_i h123
        have hlt := (List.getElem?_eq_some_iff.1 (peek_some h123 (by decide) n1)).1
        have hF : Fine s (Js.step st) := ⟨hlt, n2, n3, by show st.bytes ≤ st.at_ + 1; omega⟩
        obtain ⟨b1, b2, b3⟩ := hF.blanks
        have b3 : st.at_ + 1 ≤ _ := b3
        split
        · exact fun e => by cases e
        · exact bind_out (ih.members _ _ b1 (by omega)) fun _ _ _ => fun e => by cases e
      · exact fun e => by cases e
    · intro acc st hF hn
      rw [items_succ, bind_assoc]
      refine bind_out (ih.value _ hF (by omega)) fun x st1 h1 => ?_
      obtain ⟨f1, f2, f3⟩ := sp.value _ _ _ h1 hF
      show (if Js.peek s st1 = 93 then Js.Res.ok (acc ++ [x]) (Js.step st1) else (Js.take s 44 st1).bind fun _ st => Js.items s n (acc ++ [x]) st) ≠ .out
      split
      · exact fun e => by cases e
      · refine bind_out (take_out _ _ _) fun _ st2 h2 => ?_
        obtain ⟨rfl, h3⟩ := take_ok h2
        exact ih.items _ _ (f1.step h3) (by show 3 * (s.length - (st1.at_ + 1)) + 3 ≤ n; have := f1.at_; omega)
    · intro acc st hF hn
      rw [members_succ]
      unfold memberOne
      obtain ⟨b1, b2, b3⟩ := hF.blanks
      simp only [bind_assoc, ok_bind]
      refine bind_out (text_out _ _) fun nm st1 h1 => ?_
      obtain ⟨t1, t2, t3, t4, t5⟩ := text_at h1
      have hF1 : Fine s st1 := by
        obtain ⟨c1, c2, c3, c4⟩ := b1
        exact ⟨t1, by omega, by omega, by omega⟩
      obtain ⟨d1, d2, d3⟩ := hF1.blanks
      refine bind_out (take_out _ _ _) fun _ st2 h2 => ?_
      obtain ⟨rfl, k1⟩ := take_ok h2
      have hF2 : Fine s { Js.step (Js.blanks s st1) with large := (Js.step (Js.blanks s st1)).large || acc.any fun m => decide (m.1 = nm) } := by
        obtain ⟨c1, c2, c3, c4⟩ := d1
        exact ⟨k1, by show (Js.blanks s st1).deep ≤ (Js.blanks s st1).at_ + 1; omega, by show (Js.blanks s st1).nodes ≤ (Js.blanks s st1).at_ + 1; omega, by show (Js.blanks s st1).bytes ≤ (Js.blanks s st1).at_ + 1; omega⟩
      refine bind_out (ih.value _ hF2 (by show 3 * (s.length - ((Js.blanks s st1).at_ + 1)) + 2 ≤ n; omega)) fun x st3 h5 => ?_
      obtain ⟨f1, f2, f3⟩ := sp.value _ _ _ h5 hF2
      have f3 : (Js.blanks s st1).at_ + 1 < st3.at_ := f3
      split
      · exact fun e => by cases e
      · refine bind_out (take_out _ _ _) fun _ st4 h6 => ?_
        obtain ⟨rfl, h7⟩ := take_ok h6
        exact ih.members _ _ (f1.step h7) (by show 3 * (s.length - (st3.at_ + 1)) + 3 ≤ n; have := f1.at_; omega)
def run (s : Js.Bs) : Js.Res Js.J := Js.value s (4 * s.length + 8) Js.st0
theorem fine0 (s : Js.Bs) : Fine s Js.st0 := ⟨Nat.zero_le _, Nat.le_refl _, Nat.le_refl _, Nat.le_refl _⟩
theorem run_out (s : Js.Bs) : run s ≠ .out := (enough s _).value Js.st0 (fine0 s) (by show 3 * (s.length - 0) + 2 ≤ _; omega)
open Go.RowKit in
theorem decode_run (s : Js.Bs) (hlen : s.length ≤ 1073741824) (w : World) : Calls Tryd.prog 13 #[.string (str s)] w (DOut w s (run s)) := decode_any s hlen _ (run_out s) w
end Go.Proofs.YtimioelnnhnbiaaDoor
