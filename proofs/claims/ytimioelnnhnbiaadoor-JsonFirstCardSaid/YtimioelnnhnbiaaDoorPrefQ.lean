/-
  The plain parser on two texts that agree ahead of a place: its great parts. No program in sight.
-/
import Derived.Test.YtimioelnnhnbiaaDoorPrefP
namespace Go.Proofs.YtimioelnnhnbiaaDoor
/-- Where f's rounds suffice, f' answers as f. -/
def Up {α : Type} (f f' : Js.St → Js.Res α) : Prop := ∀ st, f st ≠ .out → f' st = f st
section
variable {α β : Type}
theorem Up.refl (f : Js.St → Js.Res α) : Up f f := fun _ _ => rfl
theorem Up.bind {f f' : Js.St → Js.Res α} {g g' : α → Js.St → Js.Res β} (hf : Up f f') (hg : ∀ a, Up (g a) (g' a)) : Up (fun st => (f st).bind g) (fun st => (f' st).bind g') := by
  intro st h
  simp only at h ⊢
  cases hx : f st with
  | ok a st1 =>
    rw [hf st (by rw [hx]; exact fun e => by cases e), hx]
    rw [hx] at h
    exact hg a st1 h
  | bad j => rw [hf st (by rw [hx]; exact fun e => by cases e), hx]; rfl
  | out => rw [hx] at h; exact absurd rfl h
theorem Up.ite {p : Js.St → Prop} [∀ st, Decidable (p st)] {f f' g g' : Js.St → Js.Res α} (hf : Up f f') (hg : Up g g') : Up (fun st => if p st then f st else g st) (fun st => if p st then f' st else g' st) := by
  intro st h
  by_cases hh : p st
  · simp only [if_pos hh] at h ⊢; exact hf st h
  · simp only [if_neg hh] at h ⊢; exact hg st h
theorem Up.pre {f f' : Js.St → Js.Res α} (u : Js.St → Js.St) (hf : Up f f') : Up (fun st => f (u st)) (fun st => f' (u st)) := fun st h => hf (u st) h
theorem Up.congr {f f' g g' : Js.St → Js.Res α} (h : Up f f') (h1 : ∀ st, g st = f st) (h2 : ∀ st, g' st = f' st) : Up g g' := fun st e => by rw [h1] at e ⊢; rw [h2]; exact h st e
end
theorem textGo_up (s : Js.Bs) : ∀ (n : Nat) (acc : Js.Bs), Up (Js.textGo s n acc) (Js.textGo s (n + 1) acc)
  | 0, _ => fun _ h => absurd rfl h
  | n + 1, acc => by
    intro st h
    cases hx : s[st.at_]? with
    | none => rw [textGo_end hx, textGo_end hx]
    | some c =>
      by_cases h1 : c = 34
      · subst h1; rw [textGo_quote hx, textGo_quote hx]
      · by_cases h2 : c.toNat < 32 ∨ 126 < c.toNat
        · rw [textGo_ctl hx h1 h2, textGo_ctl hx h1 h2]
        · by_cases h3 : c = 92
          · subst h3
            rw [textGo_esc hx] at h ⊢
            rw [textGo_esc hx]
            exact Up.bind (f := fun st => Js.pair s (Js.step st)) (f' := fun st => Js.pair s (Js.step st)) (g := fun d st => Js.textGo s n (acc ++ [d]) st) (g' := fun d st => Js.textGo s (n + 1) (acc ++ [d]) st) (Up.refl _) (fun d => textGo_up s n _) st h
          · rw [textGo_one hx h1 h2 h3] at h ⊢
            rw [textGo_one hx h1 h2 h3]
            exact textGo_up s n _ _ h
theorem textGo_more (s : Js.Bs) (n : Nat) (acc : Js.Bs) (st : Js.St) (h : Js.textGo s n acc st ≠ .out) : ∀ d, Js.textGo s (n + d) acc st = Js.textGo s n acc st
  | 0 => rfl
  | d + 1 => by
    have e := textGo_more s n acc st h d
    rw [← e]
    exact textGo_up s (n + d) acc st (by rw [e]; exact h)
theorem textGo_any (s : Js.Bs) (n m : Nat) (acc : Js.Bs) (st : Js.St) (h : Js.textGo s n acc st ≠ .out) (h2 : Js.textGo s m acc st ≠ .out) : Js.textGo s m acc st = Js.textGo s n acc st := by
  rcases Nat.le_total n m with hl | hl
  · obtain ⟨d, rfl⟩ := Nat.exists_eq_add_of_le hl
    exact textGo_more s n acc st h d
  · obtain ⟨d, rfl⟩ := Nat.exists_eq_add_of_le hl
    exact (textGo_more s m acc st h2 d).symm
structure Ups (s : Js.Bs) (n : Nat) : Prop where
  value : Up (Js.value s n) (Js.value s (n + 1))
  inner : Up (Js.inner s n) (Js.inner s (n + 1))
  items : ∀ acc, Up (Js.items s n acc) (Js.items s (n + 1) acc)
  members : ∀ acc, Up (Js.members s n acc) (Js.members s (n + 1) acc)
def begun (st : Js.St) : Js.St := { st with nodes := st.nodes + 1, deep := st.deep + 1, large := st.large || decide (8 < st.deep + 1) || decide (256 < st.nodes + 1) }
def ended (st : Js.St) : Js.St := { st with deep := st.deep - 1 }
theorem value_eq (s : Js.Bs) (n : Nat) (st : Js.St) : Js.value s (n + 1) st = (Js.inner s n (begun (Js.blanks s st))).bind fun x st => .ok x (Js.blanks s (ended st)) := rfl
def listIn (s : Js.Bs) (n : Nat) (st : Js.St) : Js.Res Js.J := if Js.peek s st = 93 then .ok (Js.J.mk 5 false 0 [] [] []) (Js.step st) else (Js.items s n [] st).bind fun l st => .ok (Js.J.mk 5 false 0 [] l []) st
def objIn (s : Js.Bs) (n : Nat) (st : Js.St) : Js.Res Js.J := if Js.peek s st = 125 then .ok (Js.J.mk 6 false 0 [] [] []) (Js.step st) else (Js.members s n [] st).bind fun l st => .ok (Js.J.mk 6 false 0 [] [] l) st
theorem inner_eq (s : Js.Bs) (n : Nat) (st : Js.St) : Js.inner s (n + 1) st =
    (if Js.peek s st = 110 then (Js.word s [110, 117, 108, 108] st).bind fun _ st => .ok (Js.J.mk 1 false 0 [] [] []) st
    else if Js.peek s st = 116 then (Js.word s [116, 114, 117, 101] st).bind fun _ st => .ok (Js.J.mk 2 true 0 [] [] []) st
    else if Js.peek s st = 102 then (Js.word s [102, 97, 108, 115, 101] st).bind fun _ st => .ok (Js.J.mk 2 false 0 [] [] []) st
    else if Js.peek s st = 34 then (Js.text s st).bind fun t st => .ok (Js.J.mk 4 false 0 t [] []) st
    else if Js.peek s st = 45 ∨ Js.isDig (Js.peek s st) = true then (Js.number s st).bind fun k st => .ok (Js.J.mk 3 false k [] [] []) st
    else if Js.peek s st = 91 then listIn s n (Js.blanks s (Js.step st))
    else if Js.peek s st = 123 then objIn s n (Js.blanks s (Js.step st))
    else .bad st.at_) := rfl
def itemsEnd (s : Js.Bs) (n : Nat) (acc : List Js.J) (st : Js.St) : Js.Res (List Js.J) := if Js.peek s st = 93 then .ok acc (Js.step st) else (Js.take s 44 st).bind fun _ st => Js.items s n acc st
theorem items_eq (s : Js.Bs) (n : Nat) (acc : List Js.J) (st : Js.St) : Js.items s (n + 1) acc st = (Js.value s n st).bind fun x => itemsEnd s n (acc ++ [x]) := rfl
def membersEnd (s : Js.Bs) (n : Nat) (acc : List (Js.Bs × Js.J)) (st : Js.St) : Js.Res (List (Js.Bs × Js.J)) := if Js.peek s st = 125 then .ok acc (Js.step st) else (Js.take s 44 st).bind fun _ st => Js.members s n acc st
def membersIf (s : Js.Bs) (n : Nat) (acc acc2 : List (Js.Bs × Js.J)) (st : Js.St) : Js.Res (List (Js.Bs × Js.J)) := if st.large = true then membersEnd s n acc st else membersEnd s n acc2 st
def twice (acc : List (Js.Bs × Js.J)) (name : Js.Bs) (st : Js.St) : Js.St := { st with large := st.large || acc.any fun m => decide (m.1 = name) }
theorem members_eq (s : Js.Bs) (n : Nat) (acc : List (Js.Bs × Js.J)) (st : Js.St) : Js.members s (n + 1) acc st =
    (Js.text s (Js.blanks s st)).bind fun name st => (Js.take s 58 (Js.blanks s st)).bind fun _ st => (Js.value s n (twice acc name st)).bind fun x => membersIf s n acc (acc ++ [(name, x)]) := by
  show ((Js.text s (Js.blanks s st)).bind fun name st => (Js.take s 58 (Js.blanks s st)).bind fun _ st => (Js.value s n (twice acc name st)).bind fun x st =>
        if Js.peek s st = 125 then .ok (if st.large = true then acc else acc ++ [(name, x)]) (Js.step st) else (Js.take s 44 st).bind fun _ st' => Js.members s n (if st.large = true then acc else acc ++ [(name, x)]) st') = _
  congr 1
  funext name st
  congr 1
  funext _ st
  congr 1
  funext x st
  unfold membersIf membersEnd
  by_cases h : st.large = true
  · simp only [if_pos h]
  · simp only [if_neg h]
theorem ups (s : Js.Bs) : ∀ n, Ups s n
  | 0 => ⟨(fun _ h => absurd rfl h), (fun _ h => absurd rfl h), (fun _ _ h => absurd rfl h), (fun _ _ h => absurd rfl h)⟩
  | n + 1 => by
    have ih := ups s n
    have hie : ∀ acc, Up (itemsEnd s n acc) (itemsEnd s (n + 1) acc) := fun acc => Up.ite (Up.refl _) (Up.bind (g := fun _ => Js.items s n acc) (g' := fun _ => Js.items s (n + 1) acc) (Up.refl (Js.take s 44)) fun _ => ih.items acc)
    have hme : ∀ acc, Up (membersEnd s n acc) (membersEnd s (n + 1) acc) := fun acc => Up.ite (Up.refl _) (Up.bind (g := fun _ => Js.members s n acc) (g' := fun _ => Js.members s (n + 1) acc) (Up.refl (Js.take s 44)) fun _ => ih.members acc)
    have hmi : ∀ acc acc2, Up (membersIf s n acc acc2) (membersIf s (n + 1) acc acc2) := fun acc acc2 => Up.ite (hme acc) (hme acc2)
    have hli : Up (listIn s n) (listIn s (n + 1)) := Up.ite (Up.refl _) (Up.bind (f := Js.items s n []) (f' := Js.items s (n + 1) []) (g := fun l st => .ok (Js.J.mk 5 false 0 [] l []) st) (g' := fun l st => .ok (Js.J.mk 5 false 0 [] l []) st) (ih.items []) fun _ => Up.refl _)
    have hoi : Up (objIn s n) (objIn s (n + 1)) := Up.ite (Up.refl _) (Up.bind (f := Js.members s n []) (f' := Js.members s (n + 1) []) (g := fun l st => .ok (Js.J.mk 6 false 0 [] [] l) st) (g' := fun l st => .ok (Js.J.mk 6 false 0 [] [] l) st) (ih.members []) fun _ => Up.refl _)
    refine ⟨?_, ?_, ?_, ?_⟩
    · exact Up.congr (Up.pre (fun st => begun (Js.blanks s st)) (Up.bind (g := fun x st => .ok x (Js.blanks s (ended st))) (g' := fun x st => .ok x (Js.blanks s (ended st))) ih.inner fun _ => Up.refl _)) (value_eq s n) (value_eq s (n + 1))
    · exact Up.congr (Up.ite (Up.refl _) (Up.ite (Up.refl _) (Up.ite (Up.refl _) (Up.ite (Up.refl _) (Up.ite (Up.refl _) (Up.ite (Up.pre (fun st => Js.blanks s (Js.step st)) hli) (Up.ite (Up.pre (fun st => Js.blanks s (Js.step st)) hoi) (Up.refl _)))))))) (inner_eq s n) (inner_eq s (n + 1))
    · intro acc
      exact Up.congr (Up.bind (g := fun x => itemsEnd s n (acc ++ [x])) (g' := fun x => itemsEnd s (n + 1) (acc ++ [x])) ih.value fun x => hie _) (items_eq s n acc) (items_eq s (n + 1) acc)
    · intro acc
      refine Up.congr ?_ (members_eq s n acc) (members_eq s (n + 1) acc)
      refine Up.bind (f := fun st => Js.text s (Js.blanks s st)) (f' := fun st => Js.text s (Js.blanks s st)) (Up.refl _) fun name => ?_
      refine Up.bind (f := fun st => Js.take s 58 (Js.blanks s st)) (f' := fun st => Js.take s 58 (Js.blanks s st)) (g := fun _ st => (Js.value s n (twice acc name st)).bind fun x => membersIf s n acc (acc ++ [(name, x)])) (g' := fun _ st => (Js.value s (n + 1) (twice acc name st)).bind fun x => membersIf s (n + 1) acc (acc ++ [(name, x)])) (Up.refl _) fun _ => ?_
      exact Up.bind (f := fun st => Js.value s n (twice acc name st)) (f' := fun st => Js.value s (n + 1) (twice acc name st)) (g := fun x => membersIf s n acc (acc ++ [(name, x)])) (g' := fun x => membersIf s (n + 1) acc (acc ++ [(name, x)])) (Up.pre (twice acc name) ih.value) fun x => hmi _ _
theorem value_more (s : Js.Bs) (n : Nat) (st : Js.St) (h : Js.value s n st ≠ .out) : ∀ d, Js.value s (n + d) st = Js.value s n st
  | 0 => rfl
  | d + 1 => by
    have e := value_more s n st h d
    rw [← e]
    exact (ups s (n + d)).value st (by rw [e]; exact h)
/-- Any rounds that suffice say what run says. -/
theorem run_of {s : Js.Bs} {n : Nat} {r : Js.Res Js.J} (h : Js.value s n Js.st0 = r) (hr : r ≠ .out) : run s = r := by
  have h0 : Js.value s n Js.st0 ≠ .out := by rw [h]; exact hr
  have e1 := value_more s n _ h0 (4 * s.length + 8)
  have e2 := value_more s (4 * s.length + 8) Js.st0 (run_out s) n
  rw [Nat.add_comm] at e2
  rw [e1, h] at e2
  exact e2.symm
section
variable {k : Nat} {s s' : Js.Bs}
theorem Agree.textGo (h : Agree k s s') : ∀ (n : Nat) (acc : Js.Bs), Good k s.length (Js.textGo s n acc) (Js.textGo s' n acc) ∧ Shut k (Js.textGo s n acc) (Js.textGo s' n acc)
  | 0, _ => ⟨⟨(fun _ _ _ h => by cases h), (fun _ _ h => by cases h)⟩, fun _ _ _ h => by cases h⟩
  | n + 1, acc => by
    have G1 : ∀ c, Good k s.length (Js.textGo s n (acc ++ [c])) (Js.textGo s' n (acc ++ [c])) := fun c => (h.textGo n _).1
    have S1 : ∀ c, Shut k (Js.textGo s n (acc ++ [c])) (Js.textGo s' n (acc ++ [c])) := fun c => (h.textGo n _).2
    have GB := Good.bind (g := fun d st => Js.textGo s n (acc ++ [d]) st) (g' := fun d st => Js.textGo s' n (acc ++ [d]) st) h.pair G1
    have SB := Good.shut (g := fun d st => Js.textGo s n (acc ++ [d]) st) (g' := fun d st => Js.textGo s' n (acc ++ [d]) st) h.pair S1
    refine ⟨⟨fun st t st' e => ?_, fun st j e => ?_⟩, fun st t st' e => ?_⟩
    · cases hx : s[st.at_]? with
      | none => rw [textGo_end hx] at e; cases e
      | some c =>
        have hlt := (List.getElem?_eq_some_iff.1 hx).1
        have hx' : st.at_ < k → s'[st.at_]? = some c := fun hk => by rw [← h _ hk]; exact hx
        by_cases h1 : c = 34
        · subst h1
          rw [textGo_quote hx] at e
          injection e with e1 e2
          subst e1 e2
          exact ⟨Nat.le_succ _, fun _ => hlt, fun hk => textGo_quote (hx' (by have : st.at_ + 1 < k := hk; omega))⟩
        · by_cases h2 : c.toNat < 32 ∨ 126 < c.toNat
          · rw [textGo_ctl hx h1 h2] at e; cases e
          · by_cases h3 : c = 92
            · subst h3
              rw [textGo_esc hx] at e
              obtain ⟨x1, x2, x3⟩ := GB.ok _ _ _ e
              have x1 : st.at_ + 1 ≤ _ := x1
              exact ⟨by omega, fun _ => x2 hlt, fun hk => by rw [textGo_esc (hx' (by omega))]; exact x3 hk⟩
            · rw [textGo_one hx h1 h2 h3] at e
              obtain ⟨x1, x2, x3⟩ := (G1 c).ok _ _ _ e
              have x1 : st.at_ + 1 ≤ _ := x1
              exact ⟨by omega, fun _ => x2 hlt, fun hk => by rw [textGo_one (hx' (by omega)) h1 h2 h3]; exact x3 hk⟩
    · cases hx : s[st.at_]? with
      | none =>
        rw [textGo_end hx] at e
        injection e with e1
        subst e1
        exact ⟨Nat.le_refl _, id, fun hk => textGo_end (by rw [← h _ hk]; exact hx)⟩
      | some c =>
        have hlt := (List.getElem?_eq_some_iff.1 hx).1
        have hx' : st.at_ < k → s'[st.at_]? = some c := fun hk => by rw [← h _ hk]; exact hx
        by_cases h1 : c = 34
        · subst h1; rw [textGo_quote hx] at e; cases e
        · by_cases h2 : c.toNat < 32 ∨ 126 < c.toNat
          · rw [textGo_ctl hx h1 h2] at e
            injection e with e1
            subst e1
            exact ⟨Nat.le_refl _, id, fun hk => textGo_ctl (hx' hk) h1 h2⟩
          · by_cases h3 : c = 92
            · subst h3
              rw [textGo_esc hx] at e
              obtain ⟨x1, x2, x3⟩ := GB.bad _ _ e
              have x1 : st.at_ + 1 ≤ _ := x1
              exact ⟨by omega, fun _ => x2 hlt, fun hk => by rw [textGo_esc (hx' (by omega))]; exact x3 hk⟩
            · rw [textGo_one hx h1 h2 h3] at e
              obtain ⟨x1, x2, x3⟩ := (G1 c).bad _ _ e
              have x1 : st.at_ + 1 ≤ _ := x1
              exact ⟨by omega, fun _ => x2 hlt, fun hk => by rw [textGo_one (hx' (by omega)) h1 h2 h3]; exact x3 hk⟩
    · cases hx : s[st.at_]? with
      | none => rw [textGo_end hx] at e; cases e
      | some c =>
        have hx' : st.at_ < k → s'[st.at_]? = some c := fun hk => by rw [← h _ hk]; exact hx
        by_cases h1 : c = 34
        · subst h1
          rw [textGo_quote hx] at e
          injection e with e1 e2
          subst e1 e2
          exact ⟨Nat.lt_succ_self _, fun hk => textGo_quote (hx' (by have : st.at_ + 1 ≤ k := hk; omega))⟩
        · by_cases h2 : c.toNat < 32 ∨ 126 < c.toNat
          · rw [textGo_ctl hx h1 h2] at e; cases e
          · by_cases h3 : c = 92
            · subst h3
              rw [textGo_esc hx] at e
              obtain ⟨x1, x3⟩ := SB _ _ _ e
              have x1 : st.at_ + 1 < _ := x1
              exact ⟨by omega, fun hk => by rw [textGo_esc (hx' (by omega))]; exact x3 hk⟩
            · rw [textGo_one hx h1 h2 h3] at e
              obtain ⟨x1, x3⟩ := S1 c _ _ _ e
              have x1 : st.at_ + 1 < _ := x1
              exact ⟨by omega, fun hk => by rw [textGo_one (hx' (by omega)) h1 h2 h3]; exact x3 hk⟩
def textN (s : Js.Bs) (n : Nat) (st : Js.St) : Js.Res Js.Bs :=
  (Js.take s 34 st).bind fun _ st => (Js.textGo s n [] st).bind fun t st => .ok t { st with bytes := st.bytes + t.length, large := st.large || decide (32768 < st.bytes + t.length) }
theorem text_eq (s : Js.Bs) (st : Js.St) : Js.text s st = textN s (s.length + 1) st := rfl
theorem textN_ne {s : Js.Bs} {n : Nat} {st : Js.St} (h : textN s n st ≠ .out) : textN s (s.length + 1) st = textN s n st := by
  unfold textN at h ⊢
  rcases take_inv s 34 st with ht | ht
  · rw [ht] at h ⊢
    rw [ok_bind] at h ⊢
    rw [ok_bind]
    have hn : Js.textGo s n [] (Js.step st) ≠ .out := fun e => h (by rw [e]; rfl)
    have hl := take_le ht
    rw [textGo_any s n (s.length + 1) [] _ hn (textGo_out s _ _ _ hl (by omega))]
  · rw [ht]; rfl
theorem Agree.textN (h : Agree k s s') (n : Nat) : Good k s.length (textN s n) (Go.Proofs.YtimioelnnhnbiaaDoor.textN s' n) ∧ Shut k (Go.Proofs.YtimioelnnhnbiaaDoor.textN s n) (Go.Proofs.YtimioelnnhnbiaaDoor.textN s' n) := by
  obtain ⟨g, sh⟩ := h.textGo n []
  refine ⟨Good.bind (g := fun _ st => (Js.textGo s n [] st).bind fun t st => .ok t { st with bytes := st.bytes + t.length, large := st.large || decide (32768 < st.bytes + t.length) }) (g' := fun _ st => (Js.textGo s' n [] st).bind fun t st => .ok t { st with bytes := st.bytes + t.length, large := st.large || decide (32768 < st.bytes + t.length) }) (h.take 34) fun _ => Good.bind (g := fun t st => .ok t { st with bytes := st.bytes + t.length, large := st.large || decide (32768 < st.bytes + t.length) }) (g' := fun t st => .ok t { st with bytes := st.bytes + t.length, large := st.large || decide (32768 < st.bytes + t.length) }) g fun t => Good.pure (fun _ => t) (fun st => { st with bytes := st.bytes + t.length, large := st.large || decide (32768 < st.bytes + t.length) }) fun _ => rfl, ?_⟩
  exact Good.shut (g := fun _ st => (Js.textGo s n [] st).bind fun t st => .ok t { st with bytes := st.bytes + t.length, large := st.large || decide (32768 < st.bytes + t.length) }) (g' := fun _ st => (Js.textGo s' n [] st).bind fun t st => .ok t { st with bytes := st.bytes + t.length, large := st.large || decide (32768 < st.bytes + t.length) }) (h.take 34) fun _ => Shut.then (v := fun t _ => t) (u := fun t st => { st with bytes := st.bytes + t.length, large := st.large || decide (32768 < st.bytes + t.length) }) sh fun _ _ => rfl
theorem Agree.text (h : Agree k s s') : Good k s.length (Js.text s) (Js.text s') ∧ Shut k (Js.text s) (Js.text s') := by
  obtain ⟨g, sh⟩ := h.textN (s.length + 1)
  refine ⟨⟨fun st t st' e => ?_, fun st j e => ?_⟩, fun st t st' e => ?_⟩
  · obtain ⟨x1, x2, x3⟩ := g.ok _ _ _ e
    refine ⟨x1, x2, fun hk => ?_⟩
    have e2 := x3 hk
    rw [text_eq, textN_ne (by rw [e2]; exact fun e => by cases e), e2]
  · obtain ⟨x1, x2, x3⟩ := g.bad _ _ e
    refine ⟨x1, x2, fun hk => ?_⟩
    have e2 := x3 hk
    rw [text_eq, textN_ne (by rw [e2]; exact fun e => by cases e), e2]
  · obtain ⟨x1, x3⟩ := sh _ _ _ e
    refine ⟨x1, fun hk => ?_⟩
    have e2 := x3 hk
    rw [text_eq, textN_ne (by rw [e2]; exact fun e => by cases e), e2]
theorem Agree.pk (h : Agree k s s') (c : UInt8) : ∀ st : Js.St, st.at_ < k → (Js.peek s st = c ↔ Js.peek s' st = c) := fun st hk => by rw [h.peek hk]
theorem Agree.number (h : Agree k s s') : Good k s.length (Js.number s) (Js.number s') := by
  have e : ∀ (s : Js.Bs) (st : Js.St), Js.number s st = if Js.peek s st = 45 then (if Js.peek s st = 45 then Go.Proofs.YtimioelnnhnbiaaDoor.numRest s true (Js.step st) else .bad st.at_) else Go.Proofs.YtimioelnnhnbiaaDoor.numRest s false st := fun s st => by
    rw [number_eq]
    by_cases h45 : Js.peek s st = 45
    · rw [if_pos h45, if_pos h45, if_pos h45, decide_eq_true h45]
    · rw [if_neg h45, if_neg h45, decide_eq_false h45]
  exact Good.congr (Good.ite (h.pk 45) (Good.stepped (c := 45) (by decide) h (h.numRest true)) (h.numRest false)) (e s) (e s')
theorem Agree.one (h : Agree k s s') {α : Type} {c : UInt8} (hc : c ≠ 0) (v : α) : Shut k (fun st => if Js.peek s st = c then .ok v (Js.step st) else .bad st.at_) (fun st => if Js.peek s' st = c then .ok v (Js.step st) else .bad st.at_) := by
  intro st b st2 h1
  by_cases hp : Js.peek s st = c
  · simp only [if_pos hp] at h1
    injection h1 with e1 e2
    subst e1 e2
    refine ⟨Nat.lt_succ_self _, fun hk => ?_⟩
    have hk : st.at_ + 1 ≤ k := hk
    simp only
    rw [← h.peek (by omega), if_pos hp]
  · simp only [if_neg hp] at h1; cases h1
theorem Agree.oneG (h : Agree k s s') {α : Type} {c : UInt8} (hc : c ≠ 0) (v : α) : Good k s.length (fun st => if Js.peek s st = c then .ok v (Js.step st) else .bad st.at_) (fun st => if Js.peek s' st = c then .ok v (Js.step st) else .bad st.at_) :=
  Good.stepped (f := fun st => .ok v st) (f' := fun st => .ok v st) hc h (Good.pure (fun _ => v) id fun _ => rfl)
theorem ite_twice {α : Type} {p : Prop} [Decidable p] (a b c : α) : (if p then a else c) = if p then (if p then a else b) else c := by
  by_cases h : p
  · rw [if_pos h, if_pos h, if_pos h]
  · rw [if_neg h, if_neg h]
theorem blanks_pre_le (s : Js.Bs) (st : Js.St) (h : st.at_ ≤ s.length) : (Js.blanks s st).at_ ≤ s.length := blanks_le h
structure Goods (k : Nat) (s s' : Js.Bs) (n : Nat) : Prop where
  value : Good k s.length (Js.value s n) (Js.value s' n)
  inner : Good k s.length (Js.inner s n) (Js.inner s' n)
  items : ∀ acc, Good k s.length (Js.items s n acc) (Js.items s' n acc)
  itemsS : ∀ acc, Shut k (Js.items s n acc) (Js.items s' n acc)
  members : ∀ acc, Good k s.length (Js.members s n acc) (Js.members s' n acc)
  membersS : ∀ acc, Shut k (Js.members s n acc) (Js.members s' n acc)
theorem Goods.list {n : Nat} (G : Goods k s s' n) (h : Agree k s s') : Good k s.length (listIn s n) (listIn s' n) ∧ Shut k (listIn s n) (listIn s' n) := by
  have e : ∀ (s : Js.Bs) (st : Js.St), listIn s n st = if Js.peek s st = 93 then (if Js.peek s st = 93 then .ok (Js.J.mk 5 false 0 [] [] []) (Js.step st) else .bad st.at_) else (Js.items s n [] st).bind fun l st => .ok (Js.J.mk 5 false 0 [] l []) st := fun s st => ite_twice _ _ _
  refine ⟨Good.congr (Good.ite (h.pk 93) (h.oneG (by decide) _) ?_) (e s) (e s'), Shut.congr (Shut.ite (h.pk 93) (h.one (by decide) _) ?_) (e s) (e s')⟩
  · exact Good.bind (g := fun l st => .ok (Js.J.mk 5 false 0 [] l []) st) (g' := fun l st => .ok (Js.J.mk 5 false 0 [] l []) st) (G.items []) fun l => Good.pure (fun _ => _) id fun _ => rfl
  · exact Shut.then (v := fun l _ => Js.J.mk 5 false 0 [] l []) (u := fun _ st => st) (G.itemsS []) fun _ _ => rfl
theorem Goods.obj {n : Nat} (G : Goods k s s' n) (h : Agree k s s') : Good k s.length (objIn s n) (objIn s' n) ∧ Shut k (objIn s n) (objIn s' n) := by
  have e : ∀ (s : Js.Bs) (st : Js.St), objIn s n st = if Js.peek s st = 125 then (if Js.peek s st = 125 then .ok (Js.J.mk 6 false 0 [] [] []) (Js.step st) else .bad st.at_) else (Js.members s n [] st).bind fun l st => .ok (Js.J.mk 6 false 0 [] [] l) st := fun s st => ite_twice _ _ _
  refine ⟨Good.congr (Good.ite (h.pk 125) (h.oneG (by decide) _) ?_) (e s) (e s'), Shut.congr (Shut.ite (h.pk 125) (h.one (by decide) _) ?_) (e s) (e s')⟩
  · exact Good.bind (g := fun l st => .ok (Js.J.mk 6 false 0 [] [] l) st) (g' := fun l st => .ok (Js.J.mk 6 false 0 [] [] l) st) (G.members []) fun l => Good.pure (fun _ => _) id fun _ => rfl
  · exact Shut.then (v := fun l _ => Js.J.mk 6 false 0 [] [] l) (u := fun _ st => st) (G.membersS []) fun _ _ => rfl
theorem Goods.iend {n : Nat} (G : Goods k s s' n) (h : Agree k s s') (acc : List Js.J) : Good k s.length (itemsEnd s n acc) (itemsEnd s' n acc) ∧ Shut k (itemsEnd s n acc) (itemsEnd s' n acc) := by
  have e : ∀ (s : Js.Bs) (st : Js.St), itemsEnd s n acc st = if Js.peek s st = 93 then (if Js.peek s st = 93 then .ok acc (Js.step st) else .bad st.at_) else (Js.take s 44 st).bind fun _ st => Js.items s n acc st := fun s st => ite_twice _ _ _
  refine ⟨Good.congr (Good.ite (h.pk 93) (h.oneG (by decide) _) ?_) (e s) (e s'), Shut.congr (Shut.ite (h.pk 93) (h.one (by decide) _) ?_) (e s) (e s')⟩
  · exact Good.bind (g := fun _ => Js.items s n acc) (g' := fun _ => Js.items s' n acc) (h.take 44) fun _ => G.items acc
  · exact Good.shut (g := fun _ => Js.items s n acc) (g' := fun _ => Js.items s' n acc) (h.take 44) fun _ => G.itemsS acc
theorem Goods.mend {n : Nat} (G : Goods k s s' n) (h : Agree k s s') (acc : List (Js.Bs × Js.J)) : Good k s.length (membersEnd s n acc) (membersEnd s' n acc) ∧ Shut k (membersEnd s n acc) (membersEnd s' n acc) := by
  have e : ∀ (s : Js.Bs) (st : Js.St), membersEnd s n acc st = if Js.peek s st = 125 then (if Js.peek s st = 125 then .ok acc (Js.step st) else .bad st.at_) else (Js.take s 44 st).bind fun _ st => Js.members s n acc st := fun s st => ite_twice _ _ _
  refine ⟨Good.congr (Good.ite (h.pk 125) (h.oneG (by decide) _) ?_) (e s) (e s'), Shut.congr (Shut.ite (h.pk 125) (h.one (by decide) _) ?_) (e s) (e s')⟩
  · exact Good.bind (g := fun _ => Js.members s n acc) (g' := fun _ => Js.members s' n acc) (h.take 44) fun _ => G.members acc
  · exact Good.shut (g := fun _ => Js.members s n acc) (g' := fun _ => Js.members s' n acc) (h.take 44) fun _ => G.membersS acc
theorem Goods.mif {n : Nat} (G : Goods k s s' n) (h : Agree k s s') (acc acc2 : List (Js.Bs × Js.J)) : Good k s.length (membersIf s n acc acc2) (membersIf s' n acc acc2) ∧ Shut k (membersIf s n acc acc2) (membersIf s' n acc acc2) :=
  ⟨Good.ite (fun _ _ => Iff.rfl) (G.mend h acc).1 (G.mend h acc2).1, Shut.ite (fun _ _ => Iff.rfl) (G.mend h acc).2 (G.mend h acc2).2⟩
theorem goods (h : Agree k s s') : ∀ n, Goods k s s' n
  | 0 => ⟨⟨(fun _ _ _ h => by cases h), (fun _ _ h => by cases h)⟩, ⟨(fun _ _ _ h => by cases h), (fun _ _ h => by cases h)⟩, (fun _ => ⟨(fun _ _ _ h => by cases h), (fun _ _ h => by cases h)⟩), (fun _ _ _ _ h => by cases h),
      (fun _ => ⟨(fun _ _ _ h => by cases h), (fun _ _ h => by cases h)⟩), (fun _ _ _ _ h => by cases h)⟩
  | n + 1 => by
    have G := goods h n
    refine ⟨?_, ?_, ?_, ?_, ?_, ?_⟩
    · refine Good.congr (Good.pre (u := fun st => begun (Js.blanks s st)) (u' := fun st => begun (Js.blanks s' st)) (Good.bind (g := fun x st => .ok x (Js.blanks s (ended st))) (g' := fun x st => .ok x (Js.blanks s' (ended st))) G.inner fun x => ?_)
        (fun st => blanks_ge s st) (fun st hl => blanks_le hl) (fun st hk => by show begun (Js.blanks s' st) = begun (Js.blanks s st); rw [h.blanks st hk])) (value_eq s n) (value_eq s' n)
      refine ⟨fun st a st' e => ?_, fun st j e => by cases e⟩
      injection e with e1 e2
      subst e1 e2
      exact ⟨blanks_ge s (ended st), fun hl => blanks_le (st := ended st) hl, fun hk => by rw [h.blanks _ hk]⟩
    · refine Good.congr ?_ (inner_eq s n) (inner_eq s' n)
      have W : ∀ (l : Js.Bs) (x : Js.J), Good k s.length (fun st => (Js.word s l st).bind fun _ st => .ok x st) (fun st => (Js.word s' l st).bind fun _ st => .ok x st) := fun l x =>
        Good.bind (g := fun _ st => .ok x st) (g' := fun _ st => .ok x st) (h.word l) fun _ => Good.pure (fun _ => x) id fun _ => rfl
      refine Good.ite (h.pk 110) (W _ _) (Good.ite (h.pk 116) (W _ _) (Good.ite (h.pk 102) (W _ _) (Good.ite (h.pk 34) ?_ (Good.ite (fun st hk => by rw [h.peek hk]) ?_ ?_))))
      · exact Good.bind (g := fun t st => .ok (Js.J.mk 4 false 0 t [] []) st) (g' := fun t st => .ok (Js.J.mk 4 false 0 t [] []) st) h.text.1 fun _ => Good.pure (fun _ => _) id fun _ => rfl
      · exact Good.bind (g := fun t st => .ok (Js.J.mk 3 false t [] [] []) st) (g' := fun t st => .ok (Js.J.mk 3 false t [] [] []) st) h.number fun _ => Good.pure (fun _ => _) id fun _ => rfl
      · have e : ∀ (s : Js.Bs) (st : Js.St), (if Js.peek s st = 91 then listIn s n (Js.blanks s (Js.step st)) else if Js.peek s st = 123 then objIn s n (Js.blanks s (Js.step st)) else .bad st.at_) =
            if Js.peek s st = 91 then (if Js.peek s st = 91 then listIn s n (Js.blanks s (Js.step st)) else .bad st.at_) else if Js.peek s st = 123 then objIn s n (Js.blanks s (Js.step st)) else .bad st.at_ := fun s st => ite_twice _ _ _
        refine Good.congr (Good.ite (h.pk 91) (Good.stepped (f := fun st => listIn s n (Js.blanks s st)) (f' := fun st => listIn s' n (Js.blanks s' st)) (by decide) h ?_) (Good.stepped (f := fun st => objIn s n (Js.blanks s st)) (f' := fun st => objIn s' n (Js.blanks s' st)) (by decide) h ?_)) (e s) (e s')
        · exact Good.pre (G.list h).1 (blanks_ge s) (blanks_pre_le s) h.blanks
        · exact Good.pre (G.obj h).1 (blanks_ge s) (blanks_pre_le s) h.blanks
    · exact fun acc => Good.congr (Good.bind (g := fun x => itemsEnd s n (acc ++ [x])) (g' := fun x => itemsEnd s' n (acc ++ [x])) G.value fun x => (G.iend h _).1) (items_eq s n acc) (items_eq s' n acc)
    · exact fun acc => Shut.congr (Good.shut (g := fun x => itemsEnd s n (acc ++ [x])) (g' := fun x => itemsEnd s' n (acc ++ [x])) G.value fun x => (G.iend h _).2) (items_eq s n acc) (items_eq s' n acc)
    · intro acc
      refine Good.congr ?_ (members_eq s n acc) (members_eq s' n acc)
      refine Good.bind (f := fun st => Js.text s (Js.blanks s st)) (f' := fun st => Js.text s' (Js.blanks s' st)) (Good.pre h.text.1 (blanks_ge s) (blanks_pre_le s) h.blanks) fun name => ?_
      refine Good.bind (f := fun st => Js.take s 58 (Js.blanks s st)) (f' := fun st => Js.take s' 58 (Js.blanks s' st)) (g := fun _ st => (Js.value s n (twice acc name st)).bind fun x => membersIf s n acc (acc ++ [(name, x)])) (g' := fun _ st => (Js.value s' n (twice acc name st)).bind fun x => membersIf s' n acc (acc ++ [(name, x)])) (Good.pre (h.take 58) (blanks_ge s) (blanks_pre_le s) h.blanks) fun _ => ?_
      exact Good.bind (f := fun st => Js.value s n (twice acc name st)) (f' := fun st => Js.value s' n (twice acc name st)) (g := fun x => membersIf s n acc (acc ++ [(name, x)])) (g' := fun x => membersIf s' n acc (acc ++ [(name, x)])) (Good.pre (u := twice acc name) (u' := twice acc name) G.value (fun _ => Nat.le_refl _) (fun _ => id) (fun _ _ => rfl)) fun x => (G.mif h _ _).1
    · intro acc
      refine Shut.congr ?_ (members_eq s n acc) (members_eq s' n acc)
      refine Good.shut (f := fun st => Js.text s (Js.blanks s st)) (f' := fun st => Js.text s' (Js.blanks s' st)) (Good.pre h.text.1 (blanks_ge s) (blanks_pre_le s) h.blanks) fun name => ?_
      refine Good.shut (f := fun st => Js.take s 58 (Js.blanks s st)) (f' := fun st => Js.take s' 58 (Js.blanks s' st)) (g := fun _ st => (Js.value s n (twice acc name st)).bind fun x => membersIf s n acc (acc ++ [(name, x)])) (g' := fun _ st => (Js.value s' n (twice acc name st)).bind fun x => membersIf s' n acc (acc ++ [(name, x)])) (Good.pre (h.take 58) (blanks_ge s) (blanks_pre_le s) h.blanks) fun _ => ?_
      exact Good.shut (f := fun st => Js.value s n (twice acc name st)) (f' := fun st => Js.value s' n (twice acc name st)) (g := fun x => membersIf s n acc (acc ++ [(name, x)])) (g' := fun x => membersIf s' n acc (acc ++ [(name, x)])) (Good.pre (u := twice acc name) (u' := twice acc name) G.value (fun _ => Nat.le_refl _) (fun _ => id) (fun _ _ => rfl)) fun x => (G.mif h _ _).2
/-- What runs to its end ahead of k runs so in the other text. -/
theorem run_ok_agree (h : Agree k s s') {x : Js.J} {st : Js.St} (hr : run s = .ok x st) (hk : st.at_ < k) : run s' = .ok x st :=
  run_of (((goods h _).value.ok _ _ _ hr).2.2 hk) (fun e => by cases e)
theorem run_bad_agree (h : Agree k s s') {j : Nat} (hr : run s = .bad j) (hk : j < k) : run s' = .bad j :=
  run_of (((goods h _).value.bad _ _ hr).2.2 hk) (fun e => by cases e)
theorem run_ok_le {x : Js.J} {st : Js.St} (hr : run s = .ok x st) : st.at_ ≤ s.length := ((goods (k := 0) (s' := s) (fun _ h => absurd h (by omega)) _).value.ok _ _ _ hr).2.1 (Nat.zero_le _)
theorem run_bad_le {j : Nat} (hr : run s = .bad j) : j ≤ s.length := ((goods (k := 0) (s' := s) (fun _ h => absurd h (by omega)) _).value.bad _ _ hr).2.1 (Nat.zero_le _)
/-- A text, a list and an object end with a byte that is asked for. -/
theorem inner_shut (h : Agree k s s') (n : Nat) {st st' : Js.St} {x : Js.J} (hr : Js.inner s n st = .ok x st') (hc : Js.peek s st = 34 ∨ Js.peek s st = 91 ∨ Js.peek s st = 123) (hk : st'.at_ ≤ k) : st.at_ < st'.at_ ∧ Js.inner s' n st = .ok x st' := by
  cases n with
  | zero => cases hr
  | succ n =>
    rw [inner_eq] at hr ⊢
    rcases hc with hc | hc | hc
    · have S : Shut k (fun st => (Js.text s st).bind fun t st => .ok (Js.J.mk 4 false 0 t [] []) st) (fun st => (Js.text s' st).bind fun t st => .ok (Js.J.mk 4 false 0 t [] []) st) := Shut.then (v := fun t _ => Js.J.mk 4 false 0 t [] []) (u := fun _ st => st) h.text.2 fun _ _ => rfl
      rw [hc, if_neg (by decide), if_neg (by decide), if_neg (by decide), if_pos rfl] at hr
      obtain ⟨x1, x2⟩ := S _ _ _ hr
      have hc' : Js.peek s' st = 34 := by rw [← h.peek (by omega)]; exact hc
      rw [hc', if_neg (by decide), if_neg (by decide), if_neg (by decide), if_pos rfl]
      exact ⟨x1, x2 hk⟩
    · rw [hc, if_neg (by decide), if_neg (by decide), if_neg (by decide), if_neg (by decide), if_neg (by decide), if_pos rfl] at hr
      obtain ⟨x1, x2⟩ := Shut.pre ((goods h n).list h).2 (blanks_ge s) h.blanks _ _ _ hr
      have x1 : st.at_ + 1 < _ := x1
      have hc' : Js.peek s' st = 91 := by rw [← h.peek (by omega)]; exact hc
      rw [hc', if_neg (by decide), if_neg (by decide), if_neg (by decide), if_neg (by decide), if_neg (by decide), if_pos rfl]
      exact ⟨by omega, x2 hk⟩
    · rw [hc, if_neg (by decide), if_neg (by decide), if_neg (by decide), if_neg (by decide), if_neg (by decide), if_neg (by decide), if_pos rfl] at hr
      obtain ⟨x1, x2⟩ := Shut.pre ((goods h n).obj h).2 (blanks_ge s) h.blanks _ _ _ hr
      have x1 : st.at_ + 1 < _ := x1
      have hc' : Js.peek s' st = 123 := by rw [← h.peek (by omega)]; exact hc
      rw [hc', if_neg (by decide), if_neg (by decide), if_neg (by decide), if_neg (by decide), if_neg (by decide), if_neg (by decide), if_pos rfl]
      exact ⟨by omega, x2 hk⟩
end
end Go.Proofs.YtimioelnnhnbiaaDoor
