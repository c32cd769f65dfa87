/-
  Joined: WG Fine. CONDITIONS: as each law says.
-/
import Derived.Test.YtimioelnnhnbiaaGreatDoorS02
namespace Go.Proofs.YtimioelnnhnbiaaGreatDoor
open Go.RowKit
mutual
def JV (w : World) (S : Nat → Prop) : Js.J → List Value → Prop
 | .mk k b n t l m, vs => ∃ A c A' c', vs = [.int .i64 k, .bool b, .int .i64 n, .string (str t), .slice A l.length c, .slice A' m.length c'] ∧ l.length ≤ c ∧ m.length ≤ c' ∧ JL w S A 0 l ∧ JM w S A' 0 m
def JL (w : World) (S : Nat → Prop) (A : Option Addr) : Nat → List Js.J → Prop
 | _, [] => True
 | i, x :: t => (∃ g o vs, A = some ⟨g, o, none⟩ ∧ S g ∧ g < w.heap.size ∧ (∀ j u, vs[j]? = some u → w.cell? ⟨g, o + i * 6 + j, none⟩ = some u) ∧ JV w S x vs) ∧ JL w S A (i + 1) t
def JM (w : World) (S : Nat → Prop) (A : Option Addr) : Nat → List (Js.Bs × Js.J) → Prop
 | _, [] => True
 | i, (nm, x) :: t => (∃ g o vs, A = some ⟨g, o, none⟩ ∧ S g ∧ g < w.heap.size ∧ (∀ j u, (Value.string (str nm) :: vs)[j]? = some u → w.cell? ⟨g, o + i * 7 + j, none⟩ = some u) ∧ JV w S x vs) ∧ JM w S A (i + 1) t
end
mutual
theorem JV.keep {w w' : World} {S T : Nat → Prop} (hsz : w.heap.size ≤ w'.heap.size) (hST : ∀ g, S g → g < w.heap.size → T g) (hk : ∀ g, S g → g < w.heap.size → w'.heap[g]? = w.heap[g]?) : ∀ (x : Js.J) (vs : List Value), JV w S x vs → JV w' T x vs
 | .mk k b n t l m, vs, h => by
  unfold JV at h ⊢
  obtain ⟨A, c, A', c', h1, h2, h3, h4, h5⟩ := h
  exact ⟨A, c, A', c', h1, h2, h3, JL.keep hsz hST hk A 0 l h4, JM.keep hsz hST hk A' 0 m h5⟩
theorem JL.keep {w w' : World} {S T : Nat → Prop} (hsz : w.heap.size ≤ w'.heap.size) (hST : ∀ g, S g → g < w.heap.size → T g) (hk : ∀ g, S g → g < w.heap.size → w'.heap[g]? = w.heap[g]?) (A : Option Addr) : ∀ (i : Nat) (l : List Js.J), JL w S A i l → JL w' T A i l
 | _, [], _ => by unfold JL; trivial
 | i, x :: t, h => by
  unfold JL at h ⊢
  obtain ⟨⟨g, o, vs, h1, h2, h3, h4, h5⟩, h6⟩ := h
  exact ⟨⟨g, o, vs, h1, hST g h2 h3, Nat.lt_of_lt_of_le h3 hsz, fun j u hj => (World.cell?_of_block (a := ⟨g, o + i * 6 + j, none⟩) (hk g h2 h3)).trans (h4 j u hj), JV.keep hsz hST hk x vs h5⟩, JL.keep hsz hST hk A (i + 1) t h6⟩
theorem JM.keep {w w' : World} {S T : Nat → Prop} (hsz : w.heap.size ≤ w'.heap.size) (hST : ∀ g, S g → g < w.heap.size → T g) (hk : ∀ g, S g → g < w.heap.size → w'.heap[g]? = w.heap[g]?) (A : Option Addr) : ∀ (i : Nat) (l : List (Js.Bs × Js.J)), JM w S A i l → JM w' T A i l
 | _, [], _ => by unfold JM; trivial
 | i, (nm, x) :: t, h => by
  unfold JM at h ⊢
  obtain ⟨⟨g, o, vs, h1, h2, h3, h4, h5⟩, h6⟩ := h
  exact ⟨⟨g, o, vs, h1, hST g h2 h3, Nat.lt_of_lt_of_le h3 hsz, fun j u hj => (World.cell?_of_block (a := ⟨g, o + i * 7 + j, none⟩) (hk g h2 h3)).trans (h4 j u hj), JV.keep hsz hST hk x vs h5⟩, JM.keep hsz hST hk A (i + 1) t h6⟩
end
theorem JV.next {w w' : World} {S : Nat → Prop} {x : Js.J} {vs : List Value} (h : JV w S x vs) (hb : Below w.heap.size w w') : JV w' S x vs :=
 JV.keep hb.size (fun _ h _ => h) (fun g _ hg => hb.block g hg) x vs h
theorem JV.but {L : List Nat} {w w' : World} {S : Nat → Prop} {x : Js.J} {vs : List Value} (h : JV w S x vs) (hb : But L w w') (hL : ∀ j ∈ L, ¬ S j) : JV w' S x vs :=
 JV.keep hb.size (fun _ h _ => h) (fun g hS hg => hb.block g hg (fun hm => hL g hm hS)) x vs h
theorem JV.wide {w : World} {S T : Nat → Prop} {x : Js.J} {vs : List Value} (h : JV w S x vs) (hST : ∀ g, S g → g < w.heap.size → T g) : JV w T x vs :=
 JV.keep (Nat.le_refl _) hST (fun _ _ _ => rfl) x vs h
theorem JV.below {w w' : World} {B : Nat} {S : Nat → Prop} {x : Js.J} {vs : List Value} (h : JV w S x vs) (hb : Below B w w') (hS : ∀ g, S g → g < B) (hsz : w.heap.size ≤ w'.heap.size) : JV w' S x vs :=
 JV.keep hsz (fun _ h _ => h) (fun g hg _ => hb.block g (hS g hg)) x vs h
theorem JV.len {w : World} {S : Nat → Prop} {x : Js.J} {vs : List Value} (h : JV w S x vs) : vs.length = 6 := by
 cases x with | mk k b n t l m =>
 unfold JV at h
 obtain ⟨A, c, A', c', rfl, _⟩ := h
 rfl
theorem JV.one {w : World} {S : Nat → Prop} {x : Js.J} {vs : List Value} (h : JV w S x vs) : ∀ v ∈ vs, v.oneCell' = true := by
 cases x with | mk k b n t l m =>
 unfold JV at h
 obtain ⟨A, c, A', c', rfl, _⟩ := h
 intro v hv
 simp at hv
 rcases hv with rfl | rfl | rfl | rfl | rfl | rfl <;> rfl
theorem JL.at_ {w : World} {S : Nat → Prop} {A : Option Addr} : ∀ {i : Nat} {l : List Js.J} {k : Nat} {x : Js.J}, JL w S A i l → l[k]? = some x → ∃ g o vs, A = some ⟨g, o, none⟩ ∧ S g ∧ g < w.heap.size ∧ (∀ j u, vs[j]? = some u → w.cell? ⟨g, o + (i + k) * 6 + j, none⟩ = some u) ∧ JV w S x vs
 | _, [], _, _, _, h => by simp at h
 | i, y :: t, 0, x, h, hx => by
  unfold JL at h
  simp at hx
  subst hx
  exact h.1
 | i, y :: t, k + 1, x, h, hx => by
  unfold JL at h
  have := JL.at_ h.2 (k := k) (by simpa using hx)
  rwa [show i + 1 + k = i + (k + 1) by omega] at this
theorem JM.at_ {w : World} {S : Nat → Prop} {A : Option Addr} : ∀ {i : Nat} {l : List (Js.Bs × Js.J)} {k : Nat} {nm : Js.Bs} {x : Js.J}, JM w S A i l → l[k]? = some (nm, x) → ∃ g o vs, A = some ⟨g, o, none⟩ ∧ S g ∧ g < w.heap.size ∧ (∀ j u, (Value.string (str nm) :: vs)[j]? = some u → w.cell? ⟨g, o + (i + k) * 7 + j, none⟩ = some u) ∧ JV w S x vs
 | _, [], _, _, _, _, h => by simp at h
 | i, (_, y) :: t, 0, nm, x, h, hx => by
  unfold JM at h
  simp at hx
  obtain ⟨rfl, rfl⟩ := hx
  exact h.1
 | i, (_, y) :: t, k + 1, nm, x, h, hx => by
  unfold JM at h
  have := JM.at_ h.2 (k := k) (by simpa using hx)
  rwa [show i + 1 + k = i + (k + 1) by omega] at this
theorem JL.of {w : World} {S : Nat → Prop} {A : Option Addr} : ∀ {i : Nat} {l : List Js.J}, (∀ k x, l[k]? = some x → ∃ g o vs, A = some ⟨g, o, none⟩ ∧ S g ∧ g < w.heap.size ∧ (∀ j u, vs[j]? = some u → w.cell? ⟨g, o + (i + k) * 6 + j, none⟩ = some u) ∧ JV w S x vs) → JL w S A i l
 | _, [], _ => by unfold JL; trivial
 | i, y :: t, h => by
  unfold JL
  refine ⟨h 0 y rfl, JL.of fun k x hx => ?_⟩
  have := h (k + 1) x (by simpa using hx)
  rwa [show i + (k + 1) = i + 1 + k by omega] at this
theorem JM.of {w : World} {S : Nat → Prop} {A : Option Addr} : ∀ {i : Nat} {l : List (Js.Bs × Js.J)}, (∀ k nm x, l[k]? = some (nm, x) → ∃ g o vs, A = some ⟨g, o, none⟩ ∧ S g ∧ g < w.heap.size ∧ (∀ j u, (Value.string (str nm) :: vs)[j]? = some u → w.cell? ⟨g, o + (i + k) * 7 + j, none⟩ = some u) ∧ JV w S x vs) → JM w S A i l
 | _, [], _ => by unfold JM; trivial
 | i, (nm, y) :: t, h => by
  unfold JM
  refine ⟨h 0 nm y rfl, JM.of fun k nm x hx => ?_⟩
  have := h (k + 1) nm x (by simpa using hx)
  rwa [show i + (k + 1) = i + 1 + k by omega] at this
end Go.Proofs.YtimioelnnhnbiaaGreatDoor
namespace Go.Proofs.YtimioelnnhnbiaaGreatDoor
structure Fine (s : Js.Bs) (st : Js.St) : Prop where
 at_ : st.at_ ≤ s.length
 deep : st.deep ≤ st.at_
 nodes : st.nodes ≤ st.at_
 bytes : st.bytes ≤ st.at_
structure Near (s : Js.Bs) (st : Js.St) : Prop where
 at_ : st.at_ ≤ s.length
 deep : st.deep ≤ st.at_ + 1
 nodes : st.nodes ≤ st.at_ + 1
 bytes : st.bytes ≤ st.at_
theorem bind_ok {α β : Type} {r : Js.Res α} {f : α → Js.St → Js.Res β} {y : β} {st' : Js.St} (h : r.bind f = .ok y st') : ∃ a st, r = .ok a st ∧ f a st = .ok y st' := by
 cases r with
 | ok a st => exact ⟨a, st, rfl, h⟩
 | bad k => cases h
 | out => cases h
theorem blanks_at (s : Js.Bs) (st : Js.St) : ∃ k, Js.blanks s st = { st with at_ := st.at_ + k } := ⟨_, rfl⟩
theorem textGo_at (s : Js.Bs) : ∀ (n : Nat) (acc : Js.Bs) (st : Js.St) (t : Js.Bs) (st' : Js.St), Js.textGo s n acc st = .ok t st' → st.at_ ≤ s.length →
  ∃ p, st' = { st with at_ := p } ∧ p ≤ s.length ∧ t.length + st.at_ + 1 ≤ acc.length + p
 | 0, _, _, _, _, h, _ => by cases h
 | n + 1, acc, st, t, st', h, hat => by
  cases hx : s[st.at_]? with
  | none => rw [textGo_end hx] at h; cases h
  | some c =>
   have hlt := (List.getElem?_eq_some_iff.1 hx).1
   by_cases h1 : c = 34
   ·subst h1
    rw [textGo_quote hx] at h
    injection h with h2 h3
    subst h2 h3
    exact ⟨st.at_ + 1, rfl, hlt, by omega⟩
   ·by_cases h2 : c.toNat < 32 ∨ 126 < c.toNat
    ·rw [textGo_ctl hx h1 h2] at h; cases h
    ·by_cases h3 : c = 92
     ·subst h3
      rw [textGo_esc hx] at h
      obtain ⟨d, st2, hp, hg⟩ := bind_ok h
      rcases pair_inv s (Js.step st) with ⟨c', p, hp', ha, hb⟩ | ⟨k, hp'⟩
      ·rw [hp] at hp'
       injection hp' with e1 e2
       subst e2
       obtain ⟨p', q1, q2, q3⟩ := textGo_at s n _ _ t st' hg hb
       refine ⟨p', q1, q2, ?_⟩
       have ha : st.at_ + 1 + 1 ≤ p := ha
       simp only [List.length_append, List.length_singleton] at q3
       omega
      ·rw [hp] at hp'; cases hp'
     ·rw [textGo_one hx h1 h2 h3] at h
      obtain ⟨p', q1, q2, q3⟩ := textGo_at s n _ _ t st' h hlt
      refine ⟨p', q1, q2, ?_⟩
      simp only [List.length_append, List.length_singleton] at q3
      have : (Js.step st).at_ = st.at_ + 1 := rfl
      omega
theorem text_at {s : Js.Bs} {st st' : Js.St} {t : Js.Bs} (h : Js.text s st = .ok t st') : st'.at_ ≤ s.length ∧ t.length + st.at_ + 2 ≤ st'.at_ ∧ st'.deep = st.deep ∧ st'.nodes = st.nodes ∧ st'.bytes = st.bytes + t.length := by
 unfold Js.text at h
 obtain ⟨_, st1, h1, h2⟩ := bind_ok h
 obtain ⟨t2, st2, h3, h4⟩ := bind_ok h2
 rcases take_inv s 34 st with ht | ht
 ·rw [ht] at h1
  injection h1 with _ h1
  subst h1
  obtain ⟨p, rfl, q2, q3⟩ := textGo_at s _ _ _ _ _ h3 (take_le ht)
  injection h4 with e1 e2
  subst e1 e2
  refine ⟨q2, ?_, rfl, rfl, rfl⟩
  have : (Js.step st).at_ = st.at_ + 1 := rfl
  simp only [List.length_nil] at q3
  show _ ≤ p
  omega
 ·rw [ht] at h1; cases h1
theorem digs_le (s : Js.Bs) (k : Nat) : ((s.drop k).takeWhile Js.isDig).length ≤ s.length - k := by
 have := (List.takeWhile_prefix (p := Js.isDig) (l := s.drop k)).length_le
 rwa [List.length_drop] at this
theorem peek_some {s : Js.Bs} {st : Js.St} {c : UInt8} (h : Js.peek s st = c) (hc : c ≠ 0) (hat : st.at_ ≤ s.length) : s[st.at_]? = some c := by
 rcases peek_cases s st hat with ⟨_, h1⟩ | ⟨_, _, h1⟩
 ·rw [h1, h]
 ·rw [h1] at h; exact absurd h.symm hc
theorem numRest_at {s : Js.Bs} {st st' : Js.St} {q : Bool} {n : Int} (h : numRest s q st = .ok n st') (hat : st.at_ ≤ s.length) : st'.at_ ≤ s.length ∧ st.at_ < st'.at_ ∧ st'.deep = st.deep ∧ st'.nodes = st.nodes ∧ st'.bytes = st.bytes := by
 unfold numRest at h
 split at h
 ·cases h
 ·rename_i hd
  have hd : Js.isDig (Js.peek s st) = true := by simpa using hd
  have hne : Js.peek s st ≠ 0 := by intro e; rw [e] at hd; exact absurd hd (by decide)
  have hx := peek_some rfl hne hat
  have hlt := (List.getElem?_eq_some_iff.1 hx).1
  split at h
  ·injection h with _ h
   subst h
   exact ⟨hlt, Nat.lt_succ_self _, rfl, rfl, rfl⟩
  ·have hl : 0 < (digsAt s st).length := by rw [digsAt_cons hx hd]; simp
   have hl2 := digs_le s st.at_
   simp only at h
   split at h
   ·injection h with _ h
    subst h
    refine ⟨?_, ?_, rfl, rfl, rfl⟩
    ·show st.at_ + (digsAt s st).length ≤ _; unfold digsAt at hl ⊢; omega
    ·show st.at_ < st.at_ + (digsAt s st).length; omega
   ·injection h with _ h
    subst h
    refine ⟨?_, ?_, rfl, rfl, rfl⟩
    ·show st.at_ + (digsAt s st).length ≤ _; unfold digsAt at hl ⊢; omega
    ·show st.at_ < st.at_ + (digsAt s st).length; omega
theorem number_at {s : Js.Bs} {st st' : Js.St} {n : Int} (h : Js.number s st = .ok n st') (hat : st.at_ ≤ s.length) : st'.at_ ≤ s.length ∧ st.at_ < st'.at_ ∧ st'.deep = st.deep ∧ st'.nodes = st.nodes ∧ st'.bytes = st.bytes := by
 rw [number_eq] at h
 split at h
 ·rename_i h45
  obtain ⟨h1, h2, h3⟩ := numRest_at h (take45 hat h45)
  have : (Js.step st).at_ = st.at_ + 1 := rfl
  exact ⟨h1, by omega, h3⟩
 ·exact numRest_at h hat
theorem word_ok {s l : Js.Bs} {st st' : Js.St} {u : Unit} (h : Js.word s l st = .ok u st') (hat : st.at_ ≤ s.length) : st' = { st with at_ := st.at_ + l.length } ∧ st'.at_ ≤ s.length := by
 refine ⟨word_at s l st st' h, ?_⟩
 rcases word_inv s l st with ⟨st2, h2, h3⟩ | ⟨k, h2⟩
 ·rw [h] at h2
  injection h2 with _ e
  rw [e]; exact h3 hat
 ·rw [h] at h2; cases h2
theorem take_ok {s : Js.Bs} {c : UInt8} {st st' : Js.St} {u : Unit} (h : Js.take s c st = .ok u st') : st' = Js.step st ∧ st'.at_ ≤ s.length := by
 have hl := take_le h
 rcases take_inv s c st with ht | ht
 ·rw [ht] at h; injection h with _ e; subst e; exact ⟨rfl, hl⟩
 ·rw [ht] at h; cases h
structure Steps (s : Js.Bs) (n : Nat) : Prop where
 value : ∀ st x st', Js.value s n st = .ok x st' → Fine s st → Fine s st' ∧ st'.deep = st.deep ∧ st.at_ < st'.at_
 inner : ∀ st x st', Js.inner s n st = .ok x st' → Near s st → st'.at_ ≤ s.length ∧ st'.deep = st.deep ∧ st'.nodes ≤ st'.at_ ∧ st'.bytes ≤ st'.at_ ∧ st.at_ < st'.at_
 items : ∀ acc st l st', Js.items s n acc st = .ok l st' → Fine s st → Fine s st' ∧ st'.deep = st.deep ∧ st.at_ < st'.at_ ∧ l.length + st.at_ ≤ acc.length + st'.at_
 members : ∀ acc st l st', Js.members s n acc st = .ok l st' → Fine s st → Fine s st' ∧ st'.deep = st.deep ∧ st.at_ < st'.at_ ∧ l.length + st.at_ ≤ acc.length + st'.at_
theorem Fine.blanks {s : Js.Bs} {st : Js.St} (h : Fine s st) : Fine s (Js.blanks s st) ∧ (Js.blanks s st).deep = st.deep ∧ st.at_ ≤ (Js.blanks s st).at_ := by
 have hl := blanks_le h.at_
 obtain ⟨k, e⟩ := blanks_at s st
 rw [e] at hl ⊢
 obtain ⟨h1, h2, h3, h4⟩ := h
 refine ⟨⟨hl, ?_, ?_, ?_⟩, rfl, Nat.le_add_right _ _⟩
 ·show st.deep ≤ st.at_ + k; omega
 ·show st.nodes ≤ st.at_ + k; omega
 ·show st.bytes ≤ st.at_ + k; omega
theorem steps (s : Js.Bs) : ∀ n, Steps s n
 | 0 => ⟨(fun _ _ _ h => by cases h), (fun _ _ _ h => by cases h), (fun _ _ _ _ h => by cases h), (fun _ _ _ _ h => by cases h)⟩
 | n + 1 => by
  have ih := steps s n
  refine ⟨?_, ?_, ?_, ?_⟩
  ·intro st x st' h hF
   unfold Js.value at h
   obtain ⟨x1, st1, h1, h2⟩ := bind_ok h
   injection h2 with e1 e2
   subst e1 e2
   obtain ⟨⟨b1, b2, b3, b4⟩, b5, b6⟩ := hF.blanks
   obtain ⟨a1, a2, a3, a4, a5⟩ := ih.inner _ _ _ h1 ⟨b1, (by show (Js.blanks s st).deep + 1 ≤ (Js.blanks s st).at_ + 1; omega), (by show (Js.blanks s st).nodes + 1 ≤ (Js.blanks s st).at_ + 1; omega), b4⟩
   have a2 : st1.deep = (Js.blanks s st).deep + 1 := a2
   have a5 : (Js.blanks s st).at_ < st1.at_ := a5
   have hF2 : Fine s { st1 with deep := st1.deep - 1 } := ⟨a1, by show st1.deep - 1 ≤ st1.at_; omega, a3, a4⟩
   obtain ⟨c1, c2, c3⟩ := hF2.blanks
   refine ⟨c1, ?_, ?_⟩
   ·rw [c2]; show st1.deep - 1 = _; omega
   ·have c3 : st1.at_ ≤ _ := c3
    omega
  ·intro st x st' h hN
   obtain ⟨n1, n2, n3, n4⟩ := hN
   unfold Js.inner at h
   simp only at h
   split at h
   ·obtain ⟨_, st1, h1, h2⟩ := bind_ok h
    injection h2 with _ e2; subst e2
    obtain ⟨rfl, h3⟩ := word_ok h1 n1
    exact ⟨h3, rfl, by show st.nodes ≤ st.at_ + 4; omega, by show st.bytes ≤ st.at_ + 4; omega, by show st.at_ < st.at_ + 4; omega⟩
   split at h
   ·obtain ⟨_, st1, h1, h2⟩ := bind_ok h
    injection h2 with _ e2; subst e2
    obtain ⟨rfl, h3⟩ := word_ok h1 n1
    exact ⟨h3, rfl, by show st.nodes ≤ st.at_ + 4; omega, by show st.bytes ≤ st.at_ + 4; omega, by show st.at_ < st.at_ + 4; omega⟩
   split at h
   ·obtain ⟨_, st1, h1, h2⟩ := bind_ok h
    injection h2 with _ e2; subst e2
    obtain ⟨rfl, h3⟩ := word_ok h1 n1
    exact ⟨h3, rfl, by show st.nodes ≤ st.at_ + 5; omega, by show st.bytes ≤ st.at_ + 5; omega, by show st.at_ < st.at_ + 5; omega⟩
   split at h
   ·obtain ⟨t, st1, h1, h2⟩ := bind_ok h
    injection h2 with _ e2; subst e2
    obtain ⟨h3, h4, h5, h6, h7⟩ := text_at h1
    exact ⟨h3, h5, by omega, by omega, by omega⟩
   split at h
   ·obtain ⟨t, st1, h1, h2⟩ := bind_ok h
    injection h2 with _ e2; subst e2
    obtain ⟨h3, h4, h5, h6, h7⟩ := number_at h1 n1
    exact ⟨h3, h5, by omega, by omega, by omega⟩
   split at h
   ·rename_i h91
    have hlt := (List.getElem?_eq_some_iff.1 (peek_some h91 (by decide) n1)).1
    have hF : Fine s (Js.step st) := ⟨hlt, n2, n3, by show st.bytes ≤ st.at_ + 1; omega⟩
    obtain ⟨b1, b2, b3⟩ := hF.blanks
    have b3 : st.at_ + 1 ≤ _ := b3
    have b2 : _ = st.deep := b2
    split at h
    ·rename_i h93
     have hlt2 := (List.getElem?_eq_some_iff.1 (peek_some h93 (by decide) b1.at_)).1
     injection h with _ e2; subst e2
     obtain ⟨c1, c2, c3, c4⟩ := b1
     refine ⟨hlt2, b2, ?_, ?_, ?_⟩
     ·show (Js.blanks s (Js.step st)).nodes ≤ (Js.blanks s (Js.step st)).at_ + 1; omega
     ·show (Js.blanks s (Js.step st)).bytes ≤ (Js.blanks s (Js.step st)).at_ + 1; omega
     ·show st.at_ < (Js.blanks s (Js.step st)).at_ + 1; omega
    ·obtain ⟨l, st1, h1, h2⟩ := bind_ok h
     injection h2 with _ e2; subst e2
     obtain ⟨⟨c1, c2, c3, c4⟩, c5, c6, _⟩ := ih.items _ _ _ _ h1 b1
     exact ⟨c1, by rw [c5, b2], c3, c4, by omega⟩
   split at h
   ·rename_i h123
    have hlt := (List.getElem?_eq_some_iff.1 (peek_some h123 (by decide) n1)).1
    have hF : Fine s (Js.step st) := ⟨hlt, n2, n3, by show st.bytes ≤ st.at_ + 1; omega⟩
    obtain ⟨b1, b2, b3⟩ := hF.blanks
    have b3 : st.at_ + 1 ≤ _ := b3
    have b2 : _ = st.deep := b2
    split at h
    ·rename_i h125
     have hlt2 := (List.getElem?_eq_some_iff.1 (peek_some h125 (by decide) b1.at_)).1
     injection h with _ e2; subst e2
     obtain ⟨c1, c2, c3, c4⟩ := b1
     refine ⟨hlt2, b2, ?_, ?_, ?_⟩
     ·show (Js.blanks s (Js.step st)).nodes ≤ (Js.blanks s (Js.step st)).at_ + 1; omega
     ·show (Js.blanks s (Js.step st)).bytes ≤ (Js.blanks s (Js.step st)).at_ + 1; omega
     ·show st.at_ < (Js.blanks s (Js.step st)).at_ + 1; omega
    ·obtain ⟨l, st1, h1, h2⟩ := bind_ok h
     injection h2 with _ e2; subst e2
     obtain ⟨⟨c1, c2, c3, c4⟩, c5, c6, _⟩ := ih.members _ _ _ _ h1 b1
     exact ⟨c1, by rw [c5, b2], c3, c4, by omega⟩
   ·cases h
  ·intro acc st l st' h hF
   unfold Js.items at h
   obtain ⟨x, st1, h1, h2⟩ := bind_ok h
   obtain ⟨f1, f2, f3⟩ := ih.value _ _ _ h1 hF
   split at h2
   ·rename_i h93
    have hlt2 := (List.getElem?_eq_some_iff.1 (peek_some h93 (by decide) f1.at_)).1
    injection h2 with e1 e2; subst e1 e2
    obtain ⟨c1, c2, c3, c4⟩ := f1
    refine ⟨⟨hlt2, ?_, ?_, ?_⟩, f2, ?_, ?_⟩
    ·show st1.deep ≤ st1.at_ + 1; omega
    ·show st1.nodes ≤ st1.at_ + 1; omega
    ·show st1.bytes ≤ st1.at_ + 1; omega
    ·show st.at_ < st1.at_ + 1; omega
    ·simp only [List.length_append, List.length_singleton]; show _ ≤ _ + (st1.at_ + 1); omega
   ·obtain ⟨_, st2, h3, h4⟩ := bind_ok h2
    obtain ⟨rfl, h5⟩ := take_ok h3
    obtain ⟨c1, c2, c3, c4⟩ := f1
    have hF2 : Fine s (Js.step st1) := ⟨h5, by show st1.deep ≤ st1.at_ + 1; omega, by show st1.nodes ≤ st1.at_ + 1; omega, by show st1.bytes ≤ st1.at_ + 1; omega⟩
    obtain ⟨g1, g2, g3, g4⟩ := ih.items _ _ _ _ h4 hF2
    have g3 : st1.at_ + 1 < _ := g3
    have g4 : _ + (st1.at_ + 1) ≤ _ := g4
    have g2 : _ = st1.deep := g2
    simp only [List.length_append, List.length_singleton] at g4
    exact ⟨g1, by rw [g2, f2], by omega, by omega⟩
  ·intro acc st l st' h hF
   unfold Js.members at h
   obtain ⟨nm, st1, h1, h2⟩ := bind_ok h
   obtain ⟨_, st2, h3, h4⟩ := bind_ok h2
   obtain ⟨x, st3, h5, h6⟩ := bind_ok h4
   obtain ⟨b1, b2, b3⟩ := hF.blanks
   obtain ⟨t1, t2, t3, t4, t5⟩ := text_at h1
   have hF1 : Fine s st1 := by
    obtain ⟨c1, c2, c3, c4⟩ := b1
    exact ⟨t1, by omega, by omega, by omega⟩
   obtain ⟨d1, d2, d3⟩ := hF1.blanks
   obtain ⟨rfl, k1⟩ := take_ok h3
   have hF2 : Fine s { Js.step (Js.blanks s st1) with large := (Js.step (Js.blanks s st1)).large || acc.any fun m => decide (m.1 = nm) } := by
    obtain ⟨c1, c2, c3, c4⟩ := d1
    exact ⟨k1, by show (Js.blanks s st1).deep ≤ (Js.blanks s st1).at_ + 1; omega, by show (Js.blanks s st1).nodes ≤ (Js.blanks s st1).at_ + 1; omega, by show (Js.blanks s st1).bytes ≤ (Js.blanks s st1).at_ + 1; omega⟩
   obtain ⟨f1, f2, f3⟩ := ih.value _ _ _ h5 hF2
   have f2 : st3.deep = (Js.blanks s st1).deep := f2
   have f3 : (Js.blanks s st1).at_ + 1 < st3.at_ := f3
   have hl : (if st3.large = true then acc else acc ++ [(nm, x)]).length ≤ acc.length + 1 := by split <;> simp
   have h6 : (if Js.peek s st3 = 125 then Js.Res.ok (if st3.large = true then acc else acc ++ [(nm, x)]) (Js.step st3) else (Js.take s 44 st3).bind fun _ st => Js.members s n (if st3.large = true then acc else acc ++ [(nm, x)]) st) = .ok l st' := h6
   generalize (if st3.large = true then acc else acc ++ [(nm, x)]) = acc2 at h6 hl
   split at h6
   ·rename_i h125
    have hlt2 := (List.getElem?_eq_some_iff.1 (peek_some h125 (by decide) f1.at_)).1
    injection h6 with e1 e2; subst e1 e2
    obtain ⟨c1, c2, c3, c4⟩ := f1
    refine ⟨⟨hlt2, ?_, ?_, ?_⟩, ?_, ?_, ?_⟩
    ·show st3.deep ≤ st3.at_ + 1; omega
    ·show st3.nodes ≤ st3.at_ + 1; omega
    ·show st3.bytes ≤ st3.at_ + 1; omega
    ·show st3.deep = _; omega
    ·show st.at_ < st3.at_ + 1; omega
    ·show _ ≤ _ + (st3.at_ + 1); omega
   ·obtain ⟨_, st4, h7, h8⟩ := bind_ok h6
    obtain ⟨rfl, h9⟩ := take_ok h7
    obtain ⟨c1, c2, c3, c4⟩ := f1
    have hF3 : Fine s (Js.step st3) := ⟨h9, by show st3.deep ≤ st3.at_ + 1; omega, by show st3.nodes ≤ st3.at_ + 1; omega, by show st3.bytes ≤ st3.at_ + 1; omega⟩
    obtain ⟨g1, g2, g3, g4⟩ := ih.members _ _ _ _ h8 hF3
    have g3 : st3.at_ + 1 < _ := g3
    have g4 : _ + (st3.at_ + 1) ≤ _ := g4
    have g2 : _ = st3.deep := g2
    exact ⟨g1, by omega, by omega, by omega⟩
end Go.Proofs.YtimioelnnhnbiaaGreatDoor
