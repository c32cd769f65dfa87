/-
  THE WALKS' GROUND: values of package api's Json in memory: their cells, their rows; what keeps them. CONDITIONS: as each says.
-/
import Derived.Test.YtimioelnnhnbiaaDoorWF
namespace Go.Proofs.YtimioelnnhnbiaaDoor
open Go.RowKit
mutual
/-- A value lies in memory: its six cells; its rows lie in blocks of S. -/
def JV (w : World) (S : Nat → Prop) : Js.J → List Value → Prop
  | .mk k b n t l m, vs => ∃ A c A' c', vs = [.int .i64 k, .bool b, .int .i64 n, .string (str t), .slice A l.length c, .slice A' m.length c'] ∧ l.length ≤ c ∧ m.length ≤ c' ∧ JL w S A 0 l ∧ JM w S A' 0 m
def JL (w : World) (S : Nat → Prop) (A : Option Addr) : Nat → List Js.J → Prop
  | _, [] => True
  | i, x :: t => (∃ g o vs, A = some ⟨g, o, none⟩ ∧ S g ∧ g < w.heap.size ∧ (∀ j u, vs[j]? = some u → w.cell? ⟨g, o + i * 6 + j, none⟩ = some u) ∧ JV w S x vs) ∧ JL w S A (i + 1) t
def JM (w : World) (S : Nat → Prop) (A : Option Addr) : Nat → List (Js.Bs × Js.J) → Prop
  | _, [] => True
  | i, (nm, x) :: t => (∃ g o vs, A = some ⟨g, o, none⟩ ∧ S g ∧ g < w.heap.size ∧ (∀ j u, (Value.string (str nm) :: vs)[j]? = some u → w.cell? ⟨g, o + i * 7 + j, none⟩ = some u) ∧ JV w S x vs) ∧ JM w S A (i + 1) t
end
mutual
theorem JV.keep {w w' : World} {S T : Nat → Prop} (hsz : w.heap.size ≤ w'.heap.size) (hST : ∀ g, S g → g < w.heap.size → T g) (hk : ∀ g, S g → g < w.heap.size → w'.heap[g]? = w.heap[g]?) : ∀ (x : Js.J) (vs : List Value), JV w S x vs → JV w' T x vs
  | .mk k b n t l m, vs, h => by
    unfold JV at h ⊢
    obtain ⟨A, c, A', c', h1, h2, h3, h4, h5⟩ := h
    exact ⟨A, c, A', c', h1, h2, h3, JL.keep hsz hST hk A 0 l h4, JM.keep hsz hST hk A' 0 m h5⟩
theorem JL.keep {w w' : World} {S T : Nat → Prop} (hsz : w.heap.size ≤ w'.heap.size) (hST : ∀ g, S g → g < w.heap.size → T g) (hk : ∀ g, S g → g < w.heap.size → w'.heap[g]? = w.heap[g]?) (A : Option Addr) : ∀ (i : Nat) (l : List Js.J), JL w S A i l → JL w' T A i l
  | _, [], _ => by unfold JL; trivial
  | i, x :: t, h => by
    unfold JL at h ⊢
    obtain ⟨⟨g, o, vs, h1, h2, h3, h4, h5⟩, h6⟩ := h
    exact ⟨⟨g, o, vs, h1, hST g h2 h3, Nat.lt_of_lt_of_le h3 hsz, fun j u hj => (World.cell?_of_block (a := ⟨g, o + i * 6 + j, none⟩) (hk g h2 h3)).trans (h4 j u hj), JV.keep hsz hST hk x vs h5⟩, JL.keep hsz hST hk A (i + 1) t h6⟩
theorem JM.keep {w w' : World} {S T : Nat → Prop} (hsz : w.heap.size ≤ w'.heap.size) (hST : ∀ g, S g → g < w.heap.size → T g) (hk : ∀ g, S g → g < w.heap.size → w'.heap[g]? = w.heap[g]?) (A : Option Addr) : ∀ (i : Nat) (l : List (Js.Bs × Js.J)), JM w S A i l → JM w' T A i l
  | _, [], _ => by unfold JM; trivial
  | i, (nm, x) :: t, h => by
    unfold JM at h ⊢
    obtain ⟨⟨g, o, vs, h1, h2, h3, h4, h5⟩, h6⟩ := h
    exact ⟨⟨g, o, vs, h1, hST g h2 h3, Nat.lt_of_lt_of_le h3 hsz, fun j u hj => (World.cell?_of_block (a := ⟨g, o + i * 7 + j, none⟩) (hk g h2 h3)).trans (h4 j u hj), JV.keep hsz hST hk x vs h5⟩, JM.keep hsz hST hk A (i + 1) t h6⟩
end
theorem JV.next {w w' : World} {S : Nat → Prop} {x : Js.J} {vs : List Value} (h : JV w S x vs) (hb : Below w.heap.size w w') : JV w' S x vs :=
  JV.keep hb.size (fun _ h _ => h) (fun g _ hg => hb.block g hg) x vs h
theorem JV.but {L : List Nat} {w w' : World} {S : Nat → Prop} {x : Js.J} {vs : List Value} (h : JV w S x vs) (hb : But L w w') (hL : ∀ j ∈ L, ¬ S j) : JV w' S x vs :=
  JV.keep hb.size (fun _ h _ => h) (fun g hS hg => hb.block g hg (fun hm => hL g hm hS)) x vs h
theorem JV.wide {w : World} {S T : Nat → Prop} {x : Js.J} {vs : List Value} (h : JV w S x vs) (hST : ∀ g, S g → g < w.heap.size → T g) : JV w T x vs :=
  JV.keep (Nat.le_refl _) hST (fun _ _ _ => rfl) x vs h
theorem JV.below {w w' : World} {B : Nat} {S : Nat → Prop} {x : Js.J} {vs : List Value} (h : JV w S x vs) (hb : Below B w w') (hS : ∀ g, S g → g < B) (hsz : w.heap.size ≤ w'.heap.size) : JV w' S x vs :=
  JV.keep hsz (fun _ h _ => h) (fun g hg _ => hb.block g (hS g hg)) x vs h
theorem JV.len {w : World} {S : Nat → Prop} {x : Js.J} {vs : List Value} (h : JV w S x vs) : vs.length = 6 := by
  cases x with | mk k b n t l m =>
  unfold JV at h
  obtain ⟨A, c, A', c', rfl, _⟩ := h
  rfl
theorem JV.one {w : World} {S : Nat → Prop} {x : Js.J} {vs : List Value} (h : JV w S x vs) : ∀ v ∈ vs, v.oneCell' = true := by
  cases x with | mk k b n t l m =>
  unfold JV at h
  obtain ⟨A, c, A', c', rfl, _⟩ := h
  intro v hv
  simp at hv
  rcases hv with rfl | rfl | rfl | rfl | rfl | rfl <;> rfl
theorem JL.at_ {w : World} {S : Nat → Prop} {A : Option Addr} : ∀ {i : Nat} {l : List Js.J} {k : Nat} {x : Js.J}, JL w S A i l → l[k]? = some x → ∃ g o vs, A = some ⟨g, o, none⟩ ∧ S g ∧ g < w.heap.size ∧ (∀ j u, vs[j]? = some u → w.cell? ⟨g, o + (i + k) * 6 + j, none⟩ = some u) ∧ JV w S x vs
  | _, [], _, _, _, h => by simp at h
  | i, y :: t, 0, x, h, hx => by
    unfold JL at h
    simp at hx
    subst hx
    exact h.1
  | i, y :: t, k + 1, x, h, hx => by
    unfold JL at h
    have := JL.at_ h.2 (k := k) (by simpa using hx)
    rwa [show i + 1 + k = i + (k + 1) by omega] at this
theorem JM.at_ {w : World} {S : Nat → Prop} {A : Option Addr} : ∀ {i : Nat} {l : List (Js.Bs × Js.J)} {k : Nat} {nm : Js.Bs} {x : Js.J}, JM w S A i l → l[k]? = some (nm, x) → ∃ g o vs, A = some ⟨g, o, none⟩ ∧ S g ∧ g < w.heap.size ∧ (∀ j u, (Value.string (str nm) :: vs)[j]? = some u → w.cell? ⟨g, o + (i + k) * 7 + j, none⟩ = some u) ∧ JV w S x vs
  | _, [], _, _, _, _, h => by simp at h
  | i, (_, y) :: t, 0, nm, x, h, hx => by
    unfold JM at h
    simp at hx
    obtain ⟨rfl, rfl⟩ := hx
    exact h.1
  | i, (_, y) :: t, k + 1, nm, x, h, hx => by
    unfold JM at h
    have := JM.at_ h.2 (k := k) (by simpa using hx)
    rwa [show i + 1 + k = i + (k + 1) by omega] at this
/-- From each element to the row. -/
theorem JL.of {w : World} {S : Nat → Prop} {A : Option Addr} : ∀ {i : Nat} {l : List Js.J}, (∀ k x, l[k]? = some x → ∃ g o vs, A = some ⟨g, o, none⟩ ∧ S g ∧ g < w.heap.size ∧ (∀ j u, vs[j]? = some u → w.cell? ⟨g, o + (i + k) * 6 + j, none⟩ = some u) ∧ JV w S x vs) → JL w S A i l
  | _, [], _ => by unfold JL; trivial
  | i, y :: t, h => by
    unfold JL
    refine ⟨h 0 y rfl, JL.of fun k x hx => ?_⟩
    have := h (k + 1) x (by simpa using hx)
    rwa [show i + (k + 1) = i + 1 + k by omega] at this
theorem JM.of {w : World} {S : Nat → Prop} {A : Option Addr} : ∀ {i : Nat} {l : List (Js.Bs × Js.J)}, (∀ k nm x, l[k]? = some (nm, x) → ∃ g o vs, A = some ⟨g, o, none⟩ ∧ S g ∧ g < w.heap.size ∧ (∀ j u, (Value.string (str nm) :: vs)[j]? = some u → w.cell? ⟨g, o + (i + k) * 7 + j, none⟩ = some u) ∧ JV w S x vs) → JM w S A i l
  | _, [], _ => by unfold JM; trivial
  | i, (nm, y) :: t, h => by
    unfold JM
    refine ⟨h 0 nm y rfl, JM.of fun k nm x hx => ?_⟩
    have := h (k + 1) nm x (by simpa using hx)
    rwa [show i + (k + 1) = i + 1 + k by omega] at this
end Go.Proofs.YtimioelnnhnbiaaDoor
