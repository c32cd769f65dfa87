/-
  PROVED: what the laws over rows lean on: a row of the call's own whose bytes are turned; a value kept when another box is stored into; a goal that many orders share.
-/
import Derived.Test.YtoadahommlcjpaaGreatDoorHead
import Derived.Test.YtoadahommlcjpaaGreatDoorRspCut
import Derived.Test.YtoadahommlcjpaaGreatDoorSame
import Derived.Test.YtoadahommlcjpaaGreatDoorRow3
namespace Go.Proofs.YtoadahommlcjpaaGreatDoor
open Go.RowKit
/-- What a row's parts lie in is not the block P. -/
def RowOff (P : Nat) (hs : List Ht.Hd) (bd : Ht.Bs) (A B : Option Addr) : Prop := (hs ≠ [] → ∀ b o, A = some ⟨b, o, none⟩ → b ≠ P) ∧ (bd ≠ [] → ∀ b o, B = some ⟨b, o, none⟩ → b ≠ P)
theorem byteCells_ne {l : Ht.Bs} (h : l ≠ []) : Lib.byteCells l ≠ [] := by
  intro h0; exact h (by unfold Lib.byteCells at h0; exact List.map_eq_nil_iff.1 h0)
theorem RowOff.lt {w : World} {hs : List Ht.Hd} {bd : Ht.Bs} {A B : Option Addr} {P : Nat} (h1 : HdsAt w A hs) (h2 : CellsAt w B (Lib.byteCells bd)) (hP : w.heap.size ≤ P) : RowOff P hs bd A B :=
  ⟨fun hne b o e => by obtain ⟨b', o', e', hl, _⟩ := h1 hne; rw [e] at e'; cases e'; omega, fun hne b o e => by obtain ⟨b', o', e', hl, _⟩ := h2 (byteCells_ne hne); rw [e] at e'; cases e'; omega⟩
theorem RowOff.fresh {n : Nat} {hs : List Ht.Hd} {bd : Ht.Bs} {A B : Option Addr} {P : Nat} (h1 : NewAt n A) (h2 : NewAt n B) (hP : P < n) : RowOff P hs bd A B :=
  ⟨fun _ b o e => by have := h1 b o e; omega, fun _ b o e => by have := h2 b o e; omega⟩
theorem HdsAt.put {w w' : World} {P : Nat} {A : Option Addr} {l : List Ht.Hd} (h : HdsAt w A l) (hk : But [P] w w') (ho : l ≠ [] → ∀ b o, A = some ⟨b, o, none⟩ → b ≠ P) : HdsAt w' A l := fun hne =>
  h.but hk (fun b o e hm => ho hne b o e (by simpa using hm)) hne
theorem CellsAt.put {w w' : World} {P : Nat} {A : Option Addr} {l : Ht.Bs} (h : CellsAt w A (Lib.byteCells l)) (hk : But [P] w w') (ho : l ≠ [] → ∀ b o, A = some ⟨b, o, none⟩ → b ≠ P) : CellsAt w' A (Lib.byteCells l) := fun hne =>
  h.but hk (fun b o e hm => ho (fun h0 => hne (by rw [h0]; rfl)) b o e (by simpa using hm)) hne
theorem ReqAt.put {w w' : World} {P : Nat} {r : Ht.Req} {A B : Option Addr} (h : ReqAt w r A B) (hk : But [P] w w') (ho : RowOff P r.heads r.body A B) : ReqAt w' r A B :=
  ⟨h.heads.put hk ho.1, h.body.put hk ho.2, h.hl, h.hL, h.bl, h.ml, h.tl, h.fl⟩
theorem RspAt.put {w w' : World} {P : Nat} {r : Ht.Rsp} {A B : Option Addr} (h : RspAt w r A B) (hk : But [P] w w') (ho : RowOff P r.heads r.body A B) : RspAt w' r A B :=
  ⟨h.heads.put hk ho.1, h.body.put hk ho.2, h.hl, h.hL, h.bl, h.s0, h.s1, h.fl⟩
theorem ReqIn.up {w w' : World} {r : Ht.Req} {A B : Option Addr} (h : ReqIn w r A B) (hb : Below w.heap.size w w') : ReqIn w' r A B :=
  ⟨h.heads.next hb (Nat.le_refl _), h.body.next hb (Nat.le_refl _), h.hl, h.hF, h.ml, h.tl⟩
theorem RspIn.up {w w' : World} {r : Ht.Rsp} {A B : Option Addr} (h : RspIn w r A B) (hb : Below w.heap.size w w') : RspIn w' r A B :=
  ⟨h.heads.next hb (Nat.le_refl _), h.body.next hb (Nat.le_refl _), h.hl, h.hF, h.s0, h.s1⟩
theorem head_len (f : Ht.Bs) (hs : List Ht.Hd) (n : Nat) (hf : f.length ≤ 1073741826) (hT : (hs.flatMap Ht.hdLine).length ≤ 1099511627776) (hn : n ≤ 9223372036854775807) : (Ht.headOf f hs n).length ≤ 9223372036854775000 := by
  have := Lib.itoa_length_le (n : Int) (by omega) (by omega)
  unfold Ht.headOf Ht.lenW
  simp only [List.length_append, List.length_cons, List.length_nil]
  omega
theorem rq_len {w : World} {r : Ht.Req} {A B : Option Addr} (h : ReqAt w r A B) : (Ht.headOf (Ht.firstReq r) r.heads r.body.length).length ≤ 9223372036854775000 := by
  have h1 := h.ml
  have h2 := h.tl
  have h3 := h.bl
  exact head_len _ _ _ (by unfold Ht.firstReq Ht.verW; simp only [List.length_append, List.length_cons, List.length_nil]; omega) h.fl (by omega)
theorem rp_len {w : World} {r : Ht.Rsp} {A B : Option Addr} (h : RspAt w r A B) : (Ht.headOf (Ht.firstRsp r) r.heads r.body.length).length ≤ 9223372036854775000 := by
  have h1 := Lib.itoa_length_le r.status h.s0 h.s1
  have h2 := reason_len r.status
  have h3 := h.bl
  exact head_len _ _ _ (by unfold Ht.firstRsp Ht.verW; simp only [List.length_append, List.length_cons, List.length_nil]; omega) h.fl (by omega)
/-- A row of bytes of the call's own, in a block from B on: its cells may be turned. -/
def SRow (B : Nat) (A : Option Addr) (n : Nat) (w : World) : Prop :=
  n ≠ 0 → ∃ g cs, A = some ⟨g, 0, none⟩ ∧ B ≤ g ∧ w.heap[g]? = some (.cells cs 5 (0, 0)) ∧ ∀ j, j < n → ∃ z : Int, cs[j]? = some (.int .u8 z)
theorem SRow.next {B n : Nat} {A : Option Addr} {w w' : World} (h : SRow B A n w) (hb : Below w.heap.size w w') : SRow B A n w' := fun hn => by
  obtain ⟨g, cs, h1, h2, h3, h4⟩ := h hn
  exact ⟨g, cs, h1, h2, blk_next hb h3, h4⟩
theorem SRow.set {B n g j : Nat} {w : World} {cs : Array Value} (z : Int) (h2 : B ≤ g) (h3 : w.heap[g]? = some (.cells cs 5 (0, 0))) (h4 : ∀ j, j < n → ∃ z : Int, cs[j]? = some (.int .u8 z)) :
    SRow B (some ⟨g, 0, none⟩) n (w.setCell ⟨g, j, none⟩ (.int .u8 z)) ∧ But [g] w (w.setCell ⟨g, j, none⟩ (.int .u8 z)) := by
  obtain ⟨hk, hs⟩ := but_set (i := j) (.int .u8 z) h3
  refine ⟨fun _ => ⟨g, _, rfl, h2, hs, fun i hi => ?_⟩, hk⟩
  obtain ⟨y, hy⟩ := h4 i hi
  by_cases he : i = j
  · subst he
    have := (Array.getElem?_eq_some_iff.1 hy).1
    exact ⟨z, by rw [Array.getElem?_setIfInBounds_self]; simp [this]⟩
  · exact ⟨y, by rw [Array.getElem?_setIfInBounds_ne (fun e => he e.symm)]; exact hy⟩
theorem Own.srow {B : Nat} {v : Value} {l : Ht.Bs} {w : World} (h : Own 5 1 B v l.length (Lib.byteCells l) w) :
    ∃ A c, v = .slice A l.length c ∧ l.length ≤ c ∧ CellsAt w A (Lib.byteCells l) ∧ SRow B A l.length w := by
  obtain ⟨A, c, rfl, h1, h2, h3⟩ := h.bytes
  refine ⟨A, c, rfl, h1, h3, fun hn => ?_⟩
  rcases h.own.2 with ⟨he, h0⟩ | ⟨g, cap, cur, he, hb, hg, hcap, hmax, rest⟩
  · exact absurd h0 hn
  · obtain ⟨rfl, -, -⟩ : A = some ⟨g, 0, none⟩ ∧ True ∧ True := by
      injection he with h5 h6 h7
      exact ⟨h5, trivial, trivial⟩
    refine ⟨g, _, rfl, hb, hg, fun j hj => ?_⟩
    have h9 : (cur.toList.take (l.length * 1))[j]? = (Lib.byteCells l)[j]? := by rw [rest.2]
    rw [List.getElem?_take, if_pos (by omega), Array.getElem?_toList] at h9
    rw [h9]
    unfold Lib.byteCells
    rw [List.getElem?_map, List.getElem?_eq_getElem hj]
    exact ⟨_, rfl⟩
theorem shared {F G : World → Nat → Nat → Option Addr → Nat → Option Addr → Nat → Option Addr → Nat → Option Addr → Nat → Prop} {goal : Prop}
    (tree : (∀ W P Q a b c d e f g h, F W P Q a b c d e f g h → G W P Q a b c d e f g h) → goal) (key : ∀ W P Q a b c d e f g h, F W P Q a b c d e f g h → G W P Q a b c d e f g h) : goal := tree key
end Go.Proofs.YtoadahommlcjpaaGreatDoor
