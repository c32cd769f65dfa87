/-
  THE WALKS, eleventh part: inner of json's reader, the contracts of value handed in; value whole. CONDITIONS: the reader lies in a block of its own; the text is not too long.
-/
import Derived.Test.YtimioelnnhnbiaaDoorWK
namespace Go.Proofs.YtimioelnnhnbiaaDoor
open Go.RowKit
theorem ItAt.start {w0 w : World} {b N : Nat} (hr : w.heap[N]? = some (.cells #[.pointer (some ⟨b, 0, none⟩)] 61 (0, 0)))
    (hz : JBox w (N + 1) (.int .i64 0) (.bool false) (.int .i64 0) (.string ⟨#[]⟩) (.slice none 0 0) (.slice none 0 0))
    (hx : JBox w (N + 2) (.int .i64 5) (.bool false) (.int .i64 0) (.string ⟨#[]⟩) (.slice none 0 0) (.slice none 0 0))
    (hsz : w.heap.size = N + 3) (hb : But [b] w0 w) (hlt : b < N) (hbase : w0.heap.size ≤ N) : ItI w0 b N [] w :=
  ⟨.slice none 0 0, [], ⟨hr, hz, hx, by have := Own.nil 25 6 w; rw [hsz] at this; exact this, rfl, fun k x h => by simp at h, fun vs h => by simp at h, hb, hlt, hbase⟩⟩
theorem MbAt.start {w0 w : World} {b N : Nat} (hr : w.heap[N]? = some (.cells #[.pointer (some ⟨b, 0, none⟩)] 61 (0, 0)))
    (hz : JBox w (N + 1) (.int .i64 0) (.bool false) (.int .i64 0) (.string ⟨#[]⟩) (.slice none 0 0) (.slice none 0 0))
    (hx : JBox w (N + 2) (.int .i64 6) (.bool false) (.int .i64 0) (.string ⟨#[]⟩) (.slice none 0 0) (.slice none 0 0))
    (hsz : w.heap.size = N + 3) (hb : But [b] w0 w) (hlt : b < N) (hbase : w0.heap.size ≤ N) : MbI w0 b N [] w :=
  ⟨.slice none 0 0, [], ⟨hr, hz, hx, by have := Own.nil 43 7 w; rw [hsz] at this; exact this, rfl, fun k nm x h => by simp at h, fun vs h => by simp at h, hb, hlt, hbase⟩⟩
theorem own_cap {e : TypeId} {size B : Nat} {A : Option Addr} {n c : Nat} {xs : List Value} {w : World} (h : Own e size B (.slice A n c) n xs w) : n ≤ c ∧ (0 < n → ∃ g, A = some ⟨g, 0, none⟩ ∧ B ≤ g ∧ g < w.heap.size) := by
  rcases h.own.2 with ⟨hv, h0⟩ | ⟨g, cap, cur, hv, hB, hg, hc, _⟩
  · exact ⟨by omega, fun h => by omega⟩
  · simp at hv
    obtain ⟨rfl, rfl⟩ := hv
    exact ⟨hc, fun _ => ⟨g, rfl, hB, (Array.getElem?_eq_some_iff.1 hg).1⟩⟩
/-- A list that is done is a value. -/
theorem ItAt.value {w0 w : World} {b N : Nat} {acc : List Js.J} {v : Value} {rs : List (List Value)} (h : ItAt w0 b N acc v rs w) :
    JV w (fun g => N + 3 ≤ g) (.mk 5 false 0 [] acc []) [.int .i64 5, .bool false, .int .i64 0, .string ⟨#[]⟩, v, .slice none 0 0] := by
  obtain ⟨A, c, rfl⟩ := own_shape h.own
  obtain ⟨hc, hA⟩ := own_cap h.own
  unfold JV
  refine ⟨A, c, none, 0, rfl, hc, Nat.le_refl _, JL.of fun k x hx => ?_, by unfold JM; trivial⟩
  obtain ⟨vs, h1, h2⟩ := h.each k x hx
  have hk := (List.getElem?_eq_some_iff.1 hx).1
  obtain ⟨g, rfl, hB, hg⟩ := hA (by omega)
  refine ⟨g, 0, vs, rfl, hB, hg, fun j u hj => ?_, h2.wide fun g hg _ => hg.1⟩
  have hj6 : j < 6 := by have := (List.getElem?_eq_some_iff.1 hj).1; rw [h2.len] at this; exact this
  rw [show 0 + (0 + k) * 6 + j = k * 6 + j by omega, h.own.own.cellAt (k * 6 + j) (by omega), flat_get rs h.six k j _ h1 hj6]
  exact hj
theorem MbAt.value {w0 w : World} {b N : Nat} {acc : List (Js.Bs × Js.J)} {v : Value} {rs : List (List Value)} (h : MbAt w0 b N acc v rs w) :
    JV w (fun g => N + 3 ≤ g) (.mk 6 false 0 [] [] acc) [.int .i64 6, .bool false, .int .i64 0, .string ⟨#[]⟩, .slice none 0 0, v] := by
  obtain ⟨A, c, rfl⟩ := own_shape h.own
  obtain ⟨hc, hA⟩ := own_cap h.own
  unfold JV
  refine ⟨none, 0, A, c, rfl, Nat.le_refl _, hc, by unfold JL; trivial, JM.of fun k nm x hx => ?_⟩
  obtain ⟨vs, h1, h2⟩ := h.each k nm x hx
  have hk := (List.getElem?_eq_some_iff.1 hx).1
  obtain ⟨g, rfl, hB, hg⟩ := hA (by omega)
  refine ⟨g, 0, vs, rfl, hB, hg, fun j u hj => ?_, h2.wide fun g hg _ => hg.1⟩
  have hj7 : j < 7 := by have := (List.getElem?_eq_some_iff.1 hj).1; rw [List.length_cons, h2.len] at this; exact this
  rw [show 0 + (0 + k) * 7 + j = k * 7 + j by omega, h.own.own.cellAt (k * 7 + j) (by omega), flat_get rs h.six k j _ h1 hj7]
  exact hj
/-- A value without rows. -/
theorem JV.leaf (w : World) (S : Nat → Prop) (k : Int) (q : Bool) (n : Int) (t : Js.Bs) : JV w S (.mk k q n t [] []) [.int .i64 k, .bool q, .int .i64 n, .string (str t), .slice none 0 0, .slice none 0 0] := by
  unfold JV
  exact ⟨none, 0, none, 0, rfl, Nat.le_refl _, Nat.le_refl _, by unfold JL; trivial, by unfold JM; trivial⟩
theorem inner_list (s : Js.Bs) (n : Nat) (st : Js.St) (h : Js.peek s st = 91) :
    Js.inner s (n + 1) st = (listOf s 93 (Js.items s) n [] (Js.step st)).bind fun l st => .ok (.mk 5 false 0 [] l []) st := by
  unfold Js.inner listOf
  simp only [h]
  rw [if_neg (by decide), if_neg (by decide), if_neg (by decide), if_neg (by decide), if_neg (by decide), if_pos trivial]
  split <;> rfl
theorem inner_obj (s : Js.Bs) (n : Nat) (st : Js.St) (h : Js.peek s st = 123) :
    Js.inner s (n + 1) st = (listOf s 125 (Js.members s) n [] (Js.step st)).bind fun l st => .ok (.mk 6 false 0 [] [] l) st := by
  unfold Js.inner listOf
  simp only [h]
  rw [if_neg (by decide), if_neg (by decide), if_neg (by decide), if_neg (by decide), if_neg (by decide), if_neg (by decide), if_pos trivial]
  split <;> rfl
theorem items_succ (s : Js.Bs) (m : Nat) (a : List Js.J) (st : Js.St) : Js.items s (m + 1) a st = ((Js.value s m st).bind fun x st => .ok (a ++ [x]) st).bind fun a st => if Js.peek s st = 93 then .ok a (Js.step st) else (Js.take s 44 st).bind fun _ st => Js.items s m a st := by
  conv => lhs; unfold Js.items
  cases Js.value s m st <;> rfl
theorem bind_assoc {α β γ : Type} (r : Js.Res α) (f : α → Js.St → Js.Res β) (g : β → Js.St → Js.Res γ) : (r.bind f).bind g = r.bind fun a st => (f a st).bind g := by cases r <;> rfl
theorem ok_bind {α β : Type} (a : α) (st : Js.St) (f : α → Js.St → Js.Res β) : (Js.Res.ok a st).bind f = f a st := rfl
theorem members_succ (s : Js.Bs) (m : Nat) (a : List (Js.Bs × Js.J)) (st : Js.St) : Js.members s (m + 1) a st = (memberOne s m a st).bind fun a st => if Js.peek s st = 125 then .ok a (Js.step st) else (Js.take s 44 st).bind fun _ st => Js.members s m a st := by
  conv => lhs; unfold Js.members
  unfold memberOne
  simp only [bind_assoc, ok_bind]
end Go.Proofs.YtimioelnnhnbiaaDoor
