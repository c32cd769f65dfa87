/-
  Joined: ZA ZBuf ZG. CONDITIONS: as each law says.
-/
import Derived.Test.YtimioelnnhnbiaaGreatDoorQ09
import Derived.Test.YtimioelnnhnbiaaGreatDoorQ12
import Derived.Test.YtimioelnnhnbiaaGreatDoorQ06
import Derived.Laws.AppendOwn
import Derived.Laws.OwnMore
import Derived.Laws.IdiomStrings
import Derived.Lib.UnsafeStr
import Derived.Deep.MidRow
namespace Go.Proofs.YtimioelnnhnbiaaGreatDoor
open Go.RowKit
/-- How an element lies: its cells; what else it lies in are blocks of S. -/
structure Kept {α : Type} (size : Nat) (R : World → (Nat → Prop) → α → List Value → Prop) : Prop where
 keep : ∀ {w w' : World} {S T : Nat → Prop} {x : α} {vs : List Value}, w.heap.size ≤ w'.heap.size → (∀ g, S g → g < w.heap.size → T g) → (∀ g, S g → g < w.heap.size → w'.heap[g]? = w.heap[g]?) → R w S x vs → R w' T x vs
 len : ∀ {w : World} {S : Nat → Prop} {x : α} {vs : List Value}, R w S x vs → vs.length = size
 one : ∀ {w : World} {S : Nat → Prop} {x : α} {vs : List Value}, R w S x vs → ∀ v ∈ vs, v.oneCell' = true
/-- A row under construction: the elements lie in blocks of T, and not in the row itself. -/
structure Gr {α : Type} (e size : Nat) (R : World → (Nat → Prop) → α → List Value → Prop) (T : Nat → Prop) (B : Nat) (acc : List α) (v : Value) (rs : List (List Value)) (w : World) : Prop where
 own : Own e size B v acc.length rs.flatten w
 len : rs.length = acc.length
 each : ∀ (k : Nat) (x : α), acc[k]? = some x → ∃ vs, rs[k]? = some vs ∧ R w (fun g => T g ∧ v.ownBlock ≠ some g) x vs
 all : ∀ vs ∈ rs, vs.length = size
section
variable {α : Type} {e size B : Nat} {R : World → (Nat → Prop) → α → List Value → Prop} {T : Nat → Prop} {acc : List α} {v : Value} {rs : List (List Value)} {w w' : World}
theorem Gr.nil : Gr e size R T w.heap.size [] (.slice none 0 0) [] w := ⟨Own.nil e size w, rfl, fun k x h => by simp at h, fun vs h => by simp at h⟩
theorem Gr.but (K : Kept size R) {L : List Nat} (h : Gr e size R T B acc v rs w) (hb : But L w w') (h1 : ∀ j ∈ L, j < B) (h2 : ∀ j ∈ L, ¬ T j) : Gr e size R T B acc v rs w' := by
 refine ⟨h.own.but hb h1, h.len, fun k x hx => ?_, h.all⟩
 obtain ⟨vs, a, b⟩ := h.each k x hx
 exact ⟨vs, a, K.keep hb.size (fun _ h _ => h) (fun g hg hlt => hb.block g hlt (fun hm => h2 g hm hg.1)) b⟩
theorem Gr.next (K : Kept size R) (h : Gr e size R T B acc v rs w) (hb : Below w.heap.size w w') : Gr e size R T B acc v rs w' := h.but K (But.of (S := []) hb) (by simp) (by simp)
theorem Gr.fresh (h : Gr e size R T B acc v rs w) {g : Nat} (hg : w.heap.size ≤ g) : v.ownBlock ≠ some g := fun e => by
 have := (h.own.lt g e).2
 omega
theorem Gr.push (K : Kept size R) {g cap : Nat} {x : α} {vs : List Value} (h : Gr e size R T B acc v rs w) (hx : R w (fun g => T g ∧ v.ownBlock ≠ some g) x vs)
  (ho : w'.ownsRow B e size (.slice (some ⟨g, 0, none⟩) (acc.length + 1) cap) (acc.length + 1) (rs.flatten ++ vs)) (hg : w.grownBy w' v.ownBlock) (hat : v.ownBlock = some g ∨ g = w.heap.size) :
  Gr e size R T B (acc ++ [x]) (.slice (some ⟨g, 0, none⟩) (acc.length + 1) cap) (rs ++ [vs]) w' ∧ But v.ownBlock.toList w w' := by
 have hk := But.grown hg
 have hT : ∀ j, T j ∧ v.ownBlock ≠ some j → j < w.heap.size → T j ∧ Value.ownBlock (.slice (some ⟨g, 0, none⟩) (acc.length + 1) cap) ≠ some j := by
  intro j h1 h2
  refine ⟨h1.1, fun e => ?_⟩
  have e : g = j := by simpa [Value.ownBlock] using e
  subst e
  rcases hat with e | e
  ·exact h1.2 e
  ·omega
 have hout : ∀ j, T j ∧ v.ownBlock ≠ some j → j < w.heap.size → w'.heap[j]? = w.heap[j]? := fun j h1 h2 => hk.block j h2 (fun hm => h1.2 (by simpa using hm))
 refine ⟨⟨⟨by rw [List.length_append, List.flatten_append]; simpa using ho, Nat.le_trans h.own.le hk.size⟩, by simp [h.len], ?_, ?_⟩, hk⟩
 ·intro k y hy
  by_cases hlt2 : k < acc.length
  ·rw [List.getElem?_append_left hlt2] at hy
   obtain ⟨us, h1, h2⟩ := h.each k y hy
   exact ⟨us, by rw [List.getElem?_append_left (by rw [h.len]; exact hlt2)]; exact h1, K.keep hk.size hT hout h2⟩
  ·have hkl := (List.getElem?_eq_some_iff.1 hy).1
   rw [List.length_append, List.length_singleton] at hkl
   obtain rfl : k = acc.length := by omega
   rw [List.getElem?_append_right (Nat.le_refl _), Nat.sub_self] at hy
   simp at hy
   subst hy
   exact ⟨vs, by rw [← h.len, List.getElem?_append_right (Nat.le_refl _), Nat.sub_self]; rfl, K.keep hk.size hT hout hx⟩
 ·intro us hus
  rcases List.mem_append.1 hus with h1 | h1
  ·exact h.all us h1
  ·rw [List.mem_singleton] at h1; subst h1; exact K.len hx
/-- The k-th element, read out of the row's block. -/
theorem Gr.at_ (K : Kept size R) (h : Gr e size R T B acc v rs w) {k : Nat} {x : α} (hx : acc[k]? = some x) : ∃ g c vs, v = .slice (some ⟨g, 0, none⟩) acc.length c ∧ B ≤ g ∧ g < w.heap.size ∧ (∀ j u, vs[j]? = some u → w.cell? ⟨g, 0 + (0 + k) * size + j, none⟩ = some u) ∧ R w T x vs := by
 obtain ⟨A, c, rfl⟩ := own_shape h.own
 obtain ⟨hc, hA⟩ := own_cap h.own
 obtain ⟨vs, h1, h2⟩ := h.each k x hx
 have hk := (List.getElem?_eq_some_iff.1 hx).1
 obtain ⟨g, rfl, hB, hg⟩ := hA (by omega)
 refine ⟨g, c, vs, rfl, hB, hg, fun j u hj => ?_, K.keep (Nat.le_refl _) (fun g hg _ => hg.1) (fun _ _ _ => rfl) h2⟩
 have hj7 : j < size := by have := (List.getElem?_eq_some_iff.1 hj).1; rw [K.len h2] at this; exact this
 have hkn : k * size + j < acc.length * size := by
  have : (k + 1) * size ≤ acc.length * size := Nat.mul_le_mul_right _ hk
  rw [Nat.succ_mul] at this
  omega
 rw [show 0 + (0 + k) * size + j = k * size + j by rw [Nat.zero_add, Nat.zero_add], h.own.own.cellAt (k * size + j) hkn, flat_get rs h.all k j _ h1 hj7]
 exact hj
end
def RM (w : World) (S : Nat → Prop) (m : Js.Bs × Js.J) (vs : List Value) : Prop := ∃ us, vs = .string (str m.1) :: us ∧ JV w S m.2 us
theorem kept_I : Kept 6 JV := ⟨fun h1 h2 h3 h => JV.keep h1 h2 h3 _ _ h, fun h => h.len, fun h => h.one⟩
theorem kept_M : Kept 7 RM := ⟨fun h1 h2 h3 ⟨us, e, h⟩ => ⟨us, e, JV.keep h1 h2 h3 _ _ h⟩, fun ⟨us, e, h⟩ => by rw [e, List.length_cons, h.len], fun ⟨us, e, h⟩ v hv => by
 subst e
 rcases List.mem_cons.1 hv with rfl | hv
 ·rfl
 ·exact h.one v hv⟩
/-- A list that is done is a value. -/
theorem Gr.list {T : Nat → Prop} {B : Nat} {acc : List Js.J} {v : Value} {rs : List (List Value)} {w : World} (h : Gr 25 6 JV T B acc v rs w) (k : Int) (q : Bool) (n : Int) (t : Js.Bs) :
  JV w (fun g => T g ∨ B ≤ g) (.mk k q n t acc []) [.int .i64 k, .bool q, .int .i64 n, .string (str t), v, .slice none 0 0] := by
 obtain ⟨A, c, rfl⟩ := own_shape h.own
 obtain ⟨hc, _⟩ := own_cap h.own
 unfold JV
 refine ⟨A, c, none, 0, rfl, hc, Nat.le_refl _, JL.of fun k x hx => ?_, by unfold JM; trivial⟩
 obtain ⟨g, c', vs, e, hB, hg, h1, h2⟩ := h.at_ kept_I hx
 simp only [Value.slice.injEq] at e
 exact ⟨g, 0, vs, e.1, .inr hB, hg, h1, h2.wide fun g hg _ => .inl hg⟩
theorem Gr.obj {T : Nat → Prop} {B : Nat} {acc : List (Js.Bs × Js.J)} {v : Value} {rs : List (List Value)} {w : World} (h : Gr 89 7 RM T B acc v rs w) (k : Int) (q : Bool) (n : Int) (t : Js.Bs) :
  JV w (fun g => T g ∨ B ≤ g) (.mk k q n t [] acc) [.int .i64 k, .bool q, .int .i64 n, .string (str t), .slice none 0 0, v] := by
 obtain ⟨A, c, rfl⟩ := own_shape h.own
 obtain ⟨hc, _⟩ := own_cap h.own
 unfold JV
 refine ⟨none, 0, A, c, rfl, Nat.le_refl _, hc, by unfold JL; trivial, JM.of fun k nm x hx => ?_⟩
 obtain ⟨g, c', vs, e, hB, hg, h1, us, rfl, h2⟩ := h.at_ kept_M hx
 simp only [Value.slice.injEq] at e
 exact ⟨g, 0, us, e.1, .inr hB, hg, h1, h2.wide fun g hg _ => .inl hg⟩
/-- Leaves. -/
def jText (s : Js.Bs) : Js.J := .mk 4 false 0 s [] []
def jNum (n : Int) : Js.J := .mk 3 false n [] [] []
def jTruth (q : Bool) : Js.J := .mk 2 q 0 [] [] []
def LeafC (f : Nat) (arg : Value) (k : Int) (q : Bool) (n : Int) (t : ByteArray) : Prop := ∀ w : World, Calls Tryz.prog f #[arg] w fun e w' => e = .returned (.agg #[.int .i64 k, .bool q, .int .i64 n, .string t, .slice none 0 0, .slice none 0 0]) ∧ Below w.heap.size w w'
set_option maxRecDepth 100000 in
set_option maxHeartbeats 4000000 in
theorem text_leaf (t : ByteArray) : LeafC 60 (.string t) (4) (false) (0) (t) := by
 intro w
 have b1 := Lib.hid (below_box w (.cells #[.int .i64 0, .bool false, .int .i64 0, .string ⟨#[]⟩, .slice none 0 0, .slice none 0 0] 25))
 have e1 : JBox _ w.heap.size _ _ _ _ _ _ := heap_alloc_new w (.cells #[.int .i64 0, .bool false, .int .i64 0, .string ⟨#[]⟩, .slice none 0 0, .slice none 0 0] 25)
 have HE := Lib.hid e1
 clear e1
 go_enter Tryz.func60, Tryz.ntmps60
 go_upto_region 1 with fail
 generalize (w.alloc (.cells #[.int .i64 0, .bool false, .int .i64 0, .string ⟨#[]⟩, .slice none 0 0, .slice none 0 0] 25)) = w1 at b1 HE ⊢
 obtain ⟨x0, x1, x2, x3, x4, x5⟩ := HE.out.cells
 obtain ⟨f0, f1, f2, f3, f4, f5⟩ := HE.out.frees
 obtain ⟨hk, hx⟩ := j25_set (.int .i64 4) (.bool false) (.int .i64 0) (.string t) (.slice none 0 0) (.slice none 0 0) HE.out
 have HK := Lib.hid hk
 have HX := Lib.hid hx
 clear hk hx
 go_wp2_with fail
 refine bodyPost_ret (results_row1 rfl _ _ _ w.heap.size #[.int .i64 4, .bool false, .int .i64 0, .string t, .slice none 0 0, .slice none 0 0] rfl (j25_load HX.out)) rfl ?_
 exact ⟨rfl, b1.out.trans (HK.out.to b1.out.size (by intro j hj; simp at hj; omega))⟩
set_option maxRecDepth 100000 in
set_option maxHeartbeats 4000000 in
theorem refText_leaf (t : ByteArray) : LeafC 38 (.string t) (4) (false) (0) (t) := by
 intro w
 have b1 := Lib.hid (below_box w (.cells #[.int .i64 0, .bool false, .int .i64 0, .string ⟨#[]⟩, .slice none 0 0, .slice none 0 0] 25))
 have e1 : JBox _ w.heap.size _ _ _ _ _ _ := heap_alloc_new w (.cells #[.int .i64 0, .bool false, .int .i64 0, .string ⟨#[]⟩, .slice none 0 0, .slice none 0 0] 25)
 have HE := Lib.hid e1
 clear e1
 go_enter Tryz.func38, Tryz.ntmps38
 go_upto_region 1 with fail
 generalize (w.alloc (.cells #[.int .i64 0, .bool false, .int .i64 0, .string ⟨#[]⟩, .slice none 0 0, .slice none 0 0] 25)) = w1 at b1 HE ⊢
 obtain ⟨x0, x1, x2, x3, x4, x5⟩ := HE.out.cells
 obtain ⟨f0, f1, f2, f3, f4, f5⟩ := HE.out.frees
 obtain ⟨hk, hx⟩ := j25_set (.int .i64 4) (.bool false) (.int .i64 0) (.string t) (.slice none 0 0) (.slice none 0 0) HE.out
 have HK := Lib.hid hk
 have HX := Lib.hid hx
 clear hk hx
 go_wp2_with fail
 refine bodyPost_ret (results_row1 rfl _ _ _ w.heap.size #[.int .i64 4, .bool false, .int .i64 0, .string t, .slice none 0 0, .slice none 0 0] rfl (j25_load HX.out)) rfl ?_
 exact ⟨rfl, b1.out.trans (HK.out.to b1.out.size (by intro j hj; simp at hj; omega))⟩
set_option maxRecDepth 100000 in
set_option maxHeartbeats 4000000 in
theorem number_leaf (n : Int) : LeafC 61 (.int .i64 n) (3) (false) (n) (⟨#[]⟩) := by
 intro w
 have b1 := Lib.hid (below_box w (.cells #[.int .i64 0, .bool false, .int .i64 0, .string ⟨#[]⟩, .slice none 0 0, .slice none 0 0] 25))
 have e1 : JBox _ w.heap.size _ _ _ _ _ _ := heap_alloc_new w (.cells #[.int .i64 0, .bool false, .int .i64 0, .string ⟨#[]⟩, .slice none 0 0, .slice none 0 0] 25)
 have HE := Lib.hid e1
 clear e1
 go_enter Tryz.func61, Tryz.ntmps61
 go_upto_region 1 with fail
 generalize (w.alloc (.cells #[.int .i64 0, .bool false, .int .i64 0, .string ⟨#[]⟩, .slice none 0 0, .slice none 0 0] 25)) = w1 at b1 HE ⊢
 obtain ⟨x0, x1, x2, x3, x4, x5⟩ := HE.out.cells
 obtain ⟨f0, f1, f2, f3, f4, f5⟩ := HE.out.frees
 obtain ⟨hk, hx⟩ := j25_set (.int .i64 3) (.bool false) (.int .i64 n) (.string ⟨#[]⟩) (.slice none 0 0) (.slice none 0 0) HE.out
 have HK := Lib.hid hk
 have HX := Lib.hid hx
 clear hk hx
 go_wp2_with fail
 refine bodyPost_ret (results_row1 rfl _ _ _ w.heap.size #[.int .i64 3, .bool false, .int .i64 n, .string ⟨#[]⟩, .slice none 0 0, .slice none 0 0] rfl (j25_load HX.out)) rfl ?_
 exact ⟨rfl, b1.out.trans (HK.out.to b1.out.size (by intro j hj; simp at hj; omega))⟩
set_option maxRecDepth 100000 in
set_option maxHeartbeats 4000000 in
theorem long_leaf (n : Int) : LeafC 67 (.int .i64 n) (3) (false) (n) (⟨#[]⟩) := by
 intro w
 have b1 := Lib.hid (below_box w (.cells #[.int .i64 0, .bool false, .int .i64 0, .string ⟨#[]⟩, .slice none 0 0, .slice none 0 0] 25))
 have e1 : JBox _ w.heap.size _ _ _ _ _ _ := heap_alloc_new w (.cells #[.int .i64 0, .bool false, .int .i64 0, .string ⟨#[]⟩, .slice none 0 0, .slice none 0 0] 25)
 have HE := Lib.hid e1
 clear e1
 go_enter Tryz.func67, Tryz.ntmps67
 go_upto_region 1 with fail
 generalize (w.alloc (.cells #[.int .i64 0, .bool false, .int .i64 0, .string ⟨#[]⟩, .slice none 0 0, .slice none 0 0] 25)) = w1 at b1 HE ⊢
 obtain ⟨x0, x1, x2, x3, x4, x5⟩ := HE.out.cells
 obtain ⟨f0, f1, f2, f3, f4, f5⟩ := HE.out.frees
 obtain ⟨hk, hx⟩ := j25_set (.int .i64 3) (.bool false) (.int .i64 n) (.string ⟨#[]⟩) (.slice none 0 0) (.slice none 0 0) HE.out
 have HK := Lib.hid hk
 have HX := Lib.hid hx
 clear hk hx
 go_wp2_with fail
 refine bodyPost_ret (results_row1 rfl _ _ _ w.heap.size #[.int .i64 3, .bool false, .int .i64 n, .string ⟨#[]⟩, .slice none 0 0, .slice none 0 0] rfl (j25_load HX.out)) rfl ?_
 exact ⟨rfl, b1.out.trans (HK.out.to b1.out.size (by intro j hj; simp at hj; omega))⟩
set_option maxRecDepth 100000 in
set_option maxHeartbeats 4000000 in
theorem refNumber_leaf (n : Int) : LeafC 39 (.int .i64 n) (3) (false) (n) (⟨#[]⟩) := by
 intro w
 have b1 := Lib.hid (below_box w (.cells #[.int .i64 0, .bool false, .int .i64 0, .string ⟨#[]⟩, .slice none 0 0, .slice none 0 0] 25))
 have e1 : JBox _ w.heap.size _ _ _ _ _ _ := heap_alloc_new w (.cells #[.int .i64 0, .bool false, .int .i64 0, .string ⟨#[]⟩, .slice none 0 0, .slice none 0 0] 25)
 have HE := Lib.hid e1
 clear e1
 go_enter Tryz.func39, Tryz.ntmps39
 go_upto_region 1 with fail
 generalize (w.alloc (.cells #[.int .i64 0, .bool false, .int .i64 0, .string ⟨#[]⟩, .slice none 0 0, .slice none 0 0] 25)) = w1 at b1 HE ⊢
 obtain ⟨x0, x1, x2, x3, x4, x5⟩ := HE.out.cells
 obtain ⟨f0, f1, f2, f3, f4, f5⟩ := HE.out.frees
 obtain ⟨hk, hx⟩ := j25_set (.int .i64 3) (.bool false) (.int .i64 n) (.string ⟨#[]⟩) (.slice none 0 0) (.slice none 0 0) HE.out
 have HK := Lib.hid hk
 have HX := Lib.hid hx
 clear hk hx
 go_wp2_with fail
 refine bodyPost_ret (results_row1 rfl _ _ _ w.heap.size #[.int .i64 3, .bool false, .int .i64 n, .string ⟨#[]⟩, .slice none 0 0, .slice none 0 0] rfl (j25_load HX.out)) rfl ?_
 exact ⟨rfl, b1.out.trans (HK.out.to b1.out.size (by intro j hj; simp at hj; omega))⟩
set_option maxRecDepth 100000 in
set_option maxHeartbeats 4000000 in
theorem truth_leaf (q : Bool) : LeafC 84 (.bool q) (2) (q) (0) (⟨#[]⟩) := by
 intro w
 have b1 := Lib.hid (below_box w (.cells #[.int .i64 0, .bool false, .int .i64 0, .string ⟨#[]⟩, .slice none 0 0, .slice none 0 0] 25))
 have e1 : JBox _ w.heap.size _ _ _ _ _ _ := heap_alloc_new w (.cells #[.int .i64 0, .bool false, .int .i64 0, .string ⟨#[]⟩, .slice none 0 0, .slice none 0 0] 25)
 have HE := Lib.hid e1
 clear e1
 go_enter Tryz.func84, Tryz.ntmps84
 go_upto_region 1 with fail
 generalize (w.alloc (.cells #[.int .i64 0, .bool false, .int .i64 0, .string ⟨#[]⟩, .slice none 0 0, .slice none 0 0] 25)) = w1 at b1 HE ⊢
 obtain ⟨x0, x1, x2, x3, x4, x5⟩ := HE.out.cells
 obtain ⟨f0, f1, f2, f3, f4, f5⟩ := HE.out.frees
 obtain ⟨hk, hx⟩ := j25_set (.int .i64 2) (.bool q) (.int .i64 0) (.string ⟨#[]⟩) (.slice none 0 0) (.slice none 0 0) HE.out
 have HK := Lib.hid hk
 have HX := Lib.hid hx
 clear hk hx
 go_wp2_with fail
 refine bodyPost_ret (results_row1 rfl _ _ _ w.heap.size #[.int .i64 2, .bool q, .int .i64 0, .string ⟨#[]⟩, .slice none 0 0, .slice none 0 0] rfl (j25_load HX.out)) rfl ?_
 exact ⟨rfl, b1.out.trans (HK.out.to b1.out.size (by intro j hj; simp at hj; omega))⟩
set_option maxRecDepth 100000 in
set_option maxHeartbeats 4000000 in
theorem refTruth_leaf (q : Bool) : LeafC 42 (.bool q) (2) (q) (0) (⟨#[]⟩) := by
 intro w
 have b1 := Lib.hid (below_box w (.cells #[.int .i64 0, .bool false, .int .i64 0, .string ⟨#[]⟩, .slice none 0 0, .slice none 0 0] 25))
 have e1 : JBox _ w.heap.size _ _ _ _ _ _ := heap_alloc_new w (.cells #[.int .i64 0, .bool false, .int .i64 0, .string ⟨#[]⟩, .slice none 0 0, .slice none 0 0] 25)
 have HE := Lib.hid e1
 clear e1
 go_enter Tryz.func42, Tryz.ntmps42
 go_upto_region 1 with fail
 generalize (w.alloc (.cells #[.int .i64 0, .bool false, .int .i64 0, .string ⟨#[]⟩, .slice none 0 0, .slice none 0 0] 25)) = w1 at b1 HE ⊢
 obtain ⟨x0, x1, x2, x3, x4, x5⟩ := HE.out.cells
 obtain ⟨f0, f1, f2, f3, f4, f5⟩ := HE.out.frees
 obtain ⟨hk, hx⟩ := j25_set (.int .i64 2) (.bool q) (.int .i64 0) (.string ⟨#[]⟩) (.slice none 0 0) (.slice none 0 0) HE.out
 have HK := Lib.hid hk
 have HX := Lib.hid hx
 clear hk hx
 go_wp2_with fail
 refine bodyPost_ret (results_row1 rfl _ _ _ w.heap.size #[.int .i64 2, .bool q, .int .i64 0, .string ⟨#[]⟩, .slice none 0 0, .slice none 0 0] rfl (j25_load HX.out)) rfl ?_
 exact ⟨rfl, b1.out.trans (HK.out.to b1.out.size (by intro j hj; simp at hj; omega))⟩
end Go.Proofs.YtimioelnnhnbiaaGreatDoor
namespace Go.Proofs.YtimioelnnhnbiaaGreatDoor
open Go.RowKit
theorem own_below {w w' : World} {base : Nat} {e : TypeId} {size n : Nat} {v : Value} {xs : List Value} (h : w.ownsRow base e size v n xs) (hb : Below w.heap.size w w') : w'.ownsRow base e size v n xs :=
 h.kept (row := none) ⟨hb.os, hb.tape, hb.output, hb.size, fun k hk _ => hb.block k hk⟩ (by cases hv : v.ownBlock <;> simp)
structure Buf (B : Nat) (v : Value) (out : List UInt8) (W0 w : World) : Prop where
 own : w.ownsRow B 5 1 v out.length (Lib.byteCells out)
 below : Below B W0 w
 le : B ≤ w.heap.size
theorem Buf.empty {w : World} : Buf w.heap.size (.slice none 0 0) [] w w := ⟨World.ownsRow_nil _ _ _ _, Below.refl _ _, Nat.le_refl _⟩
theorem Buf.alloc {B : Nat} {v : Value} {out : List UInt8} {W0 w : World} (h : Buf B v out W0 w) (o : Obj) : Buf B v out W0 (w.alloc o) := ⟨h.own.alloc o, h.below.alloc h.le o, Nat.le_trans h.le ((Below.refl 0 w).alloc (Nat.zero_le _) o).size⟩
theorem Buf.next {B : Nat} {v : Value} {out : List UInt8} {W0 w w' : World} (h : Buf B v out W0 w) (hb : Below w.heap.size w w') : Buf B v out W0 w' := ⟨own_below h.own hb, h.below.trans (hb.mono h.le), Nat.le_trans h.le hb.size⟩
theorem Buf.lit (w : World) (l : List UInt8) (hl : l.length ≤ 1000) {C : Array Value} (hC : C = (Lib.byteCells l).toArray) : Buf w.heap.size (.slice (some ⟨w.heap.size, 0, none⟩) l.length l.length) l w (w.alloc (.cells C 5)) := by
 subst hC
 refine ⟨⟨by rw [byteCells_len, Nat.mul_one], .inr ⟨w.heap.size, l.length, (Lib.byteCells l).toArray, rfl, Nat.le_refl _, heap_alloc_new w _, Nat.le_refl _, by unfold maxLen; omega, by rw [List.size_toArray, byteCells_len, Nat.mul_one], ?_⟩⟩, below_box _ _, by simp⟩
 show (Lib.byteCells l).toArray.toList.take (l.length * 1) = _
 rw [Nat.mul_one, List.take_of_length_le (by simp [byteCells_len])]
theorem wpList_buf_append {ops : Array Oper} {rest : List Oper} {o : Oper} {a : Act} {Q : Exit → Act → World → Prop} (hgd : o.guard = none) (s x : Operand)
  (ho : o.op = .call { callee := .builtin .append, args := #[s, x], argTypes := #[110, 110] }) {B : Nat} {v : Value} {out : List UInt8} {W0 w : World} (hb : Buf B v out W0 w)
  (hs : a.eval s = v) (news : List UInt8) {C : Array Value} (hC : C = (Lib.byteCells news).toArray) (hx : a.eval x = .slice (some ⟨w.heap.size, 0, none⟩) news.length news.length) (hlen : out.length + news.length ≤ 1099511627776)
  (h : ∀ v' w', Buf B v' (out ++ news) W0 w' → wpList Tryz.prog ops Q rest (a.put o.dst v') w') : wpList Tryz.prog ops Q (o :: rest) a (w.alloc (.cells C 5)) := by
 subst hC
 obtain ⟨i0, hi, hz0, hz1, hz2⟩ := info_parts byte_info
 have hb' := hb.alloc (.cells (Lib.byteCells news).toArray 5)
 refine wpList_append_own _ hgd s x 110 ho B 5 i0 (.int .u8 0) 1 1 Tryz.underlying110 hi hz0 hz1 hz2 rfl (by decide) v out.length (Lib.byteCells out) hs hb'.own ⟨w.heap.size, 0, none⟩ news.length news.length (Lib.byteCells news) hx (by rw [byteCells_len, Nat.mul_one]) ?_ (byteCells_one _) (by unfold maxLen; omega) (by omega) hb'.le ?_
 ·intro j u hj
  have hadd : (⟨w.heap.size, 0, none⟩ : Addr).add j = ⟨w.heap.size, j, none⟩ := by unfold Addr.add; split <;> simp_all
  rw [hadd, blk_cells (heap_alloc_new w _) j, List.getElem?_toArray, hj]
 ·intro v' w' h1 h2 _
  exact h v' w' ⟨by rw [List.length_append, byteCells_app]; exact h1, hb'.below.grown h2 hb'.le (fun k hk => (hb'.own.lt k hk).1), Nat.le_trans hb'.le h2.size⟩
theorem wp_buf_append {o : Oper} {a : Act} {K : Act → World → Prop} {Q : Exit → Act → World → Prop} (s x : Operand)
  (ho : o.op = .call { callee := .builtin .append, args := #[s, x], argTypes := #[110, 110] }) {B : Nat} {v : Value} {out : List UInt8} {W0 w : World} (hb : Buf B v out W0 w)
  (hs : a.eval s = v) (news : List UInt8) {C : Array Value} (hC : C = (Lib.byteCells news).toArray) (hx : a.eval x = .slice (some ⟨w.heap.size, 0, none⟩) news.length news.length) (hlen : out.length + news.length ≤ 1099511627776)
  (h : ∀ v' w', Buf B v' (out ++ news) W0 w' → K (a.put o.dst v') w') : o.wp Tryz.prog a (w.alloc (.cells C 5)) K Q := by
 refine wp_own_append s x 110 5 (.int .u8 0) 1 1 ho Tryz.underlying110 info5 rfl (by decide) (xs := Lib.byteCells out) (n := out.length) ⟨hb.own, hb.le⟩ hs (Lib.byteCells news) news.length hC (by rw [byteCells_len, Nat.mul_one]) (byteCells_one _) hx (by unfold maxLen; omega) (by omega) ?_
 intro v' w' h1 h2 _
 exact h v' w' ⟨by rw [List.length_append, byteCells_app]; exact h1.own, hb.below.trans h2, h1.le⟩
theorem Buf.string {B : Nat} {v : Value} {out : List UInt8} {W0 w : World} (h : Buf B v out W0 w) : (convert 110 9 v).run Tryz.prog w = .ok (.string ⟨out.toArray⟩) w := by
 rcases h.own.2 with ⟨hv, hn⟩ | ⟨g, cap, cur, hv, _⟩
 ·obtain rfl : out = [] := List.length_eq_zero_iff.1 hn
  rw [hv]
  rw [run_convert_bytes_string w 110 9 5 none 0 0 Tryz.underlying110 Tryz.underlying5 Tryz.underlying9]
  simp [Conv.bytesToString]
  rfl
 ·have ho := h.own
  rw [hv] at ho ⊢
  refine run_convert_bytes_back w 110 9 5 _ cap out Tryz.underlying110 Tryz.underlying5 Tryz.underlying9 ?_
  intro j hj
  have hadd : (⟨g, 0, none⟩ : Addr).add j = ⟨g, j, none⟩ := by unfold Addr.add; split <;> simp_all
  rw [hadd, ho.cellAt j (by omega)]
  simp [Lib.byteCells, hj]
theorem hex_idx {d : Nat} (hd : d < 16) (h : d < (⟨#[48, 49, 50, 51, 52, 53, 54, 55, 56, 57, 97, 98, 99, 100, 101, 102]⟩ : ByteArray).size) : (⟨#[48, 49, 50, 51, 52, 53, 54, 55, 56, 57, 97, 98, 99, 100, 101, 102]⟩ : ByteArray)[d]'h = Js.hexD d := by
 match d, hd with
 | 0, _ => rfl
 | 1, _ => rfl
 | 2, _ => rfl
 | 3, _ => rfl
 | 4, _ => rfl
 | 5, _ => rfl
 | 6, _ => rfl
 | 7, _ => rfl
 | 8, _ => rfl
 | 9, _ => rfl
 | 10, _ => rfl
 | 11, _ => rfl
 | 12, _ => rfl
 | 13, _ => rfl
 | 14, _ => rfl
 | 15, _ => rfl
 | n + 16, h => omega
theorem byte_ne {c d : UInt8} (h : ¬ c = d) : ((c.toNat : Int) == (d.toNat : Int)) = false := by
 rw [beq_eq_false_iff_ne]
 intro e
 exact h (UInt8.toNat_inj.1 (by omega))
end Go.Proofs.YtimioelnnhnbiaaGreatDoor
namespace Go.Proofs.YtimioelnnhnbiaaGreatDoor
open Go.RowKit
/-- A digest's bytes. -/
def idL (I : Nat → UInt8) : List UInt8 := [I 0, I 1, I 2, I 3, I 4, I 5, I 6, I 7, I 8, I 9, I 10, I 11, I 12, I 13, I 14, I 15, I 16, I 17, I 18, I 19, I 20, I 21, I 22, I 23, I 24, I 25, I 26, I 27, I 28, I 29, I 30, I 31]
def idC (I : Nat → UInt8) : List Value := [.int .u8 (I 0).toNat, .int .u8 (I 1).toNat, .int .u8 (I 2).toNat, .int .u8 (I 3).toNat, .int .u8 (I 4).toNat, .int .u8 (I 5).toNat, .int .u8 (I 6).toNat, .int .u8 (I 7).toNat, .int .u8 (I 8).toNat, .int .u8 (I 9).toNat, .int .u8 (I 10).toNat, .int .u8 (I 11).toNat, .int .u8 (I 12).toNat, .int .u8 (I 13).toNat, .int .u8 (I 14).toNat, .int .u8 (I 15).toNat, .int .u8 (I 16).toNat, .int .u8 (I 17).toNat, .int .u8 (I 18).toNat, .int .u8 (I 19).toNat, .int .u8 (I 20).toNat, .int .u8 (I 21).toNat, .int .u8 (I 22).toNat, .int .u8 (I 23).toNat, .int .u8 (I 24).toNat, .int .u8 (I 25).toNat, .int .u8 (I 26).toNat, .int .u8 (I 27).toNat, .int .u8 (I 28).toNat, .int .u8 (I 29).toNat, .int .u8 (I 30).toNat, .int .u8 (I 31).toNat]
theorem idL_at (I : Nat → UInt8) (k : Nat) (h : k < 32) : (idL I)[k]? = some (I k) := by
 match k, h with
 | 0, _ => rfl
 | 1, _ => rfl
 | 2, _ => rfl
 | 3, _ => rfl
 | 4, _ => rfl
 | 5, _ => rfl
 | 6, _ => rfl
 | 7, _ => rfl
 | 8, _ => rfl
 | 9, _ => rfl
 | 10, _ => rfl
 | 11, _ => rfl
 | 12, _ => rfl
 | 13, _ => rfl
 | 14, _ => rfl
 | 15, _ => rfl
 | 16, _ => rfl
 | 17, _ => rfl
 | 18, _ => rfl
 | 19, _ => rfl
 | 20, _ => rfl
 | 21, _ => rfl
 | 22, _ => rfl
 | 23, _ => rfl
 | 24, _ => rfl
 | 25, _ => rfl
 | 26, _ => rfl
 | 27, _ => rfl
 | 28, _ => rfl
 | 29, _ => rfl
 | 30, _ => rfl
 | 31, _ => rfl
 | n + 32, h => omega
theorem idC_at (I : Nat → UInt8) (k : Nat) (h : k < 32) : (idC I)[k]? = some (.int .u8 (I k).toNat) := by
 match k, h with
 | 0, _ => rfl
 | 1, _ => rfl
 | 2, _ => rfl
 | 3, _ => rfl
 | 4, _ => rfl
 | 5, _ => rfl
 | 6, _ => rfl
 | 7, _ => rfl
 | 8, _ => rfl
 | 9, _ => rfl
 | 10, _ => rfl
 | 11, _ => rfl
 | 12, _ => rfl
 | 13, _ => rfl
 | 14, _ => rfl
 | 15, _ => rfl
 | 16, _ => rfl
 | 17, _ => rfl
 | 18, _ => rfl
 | 19, _ => rfl
 | 20, _ => rfl
 | 21, _ => rfl
 | 22, _ => rfl
 | 23, _ => rfl
 | 24, _ => rfl
 | 25, _ => rfl
 | 26, _ => rfl
 | 27, _ => rfl
 | 28, _ => rfl
 | 29, _ => rfl
 | 30, _ => rfl
 | 31, _ => rfl
 | n + 32, h => omega
def hexT (l : List UInt8) : Js.Bs := l.flatMap fun c => [hB (c.toNat / 16), hB (c.toNat % 16)]
def idText (I : Nat → UInt8) : Js.Bs := hexT (idL I)
theorem hexT_len : ∀ l : List UInt8, (hexT l).length = 2 * l.length
 | [] => rfl
 | c :: t => by
  have := hexT_len t
  unfold hexT at this ⊢
  rw [List.flatMap_cons, List.length_append, this, List.length_cons]
  simp; omega
theorem and15 : ∀ x : Fin 256, bits BinOp.and IntKind.u8 (x.val : Int) 15 = ((x.val % 16 : Nat) : Int) := by decide +kernel
def idA (I : Nat → UInt8) : Array Value := (idC I).toArray
theorem idA_at (I : Nat → UInt8) (k : Nat) (h : k < 32) : (idA I)[k]? = some (.int .u8 (I k).toNat) := by unfold idA; rw [List.getElem?_toArray]; exact idC_at I k h
theorem index29 (I : Nat → UInt8) (w : World) : ∀ k : Nat, k < 32 → (Instr.index 29 (.agg (idA I)) (.int .i64 k)).run Tryz.prog w = .ok (.int .u8 (I k).toNat) w := fun k h => by
 match k, h with
 | 0, _ => show (Instr.index 29 (.agg (idA I)) (.int .i64 0)).run Tryz.prog w = .ok (.int .u8 (I 0).toNat) w; kernel_rfl
 | 1, _ => show (Instr.index 29 (.agg (idA I)) (.int .i64 1)).run Tryz.prog w = .ok (.int .u8 (I 1).toNat) w; kernel_rfl
 | 2, _ => show (Instr.index 29 (.agg (idA I)) (.int .i64 2)).run Tryz.prog w = .ok (.int .u8 (I 2).toNat) w; kernel_rfl
 | 3, _ => show (Instr.index 29 (.agg (idA I)) (.int .i64 3)).run Tryz.prog w = .ok (.int .u8 (I 3).toNat) w; kernel_rfl
 | 4, _ => show (Instr.index 29 (.agg (idA I)) (.int .i64 4)).run Tryz.prog w = .ok (.int .u8 (I 4).toNat) w; kernel_rfl
 | 5, _ => show (Instr.index 29 (.agg (idA I)) (.int .i64 5)).run Tryz.prog w = .ok (.int .u8 (I 5).toNat) w; kernel_rfl
 | 6, _ => show (Instr.index 29 (.agg (idA I)) (.int .i64 6)).run Tryz.prog w = .ok (.int .u8 (I 6).toNat) w; kernel_rfl
 | 7, _ => show (Instr.index 29 (.agg (idA I)) (.int .i64 7)).run Tryz.prog w = .ok (.int .u8 (I 7).toNat) w; kernel_rfl
 | 8, _ => show (Instr.index 29 (.agg (idA I)) (.int .i64 8)).run Tryz.prog w = .ok (.int .u8 (I 8).toNat) w; kernel_rfl
 | 9, _ => show (Instr.index 29 (.agg (idA I)) (.int .i64 9)).run Tryz.prog w = .ok (.int .u8 (I 9).toNat) w; kernel_rfl
 | 10, _ => show (Instr.index 29 (.agg (idA I)) (.int .i64 10)).run Tryz.prog w = .ok (.int .u8 (I 10).toNat) w; kernel_rfl
 | 11, _ => show (Instr.index 29 (.agg (idA I)) (.int .i64 11)).run Tryz.prog w = .ok (.int .u8 (I 11).toNat) w; kernel_rfl
 | 12, _ => show (Instr.index 29 (.agg (idA I)) (.int .i64 12)).run Tryz.prog w = .ok (.int .u8 (I 12).toNat) w; kernel_rfl
 | 13, _ => show (Instr.index 29 (.agg (idA I)) (.int .i64 13)).run Tryz.prog w = .ok (.int .u8 (I 13).toNat) w; kernel_rfl
 | 14, _ => show (Instr.index 29 (.agg (idA I)) (.int .i64 14)).run Tryz.prog w = .ok (.int .u8 (I 14).toNat) w; kernel_rfl
 | 15, _ => show (Instr.index 29 (.agg (idA I)) (.int .i64 15)).run Tryz.prog w = .ok (.int .u8 (I 15).toNat) w; kernel_rfl
 | 16, _ => show (Instr.index 29 (.agg (idA I)) (.int .i64 16)).run Tryz.prog w = .ok (.int .u8 (I 16).toNat) w; kernel_rfl
 | 17, _ => show (Instr.index 29 (.agg (idA I)) (.int .i64 17)).run Tryz.prog w = .ok (.int .u8 (I 17).toNat) w; kernel_rfl
 | 18, _ => show (Instr.index 29 (.agg (idA I)) (.int .i64 18)).run Tryz.prog w = .ok (.int .u8 (I 18).toNat) w; kernel_rfl
 | 19, _ => show (Instr.index 29 (.agg (idA I)) (.int .i64 19)).run Tryz.prog w = .ok (.int .u8 (I 19).toNat) w; kernel_rfl
 | 20, _ => show (Instr.index 29 (.agg (idA I)) (.int .i64 20)).run Tryz.prog w = .ok (.int .u8 (I 20).toNat) w; kernel_rfl
 | 21, _ => show (Instr.index 29 (.agg (idA I)) (.int .i64 21)).run Tryz.prog w = .ok (.int .u8 (I 21).toNat) w; kernel_rfl
 | 22, _ => show (Instr.index 29 (.agg (idA I)) (.int .i64 22)).run Tryz.prog w = .ok (.int .u8 (I 22).toNat) w; kernel_rfl
 | 23, _ => show (Instr.index 29 (.agg (idA I)) (.int .i64 23)).run Tryz.prog w = .ok (.int .u8 (I 23).toNat) w; kernel_rfl
 | 24, _ => show (Instr.index 29 (.agg (idA I)) (.int .i64 24)).run Tryz.prog w = .ok (.int .u8 (I 24).toNat) w; kernel_rfl
 | 25, _ => show (Instr.index 29 (.agg (idA I)) (.int .i64 25)).run Tryz.prog w = .ok (.int .u8 (I 25).toNat) w; kernel_rfl
 | 26, _ => show (Instr.index 29 (.agg (idA I)) (.int .i64 26)).run Tryz.prog w = .ok (.int .u8 (I 26).toNat) w; kernel_rfl
 | 27, _ => show (Instr.index 29 (.agg (idA I)) (.int .i64 27)).run Tryz.prog w = .ok (.int .u8 (I 27).toNat) w; kernel_rfl
 | 28, _ => show (Instr.index 29 (.agg (idA I)) (.int .i64 28)).run Tryz.prog w = .ok (.int .u8 (I 28).toNat) w; kernel_rfl
 | 29, _ => show (Instr.index 29 (.agg (idA I)) (.int .i64 29)).run Tryz.prog w = .ok (.int .u8 (I 29).toNat) w; kernel_rfl
 | 30, _ => show (Instr.index 29 (.agg (idA I)) (.int .i64 30)).run Tryz.prog w = .ok (.int .u8 (I 30).toNat) w; kernel_rfl
 | 31, _ => show (Instr.index 29 (.agg (idA I)) (.int .i64 31)).run Tryz.prog w = .ok (.int .u8 (I 31).toNat) w; kernel_rfl
 | n + 32, h => omega
theorem info29 : (Tryz.prog.info? 29).map (·.size) = some 32 := by kernel_rfl
theorem und29 : Tryz.prog.underlying 29 = some (.array 32 5) := by kernel_rfl
theorem wpList_load29 {ops : Array Oper} {rest : List Oper} {op : Oper} {a : Act} {w : World} {Q : Exit → Act → World → Prop} (hgd : op.guard = none) (x : Operand) (ho : op.op = .load 29 x) (b : Nat) (hx : a.eval x = .pointer (some ⟨b, 0, none⟩))
  (I : Nat → UInt8) (h : w.heap[b]? = some (.cells (idA I) 29 (0, 0))) (k : wpList Tryz.prog ops Q rest (a.put op.dst (.agg (idA I))) w) : wpList Tryz.prog ops Q (op :: rest) a w :=
 wpList_load_mid hgd 29 x ho b 0 hx (idC I) _ (fun j v hv => (blk_cells h (0 + j)).trans (by rw [Nat.zero_add]; unfold idA; rw [List.getElem?_toArray]; exact hv)) und29 rfl (by rw [info29]; rfl) k
set_option maxRecDepth 100000 in
set_option maxHeartbeats 8000000 in
theorem shaText_any (I : Nat → UInt8) (w : World) : Calls Tryz.prog 83 #[.agg (idA I)] w fun e w' => e = .returned (.string (str (idText I))) ∧ Below w.heap.size w w' := by
 have b1 := Lib.hid (below_box w (.cells (idA I) 29))
 have HE1 := Lib.hid (heap_alloc_new w (.cells (idA I) 29))
 have hsz : (idA I).size = 32 := rfl
 go_enter Tryz.func83, Tryz.ntmps83
 go_upto_region 1 with fail
 generalize (w.alloc (.cells (idA I) 29)) = w1 at b1 HE1 ⊢
 go_wp2_with (refine wpList_load29 rfl _ rfl _ rfl I HE1.out ?_)
 have HB0 : Hid (Buf w1.heap.size (.slice none 0 0) [] w1 w1) := Lib.hid Buf.empty
 go_loopw [3, 5, 7] (fun v _ i wr => ∃ (k : Nat) (out : List UInt8), k ≤ 32 ∧ i = .int .i64 k ∧ out.length = 2 * k ∧ Hid (out = hexT ((idL I).take k)) ∧ Hid (Buf w1.heap.size v out w1 wr)) (fun _ _ i _ => 32 - (intOf i).toNat)
 case atStart => exact ⟨0, [], by omega, rfl, rfl, Lib.hid rfl, HB0⟩
 case round =>
  obtain ⟨k, out, hk, rfl, hout, HO, HB⟩ := hrel
  by_cases hlt : k < 32
  ·have hix := index29 I wr k hlt
   have hcon : decide ((k : Int) < 32) = true := by simp; omega
   have HX := Lib.hid (idL_at I k hlt)
   have hv : ∃ x, I k = x := ⟨_, rfl⟩
   obtain ⟨x, hx⟩ := hv
   rw [hx] at hix HX
   have hx256 : x.toNat < 256 := x.toNat_lt
   obtain ⟨d, hd⟩ : ∃ d, x.toNat / 16 = d := ⟨_, rfl⟩
   obtain ⟨q, hq⟩ : ∃ q, x.toNat % 16 = q := ⟨_, rfl⟩
   have hd16 : d < 16 := by omega
   have hq16 : q < 16 := by omega
   have HS : Hid (out ++ [hB d, hB q] = hexT ((idL I).take (k + 1))) := Lib.hid (by
    rw [HO.out, List.take_add_one, HX.out, ← hd, ← hq]
    unfold hexT
    simp)
   have hdi : (x.toNat : Int) / 16 = (d : Int) := by omega
   have hqi : bits BinOp.and IntKind.u8 (x.toNat : Int) 15 = (q : Int) := by rw [← hq]; exact and15 ⟨x.toNat, hx256⟩
   clear hx HX HO hd hq
   go_wp2_with fail
   refine wp_region_any (by kernel_rfl) ?_
   change wpAny _ _ _ _ _ _ _ (World.drew _)
   have HB1 : Hid (Buf w1.heap.size u3 out w1 wr.drew) := Lib.hid (HB.out.next (below_drewN (Below.refl _ _) 1))
   generalize wr.drew = W at HB1 ⊢
   refine wpAny_of_till (S := fun _ => True) (st := (fun _ => false)) _ _ _ _ ?_
   change wpTill _ _ _ _ _ _ _ #[false, false, false, false, false, false, false, false, false, false] _ _
   refine wpTill_takeF (i := 0) (v := u3) rfl (by kernel_rfl) (by kernel_rfl) (by kernel_rfl) (fun l => rfl) (fun _ _ _ h => h) (Or.inl ⟨by rfl, ?yb0⟩) (fun _ => trivial) ?_
   case yb0 => (intro W0 _; go_simp; (try with_reducible rfl))
   simp only [Act.put, CL]
   refine wpTill_takeF (i := 1) (v := .int .u8 x.toNat) rfl (by kernel_rfl) (by kernel_rfl) (by kernel_rfl) (fun l => rfl) (fun _ _ _ h => h) (Or.inl ⟨by rfl, ?yb1⟩) (fun _ => trivial) ?_
   case yb1 => (intro W0 _; go_simp; (try with_reducible rfl))
   simp only [Act.put, CL]
   refine wpTill_takeF (i := 2) (v := .int .u8 (d : Int)) rfl (by kernel_rfl) (by kernel_rfl) (by kernel_rfl) (fun l => rfl) (fun _ _ _ h => h) (Or.inl ⟨by rfl, ?yb2⟩) (fun _ => trivial) ?_
   case yb2 => (intro W0 _; have h7 := hdi; go_simp; (try with_reducible rfl))
   simp only [Act.put, CL]
   refine wpTill_takeF (i := 3) (v := .int .u8 (hB d).toNat) rfl (by kernel_rfl) (by kernel_rfl) (by kernel_rfl) (fun l => rfl) (fun _ _ _ h => h) (Or.inl ⟨by rfl, ?yb3⟩) (fun _ => trivial) ?_
   case yb3 => (intro W0 _; have h7 := hB_get d; have h8 : (d : Int) < 16 := (by omega); go_simp; (try with_reducible rfl))
   simp only [Act.put, CL]
   refine wpTill_takeF (i := 4) (v := .int .u8 x.toNat) rfl (by kernel_rfl) (by kernel_rfl) (by kernel_rfl) (fun l => rfl) (fun _ _ _ h => h) (Or.inl ⟨by rfl, ?yb4⟩) (fun _ => trivial) ?_
   case yb4 => (intro W0 _; go_simp; (try with_reducible rfl))
   simp only [Act.put, CL]
   refine wpTill_takeF (i := 5) (v := .int .u8 (q : Int)) rfl (by kernel_rfl) (by kernel_rfl) (by kernel_rfl) (fun l => rfl) (fun _ _ _ h => h) (Or.inl ⟨by rfl, ?yb5⟩) (fun _ => trivial) ?_
   case yb5 => (intro W0 _; have h7 := hqi; go_simp; (try with_reducible rfl))
   simp only [Act.put, CL]
   refine wpTill_takeF (i := 6) (v := .int .u8 (hB q).toNat) rfl (by kernel_rfl) (by kernel_rfl) (by kernel_rfl) (fun l => rfl) (fun _ _ _ h => h) (Or.inl ⟨by rfl, ?yb6⟩) (fun _ => trivial) ?_
   case yb6 => (intro W0 _; have h7 := hB_get q; have h8 : (q : Int) < 16 := (by omega); go_simp; (try with_reducible rfl))
   simp only [Act.put, CL]
   refine wpTill_ready (rs := [7]) (by kernel_rfl) (by simp) ?_
   refine (AllTill.cons rfl (fun KK hKK => ?_) AllTill.nil)
   rw [if_pos (by rfl)]
   go_simp
   refine hKK _ _ (fun _ => trivial) ?_
   clear hKK KK
   simp only [Act.put, CL]
   refine wpTill_ready (rs := [8]) (by kernel_rfl) (by simp) ?_
   refine (AllTill.cons rfl (fun KK hKK => ?_) AllTill.nil)
   rw [if_pos (by rfl)]
   refine wp_buf_append _ _ rfl HB1.out rfl [hB d, hB q] rfl rfl (by simp; omega) ?_
   intro v' w' hB'
   refine hKK _ _ (fun _ => trivial) ?_
   clear hKK KK
   simp only [Act.put, CL]
   refine wpTill_ready (rs := [9]) (by kernel_rfl) (by simp) ?_
   refine (AllTill.cons rfl (fun KK hKK => ?_) AllTill.nil)
   rw [if_pos (by rfl)]
   go_simp
   refine hKK _ _ (fun _ => trivial) ?_
   clear hKK KK
   simp only [Act.put, CL]
   refine wpTill_done (by kernel_rfl) ?_ _
   (try simp only [Exit.then])
   go_wp2_with fail
   go_roundw
   case rel => exact ⟨k + 1, _, by omega, by go_num, by simp; omega, HS, hB'⟩
   case measure => simp [intOf]; omega
  ·obtain rfl : k = 32 := by omega
   have hcon : decide (((32 : Nat) : Int) < 32) = false := by decide
   have hcv := HB.out.string
   have HT : Hid (str out = str (idText I)) := Lib.hid (by rw [HO.out]; rfl)
   go_wp2_with fail
   go_ret
   exact ⟨congrArg (fun s => Ending.returned (.string s)) HT.out, b1.out.trans (HB.out.below.mono b1.out.size)⟩
end Go.Proofs.YtimioelnnhnbiaaGreatDoor
