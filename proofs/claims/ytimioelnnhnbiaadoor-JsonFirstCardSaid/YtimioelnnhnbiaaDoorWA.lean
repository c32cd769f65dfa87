/-
  THE WALKS, first part: the reader's block; fail, peek, take of json's reader. CONDITIONS: the reader lies in a block of its own; the text is not too long.
-/
import Derived.Test.YtimioelnnhnbiaaDoorBase
import Derived.Test.YtimioelnnhnbiaaDoorBld
namespace Go.Proofs.YtimioelnnhnbiaaDoor
open Go.RowKit
def str (s : Js.Bs) : ByteArray := ⟨s.toArray⟩
theorem str_size (s : Js.Bs) : (str s).size = s.length := by unfold str; rw [Lib.size_eq]
def RdC (s : Js.Bs) (st : Js.St) : Array Value := #[.string (str s), .int .i64 st.at_, .int .i64 st.deep, .int .i64 st.nodes, .int .i64 st.bytes, .bool st.large]
/-- A reader in a block of its own. -/
def RdAt (w : World) (b : Nat) (s : Js.Bs) (st : Js.St) : Prop := w.heap[b]? = some (.cells (RdC s st) 63 (0, 0))
/-- What leaves a reader by fail. -/
def bad (k : Nat) : Ending := .panicked [{ v := .iface 64 (.int .i64 k), recovered := false }]
theorem RdAt.cells {w : World} {b : Nat} {s : Js.Bs} {st : Js.St} (h : RdAt w b s st) :
    w.cell? ⟨b, 0, none⟩ = some (.string (str s)) ∧ w.cell? ⟨b, 1, none⟩ = some (.int .i64 st.at_) ∧ w.cell? ⟨b, 2, none⟩ = some (.int .i64 st.deep) ∧ w.cell? ⟨b, 3, none⟩ = some (.int .i64 st.nodes) ∧ w.cell? ⟨b, 4, none⟩ = some (.int .i64 st.bytes) ∧ w.cell? ⟨b, 5, none⟩ = some (.bool st.large) :=
  ⟨(blk_cells h 0).trans rfl, (blk_cells h 1).trans rfl, (blk_cells h 2).trans rfl, (blk_cells h 3).trans rfl, (blk_cells h 4).trans rfl, (blk_cells h 5).trans rfl⟩
theorem RdAt.free {w : World} {b : Nat} {s : Js.Bs} {st : Js.St} (h : RdAt w b s st) (i : Nat) : w.frozen? ⟨b, i, none⟩ = false := blk_free h i
theorem RdAt.lt {w : World} {b : Nat} {s : Js.Bs} {st : Js.St} (h : RdAt w b s st) : b < w.heap.size := (Array.getElem?_eq_some_iff.1 h).1
theorem RdAt.next {w w' : World} {b : Nat} {s : Js.Bs} {st : Js.St} (h : RdAt w b s st) (hb : Below w.heap.size w w') : RdAt w' b s st := blk_next hb h
theorem RdAt.drewN {w : World} {b : Nat} {s : Js.Bs} {st : Js.St} (h : RdAt w b s st) (n : Nat) : RdAt (w.drewN n) b s st := h.next (below_drewN (Below.refl _ _) n)
theorem RdAt.toAt {w : World} {b : Nat} {s : Js.Bs} {st : Js.St} (h : RdAt w b s st) (k : Nat) : RdAt (w.setCell ⟨b, 1, none⟩ (.int .i64 k)) b s { st with at_ := k } := (but_set (i := 1) (.int .i64 k) h).2
theorem RdAt.toDeep {w : World} {b : Nat} {s : Js.Bs} {st : Js.St} (h : RdAt w b s st) (k : Nat) : RdAt (w.setCell ⟨b, 2, none⟩ (.int .i64 k)) b s { st with deep := k } := (but_set (i := 2) (.int .i64 k) h).2
theorem RdAt.toNodes {w : World} {b : Nat} {s : Js.Bs} {st : Js.St} (h : RdAt w b s st) (k : Nat) : RdAt (w.setCell ⟨b, 3, none⟩ (.int .i64 k)) b s { st with nodes := k } := (but_set (i := 3) (.int .i64 k) h).2
theorem RdAt.toBytes {w : World} {b : Nat} {s : Js.Bs} {st : Js.St} (h : RdAt w b s st) (k : Nat) : RdAt (w.setCell ⟨b, 4, none⟩ (.int .i64 k)) b s { st with bytes := k } := (but_set (i := 4) (.int .i64 k) h).2
theorem RdAt.toLarge {w : World} {b : Nat} {s : Js.Bs} {st : Js.St} (h : RdAt w b s st) (q : Bool) : RdAt (w.setCell ⟨b, 5, none⟩ (.bool q)) b s { st with large := q } := (but_set (i := 5) (.bool q) h).2
theorem RdAt.but {w : World} {b : Nat} {s : Js.Bs} {st : Js.St} (h : RdAt w b s st) (i : Nat) (v : Value) : But [b] w (w.setCell ⟨b, i, none⟩ v) := (but_set (i := i) v h).1
theorem RdAt.step {w : World} {b : Nat} {s : Js.Bs} {st : Js.St} (h : RdAt w b s st) : RdAt (w.setCell ⟨b, 1, none⟩ (.int .i64 ((st.at_ : Int) + 1))) b s (Js.step st) := h.toAt (st.at_ + 1)
set_option maxHeartbeats 1000000 in
theorem fail_any (b : Nat) (s : Js.Bs) (st : Js.St) (w : World) (h : RdAt w b s st) :
    Calls Tryd.prog 26 #[.pointer (some ⟨b, 0, none⟩)] w fun e w' => e = bad st.at_ ∧ w = w' := by
  obtain ⟨c0, c1, -⟩ := h.cells
  clear h
  go_enter Tryd.func26, Tryd.ntmps26
  go_wp2_with fail
  exact ⟨rfl, rfl, rfl⟩
theorem str_get {s : Js.Bs} {k : Nat} {c : UInt8} (h : s[k]? = some c) (hk : k < (str s).size) : (str s)[k] = c := by
  obtain ⟨hk', e⟩ := List.getElem?_eq_some_iff.1 h
  show s.toArray[k] = c
  simpa using e
theorem drewN2 (w : World) (a b : Nat) : ∃ n, (w.drewN a).drewN b = w.drewN n := ⟨_, World.drewN_drewN w a b⟩
theorem peek_of {s : Js.Bs} {st : Js.St} {c : UInt8} (h : s[st.at_]? = some c) : Js.peek s st = c := by
  unfold Js.peek
  obtain ⟨hk, e⟩ := List.getElem?_eq_some_iff.1 h
  rw [List.drop_eq_getElem_cons hk]
  exact e
theorem peek_end {s : Js.Bs} {st : Js.St} (h : s.length ≤ st.at_) : Js.peek s st = 0 := by
  unfold Js.peek; rw [List.drop_eq_nil_of_le h]; rfl
set_option maxHeartbeats 1000000 in
theorem peek_any (b : Nat) (s : Js.Bs) (st : Js.St) (w : World) (h : RdAt w b s st) (hlen : s.length ≤ 1073741824) (hat : st.at_ ≤ s.length) :
    Calls Tryd.prog 46 #[.pointer (some ⟨b, 0, none⟩)] w fun e w' => e = .returned (.int .u8 (Js.peek s st).toNat) ∧ ∃ n, w' = w.drewN n := by
  obtain ⟨c0, c1, -⟩ := h.cells
  have hz := str_size s
  clear h
  by_cases hn : st.at_ = s.length
  · have hp : (Js.peek s st) = 0 := peek_end (by omega)
    have q : ((st.at_ : Int) == (s.length : Int)) = true := by simp [hn]
    go_enter Tryd.func46, Tryd.ntmps46
    go_wp2_with fail
    go_quiet (fail)
    go_wp2_with fail
    go_ret
    rw [hp]
    exact ⟨rfl, _, rfl⟩
  · have hlt : st.at_ < s.length := by omega
    have q : ((st.at_ : Int) == (s.length : Int)) = false := by simp; omega
    have HP := Lib.hid (peek_of (s := s) (st := st) (List.getElem?_eq_getElem hlt))
    have HG := Lib.hid (str_get (List.getElem?_eq_getElem hlt))
    go_enter Tryd.func46, Tryd.ntmps46
    go_wp2_with fail
    go_quiet (fail)
    go_wp2_with fail
    go_quiet (fail)
    go_wp2_with fail
    go_ret
    rw [HP.out, HG.out]
    exact ⟨rfl, drewN2 _ _ _⟩
/-- What comes of a reader's part: a value and the reader turned, or a panic. -/
def ROut {α : Type} (b : Nat) (s : Js.Bs) (w : World) (val : α → Value) : Js.Res α → Ending → World → Prop
  | .ok x st, e, w' => e = .returned (val x) ∧ RdAt w' b s st ∧ But [b] w w'
  | .bad k, e, w' => e = bad k ∧ But [b] w w'
  | .out, _, _ => False
theorem out_bad {α : Type} {fn : Func} {b : Nat} {s : Js.Bs} {w w' : World} {val : α → Value} {r : Js.Res α} {k : Nat} {a : Act} (hr : r = .bad k) (hd : a.defers = []) (hb : But [b] w w') :
    bodyPost Tryd.prog fn (ROut b s w val r) (.panic [{ v := .iface 64 (.int .i64 k), recovered := false }]) a w' := by
  subst hr
  exact ⟨hd, rfl, hb⟩
theorem take_hit {s : Js.Bs} {st : Js.St} {c : UInt8} (h : s[st.at_]? = some c) : Js.take s c st = .ok () (Js.step st) := by unfold Js.take; rw [if_pos h]
theorem take_miss {s : Js.Bs} {st : Js.St} {c : UInt8} (h : s[st.at_]? ≠ some c) : Js.take s c st = .bad st.at_ := by unfold Js.take; rw [if_neg h]
set_option maxHeartbeats 1000000 in
theorem take_any (b : Nat) (s : Js.Bs) (c : UInt8) (st : Js.St) (w : World) (h : RdAt w b s st) (hlen : s.length ≤ 1073741824) (hat : st.at_ ≤ s.length) :
    Calls Tryd.prog 53 #[.pointer (some ⟨b, 0, none⟩), .int .u8 c.toNat] w (ROut b s w (fun _ => .tuple #[]) (Js.take s c st)) := by
  have HR := Lib.hid h
  obtain ⟨c0, c1, -⟩ := h.cells
  have hz := str_size s
  clear h
  by_cases hn : st.at_ = s.length
  · have HT : Hid (Js.take s c st = .bad st.at_) := Lib.hid (by unfold Js.take; rw [List.getElem?_eq_none (by omega), if_neg (by simp)])
    have q : ((st.at_ : Int) == (s.length : Int)) = true := by simp [hn]
    clear hn
    go_enter Tryd.func53, Tryd.ntmps53
    go_wp2_with fail
    go_quiet (fail)
    go_wp2_with fail
    refine (fail_any b s st _ (HR.out.drewN _)).mono ?_
    rintro e w' ⟨rfl, rfl⟩
    unfold bad
    go_wp2_with fail
    exact out_bad HT.out rfl ((But.refl _ _).drewN _)
  · have hlt : st.at_ < s.length := by omega
    have q : ((st.at_ : Int) == (s.length : Int)) = false := by simp; omega
    have hk : st.at_ < (str s).size := by omega
    obtain ⟨x, hx⟩ : ∃ x, s[st.at_]? = some x := ⟨_, List.getElem?_eq_getElem hlt⟩
    have HG := str_get hx hk
    by_cases hc : x = c
    · have qn : (((str s)[st.at_].toNat : Int) != (c.toNat : Int)) = false := by rw [HG, hc]; simp
      have HT := Lib.hid (take_hit (s := s) (st := st) (c := c) (by rw [hx, hc]))
      have f1 := HR.out.free 1
      clear hc hx HG
      go_enter Tryd.func53, Tryd.ntmps53
      go_wp2_with fail
      go_quiet (fail)
      go_wp2_with fail
      go_end0
      rw [HT.out]
      exact ⟨rfl, (HR.out.drewN _).step, (But.refl _ _).drewN _ |>.trans ((HR.out.drewN _).but 1 _)⟩
    · have qn : (((str s)[st.at_].toNat : Int) != (c.toNat : Int)) = true := by rw [HG]; simp; intro e; exact hc (UInt8.toNat_inj.1 (by omega))
      have HT := Lib.hid (take_miss (s := s) (st := st) (c := c) (by rw [hx]; simpa using hc))
      clear hc hx HG
      go_enter Tryd.func53, Tryd.ntmps53
      go_wp2_with fail
      go_quiet (fail)
      go_wp2_with fail
      refine (fail_any b s st _ (HR.out.drewN _)).mono ?_
      rintro e w' ⟨rfl, rfl⟩
      unfold bad
      go_wp2_with fail
      exact out_bad HT.out rfl ((But.refl _ _).drewN _)
end Go.Proofs.YtimioelnnhnbiaaDoor
