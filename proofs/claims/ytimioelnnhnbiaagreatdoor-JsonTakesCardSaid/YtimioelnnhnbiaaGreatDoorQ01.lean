/-
  Joined: Bld WA WB WC. CONDITIONS: as each law says.
-/
import Derived.Test.YtimioelnnhnbiaaGreatDoorQ00
import Derived.WalkKit
import Derived.WalkSpells
import Derived.WalkLawsBesides
import Derived.Lib.Hide
import Derived.Deep.LoopGhost
set_option linter.unusedVariables false
namespace Go.Proofs.YtimioelnnhnbiaaGreatDoor
open Go.RowKit

/-- A builder of the call's own, in block b (blocks from B on are the call's), that holds the bytes l. -/
def IsB (B b : Nat) (l : List UInt8) (w : World) : Prop := Lib.IsBuilderF 112 5 B b (Lib.byteCells l) w

theorem bld_size : (Tryz.prog.info? 112).map (·.size) = some 2 := by kernel_rfl
theorem bld_lies : liesAt Tryz.prog Tryz.prog.depth 112 (2 / Tryz.prog.cellsOf 112) 0 112 1 = true := by kernel_rfl
theorem byte_info : (Tryz.prog.info? 5).map (fun i => (i.zero, i.size, i.bytes)) = some (some (.int .u8 0), 1, 1) := by kernel_rfl

set_option maxHeartbeats 1000000 in
set_option maxRecDepth 100000 in
theorem copyCheck_used (b : Nat) (w : World) (h0 : w.cell? ⟨b, 0, none⟩ = some (.pointer (some ⟨b, 0, none⟩))) :
  Calls Tryz.prog 94 #[.pointer (some ⟨b, 0, none⟩)] w fun e w' => e = .returned (.tuple #[]) ∧ w = w' := by
 obtain ⟨j, hj, _⟩ := Option.map_eq_some_iff.1 bld_size
 go_enter Tryz.func94, Tryz.ntmps94
 go_wp2
 rw [Lib.run_neq_ptr_same w _ Tryz.underlying109 hj]
 go_wp2
 go_end0
 exact ⟨rfl, rfl⟩

set_option maxHeartbeats 1000000 in
set_option maxRecDepth 100000 in
theorem copyCheck_fresh (b : Nat) (w : World) (h0 : w.cell? ⟨b, 0, none⟩ = some (.pointer none)) (hsh : w.shape? b = some (112, 2)) (hfz : w.frozen? ⟨b, 0, none⟩ = false) :
  Calls Tryz.prog 94 #[.pointer (some ⟨b, 0, none⟩)] w fun e w' => e = .returned (.tuple #[]) ∧ w' = w.setCell ⟨b, 0, none⟩ (.pointer (some ⟨b, 0, none⟩)) := by
 obtain ⟨j, hj, hjs⟩ := Option.map_eq_some_iff.1 bld_size
 go_enter Tryz.func94, Tryz.ntmps94
 go_wp2
 rw [Lib.run_to_unsafe w ⟨b, 0, none⟩ Tryz.underlying109 Tryz.underlying157 hj (by rw [hjs]; decide) hsh (Nat.zero_lt_succ 1)]
 simp only [Result.andThen]
 rw [Oper.upon_value]
 go_wp2
 rw [run_callFunc_extern Tryz.func101 (by kernel_rfl) (by kernel_rfl) (by kernel_rfl) (e := Extern.AbiNoEscape.same) (by kernel_rfl)]
 rw [Lib.run_noEscape]
 simp only [Result.andThen]
 rw [Oper.upon_value]
 go_wp2
 rw [Lib.run_from_unsafe w ⟨b, 0, none⟩ Tryz.underlying157 Tryz.underlying109 hj hsh bld_lies]
 simp only [Result.andThen]
 rw [Oper.upon_value]
 go_wp2
 go_end0
 exact ⟨rfl, rfl⟩

theorem copyCheck_k (B b : Nat) (bs : List Value) (w : World) (h : Lib.IsBuilderF 112 5 B b bs w) :
  Calls Tryz.prog 94 #[.pointer (some ⟨b, 0, none⟩)] w fun e w' => e = .returned (.tuple #[]) ∧ (Lib.BuilderAtF 112 5 B b (.pointer (some ⟨b, 0, none⟩)) bs w' ∧ Below B w w' ∧ Lib.OthersKept 5 (some b) w w') := by
 rcases h with h | h
 ·refine (copyCheck_fresh b w h.cell0 h.shape h.frozen0).mono ?_
  rintro e w' ⟨rfl, rfl⟩
  exact ⟨rfl, h.used _, (Below.refl B w).setCell (p := ⟨b, 0, none⟩) h.1 _, (Lib.OthersKept.refl _ _ w).setCell ⟨b, 0, none⟩ rfl _⟩
 ·refine (copyCheck_used b w h.cell0).mono ?_
  rintro e w' ⟨rfl, rfl⟩
  exact ⟨rfl, h, Below.refl B _, Lib.OthersKept.refl _ _ _⟩

set_option maxHeartbeats 2000000 in
set_option maxRecDepth 100000 in
theorem writeByte_v (B b : Nat) (bs : List Value) (c : Int) (w : World) (h : Lib.IsBuilderF 112 5 B b bs w) (hlen : bs.length + 1 ≤ 140737488355328) (hBw : B ≤ w.heap.size) :
  Calls Tryz.prog 79 #[.pointer (some ⟨b, 0, none⟩), .int .u8 c] w fun e w' => e = .returned .nilIface ∧ (Lib.BuilderAtF 112 5 B b (.pointer (some ⟨b, 0, none⟩)) (bs ++ [.int .u8 c]) w' ∧ Below B w w' ∧ Lib.OthersKept 5 (some b) w w') := by
 obtain ⟨i0, hi, hz0, hz1, hz2⟩ := info_parts byte_info
 go_enter Tryz.func79, Tryz.ntmps79
 go_wp2_with (go_at_call 94; refine (copyCheck_k B b bs _ h).mono ?_)
 rintro e w1 ⟨rfl, h1, hb1, hk1⟩
 obtain ⟨hB, v, hbk, hown, hne⟩ := h1
 have c0 : w1.cell? ⟨b, 0, none⟩ = some (.pointer (some ⟨b, 0, none⟩)) := by rw [Lib.cell_of_heap hbk]; rfl
 have c1 : w1.cell? ⟨b, 1, none⟩ = some v := by rw [Lib.cell_of_heap hbk]; rfl
 go_wp2_with (at_builtin; refine wpList_append_ownF _ rfl _ _ 110 rfl B 5 i0 (.int .u8 0) 1 1 Tryz.underlying110 hi hz0 hz1 hz2 rfl (by decide) _ _ _ rfl (hown.alloc _) ⟨w1.heap.size, 0, none⟩ 1 1 [.int .u8 c] rfl rfl ?c1 ?c2 ?c3 ?c4 ?c5 ?_)
 case c1 =>
  intro j u hj
  match j, hj with
  | 0, hj => simp at hj; subst hj; simp [Addr.add]
 case c2 => intro u hu; simp at hu; subst hu; rfl
 case c3 => unfold maxLen; omega
 case c4 => omega
 case c5 => have := hb1.size; simp; omega
 intro v' w2 hown' hgrow _
 have hlt : b < w1.heap.size := by
  rcases Nat.lt_or_ge b w1.heap.size with h' | h'
  ·exact h'
  ·simp [Array.getElem?_eq_none h'] at hbk
 have hb2 : w2.heap[b]? = some (.cells #[.pointer (some ⟨b, 0, none⟩), v] 112 (0, 0)) := by
  rw [hgrow.block b (by simp; omega) (fun e => hne e.symm), Lib.alloc_old w1 _ b hlt]
  exact hbk
 have d0 : w2.cell? ⟨b, 0, none⟩ = some (.pointer (some ⟨b, 0, none⟩)) := by rw [Lib.cell_of_heap hb2]; rfl
 have d1 : w2.cell? ⟨b, 1, none⟩ = some v := by rw [Lib.cell_of_heap hb2]; rfl
 have f1 : w2.frozen? ⟨b, 1, none⟩ = false := Lib.frozen_of_heap hb2 1
 obtain ⟨g, cap, rfl⟩ : ∃ g cap, v' = .slice (some ⟨g, 0, none⟩) (bs.length + 1) cap := by
  rcases hown'.2 with ⟨_, h0⟩ | ⟨g, cap, cur, fz, hv, _⟩
  ·omega
  ·exact ⟨g, cap, hv⟩
 go_wp2
 go_ret
 refine ⟨rfl, ?_, ?_, ((hk1.alloc _).grown hgrow (Lib.ownsRowF_kind (hown.alloc _))).setCell ⟨b, 1, none⟩ rfl _⟩
 ·exact Lib.BuilderAtF.put (T := 112) (e := 5) hB hb2 (bs' := bs ++ [.int .u8 c]) (by simpa using hown') (by decide)
 ·exact ((hb1.alloc (by have := hb1.size; omega) _).grown hgrow (by have := hb1.size; simp; omega) (fun k hk => (hown.lt k hk).1)).setCell (p := ⟨b, 1, none⟩) hB _

set_option maxHeartbeats 2000000 in
set_option maxRecDepth 100000 in
theorem writeString_v (B b : Nat) (bs : List Value) (s : ByteArray) (w : World) (h : Lib.IsBuilderF 112 5 B b bs w) (hlen : bs.length + s.size ≤ 140737488355328) (hBw : B ≤ w.heap.size) :
  Calls Tryz.prog 75 #[.pointer (some ⟨b, 0, none⟩), .string s] w fun e w' => e = .returned (.tuple #[.int .i64 s.size, .nilIface]) ∧ (Lib.BuilderAtF 112 5 B b (.pointer (some ⟨b, 0, none⟩)) (bs ++ Lib.strCells s) w' ∧ Below B w w' ∧ Lib.OthersKept 5 (some b) w w') := by
 obtain ⟨i0, hi, hz0, hz1, hz2⟩ := info_parts byte_info
 go_enter Tryz.func75, Tryz.ntmps75
 go_wp2_with (go_at_call 94; refine (copyCheck_k B b bs _ h).mono ?_)
 rintro e w1 ⟨rfl, h1, hb1, hk1⟩
 obtain ⟨hB, v, hbk, hown, hne⟩ := h1
 have c0 : w1.cell? ⟨b, 0, none⟩ = some (.pointer (some ⟨b, 0, none⟩)) := by rw [Lib.cell_of_heap hbk]; rfl
 have c1 : w1.cell? ⟨b, 1, none⟩ = some v := by rw [Lib.cell_of_heap hbk]; rfl
 go_wp2_with (at_builtin; refine Lib.wpList_append_own_stringF _ rfl _ _ 110 9 rfl B 5 i0 Tryz.underlying110 Tryz.underlying9 hi hz0 hz1 hz2 _ _ _ rfl hown s rfl ?c3 ?c4 ?c5 ?_)
 case c3 => unfold maxLen; omega
 case c4 => omega
 case c5 => have := hb1.size; omega
 intro v' w2 hown' hgrow _
 have hlt : b < w1.heap.size := by
  rcases Nat.lt_or_ge b w1.heap.size with h' | h'
  ·exact h'
  ·simp [Array.getElem?_eq_none h'] at hbk
 have hb2 : w2.heap[b]? = some (.cells #[.pointer (some ⟨b, 0, none⟩), v] 112 (0, 0)) := by
  rw [hgrow.block b hlt (fun e => hne e.symm)]
  exact hbk
 have d0 : w2.cell? ⟨b, 0, none⟩ = some (.pointer (some ⟨b, 0, none⟩)) := by rw [Lib.cell_of_heap hb2]; rfl
 have d1 : w2.cell? ⟨b, 1, none⟩ = some v := by rw [Lib.cell_of_heap hb2]; rfl
 have f1 : w2.frozen? ⟨b, 1, none⟩ = false := Lib.frozen_of_heap hb2 1
 obtain ⟨ao, n', cap, rfl⟩ : ∃ ao n' cap, v' = .slice ao n' cap := by
  rcases hown'.2 with ⟨hv, _⟩ | ⟨g, cap, cur, fz, hv, _⟩
  ·exact ⟨_, _, _, hv⟩
  ·exact ⟨_, _, _, hv⟩
 go_wp2
 go_ret2
 refine ⟨rfl, ?_, ?_, (hk1.grown hgrow (Lib.ownsRowF_kind hown)).setCell ⟨b, 1, none⟩ rfl _⟩
 ·exact Lib.BuilderAtF.put (T := 112) (e := 5) hB hb2 (bs' := bs ++ Lib.strCells s) (by simpa [Lib.strCells_length] using hown') (by decide)
 ·exact (hb1.grown hgrow (by have := hb1.size; omega) (fun k hk => (hown.lt k hk).1)).setCell (p := ⟨b, 1, none⟩) hB _


/-- A new builder ('var b strings.Builder'). -/
theorem isB_new (w : World) : IsB w.heap.size w.heap.size [] (w.alloc (.cells #[.pointer none, .slice none 0 0] 112)) := by
 refine .inl ⟨Nat.le_refl _, .slice none 0 0, heap_alloc_new w _, ⟨by simp [Lib.byteCells], .inl ⟨rfl, rfl⟩⟩, by simp [Value.ownBlock]⟩
theorem IsB.lt {B b : Nat} {l : List UInt8} {w : World} (h : IsB B b l w) : b < w.heap.size := h.elim (fun x => x.lt) (fun x => x.lt)
theorem IsB.base {B b : Nat} {l : List UInt8} {w : World} (h : IsB B b l w) : B ≤ b := h.elim (fun x => x.1) (fun x => x.1)
theorem IsB.drew {B b : Nat} {l : List UInt8} {w : World} (h : IsB B b l w) : IsB B b l w.drew := h.elim (fun x => .inl x.drew) (fun x => .inr x.drew)
theorem IsB.alloc {B b : Nat} {l : List UInt8} {w : World} (h : IsB B b l w) (o : Obj) : IsB B b l (w.alloc o) := h.elim (fun x => .inl (x.alloc o)) (fun x => .inr (x.alloc o))

theorem byteCells_len (l : List UInt8) : (Lib.byteCells l).length = l.length := Lib.byteCells_length l

theorem writeByte_any (B b : Nat) (l : List UInt8) (c : UInt8) (w : World) (h : IsB B b l w) (hlen : l.length + 1 ≤ 140737488355328) :
  Calls Tryz.prog 79 #[.pointer (some ⟨b, 0, none⟩), .int .u8 c.toNat] w fun e w' => e = .returned .nilIface ∧ IsB B b (l ++ [c]) w' ∧ Below B w w' ∧ Lib.OthersKept 5 (some b) w w' := by
 have hlt := h.lt
 have hb := h.base
 refine (writeByte_v B b _ c.toNat w h (by rw [byteCells_len]; exact hlen) (by omega)).mono ?_
 rintro e w' ⟨rfl, h1, h2, h3⟩
 exact ⟨rfl, by rw [IsB, Lib.byteCells_append]; exact .inr h1, h2, h3⟩
theorem writeByte_at (B b : Nat) (l : List UInt8) (n : Int) (c : UInt8) (hc : (c.toNat : Int) = n) (w : World) (h : IsB B b l w) (hlen : l.length + 1 ≤ 140737488355328) :
  Calls Tryz.prog 79 #[.pointer (some ⟨b, 0, none⟩), .int .u8 n] w fun e w' => e = .returned .nilIface ∧ IsB B b (l ++ [c]) w' ∧ Below B w w' ∧ Lib.OthersKept 5 (some b) w w' := by
 subst hc
 exact writeByte_any B b l c w h hlen
theorem writeString_any (B b : Nat) (l : List UInt8) (s : ByteArray) (w : World) (h : IsB B b l w) (hlen : l.length + s.size ≤ 140737488355328) :
  Calls Tryz.prog 75 #[.pointer (some ⟨b, 0, none⟩), .string s] w fun e w' => e = .returned (.tuple #[.int .i64 s.size, .nilIface]) ∧ IsB B b (l ++ s.data.toList) w' ∧ Below B w w' ∧ Lib.OthersKept 5 (some b) w w' := by
 have hlt := h.lt
 have hb := h.base
 refine (writeString_v B b _ s w h (by rw [byteCells_len]; exact hlen) (by omega)).mono ?_
 rintro e w' ⟨rfl, h1, h2, h3⟩
 exact ⟨rfl, by rw [IsB, Lib.byteCells_append]; exact .inr h1, h2, h3⟩
theorem writeString_at (B b : Nat) (l m : List UInt8) (s : ByteArray) (hs : s.data.toList = m) (w : World) (h : IsB B b l w) (hlen : l.length + m.length ≤ 140737488355328) :
  Calls Tryz.prog 75 #[.pointer (some ⟨b, 0, none⟩), .string s] w fun e w' => e = .returned (.tuple #[.int .i64 s.size, .nilIface]) ∧ IsB B b (l ++ m) w' ∧ Below B w w' ∧ Lib.OthersKept 5 (some b) w w' := by
 subst hs
 exact writeString_any B b l s w h (by rw [Lib.size_eq]; exact hlen)
theorem bldLen_any (B b : Nat) (l : List UInt8) (w : World) (h : IsB B b l w) :
  Calls Tryz.prog 100 #[.pointer (some ⟨b, 0, none⟩)] w fun e w' => e = .returned (.int .i64 l.length) ∧ w = w' := by
 refine (Tryz.Builder_Len_f B b _ w h).mono ?_
 rintro e w' ⟨rfl, rfl⟩
 exact ⟨by rw [byteCells_len], rfl⟩
theorem bldString_any (B b : Nat) (l : List UInt8) (w : World) (h : IsB B b l w) :
  Calls Tryz.prog 52 #[.pointer (some ⟨b, 0, none⟩)] w fun e w' => e = .returned (.string ⟨l.toArray⟩) ∧ IsB B b l w' ∧ Below B w w' ∧ Lib.OthersKept 5 (some b) w w' := by
 have hlt := h.lt
 have hb := h.base
 exact Tryz.Builder_String_any_k B b l w h (by omega)
end Go.Proofs.YtimioelnnhnbiaaGreatDoor
namespace Go.Proofs.YtimioelnnhnbiaaGreatDoor
open Go.RowKit
def str (s : Js.Bs) : ByteArray := ⟨s.toArray⟩
theorem str_size (s : Js.Bs) : (str s).size = s.length := by unfold str; rw [Lib.size_eq]
def RdC (s : Js.Bs) (st : Js.St) : Array Value := #[.string (str s), .int .i64 st.at_, .int .i64 st.deep, .int .i64 st.nodes, .int .i64 st.bytes, .bool st.large]
/-- A reader in a block of its own. -/
def RdAt (w : World) (b : Nat) (s : Js.Bs) (st : Js.St) : Prop := w.heap[b]? = some (.cells (RdC s st) 105 (0, 0))
/-- What leaves a reader by fail. -/
def bad (k : Nat) : Ending := .panicked [{ v := .iface 106 (.int .i64 k), recovered := false }]
theorem RdAt.cells {w : World} {b : Nat} {s : Js.Bs} {st : Js.St} (h : RdAt w b s st) :
  w.cell? ⟨b, 0, none⟩ = some (.string (str s)) ∧ w.cell? ⟨b, 1, none⟩ = some (.int .i64 st.at_) ∧ w.cell? ⟨b, 2, none⟩ = some (.int .i64 st.deep) ∧ w.cell? ⟨b, 3, none⟩ = some (.int .i64 st.nodes) ∧ w.cell? ⟨b, 4, none⟩ = some (.int .i64 st.bytes) ∧ w.cell? ⟨b, 5, none⟩ = some (.bool st.large) :=
 ⟨(blk_cells h 0).trans rfl, (blk_cells h 1).trans rfl, (blk_cells h 2).trans rfl, (blk_cells h 3).trans rfl, (blk_cells h 4).trans rfl, (blk_cells h 5).trans rfl⟩
theorem RdAt.free {w : World} {b : Nat} {s : Js.Bs} {st : Js.St} (h : RdAt w b s st) (i : Nat) : w.frozen? ⟨b, i, none⟩ = false := blk_free h i
theorem RdAt.lt {w : World} {b : Nat} {s : Js.Bs} {st : Js.St} (h : RdAt w b s st) : b < w.heap.size := (Array.getElem?_eq_some_iff.1 h).1
theorem RdAt.next {w w' : World} {b : Nat} {s : Js.Bs} {st : Js.St} (h : RdAt w b s st) (hb : Below w.heap.size w w') : RdAt w' b s st := blk_next hb h
theorem RdAt.drewN {w : World} {b : Nat} {s : Js.Bs} {st : Js.St} (h : RdAt w b s st) (n : Nat) : RdAt (w.drewN n) b s st := h.next (below_drewN (Below.refl _ _) n)
theorem RdAt.toAt {w : World} {b : Nat} {s : Js.Bs} {st : Js.St} (h : RdAt w b s st) (k : Nat) : RdAt (w.setCell ⟨b, 1, none⟩ (.int .i64 k)) b s { st with at_ := k } := (but_set (i := 1) (.int .i64 k) h).2
theorem RdAt.toDeep {w : World} {b : Nat} {s : Js.Bs} {st : Js.St} (h : RdAt w b s st) (k : Nat) : RdAt (w.setCell ⟨b, 2, none⟩ (.int .i64 k)) b s { st with deep := k } := (but_set (i := 2) (.int .i64 k) h).2
theorem RdAt.toNodes {w : World} {b : Nat} {s : Js.Bs} {st : Js.St} (h : RdAt w b s st) (k : Nat) : RdAt (w.setCell ⟨b, 3, none⟩ (.int .i64 k)) b s { st with nodes := k } := (but_set (i := 3) (.int .i64 k) h).2
theorem RdAt.toBytes {w : World} {b : Nat} {s : Js.Bs} {st : Js.St} (h : RdAt w b s st) (k : Nat) : RdAt (w.setCell ⟨b, 4, none⟩ (.int .i64 k)) b s { st with bytes := k } := (but_set (i := 4) (.int .i64 k) h).2
theorem RdAt.toLarge {w : World} {b : Nat} {s : Js.Bs} {st : Js.St} (h : RdAt w b s st) (q : Bool) : RdAt (w.setCell ⟨b, 5, none⟩ (.bool q)) b s { st with large := q } := (but_set (i := 5) (.bool q) h).2
theorem RdAt.but {w : World} {b : Nat} {s : Js.Bs} {st : Js.St} (h : RdAt w b s st) (i : Nat) (v : Value) : But [b] w (w.setCell ⟨b, i, none⟩ v) := (but_set (i := i) v h).1
theorem RdAt.step {w : World} {b : Nat} {s : Js.Bs} {st : Js.St} (h : RdAt w b s st) : RdAt (w.setCell ⟨b, 1, none⟩ (.int .i64 ((st.at_ : Int) + 1))) b s (Js.step st) := h.toAt (st.at_ + 1)
set_option maxHeartbeats 1000000 in
theorem fail_any (b : Nat) (s : Js.Bs) (st : Js.St) (w : World) (h : RdAt w b s st) :
  Calls Tryz.prog 50 #[.pointer (some ⟨b, 0, none⟩)] w fun e w' => e = bad st.at_ ∧ w = w' := by
 obtain ⟨c0, c1, -⟩ := h.cells
 clear h
 go_enter Tryz.func50, Tryz.ntmps50
 go_wp2_with fail
 exact ⟨rfl, rfl, rfl⟩
theorem str_get {s : Js.Bs} {k : Nat} {c : UInt8} (h : s[k]? = some c) (hk : k < (str s).size) : (str s)[k] = c := by
 obtain ⟨hk', e⟩ := List.getElem?_eq_some_iff.1 h
 show s.toArray[k] = c
 simpa using e
theorem drewN2 (w : World) (a b : Nat) : ∃ n, (w.drewN a).drewN b = w.drewN n := ⟨_, World.drewN_drewN w a b⟩
theorem peek_of {s : Js.Bs} {st : Js.St} {c : UInt8} (h : s[st.at_]? = some c) : Js.peek s st = c := by
 unfold Js.peek
 obtain ⟨hk, e⟩ := List.getElem?_eq_some_iff.1 h
 rw [List.drop_eq_getElem_cons hk]
 exact e
theorem peek_end {s : Js.Bs} {st : Js.St} (h : s.length ≤ st.at_) : Js.peek s st = 0 := by
 unfold Js.peek; rw [List.drop_eq_nil_of_le h]; rfl
set_option maxHeartbeats 1000000 in
theorem peek_any (b : Nat) (s : Js.Bs) (st : Js.St) (w : World) (h : RdAt w b s st) (hlen : s.length ≤ 1073741824) (hat : st.at_ ≤ s.length) :
  Calls Tryz.prog 86 #[.pointer (some ⟨b, 0, none⟩)] w fun e w' => e = .returned (.int .u8 (Js.peek s st).toNat) ∧ ∃ n, w' = w.drewN n := by
 obtain ⟨c0, c1, -⟩ := h.cells
 have hz := str_size s
 clear h
 by_cases hn : st.at_ = s.length
 ·have hp : (Js.peek s st) = 0 := peek_end (by omega)
  have q : ((st.at_ : Int) == (s.length : Int)) = true := by simp [hn]
  go_enter Tryz.func86, Tryz.ntmps86
  go_wp2_with fail
  go_quiet (fail)
  go_wp2_with fail
  go_ret
  rw [hp]
  exact ⟨rfl, _, rfl⟩
 ·have hlt : st.at_ < s.length := by omega
  have q : ((st.at_ : Int) == (s.length : Int)) = false := by simp; omega
  have HP := Lib.hid (peek_of (s := s) (st := st) (List.getElem?_eq_getElem hlt))
  have HG := Lib.hid (str_get (List.getElem?_eq_getElem hlt))
  go_enter Tryz.func86, Tryz.ntmps86
  go_wp2_with fail
  go_quiet (fail)
  go_wp2_with fail
  go_quiet (fail)
  go_wp2_with fail
  go_ret
  rw [HP.out, HG.out]
  exact ⟨rfl, drewN2 _ _ _⟩
/-- What comes of a reader's part: a value and the reader turned, or a panic. -/
def ROut {α : Type} (b : Nat) (s : Js.Bs) (w : World) (val : α → Value) : Js.Res α → Ending → World → Prop
 | .ok x st, e, w' => e = .returned (val x) ∧ RdAt w' b s st ∧ But [b] w w'
 | .bad k, e, w' => e = bad k ∧ But [b] w w'
 | .out, _, _ => False
theorem out_bad {α : Type} {fn : Func} {b : Nat} {s : Js.Bs} {w w' : World} {val : α → Value} {r : Js.Res α} {k : Nat} {a : Act} (hr : r = .bad k) (hd : a.defers = []) (hb : But [b] w w') :
  bodyPost Tryz.prog fn (ROut b s w val r) (.panic [{ v := .iface 106 (.int .i64 k), recovered := false }]) a w' := by
 subst hr
 exact ⟨hd, rfl, hb⟩
theorem take_hit {s : Js.Bs} {st : Js.St} {c : UInt8} (h : s[st.at_]? = some c) : Js.take s c st = .ok () (Js.step st) := by unfold Js.take; rw [if_pos h]
theorem take_miss {s : Js.Bs} {st : Js.St} {c : UInt8} (h : s[st.at_]? ≠ some c) : Js.take s c st = .bad st.at_ := by unfold Js.take; rw [if_neg h]
set_option maxHeartbeats 1000000 in
theorem take_any (b : Nat) (s : Js.Bs) (c : UInt8) (st : Js.St) (w : World) (h : RdAt w b s st) (hlen : s.length ≤ 1073741824) (hat : st.at_ ≤ s.length) :
  Calls Tryz.prog 93 #[.pointer (some ⟨b, 0, none⟩), .int .u8 c.toNat] w (ROut b s w (fun _ => .tuple #[]) (Js.take s c st)) := by
 have HR := Lib.hid h
 obtain ⟨c0, c1, -⟩ := h.cells
 have hz := str_size s
 clear h
 by_cases hn : st.at_ = s.length
 ·have HT : Hid (Js.take s c st = .bad st.at_) := Lib.hid (by unfold Js.take; rw [List.getElem?_eq_none (by omega), if_neg (by simp)])
  have q : ((st.at_ : Int) == (s.length : Int)) = true := by simp [hn]
  clear hn
  go_enter Tryz.func93, Tryz.ntmps93
  go_wp2_with fail
  go_quiet (fail)
  go_wp2_with fail
  refine (fail_any b s st _ (HR.out.drewN _)).mono ?_
  rintro e w' ⟨rfl, rfl⟩
  unfold bad
  go_wp2_with fail
  exact out_bad HT.out rfl ((But.refl _ _).drewN _)
 ·have hlt : st.at_ < s.length := by omega
  have q : ((st.at_ : Int) == (s.length : Int)) = false := by simp; omega
  have hk : st.at_ < (str s).size := by omega
  obtain ⟨x, hx⟩ : ∃ x, s[st.at_]? = some x := ⟨_, List.getElem?_eq_getElem hlt⟩
  have HG := str_get hx hk
  by_cases hc : x = c
  ·have qn : (((str s)[st.at_].toNat : Int) != (c.toNat : Int)) = false := by rw [HG, hc]; simp
   have HT := Lib.hid (take_hit (s := s) (st := st) (c := c) (by rw [hx, hc]))
   have f1 := HR.out.free 1
   clear hc hx HG
   go_enter Tryz.func93, Tryz.ntmps93
   go_wp2_with fail
   go_quiet (fail)
   go_wp2_with fail
   go_end0
   rw [HT.out]
   exact ⟨rfl, (HR.out.drewN _).step, (But.refl _ _).drewN _ |>.trans ((HR.out.drewN _).but 1 _)⟩
  ·have qn : (((str s)[st.at_].toNat : Int) != (c.toNat : Int)) = true := by rw [HG]; simp; intro e; exact hc (UInt8.toNat_inj.1 (by omega))
   have HT := Lib.hid (take_miss (s := s) (st := st) (c := c) (by rw [hx]; simpa using hc))
   clear hc hx HG
   go_enter Tryz.func93, Tryz.ntmps93
   go_wp2_with fail
   go_quiet (fail)
   go_wp2_with fail
   refine (fail_any b s st _ (HR.out.drewN _)).mono ?_
   rintro e w' ⟨rfl, rfl⟩
   unfold bad
   go_wp2_with fail
   exact out_bad HT.out rfl ((But.refl _ _).drewN _)
end Go.Proofs.YtimioelnnhnbiaaGreatDoor
namespace Go.Proofs.YtimioelnnhnbiaaGreatDoor
open Go.RowKit
theorem take_le {s : Js.Bs} {st st' : Js.St} {c : UInt8} {u : Unit} (h : Js.take s c st = .ok u st') : st'.at_ ≤ s.length := by
 unfold Js.take at h
 split at h
 ·rename_i hx
  injection h with _ h
  subst h
  obtain ⟨hk, _⟩ := List.getElem?_eq_some_iff.1 hx
  exact hk
 ·cases h
theorem take_inv (s : Js.Bs) (c : UInt8) (st : Js.St) : Js.take s c st = .ok () (Js.step st) ∨ Js.take s c st = .bad st.at_ := by
 unfold Js.take
 split
 ·exact .inl rfl
 ·exact .inr rfl
theorem word_cons {s : Js.Bs} {c : UInt8} {t : Js.Bs} {st : Js.St} : Js.word s (c :: t) st = (Js.take s c st).bind fun _ st => Js.word s t st := rfl
set_option maxHeartbeats 1000000 in
theorem word_any (l : Js.Bs) (hl : l.length ≤ 100) (b : Nat) (s : Js.Bs) (st : Js.St) (w : World) (h : RdAt w b s st) (hlen : s.length ≤ 1073741824) (hat : st.at_ ≤ s.length) :
  Calls Tryz.prog 87 #[.pointer (some ⟨b, 0, none⟩), .string (str l)] w (ROut b s w (fun _ => .tuple #[]) (Js.word s l st)) := by
 have hz := str_size l
 go_enter Tryz.func87, Tryz.ntmps87
 go_wp2_with fail
 go_loopw [4, 7] (fun _ i wr => ∃ (k : Nat) (st' : Js.St), k ≤ l.length ∧ i = .int .i64 k ∧ st'.at_ ≤ s.length ∧ Hid (RdAt wr b s st') ∧ Hid (But [b] w wr) ∧ Hid (Js.word s l st = Js.word s (l.drop k) st')) (fun _ i _ => l.length - (intOf i).toNat)
 case atStart => exact ⟨0, st, Nat.zero_le _, rfl, hat, Lib.hid h, Lib.hid (But.refl _ _), Lib.hid rfl⟩
 case round =>
  obtain ⟨k, st', hk, rfl, hat', HR, HB, HW⟩ := hrel
  clear h hat
  by_cases hlt : k < l.length
  ·have hks : k < (str l).size := by omega
   obtain ⟨c, hc⟩ : ∃ c, l[k]? = some c := ⟨_, List.getElem?_eq_getElem hlt⟩
   have HG := Lib.hid (str_get hc hks)
   have HD : Hid (Js.word s l st = (Js.take s c st').bind fun _ st => Js.word s (l.drop (k + 1)) st) := Lib.hid (by
    rw [HW.out, List.drop_eq_getElem_cons hlt, word_cons]
    obtain ⟨_, e⟩ := List.getElem?_eq_some_iff.1 hc
    rw [show l[k] = c from e])
   clear hc HW
   go_wp2_with fail
   rw [HG.out]
   refine (take_any b s c st' _ HR.out hlen hat').mono ?_
   intro e w2 ho
   rcases take_inv s c st' with ht | ht
   ·rw [ht] at ho
    obtain ⟨rfl, hr2, hb2⟩ := ho
    have HR2 := Lib.hid hr2
    have HB2 := Lib.hid (HB.out.trans hb2)
    have hat2 := take_le ht
    have HW2 : Hid (Js.word s l st = Js.word s (l.drop (k + 1)) (Js.step st')) := Lib.hid (by rw [HD.out, ht]; rfl)
    clear hr2 hb2 HR HB HD ht
    go_wp2_with fail
    go_roundw
    case rel => exact ⟨k + 1, _, by omega, by go_num, hat2, HR2, HB2, HW2⟩
    case measure => simp [intOf]; omega
   ·rw [ht] at ho
    obtain ⟨rfl, hb2⟩ := ho
    have HB2 := Lib.hid (HB.out.trans hb2)
    have HT : Hid (Js.word s l st = .bad st'.at_) := Lib.hid (by rw [HD.out, ht]; rfl)
    clear hb2 HB HD ht
    unfold bad
    go_wp2_with fail
    exact out_bad HT.out rfl HB2.out
  ·have HT : Hid (Js.word s l st = .ok () st') := Lib.hid (by rw [HW.out, List.drop_eq_nil_of_le (by omega)]; rfl)
   clear HW
   go_wp2_with fail
   go_end0
   rw [HT.out]
   exact ⟨rfl, HR.out, HB.out⟩
def blI (c : UInt8) : Int := Lib.indexByte [32, 9, 10, 13] c
theorem blI_rg (c : UInt8) : -1 ≤ blI c ∧ blI c ≤ 3 ∧ (Js.isBl c = decide (0 ≤ blI c)) := by
 have h : ∀ n : Fin 256, -1 ≤ blI (UInt8.ofNat n.val) ∧ blI (UInt8.ofNat n.val) ≤ 3 ∧ (Js.isBl (UInt8.ofNat n.val) = decide (0 ≤ blI (UInt8.ofNat n.val))) := by decide +kernel
 have := h ⟨c.toNat, c.toNat_lt⟩
 simpa using this
theorem indexBl_any (c : UInt8) (w : World) :
  Calls Tryz.prog 85 #[.string ⟨#[32, 9, 10, 13]⟩, .int .u8 c.toNat] w fun e w' => e = .returned (.int .i64 (blI c)) ∧ w' = w := by
 refine (Tryz.strings_IndexByte _ _ _).mono ?_
 rintro e w' ⟨rfl, rfl⟩
 refine ⟨ret_int ?_, rfl⟩
 unfold blI
 congr 1
 simp
theorem blanks_stop {s : Js.Bs} {st : Js.St} (h : ∀ c, s[st.at_]? = some c → Js.isBl c = false) : Js.blanks s st = st := by
 unfold Js.blanks
 have e : (s.drop st.at_).takeWhile Js.isBl = [] := by
  by_cases hlt : st.at_ < s.length
  ·rw [List.drop_eq_getElem_cons hlt, List.takeWhile_cons, h _ (List.getElem?_eq_getElem hlt)]; rfl
  ·rw [List.drop_eq_nil_of_le (by omega)]; rfl
 rw [e]; rfl
theorem blanks_step {s : Js.Bs} {st : Js.St} {c : UInt8} (h : s[st.at_]? = some c) (hc : Js.isBl c = true) : Js.blanks s st = Js.blanks s (Js.step st) := by
 unfold Js.blanks Js.step
 obtain ⟨hk, e⟩ := List.getElem?_eq_some_iff.1 h
 rw [List.drop_eq_getElem_cons hk, e, List.takeWhile_cons, hc]
 simp only [if_true, List.length_cons]
 congr 1
 omega
theorem blanks_le {s : Js.Bs} {st : Js.St} (h : st.at_ ≤ s.length) : (Js.blanks s st).at_ ≤ s.length := by
 unfold Js.blanks
 have := (List.takeWhile_prefix (p := Js.isBl) (l := s.drop st.at_)).length_le
 rw [List.length_drop] at this
 show st.at_ + _ ≤ _
 omega
set_option maxHeartbeats 2000000 in
theorem blanks_any (b : Nat) (s : Js.Bs) (st : Js.St) (w : World) (h : RdAt w b s st) (hlen : s.length ≤ 1073741824) (hat : st.at_ ≤ s.length) :
  Calls Tryz.prog 73 #[.pointer (some ⟨b, 0, none⟩)] w fun e w' => e = .returned (.tuple #[]) ∧ RdAt w' b s (Js.blanks s st) ∧ But [b] w w' := by
 have hz := str_size s
 go_enter Tryz.func73, Tryz.ntmps73
 go_wp2_with fail
 go_loopg [2] (s.length - st.at_) (fun k _ wr => ∃ st' : Js.St, st'.at_ ≤ s.length ∧ k = s.length - st'.at_ ∧ Hid (RdAt wr b s st') ∧ Hid (But [b] w wr) ∧ Hid (Js.blanks s st = Js.blanks s st'))
 case atStart => exact ⟨st, hat, rfl, Lib.hid h, Lib.hid (But.refl _ _), Lib.hid rfl⟩
 case round =>
  obtain ⟨st', hat', hgk, HR, HB, HW⟩ := hrel
  have HK := Lib.hid hgk
  clear h hat hgk
  obtain ⟨c0, c1, -⟩ := HR.out.cells
  have f1 := HR.out.free 1
  by_cases hlt : st'.at_ < s.length
  ·have hk : st'.at_ < (str s).size := by omega
   obtain ⟨x, hx⟩ : ∃ x, s[st'.at_]? = some x := ⟨_, List.getElem?_eq_getElem hlt⟩
   have HG := str_get hx hk
   have HX := Lib.hid hx
   obtain ⟨r1, r2, r3⟩ := blI_rg x
   have HL := Lib.hid r3
   clear hx r3
   by_cases hb : 0 ≤ blI x
   ·have HS : Hid (Js.blanks s st = Js.blanks s (Js.step st')) := Lib.hid (by rw [HW.out, blanks_step HX.out (by rw [HL.out, decide_eq_true hb])])
    go_wp2_with fail
    go_quiet ((go_at_call 85; exact Calls.quiet_of_same (indexBl_any x _)))
    go_wp2_with fail
    have HR2 := Lib.hid ((HR.out.drewN nq).step)
    have HB2 := Lib.hid (HB.out.trans (((But.refl _ _).drewN nq).trans ((HR.out.drewN nq).but 1 (.int .i64 ((st'.at_ : Int) + 1)))))
    go_roundg (s.length - (Js.step st').at_)
    case measure => rw [HK.out]; show _ - (st'.at_ + 1) < _; omega
    case rel => exact ⟨Js.step st', hlt, rfl, HR2, HB2, HS⟩
   ·have HE : Hid (Js.blanks s st = st') := Lib.hid (by
     rw [HW.out, blanks_stop]
     intro c hc
     rw [HX.out] at hc
     obtain rfl := Option.some.inj hc
     rw [HL.out, decide_eq_false hb])
    go_wp2_with fail
    go_quiet ((go_at_call 85; exact Calls.quiet_of_same (indexBl_any x _)))
    go_wp2_with fail
    go_end0
    rw [HE.out]
    exact ⟨rfl, HR.out.drewN _, HB.out.drewN _⟩
  ·have HE : Hid (Js.blanks s st = st') := Lib.hid (by
    rw [HW.out, blanks_stop]
    intro c hc
    rw [List.getElem?_eq_none (by omega)] at hc
    cases hc)
   go_wp2_with fail
   go_quiet (fail)
   go_wp2_with fail
   go_end0
   rw [HE.out]
   exact ⟨rfl, HR.out.drewN _, HB.out.drewN _⟩
end Go.Proofs.YtimioelnnhnbiaaGreatDoor
namespace Go.Proofs.YtimioelnnhnbiaaGreatDoor
open Go.RowKit
def hxI (c : UInt8) : Int := Lib.indexByte [48, 49, 50, 51, 52, 53, 54, 55, 56, 57, 97, 98, 99, 100, 101, 102] (c ||| 32)
theorem hxI_facts (c : UInt8) : (-1 ≤ hxI c ∧ hxI c ≤ 15) ∧ bits BinOp.or IntKind.u8 c.toNat 32 = ((c ||| 32).toNat : Int) ∧ (48 ≤ c.toNat → c.toNat ≤ 57 → Js.hexV c = some (c.toNat - 48)) ∧ ((c.toNat < 48 ∨ 57 < c.toNat) → 10 ≤ hxI c → Js.hexV c = some (hxI c).toNat) ∧ ((c.toNat < 48 ∨ 57 < c.toNat) → hxI c < 10 → Js.hexV c = none) := by
 have h : ∀ n : Fin 256, (fun c : UInt8 => (-1 ≤ hxI c ∧ hxI c ≤ 15) ∧ bits BinOp.or IntKind.u8 c.toNat 32 = ((c ||| 32).toNat : Int) ∧ (48 ≤ c.toNat → c.toNat ≤ 57 → Js.hexV c = some (c.toNat - 48)) ∧ ((c.toNat < 48 ∨ 57 < c.toNat) → 10 ≤ hxI c → Js.hexV c = some (hxI c).toNat) ∧ ((c.toNat < 48 ∨ 57 < c.toNat) → hxI c < 10 → Js.hexV c = none)) (UInt8.ofNat n.val) := by decide +kernel
 have := h ⟨c.toNat, c.toNat_lt⟩
 simpa using this
theorem indexHx_any (c : UInt8) (v : Int) (hv : ((c ||| 32).toNat : Int) = v) (w : World) :
  Calls Tryz.prog 85 #[.string ⟨#[48, 49, 50, 51, 52, 53, 54, 55, 56, 57, 97, 98, 99, 100, 101, 102]⟩, .int .u8 v] w fun e w' => e = .returned (.int .i64 (hxI c)) ∧ w' = w := by
 subst hv
 refine (Tryz.strings_IndexByte _ _ _).mono ?_
 rintro e w' ⟨rfl, rfl⟩
 refine ⟨ret_int ?_, rfl⟩
 unfold hxI
 congr 1
 simp
theorem peek_cases (s : Js.Bs) (st : Js.St) (h : st.at_ ≤ s.length) : (st.at_ < s.length ∧ s[st.at_]? = some (Js.peek s st)) ∨ (st.at_ = s.length ∧ s[st.at_]? = none ∧ Js.peek s st = 0) := by
 by_cases hlt : st.at_ < s.length
 ·refine .inl ⟨hlt, ?_⟩
  rw [peek_of (List.getElem?_eq_getElem hlt)]
  exact List.getElem?_eq_getElem hlt
 ·exact .inr ⟨by omega, List.getElem?_eq_none (by omega), peek_end (by omega)⟩
set_option maxRecDepth 100000 in
set_option maxHeartbeats 4000000 in
theorem digit_any (b : Nat) (s : Js.Bs) (st : Js.St) (w : World) (h : RdAt w b s st) (hlen : s.length ≤ 1073741824) (hat : st.at_ ≤ s.length) :
  Calls Tryz.prog 107 #[.pointer (some ⟨b, 0, none⟩)] w (ROut b s w (fun n => .int .u8 (n : Nat)) (Js.digit s st)) := by
 have hz := str_size s
 have HC := Lib.hid (peek_cases s st hat)
 have HR := Lib.hid h
 go_enter Tryz.func107, Tryz.ntmps107
 go_wp2_with fail
 refine (peek_any b s st _ h hlen hat).mono ?_
 rintro e w2 ⟨rfl, n, rfl⟩
 obtain ⟨c0, c1, -⟩ := h.cells
 have f1 := h.free 1
 clear h
 have HD : Hid (Js.digit s st = match (s[st.at_]?).bind Js.hexV with | some n => .ok n (Js.step st) | none => .bad st.at_) := Lib.hid rfl
 generalize Js.peek s st = c at HC ⊢
 obtain ⟨⟨i1, i2⟩, hor, g1, g2, g3⟩ := hxI_facts c
 have hc256 := c.toNat_lt
 have G := Lib.hid (And.intro g1 (And.intro g2 g3))
 have HOR := Lib.hid hor
 clear g1 g2 g3 hor
 go_wp2_with fail
 refine (indexHx_any c _ HOR.out.symm _).mono ?_
 rintro e w3 ⟨rfl, rfl⟩
 by_cases hd : 48 ≤ c.toNat ∧ c.toNat ≤ 57
 ·obtain ⟨d1, d2⟩ := hd
  have HV := Lib.hid (G.out.1 d1 d2)
  rcases HC.out with ⟨hlt, hx⟩ | ⟨_, _, rfl⟩
  ·have HD2 : Hid (Js.digit s st = .ok (c.toNat - 48) (Js.step st)) := Lib.hid (by rw [HD.out, hx, Option.bind_some, HV.out])
   have q : ((st.at_ : Int) == (s.length : Int)) = false := by simp; omega
   have b1 : (48 : Int) ≤ c.toNat := by omega
   have b2 : (c.toNat : Int) ≤ 57 := by omega
   have b3 : (c.toNat : Int) - 48 < 10 := by omega
   have b4 : decide ((c.toNat : Int) - 48 < 10) = true := by simp; omega
   have b5 : ¬ (c.toNat : Int) < 48 := by omega
   have b6 : ¬ (57 : Int) < c.toNat := by omega
   have HE : Hid ((c.toNat : Int) - 48 = ((c.toNat - 48 : Nat) : Int)) := Lib.hid (by omega)
   clear hx hc256
   go_wp2_with fail
   go_quiet (fail)
   go_wp2_with fail
   go_ret
   rw [HD2.out]
   exact ⟨ret_int HE.out, (HR.out.drewN _).step, ((But.refl _ _).drewN _).trans ((HR.out.drewN _).but 1 _)⟩
  ·exact absurd d1 (by decide)
 ·have hdc : c.toNat < 48 ∨ 57 < c.toNat := by omega
  rcases hdc with b0 | b0
  ·have hdc : c.toNat < 48 ∨ 57 < c.toNat := .inl b0
   by_cases hi : 10 ≤ hxI c
   ·have hlt : st.at_ < s.length := by
     rcases HC.out with ⟨hlt, _⟩ | ⟨_, _, rfl⟩
     ·exact hlt
     ·exact absurd hi (by decide)
    have hx : s[st.at_]? = some c := by
     rcases HC.out with ⟨_, hx⟩ | ⟨e, _, _⟩
     ·exact hx
     ·omega
    have HD2 : Hid (Js.digit s st = .ok (hxI c).toNat (Js.step st)) := Lib.hid (by rw [HD.out, hx, Option.bind_some, G.out.2.1 hdc hi])
    have q : ((st.at_ : Int) == (s.length : Int)) = false := by simp; omega
    have HE : Hid (hxI c = ((hxI c).toNat : Nat)) := Lib.hid (by omega)
    have j1 : ¬ hxI c < 0 := by omega
    have j2 : ¬ hxI c < 10 := by omega
    have j3 : decide (hxI c < 10) = false := by simp; omega
    have j4 : 0 ≤ hxI c := by omega
    have j5 : hxI c < 256 := by omega
    clear hx hc256 hdc
    have n1 : (c.toNat : Int) < 48 := by omega
    have n2 : ¬ (48 : Int) ≤ c.toNat := by omega
    have n3 : decide ((c.toNat : Int) < 48) = true := by simp; omega
    go_wp2_with fail
    go_quiet (fail)
    go_wp2_with fail
    go_ret
    rw [HD2.out]
    exact ⟨ret_int HE.out, (HR.out.drewN _).step, ((But.refl _ _).drewN _).trans ((HR.out.drewN _).but 1 _)⟩
   ·have HD2 : Hid (Js.digit s st = .bad st.at_) := Lib.hid (by
     rw [HD.out]
     rcases HC.out with ⟨_, hx⟩ | ⟨_, hx, _⟩
     ·rw [hx, Option.bind_some, G.out.2.2 hdc (by omega)]
     ·rw [hx]; rfl)
    clear hc256 hdc
    by_cases hj : hxI c < 0
    ·have j1 : decide (hxI c < 0) = true := by simpa using hj
     have n1 : (c.toNat : Int) < 48 := by omega
     have n2 : ¬ (48 : Int) ≤ c.toNat := by omega
     have n3 : decide ((c.toNat : Int) < 48) = true := by simp; omega
     go_wp2_with fail
     go_quiet (fail)
     go_wp2_with fail
     refine (fail_any b s st _ (HR.out.drewN _)).mono ?_
     rintro e w' ⟨rfl, rfl⟩
     unfold bad
     go_wp2_with fail
     exact out_bad HD2.out rfl ((But.refl _ _).drewN _)
    ·have hlt : st.at_ < s.length := by
      rcases HC.out with ⟨hlt, _⟩ | ⟨_, _, rfl⟩
      ·exact hlt
      ·exact absurd (show hxI 0 < 0 by decide) hj
     have q : ((st.at_ : Int) == (s.length : Int)) = false := by simp; omega
     have j1 : decide (hxI c < 0) = false := by simpa using hj
     have j2 : hxI c < 10 := by omega
     have j3 : decide (hxI c < 10) = true := by simpa using j2
     have j4 : 0 ≤ hxI c := by omega
     have n1 : (c.toNat : Int) < 48 := by omega
     have n2 : ¬ (48 : Int) ≤ c.toNat := by omega
     have n3 : decide ((c.toNat : Int) < 48) = true := by simp; omega
     go_wp2_with fail
     go_quiet (fail)
     go_wp2_with fail
     refine (fail_any b s st _ (HR.out.drewN _)).mono ?_
     rintro e w' ⟨rfl, rfl⟩
     unfold bad
     go_wp2_with fail
     exact out_bad HD2.out rfl ((But.refl _ _).drewN _)
  ·have hdc : c.toNat < 48 ∨ 57 < c.toNat := .inr b0
   by_cases hi : 10 ≤ hxI c
   ·have hlt : st.at_ < s.length := by
     rcases HC.out with ⟨hlt, _⟩ | ⟨_, _, rfl⟩
     ·exact hlt
     ·exact absurd hi (by decide)
    have hx : s[st.at_]? = some c := by
     rcases HC.out with ⟨_, hx⟩ | ⟨e, _, _⟩
     ·exact hx
     ·omega
    have HD2 : Hid (Js.digit s st = .ok (hxI c).toNat (Js.step st)) := Lib.hid (by rw [HD.out, hx, Option.bind_some, G.out.2.1 hdc hi])
    have q : ((st.at_ : Int) == (s.length : Int)) = false := by simp; omega
    have HE : Hid (hxI c = ((hxI c).toNat : Nat)) := Lib.hid (by omega)
    have j1 : ¬ hxI c < 0 := by omega
    have j2 : ¬ hxI c < 10 := by omega
    have j3 : decide (hxI c < 10) = false := by simp; omega
    have j4 : 0 ≤ hxI c := by omega
    have j5 : hxI c < 256 := by omega
    clear hx hc256 hdc
    have n1 : (48 : Int) ≤ c.toNat := by omega
    have n2 : ¬ (c.toNat : Int) ≤ 57 := by omega
    have n3 : decide ((c.toNat : Int) < 48) = false := by simp; omega
    have n4 : decide ((57 : Int) < c.toNat) = true := by simp; omega
    have n5 : decide ((c.toNat : Int) ≤ 57) = false := by simp; omega
    go_wp2_with fail
    go_quiet (fail)
    go_wp2_with fail
    go_ret
    rw [HD2.out]
    exact ⟨ret_int HE.out, (HR.out.drewN _).step, ((But.refl _ _).drewN _).trans ((HR.out.drewN _).but 1 _)⟩
   ·have HD2 : Hid (Js.digit s st = .bad st.at_) := Lib.hid (by
     rw [HD.out]
     rcases HC.out with ⟨_, hx⟩ | ⟨_, hx, _⟩
     ·rw [hx, Option.bind_some, G.out.2.2 hdc (by omega)]
     ·rw [hx]; rfl)
    clear hc256 hdc
    by_cases hj : hxI c < 0
    ·have j1 : decide (hxI c < 0) = true := by simpa using hj
     have n1 : (48 : Int) ≤ c.toNat := by omega
     have n2 : ¬ (c.toNat : Int) ≤ 57 := by omega
     have n3 : decide ((c.toNat : Int) < 48) = false := by simp; omega
     have n4 : decide ((57 : Int) < c.toNat) = true := by simp; omega
     have n5 : decide ((c.toNat : Int) ≤ 57) = false := by simp; omega
     go_wp2_with fail
     go_quiet (fail)
     go_wp2_with fail
     refine (fail_any b s st _ (HR.out.drewN _)).mono ?_
     rintro e w' ⟨rfl, rfl⟩
     unfold bad
     go_wp2_with fail
     exact out_bad HD2.out rfl ((But.refl _ _).drewN _)
    ·have hlt : st.at_ < s.length := by
      rcases HC.out with ⟨hlt, _⟩ | ⟨_, _, rfl⟩
      ·exact hlt
      ·exact absurd (show hxI 0 < 0 by decide) hj
     have q : ((st.at_ : Int) == (s.length : Int)) = false := by simp; omega
     have j1 : decide (hxI c < 0) = false := by simpa using hj
     have j2 : hxI c < 10 := by omega
     have j3 : decide (hxI c < 10) = true := by simpa using j2
     have j4 : 0 ≤ hxI c := by omega
     have n1 : (48 : Int) ≤ c.toNat := by omega
     have n2 : ¬ (c.toNat : Int) ≤ 57 := by omega
     have n3 : decide ((c.toNat : Int) < 48) = false := by simp; omega
     have n4 : decide ((57 : Int) < c.toNat) = true := by simp; omega
     have n5 : decide ((c.toNat : Int) ≤ 57) = false := by simp; omega
     go_wp2_with fail
     go_quiet (fail)
     go_wp2_with fail
     refine (fail_any b s st _ (HR.out.drewN _)).mono ?_
     rintro e w' ⟨rfl, rfl⟩
     unfold bad
     go_wp2_with fail
     exact out_bad HD2.out rfl ((But.refl _ _).drewN _)
end Go.Proofs.YtimioelnnhnbiaaGreatDoor
