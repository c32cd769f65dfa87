/-
  THE WALKS, second part: same and wrong and Check of package script. CONDITIONS: the rows of an event lie as EvAt says.
-/
import Derived.Test.YthpojljfmipngaaGreatDoorBld
import Derived.Laws.StructEq
import Derived.ChangeKeysEq
namespace Go.Proofs.YthpojljfmipngaaGreatDoor
open Go.RowKit
def evV (x : Sc.Ev) (K B : Option Addr) (kc bc : Nat) : Value := .agg #[.int .i64 x.kind, .int .i64 x.node, .int .i64 x.to, .int .i64 x.n, .int .i64 x.bit, .slice K x.keep.length kc, .slice B x.bytes.length bc]
structure EvAt (w : World) (x : Sc.Ev) (K B : Option Addr) : Prop where
  keep : CellsAt w K (boolCells x.keep)
  bytes : CellsAt w B (Lib.byteCells x.bytes)
  kl : x.keep.length ≤ 9223372036854775807
  bl : x.bytes.length ≤ 9223372036854775807
theorem EvAt.next {w w' : World} {x : Sc.Ev} {K B : Option Addr} (h : EvAt w x K B) (hb : Below w.heap.size w w') : EvAt w' x K B :=
  ⟨h.keep.next hb (Nat.le_refl _), h.bytes.next hb (Nat.le_refl _), h.kl, h.bl⟩
theorem bytesIn_of {w : World} {A : Option Addr} {l : List UInt8} (h : CellsAt w A (Lib.byteCells l)) : Lib.BytesIn w A l.length (l.map fun c => (c.toNat : Int)) := fun hl => by
  obtain ⟨b, o, h1, _, h3⟩ := h (by intro e; have := congrArg List.length e; rw [byteCells_len, List.length_nil] at this; omega)
  refine ⟨b, o, h1, fun i hi => ?_⟩
  rw [h3 i (.int .u8 (l[i].toNat : Int)) (by simp [Lib.byteCells, hi])]
  simp [hi]
theorem bytesEqual_any (l m : List UInt8) (A B : Option Addr) (c d : Nat) (w : World) (hA : CellsAt w A (Lib.byteCells l)) (hB : CellsAt w B (Lib.byteCells m)) :
    Calls Tryz.prog 66 #[.slice A l.length c, .slice B m.length d] w fun e w' => e = .returned (.bool (decide (l = m))) ∧ w = w' := by
  have e : ∀ l : List UInt8, Lib.bytesOf (l.map fun c => (c.toNat : Int)) = l := fun l => by
    unfold Lib.bytesOf
    rw [List.map_map]
    conv => rhs; rw [← List.map_id l]
    exact List.map_congr_left (fun c _ => by simp)
  refine (Tryz.bytes_Equal_all A B l.length c m.length d _ _ w (by simp) (by simp) (bytesIn_of hA) (bytesIn_of hB)).mono ?_
  rintro e' w' ⟨rfl, rfl⟩
  refine ⟨ret_boolI ?_, rfl⟩
  rw [e, e]; simp
def fives (x : Sc.Ev) : Value := .agg #[.int .i64 x.kind, .int .i64 x.node, .int .i64 x.to, .int .i64 x.n, .int .i64 x.bit]
set_option maxHeartbeats 1000000 in
theorem five_any (x : Sc.Ev) (K B : Option Addr) (kc bc : Nat) (w : World) :
    Calls Tryz.prog 64 #[evV x K B kc bc] w fun e w' => e = .returned (fives x) ∧ Below w.heap.size w w' := by
  unfold evV
  go_enter Tryz.func64, Tryz.ntmps64
  go_wp2_with fail
  exact bodyPost_ret (v := fives x) (by simp [results, Tryz.results64, fives, go_sem]) rfl ⟨rfl, (below_box _ _).alloc (by simp) _⟩
def five (x : Sc.Ev) : List Int := [x.kind, x.node, x.to, x.n, x.bit]
def sameEv (x y : Sc.Ev) : Bool := decide (five x = five y) && (decide (x.keep = y.keep) && decide (x.bytes = y.bytes))
theorem sameEv_eq (x y : Sc.Ev) : sameEv x y = decide (x = y) := by
  rw [Bool.eq_iff_iff]
  obtain ⟨a, b, c, d, e, f, g⟩ := x
  obtain ⟨a', b', c', d', e', f', g'⟩ := y
  simp [sameEv, five]
  constructor
  · rintro ⟨⟨rfl, rfl, rfl, rfl, rfl⟩, rfl, rfl⟩; simp
  · rintro ⟨rfl, rfl, rfl, rfl, rfl, rfl, rfl⟩; simp
theorem und93 : Tryz.prog.underlying 106 = some (.array 5 3) := by kernel_rfl
theorem eq93 (a1 a2 a3 a4 a5 b1 b2 b3 b4 b5 : Int) (w : World) : (Op.equalIn 10000 106 (.agg #[.int .i64 a1, .int .i64 a2, .int .i64 a3, .int .i64 a4, .int .i64 a5]) (.agg #[.int .i64 b1, .int .i64 b2, .int .i64 b3, .int .i64 b4, .int .i64 b5])).run Tryz.prog w = .ok (decide ([a1, a2, a3, a4, a5] = [b1, b2, b3, b4, b5])) w := by
  have u3 := Tryz.underlying3
  have x3 := Tryz.isAgg3
  have z3 := Tryz.sizeOf3
  rw [show (10000 : Nat) = 9999 + 1 from rfl, Op.equalIn]
  simp only [Sem.run_bind, run_underlying und93, Result.andThen_ok]
  simp only [Std.Legacy.Range.forIn_eq_forIn_range', Std.Legacy.Range.size, Nat.sub_zero, Nat.add_sub_cancel, Nat.div_one, List.range'_succ, List.range'_zero, List.forIn_cons, List.forIn_nil]
  go_simp
  by_cases h1 : a1 = b1 <;> by_cases h2 : a2 = b2 <;> by_cases h3 : a3 = b3 <;> by_cases h4 : a4 = b4 <;> by_cases h5 : a5 = b5 <;> simp [h1, h2, h3, h4, h5]
theorem five_eq (x y : Sc.Ev) (w : World) : (binOp .eql 106 (fives x) (fives y)).run Tryz.prog w = .ok (.bool (decide (five x = five y))) w := by
  unfold fives five
  rw [run_eql_struct, eq93]; rfl
end Go.Proofs.YthpojljfmipngaaGreatDoor
