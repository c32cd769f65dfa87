/-
  THE WALKS of the document's answer, fourth part: numbers, Hex, Bits, Quote. CONDITIONS: the rows lie as CellsAt says; lengths as each says.
-/
import Derived.Test.YthpojljfmipngaaDoorRefC
import Derived.Lib.AppendStr
namespace Go.Proofs.YthpojljfmipngaaDoor
open Go.RowKit
/-- A buffer of bytes of the call's own. -/
def Bf (B : Nat) (v : Value) (out : Sc.Bs) (w : World) : Prop := Own 5 1 B v out.length (Lib.byteCells out) w
theorem Bf.next {B : Nat} {v : Value} {out : Sc.Bs} {w w' : World} (h : Bf B v out w) (hb : Below w.heap.size w w') : Bf B v out w' := Own.next h hb
theorem Bf.nil (w : World) : Bf w.heap.size (.slice none 0 0) [] w := Own.nil 5 1 w
theorem info5' : ∃ i0, Tryd.prog.info? 5 = some i0 ∧ i0.zero = some (.int .u8 0) ∧ i0.size = 1 ∧ i0.bytes = 1 := by
  have h := info5
  cases hi : Tryd.prog.info? 5 with
  | none => rw [hi] at h; cases h
  | some i0 =>
    rw [hi] at h
    simp only [Option.map_some, Option.some.injEq, Prod.mk.injEq] at h
    exact ⟨i0, rfl, h.1, h.2.1, h.2.2⟩
theorem wpList_bf_str {ops : Array Oper} {rest : List Oper} {o : Oper} {a : Act} {Q : Exit → Act → World → Prop} (hgd : o.guard = none) (s x : Operand)
    (ho : o.op = .call { callee := .builtin .append, args := #[s, x], argTypes := #[43, 9] }) {B : Nat} {v : Value} {out : Sc.Bs} {w : World} (hb : Bf B v out w) (hs : a.eval s = v)
    (m : Sc.Bs) (str : ByteArray) (hm : str.data.toList = m) (hx : a.eval x = .string str) (hlen : out.length + m.length ≤ 140737488355328)
    (h : ∀ v' w', Bf B v' (out ++ m) w' → Below B w w' → wpList Tryd.prog ops Q rest (a.put o.dst v') w') : wpList Tryd.prog ops Q (o :: rest) a w := by
  obtain ⟨i0, hi, hz0, hz1, hz2⟩ := info5'
  subst hm
  have hsz : str.size = str.data.toList.length := Lib.size_eq str
  refine Lib.wpList_append_own_string _ hgd s x 43 9 ho B 5 i0 Tryd.underlying43 Tryd.underlying9 hi hz0 hz1 hz2 v out.length (Lib.byteCells out) hs hb.own str hx (by rw [hsz]; unfold maxLen; omega) (by rw [hsz]; exact hlen) hb.le ?_
  intro v' w' h1 h2 _
  refine h v' w' ⟨?_, Nat.le_trans hb.le h2.size⟩ ((Below.refl B w).grown h2 hb.le (fun k hk => (hb.lt k hk).1))
  rw [List.length_append, byteCells_app, ← hsz]
  exact h1
theorem bf_string {B : Nat} {v : Value} {out : Sc.Bs} {w : World} (h : Bf B v out w) : (convert 43 9 v).run Tryd.prog w = .ok (.string ⟨out.toArray⟩) w := own_string h
theorem bf_lit (w : World) (l : Sc.Bs) (hl : l.length ≤ 1000) {C : Array Value} (hC : C = (Lib.byteCells l).toArray) : Bf w.heap.size (.slice (some ⟨w.heap.size, 0, none⟩) l.length l.length) l (w.alloc (.cells C 5)) := by
  subst hC
  refine ⟨⟨by rw [byteCells_len, Nat.mul_one], .inr ⟨w.heap.size, l.length, (Lib.byteCells l).toArray, rfl, Nat.le_refl _, heap_alloc_new w _, Nat.le_refl _, by unfold maxLen; omega, by rw [List.size_toArray, byteCells_len, Nat.mul_one], ?_⟩⟩, by simp⟩
  rw [Nat.mul_one, List.take_of_length_le (by simp [byteCells_len])]
def intCells (l : List Int) : List Value := l.map fun n => .int .i64 n
theorem intCells_get {l : List Int} {k : Nat} {n : Int} (h : l[k]? = some n) : (intCells l)[k]? = some (.int .i64 n) := by unfold intCells; rw [List.getElem?_map, h]; rfl
theorem numsText_le (vs : List Int) (h : ∀ v ∈ vs, -9223372036854775808 ≤ v ∧ v ≤ 9223372036854775807) : (Sc.numsText vs).length ≤ 22 * vs.length := by
  induction vs with
  | nil => exact Nat.le_refl _
  | cons v vs ih =>
    rw [Sc.numsText_cons]
    have h0 := h v (by simp)
    have h1 := Lib.itoa_length_le v h0.1 h0.2
    have h2 := ih (fun x hx => h x (by simp [hx]))
    simp; omega
set_option maxRecDepth 100000 in
set_option maxHeartbeats 4000000 in
theorem refNumbers_any (l : List Int) (A : Option Addr) (c : Nat) (w : World) (hl : l.length ≤ 1048576) (hA : CellsAt w A (intCells l)) (hin : ∀ v ∈ l, -4611686018427387904 ≤ v ∧ v ≤ 9223372036854775807) :
    Calls Tryd.prog 40 #[.slice A l.length c] w fun e w' => e = .returned (.string ⟨(Sc.numsText l).toArray⟩) ∧ Below w.heap.size w w' := by
  go_enter Tryd.func40, Tryd.ntmps40
  go_wp2_with fail
  go_loopw [3, 5, 8] (fun bv _ i wr => ∃ k : Nat, k ≤ l.length ∧ i = .int .i64 k ∧ Bf w.heap.size bv (numsTo l k) wr ∧ Below w.heap.size w wr) (fun _ _ i _ => l.length - (intOf i).toNat)
  case atStart => exact ⟨0, Nat.zero_le _, rfl, Bf.nil w, Below.refl _ _⟩
  case round =>
    obtain ⟨k, hk, rfl, hB, hb⟩ := hrel
    have HB := Lib.hid hB
    have HBW := Lib.hid hb
    clear hB
    by_cases hlt : k < l.length
    · have h1 : l[k]? = some l[k] := List.getElem?_eq_getElem hlt
      have HN := Lib.hid (numsTo_succ h1)
      have hr := hin _ (List.getElem_mem hlt)
      have hlen : (numsTo l k).length ≤ 22 * 1048576 := by
        refine Nat.le_trans (numsText_le _ (fun v hv => ?_)) ?_
        · have := hin v (List.mem_of_mem_take hv); omega
        · rw [List.length_take]; omega
      obtain ⟨b, o, rfl, hbl, c1⟩ := hA.at_ hb (intCells_get h1)
      generalize l[k] = n at HN hr c1
      have HIL := Lib.hid (Lib.itoa_length_le n (by omega) (by omega))
      have hil := HIL.out
      clear hA h1 hb
      go_wp2_with fail
      refine (number_any n hr.1 hr.2 _).mono ?_
      rintro e w' ⟨rfl, rfl⟩
      go_wp2_with (at_builtin; refine wpList_bf_str rfl _ _ rfl HB.out rfl (32 :: Lib.itoa n) _ (by simp) rfl (by simp only [List.length_cons]; omega) ?_)
      intro v' w3 hB3 hb3
      have HB3 := Lib.hid hB3
      have HBW3 := Lib.hid (HBW.out.trans hb3)
      clear hB3 hb3
      go_wp2_with fail
      go_roundw
      case rel => exact ⟨k + 1, by omega, by go_num, by rw [HN.out]; exact HB3.out, HBW3.out⟩
      case measure => simp [intOf]; omega
    · have HF : Hid (numsTo l k = Sc.numsText l) := Lib.hid (by unfold numsTo; rw [List.take_of_length_le (by omega)])
      have hcv := bf_string HB.out
      rw [HF.out] at hcv
      clear hb
      go_wp2_with fail
      go_ret
      exact ⟨rfl, HBW.out⟩
set_option maxRecDepth 100000 in
set_option maxHeartbeats 4000000 in
theorem refBits_any (l : List Bool) (A : Option Addr) (c : Nat) (w : World) (hl : l.length ≤ 1073741824) (hA : CellsAt w A (boolCells l)) :
    Calls Tryd.prog 65 #[.slice A l.length c] w fun e w' => e = .returned (.string ⟨(Sc.bits l).toArray⟩) ∧ Below w.heap.size w w' := by
  go_enter Tryd.func65, Tryd.ntmps65
  go_wp2_with fail
  go_loopw [3, 5, 6, 9] (fun bv _ _ i wr => ∃ k : Nat, k ≤ l.length ∧ i = .int .i64 k ∧ Bf w.heap.size bv (Sc.bits (l.take k)) wr ∧ Below w.heap.size w wr) (fun _ _ _ i _ => l.length - (intOf i).toNat)
  case atStart => exact ⟨0, Nat.zero_le _, rfl, Bf.nil w, Below.refl _ _⟩
  case round =>
    obtain ⟨k, hk, rfl, hB, hb⟩ := hrel
    have HB := Lib.hid hB
    have HBW := Lib.hid hb
    clear hB
    by_cases hlt : k < l.length
    · have h1 : l[k]? = some l[k] := List.getElem?_eq_getElem hlt
      have HN : Hid (Sc.bits (l.take (k + 1)) = Sc.bits (l.take k) ++ [if l[k] then 49 else 48]) := Lib.hid (by
        unfold Sc.bits; rw [List.take_succ_eq_append_getElem hlt, List.map_append]; rfl)
      have HLN : Hid ((Sc.bits (l.take k)).length = k) := Lib.hid (by unfold Sc.bits; rw [List.length_map, List.length_take]; omega)
      obtain ⟨b, o, rfl, hbl, c1⟩ := hA.at_ hb (boolCells_get h1)
      generalize l[k] = q at HN c1
      clear hA h1 hb
      cases q
      all_goals
        go_wp2_with (at_builtin; refine wpList_own_append rfl _ _ 43 5 (.int .u8 0) 1 1 rfl Tryd.underlying43 info5 rfl (by decide) HB.out rfl [.int .u8 _] 1 rfl rfl (by simp [Value.oneCell']) rfl (by have := HLN.out; unfold maxLen; omega) (by have := HLN.out; omega) ?_)
        intro v' w3 hO3 hb3
        have HB3 := Lib.hid hO3
        have HBW3 := Lib.hid (HBW.out.trans hb3)
        clear hO3 hb3
        go_wp2_with fail
        go_roundw
        case rel => exact ⟨k + 1, by omega, by go_num, by rw [HN.out]; exact Own.byte HB3.out, HBW3.out⟩
        case measure => simp [intOf]; omega
    · have HF : Hid (Sc.bits (l.take k) = Sc.bits l) := Lib.hid (by rw [List.take_of_length_le (by omega)])
      have hcv := bf_string HB.out
      rw [HF.out] at hcv
      clear hb
      go_wp2_with fail
      go_ret
      exact ⟨rfl, HBW.out⟩
end Go.Proofs.YthpojljfmipngaaDoor
