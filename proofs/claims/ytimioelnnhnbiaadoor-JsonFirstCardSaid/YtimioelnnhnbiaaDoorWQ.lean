/-
  THE WALKS, sixteenth part: measure.add's closure, slices.ContainsFunc over names. CONDITIONS: as each says.
-/
import Derived.Test.YtimioelnnhnbiaaDoorWP
import Derived.Test.YtimioelnnhnbiaaDoorMeas
namespace Go.Proofs.YtimioelnnhnbiaaDoor
open Go.RowKit
def nameV (nm : Js.Bs) (k0 : Int) (b0 : Bool) (n0 : Int) (t0 : ByteArray) (A5 : Option Addr) (l5 c5 : Nat) (A6 : Option Addr) (l6 c6 : Nat) : Value := .agg #[.string (str nm), .int .i64 k0, .bool b0, .int .i64 n0, .string t0, .slice A5 l5 c5, .slice A6 l6 c6]
set_option maxHeartbeats 2000000 in
theorem sameName_any (y : Nat) (a c : Js.Bs) (k0 : Int) (b0 : Bool) (n0 : Int) (t0 : ByteArray) (A5 : Option Addr) (l5 c5 : Nat) (A6 : Option Addr) (l6 c6 : Nat) (w : World) (h : w.cell? ⟨y, 0, none⟩ = some (.string (str c))) (hy : y < w.heap.size) :
    Calls Tryd.prog 38 #[nameV a k0 b0 n0 t0 A5 l5 c5 A6 l6 c6, .pointer (some ⟨y, 0, none⟩)] w fun e w' => e = .returned (.bool (decide (a = c))) ∧ Below w.heap.size w w' := by
  unfold nameV
  go_enter Tryd.func38, Tryd.ntmps38
  go_wp2_with fail
  go_ret
  exact ⟨ret_bool (str_beq a c), below_box _ _⟩
set_option maxRecDepth 100000 in
set_option maxHeartbeats 4000000 in
theorem index_names (S : Nat → Prop) (l : List (Js.Bs × Js.J)) (A : Option Addr) (i c : Nat) (y : Nat) (nm : Js.Bs) (w : World) (hS : ∀ g, S g → g < w.heap.size) (hl : l.length ≤ 1073741824) (hi : i ≤ l.length) (hA : JM w S A 0 l) (h : w.cell? ⟨y, 0, none⟩ = some (.string (str nm))) (hy : y < w.heap.size) :
    Calls Tryd.prog 45 #[.slice A i c, .func (.func 38) #[] #[.pointer (some ⟨y, 0, none⟩)]] w fun e w' => ((∃ k : Nat, e = .returned (.int .i64 k) ∧ ((l.take i).any fun p => decide (p.1 = nm)) = true) ∨ (e = .returned (.int .i64 (-1)) ∧ ((l.take i).any fun p => decide (p.1 = nm)) = false)) ∧ Below w.heap.size w w' := by
  have HA := Lib.hid hA
  have HH := Lib.hid h
  have HSS := Lib.hid hS
  clear hA h hS
  go_enter Tryd.func45, Tryd.ntmps45
  go_wp2_with fail
  go_loopw [5, 8] (fun _ j wr => ∃ k : Nat, k ≤ i ∧ j = .int .i64 k ∧ Hid (((l.take k).any fun p => decide (p.1 = nm)) = false) ∧ Hid (Below w.heap.size w wr)) (fun _ j _ => i - (intOf j).toNat)
  case atStart => exact ⟨0, Nat.zero_le _, rfl, Lib.hid (by simp), Lib.hid (Below.refl _ _)⟩
  case round =>
    obtain ⟨k, hk, rfl, HN, HB⟩ := hrel
    by_cases hlt : k < i
    · obtain ⟨n1, x, hx⟩ : ∃ n1 x, l[k]? = some (n1, x) := ⟨l[k].1, l[k].2, List.getElem?_eq_getElem (by omega)⟩
      have hA' := JM.keep HB.out.size (fun _ h _ => h) (fun g hg _ => HB.out.block g (HSS.out g hg)) A 0 l HA.out
      obtain ⟨g, o, k0, b0, n0, t0, A5, l5, c5, A6, l6, c6, rfl, -, hg, q0, q1, q2, q3, q4, q5, q6, -⟩ := hA'.elem hx
      have hc : wr.cell? ⟨y, 0, none⟩ = some (.string (str nm)) := (HB.out.cell (p := ⟨y, 0, none⟩) hy).trans HH.out
      have HC := Lib.hid hc
      have hyr : y < wr.heap.size := Nat.lt_of_lt_of_le hy HB.out.size
      have HNX : Hid (((l.take (k + 1)).any fun p => decide (p.1 = nm)) = decide (n1 = nm)) := Lib.hid (by
        rw [List.take_add_one, hx, List.any_append, HN.out]; simp)
      have HX := Lib.hid hx
      clear hA' hc hx HN
      go_wp2_with fail
      refine (sameName_any y n1 nm k0 b0 n0 t0 A5 l5 c5 A6 l6 c6 _ HC.out hyr).mono ?_
      rintro e w2 ⟨rfl, hb2⟩
      have HB2 := Lib.hid (HB.out.trans (hb2.mono HB.out.size))
      clear hb2 HB
      by_cases hnm : n1 = nm
      · have HE : Hid (((l.take i).any fun p => decide (p.1 = nm)) = true) := Lib.hid (by
          rw [List.any_eq_true]
          exact ⟨(n1, x), List.mem_of_getElem? (i := k) (by rw [List.getElem?_take, if_pos hlt]; exact HX.out), by simpa using hnm⟩)
        rw [decide_eq_true hnm]
        go_wp2_with fail
        go_ret
        exact ⟨.inl ⟨k, rfl, HE.out⟩, HB2.out⟩
      · have HE : Hid (((l.take (k + 1)).any fun p => decide (p.1 = nm)) = false) := Lib.hid (by rw [HNX.out]; simpa using hnm)
        rw [decide_eq_false hnm]
        go_wp2_with fail
        go_roundw
        case rel => exact ⟨k + 1, by omega, by go_num, HE, HB2⟩
        case measure => simp [intOf]; omega
    · obtain rfl : k = i := by omega
      go_wp2_with fail
      go_ret
      exact ⟨.inr ⟨rfl, HN.out⟩, HB.out⟩
theorem contains_names (S : Nat → Prop) (l : List (Js.Bs × Js.J)) (A : Option Addr) (i c : Nat) (y : Nat) (nm : Js.Bs) (w : World) (hS : ∀ g, S g → g < w.heap.size) (hl : l.length ≤ 1073741824) (hi : i ≤ l.length) (hA : JM w S A 0 l) (h : w.cell? ⟨y, 0, none⟩ = some (.string (str nm))) (hy : y < w.heap.size) :
    Calls Tryd.prog 37 #[.slice A i c, .func (.func 38) #[] #[.pointer (some ⟨y, 0, none⟩)]] w fun e w' => e = .returned (.bool ((l.take i).any fun p => decide (p.1 = nm))) ∧ Below w.heap.size w w' := by
  have HI := Lib.hid (index_names S l A i c y nm w hS hl hi hA h hy)
  clear hA h hS
  go_enter Tryd.func37, Tryd.ntmps37
  go_wp2_with fail
  refine HI.out.mono ?_
  rintro e w' ⟨⟨k, rfl, he⟩ | ⟨rfl, he⟩, hb⟩
  · have HE := Lib.hid he
    have HB := Lib.hid hb
    clear he hb
    go_wp2_with fail
    go_ret
    exact ⟨ret_bool (by rw [HE.out]), HB.out⟩
  · have HE := Lib.hid he
    have HB := Lib.hid hb
    clear he hb
    go_wp2_with fail
    go_ret
    exact ⟨ret_bool (by rw [HE.out]), HB.out⟩
end Go.Proofs.YtimioelnnhnbiaaDoor
