/-
  THE WALKS, twentieth part: wakes of the laws of chapter 28. CONDITION: Env.
-/
import Derived.Test.YthpojljfmipngaaGreatDoorWalkS
import Derived.Test.YthpojljfmipngaaGreatDoorWalkP
namespace Go.Proofs.YthpojljfmipngaaGreatDoor
open Go.RowKit
def wakeS : Sc.Scr := ⟨2, 200, [⟨1, 1, 0, 0, 0, [], [97, 92, 13, 10, 7]⟩, ⟨7, 0, 0, 0, 0, [], []⟩, ⟨8, 2, 0, 0, 0, [true, false], []⟩]⟩
def wakeL : Sc.Bs := [119, 111, 114, 108, 100, 32, 50, 32, 50, 48, 48, 10, 97, 115, 107, 32, 49, 32, 34, 97, 92, 92, 92, 114, 92, 110, 92, 120, 48, 55, 34, 10, 116, 105, 99, 107, 10, 99, 114, 97, 115, 104, 32, 50, 32, 61, 49, 48, 10]
theorem wake_text : Sc.textOf wakeS = wakeL := by
  have i2 : Lib.itoa 2 = [50] := by simp [Lib.itoa, Lib.decDigits]
  have i1 : Lib.itoa 1 = [49] := by simp [Lib.itoa, Lib.decDigits]
  have i200 : Lib.itoa 200 = [50, 48, 48] := by simp [Lib.itoa, Lib.decDigits]
  unfold Sc.textOf wakeS wakeL
  simp only [List.flatMap_cons, List.flatMap_nil, Sc.numsText, Sc.evLine, i2, i200]
  have n1 : Sc.nums ⟨1, 1, 0, 0, 0, [], [97, 92, 13, 10, 7]⟩ = [1] := rfl
  have n2 : Sc.nums ⟨7, 0, 0, 0, 0, [], []⟩ = [] := rfl
  have n3 : Sc.nums ⟨8, 2, 0, 0, 0, [true, false], []⟩ = [2] := rfl
  rw [n1, n2, n3]
  simp only [List.flatMap_cons, List.flatMap_nil, i1, i2]
  decide
theorem wake_print : Sc.printOf wakeS = (wakeL, 0) := by
  have hc : Sc.checkOf wakeS = 0 := by decide
  unfold Sc.printOf
  rw [if_pos hc, wake_text, if_neg (by decide)]
theorem wake_parse : Sc.parseOf wakeL = (wakeS, 0, 0) := by
  have := Sc.parse_print wakeS (by rw [wake_print])
  rwa [wake_print] at this
set_option maxRecDepth 100000 in
set_option maxHeartbeats 8000000 in
theorem wakes_any (w : World) (henv : Env w) :
    Calls Tryz.prog 4 #[] w fun e w' => e = .returned (.bool true) ∧ Below w.heap.size w w' := by
  have hP := parse_any wakeL w henv (by decide)
  rw [wake_parse] at hP
  have HP := Lib.hid hP
  clear hP
  go_enter Tryz.func4, Tryz.ntmps4
  go_wp2_with fail
  refine HP.out.mono ?_
  rintro e w1 ⟨A, c, rfl, hE, hb1⟩
  have HE1 := Lib.hid hE.at_
  have HB1 := Lib.hid hb1
  have he1 := henv.next hb1
  clear hE hb1 HP
  unfold scrV
  go_wp2_with fail
  have hb2 := below_box w1 (.cells #[.int .i64 wakeS.servers, .int .i64 wakeS.area, .slice A wakeS.events.length c] 30)
  have hx2 : ScrBox (w1.alloc (.cells #[.int .i64 wakeS.servers, .int .i64 wakeS.area, .slice A wakeS.events.length c] 30)) w1.heap.size wakeS A c := heap_alloc_new w1 _
  have HE2 := Lib.hid (HE1.out.next hb2)
  have HB2 := Lib.hid (HB1.out.trans (hb2.mono HB1.out.size))
  have he2 := he1.next hb2
  have HX2 := Lib.hid hx2
  clear hb2 hx2 he1 HE1 HB1
  generalize w1.alloc (.cells #[.int .i64 wakeS.servers, .int .i64 wakeS.area, .slice A wakeS.events.length c] 30) = w2 at HE2 HB2 he2 HX2 ⊢
  generalize w1.heap.size = sb at HX2 ⊢
  refine (print_any wakeS A c _ he2 HE2.out).mono ?_
  rintro e w3 ⟨rfl, hb3⟩
  rw [wake_print]
  have HE3 := HE2.out.next hb3
  have HB3 := Lib.hid (HB2.out.trans (hb3.mono HB2.out.size))
  have hx3 := HX2.out.next hb3
  obtain ⟨g, off, K0, A0, kc0, bc0, rfl, hgl, ⟨_, _, _, _, _, _, a6⟩, hev0⟩ := HE3.at_ (k := 0) (x := ⟨1, 1, 0, 0, 0, [], [97, 92, 13, 10, 7]⟩) rfl
  obtain ⟨g', off', K2, A2, kc2, bc2, hgg, _, ⟨_, _, _, _, _, b5, _⟩, _⟩ := HE3.at_ (k := 2) (x := ⟨8, 2, 0, 0, 0, [true, false], []⟩) rfl
  simp only [Option.some.injEq, Addr.mk.injEq] at hgg
  obtain ⟨rfl, rfl, _⟩ := hgg
  have hcv := conv_bytes hev0.bytes bc0
  obtain ⟨_, _, s2⟩ := hx3.cells
  have hslt : sb < w3.heap.size := (Array.getElem?_eq_some_iff.1 hx3).1
  have e3 : wakeS.events.length = 3 := rfl
  rw [e3] at s2
  simp only [List.length_cons, List.length_nil, Nat.zero_add, Nat.reduceAdd, Nat.zero_mul, Nat.add_zero, Nat.reduceMul, Nat.add_assoc] at a6 b5 hcv
  clear hb3 he2 HE2 HB2 HX2 HE3 hx3 hev0
  go_wp2_with fail
  go_ret
  exact ⟨rfl, HB3.out⟩
end Go.Proofs.YthpojljfmipngaaGreatDoor
