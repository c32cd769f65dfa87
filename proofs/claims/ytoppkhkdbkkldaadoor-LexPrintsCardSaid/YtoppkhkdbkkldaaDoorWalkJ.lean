/-
  PROVED: wakes of the laws of chapter 10 returns true. CONDITION: the package variables that Lex reads (Env).
-/
import Derived.Test.YtoppkhkdbkkldaaDoorWalkI
import Derived.Laws.StructEq
namespace Go.Proofs.YtoppkhkdbkkldaaDoor
open Go.RowKit
/-! ### wakes -/
def wakeText : List UInt8 := [120, 32, 58, 61, 32, 102, 40, 49, 41, 32, 47, 47, 32, 121, 10]
def wakeToks : List Lx.Tok := [⟨1, [120], 0⟩, ⟨4, [58, 61], 2⟩, ⟨1, [102], 5⟩, ⟨4, [40], 6⟩, ⟨2, [49], 7⟩, ⟨4, [41], 8⟩, ⟨5, [], 14⟩]
theorem wake_lex : Lx.lexOf wakeText = (wakeToks, 0, 0) := by decide
theorem wake_word : Lx.isAlone ⟨1, [120], 0⟩ = true := by decide
theorem wake_noword : Lx.isAlone ⟨1, [49], 0⟩ = false := by decide
set_option maxRecDepth 100000 in
set_option maxHeartbeats 2000000 in
theorem wakes_any (w : World) (henv : Env w) :
    Calls Tryd.prog 10 #[] w fun e w' => e = .returned (.bool true) ∧ Below w.heap.size w w' := by
  go_enter Tryd.func10, Tryd.ntmps10
  go_wp2_with fail
  refine (lex_any _ _ henv (by decide)).mono ?_
  rintro e w1 ⟨v, rfl, hown, _, hb⟩
  have hx : (⟨#[120, 32, 58, 61, 32, 102, 40, 49, 41, 32, 47, 47, 32, 121, 10]⟩ : ByteArray).data.toList = wakeText := rfl
  rw [hx, wake_lex] at hown ⊢
  obtain ⟨A, cap, rfl, hh⟩ := own_toks hown
  obtain ⟨g, rfl, hg, hc⟩ := hh (by simp [wakeToks])
  have c0 := (hc 0 _ rfl).2.1
  have c1 := (hc 1 _ rfl).1
  have c4 := (hc 4 _ rfl).2.2
  have c6 := hc 6 _ rfl
  obtain ⟨c60, c61, c62⟩ := c6
  simp only [Nat.zero_mul, Nat.reduceMul, Nat.reduceAdd, Nat.zero_add, Nat.one_mul] at c0 c1 c4 c60 c61 c62
  have e1 : Env w1 := henv.below hb henv.big
  have hlen : ((wakeToks, (0 : Int), (0 : Nat)).1).length = 7 := rfl
  simp only [hlen]
  clear hown hh hc
  go_wp2_with fail
  have hb1 := Below.alloc hb hb.size (.cells #[.int .i64 0, .int .i64 0] 27)
  generalize w1.alloc (.cells #[.int .i64 0, .int .i64 0] 27) = w2 at hb1 ⊢
  have e2 := henv.below hb1 henv.big
  refine (word_any ⟨#[120]⟩ (by decide) w2 e2).mono ?_
  rintro e w3 ⟨rfl, hb3⟩
  have hx3 : (⟨#[120]⟩ : ByteArray).data.toList = [120] := rfl
  rw [hx3, wake_word]
  have hb2 := hb1.trans (hb3.mono hb1.size)
  have e3 := henv.below hb2 henv.big
  go_wp2_with fail
  refine (word_any ⟨#[49]⟩ (by decide) w3 e3).mono ?_
  rintro e w4 ⟨rfl, hb4⟩
  have hx4 : (⟨#[49]⟩ : ByteArray).data.toList = [49] := rfl
  rw [hx4, wake_noword]
  go_wp2_with fail
  go_ret
  exact ⟨rfl, hb2.trans (hb4.mono hb2.size)⟩

end Go.Proofs.YtoppkhkdbkkldaaDoor
