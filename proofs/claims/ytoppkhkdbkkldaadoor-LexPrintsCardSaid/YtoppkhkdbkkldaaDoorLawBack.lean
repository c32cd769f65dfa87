/-
  PROVED: the call of LexBack returns true and writes nothing below the old heap. CONDITION: Env; the row is of Go's sizes.
-/
import Derived.Test.YtoppkhkdbkkldaaDoorWalkL
import Derived.Test.YtoppkhkdbkkldaaDoorBack
import Derived.Laws.StructEq
namespace Go.Proofs.YtoppkhkdbkkldaaDoor
open Go.RowKit
theorem pr_len : ∀ (l : List Lx.Tok) (g : List UInt8), g.length ≤ 1 → (∀ t ∈ l, t.text.length ≤ 4099) → (Lx.pr g l).length ≤ l.length * 4100
  | [], g, _, _ => by simp [Lx.pr]
  | t :: l, g, hg, h => by
    have ht := h t (List.mem_cons_self ..)
    have hl := fun g hg => pr_len l g hg (fun u hu => h u (List.mem_cons_of_mem _ hu))
    rw [Lx.pr, List.length_cons]
    split
    · have := hl [] (by simp)
      rw [List.length_cons]; omega
    · have := hl [32] (by simp)
      rw [List.length_append, List.length_append]; omega
theorem few_small (l : List Lx.Tok) : SmallToks (fewOf l) := fun _ ht => Nat.le_trans (few_text ht) (by decide)
theorem few_print (l : List Lx.Tok) : (Lx.printText (fewOf l)).length ≤ 1073741824 := by
  rw [Lx.printText_eq]
  have h1 := pr_len (fewOf l) [] (by simp) (fun t ht => few_text ht)
  have h2 := few_length l
  omega
set_option maxRecDepth 100000 in
set_option maxHeartbeats 2000000 in
theorem lawBack_any (l : List Lx.Tok) (A : Option Addr) (c : Nat) (w : World) (henv : Env w) (hl : l.length ≤ 9223372036854775807) (hls : ∀ t ∈ l, t.text.length ≤ 9223372036854775807) (hA : ArgToks w A l) :
    Calls Tryd.prog 6 #[.slice A l.length c] w fun e w' => e = .returned (.bool true) ∧ Below w.heap.size w w' := by
  go_enter Tryd.func6, Tryd.ntmps6
  go_wp2_with fail
  refine (wakes_any w henv).mono ?_
  rintro e w1 ⟨rfl, hb1⟩
  go_wp2_with fail
  refine (few_any l A c w1 hl hls (hA.below hb1 (Nat.le_refl _))).mono ?_
  rintro e w2 ⟨g, n, hn, rfl, hown2, hb2⟩
  have hb12 := hb1.trans (hb2.mono hb1.size)
  have hA2 := toks_prefix hn hown2
  have hn9 := few_length l
  subst hn
  clear hown2 hA
  have hsm := few_small l
  have hpl := few_print l
  have e2 := henv.below hb12 henv.big
  generalize fewOf l = L at hA2 hn9 hsm hpl ⊢
  clear hls hl
  go_wp2_with fail
  refine (print_any L _ _ w2 e2 (by omega) hsm hpl hA2).mono ?_
  rintro e w3 ⟨rfl, hb3⟩
  have hb13 := hb12.trans (hb3.mono hb12.size)
  have hA3 := hA2.below hb3
  clear hA2
  have e3 := henv.below hb13 henv.big
  by_cases hc : Lx.checkOf L = 0
  · by_cases hlong : 4096 < (Lx.printText L).length
    · rw [printRes_long hc hlong]
      clear hc hlong hsm hpl
      go_wp2_with fail
      go_ret
      exact ⟨rfl, hb13⟩
    · rw [printRes_ok hc hlong]
      obtain ⟨m, hm, hs⟩ := Lx.lex_print hc (by omega)
      have hT : (Lx.printText L).length ≤ 4096 := by omega
      clear hc hlong hsm hpl
      generalize Lx.printText L = T at hm hT ⊢
      have HM := Lib.hid hm
      have HS := Lib.hid hs
      clear hm hs
      go_wp2_with fail
      refine (lex_any ⟨T.toArray⟩ w3 e3 (by show T.length ≤ _; omega)).mono ?_
      rintro e w4 ⟨v, rfl, hown, _, hb4⟩
      have hx : (⟨T.toArray⟩ : ByteArray).data.toList = T := by simp
      rw [hx, HM.out] at hown ⊢
      simp only [] at hown ⊢
      have HLEN : Hid (L.length = m.length) := Lib.hid <| Decidable.byContradiction fun h => by have := sameToks_len h; rw [HS.out] at this; cases this
      obtain ⟨B, cap, rfl, hB⟩ := own_toks hown
      have hb14 := hb13.trans (hb4.mono hb13.size)
      have hA4 := hA3.below hb4
      clear hown hA3
      go_wp2_with fail
      have hb5 := Below.alloc hb14 hb14.size (.cells #[.int .i64 0, .int .i64 0] 27)
      have hA5 := hA4.below (below_box w4 (.cells #[.int .i64 0, .int .i64 0] 27))
      have hB5 := hB.below (below_box w4 (.cells #[.int .i64 0, .int .i64 0] 27))
      generalize w4.alloc (.cells #[.int .i64 0, .int .i64 0] 27) = w5 at hb5 hA5 hB5 ⊢
      have hlen := HLEN.out
      refine (same_any L m _ _ _ _ w5 (by omega) hA5 hB5).mono ?_
      rintro e w6 ⟨rfl, hb6⟩
      rw [HS.out]
      go_wp2_with fail
      go_ret
      exact ⟨rfl, hb5.trans (hb6.mono hb5.size)⟩
  · rw [printRes_bad hc]
    clear hc hsm hpl
    go_wp2_with fail
    go_ret
    exact ⟨rfl, hb13⟩

end Go.Proofs.YtoppkhkdbkkldaaDoor
