/-
  PROVED: the call of LexPrints returns true and writes nothing below the old heap. CONDITIONS: Env; the argument's rows lie as ArgRows says.
-/
import Derived.Test.YtoppkhkdbkkldaaDoorRefR
import Derived.Test.YtoppkhkdbkkldaaDoorRefT
import Derived.Test.YtoppkhkdbkkldaaDoorPlaces
import Derived.Test.YtoppkhkdbkkldaaDoorArgs
import Derived.Test.YtoppkhkdbkkldaaDoorLawBack
namespace Go.Proofs.YtoppkhkdbkkldaaDoor
open Go.RowKit
theorem check_ends {l : List Lx.Tok} (h : Lx.checkOf l = 0) : ∀ t ∈ l, t.text = [] → t.kind = 5 := by
  intro t ht h0
  obtain ⟨k, hk⟩ := List.getElem?_of_mem ht
  apply Decidable.byContradiction
  intro hne
  have hal : Lx.isAlone t = false := Lx.alone_void hne h0
  have := right_false (l := l) (k := k + 1) (by rw [rightAt_succ hk]; unfold Lx.checkStep; rw [hal]; simp)
  rw [h] at this
  cases this
set_option maxRecDepth 100000 in
set_option maxHeartbeats 8000000 in
theorem lawPrints_any (l : List (List Lx.Tok)) (A : Option Addr) (c : Nat) (w : World) (henv : Env w) (_hl : l.length ≤ 9223372036854775807) (hA : ArgRows w A l) :
    Calls Tryd.prog 5 #[.slice A l.length c] w fun e w' => e = .returned (.bool true) ∧ Below w.heap.size w w' := by
  obtain ⟨i0, hi, hz0, hz1, hz2⟩ := info_parts tok_info
  go_enter Tryd.func5, Tryd.ntmps5
  go_wp2_with fail
  refine (wakes_any w henv).mono ?_
  rintro e w1 ⟨rfl, hb1⟩
  go_wp2_with fail
  go_loopw [15] (fun i wr => ∃ k : Nat, k ≤ l.length ∧ i = .int .i64 k ∧ Below w.heap.size w wr) (fun i _ => l.length - (intOf i).toNat)
  case atStart => exact ⟨0, Nat.zero_le _, rfl, hb1⟩
  case round =>
    obtain ⟨k, hk, rfl, hb⟩ := hrel
    by_cases hlt : k < l.length
    · obtain ⟨r, ht⟩ : ∃ t, l[k]? = some t := ⟨_, List.getElem?_eq_getElem hlt⟩
      obtain ⟨b, off, A', c', hA', hg, c1, hr1, hr2, hr3⟩ := hA.at_ hb ht
      subst hA'
      have hz := hb.size
      have HB := Lib.hid hb
      by_cases h12 : k = 12
      · have b12 : ((k : Int) == 12) = true := by rw [h12]; rfl
        clear hb ht h12
        go_wp2_with fail
        go_ret
        exact ⟨rfl, HB.out⟩
      have b12 : ((k : Int) == 12) = false := by rw [beq_eq_false_iff_ne]; omega
      clear hb ht
      go_wp2_with fail
      refine (few_any r A' c' wr hr1 hr2 hr3).mono ?_
      rintro e w2 ⟨g, n, hn, rfl, hown2, hb2⟩
      have HB2 := Lib.hid (HB.out.trans (hb2.mono hz))
      have hA2 := toks_prefix hn hown2
      have hn9 := few_length r
      subst hn
      have hsm := few_small r
      have hpl := few_print r
      have h2 := hown2
      have hlast := (hown2.cellAt ((fewOf r).length * 3) (by omega)).trans (toksCells_get _ _ _ (getElem_snoc (fewOf r) ⟨77, [], 0⟩)).1
      have hc2 : ∀ j u, (toksCells (fewOf r))[j]? = some u → w2.cell? ((⟨g, 0, none⟩ : Addr).add j) = some u := fun j u hu => toks_cells h2 j u hu
      have hlen3 : (toksCells (fewOf r)).length = (fewOf r).length * 3 := toksCells_length _
      have HC := Lib.hid hc2
      have hgl : g < w2.heap.size := World.block_lt_of_cell? _ _ hlast
      clear hc2 hown2 h2 hr1 hr2 hr3 hb2 HB c1
      generalize fewOf r = L at *
      go_upto_region 8 with (fail)
      go_wp2_with (at_builtin; refine wpList_append_own _ rfl (.tmp 24) (.tmp 25) 24 rfl w2.heap.size 32 i0 (.agg #[.int .i64 0, .string ⟨#[]⟩, .int .i64 0]) 3 32 Tryd.underlying24 hi hz0 hz1 hz2 rfl (by decide) _ 0 [] rfl (World.ownsRow_made w2 #[] 0 (Nat.le_refl _) (by decide) rfl) ⟨g, 0, none⟩ L.length (L.length + 2) (toksCells L) rfl hlen3 ?k1 (toksCells_one _) ?k2 ?k3 ?k4 ?_)
      case k1 => exact fun j u hu => ((below_box w2 (.cells #[] 32)).cell (World.block_lt_of_cell? _ _ (HC.out j u hu))).trans (HC.out j u hu)
      case k2 => unfold maxLen; omega
      case k3 => omega
      case k4 => simp
      intro v' w3 hown3 hg3 _
      have hb3 : Below w2.heap.size w2 w3 := (below_box w2 _).grown hg3 (by simp) (fun j hj => by have := Option.some.inj (show some w2.heap.size = some j from hj); omega)
      obtain ⟨A3, cap3, rfl, hA3⟩ := own_toks hown3
      have HB3 := Lib.hid (HB2.out.trans (hb3.mono HB2.out.size))
      have hL3 := hA2.below hb3
      have hlast3 := (hb3.cell (p := ⟨g, L.length * 3, none⟩) hgl).trans hlast
      have hgl3 := Nat.lt_of_lt_of_le hgl hb3.size
      clear hown3 hg3 hb3 hA2 hlast hgl HC HB2 hlen3
      have e3 := henv.below HB3.out henv.big
      go_wp2_with fail
      refine (print_any L _ _ w3 e3 (by omega) hsm hpl hL3).mono ?_
      rintro e w4 ⟨rfl, hb4⟩
      have HB4 := Lib.hid (HB3.out.trans (hb4.mono HB3.out.size))
      have hL4 := hL3.below hb4
      have hA4 := hA3.below hb4
      have hlast4 := (hb4.cell (p := ⟨g, L.length * 3, none⟩) hgl3).trans hlast3
      have hgl4 := Nat.lt_of_lt_of_le hgl3 hb4.size
      have e4 := henv.below HB4.out henv.big
      clear hb4 hL3 hA3 hlast3 hgl3 HB3 e3
      obtain ⟨tx, er, hpr⟩ : ∃ (tx : ByteArray) (er : Int), printRes L = .tuple #[.string tx, .int .i64 er] := ⟨_, _, rfl⟩
      rw [hpr]
      have HPR := Lib.hid hpr
      clear hpr
      go_wp2_with fail
      refine (check_any L _ _ w4 e4 (by omega) hsm hL4).mono ?_
      rintro e w5 ⟨rfl, hb5⟩
      have HB5 := Lib.hid (HB4.out.trans (hb5.mono HB4.out.size))
      have hL5 := hL4.below hb5
      have hA5 := hA4.below hb5
      have hlast5 := (hb5.cell (p := ⟨g, L.length * 3, none⟩) hgl4).trans hlast4
      have hgl5 := Nat.lt_of_lt_of_le hgl4 hb5.size
      clear hb5 hL4 hA4 hlast4 hgl4 HB4 e4
      go_wp2_with fail
      refine (places_alike L _ _ _ _ w5 (by omega) hL5 hA5).mono ?_
      rintro e w6 ⟨rfl, hb6⟩
      have HB6 := Lib.hid (HB5.out.trans (hb6.mono HB5.out.size))
      have hA6 := hA5.below hb6
      have hlast6 := (hb6.cell (p := ⟨g, L.length * 3, none⟩) hgl5).trans hlast5
      have hgl6 := Nat.lt_of_lt_of_le hgl5 hb6.size
      clear hb6 hL5 hA5 hlast5 hgl5 HB5
      go_upto_region 13 with (fail)
      go_wp2_with fail
      refine (refRight_any L _ _ w6 (by omega) hsm hA6).mono ?_
      rintro e w7 ⟨rfl, hb7⟩
      have HB7 := Lib.hid (HB6.out.trans (hb7.mono HB6.out.size))
      have hA7 := hA6.below hb7
      clear hb7 hA6 HB6 hlast6 hgl6
      by_cases hck : Lx.checkOf L = 0
      · have hce := check_ends hck
        rw [hck, decide_eq_true (rfl : (0 : Int) = 0)]
        by_cases hlong : 4096 < (Lx.printText L).length
        · have hp := HPR.out.symm.trans (printRes_long hck hlong)
          simp only [Value.tuple.injEq, Array.mk.injEq, List.cons.injEq, Value.string.injEq, Value.int.injEq, and_true, true_and] at hp
          obtain ⟨rfl, rfl⟩ := hp
          have HLG := Lib.hid hlong
          clear hck hlong
          go_wp2_with fail
          refine (refText_any L _ _ w7 (by omega) hce hpl hA7).mono ?_
          rintro e w8 ⟨rfl, hb8⟩
          have HB8 := Lib.hid (HB7.out.trans (hb8.mono HB7.out.size))
          have l1 : (4096 : Int) < ((Lx.printText L).length : Int) := by have := HLG.out; omega
          clear hb8 hA7 hce
          generalize Lx.printText L = T at *
          go_wp2_with fail
          go_roundw
          case rel => exact ⟨k + 1, by omega, by go_num, HB8.out⟩
          case measure => simp [intOf]; omega
        · have hp := HPR.out.symm.trans (printRes_ok hck hlong)
          simp only [Value.tuple.injEq, Array.mk.injEq, List.cons.injEq, Value.string.injEq, Value.int.injEq, and_true, true_and] at hp
          obtain ⟨rfl, rfl⟩ := hp
          have HLG := Lib.hid hlong
          clear hck hlong
          go_wp2_with fail
          refine (refText_any L _ _ w7 (by omega) hce hpl hA7).mono ?_
          rintro e w8 ⟨rfl, hb8⟩
          have HB8 := Lib.hid (HB7.out.trans (hb8.mono HB7.out.size))
          have l1 : ¬ (4096 : Int) < ((Lx.printText L).length : Int) := by have := HLG.out; omega
          have l2 : ((Lx.printText L).length : Int) ≤ 4096 := by have := HLG.out; omega
          clear hb8 hA7 hce
          generalize Lx.printText L = T at *
          go_wp2_with fail
          go_roundw
          case rel => exact ⟨k + 1, by omega, by go_num, HB8.out⟩
          case measure => simp [intOf]; omega
      · have h2 : Lx.checkOf L = 2 := (checkOf_val L).resolve_left hck
        have hp := HPR.out.symm.trans (printRes_bad hck)
        simp only [Value.tuple.injEq, Array.mk.injEq, List.cons.injEq, Value.string.injEq, Value.int.injEq, and_true, true_and] at hp
        obtain ⟨rfl, rfl⟩ := hp
        rw [h2, decide_eq_false (by decide : ¬ (2 : Int) = 0)]
        clear hck h2 hA7
        go_wp2_with fail
        go_roundw
        case rel => exact ⟨k + 1, by omega, by go_num, HB7.out⟩
        case measure => simp [intOf]; omega
    · go_wp2_with fail
      go_ret
      exact ⟨rfl, hb⟩
end Go.Proofs.YtoppkhkdbkkldaaDoor
