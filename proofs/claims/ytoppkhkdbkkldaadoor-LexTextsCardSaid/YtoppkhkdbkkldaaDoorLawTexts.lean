/-
  PROVED: the call of LexTexts returns true and writes nothing below the old heap. CONDITIONS: Env; the argument's texts lie as ArgTexts says.
-/
import Derived.Test.YtoppkhkdbkkldaaDoorRefLex
import Derived.Test.YtoppkhkdbkkldaaDoorArgs
import Derived.Laws.StructEq
namespace Go.Proofs.YtoppkhkdbkkldaaDoor
open Go.RowKit
theorem lexOf_short (L : List UInt8) : (Lx.lexOf L).1.length ≤ 1024 := by
  have h := Lx.lex_err (L := L)
  by_cases he : (Lx.lexOf L).2.1 = 0
  · have h0 := h.2 he
    exact (Lx.lex_stands (L := L) (l := (Lx.lexOf L).1) (at' := (Lx.lexOf L).2.2) (by rw [← he]) h0).2.2
  · rw [(h.1 he).1]; simp
set_option maxRecDepth 100000 in
set_option maxHeartbeats 2000000 in
theorem places_same (l : List Lx.Tok) (A B : Option Addr) (c d : Nat) (w : World) (hm : l.length ≤ 1048576) (hA : HasToks w A l) (hB : HasToks w B l) :
    Calls Tryd.prog 13 #[.slice A l.length c, .slice B l.length d] w fun e w' => e = .returned (.bool true) ∧ Below w.heap.size w w' := by
  go_enter Tryd.func13, Tryd.ntmps13
  go_wp2_with fail
  refine (refSame_any l l A B c d w hm hA hB).mono ?_
  rintro e w1 ⟨rfl, hb1⟩
  rw [sameToks_refl]
  go_wp2_with fail
  go_loopw [12] (fun i wr => ∃ k : Nat, k ≤ l.length ∧ i = .int .i64 k ∧ Below w.heap.size w wr) (fun i _ => l.length - (intOf i).toNat)
  case atStart => exact ⟨0, Nat.zero_le _, rfl, hb1⟩
  case round =>
    obtain ⟨k, hk, rfl, hb⟩ := hrel
    by_cases hlt : k < l.length
    · obtain ⟨t, ht⟩ : ∃ t, l[k]? = some t := ⟨_, List.getElem?_eq_getElem hlt⟩
      obtain ⟨g, rfl, hg, a1, a2, a3⟩ := hA.at_ hb ht
      obtain ⟨g', rfl, hg', b1, b2, b3⟩ := hB.at_ hb ht
      have hz := hb.size
      have HB := Lib.hid hb
      clear ht hA hB hb
      go_wp2_with fail
      go_quiet (fail)
      go_wp2_with fail
      go_roundw
      case rel => exact ⟨k + 1, by omega, by go_num, below_drewN HB.out _⟩
      case measure => simp [intOf]; omega
    · go_wp2_with fail
      go_ret
      exact ⟨rfl, hb⟩

theorem blk_next {w w' : World} {b : Nat} {o : Obj} (hb : Below w.heap.size w w') (h : w.heap[b]? = some o) : w'.heap[b]? = some o := by
  have hlt : b < w.heap.size := (Array.getElem?_eq_some_iff.1 h).1
  exact (hb.block b hlt).trans h
set_option maxRecDepth 100000 in
set_option maxHeartbeats 8000000 in
theorem lawTexts_any (l : List ByteArray) (A : Option Addr) (c : Nat) (w : World) (henv : Env w) (_hl : l.length ≤ 9223372036854775807) (hls : ∀ s ∈ l, s.size ≤ 9223372036854775807) (hA : ArgTexts w A l) :
    Calls Tryd.prog 3 #[.slice A l.length c] w fun e w' => e = .returned (.bool true) ∧ Below w.heap.size w w' := by
  go_enter Tryd.func3, Tryd.ntmps3
  go_wp2_with fail
  refine (wakes_any w henv).mono ?_
  rintro e w1 ⟨rfl, hb1⟩
  go_wp2_with fail
  go_loopw [15] (fun i wr => ∃ k : Nat, k ≤ l.length ∧ i = .int .i64 k ∧ Below w.heap.size w wr) (fun i _ => l.length - (intOf i).toNat)
  case atStart => exact ⟨0, Nat.zero_le _, rfl, hb1⟩
  case round =>
    obtain ⟨k, hk, rfl, hb⟩ := hrel
    by_cases hlt : k < l.length
    · obtain ⟨s0, ht⟩ : ∃ t, l[k]? = some t := ⟨_, List.getElem?_eq_getElem hlt⟩
      obtain ⟨b, off, hA', hg, c1⟩ := hA.at_ hb ht
      subst hA'
      have hts : s0.size ≤ 9223372036854775807 := hls s0 (List.mem_of_getElem? ht)
      have hz := hb.size
      have HB := Lib.hid hb
      by_cases h16 : k = 16
      · have b16 : ((k : Int) == 16) = true := by rw [h16]; rfl
        clear hb ht h16
        go_wp2_with fail
        go_ret
        exact ⟨rfl, HB.out⟩
      have b16 : ((k : Int) == 16) = false := by rw [beq_eq_false_iff_ne]; omega
      obtain ⟨m, hm⟩ : ∃ m, m = min s0.size 4097 := ⟨_, rfl⟩
      have hmin2 : min (s0.size : Int) 4097 = (m : Int) := by omega
      have hm2 : m ≤ s0.size := by omega
      have hm3 : m ≤ 4097 := by omega
      clear hb ht hm
      go_upto_region 8 with (fail)
      have hss : (s0.extract 0 m).size ≤ 4097 := by rw [ByteArray.size_extract]; omega
      generalize s0.extract 0 m = s at hss ⊢
      clear hmin2 hm2 hm3 hts
      go_wp2_with fail
      refine (refLex_any s wr (by omega)).mono ?_
      rintro e w2 ⟨v, rfl, hown, _, hb2⟩
      have hlx := fun W (h : Env W) => lex_any s W h (by omega)
      have hshort := lexOf_short s.data.toList
      generalize Lx.lexOf s.data.toList = x at hown hlx hshort ⊢
      obtain ⟨L, er, pl⟩ := x
      simp only [] at hown hlx hshort ⊢
      obtain ⟨B, cap, rfl, hT⟩ := own_toks hown
      replace HB := Lib.hid (HB.out.trans (hb2.mono hz))
      clear hown hb2 c1
      go_upto_region 9 with (fail)
      have hz2 := HB.out.size
      have hT3 := hT.below (below_box w2 (.cells #[.int .i64 er, .int .i64 (pl : Nat)] 27))
      have hbx := heap_alloc_new w2 (.cells #[.int .i64 er, .int .i64 (pl : Nat)] 27)
      replace HB := Lib.hid (HB.out.alloc hz2 (.cells #[.int .i64 er, .int .i64 (pl : Nat)] 27))
      generalize w2.alloc (.cells #[.int .i64 er, .int .i64 (pl : Nat)] 27) = w3 at HB hT3 hbx ⊢
      have hlt3 : w2.heap.size < w3.heap.size := (Array.getElem?_eq_some_iff.1 hbx).1
      generalize w2.heap.size = bx at hbx hlt3 hz2 ⊢
      clear hT
      have HBX := Lib.hid hbx
      clear hbx
      go_wp2_with fail
      go_loopw [7] (fun i wr => ∃ r : Nat, r ≤ 2 ∧ i = .int .i64 r ∧ Below w3.heap.size w3 wr) (fun i _ => 2 - (intOf i).toNat)
      case atStart => exact ⟨0, by omega, rfl, Below.refl _ _⟩
      case round =>
        obtain ⟨r, hr, rfl, hbr⟩ := hrel
        by_cases hr2 : r < 2
        · have HBR := Lib.hid hbr
          have hz3 := hbr.size
          have eq1 : Env wr := henv.below (HB.out.trans (hbr.mono HB.out.size)) henv.big
          have hTq := hT3.below hbr
          have hbxq := (hbr.block bx hlt3).trans HBX.out
          clear hbr
          go_wp2_with fail
          refine (hlx wr eq1).mono ?_
          rintro e w4 ⟨v4, rfl, hown4, _, hb4⟩
          obtain ⟨B4, cap4, rfl, hT4⟩ := own_toks hown4
          have hz4 := hb4.size
          have hTq4 := hTq.below hb4
          have hbx4 := blk_next hb4 hbxq
          have hB14 := HBR.out.trans (hb4.mono hz3)
          clear hb4 hTq hbxq
          go_upto_region 13 with (fail)
          have hT5 := hT4.below (below_box w4 (.cells #[.int .i64 er, .int .i64 (pl : Nat)] 27))
          have hTq5 := hTq4.below (below_box w4 (.cells #[.int .i64 er, .int .i64 (pl : Nat)] 27))
          have hbx5 := heap_alloc_new w4 (.cells #[.int .i64 er, .int .i64 (pl : Nat)] 27)
          have hbx6 := blk_next (below_box w4 (.cells #[.int .i64 er, .int .i64 (pl : Nat)] 27)) hbx4
          have hown5 := hown4.alloc (.cells #[.int .i64 er, .int .i64 (pl : Nat)] 27)
          have hB15 := hB14.alloc hB14.size (.cells #[.int .i64 er, .int .i64 (pl : Nat)] 27)
          generalize w4.alloc (.cells #[.int .i64 er, .int .i64 (pl : Nat)] 27) = w5 at hT5 hTq5 hbx5 hbx6 hown5 hB15 ⊢
          clear hown4 hT4 hTq4 hbx4 hB14
          have a0 := (blk_cells hbx5 0).trans rfl
          have a1 := (blk_cells hbx5 1).trans rfl
          have b0 := (blk_cells hbx6 0).trans rfl
          have b1 := (blk_cells hbx6 1).trans rfl
          generalize w4.heap.size = by4 at hbx5 a0 a1 ⊢
          clear hbx5 hbx6
          have HO := Lib.hid hown5
          have HB15 := Lib.hid hB15
          clear hown5 hB15
          have hz5 := HB15.out.size
          generalize wr.heap.size = bs at HO hz3
          go_wp2_with fail
          refine (places_same L B4 B cap4 cap w5 (by omega) hT5 hTq5).mono ?_
          rintro e w6 ⟨rfl, hb6⟩
          replace HO := Lib.hid (own_below HO.out hb6)
          replace HB15 := Lib.hid (HB15.out.trans (hb6.mono hz5))
          clear hb6 a0 a1 b0 b1 hT5 hTq5 hz5
          go_wp2_with fail
          go_loopw [52] (fun i wr => ∃ (j : Nat) (xs : List Value), j ≤ L.length ∧ i = .int .i64 j ∧ Hid (wr.ownsRow bs 32 3 (.slice B4 L.length cap4) L.length xs) ∧ Hid (Below w3.heap.size w3 wr)) (fun i _ => L.length - (intOf i).toNat)
          case atStart => exact ⟨0, _, Nat.zero_le _, rfl, HO, HB15⟩
          case round =>
            obtain ⟨j, xs, hj, rfl, HX, HY⟩ := hrel
            clear HO HB15
            by_cases hjl : j < L.length
            · have hg0 : ∃ g, B4 = some ⟨g, 0, none⟩ ∧ bs ≤ g := by
                rcases HX.out.2 with ⟨_, hn⟩ | ⟨g, cap', cur, hv, hbg, _⟩
                · omega
                · refine ⟨g, ?_, hbg⟩
                  simp only [Value.slice.injEq] at hv
                  exact hv.1
              obtain ⟨g, hg4, hbg⟩ := hg0
              subst hg4
              have hxl : xs.length = L.length * 3 := HX.out.1
              obtain ⟨v0, d0⟩ : ∃ v, wr.cell? ⟨g, j * 3, none⟩ = some v := ⟨_, (HX.out.cellAt (j * 3) (by omega)).trans (List.getElem?_eq_getElem (by omega))⟩
              have g0 := HX.out.frozenAt (j * 3)
              have HX2 := Lib.hid (HX.out.stored (j * 3) (.int .i64 (-9))).1
              have HY2 := Lib.hid (HY.out.setCell (p := ⟨g, j * 3, none⟩) (by show w3.heap.size ≤ g; omega) (.int .i64 (-9)))
              clear hxl
              go_wp2_with fail
              go_roundw
              case rel => exact ⟨j + 1, _, by omega, by go_num, HX2, HY2⟩
              case measure => simp [intOf]; omega
            · go_wp2_with fail
              go_roundw
              case rel => exact ⟨r + 1, by omega, by go_num, HY.out⟩
              case measure => simp [intOf]; omega
        · clear hT3
          go_wp2_with fail
          go_roundw
          case rel => exact ⟨k + 1, by omega, by go_num, HB.out.trans (hbr.mono HB.out.size)⟩
          case measure => simp [intOf]; omega
    · go_wp2_with fail
      go_ret
      exact ⟨rfl, hb⟩
end Go.Proofs.YtoppkhkdbkkldaaDoor
