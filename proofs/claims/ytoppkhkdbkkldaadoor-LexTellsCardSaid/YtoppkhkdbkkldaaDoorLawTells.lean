/-
  PROVED: the call of LexTells returns true and writes nothing below the old heap. CONDITIONS: Env; the argument's tokens lie as ArgToks says.
-/
import Derived.Test.YtoppkhkdbkkldaaDoorRefH
import Derived.Test.YtoppkhkdbkkldaaDoorWalkL
import Derived.Deep.RegionHeld3
namespace Go.Proofs.YtoppkhkdbkkldaaDoor
open Go.RowKit
theorem num_cases (t : Lx.Tok) : (∃ v : Nat, numberRes t = .tuple #[.int .i64 v, .int .i64 0] ∧ refNumberRes t = .tuple #[.int .i64 v, .bool true]) ∨ (numberRes t = .tuple #[.int .i64 0, .int .i64 201] ∧ refNumberRes t = .tuple #[.int .i64 0, .bool false]) := by
  cases h : Lx.numberOf t with
  | some v => exact .inl ⟨v, numberRes_some h, refNumberRes_some h⟩
  | none => exact .inr ⟨numberRes_none h, refNumberRes_none h⟩
theorem val_cases (t : Lx.Tok) : (∃ v : ByteArray, valueRes t = .tuple #[.string v, .int .i64 0] ∧ refValueRes t = .tuple #[.string v, .bool true]) ∨ (valueRes t = .tuple #[.string ⟨#[]⟩, .int .i64 200] ∧ refValueRes t = .tuple #[.string ⟨#[]⟩, .bool false]) := by
  cases h : Lx.valueOf t with
  | some v => exact .inl ⟨_, valueRes_some h, refValueRes_some ((Lx.refValue_same t).trans h)⟩
  | none => exact .inr ⟨valueRes_none h, refValueRes_none ((Lx.refValue_same t).trans h)⟩
theorem quo_cases (L : List UInt8) : (∃ v : ByteArray, quoteRes L = .tuple #[.string v, .int .i64 0] ∧ refQuoteRes L = .tuple #[.string v, .bool true]) ∨ (quoteRes L = .tuple #[.string ⟨#[]⟩, .int .i64 2] ∧ refQuoteRes L = .tuple #[.string ⟨#[]⟩, .bool false]) := by
  cases h : Lx.quoteOf L with
  | some v => exact .inl ⟨_, quoteRes_some h, refQuoteRes_some h⟩
  | none => exact .inr ⟨quoteRes_none h, refQuoteRes_none h⟩

theorem blk_next {w w' : World} {b : Nat} {o : Obj} (hb : Below w.heap.size w w') (h : w.heap[b]? = some o) : w'.heap[b]? = some o := by
  have hlt : b < w.heap.size := (Array.getElem?_eq_some_iff.1 h).1
  exact (hb.block b hlt).trans h
set_option maxRecDepth 100000 in
set_option maxHeartbeats 8000000 in
theorem lawTells_any (l : List Lx.Tok) (A : Option Addr) (c : Nat) (w : World) (henv : Env w) (_hl : l.length ≤ 9223372036854775807) (hls : ∀ t ∈ l, t.text.length ≤ 9223372036854775807) (hA : ArgToks w A l) :
    Calls Tryd.prog 9 #[.slice A l.length c] w fun e w' => e = .returned (.bool true) ∧ Below w.heap.size w w' := by
  go_enter Tryd.func9, Tryd.ntmps9
  go_wp2_with fail
  refine (wakes_any w henv).mono ?_
  rintro e w1 ⟨rfl, hb1⟩
  go_wp2_with fail
  go_loopw [17] (fun i wr => ∃ k : Nat, k ≤ l.length ∧ k ≤ 30 ∧ i = .int .i64 k ∧ Below w.heap.size w wr) (fun i _ => l.length - (intOf i).toNat)
  case atStart => exact ⟨0, Nat.zero_le _, by omega, rfl, hb1⟩
  case round =>
    obtain ⟨k, hk, hk30, rfl, hb⟩ := hrel
    by_cases hlt : k < l.length
    · obtain ⟨t, ht⟩ : ∃ t, l[k]? = some t := ⟨_, List.getElem?_eq_getElem hlt⟩
      obtain ⟨b, off, hA', hg, c1, c2, c3⟩ := hA.at_ hb ht
      subst hA'
      have hts : t.text.length ≤ 9223372036854775807 := hls t (List.mem_of_getElem? ht)
      have hz := hb.size
      have HB := Lib.hid hb
      by_cases h30 : k = 30
      · have b30 : ((k : Int) == 30) = true := by rw [h30]; rfl
        clear hb ht h30
        go_wp2_with fail
        go_ret
        exact ⟨rfl, HB.out.alloc hz _⟩
      have b30 : ((k : Int) == 30) = false := by rw [beq_eq_false_iff_ne]; omega
      obtain ⟨m, hm⟩ : ∃ m, m = min t.text.length 4097 := ⟨_, rfl⟩
      have hmin2 : min (t.text.length : Int) 4097 = (m : Int) := by omega
      have hm2 : m ≤ t.text.length := by omega
      have hm3 : m ≤ 4097 := by omega
      replace hm := Lib.hid hm
      clear hb ht
      go_upto_region 8 with (fail)
      have hT := heap_alloc_new wr (.cells #[.int .i64 t.kind, .string ((⟨t.text.toArray⟩ : ByteArray).extract 0 m), .int .i64 t.place] 32)
      have hB2 := HB.out.alloc hz (.cells #[.int .i64 t.kind, .string ((⟨t.text.toArray⟩ : ByteArray).extract 0 m), .int .i64 t.place] 32)
      have hss : ((⟨t.text.toArray⟩ : ByteArray).extract 0 m).size ≤ 4097 := by rw [ByteArray.size_extract]; omega
      generalize wr.alloc (.cells #[.int .i64 t.kind, .string ((⟨t.text.toArray⟩ : ByteArray).extract 0 m), .int .i64 t.place] 32) = w2 at hT hB2 ⊢
      generalize (⟨t.text.toArray⟩ : ByteArray).extract 0 m = s at hT hss ⊢
      generalize t.kind = kd at hT ⊢
      generalize t.place = pl at hT ⊢
      clear c1 c2 c3 hm hmin2 hm2 hm3 hts HB
      generalize wr.heap.size = bx at hT hz ⊢
      have e2 := henv.below hB2 henv.big
      have c0 := (blk_cells hT 0).trans rfl
      have c1 := (blk_cells hT 1).trans rfl
      have c2 := (blk_cells hT 2).trans rfl
      have HT := Lib.hid hT
      have HB := Lib.hid hB2
      clear hT hB2
      go_wp2_with fail
      refine (number_any kd pl s w2 e2 (by omega)).mono ?_
      rintro e w3 ⟨rfl, hb3⟩
      replace HB := Lib.hid (HB.out.trans (hb3.mono HB.out.size))
      replace HT := Lib.hid (blk_next hb3 HT.out)
      clear c0 c1 c2 hb3 e2
      have c0 := (blk_cells HT.out 0).trans rfl
      have c1 := (blk_cells HT.out 1).trans rfl
      have c2 := (blk_cells HT.out 2).trans rfl
      rcases num_cases ⟨kd, s.data.toList, pl⟩ with ⟨v1, n1, n2⟩ | ⟨n1, n2⟩
      all_goals
        rw [n1]
        have N2 := Lib.hid n2
        clear n1 n2
        go_wp2_with fail
        refine (refNumber_any kd pl s w3 (by omega)).mono ?_
        rintro e w4 ⟨rfl, hb4⟩
        rw [N2.out]
        replace HB := Lib.hid (HB.out.trans (hb4.mono HB.out.size))
        replace HT := Lib.hid (blk_next hb4 HT.out)
        clear c0 c1 c2 hb4 N2
        have c0 := (blk_cells HT.out 0).trans rfl
        have c1 := (blk_cells HT.out 1).trans rfl
        have c2 := (blk_cells HT.out 2).trans rfl
        go_upto_region 12 with (fail)
        have e4 := henv.below HB.out henv.big
        go_wp2_with fail
        refine (value_any kd pl s w4 e4 (by omega)).mono ?_
        rintro e w5 ⟨rfl, hb5⟩
        replace HB := Lib.hid (HB.out.trans (hb5.mono HB.out.size))
        replace HT := Lib.hid (blk_next hb5 HT.out)
        clear c0 c1 c2 hb5 e4
        have c0 := (blk_cells HT.out 0).trans rfl
        have c1 := (blk_cells HT.out 1).trans rfl
        have c2 := (blk_cells HT.out 2).trans rfl
        rcases val_cases ⟨kd, s.data.toList, pl⟩ with ⟨v2, n1, n2⟩ | ⟨n1, n2⟩
        all_goals
          rw [n1]
          have N2 := Lib.hid n2
          clear n1 n2
          go_wp2_with fail
          refine (refValue_any kd pl s w5 (by omega)).mono ?_
          rintro e w6 ⟨rfl, hb6⟩
          rw [N2.out]
          replace HB := Lib.hid (HB.out.trans (hb6.mono HB.out.size))
          replace HT := Lib.hid (blk_next hb6 HT.out)
          clear c0 c1 c2 hb6 N2
          have c1 := (blk_cells HT.out 1).trans rfl
          go_upto_region 16 with (fail)
          go_wp2_with fail
          refine (quote_any s w6 (by omega)).mono ?_
          rintro e w7 ⟨rfl, hb7⟩
          replace HB := Lib.hid (HB.out.trans (hb7.mono HB.out.size))
          replace HT := Lib.hid (blk_next hb7 HT.out)
          clear c1 hb7
          have c1 := (blk_cells HT.out 1).trans rfl
          rcases quo_cases s.data.toList with ⟨v3, n1, n2⟩ | ⟨n1, n2⟩
          all_goals
            rw [n1]
            have N2 := Lib.hid n2
            clear n1 n2
            go_wp2_with fail
            refine (refQuote_any s w7 (by omega)).mono ?_
            rintro e w8 ⟨rfl, hb8⟩
            rw [N2.out]
            replace HB := Lib.hid (HB.out.trans (hb8.mono HB.out.size))
            replace HT := Lib.hid (blk_next hb8 HT.out)
            clear c1 hb8 N2
            have c1 := (blk_cells HT.out 1).trans rfl
            have e8 := henv.below HB.out henv.big
            have hlt8 : bx < w8.heap.size := (Array.getElem?_eq_some_iff.1 HT.out).1
            have hs9 : s.size ≤ 4294967296 := by omega
            have s0 : w8.drew.cell? ⟨bx, 1, none⟩ = some (.string s) ∧ Env w8.drew ∧ Below w8.heap.size w8 w8.drew := ⟨c1, e8.drew, below_drewN (Below.refl _ _) 1⟩
            have snext : ∀ x y : World, (x.cell? ⟨bx, 1, none⟩ = some (.string s) ∧ Env x ∧ Below w8.heap.size w8 x) → Below x.heap.size x y → (y.cell? ⟨bx, 1, none⟩ = some (.string s) ∧ Env y ∧ Below w8.heap.size w8 y) := fun x y ⟨h1, h2, h3⟩ h4 =>
              ⟨(h4.cell (p := ⟨bx, 1, none⟩) (by have := h3.size; show bx < x.heap.size; omega)).trans h1, h2.next h4, h3.trans (h4.mono h3.size)⟩
            go_upto_region 18 with (fail)
            first | (go_region_held (fun w' => w'.cell? ⟨bx, 1, none⟩ = some (.string s) ∧ Env w' ∧ Below w8.heap.size w8 w') (first | exact s0 | (refine snext _ _ ?_ hbw; assumption) | trace_state) (first
              | (go_at_call 27; refine (word_any s hs9 _ ?_).mono ?_; (first | assumption | simp [*]); rintro e w' ⟨rfl, hbw⟩)
              | (go_at_call 28; refine (refIsWord_any s _ hs9).mono ?_; rintro e w' ⟨rfl, rfl⟩))) | fail
            rename_i hHeld
            have hfin := hHeld.2.2
            clear hHeld s0 snext hbw
            go_wp2_with fail
            go_roundw
            case rel => exact ⟨k + 1, by omega, by omega, by go_num, HB.out.trans (hfin.mono HB.out.size)⟩
            case measure => simp [intOf]; omega
    · go_wp2_with fail
      go_ret
      exact ⟨rfl, hb⟩
end Go.Proofs.YtoppkhkdbkkldaaDoor
