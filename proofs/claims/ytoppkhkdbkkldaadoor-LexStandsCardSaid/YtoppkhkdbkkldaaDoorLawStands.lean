/-
  PROVED: the call of LexStands returns true and writes nothing below the old heap. CONDITION: Env.
-/
import Derived.Test.YtoppkhkdbkkldaaDoorWalkL
import Derived.Test.YtoppkhkdbkkldaaDoorStands
import Derived.Test.YtoppkhkdbkkldaaDoorLawBack
import Derived.Laws.StructEq
import Derived.BigQuiet
namespace Go.Proofs.YtoppkhkdbkkldaaDoor
open Go.RowKit
theorem hasToks_set {w : World} {A : Option Addr} {l : List Lx.Tok} {b i : Nat} {u : Value} (h : HasToks w A l) (hne : ∀ g, A = some ⟨g, 0, none⟩ → l ≠ [] → g ≠ b) : HasToks (w.setCell ⟨b, i, none⟩ u) A l := fun h0 => by
  obtain ⟨g, hA, hg, hc⟩ := h h0
  have hgb := hne g hA h0
  refine ⟨g, hA, by simpa [World.setCell] using hg, fun j t hj => ?_⟩
  have hbl : (w.setCell ⟨b, i, none⟩ u).heap[g]? = w.heap[g]? := heap_setCell_other w ⟨b, i, none⟩ g u hgb
  obtain ⟨h1, h2, h3⟩ := hc j t hj
  exact ⟨(World.cell?_of_block (a := ⟨g, j * 3, none⟩) hbl).trans h1, (World.cell?_of_block (a := ⟨g, j * 3 + 1, none⟩) hbl).trans h2, (World.cell?_of_block (a := ⟨g, j * 3 + 2, none⟩) hbl).trans h3⟩
theorem data_of2 (q : List UInt8) : (⟨q.toArray⟩ : ByteArray).data.toList = q := by simp
theorem stands_small {L : List UInt8} : ∀ (l : List Lx.Tok) (e : Nat), Lx.Stands L e l → ∀ t ∈ l, t.text.length ≤ L.length
  | [], _, _, t, ht => by cases ht
  | u :: l, e, h, t, ht => by
    obtain ⟨p, _, _, h3, _, _, h6⟩ := h
    rcases List.mem_cons.1 ht with rfl | ht
    · omega
    · exact stands_small l _ h6 t ht
set_option maxRecDepth 100000 in
set_option maxHeartbeats 4000000 in
theorem lawStands_any (s : ByteArray) (w : World) (henv : Env w) (hs : s.size ≤ 9223372036854775807) :
    Calls Tryd.prog 7 #[.string s] w fun e w' => e = .returned (.bool true) ∧ Below w.heap.size w w' := by
  obtain ⟨n, hn⟩ : ∃ n, n = min s.size 4096 := ⟨_, rfl⟩
  have hmin : min (s.size : Int) 4096 = (n : Int) := by omega
  have hn2 : n ≤ s.size := by omega
  have hn9 : n ≤ 4096 := by omega
  clear hn
  go_enter Tryd.func7, Tryd.ntmps7
  go_wp2_with fail
  refine (wakes_any w henv).mono ?_
  rintro e w1 ⟨rfl, hb1⟩
  have e1 := henv.below hb1 henv.big
  have hu : (s.extract 0 n).size = n := extract_size0 s n hn2
  go_wp2_with fail
  generalize s.extract 0 n = u at hu ⊢
  clear hmin
  refine (lex_any u w1 e1 (by omega)).mono ?_
  rintro e w2 ⟨v, rfl, hown, hnil, hb2⟩
  have hb12 := hb1.trans (hb2.mono hb1.size)
  obtain ⟨herr, hok⟩ := Lx.lex_err (L := u.data.toList)
  rcases hx : Lx.lexOf u.data.toList with ⟨l, er, pl⟩
  try rw [hx] at hown
  try rw [hx] at hnil
  try rw [hx] at herr hok
  simp only [] at hown hnil herr hok ⊢
  by_cases h0 : er = 0
  · have hpl := hok h0
    subst h0 hpl
    obtain ⟨hst, hokl, hl9⟩ := Lx.lex_stands hx rfl
    have hck := Lx.check_ok hokl hl9
    have HSM : Hid (∀ t ∈ l, t.text.length ≤ 4096) := Lib.hid fun t ht => by have := stands_small l 0 hst t ht; rw [← Lib.size_eq] at this; omega
    obtain ⟨A, cap, rfl, hh⟩ := own_toks hown
    have HS := Lib.hid hst
    have HC := Lib.hid hck
    clear hst hck hokl hown hnil herr hok hx
    rw [show ((0 : Nat) : Int) = 0 from rfl]
    go_wp2_with fail
    have hb3 := Below.alloc hb12 hb12.size (.cells #[.int .i64 0, .int .i64 0] 27)
    have hh3 := hh.below (below_box w2 (.cells #[.int .i64 0, .int .i64 0] 27))
    have hT := heap_alloc_new w2 (.cells #[.int .i64 0, .int .i64 0] 27)
    generalize w2.alloc (.cells #[.int .i64 0, .int .i64 0] 27) = w3 at hb3 hh3 hT ⊢
    have hlt3 : w2.heap.size < w3.heap.size := (Array.getElem?_eq_some_iff.1 hT).1
    generalize w2.heap.size = bx at hT hlt3 ⊢
    clear hh
    go_loopw [5, 47] (fun en i wr => ∃ (k e : Nat), k ≤ l.length ∧ i = .int .i64 k ∧ en = .int .i64 e ∧ e ≤ n ∧ Hid (Lx.Stands u.data.toList e (l.drop k)) ∧ Below w3.heap.size w3 wr) (fun _ i _ => l.length - (intOf i).toNat)
    case atStart => exact ⟨0, 0, Nat.zero_le _, rfl, rfl, Nat.zero_le _, by rw [List.drop_zero]; exact HS, Below.refl _ _⟩
    case round =>
      obtain ⟨k, e, hk, rfl, rfl, hen, H, hb⟩ := hrel
      by_cases hlt : k < l.length
      · obtain ⟨t, ht⟩ : ∃ t, l[k]? = some t := ⟨_, List.getElem?_eq_getElem hlt⟩
        obtain ⟨g, rfl, hg, c1, c2, c3⟩ := hh3.at_ hb ht
        have hdr : l.drop k = t :: l.drop (k + 1) := by
          obtain ⟨h, rfl⟩ := List.getElem?_eq_some_iff.1 ht
          exact List.drop_eq_getElem_cons h
        have hst := H.out
        rw [hdr] at hst
        obtain ⟨p, hp, hep, hpn, htx, hq, hst'⟩ := hst
        have HST := Lib.hid hst'
        obtain ⟨kd, tx, pc⟩ := t
        simp only [] at hp hpn htx hq c1 c2 c3 HST
        subst hp
        rw [← Lib.size_eq, hu] at hpn
        have hgap : (u.extract e p).data.toList = (u.data.toList.drop e).take (p - e) := by rw [Lib.extract_data]
        have hxt : u.extract p (p + tx.length) = ⟨tx.toArray⟩ := by
          rw [Lib.extract_eq]
          congr 2
          rw [show p + tx.length - p = tx.length by omega]; exact htx
        have HQ := Lib.hid (Lx.quiet_lex hq (by rw [List.length_take, List.length_drop, ← Lib.size_eq]; omega))
        clear hq htx hst' ht hdr H
        have HB := Lib.hid hb
        have hsz := hb.size
        clear hb
        have l1 : ¬ (p : Int) < e := by omega
        have l2 : ¬ (n : Int) < (p : Int) + tx.length := by omega
        go_upto_region 11 with (fail)
        have hTb := heap_alloc_new wr (.cells #[.int .i64 kd, .string ⟨tx.toArray⟩, .int .i64 p] 32)
        have hBb := Below.alloc HB.out hsz (.cells #[.int .i64 kd, .string ⟨tx.toArray⟩, .int .i64 p] 32)
        generalize wr.alloc (.cells #[.int .i64 kd, .string ⟨tx.toArray⟩, .int .i64 p] 32) = w4 at hTb hBb ⊢
        have b0 := (blk_cells hTb 0).trans rfl
        have b1 := (blk_cells hTb 1).trans rfl
        have b2 := (blk_cells hTb 2).trans rfl
        have HTB := Lib.hid hTb
        have HBB := Lib.hid hBb
        clear hTb hBb
        go_quiet (fail)
        have b1' : (w4.drewN nq).cell? ⟨wr.heap.size, 1, none⟩ = some (.string ⟨tx.toArray⟩) := b1
        have b2' : (w4.drewN nq).cell? ⟨wr.heap.size, 2, none⟩ = some (.int .i64 p) := b2
        have HBD := Lib.hid (below_drewN HBB.out nq)
        have hTD : (w4.drewN nq).heap[wr.heap.size]? = some (.cells #[.int .i64 kd, .string ⟨tx.toArray⟩, .int .i64 p] 32 (0, 0)) := HTB.out
        clear b0 b1 b2 HTB HBB
        generalize w4.drewN nq = w5 at b1' b2' HBD hTD ⊢
        have hsz5 : wr.heap.size < w5.heap.size := (Array.getElem?_eq_some_iff.1 hTD).1
        have HTD := Lib.hid hTD
        clear hTD
        go_wp2_with fail
        have e5 : Env w5 := henv.below (hb3.trans (HBD.out.mono hb3.size)) henv.big
        refine (lex_any (u.extract e p) w5 e5 (by rw [ByteArray.size_extract]; omega)).mono ?_
        rintro e w6 ⟨v6, rfl, hown6, hnil6, hb6⟩
        rw [hgap, HQ.out] at hown6 hnil6 ⊢
        simp only [] at hown6 hnil6 ⊢
        obtain rfl : v6 = .slice none 0 0 := by simpa using hnil6
        have d1 : w6.cell? ⟨wr.heap.size, 1, none⟩ = some (.string ⟨tx.toArray⟩) := (hb6.cell (p := ⟨wr.heap.size, 1, none⟩) hsz5).trans b1'
        have d2 : w6.cell? ⟨wr.heap.size, 2, none⟩ = some (.int .i64 p) := (hb6.cell (p := ⟨wr.heap.size, 2, none⟩) hsz5).trans b2'
        have HB6 := Lib.hid (HBD.out.trans (hb6.mono HBD.out.size))
        have hsz6 := Nat.le_trans HBD.out.size hb6.size
        have hsz6' := Nat.lt_of_lt_of_le hsz5 hb6.size
        clear hown6 hnil6 hb6 b1' b2' HBD
        go_wp2_with fail
        go_roundw
        case rel => exact ⟨k + 1, p + tx.length, by omega, by go_num, by go_num, by omega, HST, HB6.out.alloc hsz6 _⟩
        case measure => simp [intOf]; omega
      · obtain rfl : k = l.length := by omega
        have hst := H.out
        rw [List.drop_length] at hst
        have hgap : (u.extract e n).data.toList = u.data.toList.drop e := by
          rw [Lib.extract_data, List.take_of_length_le]
          rw [List.length_drop, ← Lib.size_eq, hu]; exact Nat.le_refl _
        have HQ := Lib.hid (Lx.quiet_lex hst.2 (by rw [List.length_drop, ← Lib.size_eq]; omega))
        clear hst H
        have hcb0 : wr.cell? ⟨bx, 0, none⟩ = some (.int .i64 0) := (hb.cell (p := ⟨bx, 0, none⟩) hlt3).trans ((blk_cells hT 0).trans rfl)
        have hcb1 : wr.cell? ⟨bx, 1, none⟩ = some (.int .i64 0) := (hb.cell (p := ⟨bx, 1, none⟩) hlt3).trans ((blk_cells hT 1).trans rfl)
        have hhr := hh3.below hb
        have HB := Lib.hid (hb3.trans (hb.mono hb3.size))
        have hlt4 := Nat.lt_of_lt_of_le hlt3 hb.size
        clear hb hb3 hh3 hT
        go_wp2_with fail
        have e4 : Env wr := henv.below HB.out henv.big
        refine (lex_any (u.extract e n) wr e4 (by rw [ByteArray.size_extract]; omega)).mono ?_
        rintro e' w6 ⟨v6, rfl, hown6, hnil6, hb6⟩
        rw [hgap, HQ.out] at hown6 hnil6 ⊢
        simp only [] at hown6 hnil6 ⊢
        obtain rfl : v6 = .slice none 0 0 := by simpa using hnil6
        have d0 : w6.cell? ⟨bx, 0, none⟩ = some (.int .i64 0) := (hb6.cell (p := ⟨bx, 0, none⟩) hlt4).trans hcb0
        have d1 : w6.cell? ⟨bx, 1, none⟩ = some (.int .i64 0) := (hb6.cell (p := ⟨bx, 1, none⟩) hlt4).trans hcb1
        have hh6 := hhr.below hb6
        have HB6 := Lib.hid (HB.out.trans (hb6.mono HB.out.size))
        have hlt6 := Nat.lt_of_lt_of_le hlt4 hb6.size
        clear hown6 hnil6 hb6 hcb0 hcb1 hhr HB hgap HQ
        rw [show ((0 : Nat) : Int) = 0 from rfl]
        go_wp2_with fail
        have hB7 := Below.alloc HB6.out HB6.out.size (.cells #[.int .i64 0, .int .i64 0] 27)
        have hh7 := hh6.below (below_box w6 (.cells #[.int .i64 0, .int .i64 0] 27))
        have hT7 := heap_alloc_new w6 (.cells #[.int .i64 0, .int .i64 0] 27)
        generalize w6.alloc (.cells #[.int .i64 0, .int .i64 0] 27) = w7 at hB7 hh7 hT7 ⊢
        have e7 : Env w7 := henv.below hB7 henv.big
        refine (check_any l A cap w7 e7 (by omega) ?_ hh7).mono ?_
        · exact fun t ht => Nat.le_trans (HSM.out t ht) (by decide)
        rintro e' w8 ⟨rfl, hb8⟩
        rw [HC.out]
        go_wp2_with fail
        have hB8 := hB7.trans (hb8.mono hB7.size)
        have hh8 := hh7.below hb8
        have e8 : Env w8 := henv.below hB8 henv.big
        have hlt8 : w6.heap.size < w8.heap.size := Nat.lt_of_lt_of_le (Array.getElem?_eq_some_iff.1 hT7).1 hb8.size
        have hT8 : w8.heap[w6.heap.size]? = some (.cells #[.int .i64 0, .int .i64 0] 27 (0, 0)) := (hb8.block _ (Array.getElem?_eq_some_iff.1 hT7).1).trans hT7
        have hpl : (Lx.printText l).length ≤ 1073741824 := by
          rw [Lx.printText_eq]
          have := pr_len l [] (by simp) (fun t ht => Nat.le_trans (HSM.out t ht) (by decide))
          omega
        have HGL : Hid (∀ g, A = some ⟨g, 0, none⟩ → l ≠ [] → g ≠ w6.heap.size) := Lib.hid fun g hA h0 => by
          obtain ⟨g', hA', hg', _⟩ := hh6 h0
          rw [hA] at hA'
          simp only [Option.some.injEq, Addr.mk.injEq, and_true] at hA'
          omega
        clear hB7 hb8 hh7 hT7 d0 d1 hh6
        refine (print_any l A cap w8 e8 (by omega) (fun t ht => Nat.le_trans (HSM.out t ht) (by decide)) hpl hh8).mono ?_
        rintro e' w9 ⟨rfl, hb9⟩
        have hB9 := hB8.trans (hb9.mono hB8.size)
        have hh9 := hh8.below hb9
        have e9 := henv.below hB9 henv.big
        have hT9 : w9.heap[w6.heap.size]? = some (.cells #[.int .i64 0, .int .i64 0] 27 (0, 0)) := (hb9.block _ hlt8).trans hT8
        have hlt9 := Nat.lt_of_lt_of_le hlt8 hb9.size
        clear hT8 hh8 hb9 hpl
        by_cases hlong : 4096 < (Lx.printText l).length
        · rw [printRes_long HC.out hlong]
          clear hlong
          go_wp2_with fail
          go_ret
          exact ⟨rfl, hB9⟩
        · rw [printRes_ok HC.out hlong]
          obtain ⟨m, hm, hsm⟩ := Lx.lex_print HC.out (by omega)
          have hTl : (Lx.printText l).length ≤ 4096 := by omega
          clear hlong
          generalize Lx.printText l = T at hm hTl ⊢
          have HM := Lib.hid hm
          have HS2 := Lib.hid hsm
          clear hm hsm
          go_wp2_with fail
          refine (lex_any ⟨T.toArray⟩ w9 e9 (by show T.length ≤ _; omega)).mono ?_
          rintro e' w10 ⟨v10, rfl, hown10, _, hb10⟩
          rw [data_of2, HM.out] at hown10 ⊢
          simp only [] at hown10 ⊢
          have HLEN : Hid (l.length = m.length) := Lib.hid <| Decidable.byContradiction fun h => by have := sameToks_len h; rw [HS2.out] at this; cases this
          obtain ⟨B, cap2, rfl, hhm⟩ := own_toks hown10
          have HGM : Hid (∀ g, B = some ⟨g, 0, none⟩ → m ≠ [] → g ≠ w6.heap.size) := Lib.hid fun g hB _ => by
            have := (hown10.lt g (by rw [hB]; rfl)).1
            omega
          have hB10 := hB9.trans (hb10.mono hB9.size)
          have hh10 := hh9.below hb10
          have hT10 : w10.heap[w6.heap.size]? = some (.cells #[.int .i64 0, .int .i64 0] 27 (0, 0)) := (hb10.block _ hlt9).trans hT9
          have x0 := (blk_cells hT10 0).trans rfl
          have x1 := (blk_cells hT10 1).trans rfl
          have y0 := blk_free hT10 0
          have y1 := blk_free hT10 1
          clear hown10 hT9 hh9 hb10
          rw [show ((0 : Nat) : Int) = 0 from rfl]
          go_wp2_with fail
          have hlen := HLEN.out
          have hsz10 : w.heap.size ≤ w6.heap.size := HB6.out.size
          have hB11 := (hB10.setCell (p := ⟨w6.heap.size, 0, none⟩) hsz10 (.int .i64 0)).setCell (p := ⟨w6.heap.size, 1, none⟩) hsz10 (.int .i64 0)
          have hh11 := hasToks_set (i := 1) (u := .int .i64 0) (hasToks_set (i := 0) (u := .int .i64 0) hh10 HGL.out) HGL.out
          have hhm11 := hasToks_set (i := 1) (u := .int .i64 0) (hasToks_set (i := 0) (u := .int .i64 0) hhm HGM.out) HGM.out
          generalize (w10.setCell ⟨w6.heap.size, 0, none⟩ (.int .i64 0)).setCell ⟨w6.heap.size, 1, none⟩ (.int .i64 0) = w11 at hB11 hh11 hhm11 ⊢
          refine (same_any l m A B cap cap2 w11 (by omega) hh11 hhm11).mono ?_
          rintro e' w12 ⟨rfl, hb12'⟩
          rw [HS2.out]
          clear hlen
          go_wp2_with fail
          go_ret
          exact ⟨rfl, hB11.trans (hb12'.mono hB11.size)⟩
  · obtain ⟨rfl, hle⟩ := herr h0
    obtain rfl := hnil rfl
    have hle2 : pl ≤ n := by rw [← hu, Lib.size_eq]; exact hle
    have her : (er != 0) = true := by rw [bne_iff_ne]; exact h0
    clear h0 herr hok hx hown hnil
    go_wp2_with fail
    go_ret
    exact ⟨rfl, hb12.alloc hb12.size _⟩

end Go.Proofs.YtoppkhkdbkkldaaDoor
