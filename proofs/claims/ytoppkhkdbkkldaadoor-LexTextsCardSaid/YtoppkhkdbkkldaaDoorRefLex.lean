/-
  PROVED: the reference's Lex computes lexOf, as Lex of package lex does. CONDITION: the text's length is at most 2^63 - 1.
-/
import Derived.Test.YtoppkhkdbkkldaaDoorRefEq
import Derived.Test.YtoppkhkdbkkldaaDoorRefD
import Derived.Test.YtoppkhkdbkkldaaDoorWalkG
namespace Go.Proofs.YtoppkhkdbkkldaaDoor
open Go.RowKit
structure RefW (w0 w : World) (v : Value) (acc : List Lx.Tok) : Prop where
  own : w.ownsRow (w0.heap.size + 1) 32 3 v acc.length (toksCells acc)
  nil : acc = [] → v = .slice none 0 0
  spot : w.heap[w0.heap.size]? = some (.cells #[.int .i64 0, .int .i64 0] 27 (0, 0))
  below : Below w0.heap.size w0 w
  big : w0.heap.size + 1 ≤ w.heap.size
theorem RefW.next {w0 w w' : World} {v : Value} {acc : List Lx.Tok} (h : RefW w0 w v acc) (hb : Below w.heap.size w w') : RefW w0 w' v acc := by
  obtain ⟨h1, h2, h3, h5, h6⟩ := h
  exact ⟨own_below h1 hb, h2, (hb.block _ (by omega)).trans h3, h5.trans (hb.mono (by omega)), Nat.le_trans h6 hb.size⟩
theorem RefW.set {w0 w : World} {v : Value} {acc : List Lx.Tok} (h : RefW w0 w v acc) {b : Nat} (hb : w0.heap.size < b) (hv : ∀ g, v.ownBlock = some g → g ≠ b) (i : Nat) (u : Value) : RefW w0 (w.setCell ⟨b, i, none⟩ u) v acc := by
  obtain ⟨h1, h2, h3, h5, h6⟩ := h
  refine ⟨?_, h2, (Below.heap_setCell _ _ _ _ (by show w0.heap.size ≠ b; omega)).trans h3, h5.setCell (by show _ ≤ b; omega) u, by simpa [World.setCell] using h6⟩
  rcases h1.2 with ⟨rfl, hn⟩ | ⟨g, cap, cur, rfl, hg, hc, r⟩
  · exact ⟨h1.1, .inl ⟨rfl, hn⟩⟩
  · refine ⟨h1.1, .inr ⟨g, cap, cur, rfl, hg, ?_, r⟩⟩
    rw [Below.heap_setCell _ _ _ _ (hv g rfl)]
    exact hc
theorem RefW.grown {w0 w w' : World} {v v' : Value} {acc : List Lx.Tok} {o : Obj} {t : Lx.Tok} (h : RefW w0 w v acc) (hown : w'.ownsRow (w0.heap.size + 1) 32 3 v' (acc ++ [t]).length (toksCells (acc ++ [t]))) (hg : (w.alloc o).grownBy w' v.ownBlock) : RefW w0 w' v' (acc ++ [t]) := by
  obtain ⟨h1, h2, h3, h5, h6⟩ := h
  have hv : ∀ k, v.ownBlock = some k → w0.heap.size + 1 ≤ k := fun k hk => (h1.lt k hk).1
  have hk : ∀ k, k < w0.heap.size + 1 → w'.heap[k]? = w.heap[k]? := fun k hk => by
    rw [hg.block k (by simp; omega) (fun e => by have := hv k e.symm; omega)]
    exact Below.heap_alloc _ _ _ (by omega)
  have hsz : w.heap.size + 1 ≤ w'.heap.size := by have := hg.size; simpa using this
  exact ⟨hown, fun e => by simp at e, (hk _ (by omega)).trans h3,
    ((h5.alloc (by omega) o).grown hg (by simp; omega) (fun k e => by have := hv k e; omega)), by omega⟩
structure RetR (w0 : World) (x : List Lx.Tok × Int × Nat) (tmps : Array Value) (w' : World) : Prop where
  t3 : tmps.getD 3 undef = .pointer (some ⟨w0.heap.size, 0, none⟩)
  c0 : w'.cell? ⟨w0.heap.size, 0, none⟩ = some (.int .i64 x.2.1)
  c1 : w'.cell? ⟨w0.heap.size, 1, none⟩ = some (.int .i64 x.2.2)
  own : w'.ownsRow (w0.heap.size + 1) 32 3 (tmps.getD 2 undef) x.1.length (toksCells x.1)
  nil : x.1 = [] → tmps.getD 2 undef = .slice none 0 0
  below : Below w0.heap.size w0 w'
theorem RetR.post {w0 : World} {x : List Lx.Tok × Int × Nat} {t : Array Value} {w' : World} (h : RetR w0 x t w') : bodyPost Tryd.prog Tryd.f11 (LexPost w0 x) .ret ⟨t, []⟩ w' := by
  obtain ⟨h3, h0, h1, hown, hnil, hb⟩ := h
  refine bodyPost_ret (v := .tuple #[t.getD 2 undef, .agg #[.int .i64 x.2.1, .int .i64 x.2.2]]) ?_ rfl ⟨_, rfl, own_base hown (by omega), hnil, hb⟩
  simp [results, Tryd.results11, go_sem] at h3 ⊢
  simp [h3, h0, h1, go_sem]
theorem RefW.ret_err {w0 w : World} {v : Value} {acc : List Lx.Tok} (h : RefW w0 w v acc) (e : Int) (a : Nat) (tmps : Array Value) (h2 : tmps.getD 2 undef = .slice none 0 0) (h3 : tmps.getD 3 undef = .pointer (some ⟨w0.heap.size, 0, none⟩)) :
    RetR w0 ([], e, a) tmps ((w.setCell ⟨w0.heap.size, 0, none⟩ (.int .i64 e)).setCell ⟨w0.heap.size, 1, none⟩ (.int .i64 (a : Nat))) := by
  have hs := spot_set (u := .int .i64 e) (v := .int .i64 (a : Nat)) h.spot
  refine ⟨h3, (blk_cells hs 0).trans rfl, (blk_cells hs 1).trans rfl, ?_, fun _ => h2, (h.below.setCell (Nat.le_refl _) _).setCell (Nat.le_refl _) _⟩
  rw [h2]; exact World.ownsRow_nil _ _ _ _
theorem RefW.ret_ok {w0 w : World} {v : Value} {acc : List Lx.Tok} (h : RefW w0 w v acc) (tmps : Array Value) (h2 : tmps.getD 2 undef = v) (h3 : tmps.getD 3 undef = .pointer (some ⟨w0.heap.size, 0, none⟩)) :
    RetR w0 (acc, 0, 0) tmps ((w.setCell ⟨w0.heap.size, 0, none⟩ (.int .i64 0)).setCell ⟨w0.heap.size, 1, none⟩ (.int .i64 0)) := by
  have hs := spot_set (u := .int .i64 0) (v := .int .i64 0) h.spot
  refine ⟨h3, (blk_cells hs 0).trans rfl, (blk_cells hs 1).trans rfl, ?_, fun e => h2.trans (h.nil e), (h.below.setCell (Nat.le_refl _) _).setCell (Nat.le_refl _) _⟩
  rw [h2]
  exact ownsRow_setCell_below (ownsRow_setCell_below h.own (by show w0.heap.size < _; omega) _) (by show w0.heap.size < _; omega) _
theorem ret_post {s : ByteArray} {w : World} {x : List Lx.Tok × Int × Nat} {t : Array Value} {w' : World} (hx : Lx.lexOf s.data.toList = x) (h : RetR w x t w') : bodyPost Tryd.prog Tryd.f11 (fun e w' => LexPost w (Lx.lexOf s.data.toList) e w') .ret ⟨t, []⟩ w' := by
  rw [hx]; exact h.post
theorem refClosing_tok (t : Lx.Tok) (w : World) :
    Calls Tryd.prog 30 #[.agg #[.int .i64 t.kind, .string ⟨t.text.toArray⟩, .int .i64 t.place]] w fun e w' => e = .returned (.bool (refClosing t.kind t.text)) ∧ Below w.heap.size w w' :=
  refClosing_any t.kind t.place ⟨t.text.toArray⟩ w
theorem comment_at {s : ByteArray} {a : Nat} : Lib.hasPrefix (s.data.toList.drop a) [47, 47] = ((s.extract a (a + 2)).toList == [47, 47]) := by
  have e : (s.extract a (a + 2)).toList = (s.data.toList.drop a).take 2 := by rw [Lib.extract_toList]; simp
  rw [e]
  generalize s.data.toList.drop a = l
  match l with
  | [] => rfl
  | [c] => simp [Lib.hasPrefix, List.isPrefixOf]
  | c :: d :: r =>
    simp [Lib.hasPrefix, List.isPrefixOf]
    rw [Bool.eq_iff_iff]
    simp
    constructor
    · rintro ⟨rfl, rfl⟩; exact ⟨rfl, rfl⟩
    · rintro ⟨rfl, rfl⟩; exact ⟨rfl, rfl⟩
theorem byte_get {s : ByteArray} {a : Nat} (h : a < s.size) : s.data.toList[a]? = some s[a] := by rw [Array.getElem?_toList]; exact Array.getElem?_eq_getElem h

set_option maxRecDepth 100000 in
set_option maxHeartbeats 8000000 in
theorem refLex_any (s : ByteArray) (w : World) (hs : s.size ≤ 9223372036854775807) :
    Calls Tryd.prog 11 #[.string s] w fun e w' => LexPost w (Lx.lexOf s.data.toList) e w' := by
  by_cases hlong : 4096 < s.size
  · have hL := Lib.hid (Lx.lexOf_long (L := s.data.toList) (by rw [← Lib.size_eq]; exact hlong))
    go_enter Tryd.func11, Tryd.ntmps11
    go_wp2_with fail
    refine bodyPost_ret (v := .tuple #[.slice none 0 0, .agg #[.int .i64 3, .int .i64 0]]) (by simp [results, Tryd.results11, go_sem]) rfl ?_
    rw [hL.out]
    exact ⟨_, rfl, World.ownsRow_nil _ _ _ _, fun _ => rfl, below_box _ _⟩
  · have HL0 := Lib.hid ((Lx.lexOf_from (L := s.data.toList) (by rw [← Lib.size_eq]; exact hlong)).trans (Lx.refStep_in (Nat.zero_le _)).symm)
    have hs4 : s.size ≤ 4096 := by omega
    clear hlong hs
    go_enter Tryd.func11, Tryd.ntmps11
    go_wp2_with fail
    have hW0 : RefW w (w.alloc (.cells #[.int .i64 0, .int .i64 0] 27)) (.slice none 0 0) [] :=
      ⟨World.ownsRow_nil _ _ _ _, fun _ => rfl, heap_alloc_new w _, below_box _ _, by simp⟩
    go_loopw [4, 5] (fun v i wr => ∃ (a : Nat) (acc : List Lx.Tok), a ≤ s.size + 1 ∧ i = .int .i64 a ∧ acc.length ≤ 1024 ∧ Lx.Agree acc ∧ RefW w wr v acc ∧ Hid (Lx.lexOf s.data.toList = Lx.refStep s.data.toList acc a)) (fun _ i _ => s.size + 1 - (intOf i).toNat)
    case atStart => exact ⟨0, [], by omega, rfl, by simp, Lx.Agree.nil, hW0, HL0⟩
    case round =>
      obtain ⟨a, acc, ha, rfl, hacc, hag, hW, HL⟩ := hrel
      clear hW0 HL0
      have hsz := Lib.hid (Lib.size_eq s)
      by_cases hin : a ≤ s.size
      · have HF := Lib.hid (HL.out.trans (Lx.refStep_in (by rw [← hsz.out]; exact hin)))
        clear HL
        by_cases hline : a = s.size ∨ ∃ h : a < s.size, (s[a]'h).toNat = 10
        · have hcase : (((a : Int) == (s.size : Int)) = true ∧ ¬ (a : Int) < s.size) ∨ ∃ h : a < s.size, ((a : Int) == (s.size : Int)) = false ∧ (((s[a]'h).toNat : Int) == 10) = true := by
            rcases hline with h | ⟨h, h10⟩
            · exact .inl ⟨by rw [h]; simp, by omega⟩
            · exact .inr ⟨h, by rw [beq_eq_false_iff_ne]; omega, by rw [h10]; rfl⟩
          obtain ⟨hpl, hends⟩ := Lx.place_line (L := s.data.toList) (a := a) (by
            rcases hline with h | ⟨h, h10⟩
            · exact .inl (by rw [← hsz.out]; exact h)
            · exact .inr ⟨_, byte_get h, h10⟩)
          have hOp := @Lx.from_ends_open s.data.toList acc a hends
          have hFu := @Lx.from_ends_full s.data.toList acc a hends
          have hTo := @Lx.from_ends_told s.data.toList acc a hends
          rw [hpl, ← Lx.refStep_next] at hOp
          rw [hpl] at hFu
          rw [hpl, ← Lx.refStep_next] at hTo
          clear hline hpl hends
          by_cases hnil : acc = []
          · have HX := Lib.hid (HF.out.trans (hOp (by rw [hnil]; rfl)))
            have hv := hW.nil hnil
            subst hnil
            clear hOp hFu hTo
            subst hv
            rcases hcase with ⟨b1, l1⟩ | ⟨hlt, b1, b2⟩
            all_goals
              go_wp2_with fail
              go_roundw
              case rel => exact ⟨a + 1, [], by omega, by go_num, by simp, Lx.Agree.nil, hW, HX⟩
              case measure => simp [intOf]; omega
          · obtain ⟨pre, t, rfl⟩ := list_snoc acc hnil
            have hpre : pre.length + 1 ≤ 1024 := by rw [List.length_append] at hacc; simpa using hacc
            have hlen : (pre ++ [t]).length = pre.length + 1 := by simp
            have hcl := hag t (by simp)
            obtain ⟨A, cap, rfl, hh⟩ := own_toks hW.own
            obtain ⟨g, rfl, hg, c0, c1, c2⟩ := hh.at_ (Below.refl _ _) (getElem_snoc pre t)
            obtain ⟨i0, hi, hz0, hz1, hz2⟩ := info_parts tok_info
            have hbig := hW.big
            clear hh
            rw [lastClosing_snoc] at hOp hFu hTo
            rw [hlen] at hFu hTo
            have HOp := Lib.hid hOp
            have HFu := Lib.hid hFu
            have HTo := Lib.hid hTo
            clear hOp hFu hTo
            rw [hlen]
            rcases hcase with ⟨b1, l1⟩ | ⟨hlt, b1, b2⟩
            all_goals
              go_wp2_with fail
              refine (refClosing_tok t _).mono ?_
              rintro e w1 ⟨rfl, hb1⟩
              rw [hcl]
              have hW1 := hW.next hb1
              clear c0 c1 c2
              cases hc : Lx.isClosing t with
              | false =>
                have HX := Lib.hid (HF.out.trans (HOp.out hc))
                clear hc hcl
                go_wp2_with fail
                go_roundw
                case rel => exact ⟨a + 1, pre ++ [t], by omega, by go_num, by rw [hlen]; omega, hag, by rw [hlen] at hW1; exact hW1, HX⟩
                case measure => simp [intOf]; omega
              | true =>
                have hbig1 := hW1.big
                by_cases hfull : pre.length + 1 = 1024
                · have HX := Lib.hid (HF.out.trans (HFu.out hc hfull))
                  have bf : (((pre.length : Int) + 1) == 1024) = true := by rw [beq_iff_eq]; omega
                  clear hc hcl
                  go_upto_region 19 with (fail)
                  have hW2 := hW1.next (below_box w1 (.cells #[.int .i64 5, .string ⟨#[]⟩, .int .i64 0] 32))
                  generalize w1.alloc (.cells #[.int .i64 5, .string ⟨#[]⟩, .int .i64 0] 32) = w2 at hW2 ⊢
                  have s0 := (blk_cells hW2.spot 0).trans rfl
                  have s1 := (blk_cells hW2.spot 1).trans rfl
                  have g0 := blk_free hW2.spot 0
                  have g1 := blk_free hW2.spot 1
                  clear hfull
                  go_wp2_with fail
                  exact ret_post HX.out (hW2.ret_err 3 a _ rfl rfl)
                · have HX := Lib.hid (HF.out.trans (HTo.out hc hfull))
                  have bf : (((pre.length : Int) + 1) == 1024) = false := by rw [beq_eq_false_iff_ne]; omega
                  clear hc hcl
                  go_upto_region 24 with (fail)
                  have hW2 := hW1.next (below_box w1 (.cells #[.int .i64 5, .string ⟨#[]⟩, .int .i64 (a : Nat)] 32))
                  have hT5 := heap_alloc_new w1 (.cells #[.int .i64 5, .string ⟨#[]⟩, .int .i64 (a : Nat)] 32)
                  generalize w1.alloc (.cells #[.int .i64 5, .string ⟨#[]⟩, .int .i64 (a : Nat)] 32) = w5 at hW2 hT5 ⊢
                  have c0 := (blk_cells hT5 0).trans rfl
                  have c1 := (blk_cells hT5 1).trans rfl
                  have c2 := (blk_cells hT5 2).trans rfl
                  have hown := hW2.own
                  rw [hlen] at hown
                  have hbig5 := hW2.big
                  clear hT5
                  go_wp2_with (at_builtin; refine wpList_append_own _ rfl _ _ 24 rfl (w.heap.size + 1) 32 i0 (.agg #[.int .i64 0, .string ⟨#[]⟩, .int .i64 0]) 3 32 Tryd.underlying24 hi hz0 hz1 hz2 rfl (by decide) _ _ _ rfl (hown.alloc _) ⟨w5.heap.size, 0, none⟩ 1 1 [.int .i64 5, .string ⟨#[]⟩, .int .i64 (a : Nat)] rfl rfl ?c1 ?c2 ?c3 ?c4 ?c5 ?_)
                  case c1 => exact three_new _ _ _ _ _
                  case c2 => exact three_one _ _ _
                  case c3 => unfold maxLen; omega
                  case c4 => omega
                  case c5 => simp; omega
                  intro v' w6 hown' hgrow _
                  have hW6 : RefW w w6 v' ((pre ++ [t]) ++ [⟨5, [], (a : Nat)⟩]) := hW2.grown (by rw [toksCells_snoc]; simpa using hown') hgrow
                  have hag' : Lx.Agree ((pre ++ [t]) ++ [⟨5, [], (a : Nat)⟩]) := Lx.Agree.snoc _ rfl
                  clear hown hown' hgrow hW2 c0 c1 c2
                  go_wp2_with fail
                  go_roundw
                  case rel => exact ⟨a + 1, _, by omega, by go_num, by simp; omega, hag', hW6, HX⟩
                  case measure => simp [intOf]; omega
        · have hlt : a < s.size := by
            rw [not_or] at hline; omega
          have h10 : ¬ (s[a]'hlt).toNat = 10 := fun h => hline (.inr ⟨hlt, h⟩)
          have hget := byte_get hlt
          have bl1 : ((a : Int) == (s.size : Int)) = false := by rw [beq_eq_false_iff_ne]; omega
          have bl2 : (((s[a]'hlt).toNat : Int) == 10) = false := by rw [beq_eq_false_iff_ne]; omega
          clear hline
          cases hbl : Lx.isBlank (s[a]'hlt) with
          | true =>
            have HX := Lib.hid (HF.out.trans (Lx.from_blank hget hbl))
            have HB := Lib.hid hbl
            clear hbl h10 hget HF
            go_wp2_with (go_at_call 29; refine (refBlank_any _ _).mono ?_; rintro e w' ⟨rfl, rfl⟩; rw [HB.out])
            go_roundw
            case rel => exact ⟨a + 1, acc, by omega, by go_num, hacc, hag, hW, HX⟩
            case measure => simp [intOf]; omega
          | false =>
            have HB := Lib.hid hbl
            cases hcm : Lib.hasPrefix (s.data.toList.drop a) [47, 47] with
            | true =>
              have HX := Lib.hid (HF.out.trans (Lx.from_comment hget hbl hcm))
              have hcm2 := hcm
              rw [comment_at] at hcm2
              have hlt1 : a + 1 < s.size := by
                have := congrArg List.length (beq_iff_eq.1 hcm2)
                rw [Lib.extract_toList] at this
                simp at this
                have e := hsz.out
                simp at e
                omega
              have hpos : 0 < Lx.runLen Lx.notFeed (s.data.toList.drop a) := by rw [Lx.drop_cons hget]; exact Lx.runLen_pos (by simp [Lx.notFeed, h10])
              have hcm3 : ((s.extract a (a + 2)).toList == [47, 47]) = true := hcm2
              have l1 : (a : Int) + 1 < s.size := by omega
              clear hcm hcm2 hbl h10 hget HF
              go_wp2_with (go_at_call 29; refine (refBlank_any _ _).mono ?_; rintro e w' ⟨rfl, rfl⟩; rw [HB.out])
              go_loop [5] (fun i => ∃ k : Nat, a + k ≤ s.size ∧ i = .int .i64 (a + k : Nat) ∧ Hid (Lx.runLen Lx.notFeed (s.data.toList.drop a) = k + Lx.runLen Lx.notFeed (s.data.toList.drop (a + k)))) (fun i => s.size - (intOf i).toNat)
              case atStart => exact ⟨0, by omega, rfl, by simp [Hid]⟩
              case round =>
                obtain ⟨k, hk, rfl, H⟩ := hrel
                by_cases hlk : a + k < s.size
                · by_cases hf : (s[a + k]'hlk).toNat = 10
                  · have HR := Lib.hid (run_done H hlk (by simp [Lx.notFeed, hf]))
                    have hb10 : (((s[a + k]'hlk).toNat : Int) != 10) = false := by rw [hf]; rfl
                    clear hf
                    go_wp2_with fail
                    go_roundw
                    case rel => exact ⟨a + k, acc, by omega, by go_num, hacc, hag, hW, by have := HX.out; rw [HR.out] at this; exact this⟩
                    case measure => simp [intOf]; have := HR.out; omega
                  · have HR := Lib.hid (run_more H hlk (by simp [Lx.notFeed, hf]))
                    have hb10 : (((s[a + k]'hlk).toNat : Int) != 10) = true := by rw [bne_iff_ne]; omega
                    clear hf
                    go_wp2_with fail
                    go_round
                    case rel => exact ⟨k + 1, by omega, by go_num, HR.out⟩
                    case measure => simp [intOf]; omega
                · have HR := Lib.hid (run_end H hlk)
                  go_wp2_with fail
                  go_roundw
                  case rel => exact ⟨a + k, acc, by omega, by go_num, hacc, hag, hW, by have := HX.out; rw [HR.out] at this; exact this⟩
                  case measure => simp [intOf]; have := HR.out; omega
            | false =>
              have hpl := Lx.place_token hget hbl hcm
              have hpl1 : Lx.placeOf s.data.toList a < s.data.toList.length := by rw [hpl, ← hsz.out]; exact hlt
              have hpl2 : ¬ (s.data.toList.drop (Lx.placeOf s.data.toList a)).head? = some 10 := by
                rw [hpl, Lx.drop_cons hget, List.head?_cons]
                intro e
                exact h10 (by rw [Option.some.inj e]; rfl)
              have hcase : ¬ (a : Int) + 1 < s.size ∨ ((a : Int) + 1 < s.size ∧ ((s.extract a (a + 2)).toList == [47, 47]) = false) := by
                by_cases h : (a : Int) + 1 < s.size
                · exact .inr ⟨h, by rw [← comment_at]; exact hcm⟩
                · exact .inl h
              have hu : (s.extract a s.size).data.toList = s.data.toList.drop a := by
                rw [Lib.extract_data, List.take_of_length_le]
                rw [List.length_drop, ← Lib.size_eq]; exact Nat.le_refl _
              have hu0 : 0 < (s.extract a s.size).size := by rw [ByteArray.size_extract]; omega
              have hu4 : (s.extract a s.size).size ≤ 4294967296 := by rw [ByteArray.size_extract]; omega
              have hnx := refNext_any (s.extract a s.size) hu0 hu4
              rw [hu, tokRes_agg] at hnx
              have hE := @Lx.from_tok_err s.data.toList acc a hpl1 hpl2
              have hFu := @Lx.from_tok_full s.data.toList acc a hpl1 hpl2
              have hTo := @Lx.from_tok_told s.data.toList acc a hpl1 hpl2
              have hcl := Lx.token_closing (s.data.toList.drop a) (a : Int)
              have hpos := @Lx.tokenOf_pos (s.data.toList.drop a)
              rw [hpl] at hE hFu hTo
              rw [List.length_drop, ← hsz.out] at hpos
              have htl : ∀ n, n ≤ s.size - a → ((s.data.toList.drop a).take n).length = n := fun n hn => by rw [List.length_take, List.length_drop, ← hsz.out]; omega
              clear hcm hbl h10 hget hpl hpl1 hpl2 hu hu0 hu4
              generalize Lx.tokenOf (s.data.toList.drop a) = x at hnx hE hFu hTo hcl hpos
              obtain ⟨kd, n, er⟩ := x
              simp only [] at hnx hE hFu hTo hcl hpos
              have htn := htl n
              generalize (s.data.toList.drop a).take n = tx at hnx hE hFu hTo hcl htn
              have HE := Lib.hid hE
              have HFu := Lib.hid hFu
              have HTo := Lib.hid hTo
              have HCl := Lib.hid hcl
              have HPo := Lib.hid hpos
              have HTn := Lib.hid htn
              clear htl hE hFu hTo hcl hpos htn
              have hlv : ∀ g, u4.ownBlock = some g → g ≠ wr.heap.size := fun g hg => by have := (hW.own.lt g hg).2; omega
              obtain ⟨A, cap, rfl, _⟩ := own_toks hW.own
              obtain ⟨i0, hi, hz0, hz1, hz2⟩ := info_parts tok_info
              have hbig := hW.big
              rcases hcase with l1 | ⟨l1, hcm3⟩
              all_goals
                go_upto_region 17 with ((go_at_call 29; refine (refBlank_any _ _).mono ?_; rintro e w' ⟨rfl, rfl⟩; rw [HB.out]))
                have hW1 := hW.next (below_box wr (.cells #[.int .i64 5, .string ⟨#[]⟩, .int .i64 0] 32))
                go_wp2_with fail
                refine (hnx _).mono ?_
                rintro e w1 ⟨rfl, hb1⟩
                have hbk := (hb1.block wr.heap.size (by simp)).trans (heap_alloc_new wr _)
                have hW2 := hW1.next hb1
                have c0 := blk_cells hbk 0
                have c1 := blk_cells hbk 1
                have c2 := blk_cells hbk 2
                have f0 := blk_free hbk 0
                have f1 := blk_free hbk 1
                have f2 := blk_free hbk 2
                simp at c0 c1 c2
                have hT4 := heap_set _ _ 2 (.int .i64 0) (heap_set _ _ 1 (.string ⟨tx.toArray⟩) (heap_set w1 _ 0 (.int .i64 kd) hbk))
                have hW3 := ((hW2.set (by omega) hlv 0 (.int .i64 kd)).set (by omega) hlv 1 (.string ⟨tx.toArray⟩)).set (by omega) hlv 2 (.int .i64 0)
                clear hbk hW1 hW2 hb1
                go_upto_region 19 with (fail)
                generalize ((w1.setCell ⟨wr.heap.size, 0, none⟩ (.int .i64 kd)).setCell ⟨wr.heap.size, 1, none⟩ (.string ⟨tx.toArray⟩)).setCell ⟨wr.heap.size, 2, none⟩ (.int .i64 0) = w4 at hW3 hT4 ⊢
                clear c0 c1 c2 f0 f1 f2
                have s0 := (blk_cells hW3.spot 0).trans rfl
                have s1 := (blk_cells hW3.spot 1).trans rfl
                have g0 := blk_free hW3.spot 0
                have g1 := blk_free hW3.spot 1
                by_cases he : er = 0
                · have be : (er == 0) = true := by rw [he]; rfl
                  have be2 : (er != 0) = false := by rw [he]; rfl
                  by_cases hfull : acc.length = 1024
                  · have HX := Lib.hid (HF.out.trans (HFu.out he hfull))
                    have bf : ((acc.length : Int) == 1024) = true := by rw [hfull]; rfl
                    clear he hfull
                    go_wp2_with fail
                    exact ret_post HX.out (hW3.ret_err 3 a _ rfl rfl)
                  · obtain ⟨hn1, hn2⟩ := HPo.out he
                    have htn := HTn.out hn2
                    have HX := Lib.hid ((HF.out.trans (HTo.out he hfull)).trans (Lx.refStep_in (by rw [← hsz.out]; omega)).symm)
                    have bf : ((acc.length : Int) == 1024) = false := by rw [beq_eq_false_iff_ne]; omega
                    have hT5 := heap_set _ _ 2 (.int .i64 (a : Nat)) hT4
                    have hW5 := hW3.set (by omega) hlv 2 (.int .i64 (a : Nat))
                    have c0 := (blk_cells hT4 0).trans rfl
                    have c1 := (blk_cells hT4 1).trans rfl
                    have c2 := (blk_cells hT4 2).trans rfl
                    have f0 := blk_free hT4 0
                    have f1 := blk_free hT4 1
                    have f2 := blk_free hT4 2
                    clear he hT4 hW3
                    go_upto_region 24 with (fail)
                    generalize w4.setCell ⟨wr.heap.size, 2, none⟩ (.int .i64 (a : Nat)) = w5 at hW5 hT5 ⊢
                    clear c0 c1 c2 f0 f1 f2 s0 s1 g0 g1
                    have c0 := (blk_cells hT5 0).trans rfl
                    have c1 := (blk_cells hT5 1).trans rfl
                    have c2 := (blk_cells hT5 2).trans rfl
                    have hown := hW5.own
                    have hbig5 := hW5.big
                    clear hT5
                    go_wp2_with (at_builtin; refine wpList_append_own _ rfl _ _ 24 rfl (w.heap.size + 1) 32 i0 (.agg #[.int .i64 0, .string ⟨#[]⟩, .int .i64 0]) 3 32 Tryd.underlying24 hi hz0 hz1 hz2 rfl (by decide) _ _ _ rfl (hown.alloc _) ⟨w5.heap.size, 0, none⟩ 1 1 [.int .i64 kd, .string ⟨tx.toArray⟩, .int .i64 (a : Nat)] rfl rfl ?c1 ?c2 ?c3 ?c4 ?c5 ?_)
                    case c1 => exact three_new _ _ _ _ _
                    case c2 => exact three_one _ _ _
                    case c3 => unfold maxLen; omega
                    case c4 => omega
                    case c5 => simp; omega
                    intro v' w6 hown' hgrow _
                    have hW6 : RefW w w6 v' (acc ++ [⟨kd, tx, (a : Nat)⟩]) := hW5.grown (by rw [toksCells_snoc]; simpa using hown') hgrow
                    have hag' : Lx.Agree (acc ++ [⟨kd, tx, (a : Nat)⟩]) := Lx.Agree.snoc acc HCl.out
                    clear hown hown' hgrow hW5 c0 c1 c2
                    go_wp2_with fail
                    go_roundw
                    case rel => exact ⟨a + n, _, by omega, by go_num, by simp; omega, hag', hW6, HX⟩
                    case measure => simp [intOf]; omega
                · have HX := Lib.hid (HF.out.trans (HE.out he))
                  have be : (er == 0) = false := by rw [beq_eq_false_iff_ne]; exact he
                  have be2 : (er != 0) = true := by rw [bne_iff_ne]; exact he
                  clear he
                  go_wp2_with fail
                  exact ret_post HX.out (hW3.ret_err er a _ rfl rfl)
      · have HX := Lib.hid (HL.out.trans (Lx.refStep_out (by rw [← hsz.out]; exact hin)))
        have s0 := (blk_cells hW.spot 0).trans rfl
        have s1 := (blk_cells hW.spot 1).trans rfl
        have g0 := blk_free hW.spot 0
        have g1 := blk_free hW.spot 1
        go_wp2_with fail
        exact ret_post HX.out (hW.ret_ok _ rfl rfl)
end Go.Proofs.YtoppkhkdbkkldaaDoor
