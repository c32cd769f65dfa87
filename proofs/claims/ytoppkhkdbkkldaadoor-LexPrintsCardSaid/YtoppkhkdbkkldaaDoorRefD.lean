/-
  PROVED: what the reference's next computes: as token of package lex. CONDITION: the text is not empty, and its length is at most 2^32.
-/
import Derived.Test.YtoppkhkdbkkldaaDoorRefC
import Derived.Test.YtoppkhkdbkkldaaDoorWalkF
namespace Go.Proofs.YtoppkhkdbkkldaaDoor
open Go.RowKit
theorem wordLen_letter {s : ByteArray} (h0 : 0 < s.size) (h : Lx.isLetter s[0] = true) : wordLen s.data.toList = Lx.runLen Lx.isWord s.data.toList := by
  generalize hl : s.data.toList = l
  have e := head_cons h0
  rw [hl] at e
  rw [e]
  simp only [wordLen]
  rw [if_pos h]
theorem wordLen_other {s : ByteArray} (h0 : 0 < s.size) (h : Lx.isLetter s[0] = false) : wordLen s.data.toList = 0 := by
  generalize hl : s.data.toList = l
  have e := head_cons h0
  rw [hl] at e
  rw [e]
  simp only [wordLen]
  rw [if_neg (by rw [h]; exact Bool.false_ne_true)]
theorem digits_other {s : ByteArray} (h0 : 0 < s.size) (h : Lx.isDigit s[0] = false) : Lx.runLen Lx.isDigit s.data.toList = 0 := by
  rw [head_cons h0, Lx.runLen, if_neg (by rw [h]; exact Bool.false_ne_true)]
theorem quoted_at {s : ByteArray} (h0 : 0 < s.size) : quotedLen s.data.toList = if (s[0].toNat : Int) = 34 then Lx.textLen s.data.toList else 0 := by
  generalize hl : s.data.toList = l
  have e := head_cons h0
  rw [hl] at e
  rw [e]
  simp only [quotedLen]
  have e1 : (s[0].toNat = 34) ↔ ((s[0].toNat : Int) = 34) := by omega
  simp only [e1]
theorem runLen_allp {p : UInt8 → Bool} {l : List UInt8} (h : ∀ c ∈ l, p c = true) : Lx.runLen p l = l.length := by
  induction l with
  | nil => rfl
  | cons c l ih =>
    rw [Lx.runLen, if_pos (h c (by simp)), ih (fun d hd => h d (List.mem_cons_of_mem _ hd)), List.length_cons]
set_option maxRecDepth 100000 in
set_option maxHeartbeats 1000000 in
theorem next_letter (s : ByteArray) (h0 : 0 < s.size) (hs : s.size ≤ 4294967296) (w : World) (hL : Lx.isLetter s[0] = true) :
    Calls Tryd.prog 31 #[.string s] w fun e w' => e = .returned (tokRes s.data.toList) ∧ Below w.heap.size w w' := by
  have hT := tok_letter h0 hL
  have hw := runLen_size Lx.isWord s
  have hp : 0 < Lx.runLen Lx.isWord s.data.toList := runLen_lt h0 (by simp [Lx.isWord, hL])
  have HW := Lib.hid (wordLen_letter h0 hL)
  clear hL
  by_cases hn : 24 < Lx.runLen Lx.isWord s.data.toList
  · rw [if_pos hn] at hT
    have HT := Lib.hid hT
    clear hT
    go_enter Tryd.func31, Tryd.ntmps31
    go_wp2_with (go_at_call 50; refine (refWord_any _ hs _).mono ?_; rintro e w' ⟨rfl, rfl⟩; rw [HW.out])
    exact bodyPost_ret (v := .tuple #[.agg #[.int .i64 0, .string ⟨#[]⟩, .int .i64 0], .int .i64 3]) (by simp [results, Tryd.results31, go_sem]) rfl ⟨retv (tokRes_err HT.out).symm, below_box _ _⟩
  · rw [if_neg hn] at hT
    have HT := Lib.hid hT
    clear hT
    go_enter Tryd.func31, Tryd.ntmps31
    go_wp2_with (go_at_call 50; refine (refWord_any _ hs _).mono ?_; rintro e w' ⟨rfl, rfl⟩; rw [HW.out])
    exact bodyPost_ret (v := .tuple #[.agg #[.int .i64 1, .string (s.extract 0 (Lx.runLen Lx.isWord s.data.toList)), .int .i64 0], .int .i64 0]) (by simp [results, Tryd.results31, go_sem]) rfl ⟨retv (tokRes_ok HT.out).symm, below_box _ _⟩

set_option maxRecDepth 100000 in
set_option maxHeartbeats 2000000 in
theorem next_digit (s : ByteArray) (h0 : 0 < s.size) (hs : s.size ≤ 4294967296) (w : World) (hL : Lx.isLetter s[0] = false) (hD : Lx.isDigit s[0] = true) :
    Calls Tryd.prog 31 #[.string s] w fun e w' => e = .returned (tokRes s.data.toList) ∧ Below w.heap.size w w' := by
  have hT := tok_digit h0 hL hD
  have hw := runLen_size Lx.isDigit s
  have hp : 0 < Lx.runLen Lx.isDigit s.data.toList := runLen_lt h0 hD
  have HW := Lib.hid (wordLen_other h0 hL)
  have hR : Lx.refWhole (s.extract 0 (Lx.runLen Lx.isDigit s.data.toList)).data.toList = Lx.wholeNum (s.data.toList.take (Lx.runLen Lx.isDigit s.data.toList)) := by
    rw [extract_list0, Lx.refWhole_ok]
    · intro e
      have := congrArg List.length e
      rw [List.length_take, ← Lib.size_eq, List.length_nil] at this
      omega
    · exact runLen_allp (Lx.runLen_all Lx.isDigit s.data.toList)
  have hs2 : (s.extract 0 (Lx.runLen Lx.isDigit s.data.toList)).size ≤ 4294967296 := by rw [extract_size0 _ _ hw]; omega
  clear hL hD
  cases hwn : Lx.wholeNum (s.data.toList.take (Lx.runLen Lx.isDigit s.data.toList)) with
  | none =>
    have HR := Lib.hid (refWholeRes_none (hR.trans hwn))
    have HT := Lib.hid (show Lx.tokenOf s.data.toList = (0, 0, 201) by rw [hT, hwn]; split <;> rfl)
    clear hT hR hwn
    go_enter Tryd.func31, Tryd.ntmps31
    go_wp2_with (first | (go_at_call 50; refine (refWord_any _ hs _).mono ?_; rintro e w' ⟨rfl, rfl⟩; rw [HW.out]) | (go_at_call 51; refine (refDigits_any _ hs _).mono ?_; rintro e w' ⟨rfl, rfl⟩) | (go_at_call 48; refine (refWhole_any _ hs2 _).mono ?_; rintro e w' ⟨rfl, rfl⟩; rw [HR.out]))
    exact bodyPost_ret (v := .tuple #[.agg #[.int .i64 0, .string ⟨#[]⟩, .int .i64 0], .int .i64 201]) (by simp [results, Tryd.results31, go_sem]) rfl ⟨retv (tokRes_err HT.out).symm, below_box _ _⟩
  | some v =>
    have HR := Lib.hid (refWholeRes_some (hR.trans hwn))
    by_cases hin : Lx.runLen Lx.isDigit s.data.toList < s.size
    · cases hlet : Lx.isLetter s[Lx.runLen Lx.isDigit s.data.toList] with
      | true =>
        have HT := Lib.hid (show Lx.tokenOf s.data.toList = (0, 0, 201) by rw [hT, head_at hin, hlet]; rfl)
        have HL := Lib.hid hlet
        clear hT hR hwn hlet
        go_enter Tryd.func31, Tryd.ntmps31
        go_wp2_with (first | (go_at_call 50; refine (refWord_any _ hs _).mono ?_; rintro e w' ⟨rfl, rfl⟩; rw [HW.out]) | (go_at_call 51; refine (refDigits_any _ hs _).mono ?_; rintro e w' ⟨rfl, rfl⟩) | (go_at_call 48; refine (refWhole_any _ hs2 _).mono ?_; rintro e w' ⟨rfl, rfl⟩; rw [HR.out]) | (go_at_call 52; refine (refLetter_any _ _).mono ?_; rintro e w' ⟨rfl, rfl⟩; rw [HL.out]))
        exact bodyPost_ret (v := .tuple #[.agg #[.int .i64 0, .string ⟨#[]⟩, .int .i64 0], .int .i64 201]) (by simp [results, Tryd.results31, go_sem]) rfl ⟨retv (tokRes_err HT.out).symm, below_box _ _⟩
      | false =>
        have HT := Lib.hid (show Lx.tokenOf s.data.toList = (2, Lx.runLen Lx.isDigit s.data.toList, 0) by rw [hT, head_at hin, hlet, hwn]; rfl)
        have HL := Lib.hid hlet
        clear hT hR hwn hlet
        go_enter Tryd.func31, Tryd.ntmps31
        go_wp2_with (first | (go_at_call 50; refine (refWord_any _ hs _).mono ?_; rintro e w' ⟨rfl, rfl⟩; rw [HW.out]) | (go_at_call 51; refine (refDigits_any _ hs _).mono ?_; rintro e w' ⟨rfl, rfl⟩) | (go_at_call 48; refine (refWhole_any _ hs2 _).mono ?_; rintro e w' ⟨rfl, rfl⟩; rw [HR.out]) | (go_at_call 52; refine (refLetter_any _ _).mono ?_; rintro e w' ⟨rfl, rfl⟩; rw [HL.out]))
        exact bodyPost_ret (v := .tuple #[.agg #[.int .i64 2, .string (s.extract 0 (Lx.runLen Lx.isDigit s.data.toList)), .int .i64 0], .int .i64 0]) (by simp [results, Tryd.results31, go_sem]) rfl ⟨retv (tokRes_ok HT.out).symm, below_box _ _⟩
    · have HT := Lib.hid (show Lx.tokenOf s.data.toList = (2, Lx.runLen Lx.isDigit s.data.toList, 0) by rw [hT, head_out (by omega), hwn]; rfl)
      clear hT hR hwn
      go_enter Tryd.func31, Tryd.ntmps31
      go_wp2_with (first | (go_at_call 50; refine (refWord_any _ hs _).mono ?_; rintro e w' ⟨rfl, rfl⟩; rw [HW.out]) | (go_at_call 51; refine (refDigits_any _ hs _).mono ?_; rintro e w' ⟨rfl, rfl⟩) | (go_at_call 48; refine (refWhole_any _ hs2 _).mono ?_; rintro e w' ⟨rfl, rfl⟩; rw [HR.out]))
      exact bodyPost_ret (v := .tuple #[.agg #[.int .i64 2, .string (s.extract 0 (Lx.runLen Lx.isDigit s.data.toList)), .int .i64 0], .int .i64 0]) (by simp [results, Tryd.results31, go_sem]) rfl ⟨retv (tokRes_ok HT.out).symm, below_box _ _⟩

set_option maxRecDepth 100000 in
set_option maxHeartbeats 2000000 in
theorem next_text (s : ByteArray) (h0 : 0 < s.size) (hs : s.size ≤ 4294967296) (w : World) (hL : Lx.isLetter s[0] = false) (hD : Lx.isDigit s[0] = false) (hq : (s[0].toNat : Int) = 34) (hn : ¬ Lx.textLen s.data.toList = 0) :
    Calls Tryd.prog 31 #[.string s] w fun e w' => e = .returned (tokRes s.data.toList) ∧ Below w.heap.size w w' := by
  have hT := tok_other h0 hL hD
  rw [if_pos hq, if_neg hn] at hT
  have hQ := quoted_at h0
  rw [if_pos hq] at hQ
  have hw := textLen_le s
  have HW := Lib.hid (wordLen_other h0 hL)
  have HD := Lib.hid (digits_other h0 hD)
  have HQ := Lib.hid hQ
  have HT := Lib.hid hT
  have hp : 0 < Lx.textLen s.data.toList := by omega
  clear hL hD hq hT hQ
  go_enter Tryd.func31, Tryd.ntmps31
  go_wp2_with (first | (go_at_call 50; refine (refWord_any _ hs _).mono ?_; rintro e w' ⟨rfl, rfl⟩; rw [HW.out]) | (go_at_call 51; refine (refDigits_any _ hs _).mono ?_; rintro e w' ⟨rfl, rfl⟩; rw [HD.out]) | (go_at_call 49; refine (refQuoted_any _ hs _).mono ?_; rintro e w' ⟨rfl, rfl⟩; rw [HQ.out]))
  exact bodyPost_ret (v := .tuple #[.agg #[.int .i64 3, .string (s.extract 0 (Lx.textLen s.data.toList)), .int .i64 0], .int .i64 0]) (by simp [results, Tryd.results31, go_sem]) rfl ⟨retv (tokRes_ok HT.out).symm, below_box _ _⟩

set_option maxRecDepth 100000 in
set_option maxHeartbeats 2000000 in
theorem next_end (s : ByteArray) (h0 : 0 < s.size) (hs : s.size ≤ 4294967296) (w : World) (hL : Lx.isLetter s[0] = false) (hD : Lx.isDigit s[0] = false) (hq : (s[0].toNat : Int) = 59) :
    Calls Tryd.prog 31 #[.string s] w fun e w' => e = .returned (tokRes s.data.toList) ∧ Below w.heap.size w w' := by
  have hT := tok_other h0 hL hD
  rw [if_neg (by omega), if_pos hq] at hT
  have hQ := quoted_at h0
  rw [if_neg (by omega)] at hQ
  have HW := Lib.hid (wordLen_other h0 hL)
  have HD := Lib.hid (digits_other h0 hD)
  have HQ := Lib.hid hQ
  have HT := Lib.hid hT
  have hE : tokRes s.data.toList = .tuple #[.agg #[.int .i64 5, .string ⟨#[59]⟩, .int .i64 0], .int .i64 0] := by
    unfold tokRes
    rw [hT]
    have e : s[0] = 59 := UInt8.toNat_inj.1 (by show s[0].toNat = 59; omega)
    rw [head_cons h0, e]; rfl
  have HE := Lib.hid hE
  have b59 : ((s[0].toNat : Int) == 59) = true := by rw [hq]; rfl
  clear hL hD hq hT hQ hE
  go_enter Tryd.func31, Tryd.ntmps31
  go_wp2_with (first | (go_at_call 50; refine (refWord_any _ hs _).mono ?_; rintro e w' ⟨rfl, rfl⟩; rw [HW.out]) | (go_at_call 51; refine (refDigits_any _ hs _).mono ?_; rintro e w' ⟨rfl, rfl⟩; rw [HD.out]) | (go_at_call 49; refine (refQuoted_any _ hs _).mono ?_; rintro e w' ⟨rfl, rfl⟩; rw [HQ.out]))
  exact bodyPost_ret (v := .tuple #[.agg #[.int .i64 5, .string ⟨#[59]⟩, .int .i64 0], .int .i64 0]) (by simp [results, Tryd.results31, go_sem]) rfl ⟨retv HE.out.symm, below_box _ _⟩

theorem sign_quote {s : ByteArray} (h0 : 0 < s.size) (hq : (s[0].toNat : Int) = 34) : Lx.signLen s.data.toList = 0 := by
  have e : s[0] = 34 := UInt8.toNat_inj.1 (by show s[0].toNat = 34; omega)
  rw [head_cons h0, e]
  unfold Lx.signLen
  rw [if_neg]
  · rfl
  · generalize s.data.toList.drop 1 = m
    cases m with
    | nil => simp [Lx.twoSigns]
    | cons d m => simp [Lx.twoSigns]

set_option maxRecDepth 100000 in
set_option maxHeartbeats 2000000 in
theorem next_sign (s : ByteArray) (h0 : 0 < s.size) (hs : s.size ≤ 4294967296) (w : World) (hL : Lx.isLetter s[0] = false) (hD : Lx.isDigit s[0] = false) (hqt : (s[0].toNat : Int) = 34 → Lx.textLen s.data.toList = 0) (hq2 : ¬ (s[0].toNat : Int) = 59) :
    Calls Tryd.prog 31 #[.string s] w fun e w' => e = .returned (tokRes s.data.toList) ∧ Below w.heap.size w w' := by
  have hT : Lx.tokenOf s.data.toList = if Lx.signLen s.data.toList = 0 then (0, 0, 200) else (4, Lx.signLen s.data.toList, 0) := by
    rw [tok_other h0 hL hD]
    by_cases hq : (s[0].toNat : Int) = 34
    · rw [if_pos hq, if_pos (hqt hq), if_pos (sign_quote h0 hq)]
    · rw [if_neg hq, if_neg hq2]
  have hQ : quotedLen s.data.toList = 0 := by
    rw [quoted_at h0]
    by_cases hq : (s[0].toNat : Int) = 34
    · rw [if_pos hq, hqt hq]
    · rw [if_neg hq]
  have hw := signLen_le s
  have HW := Lib.hid (wordLen_other h0 hL)
  have HD := Lib.hid (digits_other h0 hD)
  have HQ := Lib.hid hQ
  have b59 : ((s[0].toNat : Int) == 59) = false := by rw [beq_eq_false_iff_ne]; exact hq2
  clear hL hD hq2 hQ hqt
  by_cases hn : Lx.signLen s.data.toList = 0
  · rw [if_pos hn] at hT
    have HT := Lib.hid hT
    have HN := Lib.hid hn
    clear hT hn
    go_enter Tryd.func31, Tryd.ntmps31
    go_wp2_with (first | (go_at_call 50; refine (refWord_any _ hs _).mono ?_; rintro e w' ⟨rfl, rfl⟩; rw [HW.out]) | (go_at_call 51; refine (refDigits_any _ hs _).mono ?_; rintro e w' ⟨rfl, rfl⟩; rw [HD.out]) | (go_at_call 49; refine (refQuoted_any _ hs _).mono ?_; rintro e w' ⟨rfl, rfl⟩; rw [HQ.out]))
    refine (refSign_any s _).mono ?_
    rintro e w1 ⟨rfl, hb1⟩
    rw [HN.out]
    have hbk := (hb1.block w.heap.size (by simp)).trans (heap_alloc_new w _)
    have c0 := blk_cells hbk 0
    have c1 := blk_cells hbk 1
    have c2 := blk_cells hbk 2
    have f0 := blk_free hbk 0
    have f1 := blk_free hbk 1
    have f2 := blk_free hbk 2
    simp at c0 c1 c2
    have hb2 : Below w.heap.size w w1 := (below_box _ _).trans (hb1.mono (by simp))
    have fin := fun (x y z : Value) => heap_set _ _ 2 z (heap_set _ _ 1 y (heap_set w1 _ 0 x hbk))
    clear hb1 hbk
    go_wp2_with fail
    have F := fin (.int .i64 0) (.string ⟨#[]⟩) (.int .i64 0)
    have d0 := blk_cells F 0
    have d1 := blk_cells F 1
    have d2 := blk_cells F 2
    simp only [List.setIfInBounds_toArray, List.set_cons_zero, List.set_cons_succ, List.getElem?_toArray, List.getElem?_cons_zero, List.getElem?_cons_succ] at d0 d1 d2
    exact bodyPost_ret (v := .tuple #[.agg #[.int .i64 0, .string ⟨#[]⟩, .int .i64 0], .int .i64 200]) (by simp [results, Tryd.results31, go_sem, d0, d1, d2]) rfl ⟨retv (tokRes_err HT.out).symm, ((hb2.setCell (Nat.le_refl _) _).setCell (Nat.le_refl _) _).setCell (Nat.le_refl _) _⟩
  · rw [if_neg hn] at hT
    have HT := Lib.hid hT
    have hp : 0 < Lx.signLen s.data.toList := by omega
    clear hT
    go_enter Tryd.func31, Tryd.ntmps31
    go_wp2_with (first | (go_at_call 50; refine (refWord_any _ hs _).mono ?_; rintro e w' ⟨rfl, rfl⟩; rw [HW.out]) | (go_at_call 51; refine (refDigits_any _ hs _).mono ?_; rintro e w' ⟨rfl, rfl⟩; rw [HD.out]) | (go_at_call 49; refine (refQuoted_any _ hs _).mono ?_; rintro e w' ⟨rfl, rfl⟩; rw [HQ.out]))
    refine (refSign_any s _).mono ?_
    rintro e w1 ⟨rfl, hb1⟩
    have hbk := (hb1.block w.heap.size (by simp)).trans (heap_alloc_new w _)
    have c0 := blk_cells hbk 0
    have c1 := blk_cells hbk 1
    have c2 := blk_cells hbk 2
    have f0 := blk_free hbk 0
    have f1 := blk_free hbk 1
    have f2 := blk_free hbk 2
    simp at c0 c1 c2
    have hb2 : Below w.heap.size w w1 := (below_box _ _).trans (hb1.mono (by simp))
    have fin := fun (x y z : Value) => heap_set _ _ 2 z (heap_set _ _ 1 y (heap_set w1 _ 0 x hbk))
    clear hb1 hbk
    go_wp2_with fail
    have F := fin (.int .i64 4) (.string (s.extract 0 (Lx.signLen s.data.toList))) (.int .i64 0)
    have d0 := blk_cells F 0
    have d1 := blk_cells F 1
    have d2 := blk_cells F 2
    simp only [List.setIfInBounds_toArray, List.set_cons_zero, List.set_cons_succ, List.getElem?_toArray, List.getElem?_cons_zero, List.getElem?_cons_succ] at d0 d1 d2
    exact bodyPost_ret (v := .tuple #[.agg #[.int .i64 4, .string (s.extract 0 (Lx.signLen s.data.toList)), .int .i64 0], .int .i64 0]) (by simp [results, Tryd.results31, go_sem, d0, d1, d2]) rfl ⟨retv (tokRes_ok HT.out).symm, ((hb2.setCell (Nat.le_refl _) _).setCell (Nat.le_refl _) _).setCell (Nat.le_refl _) _⟩

theorem refNext_any (s : ByteArray) (h0 : 0 < s.size) (hs : s.size ≤ 4294967296) (w : World) :
    Calls Tryd.prog 31 #[.string s] w fun e w' => e = .returned (tokRes s.data.toList) ∧ Below w.heap.size w w' := by
  cases hL : Lx.isLetter s[0] with
  | true => exact next_letter s h0 hs w hL
  | false =>
    cases hD : Lx.isDigit s[0] with
    | true => exact next_digit s h0 hs w hL hD
    | false =>
      by_cases hq2 : (s[0].toNat : Int) = 59
      · exact next_end s h0 hs w hL hD hq2
      by_cases hq : (s[0].toNat : Int) = 34
      · by_cases hn : Lx.textLen s.data.toList = 0
        · exact next_sign s h0 hs w hL hD (fun _ => hn) hq2
        · exact next_text s h0 hs w hL hD hq hn
      · exact next_sign s h0 hs w hL hD (fun h => absurd h hq) hq2
end Go.Proofs.YtoppkhkdbkkldaaDoor
