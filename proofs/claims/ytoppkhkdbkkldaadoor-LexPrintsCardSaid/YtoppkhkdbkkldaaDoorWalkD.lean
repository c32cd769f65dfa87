/-
  THE WALKS, fourth part: whole and token of package lex.
-/
import Derived.Test.YtoppkhkdbkkldaaDoorWalkC
namespace Go.Proofs.YtoppkhkdbkkldaaDoor
open Go.RowKit
/-- What 'whole' hands back of digits. -/
def wholeRes (l : List UInt8) : Value := .tuple #[.int .i64 (((Lx.wholeNum l).getD 0 : Nat) : Int), .int .i64 (if (Lx.wholeNum l).isSome then 0 else 201)]
theorem wholeRes_none {l : List UInt8} (h : Lx.wholeNum l = none) : wholeRes l = .tuple #[.int .i64 0, .int .i64 201] := by simp [wholeRes, h]
theorem wholeRes_some {l : List UInt8} {n : Nat} (h : Lx.wholeNum l = some n) : wholeRes l = .tuple #[.int .i64 n, .int .i64 0] := by simp [wholeRes, h]
theorem head48 {s : ByteArray} (h0 : 0 < s.size) : (s.data.toList.head? = some 48) ↔ (s[0].toNat : Int) = 48 := by
  have e := drop_byte s 0 h0
  rw [List.drop_zero] at e
  rw [e, List.head?_cons, Option.some_inj]
  constructor
  · intro h; rw [h]; rfl
  · intro h; exact UInt8.toNat_inj.1 (by show s[0].toNat = 48; omega)
theorem whole_lead {s : ByteArray} (h0 : 0 < s.size) (h1 : 1 < (s.size : Int)) (h2 : (s[0].toNat : Int) = 48) : Lx.wholeNum s.data.toList = none :=
  Lx.wholeNum_none ⟨by rw [← Lib.size_eq]; omega, (head48 h0).2 h2⟩
theorem whole_ok {s : ByteArray} (h0 : 0 < s.size) (h : (s.size : Int) ≤ 1 ∨ ¬ (s[0].toNat : Int) = 48) (hv : Lx.numVal s.data.toList ≤ Lx.maxI) : Lx.wholeNum s.data.toList = some (Lx.numVal s.data.toList) :=
  Lx.wholeNum_some (fun ⟨a, b⟩ => by
    rw [head48 h0] at b
    rw [← Lib.size_eq] at a
    rcases h with h | h
    · omega
    · exact h b) hv
theorem retv {a b : Value} (h : a = b) : Ending.returned a = .returned b := by rw [h]
theorem below_parsed {w w' : World} (h : w' = w ∨ ∃ t, w' = Lib.bytesWorld w 5 t) : Below w.heap.size w w' := by
  rcases h with rfl | ⟨t, rfl⟩
  · exact Below.refl _ _
  · exact Lib.bytesWorld_below _ _ _

set_option maxHeartbeats 1000000 in
theorem whole_any (s : ByteArray) (h0 : 0 < s.size) (hs : s.size ≤ 4294967296) (hd : ∀ c ∈ s.data.toList, Lx.isDigit c = true) (w : World) (henv : Env w) :
    Calls Tryd.prog 47 #[.string s] w fun e w' => e = .returned (wholeRes s.data.toList) ∧ Below w.heap.size w w' := by
  have e := drop_byte s 0 h0
  rw [List.drop_zero] at e
  have hne : s.data.toList ≠ [] := by rw [e]; simp
  have hp := Lx.parseIntB_of _ hne hd
  have hd0 : Lx.isDigit s[0] = true := hd _ (by rw [e]; exact List.mem_cons_self ..)
  have hD := Lib.hid hd0
  clear hd0 hd e hne
  by_cases hv : Lx.numVal s.data.toList ≤ Lx.maxI
  · rw [if_pos hv] at hp
    have HP := Lib.hid hp
    have HV := Lib.hid hv
    clear hp hv
    go_enter Tryd.func47, Tryd.ntmps47
    go_wp2_with (first | (go_at_call 63; refine (Tryd.strconv_ParseInt_10_at64_ok _ (by omega) _ HP.out _).mono ?_; rintro e w' ⟨rfl, hw⟩; have HW := Lib.hid (below_parsed hw); clear hw) | (go_at_call 58; refine (digit_any _ _).mono ?_; rintro e w' ⟨rfl, rfl⟩; rw [hD.out]))
    · have a1 : (s[0].toNat : Int) = 48 := by assumption
      have a2 : 1 < (s.size : Int) := by assumption
      go_ret2
      exact ⟨retv (wholeRes_none (whole_lead h0 a2 a1)).symm, HW.out⟩
    · have a2 : (s.size : Int) ≤ 1 := by assumption
      go_ret2
      exact ⟨retv (wholeRes_some (whole_ok h0 (.inl a2) HV.out)).symm, HW.out⟩
    · have a1 : ¬ (s[0].toNat : Int) = 48 := by assumption
      go_ret2
      exact ⟨retv (wholeRes_some (whole_ok h0 (.inr a1) HV.out)).symm, HW.out⟩
  · rw [if_neg hv] at hp
    have HP := Lib.hid hp
    have HV := Lib.hid hv
    clear hp hv
    obtain ⟨ev, hev, hk⟩ := henv.errRange
    go_enter Tryd.func47, Tryd.ntmps47
    go_wp2_with (go_at_call 63; refine (Tryd.strconv_ParseInt_10_at64_range _ (by omega) HP.out ev _ hev hk).mono ?_; rintro e w' ⟨N, rfl, hN, hcell, hbel⟩)
    go_ret2
    exact ⟨retv (wholeRes_none (Lx.wholeNum_big HV.out)).symm, hbel⟩
theorem run0_wordc (s : ByteArray) (hs : s.size ≤ 4294967296) (w : World) :
    Calls Tryd.prog 32 #[.string s, .int .i64 0, .func (.func 57) #[] #[]] w fun e w' => e = .returned (.int .i64 (Lx.runLen Lx.isWord s.data.toList)) ∧ w = w' := by
  have h := run_wordc s 0 (by omega) (by omega) hs w
  rwa [Int.toNat_zero, List.drop_zero] at h
theorem run0_digit (s : ByteArray) (hs : s.size ≤ 4294967296) (w : World) :
    Calls Tryd.prog 32 #[.string s, .int .i64 0, .func (.func 58) #[] #[]] w fun e w' => e = .returned (.int .i64 (Lx.runLen Lx.isDigit s.data.toList)) ∧ w = w' := by
  have h := run_digit s 0 (by omega) (by omega) hs w
  rwa [Int.toNat_zero, List.drop_zero] at h

def tokRes (l : List UInt8) : Value := .tuple #[.agg #[.int .i64 (Lx.tokenOf l).1, .string ⟨(l.take (Lx.tokenOf l).2.1).toArray⟩, .int .i64 0], .int .i64 (Lx.tokenOf l).2.2]
theorem tokRes_err {l : List UInt8} {x : Int} (h : Lx.tokenOf l = (0, 0, x)) : tokRes l = .tuple #[.agg #[.int .i64 0, .string ⟨#[]⟩, .int .i64 0], .int .i64 x] := by
  unfold tokRes; rw [h]; rfl
theorem tokRes_ok {s : ByteArray} {k : Int} {n : Nat} (h : Lx.tokenOf s.data.toList = (k, n, 0)) : tokRes s.data.toList = .tuple #[.agg #[.int .i64 k, .string (s.extract 0 n), .int .i64 0], .int .i64 0] := by
  unfold tokRes; rw [h, Lib.extract_eq]; simp

theorem head_cons {s : ByteArray} (h0 : 0 < s.size) : s.data.toList = s[0] :: s.data.toList.drop 1 := by
  have e := drop_byte s 0 h0
  rwa [List.drop_zero] at e
theorem tok_letter {s : ByteArray} (h0 : 0 < s.size) (h : Lx.isLetter s[0] = true) : Lx.tokenOf s.data.toList = if 24 < Lx.runLen Lx.isWord s.data.toList then (0, 0, 3) else (1, Lx.runLen Lx.isWord s.data.toList, 0) := by
  generalize hl : s.data.toList = l
  have e := head_cons h0
  rw [hl] at e
  rw [Lx.tokenOf.eq_def, e]
  simp only []
  rw [if_pos h]

theorem tok_digit {s : ByteArray} (h0 : 0 < s.size) (h : Lx.isLetter s[0] = false) (h1 : Lx.isDigit s[0] = true) : Lx.tokenOf s.data.toList =
      if ((s.data.toList.drop (Lx.runLen Lx.isDigit s.data.toList)).head?.map Lx.isLetter).getD false then (0, 0, 201)
      else if (Lx.wholeNum (s.data.toList.take (Lx.runLen Lx.isDigit s.data.toList))).isNone then (0, 0, 201)
      else (2, Lx.runLen Lx.isDigit s.data.toList, 0) := by
  generalize hl : s.data.toList = l
  have e := head_cons h0
  rw [hl] at e
  rw [Lx.tokenOf.eq_def, e]
  simp only []
  rw [if_neg (by rw [h]; exact Bool.false_ne_true), if_pos h1]
theorem tok_other {s : ByteArray} (h0 : 0 < s.size) (h : Lx.isLetter s[0] = false) (h1 : Lx.isDigit s[0] = false) : Lx.tokenOf s.data.toList =
      if (s[0].toNat : Int) = 34 then (if Lx.textLen s.data.toList = 0 then (0, 0, 200) else (3, Lx.textLen s.data.toList, 0))
      else if (s[0].toNat : Int) = 59 then (5, 1, 0)
      else if Lx.signLen s.data.toList = 0 then (0, 0, 200) else (4, Lx.signLen s.data.toList, 0) := by
  generalize hl : s.data.toList = l
  have e := head_cons h0
  rw [hl] at e
  rw [Lx.tokenOf.eq_def, e]
  simp only []
  rw [if_neg (by rw [h]; exact Bool.false_ne_true), if_neg (by rw [h1]; exact Bool.false_ne_true)]
  have e1 : (s[0].toNat = 34) ↔ ((s[0].toNat : Int) = 34) := by omega
  have e2 : (s[0].toNat = 59) ↔ ((s[0].toNat : Int) = 59) := by omega
  simp only [e1, e2]
theorem runLen_lt {p : UInt8 → Bool} {s : ByteArray} (h0 : 0 < s.size) (h : p s[0] = true) : 0 < Lx.runLen p s.data.toList := by
  rw [head_cons h0]; exact Lx.runLen_pos h
theorem runLen_size (p : UInt8 → Bool) (s : ByteArray) : Lx.runLen p s.data.toList ≤ s.size := by
  have := Lx.runLen_le p s.data.toList; rw [← Lib.size_eq] at this; exact this
theorem head_at {s : ByteArray} {n : Nat} (h : n < s.size) (f : UInt8 → Bool) : ((s.data.toList.drop n).head?.map f).getD false = f s[n] := by
  rw [drop_byte s n h]; rfl
theorem head_out {s : ByteArray} {n : Nat} (h : s.size ≤ n) (f : UInt8 → Bool) : ((s.data.toList.drop n).head?.map f).getD false = false := by
  rw [drop_end s n h]; rfl
theorem textLen_le (s : ByteArray) : Lx.textLen s.data.toList ≤ s.size := by rw [Lib.size_eq]; exact Lx.textLen_le _
theorem signLen_le (s : ByteArray) : Lx.signLen s.data.toList ≤ s.size := by rw [Lib.size_eq]; exact Lx.signLen_le _

set_option maxRecDepth 100000 in
set_option maxHeartbeats 1000000 in
theorem token_letter (s : ByteArray) (h0 : 0 < s.size) (hs : s.size ≤ 4294967296) (w : World) (hL : Lx.isLetter s[0] = true) :
    Calls Tryd.prog 37 #[.string s] w fun e w' => e = .returned (tokRes s.data.toList) ∧ Below w.heap.size w w' := by
  have hT := tok_letter h0 hL
  have hw := runLen_size Lx.isWord s
  have hp : 0 < Lx.runLen Lx.isWord s.data.toList := runLen_lt h0 (by simp [Lx.isWord, hL])
  have HL := Lib.hid hL
  clear hL
  by_cases hn : 24 < Lx.runLen Lx.isWord s.data.toList
  · rw [if_pos hn] at hT
    have HT := Lib.hid hT
    clear hT
    go_enter Tryd.func37, Tryd.ntmps37
    go_wp2_with (first | (go_at_call 56; refine (letter_any _ _).mono ?_; rintro e w' ⟨rfl, rfl⟩; rw [HL.out]) | (go_at_call 32; refine (run0_wordc _ hs _).mono ?_; rintro e w' ⟨rfl, rfl⟩))
    exact bodyPost_ret (v := .tuple #[.agg #[.int .i64 0, .string ⟨#[]⟩, .int .i64 0], .int .i64 3]) (by simp [results, Tryd.results37, go_sem]) rfl ⟨retv (tokRes_err HT.out).symm, below_box _ _⟩
  · rw [if_neg hn] at hT
    have HT := Lib.hid hT
    clear hT
    go_enter Tryd.func37, Tryd.ntmps37
    go_wp2_with (first | (go_at_call 56; refine (letter_any _ _).mono ?_; rintro e w' ⟨rfl, rfl⟩; rw [HL.out]) | (go_at_call 32; refine (run0_wordc _ hs _).mono ?_; rintro e w' ⟨rfl, rfl⟩))
    exact bodyPost_ret (v := .tuple #[.agg #[.int .i64 1, .string (s.extract 0 (Lx.runLen Lx.isWord s.data.toList)), .int .i64 0], .int .i64 0]) (by simp [results, Tryd.results37, go_sem]) rfl ⟨retv (tokRes_ok HT.out).symm, below_box _ _⟩

set_option maxRecDepth 100000 in
set_option maxHeartbeats 1000000 in
theorem token_text (s : ByteArray) (h0 : 0 < s.size) (hs : s.size ≤ 4294967296) (w : World) (hL : Lx.isLetter s[0] = false) (hD : Lx.isDigit s[0] = false) (hq : (s[0].toNat : Int) = 34) :
    Calls Tryd.prog 37 #[.string s] w fun e w' => e = .returned (tokRes s.data.toList) ∧ Below w.heap.size w w' := by
  have hT := tok_other h0 hL hD
  rw [if_pos hq] at hT
  have hw := textLen_le s
  have hb : ((s[0].toNat : Int) == 34) = true := by rw [hq]; rfl
  clear hq
  have HL := Lib.hid hL
  have HD := Lib.hid hD
  clear hL hD
  by_cases hn : Lx.textLen s.data.toList = 0
  · rw [if_pos hn] at hT
    have HT := Lib.hid hT
    have HN := Lib.hid hn
    clear hT hn
    go_enter Tryd.func37, Tryd.ntmps37
    go_wp2_with (first | (go_at_call 56; refine (letter_any _ _).mono ?_; rintro e w' ⟨rfl, rfl⟩; rw [HL.out]) | (go_at_call 58; refine (digit_any _ _).mono ?_; rintro e w' ⟨rfl, rfl⟩; rw [HD.out]) | (go_at_call 59; refine (text_any _ hs _).mono ?_; rintro e w' ⟨rfl, rfl⟩; rw [HN.out]))
    exact bodyPost_ret (v := .tuple #[.agg #[.int .i64 0, .string ⟨#[]⟩, .int .i64 0], .int .i64 200]) (by simp [results, Tryd.results37, go_sem]) rfl ⟨retv (tokRes_err HT.out).symm, below_box _ _⟩
  · rw [if_neg hn] at hT
    have HT := Lib.hid hT
    clear hT
    go_enter Tryd.func37, Tryd.ntmps37
    go_wp2_with (first | (go_at_call 56; refine (letter_any _ _).mono ?_; rintro e w' ⟨rfl, rfl⟩; rw [HL.out]) | (go_at_call 58; refine (digit_any _ _).mono ?_; rintro e w' ⟨rfl, rfl⟩; rw [HD.out]) | (go_at_call 59; refine (text_any _ hs _).mono ?_; rintro e w' ⟨rfl, rfl⟩))
    exact bodyPost_ret (v := .tuple #[.agg #[.int .i64 3, .string (s.extract 0 (Lx.textLen s.data.toList)), .int .i64 0], .int .i64 0]) (by simp [results, Tryd.results37, go_sem]) rfl ⟨retv (tokRes_ok HT.out).symm, below_box _ _⟩

set_option maxRecDepth 100000 in
set_option maxHeartbeats 1000000 in
theorem token_end (s : ByteArray) (h0 : 0 < s.size) (w : World) (hL : Lx.isLetter s[0] = false) (hD : Lx.isDigit s[0] = false) (hq : (s[0].toNat : Int) = 59) :
    Calls Tryd.prog 37 #[.string s] w fun e w' => e = .returned (tokRes s.data.toList) ∧ Below w.heap.size w w' := by
  have hT := tok_other h0 hL hD
  rw [if_neg (by omega), if_pos hq] at hT
  have hb : ((s[0].toNat : Int) == 34) = false := by rw [hq]; rfl
  have hb2 : ((s[0].toNat : Int) == 59) = true := by rw [hq]; rfl
  clear hq
  have HL := Lib.hid hL
  have HD := Lib.hid hD
  have HT := Lib.hid hT
  clear hL hD hT
  go_enter Tryd.func37, Tryd.ntmps37
  go_wp2_with (first | (go_at_call 56; refine (letter_any _ _).mono ?_; rintro e w' ⟨rfl, rfl⟩; rw [HL.out]) | (go_at_call 58; refine (digit_any _ _).mono ?_; rintro e w' ⟨rfl, rfl⟩; rw [HD.out]))
  exact bodyPost_ret (v := .tuple #[.agg #[.int .i64 5, .string (s.extract 0 1), .int .i64 0], .int .i64 0]) (by simp [results, Tryd.results37, go_sem]) rfl ⟨retv (tokRes_ok HT.out).symm, below_box _ _⟩

set_option maxRecDepth 100000 in
set_option maxHeartbeats 1000000 in
theorem token_sign (s : ByteArray) (h0 : 0 < s.size) (w : World) (hL : Lx.isLetter s[0] = false) (hD : Lx.isDigit s[0] = false) (hq : ¬ (s[0].toNat : Int) = 34) (hq2 : ¬ (s[0].toNat : Int) = 59) :
    Calls Tryd.prog 37 #[.string s] w fun e w' => e = .returned (tokRes s.data.toList) ∧ Below w.heap.size w w' := by
  have hT := tok_other h0 hL hD
  rw [if_neg hq, if_neg hq2] at hT
  have hw := signLen_le s
  have HL := Lib.hid hL
  have HD := Lib.hid hD
  clear hL hD
  by_cases hn : Lx.signLen s.data.toList = 0
  · rw [if_pos hn] at hT
    have HT := Lib.hid hT
    have HN := Lib.hid hn
    clear hT hn
    go_enter Tryd.func37, Tryd.ntmps37
    go_wp2_with (first | (go_at_call 56; refine (letter_any _ _).mono ?_; rintro e w' ⟨rfl, rfl⟩; rw [HL.out]) | (go_at_call 58; refine (digit_any _ _).mono ?_; rintro e w' ⟨rfl, rfl⟩; rw [HD.out]) | (go_at_call 60; refine (sign_any _ h0 _).mono ?_; rintro e w' ⟨rfl, rfl⟩; rw [HN.out]))
    exact bodyPost_ret (v := .tuple #[.agg #[.int .i64 0, .string ⟨#[]⟩, .int .i64 0], .int .i64 200]) (by simp [results, Tryd.results37, go_sem]) rfl ⟨retv (tokRes_err HT.out).symm, below_box _ _⟩
  · rw [if_neg hn] at hT
    have HT := Lib.hid hT
    clear hT
    go_enter Tryd.func37, Tryd.ntmps37
    go_wp2_with (first | (go_at_call 56; refine (letter_any _ _).mono ?_; rintro e w' ⟨rfl, rfl⟩; rw [HL.out]) | (go_at_call 58; refine (digit_any _ _).mono ?_; rintro e w' ⟨rfl, rfl⟩; rw [HD.out]) | (go_at_call 60; refine (sign_any _ h0 _).mono ?_; rintro e w' ⟨rfl, rfl⟩))
    exact bodyPost_ret (v := .tuple #[.agg #[.int .i64 4, .string (s.extract 0 (Lx.signLen s.data.toList)), .int .i64 0], .int .i64 0]) (by simp [results, Tryd.results37, go_sem]) rfl ⟨retv (tokRes_ok HT.out).symm, below_box _ _⟩
theorem bcell {W w1 : World} (hb : Below W.heap.size W w1) : (∀ b o, b < W.heap.size → w1.cell? ⟨b, o, none⟩ = W.cell? ⟨b, o, none⟩) ∧ (∀ b o, b < W.heap.size → w1.frozen? ⟨b, o, none⟩ = W.frozen? ⟨b, o, none⟩) :=
  ⟨fun b o h => hb.cell (p := ⟨b, o, none⟩) h, fun b o h => hb.frozen (p := ⟨b, o, none⟩) h⟩
theorem digits_of (s : ByteArray) : ∀ c ∈ (s.extract 0 (Lx.runLen Lx.isDigit s.data.toList)).data.toList, Lx.isDigit c = true := by
  rw [Lib.extract_data]; simpa using Lx.runLen_all Lx.isDigit s.data.toList
theorem extract_size0 (s : ByteArray) (n : Nat) (h : n ≤ s.size) : (s.extract 0 n).size = n := by simp; omega
theorem extract_list0 (s : ByteArray) (n : Nat) : (s.extract 0 n).data.toList = s.data.toList.take n := by rw [Lib.extract_data]; simp

set_option maxRecDepth 100000 in
set_option maxHeartbeats 1000000 in
theorem token_digit (s : ByteArray) (h0 : 0 < s.size) (hs : s.size ≤ 4294967296) (w : World) (henv : Env w) (hL : Lx.isLetter s[0] = false) (hD : Lx.isDigit s[0] = true) :
    Calls Tryd.prog 37 #[.string s] w fun e w' => e = .returned (tokRes s.data.toList) ∧ Below w.heap.size w w' := by
  have hT := tok_digit h0 hL hD
  have hw := runLen_size Lx.isDigit s
  have hp : 0 < Lx.runLen Lx.isDigit s.data.toList := runLen_lt h0 hD
  have HL := Lib.hid hL
  have HD := Lib.hid hD
  clear hL hD
  have hwh := fun W hW => whole_any (s.extract 0 (Lx.runLen Lx.isDigit s.data.toList)) (by rw [extract_size0 _ _ hw]; exact hp) (by rw [extract_size0 _ _ hw]; omega) (digits_of s) W hW
  rw [extract_list0] at hwh
  have HW := Lib.hid hwh
  clear hwh
  have henv1 := henv.alloc (.cells #[.int .i64 0, .string ⟨#[]⟩, .int .i64 0] 32)
  by_cases hn : Lx.runLen Lx.isDigit s.data.toList < s.size
  · rw [head_at hn] at hT
    cases hl : Lx.isLetter s[Lx.runLen Lx.isDigit s.data.toList]
    · rw [hl, if_neg Bool.false_ne_true] at hT
      have HLL := Lib.hid hl
      clear hl
      cases hv : Lx.wholeNum (s.data.toList.take (Lx.runLen Lx.isDigit s.data.toList))
      · rw [hv] at hT
        rw [if_pos Option.isNone_none] at hT
        have HT := Lib.hid hT
        have HV := Lib.hid (wholeRes_none hv)
        clear hT hv
        go_enter Tryd.func37, Tryd.ntmps37
        go_wp2_with fail
        refine (letter_any _ _).mono ?_
        rintro e w' ⟨rfl, rfl⟩
        rw [HL.out]
        go_wp2_with (first | (go_at_call 58; refine (digit_any _ _).mono ?_; rintro e w' ⟨rfl, rfl⟩; rw [HD.out]) | (go_at_call 32; refine (run0_digit _ hs _).mono ?_; rintro e w' ⟨rfl, rfl⟩))
        refine (HW.out _ henv1).mono ?_
        rintro e w1 ⟨rfl, hb⟩
        rw [HV.out]
        obtain ⟨hc, hf⟩ := bcell hb
        have hz : w.heap.size + 1 ≤ w1.heap.size := by have := hb.size; simpa using this
        go_wp2_with (go_at_call 56; refine (letter_any _ _).mono ?_; rintro e w' ⟨rfl, rfl⟩; rw [HLL.out])
        refine bodyPost_ret (v := .tuple #[.agg #[.int .i64 0, .string ⟨#[]⟩, .int .i64 0], .int .i64 201]) (by simp [results, Tryd.results37, go_sem, hc]) rfl ⟨retv (tokRes_err HT.out).symm, ?_⟩
        exact ((((Below.refl _ _).alloc (Nat.le_refl _) _).trans (hb.mono (by simp))).setCell (by simp) _).setCell (by simp) _ |>.setCell (by simp) _
      · rw [hv] at hT
        rw [if_neg (by simp)] at hT
        have HT := Lib.hid hT
        have HV := Lib.hid (wholeRes_some hv)
        clear hT hv
        go_enter Tryd.func37, Tryd.ntmps37
        go_wp2_with fail
        refine (letter_any _ _).mono ?_
        rintro e w' ⟨rfl, rfl⟩
        rw [HL.out]
        go_wp2_with (first | (go_at_call 58; refine (digit_any _ _).mono ?_; rintro e w' ⟨rfl, rfl⟩; rw [HD.out]) | (go_at_call 32; refine (run0_digit _ hs _).mono ?_; rintro e w' ⟨rfl, rfl⟩))
        refine (HW.out _ henv1).mono ?_
        rintro e w1 ⟨rfl, hb⟩
        rw [HV.out]
        obtain ⟨hc, hf⟩ := bcell hb
        have hz : w.heap.size + 1 ≤ w1.heap.size := by have := hb.size; simpa using this
        go_wp2_with (go_at_call 56; refine (letter_any _ _).mono ?_; rintro e w' ⟨rfl, rfl⟩; rw [HLL.out])
        refine bodyPost_ret (v := .tuple #[.agg #[.int .i64 2, .string (s.extract 0 (Lx.runLen Lx.isDigit s.data.toList)), .int .i64 0], .int .i64 0]) (by simp [results, Tryd.results37, go_sem, hc]) rfl ⟨retv (tokRes_ok HT.out).symm, ?_⟩
        exact ((((Below.refl _ _).alloc (Nat.le_refl _) _).trans (hb.mono (by simp))).setCell (by simp) _).setCell (by simp) _ |>.setCell (by simp) _
    · rw [hl, if_pos rfl] at hT
      have HLL := Lib.hid hl
      clear hl
      cases hv : Lx.wholeNum (s.data.toList.take (Lx.runLen Lx.isDigit s.data.toList))
      · skip
        have HT := Lib.hid hT
        have HV := Lib.hid (wholeRes_none hv)
        clear hT hv
        go_enter Tryd.func37, Tryd.ntmps37
        go_wp2_with fail
        refine (letter_any _ _).mono ?_
        rintro e w' ⟨rfl, rfl⟩
        rw [HL.out]
        go_wp2_with (first | (go_at_call 58; refine (digit_any _ _).mono ?_; rintro e w' ⟨rfl, rfl⟩; rw [HD.out]) | (go_at_call 32; refine (run0_digit _ hs _).mono ?_; rintro e w' ⟨rfl, rfl⟩))
        refine (HW.out _ henv1).mono ?_
        rintro e w1 ⟨rfl, hb⟩
        rw [HV.out]
        obtain ⟨hc, hf⟩ := bcell hb
        have hz : w.heap.size + 1 ≤ w1.heap.size := by have := hb.size; simpa using this
        go_wp2_with (go_at_call 56; refine (letter_any _ _).mono ?_; rintro e w' ⟨rfl, rfl⟩; rw [HLL.out])
        refine bodyPost_ret (v := .tuple #[.agg #[.int .i64 0, .string ⟨#[]⟩, .int .i64 0], .int .i64 201]) (by simp [results, Tryd.results37, go_sem, hc]) rfl ⟨retv (tokRes_err HT.out).symm, ?_⟩
        exact ((((Below.refl _ _).alloc (Nat.le_refl _) _).trans (hb.mono (by simp))).setCell (by simp) _).setCell (by simp) _ |>.setCell (by simp) _
      · skip
        have HT := Lib.hid hT
        have HV := Lib.hid (wholeRes_some hv)
        clear hT hv
        go_enter Tryd.func37, Tryd.ntmps37
        go_wp2_with fail
        refine (letter_any _ _).mono ?_
        rintro e w' ⟨rfl, rfl⟩
        rw [HL.out]
        go_wp2_with (first | (go_at_call 58; refine (digit_any _ _).mono ?_; rintro e w' ⟨rfl, rfl⟩; rw [HD.out]) | (go_at_call 32; refine (run0_digit _ hs _).mono ?_; rintro e w' ⟨rfl, rfl⟩))
        refine (HW.out _ henv1).mono ?_
        rintro e w1 ⟨rfl, hb⟩
        rw [HV.out]
        obtain ⟨hc, hf⟩ := bcell hb
        have hz : w.heap.size + 1 ≤ w1.heap.size := by have := hb.size; simpa using this
        go_wp2_with (go_at_call 56; refine (letter_any _ _).mono ?_; rintro e w' ⟨rfl, rfl⟩; rw [HLL.out])
        refine bodyPost_ret (v := .tuple #[.agg #[.int .i64 0, .string ⟨#[]⟩, .int .i64 0], .int .i64 201]) (by simp [results, Tryd.results37, go_sem, hc]) rfl ⟨retv (tokRes_err HT.out).symm, ?_⟩
        exact ((((Below.refl _ _).alloc (Nat.le_refl _) _).trans (hb.mono (by simp))).setCell (by simp) _).setCell (by simp) _ |>.setCell (by simp) _
  · rw [head_out (Nat.le_of_not_lt hn), if_neg Bool.false_ne_true] at hT
    cases hv : Lx.wholeNum (s.data.toList.take (Lx.runLen Lx.isDigit s.data.toList))
    · rw [hv] at hT
      rw [if_pos Option.isNone_none] at hT
      have HT := Lib.hid hT
      have HV := Lib.hid (wholeRes_none hv)
      clear hT hv
      go_enter Tryd.func37, Tryd.ntmps37
      go_wp2_with fail
      refine (letter_any _ _).mono ?_
      rintro e w' ⟨rfl, rfl⟩
      rw [HL.out]
      go_wp2_with (first | (go_at_call 58; refine (digit_any _ _).mono ?_; rintro e w' ⟨rfl, rfl⟩; rw [HD.out]) | (go_at_call 32; refine (run0_digit _ hs _).mono ?_; rintro e w' ⟨rfl, rfl⟩))
      refine (HW.out _ henv1).mono ?_
      rintro e w1 ⟨rfl, hb⟩
      rw [HV.out]
      obtain ⟨hc, hf⟩ := bcell hb
      have hz : w.heap.size + 1 ≤ w1.heap.size := by have := hb.size; simpa using this
      go_wp2_with fail
      refine bodyPost_ret (v := .tuple #[.agg #[.int .i64 0, .string ⟨#[]⟩, .int .i64 0], .int .i64 201]) (by simp [results, Tryd.results37, go_sem, hc]) rfl ⟨retv (tokRes_err HT.out).symm, ?_⟩
      exact ((((Below.refl _ _).alloc (Nat.le_refl _) _).trans (hb.mono (by simp))).setCell (by simp) _).setCell (by simp) _ |>.setCell (by simp) _
    · rw [hv] at hT
      rw [if_neg (by simp)] at hT
      have HT := Lib.hid hT
      have HV := Lib.hid (wholeRes_some hv)
      clear hT hv
      go_enter Tryd.func37, Tryd.ntmps37
      go_wp2_with fail
      refine (letter_any _ _).mono ?_
      rintro e w' ⟨rfl, rfl⟩
      rw [HL.out]
      go_wp2_with (first | (go_at_call 58; refine (digit_any _ _).mono ?_; rintro e w' ⟨rfl, rfl⟩; rw [HD.out]) | (go_at_call 32; refine (run0_digit _ hs _).mono ?_; rintro e w' ⟨rfl, rfl⟩))
      refine (HW.out _ henv1).mono ?_
      rintro e w1 ⟨rfl, hb⟩
      rw [HV.out]
      obtain ⟨hc, hf⟩ := bcell hb
      have hz : w.heap.size + 1 ≤ w1.heap.size := by have := hb.size; simpa using this
      go_wp2_with fail
      refine bodyPost_ret (v := .tuple #[.agg #[.int .i64 2, .string (s.extract 0 (Lx.runLen Lx.isDigit s.data.toList)), .int .i64 0], .int .i64 0]) (by simp [results, Tryd.results37, go_sem, hc]) rfl ⟨retv (tokRes_ok HT.out).symm, ?_⟩
      exact ((((Below.refl _ _).alloc (Nat.le_refl _) _).trans (hb.mono (by simp))).setCell (by simp) _).setCell (by simp) _ |>.setCell (by simp) _

theorem token_any (s : ByteArray) (h0 : 0 < s.size) (hs : s.size ≤ 4294967296) (w : World) (henv : Env w) :
    Calls Tryd.prog 37 #[.string s] w fun e w' => e = .returned (tokRes s.data.toList) ∧ Below w.heap.size w w' := by
  cases hL : Lx.isLetter s[0]
  · cases hD : Lx.isDigit s[0]
    · by_cases hq : (s[0].toNat : Int) = 34
      · exact token_text s h0 hs w hL hD hq
      by_cases hq2 : (s[0].toNat : Int) = 59
      · exact token_end s h0 w hL hD hq2
      exact token_sign s h0 w hL hD hq hq2
    · exact token_digit s h0 hs w henv hL hD
  · exact token_letter s h0 hs w hL
end Go.Proofs.YtoppkhkdbkkldaaDoor
