/-
  THE WALKS, fifth part: alone, Word, Check and Print of package lex.
-/
import Derived.Test.YtoppkhkdbkkldaaDoorWalkD
namespace Go.Proofs.YtoppkhkdbkkldaaDoor
open Go.RowKit
theorem tokRes_agg (l : List UInt8) : tokRes l = .tuple #[.agg #[.int .i64 (Lx.tokenOf l).1, .string ⟨(l.take (Lx.tokenOf l).2.1).toArray⟩, .int .i64 0], .int .i64 (Lx.tokenOf l).2.2] := rfl

set_option maxRecDepth 100000 in
set_option maxHeartbeats 1000000 in
theorem alone_any (k a : Int) (t : ByteArray) (hs : t.size ≤ 4294967296) (w : World) (henv : Env w) :
    Calls Tryd.prog 44 #[.agg #[.int .i64 k, .string t, .int .i64 a]] w fun e w' => e = .returned (.bool (Lx.isAlone ⟨k, t.data.toList, a⟩)) ∧ Below w.heap.size w w' := by
  by_cases h0 : t.data.toList = []
  · have h1 : t.toList = [] := by rw [Lib.toList_data]; exact h0
    have HA := Lib.hid h0
    clear h0
    go_enter Tryd.func44, Tryd.ntmps44
    go_wp2_with fail
    go_ret
    exact ⟨ret_bool (by simp [Lx.isAlone, HA.out]), below_box _ _⟩
  · have h1 : t.toList.isEmpty = false := by rw [Lib.toList_data]; simpa using h0
    have hsz : 0 < t.size := by
      rw [Lib.size_eq]; exact List.length_pos_iff.2 h0
    have HA := Lib.hid h0
    clear h0
    have he := henv.alloc (.cells #[.int .i64 k, .string t, .int .i64 a] 32)
    go_enter Tryd.func44, Tryd.ntmps44
    go_wp2_with fail
    refine (token_any t hsz hs _ he).mono ?_
    rintro e w1 ⟨rfl, hb⟩
    rw [tokRes_agg]
    generalize hx : Lx.tokenOf t.data.toList = x
    obtain ⟨k', n', e'⟩ := x
    have HX := Lib.hid hx
    clear hx
    obtain ⟨hc, hf⟩ := bcell hb
    have hz : w.heap.size < w1.heap.size := by have := hb.size; simp at this; omega
    have hbel : ∀ o, Below w.heap.size w (w1.alloc o) := fun o => (((below_box _ _).trans (hb.mono (by simp))).alloc (by omega) _)
    have hA : Lx.isAlone ⟨k, t.data.toList, a⟩ = (e' == 0 && (k' == k && decide (t.data.toList.take n' = t.data.toList))) := by
      rw [Lx.isAlone, if_neg (by simpa using HA.out)]
      simp only [HX.out]
    have HB := Lib.hid hbel
    have HI := Lib.hid hA
    clear hbel hA
    go_wp2_with fail
    · have a1 : e' = 0 := by assumption
      have a2 : k' = k := by assumption
      go_ret
      refine ⟨ret_boolI ?_, HB.out _⟩
      rw [HI.out, a1, a2]
      simp [Lib.toList_data]
    · have a1 : e' = 0 := by assumption
      have a2 : ¬ k' = k := by assumption
      go_ret
      exact ⟨ret_bool (by rw [HI.out]; simp [a2]), HB.out _⟩
    · have a1 : ¬ e' = 0 := by assumption
      go_ret
      exact ⟨ret_bool (by rw [HI.out]; simp [a1]), HB.out _⟩

set_option maxRecDepth 100000 in
set_option maxHeartbeats 1000000 in
theorem word_any (s : ByteArray) (hs : s.size ≤ 4294967296) (w : World) (henv : Env w) :
    Calls Tryd.prog 27 #[.string s] w fun e w' => e = .returned (.bool (Lx.isAlone ⟨1, s.data.toList, 0⟩)) ∧ Below w.heap.size w w' := by
  go_enter Tryd.func27, Tryd.ntmps27
  go_wp2_with (go_at_call 44; refine (alone_any _ _ _ hs _ henv).mono ?_; rintro e w1 ⟨rfl, hb⟩)
  go_ret
  exact ⟨rfl, hb⟩
/-! ### Slices of tokens -/
def SmallToks (l : List Lx.Tok) : Prop := ∀ t ∈ l, t.text.length ≤ 4294967296
/-- The slice (A, |l|, ..) holds the tokens l. -/
def HasToks (w : World) (A : Option Addr) (l : List Lx.Tok) : Prop :=
  l ≠ [] → ∃ g, A = some ⟨g, 0, none⟩ ∧ g < w.heap.size ∧ ∀ i t, l[i]? = some t → w.cell? ⟨g, i * 3, none⟩ = some (.int .i64 t.kind) ∧ w.cell? ⟨g, i * 3 + 1, none⟩ = some (.string ⟨t.text.toArray⟩) ∧ w.cell? ⟨g, i * 3 + 2, none⟩ = some (.int .i64 t.place)
theorem HasToks.below {w w' : World} {A : Option Addr} {l : List Lx.Tok} (h : HasToks w A l) (hb : Below w.heap.size w w') : HasToks w' A l := fun hne => by
  obtain ⟨g, hA, hg, hc⟩ := h hne
  refine ⟨g, hA, Nat.lt_of_lt_of_le hg hb.size, fun i t hi => ?_⟩
  obtain ⟨h1, h2, h3⟩ := hc i t hi
  exact ⟨(hb.cell (p := ⟨g, i * 3, none⟩) hg).trans h1, (hb.cell (p := ⟨g, i * 3 + 1, none⟩) hg).trans h2, (hb.cell (p := ⟨g, i * 3 + 2, none⟩) hg).trans h3⟩
/-- The three cells of a token, in whatever later world. -/
theorem HasToks.at_ {w wr : World} {A : Option Addr} {l : List Lx.Tok} (h : HasToks w A l) (hb : Below w.heap.size w wr) {k : Nat} {t : Lx.Tok} (ht : l[k]? = some t) :
    ∃ g, A = some ⟨g, 0, none⟩ ∧ g < w.heap.size ∧ wr.cell? ⟨g, k * 3, none⟩ = some (.int .i64 t.kind) ∧ wr.cell? ⟨g, k * 3 + 1, none⟩ = some (.string ⟨t.text.toArray⟩) ∧ wr.cell? ⟨g, k * 3 + 2, none⟩ = some (.int .i64 t.place) := by
  obtain ⟨g, hA, hg, hc⟩ := h (by intro e; subst e; simp at ht)
  obtain ⟨h1, h2, h3⟩ := hc k t ht
  exact ⟨g, hA, hg, (hb.cell (p := ⟨g, k * 3, none⟩) hg).trans h1, (hb.cell (p := ⟨g, k * 3 + 1, none⟩) hg).trans h2, (hb.cell (p := ⟨g, k * 3 + 2, none⟩) hg).trans h3⟩

def tokV (t : Lx.Tok) : Value := .agg #[.int .i64 t.kind, .string ⟨t.text.toArray⟩, .int .i64 t.place]
theorem alone_tok (t : Lx.Tok) (hs : t.text.length ≤ 4294967296) (w : World) (henv : Env w) :
    Calls Tryd.prog 44 #[.agg #[.int .i64 t.kind, .string ⟨t.text.toArray⟩, .int .i64 t.place]] w fun e w' => e = .returned (.bool (Lx.isAlone t)) ∧ Below w.heap.size w w' :=
  alone_any t.kind t.place ⟨t.text.toArray⟩ hs w henv
theorem closing_tok (t : Lx.Tok) (w : World) (henv : Env w) :
    Calls Tryd.prog 36 #[.agg #[.int .i64 t.kind, .string ⟨t.text.toArray⟩, .int .i64 t.place]] w fun e w' => e = .returned (.bool (Lx.isClosing t)) ∧ Below w.heap.size w w' :=
  closing_any t.kind t.place ⟨t.text.toArray⟩ w henv

def checkAt (l : List Lx.Tok) (k : Nat) : Bool × Bool := (l.take k).foldl Lx.checkStep (decide (l.length ≤ 1024), false)
theorem checkAt_succ {l : List Lx.Tok} {k : Nat} {t : Lx.Tok} (ht : l[k]? = some t) : checkAt l (k + 1) = Lx.checkStep (checkAt l k) t := by
  obtain ⟨hk, rfl⟩ := List.getElem?_eq_some_iff.1 ht
  unfold checkAt
  rw [List.take_succ_eq_append_getElem hk, List.foldl_append]
  rfl
theorem checkAt_all (l : List Lx.Tok) : Lx.checkOf l = if !(checkAt l l.length).1 || (checkAt l l.length).2 then 2 else 0 := by
  unfold checkAt Lx.checkOf
  rw [List.take_length]
theorem checkAt_zero (l : List Lx.Tok) : checkAt l 0 = (decide (l.length ≤ 1024), false) := rfl

set_option maxRecDepth 100000 in
set_option maxHeartbeats 2000000 in
theorem check_any (l : List Lx.Tok) (A : Option Addr) (cap : Nat) (w : World) (henv : Env w) (hl : l.length ≤ 1048576) (hsm : SmallToks l) (hh : HasToks w A l) :
    Calls Tryd.prog 18 #[.slice A l.length cap] w fun e w' => e = .returned (.int .i64 (Lx.checkOf l)) ∧ Below w.heap.size w w' := by
  have HC := Lib.hid (checkAt_all l)
  have hd : decide ((l.length : Int) ≤ 1024) = decide (l.length ≤ 1024) := by rw [decide_eq_decide]; omega
  go_enter Tryd.func18, Tryd.ntmps18
  go_wp2_with fail
  go_loopw [3, 4, 12] (fun ok was i wr => ∃ (k : Nat) (b1 b2 : Bool), k ≤ l.length ∧ i = .int .i64 k ∧ ok = .bool b1 ∧ was = .bool b2 ∧ Hid (checkAt l k = (b1, b2)) ∧ Below w.heap.size w wr) (fun _ _ i _ => l.length - (intOf i).toNat)
  case atStart => exact ⟨0, _, false, Nat.zero_le _, rfl, rfl, rfl, (by rw [checkAt_zero, ← hd]; rfl), Below.refl _ _⟩
  case round =>
    obtain ⟨k, b1, b2, hk, rfl, rfl, rfl, H, hb⟩ := hrel
    by_cases hlt : k < l.length
    · obtain ⟨t, ht⟩ : ∃ t, l[k]? = some t := ⟨_, List.getElem?_eq_getElem hlt⟩
      obtain ⟨g, rfl, hg, c1, c2, c3⟩ := hh.at_ hb ht
      have hts : t.text.length ≤ 4294967296 := hsm t (List.mem_of_getElem? ht)
      have hS := Lib.hid (checkAt_succ ht)
      rw [show checkAt l k = (b1, b2) from H.out] at hS
      clear ht hd
      have he := (henv.next hb).alloc (.cells #[.int .i64 t.kind, .string ⟨t.text.toArray⟩, .int .i64 t.place] 32)
      cases b1
      · go_wp2_with fail
        refine (closing_tok t _ he).mono ?_
        rintro e w1 ⟨rfl, hb1⟩
        have hb2 : Below w.heap.size w w1 := (hb.alloc hb.size _).trans (hb1.mono (by have := hb.size; simp; omega))
        go_wp2_with fail
        go_roundw
        case rel => exact ⟨k + 1, _, _, by omega, by go_num, rfl, rfl, hS, hb2⟩
        case measure => simp [intOf]; omega
      · have hz0 := hb.size
        go_wp2_with fail
        refine (alone_tok t hts _ he).mono ?_
        rintro e w1 ⟨rfl, hb1⟩
        obtain ⟨hc, hf⟩ := bcell hb1
        have hz : wr.heap.size < w1.heap.size := by have := hb1.size; simp at this; omega
        have he1 := he.next hb1
        have hb2 : Below w.heap.size w w1 := (hb.alloc hb.size _).trans (hb1.mono (by simp; omega))
        have HB2 := Lib.hid hb2
        clear hb2
        cases hA : Lx.isAlone t
        · have hS' : Hid (checkAt l (k + 1) = (false, Lx.isClosing t)) := by
            have := hS.out
            simpa [Lx.checkStep, hA, Hid] using this
          clear hS hA
          go_wp2_with fail
          refine (closing_tok t _ he1).mono ?_
          rintro e w2 ⟨rfl, hb3⟩
          have hb4 : Below w.heap.size w w2 := HB2.out.trans (hb3.mono (by omega))
          go_wp2_with fail
          go_roundw
          case rel => exact ⟨k + 1, _, _, by omega, by go_num, rfl, rfl, hS', hb4⟩
          case measure => simp [intOf]; omega
        · by_cases ht0 : t.text = []
          · have hS' : Hid (checkAt l (k + 1) = (b2, Lx.isClosing t)) := by
              have := hS.out
              simpa [Lx.checkStep, hA, ht0, Hid] using this
            clear hS hA
            have e1 : (⟨t.text.toArray⟩ : ByteArray).toList = [] := by rw [Lib.toList_data]; exact ht0
            have HT := Lib.hid ht0
            clear ht0
            go_wp2_with fail
            refine (closing_tok t _ he1).mono ?_
            rintro e w2 ⟨rfl, hb3⟩
            have hb4 : Below w.heap.size w w2 := HB2.out.trans (hb3.mono (by omega))
            go_wp2_with fail
            go_roundw
            case rel => exact ⟨k + 1, _, _, by omega, by go_num, rfl, rfl, hS', hb4⟩
            case measure => simp [intOf]; omega
          · have hS' : Hid (checkAt l (k + 1) = (true, Lx.isClosing t)) := by
              have := hS.out
              have hti : t.text.isEmpty = false := List.isEmpty_eq_false_iff.2 ht0
              simpa [Lx.checkStep, hA, hti, Hid] using this
            clear hS hA
            have e1 : (⟨t.text.toArray⟩ : ByteArray).toList.isEmpty = false := by rw [Lib.toList_data]; simpa using ht0
            have HT := Lib.hid ht0
            clear ht0
            go_wp2_with fail
            refine (closing_tok t _ he1).mono ?_
            rintro e w2 ⟨rfl, hb3⟩
            have hb4 : Below w.heap.size w w2 := HB2.out.trans (hb3.mono (by omega))
            go_wp2_with fail
            go_roundw
            case rel => exact ⟨k + 1, _, _, by omega, by go_num, rfl, rfl, hS', hb4⟩
            case measure => simp [intOf]; omega
    · obtain rfl : k = l.length := by omega
      have hE : Lx.checkOf l = if (!b1 || b2) = true then 2 else 0 := by
        have := HC.out
        rw [show checkAt l l.length = (b1, b2) from H.out] at this
        exact this
      have HE := Lib.hid hE
      clear hE
      cases b1 <;> cases b2
      all_goals
        go_wp2_with fail
        go_ret
        exact ⟨ret_int (by rw [HE.out]; rfl), hb⟩
/-! ### Print -/
def printAt (l : List Lx.Tok) (k : Nat) : List UInt8 × List UInt8 := (l.take k).foldl Lx.printStep ([], [])
theorem printAt_succ {l : List Lx.Tok} {k : Nat} {t : Lx.Tok} (ht : l[k]? = some t) : printAt l (k + 1) = Lx.printStep (printAt l k) t := by
  obtain ⟨hk, rfl⟩ := List.getElem?_eq_some_iff.1 ht
  unfold printAt
  rw [List.take_succ_eq_append_getElem hk, List.foldl_append]
  rfl
theorem printAt_all (l : List Lx.Tok) : (printAt l l.length).1 = Lx.printText l := by
  unfold printAt Lx.printText
  rw [List.take_length]
theorem printStep_le (st : List UInt8 × List UInt8) (t : Lx.Tok) : st.1.length ≤ (Lx.printStep st t).1.length := by
  unfold Lx.printStep; split <;> simp
theorem fold_le (l : List Lx.Tok) : ∀ st, st.1.length ≤ (l.foldl Lx.printStep st).1.length := by
  induction l with
  | nil => intro st; exact Nat.le_refl _
  | cons t l ih => intro st; exact Nat.le_trans (printStep_le st t) (ih _)
theorem printAt_le (l : List Lx.Tok) (k : Nat) : (printAt l k).1.length ≤ (Lx.printText l).length := by
  unfold printAt Lx.printText
  rw [show l.foldl Lx.printStep ([], []) = (l.drop k).foldl Lx.printStep ((l.take k).foldl Lx.printStep ([], [])) by rw [← List.foldl_append, List.take_append_drop]]
  exact fold_le _ _

def printRes (l : List Lx.Tok) : Value := .tuple #[.string ⟨(Lx.printOf l).1.toArray⟩, .int .i64 (Lx.printOf l).2]
theorem printRes_bad {l : List Lx.Tok} (h : ¬ Lx.checkOf l = 0) : printRes l = .tuple #[.string ⟨#[]⟩, .int .i64 2] := by
  unfold printRes Lx.printOf; rw [if_neg h]
theorem printRes_long {l : List Lx.Tok} (h : Lx.checkOf l = 0) (h1 : 4096 < (Lx.printText l).length) : printRes l = .tuple #[.string ⟨#[]⟩, .int .i64 3] := by
  unfold printRes Lx.printOf; rw [if_pos h, if_pos h1]
theorem printRes_ok {l : List Lx.Tok} (h : Lx.checkOf l = 0) (h1 : ¬ 4096 < (Lx.printText l).length) : printRes l = .tuple #[.string ⟨(Lx.printText l).toArray⟩, .int .i64 0] := by
  unfold printRes Lx.printOf; rw [if_pos h, if_neg h1]
theorem checkOf_val (l : List Lx.Tok) : Lx.checkOf l = 0 ∨ Lx.checkOf l = 2 := by
  unfold Lx.checkOf; split
  · exact .inr rfl
  · exact .inl rfl

set_option maxRecDepth 100000 in
set_option maxHeartbeats 2000000 in
theorem print_any (l : List Lx.Tok) (A : Option Addr) (cap : Nat) (w : World) (henv : Env w) (hl : l.length ≤ 1048576) (hsm : SmallToks l) (hpl : (Lx.printText l).length ≤ 1073741824) (hh : HasToks w A l) :
    Calls Tryd.prog 17 #[.slice A l.length cap] w fun e w' => e = .returned (printRes l) ∧ Below w.heap.size w w' := by
  rcases checkOf_val l with hc | hc
  · have HC := Lib.hid hc
    go_enter Tryd.func17, Tryd.ntmps17
    go_wp2_with fail
    refine (check_any l A cap w henv hl hsm hh).mono ?_
    rintro e w1 ⟨rfl, hb1⟩
    have hh1 := hh.below hb1
    clear hh
    rw [HC.out]
    clear hc
    go_wp2_with fail
    go_loopw [6, 16] (fun gap i wr => ∃ (k : Nat) (out gp : List UInt8), k ≤ l.length ∧ i = .int .i64 k ∧ gap = .string ⟨gp.toArray⟩ ∧ gp.length ≤ 1 ∧ Hid (printAt l k = (out, gp)) ∧ IsB w1.heap.size w1.heap.size out wr ∧ Below w1.heap.size w1 wr) (fun _ i _ => l.length - (intOf i).toNat)
    case atStart => exact ⟨0, [], [], Nat.zero_le _, rfl, rfl, by simp, rfl, isB_new w1, below_box _ _⟩
    case round =>
      obtain ⟨k, out, gp, hk, rfl, rfl, hgp, H, hB, hb⟩ := hrel
      have hout : out.length ≤ 1073741824 := by
        have := printAt_le l k
        rw [show printAt l k = (out, gp) from H.out] at this
        exact Nat.le_trans this hpl
      by_cases hlt : k < l.length
      · obtain ⟨t, ht⟩ : ∃ t, l[k]? = some t := ⟨_, List.getElem?_eq_getElem hlt⟩
        obtain ⟨g, rfl, hg, c1, c2, c3⟩ := hh1.at_ hb ht
        have hts : t.text.length ≤ 4294967296 := hsm t (List.mem_of_getElem? ht)
        have hS := Lib.hid (printAt_succ ht)
        rw [show printAt l k = (out, gp) from H.out] at hS
        clear ht
        have hB1 := hB.alloc (.cells #[.int .i64 t.kind, .string ⟨t.text.toArray⟩, .int .i64 t.place] 32)
        have hz0 := hb.size
        by_cases ht0 : t.text = []
        · have e1 : (⟨t.text.toArray⟩ : ByteArray).toList = [] := by rw [Lib.toList_data]; exact ht0
          have HT := Lib.hid ht0
          clear ht0
          have hS' : Hid (printAt l (k + 1) = (out ++ [10], [])) := by
            have := hS.out
            simpa [Lx.printStep, HT.out, Hid] using this
          go_wp2_with fail
          refine (writeByte_at _ _ out 10 10 rfl _ hB1 (by omega)).mono ?_
          rintro e w2 ⟨rfl, hB2, hb2, _⟩
          go_wp2_with fail
          go_roundw
          case rel => exact ⟨k + 1, out ++ [10], [], by omega, by go_num, rfl, by simp, hS', hB2, (hb.alloc hz0 _).trans hb2⟩
          case measure => simp [intOf]; omega
        · have e1 : t.text.isEmpty = false := List.isEmpty_eq_false_iff.2 ht0
          have HT := Lib.hid ht0
          clear ht0
          have hS' : Hid (printAt l (k + 1) = (out ++ (gp ++ t.text), [32])) := by
            have := hS.out
            have hti : t.text.isEmpty = false := List.isEmpty_eq_false_iff.2 HT.out
            simpa [Lx.printStep, hti, Hid] using this
          go_wp2_with fail
          refine (writeString_at _ _ out (gp ++ t.text) _ ?hs _ hB1 (by rw [List.length_append]; omega)).mono ?_
          case hs => simp
          rintro e w2 ⟨rfl, hB2, hb2, _⟩
          go_wp2_with fail
          go_roundw
          case rel => exact ⟨k + 1, out ++ (gp ++ t.text), [32], by omega, by go_num, rfl, by simp, hS', hB2, (hb.alloc hz0 _).trans hb2⟩
          case measure => simp [intOf]; omega
      · obtain rfl : k = l.length := by omega
        have hE : out = Lx.printText l := by
          have := printAt_all l
          rw [show printAt l l.length = (out, gp) from H.out] at this
          exact this
        subst hE
        have hbel : Below w.heap.size w wr := hb1.trans (hb.mono hb1.size)
        by_cases hlong : 4096 < (Lx.printText l).length
        · go_wp2_with fail
          refine (bldLen_any _ _ _ _ hB).mono ?_
          rintro e w2 ⟨rfl, rfl⟩
          go_wp2_with fail
          go_ret2
          exact ⟨retv (printRes_long HC.out hlong).symm, hbel⟩
        · go_wp2_with fail
          refine (bldLen_any _ _ _ _ hB).mono ?_
          rintro e w2 ⟨rfl, rfl⟩
          go_wp2_with fail
          refine (bldString_any _ _ _ _ hB).mono ?_
          rintro e w3 ⟨rfl, _, hb3, _⟩
          go_wp2_with fail
          go_ret2
          exact ⟨retv (printRes_ok HC.out hlong).symm, hbel.trans (hb3.mono hb1.size)⟩
  · have HC := Lib.hid hc
    go_enter Tryd.func17, Tryd.ntmps17
    go_wp2_with fail
    refine (check_any l A cap w henv hl hsm hh).mono ?_
    rintro e w1 ⟨rfl, hb1⟩
    rw [HC.out]
    clear hc
    go_wp2_with fail
    go_ret2
    exact ⟨retv (printRes_bad (by rw [HC.out]; decide)).symm, hb1⟩
end Go.Proofs.YtoppkhkdbkkldaaDoor
