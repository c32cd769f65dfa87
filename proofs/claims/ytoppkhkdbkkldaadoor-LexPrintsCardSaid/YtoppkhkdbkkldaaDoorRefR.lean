/-
  PROVED: what the reference's alone, Right and Text compute. CONDITIONS: as each says on lengths.
-/
import Derived.Test.YtoppkhkdbkkldaaDoorRefEq
import Derived.Test.YtoppkhkdbkkldaaDoorRefD
import Derived.Test.YtoppkhkdbkkldaaDoorBuf
import Derived.Test.YtoppkhkdbkkldaaDoorWalkE
import Derived.BigQuiet
namespace Go.Proofs.YtoppkhkdbkkldaaDoor
open Go.RowKit
namespace Lx
theorem tokenOf_blank {c : UInt8} {m : Bs} (h : isBlank c = true ∨ c.toNat = 10) : tokenOf (c :: m) = (0, 0, 200) := by
  have hc : c.toNat = 9 ∨ c.toNat = 13 ∨ c.toNat = 32 ∨ c.toNat = 10 := by
    rcases h with h | h
    · unfold isBlank at h; simp at h; omega
    · omega
  have hL : isLetter c = false := by unfold isLetter; simp; omega
  have hD : isDigit c = false := by unfold isDigit; simp; omega
  have hS : signLen (c :: m) = 0 := by
    have : c = 9 ∨ c = 13 ∨ c = 32 ∨ c = 10 := by
      rcases hc with h | h | h | h
      · exact .inl (UInt8.toNat_inj.1 h)
      · exact .inr (.inl (UInt8.toNat_inj.1 h))
      · exact .inr (.inr (.inl (UInt8.toNat_inj.1 h)))
      · exact .inr (.inr (.inr (UInt8.toNat_inj.1 h)))
    rcases this with rfl | rfl | rfl | rfl
    all_goals
      unfold signLen
      rw [if_neg]
      · rfl
      · cases m with
        | nil => simp [twoSigns]
        | cons d m => simp [twoSigns]
  rw [tokenOf.eq_def]
  simp only []
  rw [if_neg (by rw [hL]; exact Bool.false_ne_true), if_neg (by rw [hD]; exact Bool.false_ne_true), if_neg (by omega), if_neg (by omega), if_pos hS]
theorem tokenOf_kind5 {l : Bs} (h : (tokenOf l).1 = 5) : ∃ m, l = 59 :: m ∧ (tokenOf l) = (5, 1, 0) := by
  cases l with
  | nil => cases h
  | cons c m =>
    rw [tokenOf.eq_def] at h ⊢
    simp only [] at h ⊢
    split at h
    · split at h <;> cases h
    · rename_i a1
      split at h
      · split at h
        · cases h
        · split at h <;> cases h
      · rename_i a2
        split at h
        · split at h <;> cases h
        · rename_i a3
          split at h
          · rename_i a4
            refine ⟨m, ?_, ?_⟩
            · rw [UInt8.toNat_inj.1 (show c.toNat = (59 : UInt8).toNat from a4)]
            · rw [if_neg a1, if_neg a2, if_neg a3, if_pos a4]
          · split at h <;> cases h
theorem alone_end {t : Tok} (h5 : t.kind = 5) : isAlone t = (decide (t.text = []) || decide (t.text = [59])) := by
  unfold isAlone
  by_cases h0 : t.text = []
  · rw [if_pos (by rw [h0]; rfl), h5, h0]; rfl
  rw [if_neg (by simpa using h0), h5, decide_eq_false h0, Bool.false_or]
  by_cases h1 : t.text = [59]
  · rw [h1]; rfl
  rw [decide_eq_false h1]
  rw [← Bool.not_eq_true]
  intro h
  simp only [Bool.and_eq_true, beq_iff_eq, decide_eq_true_eq] at h
  obtain ⟨e1, e2, e3⟩ := h
  obtain ⟨m, hm, ht⟩ := tokenOf_kind5 e2
  rw [ht] at e3
  apply h1
  rw [← e3, hm]; rfl
theorem alone_void {t : Tok} (h5 : t.kind ≠ 5) (h0 : t.text = []) : isAlone t = false := by
  unfold isAlone
  rw [if_pos (by rw [h0]; rfl)]
  simpa using h5
theorem alone_blank {t : Tok} {c : UInt8} {m : Bs} (hx : t.text = c :: m) (h : isBlank c = true ∨ c.toNat = 10) : isAlone t = false := by
  unfold isAlone
  rw [hx, if_neg (by simp), tokenOf_blank h]; rfl
theorem alone_closing {t : Tok} (h : isAlone t = true) : refClosing t.kind t.text = isClosing t := by
  unfold isAlone at h
  by_cases h0 : t.text.isEmpty = true
  · rw [if_pos h0] at h
    have h5 : t.kind = 5 := by simpa using h
    unfold refClosing isClosing
    rw [h5]; rfl
  rw [if_neg h0] at h
  simp only [Bool.and_eq_true, beq_iff_eq, decide_eq_true_eq] at h
  obtain ⟨e1, e2, e3⟩ := h
  have := token_closing t.text t.place
  rw [e2, e3] at this
  exact this
end Lx

set_option maxRecDepth 100000 in
set_option maxHeartbeats 4000000 in
theorem refAlone_any (k a : Int) (t : ByteArray) (hs : t.size ≤ 4294967296) (w : World) :
    Calls Tryd.prog 45 #[.agg #[.int .i64 k, .string t, .int .i64 a]] w fun e w' => e = .returned (.bool (Lx.isAlone ⟨k, t.data.toList, a⟩)) ∧ Below w.heap.size w w' := by
  by_cases h5 : k = 5
  · have HA := Lib.hid (Lx.alone_end (t := ⟨k, t.data.toList, a⟩) h5)
    have b5 : (k == 5) = true := by rw [h5]; rfl
    have e1 : (t.toList == []) = decide (t.data.toList = []) := by rw [Lib.toList_data, beq_dec]
    have e2 : (t.toList == [59]) = decide (t.data.toList = [59]) := by rw [Lib.toList_data, beq_dec]
    cases hx : (t.toList == []) with
    | true =>
      have HR : Hid (Lx.isAlone ⟨k, t.data.toList, a⟩ = true) := Lib.hid (by rw [HA.out]; simp only []; rw [← e1, hx]; rfl)
      clear h5 e1 e2
      go_enter Tryd.func45, Tryd.ntmps45
      go_wp2_with fail
      go_ret
      exact ⟨ret_bool HR.out.symm, below_box _ _⟩
    | false =>
      cases hy : (t.toList == [59]) with
      | true =>
        have HR : Hid (Lx.isAlone ⟨k, t.data.toList, a⟩ = true) := Lib.hid (by rw [HA.out]; simp only []; rw [← e2, hy]; simp)
        clear h5 e1 e2
        go_enter Tryd.func45, Tryd.ntmps45
        go_wp2_with fail
        go_ret
        exact ⟨ret_bool HR.out.symm, below_box _ _⟩
      | false =>
        have HR : Hid (Lx.isAlone ⟨k, t.data.toList, a⟩ = false) := Lib.hid (by rw [HA.out]; simp only []; rw [← e1, ← e2, hx, hy]; rfl)
        clear h5 e1 e2
        go_enter Tryd.func45, Tryd.ntmps45
        go_wp2_with fail
        go_ret
        exact ⟨ret_bool HR.out.symm, below_box _ _⟩
  · have b5 : (k == 5) = false := beq_eq_false_iff_ne.2 h5
    by_cases h0 : t.data.toList = []
    · have HR := Lib.hid (Lx.alone_void (t := ⟨k, t.data.toList, a⟩) h5 h0)
      have h1 : t.toList = [] := by rw [Lib.toList_data]; exact h0
      clear h5 h0
      go_enter Tryd.func45, Tryd.ntmps45
      go_wp2_with fail
      go_ret
      exact ⟨ret_bool HR.out.symm, below_box _ _⟩
    · have h1 : ¬ t.toList = [] := by rw [Lib.toList_data]; exact h0
      have h1' : t.toList.isEmpty = false := by rw [Lib.toList_data]; simpa using h0
      have hsz : 0 < t.size := by rw [Lib.size_eq]; exact List.length_pos_iff.2 h0
      have hx := head_cons hsz
      cases hb : Lx.isBlank t[0] with
      | true =>
        have HR := Lib.hid (Lx.alone_blank (t := ⟨k, t.data.toList, a⟩) hx (.inl hb))
        have HB := Lib.hid hb
        clear h5 h0 hx hb
        go_enter Tryd.func45, Tryd.ntmps45
        go_wp2_with (go_at_call 29; refine (refBlank_any _ _).mono ?_; rintro e w' ⟨rfl, rfl⟩; rw [HB.out])
        go_ret
        exact ⟨ret_bool HR.out.symm, below_box _ _⟩
      | false =>
        have HB := Lib.hid hb
        by_cases h10 : t[0].toNat = 10
        · have HR := Lib.hid (Lx.alone_blank (t := ⟨k, t.data.toList, a⟩) hx (.inr h10))
          have b10 : ((t[0].toNat : Int) == 10) = true := by rw [h10]; rfl
          clear h5 h0 hx hb h10
          go_enter Tryd.func45, Tryd.ntmps45
          go_wp2_with (go_at_call 29; refine (refBlank_any _ _).mono ?_; rintro e w' ⟨rfl, rfl⟩; rw [HB.out])
          go_ret
          exact ⟨ret_bool HR.out.symm, below_box _ _⟩
        · have b10 : ((t[0].toNat : Int) == 10) = false := by rw [beq_eq_false_iff_ne]; omega
          have HA := Lib.hid h0
          clear h5 h0 hx hb h10
          go_enter Tryd.func45, Tryd.ntmps45
          go_wp2_with (go_at_call 29; refine (refBlank_any _ _).mono ?_; rintro e w' ⟨rfl, rfl⟩; rw [HB.out])
          refine (refNext_any t hsz hs _).mono ?_
          rintro e w1 ⟨rfl, hb⟩
          rw [tokRes_agg]
          generalize hx : Lx.tokenOf t.data.toList = x
          obtain ⟨k', n', e'⟩ := x
          have HX := Lib.hid hx
          clear hx
          obtain ⟨hc, hf⟩ := bcell hb
          have hz : w.heap.size < w1.heap.size := by have := hb.size; simp at this; omega
          have hbel : ∀ o, Below w.heap.size w (w1.alloc o) := fun o => (((below_box _ _).trans (hb.mono (by simp))).alloc (by omega) _)
          have hA : Lx.isAlone ⟨k, t.data.toList, a⟩ = (e' == 0 && (k' == k && decide (t.data.toList.take n' = t.data.toList))) := by
            rw [Lx.isAlone, if_neg (by simpa using HA.out)]
            simp only [HX.out]
          have HB2 := Lib.hid hbel
          have HI := Lib.hid hA
          clear hbel hA
          go_wp2_with fail
          · have a1 : e' = 0 := by assumption
            have a2 : k' = k := by assumption
            go_ret
            refine ⟨ret_boolI ?_, HB2.out _⟩
            rw [HI.out, a1, a2]
            simp [Lib.toList_data]
          · have a1 : e' = 0 := by assumption
            have a2 : ¬ k' = k := by assumption
            go_ret
            exact ⟨ret_bool (by rw [HI.out]; simp [a2]), HB2.out _⟩
          · have a1 : ¬ e' = 0 := by assumption
            go_ret
            exact ⟨ret_bool (by rw [HI.out]; simp [a1]), HB2.out _⟩
/-! ### Right -/
theorem refAlone_tok (t : Lx.Tok) (hs : t.text.length ≤ 4294967296) (w : World) :
    Calls Tryd.prog 45 #[.agg #[.int .i64 t.kind, .string ⟨t.text.toArray⟩, .int .i64 t.place]] w fun e w' => e = .returned (.bool (Lx.isAlone t)) ∧ Below w.heap.size w w' :=
  refAlone_any t.kind t.place ⟨t.text.toArray⟩ hs w
theorem refClosing_tok' (t : Lx.Tok) (w : World) :
    Calls Tryd.prog 30 #[.agg #[.int .i64 t.kind, .string ⟨t.text.toArray⟩, .int .i64 t.place]] w fun e w' => e = .returned (.bool (refClosing t.kind t.text)) ∧ Below w.heap.size w w' :=
  refClosing_any t.kind t.place ⟨t.text.toArray⟩ w
/-- Which tokens have been good, up to the k-th; whether the one before it closes. -/
def rightAt (l : List Lx.Tok) (k : Nat) : Bool × Bool := (l.take k).foldl Lx.checkStep (true, false)
theorem rightAt_succ {l : List Lx.Tok} {k : Nat} {t : Lx.Tok} (ht : l[k]? = some t) : rightAt l (k + 1) = Lx.checkStep (rightAt l k) t := by
  obtain ⟨hk, rfl⟩ := List.getElem?_eq_some_iff.1 ht
  unfold rightAt
  rw [List.take_succ_eq_append_getElem hk, List.foldl_append]
  rfl
theorem fold_bool (l : List Lx.Tok) : ∀ (b a c : Bool), l.foldl Lx.checkStep (b && a, c) = (b && (l.foldl Lx.checkStep (a, c)).1, (l.foldl Lx.checkStep (a, c)).2) := by
  induction l with
  | nil => intro b a c; rfl
  | cons t l ih =>
    intro b a c
    rw [List.foldl_cons, List.foldl_cons]
    have e : Lx.checkStep (b && a, c) t = (b && (Lx.checkStep (a, c) t).1, (Lx.checkStep (a, c) t).2) := by
      unfold Lx.checkStep; simp [Bool.and_assoc]
    rw [e, ih]
theorem checkOf_right (l : List Lx.Tok) : decide (Lx.checkOf l = 0) = (decide (l.length ≤ 1024) && (rightAt l l.length).1 && !(rightAt l l.length).2) := by
  have e : l.foldl Lx.checkStep (decide (l.length ≤ 1024), false) = (decide (l.length ≤ 1024) && (rightAt l l.length).1, (rightAt l l.length).2) := by
    unfold rightAt
    rw [List.take_length]
    have := fold_bool l (decide (l.length ≤ 1024)) true false
    rw [Bool.and_true] at this
    exact this
  unfold Lx.checkOf
  rw [e]
  cases decide (l.length ≤ 1024) <;> cases (rightAt l l.length).1 <;> cases (rightAt l l.length).2 <;> rfl
theorem fold_false (l : List Lx.Tok) : ∀ c, (l.foldl Lx.checkStep (false, c)).1 = false := by
  induction l with
  | nil => intro c; rfl
  | cons t l ih => intro c; rw [List.foldl_cons]; exact ih _
theorem right_false {l : List Lx.Tok} {k : Nat} (h : (rightAt l k).1 = false) : decide (Lx.checkOf l = 0) = false := by
  rw [checkOf_right]
  have : (rightAt l l.length).1 = false := by
    unfold rightAt at h ⊢
    rw [List.take_length]
    have e : l.foldl Lx.checkStep (true, false) = (l.drop k).foldl Lx.checkStep ((l.take k).foldl Lx.checkStep (true, false)) := by rw [← List.foldl_append, List.take_append_drop]
    rw [e]
    generalize (l.take k).foldl Lx.checkStep (true, false) = x at h ⊢
    obtain ⟨a, c⟩ := x
    simp only [] at h
    subst h
    exact fold_false _ c
  rw [this]; simp
/-- The token before the k-th: good, and whether it closes. -/
def PrevOk (l : List Lx.Tok) (k : Nat) : Prop := ∀ t, 0 < k → l[k - 1]? = some t → Lx.isAlone t = true ∧ (rightAt l k).2 = Lx.isClosing t

set_option maxRecDepth 100000 in
set_option maxHeartbeats 4000000 in
theorem refRight_any (l : List Lx.Tok) (A : Option Addr) (cap : Nat) (w : World) (hl : l.length ≤ 1048576) (hsm : SmallToks l) (hh : HasToks w A l) :
    Calls Tryd.prog 19 #[.slice A l.length cap] w fun e w' => e = .returned (.bool (decide (Lx.checkOf l = 0))) ∧ Below w.heap.size w w' := by
  have HC := Lib.hid (checkOf_right l)
  go_enter Tryd.func19, Tryd.ntmps19
  go_wp2_with fail
  go_loopw [7] (fun i wr => ∃ k : Nat, k ≤ l.length ∧ i = .int .i64 k ∧ (rightAt l k).1 = true ∧ PrevOk l k ∧ Below w.heap.size w wr) (fun i _ => l.length - (intOf i).toNat)
  case atStart => exact ⟨0, Nat.zero_le _, rfl, rfl, fun _ h => absurd h (by omega), Below.refl _ _⟩
  case round =>
    obtain ⟨k, hk, rfl, hok, hpv, hb⟩ := hrel
    by_cases hlt : k < l.length
    · obtain ⟨t, ht⟩ : ∃ t, l[k]? = some t := ⟨_, List.getElem?_eq_getElem hlt⟩
      obtain ⟨g, rfl, hg, c1, c2, c3⟩ := hh.at_ hb ht
      have hts : t.text.length ≤ 4294967296 := hsm t (List.mem_of_getElem? ht)
      have hS := rightAt_succ ht
      have hz := hb.size
      have HB := Lib.hid hb
      have HT := Lib.hid ht
      have HS := Lib.hid hS
      have HOK := Lib.hid hok
      have HPV := Lib.hid hpv
      clear hb ht hS hok hpv
      go_upto_region 4 with (fail)
      have hbx := heap_alloc_new wr (.cells #[.int .i64 t.kind, .string ⟨t.text.toArray⟩, .int .i64 t.place] 32)
      replace HB := Lib.hid (HB.out.alloc hz (.cells #[.int .i64 t.kind, .string ⟨t.text.toArray⟩, .int .i64 t.place] 32))
      generalize wr.alloc (.cells #[.int .i64 t.kind, .string ⟨t.text.toArray⟩, .int .i64 t.place] 32) = w2 at hbx HB ⊢
      have x0 := (blk_cells hbx 0).trans rfl
      have x1 := (blk_cells hbx 1).trans rfl
      have x2 := (blk_cells hbx 2).trans rfl
      generalize wr.heap.size = bx at hbx hz x0 x1 x2 ⊢
      clear c1 c2 c3
      have hbxlt : bx < w2.heap.size := (Array.getElem?_eq_some_iff.1 hbx).1
      go_wp2_with fail
      refine (refAlone_tok t hts w2).mono ?_
      rintro e w3 ⟨rfl, hb3⟩
      have y0 : w3.cell? ⟨bx, 0, none⟩ = some (.int .i64 t.kind) := (hb3.cell (p := ⟨bx, 0, none⟩) hbxlt).trans x0
      have y1 : w3.cell? ⟨bx, 1, none⟩ = some (.string ⟨t.text.toArray⟩) := (hb3.cell (p := ⟨bx, 1, none⟩) hbxlt).trans x1
      have HB3 := Lib.hid (HB.out.trans (hb3.mono HB.out.size))
      clear x0 x1 x2 hbx hb3 HB
      cases hal : Lx.isAlone t with
      | false =>
        have HR := Lib.hid (right_false (l := l) (k := k + 1) (by rw [HS.out]; unfold Lx.checkStep; rw [hal]; simp))
        clear hal
        go_wp2_with fail
        go_ret
        exact ⟨ret_bool HR.out.symm, HB3.out⟩
      | true =>
        by_cases h0 : t.text = []
        · have h5 : t.kind = 5 := by
            unfold Lx.isAlone at hal
            rw [h0, if_pos (by rfl)] at hal
            simpa using hal
          have b5 : (t.kind == 5) = true := by rw [h5]; rfl
          have e1 : (⟨t.text.toArray⟩ : ByteArray).toList = [] := by rw [Lib.toList_data]; exact h0
          have hcl : Lx.isClosing t = false := by unfold Lx.isClosing; rw [h5]; rfl
          have HAL := Lib.hid hal
          have HCL := Lib.hid hcl
          have HX0 := Lib.hid h0
          clear hal hcl h0 h5
          by_cases hk0 : k = 0
          · have bk : ((k : Int) == 0) = true := by rw [hk0]; rfl
            have HR := Lib.hid (right_false (l := l) (k := k + 1) (by
              rw [HS.out]; unfold Lx.checkStep
              rw [HX0.out, hk0]; simp [rightAt]))
            clear hk0
            go_wp2_with fail
            go_ret
            exact ⟨ret_bool HR.out.symm, HB3.out⟩
          · have bk : ((k : Int) == 0) = false := by rw [beq_eq_false_iff_ne]; omega
            obtain ⟨u, hu⟩ : ∃ u, l[k - 1]? = some u := ⟨_, List.getElem?_eq_getElem (by omega)⟩
            obtain ⟨hua, huc⟩ := HPV.out u (by omega) hu
            obtain ⟨g', hA', hg', d1, d2, d3⟩ := hh.at_ HB3.out hu
            simp only [Option.some.injEq, Addr.mk.injEq, and_true] at hA'
            subst hA'
            obtain ⟨j, rfl⟩ : ∃ j, k = j + 1 := ⟨k - 1, by omega⟩
            rw [Nat.add_sub_cancel] at d1 d2 d3
            have HRC := Lib.hid (Lx.alone_closing hua)
            clear hu hua
            have bk' : ((j : Int) + 1 == 0) = false := by rw [beq_eq_false_iff_ne]; omega
            have hz3 := HB3.out.size
            go_wp2_with fail
            refine (refClosing_tok' u w3).mono ?_
            rintro e w4 ⟨rfl, hb4⟩
            rw [HRC.out]
            have HB4 := Lib.hid (HB3.out.trans (hb4.mono hz3))
            clear hb4 d1 d2 d3 y0 y1
            cases hcu : Lx.isClosing u with
            | true =>
              have hst : rightAt l (j + 1 + 1) = (true, false) := by
                rw [HS.out]; unfold Lx.checkStep
                rw [HOK.out, HAL.out, HX0.out, huc, hcu, HCL.out]; rfl
              have HN := Lib.hid hst
              clear hst hcu huc
              go_wp2_with fail
              go_roundw
              case rel =>
                refine ⟨j + 1 + 1, by omega, by go_num, by rw [HN.out], ?_, HB4.out⟩
                intro x _ hx
                rw [Nat.add_sub_cancel, HT.out] at hx
                obtain rfl : t = x := Option.some.inj hx
                exact ⟨HAL.out, by rw [HN.out, HCL.out]⟩
              case measure => simp [intOf]; omega
            | false =>
              have HR := Lib.hid (right_false (l := l) (k := j + 1 + 1) (by
                rw [HS.out]; unfold Lx.checkStep
                rw [HX0.out, huc, hcu]; simp))
              clear hcu huc
              go_wp2_with fail
              go_ret
              exact ⟨ret_bool HR.out.symm, HB4.out⟩
        · have e1 : (⟨t.text.toArray⟩ : ByteArray).toList.isEmpty = false := by rw [Lib.toList_data]; simpa using h0
          have e2 : ¬ (⟨t.text.toArray⟩ : ByteArray).toList = [] := by rw [Lib.toList_data]; exact h0
          have e3 : t.text.isEmpty = false := by simpa using h0
          have hst : rightAt l (k + 1) = (true, Lx.isClosing t) := by
            rw [HS.out]; unfold Lx.checkStep
            rw [HOK.out, hal, e3]; simp
          have HN := Lib.hid hst
          have HAL := Lib.hid hal
          have HE0 := Lib.hid h0
          clear hst hal h0
          cases h5 : (t.kind == 5)
          all_goals
            go_wp2_with fail
            go_roundw
            case rel =>
              refine ⟨k + 1, by omega, by go_num, by rw [HN.out], ?_, HB3.out⟩
              intro x _ hx
              rw [Nat.add_sub_cancel, HT.out] at hx
              obtain rfl : t = x := Option.some.inj hx
              exact ⟨HAL.out, by rw [HN.out]⟩
            case measure => simp [intOf]; omega
    · obtain rfl : k = l.length := by omega
      have HB := Lib.hid hb
      have HOK := Lib.hid hok
      have HPV := Lib.hid hpv
      clear hb hok hpv
      by_cases hlong : (l.length : Int) ≤ 1024
      · by_cases hl0 : l.length = 0
        · have HR : Hid (decide (Lx.checkOf l = 0) = true) := Lib.hid (by
            have : l = [] := List.eq_nil_of_length_eq_zero hl0
            rw [this]; rfl)
          have b0 : ((l.length : Int) == 0) = true := by rw [hl0]; rfl
          clear hl0
          go_wp2_with fail
          go_ret
          exact ⟨ret_bool HR.out.symm, HB.out⟩
        · have b0 : ((l.length : Int) == 0) = false := by rw [beq_eq_false_iff_ne]; omega
          obtain ⟨u, hu⟩ : ∃ u, l[l.length - 1]? = some u := ⟨_, List.getElem?_eq_getElem (by omega)⟩
          obtain ⟨hua, huc⟩ := HPV.out u (by omega) hu
          obtain ⟨g, rfl, hg, d1, d2, d3⟩ := hh.at_ HB.out hu
          have HR := Lib.hid (show decide (Lx.checkOf l = 0) = !Lx.isClosing u by
            rw [HC.out, HOK.out, huc, decide_eq_true (by omega)]; simp)
          have HRC := Lib.hid (Lx.alone_closing hua)
          have hz := HB.out.size
          clear hu hua huc hh
          generalize hn : l.length = n at *
          obtain ⟨j, rfl⟩ : ∃ j, n = j + 1 := ⟨n - 1, by omega⟩
          rw [Nat.add_sub_cancel] at d1 d2 d3
          have HLN := Lib.hid hn
          have b0' : ((j : Int) + 1 == 0) = false := by rw [beq_eq_false_iff_ne]; omega
          have hlong' : (j : Int) + 1 ≤ 1024 := by omega
          clear hn hl0 HC HPV HOK
          go_wp2_with fail
          refine (refClosing_tok' u wr).mono ?_
          rintro e w4 ⟨rfl, hb4⟩
          rw [HRC.out]
          have HB4 := Lib.hid (HB.out.trans (hb4.mono hz))
          go_wp2_with fail
          go_ret
          exact ⟨ret_bool HR.out.symm, HB4.out⟩
      · have HR := Lib.hid (show decide (Lx.checkOf l = 0) = false by rw [HC.out, decide_eq_false (by omega)]; simp)
        clear hh
        go_wp2_with fail
        go_ret
        exact ⟨ret_bool HR.out.symm, HB.out⟩
end Go.Proofs.YtoppkhkdbkkldaaDoor
