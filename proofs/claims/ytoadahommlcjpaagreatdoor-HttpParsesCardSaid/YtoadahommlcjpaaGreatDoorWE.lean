/-
  THE WALKS, fifth part: cuts, trims, three, field; the document's cut.
-/
import Derived.Test.YtoadahommlcjpaaGreatDoorWD
namespace Go.Proofs.YtoadahommlcjpaaGreatDoor
open Go.RowKit
theorem index_cut1 (c : UInt8) : ∀ s : List UInt8, Lib.cut s [c] = Ht.upto c s
  | [] => by rfl
  | x :: t => by
    have ih := index_cut1 c t
    unfold Lib.cut at ih ⊢
    by_cases h : x = c
    · have hp : [c].isPrefixOf (x :: t) = true := by simp [List.isPrefixOf, h]
      have hi : Lib.index (x :: t) [c] = 0 := by unfold Lib.index; rw [if_pos hp]
      rw [hi]
      simp [Ht.upto, h]
    · have hp : [c].isPrefixOf (x :: t) = false := by
        rw [← Bool.not_eq_true]; intro hh; simp only [List.isPrefixOf, Bool.and_true, beq_iff_eq] at hh; exact h hh.symm
      have hge := Lib.index_ge t [c]
      have hi : Lib.index (x :: t) [c] = if Lib.index t [c] == -1 then -1 else Lib.index t [c] + 1 := by
        conv => lhs; unfold Lib.index
        rw [hp]; rfl
      rw [hi]
      by_cases h0 : 0 ≤ Lib.index t [c]
      · rw [if_pos h0] at ih
        have hne : (Lib.index t [c] == -1) = false := by rw [beq_eq_false_iff_ne]; omega
        rw [hne]
        simp only [Bool.false_eq_true, if_false]
        rw [if_pos (by omega), show (Lib.index t [c] + 1).toNat = (Lib.index t [c]).toNat + 1 by omega]
        unfold Ht.upto
        rw [if_neg h, ← ih]
        simp only [List.take_succ_cons, List.length_singleton, List.drop_succ_cons]
      · rw [if_neg h0] at ih
        have hne : (Lib.index t [c] == -1) = true := by rw [beq_iff_eq]; omega
        rw [hne]
        simp only [if_true]
        rw [if_neg (by omega)]
        unfold Ht.upto
        rw [if_neg h, ← ih]
theorem index_cut2 (c d : UInt8) : ∀ s : List UInt8, Lib.cut s [c, d] = Ht.upto2 c d s
  | [] => by rfl
  | [x] => by
    have hp : [c, d].isPrefixOf [x] = false := by simp [List.isPrefixOf]
    have hi : Lib.index [x] [c, d] = -1 := by
      unfold Lib.index
      rw [hp]
      rfl
    unfold Lib.cut
    rw [hi]
    rfl
  | x :: y :: t => by
    have ih := index_cut2 c d (y :: t)
    unfold Lib.cut at ih ⊢
    by_cases h : x = c ∧ y = d
    · have hp : [c, d].isPrefixOf (x :: y :: t) = true := by simp [List.isPrefixOf, h]
      have hi : Lib.index (x :: y :: t) [c, d] = 0 := by unfold Lib.index; rw [if_pos hp]
      rw [hi]
      unfold Ht.upto2
      rw [if_pos h]
      rfl
    · have hp : [c, d].isPrefixOf (x :: y :: t) = false := by
        rw [← Bool.not_eq_true]; intro hh; simp only [List.isPrefixOf, Bool.and_true, Bool.and_eq_true, beq_iff_eq] at hh; exact h ⟨hh.1.symm, hh.2.symm⟩
      have hge := Lib.index_ge (y :: t) [c, d]
      have hi : Lib.index (x :: y :: t) [c, d] = if Lib.index (y :: t) [c, d] == -1 then -1 else Lib.index (y :: t) [c, d] + 1 := by
        conv => lhs; unfold Lib.index
        rw [hp]; rfl
      rw [hi]
      by_cases h0 : 0 ≤ Lib.index (y :: t) [c, d]
      · rw [if_pos h0] at ih
        have hne : (Lib.index (y :: t) [c, d] == -1) = false := by rw [beq_eq_false_iff_ne]; omega
        rw [hne]
        simp only [Bool.false_eq_true, if_false]
        rw [if_pos (by omega), show (Lib.index (y :: t) [c, d] + 1).toNat = (Lib.index (y :: t) [c, d]).toNat + 1 by omega]
        unfold Ht.upto2
        rw [if_neg h, ← ih]
        simp only [List.take_succ_cons]
        rw [Nat.add_right_comm, List.drop_succ_cons]
      · rw [if_neg h0] at ih
        have hne : (Lib.index (y :: t) [c, d] == -1) = true := by rw [beq_iff_eq]; omega
        rw [hne]
        simp only [if_true]
        rw [if_neg (by omega)]
        unfold Ht.upto2
        rw [if_neg h, ← ih]
/-! ### trims -/
def tl (p : UInt8 → Bool) (l : List UInt8) : List UInt8 := (l.reverse.dropWhile p).reverse
theorem tl_cons (p : UInt8 → Bool) (x : UInt8) (t : List UInt8) : tl p (x :: t) = if tl p t = [] then (if p x then [] else [x]) else x :: tl p t := by
  unfold tl
  rw [List.reverse_cons, List.dropWhile_append]
  by_cases h : t.reverse.dropWhile p = []
  · rw [h]
    by_cases hx : p x = true
    · simp [hx]
    · simp [hx]
  · have : (t.reverse.dropWhile p).isEmpty = false := by simpa using h
    rw [this]
    simp [h]
theorem trims (p : UInt8 → Bool) : ∀ l : List UInt8, tl p (l.dropWhile p) = (tl p l).dropWhile p
  | [] => by rfl
  | x :: t => by
    have ih := trims p t
    rw [tl_cons]
    by_cases hx : p x = true
    · rw [List.dropWhile_cons_of_pos hx, ih]
      by_cases h : tl p t = []
      · rw [if_pos h, if_pos hx, h]
      · rw [if_neg h, List.dropWhile_cons_of_pos hx]
    · rw [List.dropWhile_cons_of_neg hx, tl_cons]
      by_cases h : tl p t = []
      · rw [if_pos h, if_neg hx, List.dropWhile_cons_of_neg hx]
      · rw [if_neg h, List.dropWhile_cons_of_neg hx]
theorem trimS_eq (s : List UInt8) : Lib.trimS s [32, 9] = Ht.trim s := by
  have hp : (fun c => ([32, 9] : List UInt8).contains c) = Ht.isBl := by
    funext c
    unfold Ht.isBl
    rw [Bool.eq_iff_iff]
    simp
  have h1 : Lib.trimS s [32, 9] = (tl Ht.isBl s).dropWhile Ht.isBl := by
    unfold Lib.trimS Lib.trimLeftS Lib.trimRightS tl
    rw [show (fun x => ([32, 9] : List UInt8).contains x) = Ht.isBl from hp]
  rw [h1, ← trims]
  rfl
theorem upto_len (c : UInt8) : ∀ s : Ht.Bs, (Ht.upto c s).1.length ≤ s.length ∧ (Ht.upto c s).2.1.length ≤ s.length
  | [] => by simp [Ht.upto]
  | x :: t => by
    have ih := upto_len c t
    unfold Ht.upto
    split
    · simp
    · simp only [List.length_cons]; omega
theorem trim_len (s : Ht.Bs) : (Ht.trim s).length ≤ s.length := by
  unfold Ht.trim
  rw [List.length_reverse]
  have h1 := (List.dropWhile_sublist (Ht.isBl) (l := (s.dropWhile Ht.isBl).reverse)).length_le
  have h2 := (List.dropWhile_sublist (Ht.isBl) (l := s)).length_le
  rw [List.length_reverse] at h1
  omega
/-! ### the walks -/
theorem cut1_any (l : Ht.Bs) (sep : ByteArray) (c : UInt8) (w : World) (henv : Env w) (hlen : l.length < 4294967281) (hsep : sep.data.toList = [c]) :
    Calls Tryz.prog 64 #[.string ⟨l.toArray⟩, .string sep] w fun e w' => e = .returned (.tuple #[.string ⟨(Ht.upto c l).1.toArray⟩, .string ⟨(Ht.upto c l).2.1.toArray⟩, .bool (Ht.upto c l).2.2]) ∧ ∃ n, w' = w.drewN n := by
  obtain ⟨m, hm⟩ := henv.maxLen
  have h := Tryz.strings_Cut ⟨l.toArray⟩ sep m w (by rw [Lib.size_eq]; exact hlen) hm
  rw [hsep, index_cut1] at h
  exact h
theorem cut2_any (l : Ht.Bs) (sep : ByteArray) (c d : UInt8) (w : World) (henv : Env w) (hlen : l.length < 4294967281) (hsep : sep.data.toList = [c, d]) :
    Calls Tryz.prog 64 #[.string ⟨l.toArray⟩, .string sep] w fun e w' => e = .returned (.tuple #[.string ⟨(Ht.upto2 c d l).1.toArray⟩, .string ⟨(Ht.upto2 c d l).2.1.toArray⟩, .bool (Ht.upto2 c d l).2.2]) ∧ ∃ n, w' = w.drewN n := by
  obtain ⟨m, hm⟩ := henv.maxLen
  have h := Tryz.strings_Cut ⟨l.toArray⟩ sep m w (by rw [Lib.size_eq]; exact hlen) hm
  rw [hsep, index_cut2] at h
  exact h
theorem trim_any (l : Ht.Bs) (sep : ByteArray) (w : World) (hlen : l.length < 4294967281) (hsep : sep.data.toList = [32, 9]) :
    Calls Tryz.prog 117 #[.string ⟨l.toArray⟩, .string sep] w fun e w' => e = .returned (.string ⟨(Ht.trim l).toArray⟩) ∧ Below w.heap.size w w' := by
  have h := Any.strings_Trim_laid Tryz.lays160 (by kernel_rfl) ⟨l.toArray⟩ sep w (by rw [Lib.size_eq]; show l.length ≤ _; omega) (by rw [Lib.size_eq, hsep]; decide) (by rw [hsep]; exact ascii_of_all (by decide))
  rw [hsep, trimS_eq] at h
  exact h
theorem results_tmp4 {fn : Func} {t u v x : Tmp} (h : fn.results = #[.tmp t, .tmp u, .tmp v, .tmp x]) (tmps : Array Value) (P : Program) (w : World) :
    (results fn tmps).run P w = .ok (.tuple #[tmps.getD t undef, tmps.getD u undef, tmps.getD v undef, tmps.getD x undef]) w := by
  simp [results, h]
set_option maxRecDepth 100000 in
set_option maxHeartbeats 4000000 in
theorem three_any (l : Ht.Bs) (w : World) (henv : Env w) (hlen : l.length < 4294967281) :
    Calls Tryz.prog 38 #[.string ⟨l.toArray⟩] w fun e w' => e = .returned (.tuple #[.string ⟨(Ht.threeOf l).1.toArray⟩, .string ⟨(Ht.threeOf l).2.1.toArray⟩, .string ⟨(Ht.threeOf l).2.2.1.toArray⟩, .bool (Ht.threeOf l).2.2.2]) ∧ ∃ n, w' = w.drewN n := by
  obtain ⟨x, hx⟩ : ∃ x, Ht.upto 32 l = x := ⟨_, rfl⟩
  obtain ⟨y, hy⟩ : ∃ y, Ht.upto 32 x.2.1 = y := ⟨_, rfl⟩
  have hxl : x.2.1.length < 4294967281 := by have := (upto_len 32 l).2; rw [hx] at this; omega
  have H1 := Lib.hid (fun sep hs => cut1_any l sep 32 w henv hlen hs)
  have H2 := Lib.hid (fun n sep hs => cut1_any x.2.1 sep 32 (w.drewN n) (henv.next (below_drewN (Below.refl _ _) n)) hxl hs)
  have HE : Hid (Ht.threeOf l = (x.1, y.1, y.2.1, x.2.2 && y.2.2)) := Lib.hid (by unfold Ht.threeOf; rw [hx, hy])
  rw [hx] at H1
  rw [hy] at H2
  generalize Ht.threeOf l = R at HE ⊢
  clear hx hy hxl hlen henv
  obtain ⟨x1, x2, x3⟩ := x
  obtain ⟨y1, y2, y3⟩ := y
  obtain rfl := HE.out
  clear HE
  dsimp only at H1 H2 ⊢
  go_enter Tryz.func38, Tryz.ntmps38
  go_wp2_with fail
  refine (H1.out _ (by rfl)).mono ?_
  rintro e w' ⟨rfl, n, rfl⟩
  go_wp2_with fail
  refine (H2.out _ _ (by rfl)).mono ?_
  rintro e w' ⟨rfl, n2, rfl⟩
  cases x3
  · go_wp2_with fail
    (try simp only [Exit.inBlock, Exit.then])
    refine bodyPost_ret (results_tmp4 rfl _ _ _) rfl ?_
    exact ⟨rfl, ⟨n + n2, by first | rfl | exact World.drewN_drewN _ _ _⟩⟩
  · go_wp2_with fail
    (try simp only [Exit.inBlock, Exit.then])
    refine bodyPost_ret (results_tmp4 rfl _ _ _) rfl ?_
    exact ⟨rfl, ⟨n + n2, by first | rfl | exact World.drewN_drewN _ _ _⟩⟩
end Go.Proofs.YtoadahommlcjpaaGreatDoor
