/-
  Joined: TextL WT WU. CONDITIONS: as each law says.
-/
import Derived.Test.YtimioelnnhnbiaaGreatDoorS09
import Derived.Test.YtimioelnnhnbiaaGreatDoorS10
import Derived.Lib.ItoaLen
namespace Go.Proofs.YtimioelnnhnbiaaGreatDoor
namespace Js
mutual
def inR : J → Bool
  | .mk k _ n _ l m => decide (-9223372036854775808 ≤ n) && decide (n ≤ 9223372036854775807) && decide (-9223372036854775808 ≤ k) && decide (k ≤ 9223372036854775807) && inRL l && inRM m
def inRL : List J → Bool
  | [] => true
  | x :: t => inR x && inRL t
def inRM : List (Bs × J) → Bool
  | [] => true
  | (_, x) :: t => inR x && inRM t
end
theorem inRL_at : ∀ {l : List J} {k : Nat} {y : J}, inRL l = true → l[k]? = some y → inR y = true
  | [], k, y, _, h => by simp at h
  | x :: t, 0, y, hr, h => by
    simp at h; subst h
    have hr : (inR x && inRL t) = true := hr
    rw [Bool.and_eq_true] at hr; exact hr.1
  | x :: t, k + 1, y, hr, h => by
    have hr : (inR x && inRL t) = true := hr
    rw [Bool.and_eq_true] at hr; exact inRL_at hr.2 (by simpa using h)
theorem inRM_at : ∀ {l : List (Bs × J)} {k : Nat} {n : Bs} {y : J}, inRM l = true → l[k]? = some (n, y) → inR y = true
  | [], k, n, y, _, h => by simp at h
  | (n0, x) :: t, 0, n, y, hr, h => by
    simp at h; obtain ⟨rfl, rfl⟩ := h
    have hr : (inR x && inRM t) = true := hr
    rw [Bool.and_eq_true] at hr; exact hr.1
  | (n0, x) :: t, k + 1, n, y, hr, h => by
    have hr : (inR x && inRM t) = true := hr
    rw [Bool.and_eq_true] at hr; exact inRM_at hr.2 (by simpa using h)
theorem goodL_at : ∀ {l : List J} {k : Nat} {y : J}, goodL l = true → l[k]? = some y → good y = true
  | [], k, y, _, h => by simp at h
  | x :: t, 0, y, hr, h => by
    simp at h; subst h
    have hr : (good x && goodL t) = true := hr
    rw [Bool.and_eq_true] at hr; exact hr.1
  | x :: t, k + 1, y, hr, h => by
    have hr : (good x && goodL t) = true := hr
    rw [Bool.and_eq_true] at hr; exact goodL_at hr.2 (by simpa using h)
theorem goodM_at : ∀ {l : List (Bs × J)} {k : Nat} {n : Bs} {y : J}, goodM l = true → l[k]? = some (n, y) → good y = true
  | [], k, n, y, _, h => by simp at h
  | (n0, x) :: t, 0, n, y, hr, h => by
    simp at h; obtain ⟨rfl, rfl⟩ := h
    have hr : (good x && goodM t) = true := hr
    rw [Bool.and_eq_true] at hr; exact hr.1
  | (n0, x) :: t, k + 1, n, y, hr, h => by
    have hr : (good x && goodM t) = true := hr
    rw [Bool.and_eq_true] at hr; exact goodM_at hr.2 (by simpa using h)
theorem textL_app : ∀ (a b : List J) (f : Bool), textL (a ++ b) f = textL a f ++ textL b (f && a.isEmpty)
  | [], b, f => by simp [textL]
  | x :: t, b, f => by
    show (if f then [] else [44]) ++ (textOf x ++ textL (t ++ b) false) = ((if f then [] else [44]) ++ (textOf x ++ textL t false)) ++ textL b (f && false)
    rw [textL_app t b false]; simp
theorem textM_app : ∀ (a b : List (Bs × J)) (f : Bool), textM (a ++ b) f = textM a f ++ textM b (f && a.isEmpty)
  | [], b, f => by simp [textM]
  | (n, x) :: t, b, f => by
    show (if f then [] else [44]) ++ (quote n ++ (58 :: (textOf x ++ textM (t ++ b) false))) = ((if f then [] else [44]) ++ (quote n ++ (58 :: (textOf x ++ textM t false)))) ++ textM b (f && false)
    rw [textM_app t b false]; simp
theorem textL_snoc {l : List J} {k : Nat} {y : J} (h : l[k]? = some y) : textL (l.take (k + 1)) true = textL (l.take k) true ++ ((if k = 0 then [] else [44]) ++ textOf y) := by
  have hk := (List.getElem?_eq_some_iff.1 h).1
  rw [List.take_add_one, h, Option.toList_some, textL_app]
  congr 1
  show (if (true && (l.take k).isEmpty) = true then [] else [44]) ++ (textOf y ++ []) = _
  rw [List.append_nil]
  by_cases h0 : k = 0
  · subst h0; simp
  · have : (l.take k).isEmpty = false := by rw [List.isEmpty_eq_false_iff]; intro e; rw [List.take_eq_nil_iff] at e; rcases e with e | e; exact h0 e; subst e; simp at hk
    rw [this, if_neg h0]; rfl
theorem textM_snoc {l : List (Bs × J)} {k : Nat} {n : Bs} {y : J} (h : l[k]? = some (n, y)) : textM (l.take (k + 1)) true = textM (l.take k) true ++ ((if k = 0 then [] else [44]) ++ (quote n ++ (58 :: textOf y))) := by
  have hk := (List.getElem?_eq_some_iff.1 h).1
  rw [List.take_add_one, h, Option.toList_some, textM_app]
  congr 1
  show (if (true && (l.take k).isEmpty) = true then [] else [44]) ++ (quote n ++ (58 :: (textOf y ++ []))) = _
  rw [List.append_nil]
  by_cases h0 : k = 0
  · subst h0; simp
  · have : (l.take k).isEmpty = false := by rw [List.isEmpty_eq_false_iff]; intro e; rw [List.take_eq_nil_iff] at e; rcases e with e | e; exact h0 e; subst e; simp at hk
    rw [this, if_neg h0]; rfl
theorem textL_le (l : List J) (k : Nat) : (textL (l.take k) true).length ≤ (textL l true).length := by
  conv => rhs; rw [← List.take_append_drop k l, textL_app, List.length_append]
  omega
theorem textM_le (l : List (Bs × J)) (k : Nat) : (textM (l.take k) true).length ≤ (textM l true).length := by
  conv => rhs; rw [← List.take_append_drop k l, textM_app, List.length_append]
  omega
theorem textL_ge (l : List J) : ∀ k, k ≤ l.length → k ≤ (textL (l.take k) true).length + 1
  | 0, _ => Nat.zero_le _
  | k + 1, h => by
    obtain ⟨y, hy⟩ : ∃ y, l[k]? = some y := ⟨l[k], List.getElem?_eq_getElem (by omega)⟩
    have ih := textL_ge l k (by omega)
    rw [textL_snoc hy, List.length_append, List.length_append]
    by_cases h0 : k = 0
    · subst h0; omega
    · rw [if_neg h0, List.length_singleton]; omega
theorem textM_ge (l : List (Bs × J)) : ∀ k, k ≤ l.length → k ≤ (textM (l.take k) true).length + 1
  | 0, _ => Nat.zero_le _
  | k + 1, h => by
    obtain ⟨n, y, hy⟩ : ∃ n y, l[k]? = some (n, y) := ⟨l[k].1, l[k].2, List.getElem?_eq_getElem (by omega)⟩
    have ih := textM_ge l k (by omega)
    rw [textM_snoc hy, List.length_append, List.length_append]
    by_cases h0 : k = 0
    · subst h0; omega
    · rw [if_neg h0, List.length_singleton]; omega
theorem quote_len (s : Bs) : s.length + 2 ≤ (quote s).length := by
  unfold quote
  have h : ∀ l : Bs, l.length ≤ (l.flatMap esc).length := by
    intro l
    induction l with
    | nil => simp
    | cons c t ih =>
      rw [List.flatMap_cons, List.length_append, List.length_cons]
      have : 1 ≤ (esc c).length := by unfold esc; repeat' split
                                      all_goals simp
      omega
  have := h s
  rw [List.length_cons, List.length_append, List.length_singleton]; omega
end Js
end Go.Proofs.YtimioelnnhnbiaaGreatDoor
namespace Go.Proofs.YtimioelnnhnbiaaGreatDoor
open Go.RowKit
theorem formatInt_any (n : Int) (h0 : -9223372036854775808 ≤ n) (h1 : n ≤ 9223372036854775807) (w : World) (henv : Env w) :
  Calls Tryz.prog 77 #[.int .i64 n, .int .i64 10] w fun e w' => e = .returned (.string ⟨(Lib.itoa n).toArray⟩) ∧ Below w.heap.size w w' :=
 (Tryz.strconv_FormatInt_10 n h0 h1 w henv.tab).mono fun _ _ ⟨he, k, os, hw⟩ => ⟨he, by rw [hw]; exact below_grow w k os⟩
theorem Kept.next {bb : Nat} {w w' : World} (hb : Below w.heap.size w w') : Lib.OthersKept 5 (some bb) w w' := fun k o hk _ _ => (hb.block k (Array.getElem?_eq_some_iff.1 hk).1).trans hk
theorem JBox.kept {bb b : Nat} {w w' : World} {x0 x1 x2 x3 x4 x5 : Value} (h : JBox w b x0 x1 x2 x3 x4 x5) (hk : Lib.OthersKept 5 (some bb) w w') (hb : b ≠ bb) : JBox w' b x0 x1 x2 x3 x4 x5 :=
 hk b _ h (by simpa using hb) (fun c fz e => by injection e with _ e; cases e)
theorem mem_kept {bb b : Nat} {w w' : World} {cs : Array Value} (h : w.heap[b]? = some (.cells cs 89 (0, 0))) (hk : Lib.OthersKept 5 (some bb) w w') (hb : b ≠ bb) : w'.heap[b]? = some (.cells cs 89 (0, 0)) :=
 hk b _ h (by simpa using hb) (fun c fz e => by injection e with _ e; cases e)
def WriteC (N : Nat) : Prop := ∀ (x : Js.J) (vs : List Value) (S : Nat → Prop) (B bb : Nat) (acc : Js.Bs) (w : World), Js.nodes x ≤ N → JV w S x vs → (∀ g, S g → g < B) → IsB B bb acc w → Env w → 4 ≤ B → Js.good x = true → Js.inR x = true →
  acc.length + (Js.textOf x).length ≤ 1073741824 →
  Calls Tryz.prog 51 #[.pointer (some ⟨bb, 0, none⟩), .agg vs.toArray] w (WOut B bb (acc ++ Js.textOf x) w)
theorem IsB.box {B b : Nat} {l : Js.Bs} {w : World} (h : IsB B b l w) : B ≤ w.heap.size := Nat.le_of_lt (Nat.lt_of_le_of_lt h.base h.lt)
set_option maxRecDepth 100000 in
set_option maxHeartbeats 16000000 in
theorem write_step (N : Nat) (ih : WriteC N) : WriteC (N + 1) := by
 intro x vs S B bb acc w hN hjv hS hB henv h4 hg hr hlen
 cases x with | mk k0 b0 n0 t0 l m =>
 have HJ := Lib.hid hjv
 unfold JV at hjv
 obtain ⟨A5, c5, A6, c6, rfl, hc5, hc6, -, -⟩ := hjv
 have hgd : (Js.plain (.mk k0 b0 n0 t0 l m) && Js.goodL l && Js.goodM m && decide ((m.map (·.1)).Nodup)) = true := hg
 have hrd : (decide (-9223372036854775808 ≤ n0) && decide (n0 ≤ 9223372036854775807) && decide (-9223372036854775808 ≤ k0) && decide (k0 ≤ 9223372036854775807) && Js.inRL l && Js.inRM m) = true := hr
 simp only [Bool.and_eq_true, decide_eq_true_eq] at hgd hrd
 obtain ⟨⟨⟨hpl, hgl⟩, hgm⟩, -⟩ := hgd
 obtain ⟨⟨⟨⟨⟨hn1, hn2⟩, -⟩, -⟩, hrl⟩, hrm⟩ := hrd
 have hk16 : 1 ≤ k0 ∧ k0 ≤ 6 := by
  unfold Js.plain at hpl
  simp only [Bool.and_eq_true, decide_eq_true_eq] at hpl
  exact hpl.1.1.1.1.1
 have hbel := below_box w (.cells #[.int .i64 k0, .bool b0, .int .i64 n0, .string (str t0), .slice A5 l.length c5, .slice A6 m.length c6] 25)
 have HBx : Hid (JBox _ w.heap.size _ _ _ _ _ _) := Lib.hid (heap_alloc_new w (.cells #[.int .i64 k0, .bool b0, .int .i64 n0, .string (str t0), .slice A5 l.length c5, .slice A6 m.length c6] 25))
 have HIB := Lib.hid (hB.next hbel)
 have HENV := Lib.hid (henv.next hbel)
 have HW := Lib.hid (show Below B w _ from (hbel.mono hB.box))
 have HK := Lib.hid (Kept.next (bb := bb) hbel)
 have HJ1 := Lib.hid (HJ.out.next hbel)
 have hbw := hB.lt
 have hMB := hB.box
 clear hbel hB henv HJ hpl hg hr
 go_enter Tryz.func51, Tryz.ntmps51
 go_upto_region 1 with fail
 generalize (w.alloc (.cells #[.int .i64 k0, .bool b0, .int .i64 n0, .string (str t0), .slice A5 l.length c5, .slice A6 m.length c6] 25)) = w1 at HBx HIB HENV HW HK HJ1 ⊢
 obtain ⟨M, hM⟩ : ∃ M, w.heap.size = M := ⟨_, rfl⟩
 rw [hM] at HBx hbw hMB ⊢
 have HMM := Lib.hid hM
 have hne : M ≠ bb := by omega
 clear hM
 obtain ⟨x0, x1, x2, x3, x4, x5⟩ := HBx.out.cells
 have hk : k0 = 1 ∨ k0 = 2 ∨ k0 = 3 ∨ k0 = 4 ∨ k0 = 5 ∨ k0 = 6 := by omega
 clear hk16
 rcases hk with rfl | rfl | rfl | rfl | rfl | rfl
 ·have HT : Hid (Js.textOf (.mk 1 b0 n0 t0 l m) = [110, 117, 108, 108]) := Lib.hid rfl
  have hl1 : acc.length + 4 ≤ 1073741824 := hlen
  clear hlen
  go_wp2_with fail
  refine (writeString_at B bb acc [110, 117, 108, 108] _ rfl _ HIB.out (by simp; omega)).mono ?_
  rintro e w2 ⟨rfl, h2, b2, k2⟩
  have H2 := Lib.hid h2
  have B2 := Lib.hid (HW.out.trans b2)
  have K2 := Lib.hid (HK.out.trans k2)
  clear h2 b2 k2
  go_wp2_with fail
  go_end0
  exact ⟨rfl, by rw [HT.out]; exact H2.out, B2.out, K2.out⟩
 ·have HT : Hid (Js.textOf (.mk 2 b0 n0 t0 l m) = Lib.formatBool b0) := Lib.hid (by cases b0 <;> rfl)
  have hl1 : acc.length + (Lib.formatBool b0).length ≤ 1073741824 := by rw [HT.out] at hlen; exact hlen
  clear hlen
  go_wp2_with fail
  refine (Tryz.strconv_FormatBool b0 _).mono ?_
  rintro e w2 ⟨rfl, rfl⟩
  go_wp2_with fail
  refine (writeString_at B bb acc (Lib.formatBool b0) _ (by simp) _ HIB.out (by omega)).mono ?_
  rintro e w2 ⟨rfl, h2, b2, k2⟩
  have H2 := Lib.hid h2
  have B2 := Lib.hid (HW.out.trans b2)
  have K2 := Lib.hid (HK.out.trans k2)
  clear h2 b2 k2
  go_wp2_with fail
  go_end0
  exact ⟨rfl, by rw [HT.out]; exact H2.out, B2.out, K2.out⟩
 ·have HT : Hid (Js.textOf (.mk 3 b0 n0 t0 l m) = Lib.itoa n0) := Lib.hid rfl
  have hl1 : acc.length + (Lib.itoa n0).length ≤ 1073741824 := by rw [HT.out] at hlen; exact hlen
  clear hlen
  go_wp2_with fail
  refine (formatInt_any n0 hn1 hn2 _ HENV.out).mono ?_
  rintro e w2 ⟨rfl, hb2⟩
  have HIB2 := Lib.hid (HIB.out.next hb2)
  have HW2 := Lib.hid (HW.out.trans (hb2.mono (Nat.le_trans hMB (by have := HBx.out.lt; omega))))
  have HK2 := Lib.hid (HK.out.trans (Kept.next (bb := bb) hb2))
  clear hb2 HIB HW HK
  go_wp2_with fail
  refine (writeString_at B bb acc (Lib.itoa n0) _ (by simp) _ HIB2.out (by omega)).mono ?_
  rintro e w3 ⟨rfl, h2, b2, k2⟩
  have H2 := Lib.hid h2
  have B2 := Lib.hid (HW2.out.trans b2)
  have K2 := Lib.hid (HK2.out.trans k2)
  clear h2 b2 k2
  go_wp2_with fail
  go_end0
  exact ⟨rfl, by rw [HT.out]; exact H2.out, B2.out, K2.out⟩
 ·have HT : Hid (Js.textOf (.mk 4 b0 n0 t0 l m) = Js.quote t0) := Lib.hid rfl
  have hl1 : acc.length + (Js.quote t0).length ≤ 1073741824 := by rw [HT.out] at hlen; exact hlen
  have hl2 := Js.quote_len t0
  clear hlen
  go_wp2_with fail
  refine (quote_any B bb acc t0 _ HIB.out (by omega) (by omega)).mono ?_
  rintro e w2 ⟨rfl, h2, b2, k2⟩
  have H2 := Lib.hid h2
  have B2 := Lib.hid (HW.out.trans b2)
  have K2 := Lib.hid (HK.out.trans k2)
  clear h2 b2 k2
  go_wp2_with fail
  go_end0
  exact ⟨rfl, by rw [HT.out]; exact H2.out, B2.out, K2.out⟩
 -- LIST
 ·have HT : Hid (Js.textOf (.mk 5 b0 n0 t0 l m) = 91 :: (Js.textL l true ++ [93])) := Lib.hid rfl
  have hl1 : acc.length + ((Js.textL l true).length + 2) ≤ 1073741824 := by rw [HT.out, List.length_cons, List.length_append, List.length_singleton] at hlen; omega
  have hnod : Js.nodesL l ≤ N := by have : 1 + Js.nodesL l + Js.nodesM m ≤ N + 1 := hN; omega
  have hll : l.length ≤ 1073741824 := by
   have hx : ∀ k, k ≤ l.length → k ≤ (Js.textL (l.take k) true).length + 1 := fun k hk => Js.textL_ge l k hk
   have := hx l.length (Nat.le_refl _)
   rw [List.take_length] at this; omega
  have IH := Lib.hid ih
  have HLEN := Lib.hid hlen
  clear hlen ih hN
  go_wp2_with fail
  refine (writeByte_at B bb acc 91 91 rfl _ HIB.out (by omega)).mono ?_
  rintro e w2 ⟨rfl, h2, b2, k2⟩
  have HJ2 := Lib.hid (HJ1.out.below b2 hS b2.size)
  have HB2 := Lib.hid (HBx.out.kept k2 hne)
  have HI2 : Hid (IsB B bb (acc ++ [91] ++ Js.textL (l.take 0) true) w2) := Lib.hid (by rw [List.take_zero]; show IsB B bb (acc ++ [91] ++ []) w2; rw [List.append_nil]; exact h2)
  have HW2 := Lib.hid (HW.out.trans b2)
  have HK2 := Lib.hid (HK.out.trans k2)
  have HE2 := Lib.hid (HENV.out.below b2 h4)
  clear h2 b2 k2 HIB HW HK HJ1 HBx HENV x0 x1 x2 x3 x4 x5
  obtain ⟨x0, x1, x2, x3, x4, x5⟩ := HB2.out.cells
  go_wp2_with fail
  clear x0 x1 x2 x3 x4 x5
  go_loopw [41] (fun i wr => ∃ k : Nat, k ≤ l.length ∧ i = .int .i64 k ∧ Hid (IsB B bb (acc ++ [91] ++ Js.textL (l.take k) true) wr) ∧ Hid (JV wr S (.mk 5 b0 n0 t0 l m) [.int .i64 5, .bool b0, .int .i64 n0, .string (str t0), .slice A5 l.length c5, .slice A6 m.length c6]) ∧ Hid (JBox wr M (.int .i64 5) (.bool b0) (.int .i64 n0) (.string (str t0)) (.slice A5 l.length c5) (.slice A6 m.length c6)) ∧ Hid (Below B w wr) ∧ Hid (Lib.OthersKept 5 (some bb) w wr) ∧ Hid (Env wr)) (fun i _ => l.length - (intOf i).toNat)
  case atStart => exact ⟨0, Nat.zero_le _, rfl, HI2, HJ2, HB2, HW2, HK2, HE2⟩
  case round =>
   obtain ⟨k, hk, rfl, HI, HJ, HB, HW, HK, HE⟩ := hrel
   clear HI2 HJ2 HB2 HW2 HK2 HE2
   have hle := Js.textL_le l k
   by_cases hlt : k < l.length
   ·obtain ⟨y, hy⟩ : ∃ y, l[k]? = some y := ⟨l[k], List.getElem?_eq_getElem hlt⟩
    have hjl := HJ.out
    unfold JV at hjl
    obtain ⟨_, _, _, _, hvs, -, -, hjl, -⟩ := hjl
    simp only [List.cons.injEq, Value.slice.injEq, and_true, true_and] at hvs
    obtain ⟨⟨rfl, rfl⟩, rfl, rfl⟩ := hvs
    obtain ⟨g, o, k1, b1, n1, t1, A7, l7, c7, A8, l8, c8, hA, hSg, hg, q0, q1, q2, q3, q4, q5, hjy⟩ := hjl.elem hy
    subst hA
    have hyn : Js.nodes y ≤ N := by have := (Js.nodesL_split l k y hy).1; omega
    have hyg := Js.goodL_at hgl hy
    have hyr := Js.inRL_at hrl hy
    have HSN := Lib.hid (Js.textL_snoc hy)
    have hle2 := Js.textL_le l (k + 1)
    rw [HSN.out, List.length_append, List.length_append] at hle2
    have hbel := below_box wr (.cells #[.int .i64 k1, .bool b1, .int .i64 n1, .string t1, .slice A7 l7 c7, .slice A8 l8 c8] 25)
    have HBy := Lib.hid (heap_alloc_new wr (.cells #[.int .i64 k1, .bool b1, .int .i64 n1, .string t1, .slice A7 l7 c7, .slice A8 l8 c8] 25))
    have HIa := Lib.hid (HI.out.next hbel)
    have HJa := Lib.hid (HJ.out.next hbel)
    have HBa := Lib.hid (HB.out.next hbel)
    have HWa := Lib.hid (HW.out.trans (hbel.mono HI.out.box))
    have HKa := Lib.hid (HK.out.trans (Kept.next (bb := bb) hbel))
    have HEa := Lib.hid (HE.out.next hbel)
    have HJy := Lib.hid (hjy.next hbel)
    have hYb := HI.out.lt
    clear hjl hjy hbel hy hSg HI HJ HB HW HK HE
    go_upto_region 15 with fail
    generalize (wr.alloc (.cells #[.int .i64 k1, .bool b1, .int .i64 n1, .string t1, .slice A7 l7 c7, .slice A8 l8 c8] 25)) = wA at HBy HIa HJa HBa HWa HKa HEa HJy ⊢
    generalize wr.heap.size = Y at HBy hYb ⊢
    have hYne : Y ≠ bb := by omega
    clear q0 q1 q2 q3 q4 q5
    generalize Js.textL (l.take k) true = txt at HIa hle hle2 HSN
    by_cases h0 : k = 0
    ·rw [if_pos h0] at HSN hle2
     have q0 : ¬ (0 : Int) < (k : Int) := by omega
     clear h0
     obtain ⟨y0, y1, y2, y3, y4, y5⟩ := JBox.cells HBy.out
     go_wp2_with fail
     refine (IH.out y _ S B bb _ _ hyn HJy.out hS HIa.out HEa.out h4 hyg hyr (by simp only [List.length_append, List.length_singleton, List.length_nil] at hle2 ⊢; omega)).mono ?_
     rintro e w4 ⟨rfl, h5, b5, k5⟩
     have H5 : Hid (IsB B bb (acc ++ [91] ++ Js.textL (l.take (k + 1)) true) w4) := Lib.hid (by
      rw [HSN.out]
      have e : acc ++ [91] ++ (txt ++ ([] ++ Js.textOf y)) = acc ++ [91] ++ txt ++ Js.textOf y := by simp
      rw [e]; exact h5)
     have HJ5 := Lib.hid (HJa.out.below b5 hS (b5.size))
     have HB5 := Lib.hid (HBa.out.kept k5 hne)
     have HW5 := Lib.hid (HWa.out.trans b5)
     have HK5 := Lib.hid (HKa.out.trans k5)
     have HE5 := Lib.hid (HEa.out.below b5 h4)
     clear h5 b5 k5 HIa HJa HJy HBa HBy HWa HKa HEa y0 y1 y2 y3 y4 y5 HSN hle hle2
     go_wp2_with fail
     go_roundw
     case rel => exact ⟨k + 1, by omega, by go_num, H5, HJ5, HB5, HW5, HK5, HE5⟩
     case measure => simp [intOf]; omega
    ·rw [if_neg h0] at HSN hle2
     have q0 : (0 : Int) < (k : Int) := by omega
     clear h0
     go_wp2_with fail
     refine (writeByte_at B bb _ 44 44 rfl _ HIa.out (by rw [List.length_append, List.length_append, List.length_singleton]; omega)).mono ?_
     rintro e w3 ⟨rfl, h3, b3, k3⟩
     have HIa := Lib.hid h3
     have HJa := Lib.hid (HJa.out.below b3 hS (b3.size))
     have HJy := Lib.hid (HJy.out.below b3 hS (b3.size))
     have HBa := Lib.hid (HBa.out.kept k3 hne)
     have HBy := Lib.hid (JBox.kept HBy.out k3 hYne)
     have HWa := Lib.hid (HWa.out.trans b3)
     have HKa := Lib.hid (HKa.out.trans k3)
     have HEa := Lib.hid (HEa.out.below b3 h4)
     clear h3 b3 k3
     obtain ⟨y0, y1, y2, y3, y4, y5⟩ := JBox.cells HBy.out
     go_wp2_with fail
     refine (IH.out y _ S B bb _ _ hyn HJy.out hS HIa.out HEa.out h4 hyg hyr (by simp only [List.length_append, List.length_singleton, List.length_nil] at hle2 ⊢; omega)).mono ?_
     rintro e w4 ⟨rfl, h5, b5, k5⟩
     have H5 : Hid (IsB B bb (acc ++ [91] ++ Js.textL (l.take (k + 1)) true) w4) := Lib.hid (by
      rw [HSN.out]
      have e : acc ++ [91] ++ (txt ++ ([44] ++ Js.textOf y)) = acc ++ [91] ++ txt ++ [44] ++ Js.textOf y := by simp
      rw [e]; exact h5)
     have HJ5 := Lib.hid (HJa.out.below b5 hS (b5.size))
     have HB5 := Lib.hid (HBa.out.kept k5 hne)
     have HW5 := Lib.hid (HWa.out.trans b5)
     have HK5 := Lib.hid (HKa.out.trans k5)
     have HE5 := Lib.hid (HEa.out.below b5 h4)
     clear h5 b5 k5 HIa HJa HJy HBa HBy HWa HKa HEa y0 y1 y2 y3 y4 y5 HSN hle hle2
     go_wp2_with fail
     go_roundw
     case rel => exact ⟨k + 1, by omega, by go_num, H5, HJ5, HB5, HW5, HK5, HE5⟩
     case measure => simp [intOf]; omega
   ·obtain rfl : k = l.length := by omega
    rw [List.take_length] at HI
    clear hle
    go_wp2_with fail
    refine (writeByte_at B bb _ 93 93 rfl _ HI.out (by rw [List.length_append, List.length_append, List.length_singleton]; omega)).mono ?_
    rintro e w3 ⟨rfl, h3, b3, k3⟩
    have H3 : Hid (IsB B bb (acc ++ Js.textOf (.mk 5 b0 n0 t0 l m)) w3) := Lib.hid (by
     have e : acc ++ Js.textOf (.mk 5 b0 n0 t0 l m) = acc ++ [91] ++ Js.textL l true ++ [93] := by rw [HT.out]; simp
     rw [e]; exact h3)
    have B3 := Lib.hid (HW.out.trans b3)
    have K3 := Lib.hid (HK.out.trans k3)
    clear h3 b3 k3
    go_wp2_with fail
    go_end0
    exact ⟨rfl, H3.out, B3.out, K3.out⟩
 ·have HT : Hid (Js.textOf (.mk 6 b0 n0 t0 l m) = 123 :: (Js.textM m true ++ [125])) := Lib.hid rfl
  have hl1 : acc.length + ((Js.textM m true).length + 2) ≤ 1073741824 := by rw [HT.out, List.length_cons, List.length_append, List.length_singleton] at hlen; omega
  have hnod : Js.nodesM m ≤ N := by have : 1 + Js.nodesL l + Js.nodesM m ≤ N + 1 := hN; omega
  have hll : m.length ≤ 1073741824 := by
   have hx : ∀ k, k ≤ m.length → k ≤ (Js.textM (m.take k) true).length + 1 := fun k hk => Js.textM_ge m k hk
   have := hx m.length (Nat.le_refl _)
   rw [List.take_length] at this; omega
  have IH := Lib.hid ih
  have HLEN := Lib.hid hlen
  clear hlen ih hN
  go_wp2_with fail
  refine (writeByte_at B bb acc 123 123 rfl _ HIB.out (by omega)).mono ?_
  rintro e w2 ⟨rfl, h2, b2, k2⟩
  have HJ2 := Lib.hid (HJ1.out.below b2 hS b2.size)
  have HB2 := Lib.hid (HBx.out.kept k2 hne)
  have HI2 : Hid (IsB B bb (acc ++ [123] ++ Js.textM (m.take 0) true) w2) := Lib.hid (by rw [List.take_zero]; show IsB B bb (acc ++ [123] ++ []) w2; rw [List.append_nil]; exact h2)
  have HW2 := Lib.hid (HW.out.trans b2)
  have HK2 := Lib.hid (HK.out.trans k2)
  have HE2 := Lib.hid (HENV.out.below b2 h4)
  clear h2 b2 k2 HIB HW HK HJ1 HBx HENV x0 x1 x2 x3 x4 x5
  obtain ⟨x0, x1, x2, x3, x4, x5⟩ := HB2.out.cells
  go_wp2_with fail
  clear x0 x1 x2 x3 x4 x5
  go_loopw [63] (fun i wr => ∃ k : Nat, k ≤ m.length ∧ i = .int .i64 k ∧ Hid (IsB B bb (acc ++ [123] ++ Js.textM (m.take k) true) wr) ∧ Hid (JV wr S (.mk 6 b0 n0 t0 l m) [.int .i64 6, .bool b0, .int .i64 n0, .string (str t0), .slice A5 l.length c5, .slice A6 m.length c6]) ∧ Hid (JBox wr M (.int .i64 6) (.bool b0) (.int .i64 n0) (.string (str t0)) (.slice A5 l.length c5) (.slice A6 m.length c6)) ∧ Hid (Below B w wr) ∧ Hid (Lib.OthersKept 5 (some bb) w wr) ∧ Hid (Env wr)) (fun i _ => m.length - (intOf i).toNat)
  case atStart => exact ⟨0, Nat.zero_le _, rfl, HI2, HJ2, HB2, HW2, HK2, HE2⟩
  case round =>
   obtain ⟨k, hk, rfl, HI, HJ, HB, HW, HK, HE⟩ := hrel
   clear HI2 HJ2 HB2 HW2 HK2 HE2
   have hle := Js.textM_le m k
   by_cases hlt : k < m.length
   ·obtain ⟨nm, y, hy⟩ : ∃ nm y, m[k]? = some (nm, y) := ⟨m[k].1, m[k].2, List.getElem?_eq_getElem hlt⟩
    have hjl := HJ.out
    unfold JV at hjl
    obtain ⟨_, _, _, _, hvs, -, -, -, hjl⟩ := hjl
    simp only [List.cons.injEq, Value.slice.injEq, and_true, true_and] at hvs
    obtain ⟨⟨rfl, rfl⟩, rfl, rfl⟩ := hvs
    obtain ⟨g, o, k1, b1, n1, t1, A7, l7, c7, A8, l8, c8, hA, hSg, hg, q0, q1, q2, q3, q4, q5, q6, hjy⟩ := hjl.elem hy
    subst hA
    have hyn : Js.nodes y ≤ N := by have := (Js.nodesM_split m k nm y hy).1; omega
    have hyg := Js.goodM_at hgm hy
    have hyr := Js.inRM_at hrm hy
    have hql := Js.quote_len nm
    have HSN := Lib.hid (Js.textM_snoc hy)
    have hle2 := Js.textM_le m (k + 1)
    rw [HSN.out, List.length_append, List.length_append, List.length_append, List.length_cons] at hle2
    have hbel := below_box wr (.cells #[.string (str nm), .int .i64 k1, .bool b1, .int .i64 n1, .string t1, .slice A7 l7 c7, .slice A8 l8 c8] 89)
    have HBy := Lib.hid (heap_alloc_new wr (.cells #[.string (str nm), .int .i64 k1, .bool b1, .int .i64 n1, .string t1, .slice A7 l7 c7, .slice A8 l8 c8] 89))
    have HIa := Lib.hid (HI.out.next hbel)
    have HJa := Lib.hid (HJ.out.next hbel)
    have HBa := Lib.hid (HB.out.next hbel)
    have HWa := Lib.hid (HW.out.trans (hbel.mono HI.out.box))
    have HKa := Lib.hid (HK.out.trans (Kept.next (bb := bb) hbel))
    have HEa := Lib.hid (HE.out.next hbel)
    have HJy := Lib.hid (hjy.next hbel)
    have hYb := HI.out.lt
    clear hjl hjy hbel hy hSg HI HJ HB HW HK HE
    go_upto_region 25 with fail
    generalize (wr.alloc (.cells #[.string (str nm), .int .i64 k1, .bool b1, .int .i64 n1, .string t1, .slice A7 l7 c7, .slice A8 l8 c8] 89)) = wA at HBy HIa HJa HBa HWa HKa HEa HJy ⊢
    generalize wr.heap.size = Y at HBy hYb ⊢
    have hYne : Y ≠ bb := by omega
    clear q0 q1 q2 q3 q4 q5 q6
    generalize Js.textM (m.take k) true = txt at HIa hle hle2 HSN
    by_cases h0 : k = 0
    ·rw [if_pos h0] at HSN hle2
     have q0 : ¬ (0 : Int) < (k : Int) := by omega
     clear h0
     obtain ⟨y0, y1, y2, y3, y4, y5, y6⟩ := blk7 HBy.out
     go_wp2_with fail
     refine (quote_any B bb _ nm _ HIa.out (by simp only [List.length_append, List.length_singleton, List.length_nil] at hle2 ⊢; omega) (by omega)).mono ?_
     rintro e w4 ⟨rfl, h4', b4, k4⟩
     have HI4 := Lib.hid h4'
     have HJ4 := Lib.hid (HJa.out.below b4 hS (b4.size))
     have HJy4 := Lib.hid (HJy.out.below b4 hS (b4.size))
     have HB4 := Lib.hid (HBa.out.kept k4 hne)
     have HBy4 := Lib.hid (mem_kept HBy.out k4 hYne)
     have HW4 := Lib.hid (HWa.out.trans b4)
     have HK4 := Lib.hid (HKa.out.trans k4)
     have HE4 := Lib.hid (HEa.out.below b4 h4)
     clear h4' b4 k4 HIa HJa HJy HBa HBy HWa HKa HEa y0 y1 y2 y3 y4 y5 y6
     go_wp2_with fail
     refine (writeByte_at B bb _ 58 58 rfl _ HI4.out (by simp only [List.length_append, List.length_singleton, List.length_nil] at hle2 ⊢; omega)).mono ?_
     rintro e w6 ⟨rfl, h6, b6, k6⟩
     have HI6 := Lib.hid h6
     have HJ6 := Lib.hid (HJ4.out.below b6 hS (b6.size))
     have HJy6 := Lib.hid (HJy4.out.below b6 hS (b6.size))
     have HB6 := Lib.hid (HB4.out.kept k6 hne)
     have HBy6 := Lib.hid (mem_kept HBy4.out k6 hYne)
     have HW6 := Lib.hid (HW4.out.trans b6)
     have HK6 := Lib.hid (HK4.out.trans k6)
     have HE6 := Lib.hid (HE4.out.below b6 h4)
     clear h6 b6 k6 HI4 HJ4 HJy4 HB4 HBy4 HW4 HK4 HE4
     obtain ⟨y0, y1, y2, y3, y4, y5, y6⟩ := blk7 HBy6.out
     go_wp2_with fail
     refine (IH.out y _ S B bb _ _ hyn HJy6.out hS HI6.out HE6.out h4 hyg hyr (by simp only [List.length_append, List.length_singleton, List.length_nil] at hle2 ⊢; omega)).mono ?_
     rintro e w7 ⟨rfl, h5, b5, k5⟩
     have H5 : Hid (IsB B bb (acc ++ [123] ++ Js.textM (m.take (k + 1)) true) w7) := Lib.hid (by
      rw [HSN.out]
      have e : acc ++ [123] ++ (txt ++ ([] ++ (Js.quote nm ++ (58 :: Js.textOf y)))) = acc ++ [123] ++ txt ++ Js.quote nm ++ [58] ++ Js.textOf y := by simp
      rw [e]; exact h5)
     have HJ5 := Lib.hid (HJ6.out.below b5 hS (b5.size))
     have HB5 := Lib.hid (HB6.out.kept k5 hne)
     have HW5 := Lib.hid (HW6.out.trans b5)
     have HK5 := Lib.hid (HK6.out.trans k5)
     have HE5 := Lib.hid (HE6.out.below b5 h4)
     clear h5 b5 k5 HI6 HJ6 HJy6 HB6 HBy6 HW6 HK6 HE6 y0 y1 y2 y3 y4 y5 y6 HSN hle hle2
     go_wp2_with fail
     go_roundw
     case rel => exact ⟨k + 1, by omega, by go_num, H5, HJ5, HB5, HW5, HK5, HE5⟩
     case measure => simp [intOf]; omega
    ·rw [if_neg h0] at HSN hle2
     have q0 : (0 : Int) < (k : Int) := by omega
     clear h0
     go_wp2_with fail
     refine (writeByte_at B bb _ 44 44 rfl _ HIa.out (by rw [List.length_append, List.length_append, List.length_singleton]; omega)).mono ?_
     rintro e w3 ⟨rfl, h3, b3, k3⟩
     have HIa := Lib.hid h3
     have HJa := Lib.hid (HJa.out.below b3 hS (b3.size))
     have HJy := Lib.hid (HJy.out.below b3 hS (b3.size))
     have HBa := Lib.hid (HBa.out.kept k3 hne)
     have HBy := Lib.hid (mem_kept HBy.out k3 hYne)
     have HWa := Lib.hid (HWa.out.trans b3)
     have HKa := Lib.hid (HKa.out.trans k3)
     have HEa := Lib.hid (HEa.out.below b3 h4)
     clear h3 b3 k3
     obtain ⟨y0, y1, y2, y3, y4, y5, y6⟩ := blk7 HBy.out
     go_wp2_with fail
     refine (quote_any B bb _ nm _ HIa.out (by simp only [List.length_append, List.length_singleton, List.length_nil] at hle2 ⊢; omega) (by omega)).mono ?_
     rintro e w4 ⟨rfl, h4', b4, k4⟩
     have HI4 := Lib.hid h4'
     have HJ4 := Lib.hid (HJa.out.below b4 hS (b4.size))
     have HJy4 := Lib.hid (HJy.out.below b4 hS (b4.size))
     have HB4 := Lib.hid (HBa.out.kept k4 hne)
     have HBy4 := Lib.hid (mem_kept HBy.out k4 hYne)
     have HW4 := Lib.hid (HWa.out.trans b4)
     have HK4 := Lib.hid (HKa.out.trans k4)
     have HE4 := Lib.hid (HEa.out.below b4 h4)
     clear h4' b4 k4 HIa HJa HJy HBa HBy HWa HKa HEa y0 y1 y2 y3 y4 y5 y6
     go_wp2_with fail
     refine (writeByte_at B bb _ 58 58 rfl _ HI4.out (by simp only [List.length_append, List.length_singleton, List.length_nil] at hle2 ⊢; omega)).mono ?_
     rintro e w6 ⟨rfl, h6, b6, k6⟩
     have HI6 := Lib.hid h6
     have HJ6 := Lib.hid (HJ4.out.below b6 hS (b6.size))
     have HJy6 := Lib.hid (HJy4.out.below b6 hS (b6.size))
     have HB6 := Lib.hid (HB4.out.kept k6 hne)
     have HBy6 := Lib.hid (mem_kept HBy4.out k6 hYne)
     have HW6 := Lib.hid (HW4.out.trans b6)
     have HK6 := Lib.hid (HK4.out.trans k6)
     have HE6 := Lib.hid (HE4.out.below b6 h4)
     clear h6 b6 k6 HI4 HJ4 HJy4 HB4 HBy4 HW4 HK4 HE4
     obtain ⟨y0, y1, y2, y3, y4, y5, y6⟩ := blk7 HBy6.out
     go_wp2_with fail
     refine (IH.out y _ S B bb _ _ hyn HJy6.out hS HI6.out HE6.out h4 hyg hyr (by simp only [List.length_append, List.length_singleton, List.length_nil] at hle2 ⊢; omega)).mono ?_
     rintro e w7 ⟨rfl, h5, b5, k5⟩
     have H5 : Hid (IsB B bb (acc ++ [123] ++ Js.textM (m.take (k + 1)) true) w7) := Lib.hid (by
      rw [HSN.out]
      have e : acc ++ [123] ++ (txt ++ ([44] ++ (Js.quote nm ++ (58 :: Js.textOf y)))) = acc ++ [123] ++ txt ++ [44] ++ Js.quote nm ++ [58] ++ Js.textOf y := by simp
      rw [e]; exact h5)
     have HJ5 := Lib.hid (HJ6.out.below b5 hS (b5.size))
     have HB5 := Lib.hid (HB6.out.kept k5 hne)
     have HW5 := Lib.hid (HW6.out.trans b5)
     have HK5 := Lib.hid (HK6.out.trans k5)
     have HE5 := Lib.hid (HE6.out.below b5 h4)
     clear h5 b5 k5 HI6 HJ6 HJy6 HB6 HBy6 HW6 HK6 HE6 y0 y1 y2 y3 y4 y5 y6 HSN hle hle2
     go_wp2_with fail
     go_roundw
     case rel => exact ⟨k + 1, by omega, by go_num, H5, HJ5, HB5, HW5, HK5, HE5⟩
     case measure => simp [intOf]; omega
   ·obtain rfl : k = m.length := by omega
    rw [List.take_length] at HI
    clear hle
    go_wp2_with fail
    refine (writeByte_at B bb _ 125 125 rfl _ HI.out (by rw [List.length_append, List.length_append, List.length_singleton]; omega)).mono ?_
    rintro e w3 ⟨rfl, h3, b3, k3⟩
    have H3 : Hid (IsB B bb (acc ++ Js.textOf (.mk 6 b0 n0 t0 l m)) w3) := Lib.hid (by
     have e : acc ++ Js.textOf (.mk 6 b0 n0 t0 l m) = acc ++ [123] ++ Js.textM m true ++ [125] := by rw [HT.out]; simp
     rw [e]; exact h3)
    have B3 := Lib.hid (HW.out.trans b3)
    have K3 := Lib.hid (HK.out.trans k3)
    clear h3 b3 k3
    go_wp2_with fail
    go_end0
    exact ⟨rfl, H3.out, B3.out, K3.out⟩
theorem write_any : ∀ N, WriteC N
 | 0 => fun x vs S B bb acc w hN => absurd hN (by have := Js.nodes_pos x; omega)
 | N + 1 => write_step N (write_any N)
end Go.Proofs.YtimioelnnhnbiaaGreatDoor
namespace Go.Proofs.YtimioelnnhnbiaaGreatDoor
open Go.RowKit
namespace Js
mutual
theorem text_len : ∀ (x : J), inR x = true → (textOf x).length + 6 ≤ 30 * nodes x + 6 * bytes x
 | .mk k b n t l m, h => by
  have hh : (decide (-9223372036854775808 ≤ n) && decide (n ≤ 9223372036854775807) && decide (-9223372036854775808 ≤ k) && decide (k ≤ 9223372036854775807) && inRL l && inRM m) = true := h
  simp only [Bool.and_eq_true, decide_eq_true_eq] at hh
  obtain ⟨⟨⟨⟨⟨h1, h2⟩, _⟩, _⟩, h3⟩, h4⟩ := hh
  have hl := textL_len l true h3
  have hm := textM_len m true h4
  have hi := Lib.itoa_length_le n h1 h2
  have hq := quote_le t
  unfold textOf nodes bytes
  split
  ·show 4 + 6 ≤ _; omega
  split
  ·split
   ·show 4 + 6 ≤ _; omega
   ·show 5 + 6 ≤ _; omega
  split
  ·omega
  split
  ·omega
  split
  ·rw [List.length_cons, List.length_append, List.length_singleton]; omega
  ·rw [List.length_cons, List.length_append, List.length_singleton]; omega
theorem textL_len : ∀ (l : List J) (f : Bool), inRL l = true → (textL l f).length ≤ 30 * nodesL l + 6 * bytesL l
 | [], f, _ => by unfold textL; exact Nat.zero_le _
 | x :: t, f, h => by
  have hh : (inR x && inRL t) = true := h
  rw [Bool.and_eq_true] at hh
  have h1 := text_len x hh.1
  have h2 := textL_len t false hh.2
  unfold textL nodesL bytesL
  rw [List.length_append, List.length_append]
  cases f <;> simp <;> omega
theorem textM_len : ∀ (l : List (Bs × J)) (f : Bool), inRM l = true → (textM l f).length ≤ 30 * nodesM l + 6 * bytesM l
 | [], f, _ => by unfold textM; exact Nat.zero_le _
 | (n, x) :: t, f, h => by
  have hh : (inR x && inRM t) = true := h
  rw [Bool.and_eq_true] at hh
  have h1 := text_len x hh.1
  have h2 := textM_len t false hh.2
  have h3 := quote_le n
  unfold textM nodesM bytesM
  rw [List.length_append, List.length_append, List.length_cons, List.length_append]
  cases f <;> simp <;> omega
theorem quote_le (s : Bs) : (quote s).length ≤ 6 * s.length + 2 := by
 unfold quote
 have h := flat_esc_len s s.length
 rw [List.take_length] at h
 rw [List.length_cons, List.length_append, List.length_singleton]; omega
end
end Js
def encText (x : Js.J) : Js.Bs := if Js.right x then Js.textOf x else []
def encErr (x : Js.J) : Int := if Js.right x then 0 else 2
set_option maxRecDepth 100000 in
set_option maxHeartbeats 4000000 in
theorem check_any (x : Js.J) (vs : List Value) (S : Nat → Prop) (w : World) (hjv : JV w S x vs) (hS : ∀ g, S g → g < w.heap.size) (hn : Js.nodes x ≤ 1073741824) (hb : Js.bytes x ≤ 1073741824) (hd : Js.deep x ≤ 1073741823) :
  Calls Tryz.prog 19 #[.agg vs.toArray] w fun e w' => e = .returned (.int .i64 (encErr x)) ∧ Below w.heap.size w w' := by
 have HJ := Lib.hid hjv
 obtain ⟨A5, c5, A6, c6, k0, b0, n0, t0, l5, l6, rfl⟩ := hjv.shape
 have b1 := below_box w (.cells #[.int .i64 k0, .bool b0, .int .i64 n0, .string t0, .slice A5 l5 c5, .slice A6 l6 c6] 25)
 have s1 : (w.alloc (.cells #[.int .i64 k0, .bool b0, .int .i64 n0, .string t0, .slice A5 l5 c5, .slice A6 l6 c6] 25)).heap.size = w.heap.size + 1 := by simp
 have b2 := below_box (w.alloc (.cells #[.int .i64 k0, .bool b0, .int .i64 n0, .string t0, .slice A5 l5 c5, .slice A6 l6 c6] 25)) (.cells #[.int .i64 0, .int .i64 0, .bool false] 117)
 have n2 : MsAt _ _ ⟨0, 0, false⟩ := heap_alloc_new (w.alloc (.cells #[.int .i64 k0, .bool b0, .int .i64 n0, .string t0, .slice A5 l5 c5, .slice A6 l6 c6] 25)) (.cells #[.int .i64 0, .int .i64 0, .bool false] 117)
 rw [s1] at n2
 have HM := Lib.hid n2
 have HB := Lib.hid (b1.trans (b2.mono b1.size))
 have HJ2 := Lib.hid ((HJ.out.next b1).next b2)
 have HR := Lib.hid (Js.check_right x)
 clear hjv HJ b1 s1 b2 n2
 go_enter Tryz.func19, Tryz.ntmps19
 go_wp2_with fail
 generalize ((w.alloc (.cells #[.int .i64 k0, .bool b0, .int .i64 n0, .string t0, .slice A5 l5 c5, .slice A6 l6 c6] 25)).alloc (.cells #[.int .i64 0, .int .i64 0, .bool false] 117)) = w2 at HM HB HJ2 ⊢
 have hSn : ¬ S (w.heap.size + 1) := fun h => by have := hS _ h; omega
 refine (add_any _ x _ S 1 ⟨0, 0, false⟩ _ (w.heap.size + 1) (Nat.le_refl _) HJ2.out hSn HM.out (by show 0 + _ ≤ _; omega) (by show 0 + _ ≤ _; omega) (by omega)).mono ?_
 rintro e w3 ⟨rfl, hm3, hk3⟩
 have hml := Js.meas_le x 1 ⟨0, 0, false⟩
 have hb3 : (Js.meas x 1 ⟨0, 0, false⟩).bytes ≤ 1073741824 := by have : (⟨0, 0, false⟩ : Js.Ms).bytes = 0 := rfl; omega
 generalize Js.meas x 1 ⟨0, 0, false⟩ = s at hm3 HR hb3
 have HM3 := Lib.hid hm3
 have HB3 := Lib.hid (HB.out.trans (hk3.to (by have := HB.out.size; have := HM.out.lt; omega) (by intro j hj; simp at hj; omega)))
 clear hm3 hk3 hml HM HB HJ2
 obtain ⟨c0, c1, c2, -⟩ := HM3.out.cells
 obtain ⟨q, hq⟩ : ∃ q, s.wrong = q := ⟨_, rfl⟩
 rw [hq] at c2 HR
 clear hq
 cases q
 ·by_cases hbig : 32768 < s.bytes
  ·have qb : decide ((32768 : Int) < (s.bytes : Int)) = true := by simp; omega
   have HE : Hid (Js.right x = false) := Lib.hid (by rw [← HR.out, decide_eq_true hbig]; rfl)
   clear hbig
   go_wp2_with fail
   go_ret
   exact ⟨ret_int (by unfold encErr; rw [HE.out]; rfl), HB3.out⟩
  ·have qb : decide ((32768 : Int) < (s.bytes : Int)) = false := by simp; omega
   have HE : Hid (Js.right x = true) := Lib.hid (by rw [← HR.out, decide_eq_false hbig]; rfl)
   clear hbig
   go_wp2_with fail
   go_ret
   exact ⟨ret_int (by unfold encErr; rw [HE.out]; rfl), HB3.out⟩
 ·have HE : Hid (Js.right x = false) := Lib.hid (by rw [← HR.out]; rfl)
  go_wp2_with fail
  go_ret
  exact ⟨ret_int (by unfold encErr; rw [HE.out]; rfl), HB3.out⟩
set_option maxRecDepth 100000 in
set_option maxHeartbeats 4000000 in
theorem encode_any (x : Js.J) (vs : List Value) (S : Nat → Prop) (w : World) (hjv : JV w S x vs) (hS : ∀ g, S g → g < w.heap.size) (hn : Js.nodes x ≤ 1073741824) (hb : Js.bytes x ≤ 1073741824) (hd : Js.deep x ≤ 1073741823) (hr : Js.inR x = true) (henv : Env w) :
  Calls Tryz.prog 17 #[.agg vs.toArray] w fun e w' => e = .returned (.tuple #[.string (str (encText x)), .int .i64 (encErr x)]) ∧ Below w.heap.size w w' := by
 obtain ⟨A5, c5, A6, c6, k0, b0, n0, t0, l5, l6, rfl⟩ := hjv.shape
 have b1 := below_box w (.cells #[.int .i64 k0, .bool b0, .int .i64 n0, .string t0, .slice A5 l5 c5, .slice A6 l6 c6] 25)
 have HX1 : Hid (JBox _ w.heap.size _ _ _ _ _ _) := Lib.hid (heap_alloc_new w (.cells #[.int .i64 k0, .bool b0, .int .i64 n0, .string t0, .slice A5 l5 c5, .slice A6 l6 c6] 25))
 have HJ1 := Lib.hid (hjv.next b1)
 have HB1 := Lib.hid b1
 have HE1 := Lib.hid (henv.next b1)
 clear hjv b1
 go_enter Tryz.func17, Tryz.ntmps17
 go_wp2_with fail
 generalize (w.alloc (.cells #[.int .i64 k0, .bool b0, .int .i64 n0, .string t0, .slice A5 l5 c5, .slice A6 l6 c6] 25)) = w1 at HX1 HJ1 HB1 HE1 ⊢
 have hS1 : ∀ g, S g → g < w1.heap.size := fun g h => Nat.lt_of_lt_of_le (hS g h) HB1.out.size
 refine (check_any x _ S _ HJ1.out hS1 hn hb hd).mono ?_
 rintro e w2 ⟨rfl, hb2⟩
 have HJ2 := Lib.hid (HJ1.out.next hb2)
 have HX2 := Lib.hid (HX1.out.next hb2)
 have HB2 := Lib.hid (HB1.out.trans (hb2.mono HB1.out.size))
 have HE2 := Lib.hid (HE1.out.next hb2)
 have hS2 : ∀ g, S g → g < w2.heap.size := fun g h => Nat.lt_of_lt_of_le (hS1 g h) hb2.size
 clear hb2 HJ1 HX1 HB1 HE1 hS1
 by_cases hright : Js.right x = true
 ·have HT : Hid (encText x = Js.textOf x) := Lib.hid (by unfold encText; rw [if_pos hright])
  have HC : Hid (encErr x = 0) := Lib.hid (by unfold encErr; rw [if_pos hright])
  have HG : Hid (Js.good x = true ∧ (Js.textOf x).length ≤ 1073741824) := Lib.hid (by
   have h1 := hright
   unfold Js.right at h1
   simp only [Bool.and_eq_true, decide_eq_true_eq] at h1
   have h2 := Js.text_len x hr
   exact ⟨h1.1.1.1, by omega⟩)
  rw [HC.out]
  clear hright
  obtain ⟨x0, x1, x2, x3, x4, x5⟩ := HX2.out.cells
  have hXl := HX2.out.lt
  have b3 := below_box w2 (.cells #[.pointer none, .slice none 0 0] 112)
  have HN3 := Lib.hid (isB_new w2)
  have HJ3 := Lib.hid (HJ2.out.next b3)
  have HB3 := Lib.hid (HB2.out.trans (b3.mono HB2.out.size))
  have HE3 := Lib.hid (HE2.out.next b3)
  clear b3 HJ2 HX2 hn hb hd
  go_wp2_with fail
  generalize (w2.alloc (.cells #[.pointer none, .slice none 0 0] 112)) = w3 at HN3 HJ3 HB3 HE3 ⊢
  obtain ⟨N, hN⟩ : ∃ N, w2.heap.size = N := ⟨_, rfl⟩
  have h4 := HE2.out.big
  rw [hN] at HN3 hS2 h4 ⊢
  have hwN : w.heap.size ≤ N := by rw [← hN]; exact HB2.out.size
  clear hN
  refine (write_any _ x _ S N N [] _ (Nat.le_refl _) HJ3.out hS2 HN3.out HE3.out h4 HG.out.1 hr (by simpa using HG.out.2)).mono ?_
  rintro e w4 ⟨rfl, h5, b5, k5⟩
  have H5 : Hid (IsB N N (Js.textOf x) w4) := Lib.hid (by simpa using h5)
  have HB5 := Lib.hid (HB3.out.trans (b5.mono hwN))
  clear h5 b5 k5 HN3 HJ3 HB3 HE3
  go_wp2_with fail
  refine (bldString_any N N _ _ H5.out).mono ?_
  rintro e w6 ⟨rfl, -, b6, -⟩
  have HB6 := Lib.hid (HB5.out.trans (b6.mono hwN))
  clear b6
  go_wp2_with fail
  go_ret2
  exact ⟨by rw [HT.out, HC.out]; rfl, HB6.out⟩
 ·have HT : Hid (encText x = []) := Lib.hid (by unfold encText; rw [if_neg hright])
  have HC : Hid (encErr x = 2) := Lib.hid (by unfold encErr; rw [if_neg hright])
  rw [HC.out]
  clear hright
  go_wp2_with fail
  go_ret2
  exact ⟨by rw [HT.out, HC.out]; rfl, HB2.out⟩
end Go.Proofs.YtimioelnnhnbiaaGreatDoor
