/-
  THE WALKS, eighth part: Same of package lex.
-/
import Derived.Test.YtoppkhkdbkkldaaDoorWalkG
namespace Go.Proofs.YtoppkhkdbkkldaaDoor
open Go.RowKit
theorem text_eq (a b : List UInt8) : ((⟨a.toArray⟩ : ByteArray).toList == (⟨b.toArray⟩ : ByteArray).toList) = decide (a = b) := by
  rw [Lib.toList_data, Lib.toList_data]
  exact beq_dec a b

set_option maxRecDepth 100000 in
set_option maxHeartbeats 1000000 in
theorem sameTok_any (t u : Lx.Tok) (w : World) :
    Calls Tryd.prog 39 #[.agg #[.int .i64 t.kind, .string ⟨t.text.toArray⟩, .int .i64 t.place], .agg #[.int .i64 u.kind, .string ⟨u.text.toArray⟩, .int .i64 u.place]] w fun e w' => e = .returned (.bool (Lx.sameTok t u)) ∧ Below w.heap.size w w' := by
  by_cases h : t.kind = u.kind
  · have h1 : (t.kind == u.kind) = true := beq_iff_eq.2 h
    have H := Lib.hid h1
    clear h
    go_enter Tryd.func39, Tryd.ntmps39
    go_wp2_with fail
    go_ret
    refine ⟨ret_boolI ?_, (below_box _ _).alloc (by simp) _⟩
    simp [Lx.sameTok, H.out]
  · have h1 : (t.kind == u.kind) = false := beq_eq_false_iff_ne.2 h
    have H := Lib.hid h1
    clear h
    go_enter Tryd.func39, Tryd.ntmps39
    go_wp2_with fail
    go_ret
    refine ⟨ret_boolI ?_, (below_box _ _).alloc (by simp) _⟩
    simp [Lx.sameTok, H.out]

theorem sameToks_len {l m : List Lx.Tok} (h : l.length ≠ m.length) : Lx.sameToks l m = false := by
  induction l generalizing m with
  | nil => cases m with
    | nil => exact absurd rfl h
    | cons b m => rfl
  | cons a l ih => cases m with
    | nil => rfl
    | cons b m =>
      rw [Lx.sameToks, ih (by simpa using h), Bool.and_false]
theorem sameToks_drop {l m : List Lx.Tok} {k : Nat} {t u : Lx.Tok} (ht : l[k]? = some t) (hu : m[k]? = some u) : Lx.sameToks (l.drop k) (m.drop k) = (Lx.sameTok t u && Lx.sameToks (l.drop (k + 1)) (m.drop (k + 1))) := by
  obtain ⟨h1, rfl⟩ := List.getElem?_eq_some_iff.1 ht
  obtain ⟨h2, rfl⟩ := List.getElem?_eq_some_iff.1 hu
  rw [List.drop_eq_getElem_cons h1, List.drop_eq_getElem_cons h2, Lx.sameToks]

set_option maxRecDepth 100000 in
set_option maxHeartbeats 2000000 in
theorem equalFunc_any (l m : List Lx.Tok) (A B : Option Addr) (c d : Nat) (w : World) (hm : m.length ≤ 1048576) (hA : HasToks w A l) (hB : HasToks w B m) :
    Calls Tryd.prog 38 #[.slice A l.length c, .slice B m.length d, .func (.func 39) #[] #[]] w fun e w' => e = .returned (.bool (Lx.sameToks l m)) ∧ Below w.heap.size w w' := by
  by_cases hlen : l.length = m.length
  · have hb0 : ((l.length : Int) != (m.length : Int)) = false := by rw [hlen]; simp
    have HL := Lib.hid hlen
    have hle : l.length ≤ m.length := by omega
    clear hlen
    go_enter Tryd.func38, Tryd.ntmps38
    go_wp2_with fail
    go_loopw [17] (fun i wr => ∃ k : Nat, k ≤ l.length ∧ i = .int .i64 k ∧ Hid (Lx.sameToks l m = Lx.sameToks (l.drop k) (m.drop k)) ∧ Below w.heap.size w wr) (fun i _ => l.length - (intOf i).toNat)
    case atStart => exact ⟨0, Nat.zero_le _, rfl, rfl, Below.refl _ _⟩
    case round =>
      obtain ⟨k, hk, rfl, H, hb⟩ := hrel
      by_cases hlt : k < l.length
      · obtain ⟨t, ht⟩ : ∃ t, l[k]? = some t := ⟨_, List.getElem?_eq_getElem hlt⟩
        obtain ⟨u, hu⟩ : ∃ u, m[k]? = some u := ⟨_, List.getElem?_eq_getElem (by omega)⟩
        obtain ⟨g, rfl, hg, a1, a2, a3⟩ := hA.at_ hb ht
        obtain ⟨g', rfl, hg', b1, b2, b3⟩ := hB.at_ hb hu
        have hS := Lib.hid (sameToks_drop ht hu)
        have hz := hb.size
        clear ht hu hA hB
        have a1' : g < wr.heap.size := by omega
        have b1' : g' < wr.heap.size := by omega
        cases hst : Lx.sameTok t u
        · have HS := Lib.hid hst
          have hE : Lx.sameToks l m = false := by
            rw [show Lx.sameToks l m = _ from H.out, show _ = _ from hS.out, hst, Bool.false_and]
          have HE := Lib.hid hE
          clear hst hE hS H
          go_wp2_with fail
          refine (sameTok_any t u _).mono ?_
          rintro e w1 ⟨rfl, hb1⟩
          rw [HS.out]
          go_wp2_with fail
          go_ret
          exact ⟨ret_bool HE.out.symm, (((hb.alloc hz _).alloc (by simp; omega) _).trans (hb1.mono (by simp; omega)))⟩
        · have HS := Lib.hid hst
          have hE : Lx.sameToks l m = Lx.sameToks (l.drop (k + 1)) (m.drop (k + 1)) := by
            rw [show Lx.sameToks l m = _ from H.out, show _ = _ from hS.out, hst, Bool.true_and]
          have HE := Lib.hid hE
          clear hst hE hS H
          go_wp2_with fail
          refine (sameTok_any t u _).mono ?_
          rintro e w1 ⟨rfl, hb1⟩
          rw [HS.out]
          go_wp2_with fail
          go_roundw
          case rel => exact ⟨k + 1, by omega, by go_num, HE, (((hb.alloc hz _).alloc (by simp; omega) _).trans (hb1.mono (by simp; omega)))⟩
          case measure => simp [intOf]; omega
      · have hE : Lx.sameToks l m = true := by
          have e := H.out
          rw [List.drop_eq_nil_of_le (by omega), List.drop_eq_nil_of_le (by have := HL.out; omega)] at e
          exact e
        have HE := Lib.hid hE
        clear hE
        go_wp2_with fail
        go_ret
        exact ⟨ret_bool HE.out.symm, hb⟩
  · have hb0 : ((l.length : Int) != (m.length : Int)) = true := by rw [bne_iff_ne]; omega
    have HE := Lib.hid (sameToks_len hlen)
    clear hlen
    go_enter Tryd.func38, Tryd.ntmps38
    go_wp2_with fail
    go_ret
    exact ⟨ret_bool HE.out.symm, Below.refl _ _⟩

set_option maxHeartbeats 1000000 in
theorem same_any (l m : List Lx.Tok) (A B : Option Addr) (c d : Nat) (w : World) (hm : m.length ≤ 1048576) (hA : HasToks w A l) (hB : HasToks w B m) :
    Calls Tryd.prog 15 #[.slice A l.length c, .slice B m.length d] w fun e w' => e = .returned (.bool (Lx.sameToks l m)) ∧ Below w.heap.size w w' := by
  go_enter Tryd.func15, Tryd.ntmps15
  go_wp2_with fail
  refine (equalFunc_any l m A B c d w hm hA hB).mono ?_
  rintro e w1 ⟨rfl, hb⟩
  go_wp2_with fail
  go_ret
  exact ⟨rfl, hb⟩
end Go.Proofs.YtoppkhkdbkkldaaDoor
