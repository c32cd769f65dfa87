/-
  THE WALKS: checked of package http. CONDITIONS: the headers lie as HdsAt says; lengths.
-/
import Derived.Test.YtoadahommlcjpaaGreatDoorWS
namespace Go.Proofs.YtoadahommlcjpaaGreatDoor
open Go.RowKit
/-- Names and values of headers are not too long for the walks. -/
def HdsLen (l : List Ht.Hd) : Prop := ∀ h ∈ l, h.name.length ≤ 1073741824 ∧ h.value.length ≤ 1073741824
theorem blk2 {w : World} {b : Nat} {x y : Value} (h : w.heap[b]? = some (.cells #[x, y] 65 (0, 0))) : w.cell? ⟨b, 0, none⟩ = some x ∧ w.cell? ⟨b, 1, none⟩ = some y :=
  ⟨by rw [blk_cells h 0]; rfl, by rw [blk_cells h 1]; rfl⟩
set_option maxRecDepth 100000 in
set_option maxHeartbeats 4000000 in
theorem wrongH_any (x : Ht.Hd) (w : World) (h1 : x.name.length ≤ 1073741824) (h2 : x.value.length ≤ 1073741824) :
    Calls Tryz.prog 70 #[.agg #[.string ⟨x.name.toArray⟩, .string ⟨x.value.toArray⟩]] w fun e w' => e = .returned (.bool (Ht.wrongH x)) ∧ Below w.heap.size w w' := by
  obtain ⟨nm, vl⟩ := x
  dsimp only at h1 h2 ⊢
  obtain ⟨q1, hq1⟩ : ∃ q, Ht.tokenB nm = q := ⟨_, rfl⟩
  obtain ⟨q2, hq2⟩ : ∃ q, Ht.alikeB nm Ht.lenW = q := ⟨_, rfl⟩
  obtain ⟨q3, hq3⟩ : ∃ q, Ht.alikeB nm Ht.codW = q := ⟨_, rfl⟩
  obtain ⟨q4, hq4⟩ : ∃ q, Ht.valuedB vl = q := ⟨_, rfl⟩
  have HE : Hid (Ht.wrongH ⟨nm, vl⟩ = (!q1 || q2 || q3 || !q4)) := Lib.hid (by unfold Ht.wrongH; rw [hq1, hq2, hq3, hq4])
  generalize Ht.wrongH ⟨nm, vl⟩ = R at HE ⊢
  obtain rfl := HE.out
  clear HE
  have H1 := Lib.hid (fun W => token_q nm W (by omega) hq1)
  have H2 := Lib.hid (fun b hb U hl => alike_q ⟨nm.toArray⟩ b U (by rw [Lib.size_eq]; show nm.length ≤ _; omega) hb (l := Ht.lenW) hl hq2)
  have H3 := Lib.hid (fun b hb U hl => alike_q ⟨nm.toArray⟩ b U (by rw [Lib.size_eq]; show nm.length ≤ _; omega) hb (l := Ht.codW) hl hq3)
  have H4 := Lib.hid (fun W => valued_q vl W (by omega) hq4)
  clear hq1 hq2 hq3 hq4
  have HW0 := Lib.hid (below_box w (.cells #[.string ⟨nm.toArray⟩, .string ⟨vl.toArray⟩] 65))
  have HB0 : Hid ((w.alloc (.cells #[.string ⟨nm.toArray⟩, .string ⟨vl.toArray⟩] 65)).heap[w.heap.size]? = some (.cells #[.string ⟨nm.toArray⟩, .string ⟨vl.toArray⟩] 65 (0, 0))) := Lib.hid (heap_alloc_new w _)
  go_enter Tryz.func70, Tryz.ntmps70
  go_wp2_with fail
  generalize w.alloc (.cells #[.string ⟨nm.toArray⟩, .string ⟨vl.toArray⟩] 65) = wa at HW0 HB0 ⊢
  obtain ⟨c0, c1⟩ := blk2 HB0.out
  refine (H1.out _).mono ?_
  rintro e w' ⟨rfl, rfl⟩
  cases q1
  · go_wp2_with fail
    go_ret
    exact ⟨ret_bool (by simp), HW0.out⟩
  · go_wp2_with fail
    refine (H2.out _ (by decide) _ (by rfl)).mono ?_
    rintro e w' ⟨rfl, n, rfl⟩
    cases q2
    · go_wp2_with fail
      refine (H3.out _ (by decide) _ (by rfl)).mono ?_
      rintro e w' ⟨rfl, n2, rfl⟩
      cases q3
      · go_wp2_with fail
        refine (H4.out _).mono ?_
        rintro e w' ⟨rfl, rfl⟩
        go_wp2_with fail
        go_ret
        exact ⟨ret_bool (by simp), below_drewN HW0.out _⟩
      · go_wp2_with fail
        go_ret
        exact ⟨ret_bool (by simp), below_drewN HW0.out _⟩
    · go_wp2_with fail
      go_ret
      exact ⟨ret_bool (by simp), below_drewN HW0.out _⟩
set_option maxRecDepth 100000 in
set_option maxHeartbeats 4000000 in
theorem anyWrong_any (l : List Ht.Hd) (A : Option Addr) (c : Nat) (w : World) (hl : l.length ≤ 1048576) (hA : HdsAt w A l) (hL : HdsLen l) :
    Calls Tryz.prog 72 #[.slice A l.length c, .func (.func 70) #[] #[]] w fun e w' => e = .returned (.bool (l.any Ht.wrongH)) ∧ Below w.heap.size w w' := by
  have idx : Calls Tryz.prog 59 #[.slice A l.length c, .func (.func 70) #[] #[]] w fun e w' => (∃ i : Int, e = .returned (.int .i64 i) ∧ (0 ≤ i ↔ l.any Ht.wrongH = true)) ∧ Below w.heap.size w w' := by
    have HL := Lib.hid hL
    have HA := Lib.hid hA
    clear hL hA
    go_enter Tryz.func59, Tryz.ntmps59
    go_wp2_with fail
    go_loopw [5, 8] (fun _ i wr => ∃ k : Nat, k ≤ l.length ∧ i = .int .i64 k ∧ Hid ((l.take k).any Ht.wrongH = false) ∧ Below w.heap.size w wr) (fun _ i _ => l.length - (intOf i).toNat)
    case atStart => exact ⟨0, Nat.zero_le _, rfl, rfl, Below.refl _ _⟩
    case round =>
      obtain ⟨k, hk, rfl, H, hb⟩ := hrel
      by_cases hlt : k < l.length
      · have hx : l[k]? = some l[k] := List.getElem?_eq_getElem hlt
        have HS : Hid ((l.take (k + 1)).any Ht.wrongH = Ht.wrongH l[k]) := Lib.hid (by
          have h := H.out; rw [List.take_succ_eq_append_getElem hlt, List.any_append, h]; simp)
        have HV : Hid (Ht.wrongH l[k] = true → l.any Ht.wrongH = true) := Lib.hid (fun h => List.any_eq_true.2 ⟨_, List.getElem_mem hlt, h⟩)
        have hxl := HL.out _ (List.getElem_mem hlt)
        generalize l[k] = x at hx HS HV hxl
        obtain ⟨b, off, rfl, hbl, c0, c1⟩ := (HA.out.next hb (Nat.le_refl _)).at_ hx
        have HC := Lib.hid (fun W => wrongH_any x W hxl.1 hxl.2)
        have HB := Lib.hid hb
        clear hx hb H
        go_wp2_with fail
        refine (HC.out _).mono ?_
        rintro e w2 ⟨rfl, hb2⟩
        have HB2 := Lib.hid (HB.out.trans (hb2.mono HB.out.size))
        clear hb2 c0 c1 hbl
        cases hw : Ht.wrongH x with
        | true =>
          have HR := Lib.hid (HV.out hw)
          clear hw
          go_wp2_with fail
          go_ret
          exact ⟨⟨k, rfl, by rw [HR.out]; simp⟩, HB2.out⟩
        | false =>
          have HR := Lib.hid (HS.out.trans hw)
          clear hw
          go_wp2_with fail
          go_roundw
          case rel => exact ⟨k + 1, by omega, by go_num, HR, HB2.out⟩
          case measure => simp [intOf]; omega
      · have HR : Hid (l.any Ht.wrongH = false) := by
          have h := H.out
          rw [List.take_of_length_le (by omega)] at h
          exact Lib.hid h
        go_wp2_with fail
        go_ret
        exact ⟨⟨-1, rfl, by rw [HR.out]; simp⟩, hb⟩
  generalize l.any Ht.wrongH = q at idx ⊢
  go_enter Tryz.func72, Tryz.ntmps72
  go_wp2_with (go_at_call 59; refine idx.mono ?_; rintro e w' ⟨⟨i, rfl, hi⟩, hb⟩)
  all_goals go_ret
  all_goals exact ⟨ret_boolI (by rw [← hi]), hb⟩
set_option maxRecDepth 100000 in
set_option maxHeartbeats 4000000 in
theorem checked_any (l : List Ht.Hd) (A : Option Addr) (c : Nat) (body : Ht.Bs) (B : Option Addr) (d : Nat) (w : World) (hl : l.length ≤ 1048576) (hA : HdsAt w A l) (hL : HdsLen l) (hb : body.length ≤ 1048576) {q : Bool} (hq : Ht.checkedB l body = q) :
    Calls Tryz.prog 43 #[.slice A l.length c, .slice B body.length d] w fun e w' => e = .returned (.bool q) ∧ Below w.heap.size w w' := by
  have HC := Lib.hid (fun W (hW : Below w.heap.size w W) => anyWrong_any l A c W hl (hA.next hW (Nat.le_refl _)) hL)
  obtain ⟨q3, hq3⟩ : ∃ q, l.any Ht.wrongH = q := ⟨_, rfl⟩
  rw [hq3] at HC
  have HQ : Hid (q = (decide (l.length ≤ 16) && decide (body.length ≤ 8192) && !q3)) := Lib.hid (by rw [← hq]; unfold Ht.checkedB; rw [hq3])
  clear hq hq3 hA hL
  go_enter Tryz.func43, Tryz.ntmps43
  by_cases h1 : l.length ≤ 16
  · by_cases h2 : body.length ≤ 8192
    · go_wp2_with fail
      refine (HC.out _ (Below.refl _ _)).mono ?_
      rintro e w' ⟨rfl, hb'⟩
      go_wp2_with fail
      go_ret
      exact ⟨ret_bool (by rw [HQ.out]; simp [h1, h2]), hb'⟩
    · go_wp2_with fail
      go_ret
      exact ⟨ret_bool (by rw [HQ.out]; simp [h2]), Below.refl _ _⟩
  · go_wp2_with fail
    go_ret
    exact ⟨ret_bool (by rw [HQ.out]; simp [h1]), Below.refl _ _⟩
end Go.Proofs.YtoadahommlcjpaaGreatDoor
