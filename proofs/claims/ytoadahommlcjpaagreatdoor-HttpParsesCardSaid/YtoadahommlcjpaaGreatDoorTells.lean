/-
  THE WALKS: Reason and Status of the document's answer; Get of package http and of the document's answer. CONDITIONS: rows lie as HdsAt says; lengths.
-/
import Derived.Test.YtoadahommlcjpaaGreatDoorWN
namespace Go.Proofs.YtoadahommlcjpaaGreatDoor
open Go.RowKit
set_option maxRecDepth 100000 in
set_option maxHeartbeats 8000000 in
theorem refReason_any (n : Int) (w : World) :
    Calls Tryz.prog 32 #[.int .i64 n] w fun e w' => e = .returned (.string ⟨(Ht.reasonOf n).toArray⟩) ∧ w' = w := by
  by_cases h200 : n = 200
  · subst h200
    go_enter Tryz.func32, Tryz.ntmps32
    go_wp2_with fail
    go_ret
    exact ⟨rfl, rfl⟩
  by_cases h201 : n = 201
  · subst h201
    go_enter Tryz.func32, Tryz.ntmps32
    go_wp2_with fail
    go_ret
    exact ⟨rfl, rfl⟩
  by_cases h400 : n = 400
  · subst h400
    go_enter Tryz.func32, Tryz.ntmps32
    go_wp2_with fail
    go_ret
    exact ⟨rfl, rfl⟩
  by_cases h403 : n = 403
  · subst h403
    go_enter Tryz.func32, Tryz.ntmps32
    go_wp2_with fail
    go_ret
    exact ⟨rfl, rfl⟩
  by_cases h404 : n = 404
  · subst h404
    go_enter Tryz.func32, Tryz.ntmps32
    go_wp2_with fail
    go_ret
    exact ⟨rfl, rfl⟩
  by_cases h405 : n = 405
  · subst h405
    go_enter Tryz.func32, Tryz.ntmps32
    go_wp2_with fail
    go_ret
    exact ⟨rfl, rfl⟩
  by_cases h409 : n = 409
  · subst h409
    go_enter Tryz.func32, Tryz.ntmps32
    go_wp2_with fail
    go_ret
    exact ⟨rfl, rfl⟩
  by_cases h413 : n = 413
  · subst h413
    go_enter Tryz.func32, Tryz.ntmps32
    go_wp2_with fail
    go_ret
    exact ⟨rfl, rfl⟩
  by_cases h422 : n = 422
  · subst h422
    go_enter Tryz.func32, Tryz.ntmps32
    go_wp2_with fail
    go_ret
    exact ⟨rfl, rfl⟩
  by_cases h431 : n = 431
  · subst h431
    go_enter Tryz.func32, Tryz.ntmps32
    go_wp2_with fail
    go_ret
    exact ⟨rfl, rfl⟩
  by_cases h500 : n = 500
  · subst h500
    go_enter Tryz.func32, Tryz.ntmps32
    go_wp2_with fail
    go_ret
    exact ⟨rfl, rfl⟩
  by_cases h501 : n = 501
  · subst h501
    go_enter Tryz.func32, Tryz.ntmps32
    go_wp2_with fail
    go_ret
    exact ⟨rfl, rfl⟩
  by_cases h503 : n = 503
  · subst h503
    go_enter Tryz.func32, Tryz.ntmps32
    go_wp2_with fail
    go_ret
    exact ⟨rfl, rfl⟩
  by_cases h507 : n = 507
  · subst h507
    go_enter Tryz.func32, Tryz.ntmps32
    go_wp2_with fail
    go_ret
    exact ⟨rfl, rfl⟩
  have b200 : (n == 200) = false := by rw [beq_eq_false_iff_ne]; exact h200
  have b201 : (n == 201) = false := by rw [beq_eq_false_iff_ne]; exact h201
  have b400 : (n == 400) = false := by rw [beq_eq_false_iff_ne]; exact h400
  have b403 : (n == 403) = false := by rw [beq_eq_false_iff_ne]; exact h403
  have b404 : (n == 404) = false := by rw [beq_eq_false_iff_ne]; exact h404
  have b405 : (n == 405) = false := by rw [beq_eq_false_iff_ne]; exact h405
  have b409 : (n == 409) = false := by rw [beq_eq_false_iff_ne]; exact h409
  have b413 : (n == 413) = false := by rw [beq_eq_false_iff_ne]; exact h413
  have b422 : (n == 422) = false := by rw [beq_eq_false_iff_ne]; exact h422
  have b431 : (n == 431) = false := by rw [beq_eq_false_iff_ne]; exact h431
  have b500 : (n == 500) = false := by rw [beq_eq_false_iff_ne]; exact h500
  have b501 : (n == 501) = false := by rw [beq_eq_false_iff_ne]; exact h501
  have b503 : (n == 503) = false := by rw [beq_eq_false_iff_ne]; exact h503
  have b507 : (n == 507) = false := by rw [beq_eq_false_iff_ne]; exact h507
  have hr : Hid (Ht.reasonOf n = [85, 110, 107, 110, 111, 119, 110]) := Lib.hid (by simp [Ht.reasonOf, h200, h201, h400, h403, h404, h405, h409, h413, h422, h431, h500, h501, h503, h507])
  clear h200 h201 h400 h403 h404 h405 h409 h413 h422 h431 h500 h501 h503 h507
  go_enter Tryz.func32, Tryz.ntmps32
  go_wp2_with fail
  go_ret
  exact ⟨by rw [hr.out]; rfl, rfl⟩
set_option maxRecDepth 100000 in
set_option maxHeartbeats 8000000 in
theorem refStatus_any (n : Int) (w : World) :
    Calls Tryz.prog 34 #[.int .i64 n] w fun e w' => e = .returned (.int .i64 (Ht.statusOf n)) ∧ w' = w := by
  by_cases h0 : n = 0
  · subst h0
    go_enter Tryz.func34, Tryz.ntmps34
    go_wp2_with fail
    go_ret
    exact ⟨rfl, rfl⟩
  by_cases h340 : n = 340
  · subst h340
    go_enter Tryz.func34, Tryz.ntmps34
    go_wp2_with fail
    go_ret
    exact ⟨rfl, rfl⟩
  by_cases h2 : n = 2
  · subst h2
    go_enter Tryz.func34, Tryz.ntmps34
    go_wp2_with fail
    go_ret
    exact ⟨rfl, rfl⟩
  by_cases h7 : n = 7
  · subst h7
    go_enter Tryz.func34, Tryz.ntmps34
    go_wp2_with fail
    go_ret
    exact ⟨rfl, rfl⟩
  by_cases h341 : n = 341
  · subst h341
    go_enter Tryz.func34, Tryz.ntmps34
    go_wp2_with fail
    go_ret
    exact ⟨rfl, rfl⟩
  by_cases h4 : n = 4
  · subst h4
    go_enter Tryz.func34, Tryz.ntmps34
    go_wp2_with fail
    go_ret
    exact ⟨rfl, rfl⟩
  by_cases h5 : n = 5
  · subst h5
    go_enter Tryz.func34, Tryz.ntmps34
    go_wp2_with fail
    go_ret
    exact ⟨rfl, rfl⟩
  by_cases h343 : n = 343
  · subst h343
    go_enter Tryz.func34, Tryz.ntmps34
    go_wp2_with fail
    go_ret
    exact ⟨rfl, rfl⟩
  by_cases h3 : n = 3
  · subst h3
    go_enter Tryz.func34, Tryz.ntmps34
    go_wp2_with fail
    go_ret
    exact ⟨rfl, rfl⟩
  by_cases h342 : n = 342
  · subst h342
    go_enter Tryz.func34, Tryz.ntmps34
    go_wp2_with fail
    go_ret
    exact ⟨rfl, rfl⟩
  by_cases h344 : n = 344
  · subst h344
    go_enter Tryz.func34, Tryz.ntmps34
    go_wp2_with fail
    go_ret
    exact ⟨rfl, rfl⟩
  by_cases h6 : n = 6
  · subst h6
    go_enter Tryz.func34, Tryz.ntmps34
    go_wp2_with fail
    go_ret
    exact ⟨rfl, rfl⟩
  by_cases h8 : n = 8
  · subst h8
    go_enter Tryz.func34, Tryz.ntmps34
    go_wp2_with fail
    go_ret
    exact ⟨rfl, rfl⟩
  by_cases h9 : n = 9
  · subst h9
    go_enter Tryz.func34, Tryz.ntmps34
    go_wp2_with fail
    go_ret
    exact ⟨rfl, rfl⟩
  by_cases h1 : n = 1
  · subst h1
    go_enter Tryz.func34, Tryz.ntmps34
    go_wp2_with fail
    go_ret
    exact ⟨rfl, rfl⟩
  have b0 : (n == 0) = false := by rw [beq_eq_false_iff_ne]; exact h0
  have b340 : (n == 340) = false := by rw [beq_eq_false_iff_ne]; exact h340
  have b2 : (n == 2) = false := by rw [beq_eq_false_iff_ne]; exact h2
  have b7 : (n == 7) = false := by rw [beq_eq_false_iff_ne]; exact h7
  have b341 : (n == 341) = false := by rw [beq_eq_false_iff_ne]; exact h341
  have b4 : (n == 4) = false := by rw [beq_eq_false_iff_ne]; exact h4
  have b5 : (n == 5) = false := by rw [beq_eq_false_iff_ne]; exact h5
  have b343 : (n == 343) = false := by rw [beq_eq_false_iff_ne]; exact h343
  have b3 : (n == 3) = false := by rw [beq_eq_false_iff_ne]; exact h3
  have b342 : (n == 342) = false := by rw [beq_eq_false_iff_ne]; exact h342
  have b344 : (n == 344) = false := by rw [beq_eq_false_iff_ne]; exact h344
  have b6 : (n == 6) = false := by rw [beq_eq_false_iff_ne]; exact h6
  have b8 : (n == 8) = false := by rw [beq_eq_false_iff_ne]; exact h8
  have b9 : (n == 9) = false := by rw [beq_eq_false_iff_ne]; exact h9
  have b1 : (n == 1) = false := by rw [beq_eq_false_iff_ne]; exact h1
  have hr : Hid (Ht.statusOf n = 422) := Lib.hid (by simp [Ht.statusOf, h0, h340, h2, h7, h341, h4, h5, h343, h3, h342, h344, h6, h8, h9, h1])
  clear h0 h340 h2 h7 h341 h4 h5 h343 h3 h342 h344 h6 h8 h9 h1
  go_enter Tryz.func34, Tryz.ntmps34
  go_wp2_with fail
  go_ret
  exact ⟨by rw [hr.out]; rfl, rfl⟩
theorem alike_b (x y : Ht.Bs) (w : World) (hx : x.length ≤ 1073741824) (hy : y.length ≤ 1073741824) {q : Bool} (h : Ht.alikeB x y = q) :
    Calls Tryz.prog 61 #[.string ⟨x.toArray⟩, .string ⟨y.toArray⟩] w fun e w' => e = .returned (.bool q) ∧ ∃ n, w' = w.drewN n :=
  alike_q ⟨x.toArray⟩ ⟨y.toArray⟩ w (by rw [Lib.size_eq]; show x.length ≤ _; omega) (by rw [Lib.size_eq]; show y.length ≤ _; omega) (l := y) rfl h
set_option maxRecDepth 100000 in
set_option maxHeartbeats 4000000 in
theorem getTest_any (x : Ht.Hd) (name : Ht.Bs) (b : Nat) (w : World) (h1 : x.name.length ≤ 1073741824) (h2 : name.length ≤ 1073741824) (hb : b < w.heap.size) (hc : w.cell? ⟨b, 0, none⟩ = some (.string ⟨name.toArray⟩)) :
    Calls Tryz.prog 60 #[.agg #[.string ⟨x.name.toArray⟩, .string ⟨x.value.toArray⟩], .pointer (some ⟨b, 0, none⟩)] w fun e w' => e = .returned (.bool (Ht.alikeB x.name name)) ∧ Below w.heap.size w w' := by
  obtain ⟨nm, vl⟩ := x
  dsimp only at h1 ⊢
  obtain ⟨q, hq⟩ : ∃ q, Ht.alikeB nm name = q := ⟨_, rfl⟩
  have HC := Lib.hid (fun W => alike_b nm name W h1 h2 hq)
  rw [hq]
  clear hq
  have HW := Lib.hid (below_box w (.cells #[.string ⟨nm.toArray⟩, .string ⟨vl.toArray⟩] 65))
  have hc1 : (w.alloc (.cells #[.string ⟨nm.toArray⟩, .string ⟨vl.toArray⟩] 65)).cell? ⟨b, 0, none⟩ = some (.string ⟨name.toArray⟩) := (HW.out.cell (p := ⟨b, 0, none⟩) hb).trans hc
  clear hc
  go_enter Tryz.func60, Tryz.ntmps60
  go_wp2_with fail
  refine (HC.out _).mono ?_
  rintro e w' ⟨rfl, n, rfl⟩
  go_wp2_with fail
  go_ret
  exact ⟨rfl, below_drewN HW.out n⟩
/-- What IndexFunc tells. -/
def IdxOut (l : List Ht.Hd) (name : Ht.Bs) (w : World) (e : Ending) (w' : World) : Prop :=
  Below w.heap.size w w' ∧ ((∃ i : Int, i < 0 ∧ e = .returned (.int .i64 i) ∧ Ht.getOf l name = ([], false)) ∨ (∃ (k : Nat) (x : Ht.Hd), e = .returned (.int .i64 (k : Int)) ∧ l[k]? = some x ∧ Ht.getOf l name = (x.value, true)))
theorem get_hit {l : List Ht.Hd} {name : Ht.Bs} {k : Nat} {x : Ht.Hd} (hx : l[k]? = some x) (hp : (l.take k).find? (fun h => Ht.alikeB h.name name) = none) (hq : Ht.alikeB x.name name = true) : Ht.getOf l name = (x.value, true) := by
  obtain ⟨hlt, he⟩ := List.getElem?_eq_some_iff.1 hx
  unfold Ht.getOf
  have : l.find? (fun h => Ht.alikeB h.name name) = some x := by
    conv => lhs; rw [← List.take_append_drop k l, List.find?_append, hp, List.drop_eq_getElem_cons hlt, he]
    simp [hq]
  rw [this]
theorem get_next {l : List Ht.Hd} {name : Ht.Bs} {k : Nat} {x : Ht.Hd} (hx : l[k]? = some x) (hp : (l.take k).find? (fun h => Ht.alikeB h.name name) = none) (hq : Ht.alikeB x.name name = false) : (l.take (k + 1)).find? (fun h => Ht.alikeB h.name name) = none := by
  obtain ⟨hlt, he⟩ := List.getElem?_eq_some_iff.1 hx
  rw [List.take_succ_eq_append_getElem hlt, List.find?_append, hp, he]
  simp [hq]
theorem get_none {l : List Ht.Hd} {name : Ht.Bs} (hp : (l.take l.length).find? (fun h => Ht.alikeB h.name name) = none) : Ht.getOf l name = ([], false) := by
  rw [List.take_length] at hp
  unfold Ht.getOf
  rw [hp]
set_option maxRecDepth 100000 in
set_option maxHeartbeats 4000000 in
theorem getIdx_any (l : List Ht.Hd) (A : Option Addr) (c : Nat) (name : Ht.Bs) (b : Nat) (w : World) (hl : l.length ≤ 1048576) (hA : HdsAt w A l) (hL : HdsLen l) (hn : name.length ≤ 1073741824) (hb : b < w.heap.size) (hc : w.cell? ⟨b, 0, none⟩ = some (.string ⟨name.toArray⟩)) :
    Calls Tryz.prog 59 #[.slice A l.length c, .func (.func 60) #[] #[.pointer (some ⟨b, 0, none⟩)]] w (IdxOut l name w) := by
  have HL := Lib.hid hL
  have HA := Lib.hid hA
  have HC := Lib.hid (fun (x : Ht.Hd) W (hW : Below w.heap.size w W) (h1 : x.name.length ≤ 1073741824) => getTest_any x name b W h1 hn (Nat.lt_of_lt_of_le hb hW.size) ((hW.cell (p := ⟨b, 0, none⟩) hb).trans hc))
  clear hL hA hc
  go_enter Tryz.func59, Tryz.ntmps59
  go_wp2_with fail
  go_loopw [5, 8] (fun _ i wr => ∃ k : Nat, k ≤ l.length ∧ i = .int .i64 k ∧ Hid ((l.take k).find? (fun h => Ht.alikeB h.name name) = none) ∧ Below w.heap.size w wr) (fun _ i _ => l.length - (intOf i).toNat)
  case atStart => exact ⟨0, Nat.zero_le _, rfl, rfl, Below.refl _ _⟩
  case round =>
    obtain ⟨k, hk, rfl, H, hbw⟩ := hrel
    by_cases hlt : k < l.length
    · have hx : l[k]? = some l[k] := List.getElem?_eq_getElem hlt
      have hxl := HL.out _ (List.getElem_mem hlt)
      generalize l[k] = x at hx hxl
      have HX := Lib.hid hx
      obtain ⟨bb, off, rfl, hbl, c0, c1⟩ := (HA.out.next hbw (Nat.le_refl _)).at_ hx
      have HT := Lib.hid (HC.out x wr hbw hxl.1)
      have HB := Lib.hid hbw
      clear hx hbw
      go_wp2_with fail
      refine HT.out.mono ?_
      rintro e w2 ⟨rfl, hb2⟩
      have HB2 := Lib.hid (HB.out.trans (hb2.mono HB.out.size))
      clear hb2 c0 c1 hbl HT
      cases hw : Ht.alikeB x.name name with
      | true =>
        have HR := Lib.hid (get_hit HX.out H.out hw)
        clear hw
        go_wp2_with fail
        go_ret
        exact ⟨HB2.out, .inr ⟨k, x, rfl, HX.out, HR.out⟩⟩
      | false =>
        have HR := Lib.hid (get_next HX.out H.out hw)
        clear hw
        go_wp2_with fail
        go_roundw
        case rel => exact ⟨k + 1, by omega, by go_num, HR, HB2.out⟩
        case measure => simp [intOf]; omega
    · obtain rfl : k = l.length := by omega
      have HR := Lib.hid (get_none H.out)
      have HB := Lib.hid hbw
      clear H hbw
      go_wp2_with fail
      go_ret
      exact ⟨HB.out, .inl ⟨-1, by decide, rfl, HR.out⟩⟩
set_option maxRecDepth 100000 in
set_option maxHeartbeats 4000000 in
theorem get_any (l : List Ht.Hd) (A : Option Addr) (c : Nat) (name : Ht.Bs) (w : World) (hl : l.length ≤ 1048576) (hA : HdsAt w A l) (hL : HdsLen l) (hn : name.length ≤ 1073741824) :
    Calls Tryz.prog 29 #[.slice A l.length c, .string ⟨name.toArray⟩] w fun e w' => e = .returned (.tuple #[.string ⟨(Ht.getOf l name).1.toArray⟩, .bool (Ht.getOf l name).2]) ∧ Below w.heap.size w w' := by
  have HB0 := Lib.hid (below_box w (.cells #[.string ⟨name.toArray⟩] 9))
  have hcell : (w.alloc (.cells #[.string ⟨name.toArray⟩] 9)).cell? ⟨w.heap.size, 0, none⟩ = some (.string ⟨name.toArray⟩) := by rw [blk_cells (heap_alloc_new w _) 0]; rfl
  have HI := Lib.hid (getIdx_any l A c name w.heap.size (w.alloc (.cells #[.string ⟨name.toArray⟩] 9)) hl (hA.next HB0.out (Nat.le_refl _)) hL hn (by simp) hcell)
  have HA := Lib.hid (fun W (hW : Below w.heap.size w W) => hA.next hW (Nat.le_refl _))
  clear hA hL hcell
  have hmf : ∀ (fn : Fn) (first cap : Array Value) (w : World), (Instr.makeFunc fn first cap).run Tryz.prog w = .ok (.func fn first cap) w := fun _ _ _ _ => rfl
  go_enter Tryz.func29, Tryz.ntmps29
  go_wp2_with fail
  refine HI.out.mono ?_
  rintro e w1 ⟨hb1, hr⟩
  have HW1 := Lib.hid (HB0.out.trans (hb1.mono HB0.out.size))
  clear hb1
  rcases hr with ⟨i, hi, rfl, hg⟩ | ⟨k, x, rfl, hx, hg⟩
  · have HG := Lib.hid hg
    clear hg
    go_wp2_with fail
    go_ret2
    exact ⟨by rw [HG.out]; rfl, HW1.out⟩
  · have HG := Lib.hid hg
    have hlt := (List.getElem?_eq_some_iff.1 hx).1
    obtain ⟨bb, off, rfl, hbl, c0, c1⟩ := (HA.out _ HW1.out).at_ hx
    clear hg hx
    go_wp2_with fail
    go_ret2
    exact ⟨by rw [HG.out]; rfl, HW1.out⟩
end Go.Proofs.YtoadahommlcjpaaGreatDoor
