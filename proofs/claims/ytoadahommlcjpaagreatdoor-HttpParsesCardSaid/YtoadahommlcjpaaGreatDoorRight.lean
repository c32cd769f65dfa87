/-
  THE WALKS: rest, RightRequest, RightResponse of the document. CONDITIONS: rows lie as said; lengths.
-/
import Derived.Test.YtoadahommlcjpaaGreatDoorReqCut
namespace Go.Proofs.YtoadahommlcjpaaGreatDoor
open Go.RowKit
theorem refToken_b (s : Ht.Bs) (w : World) (hs : s.length ≤ 1073741824) {q : Bool} (h : Ht.tokenB s = q) :
    Calls Tryz.prog 55 #[.string ⟨s.toArray⟩] w fun e w' => e = .returned (.bool q) ∧ Below w.heap.size w w' := by
  have := refToken_any ⟨s.toArray⟩ w (by rw [Lib.size_eq]; show s.length ≤ _; omega)
  rwa [show (⟨s.toArray⟩ : ByteArray).data.toList = s from rfl, h] at this
theorem refTarget_b (s : Ht.Bs) (w : World) (hs : s.length ≤ 1073741824) {q : Bool} (h : Ht.targetB s = q) :
    Calls Tryz.prog 56 #[.string ⟨s.toArray⟩] w fun e w' => e = .returned (.bool q) ∧ ∃ n, w' = w.drewN n := by
  have := refTarget_any ⟨s.toArray⟩ w (by rw [Lib.size_eq]; show s.length ≤ _; omega)
  rwa [show (⟨s.toArray⟩ : ByteArray).data.toList = s from rfl, h] at this
theorem refValue_b (s : Ht.Bs) (w : World) (hs : s.length ≤ 1073741824) {q : Bool} (h : Ht.valuedB s = q) :
    Calls Tryz.prog 82 #[.string ⟨s.toArray⟩] w fun e w' => e = .returned (.bool q) ∧ ∃ n, w' = w.drewN n := by
  have := refValue_any ⟨s.toArray⟩ w (by rw [Lib.size_eq]; show s.length ≤ _; omega)
  rwa [show (⟨s.toArray⟩ : ByteArray).data.toList = s from rfl, h] at this
theorem refOwn_b (s : Ht.Bs) (w : World) (hs : s.length ≤ 1073741824) {q : Bool} (h : (Ht.alikeB s Ht.lenW || Ht.alikeB s Ht.codW) = q) :
    Calls Tryz.prog 81 #[.string ⟨s.toArray⟩] w fun e w' => e = .returned (.bool q) ∧ ∃ n, w' = w.drewN n := by
  have := refOwn_any ⟨s.toArray⟩ w (by rw [Lib.size_eq]; show s.length ≤ _; omega)
  rwa [show (⟨s.toArray⟩ : ByteArray).data.toList = s from rfl, h] at this
theorem rest_hit {l : List Ht.Hd} {x : Ht.Hd} {k : Nat} (bd : Ht.Bs) (hx : l[k]? = some x) (hw : Ht.wrongH x = true) : Ht.checkedB l bd = false := by
  have hm := List.mem_of_getElem? hx
  have : l.any Ht.wrongH = true := List.any_eq_true.2 ⟨x, hm, hw⟩
  unfold Ht.checkedB
  simp [this]
theorem rest_next {l : List Ht.Hd} {x : Ht.Hd} {k : Nat} (hx : l[k]? = some x) (h : (l.take k).any Ht.wrongH = false) (hw : Ht.wrongH x = false) : (l.take (k + 1)).any Ht.wrongH = false := by
  obtain ⟨hk, rfl⟩ := List.getElem?_eq_some_iff.1 hx
  rw [List.take_succ_eq_append_getElem hk, List.any_append, h]
  simp [hw]
theorem rest_end {l : List Ht.Hd} (bd : Ht.Bs) (h : (l.take l.length).any Ht.wrongH = false) : Ht.checkedB l bd = (decide (l.length ≤ 16) && decide (bd.length ≤ 8192)) := by
  rw [List.take_length] at h
  unfold Ht.checkedB
  simp [h]
set_option maxRecDepth 100000 in
set_option maxHeartbeats 4000000 in
theorem refRest_any (l : List Ht.Hd) (A : Option Addr) (c : Nat) (bd : Ht.Bs) (B : Option Addr) (d : Nat) (w : World) (hl : l.length ≤ 1048576) (hb : bd.length ≤ 1048576) (hA : HdsAt w A l) (hL : HdsLen l) {q : Bool} (hq : Ht.checkedB l bd = q) :
    Calls Tryz.prog 52 #[.slice A l.length c, .slice B bd.length d] w fun e w' => e = .returned (.bool q) ∧ Below w.heap.size w w' := by
  have HL := Lib.hid hL
  have HA := Lib.hid hA
  have HQ := Lib.hid hq
  clear hL hA hq
  go_enter Tryz.func52, Tryz.ntmps52
  go_wp2_with fail
  go_loopw [6, 9] (fun _ i wr => ∃ k : Nat, k ≤ l.length ∧ i = .int .i64 k ∧ Hid ((l.take k).any Ht.wrongH = false) ∧ Below w.heap.size w wr) (fun _ i _ => l.length - (intOf i).toNat)
  case atStart => exact ⟨0, Nat.zero_le _, rfl, rfl, Below.refl _ _⟩
  case round =>
    obtain ⟨k, hk, rfl, H, hbw⟩ := hrel
    by_cases hlt : k < l.length
    · have hx : l[k]? = some l[k] := List.getElem?_eq_getElem hlt
      have hxl := HL.out _ (List.getElem_mem hlt)
      generalize l[k] = x at hx hxl
      have HX := Lib.hid hx
      obtain ⟨bb, off, rfl, hbl, c0, c1⟩ := (HA.out.next hbw (Nat.le_refl _)).at_ hx
      obtain ⟨xn, xv⟩ := x
      dsimp only at c0 c1 hxl
      obtain ⟨q1, hq1⟩ : ∃ q, Ht.tokenB xn = q := ⟨_, rfl⟩
      obtain ⟨q2, hq2⟩ : ∃ q, (Ht.alikeB xn Ht.lenW || Ht.alikeB xn Ht.codW) = q := ⟨_, rfl⟩
      obtain ⟨q3, hq3⟩ : ∃ q, Ht.valuedB xv = q := ⟨_, rfl⟩
      have HWR : Hid (Ht.wrongH ⟨xn, xv⟩ = (!q1 || q2 || !q3)) := Lib.hid (by unfold Ht.wrongH; rw [← hq1, ← hq2, ← hq3, Bool.or_assoc (!Ht.tokenB xn)])
      have HT := Lib.hid (fun W => refToken_b xn W (by omega) hq1)
      have HO := Lib.hid (fun W => refOwn_b xn W (by omega) hq2)
      have HV := Lib.hid (fun W => refValue_b xv W (by omega) hq3)
      have HB := Lib.hid (hbw.trans ((below_box wr (.cells #[.string ⟨xn.toArray⟩, .string ⟨xv.toArray⟩] 65)).mono hbw.size))
      have HC := Lib.hid (heap_alloc_new wr (.cells #[.string ⟨xn.toArray⟩, .string ⟨xv.toArray⟩] 65))
      clear hx hbw hq1 hq2 hq3
      go_wp2_with fail
      generalize wr.alloc (.cells #[.string ⟨xn.toArray⟩, .string ⟨xv.toArray⟩] 65) = w1 at HB HC ⊢
      refine (HT.out _).mono ?_
      rintro e w2 ⟨rfl, hb2⟩
      have HB2 := Lib.hid (HB.out.trans (hb2.mono HB.out.size))
      have hc2 := blk_next hb2 HC.out
      obtain ⟨d0, d1⟩ := blk2 hc2
      clear c0 c1 hbl HT HC HB hb2 hc2
      cases q1 with
      | false =>
        have HR := Lib.hid ((rest_hit bd HX.out (by rw [HWR.out]; rfl)).symm.trans HQ.out)
        go_wp2_with fail
        go_ret
        exact ⟨ret_bool HR.out, HB2.out⟩
      | true =>
        go_wp2_with fail
        refine (HO.out _).mono ?_
        rintro e w3 ⟨rfl, m, rfl⟩
        have HB3 := Lib.hid (below_drewN HB2.out m)
        have e0 : (w2.drewN m).cell? ⟨wr.heap.size, 1, none⟩ = some (.string ⟨xv.toArray⟩) := d1
        generalize w2.drewN m = w3 at HB3 e0 ⊢
        clear d0 d1 HB2 HO
        cases q2 with
        | true =>
          have HR := Lib.hid ((rest_hit bd HX.out (by rw [HWR.out]; cases q3 <;> rfl)).symm.trans HQ.out)
          go_wp2_with fail
          go_ret
          exact ⟨ret_bool HR.out, HB3.out⟩
        | false =>
          go_wp2_with fail
          refine (HV.out _).mono ?_
          rintro e w4 ⟨rfl, m2, rfl⟩
          have HB4 := Lib.hid (below_drewN HB3.out m2)
          clear e0 HB3 HV
          cases q3 with
          | false =>
            have HR := Lib.hid ((rest_hit bd HX.out (by rw [HWR.out]; rfl)).symm.trans HQ.out)
            go_wp2_with fail
            go_ret
            exact ⟨ret_bool HR.out, HB4.out⟩
          | true =>
            have HR := Lib.hid (rest_next HX.out H.out (by rw [HWR.out]; rfl))
            go_wp2_with fail
            go_roundw
            case rel => exact ⟨k + 1, by omega, by go_num, HR, HB4.out⟩
            case measure => simp [intOf]; omega
    · obtain rfl : k = l.length := by omega
      have HR := Lib.hid ((rest_end bd H.out).symm.trans HQ.out)
      have HB := Lib.hid hbw
      clear H hbw HQ
      by_cases h1 : l.length ≤ 16
      · by_cases h2 : bd.length ≤ 8192
        · go_wp2_with fail
          go_ret
          exact ⟨ret_bool (by rw [← HR.out]; simp [h1]; omega), HB.out⟩
        · go_wp2_with fail
          go_ret
          exact ⟨ret_bool (by rw [← HR.out]; simp [h1]; omega), HB.out⟩
      · go_wp2_with fail
        go_ret
        exact ⟨ret_bool (by rw [← HR.out]; simp [h1]), HB.out⟩
theorem right_req {m t : Ht.Bs} {hs : List Ht.Hd} {bd : Ht.Bs} {q1 q2 q3 : Bool} (h1 : Ht.tokenB m = q1) (h2 : Ht.targetB t = q2) (h3 : Ht.checkedB hs bd = q3) : (Ht.tokenB m && Ht.targetB t && Ht.checkedB hs bd) = (q1 && q2 && q3) := by rw [h1, h2, h3]
set_option maxRecDepth 100000 in
set_option maxHeartbeats 4000000 in
theorem refRightReq_any (r : Ht.Req) (A : Option Addr) (c : Nat) (B : Option Addr) (d : Nat) (w : World) (h : ReqAt w r A B) {q : Bool} (hq : (Ht.tokenB r.method && Ht.targetB r.target && Ht.checkedB r.heads r.body) = q) :
    Calls Tryz.prog 25 #[reqV r A c B d] w fun e w' => e = .returned (.bool q) ∧ Below w.heap.size w w' := by
  obtain ⟨m, t, hs, bd⟩ := r
  have hml := h.ml
  have htl := h.tl
  dsimp only [reqV] at hml htl hq ⊢
  obtain ⟨q1, hq1⟩ : ∃ q, Ht.tokenB m = q := ⟨_, rfl⟩
  obtain ⟨q2, hq2⟩ : ∃ q, Ht.targetB t = q := ⟨_, rfl⟩
  obtain ⟨q3, hq3⟩ : ∃ q, Ht.checkedB hs bd = q := ⟨_, rfl⟩
  have HQ := Lib.hid (hq.symm.trans (right_req hq1 hq2 hq3))
  have HB0 := Lib.hid (heap_alloc_new w (.cells #[.string ⟨m.toArray⟩, .string ⟨t.toArray⟩, .slice A hs.length c, .slice B bd.length d] 26))
  have HW0 := Lib.hid (below_box w (.cells #[.string ⟨m.toArray⟩, .string ⟨t.toArray⟩, .slice A hs.length c, .slice B bd.length d] 26))
  have H1 := Lib.hid (fun W => refToken_b m W (by omega) hq1)
  have H2 := Lib.hid (fun W => refTarget_b t W (by omega) hq2)
  have H3 := Lib.hid (fun W (hW : Below w.heap.size w W) => refRest_any hs A c bd B d W h.hl h.bl (h.next hW).heads h.hL hq3)
  clear hq1 hq2 hq3 hq h
  go_enter Tryz.func25, Tryz.ntmps25
  go_wp2_with fail
  generalize w.alloc (.cells #[.string ⟨m.toArray⟩, .string ⟨t.toArray⟩, .slice A hs.length c, .slice B bd.length d] 26) = w1 at HB0 HW0 ⊢
  refine (H1.out _).mono ?_
  rintro e w2 ⟨rfl, hb2⟩
  have HW2 := Lib.hid (HW0.out.trans (hb2.mono HW0.out.size))
  have HB2 := Lib.hid (blk_next hb2 HB0.out)
  clear hb2 HB0 HW0
  obtain ⟨c0, c1, c2, c3⟩ := blk4 HB2.out
  cases q1
  · go_wp2_with fail
    go_ret
    exact ⟨ret_bool HQ.out.symm, HW2.out⟩
  · go_wp2_with fail
    refine (H2.out _).mono ?_
    rintro e w3 ⟨rfl, n, rfl⟩
    have HB3 : Hid ((w2.drewN n).heap[w.heap.size]? = some (.cells #[.string ⟨m.toArray⟩, .string ⟨t.toArray⟩, .slice A hs.length c, .slice B bd.length d] 26 (0, 0))) := HB2
    have HW3 := Lib.hid (below_drewN HW2.out n)
    generalize w2.drewN n = w3 at HB3 HW3 ⊢
    clear HB2 HW2 c0 c1 c2 c3
    obtain ⟨c0, c1, c2, c3⟩ := blk4 HB3.out
    cases q2
    · go_wp2_with fail
      go_ret
      exact ⟨ret_bool HQ.out.symm, HW3.out⟩
    · go_wp2_with fail
      refine (H3.out _ HW3.out).mono ?_
      rintro e w4 ⟨rfl, hb4⟩
      have HW4 := Lib.hid (HW3.out.trans (hb4.mono HW3.out.size))
      clear hb4 HB3 HW3
      go_wp2_with fail
      go_ret
      exact ⟨ret_bool HQ.out.symm, HW4.out⟩
set_option maxRecDepth 100000 in
set_option maxHeartbeats 4000000 in
theorem refRightRsp_any (r : Ht.Rsp) (A : Option Addr) (c : Nat) (B : Option Addr) (d : Nat) (w : World) (h : RspAt w r A B) {q : Bool} (hq : (decide (200 ≤ r.status) && decide (r.status ≤ 599) && Ht.checkedB r.heads r.body) = q) :
    Calls Tryz.prog 21 #[rspV r A c B d] w fun e w' => e = .returned (.bool q) ∧ Below w.heap.size w w' := by
  obtain ⟨s, hs, bd⟩ := r
  dsimp only [rspV] at hq ⊢
  obtain ⟨q3, hq3⟩ : ∃ q, Ht.checkedB hs bd = q := ⟨_, rfl⟩
  rw [hq3] at hq
  have HQ := Lib.hid hq
  have HB0 := Lib.hid (heap_alloc_new w (.cells #[.int .i64 s, .slice A hs.length c, .slice B bd.length d] 36))
  have HW0 := Lib.hid (below_box w (.cells #[.int .i64 s, .slice A hs.length c, .slice B bd.length d] 36))
  have H3 := Lib.hid (fun W (hW : Below w.heap.size w W) => refRest_any hs A c bd B d W h.hl h.bl (h.next hW).heads h.hL hq3)
  clear hq3 hq h
  go_enter Tryz.func21, Tryz.ntmps21
  obtain ⟨c0, c1, c2⟩ := blk3 HB0.out
  by_cases h1 : 200 ≤ s
  · by_cases h2 : s ≤ 599
    · go_wp2_with fail
      refine (H3.out _ HW0.out).mono ?_
      rintro e w4 ⟨rfl, hb4⟩
      have HW4 := Lib.hid (HW0.out.trans (hb4.mono HW0.out.size))
      clear hb4 HB0 HW0
      go_wp2_with fail
      go_ret
      exact ⟨ret_bool (by rw [← HQ.out]; simp [h1, h2]), HW4.out⟩
    · go_wp2_with fail
      go_ret
      exact ⟨ret_bool (by rw [← HQ.out]; simp; intros; omega), HW0.out⟩
  · go_wp2_with fail
    go_ret
    exact ⟨ret_bool (by rw [← HQ.out]; simp; intros; omega), HW0.out⟩
end Go.Proofs.YtoadahommlcjpaaGreatDoor
