/-
  THE LAW: values of names, reasons, and the status of each error. CONDITIONS: as the arguments' readings say.
-/
import Derived.Test.YtoadahommlcjpaaGreatDoorTells
import Derived.Test.YtoadahommlcjpaaGreatDoorReqCut
namespace Go.Proofs.YtoadahommlcjpaaGreatDoor
open Go.RowKit
theorem refAlike_b (x y : Ht.Bs) (w : World) (hx : x.length ≤ 1073741824) (hy : y.length ≤ 1073741824) {q : Bool} (h : Ht.alikeB x y = q) :
    Calls Tryz.prog 62 #[.string ⟨x.toArray⟩, .string ⟨y.toArray⟩] w fun e w' => e = .returned (.bool q) ∧ ∃ n, w' = w.drewN n := by
  have := refAlike_any ⟨x.toArray⟩ ⟨y.toArray⟩ w (by rw [Lib.size_eq]; show x.length ≤ _; omega) (by rw [Lib.size_eq]; show y.length ≤ _; omega)
  rwa [show (⟨x.toArray⟩ : ByteArray).data.toList = x from rfl, show (⟨y.toArray⟩ : ByteArray).data.toList = y from rfl, h] at this
set_option maxRecDepth 100000 in
set_option maxHeartbeats 4000000 in
theorem refGet_any (l : List Ht.Hd) (A : Option Addr) (c : Nat) (name : Ht.Bs) (w : World) (hl : l.length ≤ 1048576) (hA : HdsAt w A l) (hL : HdsLen l) (hn : name.length ≤ 1073741824) :
    Calls Tryz.prog 30 #[.slice A l.length c, .string ⟨name.toArray⟩] w fun e w' => e = .returned (.tuple #[.string ⟨(Ht.getOf l name).1.toArray⟩, .bool (Ht.getOf l name).2]) ∧ Below w.heap.size w w' := by
  have HL := Lib.hid hL
  have HA := Lib.hid hA
  clear hL hA
  go_enter Tryz.func30, Tryz.ntmps30
  go_wp2_with fail
  go_loopw [7, 10] (fun _ i wr => ∃ k : Nat, k ≤ l.length ∧ i = .int .i64 k ∧ Hid ((l.take k).find? (fun h => Ht.alikeB h.name name) = none) ∧ Below w.heap.size w wr) (fun _ i _ => l.length - (intOf i).toNat)
  case atStart => exact ⟨0, Nat.zero_le _, rfl, rfl, Below.refl _ _⟩
  case round =>
    obtain ⟨k, hk, rfl, H, hbw⟩ := hrel
    by_cases hlt : k < l.length
    · have hx : l[k]? = some l[k] := List.getElem?_eq_getElem hlt
      have hxl := HL.out _ (List.getElem_mem hlt)
      generalize l[k] = x at hx hxl
      have HX := Lib.hid hx
      obtain ⟨bb, off, rfl, hbl, c0, c1⟩ := (HA.out.next hbw (Nat.le_refl _)).at_ hx
      obtain ⟨xn, xv⟩ := x
      dsimp only at c0 c1 hxl
      obtain ⟨q, hq⟩ : ∃ q, Ht.alikeB xn name = q := ⟨_, rfl⟩
      have HT := Lib.hid (fun W => refAlike_b xn name W hxl.1 hn hq)
      have HB := Lib.hid (hbw.trans ((below_box wr (.cells #[.string ⟨xn.toArray⟩, .string ⟨xv.toArray⟩] 65)).mono hbw.size))
      have HC := Lib.hid (blk2 (heap_alloc_new wr (.cells #[.string ⟨xn.toArray⟩, .string ⟨xv.toArray⟩] 65)))
      clear hx hbw
      go_wp2_with fail
      generalize wr.alloc (.cells #[.string ⟨xn.toArray⟩, .string ⟨xv.toArray⟩] 65) = w1 at HB HC ⊢
      refine (HT.out _).mono ?_
      rintro e w2 ⟨rfl, m, rfl⟩
      have HB2 := Lib.hid (below_drewN HB.out m)
      obtain ⟨d0, d1⟩ := HC.out
      clear c0 c1 hbl HT
      cases q with
      | true =>
        have HR := Lib.hid (get_hit HX.out H.out hq)
        clear hq
        go_wp2_with fail
        go_ret2
        exact ⟨by rw [HR.out]; rfl, HB2.out⟩
      | false =>
        have HR := Lib.hid (get_next HX.out H.out hq)
        clear hq
        go_wp2_with fail
        go_roundw
        case rel => exact ⟨k + 1, by omega, by go_num, HR, HB2.out⟩
        case measure => simp [intOf]; omega
    · obtain rfl : k = l.length := by omega
      have HR := Lib.hid (get_none H.out)
      have HB := Lib.hid hbw
      clear H hbw
      go_wp2_with fail
      go_ret2
      exact ⟨by rw [HR.out]; rfl, HB.out⟩
set_option maxRecDepth 100000 in
set_option maxHeartbeats 8000000 in
theorem tells_law (l : List Ht.Hd) (A : Option Addr) (c : Nat) (s : ByteArray) (z : Int) (w : World) (henv : Env w) (hl : l.length ≤ 9223372036854775807) (hA : HdsAt w A l) (hF : HdsFit l) (hs : s.size ≤ 9223372036854775807)
    (hz1 : -9223372036854775808 ≤ z) (hz2 : z ≤ 9223372036854775807) :
    Calls Tryz.prog 8 #[.slice A l.length c, .string s, .int .i64 z] w fun e w' => e = .returned (.bool true) ∧ Below w.heap.size w w' := by
  obtain ⟨nm, rfl⟩ : ∃ nm : Ht.Bs, s = ⟨nm.toArray⟩ := ⟨_, bytes_list s⟩
  have hnl : nm.length ≤ 9223372036854775807 := by rw [Lib.size_eq] at hs; exact hs
  obtain ⟨n1, hn1⟩ : ∃ n1, nm.take 50 = n1 := ⟨_, rfl⟩
  have hm1 : min (nm.length : Int) 50 = (n1.length : Int) := by rw [← hn1, List.length_take]; omega
  have ht1 : n1.length ≤ nm.length := by rw [← hn1]; exact List.length_take_le' _ _
  have ht2 : n1.length ≤ 50 := by rw [← hn1]; exact List.length_take_le _ _
  have he1 := cut_str nm 50
  rw [hn1] at he1
  have HWK := Lib.hid (wakes_any w henv)
  have HA := Lib.hid (fun W (hW : Below w.heap.size w W) => hA.next hW (Nat.le_refl _))
  clear hn1 hs henv hA
  go_enter Tryz.func8, Tryz.ntmps8
  go_wp2_with fail
  refine HWK.out.mono ?_
  rintro e w1 ⟨rfl, hb1⟩
  have HW1 := Lib.hid hb1
  clear hb1 HWK
  go_wp2_with fail
  refine wp_region_any (by kernel_rfl) ?_
  change wpAny _ _ _ _ _ _ _ (World.drew _)
  have HWd : Hid (Below w.heap.size w w1.drew) := Lib.hid (below_drewN HW1.out 1)
  generalize w1.drew = W2 at HWd ⊢
  clear HW1
  have HHD := Lib.hid (headers_any l A c W2 hl (HA.out W2 HWd.out) hF)
  refine wpAny_of_till (S := fun _ => True) (st := fun _ => false) _ _ _ _ ?_
  change wpTill _ _ _ _ _ _ _ #[false, false, false, false, false, false, false, false, false] _ _
  refine wpTill_takeF (i := 0) (v := .slice A l.length c) rfl (by kernel_rfl) (by kernel_rfl) (by kernel_rfl) (fun l => rfl) (fun _ _ _ h => h) (Or.inl ⟨by rfl, ?yb0⟩) (fun _ => trivial) ?_
  case yb0 => (intro w hS; go_simp; (try with_reducible rfl))
  simp only [Act.put, List.getElem_toArray, List.getElem_cons_zero, List.getElem_cons_succ, List.setIfInBounds_toArray, List.set_cons_zero, List.set_cons_succ]
  refine wpTill_takeF (i := 2) (v := .string ⟨nm.toArray⟩) rfl (by kernel_rfl) (by kernel_rfl) (by kernel_rfl) (fun l => rfl) (fun _ _ _ h => h) (Or.inl ⟨by rfl, ?yb2⟩) (fun _ => trivial) ?_
  case yb2 => (intro w hS; go_simp; (try with_reducible rfl))
  simp only [Act.put, List.getElem_toArray, List.getElem_cons_zero, List.getElem_cons_succ, List.setIfInBounds_toArray, List.set_cons_zero, List.set_cons_succ]
  refine wpTill_takeF (i := 3) (v := .string ⟨nm.toArray⟩) rfl (by kernel_rfl) (by kernel_rfl) (by kernel_rfl) (fun l => rfl) (fun _ _ _ h => h) (Or.inl ⟨by rfl, ?yb3⟩) (fun _ => trivial) ?_
  case yb3 => (intro w hS; go_simp; (try with_reducible rfl))
  simp only [Act.put, List.getElem_toArray, List.getElem_cons_zero, List.getElem_cons_succ, List.setIfInBounds_toArray, List.set_cons_zero, List.set_cons_succ]
  refine wpTill_takeF (i := 4) (v := .int .i64 (nm.length : Int)) rfl (by kernel_rfl) (by kernel_rfl) (by kernel_rfl) (fun l => rfl) (fun _ _ _ h => h) (Or.inl ⟨by rfl, ?yb4⟩) (fun _ => trivial) ?_
  case yb4 => (intro w hS; go_simp; (try with_reducible rfl))
  simp only [Act.put, List.getElem_toArray, List.getElem_cons_zero, List.getElem_cons_succ, List.setIfInBounds_toArray, List.set_cons_zero, List.set_cons_succ]
  refine wpTill_takeF (i := 5) (v := .int .i64 (n1.length : Int)) rfl (by kernel_rfl) (by kernel_rfl) (by kernel_rfl) (fun l => rfl) (fun _ _ _ h => h) (Or.inl ⟨by rfl, ?yb5⟩) (fun _ => trivial) ?_
  case yb5 => (intro w hS; go_simp; (try with_reducible rfl))
  simp only [Act.put, List.getElem_toArray, List.getElem_cons_zero, List.getElem_cons_succ, List.setIfInBounds_toArray, List.set_cons_zero, List.set_cons_succ]
  refine wpTill_takeF (i := 6) (v := .string ⟨n1.toArray⟩) rfl (by kernel_rfl) (by kernel_rfl) (by kernel_rfl) (fun l => rfl) (fun _ _ _ h => h) (Or.inl ⟨by rfl, ?yb6⟩) (fun _ => trivial) ?_
  case yb6 => (intro w hS; go_simp; (try with_reducible rfl))
  simp only [Act.put, List.getElem_toArray, List.getElem_cons_zero, List.getElem_cons_succ, List.setIfInBounds_toArray, List.set_cons_zero, List.set_cons_succ]
  refine wpTill_ready (rs := [1]) (by kernel_rfl) (by simp) ?_
  refine (AllTill.cons rfl (fun KK hKK => ?_) AllTill.nil)
  rw [if_pos (by rfl)]
  go_simp
  refine HHD.out.mono ?_
  rintro e W3 ⟨vh, rfl, hO3, hb3⟩
  obtain ⟨A3, n3, rfl, _, hH3⟩ := hO3.heads
  have HH3 := Lib.hid hH3
  have HW3 := Lib.hid (HWd.out.trans (hb3.mono HWd.out.size))
  clear hO3 hb3 hH3
  refine hKK _ _ (fun _ => trivial) ?_
  clear hKK KK
  simp only [Act.put, List.getElem_toArray, List.getElem_cons_zero, List.getElem_cons_succ, List.setIfInBounds_toArray, List.set_cons_zero, List.set_cons_succ]
  refine wpTill_ready (rs := [7]) (by kernel_rfl) (by simp) ?_
  refine (AllTill.cons rfl (fun KK hKK => ?_) AllTill.nil)
  rw [if_pos (by rfl)]
  go_simp
  refine hKK _ _ (fun _ => trivial) ?_
  clear hKK KK
  simp only [Act.put, List.getElem_toArray, List.getElem_cons_zero, List.getElem_cons_succ, List.setIfInBounds_toArray, List.set_cons_zero, List.set_cons_succ]
  refine wpTill_ready (rs := [8]) (by kernel_rfl) (by simp) ?_
  refine (AllTill.cons rfl (fun KK hKK => ?_) AllTill.nil)
  rw [if_pos (by rfl)]
  go_simp
  refine hKK _ _ (fun _ => trivial) ?_
  clear hKK KK
  simp only [Act.put, List.getElem_toArray, List.getElem_cons_zero, List.getElem_cons_succ, List.setIfInBounds_toArray, List.set_cons_zero, List.set_cons_succ]
  refine wpTill_done (by kernel_rfl) ?_ _
  (try simp only [noPanic])
  simp only [Exit.then]
  obtain ⟨lc, hlc⟩ : ∃ lc, cutHs l = lc := ⟨_, rfl⟩
  have hsm := cutHs_small l
  rw [hlc] at HH3 hsm
  obtain ⟨m1, m2⟩ := heads_len hsm.2
  have hl20 := hsm.1
  have HG1 := Lib.hid (get_any lc A3 n3 n1 W3 (by omega) HH3.out m2 (by omega))
  have HG2 := Lib.hid (fun W (hW : Below W3.heap.size W3 W) => refGet_any lc A3 n3 n1 W (by omega) (HH3.out.next hW (Nat.le_refl _)) m2 (by omega))
  obtain ⟨⟨g1, g2⟩, hg⟩ : ∃ x, Ht.getOf lc n1 = x := ⟨_, rfl⟩
  rw [hg] at HG1 HG2
  rw [hlc]
  clear hg hlc hsm m1 m2 hl20 hm1 he1 HHD HWd HH3
  have HRe := Lib.hid (fun n W => reason_any n W)
  have HRr := Lib.hid (fun n W => refReason_any n W)
  have HSe := Lib.hid (fun n W => status_any n W)
  have HSr := Lib.hid (fun n W => refStatus_any n W)
  go_wp2_with fail
  refine HG1.out.mono ?_
  rintro e W4 ⟨rfl, hb4⟩
  have HB4 := Lib.hid hb4
  clear hb4 HG1
  go_wp2_with fail
  refine (HG2.out _ HB4.out).mono ?_
  rintro e W5 ⟨rfl, hb5⟩
  have HW5 := Lib.hid (HW3.out.trans ((HB4.out.trans (hb5.mono HB4.out.size)).mono HW3.out.size))
  clear hb5 HG2 HB4 HW3
  cases g2
  all_goals
    go_wp2_with fail
    refine (HRe.out z W5).mono ?_
    rintro e Wa ⟨rfl, hba⟩
    have HBa := Lib.hid hba
    clear hba
    go_wp2_with fail
    refine (HRr.out z _).mono ?_
    rintro e Wb ⟨rfl, rfl⟩
    go_wp2_with fail
    refine (HSe.out z _).mono ?_
    rintro e Wc ⟨rfl, hbc⟩
    have HBc := Lib.hid hbc
    clear hbc
    go_wp2_with fail
    refine (HSr.out z _).mono ?_
    rintro e Wd ⟨rfl, rfl⟩
    have HB := Lib.hid (HW5.out.trans ((HBa.out.trans (HBc.out.mono HBa.out.size)).mono HW5.out.size))
    clear HW5 HBa HBc
    go_wp2_with fail
    go_loopw [11] (fun i wr => ∃ k : Nat, k ≤ 620 ∧ i = .int .i64 k ∧ Below w.heap.size w wr) (fun i _ => 620 - (intOf i).toNat)
    case atStart => exact ⟨0, by omega, rfl, HB.out⟩
    case round =>
      obtain ⟨k, hk, rfl, hbw⟩ := hrel
      have HW := Lib.hid hbw
      clear hbw HB
      by_cases hlt : k < 620
      · go_wp2_with fail
        refine (HRe.out (k : Int) wr).mono ?_
        rintro e Wa ⟨rfl, hba⟩
        have HBa := Lib.hid hba
        clear hba
        go_wp2_with fail
        refine (HRr.out (k : Int) _).mono ?_
        rintro e Wb ⟨rfl, rfl⟩
        go_wp2_with fail
        refine (HSe.out (k : Int) _).mono ?_
        rintro e Wc ⟨rfl, hbc⟩
        have HBc := Lib.hid hbc
        clear hbc
        go_wp2_with fail
        refine (HSr.out (k : Int) _).mono ?_
        rintro e Wd ⟨rfl, rfl⟩
        have HB := Lib.hid (HW.out.trans ((HBa.out.trans (HBc.out.mono HBa.out.size)).mono HW.out.size))
        clear HW HBa HBc
        go_wp2_with fail
        go_roundw
        case rel => exact ⟨k + 1, by omega, by go_num, HB.out⟩
        case measure => simp [intOf]; omega
      · obtain rfl : k = 620 := by omega
        go_wp2_with fail
        go_ret
        exact ⟨rfl, HW.out⟩
end Go.Proofs.YtoadahommlcjpaaGreatDoor
