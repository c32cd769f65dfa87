/-
  THE WALKS: Digits, head, RequestHead, ResponseHead of the document. CONDITIONS: rows lie as said; lengths.
-/
import Derived.Test.YtoadahommlcjpaaGreatDoorRight
import Derived.Lib.ItoaLen
import Derived.Laws.Concat
import Derived.Test.YtoadahommlcjpaaGreatDoorTells
namespace Go.Proofs.YtoadahommlcjpaaGreatDoor
open Go.RowKit
theorem digit_text {d : Nat} (hd : d < 10) : Utf8.encode (((48 + d : Nat) : Int)) = ⟨#[UInt8.ofNat (48 + d)]⟩ := by
  match d, hd with
  | 0, _ => rfl
  | 1, _ => rfl
  | 2, _ => rfl
  | 3, _ => rfl
  | 4, _ => rfl
  | 5, _ => rfl
  | 6, _ => rfl
  | 7, _ => rfl
  | 8, _ => rfl
  | 9, _ => rfl
  | n + 10, h => omega
theorem dec_small {u : Nat} (h : u < 10) : Lib.decDigits u = [UInt8.ofNat (48 + u)] := by rw [Lib.decDigits, dif_pos h]
theorem dec_big {u : Nat} (h : ¬ u < 10) : Lib.decDigits u = Lib.decDigits (u / 10) ++ [UInt8.ofNat (48 + u % 10)] := by rw [Lib.decDigits, dif_neg h]
/-- What is left of a number, and what of its digits stands already. -/
def DigInv (N u : Nat) (s : Ht.Bs) : Prop := (u = 0 → s = Lib.decDigits N) ∧ (u ≠ 0 → Lib.decDigits u ++ s = Lib.decDigits N)
theorem DigInv.start (N : Nat) : DigInv N (N / 10) [UInt8.ofNat (48 + N % 10)] := by
  by_cases h : N < 10
  · have h0 : N / 10 = 0 := by omega
    have h1 : N % 10 = N := by omega
    exact ⟨fun _ => by rw [dec_small h, h1], fun hn => absurd h0 hn⟩
  · exact ⟨fun hz => by omega, fun _ => by rw [dec_big h]⟩
theorem DigInv.next {N u : Nat} {s : Ht.Bs} (h : DigInv N u s) (hu : u ≠ 0) : DigInv N (u / 10) (UInt8.ofNat (48 + u % 10) :: s) := by
  have h2 := h.2 hu
  by_cases h9 : u < 10
  · have h0 : u / 10 = 0 := by omega
    have h1 : u % 10 = u := by omega
    refine ⟨fun _ => ?_, fun hn => absurd h0 hn⟩
    rw [dec_small h9] at h2
    rw [h1, ← h2]; rfl
  · refine ⟨fun hz => by omega, fun _ => ?_⟩
    rw [dec_big h9, List.append_assoc] at h2
    exact h2
theorem DigInv.len {N u : Nat} {s : Ht.Bs} (h : DigInv N u s) (hN : N ≤ 9223372036854775807) : s.length ≤ 21 := by
  have hl := Lib.itoa_length_le (N : Int) (by omega) (by omega)
  rw [Lib.itoa_nonneg] at hl
  by_cases hu : u = 0
  · rw [h.1 hu]; exact hl
  · rw [← h.2 hu, List.length_append] at hl; omega
theorem digit_int (u : Nat) : Utf8.encode (48 + (u : Int) % 10) = ⟨#[UInt8.ofNat (48 + u % 10)]⟩ := by
  rw [← digit_text (Nat.mod_lt u (by omega : 10 > 0))]
  congr 1
theorem digit_join (c : UInt8) (t : Ht.Bs) : (⟨#[c]⟩ : ByteArray) ++ ⟨t.toArray⟩ = ⟨(c :: t).toArray⟩ := by
  apply ByteArray.ext
  simp
theorem add_any (a b : ByteArray) (h : a.size + b.size ≤ 9223372036854775807) : ∃ T : ByteArray, (∀ w, (Op.stringOp .add a b).run Tryz.prog w = .ok (.string T) w) ∧ T = a ++ b :=
  ⟨_, fun w => run_string_add_sum w _ _ h, rfl⟩
theorem app_bs (x y : Ht.Bs) : (⟨x.toArray⟩ : ByteArray) ++ ⟨y.toArray⟩ = ⟨(x ++ y).toArray⟩ := by
  apply ByteArray.ext
  simp
theorem add_bs (x y : Ht.Bs) (h : x.length + y.length ≤ 9223372036854775807) : ∃ T : ByteArray, (∀ w, (Op.stringOp .add ⟨x.toArray⟩ ⟨y.toArray⟩).run Tryz.prog w = .ok (.string T) w) ∧ T = ⟨(x ++ y).toArray⟩ := by
  refine ⟨_, fun w => ?_, rfl⟩
  rw [run_string_add_sum w _ _ (by rw [Lib.size_eq, Lib.size_eq]; exact h), app_bs]
set_option maxRecDepth 100000 in
set_option maxHeartbeats 4000000 in
theorem refDigits_any (N : Nat) (w : World) (hN : N ≤ 9223372036854775807) :
    Calls Tryz.prog 54 #[.int .i64 N] w fun e w' => e = .returned (.string ⟨(Lib.itoa N).toArray⟩) ∧ w' = w := by
  go_enter Tryz.func54, Tryz.ntmps54
  go_wp2_with fail
  go_loopw [0, 3] (fun n s wr => ∃ (u : Nat) (t : Ht.Bs), u ≤ 9223372036854775807 ∧ n = .int .i64 u ∧ s = .string ⟨t.toArray⟩ ∧ DigInv N u t ∧ wr = w) (fun n _ _ => (intOf n).toNat)
  case atStart => exact ⟨N / 10, [UInt8.ofNat (48 + N % 10)], by omega, by go_num, by rw [digit_int], DigInv.start N, rfl⟩
  case round =>
    obtain ⟨u, t, hu, rfl, rfl, hi, rfl⟩ := hrel
    have hlen := hi.len hN
    by_cases h0 : u = 0
    · subst h0
      have ht := Lib.hid (hi.1 rfl)
      go_wp2_with fail
      go_ret
      exact ⟨by rw [Lib.itoa_nonneg, ← ht.out]; rfl, rfl⟩
    · have hn := Lib.hid (hi.next h0)
      obtain ⟨T, hT, HT⟩ := add_any (Utf8.encode (48 + (u : Int) % 10)) ⟨t.toArray⟩ (by rw [digit_int, Lib.size_eq, Lib.size_eq]; simp; omega)
      rw [digit_int, digit_join] at HT
      have HT := Lib.hid HT
      have h1 : 0 < (u : Int) := by omega
      clear hi
      go_wp2_with fail
      go_roundw
      case rel => exact ⟨u / 10, UInt8.ofNat (48 + u % 10) :: t, by omega, by go_num, by simp [UInt8.ofNat_add], hn.out, trivial⟩
      case measure => simp [intOf]; omega
set_option maxRecDepth 100000 in
set_option maxHeartbeats 4000000 in
theorem refHead_any (f : Ht.Bs) (l : List Ht.Hd) (A : Option Addr) (c n : Nat) (w : World) (hf : f.length ≤ 1073741826) (hl : l.length ≤ 1048576) (hA : HdsAt w A l) (hL : HdsLen l) (hT : (l.flatMap Ht.hdLine).length ≤ 1099511627776) (hn : n ≤ 9223372036854775807) :
    Calls Tryz.prog 53 #[.string ⟨f.toArray⟩, .slice A l.length c, .int .i64 n] w fun e w' => e = .returned (.string ⟨(Ht.headOf f l n).toArray⟩) ∧ Below w.heap.size w w' := by
  have HL := Lib.hid hL
  have HA := Lib.hid hA
  clear hL hA
  go_enter Tryz.func53, Tryz.ntmps53
  go_wp2_with fail
  go_loopw [7, 9, 14] (fun s _ i wr => ∃ (k : Nat) (t : Ht.Bs), k ≤ l.length ∧ i = .int .i64 k ∧ s = .string ⟨t.toArray⟩ ∧ Hid (t = (f ++ [13, 10]) ++ (l.take k).flatMap Ht.hdLine) ∧ Below w.heap.size w wr) (fun _ _ i _ => l.length - (intOf i).toNat)
  case atStart => exact ⟨0, f ++ [13, 10], Nat.zero_le _, rfl, rfl, Lib.hid (by simp), Below.refl _ _⟩
  case round =>
    obtain ⟨k, t, hk, rfl, rfl, HS, hbw⟩ := hrel
    have htl : t.length ≤ 1101659111426 := by
      have hft := flat_take l k
      rw [HS.out, List.length_append, List.length_append]
      simp only [List.length_cons, List.length_nil]
      omega
    by_cases hlt : k < l.length
    · have hx : l[k]? = some l[k] := List.getElem?_eq_getElem hlt
      have hxl := HL.out _ (List.getElem_mem hlt)
      have HN : Hid ((l.take (k + 1)).flatMap Ht.hdLine = (l.take k).flatMap Ht.hdLine ++ Ht.hdLine l[k]) := Lib.hid (by
        rw [List.take_succ_eq_append_getElem hlt, List.flatMap_append]; simp)
      generalize l[k] = x at hx hxl HN
      obtain ⟨bb, off, rfl, hbl, c0, c1⟩ := (HA.out.next hbw (Nat.le_refl _)).at_ hx
      obtain ⟨xn, xv⟩ := x
      dsimp only at c0 c1 hxl
      have HB := Lib.hid (hbw.trans ((below_box wr (.cells #[.string ⟨xn.toArray⟩, .string ⟨xv.toArray⟩] 65)).mono hbw.size))
      obtain ⟨d0, d1⟩ := blk2 (heap_alloc_new wr (.cells #[.string ⟨xn.toArray⟩, .string ⟨xv.toArray⟩] 65))
      clear hx hbw
      by_cases hv : xv = []
      · subst hv
        have HF : Hid (t ++ (xn ++ [58]) ++ [13, 10] = (f ++ [13, 10]) ++ (l.take (k + 1)).flatMap Ht.hdLine) := Lib.hid (by rw [HS.out, HN.out]; unfold Ht.hdLine; simp)
        go_wp2_with fail
        go_roundw
        case rel => exact ⟨k + 1, _, by omega, by go_num, rfl, HF, HB.out⟩
        case measure => simp [intOf]; omega
      · have hv1 : List.isEmpty xv = false := by simpa using hv
        have HF : Hid (t ++ (xn ++ [58]) ++ (32 :: xv) ++ [13, 10] = (f ++ [13, 10]) ++ (l.take (k + 1)).flatMap Ht.hdLine) := Lib.hid (by rw [HS.out, HN.out]; unfold Ht.hdLine; simp [hv])
        go_wp2_with fail
        go_roundw
        case rel => exact ⟨k + 1, _, by omega, by go_num, rfl, HF, HB.out⟩
        case measure => simp [intOf]; omega
    · obtain rfl : k = l.length := by omega
      have HB := Lib.hid hbw
      have HF : Hid (t ++ [67, 111, 110, 116, 101, 110, 116, 45, 76, 101, 110, 103, 116, 104, 58, 32] ++ Lib.itoa n ++ [13, 10, 13, 10] = Ht.headOf f l n) := Lib.hid (by
        rw [HS.out, List.take_length]; unfold Ht.headOf Ht.lenW; simp)
      have hil := Lib.itoa_length_le (n : Int) (by omega) (by omega)
      have HD := Lib.hid (fun W => refDigits_any n W hn)
      clear hbw HS
      go_wp2_with fail
      refine (HD.out _).mono ?_
      rintro e w2 ⟨rfl, rfl⟩
      generalize Lib.itoa (n : Int) = dg at hil HF ⊢
      go_wp2_with fail
      go_ret
      exact ⟨by rw [← HF.out]; rfl, HB.out⟩
set_option maxRecDepth 100000 in
set_option maxHeartbeats 4000000 in
theorem refReqHead_any (r : Ht.Req) (A : Option Addr) (c : Nat) (B : Option Addr) (d : Nat) (w : World) (h : ReqAt w r A B) :
    Calls Tryz.prog 26 #[reqV r A c B d] w fun e w' => e = .returned (.string ⟨(Ht.headOf (Ht.firstReq r) r.heads r.body.length).toArray⟩) ∧ Below w.heap.size w w' := by
  have HF : Hid (r.method ++ [32] ++ r.target ++ [32, 72, 84, 84, 80, 47, 49, 46, 49] = Ht.firstReq r) := Lib.hid (by unfold Ht.firstReq Ht.verW; simp)
  generalize Ht.firstReq r = f at HF ⊢
  obtain ⟨m, t, hs, bd⟩ := r
  have hml := h.ml
  have htl := h.tl
  have hbl := h.bl
  dsimp only [reqV] at hml htl hbl HF ⊢
  have HB0 := Lib.hid (heap_alloc_new w (.cells #[.string ⟨m.toArray⟩, .string ⟨t.toArray⟩, .slice A hs.length c, .slice B bd.length d] 26))
  have HW0 := Lib.hid (below_box w (.cells #[.string ⟨m.toArray⟩, .string ⟨t.toArray⟩, .slice A hs.length c, .slice B bd.length d] 26))
  have hfl : f.length ≤ 1073741826 := by rw [← HF.out]; simp; omega
  have H3 := Lib.hid (fun W (hW : Below w.heap.size w W) => refHead_any f hs A c bd.length W hfl h.hl (h.next hW).heads h.hL h.fl (by omega))
  clear h hfl
  go_enter Tryz.func26, Tryz.ntmps26
  obtain ⟨c0, c1, c2, c3⟩ := blk4 HB0.out
  go_wp2_with fail
  simp only [app_bs]
  rw [HF.out]
  refine (H3.out _ HW0.out).mono ?_
  rintro e w2 ⟨rfl, hb2⟩
  have HW2 := Lib.hid (HW0.out.trans (hb2.mono HW0.out.size))
  clear hb2 HB0 HW0 c0 c1 c2 c3
  go_wp2_with fail
  go_ret
  exact ⟨rfl, HW2.out⟩
set_option maxRecDepth 100000 in
set_option maxHeartbeats 4000000 in
theorem refRspHead_any (r : Ht.Rsp) (A : Option Addr) (c : Nat) (B : Option Addr) (d : Nat) (w : World) (h : RspAt w r A B) (h0 : 0 ≤ r.status) :
    Calls Tryz.prog 22 #[rspV r A c B d] w fun e w' => e = .returned (.string ⟨(Ht.headOf (Ht.firstRsp r) r.heads r.body.length).toArray⟩) ∧ Below w.heap.size w w' := by
  obtain ⟨s, hs, bd⟩ := r
  obtain ⟨n, rfl⟩ : ∃ n : Nat, s = n := ⟨s.toNat, by dsimp only at h0; omega⟩
  have hn := h.s1
  dsimp only at hn
  have HF : Hid ([72, 84, 84, 80, 47, 49, 46, 49, 32] ++ Lib.itoa n ++ [32] ++ Ht.reasonOf n = Ht.firstRsp ⟨n, hs, bd⟩) := Lib.hid (by unfold Ht.firstRsp Ht.verW; simp)
  generalize Ht.firstRsp ⟨n, hs, bd⟩ = f at HF ⊢
  have hbl := h.bl
  dsimp only [rspV] at hbl ⊢
  have hil := Lib.itoa_length_le (n : Int) (by omega) (by omega)
  have hrl := reason_len (n : Int)
  have HD := Lib.hid (fun W => refDigits_any n W (by omega))
  have HS := Lib.hid (fun W => refReason_any (n : Int) W)
  have HB0 := Lib.hid (heap_alloc_new w (.cells #[.int .i64 n, .slice A hs.length c, .slice B bd.length d] 36))
  have HW0 := Lib.hid (below_box w (.cells #[.int .i64 n, .slice A hs.length c, .slice B bd.length d] 36))
  generalize Lib.itoa (n : Int) = dg at hil HF HD
  generalize Ht.reasonOf (n : Int) = rs at hrl HF HS
  have hfl : f.length ≤ 1073741826 := by rw [← HF.out]; simp; omega
  have H3 := Lib.hid (fun W (hW : Below w.heap.size w W) => refHead_any f hs A c bd.length W hfl h.hl (h.next hW).heads h.hL h.fl (by omega))
  clear h hfl h0
  go_enter Tryz.func22, Tryz.ntmps22
  go_wp2_with fail
  refine wp_region_any (by kernel_rfl) ?_
  change wpAny _ _ _ _ _ _ _ (World.drew _)
  generalize hw1 : w.alloc (.cells #[.int .i64 n, .slice A hs.length c, .slice B bd.length d] 36) = w1 at HB0 HW0 ⊢
  clear hw1
  have HB1 : Hid (w1.drew.heap[w.heap.size]? = some (.cells #[.int .i64 n, .slice A hs.length c, .slice B bd.length d] 36 (0, 0))) := HB0
  have HW1 : Hid (Below w.heap.size w w1.drew) := Lib.hid (below_drewN HW0.out 1)
  generalize w1.drew = W at HB1 HW1 ⊢
  clear HB0 HW0
  refine wpAny_of_till (S := fun W => W.heap[w.heap.size]? = some (.cells #[.int .i64 n, .slice A hs.length c, .slice B bd.length d] 36 (0, 0))) (st := fun _ => false) _ _ _ _ ?_
  change wpTill _ _ _ _ _ _ _ #[false, false, false, false, false, false, false, false, false, false, false, false, false, false, false, false] _ _
  refine wpTill_take (i := 0) (v := .pointer (some ⟨w.heap.size, 0, none⟩)) rfl (by kernel_rfl) (by kernel_rfl) (by kernel_rfl) (show Shutd _ _ #[false, false, false, false, false, false, false, false, false, false, false, false, false, false, false, false] from Shutd.start 16) (fun l h h9 => by cases h9) (fun l => rfl) (fun _ _ _ h => h) (Or.inl ⟨by rfl, ?yb0⟩) HB1.out (fun hsh' => ?_)
  case yb0 => (intro w hS; obtain ⟨c0, c1, c2⟩ := blk3 hS; go_simp; (try with_reducible rfl); (try omega))
  have hsh := hsh'
  clear hsh'
  simp only [Act.put, List.getElem_toArray, List.getElem_cons_zero, List.setIfInBounds_toArray, List.set_cons_zero, List.set_cons_succ] at hsh ⊢
  refine wpTill_take (i := 1) (v := .int .i64 n) rfl (by kernel_rfl) (by kernel_rfl) (by kernel_rfl) hsh (fun l h h9 => by cases h9) (fun l => rfl) (fun _ _ _ h => h) (Or.inl ⟨by rfl, ?yb1⟩) HB1.out (fun hsh' => ?_)
  case yb1 => (intro w hS; obtain ⟨c0, c1, c2⟩ := blk3 hS; go_simp; (try with_reducible rfl); (try omega))
  have hsh := hsh'
  clear hsh'
  simp only [Act.put, List.getElem_toArray, List.getElem_cons_zero, List.getElem_cons_succ, List.setIfInBounds_toArray, List.set_cons_zero, List.set_cons_succ] at hsh ⊢
  refine wpTill_take (i := 5) (v := .pointer (some ⟨w.heap.size, 0, none⟩)) rfl (by kernel_rfl) (by kernel_rfl) (by kernel_rfl) hsh (fun l h h9 => by cases h9) (fun l => rfl) (fun _ _ _ h => h) (Or.inl ⟨by rfl, ?yb5⟩) HB1.out (fun hsh' => ?_)
  case yb5 => (intro w hS; obtain ⟨c0, c1, c2⟩ := blk3 hS; go_simp; (try with_reducible rfl); (try omega))
  have hsh := hsh'
  clear hsh'
  simp only [Act.put, List.getElem_toArray, List.getElem_cons_zero, List.getElem_cons_succ, List.setIfInBounds_toArray, List.set_cons_zero, List.set_cons_succ] at hsh ⊢
  refine wpTill_take (i := 6) (v := .int .i64 n) rfl (by kernel_rfl) (by kernel_rfl) (by kernel_rfl) hsh (fun l h h9 => by cases h9) (fun l => rfl) (fun _ _ _ h => h) (Or.inl ⟨by rfl, ?yb6⟩) HB1.out (fun hsh' => ?_)
  case yb6 => (intro w hS; obtain ⟨c0, c1, c2⟩ := blk3 hS; go_simp; (try with_reducible rfl); (try omega))
  have hsh := hsh'
  clear hsh'
  simp only [Act.put, List.getElem_toArray, List.getElem_cons_zero, List.getElem_cons_succ, List.setIfInBounds_toArray, List.set_cons_zero, List.set_cons_succ] at hsh ⊢
  refine wpTill_take (i := 9) (v := .pointer (some ⟨w.heap.size, 1, none⟩)) rfl (by kernel_rfl) (by kernel_rfl) (by kernel_rfl) hsh (fun l h h9 => by cases h9) (fun l => rfl) (fun _ _ _ h => h) (Or.inl ⟨by rfl, ?yb9⟩) HB1.out (fun hsh' => ?_)
  case yb9 => (intro w hS; obtain ⟨c0, c1, c2⟩ := blk3 hS; go_simp; (try with_reducible rfl); (try omega))
  have hsh := hsh'
  clear hsh'
  simp only [Act.put, List.getElem_toArray, List.getElem_cons_zero, List.getElem_cons_succ, List.setIfInBounds_toArray, List.set_cons_zero, List.set_cons_succ] at hsh ⊢
  refine wpTill_take (i := 10) (v := .slice A hs.length c) rfl (by kernel_rfl) (by kernel_rfl) (by kernel_rfl) hsh (fun l h h9 => by cases h9) (fun l => rfl) (fun _ _ _ h => h) (Or.inl ⟨by rfl, ?yb10⟩) HB1.out (fun hsh' => ?_)
  case yb10 => (intro w hS; obtain ⟨c0, c1, c2⟩ := blk3 hS; go_simp; (try with_reducible rfl); (try omega))
  have hsh := hsh'
  clear hsh'
  simp only [Act.put, List.getElem_toArray, List.getElem_cons_zero, List.getElem_cons_succ, List.setIfInBounds_toArray, List.set_cons_zero, List.set_cons_succ] at hsh ⊢
  refine wpTill_take (i := 11) (v := .pointer (some ⟨w.heap.size, 2, none⟩)) rfl (by kernel_rfl) (by kernel_rfl) (by kernel_rfl) hsh (fun l h h9 => by cases h9) (fun l => rfl) (fun _ _ _ h => h) (Or.inl ⟨by rfl, ?yb11⟩) HB1.out (fun hsh' => ?_)
  case yb11 => (intro w hS; obtain ⟨c0, c1, c2⟩ := blk3 hS; go_simp; (try with_reducible rfl); (try omega))
  have hsh := hsh'
  clear hsh'
  simp only [Act.put, List.getElem_toArray, List.getElem_cons_zero, List.getElem_cons_succ, List.setIfInBounds_toArray, List.set_cons_zero, List.set_cons_succ] at hsh ⊢
  refine wpTill_take (i := 12) (v := .slice B bd.length d) rfl (by kernel_rfl) (by kernel_rfl) (by kernel_rfl) hsh (fun l h h9 => by cases h9) (fun l => rfl) (fun _ _ _ h => h) (Or.inl ⟨by rfl, ?yb12⟩) HB1.out (fun hsh' => ?_)
  case yb12 => (intro w hS; obtain ⟨c0, c1, c2⟩ := blk3 hS; go_simp; (try with_reducible rfl); (try omega))
  have hsh := hsh'
  clear hsh'
  simp only [Act.put, List.getElem_toArray, List.getElem_cons_zero, List.getElem_cons_succ, List.setIfInBounds_toArray, List.set_cons_zero, List.set_cons_succ] at hsh ⊢
  refine wpTill_take (i := 13) (v := .int .i64 bd.length) rfl (by kernel_rfl) (by kernel_rfl) (by kernel_rfl) hsh (fun l h h9 => by cases h9) (fun l => rfl) (fun _ _ _ h => h) (Or.inl ⟨by rfl, ?yb13⟩) HB1.out (fun hsh' => ?_)
  case yb13 => (intro w hS; obtain ⟨c0, c1, c2⟩ := blk3 hS; go_simp; (try with_reducible rfl); (try omega))
  have hsh := hsh'
  clear hsh'
  simp only [Act.put, List.getElem_toArray, List.getElem_cons_zero, List.getElem_cons_succ, List.setIfInBounds_toArray, List.set_cons_zero, List.set_cons_succ] at hsh ⊢
  refine wpTill_ready (rs := [2]) (by kernel_rfl) (by simp) ?_
  have hsh := hsh.put (i := 2) (by kernel_rfl)
  refine (AllTill.cons rfl (fun KK hKK => ?_) AllTill.nil)
  rw [if_pos (by rfl)]
  go_simp
  refine (HD.out _).mono ?_
  rintro e w2 ⟨rfl, rfl⟩
  refine hKK _ _ (fun _ => HB1.out) ?_
  clear hKK KK
  simp only [List.setIfInBounds_toArray, List.set_cons_zero, List.set_cons_succ] at hsh ⊢
  refine wpTill_take (i := 3) (v := .string (⟨#[72, 84, 84, 80, 47, 49, 46, 49, 32]⟩ ++ ⟨dg.toArray⟩)) rfl (by kernel_rfl) (by kernel_rfl) (by kernel_rfl) hsh (fun l h h9 => by cases h9) (fun l => rfl) (fun _ _ _ h => h) (Or.inl ⟨by rfl, ?yb3⟩) HB1.out (fun hsh' => ?_)
  case yb3 => (intro w hS; obtain ⟨c0, c1, c2⟩ := blk3 hS; go_simp; (try with_reducible rfl); (try omega))
  have hsh := hsh'
  clear hsh'
  simp only [Act.put, List.getElem_toArray, List.getElem_cons_zero, List.getElem_cons_succ, List.setIfInBounds_toArray, List.set_cons_zero, List.set_cons_succ] at hsh ⊢
  refine wpTill_take (i := 4) (v := .string (⟨#[72, 84, 84, 80, 47, 49, 46, 49, 32]⟩ ++ ⟨dg.toArray⟩ ++ ⟨#[32]⟩)) rfl (by kernel_rfl) (by kernel_rfl) (by kernel_rfl) hsh (fun l h h9 => by cases h9) (fun l => rfl) (fun _ _ _ h => h) (Or.inl ⟨by rfl, ?yb4⟩) HB1.out (fun hsh' => ?_)
  case yb4 => (intro w hS; obtain ⟨c0, c1, c2⟩ := blk3 hS; go_simp; (try with_reducible rfl); (try omega))
  have hsh := hsh'
  clear hsh'
  simp only [Act.put, List.getElem_toArray, List.getElem_cons_zero, List.getElem_cons_succ, List.setIfInBounds_toArray, List.set_cons_zero, List.set_cons_succ] at hsh ⊢
  refine wpTill_ready (rs := [7]) (by kernel_rfl) (by simp) ?_
  have hsh := hsh.put (i := 7) (by kernel_rfl)
  refine (AllTill.cons rfl (fun KK hKK => ?_) AllTill.nil)
  rw [if_pos (by rfl)]
  go_simp
  refine (HS.out _).mono ?_
  rintro e w2 ⟨rfl, rfl⟩
  refine hKK _ _ (fun _ => HB1.out) ?_
  clear hKK KK
  simp only [List.setIfInBounds_toArray, List.set_cons_zero, List.set_cons_succ] at hsh ⊢
  refine wpTill_take (i := 8) (v := .string (⟨#[72, 84, 84, 80, 47, 49, 46, 49, 32]⟩ ++ ⟨dg.toArray⟩ ++ ⟨#[32]⟩ ++ ⟨rs.toArray⟩)) rfl (by kernel_rfl) (by kernel_rfl) (by kernel_rfl) hsh (fun l h h9 => by cases h9) (fun l => rfl) (fun _ _ _ h => h) (Or.inl ⟨by rfl, ?yb8⟩) HB1.out (fun hsh' => ?_)
  case yb8 => (intro w hS; obtain ⟨c0, c1, c2⟩ := blk3 hS; go_simp; (try with_reducible rfl); (try omega))
  have hsh := hsh'
  clear hsh'
  simp only [Act.put, List.getElem_toArray, List.getElem_cons_zero, List.getElem_cons_succ, List.setIfInBounds_toArray, List.set_cons_zero, List.set_cons_succ] at hsh ⊢
  refine wpTill_ready (rs := [14]) (by kernel_rfl) (by simp) ?_
  have hsh := hsh.put (i := 14) (by kernel_rfl)
  refine (AllTill.cons rfl (fun KK hKK => ?_) AllTill.nil)
  rw [if_pos (by rfl)]
  go_simp
  simp only [app_bs]
  rw [HF.out]
  refine (H3.out _ HW1.out).mono ?_
  rintro e w3 ⟨rfl, hb3⟩
  have HW2 := Lib.hid (HW1.out.trans (hb3.mono HW1.out.size))
  have HB2 := Lib.hid (blk_next hb3 HB1.out)
  refine hKK _ _ (fun _ => HB2.out) ?_
  clear hKK KK
  simp only [List.setIfInBounds_toArray, List.set_cons_zero, List.set_cons_succ] at hsh ⊢
  refine wpTill_ready (rs := [15]) (by kernel_rfl) (by simp) ?_
  have hsh := hsh.put (i := 15) (by kernel_rfl)
  refine (AllTill.cons rfl (fun KK hKK => ?_) AllTill.nil)
  rw [if_pos (by rfl)]
  go_simp
  refine hKK _ _ (fun _ => HB2.out) ?_
  clear hKK KK
  simp only [List.setIfInBounds_toArray, List.set_cons_zero, List.set_cons_succ] at hsh ⊢
  refine wpTill_done (by kernel_rfl) ?_ _
  (try simp only [noPanic])
  simp only [Exit.then]
  go_wp2_with fail
  go_ret
  exact ⟨rfl, HW2.out⟩
end Go.Proofs.YtoadahommlcjpaaGreatDoor
