/-
  THE WALKS, fourth part: the document's Token, Alike, own.
-/
import Derived.Test.YtoadahommlcjpaaGreatDoorWC
import Derived.Lib.SlBytesConst
namespace Go.Proofs.YtoadahommlcjpaaGreatDoor
open Go.RowKit
def signC : Array Value := #[Value.int IntKind.u8 33, Value.int IntKind.u8 35, Value.int IntKind.u8 36, Value.int IntKind.u8 37, Value.int IntKind.u8 38, Value.int IntKind.u8 39, Value.int IntKind.u8 42, Value.int IntKind.u8 43, Value.int IntKind.u8 45, Value.int IntKind.u8 46, Value.int IntKind.u8 94, Value.int IntKind.u8 95, Value.int IntKind.u8 124, Value.int IntKind.u8 126]
theorem signC_eq : signC = (Lib.byteCells Ht.signs).toArray := by rfl
theorem sign_cell (w : World) {j : Nat} {x : UInt8} (hx : Ht.signs[j]? = some x) : (w.alloc (Obj.cells signC 5 (14, 15))).cell? ⟨w.heap.size, j, none⟩ = some (.int .u8 (x.toNat : Int)) := by
  have h : (w.alloc (Obj.cells signC 5 (14, 15))).heap[w.heap.size]? = some (.cells signC 5 (14, 15)) := by
    show (w.heap.push _)[w.heap.size]? = _
    simp
  rw [cell_of_row _ _ j signC 5 (14, 15) h, signC_eq, List.getElem?_toArray]
  simp [Lib.byteCells, hx]
theorem sign_step {c x : UInt8} {m : Nat} (hx : Ht.signs[m]? = some x) : (Ht.signs.take (m + 1)).contains c = ((Ht.signs.take m).contains c || decide (c = x)) := by
  obtain ⟨hlt, he⟩ := List.getElem?_eq_some_iff.1 hx
  rw [List.take_succ_eq_append_getElem hlt, he, Bool.eq_iff_iff]
  simp
set_option maxRecDepth 100000 in
set_option maxHeartbeats 4000000 in
theorem refToken_any (s : ByteArray) (w : World) (hs : s.size ≤ 9223372036854775807) :
    Calls Tryz.prog 55 #[.string s] w fun e w' => e = .returned (.bool (Ht.tokenB s.data.toList)) ∧ Below w.heap.size w w' := by
  have HA : Hid (Ht.tokenB s.data.toList = (s.data.toList.all Ht.tokC && decide (0 < s.size) && decide (s.size ≤ 40))) := Lib.hid (by rw [Lib.size_eq]; rfl)
  generalize Ht.tokenB s.data.toList = R at HA ⊢
  have kc := fun (w : World) (C : Array Value) (n c : Nat) => Lib.run_convert_bytes_const (P := Tryz.prog) w 22 5 C n c Tryz.underlying22 Tryz.underlying5
  go_enter Tryz.func55, Tryz.ntmps55
  go_wp2_with fail
  go_loopw [9] (fun i wr => ∃ k : Nat, k ≤ s.size ∧ i = .int .i64 k ∧ Hid (Below w.heap.size w wr) ∧ Hid ((s.data.toList.take k).all Ht.tokC = true)) (fun i _ => s.size - (intOf i).toNat)
  case atStart => exact ⟨0, Nat.zero_le _, rfl, Lib.hid (Below.refl _ _), Lib.hid rfl⟩
  case round =>
    obtain ⟨k, hk, rfl, HB, H⟩ := hrel
    by_cases hlt : k < s.size
    · have HN : Hid (Ht.tokC (s[k]'hlt) = true → (s.data.toList.take (k + 1)).all Ht.tokC = true) := Lib.hid (fun h => all_take hlt H.out h)
      have HF : Hid (Ht.tokC (s[k]'hlt) = false → R = false) := Lib.hid (fun h => by rw [HA.out, all_not (p := Ht.tokC) hlt h]; rfl)
      obtain ⟨c, hc⟩ : ∃ c, s[k]'hlt = c := ⟨_, rfl⟩
      rw [hc] at HN HF
      obtain ⟨q1, hq1⟩ : ∃ q, inB (Ht.small c) 97 122 = q := ⟨_, rfl⟩
      obtain ⟨q2, hq2⟩ : ∃ q, inB c 48 57 = q := ⟨_, rfl⟩
      obtain ⟨q3, hq3⟩ : ∃ q, Ht.signs.contains c = q := ⟨_, rfl⟩
      have HC1 := Lib.hid (fun W => refLetter_q c hq1 W)
      have HC2 := Lib.hid (fun W => refDigit_q c hq2 W)
      rw [tok_split hq1 hq2 hq3] at HN HF
      clear H hq1 hq2
      have HG : Hid (∀ j x, Ht.signs[j]? = some x → (wr.alloc (Obj.cells signC 5 (14, 15))).cell? ⟨wr.heap.size, j, none⟩ = some (.int .u8 (x.toNat : Int))) := Lib.hid (fun j x hx => sign_cell wr hx)
      have HB1 : Hid (Below wr.heap.size wr (wr.alloc (Obj.cells signC 5 (14, 15)))) := Lib.hid (below_box _ _)
      unfold signC at HG HB1
      go_wp2_with fail
      generalize (wr.alloc (Obj.cells _ 5 (14, 15))) = W1 at HG HB1 ⊢
      go_loop [4, 15] (fun sg j => ∃ m : Nat, m ≤ 14 ∧ j = .int .i64 m ∧ sg = .bool ((Ht.signs.take m).contains c)) (fun _ j => 14 - (intOf j).toNat)
      case atStart => exact ⟨0, Nat.zero_le _, rfl, rfl⟩
      case round =>
        obtain ⟨m, hm, rfl, rfl⟩ := hrel
        by_cases hlm : m < 14
        · obtain ⟨x, hx⟩ : ∃ x, Ht.signs[m]? = some x := ⟨_, List.getElem?_eq_getElem (show m < Ht.signs.length from hlm)⟩
          have hg := HG.out m x hx
          have HS : Hid ((Ht.signs.take (m + 1)).contains c = ((Ht.signs.take m).contains c || decide (c = x))) := Lib.hid (sign_step hx)
          obtain ⟨b, hb⟩ : ∃ b, (Ht.signs.take m).contains c = b := ⟨_, rfl⟩
          rw [hb] at HS ⊢
          clear hb hx
          cases b
          · by_cases hcx : (c.toNat : Int) = (x.toNat : Int)
            · have HX : Hid ((Ht.signs.take (m + 1)).contains c = true) := Lib.hid (by
                have hcx2 : c = x := UInt8.toNat_inj.1 (by omega)
                rw [HS.out]; simp [hcx2])
              go_wp2_with fail
              go_round
              case rel => exact ⟨m + 1, by omega, by go_num, by rw [HX.out] <;> first | rfl | simp [hcx]⟩
              case measure => simp [intOf]; omega
            · have HX : Hid ((Ht.signs.take (m + 1)).contains c = false) := Lib.hid (by
                rw [HS.out]
                have : c ≠ x := fun h => hcx (by rw [h])
                simp [this])
              go_wp2_with fail
              go_round
              case rel => exact ⟨m + 1, by omega, by go_num, by rw [HX.out] <;> first | rfl | simp [hcx]⟩
              case measure => simp [intOf]; omega
          · have HX : Hid ((Ht.signs.take (m + 1)).contains c = true) := Lib.hid (by rw [HS.out]; rfl)
            go_wp2_with fail
            go_round
            case rel => exact ⟨m + 1, by omega, by go_num, by rw [HX.out]⟩
            case measure => simp [intOf]; omega
        · have h14 : m = 14 := by omega
          subst h14
          rw [show (Ht.signs.take 14).contains c = q3 from hq3]
          have HB2 : Hid (Below w.heap.size w W1) := Lib.hid (HB.out.trans (HB1.out.mono HB.out.size))
          clear hq3 HG
          go_wp2_with fail
          refine (HC1.out _).mono ?_
          rintro e w' ⟨rfl, rfl⟩
          cases q1
          · go_wp2_with fail
            refine (HC2.out _).mono ?_
            rintro e w' ⟨rfl, rfl⟩
            cases q2
            · cases q3
              · have HR := Lib.hid (HF.out rfl)
                go_wp2_with fail
                go_ret
                exact ⟨ret_bool HR.out.symm, HB2.out⟩
              · have HR := Lib.hid (HN.out rfl)
                go_wp2_with fail
                go_roundw
                case rel => exact ⟨k + 1, by omega, by go_num, HB2, HR⟩
                case measure => simp [intOf]; omega
            · have HR := Lib.hid (HN.out rfl)
              go_wp2_with fail
              go_roundw
              case rel => exact ⟨k + 1, by omega, by go_num, HB2, HR⟩
              case measure => simp [intOf]; omega
          · have HR := Lib.hid (HN.out rfl)
            go_wp2_with fail
            go_roundw
            case rel => exact ⟨k + 1, by omega, by go_num, HB2, HR⟩
            case measure => simp [intOf]; omega
    · have HR : Hid (R = (decide (0 < s.size) && decide (s.size ≤ 40))) := Lib.hid (by rw [HA.out, all_end hlt H.out]; rfl)
      clear H
      by_cases h0 : 1 ≤ s.size
      · by_cases h4 : s.size ≤ 40
        · go_wp2_with fail
          go_ret
          exact ⟨ret_bool (by rw [HR.out, Bool.eq_iff_iff]; first | (simp [h4]; done) | (simp [h4]; omega)), HB.out⟩
        · go_wp2_with fail
          go_ret
          exact ⟨ret_bool (by rw [HR.out, Bool.eq_iff_iff]; first | (simp [h4]; done) | (simp [h4]; omega)), HB.out⟩
      · go_wp2_with fail
        go_ret
        exact ⟨ret_bool (by rw [HR.out, show decide (0 < s.size) = false from decide_eq_false (by omega)]; rfl), HB.out⟩
set_option maxRecDepth 100000 in
set_option maxHeartbeats 4000000 in
theorem refAlike_any (a b : ByteArray) (w : World) (ha : a.size ≤ 9223372036854775807) (_hb : b.size ≤ 9223372036854775807) :
    Calls Tryz.prog 62 #[.string a, .string b] w fun e w' => e = .returned (.bool (Ht.alikeB a.data.toList b.data.toList)) ∧ ∃ n, w' = w.drewN n := by
  by_cases hs : a.size = b.size
  · obtain ⟨R, hR⟩ : ∃ R, Ht.alikeB a.data.toList b.data.toList = R := ⟨_, rfl⟩
    have HE : Hid (∀ k, ¬ k < a.size → (a.data.toList.take k).map Ht.small = (b.data.toList.take k).map Ht.small → R = true) := Lib.hid (fun k hk h => by rw [← hR]; exact alike_end hs hk h)
    have HN : Hid (∀ k (hk : k < a.size) (hk2 : k < b.size), Ht.small (a[k]'hk) ≠ Ht.small (b[k]'hk2) → R = false) := Lib.hid (fun k hk hk2 h => by rw [← hR]; exact alike_not hk hk2 h)
    rw [hR]
    clear hR
    have hsi : (a.size : Int) = b.size := by rw [hs]
    go_enter Tryz.func62, Tryz.ntmps62
    go_wp2_with fail
    go_loopw [13] (fun i wr => ∃ k : Nat, k ≤ a.size ∧ i = .int .i64 k ∧ Hid (∃ n, wr = w.drewN n) ∧ Hid ((a.data.toList.take k).map Ht.small = (b.data.toList.take k).map Ht.small)) (fun i _ => a.size - (intOf i).toNat)
    case atStart => exact ⟨0, Nat.zero_le _, rfl, Lib.hid ⟨0, rfl⟩, Lib.hid rfl⟩
    case round =>
      obtain ⟨k, hk, rfl, Hn, H⟩ := hrel
      by_cases hlt : k < a.size
      · have hlt2 : k < b.size := by omega
        have HT : Hid (Ht.small (a[k]'hlt) = Ht.small (b[k]'hlt2) → (a.data.toList.take (k + 1)).map Ht.small = (b.data.toList.take (k + 1)).map Ht.small) := Lib.hid (fun h => alike_step hlt hlt2 H.out h)
        have HF : Hid (Ht.small (a[k]'hlt) ≠ Ht.small (b[k]'hlt2) → R = false) := Lib.hid (fun h => HN.out k hlt hlt2 h)
        clear H
        obtain ⟨c, hc⟩ : ∃ c, a[k]'hlt = c := ⟨_, rfl⟩
        obtain ⟨d, hd⟩ : ∃ d, b[k]'hlt2 = d := ⟨_, rfl⟩
        rw [hc, hd] at HT HF
        have HA := Lib.hid (fun W => refSmall_any c W)
        have HB := Lib.hid (fun W => refSmall_any d W)
        have HX := Lib.hid (small_inj c d)
        go_wp2_with fail
        go_quiet (first | (go_at_call_of 88 (Value.int IntKind.u8 (c.toNat : Int)); exact Calls.quiet_of_same (HA.out _)) | (go_at_call_of 88 (Value.int IntKind.u8 (d.toNat : Int)); exact Calls.quiet_of_same (HB.out _)))
        by_cases hq : Ht.small c = Ht.small d
        · have hX : decide (((Ht.small c).toNat : Int) ≠ ((Ht.small d).toNat : Int)) = false := by rw [HX.out]; simp [hq]
          have HR := Lib.hid (HT.out hq)
          have he : ((Ht.small c).toNat : Int) = ((Ht.small d).toNat : Int) := by rw [hq]
          go_wp2_with fail
          go_roundw
          case rel => exact ⟨k + 1, by omega, by go_num, Lib.hid (drewN_more Hn.out _), HR⟩
          case measure => simp [intOf]; omega
        · have he : ((Ht.small c).toNat : Int) ≠ ((Ht.small d).toNat : Int) := by have := small_inj c d; simpa [hq] using this
          have HR := Lib.hid (HF.out hq)
          go_wp2_with fail
          go_ret
          exact ⟨ret_bool HR.out.symm, drewN_more Hn.out _⟩
      · have HR := Lib.hid (HE.out k hlt H.out)
        clear H
        go_wp2_with fail
        go_ret
        exact ⟨ret_bool HR.out.symm, Hn.out⟩
  · rw [alike_len hs]
    go_enter Tryz.func62, Tryz.ntmps62
    go_wp2_with fail
    go_ret
    exact ⟨rfl, ⟨0, rfl⟩⟩
theorem refAlike_q (a b : ByteArray) (w : World) (ha : a.size ≤ 9223372036854775807) (hb : b.size ≤ 9223372036854775807) {l : List UInt8} (hl : b.data.toList = l) {q : Bool} (h : Ht.alikeB a.data.toList l = q) :
    Calls Tryz.prog 62 #[.string a, .string b] w fun e w' => e = .returned (.bool q) ∧ ∃ n, w' = w.drewN n := by
  have := refAlike_any a b w ha hb
  rwa [hl, h] at this
theorem alike_q (a b : ByteArray) (w : World) (ha : a.size ≤ 9223372036854775807) (hb : b.size ≤ 9223372036854775807) {l : List UInt8} (hl : b.data.toList = l) {q : Bool} (h : Ht.alikeB a.data.toList l = q) :
    Calls Tryz.prog 61 #[.string a, .string b] w fun e w' => e = .returned (.bool q) ∧ ∃ n, w' = w.drewN n := by
  have := alike_any a b w ha hb
  rwa [hl, h] at this
set_option maxRecDepth 100000 in
set_option maxHeartbeats 4000000 in
theorem refOwn_any (s : ByteArray) (w : World) (hs : s.size ≤ 9223372036854775807) :
    Calls Tryz.prog 81 #[.string s] w fun e w' => e = .returned (.bool (Ht.alikeB s.data.toList Ht.lenW || Ht.alikeB s.data.toList Ht.codW)) ∧ ∃ n, w' = w.drewN n := by
  obtain ⟨q1, hq1⟩ : ∃ q, Ht.alikeB s.data.toList Ht.lenW = q := ⟨_, rfl⟩
  obtain ⟨q2, hq2⟩ : ∃ q, Ht.alikeB s.data.toList Ht.codW = q := ⟨_, rfl⟩
  have HA := Lib.hid (fun b hb W hl => refAlike_q s b W hs hb (l := Ht.lenW) hl hq1)
  have HB := Lib.hid (fun b hb W hl => refAlike_q s b W hs hb (l := Ht.codW) hl hq2)
  rw [hq1, hq2]
  clear hq1 hq2
  go_enter Tryz.func81, Tryz.ntmps81
  go_wp2_with fail
  refine (HA.out _ (by decide) _ (by rfl)).mono ?_
  rintro e w' ⟨rfl, n, rfl⟩
  cases q1
  · go_wp2_with fail
    refine (HB.out _ (by decide) _ (by rfl)).mono ?_
    rintro e w' ⟨rfl, n2, rfl⟩
    go_wp2_with fail
    go_ret
    exact ⟨ret_bool (by simp), ⟨n + n2, by first | rfl | exact World.drewN_drewN _ _ _⟩⟩
  · go_wp2_with fail
    go_ret
    exact ⟨ret_bool (by simp), ⟨n, rfl⟩⟩
end Go.Proofs.YtoadahommlcjpaaGreatDoor
