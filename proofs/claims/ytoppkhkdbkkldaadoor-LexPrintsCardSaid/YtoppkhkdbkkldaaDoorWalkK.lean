/-
  PROVED: Same of the reference tells what sameToks tells. CONDITION: at most 2^20 tokens.
-/
import Derived.Test.YtoppkhkdbkkldaaDoorWalkJ
import Derived.BigQuiet
namespace Go.Proofs.YtoppkhkdbkkldaaDoor
open Go.RowKit
/-! ### Same of the reference -/
theorem below_drewN {B : Nat} {a w : World} (h : Below B a w) (n : Nat) : Below B a (w.drewN n) := ⟨h.os, h.tape, h.output, h.size, h.block⟩
set_option maxRecDepth 100000 in
set_option maxHeartbeats 2000000 in
theorem refSame_any (l m : List Lx.Tok) (A B : Option Addr) (c d : Nat) (w : World) (hm : m.length ≤ 1048576) (hA : HasToks w A l) (hB : HasToks w B m) :
    Calls Tryd.prog 16 #[.slice A l.length c, .slice B m.length d] w fun e w' => e = .returned (.bool (Lx.sameToks l m)) ∧ Below w.heap.size w w' := by
  by_cases hlen : l.length = m.length
  · have hb0 : ((l.length : Int) != (m.length : Int)) = false := by rw [hlen]; simp
    have HL := Lib.hid hlen
    have hle : l.length ≤ m.length := by omega
    clear hlen
    go_enter Tryd.func16, Tryd.ntmps16
    go_wp2_with fail
    go_loopw [5, 13] (fun x i wr => ∃ k : Nat, k ≤ l.length ∧ i = .int .i64 k ∧ Hid (Lx.sameToks l m = Lx.sameToks (l.drop k) (m.drop k)) ∧ Below w.heap.size w wr) (fun _ i _ => l.length - (intOf i).toNat)
    case atStart => exact ⟨0, Nat.zero_le _, rfl, rfl, Below.refl _ _⟩
    case round =>
      obtain ⟨k, hk, rfl, H, hb⟩ := hrel
      by_cases hlt : k < l.length
      · obtain ⟨t, ht⟩ : ∃ t, l[k]? = some t := ⟨_, List.getElem?_eq_getElem hlt⟩
        obtain ⟨u, hu⟩ : ∃ u, m[k]? = some u := ⟨_, List.getElem?_eq_getElem (by omega)⟩
        obtain ⟨g, rfl, hg, a1, a2, a3⟩ := hA.at_ hb ht
        obtain ⟨g', rfl, hg', b1, b2, b3⟩ := hB.at_ hb hu
        have hS := Lib.hid (sameToks_drop ht hu)
        clear ht hu hA hB
        have HB := Lib.hid hb
        clear hb
        by_cases hkk : t.kind = u.kind
        · have d1 : (t.kind != u.kind) = false := by rw [hkk]; simp
          by_cases htt : t.text = u.text
          · have d2 : (t.text == u.text) = true := by rw [htt]; simp
            have hst : Lx.sameTok t u = true := by unfold Lx.sameTok; rw [hkk, htt]; simp
            have hE : Lx.sameToks l m = Lx.sameToks (l.drop (k + 1)) (m.drop (k + 1)) := by
              rw [show Lx.sameToks l m = _ from H.out, show _ = _ from hS.out, hst, Bool.true_and]
            have HE := Lib.hid hE
            clear hst hE hS H hkk htt
            go_wp2_with fail
            go_quiet (fail)
            go_wp2_with fail
            go_roundw
            case rel => exact ⟨k + 1, by omega, by go_num, HE, below_drewN HB.out _⟩
            case measure => simp [intOf]; omega
          · have d2 : (t.text == u.text) = false := by simp [htt]
            have hst : Lx.sameTok t u = false := by unfold Lx.sameTok; simp [htt]
            have hE : Lx.sameToks l m = false := by
              rw [show Lx.sameToks l m = _ from H.out, show _ = _ from hS.out, hst, Bool.false_and]
            have HE := Lib.hid hE
            clear hst hE hS H hkk htt
            go_wp2_with fail
            go_quiet (fail)
            go_wp2_with fail
            go_ret
            exact ⟨ret_bool HE.out.symm, below_drewN HB.out _⟩
        · have d1 : (t.kind != u.kind) = true := by rw [bne_iff_ne]; exact hkk
          have hst : Lx.sameTok t u = false := by unfold Lx.sameTok; simp [hkk]
          have hE : Lx.sameToks l m = false := by
            rw [show Lx.sameToks l m = _ from H.out, show _ = _ from hS.out, hst, Bool.false_and]
          have HE := Lib.hid hE
          clear hst hE hS H hkk
          go_wp2_with fail
          go_quiet (fail)
          go_wp2_with fail
          go_ret
          exact ⟨ret_bool HE.out.symm, below_drewN HB.out _⟩
      · have hE : Lx.sameToks l m = true := by
          have e := H.out
          rw [List.drop_eq_nil_of_le (by omega), List.drop_eq_nil_of_le (by have := HL.out; omega)] at e
          exact e
        have HE := Lib.hid hE
        clear hE
        go_wp2_with fail
        go_ret
        exact ⟨ret_bool HE.out.symm, hb⟩
  · have hb0 : ((l.length : Int) != (m.length : Int)) = true := by rw [bne_iff_ne]; omega
    have HE := Lib.hid (sameToks_len hlen)
    clear hlen
    go_enter Tryd.func16, Tryd.ntmps16
    go_wp2_with fail
    go_ret
    exact ⟨ret_bool HE.out.symm, Below.refl _ _⟩

end Go.Proofs.YtoppkhkdbkkldaaDoor
