/-
  PROVED: places of the law tells true of a row and a copy of it. CONDITION: at most 2^20 tokens.
-/
import Derived.Test.YtoppkhkdbkkldaaDoorWalkL
namespace Go.Proofs.YtoppkhkdbkkldaaDoor
open Go.RowKit
set_option maxRecDepth 100000 in
set_option maxHeartbeats 2000000 in
theorem places_alike (l : List Lx.Tok) (A B : Option Addr) (c d : Nat) (w : World) (hm : l.length ≤ 1048576) (hA : HasToks w A l) (hB : HasToks w B l) :
    Calls Tryd.prog 13 #[.slice A l.length c, .slice B l.length d] w fun e w' => e = .returned (.bool true) ∧ Below w.heap.size w w' := by
  go_enter Tryd.func13, Tryd.ntmps13
  go_wp2_with fail
  refine (refSame_any l l A B c d w hm hA hB).mono ?_
  rintro e w1 ⟨rfl, hb1⟩
  rw [sameToks_refl]
  go_wp2_with fail
  go_loopw [12] (fun i wr => ∃ k : Nat, k ≤ l.length ∧ i = .int .i64 k ∧ Below w.heap.size w wr) (fun i _ => l.length - (intOf i).toNat)
  case atStart => exact ⟨0, Nat.zero_le _, rfl, hb1⟩
  case round =>
    obtain ⟨k, hk, rfl, hb⟩ := hrel
    by_cases hlt : k < l.length
    · obtain ⟨t, ht⟩ : ∃ t, l[k]? = some t := ⟨_, List.getElem?_eq_getElem hlt⟩
      obtain ⟨g, rfl, hg, a1, a2, a3⟩ := hA.at_ hb ht
      obtain ⟨g', rfl, hg', b1, b2, b3⟩ := hB.at_ hb ht
      have hz := hb.size
      have HB := Lib.hid hb
      clear ht hA hB hb
      go_wp2_with fail
      go_quiet (fail)
      go_wp2_with fail
      go_roundw
      case rel => exact ⟨k + 1, by omega, by go_num, below_drewN HB.out _⟩
      case measure => simp [intOf]; omega
    · go_wp2_with fail
      go_ret
      exact ⟨rfl, hb⟩

end Go.Proofs.YtoppkhkdbkkldaaDoor
