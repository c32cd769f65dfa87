/-
  THE WALKS of the document's answer, fifth part: Hex. CONDITIONS: the row lies as CellsAt says; its length.
-/
import Derived.Test.YthpojljfmipngaaGreatDoorRefD
import Derived.Test.YthpojljfmipngaaGreatDoorWalkR
namespace Go.Proofs.YthpojljfmipngaaGreatDoor
open Go.RowKit
def hex2 (c : UInt8) : Sc.Bs := [Sc.hexd (c.toNat / 16), Sc.hexd (c.toNat % 16)]
theorem hex2_len (l : Sc.Bs) : (l.flatMap hex2).length = 2 * l.length := by
  induction l with
  | nil => rfl
  | cons c l ih => rw [List.flatMap_cons, List.length_append, ih]; simp [hex2]; omega
set_option maxRecDepth 100000 in
set_option maxHeartbeats 4000000 in
theorem refHex_any (l : Sc.Bs) (A : Option Addr) (c : Nat) (w : World) (hl : l.length ≤ 1073741824) (hA : CellsAt w A (Lib.byteCells l)) :
    Calls Tryz.prog 86 #[.slice A l.length c] w fun e w' => e = .returned (.string ⟨(l.flatMap hex2).toArray⟩) ∧ Below w.heap.size w w' := by
  go_enter Tryz.func86, Tryz.ntmps86
  go_wp2_with fail
  go_loopw [3, 5, 8] (fun bv _ i wr => ∃ k : Nat, k ≤ l.length ∧ i = .int .i64 k ∧ Bf w.heap.size bv ((l.take k).flatMap hex2) wr ∧ Below w.heap.size w wr) (fun _ _ i _ => l.length - (intOf i).toNat)
  case atStart => exact ⟨0, Nat.zero_le _, rfl, Bf.nil w, Below.refl _ _⟩
  case round =>
    obtain ⟨k, hk, rfl, hB, hb⟩ := hrel
    have HB := Lib.hid hB
    have HBW := Lib.hid hb
    clear hB
    by_cases hlt : k < l.length
    · have h1 : l[k]? = some l[k] := List.getElem?_eq_getElem hlt
      have HN : Hid ((l.take (k + 1)).flatMap hex2 = (l.take k).flatMap hex2 ++ hex2 l[k]) := Lib.hid (by
        rw [List.take_succ_eq_append_getElem hlt, List.flatMap_append]; simp)
      have hlen : ((l.take k).flatMap hex2).length ≤ 2147483648 := by rw [hex2_len, List.length_take]; omega
      obtain ⟨b, o, rfl, hbl, c1⟩ := hA.at_ hb (k := k) (v := .int .u8 (l[k].toNat : Int)) (by unfold Lib.byteCells; rw [List.getElem?_map, h1]; rfl)
      generalize l[k] = ch at HN c1
      have hch : ch.toNat < 256 := ch.toNat_lt
      generalize hout : (l.take k).flatMap hex2 = out at HB HN hlen
      clear hA h1 hb hout
      have hw1 : IntKind.u8.wrap ((ch.toNat : Int) / 16) = (ch.toNat : Int) / 16 := by rw [IntKind.wrap_u8]; omega
      have hw2 : IntKind.u8.wrap ((ch.toNat : Int) % 16) = (ch.toNat : Int) % 16 := by rw [IntKind.wrap_u8]; omega
      have hq1 : (ch.toNat : Int) / 16 < 16 := by omega
      have hq2 : (ch.toNat : Int) % 16 < 16 := by omega
      have hq3 : 0 ≤ (ch.toNat : Int) / 16 := by omega
      have hq4 : 0 ≤ (ch.toNat : Int) % 16 := by omega
      have ht : (ch.toNat : Int).tmod 16 = (ch.toNat : Int) % 16 := Int.tmod_eq_emod_of_nonneg (by omega)
      go_wp2_with fail
      have HBq := (HB.out.next (below_drewN (Below.refl _ _) 1) : Bf w.heap.size _ out wr.drew)
      refine wp_region_any (by kernel_rfl) ?_
      change wpAny _ _ _ _ _ _ _ (World.drew _)
      refine wpAny_take (i := 0) (v := ?vh0) rfl (by kernel_rfl) (by kernel_rfl) (by kernel_rfl) (fun _ _ _ h => h) (Or.inl ⟨by rfl, ?yh0⟩) ?_
      case yh0 => (intro w; go_simp; (try with_reducible rfl))
      simp only [Act.put, List.getElem_toArray, List.getElem_cons_zero, List.setIfInBounds_toArray, List.set_cons_zero, List.set_cons_succ]
      refine wpAny_take (i := 1) (v := ?vh1) rfl (by kernel_rfl) (by kernel_rfl) (by kernel_rfl) (fun _ _ _ h => h) (Or.inl ⟨by rfl, ?yh1⟩) ?_
      case yh1 => (intro w; go_simp; (try with_reducible rfl))
      simp only [Act.put, List.getElem_toArray, List.getElem_cons_zero, List.getElem_cons_succ, List.setIfInBounds_toArray, List.set_cons_zero, List.set_cons_succ]
      refine wpAny_take (i := 2) (v := ?vh2) rfl (by kernel_rfl) (by kernel_rfl) (by kernel_rfl) (fun _ _ _ h => h) (Or.inl ⟨by rfl, ?yh2⟩) ?_
      case yh2 => (intro w; go_simp; (try with_reducible rfl))
      simp only [Act.put, List.getElem_toArray, List.getElem_cons_zero, List.getElem_cons_succ, List.setIfInBounds_toArray, List.set_cons_zero, List.set_cons_succ]
      refine wpAny_take (i := 3) (v := ?vh3) rfl (by kernel_rfl) (by kernel_rfl) (by kernel_rfl) (fun _ _ _ h => h) (Or.inl ⟨by rfl, ?yh3⟩) ?_
      case yh3 => (intro w; go_simp; (try with_reducible rfl))
      simp only [Act.put, List.getElem_toArray, List.getElem_cons_zero, List.getElem_cons_succ, List.setIfInBounds_toArray, List.set_cons_zero, List.set_cons_succ]
      refine wpAny_take (i := 4) (v := ?vh4) rfl (by kernel_rfl) (by kernel_rfl) (by kernel_rfl) (fun _ _ _ h => h) (Or.inl ⟨by rfl, ?yh4⟩) ?_
      case yh4 => (intro w; go_simp; (try with_reducible rfl))
      simp only [Act.put, List.getElem_toArray, List.getElem_cons_zero, List.getElem_cons_succ, List.setIfInBounds_toArray, List.set_cons_zero, List.set_cons_succ]
      refine wpAny_take (i := 5) (v := ?vh5) rfl (by kernel_rfl) (by kernel_rfl) (by kernel_rfl) (fun _ _ _ h => h) (Or.inl ⟨by rfl, ?yh5⟩) ?_
      case yh5 => (intro w; go_simp; (try with_reducible rfl))
      simp only [Act.put, List.getElem_toArray, List.getElem_cons_zero, List.getElem_cons_succ, List.setIfInBounds_toArray, List.set_cons_zero, List.set_cons_succ]
      refine wpAny_take (i := 6) (v := ?vh6) rfl (by kernel_rfl) (by kernel_rfl) (by kernel_rfl) (fun _ _ _ h => h) (Or.inl ⟨by rfl, ?yh6⟩) ?_
      case yh6 => (intro w; go_simp; (try with_reducible rfl))
      simp only [Act.put, List.getElem_toArray, List.getElem_cons_zero, List.getElem_cons_succ, List.setIfInBounds_toArray, List.set_cons_zero, List.set_cons_succ]
      refine wpAny_ready (rs := [7]) (by kernel_rfl) (by simp) ?_
      refine AllReady.cons rfl (fun KK hKK => ?_) (AllReady.nil)
      · rw [if_pos (by rfl)]
        go_simp
        refine hKK _ _ ?_
        clear hKK KK
        refine wpAny_ready (rs := [8]) (by kernel_rfl) (by simp) ?_
        refine AllReady.cons rfl (fun KK hKK => ?_) (AllReady.nil)
        · rw [if_pos (by rfl)]
          refine wp_own_append _ _ 37 5 (.int .u8 0) 1 1 rfl Tryz.underlying37 info5 rfl (by decide) HBq rfl [.int .u8 _, .int .u8 _] 2 rfl rfl (by simp [Value.oneCell']) rfl (by unfold maxLen; omega) (by omega) ?_
          intro v' w5 hO5 hb5 _
          have HB5 := Lib.hid hO5
          have HBW5 := Lib.hid (HBW.out.trans ((below_drewN (Below.refl _ _) 1 : Below w.heap.size wr wr.drew).trans hb5))
          clear hO5 hb5
          refine hKK _ _ ?_
          clear hKK KK
          refine wpAny_take (i := 9) (v := ?vh9) rfl (by kernel_rfl) (by kernel_rfl) (by kernel_rfl) (fun _ _ _ h => h) (Or.inl ⟨by rfl, ?yh9⟩) ?_
          case yh9 => (intro w; go_simp; (try with_reducible rfl))
          simp only [Act.put, List.getElem_toArray, List.getElem_cons_zero, List.getElem_cons_succ, List.setIfInBounds_toArray, List.set_cons_zero, List.set_cons_succ]
          refine wpAny_done (by kernel_rfl) ?_ _
          go_wp2_with fail
          go_roundw
          case rel =>
            refine ⟨k + 1, by omega, by go_num, ?_, HBW5.out⟩
            rw [HN.out]
            unfold Bf
            rw [List.length_append, byteCells_app]
            have h5 := HB5.out
            have e1 := hexd_at (m := ((ch.toNat : Int) / 16).toNat) (n := ch.toNat / 16) (by omega) (by omega)
            have e2 := hexd_at (m := ((ch.toNat : Int) % 16).toNat) (n := ch.toNat % 16) (by omega) (by omega)
            show Own 5 1 w.heap.size v' _ (_ ++ [.int .u8 ((Sc.hexd (ch.toNat / 16)).toNat : Int), .int .u8 ((Sc.hexd (ch.toNat % 16)).toNat : Int)]) w5
            rw [e1, e2]
            exact h5
          case measure => simp [intOf]; omega
    · have HF : Hid ((l.take k).flatMap hex2 = l.flatMap hex2) := Lib.hid (by rw [List.take_of_length_le (by omega)])
      have hcv := bf_string HB.out
      rw [HF.out] at hcv
      clear hb
      go_wp2_with fail
      go_ret
      exact ⟨rfl, HBW.out⟩
end Go.Proofs.YthpojljfmipngaaGreatDoor
