/-
  THE WALKS of the document's Parse: unhex of two digits, unquote. CONDITION: the text's length.
-/
import Derived.Test.YthpojljfmipngaaGreatDoorPA
import Derived.Test.YthpojljfmipngaaGreatDoorPB
import Derived.Test.YthpojljfmipngaaGreatDoorRefF
import Derived.Deep.RegionHeld3
namespace Go.Proofs.YthpojljfmipngaaGreatDoor
open Go.RowKit
namespace Rf
open Sc (Bs)
def badHex (a b : UInt8) : Bool := decide (halfOf a < 0) || decide (halfOf b < 0)
def hexV (a b : UInt8) : UInt8 := UInt8.ofNat (16 * halfOf a + halfOf b).toNat
def unEsc (d : UInt8) : UInt8 := if d = 110 then 10 else if d = 114 then 13 else d
def decGo : Bs → Bs → Option Bs
  | [], out => some out
  | [c], out => some (out ++ [c])
  | c :: d :: t, out =>
    if c = 92 then
      if d = 120 then
        match t with
        | a :: b :: t' => if badHex a b = true then none else decGo t' (out ++ [hexV a b])
        | [a] => decGo [a] (out ++ [d])
        | [] => decGo [] (out ++ [d])
      else decGo t (out ++ [unEsc d])
    else decGo (d :: t) (out ++ [c])
theorem half_lt (a : UInt8) : halfOf a < 16 := by unfold halfOf; split <;> (try split) <;> omega
theorem hexV_nat {a b : UInt8} (h : badHex a b = false) : ((hexV a b).toNat : Int) = 16 * halfOf a + halfOf b := by
  unfold badHex at h
  simp only [Bool.or_eq_false_iff, decide_eq_false_iff_not] at h
  have h1 := half_lt a
  have h2 := half_lt b
  unfold hexV
  have : (16 * halfOf a + halfOf b).toNat < 256 := by omega
  rw [UInt8.toNat_ofNat_of_lt' this]
  omega
end Rf
set_option maxRecDepth 100000 in
set_option maxHeartbeats 8000000 in
theorem unhex_any (a b : UInt8) (w : World) :
    Calls Tryz.prog 69 #[.string ⟨[a, b].toArray⟩] w fun e w' => Below w.heap.size w w' ∧
      (Rf.badHex a b = true → e = .returned (.tuple #[.slice none 0 0, .bool false])) ∧
      (Rf.badHex a b = false → ∃ v, e = .returned (.tuple #[v, .bool true]) ∧ Bf w.heap.size v [Rf.hexV a b] w') := by
  have hsz : (⟨[a, b].toArray⟩ : ByteArray).size = 2 := rfl
  have g0 : ∀ h, (⟨[a, b].toArray⟩ : ByteArray)[0]'h = a := fun _ => rfl
  have g1 : ∀ h, (⟨[a, b].toArray⟩ : ByteArray)[1]'h = b := fun _ => rfl
  have hb0 : Rf.badHex a b = (decide (Rf.halfOf a < 0) || decide (Rf.halfOf b < 0)) := rfl
  have hnat : Rf.badHex a b = false → ((Rf.hexV a b).toNat : Int) = 16 * Rf.halfOf a + Rf.halfOf b := Rf.hexV_nat
  have hla := Rf.half_lt a
  have hlb := Rf.half_lt b
  generalize (⟨[a, b].toArray⟩ : ByteArray) = S at hsz g0 g1 ⊢
  have s0 : 0 < S.size := by omega
  have s1 : 1 < S.size := by omega
  have e0 : S[0] = a := g0 s0
  have e1 : S[1] = b := g1 s1
  clear g0 g1
  have HB0 := Lib.hid hb0
  have HNAT := Lib.hid hnat
  clear hb0 hnat
  go_enter Tryz.func69, Tryz.ntmps69
  go_wp2_with fail
  go_loopw [4, 5] (fun ov i wr => Below w.heap.size w wr ∧ ((i = .int .i64 0 ∧ ov = .slice none 0 0 ∧ wr = w) ∨ (i = .int .i64 2 ∧ Rf.badHex a b = false ∧ Bf w.heap.size ov [Rf.hexV a b] wr))) (fun _ i _ => 2 - (intOf i).toNat)
  case atStart => exact ⟨Below.refl _ _, .inl ⟨rfl, rfl, rfl⟩⟩
  case round =>
    obtain ⟨hb, ⟨rfl, rfl, rfl⟩ | ⟨rfl, hbad, hB⟩⟩ := hrel
    · clear hb
      by_cases ga : Rf.halfOf a < 0
      · have HF : Hid (Rf.badHex a b = true) := Lib.hid (by rw [HB0.out, decide_eq_true ga]; rfl)
        go_wp2_with (go_at_call 85; refine (half_any _ _).mono ?_; rintro e w9 ⟨rfl, h9⟩; have h9 := h9.symm; subst h9)
        refine bodyPost_ret (v := .tuple #[.slice none 0 0, .bool false]) (by simp [results, Tryz.results69, go_sem]) rfl ⟨Below.refl _ _, fun _ => rfl, fun h => (by rw [HF.out] at h; cases h)⟩
      · by_cases gb : Rf.halfOf b < 0
        · have HF : Hid (Rf.badHex a b = true) := Lib.hid (by rw [HB0.out, decide_eq_true gb]; simp)
          go_wp2_with (go_at_call 85; refine (half_any _ _).mono ?_; rintro e w9 ⟨rfl, h9⟩; have h9 := h9.symm; subst h9)
          refine bodyPost_ret (v := .tuple #[.slice none 0 0, .bool false]) (by simp [results, Tryz.results69, go_sem]) rfl ⟨Below.refl _ _, fun _ => rfl, fun h => (by rw [HF.out] at h; cases h)⟩
        · have hbf : Rf.badHex a b = false := by rw [HB0.out, decide_eq_false ga, decide_eq_false gb]; rfl
          have HF := Lib.hid hbf
          have hv := HNAT.out hbf
          clear hbf
          go_wp2_with (go_at_call 85; refine (half_any _ _).mono ?_; rintro e w9 ⟨rfl, h9⟩; have h9 := h9.symm; subst h9)
          have w1 : IntKind.i64.wrap (16 * Rf.halfOf a) = 16 * Rf.halfOf a := by rw [IntKind.wrap_i64]; omega
          have w2 : IntKind.i64.wrap (16 * Rf.halfOf a + Rf.halfOf b) = 16 * Rf.halfOf a + Rf.halfOf b := by rw [IntKind.wrap_i64]; omega
          have w3 : IntKind.u8.wrap (16 * Rf.halfOf a + Rf.halfOf b) = 16 * Rf.halfOf a + Rf.halfOf b := by rw [IntKind.wrap_u8]; omega
          have w0 : IntKind.i64.wrap 1 = 1 := rfl
          refine wp_region_any (by kernel_rfl) ?_
          change wpAny _ _ _ _ _ _ _ (World.drew _)
          obtain ⟨W0, hW0⟩ : ∃ W0, wr.drew = W0 := ⟨_, rfl⟩
          have HBW : Hid (Below wr.heap.size wr W0) := Lib.hid (hW0 ▸ below_drewN (Below.refl _ _) 1)
          rw [hW0]
          clear hW0
          refine wpAny_take (i := 0) (v := ?va0) rfl (by kernel_rfl) (by kernel_rfl) (by kernel_rfl) (fun _ _ _ h => h) (Or.inl ⟨by rfl, ?ya0⟩) ?_
          case ya0 => (intro w; go_simp; (try with_reducible rfl))
          try simp only [Act.put, List.getElem_toArray, List.getElem_cons_zero, List.setIfInBounds_toArray, List.set_cons_zero, List.set_cons_succ]
          refine wpAny_take (i := 1) (v := ?va1) rfl (by kernel_rfl) (by kernel_rfl) (by kernel_rfl) (fun _ _ _ h => h) (Or.inl ⟨by rfl, ?ya1⟩) ?_
          case ya1 => (intro w; go_simp; (try with_reducible rfl))
          try simp only [Act.put, List.getElem_toArray, List.getElem_cons_zero, List.getElem_cons_succ, List.setIfInBounds_toArray, List.set_cons_zero, List.set_cons_succ]
          refine wpAny_take (i := 2) (v := ?va2) rfl (by kernel_rfl) (by kernel_rfl) (by kernel_rfl) (fun _ _ _ h => h) (Or.inl ⟨by rfl, ?ya2⟩) ?_
          case ya2 => (intro w; go_simp; (try with_reducible rfl))
          try simp only [Act.put, List.getElem_toArray, List.getElem_cons_zero, List.getElem_cons_succ, List.setIfInBounds_toArray, List.set_cons_zero, List.set_cons_succ]
          refine wpAny_take (i := 3) (v := ?va3) rfl (by kernel_rfl) (by kernel_rfl) (by kernel_rfl) (fun _ _ _ h => h) (Or.inl ⟨by rfl, ?ya3⟩) ?_
          case ya3 => (intro w; go_simp; (try with_reducible rfl))
          try simp only [Act.put, List.getElem_toArray, List.getElem_cons_zero, List.getElem_cons_succ, List.setIfInBounds_toArray, List.set_cons_zero, List.set_cons_succ]
          refine wpAny_take (i := 6) (v := ?va6) rfl (by kernel_rfl) (by kernel_rfl) (by kernel_rfl) (fun _ _ _ h => h) (Or.inl ⟨by rfl, ?ya6⟩) ?_
          case ya6 => (intro w; go_simp; (try with_reducible rfl))
          try simp only [Act.put, List.getElem_toArray, List.getElem_cons_zero, List.getElem_cons_succ, List.setIfInBounds_toArray, List.set_cons_zero, List.set_cons_succ]
          refine wpAny_take (i := 7) (v := ?va7) rfl (by kernel_rfl) (by kernel_rfl) (by kernel_rfl) (fun _ _ _ h => h) (Or.inl ⟨by rfl, ?ya7⟩) ?_
          case ya7 => (intro w; go_simp; (try with_reducible rfl))
          try simp only [Act.put, List.getElem_toArray, List.getElem_cons_zero, List.getElem_cons_succ, List.setIfInBounds_toArray, List.set_cons_zero, List.set_cons_succ]
          refine wpAny_take (i := 8) (v := ?va8) rfl (by kernel_rfl) (by kernel_rfl) (by kernel_rfl) (fun _ _ _ h => h) (Or.inl ⟨by rfl, ?ya8⟩) ?_
          case ya8 => (intro w; go_simp; (try with_reducible rfl))
          try simp only [Act.put, List.getElem_toArray, List.getElem_cons_zero, List.getElem_cons_succ, List.setIfInBounds_toArray, List.set_cons_zero, List.set_cons_succ]
          refine wpAny_take (i := 9) (v := ?va9) rfl (by kernel_rfl) (by kernel_rfl) (by kernel_rfl) (fun _ _ _ h => h) (Or.inl ⟨by rfl, ?ya9⟩) ?_
          case ya9 => (intro w; go_simp; (try with_reducible rfl))
          try simp only [Act.put, List.getElem_toArray, List.getElem_cons_zero, List.getElem_cons_succ, List.setIfInBounds_toArray, List.set_cons_zero, List.set_cons_succ]
          refine wpAny_ready (rs := [4]) (by kernel_rfl) (by simp) ?_
          refine AllReady.cons rfl (fun KK hKK => ?_) (AllReady.nil)
          rw [if_pos (by rfl)]
          go_simp
          refine (half_any _ _).mono ?_
          rintro e w9 ⟨rfl, h9⟩
          have h9 := h9.symm
          rw [← h9]
          simp only []
          refine hKK _ _ ?_
          clear hKK KK h9
          try simp only [Act.put, List.getElem_toArray, List.getElem_cons_zero, List.getElem_cons_succ, List.setIfInBounds_toArray, List.set_cons_zero, List.set_cons_succ]
          refine wpAny_take (i := 5) (v := ?va5) rfl (by kernel_rfl) (by kernel_rfl) (by kernel_rfl) (fun _ _ _ h => h) (Or.inl ⟨by rfl, ?ya5⟩) ?_
          case ya5 => (intro w; go_simp; (try with_reducible rfl))
          try simp only [Act.put, List.getElem_toArray, List.getElem_cons_zero, List.getElem_cons_succ, List.setIfInBounds_toArray, List.set_cons_zero, List.set_cons_succ]
          refine wpAny_ready (rs := [10]) (by kernel_rfl) (by simp) ?_
          refine AllReady.cons rfl (fun KK hKK => ?_) (AllReady.nil)
          rw [if_pos (by rfl)]
          go_simp
          refine (half_any _ _).mono ?_
          rintro e w9 ⟨rfl, h9⟩
          have h9 := h9.symm
          rw [← h9]
          simp only []
          refine hKK _ _ ?_
          clear hKK KK h9
          try simp only [Act.put, List.getElem_toArray, List.getElem_cons_zero, List.getElem_cons_succ, List.setIfInBounds_toArray, List.set_cons_zero, List.set_cons_succ]
          refine wpAny_take (i := 11) (v := ?va11) rfl (by kernel_rfl) (by kernel_rfl) (by kernel_rfl) (fun _ _ _ h => h) (Or.inl ⟨by rfl, ?ya11⟩) ?_
          case ya11 => (intro w; go_simp; (try with_reducible rfl))
          try simp only [Act.put, List.getElem_toArray, List.getElem_cons_zero, List.getElem_cons_succ, List.setIfInBounds_toArray, List.set_cons_zero, List.set_cons_succ]
          refine wpAny_take (i := 12) (v := ?va12) rfl (by kernel_rfl) (by kernel_rfl) (by kernel_rfl) (fun _ _ _ h => h) (Or.inl ⟨by rfl, ?ya12⟩) ?_
          case ya12 => (intro w; go_simp; (try with_reducible rfl))
          try simp only [Act.put, List.getElem_toArray, List.getElem_cons_zero, List.getElem_cons_succ, List.setIfInBounds_toArray, List.set_cons_zero, List.set_cons_succ]
          refine wpAny_ready (rs := [13]) (by kernel_rfl) (by simp) ?_
          refine AllReady.cons rfl (fun KK hKK => ?_) (AllReady.nil)
          rw [if_pos (by rfl)]
          go_simp
          refine hKK _ _ ?_
          clear hKK KK
          try simp only [Act.put, List.getElem_toArray, List.getElem_cons_zero, List.getElem_cons_succ, List.setIfInBounds_toArray, List.set_cons_zero, List.set_cons_succ]
          refine wpAny_ready (rs := [14]) (by kernel_rfl) (by simp) ?_
          refine AllReady.cons rfl (fun KK hKK => ?_) (AllReady.nil)
          rw [if_pos (by rfl)]
          refine wp_own_append (v := .slice none 0 0) (n := 0) (xs := []) _ _ 37 5 (.int .u8 0) 1 1 rfl Tryz.underlying37 info5 rfl (by decide) ⟨World.ownsRow_nil W0 W0.heap.size 5 1, Nat.le_refl _⟩ rfl [.int .u8 (16 * Rf.halfOf a + Rf.halfOf b)] 1 rfl rfl (by simp [Value.oneCell']) rfl (by unfold maxLen; omega) (by omega) ?_
          intro v9 w9 hO9 hb9 _
          refine hKK _ _ ?_
          clear hKK KK
          try simp only [Act.put, List.getElem_toArray, List.getElem_cons_zero, List.getElem_cons_succ, List.setIfInBounds_toArray, List.set_cons_zero, List.set_cons_succ]
          refine wpAny_take (i := 15) (v := ?va15) rfl (by kernel_rfl) (by kernel_rfl) (by kernel_rfl) (fun _ _ _ h => h) (Or.inl ⟨by rfl, ?ya15⟩) ?_
          case ya15 => (intro w; go_simp; (try with_reducible rfl))
          try simp only [Act.put, List.getElem_toArray, List.getElem_cons_zero, List.getElem_cons_succ, List.setIfInBounds_toArray, List.set_cons_zero, List.set_cons_succ]
          refine wpAny_done (by kernel_rfl) ?_ _
          rw [Nat.zero_add, List.nil_append] at hO9
          have hsz0 : wr.heap.size ≤ W0.heap.size := HBW.out.size
          have HBF : Hid (Bf wr.heap.size v9 [Rf.hexV a b] w9) := Lib.hid (by
            have e : Lib.byteCells [Rf.hexV a b] = [.int .u8 (16 * Rf.halfOf a + Rf.halfOf b)] := by unfold Lib.byteCells; rw [← hv]; rfl
            unfold Bf
            rw [e]
            refine ⟨⟨hO9.own.1, ?_⟩, Nat.le_trans hsz0 hO9.le⟩
            rcases hO9.own.2 with hn | ⟨g, cap, cur, rfl, hB, rest⟩
            · exact .inl hn
            · exact .inr ⟨g, cap, cur, rfl, Nat.le_trans hsz0 hB, rest⟩)
          have HBZ : Hid (Below wr.heap.size wr w9) := Lib.hid (HBW.out.trans (hb9.mono hsz0))
          clear hO9 hb9 w1 w2 w3
          go_wp2_with fail
          go_roundw
          case rel => exact ⟨HBZ.out, .inr ⟨by go_num, HF.out, HBF.out⟩⟩
          case measure => simp [intOf]
    · have HBZ := Lib.hid hb
      have HBF := Lib.hid hB
      have HF := Lib.hid hbad
      clear hb hB hbad
      have e9 : IntKind.i64.wrap 2 = 2 := rfl
      go_wp2_with fail
      all_goals
        refine bodyPost_ret (v := .tuple #[_, .bool true]) (by first | (simp [results, Tryz.results69, go_sem]; done) | (simp [results, Tryz.results69, go_sem]; rfl)) rfl ⟨HBZ.out, fun h => (by rw [HF.out] at h; cases h), fun _ => ⟨_, rfl, HBF.out⟩⟩
end Go.Proofs.YthpojljfmipngaaGreatDoor
