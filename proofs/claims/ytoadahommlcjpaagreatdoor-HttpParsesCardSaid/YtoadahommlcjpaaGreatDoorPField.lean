/-
  THE WALK: field of the document. CONDITION: length.
-/
import Derived.Test.YtoadahommlcjpaaGreatDoorPCut
import Derived.Test.YtoadahommlcjpaaGreatDoorTillF
namespace Go.Proofs.YtoadahommlcjpaaGreatDoor
open Go.RowKit
set_option maxRecDepth 100000 in
set_option maxHeartbeats 4000000 in
theorem refField_any (s : ByteArray) (w : World) (hs : s.size ≤ 1073741824) :
    Calls Tryz.prog 112 #[.string s] w fun e w' => ∃ n v : Ht.Bs, e = .returned (.tuple #[.agg #[.string ⟨n.toArray⟩, .string ⟨v.toArray⟩], .bool (Ht.fieldOf s.data.toList).2]) ∧ ((Ht.fieldOf s.data.toList).2 = true → (⟨n, v⟩ : Ht.Hd) = (Ht.fieldOf s.data.toList).1) ∧ Below w.heap.size w w' := by
  obtain ⟨F, hF⟩ : ∃ F, Ht.fieldOf s.data.toList = F := ⟨_, rfl⟩
  rw [hF]
  have HF := Lib.hid hF
  clear hF
  have HW0 := Lib.hid (below_box w (.cells #[.string ⟨#[]⟩, .string ⟨#[]⟩] 65))
  have HB0 : Hid ((w.alloc (.cells #[.string ⟨#[]⟩, .string ⟨#[]⟩] 65)).heap[w.heap.size]? = some (.cells #[.string ⟨#[]⟩, .string ⟨#[]⟩] 65 (0, 0))) := Lib.hid (heap_alloc_new w _)
  go_enter Tryz.func112, Tryz.ntmps112
  go_wp2_with fail
  generalize w.alloc (.cells #[.string ⟨#[]⟩, .string ⟨#[]⟩] 65) = w1 at HW0 HB0 ⊢
  go_loopw [4] (fun i wr => ∃ k : Nat, k ≤ s.size ∧ i = .int .i64 k ∧ Hid ((58 : UInt8) ∉ s.data.toList.take k) ∧ wr = w1) (fun i _ => s.size - (intOf i).toNat)
  case atStart => exact ⟨0, Nat.zero_le _, rfl, Lib.hid (by simp), rfl⟩
  case round =>
    obtain ⟨k, hk, rfl, H, rfl⟩ := hrel
    by_cases hlt : k < s.size
    · have HG := Lib.hid (get_list hlt)
      obtain ⟨c, hc⟩ : ∃ c, s[k]'hlt = c := ⟨_, rfl⟩
      rw [hc] at HG
      by_cases h58 : c = 58
      · have HU : Hid (Ht.upto 58 s.data.toList = (s.data.toList.take k, s.data.toList.drop (k + 1), true)) := Lib.hid (Ht.upto_hit 58 _ k H.out (by rw [HG.out, h58]))
        have hci : (c.toNat : Int) = 58 := by rw [h58]; rfl
        obtain ⟨q1, hq1⟩ : ∃ q, Ht.tokenB (s.data.toList.take k) = q := ⟨_, rfl⟩
        obtain ⟨tv, htv⟩ : ∃ t, Ht.trim (s.data.toList.drop (k + 1)) = t := ⟨_, rfl⟩
        have HT := Lib.hid (fun W => by
          have h := refToken_b (s.data.toList.take k) W (by rw [List.length_take]; omega) hq1
          rw [← str_takeA] at h
          exact h)
        have HFF : Hid (F = (⟨s.data.toList.take k, tv⟩, q1 && Ht.valuedB tv)) := Lib.hid (by
          rw [← HF.out]; unfold Ht.fieldOf; rw [HU.out]; simp [hq1, htv])
        have HTV := Lib.hid htv
        clear h58 H HG HU hq1 htv HF
        go_wp2_with fail
        refine (HT.out _).mono ?_
        rintro e w2 ⟨rfl, hb2⟩
        have HW2 := Lib.hid (HW0.out.trans (hb2.mono HW0.out.size))
        have HB2 := Lib.hid (blk_next hb2 HB0.out)
        clear hb2 HW0 HB0 HT
        obtain ⟨c0, c1⟩ := blk2 HB2.out
        have f0 := blk_free HB2.out 0
        have f1 := blk_free HB2.out 1
        cases q1
        · have HS := Lib.hid (hd_set (x := .string ⟨#[]⟩) (y := .string ⟨#[]⟩) HB2.out)
          have HT := Lib.hid (HW2.out.trans (HS.out.1.to HW2.out.size (by simp)))
          go_wp2_with fail
          (try simp only [Exit.inBlock, Exit.then])
          refine bodyPost_ret (results_row_tmp rfl _ _ _ w.heap.size #[.string ⟨#[]⟩, .string ⟨#[]⟩] rfl (hd_load HS.out.2)) rfl ?_
          exact ⟨[], [], retv (by rw [HFF.out]; rfl), (fun h => by rw [HFF.out] at h; cases h), HT.out⟩
        · clear c0 c1 f0 f1
          go_wp2_with fail
          go_loopw [5] (fun v wr => ∃ S : ByteArray, v = .string S ∧ S.size ≤ s.size ∧ Hid (Ht.trim S.data.toList = tv) ∧ Hid (wr.heap[w.heap.size]? = some (.cells #[.string ⟨#[]⟩, .string ⟨#[]⟩] 65 (0, 0))) ∧ Hid (Below w.heap.size w wr)) (fun v _ => strSize v)
          case atStart => exact ⟨s.extract (k + 1) s.size, rfl, by simp, Lib.hid (by rw [← HTV.out, str_dropA]), HB2, HW2⟩
          case round =>
            obtain ⟨S, rfl, hS, HSt, HB2, HW2⟩ := hrel
            by_cases h0 : 0 < S.size
            · have hne : (S.toList == []) = false := by
                rw [Lib.toList_data]
                have : S.data.toList ≠ [] := fun h => by rw [Lib.size_eq, h] at h0; cases h0
                simpa using this
              have HL := Lib.hid (str_head h0)
              have hsz : (S.extract 1 S.size).size = S.size - 1 := by simp
              obtain ⟨d, hd⟩ : ∃ d, S[0]'h0 = d := ⟨_, rfl⟩
              rw [hd] at HL
              rcases bl_cases (c := d) with ⟨h1, hb⟩ | ⟨h1, h2, hb⟩ | ⟨h1, h2, hb⟩
              · have HN : Hid (Ht.trim (S.extract 1 S.size).data.toList = tv) := Lib.hid (by rw [← HSt.out, HL.out, trim_step _ hb])
                clear HL hb
                go_wp2_with fail
                go_roundw
                case rel => exact ⟨S.extract 1 S.size, rfl, by rw [hsz]; omega, HN, HB2, HW2⟩
                case measure => simp only [strSize]; simp; omega
              · have HN : Hid (Ht.trim (S.extract 1 S.size).data.toList = tv) := Lib.hid (by rw [← HSt.out, HL.out, trim_step _ hb])
                clear HL hb
                go_wp2_with fail
                go_roundw
                case rel => exact ⟨S.extract 1 S.size, rfl, by rw [hsz]; omega, HN, HB2, HW2⟩
                case measure => simp only [strSize]; simp; omega
              · have HR0 : Hid ((List.dropWhile Ht.isBl S.data.toList.reverse).reverse = tv) := Lib.hid (by have h := HSt.out; rw [HL.out, trim_left hb] at h; rw [HL.out]; exact h)
                clear HL hb hsz HSt
                have hb1 : ((d.toNat : Int) == 32) = false := by simpa using h1
                have hb2 : ((d.toNat : Int) == 9) = false := by simpa using h2
                go_wp2_with fail
                go_loopw [5] (fun v wr => ∃ S : ByteArray, v = .string S ∧ S.size ≤ s.size ∧ Hid ((List.dropWhile Ht.isBl S.data.toList.reverse).reverse = tv) ∧ Hid (wr.heap[w.heap.size]? = some (.cells #[.string ⟨#[]⟩, .string ⟨#[]⟩] 65 (0, 0))) ∧ Hid (Below w.heap.size w wr)) (fun v _ => strSize v)
                case atStart => exact ⟨S, rfl, by omega, HR0, HB2, HW2⟩
                case round =>
                  obtain ⟨U, rfl, hU, HU, HB2, HW2⟩ := hrel
                  by_cases h0 : 0 < U.size
                  · have hne : (U.toList == []) = false := by
                      rw [Lib.toList_data]
                      have : U.data.toList ≠ [] := fun h => by rw [Lib.size_eq, h] at h0; cases h0
                      simpa using this
                    have HL := Lib.hid (str_last h0)
                    have hsz : (U.extract 0 (U.size - 1)).size = U.size - 1 := by simp
                    obtain ⟨d, hd⟩ : ∃ d, U[U.size - 1]'(by omega) = d := ⟨_, rfl⟩
                    rw [hd] at HL
                    rcases bl_cases (c := d) with ⟨h1, hb⟩ | ⟨h1, h2, hb⟩ | ⟨h1, h2, hb⟩
                    · have HN : Hid ((List.dropWhile Ht.isBl (U.extract 0 (U.size - 1)).data.toList.reverse).reverse = tv) := Lib.hid (by rw [← HU.out, HL.out, trimR_step _ hb])
                      clear HL hb
                      go_wp2_with fail
                      go_roundw
                      case rel => exact ⟨U.extract 0 (U.size - 1), rfl, by rw [hsz]; omega, HN, HB2, HW2⟩
                      case measure => simp only [strSize]; simp; omega
                    · have HN : Hid ((List.dropWhile Ht.isBl (U.extract 0 (U.size - 1)).data.toList.reverse).reverse = tv) := Lib.hid (by rw [← HU.out, HL.out, trimR_step _ hb])
                      clear HL hb
                      go_wp2_with fail
                      go_roundw
                      case rel => exact ⟨U.extract 0 (U.size - 1), rfl, by rw [hsz]; omega, HN, HB2, HW2⟩
                      case measure => simp only [strSize]; simp; omega
                    · have HV : Hid (U.data.toList = tv) := Lib.hid (by have h := HU.out; rw [HL.out, trimR_stop _ hb] at h; rw [HL.out]; exact h)
                      clear HL hb hsz HU
                      have hb1 : ((d.toNat : Int) == 32) = false := by simpa using h1
                      have hb2 : ((d.toNat : Int) == 9) = false := by simpa using h2
                      go_wp2_with fail
                      obtain ⟨q2, hq2⟩ : ∃ q, Ht.valuedB tv = q := ⟨_, rfl⟩
                      have HVL := Lib.hid (fun W => by have h := refValue_any U W (by omega); rw [HV.out, hq2] at h; exact h)
                      have HFG : Hid (F = (⟨s.data.toList.take k, tv⟩, q2)) := Lib.hid (by rw [HFF.out, hq2]; rfl)
                      clear hq2 HFF
                      refine wp_region_any (by kernel_rfl) ?_
                      change wpAny _ _ _ _ _ _ _ (World.drew _)
                      have HB3 : Hid (wr.drew.heap[w.heap.size]? = some (.cells #[.string ⟨#[]⟩, .string ⟨#[]⟩] 65 (0, 0))) := HB2
                      have HW3 := Lib.hid (below_drewN HW2.out 1)
                      change Hid (Below w.heap.size w wr.drew) at HW3
                      generalize wr.drew = w3 at HB3 HW3 ⊢
                      clear HB2 HW2
                      refine wpAny_of_till (S := fun _ => True) (st := fun _ => false) _ _ _ _ ?_
                      change wpTill _ _ _ _ _ _ _ #[false, false, false, false, false, false, false, false, false] _ _
                      refine wpTill_take (i := 0) (v := .string s) rfl (by kernel_rfl) (by kernel_rfl) (by kernel_rfl) (show Shutd _ _ #[false, false, false, false, false, false, false, false, false] from Shutd.start 9) (fun l h h9 => by cases h9) (fun l => rfl) (fun _ _ _ h => h) (Or.inl ⟨by rfl, ?yb0⟩) trivial (fun hsh' => ?_)
                      case yb0 => (intro w hS; go_simp; (try with_reducible rfl))
                      have hsh := hsh'
                      clear hsh'
                      simp only [Act.put, List.getElem_toArray, List.getElem_cons_zero, List.setIfInBounds_toArray, List.set_cons_zero, List.set_cons_succ] at hsh ⊢
                      refine wpTill_take (i := 1) (v := .int .i64 k) rfl (by kernel_rfl) (by kernel_rfl) (by kernel_rfl) hsh (fun l h h9 => by cases h9) (fun l => rfl) (fun _ _ _ h => h) (Or.inl ⟨by rfl, ?yb1⟩) trivial (fun hsh' => ?_)
                      case yb1 => (intro w hS; go_simp; (try with_reducible rfl))
                      have hsh := hsh'
                      clear hsh'
                      simp only [Act.put, List.getElem_toArray, List.getElem_cons_zero, List.getElem_cons_succ, List.setIfInBounds_toArray, List.set_cons_zero, List.set_cons_succ] at hsh ⊢
                      refine wpTill_take (i := 2) (v := .string (s.extract 0 k)) rfl (by kernel_rfl) (by kernel_rfl) (by kernel_rfl) hsh (fun l h h9 => by cases h9) (fun l => rfl) (fun _ _ _ h => h) (Or.inl ⟨by rfl, ?yb2⟩) trivial (fun hsh' => ?_)
                      case yb2 => (intro w hS; go_simp; (try with_reducible rfl))
                      have hsh := hsh'
                      clear hsh'
                      simp only [Act.put, List.getElem_toArray, List.getElem_cons_zero, List.getElem_cons_succ, List.setIfInBounds_toArray, List.set_cons_zero, List.set_cons_succ] at hsh ⊢
                      refine wpTill_take (i := 3) (v := .string U) rfl (by kernel_rfl) (by kernel_rfl) (by kernel_rfl) hsh (fun l h h9 => by cases h9) (fun l => rfl) (fun _ _ _ h => h) (Or.inl ⟨by rfl, ?yb3⟩) trivial (fun hsh' => ?_)
                      case yb3 => (intro w hS; go_simp; (try with_reducible rfl))
                      have hsh := hsh'
                      clear hsh'
                      simp only [Act.put, List.getElem_toArray, List.getElem_cons_zero, List.getElem_cons_succ, List.setIfInBounds_toArray, List.set_cons_zero, List.set_cons_succ] at hsh ⊢
                      refine wpTill_take (i := 4) (v := .agg #[.string (s.extract 0 k), .string U]) rfl (by kernel_rfl) (by kernel_rfl) (by kernel_rfl) hsh (fun l h h9 => by cases h9) (fun l => rfl) (fun _ _ _ h => h) (Or.inl ⟨by rfl, ?yb4⟩) trivial (fun hsh' => ?_)
                      case yb4 => (intro w hS; go_simp; (try with_reducible rfl))
                      have hsh := hsh'
                      clear hsh'
                      simp only [Act.put, List.getElem_toArray, List.getElem_cons_zero, List.getElem_cons_succ, List.setIfInBounds_toArray, List.set_cons_zero, List.set_cons_succ] at hsh ⊢
                      refine wpTill_take (i := 5) (v := .string U) rfl (by kernel_rfl) (by kernel_rfl) (by kernel_rfl) hsh (fun l h h9 => by cases h9) (fun l => rfl) (fun _ _ _ h => h) (Or.inl ⟨by rfl, ?yb5⟩) trivial (fun hsh' => ?_)
                      case yb5 => (intro w hS; go_simp; (try with_reducible rfl))
                      have hsh := hsh'
                      clear hsh'
                      simp only [Act.put, List.getElem_toArray, List.getElem_cons_zero, List.getElem_cons_succ, List.setIfInBounds_toArray, List.set_cons_zero, List.set_cons_succ] at hsh ⊢
                      clear hsh
                      refine wpTill_ready (rs := [6]) (by kernel_rfl) (by simp) ?_
                      refine (AllTill.cons rfl (fun KK hKK => ?_) AllTill.nil)
                      rw [if_pos (by rfl)]
                      go_simp
                      refine (HVL.out _).mono ?_
                      rintro e w4 ⟨rfl, n, rfl⟩
                      refine hKK _ _ (fun _ => trivial) ?_
                      clear hKK KK
                      simp only [List.setIfInBounds_toArray, List.set_cons_zero, List.set_cons_succ]
                      have HB4 : Hid ((w3.drewN n).heap[w.heap.size]? = some (.cells #[.string ⟨#[]⟩, .string ⟨#[]⟩] 65 (0, 0))) := HB3
                      have HW4 := Lib.hid (below_drewN HW3.out n)
                      generalize w3.drewN n = w4 at HB4 HW4 ⊢
                      clear HB3 HW3
                      obtain ⟨c0, c1⟩ := blk2 HB4.out
                      have f0 := blk_free HB4.out 0
                      have f1 := blk_free HB4.out 1
                      refine wpTill_ready (rs := [7]) (by kernel_rfl) (by simp) ?_
                      refine (AllTill.cons rfl (fun KK hKK => ?_) AllTill.nil)
                      rw [if_pos (by rfl)]
                      go_simp
                      refine hKK _ _ (fun _ => trivial) ?_
                      clear hKK KK
                      simp only [List.setIfInBounds_toArray, List.set_cons_zero, List.set_cons_succ]
                      clear c0 c1 f0 f1
                      have HS := Lib.hid (hd_set (x := .string (s.extract 0 k)) (y := .string U) HB4.out)
                      have HT := Lib.hid (HW4.out.trans (HS.out.1.to HW4.out.size (by simp)))
                      refine wpTill_ready (rs := [8]) (by kernel_rfl) (by simp) ?_
                      refine (AllTill.cons rfl (fun KK hKK => ?_) AllTill.nil)
                      rw [if_pos (by rfl)]
                      go_simp
                      refine hKK _ _ (fun _ => trivial) ?_
                      clear hKK KK
                      simp only [List.setIfInBounds_toArray, List.set_cons_zero, List.set_cons_succ]
                      refine wpTill_done (by kernel_rfl) ?_ _
                      (try simp only [noPanic])
                      simp only [Exit.then]
                      go_wp2_with fail
                      (try simp only [Exit.inBlock, Exit.then])
                      refine bodyPost_ret (results_row_tmp rfl _ _ _ w.heap.size #[.string (s.extract 0 k), .string U] rfl (hd_load HS.out.2)) rfl ?_
                      exact ⟨s.data.toList.take k, tv, retv (by rw [HFG.out, ← str_takeA, ← HV.out, ← str_back]; rfl), (fun _ => by rw [HFG.out]), HT.out⟩
                  · have hne : (U.toList == []) = true := by rw [Lib.toList_data, str_nil h0]; rfl
                    have HV : Hid (U.data.toList = tv) := Lib.hid (by rw [← HU.out, str_nil h0]; rfl)
                    clear HU
                    go_wp2_with fail
                    obtain ⟨q2, hq2⟩ : ∃ q, Ht.valuedB tv = q := ⟨_, rfl⟩
                    have HVL := Lib.hid (fun W => by have h := refValue_any U W (by omega); rw [HV.out, hq2] at h; exact h)
                    have HFG : Hid (F = (⟨s.data.toList.take k, tv⟩, q2)) := Lib.hid (by rw [HFF.out, hq2]; rfl)
                    clear hq2 HFF
                    refine wp_region_any (by kernel_rfl) ?_
                    change wpAny _ _ _ _ _ _ _ (World.drew _)
                    have HB3 : Hid (wr.drew.heap[w.heap.size]? = some (.cells #[.string ⟨#[]⟩, .string ⟨#[]⟩] 65 (0, 0))) := HB2
                    have HW3 := Lib.hid (below_drewN HW2.out 1)
                    change Hid (Below w.heap.size w wr.drew) at HW3
                    generalize wr.drew = w3 at HB3 HW3 ⊢
                    clear HB2 HW2
                    refine wpAny_of_till (S := fun _ => True) (st := fun _ => false) _ _ _ _ ?_
                    change wpTill _ _ _ _ _ _ _ #[false, false, false, false, false, false, false, false, false] _ _
                    refine wpTill_take (i := 0) (v := .string s) rfl (by kernel_rfl) (by kernel_rfl) (by kernel_rfl) (show Shutd _ _ #[false, false, false, false, false, false, false, false, false] from Shutd.start 9) (fun l h h9 => by cases h9) (fun l => rfl) (fun _ _ _ h => h) (Or.inl ⟨by rfl, ?yb0⟩) trivial (fun hsh' => ?_)
                    case yb0 => (intro w hS; go_simp; (try with_reducible rfl))
                    have hsh := hsh'
                    clear hsh'
                    simp only [Act.put, List.getElem_toArray, List.getElem_cons_zero, List.setIfInBounds_toArray, List.set_cons_zero, List.set_cons_succ] at hsh ⊢
                    refine wpTill_take (i := 1) (v := .int .i64 k) rfl (by kernel_rfl) (by kernel_rfl) (by kernel_rfl) hsh (fun l h h9 => by cases h9) (fun l => rfl) (fun _ _ _ h => h) (Or.inl ⟨by rfl, ?yb1⟩) trivial (fun hsh' => ?_)
                    case yb1 => (intro w hS; go_simp; (try with_reducible rfl))
                    have hsh := hsh'
                    clear hsh'
                    simp only [Act.put, List.getElem_toArray, List.getElem_cons_zero, List.getElem_cons_succ, List.setIfInBounds_toArray, List.set_cons_zero, List.set_cons_succ] at hsh ⊢
                    refine wpTill_take (i := 2) (v := .string (s.extract 0 k)) rfl (by kernel_rfl) (by kernel_rfl) (by kernel_rfl) hsh (fun l h h9 => by cases h9) (fun l => rfl) (fun _ _ _ h => h) (Or.inl ⟨by rfl, ?yb2⟩) trivial (fun hsh' => ?_)
                    case yb2 => (intro w hS; go_simp; (try with_reducible rfl))
                    have hsh := hsh'
                    clear hsh'
                    simp only [Act.put, List.getElem_toArray, List.getElem_cons_zero, List.getElem_cons_succ, List.setIfInBounds_toArray, List.set_cons_zero, List.set_cons_succ] at hsh ⊢
                    refine wpTill_take (i := 3) (v := .string U) rfl (by kernel_rfl) (by kernel_rfl) (by kernel_rfl) hsh (fun l h h9 => by cases h9) (fun l => rfl) (fun _ _ _ h => h) (Or.inl ⟨by rfl, ?yb3⟩) trivial (fun hsh' => ?_)
                    case yb3 => (intro w hS; go_simp; (try with_reducible rfl))
                    have hsh := hsh'
                    clear hsh'
                    simp only [Act.put, List.getElem_toArray, List.getElem_cons_zero, List.getElem_cons_succ, List.setIfInBounds_toArray, List.set_cons_zero, List.set_cons_succ] at hsh ⊢
                    refine wpTill_take (i := 4) (v := .agg #[.string (s.extract 0 k), .string U]) rfl (by kernel_rfl) (by kernel_rfl) (by kernel_rfl) hsh (fun l h h9 => by cases h9) (fun l => rfl) (fun _ _ _ h => h) (Or.inl ⟨by rfl, ?yb4⟩) trivial (fun hsh' => ?_)
                    case yb4 => (intro w hS; go_simp; (try with_reducible rfl))
                    have hsh := hsh'
                    clear hsh'
                    simp only [Act.put, List.getElem_toArray, List.getElem_cons_zero, List.getElem_cons_succ, List.setIfInBounds_toArray, List.set_cons_zero, List.set_cons_succ] at hsh ⊢
                    refine wpTill_take (i := 5) (v := .string U) rfl (by kernel_rfl) (by kernel_rfl) (by kernel_rfl) hsh (fun l h h9 => by cases h9) (fun l => rfl) (fun _ _ _ h => h) (Or.inl ⟨by rfl, ?yb5⟩) trivial (fun hsh' => ?_)
                    case yb5 => (intro w hS; go_simp; (try with_reducible rfl))
                    have hsh := hsh'
                    clear hsh'
                    simp only [Act.put, List.getElem_toArray, List.getElem_cons_zero, List.getElem_cons_succ, List.setIfInBounds_toArray, List.set_cons_zero, List.set_cons_succ] at hsh ⊢
                    clear hsh
                    refine wpTill_ready (rs := [6]) (by kernel_rfl) (by simp) ?_
                    refine (AllTill.cons rfl (fun KK hKK => ?_) AllTill.nil)
                    rw [if_pos (by rfl)]
                    go_simp
                    refine (HVL.out _).mono ?_
                    rintro e w4 ⟨rfl, n, rfl⟩
                    refine hKK _ _ (fun _ => trivial) ?_
                    clear hKK KK
                    simp only [List.setIfInBounds_toArray, List.set_cons_zero, List.set_cons_succ]
                    have HB4 : Hid ((w3.drewN n).heap[w.heap.size]? = some (.cells #[.string ⟨#[]⟩, .string ⟨#[]⟩] 65 (0, 0))) := HB3
                    have HW4 := Lib.hid (below_drewN HW3.out n)
                    generalize w3.drewN n = w4 at HB4 HW4 ⊢
                    clear HB3 HW3
                    obtain ⟨c0, c1⟩ := blk2 HB4.out
                    have f0 := blk_free HB4.out 0
                    have f1 := blk_free HB4.out 1
                    refine wpTill_ready (rs := [7]) (by kernel_rfl) (by simp) ?_
                    refine (AllTill.cons rfl (fun KK hKK => ?_) AllTill.nil)
                    rw [if_pos (by rfl)]
                    go_simp
                    refine hKK _ _ (fun _ => trivial) ?_
                    clear hKK KK
                    simp only [List.setIfInBounds_toArray, List.set_cons_zero, List.set_cons_succ]
                    clear c0 c1 f0 f1
                    have HS := Lib.hid (hd_set (x := .string (s.extract 0 k)) (y := .string U) HB4.out)
                    have HT := Lib.hid (HW4.out.trans (HS.out.1.to HW4.out.size (by simp)))
                    refine wpTill_ready (rs := [8]) (by kernel_rfl) (by simp) ?_
                    refine (AllTill.cons rfl (fun KK hKK => ?_) AllTill.nil)
                    rw [if_pos (by rfl)]
                    go_simp
                    refine hKK _ _ (fun _ => trivial) ?_
                    clear hKK KK
                    simp only [List.setIfInBounds_toArray, List.set_cons_zero, List.set_cons_succ]
                    refine wpTill_done (by kernel_rfl) ?_ _
                    (try simp only [noPanic])
                    simp only [Exit.then]
                    go_wp2_with fail
                    (try simp only [Exit.inBlock, Exit.then])
                    refine bodyPost_ret (results_row_tmp rfl _ _ _ w.heap.size #[.string (s.extract 0 k), .string U] rfl (hd_load HS.out.2)) rfl ?_
                    exact ⟨s.data.toList.take k, tv, retv (by rw [HFG.out, ← str_takeA, ← HV.out, ← str_back]; rfl), (fun _ => by rw [HFG.out]), HT.out⟩
            · have hne : (S.toList == []) = true := by rw [Lib.toList_data, str_nil h0]; rfl
              have HR0 : Hid ((List.dropWhile Ht.isBl S.data.toList.reverse).reverse = tv) := Lib.hid (by rw [← HSt.out, str_nil h0]; rfl)
              clear HSt
              go_wp2_with fail
              go_loopw [5] (fun v wr => ∃ S : ByteArray, v = .string S ∧ S.size ≤ s.size ∧ Hid ((List.dropWhile Ht.isBl S.data.toList.reverse).reverse = tv) ∧ Hid (wr.heap[w.heap.size]? = some (.cells #[.string ⟨#[]⟩, .string ⟨#[]⟩] 65 (0, 0))) ∧ Hid (Below w.heap.size w wr)) (fun v _ => strSize v)
              case atStart => exact ⟨S, rfl, by omega, HR0, HB2, HW2⟩
              case round =>
                obtain ⟨U, rfl, hU, HU, HB2, HW2⟩ := hrel
                by_cases h0 : 0 < U.size
                · have hne : (U.toList == []) = false := by
                    rw [Lib.toList_data]
                    have : U.data.toList ≠ [] := fun h => by rw [Lib.size_eq, h] at h0; cases h0
                    simpa using this
                  have HL := Lib.hid (str_last h0)
                  have hsz : (U.extract 0 (U.size - 1)).size = U.size - 1 := by simp
                  obtain ⟨d, hd⟩ : ∃ d, U[U.size - 1]'(by omega) = d := ⟨_, rfl⟩
                  rw [hd] at HL
                  rcases bl_cases (c := d) with ⟨h1, hb⟩ | ⟨h1, h2, hb⟩ | ⟨h1, h2, hb⟩
                  · have HN : Hid ((List.dropWhile Ht.isBl (U.extract 0 (U.size - 1)).data.toList.reverse).reverse = tv) := Lib.hid (by rw [← HU.out, HL.out, trimR_step _ hb])
                    clear HL hb
                    go_wp2_with fail
                    go_roundw
                    case rel => exact ⟨U.extract 0 (U.size - 1), rfl, by rw [hsz]; omega, HN, HB2, HW2⟩
                    case measure => simp only [strSize]; simp; omega
                  · have HN : Hid ((List.dropWhile Ht.isBl (U.extract 0 (U.size - 1)).data.toList.reverse).reverse = tv) := Lib.hid (by rw [← HU.out, HL.out, trimR_step _ hb])
                    clear HL hb
                    go_wp2_with fail
                    go_roundw
                    case rel => exact ⟨U.extract 0 (U.size - 1), rfl, by rw [hsz]; omega, HN, HB2, HW2⟩
                    case measure => simp only [strSize]; simp; omega
                  · have HV : Hid (U.data.toList = tv) := Lib.hid (by have h := HU.out; rw [HL.out, trimR_stop _ hb] at h; rw [HL.out]; exact h)
                    clear HL hb hsz HU
                    have hb1 : ((d.toNat : Int) == 32) = false := by simpa using h1
                    have hb2 : ((d.toNat : Int) == 9) = false := by simpa using h2
                    go_wp2_with fail
                    obtain ⟨q2, hq2⟩ : ∃ q, Ht.valuedB tv = q := ⟨_, rfl⟩
                    have HVL := Lib.hid (fun W => by have h := refValue_any U W (by omega); rw [HV.out, hq2] at h; exact h)
                    have HFG : Hid (F = (⟨s.data.toList.take k, tv⟩, q2)) := Lib.hid (by rw [HFF.out, hq2]; rfl)
                    clear hq2 HFF
                    refine wp_region_any (by kernel_rfl) ?_
                    change wpAny _ _ _ _ _ _ _ (World.drew _)
                    have HB3 : Hid (wr.drew.heap[w.heap.size]? = some (.cells #[.string ⟨#[]⟩, .string ⟨#[]⟩] 65 (0, 0))) := HB2
                    have HW3 := Lib.hid (below_drewN HW2.out 1)
                    change Hid (Below w.heap.size w wr.drew) at HW3
                    generalize wr.drew = w3 at HB3 HW3 ⊢
                    clear HB2 HW2
                    refine wpAny_of_till (S := fun _ => True) (st := fun _ => false) _ _ _ _ ?_
                    change wpTill _ _ _ _ _ _ _ #[false, false, false, false, false, false, false, false, false] _ _
                    refine wpTill_take (i := 0) (v := .string s) rfl (by kernel_rfl) (by kernel_rfl) (by kernel_rfl) (show Shutd _ _ #[false, false, false, false, false, false, false, false, false] from Shutd.start 9) (fun l h h9 => by cases h9) (fun l => rfl) (fun _ _ _ h => h) (Or.inl ⟨by rfl, ?yb0⟩) trivial (fun hsh' => ?_)
                    case yb0 => (intro w hS; go_simp; (try with_reducible rfl))
                    have hsh := hsh'
                    clear hsh'
                    simp only [Act.put, List.getElem_toArray, List.getElem_cons_zero, List.setIfInBounds_toArray, List.set_cons_zero, List.set_cons_succ] at hsh ⊢
                    refine wpTill_take (i := 1) (v := .int .i64 k) rfl (by kernel_rfl) (by kernel_rfl) (by kernel_rfl) hsh (fun l h h9 => by cases h9) (fun l => rfl) (fun _ _ _ h => h) (Or.inl ⟨by rfl, ?yb1⟩) trivial (fun hsh' => ?_)
                    case yb1 => (intro w hS; go_simp; (try with_reducible rfl))
                    have hsh := hsh'
                    clear hsh'
                    simp only [Act.put, List.getElem_toArray, List.getElem_cons_zero, List.getElem_cons_succ, List.setIfInBounds_toArray, List.set_cons_zero, List.set_cons_succ] at hsh ⊢
                    refine wpTill_take (i := 2) (v := .string (s.extract 0 k)) rfl (by kernel_rfl) (by kernel_rfl) (by kernel_rfl) hsh (fun l h h9 => by cases h9) (fun l => rfl) (fun _ _ _ h => h) (Or.inl ⟨by rfl, ?yb2⟩) trivial (fun hsh' => ?_)
                    case yb2 => (intro w hS; go_simp; (try with_reducible rfl))
                    have hsh := hsh'
                    clear hsh'
                    simp only [Act.put, List.getElem_toArray, List.getElem_cons_zero, List.getElem_cons_succ, List.setIfInBounds_toArray, List.set_cons_zero, List.set_cons_succ] at hsh ⊢
                    refine wpTill_take (i := 3) (v := .string U) rfl (by kernel_rfl) (by kernel_rfl) (by kernel_rfl) hsh (fun l h h9 => by cases h9) (fun l => rfl) (fun _ _ _ h => h) (Or.inl ⟨by rfl, ?yb3⟩) trivial (fun hsh' => ?_)
                    case yb3 => (intro w hS; go_simp; (try with_reducible rfl))
                    have hsh := hsh'
                    clear hsh'
                    simp only [Act.put, List.getElem_toArray, List.getElem_cons_zero, List.getElem_cons_succ, List.setIfInBounds_toArray, List.set_cons_zero, List.set_cons_succ] at hsh ⊢
                    refine wpTill_take (i := 4) (v := .agg #[.string (s.extract 0 k), .string U]) rfl (by kernel_rfl) (by kernel_rfl) (by kernel_rfl) hsh (fun l h h9 => by cases h9) (fun l => rfl) (fun _ _ _ h => h) (Or.inl ⟨by rfl, ?yb4⟩) trivial (fun hsh' => ?_)
                    case yb4 => (intro w hS; go_simp; (try with_reducible rfl))
                    have hsh := hsh'
                    clear hsh'
                    simp only [Act.put, List.getElem_toArray, List.getElem_cons_zero, List.getElem_cons_succ, List.setIfInBounds_toArray, List.set_cons_zero, List.set_cons_succ] at hsh ⊢
                    refine wpTill_take (i := 5) (v := .string U) rfl (by kernel_rfl) (by kernel_rfl) (by kernel_rfl) hsh (fun l h h9 => by cases h9) (fun l => rfl) (fun _ _ _ h => h) (Or.inl ⟨by rfl, ?yb5⟩) trivial (fun hsh' => ?_)
                    case yb5 => (intro w hS; go_simp; (try with_reducible rfl))
                    have hsh := hsh'
                    clear hsh'
                    simp only [Act.put, List.getElem_toArray, List.getElem_cons_zero, List.getElem_cons_succ, List.setIfInBounds_toArray, List.set_cons_zero, List.set_cons_succ] at hsh ⊢
                    clear hsh
                    refine wpTill_ready (rs := [6]) (by kernel_rfl) (by simp) ?_
                    refine (AllTill.cons rfl (fun KK hKK => ?_) AllTill.nil)
                    rw [if_pos (by rfl)]
                    go_simp
                    refine (HVL.out _).mono ?_
                    rintro e w4 ⟨rfl, n, rfl⟩
                    refine hKK _ _ (fun _ => trivial) ?_
                    clear hKK KK
                    simp only [List.setIfInBounds_toArray, List.set_cons_zero, List.set_cons_succ]
                    have HB4 : Hid ((w3.drewN n).heap[w.heap.size]? = some (.cells #[.string ⟨#[]⟩, .string ⟨#[]⟩] 65 (0, 0))) := HB3
                    have HW4 := Lib.hid (below_drewN HW3.out n)
                    generalize w3.drewN n = w4 at HB4 HW4 ⊢
                    clear HB3 HW3
                    obtain ⟨c0, c1⟩ := blk2 HB4.out
                    have f0 := blk_free HB4.out 0
                    have f1 := blk_free HB4.out 1
                    refine wpTill_ready (rs := [7]) (by kernel_rfl) (by simp) ?_
                    refine (AllTill.cons rfl (fun KK hKK => ?_) AllTill.nil)
                    rw [if_pos (by rfl)]
                    go_simp
                    refine hKK _ _ (fun _ => trivial) ?_
                    clear hKK KK
                    simp only [List.setIfInBounds_toArray, List.set_cons_zero, List.set_cons_succ]
                    clear c0 c1 f0 f1
                    have HS := Lib.hid (hd_set (x := .string (s.extract 0 k)) (y := .string U) HB4.out)
                    have HT := Lib.hid (HW4.out.trans (HS.out.1.to HW4.out.size (by simp)))
                    refine wpTill_ready (rs := [8]) (by kernel_rfl) (by simp) ?_
                    refine (AllTill.cons rfl (fun KK hKK => ?_) AllTill.nil)
                    rw [if_pos (by rfl)]
                    go_simp
                    refine hKK _ _ (fun _ => trivial) ?_
                    clear hKK KK
                    simp only [List.setIfInBounds_toArray, List.set_cons_zero, List.set_cons_succ]
                    refine wpTill_done (by kernel_rfl) ?_ _
                    (try simp only [noPanic])
                    simp only [Exit.then]
                    go_wp2_with fail
                    (try simp only [Exit.inBlock, Exit.then])
                    refine bodyPost_ret (results_row_tmp rfl _ _ _ w.heap.size #[.string (s.extract 0 k), .string U] rfl (hd_load HS.out.2)) rfl ?_
                    exact ⟨s.data.toList.take k, tv, retv (by rw [HFG.out, ← str_takeA, ← HV.out, ← str_back]; rfl), (fun _ => by rw [HFG.out]), HT.out⟩
                · have hne : (U.toList == []) = true := by rw [Lib.toList_data, str_nil h0]; rfl
                  have HV : Hid (U.data.toList = tv) := Lib.hid (by rw [← HU.out, str_nil h0]; rfl)
                  clear HU
                  go_wp2_with fail
                  obtain ⟨q2, hq2⟩ : ∃ q, Ht.valuedB tv = q := ⟨_, rfl⟩
                  have HVL := Lib.hid (fun W => by have h := refValue_any U W (by omega); rw [HV.out, hq2] at h; exact h)
                  have HFG : Hid (F = (⟨s.data.toList.take k, tv⟩, q2)) := Lib.hid (by rw [HFF.out, hq2]; rfl)
                  clear hq2 HFF
                  refine wp_region_any (by kernel_rfl) ?_
                  change wpAny _ _ _ _ _ _ _ (World.drew _)
                  have HB3 : Hid (wr.drew.heap[w.heap.size]? = some (.cells #[.string ⟨#[]⟩, .string ⟨#[]⟩] 65 (0, 0))) := HB2
                  have HW3 := Lib.hid (below_drewN HW2.out 1)
                  change Hid (Below w.heap.size w wr.drew) at HW3
                  generalize wr.drew = w3 at HB3 HW3 ⊢
                  clear HB2 HW2
                  refine wpAny_of_till (S := fun _ => True) (st := fun _ => false) _ _ _ _ ?_
                  change wpTill _ _ _ _ _ _ _ #[false, false, false, false, false, false, false, false, false] _ _
                  refine wpTill_take (i := 0) (v := .string s) rfl (by kernel_rfl) (by kernel_rfl) (by kernel_rfl) (show Shutd _ _ #[false, false, false, false, false, false, false, false, false] from Shutd.start 9) (fun l h h9 => by cases h9) (fun l => rfl) (fun _ _ _ h => h) (Or.inl ⟨by rfl, ?yb0⟩) trivial (fun hsh' => ?_)
                  case yb0 => (intro w hS; go_simp; (try with_reducible rfl))
                  have hsh := hsh'
                  clear hsh'
                  simp only [Act.put, List.getElem_toArray, List.getElem_cons_zero, List.setIfInBounds_toArray, List.set_cons_zero, List.set_cons_succ] at hsh ⊢
                  refine wpTill_take (i := 1) (v := .int .i64 k) rfl (by kernel_rfl) (by kernel_rfl) (by kernel_rfl) hsh (fun l h h9 => by cases h9) (fun l => rfl) (fun _ _ _ h => h) (Or.inl ⟨by rfl, ?yb1⟩) trivial (fun hsh' => ?_)
                  case yb1 => (intro w hS; go_simp; (try with_reducible rfl))
                  have hsh := hsh'
                  clear hsh'
                  simp only [Act.put, List.getElem_toArray, List.getElem_cons_zero, List.getElem_cons_succ, List.setIfInBounds_toArray, List.set_cons_zero, List.set_cons_succ] at hsh ⊢
                  refine wpTill_take (i := 2) (v := .string (s.extract 0 k)) rfl (by kernel_rfl) (by kernel_rfl) (by kernel_rfl) hsh (fun l h h9 => by cases h9) (fun l => rfl) (fun _ _ _ h => h) (Or.inl ⟨by rfl, ?yb2⟩) trivial (fun hsh' => ?_)
                  case yb2 => (intro w hS; go_simp; (try with_reducible rfl))
                  have hsh := hsh'
                  clear hsh'
                  simp only [Act.put, List.getElem_toArray, List.getElem_cons_zero, List.getElem_cons_succ, List.setIfInBounds_toArray, List.set_cons_zero, List.set_cons_succ] at hsh ⊢
                  refine wpTill_take (i := 3) (v := .string U) rfl (by kernel_rfl) (by kernel_rfl) (by kernel_rfl) hsh (fun l h h9 => by cases h9) (fun l => rfl) (fun _ _ _ h => h) (Or.inl ⟨by rfl, ?yb3⟩) trivial (fun hsh' => ?_)
                  case yb3 => (intro w hS; go_simp; (try with_reducible rfl))
                  have hsh := hsh'
                  clear hsh'
                  simp only [Act.put, List.getElem_toArray, List.getElem_cons_zero, List.getElem_cons_succ, List.setIfInBounds_toArray, List.set_cons_zero, List.set_cons_succ] at hsh ⊢
                  refine wpTill_take (i := 4) (v := .agg #[.string (s.extract 0 k), .string U]) rfl (by kernel_rfl) (by kernel_rfl) (by kernel_rfl) hsh (fun l h h9 => by cases h9) (fun l => rfl) (fun _ _ _ h => h) (Or.inl ⟨by rfl, ?yb4⟩) trivial (fun hsh' => ?_)
                  case yb4 => (intro w hS; go_simp; (try with_reducible rfl))
                  have hsh := hsh'
                  clear hsh'
                  simp only [Act.put, List.getElem_toArray, List.getElem_cons_zero, List.getElem_cons_succ, List.setIfInBounds_toArray, List.set_cons_zero, List.set_cons_succ] at hsh ⊢
                  refine wpTill_take (i := 5) (v := .string U) rfl (by kernel_rfl) (by kernel_rfl) (by kernel_rfl) hsh (fun l h h9 => by cases h9) (fun l => rfl) (fun _ _ _ h => h) (Or.inl ⟨by rfl, ?yb5⟩) trivial (fun hsh' => ?_)
                  case yb5 => (intro w hS; go_simp; (try with_reducible rfl))
                  have hsh := hsh'
                  clear hsh'
                  simp only [Act.put, List.getElem_toArray, List.getElem_cons_zero, List.getElem_cons_succ, List.setIfInBounds_toArray, List.set_cons_zero, List.set_cons_succ] at hsh ⊢
                  clear hsh
                  refine wpTill_ready (rs := [6]) (by kernel_rfl) (by simp) ?_
                  refine (AllTill.cons rfl (fun KK hKK => ?_) AllTill.nil)
                  rw [if_pos (by rfl)]
                  go_simp
                  refine (HVL.out _).mono ?_
                  rintro e w4 ⟨rfl, n, rfl⟩
                  refine hKK _ _ (fun _ => trivial) ?_
                  clear hKK KK
                  simp only [List.setIfInBounds_toArray, List.set_cons_zero, List.set_cons_succ]
                  have HB4 : Hid ((w3.drewN n).heap[w.heap.size]? = some (.cells #[.string ⟨#[]⟩, .string ⟨#[]⟩] 65 (0, 0))) := HB3
                  have HW4 := Lib.hid (below_drewN HW3.out n)
                  generalize w3.drewN n = w4 at HB4 HW4 ⊢
                  clear HB3 HW3
                  obtain ⟨c0, c1⟩ := blk2 HB4.out
                  have f0 := blk_free HB4.out 0
                  have f1 := blk_free HB4.out 1
                  refine wpTill_ready (rs := [7]) (by kernel_rfl) (by simp) ?_
                  refine (AllTill.cons rfl (fun KK hKK => ?_) AllTill.nil)
                  rw [if_pos (by rfl)]
                  go_simp
                  refine hKK _ _ (fun _ => trivial) ?_
                  clear hKK KK
                  simp only [List.setIfInBounds_toArray, List.set_cons_zero, List.set_cons_succ]
                  clear c0 c1 f0 f1
                  have HS := Lib.hid (hd_set (x := .string (s.extract 0 k)) (y := .string U) HB4.out)
                  have HT := Lib.hid (HW4.out.trans (HS.out.1.to HW4.out.size (by simp)))
                  refine wpTill_ready (rs := [8]) (by kernel_rfl) (by simp) ?_
                  refine (AllTill.cons rfl (fun KK hKK => ?_) AllTill.nil)
                  rw [if_pos (by rfl)]
                  go_simp
                  refine hKK _ _ (fun _ => trivial) ?_
                  clear hKK KK
                  simp only [List.setIfInBounds_toArray, List.set_cons_zero, List.set_cons_succ]
                  refine wpTill_done (by kernel_rfl) ?_ _
                  (try simp only [noPanic])
                  simp only [Exit.then]
                  go_wp2_with fail
                  (try simp only [Exit.inBlock, Exit.then])
                  refine bodyPost_ret (results_row_tmp rfl _ _ _ w.heap.size #[.string (s.extract 0 k), .string U] rfl (hd_load HS.out.2)) rfl ?_
                  exact ⟨s.data.toList.take k, tv, retv (by rw [HFG.out, ← str_takeA, ← HV.out, ← str_back]; rfl), (fun _ => by rw [HFG.out]), HT.out⟩
      · have HN := Lib.hid (Ht.not_mem_succ H.out HG.out h58)
        have hci : ¬ (c.toNat : Int) = 58 := fun h => h58 ((u8_eq c 58 (by omega)).1 h)
        clear h58 H HG
        go_wp2_with fail
        go_roundw
        case rel => exact ⟨k + 1, by omega, by go_num, HN, trivial⟩
        case measure => simp [intOf]; omega
    · obtain rfl : k = s.size := by omega
      have HU : Hid (Ht.upto 58 s.data.toList = (s.data.toList, [], false)) := Lib.hid (Ht.upto_miss 58 _ (by have := H.out; rwa [List.take_of_length_le (by rw [Lib.size_eq]; exact Nat.le_refl _)] at this))
      have HFF : Hid (F.2 = false) := Lib.hid (by rw [← HF.out]; unfold Ht.fieldOf; rw [HU.out]; rfl)
      clear H HU HF
      obtain ⟨c0, c1⟩ := blk2 HB0.out
      have f0 := blk_free HB0.out 0
      have f1 := blk_free HB0.out 1
      have HS := Lib.hid (hd_set (x := .string ⟨#[]⟩) (y := .string ⟨#[]⟩) HB0.out)
      have HT := Lib.hid (HW0.out.trans (HS.out.1.to HW0.out.size (by simp)))
      go_wp2_with fail
      (try simp only [Exit.inBlock, Exit.then])
      refine bodyPost_ret (results_row_tmp rfl _ _ _ w.heap.size #[.string ⟨#[]⟩, .string ⟨#[]⟩] rfl (hd_load HS.out.2)) rfl ?_
      exact ⟨[], [], retv (by rw [HFF.out]; rfl), (fun h => by rw [HFF.out] at h; cases h), HT.out⟩
end Go.Proofs.YtoadahommlcjpaaGreatDoor
