/-
  THE WALKS: printed of package http. CONDITIONS: rows lie as said; lengths.
-/
import Derived.Test.YtoadahommlcjpaaGreatDoorWU
namespace Go.Proofs.YtoadahommlcjpaaGreatDoor
open Go.RowKit
theorem PrintOut.err {w w' : World} {R : Ht.Bs × Int} {k : Int} (hR : R = ([], k)) (hb : Below w.heap.size w w') : PrintOut w R (.returned (.tuple #[.slice none 0 0, .int .i64 k])) w' := by
  subst hR
  exact ⟨_, rfl, own_none 5 1 _ hb.size, hb⟩
set_option maxRecDepth 100000 in
set_option maxHeartbeats 4000000 in
theorem printed_any (l : List Ht.Hd) (A : Option Addr) (c : Nat) (body : Ht.Bs) (B : Option Addr) (d : Nat) (x y z : Ht.Bs) (g : Nat) (w : World) (henv : Env w) (hl : l.length ≤ 1048576) (hA : HdsAt w A l) (hL : HdsLen l) (hB : CellsAt w B (Lib.byteCells body)) (hb : body.length ≤ 1048576)
    (hT : (l.flatMap Ht.hdLine).length ≤ 1099511627776) (hF : (x ++ 32 :: (y ++ 32 :: z)).length ≤ 1073741824) (hg : g < w.heap.size)
    (hrow : ∀ (j : Nat) (s : ByteArray), [(⟨x.toArray⟩ : ByteArray), ⟨y.toArray⟩, ⟨z.toArray⟩][j]? = some s → w.cell? ⟨g, 0 + j, none⟩ = some (.string s)) :
    Calls Tryz.prog 44 #[.slice A l.length c, .slice B body.length d, .slice (some ⟨g, 0, none⟩) 3 3] w (PrintOut w (Ht.printedOf l body (x ++ 32 :: (y ++ 32 :: z)))) := by
  obtain ⟨f, hf⟩ : ∃ f, x ++ 32 :: (y ++ 32 :: z) = f := ⟨_, rfl⟩
  rw [hf] at hF ⊢
  obtain ⟨R, hR⟩ : ∃ R, Ht.printedOf l body f = R := ⟨_, rfl⟩
  rw [hR]
  have HR : Hid (R = if 2048 < (Ht.headOf f l body.length).length then ([], 3) else (Ht.headOf f l body.length ++ body, 0)) := Lib.hid (by rw [← hR]; rfl)
  have HH : Hid (Ht.headOf f l body.length = ((f ++ [13, 10]) ++ l.flatMap Ht.hdLine) ++ (Ht.lenW ++ ([58, 32] ++ (Lib.itoa body.length ++ [13, 10, 13, 10])))) := Lib.hid (by unfold Ht.headOf; simp)
  generalize Ht.headOf f l body.length = H at HR HH
  have h9 : 9 ≤ w.heap.size := henv.big
  have HW0 := Lib.hid (below_box w (.cells #[.slice none 0 0, .int .i64 0, .int .i8 0] 110))
  have HF0 := Lib.hid (isF_new w)
  have HJ := Lib.hid (fun W (hW : Below w.heap.size w W) => Tryz.strings_Join g 0 3 [⟨x.toArray⟩, ⟨y.toArray⟩, ⟨z.toArray⟩] ⟨#[32]⟩ W (fun j s hs => (hW.cell (p := ⟨g, 0 + j, none⟩) hg).trans (hrow j s hs)) (Nat.lt_of_lt_of_le hg hW.size) (by simp) (by simp) (by
    show (Lib.join [x, y, z] [32]).length ≤ _
    rw [join3, hf]; omega))
  have HE := Lib.hid (fun W (hW : Below w.heap.size w W) => henv.next hW)
  have HAt := Lib.hid (fun W (hW : Below w.heap.size w W) => hA.next hW (Nat.le_refl _))
  have HBt := Lib.hid hB
  have HLn := Lib.hid hL
  clear hA hB hL hR hrow henv
  go_enter Tryz.func44, Tryz.ntmps44
  go_wp2_with fail
  refine (HJ.out _ HW0.out).mono ?_
  rintro e w1 ⟨rfl, hb1⟩
  have hjo : Lib.join (([⟨x.toArray⟩, ⟨y.toArray⟩, ⟨z.toArray⟩] : List ByteArray).map (·.data.toList)) (⟨#[32]⟩ : ByteArray).data.toList = f := by
    show Lib.join [x, y, z] [32] = f
    rw [join3, hf]
  rw [hjo]
  have HF1 := Lib.hid (HF0.out.next hb1)
  have HW1 := Lib.hid (HW0.out.trans (hb1.mono HW0.out.size))
  clear hjo hb1 HF0 HW0 HJ
  go_wp2_with fail
  refine (writeS_any _ _ _ (f ++ [13, 10]) _ (by simp) _ HF1.out (by simp; omega)).mono ?_
  rintro e w2 ⟨⟨v, rfl⟩, hF2, hb2, hk2⟩
  rw [List.nil_append] at hF2
  have HF2 := Lib.hid hF2
  have HW2 := Lib.hid (HW1.out.trans hb2)
  clear hF2 hb2 hk2 HF1 HW1
  have hfl : (f ++ [13, 10]).length ≤ 1073741826 := by simp; omega
  obtain ⟨p0, hp0⟩ : ∃ p, f ++ [13, 10] = p := ⟨_, rfl⟩
  rw [hp0] at HF2 HH hfl
  clear hp0
  go_wp2_with fail
  go_loopw [10, 17] (fun _ i wr => ∃ k : Nat, k ≤ l.length ∧ i = .int .i64 k ∧ Hid (IsF w.heap.size w.heap.size (p0 ++ (l.take k).flatMap Ht.hdLine) wr) ∧ Hid (Below w.heap.size w wr)) (fun _ i _ => l.length - (intOf i).toNat)
  case atStart => exact ⟨0, Nat.zero_le _, rfl, by simpa using HF2, HW2⟩
  case round =>
    obtain ⟨k, hk, rfl, HFr, HWr⟩ := hrel
    have hlen : (p0 ++ (l.take k).flatMap Ht.hdLine).length ≤ 1101659111426 := by
      have := flat_take l k
      rw [List.length_append]; omega
    by_cases hlt : k < l.length
    · have hx : l[k]? = some l[k] := List.getElem?_eq_getElem hlt
      have HS : Hid (p0 ++ (l.take (k + 1)).flatMap Ht.hdLine = (p0 ++ (l.take k).flatMap Ht.hdLine) ++ Ht.hdLine l[k]) := Lib.hid (by
        rw [List.take_succ_eq_append_getElem hlt, List.flatMap_append]; simp)
      have hxl := HLn.out _ (List.getElem_mem hlt)
      generalize l[k] = h at hx HS hxl
      obtain ⟨bb, off, rfl, hbl, c0, c1⟩ := (HAt.out _ HWr.out).at_ hx
      obtain ⟨nm, vl⟩ := h
      dsimp only at c0 c1 hxl
      obtain ⟨q0, hq0⟩ : ∃ q, p0 ++ (l.take k).flatMap Ht.hdLine = q := ⟨_, rfl⟩
      rw [hq0] at HFr HS hlen
      have HBx := Lib.hid (heap_alloc_new wr (.cells #[.string ⟨nm.toArray⟩, .string ⟨vl.toArray⟩] 65))
      have HFa := Lib.hid (HFr.out.next (below_box wr (.cells #[.string ⟨nm.toArray⟩, .string ⟨vl.toArray⟩] 65)))
      have HWa := Lib.hid (HWr.out.trans ((below_box wr (.cells #[.string ⟨nm.toArray⟩, .string ⟨vl.toArray⟩] 65)).mono HWr.out.size))
      have HNE : Hid (wr.heap.size ≠ w.heap.size) := Lib.hid (by have := HFr.out.lt; omega)
      clear hx hq0
      go_wp2_with fail
      refine (writeS_any _ _ _ (nm ++ [58]) _ (by simp) _ HFa.out (by simp; omega)).mono ?_
      rintro e w3 ⟨⟨v3, rfl⟩, hF3, hb3, hk3⟩
      have HF3 := Lib.hid hF3
      have HW3 := Lib.hid (HWa.out.trans hb3)
      have hB3 := hd_next hk3 HBx.out HNE.out
      obtain ⟨e0, e1⟩ := blk2 hB3
      clear hF3 hb3 hk3 HFa HWa hB3 HBx c0 c1
      by_cases hv : vl = []
      · subst hv
        go_wp2_with fail
        refine (writeS_any _ _ _ [13, 10] _ (by rfl) _ HF3.out (by simp; omega)).mono ?_
        rintro e w4 ⟨⟨v4, rfl⟩, hF4, hb4, hk4⟩
        have HF4 : Hid (IsF w.heap.size w.heap.size (p0 ++ (l.take (k + 1)).flatMap Ht.hdLine) w4) := Lib.hid (by
          rw [HS.out]; unfold Ht.hdLine
          simpa using hF4)
        have HW4 := Lib.hid (HW3.out.trans hb4)
        clear hF4 hb4 hk4
        go_wp2_with fail
        go_roundw
        case rel => exact ⟨k + 1, by omega, by go_num, HF4, HW4⟩
        case measure => simp [intOf]; omega
      · have hv1 : List.isEmpty vl = false := by simpa using hv
        go_wp2_with fail
        refine (writeS_any _ _ _ (32 :: vl) _ (by simp) _ HF3.out (by simp; omega)).mono ?_
        rintro e w5 ⟨⟨v5, rfl⟩, hF5, hb5, hk5⟩
        have HF5 := Lib.hid hF5
        have HW5 := Lib.hid (HW3.out.trans hb5)
        clear hF5 hb5 hk5
        go_wp2_with fail
        refine (writeS_any _ _ _ [13, 10] _ (by rfl) _ HF5.out (by simp; omega)).mono ?_
        rintro e w4 ⟨⟨v4, rfl⟩, hF4, hb4, hk4⟩
        have HF4 : Hid (IsF w.heap.size w.heap.size (p0 ++ (l.take (k + 1)).flatMap Ht.hdLine) w4) := Lib.hid (by
          rw [HS.out]; unfold Ht.hdLine
          simpa [hv] using hF4)
        have HW4 := Lib.hid (HW5.out.trans hb4)
        clear hF4 hb4 hk4
        go_wp2_with fail
        go_roundw
        case rel => exact ⟨k + 1, by omega, by go_num, HF4, HW4⟩
        case measure => simp [intOf]; omega
    · obtain rfl : k = l.length := by omega
      rw [List.take_length] at HFr hlen
      obtain ⟨q0, hq0⟩ : ∃ q, p0 ++ l.flatMap Ht.hdLine = q := ⟨_, rfl⟩
      rw [hq0] at HFr HH hlen
      clear hq0 HAt HLn HF2 HW2
      have HI := Lib.hid (itoa_any (body.length : Int) (by omega) (by omega) wr (HE.out _ HWr.out))
      have hil : (Lib.itoa (body.length : Int)).length ≤ 40 := by
        rw [Ht.itoa_nat]
        exact Nat.le_trans (Ht.dec_short 6 _ (by omega)) (by decide)
      have HIL := Lib.hid hil
      generalize Lib.itoa (body.length : Int) = it at HI HH HIL hil
      go_wp2_with fail
      refine HI.out.mono ?_
      rintro e w6 ⟨rfl, hb6⟩
      have HF6 := Lib.hid (HFr.out.next hb6)
      have HW6 := Lib.hid (HWr.out.trans (hb6.mono HWr.out.size))
      clear hb6 HFr HWr HI
      go_wp2_with fail
      refine (writeS_any _ _ _ (Ht.lenW ++ ([58, 32] ++ (it ++ [13, 10, 13, 10]))) _ (by simp [Ht.lenW]) _ HF6.out (by simp [Ht.lenW]; omega)).mono ?_
      rintro e w7 ⟨⟨v7, rfl⟩, hF7, hb7, hk7⟩
      rw [← HH.out] at hF7
      have hHl : H.length ≤ 1101659111526 := by rw [HH.out]; simp [Ht.lenW]; omega
      have HF7 := Lib.hid hF7
      have HW7 := Lib.hid (HW6.out.trans hb7)
      have HLe := Lib.hid (Tryz.Buffer_Len _ _ _ w7 hF7)
      rw [cells_len] at HLe
      clear hF7 hb7 hk7 HF6 HW6 HH hlen
      go_wp2_with fail
      refine HLe.out.mono ?_
      rintro e w8 ⟨rfl, n8, rfl⟩
      have HF8 := Lib.hid (HF7.out.next (below_drewN (Below.refl _ _) n8))
      have HW8 := Lib.hid (below_drewN HW7.out n8)
      generalize w7.drewN n8 = w8 at HF8 HW8 ⊢
      clear HLe HF7 HW7
      by_cases h2 : 2048 < H.length
      · have hR2 := HR.out
        rw [if_pos h2] at hR2
        have HR2 := Lib.hid hR2
        clear hR2 HR
        go_wp2_with fail
        go_ret2
        exact PrintOut.err HR2.out HW8.out
      · have hR2 := HR.out
        rw [if_neg h2] at hR2
        have HR2 := Lib.hid hR2
        clear hR2 HR
        have HWr := Lib.hid (writeB_any _ _ _ body B d w w8 HF8.out HBt.out (Nat.le_refl _) HW8.out (by omega))
        go_wp2_with fail
        refine HWr.out.mono ?_
        rintro e w9 ⟨⟨v9, rfl⟩, hF9, hb9⟩
        have HW9 := Lib.hid (HW8.out.trans hb9)
        have HBy := Lib.hid (Tryz.Buffer_Bytes _ _ _ w9 hF9)
        clear hF9 hb9 HWr
        go_wp2_with fail
        refine HBy.out.mono ?_
        rintro e w10 ⟨vv, rfl, ho, n10, rfl⟩
        have HO := Lib.hid ho
        clear ho HBy
        go_wp2_with fail
        go_ret2
        rw [HR2.out]
        refine ⟨_, rfl, ⟨?_, ?_⟩, below_drewN HW9.out n10⟩
        · have h := HO.out
          rw [cells_len] at h
          exact h
        · exact HW9.out.size
end Go.Proofs.YtoadahommlcjpaaGreatDoor
