/-
  THE WALKS: headers of the laws of chapter 24. CONDITIONS: the headers lie as HdsAt says; lengths.
-/
import Derived.Test.YtoadahommlcjpaaGreatDoorWN
import Derived.Test.YtoadahommlcjpaaGreatDoorTillF
namespace Go.Proofs.YtoadahommlcjpaaGreatDoor
open Go.RowKit
def cutH (h : Ht.Hd) : Ht.Hd := ⟨h.name.take 50, h.value.take 210⟩
def cutHs (l : List Ht.Hd) : List Ht.Hd := (l.take 20).map cutH
/-- Lengths that strings in memory have. -/
def HdsFit (l : List Ht.Hd) : Prop := ∀ h ∈ l, h.name.length ≤ 9223372036854775807 ∧ h.value.length ≤ 9223372036854775807
theorem cut_str (s : Ht.Bs) (k : Nat) : (⟨s.toArray⟩ : ByteArray).extract 0 (s.take k).length = ⟨(s.take k).toArray⟩ := by
  have h1 : ((⟨s.toArray⟩ : ByteArray).extract 0 (s.take k).length).data.toList = s.take k := by
    rw [ByteArray.data_extract]
    simp [List.length_take]
  have h2 : ∀ b : ByteArray, b = ⟨b.data.toList.toArray⟩ := fun b => by cases b; simp
  rw [h2 ((⟨s.toArray⟩ : ByteArray).extract 0 (s.take k).length), h1]
theorem wpList_hds_append {ops : Array Oper} {rest : List Oper} {o : Oper} {ac : Act} {Q : Exit → Act → World → Prop} (hgd : o.guard = none) (s x : Operand)
    (hop : o.op = Op.call { callee := Callee.builtin Builtin.append, args := #[s, x], argTypes := #[24, 24] })
    {B n : Nat} {W0 V : World} {A : Option Addr} {cc : Nat} {hs : List Ht.Hd} {h : Ht.Hd} (hn : hs.length = n) (hown : Own 65 2 B (.slice A n cc) hs.length (hdCells hs) V) (hbel : Below B W0 V) (hs1 : ac.eval s = .slice A n cc)
    (hx : ac.eval x = .slice (some ⟨V.heap.size, 0, none⟩) 1 1) (hlim : n < 1048576)
    (hK : ∀ A' c' V4, Hid (Own 65 2 B (.slice A' (n + 1) c') (hs ++ [h]).length (hdCells (hs ++ [h])) V4) → Hid (Below B W0 V4) → wpList Tryz.prog ops Q rest (ac.put o.dst (.slice A' (n + 1) c')) V4) :
    wpList Tryz.prog ops Q (o :: rest) ac (V.alloc (.cells #[.string ⟨h.name.toArray⟩, .string ⟨h.value.toArray⟩] 65)) := by
  subst hn
  have hinf := info65
  cases hi0 : Tryz.prog.info? 65 with
  | none => rw [hi0] at hinf; cases hinf
  | some i0 =>
    rw [hi0] at hinf
    simp only [Option.map_some, Option.some.injEq, Prod.mk.injEq] at hinf
    obtain ⟨hz0, hz1, hz2⟩ := hinf
    have hle := hown.le
    refine wpList_append_own _ hgd s x 24 hop B 65 i0 (.agg #[.string ⟨#[]⟩, .string ⟨#[]⟩]) 2 32 Tryz.underlying24 hi0 hz0 hz1 hz2 rfl (by decide) _ _ _ hs1 (hown.own.alloc _) ⟨V.heap.size, 0, none⟩ 1 1 [bstr h.name, bstr h.value] hx rfl ?_ ?_ (by have : maxLen = 9223372036854775807 := rfl; omega) (by omega) (by simp; omega) ?_
    · intro j u hj
      have hadd : (⟨V.heap.size, 0, none⟩ : Addr).add j = ⟨V.heap.size, j, none⟩ := by unfold Addr.add; split <;> simp_all
      rw [hadd, blk_cells (heap_alloc_new V _) j]
      rw [← hj]
      exact List.getElem?_toArray
    · intro u hu
      simp only [List.mem_cons, List.not_mem_nil, or_false] at hu
      rcases hu with rfl | rfl <;> rfl
    · intro v' V4 hown' hgrow _
      have hO4 : Own 65 2 B v' (hs.length + 1) (hdCells hs ++ [bstr h.name, bstr h.value]) V4 := ⟨hown', by have := hgrow.size; simp at this; omega⟩
      obtain ⟨A', c', rfl⟩ := own_shape hO4
      have hbg := But.grown hgrow
      have hrow : ∀ j ∈ (Value.slice A hs.length cc).ownBlock.toList, B ≤ j := fun j hj => (hown.lt j (by simpa using hj)).1
      have hb1 : But (Value.slice A hs.length cc).ownBlock.toList V V4 := (But.of (below_box V _)).trans hbg
      refine hK A' c' V4 (Lib.hid ?_) (Lib.hid (hbel.trans (hb1.to hle hrow)))
      rw [hdCells_snoc, List.length_append, List.length_singleton]
      exact hO4
theorem own_box {e : TypeId} {s B n m : Nat} {v : Value} {xs : List Value} {w w' : World} (h : Own e s B v n xs w) (hk : But [m] w w') (hm : v.ownBlock ≠ some m) : Own e s B v n xs w' := by
  refine ⟨⟨h.own.1, ?_⟩, Nat.le_trans h.le hk.size⟩
  rcases h.own.2 with hn | ⟨g, cap, cur, rfl, hb, hg, rest⟩
  · exact .inl hn
  · refine .inr ⟨g, cap, cur, rfl, hb, hk.blk hg (fun hmm => ?_), rest⟩
    have : g = m := by simpa using hmm
    subst this
    exact hm rfl
theorem cutHs_snoc {l : List Ht.Hd} {k : Nat} {x : Ht.Hd} (hx : l[k]? = some x) : (l.take (k + 1)).map cutH = (l.take k).map cutH ++ [cutH x] := by
  obtain ⟨hlt, he⟩ := List.getElem?_eq_some_iff.1 hx
  rw [List.take_succ_eq_append_getElem hlt, he, List.map_append]
  rfl
set_option maxRecDepth 100000 in
set_option maxHeartbeats 8000000 in
theorem headers_any (l : List Ht.Hd) (A : Option Addr) (c : Nat) (w : World) (hl : l.length ≤ 9223372036854775807) (hA : HdsAt w A l) (hF : HdsFit l) :
    Calls Tryz.prog 28 #[.slice A l.length c] w fun e w' => ∃ v, e = .returned v ∧ Own 65 2 w.heap.size v (cutHs l).length (hdCells (cutHs l)) w' ∧ Below w.heap.size w w' := by
  have HA := Lib.hid (fun W (hW : Below w.heap.size w W) => hA.next hW (Nat.le_refl _))
  have HF := Lib.hid hF
  clear hA hF
  go_enter Tryz.func28, Tryz.ntmps28
  go_wp2_with fail
  go_loopw [3, 4, 5, 8] (fun out _ _ i wr => ∃ k A' c', k ≤ l.length ∧ k ≤ 20 ∧ i = .int .i64 (k : Int) ∧ out = .slice A' k c' ∧ Hid (Own 65 2 w.heap.size (.slice A' k c') ((l.take k).map cutH).length (hdCells ((l.take k).map cutH)) wr) ∧ Hid (Below w.heap.size w wr)) (fun _ _ _ i _ => l.length - (intOf i).toNat)
  case atStart => exact ⟨0, none, 0, Nat.zero_le _, by decide, rfl, rfl, Lib.hid (Own.nil 65 2 w), Lib.hid (Below.refl _ _)⟩
  case round =>
    obtain ⟨k, A', c', hk, hk20, rfl, rfl, HO, HW⟩ := hrel
    have hkl : ((l.take k).map cutH).length = k := by rw [List.length_map, List.length_take]; omega
    by_cases hlt : k < l.length
    · have hx : l[k]? = some l[k] := List.getElem?_eq_getElem hlt
      have HSN := Lib.hid (cutHs_snoc hx)
      have hfit := HF.out _ (List.getElem_mem hlt)
      generalize l[k] = x at hx HSN hfit
      obtain ⟨bb, off, rfl, hbl, c0, c1⟩ := (HA.out _ HW.out).at_ hx
      obtain ⟨nm, vl⟩ := x
      dsimp only at c0 c1 hfit
      clear hx
      by_cases h20 : k = 20
      · subst h20
        have hC : cutHs l = (l.take 20).map cutH := rfl
        have HB := below_box wr (.cells #[.string ⟨nm.toArray⟩, .string ⟨vl.toArray⟩] 65)
        have HX := Lib.hid (show ∃ v, Ending.returned (.slice A' 20 c') = .returned v ∧ Own 65 2 w.heap.size v (cutHs l).length (hdCells (cutHs l)) (wr.alloc (.cells #[.string ⟨nm.toArray⟩, .string ⟨vl.toArray⟩] 65)) ∧ Below w.heap.size w (wr.alloc (.cells #[.string ⟨nm.toArray⟩, .string ⟨vl.toArray⟩] 65)) from ⟨_, rfl, by rw [hC]; exact HO.out.next HB, HW.out.trans (HB.mono HW.out.size)⟩)
        clear hC HB
        go_wp2_with fail
        go_ret
        exact HX.out
      have HBx := Lib.hid (heap_alloc_new wr (.cells #[.string ⟨nm.toArray⟩, .string ⟨vl.toArray⟩] 65))
      have HBo := Lib.hid (below_box wr (.cells #[.string ⟨nm.toArray⟩, .string ⟨vl.toArray⟩] 65))
      obtain ⟨n1, hn1⟩ : ∃ n1, nm.take 50 = n1 := ⟨_, rfl⟩
      obtain ⟨v1, hv1⟩ : ∃ v1, vl.take 210 = v1 := ⟨_, rfl⟩
      have hm1 : min (nm.length : Int) 50 = (n1.length : Int) := by rw [← hn1, List.length_take]; omega
      have hm2 : min (vl.length : Int) 210 = (v1.length : Int) := by rw [← hv1, List.length_take]; omega
      have ht1 : n1.length ≤ nm.length := by rw [← hn1]; exact List.length_take_le' _ _
      have ht2 : v1.length ≤ vl.length := by rw [← hv1]; exact List.length_take_le' _ _
      have he1 := cut_str nm 50
      have he2 := cut_str vl 210
      rw [hn1] at he1
      rw [hv1] at he2
      have HSN2 : Hid ((l.take (k + 1)).map cutH = (l.take k).map cutH ++ [⟨n1, v1⟩]) := Lib.hid (by rw [HSN.out]; unfold cutH; rw [hn1, hv1])
      clear hn1 hv1 HSN
      go_wp2_with fail
      obtain ⟨W1, hW1⟩ : ∃ W1, wr.alloc (.cells #[.string ⟨nm.toArray⟩, .string ⟨vl.toArray⟩] 65) = W1 := ⟨_, rfl⟩
      rw [hW1] at HBx HBo ⊢
      clear hW1
      refine wp_region_any (by kernel_rfl) ?_
      change wpAny _ _ _ _ _ _ _ (World.drew _)
      have HBd : Hid (W1.drew.heap[wr.heap.size]? = some (.cells #[.string ⟨nm.toArray⟩, .string ⟨vl.toArray⟩] 65 (0, 0))) := HBx
      have HBe : Hid (Below wr.heap.size wr W1.drew) := Lib.hid (below_drewN HBo.out 1)
      generalize W1.drew = W2 at HBd HBe ⊢
      clear HBx HBo c0 c1
      have HSA := Lib.hid (blk2 HBd.out)
      have f0 := blk_free HBd.out 0
      have f1 := blk_free HBd.out 1
      obtain ⟨c0, c1⟩ := HSA.out
      refine wpAny_of_till (S := fun W => W.cell? ⟨wr.heap.size, 0, none⟩ = some (.string ⟨nm.toArray⟩) ∧ W.cell? ⟨wr.heap.size, 1, none⟩ = some (.string ⟨vl.toArray⟩)) (st := fun l => l.getD 15 false) _ _ _ _ ?_
      change wpTill _ _ _ _ _ _ _ #[false, false, false, false, false, false, false, false, false, false, false, false, false, false, false, false, false, false] _ _
      refine wpTill_take (i := 0) (v := .pointer (some ⟨wr.heap.size, 0, none⟩)) rfl (by kernel_rfl) (by kernel_rfl) (by kernel_rfl) (show Shutd _ _ #[false, false, false, false, false, false, false, false, false, false, false, false, false, false, false, false, false, false] from Shutd.start 18) (fun l h h9 => Shutd.step h (j := 15) (k := 0) (by kernel_rfl) h9) (fun l => getD_set_ne false (by decide)) (fun _ _ _ h => h) (Or.inl ⟨by rfl, ?yb0⟩) HSA.out (fun hsh0 => ?_)
      case yb0 => (intro w hS; obtain ⟨s5, s6⟩ := hS; go_simp; (try with_reducible rfl))
      simp only [Act.put, List.getElem_toArray, List.getElem_cons_zero, List.setIfInBounds_toArray, List.set_cons_zero, List.set_cons_succ] at hsh0 ⊢
      refine wpTill_take (i := 1) (v := .string ⟨nm.toArray⟩) rfl (by kernel_rfl) (by kernel_rfl) (by kernel_rfl) hsh0 (fun l h h9 => Shutd.step h (j := 15) (k := 1) (by kernel_rfl) h9) (fun l => getD_set_ne false (by decide)) (fun _ _ _ h => h) (Or.inl ⟨by rfl, ?yb1⟩) HSA.out (fun hsh1 => ?_)
      case yb1 => (intro w hS; obtain ⟨s5, s6⟩ := hS; go_simp; (try with_reducible rfl))
      simp only [Act.put, List.getElem_toArray, List.getElem_cons_zero, List.getElem_cons_succ, List.setIfInBounds_toArray, List.set_cons_zero, List.set_cons_succ] at hsh1 ⊢
      refine wpTill_take (i := 2) (v := .pointer (some ⟨wr.heap.size, 0, none⟩)) rfl (by kernel_rfl) (by kernel_rfl) (by kernel_rfl) hsh1 (fun l h h9 => Shutd.step h (j := 15) (k := 2) (by kernel_rfl) h9) (fun l => getD_set_ne false (by decide)) (fun _ _ _ h => h) (Or.inl ⟨by rfl, ?yb2⟩) HSA.out (fun hsh2 => ?_)
      case yb2 => (intro w hS; obtain ⟨s5, s6⟩ := hS; go_simp; (try with_reducible rfl))
      simp only [Act.put, List.getElem_toArray, List.getElem_cons_zero, List.getElem_cons_succ, List.setIfInBounds_toArray, List.set_cons_zero, List.set_cons_succ] at hsh2 ⊢
      refine wpTill_take (i := 3) (v := .string ⟨nm.toArray⟩) rfl (by kernel_rfl) (by kernel_rfl) (by kernel_rfl) hsh2 (fun l h h9 => Shutd.step h (j := 15) (k := 3) (by kernel_rfl) h9) (fun l => getD_set_ne false (by decide)) (fun _ _ _ h => h) (Or.inl ⟨by rfl, ?yb3⟩) HSA.out (fun hsh3 => ?_)
      case yb3 => (intro w hS; obtain ⟨s5, s6⟩ := hS; go_simp; (try with_reducible rfl))
      simp only [Act.put, List.getElem_toArray, List.getElem_cons_zero, List.getElem_cons_succ, List.setIfInBounds_toArray, List.set_cons_zero, List.set_cons_succ] at hsh3 ⊢
      refine wpTill_take (i := 4) (v := .int .i64 (nm.length : Int)) rfl (by kernel_rfl) (by kernel_rfl) (by kernel_rfl) hsh3 (fun l h h9 => Shutd.step h (j := 15) (k := 4) (by kernel_rfl) h9) (fun l => getD_set_ne false (by decide)) (fun _ _ _ h => h) (Or.inl ⟨by rfl, ?yb4⟩) HSA.out (fun hsh4 => ?_)
      case yb4 => (intro w hS; obtain ⟨s5, s6⟩ := hS; go_simp; (try with_reducible rfl))
      simp only [Act.put, List.getElem_toArray, List.getElem_cons_zero, List.getElem_cons_succ, List.setIfInBounds_toArray, List.set_cons_zero, List.set_cons_succ] at hsh4 ⊢
      refine wpTill_take (i := 5) (v := .int .i64 (n1.length : Int)) rfl (by kernel_rfl) (by kernel_rfl) (by kernel_rfl) hsh4 (fun l h h9 => Shutd.step h (j := 15) (k := 5) (by kernel_rfl) h9) (fun l => getD_set_ne false (by decide)) (fun _ _ _ h => h) (Or.inl ⟨by rfl, ?yb5⟩) HSA.out (fun hsh5 => ?_)
      case yb5 => (intro w hS; obtain ⟨s5, s6⟩ := hS; go_simp; (try with_reducible rfl))
      simp only [Act.put, List.getElem_toArray, List.getElem_cons_zero, List.getElem_cons_succ, List.setIfInBounds_toArray, List.set_cons_zero, List.set_cons_succ] at hsh5 ⊢
      refine wpTill_take (i := 6) (v := .string ⟨n1.toArray⟩) rfl (by kernel_rfl) (by kernel_rfl) (by kernel_rfl) hsh5 (fun l h h9 => Shutd.step h (j := 15) (k := 6) (by kernel_rfl) h9) (fun l => getD_set_ne false (by decide)) (fun _ _ _ h => h) (Or.inl ⟨by rfl, ?yb6⟩) HSA.out (fun hsh6 => ?_)
      case yb6 => (intro w hS; obtain ⟨s5, s6⟩ := hS; go_simp; (try with_reducible rfl))
      simp only [Act.put, List.getElem_toArray, List.getElem_cons_zero, List.getElem_cons_succ, List.setIfInBounds_toArray, List.set_cons_zero, List.set_cons_succ] at hsh6 ⊢
      refine wpTill_take (i := 7) (v := .pointer (some ⟨wr.heap.size, 1, none⟩)) rfl (by kernel_rfl) (by kernel_rfl) (by kernel_rfl) hsh6 (fun l h h9 => Shutd.step h (j := 15) (k := 7) (by kernel_rfl) h9) (fun l => getD_set_ne false (by decide)) (fun _ _ _ h => h) (Or.inl ⟨by rfl, ?yb7⟩) HSA.out (fun hsh7 => ?_)
      case yb7 => (intro w hS; obtain ⟨s5, s6⟩ := hS; go_simp; (try with_reducible rfl))
      simp only [Act.put, List.getElem_toArray, List.getElem_cons_zero, List.getElem_cons_succ, List.setIfInBounds_toArray, List.set_cons_zero, List.set_cons_succ] at hsh7 ⊢
      refine wpTill_take (i := 8) (v := .string ⟨vl.toArray⟩) rfl (by kernel_rfl) (by kernel_rfl) (by kernel_rfl) hsh7 (fun l h h9 => Shutd.step h (j := 15) (k := 8) (by kernel_rfl) h9) (fun l => getD_set_ne false (by decide)) (fun _ _ _ h => h) (Or.inl ⟨by rfl, ?yb8⟩) HSA.out (fun hsh8 => ?_)
      case yb8 => (intro w hS; obtain ⟨s5, s6⟩ := hS; go_simp; (try with_reducible rfl))
      simp only [Act.put, List.getElem_toArray, List.getElem_cons_zero, List.getElem_cons_succ, List.setIfInBounds_toArray, List.set_cons_zero, List.set_cons_succ] at hsh8 ⊢
      refine wpTill_take (i := 9) (v := .pointer (some ⟨wr.heap.size, 1, none⟩)) rfl (by kernel_rfl) (by kernel_rfl) (by kernel_rfl) hsh8 (fun l h h9 => Shutd.step h (j := 15) (k := 9) (by kernel_rfl) h9) (fun l => getD_set_ne false (by decide)) (fun _ _ _ h => h) (Or.inl ⟨by rfl, ?yb9⟩) HSA.out (fun hsh9 => ?_)
      case yb9 => (intro w hS; obtain ⟨s5, s6⟩ := hS; go_simp; (try with_reducible rfl))
      simp only [Act.put, List.getElem_toArray, List.getElem_cons_zero, List.getElem_cons_succ, List.setIfInBounds_toArray, List.set_cons_zero, List.set_cons_succ] at hsh9 ⊢
      refine wpTill_take (i := 10) (v := .string ⟨vl.toArray⟩) rfl (by kernel_rfl) (by kernel_rfl) (by kernel_rfl) hsh9 (fun l h h9 => Shutd.step h (j := 15) (k := 10) (by kernel_rfl) h9) (fun l => getD_set_ne false (by decide)) (fun _ _ _ h => h) (Or.inl ⟨by rfl, ?yb10⟩) HSA.out (fun hsh10 => ?_)
      case yb10 => (intro w hS; obtain ⟨s5, s6⟩ := hS; go_simp; (try with_reducible rfl))
      simp only [Act.put, List.getElem_toArray, List.getElem_cons_zero, List.getElem_cons_succ, List.setIfInBounds_toArray, List.set_cons_zero, List.set_cons_succ] at hsh10 ⊢
      refine wpTill_takeF (i := 11) (v := .int .i64 (vl.length : Int)) rfl (by kernel_rfl) (by kernel_rfl) (by kernel_rfl) (fun l => getD_set_ne false (by decide)) (fun _ _ _ h => h) (Or.inl ⟨by rfl, ?yb11⟩) (fun _ => HSA.out) ?_
      case yb11 => (intro w hS; go_simp; (try with_reducible rfl))
      simp only [Act.put, List.getElem_toArray, List.getElem_cons_zero, List.getElem_cons_succ, List.setIfInBounds_toArray, List.set_cons_zero, List.set_cons_succ]
      refine wpTill_takeF (i := 12) (v := .int .i64 (v1.length : Int)) rfl (by kernel_rfl) (by kernel_rfl) (by kernel_rfl) (fun l => getD_set_ne false (by decide)) (fun _ _ _ h => h) (Or.inl ⟨by rfl, ?yb12⟩) (fun _ => HSA.out) ?_
      case yb12 => (intro w hS; go_simp; (try with_reducible rfl))
      simp only [Act.put, List.getElem_toArray, List.getElem_cons_zero, List.getElem_cons_succ, List.setIfInBounds_toArray, List.set_cons_zero, List.set_cons_succ]
      refine wpTill_takeF (i := 13) (v := .string ⟨v1.toArray⟩) rfl (by kernel_rfl) (by kernel_rfl) (by kernel_rfl) (fun l => getD_set_ne false (by decide)) (fun _ _ _ h => h) (Or.inl ⟨by rfl, ?yb13⟩) (fun _ => HSA.out) ?_
      case yb13 => (intro w hS; go_simp; (try with_reducible rfl))
      simp only [Act.put, List.getElem_toArray, List.getElem_cons_zero, List.getElem_cons_succ, List.setIfInBounds_toArray, List.set_cons_zero, List.set_cons_succ]
      refine wpTill_ready (rs := [14]) (by kernel_rfl) (by simp) ?_
      refine (AllTill.cons rfl (fun KK hKK => ?_) AllTill.nil)
      rw [if_pos (by rfl)]
      go_simp
      refine hKK _ _ (fun _ => HSA.out) ?_
      clear hKK KK
      simp only [List.setIfInBounds_toArray, List.set_cons_zero, List.set_cons_succ]
      refine wpTill_ready (rs := [15]) (by kernel_rfl) (by simp) ?_
      refine (AllTill.cons rfl (fun KK hKK => ?_) AllTill.nil)
      rw [if_pos (by rfl)]
      go_simp
      refine hKK _ _ (fun h0 => by cases h0) ?_
      clear hKK KK
      simp only [List.setIfInBounds_toArray, List.set_cons_zero, List.set_cons_succ]
      refine wpTill_ready (rs := [16]) (by kernel_rfl) (by simp) ?_
      refine (AllTill.cons rfl (fun KK hKK => ?_) AllTill.nil)
      rw [if_pos (by rfl)]
      go_simp
      refine hKK _ _ (fun h0 => by cases h0) ?_
      clear hKK KK
      simp only [List.setIfInBounds_toArray, List.set_cons_zero, List.set_cons_succ]
      refine wpTill_ready (rs := [17]) (by kernel_rfl) (by simp) ?_
      refine (AllTill.cons rfl (fun KK hKK => ?_) AllTill.nil)
      rw [if_pos (by rfl)]
      go_simp
      refine hKK _ _ (fun h0 => by cases h0) ?_
      clear hKK KK
      simp only [List.setIfInBounds_toArray, List.set_cons_zero, List.set_cons_succ]
      refine wpTill_done (by kernel_rfl) ?_ _
      (try simp only [noPanic])
      simp only [Exit.then]
      obtain ⟨hs1, hs2⟩ := hd_set (x := .string ⟨n1.toArray⟩) (y := .string ⟨v1.toArray⟩) HBd.out
      have HBx := Lib.hid hs2
      have HBk := Lib.hid hs1
      clear hs1 hs2 c0 c1 f0 f1 HSA HBd hm1 hm2 he1 he2 ht1 ht2
      obtain ⟨c0, c1⟩ := blk2 HBx.out
      generalize (W2.setCell ⟨wr.heap.size, 0, none⟩ (.string ⟨n1.toArray⟩)).setCell ⟨wr.heap.size, 1, none⟩ (.string ⟨v1.toArray⟩) = W3 at HBx HBk c0 c1 ⊢
      have HO3 : Hid (Own 65 2 w.heap.size (.slice A' k c') ((l.take k).map cutH).length (hdCells ((l.take k).map cutH)) W3) := Lib.hid (by
        have h1 := HO.out.next HBe.out
        exact own_box h1 HBk.out (fun e => by have := (HO.out.lt _ e).2; omega))
      have HW3 : Hid (Below w.heap.size w W3) := Lib.hid ((HW.out.trans (HBe.out.mono HW.out.size)).trans (HBk.out.to (by have := HBe.out.size; have := HW.out.size; omega) (by simp; exact HW.out.size)))
      clear HO HW HBe HBk
      go_wp2_with (at_builtin; refine wpList_hds_append (h := ⟨n1, v1⟩) rfl _ _ rfl hkl HO3.out HW3.out rfl rfl (by omega) ?_; intro A4 c4 V4 HO4 HW4)
      rw [← HSN2.out] at HO4
      go_roundw
      case rel => exact ⟨k + 1, A4, c4, by omega, by omega, by go_num, rfl, HO4, HW4⟩
      case measure => simp [intOf]; omega
    · obtain rfl : k = l.length := by omega
      have hC : cutHs l = (l.take l.length).map cutH := by unfold cutHs; rw [List.take_of_length_le hk20, List.take_of_length_le (Nat.le_refl _)]
      rw [← hC] at HO
      clear hC
      go_wp2_with fail
      go_ret
      exact ⟨_, rfl, HO.out, HW.out⟩
end Go.Proofs.YtoadahommlcjpaaGreatDoor
