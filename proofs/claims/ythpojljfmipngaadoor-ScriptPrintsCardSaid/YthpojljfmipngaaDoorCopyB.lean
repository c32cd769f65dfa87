/-
  THE WALKS: copied of the laws of chapter 28. CONDITIONS: the events lie as EvsAt says; lengths as it says.
-/
import Derived.Test.YthpojljfmipngaaDoorCopyA
namespace Go.Proofs.YthpojljfmipngaaDoor
open Go.RowKit
theorem Shutd.put {ops : Array Oper} {md : Region.Mode} {l : Array Bool} {j : Nat} (h : Shutd md ops l) (hj : (Region.ready md ops l).contains j = true) : Shutd md ops (l.setIfInBounds j true) := h.set (by simpa using hj)
theorem EvT.grownT {e : TypeId} {size B n : Nat} {v : Value} {xs : List Value} {w w' : World} {x : Sc.Ev} {K A : Option Addr} (h : EvT w x K A) (hg : w.grownBy w' v.ownBlock) (ho : Own e size B v n xs w) (h4 : (4 : TypeId) ≠ e) (h5 : (5 : TypeId) ≠ e) : EvT w' x K A :=
  ⟨h.keep.grownT hg ho h4, h.bytes.grownT hg ho h5, h.kl, h.bl⟩
theorem EvT.next {w w' : World} {x : Sc.Ev} {K A : Option Addr} (h : EvT w x K A) (hb : Below w.heap.size w w') : EvT w' x K A :=
  ⟨h.keep.next hb, h.bytes.next hb, h.kl, h.bl⟩
theorem EvT.set {w : World} {x : Sc.Ev} {K A : Option Addr} {b i : Nat} {cs : Array Value} {t : TypeId} (u : Value) (h : EvT w x K A) (hb : w.heap[b]? = some (.cells cs t (0, 0))) (h4 : t ≠ 4) (h5 : t ≠ 5) : EvT (w.setCell ⟨b, i, none⟩ u) x K A :=
  h.but (but_set (i := i) u hb).1 (by intro j hj; simp at hj; subst hj; exact ⟨_, _, _, hb, h4, h5⟩)
theorem wpList_own_append3 {ops : Array Oper} {rest : List Oper} {o : Oper} {a : Act} {Q : Exit → Act → World → Prop} (hgd : o.guard = none) (s x : Operand) (t e : TypeId) (z : Value) (size bytes : Nat)
    (ho : o.op = .call { callee := .builtin .append, args := #[s, x], argTypes := #[t, t] }) (ht : Tryd.prog.underlying t = some (.slice e))
    (hi : (Tryd.prog.info? e).map (fun i => (i.zero, i.size, i.bytes)) = some (some z, size, bytes)) (hzs : z.cells.size = size) (hsz : 0 < size)
    {B : Nat} {v : Value} {n : Nat} {xs : List Value} {w : World} (hb : Own e size B v n xs w) (hs : a.eval s = v)
    (news : List Value) (m : Nat) {C : Array Value} (hC : C = news.toArray) (hm : news.length = m * size) (h1 : ∀ u ∈ news, u.oneCell' = true)
    (hx : a.eval x = .slice (some ⟨w.heap.size, 0, none⟩) m m) (h63 : n + m ≤ maxLen) (hbytes : (n + m) * bytes ≤ 140737488355328)
    (h : ∀ v' w', Own e size B v' (n + m) (xs ++ news) w' → Below B w w' → w.grownBy w' v.ownBlock → wpList Tryd.prog ops Q rest (a.put o.dst v') w') : wpList Tryd.prog ops Q (o :: rest) a (w.alloc (.cells C e)) :=
  wpList_plain hgd fun _ hK => wp_own_append s x t e z size bytes ho ht hi hzs hsz hb hs news m hC hm h1 hx h63 hbytes (fun v' w' h2 h3 h4 => hK _ _ (h v' w' h2 h3 h4))
set_option maxRecDepth 100000 in
set_option maxHeartbeats 8000000 in
theorem copied_any (s : Sc.Scr) (A : Option Addr) (c : Nat) (w : World) (hl : s.events.length ≤ 1048576) (hA : EvsAt w A s.events) (hLen : ∀ x ∈ s.events, x.keep.length ≤ 1073741824 ∧ x.bytes.length ≤ 1073741824) :
    Calls Tryd.prog 15 #[scrV s A c] w fun e w' => ∃ A' c', e = .returned (scrV s A' c') ∧ EvsAt w' A' s.events ∧ Below w.heap.size w w' := by
  obtain ⟨sv, ar, evs⟩ := s
  simp only at hl hA hLen
  have hb1 := below_box w (.cells #[.int .i64 sv, .int .i64 ar, .slice A evs.length c] 28)
  have hb2 := below_box (w.alloc (.cells #[.int .i64 sv, .int .i64 ar, .slice A evs.length c] 28)) (.cells #[.int .i64 0, .int .i64 0, .slice none 0 0] 28)
  have hx1 := blk_next hb2 (heap_alloc_new w (.cells #[.int .i64 sv, .int .i64 ar, .slice A evs.length c] 28))
  have hx2 := heap_alloc_new (w.alloc (.cells #[.int .i64 sv, .int .i64 ar, .slice A evs.length c] 28)) (.cells #[.int .i64 0, .int .i64 0, .slice none 0 0] 28)
  have hsz : (w.alloc (.cells #[.int .i64 sv, .int .i64 ar, .slice A evs.length c] 28)).heap.size = w.heap.size + 1 := by simp
  have hsz2 : ((w.alloc (.cells #[.int .i64 sv, .int .i64 ar, .slice A evs.length c] 28)).alloc (.cells #[.int .i64 0, .int .i64 0, .slice none 0 0] 28)).heap.size = w.heap.size + 2 := by simp
  rw [hsz] at hx2
  have HX1 := Lib.hid hx1
  have HX2 := Lib.hid hx2
  have HB2 := Lib.hid (hb1.trans (hb2.mono hb1.size))
  have HSZ := Lib.hid hsz2
  have HLEN := Lib.hid hLen
  clear hb1 hb2 hx1 hx2 hsz hsz2 hLen
  unfold scrV
  go_enter Tryd.func15, Tryd.ntmps15
  go_wp2_with fail
  generalize (w.alloc (.cells #[.int .i64 sv, .int .i64 ar, .slice A evs.length c] 28)).alloc (.cells #[.int .i64 0, .int .i64 0, .slice none 0 0] 28) = w2 at HX1 HX2 HB2 HSZ ⊢
  generalize hsb : w.heap.size = sb at HX1 HX2 HSZ ⊢
  go_loopw [3, 5, 9] (fun l _ i wr => ∃ (k : Nat) (rs : List EvR), k ≤ evs.length ∧ rs.length = k ∧ i = .int .i64 k ∧ Own 45 7 (sb + 2) l k (rs.flatMap EvR.row) wr ∧ Hid (rs.map EvR.x = evs.take k) ∧ Hid (∀ r ∈ rs, EvT wr r.x r.K r.A) ∧ Below (sb + 2) w2 wr) (fun _ _ i _ => evs.length - (intOf i).toNat)
  case atStart =>
    refine ⟨0, [], Nat.zero_le _, rfl, rfl, ⟨World.ownsRow_nil _ _ _ _, ?_⟩, Lib.hid rfl, Lib.hid (by simp), Below.refl _ _⟩
    have := HSZ.out
    omega
  case round =>
    obtain ⟨k, rs, hk, hrl, rfl, hO, hR, hE, hb⟩ := hrel
    have HRL := Lib.hid hrl
    clear hrl
    have HO := Lib.hid hO
    have HB := Lib.hid hb
    have hbw : Below w.heap.size w wr := HB2.out.trans (hb.mono (by omega))
    have HBW := Lib.hid hbw
    clear hO hb
    by_cases hlt : k < evs.length
    · have hx : evs[k]? = some evs[k] := List.getElem?_eq_getElem hlt
      have HT : Hid (evs.take (k + 1) = evs.take k ++ [evs[k]]) := Lib.hid (by rw [List.take_succ_eq_append_getElem hlt])
      have hxl := HLEN.out _ (List.getElem_mem hlt)
      generalize evs[k] = x at hx HT hxl
      obtain ⟨g, off, K, A', kc, bc, rfl, hgl, hcl, hev⟩ := hA.at_ hx
      obtain ⟨c0, c1, c2, c3, c4, c5, c6⟩ := hcl.same (hbw.block g hgl)
      have hglr : g < wr.heap.size := Nat.lt_of_lt_of_le hgl hbw.size
      have HEV := Lib.hid hev
      clear hA hx hcl hev hbw
      have hbx := below_box wr (.cells #[.int .i64 x.kind, .int .i64 x.node, .int .i64 x.to, .int .i64 x.n, .int .i64 x.bit, .slice K x.keep.length kc, .slice A' x.bytes.length bc] 45)
      have hxx : EvBox (wr.alloc (.cells #[.int .i64 x.kind, .int .i64 x.node, .int .i64 x.to, .int .i64 x.n, .int .i64 x.bit, .slice K x.keep.length kc, .slice A' x.bytes.length bc] 45)) wr.heap.size x K A' kc bc := heap_alloc_new wr _
      have HXL := Lib.hid hxl
      clear hxl
      go_wp2_with fail
      have hwrs : sb + 2 ≤ wr.heap.size := HO.out.le
      clear c0 c1 c2 c3 c4 c5 c6
      generalize wr.alloc (.cells #[.int .i64 x.kind, .int .i64 x.node, .int .i64 x.to, .int .i64 x.n, .int .i64 x.bit, .slice K x.keep.length kc, .slice A' x.bytes.length bc] 45) = w3 at hbx hxx ⊢
      generalize hxe : wr.heap.size = xb at hxx hwrs ⊢
      have HXW : Hid (EvBox w3.drew xb x K A' kc bc) := Lib.hid hxx
      have HBX : Hid (Below xb wr w3.drew) := Lib.hid ((hxe ▸ hbx).trans (below_drewN (Below.refl _ _) 1))
      refine wp_region_any (by kernel_rfl) ?_
      change wpAny _ _ _ _ _ _ _ (World.drew _)
      clear hbx hxx
      generalize w3.drew = w4 at HXW HBX ⊢
      have hxl : xb < w4.heap.size := (Array.getElem?_eq_some_iff.1 HXW.out).1
      have hw4 : Below w.heap.size w w4 := HBW.out.trans (HBX.out.mono (by have := HBW.out.size; omega))
      have HSW : Hid (∀ W, Below w4.heap.size w4 W → W.cell? ⟨xb, 5, none⟩ = some (.slice K x.keep.length kc) ∧ W.cell? ⟨xb, 6, none⟩ = some (.slice A' x.bytes.length bc)) := Lib.hid (fun W h => by
        have hc := EvBox.cells ((h.block xb hxl).trans HXW.out)
        exact ⟨hc.2.2.2.2.2.1, hc.2.2.2.2.2.2⟩)
      have HSRC : Hid (∀ W, Below w4.heap.size w4 W → CellsAt W A' (Lib.byteCells x.bytes) ∧ CellsAt W K (boolCells x.keep)) := Lib.hid (fun W h => by
        have := (HEV.out.next hw4).next h
        exact ⟨this.bytes, this.keep⟩)
      have HW4 := Lib.hid hw4
      have hl5 : x.keep.length ≤ maxLen ∧ x.bytes.length ≤ maxLen ∧ x.keep.length * 1 ≤ 140737488355328 ∧ x.bytes.length * 1 ≤ 140737488355328 := by have := HXL.out; unfold maxLen; omega
      have HL5 := Lib.hid hl5
      clear hw4 hl5
      refine wpAny_of_till (S := fun W => W.cell? ⟨xb, 5, none⟩ = some (.slice K x.keep.length kc) ∧ W.cell? ⟨xb, 6, none⟩ = some (.slice A' x.bytes.length bc)) (st := fun l => l.getD 9 false) _ _ _ _ ?_
      change wpTill _ _ _ _ _ _ _ #[false, false, false, false, false, false, false, false, false, false, false, false] _ _
      refine wpTill_take (i := 1) (v := ?va1) rfl (by kernel_rfl) (by kernel_rfl) (by kernel_rfl) (show Shutd _ _ #[false, false, false, false, false, false, false, false, false, false, false, false] from Shutd.start 12) (fun l h h9 => (Shutd.step h (j := 2) (k := 1) (by kernel_rfl) (Shutd.step h (j := 3) (k := 2) (by kernel_rfl) (Shutd.step h (j := 9) (k := 3) (by kernel_rfl) h9)))) (fun l => getD_set_ne false (by decide)) (fun _ _ _ h => h) (Or.inl ⟨by rfl, ?ya1⟩) (HSW.out _ (Below.refl _ _)) (fun hsh1 => ?_)
      case ya1 => (intro w hS; obtain ⟨s5, s6⟩ := hS; go_simp; (try with_reducible rfl))
      simp only [Act.put, List.getElem_toArray, List.getElem_cons_zero, List.getElem_cons_succ, List.setIfInBounds_toArray, List.set_cons_zero, List.set_cons_succ] at hsh1 ⊢
      refine wpTill_take (i := 2) (v := ?va2) rfl (by kernel_rfl) (by kernel_rfl) (by kernel_rfl) hsh1 (fun l h h9 => (Shutd.step h (j := 3) (k := 2) (by kernel_rfl) (Shutd.step h (j := 9) (k := 3) (by kernel_rfl) h9))) (fun l => getD_set_ne false (by decide)) (fun _ _ _ h => h) (Or.inl ⟨by rfl, ?ya2⟩) (HSW.out _ (Below.refl _ _)) (fun hsh2 => ?_)
      case ya2 => (intro w hS; obtain ⟨s5, s6⟩ := hS; go_simp; (try with_reducible rfl))
      simp only [Act.put, List.getElem_toArray, List.getElem_cons_zero, List.getElem_cons_succ, List.setIfInBounds_toArray, List.set_cons_zero, List.set_cons_succ] at hsh2 ⊢
      refine wpTill_take (i := 5) (v := ?va3) rfl (by kernel_rfl) (by kernel_rfl) (by kernel_rfl) hsh2 (fun l h h9 => (Shutd.step h (j := 6) (k := 5) (by kernel_rfl) (Shutd.step h (j := 7) (k := 6) (by kernel_rfl) (Shutd.step h (j := 9) (k := 7) (by kernel_rfl) h9)))) (fun l => getD_set_ne false (by decide)) (fun _ _ _ h => h) (Or.inl ⟨by rfl, ?ya3⟩) (HSW.out _ (Below.refl _ _)) (fun hsh3 => ?_)
      case ya3 => (intro w hS; obtain ⟨s5, s6⟩ := hS; go_simp; (try with_reducible rfl))
      simp only [Act.put, List.getElem_toArray, List.getElem_cons_zero, List.getElem_cons_succ, List.setIfInBounds_toArray, List.set_cons_zero, List.set_cons_succ] at hsh3 ⊢
      refine wpTill_take (i := 6) (v := ?va4) rfl (by kernel_rfl) (by kernel_rfl) (by kernel_rfl) hsh3 (fun l h h9 => (Shutd.step h (j := 7) (k := 6) (by kernel_rfl) (Shutd.step h (j := 9) (k := 7) (by kernel_rfl) h9))) (fun l => getD_set_ne false (by decide)) (fun _ _ _ h => h) (Or.inl ⟨by rfl, ?ya4⟩) (HSW.out _ (Below.refl _ _)) (fun hsh4 => ?_)
      case ya4 => (intro w hS; obtain ⟨s5, s6⟩ := hS; go_simp; (try with_reducible rfl))
      simp only [Act.put, List.getElem_toArray, List.getElem_cons_zero, List.getElem_cons_succ, List.setIfInBounds_toArray, List.set_cons_zero, List.set_cons_succ] at hsh4 ⊢
      refine (fun (key : ∀ (v13 v16 v17 v20 : Value) (W : World), CF w4 x true true true true v13 v16 v17 v20 W → (?HH : Value → Value → Value → Value → World → Prop) v13 v16 v17 v20 W) => ?main) ?fin
      case main =>
        have HCF0 := Lib.hid (CF.start w4 x u13 u16 u17 u20)
        refine wpTill_ready (rs := [0, 4]) (by kernel_rfl) (by simp) ?_
        refine (AllTill.cons rfl (fun KK hKK => ?_) (AllTill.cons rfl (fun KK hKK => ?_) AllTill.nil))
        · rw [if_pos (by rfl)]
          go_simp
          have HCF1 := Lib.hid (HCF0.out.stepA)
          refine hKK _ _ (fun _ => HSW.out _ HCF1.out.below) ?_
          clear hKK KK HCF0
          simp only [List.setIfInBounds_toArray, List.set_cons_zero]
          generalize (Value.slice (some ⟨w4.heap.size, 0, none⟩) 0 0) = v13_1 at HCF1 ⊢
          generalize w4.alloc (.cells #[] 5) = W1 at HCF1 ⊢
          refine wpTill_ready (rs := [3, 4]) (by kernel_rfl) (by simp) ?_
          refine (AllTill.cons rfl (fun KK hKK => ?_) (AllTill.cons rfl (fun KK hKK => ?_) AllTill.nil))
          · rw [if_pos (by rfl)]
            refine wp_row_copy _ _ 43 5 (.int .u8 0) 1 rfl Tryd.underlying43 info5 rfl (HCF1.out.fa rfl rfl) rfl (Lib.byteCells x.bytes) x.bytes.length (byteCells_len _) A' bc rfl (HSRC.out _ HCF1.out.below).1 (byteCells_one _) HL5.out.2.1 HL5.out.2.2.2 ?_
            intro v16_2 W2 hO hb hg
            have HCF2 := Lib.hid (HCF1.out.stepB hO hb hg)
            refine hKK _ _ (fun _ => HSW.out _ HCF2.out.below) ?_
            clear hKK KK HCF1 hO hb hg
            simp only [Act.put, List.getElem_toArray, List.getElem_cons_zero, List.getElem_cons_succ, List.setIfInBounds_toArray, List.set_cons_zero, List.set_cons_succ]
            refine wpTill_take (i := 8) (v := ?va5) rfl (by kernel_rfl) (by kernel_rfl) (by kernel_rfl) (show Shutd _ _ #[true, true, true, true, false, true, true, false, false, false, false, false] from Shutd.put (show Shutd _ _ #[true, true, true, false, false, true, true, false, false, false, false, false] from Shutd.put (show Shutd _ _ #[false, true, true, false, false, true, true, false, false, false, false, false] from Shutd.put (show Shutd _ _ #[false, true, true, false, false, true, false, false, false, false, false, false] from Shutd.put (show Shutd _ _ #[false, true, true, false, false, false, false, false, false, false, false, false] from Shutd.put (show Shutd _ _ #[false, true, false, false, false, false, false, false, false, false, false, false] from Shutd.put (show Shutd _ _ #[false, false, false, false, false, false, false, false, false, false, false, false] from Shutd.start 12) (j := 1) (by kernel_rfl)) (j := 2) (by kernel_rfl)) (j := 5) (by kernel_rfl)) (j := 6) (by kernel_rfl)) (j := 0) (by kernel_rfl)) (j := 3) (by kernel_rfl)) (fun l h h9 => (Shutd.step h (j := 9) (k := 8) (by kernel_rfl) h9)) (fun l => getD_set_ne false (by decide)) (fun _ _ _ h => h) (Or.inl ⟨by rfl, ?ya5⟩) (HSW.out _ HCF2.out.below) (fun hsh5 => ?_)
            case ya5 => (intro w hS; obtain ⟨s5, s6⟩ := hS; go_simp; (try with_reducible rfl))
            simp only [Act.put, List.getElem_toArray, List.getElem_cons_zero, List.getElem_cons_succ, List.setIfInBounds_toArray, List.set_cons_zero, List.set_cons_succ] at hsh5 ⊢
            refine wpTill_ready (rs := [4]) (by kernel_rfl) (by simp) ?_
            refine (AllTill.cons rfl (fun KK hKK => ?_) AllTill.nil)
            · rw [if_pos (by rfl)]
              go_simp
              have HCF3 := Lib.hid (HCF2.out.stepC)
              refine hKK _ _ (fun _ => HSW.out _ HCF3.out.below) ?_
              clear hKK KK HCF2
              simp only [List.setIfInBounds_toArray, List.set_cons_zero, List.set_cons_succ]
              generalize (Value.slice (some ⟨W2.heap.size, 0, none⟩) 0 0) = v17_3 at HCF3 ⊢
              generalize W2.alloc (.cells #[] 4) = W3 at HCF3 ⊢
              refine wpTill_ready (rs := [7]) (by kernel_rfl) (by simp) ?_
              refine (AllTill.cons rfl (fun KK hKK => ?_) AllTill.nil)
              · rw [if_pos (by rfl)]
                refine wp_row_copy _ _ 42 4 (.bool false) 1 rfl Tryd.underlying42 info4 rfl (HCF3.out.fc rfl rfl) rfl (boolCells x.keep) x.keep.length (boolCells_len _) K kc rfl (HSRC.out _ HCF3.out.below).2 (boolCells_one _) HL5.out.1 HL5.out.2.2.1 ?_
                intro v20_4 W4 hO hb hg
                have HCF4 := Lib.hid (HCF3.out.stepD hO hb hg)
                refine hKK _ _ (fun _ => HSW.out _ HCF4.out.below) ?_
                clear hKK KK HCF3 hO hb hg
                simp only [Act.put, List.getElem_toArray, List.getElem_cons_zero, List.getElem_cons_succ, List.setIfInBounds_toArray, List.set_cons_zero, List.set_cons_succ]
                exact key _ _ _ _ _ HCF4.out
          · rw [if_pos (by rfl)]
            go_simp
            have HCF5 := Lib.hid (HCF1.out.stepC)
            refine hKK _ _ (fun _ => HSW.out _ HCF5.out.below) ?_
            clear hKK KK HCF1
            simp only [List.setIfInBounds_toArray, List.set_cons_zero, List.set_cons_succ]
            generalize (Value.slice (some ⟨W1.heap.size, 0, none⟩) 0 0) = v17_5 at HCF5 ⊢
            generalize W1.alloc (.cells #[] 4) = W5 at HCF5 ⊢
            refine wpTill_ready (rs := [3]) (by kernel_rfl) (by simp) ?_
            refine (AllTill.cons rfl (fun KK hKK => ?_) AllTill.nil)
            · rw [if_pos (by rfl)]
              refine wp_row_copy _ _ 43 5 (.int .u8 0) 1 rfl Tryd.underlying43 info5 rfl (HCF5.out.fa rfl rfl) rfl (Lib.byteCells x.bytes) x.bytes.length (byteCells_len _) A' bc rfl (HSRC.out _ HCF5.out.below).1 (byteCells_one _) HL5.out.2.1 HL5.out.2.2.2 ?_
              intro v16_6 W6 hO hb hg
              have HCF6 := Lib.hid (HCF5.out.stepB hO hb hg)
              refine hKK _ _ (fun _ => HSW.out _ HCF6.out.below) ?_
              clear hKK KK HCF5 hO hb hg
              simp only [Act.put, List.getElem_toArray, List.getElem_cons_zero, List.getElem_cons_succ, List.setIfInBounds_toArray, List.set_cons_zero, List.set_cons_succ]
              refine wpTill_take (i := 8) (v := ?va6) rfl (by kernel_rfl) (by kernel_rfl) (by kernel_rfl) (show Shutd _ _ #[true, true, true, true, true, true, true, false, false, false, false, false] from Shutd.put (show Shutd _ _ #[true, true, true, false, true, true, true, false, false, false, false, false] from Shutd.put (show Shutd _ _ #[true, true, true, false, false, true, true, false, false, false, false, false] from Shutd.put (show Shutd _ _ #[false, true, true, false, false, true, true, false, false, false, false, false] from Shutd.put (show Shutd _ _ #[false, true, true, false, false, true, false, false, false, false, false, false] from Shutd.put (show Shutd _ _ #[false, true, true, false, false, false, false, false, false, false, false, false] from Shutd.put (show Shutd _ _ #[false, true, false, false, false, false, false, false, false, false, false, false] from Shutd.put (show Shutd _ _ #[false, false, false, false, false, false, false, false, false, false, false, false] from Shutd.start 12) (j := 1) (by kernel_rfl)) (j := 2) (by kernel_rfl)) (j := 5) (by kernel_rfl)) (j := 6) (by kernel_rfl)) (j := 0) (by kernel_rfl)) (j := 4) (by kernel_rfl)) (j := 3) (by kernel_rfl)) (fun l h h9 => (Shutd.step h (j := 9) (k := 8) (by kernel_rfl) h9)) (fun l => getD_set_ne false (by decide)) (fun _ _ _ h => h) (Or.inl ⟨by rfl, ?ya6⟩) (HSW.out _ HCF6.out.below) (fun hsh6 => ?_)
              case ya6 => (intro w hS; obtain ⟨s5, s6⟩ := hS; go_simp; (try with_reducible rfl))
              simp only [Act.put, List.getElem_toArray, List.getElem_cons_zero, List.getElem_cons_succ, List.setIfInBounds_toArray, List.set_cons_zero, List.set_cons_succ] at hsh6 ⊢
              refine wpTill_ready (rs := [7]) (by kernel_rfl) (by simp) ?_
              refine (AllTill.cons rfl (fun KK hKK => ?_) AllTill.nil)
              · rw [if_pos (by rfl)]
                refine wp_row_copy _ _ 42 4 (.bool false) 1 rfl Tryd.underlying42 info4 rfl (HCF6.out.fc rfl rfl) rfl (boolCells x.keep) x.keep.length (boolCells_len _) K kc rfl (HSRC.out _ HCF6.out.below).2 (boolCells_one _) HL5.out.1 HL5.out.2.2.1 ?_
                intro v20_7 W7 hO hb hg
                have HCF7 := Lib.hid (HCF6.out.stepD hO hb hg)
                refine hKK _ _ (fun _ => HSW.out _ HCF7.out.below) ?_
                clear hKK KK HCF6 hO hb hg
                simp only [Act.put, List.getElem_toArray, List.getElem_cons_zero, List.getElem_cons_succ, List.setIfInBounds_toArray, List.set_cons_zero, List.set_cons_succ]
                exact key _ _ _ _ _ HCF7.out
        · rw [if_pos (by rfl)]
          go_simp
          have HCF8 := Lib.hid (HCF0.out.stepC)
          refine hKK _ _ (fun _ => HSW.out _ HCF8.out.below) ?_
          clear hKK KK HCF0
          simp only [List.setIfInBounds_toArray, List.set_cons_zero, List.set_cons_succ]
          generalize (Value.slice (some ⟨w4.heap.size, 0, none⟩) 0 0) = v17_8 at HCF8 ⊢
          generalize w4.alloc (.cells #[] 4) = W8 at HCF8 ⊢
          refine wpTill_ready (rs := [0]) (by kernel_rfl) (by simp) ?_
          refine (AllTill.cons rfl (fun KK hKK => ?_) AllTill.nil)
          · rw [if_pos (by rfl)]
            go_simp
            have HCF9 := Lib.hid (HCF8.out.stepA)
            refine hKK _ _ (fun _ => HSW.out _ HCF9.out.below) ?_
            clear hKK KK HCF8
            simp only [List.setIfInBounds_toArray, List.set_cons_zero]
            generalize (Value.slice (some ⟨W8.heap.size, 0, none⟩) 0 0) = v13_9 at HCF9 ⊢
            generalize W8.alloc (.cells #[] 5) = W9 at HCF9 ⊢
            refine wpTill_ready (rs := [3]) (by kernel_rfl) (by simp) ?_
            refine (AllTill.cons rfl (fun KK hKK => ?_) AllTill.nil)
            · rw [if_pos (by rfl)]
              refine wp_row_copy _ _ 43 5 (.int .u8 0) 1 rfl Tryd.underlying43 info5 rfl (HCF9.out.fa rfl rfl) rfl (Lib.byteCells x.bytes) x.bytes.length (byteCells_len _) A' bc rfl (HSRC.out _ HCF9.out.below).1 (byteCells_one _) HL5.out.2.1 HL5.out.2.2.2 ?_
              intro v16_10 W10 hO hb hg
              have HCF10 := Lib.hid (HCF9.out.stepB hO hb hg)
              refine hKK _ _ (fun _ => HSW.out _ HCF10.out.below) ?_
              clear hKK KK HCF9 hO hb hg
              simp only [Act.put, List.getElem_toArray, List.getElem_cons_zero, List.getElem_cons_succ, List.setIfInBounds_toArray, List.set_cons_zero, List.set_cons_succ]
              refine wpTill_take (i := 8) (v := ?va7) rfl (by kernel_rfl) (by kernel_rfl) (by kernel_rfl) (show Shutd _ _ #[true, true, true, true, true, true, true, false, false, false, false, false] from Shutd.put (show Shutd _ _ #[true, true, true, false, true, true, true, false, false, false, false, false] from Shutd.put (show Shutd _ _ #[false, true, true, false, true, true, true, false, false, false, false, false] from Shutd.put (show Shutd _ _ #[false, true, true, false, false, true, true, false, false, false, false, false] from Shutd.put (show Shutd _ _ #[false, true, true, false, false, true, false, false, false, false, false, false] from Shutd.put (show Shutd _ _ #[false, true, true, false, false, false, false, false, false, false, false, false] from Shutd.put (show Shutd _ _ #[false, true, false, false, false, false, false, false, false, false, false, false] from Shutd.put (show Shutd _ _ #[false, false, false, false, false, false, false, false, false, false, false, false] from Shutd.start 12) (j := 1) (by kernel_rfl)) (j := 2) (by kernel_rfl)) (j := 5) (by kernel_rfl)) (j := 6) (by kernel_rfl)) (j := 4) (by kernel_rfl)) (j := 0) (by kernel_rfl)) (j := 3) (by kernel_rfl)) (fun l h h9 => (Shutd.step h (j := 9) (k := 8) (by kernel_rfl) h9)) (fun l => getD_set_ne false (by decide)) (fun _ _ _ h => h) (Or.inl ⟨by rfl, ?ya7⟩) (HSW.out _ HCF10.out.below) (fun hsh7 => ?_)
              case ya7 => (intro w hS; obtain ⟨s5, s6⟩ := hS; go_simp; (try with_reducible rfl))
              simp only [Act.put, List.getElem_toArray, List.getElem_cons_zero, List.getElem_cons_succ, List.setIfInBounds_toArray, List.set_cons_zero, List.set_cons_succ] at hsh7 ⊢
              refine wpTill_ready (rs := [7]) (by kernel_rfl) (by simp) ?_
              refine (AllTill.cons rfl (fun KK hKK => ?_) AllTill.nil)
              · rw [if_pos (by rfl)]
                refine wp_row_copy _ _ 42 4 (.bool false) 1 rfl Tryd.underlying42 info4 rfl (HCF10.out.fc rfl rfl) rfl (boolCells x.keep) x.keep.length (boolCells_len _) K kc rfl (HSRC.out _ HCF10.out.below).2 (boolCells_one _) HL5.out.1 HL5.out.2.2.1 ?_
                intro v20_11 W11 hO hb hg
                have HCF11 := Lib.hid (HCF10.out.stepD hO hb hg)
                refine hKK _ _ (fun _ => HSW.out _ HCF11.out.below) ?_
                clear hKK KK HCF10 hO hb hg
                simp only [Act.put, List.getElem_toArray, List.getElem_cons_zero, List.getElem_cons_succ, List.setIfInBounds_toArray, List.set_cons_zero, List.set_cons_succ]
                exact key _ _ _ _ _ HCF11.out
      case fin =>
        intro v13 v16 v17 v20 W hcf
        obtain ⟨Z, zk, rfl, hz⟩ := hcf.fb rfl
        obtain ⟨Y, yk, rfl, hy⟩ := hcf.fd rfl
        have hxw : EvBox W xb x K A' kc bc := (hcf.below.block xb hxl).trans HXW.out
        have hxwl : xb < W.heap.size := (Array.getElem?_eq_some_iff.1 hxw).1
        have hst := but_set (i := 6) (.slice Z x.bytes.length zk) hxw
        have hst2 := but_set (i := 5) (.slice Y x.keep.length yk) hst.2
        have c6 := hxw.cells.2.2.2.2.2.2
        have f6 := blk_free hxw 6
        have c5 := (blk_cells hst.2 5).trans rfl
        have f5 := blk_free hst.2 5
        have hxsl : xb < (W.setCell ⟨xb, 6, none⟩ (.slice Z x.bytes.length zk)).heap.size := (Array.getElem?_eq_some_iff.1 hst.2).1
        have HX5 : Hid (EvBox ((W.setCell ⟨xb, 6, none⟩ (.slice Z x.bytes.length zk)).setCell ⟨xb, 5, none⟩ (.slice Y x.keep.length yk)) xb x Y Z yk zk) := Lib.hid (by unfold EvBox; rw [hst2.2]; rfl)
        have HEV5 : Hid (EvT ((W.setCell ⟨xb, 6, none⟩ (.slice Z x.bytes.length zk)).setCell ⟨xb, 5, none⟩ (.slice Y x.keep.length yk)) x Y Z) := Lib.hid (EvT.set _ (EvT.set _ ⟨hy, hz, HXL.out.1, HXL.out.2⟩ hxw (by decide) (by decide)) hst.2 (by decide) (by decide))
        have HB5 : Hid (Below xb wr ((W.setCell ⟨xb, 6, none⟩ (.slice Z x.bytes.length zk)).setCell ⟨xb, 5, none⟩ (.slice Y x.keep.length yk))) := Lib.hid ((HBX.out.trans (hcf.below.mono (Nat.le_of_lt hxl))).trans ((hst.1.trans hst2.1).to (Nat.le_of_lt hxwl) (by intro j hj; simp at hj; omega)))
        clear hcf hz hy hxw hst hst2
        refine wpTill_ready (rs := [9]) (by kernel_rfl) (by simp) ?_
        refine (AllTill.cons rfl (fun KK hKK => ?_) AllTill.nil)
        rw [if_pos (by rfl)]
        go_simp
        refine hKK _ _ (fun h => absurd h (by decide)) ?_
        clear hKK KK c6 f6 hxwl
        simp only [List.setIfInBounds_toArray, List.set_cons_zero, List.set_cons_succ]
        refine wpTill_ready (rs := [10]) (by kernel_rfl) (by simp) ?_
        refine (AllTill.cons rfl (fun KK hKK => ?_) AllTill.nil)
        rw [if_pos (by rfl)]
        go_simp
        refine hKK _ _ (fun h => absurd h (by decide)) ?_
        clear hKK KK
        simp only [List.setIfInBounds_toArray, List.set_cons_zero, List.set_cons_succ]
        refine wpTill_ready (rs := [11]) (by kernel_rfl) (by simp) ?_
        refine (AllTill.cons rfl (fun KK hKK => ?_) AllTill.nil)
        rw [if_pos (by rfl)]
        go_simp
        refine hKK _ _ (fun h => absurd h (by decide)) ?_
        clear hKK KK c5 f5 hxsl
        refine wpTill_done (by kernel_rfl) ?_ _
        generalize (W.setCell ⟨xb, 6, none⟩ (.slice Z x.bytes.length zk)).setCell ⟨xb, 5, none⟩ (.slice Y x.keep.length yk) = w5 at HX5 HEV5 HB5 ⊢
        have HOW := Lib.hid (HO.out.next (hxe.symm ▸ HB5.out))
        have HEO : Hid (∀ r ∈ rs, EvT w5 r.x r.K r.A) := Lib.hid (fun r hr => (hE.out r hr).next (hxe.symm ▸ HB5.out))
        obtain ⟨c0, c1, c2, c3, c4, c5, c6⟩ := HX5.out.cells
        have hxlt : xb < w5.heap.size := (Array.getElem?_eq_some_iff.1 HX5.out).1
        go_wp2_with (at_builtin; refine wpList_own_append3 rfl _ _ 26 45 zeroEv 7 88 rfl Tryd.underlying26 info45 rfl (by decide) HOW.out rfl (EvR.row ⟨x, Y, Z, yk, zk⟩) 1 rfl rfl (by intro u hu; simp only [EvR.row, List.mem_cons, List.not_mem_nil, or_false] at hu; rcases hu with rfl | rfl | rfl | rfl | rfl | rfl | rfl <;> rfl) rfl (by unfold maxLen; omega) (by omega) ?_)
        intro v' w6 hO6 hb6 hg6
        have HO6 := Lib.hid hO6
        have HB6 := Lib.hid (HB.out.trans ((HB5.out.mono hwrs).trans hb6))
        have HE6 : Hid (∀ r ∈ rs ++ [⟨x, Y, Z, yk, zk⟩], EvT w6 r.x r.K r.A) := Lib.hid (fun r hr => by
          rcases List.mem_append.1 hr with hr | hr
          · exact (HEO.out r hr).grownT hg6 HOW.out (by decide) (by decide)
          · rw [List.mem_singleton] at hr; subst hr; exact HEV5.out.grownT hg6 HOW.out (by decide) (by decide))
        clear hO6 hb6 hg6
        go_wp2_with fail
        go_roundw
        case rel =>
          refine ⟨k + 1, rs ++ [⟨x, Y, Z, yk, zk⟩], by omega, by rw [List.length_append, HRL.out]; rfl, by go_num, ?_, Lib.hid ?_, HE6, HB6.out⟩
          · rw [List.flatMap_append]; simpa using HO6.out
          · rw [List.map_append, hR.out, HT.out]; rfl
        case measure => simp [intOf]; omega
    · have HFE : Hid (rs.map EvR.x = evs) := Lib.hid (by rw [hR.out, List.take_of_length_le (by omega)])
      have hsbl : sb < wr.heap.size := by have := HO.out.le; omega
      have HX1r := Lib.hid ((HB.out.block sb (by omega)).trans HX1.out)
      have HX2r := Lib.hid ((HB.out.block (sb + 1) (by omega)).trans HX2.out)
      obtain ⟨A9, c9, rfl⟩ := own_shape HO.out
      have hst := but_set (i := 2) (.slice A9 k c9) HX1r.out
      have HX2s := Lib.hid (hst.1.blk HX2r.out (by simp))
      have h3 := set3 HX2s.out (.int .i64 sv) (.int .i64 ar) (.slice A9 k c9)
      have HOW := Lib.hid ((HO.out.but hst.1 (by intro j hj; simp at hj; omega)).but h3.1 (by intro j hj; simp at hj; omega))
      have HBF := Lib.hid (HBW.out.trans ((hst.1.to (B := w.heap.size) (Nat.le_trans HB2.out.size (by have := HB.out.size; omega)) (by intro j hj; simp at hj; omega)).trans (h3.1.to (B := w.heap.size) (by have := HBW.out.size; simp; omega) (by intro j hj; simp at hj; omega))))
      have HE6 : Hid (∀ r ∈ rs, EvAt ((((wr.setCell ⟨sb, 2, none⟩ (.slice A9 k c9)).setCell ⟨sb + 1, 0, none⟩ (.int .i64 sv)).setCell ⟨sb + 1, 1, none⟩ (.int .i64 ar)).setCell ⟨sb + 1, 2, none⟩ (.slice A9 k c9)) r.x r.K r.A) := Lib.hid (fun r hr =>
        (((hE.out r hr).set _ HX1r.out (by decide) (by decide)).but h3.1 (by intro j hj; simp at hj; subst hj; exact ⟨_, _, _, HX2s.out, by decide, by decide⟩)).at_)
      have s0 := blk_cells HX1r.out 0
      have s1 := blk_cells HX1r.out 1
      have s2 := blk_cells HX1r.out 2
      have sf := fun i => blk_free HX1r.out i
      have t0 := blk_cells hst.2 0
      have t1 := blk_cells hst.2 1
      have t2 := blk_cells hst.2 2
      have q0 := blk_cells HX2s.out 0
      have q1 := blk_cells HX2s.out 1
      have q2 := blk_cells HX2s.out 2
      have qf := fun i => blk_free HX2s.out i
      have qlt : sb + 1 < (wr.setCell ⟨sb, 2, none⟩ (.slice A9 k c9)).heap.size := (Array.getElem?_eq_some_iff.1 HX2s.out).1
      have Z0 := Lib.hid (blk_cells h3.2 0)
      have Z1 := Lib.hid (blk_cells h3.2 1)
      have Z2 := Lib.hid (blk_cells h3.2 2)
      clear hst h3 hR
      go_wp2_with fail
      refine bodyPost_ret (v := .agg #[.int .i64 sv, .int .i64 ar, .slice A9 k c9]) ?_ rfl ?_
      · have z0 := Z0.out
        have z1 := Z1.out
        have z2 := Z2.out
        simp [results, Tryd.results15, go_sem, z0, z1, z2]
      · obtain ⟨A8, c8, he8, hE8⟩ := own_evs HOW.out HRL.out HE6.out
        injection he8 with e1 e2 e3
        subst e1
        subst e3
        rw [HFE.out] at hE8
        have hlen : k = evs.length := by rw [← HFE.out, List.length_map]; exact HRL.out.symm
        exact ⟨A9, c9, by rw [← hlen], hE8, HBF.out⟩
end Go.Proofs.YthpojljfmipngaaDoor
