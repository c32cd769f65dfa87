/-
  A buffer of bytes that a call owns: what append and the turn to a string make of it; the document's Quote. CONDITIONS: as each law says.
-/
import Derived.Test.YtimioelnnhnbiaaDoorRA
import Derived.Test.YtimioelnnhnbiaaDoorTillF
import Derived.Laws.AppendOwn
import Derived.Laws.OwnMore
import Derived.Laws.IdiomStrings
import Derived.Lib.UnsafeStr
namespace Go.Proofs.YtimioelnnhnbiaaDoor
open Go.RowKit
theorem own_below {w w' : World} {base : Nat} {e : TypeId} {size n : Nat} {v : Value} {xs : List Value} (h : w.ownsRow base e size v n xs) (hb : Below w.heap.size w w') : w'.ownsRow base e size v n xs :=
  h.kept (row := none) ⟨hb.os, hb.tape, hb.output, hb.size, fun k hk _ => hb.block k hk⟩ (by cases hv : v.ownBlock <;> simp)
structure Buf (B : Nat) (v : Value) (out : List UInt8) (W0 w : World) : Prop where
  own : w.ownsRow B 5 1 v out.length (Lib.byteCells out)
  below : Below B W0 w
  le : B ≤ w.heap.size
theorem Buf.empty {w : World} : Buf w.heap.size (.slice none 0 0) [] w w := ⟨World.ownsRow_nil _ _ _ _, Below.refl _ _, Nat.le_refl _⟩
theorem Buf.alloc {B : Nat} {v : Value} {out : List UInt8} {W0 w : World} (h : Buf B v out W0 w) (o : Obj) : Buf B v out W0 (w.alloc o) := ⟨h.own.alloc o, h.below.alloc h.le o, Nat.le_trans h.le ((Below.refl 0 w).alloc (Nat.zero_le _) o).size⟩
theorem Buf.next {B : Nat} {v : Value} {out : List UInt8} {W0 w w' : World} (h : Buf B v out W0 w) (hb : Below w.heap.size w w') : Buf B v out W0 w' := ⟨own_below h.own hb, h.below.trans (hb.mono h.le), Nat.le_trans h.le hb.size⟩
theorem Buf.lit (w : World) (l : List UInt8) (hl : l.length ≤ 1000) {C : Array Value} (hC : C = (Lib.byteCells l).toArray) : Buf w.heap.size (.slice (some ⟨w.heap.size, 0, none⟩) l.length l.length) l w (w.alloc (.cells C 5)) := by
  subst hC
  refine ⟨⟨by rw [byteCells_len, Nat.mul_one], .inr ⟨w.heap.size, l.length, (Lib.byteCells l).toArray, rfl, Nat.le_refl _, heap_alloc_new w _, Nat.le_refl _, by unfold maxLen; omega, by rw [List.size_toArray, byteCells_len, Nat.mul_one], ?_⟩⟩, below_box _ _, by simp⟩
  show (Lib.byteCells l).toArray.toList.take (l.length * 1) = _
  rw [Nat.mul_one, List.take_of_length_le (by simp [byteCells_len])]
theorem wpList_buf_append {ops : Array Oper} {rest : List Oper} {o : Oper} {a : Act} {Q : Exit → Act → World → Prop} (hgd : o.guard = none) (s x : Operand)
    (ho : o.op = .call { callee := .builtin .append, args := #[s, x], argTypes := #[48, 48] }) {B : Nat} {v : Value} {out : List UInt8} {W0 w : World} (hb : Buf B v out W0 w)
    (hs : a.eval s = v) (news : List UInt8) {C : Array Value} (hC : C = (Lib.byteCells news).toArray) (hx : a.eval x = .slice (some ⟨w.heap.size, 0, none⟩) news.length news.length) (hlen : out.length + news.length ≤ 1099511627776)
    (h : ∀ v' w', Buf B v' (out ++ news) W0 w' → wpList Tryd.prog ops Q rest (a.put o.dst v') w') : wpList Tryd.prog ops Q (o :: rest) a (w.alloc (.cells C 5)) := by
  subst hC
  obtain ⟨i0, hi, hz0, hz1, hz2⟩ := info_parts byte_info
  have hb' := hb.alloc (.cells (Lib.byteCells news).toArray 5)
  refine wpList_append_own _ hgd s x 48 ho B 5 i0 (.int .u8 0) 1 1 Tryd.underlying48 hi hz0 hz1 hz2 rfl (by decide) v out.length (Lib.byteCells out) hs hb'.own ⟨w.heap.size, 0, none⟩ news.length news.length (Lib.byteCells news) hx (by rw [byteCells_len, Nat.mul_one]) ?_ (byteCells_one _) (by unfold maxLen; omega) (by omega) hb'.le ?_
  · intro j u hj
    have hadd : (⟨w.heap.size, 0, none⟩ : Addr).add j = ⟨w.heap.size, j, none⟩ := by unfold Addr.add; split <;> simp_all
    rw [hadd, blk_cells (heap_alloc_new w _) j, List.getElem?_toArray, hj]
  · intro v' w' h1 h2 _
    exact h v' w' ⟨by rw [List.length_append, byteCells_app]; exact h1, hb'.below.grown h2 hb'.le (fun k hk => (hb'.own.lt k hk).1), Nat.le_trans hb'.le h2.size⟩
theorem wp_buf_append {o : Oper} {a : Act} {K : Act → World → Prop} {Q : Exit → Act → World → Prop} (s x : Operand)
    (ho : o.op = .call { callee := .builtin .append, args := #[s, x], argTypes := #[48, 48] }) {B : Nat} {v : Value} {out : List UInt8} {W0 w : World} (hb : Buf B v out W0 w)
    (hs : a.eval s = v) (news : List UInt8) {C : Array Value} (hC : C = (Lib.byteCells news).toArray) (hx : a.eval x = .slice (some ⟨w.heap.size, 0, none⟩) news.length news.length) (hlen : out.length + news.length ≤ 1099511627776)
    (h : ∀ v' w', Buf B v' (out ++ news) W0 w' → K (a.put o.dst v') w') : o.wp Tryd.prog a (w.alloc (.cells C 5)) K Q := by
  refine wp_own_append s x 48 5 (.int .u8 0) 1 1 ho Tryd.underlying48 info5 rfl (by decide) (xs := Lib.byteCells out) (n := out.length) ⟨hb.own, hb.le⟩ hs (Lib.byteCells news) news.length hC (by rw [byteCells_len, Nat.mul_one]) (byteCells_one _) hx (by unfold maxLen; omega) (by omega) ?_
  intro v' w' h1 h2 _
  exact h v' w' ⟨by rw [List.length_append, byteCells_app]; exact h1.own, hb.below.trans h2, h1.le⟩
theorem Buf.string {B : Nat} {v : Value} {out : List UInt8} {W0 w : World} (h : Buf B v out W0 w) : (convert 48 9 v).run Tryd.prog w = .ok (.string ⟨out.toArray⟩) w := by
  rcases h.own.2 with ⟨hv, hn⟩ | ⟨g, cap, cur, hv, _⟩
  · obtain rfl : out = [] := List.length_eq_zero_iff.1 hn
    rw [hv]
    rw [run_convert_bytes_string w 48 9 5 none 0 0 Tryd.underlying48 Tryd.underlying5 Tryd.underlying9]
    simp [Conv.bytesToString]
    rfl
  · have ho := h.own
    rw [hv] at ho ⊢
    refine run_convert_bytes_back w 48 9 5 _ cap out Tryd.underlying48 Tryd.underlying5 Tryd.underlying9 ?_
    intro j hj
    have hadd : (⟨g, 0, none⟩ : Addr).add j = ⟨g, j, none⟩ := by unfold Addr.add; split <;> simp_all
    rw [hadd, ho.cellAt j (by omega)]
    simp [Lib.byteCells, hj]
theorem hex_idx {d : Nat} (hd : d < 16) (h : d < (⟨#[48, 49, 50, 51, 52, 53, 54, 55, 56, 57, 97, 98, 99, 100, 101, 102]⟩ : ByteArray).size) : (⟨#[48, 49, 50, 51, 52, 53, 54, 55, 56, 57, 97, 98, 99, 100, 101, 102]⟩ : ByteArray)[d]'h = Js.hexD d := by
  match d, hd with
  | 0, _ => rfl
  | 1, _ => rfl
  | 2, _ => rfl
  | 3, _ => rfl
  | 4, _ => rfl
  | 5, _ => rfl
  | 6, _ => rfl
  | 7, _ => rfl
  | 8, _ => rfl
  | 9, _ => rfl
  | 10, _ => rfl
  | 11, _ => rfl
  | 12, _ => rfl
  | 13, _ => rfl
  | 14, _ => rfl
  | 15, _ => rfl
  | n + 16, h => omega
theorem byte_ne {c d : UInt8} (h : ¬ c = d) : ((c.toNat : Int) == (d.toNat : Int)) = false := by
  rw [beq_eq_false_iff_ne]
  intro e
  exact h (UInt8.toNat_inj.1 (by omega))
/-- What stands in the buffer behind k letters. -/
def QAt (s : Js.Bs) (k : Nat) (out : Js.Bs) : Prop := out = 34 :: (s.take k).flatMap Js.esc
theorem QAt.step {s : Js.Bs} {k : Nat} {out : Js.Bs} {c : UInt8} (h : QAt s k out) (hc : s[k]? = some c) {n : Js.Bs} (hn : Js.esc c = n) : QAt s (k + 1) (out ++ n) := by
  unfold QAt at h ⊢
  rw [h, List.take_add_one, hc, ← hn]
  simp
set_option maxRecDepth 100000 in
set_option maxHeartbeats 8000000 in
theorem refQuote_any (s : Js.Bs) (w : World) (hs : s.length ≤ 1073741824) :
    Calls Tryd.prog 23 #[.string (str s)] w fun e w' => e = .returned (.string (str (Js.quote s))) ∧ Below w.heap.size w w' := by
  have hz := str_size s
  have hQ0 : Hid (QAt s 0 [34]) := Lib.hid rfl
  go_enter Tryd.func23, Tryd.ntmps23
  go_wp2_with fail
  have hB0 : Buf w.heap.size (.slice (some ⟨w.heap.size, 0, none⟩) 1 1) [34] w (w.alloc (.cells #[.int .u8 34] 5)) := Buf.lit w [34] (by decide) rfl
  go_loopw [4, 5] (fun x i wr => ∃ (k : Nat) (out : Js.Bs), k ≤ s.length ∧ i = .int .i64 k ∧ out.length ≤ 6 * k + 1 ∧ Hid (QAt s k out) ∧ Buf w.heap.size x out w wr) (fun _ i _ => s.length - (intOf i).toNat)
  case atStart => exact ⟨0, [34], by omega, rfl, by simp, hQ0, hB0⟩
  case round =>
    obtain ⟨k, out, hk, rfl, hout, H, hB⟩ := hrel
    clear hB0
    by_cases hlt : k < s.length
    · obtain ⟨c, hc⟩ : ∃ c, s[k]? = some c := ⟨s[k], List.getElem?_eq_getElem hlt⟩
      have hkz : k < (str s).size := by omega
      have hg := str_get hc hkz
      have HC := Lib.hid hc
      clear hc
      by_cases h34 : c.toNat = 34 ∨ c.toNat = 92
      · have hcase : ((c.toNat : Int) == 34) = true ∨ (((c.toNat : Int) == 34) = false ∧ ((c.toNat : Int) == 92) = true) := by
          by_cases a : c.toNat = 34
          · exact .inl (by rw [a]; rfl)
          · refine .inr ⟨by rw [beq_eq_false_iff_ne]; omega, ?_⟩
            rw [h34.resolve_left a]; rfl
        have HS := Lib.hid (H.out.step HC.out (n := [92, c]) (by unfold Js.esc; rw [if_pos (by rcases h34 with h | h; exact .inl (UInt8.toNat_inj.1 h); exact .inr (UInt8.toNat_inj.1 h))]))
        clear h34
        rcases hcase with b1 | ⟨b1, b2⟩
        all_goals
          go_wp2_with (at_builtin; refine wpList_buf_append rfl _ _ rfl hB rfl [92, c] rfl rfl (by simp; omega) ?_; intro v' w' hB')
          go_roundw
          case rel => exact ⟨k + 1, _, by omega, by go_num, by simp; omega, HS, hB'⟩
          case measure => simp [intOf]; omega
      · have b34 : ((c.toNat : Int) == 34) = false := by rw [beq_eq_false_iff_ne]; omega
        have b92 : ((c.toNat : Int) == 92) = false := by rw [beq_eq_false_iff_ne]; omega
        have n34 : ¬ (c = 34 ∨ c = 92) := fun h => h34 (by rcases h with h | h; exact .inl (by rw [h]; rfl); exact .inr (by rw [h]; rfl))
        clear h34
        by_cases h10 : c = 10
        · have hv : ((c.toNat : Int) == 10) = true := by rw [h10]; rfl
          have HS := Lib.hid (H.out.step HC.out (n := [92, 110]) (by unfold Js.esc; rw [if_neg n34, if_pos h10]))
          clear n34 h10
          go_wp2_with (at_builtin; refine wpList_buf_append rfl _ _ rfl hB rfl [92, 110] rfl rfl (by simp; omega) ?_; intro v' w' hB')
          go_roundw
          case rel => exact ⟨k + 1, _, by omega, by go_num, by simp; omega, HS, hB'⟩
          case measure => simp [intOf]; omega
        have b10 : ((c.toNat : Int) == 10) = false := byte_ne (d := 10) h10
        by_cases h13 : c = 13
        · have hv : ((c.toNat : Int) == 13) = true := by rw [h13]; rfl
          have HS := Lib.hid (H.out.step HC.out (n := [92, 114]) (by unfold Js.esc; rw [if_neg n34, if_neg h10, if_pos h13]))
          clear n34 h13
          go_wp2_with (at_builtin; refine wpList_buf_append rfl _ _ rfl hB rfl [92, 114] rfl rfl (by simp; omega) ?_; intro v' w' hB')
          go_roundw
          case rel => exact ⟨k + 1, _, by omega, by go_num, by simp; omega, HS, hB'⟩
          case measure => simp [intOf]; omega
        have b13 : ((c.toNat : Int) == 13) = false := byte_ne (d := 13) h13
        by_cases h9 : c = 9
        · have hv : ((c.toNat : Int) == 9) = true := by rw [h9]; rfl
          have HS := Lib.hid (H.out.step HC.out (n := [92, 116]) (by unfold Js.esc; rw [if_neg n34, if_neg h10, if_neg h13, if_pos h9]))
          clear n34 h9
          go_wp2_with (at_builtin; refine wpList_buf_append rfl _ _ rfl hB rfl [92, 116] rfl rfl (by simp; omega) ?_; intro v' w' hB')
          go_roundw
          case rel => exact ⟨k + 1, _, by omega, by go_num, by simp; omega, HS, hB'⟩
          case measure => simp [intOf]; omega
        have b9 : ((c.toNat : Int) == 9) = false := byte_ne (d := 9) h9
        by_cases hp : 32 ≤ c.toNat ∧ c.toNat ≤ 126
        · have HS := Lib.hid (H.out.step HC.out (n := [c]) (by unfold Js.esc; rw [if_neg n34, if_neg h10, if_neg h13, if_neg h9, if_pos hp]))
          have p1 : decide ((32 : Int) ≤ (c.toNat : Int)) = true := by simp; omega
          have p2 : decide ((c.toNat : Int) ≤ 126) = true := by simp; omega
          clear hp n34 h10 h13 h9
          go_wp2_with (at_builtin; refine wpList_buf_append rfl _ _ rfl hB rfl [c] rfl rfl (by simp; omega) ?_; intro v' w' hB')
          go_roundw
          case rel => exact ⟨k + 1, _, by omega, by go_num, by simp; omega, HS, hB'⟩
          case measure => simp [intOf]; omega
        have HS := Lib.hid (H.out.step HC.out (n := [92, 117, 48, 48, Js.hexD (c.toNat / 16), Js.hexD (c.toNat % 16)]) (by unfold Js.esc; rw [if_neg n34, if_neg h10, if_neg h13, if_neg h9, if_neg hp]))
        have hcl : c.toNat < 256 := c.toNat_lt
        obtain ⟨d, hd⟩ : ∃ d, c.toNat / 16 = d := ⟨_, rfl⟩
        obtain ⟨f, hf⟩ : ∃ f, c.toNat % 16 = f := ⟨_, rfl⟩
        have hd16 : d < 16 := by omega
        have hf16 : f < 16 := by omega
        have hdi : (c.toNat : Int) / 16 = (d : Int) := by omega
        have hfi : (c.toNat : Int) % 16 = (f : Int) := by omega
        have hft : (c.toNat : Int).tmod 16 = (f : Int) := by rw [Int.tmod_eq_emod_of_nonneg (by omega)]; exact hfi
        have hw1 : IntKind.u8.wrap (d : Int) = (d : Int) := by unfold IntKind.wrap; simp [go_sem]; omega
        have hw2 : IntKind.u8.wrap (f : Int) = (f : Int) := by unfold IntKind.wrap; simp [go_sem]; omega
        have x1 := fun h => hex_idx hd16 h
        have x2 := fun h => hex_idx hf16 h
        rw [hd, hf] at HS
        clear hd hf
        have hcase : decide ((32 : Int) ≤ (c.toNat : Int)) = false ∨ (decide ((32 : Int) ≤ (c.toNat : Int)) = true ∧ decide ((c.toNat : Int) ≤ 126) = false) := by
          by_cases h32 : 32 ≤ c.toNat
          · exact .inr ⟨by simp; omega, by simp; omega⟩
          · exact .inl (by simp; omega)
        clear hp n34 h10 h13 h9
        rcases hcase with p1 | ⟨p1, p2⟩
        all_goals
          go_wp2_with fail
          refine wp_region_any (by kernel_rfl) ?_
          change wpAny _ _ _ _ _ _ _ (World.drew _)
          have HBD : Buf w.heap.size u4 out w wr.drew := hB.next (below_drewN (Below.refl _ _) 1)
          generalize wr.drew = W at HBD ⊢
          refine wpAny_of_till (S := fun _ => True) (st := fun l => l.getD 10 false) _ _ _ _ ?_
          change wpTill _ _ _ _ _ _ _ #[false, false, false, false, false, false, false, false, false, false, false, false] _ _
          refine wpTill_takeF (i := 0) (v := u4) rfl (by kernel_rfl) (by kernel_rfl) (by kernel_rfl) (fun l => getD_set_ne false (by decide)) (fun _ _ _ h => h) (Or.inl ⟨by rfl, ?yb0⟩) (fun _ => trivial) ?_
          case yb0 => (intro w _; go_simp; (try with_reducible rfl))
          simp only [Act.put, List.getElem_toArray, List.getElem_cons_zero, List.getElem_cons_succ, List.setIfInBounds_toArray, List.set_cons_zero, List.set_cons_succ]
          refine wpTill_takeF (i := 1) (v := .string ⟨#[48, 49, 50, 51, 52, 53, 54, 55, 56, 57, 97, 98, 99, 100, 101, 102]⟩) rfl (by kernel_rfl) (by kernel_rfl) (by kernel_rfl) (fun l => getD_set_ne false (by decide)) (fun _ _ _ h => h) (Or.inl ⟨by rfl, ?yb1⟩) (fun _ => trivial) ?_
          case yb1 => (intro w _; go_simp; (try with_reducible rfl))
          simp only [Act.put, List.getElem_toArray, List.getElem_cons_zero, List.getElem_cons_succ, List.setIfInBounds_toArray, List.set_cons_zero, List.set_cons_succ]
          refine wpTill_takeF (i := 2) (v := .int .u8 c.toNat) rfl (by kernel_rfl) (by kernel_rfl) (by kernel_rfl) (fun l => getD_set_ne false (by decide)) (fun _ _ _ h => h) (Or.inl ⟨by rfl, ?yb2⟩) (fun _ => trivial) ?_
          case yb2 => (intro w _; go_simp; (try with_reducible rfl))
          simp only [Act.put, List.getElem_toArray, List.getElem_cons_zero, List.getElem_cons_succ, List.setIfInBounds_toArray, List.set_cons_zero, List.set_cons_succ]
          refine wpTill_takeF (i := 3) (v := .int .u8 (d : Int)) rfl (by kernel_rfl) (by kernel_rfl) (by kernel_rfl) (fun l => getD_set_ne false (by decide)) (fun _ _ _ h => h) (Or.inl ⟨by rfl, ?yb3⟩) (fun _ => trivial) ?_
          case yb3 => (intro w _; go_simp; (try with_reducible rfl))
          simp only [Act.put, List.getElem_toArray, List.getElem_cons_zero, List.getElem_cons_succ, List.setIfInBounds_toArray, List.set_cons_zero, List.set_cons_succ]
          refine wpTill_takeF (i := 4) (v := .int .u8 (Js.hexD d).toNat) rfl (by kernel_rfl) (by kernel_rfl) (by kernel_rfl) (fun l => getD_set_ne false (by decide)) (fun _ _ _ h => h) (Or.inl ⟨by rfl, ?yb4⟩) (fun _ => trivial) ?_
          case yb4 => (intro w _; go_simp; (first | done | (intro h; omega) | with_reducible rfl))
          simp only [Act.put, List.getElem_toArray, List.getElem_cons_zero, List.getElem_cons_succ, List.setIfInBounds_toArray, List.set_cons_zero, List.set_cons_succ]
          refine wpTill_takeF (i := 5) (v := .string ⟨#[48, 49, 50, 51, 52, 53, 54, 55, 56, 57, 97, 98, 99, 100, 101, 102]⟩) rfl (by kernel_rfl) (by kernel_rfl) (by kernel_rfl) (fun l => getD_set_ne false (by decide)) (fun _ _ _ h => h) (Or.inl ⟨by rfl, ?yb5⟩) (fun _ => trivial) ?_
          case yb5 => (intro w _; go_simp; (try with_reducible rfl))
          simp only [Act.put, List.getElem_toArray, List.getElem_cons_zero, List.getElem_cons_succ, List.setIfInBounds_toArray, List.set_cons_zero, List.set_cons_succ]
          refine wpTill_takeF (i := 6) (v := .int .u8 c.toNat) rfl (by kernel_rfl) (by kernel_rfl) (by kernel_rfl) (fun l => getD_set_ne false (by decide)) (fun _ _ _ h => h) (Or.inl ⟨by rfl, ?yb6⟩) (fun _ => trivial) ?_
          case yb6 => (intro w _; go_simp; (try with_reducible rfl))
          simp only [Act.put, List.getElem_toArray, List.getElem_cons_zero, List.getElem_cons_succ, List.setIfInBounds_toArray, List.set_cons_zero, List.set_cons_succ]
          refine wpTill_takeF (i := 7) (v := .int .u8 (f : Int)) rfl (by kernel_rfl) (by kernel_rfl) (by kernel_rfl) (fun l => getD_set_ne false (by decide)) (fun _ _ _ h => h) (Or.inl ⟨by rfl, ?yb7⟩) (fun _ => trivial) ?_
          case yb7 => (intro w _; go_simp; (try with_reducible rfl))
          simp only [Act.put, List.getElem_toArray, List.getElem_cons_zero, List.getElem_cons_succ, List.setIfInBounds_toArray, List.set_cons_zero, List.set_cons_succ]
          refine wpTill_takeF (i := 8) (v := .int .u8 (Js.hexD f).toNat) rfl (by kernel_rfl) (by kernel_rfl) (by kernel_rfl) (fun l => getD_set_ne false (by decide)) (fun _ _ _ h => h) (Or.inl ⟨by rfl, ?yb8⟩) (fun _ => trivial) ?_
          case yb8 => (intro w _; go_simp; (first | done | (intro h; omega) | with_reducible rfl))
          simp only [Act.put, List.getElem_toArray, List.getElem_cons_zero, List.getElem_cons_succ, List.setIfInBounds_toArray, List.set_cons_zero, List.set_cons_succ]
          refine wpTill_ready (rs := [9]) (by kernel_rfl) (by simp) ?_
          refine (AllTill.cons rfl (fun KK hKK => ?_) AllTill.nil)
          rw [if_pos (by rfl)]
          go_simp
          refine hKK _ _ (fun _ => trivial) ?_
          clear hKK KK
          simp only [Act.put, List.getElem_toArray, List.getElem_cons_zero, List.getElem_cons_succ, List.setIfInBounds_toArray, List.set_cons_zero, List.set_cons_succ]
          refine wpTill_ready (rs := [10]) (by kernel_rfl) (by simp) ?_
          refine (AllTill.cons rfl (fun KK hKK => ?_) AllTill.nil)
          rw [if_pos (by rfl)]
          refine wp_buf_append _ _ rfl HBD rfl [92, 117, 48, 48, Js.hexD d, Js.hexD f] rfl rfl (by simp; omega) ?_
          intro v' w' hB'
          refine hKK _ _ (fun _ => trivial) ?_
          clear hKK KK
          simp only [Act.put, List.getElem_toArray, List.getElem_cons_zero, List.getElem_cons_succ, List.setIfInBounds_toArray, List.set_cons_zero, List.set_cons_succ]
          refine wpTill_ready (rs := [11]) (by kernel_rfl) (by simp) ?_
          refine (AllTill.cons rfl (fun KK hKK => ?_) AllTill.nil)
          rw [if_pos (by rfl)]
          go_simp
          refine hKK _ _ (fun _ => trivial) ?_
          clear hKK KK
          simp only [Act.put, List.getElem_toArray, List.getElem_cons_zero, List.getElem_cons_succ, List.setIfInBounds_toArray, List.set_cons_zero, List.set_cons_succ]
          refine wpTill_done (by kernel_rfl) ?_ _
          (try simp only [Exit.then])
          go_wp2_with fail
          go_roundw
          case rel => exact ⟨k + 1, _, by omega, by go_num, by simp; omega, HS, hB'⟩
          case measure => simp [intOf]; omega
    · obtain rfl : k = s.length := by omega
      have HE : Hid (Js.quote s = out ++ [34]) := Lib.hid (by
        have := H.out
        unfold QAt at this
        rw [List.take_length] at this
        rw [this]; rfl)
      go_wp2_with (at_builtin; refine wpList_buf_append rfl _ _ rfl hB rfl [34] rfl rfl (by simp; omega) ?_; intro v' w' hB'; have hcv := hB'.string)
      go_ret
      exact ⟨by rw [HE.out]; rfl, hB'.below⟩
end Go.Proofs.YtimioelnnhnbiaaDoor
