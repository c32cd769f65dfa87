/-
  PROVED: what the reference's Text makes. CONDITIONS: a token with no text is an end; the text made is at most 2^30 letters long.
-/
import Derived.Test.YtoppkhkdbkkldaaDoorBuf
import Derived.Test.YtoppkhkdbkkldaaDoorWalkE
import Derived.Lib.AppendStr
namespace Go.Proofs.YtoppkhkdbkkldaaDoor
open Go.RowKit
theorem wpList_buf_text {ops : Array Oper} {rest : List Oper} {o : Oper} {a : Act} {Q : Exit → Act → World → Prop} (hgd : o.guard = none) (s x : Operand)
    (ho : o.op = .call { callee := .builtin .append, args := #[s, x], argTypes := #[61, 9] }) {B : Nat} {v : Value} {out : List UInt8} {W0 w : World} (hb : Buf B v out W0 w)
    (hs : a.eval s = v) (t : List UInt8) (hx : a.eval x = .string ⟨t.toArray⟩) (hlen : out.length + t.length ≤ 1099511627776)
    (h : ∀ v' w', Buf B v' (out ++ t) W0 w' → wpList Tryd.prog ops Q rest (a.put o.dst v') w') : wpList Tryd.prog ops Q (o :: rest) a w := by
  obtain ⟨i0, hi, hz0, hz1, hz2⟩ := info_parts byte_info
  have hsz : (⟨t.toArray⟩ : ByteArray).size = t.length := rfl
  refine Lib.wpList_append_own_string w hgd s x 61 9 ho B 5 i0 Tryd.underlying61 Tryd.underlying9 hi hz0 hz1 hz2 v out.length (Lib.byteCells out) hs hb.own ⟨t.toArray⟩ hx (by rw [hsz]; unfold maxLen; omega) (by rw [hsz]; omega) hb.le ?_
  intro v' w' h1 h2 _
  refine h v' w' ⟨?_, hb.below.grown h2 hb.le (fun k hk => (hb.own.lt k hk).1), Nat.le_trans hb.le h2.size⟩
  rw [List.length_append, byteCells_app]
  exact h1
theorem wpList_buf_append2 {ops : Array Oper} {rest : List Oper} {o : Oper} {a : Act} {Q : Exit → Act → World → Prop} (hgd : o.guard = none) (s x : Operand)
    (ho : o.op = .call { callee := .builtin .append, args := #[s, x], argTypes := #[61, 61] }) {B : Nat} {v : Value} {out : List UInt8} {W0 w : World} (hb : Buf B v out W0 w)
    (hs : a.eval s = v) (news : List UInt8) {C : Array Value} (hC : C = (Lib.byteCells news).toArray) (hx : a.eval x = .slice (some ⟨w.heap.size, 0, none⟩) news.length news.length) (hlen : out.length + news.length ≤ 1099511627776)
    (h : ∀ v' w', Buf B v' (out ++ news) W0 w' → (∀ b, b < w.heap.size → v.ownBlock ≠ some b → w'.heap[b]? = w.heap[b]?) → wpList Tryd.prog ops Q rest (a.put o.dst v') w') : wpList Tryd.prog ops Q (o :: rest) a (w.alloc (.cells C 5)) := by
  subst hC
  obtain ⟨i0, hi, hz0, hz1, hz2⟩ := info_parts byte_info
  have hb' := hb.alloc (.cells (Lib.byteCells news).toArray 5)
  refine wpList_append_own _ hgd s x 61 ho B 5 i0 (.int .u8 0) 1 1 Tryd.underlying61 hi hz0 hz1 hz2 rfl (by decide) v out.length (Lib.byteCells out) hs hb'.own ⟨w.heap.size, 0, none⟩ news.length news.length (Lib.byteCells news) hx (by rw [byteCells_len, Nat.mul_one]) ?_ (byteCells_one _) (by unfold maxLen; omega) (by omega) hb'.le ?_
  · intro j u hj
    have hadd : (⟨w.heap.size, 0, none⟩ : Addr).add j = ⟨w.heap.size, j, none⟩ := by unfold Addr.add; split <;> simp_all
    rw [hadd, blk_cells (heap_alloc_new w _) j, List.getElem?_toArray, hj]
  · intro v' w' h1 h2 _
    refine h v' w' ⟨by rw [List.length_append, byteCells_app]; exact h1, hb'.below.grown h2 hb'.le (fun k hk => (hb'.own.lt k hk).1), Nat.le_trans hb'.le h2.size⟩ ?_
    intro b hbl hne
    rw [h2.block b (by simp; omega) (fun e => hne e.symm)]
    exact Below.heap_alloc _ _ _ hbl
def gapOf (fresh : Bool) : List UInt8 := if fresh then [] else [32]
set_option maxRecDepth 100000 in
set_option maxHeartbeats 4000000 in
theorem refText_any (l : List Lx.Tok) (A : Option Addr) (cap : Nat) (w : World) (hl : l.length ≤ 1048576) (h5 : ∀ t ∈ l, t.text = [] → t.kind = 5) (hpl : (Lx.printText l).length ≤ 1073741824) (hh : HasToks w A l) :
    Calls Tryd.prog 20 #[.slice A l.length cap] w fun e w' => e = .returned (.string ⟨(Lx.printText l).toArray⟩) ∧ Below w.heap.size w w' := by
  go_enter Tryd.func20, Tryd.ntmps20
  go_wp2_with fail
  go_loopw [3, 4, 9] (fun x fr i wr => ∃ (k : Nat) (out : List UInt8) (fresh : Bool), k ≤ l.length ∧ i = .int .i64 k ∧ fr = .bool fresh ∧ Hid (printAt l k = (out, gapOf fresh)) ∧ Buf w.heap.size x out w wr) (fun _ _ i _ => l.length - (intOf i).toNat)
  case atStart => exact ⟨0, [], true, Nat.zero_le _, rfl, rfl, rfl, Buf.empty⟩
  case round =>
    obtain ⟨k, out, fresh, hk, rfl, rfl, H, hB⟩ := hrel
    have hout : out.length ≤ 1073741824 := by
      have := printAt_le l k
      rw [show printAt l k = (out, gapOf fresh) from H.out] at this
      exact Nat.le_trans this hpl
    by_cases hlt : k < l.length
    · obtain ⟨t, ht⟩ : ∃ t, l[k]? = some t := ⟨_, List.getElem?_eq_getElem hlt⟩
      obtain ⟨g, rfl, hg, c1, c2, c3⟩ := hh.at_ hB.below ht
      have hk5 := h5 t (List.mem_of_getElem? ht)
      have hS := printAt_succ ht
      rw [show printAt l k = (out, gapOf fresh) from H.out] at hS
      have hnext : (printAt l (k + 1)).1.length ≤ 1073741824 := Nat.le_trans (printAt_le l (k + 1)) hpl
      rw [hS] at hnext
      have HS := Lib.hid hS
      have hz := hB.le
      have hne : ∀ b, b = wr.heap.size → u3.ownBlock ≠ some b := fun b hb hx => by have := (hB.own.lt b hx).2; omega
      have hB2 := hB.alloc (.cells #[.int .i64 t.kind, .string ⟨t.text.toArray⟩, .int .i64 t.place] 32)
      have hbx := heap_alloc_new wr (.cells #[.int .i64 t.kind, .string ⟨t.text.toArray⟩, .int .i64 t.place] 32)
      clear ht hS
      go_upto_region 6 with (fail)
      generalize wr.alloc (.cells #[.int .i64 t.kind, .string ⟨t.text.toArray⟩, .int .i64 t.place] 32) = w2 at hB2 hbx ⊢
      have x0 := (blk_cells hbx 0).trans rfl
      have x1 := (blk_cells hbx 1).trans rfl
      generalize wr.heap.size = bx at hbx hz x0 x1 hne ⊢
      have hbxlt : bx < w2.heap.size := (Array.getElem?_eq_some_iff.1 hbx).1
      clear c1 c2 c3 hB H
      by_cases h0 : t.text = []
      · have hk := hk5 h0
        have b5 : (t.kind == 5) = true := by rw [hk]; rfl
        have e1 : (⟨t.text.toArray⟩ : ByteArray).toList = [] := by rw [Lib.toList_data]; exact h0
        have HN : Hid (printAt l (k + 1) = (out ++ [10], gapOf true)) := Lib.hid (by rw [HS.out]; unfold Lx.printStep; rw [h0]; rfl)
        have hi : t.text.isEmpty = true := by rw [h0]; rfl
        clear h0 hk hk5 hnext
        have hl10 : out.length + ([10] : List UInt8).length ≤ 1099511627776 := by simp; omega
        go_wp2_with (at_builtin; refine wpList_buf_append rfl _ _ rfl hB2 rfl [10] rfl rfl hl10 ?_; intro v' w' hB')
        go_roundw
        case rel => exact ⟨k + 1, _, true, by omega, by go_num, rfl, HN, hB'⟩
        case measure => simp [intOf]; omega
      · have e1 : (⟨t.text.toArray⟩ : ByteArray).toList.isEmpty = false := by rw [Lib.toList_data]; simpa using h0
        have e2 : ¬ (⟨t.text.toArray⟩ : ByteArray).toList = [] := by rw [Lib.toList_data]; exact h0
        have e3 : ((⟨t.text.toArray⟩ : ByteArray).toList == []) = false := by rw [Lib.toList_data]; simpa using h0
        have hi : t.text.isEmpty = false := by simpa using h0
        have hst : Lx.printStep (out, gapOf fresh) t = (out ++ (gapOf fresh ++ t.text), gapOf false) := by
          unfold Lx.printStep; rw [hi]; rfl
        rw [hst] at hnext
        have HN := Lib.hid (HS.out.trans hst)
        clear hst h0 hk5
        have hlen : out.length + t.text.length ≤ 1073741824 := by simp at hnext; omega
        clear hnext
        cases fresh with
        | true =>
          have HN' : Hid (printAt l (k + 1) = (out ++ t.text, gapOf false)) := HN
          have hl3 : out.length + t.text.length ≤ 1099511627776 := by omega
          cases h5' : (t.kind == 5)
          all_goals
            go_wp2_with (at_builtin; refine wpList_buf_text rfl _ _ rfl hB2 rfl t.text rfl hl3 ?_; intro v' w' hB')
            go_roundw
            case rel => exact ⟨k + 1, _, false, by omega, by go_num, rfl, HN', hB'⟩
            case measure => simp [intOf]; omega
        | false =>
          have HN' : Hid (printAt l (k + 1) = ((out ++ [32]) ++ t.text, gapOf false)) := by
            have := HN.out
            rw [List.append_assoc]
            exact Lib.hid this
          cases h5' : (t.kind == 5)
          all_goals
            have hl32 : out.length + ([32] : List UInt8).length ≤ 1099511627776 := by simp; omega
            have hl33 : (out ++ [32]).length + t.text.length ≤ 1099511627776 := by simp; omega
            go_wp2_with (first | (at_builtin; refine wpList_buf_append2 rfl _ _ rfl hB2 rfl [32] rfl rfl hl32 ?_; intro v2 w3 hB3 hfar; have hbx3 := (hfar bx hbxlt (hne bx rfl)).trans hbx; have x1' := (blk_cells hbx3 1).trans rfl; clear hfar hbx3) | (at_builtin; refine wpList_buf_text rfl _ _ rfl hB3 rfl t.text rfl hl33 ?_; intro v' w' hB'))
            go_roundw
            case rel => exact ⟨k + 1, _, false, by omega, by go_num, rfl, HN', hB'⟩
            case measure => simp [intOf]; omega
    · obtain rfl : k = l.length := by omega
      have hE : out = Lx.printText l := by
        have := printAt_all l
        rw [show printAt l l.length = (out, gapOf fresh) from H.out] at this
        exact this
      have hcv := hB.string
      clear H
      go_wp2_with fail
      go_ret
      exact ⟨rfl, hB.below⟩
end Go.Proofs.YtoppkhkdbkkldaaDoor
