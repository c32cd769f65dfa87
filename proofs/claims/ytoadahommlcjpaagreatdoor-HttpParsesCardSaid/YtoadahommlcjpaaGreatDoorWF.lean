/-
  THE WALKS, sixth part: field.
-/
import Derived.Test.YtoadahommlcjpaaGreatDoorWE
import Derived.Laws.ResultCell
namespace Go.Proofs.YtoadahommlcjpaaGreatDoor
open Go.RowKit
theorem results_row_tmp {fn : Func} {p u : Tmp} {ty : TypeId} (h : fn.results = #[.cell p ty, .tmp u]) (tmps : Array Value) (P : Program) (w : World) (g : Nat) (cs : Array Value)
    (hp : tmps.getD p undef = .pointer (some ⟨g, 0, none⟩)) (hl : (loadVar ty ⟨g, 0, none⟩).run P w = .ok (.agg cs) w) :
    (results fn tmps).run P w = .ok (.tuple #[.agg cs, tmps.getD u undef]) w := by
  rw [results_cell_tmp h, hp]
  simp [asAddr, Result.andThen, hl]
theorem token_q (l : Ht.Bs) (w : World) (hl : l.length < 4294967281) {q : Bool} (h : Ht.tokenB l = q) :
    Calls Tryz.prog 39 #[.string ⟨l.toArray⟩] w fun e w' => e = .returned (.bool q) ∧ w' = w := by
  have := token_any ⟨l.toArray⟩ w (by rw [Lib.size_eq]; show l.length ≤ _; omega)
  rwa [show (⟨l.toArray⟩ : ByteArray).data.toList = l from rfl, h] at this
theorem valued_q (l : Ht.Bs) (w : World) (hl : l.length < 4294967281) {q : Bool} (h : Ht.valuedB l = q) :
    Calls Tryz.prog 71 #[.string ⟨l.toArray⟩] w fun e w' => e = .returned (.bool q) ∧ w' = w := by
  have := valued_any ⟨l.toArray⟩ w (by rw [Lib.size_eq]; show l.length ≤ _; omega)
  rwa [show (⟨l.toArray⟩ : ByteArray).data.toList = l from rfl, h] at this
def bstr (l : Ht.Bs) : Value := .string ⟨l.toArray⟩
/-- Two stores into a header's block. -/
theorem hd_set {w : World} {b : Nat} {p q x y : Value} (h : w.heap[b]? = some (.cells #[p, q] 65 (0, 0))) :
    But [b] w ((w.setCell ⟨b, 0, none⟩ x).setCell ⟨b, 1, none⟩ y) ∧ ((w.setCell ⟨b, 0, none⟩ x).setCell ⟨b, 1, none⟩ y).heap[b]? = some (.cells #[x, y] 65 (0, 0)) := by
  obtain ⟨h1, h2⟩ := but_set (i := 0) x h
  obtain ⟨h3, h4⟩ := but_set (i := 1) y h2
  exact ⟨h1.trans h3, h4⟩
theorem hd_load {w : World} {b : Nat} {x y : Value} (h : w.heap[b]? = some (.cells #[x, y] 65 (0, 0))) : (loadVar 65 ⟨b, 0, none⟩).run Tryz.prog w = .ok (.agg #[x, y]) w :=
  run_loadVar_row w b 65 65 #[x, y] (0, 0) _ h Tryz.underlying65 rfl (by kernel_rfl)
set_option maxRecDepth 100000 in
set_option maxHeartbeats 4000000 in
theorem field_any (l : Ht.Bs) (w : World) (henv : Env w) (hlen : l.length < 4294967281) :
    Calls Tryz.prog 95 #[.string ⟨l.toArray⟩] w fun e w' => e = .returned (.tuple #[.agg #[.string ⟨(Ht.fieldOf l).1.name.toArray⟩, .string ⟨(Ht.fieldOf l).1.value.toArray⟩], .bool (Ht.fieldOf l).2]) ∧ Below w.heap.size w w' := by
  obtain ⟨x, hx⟩ : ∃ x, Ht.upto 58 l = x := ⟨_, rfl⟩
  obtain ⟨v, hv⟩ : ∃ v, Ht.trim x.2.1 = v := ⟨_, rfl⟩
  have hx1 : x.1.length < 4294967281 := by have := (upto_len 58 l).1; rw [hx] at this; omega
  have hx2 : x.2.1.length < 4294967281 := by have := (upto_len 58 l).2; rw [hx] at this; omega
  have hv2 : v.length < 4294967281 := by have := trim_len x.2.1; rw [hv] at this; omega
  obtain ⟨q1, hq1⟩ : ∃ q, Ht.tokenB x.1 = q := ⟨_, rfl⟩
  obtain ⟨q2, hq2⟩ : ∃ q, Ht.valuedB v = q := ⟨_, rfl⟩
  have H1 := Lib.hid (fun W (hE : Env W) sep hs => cut1_any l sep 58 W hE hlen hs)
  have H2 := Lib.hid (fun W sep hs => trim_any x.2.1 sep W hx2 hs)
  have H3 := Lib.hid (fun W => token_q x.1 W hx1 hq1)
  have H4 := Lib.hid (fun W => valued_q v W hv2 hq2)
  have HE : Hid (Ht.fieldOf l = (⟨x.1, v⟩, x.2.2 && q1 && q2)) := Lib.hid (by unfold Ht.fieldOf; rw [hx, hv, hq1, hq2])
  rw [hx] at H1
  rw [hv] at H2
  generalize Ht.fieldOf l = R at HE ⊢
  clear hx hv hx1 hx2 hv2 hlen hq1 hq2
  obtain ⟨x1, x2, x3⟩ := x
  obtain rfl := HE.out
  clear HE
  dsimp only at H1 H2 H3 H4 ⊢
  have HW0 := Lib.hid (below_box w (.cells #[.string ⟨#[]⟩, .string ⟨#[]⟩] 65))
  have HB0 : Hid ((w.alloc (.cells #[.string ⟨#[]⟩, .string ⟨#[]⟩] 65)).heap[w.heap.size]? = some (.cells #[.string ⟨#[]⟩, .string ⟨#[]⟩] 65 (0, 0))) := Lib.hid (heap_alloc_new w _)
  have HEnv := Lib.hid henv
  clear henv
  go_enter Tryz.func95, Tryz.ntmps95
  go_wp2_with fail
  generalize w.alloc (.cells #[.string ⟨#[]⟩, .string ⟨#[]⟩] 65) = wa at HW0 HB0 ⊢
  have HEa := Lib.hid (HEnv.out.next HW0.out)
  refine (H1.out _ HEa.out _ (by rfl)).mono ?_
  rintro e w' ⟨rfl, n, rfl⟩
  go_wp2_with fail
  refine (H2.out _ _ (by rfl)).mono ?_
  rintro e wb ⟨rfl, hbb⟩
  have HWb : Hid (Below w.heap.size w wb) := Lib.hid (by
    have h1 := below_drewN HW0.out n
    exact h1.trans (hbb.mono h1.size))
  have hlt : w.heap.size < wa.heap.size := by
    have h := HB0.out
    rcases Nat.lt_or_ge w.heap.size wa.heap.size with h1 | h1
    · exact h1
    · rw [Array.getElem?_eq_none h1] at h; cases h
  have HBb : Hid (wb.heap[w.heap.size]? = some (.cells #[.string ⟨#[]⟩, .string ⟨#[]⟩] 65 (0, 0))) := Lib.hid (by
    rw [hbb.block w.heap.size (by show w.heap.size < (wa.drewN n).heap.size; exact hlt)]
    exact HB0.out)
  clear hbb HB0 HW0 HEa hlt
  have c0 := blk_cells HBb.out 0
  have c1 := blk_cells HBb.out 1
  have f0 := blk_free HBb.out 0
  have f1 := blk_free HBb.out 1
  simp only [List.getElem?_toArray, List.getElem?_cons_zero, List.getElem?_cons_succ] at c0 c1
  have HS := Lib.hid (hd_set (x := .string ⟨x1.toArray⟩) (y := .string ⟨v.toArray⟩) HBb.out)
  have HT : Hid (Below w.heap.size w ((wb.setCell ⟨w.heap.size, 0, none⟩ (.string ⟨x1.toArray⟩)).setCell ⟨w.heap.size, 1, none⟩ (.string ⟨v.toArray⟩))) := Lib.hid (HWb.out.trans (HS.out.1.to HWb.out.size (by simp)))
  cases x3
  · go_wp2_with fail
    (try simp only [Exit.inBlock, Exit.then])
    refine bodyPost_ret (results_row_tmp rfl _ _ _ w.heap.size #[.string ⟨x1.toArray⟩, .string ⟨v.toArray⟩] rfl (hd_load HS.out.2)) rfl ?_
    exact ⟨retv (by simp), HT.out⟩
  · go_wp2_with fail
    refine (H3.out _).mono ?_
    rintro e w' ⟨rfl, rfl⟩
    cases q1
    · go_wp2_with fail
      (try simp only [Exit.inBlock, Exit.then])
      refine bodyPost_ret (results_row_tmp rfl _ _ _ w.heap.size #[.string ⟨x1.toArray⟩, .string ⟨v.toArray⟩] rfl (hd_load HS.out.2)) rfl ?_
      exact ⟨retv (by simp), HT.out⟩
    · go_wp2_with fail
      refine (H4.out _).mono ?_
      rintro e w' ⟨rfl, rfl⟩
      go_wp2_with fail
      (try simp only [Exit.inBlock, Exit.then])
      refine bodyPost_ret (results_row_tmp rfl _ _ _ w.heap.size #[.string ⟨x1.toArray⟩, .string ⟨v.toArray⟩] rfl (hd_load HS.out.2)) rfl ?_
      exact ⟨retv (by simp), HT.out⟩
end Go.Proofs.YtoadahommlcjpaaGreatDoor
