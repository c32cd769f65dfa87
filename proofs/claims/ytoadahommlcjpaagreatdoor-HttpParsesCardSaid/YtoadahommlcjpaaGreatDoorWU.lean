/-
  THE WALKS: bytes.Buffer; printed of package http. CONDITIONS: rows lie as said; lengths.
-/
import Derived.Test.YtoadahommlcjpaaGreatDoorWT
import Derived.Lib.OthersKept
namespace Go.Proofs.YtoadahommlcjpaaGreatDoor
open Go.RowKit
/-- A buffer of a call's own, in block b. -/
def IsF (B b : Nat) (l : Ht.Bs) (w : World) : Prop := Lib.IsBuffer 110 5 B b (Lib.byteCells l) w
theorem isF_new (w : World) : IsF w.heap.size w.heap.size [] (w.alloc (.cells #[.slice none 0 0, .int .i64 0, .int .i8 0] 110)) := Lib.fresh_isBuffer 110 5 w
theorem IsF.lt {B b : Nat} {l : Ht.Bs} {w : World} (h : IsF B b l w) : b < w.heap.size := Lib.IsBuffer.lt h
theorem IsF.le {B b : Nat} {l : Ht.Bs} {w : World} (h : IsF B b l w) : B ≤ w.heap.size := Nat.le_trans h.1 (Nat.le_of_lt h.lt)
theorem IsF.next {B b : Nat} {l : Ht.Bs} {w w' : World} (h : IsF B b l w) (hb : Below w.heap.size w w') : IsF B b l w' := by
  have hle := h.le
  obtain ⟨hB, v, lr, h1, h2, h3⟩ := h
  exact ⟨hB, v, lr, blk_next hb h1, ((⟨h2, hle⟩ : Own 5 1 B v _ _ w).next hb).own, h3⟩
theorem ones_bytes (l : Ht.Bs) : ∀ v ∈ Lib.byteCells l, v.oneCell' = true := by
  intro v hv
  obtain ⟨c, _, rfl⟩ := List.mem_map.1 hv
  rfl
theorem cells_len (l : Ht.Bs) : (Lib.byteCells l).length = l.length := by simp [Lib.byteCells]
theorem writeS_any (B b : Nat) (l m : Ht.Bs) (s : ByteArray) (hs : s.data.toList = m) (w : World) (h : IsF B b l w) (hlen : l.length + m.length ≤ 140737488355328) :
    Calls Tryz.prog 73 #[.pointer (some ⟨b, 0, none⟩), .string s] w fun e w' => (∃ v, e = .returned v) ∧ IsF B b (l ++ m) w' ∧ Below B w w' ∧ Lib.OthersKept 5 (some b) w w' := by
  refine (Tryz.Buffer_WriteString_k B b (Lib.byteCells l) s w h h.le (ones_bytes l) (by rw [cells_len, Lib.size_eq, hs]; exact hlen)).mono ?_
  rintro e w' ⟨rfl, h1, h2, h3⟩
  rw [hs, ← byteCells_app] at h1
  exact ⟨⟨_, rfl⟩, h1, h2, h3⟩
theorem write_some (B b : Nat) (l m : Ht.Bs) (g o c : Nat) (w : World) (h : IsF B b l w) (hg : g < B) (hc : ∀ i v, (Lib.byteCells m)[i]? = some v → w.cell? ⟨g, o + i, none⟩ = some v) (hlen : l.length + m.length ≤ 140737488355328) :
    Calls Tryz.prog 76 #[.pointer (some ⟨b, 0, none⟩), .slice (some ⟨g, o, none⟩) m.length c] w fun e w' => (∃ v, e = .returned v) ∧ IsF B b (l ++ m) w' ∧ Below B w w' := by
  refine (Tryz.Buffer_Write_k B b (Lib.byteCells l) (Lib.byteCells m) ⟨g, o, none⟩ m.length c w h h.le (ones_bytes l) (cells_len m) hg (fun j v hj => ?_) (ones_bytes m) (by rw [cells_len]; exact hlen)).mono ?_
  · have hadd : (⟨g, o, none⟩ : Addr).add j = ⟨g, o + j, none⟩ := by unfold Addr.add; split <;> simp_all
    rw [hadd]
    exact hc j v hj
  · rintro e w' ⟨rfl, h1, h2, h3⟩
    rw [← byteCells_app] at h1
    exact ⟨⟨_, rfl⟩, h1, h2⟩
/-- The buffer's row, its length and its room. -/
theorem IsF.shape {B b : Nat} {l : Ht.Bs} {w : World} (h : IsF B b l w) : ∃ ao cap lr, w.heap[b]? = some (.cells #[.slice ao l.length cap, .int .i64 0, .int .i8 lr] 110 (0, 0)) ∧ l.length ≤ cap ∧ cap ≤ 9223372036854775807 := by
  obtain ⟨hB, v, lr, h1, h2, h3⟩ := h
  have hl := h2.1
  rcases h2.2 with ⟨rfl, hn⟩ | ⟨g, cap, cur, rfl, hb, hg, hcap, hmax, rest⟩
  · rw [cells_len] at hn
    exact ⟨none, 0, lr, by rw [hn]; exact h1, by omega, by omega⟩
  · rw [cells_len] at h1 hcap
    exact ⟨_, cap, lr, h1, hcap, hmax⟩
theorem size5 : (Tryz.prog.info? 5).map (·.size) = some 1 := by kernel_rfl
set_option maxRecDepth 100000 in
set_option maxHeartbeats 4000000 in
theorem write_nil (B b : Nat) (l : Ht.Bs) (A : Option Addr) (c : Nat) (w : World) (h : IsF B b l w) :
    Calls Tryz.prog 76 #[.pointer (some ⟨b, 0, none⟩), .slice A 0 c] w fun e w' => (∃ v, e = .returned v) ∧ IsF B b l w' ∧ Below B w w' := by
  obtain ⟨ao, cap, lr, hbk, hlc, hcm⟩ := h.shape
  have c2 := blk_cells hbk 2
  have f2 := blk_free hbk 2
  simp only [List.getElem?_toArray, List.getElem?_cons_zero, List.getElem?_cons_succ] at c2
  have hce : ∀ (d : Option Addr) dLen dCap (W : World), (Builtin.copy_ #[22, 22] 3 #[.slice d dLen dCap, .slice A 0 c]).run Tryz.prog W = .ok (goInt 0) W := fun d dLen dCap W => run_copy_none W 22 22 3 5 d A dLen dCap 0 c Tryz.underlying22 size5 (by simp)
  obtain ⟨hk1, hb1⟩ := but_set (i := 2) (.int .i8 0) hbk
  have hs1 : (#[.slice ao l.length cap, .int .i64 0, .int .i8 lr] : Array Value).setIfInBounds 2 (.int .i8 0) = #[.slice ao l.length cap, .int .i64 0, .int .i8 0] := rfl
  rw [hs1] at hb1
  obtain ⟨hk2, hb2⟩ := but_set (i := 0) (.slice ao l.length cap) hb1
  have hs2 : (#[.slice ao l.length cap, .int .i64 0, .int .i8 0] : Array Value).setIfInBounds 0 (.slice ao l.length cap) = #[.slice ao l.length cap, .int .i64 0, .int .i8 0] := rfl
  rw [hs2] at hb2
  have HK := Lib.hid (hk1.trans hk2)
  have HB2 := Lib.hid hb2
  have HG := Lib.hid (Tryz.Buffer_tryGrow_room b ao l.length cap 0 (w.setCell ⟨b, 2, none⟩ (.int .i8 0)) (by rw [blk_cells hb1 0]; rfl) (blk_free hb1 0) hlc hcm (by omega))
  have HF : Hid (IsF B b l ((w.setCell ⟨b, 2, none⟩ (.int .i8 0)).setCell ⟨b, 0, none⟩ (.slice ao l.length cap))) := Lib.hid (by
    have hle := h.le
    obtain ⟨hB, v, lr', h1, h2, h3⟩ := h
    rw [hbk] at h1
    injection h1 with h1
    injection h1 with h1 _ _
    have hv : v = .slice ao l.length cap := by
      have := congrArg (fun a : Array Value => a[0]?) h1
      simpa using this.symm
    subst hv
    refine ⟨hB, _, 0, hb2, ?_, h3⟩
    refine ⟨h2.1, ?_⟩
    rcases h2.2 with hn | ⟨g, cap', cur, hv', hb, hg, rest⟩
    · exact .inl hn
    · refine .inr ⟨g, cap', cur, hv', hb, (hk1.trans hk2).blk hg (fun hm => ?_), rest⟩
      have hgb : g = b := by simpa using hm
      subst hgb
      exact h3 (by rw [hv']; rfl))
  have HBB : Hid (Below B w ((w.setCell ⟨b, 2, none⟩ (.int .i8 0)).setCell ⟨b, 0, none⟩ (.slice ao l.length cap))) := Lib.hid (HK.out.to h.le (by simpa using h.1))
  clear hs1 hs2 hb1 hb2 hk1 hk2 hbk h
  by_cases hq : cap = l.length
  · subst hq
    go_enter Tryz.func76, Tryz.ntmps76
    go_wp2_with fail
    refine HG.out.mono ?_
    rintro e w' ⟨rfl, rfl⟩
    rw [Nat.add_zero]
    have d0 := blk_cells HB2.out 0
    simp only [List.getElem?_toArray, List.getElem?_cons_zero] at d0
    go_wp2_with fail
    all_goals (go_ret2; exact ⟨⟨_, rfl⟩, HF.out, HBB.out⟩)
  · go_enter Tryz.func76, Tryz.ntmps76
    go_wp2_with fail
    refine HG.out.mono ?_
    rintro e w' ⟨rfl, rfl⟩
    rw [Nat.add_zero]
    have d0 := blk_cells HB2.out 0
    simp only [List.getElem?_toArray, List.getElem?_cons_zero] at d0
    go_wp2_with fail
    all_goals (go_ret2; exact ⟨⟨_, rfl⟩, HF.out, HBB.out⟩)
theorem writeB_any (B b : Nat) (l m : Ht.Bs) (A : Option Addr) (c : Nat) (w0 w : World) (h : IsF B b l w) (hA : CellsAt w0 A (Lib.byteCells m)) (hw : w0.heap.size ≤ B) (hb : Below B w0 w) (hlen : l.length + m.length ≤ 140737488355328) :
    Calls Tryz.prog 76 #[.pointer (some ⟨b, 0, none⟩), .slice A m.length c] w fun e w' => (∃ v, e = .returned v) ∧ IsF B b (l ++ m) w' ∧ Below B w w' := by
  by_cases h0 : m = []
  · subst h0
    rw [List.append_nil]
    exact write_nil B b l A c w h
  · obtain ⟨g, o, rfl, hg, hc⟩ := hA (fun e => h0 (List.map_eq_nil_iff.1 e))
    exact write_some B b l m g o c w h (by omega) (fun i v hi => (hb.cell (p := ⟨g, o + i, none⟩) (by show g < B; omega)).trans (hc i v hi)) hlen
/-- What printed hands back. -/
def PrintOut (w : World) (r : Ht.Bs × Int) (e : Ending) (w' : World) : Prop :=
  ∃ v, e = .returned (.tuple #[v, .int .i64 r.2]) ∧ Own 5 1 w.heap.size v r.1.length (Lib.byteCells r.1) w' ∧ Below w.heap.size w w'
theorem join3 (x y z : Ht.Bs) : Lib.join [x, y, z] [32] = x ++ 32 :: (y ++ 32 :: z) := by
  simp [Lib.join, List.intercalate, List.intersperse]
theorem flat_take (l : List Ht.Hd) (k : Nat) : ((l.take k).flatMap Ht.hdLine).length ≤ (l.flatMap Ht.hdLine).length := by
  conv => rhs; rw [← List.take_append_drop k l, List.flatMap_append, List.length_append]
  omega
theorem hd_next {w w' : World} {b bx : Nat} {x y : Value} (hk : Lib.OthersKept 5 (some b) w w') (h : w.heap[bx]? = some (.cells #[x, y] 65 (0, 0))) (hb : bx ≠ b) : w'.heap[bx]? = some (.cells #[x, y] 65 (0, 0)) :=
  hk bx _ h (fun e => hb (Option.some.inj e)) (fun c fz e => by injection e with _ e2; cases e2)
end Go.Proofs.YtoadahommlcjpaaGreatDoor
