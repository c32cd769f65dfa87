/-
  PROVED: few of the laws of chapter 10: at most 1025 tokens, each text cut to 4099 letters, in a row of the call's own with one more token behind them. CONDITION: the rows are of Go's sizes.
-/
import Derived.Test.YtoppkhkdbkkldaaDoorWalkH
import Derived.StillTailTactics
namespace Go.Proofs.YtoppkhkdbkkldaaDoor
open Go.RowKit
/-! ### few: at most so many tokens, cut, in a row of the call's own -/
theorem run_make_rowN {P : Program} (t e : TypeId) (i : TypeInfo) (z : Value) (ht : P.underlying t = some (.slice e)) (hi : P.info? e = some i) (hz : i.zero = some z)
    (kl kc : IntKind) (n c : Nat) (hnc : n ≤ c) (hbytes : i.bytes * c ≤ 281474976710656) (h63 : c ≤ 9223372036854775807) (w : World) :
    (Instr.makeSlice t (.int kl (n : Int)) (.int kc (c : Int))).run P w = .ok (.slice (some ⟨w.heap.size, 0, none⟩) n c) (w.alloc (.cells (madeCells z.cells (c * i.size)) e)) := by
  have hb : (i.bytes : Int) * (c : Int) ≤ 281474976710656 := by
    have h : ((i.bytes * c : Nat) : Int) ≤ 281474976710656 := by omega
    rwa [Int.natCast_mul] at h
  have hr := run_make (P := P) w t e i z ht hi hz kl kc n c (by omega) (by omega) hb (by omega)
  simp only [Int.toNat_natCast] at hr
  exact hr

def zeroTok : Lx.Tok := ⟨0, [], 0⟩
def cutTok (t : Lx.Tok) : Lx.Tok := ⟨t.kind, t.text.take 4099, t.place⟩
def fewOf (l : List Lx.Tok) : List Lx.Tok := (l.take 1025).map cutTok
/-- The row when k tokens are laid. -/
def rowAt (l : List Lx.Tok) (n k : Nat) : List Lx.Tok := (l.take k).map cutTok ++ List.replicate (n - k) zeroTok
theorem rowAt_length {l : List Lx.Tok} {n k : Nat} (hk : k ≤ n) (hn : n ≤ l.length) : (rowAt l n k).length = n := by
  unfold rowAt; rw [List.length_append, List.length_map, List.length_take, List.length_replicate]; omega
theorem rowAt_succ {l : List Lx.Tok} {n k : Nat} {t : Lx.Tok} (hk : k < n) (ht : l[k]? = some t) : rowAt l n (k + 1) = (rowAt l n k).set k (cutTok t) := by
  obtain ⟨hkl, rfl⟩ := List.getElem?_eq_some_iff.1 ht
  unfold rowAt
  rw [show n - k = (n - (k + 1)) + 1 by omega, List.replicate_succ, List.take_succ_eq_append_getElem hkl, List.map_append, List.set_append_right _ _ (by rw [List.length_map, List.length_take]; omega)]
  rw [show k - ((l.take k).map cutTok).length = 0 by rw [List.length_map, List.length_take]; omega]
  simp
theorem rowAt_all {l : List Lx.Tok} {n : Nat} (hn : n = min l.length 1025) : rowAt l n n = fewOf l := by
  unfold rowAt fewOf
  rw [Nat.sub_self, List.replicate_zero, List.append_nil]
  congr 1
  rw [hn]
  by_cases h : l.length ≤ 1025
  · rw [Nat.min_eq_left h, List.take_length, List.take_of_length_le h]
  · rw [Nat.min_eq_right (by omega)]
theorem toksCells_set (l : List Lx.Tok) (t : Lx.Tok) : ∀ k, k < l.length → (((toksCells l).set (k * 3) (.int .i64 t.kind)).set (k * 3 + 1) (.string ⟨t.text.toArray⟩)).set (k * 3 + 2) (.int .i64 t.place) = toksCells (l.set k t) := by
  induction l with
  | nil => intro k h; simp at h
  | cons a l ih =>
    intro k h
    cases k with
    | zero => rfl
    | succ k =>
      have e := ih k (by simpa using h)
      rw [List.set_cons_succ, toksCells_cons, toksCells_cons, ← e, show (k + 1) * 3 = k * 3 + 1 + 1 + 1 by omega, show k * 3 + 1 + 1 + 1 + 1 = (k * 3 + 1) + 1 + 1 + 1 by omega, show k * 3 + 1 + 1 + 1 + 2 = (k * 3 + 2) + 1 + 1 + 1 by omega]
      simp only [List.set_cons_succ]
theorem toksCells_text (l : List Lx.Tok) (t : Lx.Tok) (u : List UInt8) : ∀ k, (toksCells (l.set k t)).set (k * 3 + 1) (.string ⟨u.toArray⟩) = toksCells (l.set k ⟨t.kind, u, t.place⟩) := by
  induction l with
  | nil => intro k; simp [toksCells]
  | cons a l ih =>
    intro k
    cases k with
    | zero => rfl
    | succ k =>
      have e := ih k
      rw [List.set_cons_succ, List.set_cons_succ, toksCells_cons, toksCells_cons, ← e, show (k + 1) * 3 + 1 = (k * 3 + 1) + 1 + 1 + 1 by omega]
      simp only [List.set_cons_succ]
theorem made_toks (n cap : Nat) (h : n ≤ cap) : (madeCells #[.int .i64 0, .string ⟨#[]⟩, .int .i64 0] (cap * 3)).toList.take (n * 3) = toksCells (List.replicate n zeroTok) := by
  apply List.ext_getElem?
  intro j
  by_cases hj : j < n * 3
  · have hi : (List.replicate n zeroTok)[j / 3]? = some zeroTok := by rw [List.getElem?_replicate, if_pos (by omega)]
    obtain ⟨h0, h1, h2⟩ := toksCells_get _ _ _ hi
    rw [List.getElem?_take, if_pos hj]
    have hm : (madeCells #[.int .i64 0, .string ⟨#[]⟩, .int .i64 0] (cap * 3)).toList[j]? = some ((#[Value.int .i64 0, .string ⟨#[]⟩, .int .i64 0] : Array Value)[j % 3]!) := by
      have hc : (#[Value.int .i64 0, .string ⟨#[]⟩, .int .i64 0] : Array Value).size = 3 := rfl
      have hj' : j < cap * 3 := by omega
      unfold madeCells
      simp [hj']
    rw [hm]
    have h3 : j % 3 = 0 ∨ j % 3 = 1 ∨ j % 3 = 2 := by omega
    rcases h3 with h3 | h3 | h3
    · rw [show j / 3 * 3 = j by omega] at h0; rw [h0, h3]; rfl
    · rw [show j / 3 * 3 + 1 = j by omega] at h1; rw [h1, h3]; rfl
    · rw [show j / 3 * 3 + 2 = j by omega] at h2; rw [h2, h3]; rfl
  · rw [List.getElem?_take, if_neg hj, List.getElem?_eq_none (by rw [toksCells_length, List.length_replicate]; omega)]

/-- The argument's cells. -/
def ArgToks (w : World) (A : Option Addr) (l : List Lx.Tok) : Prop :=
  l ≠ [] → ∃ b off, A = some ⟨b, off, none⟩ ∧ b < w.heap.size ∧ ∀ i t, l[i]? = some t → w.cell? ⟨b, off + i * 3, none⟩ = some (.int .i64 t.kind) ∧ w.cell? ⟨b, off + i * 3 + 1, none⟩ = some (.string ⟨t.text.toArray⟩) ∧ w.cell? ⟨b, off + i * 3 + 2, none⟩ = some (.int .i64 t.place)
theorem ArgToks.at_ {w wr : World} {A : Option Addr} {l : List Lx.Tok} (h : ArgToks w A l) (hb : Below w.heap.size w wr) {k : Nat} {t : Lx.Tok} (ht : l[k]? = some t) :
    ∃ b off, A = some ⟨b, off, none⟩ ∧ b < w.heap.size ∧ wr.cell? ⟨b, off + k * 3, none⟩ = some (.int .i64 t.kind) ∧ wr.cell? ⟨b, off + k * 3 + 1, none⟩ = some (.string ⟨t.text.toArray⟩) ∧ wr.cell? ⟨b, off + k * 3 + 2, none⟩ = some (.int .i64 t.place) := by
  obtain ⟨b, off, hA, hg, hc⟩ := h (by intro e; subst e; simp at ht)
  obtain ⟨h1, h2, h3⟩ := hc k t ht
  exact ⟨b, off, hA, hg, (hb.cell (p := ⟨b, off + k * 3, none⟩) hg).trans h1, (hb.cell (p := ⟨b, off + k * 3 + 1, none⟩) hg).trans h2, (hb.cell (p := ⟨b, off + k * 3 + 2, none⟩) hg).trans h3⟩

set_option maxRecDepth 100000 in
set_option maxHeartbeats 2000000 in
theorem few_any (l : List Lx.Tok) (A : Option Addr) (c : Nat) (w : World) (hl : l.length ≤ 9223372036854775807) (hs : ∀ t ∈ l, t.text.length ≤ 9223372036854775807) (hA : ArgToks w A l) :
    Calls Tryd.prog 14 #[.slice A l.length c] w fun e w' => ∃ g n, n = (fewOf l).length ∧ e = .returned (.slice (some ⟨g, 0, none⟩) n (n + 2)) ∧ w'.ownsRow w.heap.size 32 3 (.slice (some ⟨g, 0, none⟩) (n + 1) (n + 2)) (n + 1) (toksCells (fewOf l ++ [⟨77, [], 0⟩])) ∧ Below w.heap.size w w' := by
  obtain ⟨i0, hi, hz0, hz1, hz2⟩ := info_parts tok_info
  obtain ⟨n, hn⟩ : ∃ n, n = min l.length 1025 := ⟨_, rfl⟩
  have hmin : min (l.length : Int) 1025 = (n : Int) := by omega
  have hmk := fun W => run_make_rowN (P := Tryd.prog) 24 32 i0 _ Tryd.underlying24 hi hz0 .i64 .i64 n (n + 2) (by omega) (by rw [hz2]; omega) (by omega) W
  rw [hz1] at hmk
  have e2 : ((n + 2 : Nat) : Int) = (n : Int) + 2 := by omega
  rw [e2] at hmk
  clear e2
  have hn9 : n ≤ 1025 := by omega
  have hnl : n ≤ l.length := by omega
  replace hn := Lib.hid hn
  go_enter Tryd.func14, Tryd.ntmps14
  go_wp2_with fail
  go_loopw [5, 15] (fun x i wr => ∃ k : Nat, k ≤ n ∧ i = .int .i64 k ∧ wr.ownsRow w.heap.size 32 3 (.slice (some ⟨w.heap.size, 0, none⟩) n (n + 2)) n (toksCells (rowAt l n k)) ∧ Below w.heap.size w wr) (fun _ i _ => n - (intOf i).toNat)
  case atStart =>
    refine ⟨0, Nat.zero_le _, rfl, ?_, below_box _ _⟩
    have e := made_toks n (n + 2) (by omega)
    refine ⟨by rw [toksCells_length, rowAt_length (Nat.zero_le _) hnl], .inr ⟨w.heap.size, n + 2, _, rfl, Nat.le_refl _, heap_alloc_new _ _, by omega, by simp [maxLen]; omega, size_madeCells _ _, ?_⟩⟩
    rw [show rowAt l n 0 = List.replicate n zeroTok by simp [rowAt]]
    exact e
  case round =>
    obtain ⟨k, hk, rfl, hR, hb⟩ := hrel
    by_cases hlt : k < n
    · obtain ⟨t, ht⟩ : ∃ t, l[k]? = some t := ⟨_, List.getElem?_eq_getElem (by omega)⟩
      obtain ⟨b, off, hA', hg, c1, c2, c3⟩ := hA.at_ hb ht
      subst hA'
      clear hA
      have hlen : (toksCells (rowAt l n k)).length = n * 3 := by rw [toksCells_length, rowAt_length hk hnl]
      have hx : ∀ j, j < n * 3 → ∃ v, wr.cell? ⟨w.heap.size, j, none⟩ = some v := fun j hj => ⟨_, (hR.cellAt j hj).trans (List.getElem?_eq_getElem (by omega))⟩
      obtain ⟨v0, d0⟩ := hx (k * 3) (by omega)
      obtain ⟨v1, d1⟩ := hx (k * 3 + 1) (by omega)
      obtain ⟨v2, d2⟩ := hx (k * 3 + 2) (by omega)
      have g0 := hR.frozenAt (k * 3)
      have g1 := hR.frozenAt (k * 3 + 1)
      have g2 := hR.frozenAt (k * 3 + 2)
      clear hx
      have H := Lib.hid hR
      have HB := Lib.hid hb
      clear hR hb
      obtain ⟨m, hm⟩ : ∃ m, m = min t.text.length 4099 := ⟨_, rfl⟩
      have hmin2 : min (t.text.length : Int) 4099 = (m : Int) := by omega
      have hm2 : m ≤ t.text.length := by omega
      replace hm := Lib.hid hm
      have hts : t.text.length ≤ 9223372036854775807 := hs t (List.mem_of_getElem? ht)
      go_upto_region 7 with (fail)
      have hW := ((H.out.stored (k * 3) (.int .i64 t.kind)).1.stored (k * 3 + 1) (.string ⟨t.text.toArray⟩)).1.stored (k * 3 + 2) (.int .i64 t.place)
      have hW1 := hW.1
      rw [toksCells_set _ _ _ (by rw [rowAt_length hk hnl]; exact hlt)] at hW1
      have hb3 := ((HB.out.setCell (p := ⟨w.heap.size, k * 3, none⟩) (Nat.le_refl _) (.int .i64 t.kind)).setCell (p := ⟨w.heap.size, k * 3 + 1, none⟩) (Nat.le_refl _) (.string ⟨t.text.toArray⟩)).setCell (p := ⟨w.heap.size, k * 3 + 2, none⟩) (Nat.le_refl _) (.int .i64 t.place)
      clear hW
      generalize ((wr.setCell ⟨w.heap.size, k * 3, none⟩ (.int .i64 t.kind)).setCell ⟨w.heap.size, k * 3 + 1, none⟩ (.string ⟨t.text.toArray⟩)).setCell ⟨w.heap.size, k * 3 + 2, none⟩ (.int .i64 t.place) = w3 at hW1 hb3 ⊢
      have hrl : ((rowAt l n k).set k t)[k]? = some t := by rw [List.getElem?_set_self (by rw [rowAt_length hk hnl]; exact hlt)]
      have x1 : w3.cell? ⟨w.heap.size, k * 3 + 1, none⟩ = some (.string ⟨t.text.toArray⟩) := (hW1.cellAt _ (by omega)).trans (toksCells_get _ _ _ hrl).2.1
      have y1 := hW1.frozenAt (k * 3 + 1)
      have hS := hW1.stored (k * 3 + 1) (.string ⟨(t.text.take m).toArray⟩)
      have hS1 := hS.1
      rw [toksCells_text] at hS1
      have hcut : Hid (cutTok t = ⟨t.kind, t.text.take m, t.place⟩) := by
        have := hm.out
        unfold cutTok Hid
        rw [this]
        congr 1
        by_cases h : t.text.length ≤ 4099
        · rw [Nat.min_eq_left h, List.take_length, List.take_of_length_le h]
        · rw [Nat.min_eq_right (by omega)]
      have HS := Lib.hid hS1
      have HB3 := Lib.hid hb3
      clear hS hS1 hb3 hW1 H HB
      go_still_tail 17, (by kernel_rfl)
      go_wp2_with fail
      have ex : (⟨t.text.toArray⟩ : ByteArray).extract 0 m = ⟨(t.text.take m).toArray⟩ := by rw [Lib.extract_eq]; simp
      rw [ex]
      refine ⟨⟨k + 1, by omega, by go_num, ?_, (HB3.out.setCell (p := ⟨w.heap.size, k * 3 + 1, none⟩) (Nat.le_refl _) _).drew⟩, ?_⟩
      · rw [rowAt_succ hlt ht, hcut.out]
        exact HS.out.drew
      · simp [intOf]; omega
    · obtain rfl : k = n := by omega
      have H := Lib.hid hR
      have HB := Lib.hid hb
      have hsz := hb.size
      clear hR hb
      go_wp2_with (at_builtin; refine wpList_append_fits _ rfl (.tmp 43) (.tmp 45) 24 rfl w.heap.size 32 i0 3 Tryd.underlying24 hi hz1 w.heap.size k (k + 2) _ rfl (H.out.alloc _) ⟨wr.heap.size, 0, none⟩ 1 1 [.int .i64 77, .string ⟨#[]⟩, .int .i64 0] rfl rfl (three_new _ _ _ _ _) (by intro u hu; simp at hu; rcases hu with rfl | rfl | rfl <;> rfl) (by omega) ?_; intro w4 hown4 hgrow4)
      have hlast : toksCells (rowAt l k k) ++ [Value.int .i64 77, .string ⟨#[]⟩, .int .i64 0] = toksCells (fewOf l ++ [⟨77, [], 0⟩]) := by
        rw [rowAt_all hn.out, toksCells_snoc]
      have hown5 := Lib.hid hown4
      have hg5 := Lib.hid hgrow4
      clear hown4 hgrow4
      try go_wp2_with fail
      go_ret
      refine ⟨w.heap.size, k, ?_, rfl, ?_, ?_⟩
      · rw [hn.out]; simp [fewOf, Nat.min_comm]
      · rw [← hlast]; exact hown5.out
      · exact (HB.out.alloc hsz _).grown hg5.out (by simp; omega) (fun j hj => by simp at hj; omega)

end Go.Proofs.YtoppkhkdbkkldaaDoor
