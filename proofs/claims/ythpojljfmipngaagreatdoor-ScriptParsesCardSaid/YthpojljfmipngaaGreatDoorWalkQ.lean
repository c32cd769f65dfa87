/-
  THE WALKS, seventeenth part: rows that stand by their type; event of script's reader. CONDITIONS: Env; the reader lies in a block of its own; lengths as it says.
-/
import Derived.Test.YthpojljfmipngaaGreatDoorWalkM
import Derived.Test.YthpojljfmipngaaGreatDoorWalkN
import Derived.Lib.ConvBytes
import Derived.Test.YthpojljfmipngaaGreatDoorBackB
namespace Go.Proofs.YthpojljfmipngaaGreatDoor
open Go.RowKit
theorem But.on {S T : List Nat} {a c d : World} (h : But S a c) (k : But T c d) (hT : ∀ j ∈ T, j ∈ S ∨ a.heap.size ≤ j) : But S a d :=
  ⟨k.os.trans h.os, k.tape.trans h.tape, k.output.trans h.output, Nat.le_trans h.size k.size, fun j hj hs =>
    (k.block j (Nat.lt_of_lt_of_le hj h.size) (fun hm => (hT j hm).elim hs (fun he => by omega))).trans (h.block j hj hs)⟩
/-- A row of one-cell values at the begin of a block of their type. -/
def RowT (B : Nat) (w : World) (t : TypeId) (A : Option Addr) (vs : List Value) : Prop :=
  vs ≠ [] → ∃ (g : Nat) (cs : Array Value) (fz : Nat × Nat), A = some ⟨g, 0, none⟩ ∧ w.heap[g]? = some (.cells cs t fz) ∧ (∀ (i : Nat) (v : Value), vs[i]? = some v → cs[i]? = some v) ∧ B ≤ g ∧ (fz = (0, 0) ∨ cs.size ≤ fz.1)
theorem RowT.nil (B : Nat) (w : World) (t : TypeId) (A : Option Addr) : RowT B w t A [] := fun h => absurd rfl h
theorem RowT.cells {B : Nat} {w : World} {t : TypeId} {A : Option Addr} {vs : List Value} (h : RowT B w t A vs) : CellsAt w A vs := fun hne => by
  obtain ⟨g, cs, fz, h1, h2, h3, _⟩ := h hne
  exact ⟨g, 0, h1, (Array.getElem?_eq_some_iff.1 h2).1, fun i v hi => by rw [Nat.zero_add, cell_of_row w g i cs t fz h2]; exact h3 i v hi⟩
theorem RowT.but {B : Nat} {S : List Nat} {w w' : World} {t : TypeId} {A : Option Addr} {vs : List Value} (h : RowT B w t A vs) (hk : But S w w') (hS : ∀ j ∈ S, ∀ cs fz, w.heap[j]? ≠ some (.cells cs t fz)) : RowT B w' t A vs := fun hne => by
  obtain ⟨g, cs, fz, h1, h2, h3⟩ := h hne
  exact ⟨g, cs, fz, h1, hk.blk h2 (fun hm => hS g hm _ _ h2), h3⟩
theorem RowT.mono {B B' : Nat} {w : World} {t : TypeId} {A : Option Addr} {vs : List Value} (h : RowT B w t A vs) (hB : B' ≤ B) : RowT B' w t A vs := fun hne => by
  obtain ⟨g, cs, fz, h1, h2, h3, h4, h5⟩ := h hne
  exact ⟨g, cs, fz, h1, h2, h3, Nat.le_trans hB h4, h5⟩
theorem RowT.own {w : World} {t : TypeId} {B : Nat} {v : Value} {n : Nat} {xs : List Value} (h : Own t 1 B v n xs w) : ∃ A c, v = .slice A n c ∧ RowT B w t A xs := by
  rcases h.own.2 with ⟨rfl, rfl⟩ | ⟨g, cap, cur, rfl, hb, hg, hnc, hcm, hcs, htake⟩
  · have : xs = [] := List.eq_nil_of_length_eq_zero (by simpa using h.own.1)
    subst this
    exact ⟨_, _, rfl, RowT.nil _ _ _ _⟩
  · refine ⟨_, _, rfl, fun _ => ⟨g, cur, _, rfl, hg, fun i u hi => ?_, hb, .inl rfl⟩⟩
    rw [← htake, List.getElem?_take] at hi
    split at hi
    · simpa using hi
    · cases hi
/-- An event's rows, by their types. -/
structure EvT (B : Nat) (w : World) (x : Sc.Ev) (K A : Option Addr) : Prop where
  keep : RowT B w 4 K (boolCells x.keep)
  bytes : RowT B w 5 A (Lib.byteCells x.bytes)
  kl : x.keep.length ≤ 1073741824
  bl : x.bytes.length ≤ 1073741824
theorem EvT.at_ {B : Nat} {w : World} {x : Sc.Ev} {K A : Option Addr} (h : EvT B w x K A) : EvAt w x K A := ⟨h.keep.cells, h.bytes.cells, Nat.le_trans h.kl (by decide), Nat.le_trans h.bl (by decide)⟩
theorem EvT.but {B : Nat} {S : List Nat} {w w' : World} {x : Sc.Ev} {K A : Option Addr} (h : EvT B w x K A) (hk : But S w w') (hS : ∀ j ∈ S, ∃ cs t fz, w.heap[j]? = some (.cells cs t fz) ∧ t ≠ 4 ∧ t ≠ 5) : EvT B w' x K A :=
  ⟨h.keep.but hk (fun j hj cs fz e => by
      obtain ⟨cs', t, fz', h1, h2, _⟩ := hS j hj
      rw [h1] at e; injection e with e; injection e with _ e; exact h2 e),
   h.bytes.but hk (fun j hj cs fz e => by
      obtain ⟨cs', t, fz', h1, _, h2⟩ := hS j hj
      rw [h1] at e; injection e with e; injection e with _ e; exact h2 e), h.kl, h.bl⟩
/-! ### the bytes of a string -/
def bytesW (w : World) (l : Sc.Bs) : World := Lib.bytesWorld w 5 ⟨l.toArray⟩
def bytesCap (w : World) (l : Sc.Bs) : Nat := grownCap w l.length 0 5
theorem conv_str (w : World) (l : Sc.Bs) : (convert 9 37 (.string ⟨l.toArray⟩)).run Tryz.prog w = .ok (.slice (some ⟨w.heap.size, 0, none⟩) l.length (bytesCap w l)) (bytesW w l) := by
  have := Lib.run_convert_string_bytes (P := Tryz.prog) w 9 37 5 ⟨l.toArray⟩ Tryz.underlying9 Tryz.underlying37 Tryz.underlying5
  rw [Lib.size_eq] at this
  exact this
theorem below_bytesW (w : World) (l : Sc.Bs) : Below w.heap.size w (bytesW w l) := Lib.bytesWorld_below w 5 _
theorem row_bytesW (w : World) (l : Sc.Bs) : RowT w.heap.size (bytesW w l) 5 (some ⟨w.heap.size, 0, none⟩) (Lib.byteCells l) := fun _ => by
  refine ⟨w.heap.size, _, _, rfl, Lib.bytesWorld_at_new w 5 _, fun i v hi => ?_, Nat.le_refl _, .inr (Nat.le_refl _)⟩
  have hlt : i < l.length := by have := (List.getElem?_eq_some_iff.1 hi).1; rwa [byteCells_len] at this
  unfold Lib.byteCells at hi
  rw [List.getElem?_map, List.getElem?_eq_getElem hlt] at hi
  unfold Lib.bytesCells
  rw [Array.getElem?_append_left (by simpa using hlt)]
  simpa [hlt] using hi
/-! ### the kind of a word -/
def toB (s : Sc.Bs) : ByteArray := ⟨s.toArray⟩
theorem toB_inj {a b : Sc.Bs} (h : toB a = toB b) : a = b := by
  have := congrArg (fun x : ByteArray => x.data.toList) h
  simpa [toB] using this
def wordsS : List ByteArray := Sc.words.map toB
theorem idxFrom_map (x : Sc.Bs) : ∀ (zs : List Sc.Bs) (i : Nat), Lib.idxFromS (zs.map toB) (toB x) i = if zs.idxOf x < zs.length then ((i + zs.idxOf x : Nat) : Int) else -1
  | [], i => by simp [Lib.idxFromS]
  | z :: zs, i => by
    have ih := idxFrom_map x zs (i + 1)
    rw [List.map_cons, Lib.idxFromS]
    by_cases h : z = x
    · subst h
      simp
    · have h1 : ¬ toB z = toB x := fun e => h (toB_inj e)
      have e : (z :: zs).idxOf x = zs.idxOf x + 1 := by rw [List.idxOf_cons, beq_eq_false_iff_ne.2 h]; rfl
      rw [e]
      simp only [h1, if_false, List.length_cons] 
      rw [ih]
      by_cases h2 : zs.idxOf x < zs.length
      · rw [if_pos h2, if_pos (by omega)]; omega
      · rw [if_neg h2, if_neg (by omega)]
theorem kind_idx (x : Sc.Bs) : max (Lib.idxOfS wordsS (toB x)) 0 = Sc.kindOf x := by
  unfold Lib.idxOfS wordsS Sc.kindOf
  rw [idxFrom_map, Sc.words_len]
  have hle : Sc.words.idxOf x ≤ 12 := List.idxOf_le_length
  by_cases h : Sc.words.idxOf x < 12
  · rw [if_pos h, Nat.mod_eq_of_lt h]; omega
  · rw [if_neg h, show Sc.words.idxOf x = 12 by omega]; decide
theorem filled_build (k : Int) (r : Sc.Rd) (K B : Value) : filled #[.int .i64 k, .int .i64 0, .int .i64 0, .int .i64 0, .int .i64 0, K, B] (Sc.offs k) r (Sc.offs k).length = #[.int .i64 k, .int .i64 (Sc.build k (Sc.numsRd (Sc.offs k).length r).1).node, .int .i64 (Sc.build k (Sc.numsRd (Sc.offs k).length r).1).to, .int .i64 (Sc.build k (Sc.numsRd (Sc.offs k).length r).1).n, .int .i64 (Sc.build k (Sc.numsRd (Sc.offs k).length r).1).bit, K, B] := by
  unfold Sc.build
  generalize ho : Sc.offs k = os
  unfold Sc.offs at ho
  split at ho
  · subst ho; rfl
  split at ho
  · subst ho; rfl
  split at ho
  · subst ho; rfl
  split at ho
  · subst ho; rfl
  split at ho
  · subst ho; rfl
  · subst ho; rfl
theorem textGo_le (rest out : Sc.Bs) : (Sc.textGo rest out).1.length ≤ out.length + rest.length := by
  induction rest, out using Sc.textGo.induct with
  | case1 out => rw [Sc.textGo]; simp
  | case2 out c t hc => rw [Sc.textGo, if_pos hc]; simp
  | case3 out c t h1 h2 hb => rw [Sc.textGo, if_neg h1, if_pos h2, if_pos hb]; simp
  | case4 out c t h1 h2 hb ih =>
    rw [Sc.textGo, if_neg h1, if_pos h2, if_neg hb]
    have := Sc.escaped_le ⟨t, false⟩
    simp at ih this ⊢; omega
  | case5 out c t h1 h2 h3 => rw [Sc.textGo, if_neg h1, if_neg h2, if_pos h3]; simp
  | case6 out c t h1 h2 h3 ih =>
    rw [Sc.textGo, if_neg h1, if_neg h2, if_neg h3]
    simp at ih ⊢; omega
theorem text_le (r : Sc.Rd) : (Sc.text r).1.length ≤ r.rest.length := by
  unfold Sc.text
  split
  · have := textGo_le (Lib.trimPrefix r.rest [34]) []
    have := trim_le r.rest [34]
    simp at *; omega
  · simp
theorem info4 : (Tryz.prog.info? 4).map (fun i => (i.zero, i.size, i.bytes)) = some (some (.bool false), 1, 1) := by kernel_rfl
theorem words_at (w : World) : ∀ j, j < wordsS.length → (w.alloc (.cells wordCells.toArray 9)).cell? ⟨w.heap.size, 0 + j, none⟩ = some (.string (wordsS.getD j ByteArray.empty)) := by
  intro j hj
  have hj' : j < Sc.words.length := by unfold wordsS at hj; rwa [List.length_map] at hj
  rw [blk_cells (heap_alloc_new w _), List.getElem?_toArray, Nat.zero_add]
  unfold wordCells wordsS
  rw [List.getElem?_map, List.getElem?_eq_getElem hj', List.getD_eq_getElem?_getD, List.getElem?_map, List.getElem?_eq_getElem hj']
  rfl
theorem words_take : wordsS.take 12 = wordsS := List.take_of_length_le (by unfold wordsS; rw [List.length_map]; decide)
theorem setCell_self {w : World} {b i : Nat} {cs : Array Value} {t : TypeId} {v : Value} (h : w.heap[b]? = some (.cells cs t (0, 0))) (hv : cs[i]? = some v) : w.setCell ⟨b, i, none⟩ v = w := by
  obtain ⟨hi, rfl⟩ := Array.getElem?_eq_some_iff.1 hv
  have hc : cs.setIfInBounds i cs[i] = cs := by
    apply Array.ext_getElem?
    intro j
    rw [Array.getElem?_setIfInBounds]
    split
    · rename_i e; subst e; rw [Array.getElem?_eq_getElem hi]
    · rfl
  have hh : (w.setCell ⟨b, i, none⟩ cs[i]).heap = w.heap := by
    apply Array.ext_getElem?
    intro j
    by_cases e : j = b
    · subst e; rw [heap_setCell_same w j i cs t cs[i] h, hc, h]
    · exact heap_setCell_other w ⟨b, i, none⟩ j _ e
  unfold World.setCell at hh ⊢
  simp only at hh ⊢
  rw [hh]
theorem EvBox.self {w : World} {b : Nat} {x : Sc.Ev} {K A : Option Addr} {kc bc : Nat} (h : EvBox w b x K A kc bc) :
    ((((((w.setCell ⟨b, 0, none⟩ (.int .i64 x.kind)).setCell ⟨b, 1, none⟩ (.int .i64 x.node)).setCell ⟨b, 2, none⟩ (.int .i64 x.to)).setCell ⟨b, 3, none⟩ (.int .i64 x.n)).setCell ⟨b, 4, none⟩ (.int .i64 x.bit)).setCell ⟨b, 5, none⟩ (.slice K x.keep.length kc)).setCell ⟨b, 6, none⟩ (.slice A x.bytes.length bc) = w := by
  unfold EvBox at h
  rw [setCell_self h (v := .int .i64 x.kind) rfl, setCell_self h (v := .int .i64 x.node) rfl, setCell_self h (v := .int .i64 x.to) rfl, setCell_self h (v := .int .i64 x.n) rfl, setCell_self h (v := .int .i64 x.bit) rfl, setCell_self h (v := .slice K x.keep.length kc) rfl, setCell_self h (v := .slice A x.bytes.length bc) rfl]
set_option maxRecDepth 100000 in
set_option maxHeartbeats 8000000 in
theorem revent_any (b : Nat) (r : Sc.Rd) (word : Sc.Bs) (w : World) (henv : Env w) (hb6 : 6 ≤ b) (h : RdAt w b r) (hlen : r.rest.length ≤ 1073741824) (B : Nat) (hBB : B ≤ w.heap.size) :
    Calls Tryz.prog 25 #[.pointer (some ⟨b, 0, none⟩), .string ⟨word.toArray⟩] w fun e w' => ∃ K A kc bc, e = .returned (evV (Sc.event word r).1 K A kc bc) ∧ EvT B w' (Sc.event word r).1 K A ∧ RdAt w' b (Sc.event word r).2 ∧ But [b] w w' := by
  have hb1 := below_box w (.cells #[.int .i64 0, .int .i64 0, .int .i64 0, .int .i64 0, .int .i64 0, .slice none 0 0, .slice none 0 0] 39)
  have hx1 := heap_alloc_new w (.cells #[.int .i64 0, .int .i64 0, .int .i64 0, .int .i64 0, .int .i64 0, .slice none 0 0, .slice none 0 0] 39)
  have hbx : b ≠ w.heap.size := Nat.ne_of_lt h.cells.2.2.2.2
  have hx6 := henv.big
  have HBB := Lib.hid hBB
  clear hBB
  have hr1 := h.next hb1
  have HR := Lib.hid hr1
  have HB := Lib.hid hb1
  have HX := Lib.hid hx1
  have HENV := Lib.hid henv
  clear hr1 hb1 hx1 henv h
  go_enter Tryz.func25, Tryz.ntmps25
  go_wp2_with fail
  generalize w.alloc (.cells #[.int .i64 0, .int .i64 0, .int .i64 0, .int .i64 0, .int .i64 0, .slice none 0 0, .slice none 0 0] 39) = w1 at HR HB HX ⊢
  generalize hxe : w.heap.size = xb at HX hbx hx6 ⊢
  refine (words_any _).mono ?_
  rintro e w2 ⟨rfl, rfl⟩
  have hb2 := below_box w1 (.cells wordCells.toArray 9)
  have hwa := words_at w1
  have HR2 := Lib.hid (HR.out.next hb2)
  have HB2 := Lib.hid (HB.out.trans (hb2.mono HB.out.size))
  have HX2 := Lib.hid (blk_next hb2 HX.out)
  clear HR HB HX hb2
  generalize w1.alloc (.cells wordCells.toArray 9) = w2 at HR2 HB2 HX2 hwa ⊢
  generalize w1.heap.size = wb at hwa ⊢
  have HWA := Lib.hid hwa
  clear hwa
  go_wp2_with fail
  refine (Tryz.slices_Index_string wb 0 12 12 wordsS _ _ (by decide) (by decide) HWA.out).mono ?_
  rintro e w' ⟨rfl, rfl⟩
  have KI : max (Lib.idxOfS (wordsS.take 12) ⟨word.toArray⟩) 0 = Sc.kindOf word := by rw [words_take]; exact kind_idx word
  generalize Lib.idxOfS (wordsS.take 12) ⟨word.toArray⟩ = ix at KI ⊢
  obtain ⟨k, hk⟩ : ∃ k, Sc.kindOf word = k := ⟨_, rfl⟩
  rw [hk] at KI
  have HK := Lib.hid hk
  clear hk
  have q0 := blk_cells HX2.out 0
  have f0 := blk_free HX2.out 0
  have hlt : xb < w'.heap.size := (Array.getElem?_eq_some_iff.1 HX2.out).1
  have hst := but_set (i := 0) (.int .i64 k) HX2.out
  have HX3 : Hid ((w'.setCell ⟨xb, 0, none⟩ (.int .i64 k)).heap[xb]? = some (.cells #[.int .i64 k, .int .i64 0, .int .i64 0, .int .i64 0, .int .i64 0, .slice none 0 0, .slice none 0 0] 39 (0, 0))) := Lib.hid hst.2
  have HB3 : Hid (But [b] w (w'.setCell ⟨xb, 0, none⟩ (.int .i64 k))) := Lib.hid (((But.of (S := [b]) HB2.out)).on hst.1 (by intro j hj; simp at hj; subst hj; exact .inr (Nat.le_of_eq hxe)))
  have HR3 : Hid (RdAt (w'.setCell ⟨xb, 0, none⟩ (.int .i64 k)) b r) := Lib.hid (hst.1.blk HR2.out (by simpa using hbx))
  have k0 := blk_cells HX3.out 0
  clear hst HX2 HB2 HR2 HWA
  go_wp2_with fail
  generalize w'.setCell ⟨xb, 0, none⟩ (.int .i64 k) = w3 at HX3 HB3 HR3 k0 ⊢
  refine (fields_row xb k _ k0).mono ?_
  rintro e w4 ⟨FA, rfl, hrow, hb4⟩
  have HX4 := Lib.hid (blk_next hb4 HX3.out)
  have HB4 := Lib.hid (HB3.out.on (But.of (S := []) hb4) (by simp))
  have HR4 := Lib.hid (HR3.out.next hb4)
  have he4 := HENV.out.below (HB4.out.to (B := 6) HENV.out.big (by intro j hj; simp at hj; omega)) (Nat.le_refl _)
  clear hb4 HX3 HB3 HR3 q0 f0 hlt k0
  go_wp2_with fail
  refine (rnumbers_any b r FA xb (Sc.offs k) _ 39 _ _ he4 hb6 hx6 (Ne.symm hbx) HR4.out (by omega) (Nat.le_trans (offs_len _) (by decide)) hrow HX4.out (by decide) (by intro o ho; have := offs_mem ho; simp; omega)).mono ?_
  rintro e w5 ⟨rfl, hR5, hX5, hk5⟩
  rw [filled_build] at hX5
  have HB5 := Lib.hid (HB4.out.on hk5 (by intro j hj; simp at hj; rcases hj with rfl | rfl; exact .inl (by simp); exact .inr (Nat.le_of_eq hxe)))
  have HX5 : Hid (EvBox w5 xb (Sc.build k (Sc.numsRd (Sc.offs k).length r).1) none none 0 0) := Lib.hid hX5
  have HR5 := Lib.hid hR5
  have hle5 := Nat.le_trans (numsRd_le (Sc.offs k).length r) hlen
  clear hrow he4 hR5 hX5 hk5 HX4 HB4 HR4
  obtain ⟨c0, c1, c2, c3, c4, c5, c6⟩ := HX5.out.cells
  have hk0 : (Sc.build k (Sc.numsRd (Sc.offs k).length r).1).kind = k := rfl
  rw [hk0] at c0
  clear hk0
  by_cases h1 : k = 1
  · have b1 : (k == 1) = true := by rw [h1]; rfl
    have HE0 : Hid (Sc.event0 k r = ({ Sc.build k (Sc.numsRd (Sc.offs k).length r).1 with bytes := (Sc.text (Sc.numsRd (Sc.offs k).length r).2).1 }, (Sc.text (Sc.numsRd (Sc.offs k).length r).2).2)) := Lib.hid (by unfold Sc.event0; rw [if_pos h1])
    have H1 := Lib.hid h1
    clear h1
    go_wp2_with fail
    refine (rtext_any b _ _ HR5.out hle5).mono ?_
    rintro e w6 ⟨rfl, hR6, hk6⟩
    have HR6 := Lib.hid hR6
    have HB6 := Lib.hid (HB5.out.on hk6 (by simp))
    have HX6 : Hid (EvBox w6 xb (Sc.build k (Sc.numsRd (Sc.offs k).length r).1) none none 0 0) := Lib.hid (hk6.blk HX5.out (by simpa using Ne.symm hbx))
    have htl := text_le (Sc.numsRd (Sc.offs k).length r).2
    clear hR6 hk6 HR5 HB5 HX5 c0 c1 c2 c3 c4 c5 c6
    generalize (Sc.numsRd (Sc.offs k).length r).2 = r5 at HE0 HR6 htl hle5 ⊢
    obtain ⟨⟨tx, ⟨rr, rb⟩⟩, htx⟩ : ∃ p, Sc.text r5 = p := ⟨_, rfl⟩
    rw [htx] at HE0 HR6 htl ⊢
    simp only at HE0 HR6 htl ⊢
    clear htx
    have hcv := conv_str w6 tx
    have HW6S : Hid (w.heap.size ≤ w6.heap.size) := Lib.hid HB6.out.size
    have hb7 := below_bytesW w6 tx
    have HX7 := HX6.out.next hb7
    have hst := but_set (i := 6) (.slice (some ⟨w6.heap.size, 0, none⟩) tx.length (bytesCap w6 tx)) HX7
    have q6 := HX7.cells.2.2.2.2.2.2
    have qf := blk_free HX7 6
    have qlt : xb < (bytesW w6 tx).heap.size := (Array.getElem?_eq_some_iff.1 HX7).1
    obtain ⟨x1, hx1⟩ : ∃ x, x = ({ Sc.build k (Sc.numsRd (Sc.offs k).length r).1 with bytes := tx } : Sc.Ev) := ⟨_, rfl⟩
    have hxk : x1.kind = k := by rw [hx1]; rfl
    rw [← hx1] at HE0
    have HXt : Hid (EvBox ((bytesW w6 tx).setCell ⟨xb, 6, none⟩ (.slice (some ⟨w6.heap.size, 0, none⟩) tx.length (bytesCap w6 tx))) xb x1 none (some ⟨w6.heap.size, 0, none⟩) 0 (bytesCap w6 tx)) := Lib.hid (by rw [hx1]; exact hst.2)
    have HRt : Hid (RdAt ((bytesW w6 tx).setCell ⟨xb, 6, none⟩ (.slice (some ⟨w6.heap.size, 0, none⟩) tx.length (bytesCap w6 tx))) b ⟨rr, rb⟩) := Lib.hid (hst.1.blk (HR6.out.next hb7) (by simpa using hbx))
    have HBt : Hid (But [b] w ((bytesW w6 tx).setCell ⟨xb, 6, none⟩ (.slice (some ⟨w6.heap.size, 0, none⟩) tx.length (bytesCap w6 tx)))) := Lib.hid ((HB6.out.step (hb7.mono HB6.out.size)).on hst.1 (by intro j hj; simp at hj; subst hj; exact .inr (Nat.le_of_eq hxe)))
    have HEt : Hid (EvT B ((bytesW w6 tx).setCell ⟨xb, 6, none⟩ (.slice (some ⟨w6.heap.size, 0, none⟩) tx.length (bytesCap w6 tx))) x1 none (some ⟨w6.heap.size, 0, none⟩)) := Lib.hid (by
      have h0 : EvT B (bytesW w6 tx) x1 none (some ⟨w6.heap.size, 0, none⟩) := by
        rw [hx1]
        exact ⟨RowT.nil _ _ _ _, (row_bytesW w6 tx).mono (Nat.le_trans HBB.out HW6S.out), Nat.zero_le _, Nat.le_trans htl hle5⟩
      exact h0.but hst.1 (by intro j hj; simp at hj; subst hj; exact ⟨_, _, _, HX7, by decide, by decide⟩))
    have HX1 := Lib.hid hx1
    clear hx1 hst hb7 HX7 HR6 HX6 HB6 htl
    cases rb
    · skip
      obtain ⟨r0, r1, rf0, rf1, rlt⟩ := HRt.out.cells
      simp only at r0 r1
      have hlt : xb < ((bytesW w6 tx).setCell ⟨xb, 6, none⟩ (.slice (some ⟨w6.heap.size, 0, none⟩) tx.length (bytesCap w6 tx))).heap.size := (Array.getElem?_eq_some_iff.1 HXt.out).1
      obtain ⟨c0, c1, c2, c3, c4, c5, c6⟩ := HXt.out.cells
      rw [hxk] at c0
      go_wp2_with fail
      rw [← hxk]
      refine (wrong_any x1 none (some ⟨w6.heap.size, 0, none⟩) 0 (bytesCap w6 tx) _ HEt.out.at_).mono ?_
      rintro e w8 ⟨rfl, hb8⟩
      have HXu := HXt.out.next hb8
      have HRu := HRt.out.next hb8
      have HBu := HBt.out.step (hb8.mono HBt.out.size)
      have HEu := HEt.out.but (But.of (S := []) hb8) (by simp)
      clear r0 r1 rf0 rf1 rlt hlt c0 c1 c2 c3 c4 c5 c6 HXt HRt HBt HEt hb8 q6 qf qlt hcv
      have HXt := Lib.hid HXu
      have HRt := Lib.hid HRu
      have HBt := Lib.hid HBu
      have HEt := Lib.hid HEu
      clear HXu HRu HBu HEu
      obtain ⟨r0, r1, rf0, rf1, rlt⟩ := HRt.out.cells
      simp only at r0 r1
      have hlt : xb < w8.heap.size := (Array.getElem?_eq_some_iff.1 HXt.out).1
      obtain ⟨c0, c1, c2, c3, c4, c5, c6⟩ := HXt.out.cells
      rw [hxk] at c0
      have HEV : Hid (Sc.event word r = (x1, ⟨rr, Sc.wrong x1⟩)) := Lib.hid (by unfold Sc.event; rw [HK.out, HE0.out]; rfl)
      generalize Sc.wrong x1 = q at HEV ⊢
      have HX9 : Hid (EvBox (w8.setCell ⟨b, 1, none⟩ (.bool q)) xb x1 none (some ⟨w6.heap.size, 0, none⟩) 0 (bytesCap w6 tx)) := Lib.hid ((but_set (i := 1) (.bool q) HRt.out).1.blk HXt.out (by simpa using Ne.symm hbx))
      have HR9 := Lib.hid (HRt.out.bad q)
      have HB9 := Lib.hid (HBt.out.on (but_set (i := 1) (.bool q) HRt.out).1 (by simp))
      have HE9 := Lib.hid (HEt.out.but (but_set (i := 1) (.bool q) HRt.out).1 (by intro j hj; simp at hj; subst hj; exact ⟨_, _, _, HRt.out, by decide, by decide⟩))
      obtain ⟨d0, d1, d2, d3, d4, d5, d6⟩ := HX9.out.cells
      have hf := fun i => blk_free HX9.out i
      rw [hxk] at d0
      go_wp2_with fail
      rw [← hxk, HX9.out.self]
      refine bodyPost_ret (v := evV x1 none (some ⟨w6.heap.size, 0, none⟩) 0 (bytesCap w6 tx)) ?_ rfl ?_
      · rw [hxk]
        simp [results, Tryz.results25, go_sem, d0, d1, d2, d3, d4, d5, d6]
        rw [← hxk]; rfl
      · rw [HEV.out]
        first
          | exact ⟨none, (some ⟨w6.heap.size, 0, none⟩), 0, (bytesCap w6 tx), rfl, HE9.out, HR9.out, HB9.out⟩
          | exact ⟨none, (some ⟨w6.heap.size, 0, none⟩), ⟨0, (bytesCap w6 tx), rfl⟩, HE9.out, HR9.out, HB9.out⟩
    · skip
      obtain ⟨r0, r1, rf0, rf1, rlt⟩ := HRt.out.cells
      simp only at r0 r1
      have hlt : xb < ((bytesW w6 tx).setCell ⟨xb, 6, none⟩ (.slice (some ⟨w6.heap.size, 0, none⟩) tx.length (bytesCap w6 tx))).heap.size := (Array.getElem?_eq_some_iff.1 HXt.out).1
      obtain ⟨c0, c1, c2, c3, c4, c5, c6⟩ := HXt.out.cells
      rw [hxk] at c0
      have HEV : Hid (Sc.event word r = (x1, ⟨rr, true⟩)) := Lib.hid (by unfold Sc.event; rw [HK.out, HE0.out]; rfl)
      have HX9 : Hid (EvBox (((bytesW w6 tx).setCell ⟨xb, 6, none⟩ (.slice (some ⟨w6.heap.size, 0, none⟩) tx.length (bytesCap w6 tx))).setCell ⟨b, 1, none⟩ (.bool true)) xb x1 none (some ⟨w6.heap.size, 0, none⟩) 0 (bytesCap w6 tx)) := Lib.hid ((but_set (i := 1) (.bool true) HRt.out).1.blk HXt.out (by simpa using Ne.symm hbx))
      have HR9 := Lib.hid (HRt.out.bad true)
      have HB9 := Lib.hid (HBt.out.on (but_set (i := 1) (.bool true) HRt.out).1 (by simp))
      have HE9 := Lib.hid (HEt.out.but (but_set (i := 1) (.bool true) HRt.out).1 (by intro j hj; simp at hj; subst hj; exact ⟨_, _, _, HRt.out, by decide, by decide⟩))
      obtain ⟨d0, d1, d2, d3, d4, d5, d6⟩ := HX9.out.cells
      have hf := fun i => blk_free HX9.out i
      rw [hxk] at d0
      go_wp2_with fail
      rw [← hxk, HX9.out.self]
      refine bodyPost_ret (v := evV x1 none (some ⟨w6.heap.size, 0, none⟩) 0 (bytesCap w6 tx)) ?_ rfl ?_
      · rw [hxk]
        simp [results, Tryz.results25, go_sem, d0, d1, d2, d3, d4, d5, d6]
        rw [← hxk]; rfl
      · rw [HEV.out]
        first
          | exact ⟨none, (some ⟨w6.heap.size, 0, none⟩), 0, (bytesCap w6 tx), rfl, HE9.out, HR9.out, HB9.out⟩
          | exact ⟨none, (some ⟨w6.heap.size, 0, none⟩), ⟨0, (bytesCap w6 tx), rfl⟩, HE9.out, HR9.out, HB9.out⟩
  · have b1 : (k == 1) = false := beq_eq_false_iff_ne.2 h1
    by_cases h8 : k = 8
    · have b8 : (k == 8) = true := by rw [h8]; rfl
      have HE0 : Hid (Sc.event0 k r = ({ Sc.build k (Sc.numsRd (Sc.offs k).length r).1 with keep := Sc.bitsOf (Lib.trimPrefix (Sc.token (Sc.numsRd (Sc.offs k).length r).2).1 [61]) }, ⟨(Sc.token (Sc.numsRd (Sc.offs k).length r).2).2.rest, (Sc.token (Sc.numsRd (Sc.offs k).length r).2).2.bad || !(Lib.hasPrefix (Sc.token (Sc.numsRd (Sc.offs k).length r).2).1 [61] && Sc.isBits (Lib.trimPrefix (Sc.token (Sc.numsRd (Sc.offs k).length r).2).1 [61]))⟩)) := Lib.hid (by unfold Sc.event0; rw [if_neg h1, if_pos h8])
      have H8 := Lib.hid h8
      clear h1 h8
      have he5 := HENV.out.below (HB5.out.to (B := 6) HENV.out.big (by intro j hj; simp at hj; omega)) (Nat.le_refl _)
      go_wp2_with fail
      refine (token_any b _ _ he5 HR5.out (Nat.lt_of_le_of_lt hle5 (by decide))).mono ?_
      rintro e w6 ⟨rfl, hR6, hk6⟩
      have HR6 := Lib.hid hR6
      have HB6 := Lib.hid (HB5.out.on hk6 (by simp))
      have HX6 : Hid (EvBox w6 xb (Sc.build k (Sc.numsRd (Sc.offs k).length r).1) none none 0 0) := Lib.hid (hk6.blk HX5.out (by simpa using Ne.symm hbx))
      have htl := (token_le (Sc.numsRd (Sc.offs k).length r).2).1
      clear he5 hR6 hk6 HR5 HB5 HX5 c0 c1 c2 c3 c4 c5 c6
      generalize (Sc.numsRd (Sc.offs k).length r).2 = r5 at HE0 HR6 htl hle5 ⊢
      obtain ⟨⟨t1, ⟨rr, tb⟩⟩, htx⟩ : ∃ p, Sc.token r5 = p := ⟨_, rfl⟩
      rw [htx] at HE0 HR6 htl ⊢
      simp only at HE0 HR6 htl ⊢
      clear htx
      go_wp2_with fail
      refine (Tryz.strings_CutPrefix _ _ _).mono ?_
      rintro e w6' ⟨rfl, rfl⟩
      have hsl := Nat.le_trans (trim_le t1 [61]) (Nat.le_trans htl hle5)
      generalize Lib.trimPrefix t1 [61] = sx at HE0 hsl ⊢
      generalize Lib.hasPrefix t1 [61] = pf at HE0 ⊢
      have hcv := conv_str w6' sx
      have hb7 := below_bytesW w6' sx
      have HX7 : Hid (EvBox (bytesW w6' sx) xb (Sc.build k (Sc.numsRd (Sc.offs k).length r).1) none none 0 0) := Lib.hid (HX6.out.next hb7)
      have HR7 := Lib.hid (HR6.out.next hb7)
      have HB7 := Lib.hid (HB6.out.step (hb7.mono HB6.out.size))
      have HS7 := Lib.hid (row_bytesW w6' sx)
      have hx7 : xb < (bytesW w6' sx).heap.size := (Array.getElem?_eq_some_iff.1 HX7.out).1
      have HXL := Lib.hid hx7
      have HSL := Lib.hid hsl
      clear htl hsl hb7 HX6 HR6 HB6 hx7
      go_wp2_with fail
      clear hcv
      generalize bytesW w6' sx = w7 at HX7 HR7 HB7 HS7 HXL ⊢
      generalize bytesCap w6' sx = cap7
      generalize w6'.heap.size = sb at HS7 ⊢
      obtain ⟨x0, hx0⟩ : ∃ x, x = Sc.build k (Sc.numsRd (Sc.offs k).length r).1 := ⟨_, rfl⟩
      rw [← hx0] at HE0 HX7
      have hx0k : x0.kind = k := by rw [hx0]; rfl
      have hx0b : x0.bytes = [] := by rw [hx0]; rfl
      have hx0e : x0.keep = [] := by rw [hx0]; rfl
      clear hx0
      have HXK := Lib.hid hx0k
      have HXB := Lib.hid hx0b
      have HXE := Lib.hid hx0e
      clear hx0k hx0b hx0e
      go_loopw [6, 8, 36] (fun is _ i wr => ∃ (j : Nat) (v : Value), j ≤ sx.length ∧ i = .int .i64 j ∧ is = .bool (pf && Sc.isBits (sx.take j)) ∧ wr.heap[xb]? = some (.cells #[.int .i64 x0.kind, .int .i64 x0.node, .int .i64 x0.to, .int .i64 x0.n, .int .i64 x0.bit, v, .slice none 0 0] 39 (0, 0)) ∧ Own 4 1 w7.heap.size v j (boolCells (Sc.bitsOf (sx.take j))) wr ∧ But [xb] w7 wr) (fun _ _ i _ => sx.length - (intOf i).toNat)
      case atStart =>
        refine ⟨0, .slice none 0 0, Nat.zero_le _, rfl, by simp [Sc.isBits], ?_, Own.nil _ _ _, But.refl _ _⟩
        have := HX7.out
        unfold EvBox at this
        rw [HXB.out, HXE.out] at this
        exact this
      case round =>
        obtain ⟨j, v, hj, rfl, rfl, hX, hO, hko⟩ := hrel
        by_cases hlt : j < sx.length
        · have hc : sx[j]? = some sx[j] := List.getElem?_eq_getElem hlt
          have HT : Hid (sx.take (j + 1) = sx.take j ++ [sx[j]]) := Lib.hid (List.take_succ_eq_append_getElem hlt)
          have hsr : RowT _ wr 5 (some ⟨sb, 0, none⟩) (Lib.byteCells sx) := HS7.out.but hko (by
            intro i hi cs fz e
            simp at hi; subst hi
            have := HX7.out.symm.trans e; injection this with this; injection this with _ this; cases this)
          obtain ⟨g, off, hge, hgl, hcell⟩ := hsr.cells.at_ (Below.refl _ _) (k := j) (v := .int .u8 (sx[j].toNat : Int)) (by unfold Lib.byteCells; rw [List.getElem?_map, hc]; rfl)
          simp only [Option.some.injEq, Addr.mk.injEq] at hge
          obtain ⟨rfl, rfl, _⟩ := hge
          rw [Nat.zero_add] at hcell
          generalize sx[j] = c at HT hcell
          have e48 : ((c.toNat : Int) == 48) = decide (c.toNat = 48) := by rw [Bool.eq_iff_iff]; simp; omega
          have e49 : ((c.toNat : Int) == 49) = decide (c.toNat = 49) := by rw [Bool.eq_iff_iff]; simp; omega
          have HIB : Hid (Sc.isBits (sx.take (j + 1)) = (Sc.isBits (sx.take j) && (decide (c.toNat = 48) || decide (c.toNat = 49)))) := Lib.hid (by rw [HT.out]; unfold Sc.isBits; rw [List.all_append]; simp)
          have HBO : Hid (boolCells (Sc.bitsOf (sx.take (j + 1))) = boolCells (Sc.bitsOf (sx.take j)) ++ [.bool (decide (c.toNat = 49))]) := Lib.hid (by rw [HT.out]; unfold boolCells Sc.bitsOf; rw [List.map_append, List.map_append]; rfl)
          generalize Sc.isBits (sx.take j) = ib at HIB ⊢
          generalize decide (c.toNat = 48) = p48 at e48 HIB
          generalize decide (c.toNat = 49) = p49 at e49 HIB HBO
          have x5 := (blk_cells hX 5).trans rfl
          have xf := blk_free hX 5
          have xlt : xb < wr.heap.size := (Array.getElem?_eq_some_iff.1 hX).1
          have HOH := Lib.hid hO
          have HXH := Lib.hid hX
          have HKO := Lib.hid hko
          have hjl : j ≤ 1073741824 := by have := HSL.out; omega
          clear hc hsr hX hO hko HT
          cases pf <;> cases ib <;> cases p48 <;> cases p49
          all_goals
            go_wp2_with (at_builtin; refine wpList_own_append rfl _ _ 36 4 (.bool false) 1 1 rfl Tryz.underlying36 info4 rfl (by decide) HOH.out rfl [.bool _] 1 rfl rfl (by simp [Value.oneCell']) (by first | rfl | exact congrArg (fun k => Value.slice (some ⟨k, 0, none⟩) 1 1) (by simp)) (by unfold maxLen; omega) (by omega) ?_)
            intro v' w9 hO9 hb9
            obtain ⟨A9, c9, rfl, _⟩ := RowT.own hO9
            have hX9 := (hb9.block xb HXL.out).trans HXH.out
            have hst := but_set (i := 5) (.slice A9 (j + 1) c9) hX9
            have x5' := (blk_cells hX9 5).trans rfl
            have xf' := blk_free hX9 5
            have xlt' : xb < w9.heap.size := (Array.getElem?_eq_some_iff.1 hX9).1
            have HST := Lib.hid hst
            have HO9 := Lib.hid (hO9.but hst.1 (by intro i hi; simp at hi; subst hi; exact HXL.out))
            have HK9 := Lib.hid ((HKO.out.step hb9).on hst.1 (by simp))
            clear hO9 hb9 hX9 hst
            go_wp2_with fail
            go_roundw
            case rel => exact ⟨j + 1, _, by omega, by go_num, by rw [HIB.out]; rfl, HST.out.2, by rw [HBO.out]; exact HO9.out, HK9.out⟩
            case measure => simp [intOf]; omega
        · obtain rfl : j = sx.length := by omega
          rw [List.take_length] at hO ⊢
          obtain ⟨K, kc, rfl, hrow⟩ := RowT.own hO
          have hbl : (Sc.bitsOf sx).length = sx.length := by unfold Sc.bitsOf; rw [List.length_map]
          obtain ⟨x1, hx1⟩ : ∃ x, x = ({ x0 with keep := Sc.bitsOf sx } : Sc.Ev) := ⟨_, rfl⟩
          rw [← hx1] at HE0
          have hxk : x1.kind = k := by rw [hx1]; exact HXK.out
          have HXr : Hid (EvBox wr xb x1 K none kc 0) := Lib.hid (by rw [hx1]; unfold EvBox; simp only; rw [hbl, HXB.out]; exact hX)
          have HEr : Hid (EvT B wr x1 K none) := Lib.hid (by rw [hx1]; exact ⟨hrow.mono (Nat.le_trans HBB.out HB7.out.size), by rw [HXB.out]; exact RowT.nil _ _ _ _, by simp only; rw [hbl]; exact HSL.out, by simp only; rw [HXB.out]; exact Nat.zero_le _⟩)
          have HRr : Hid (RdAt wr b ⟨rr, tb⟩) := Lib.hid (hko.blk HR7.out (by simpa using hbx))
          have HBr := Lib.hid (HB7.out.on hko (by intro j hj; simp at hj; subst hj; exact .inr (Nat.le_of_eq hxe)))
          clear hO hrow hX hko hbl hx1 HX7 HR7 HB7
          generalize (pf && Sc.isBits sx) = q0 at HE0 ⊢
          obtain ⟨s0, s1, sf0, sf1, slt⟩ := HRr.out.cells
          simp only at s0 s1
          cases tb <;> cases q0
          · have HXt : Hid (EvBox (wr.setCell ⟨b, 1, none⟩ (.bool true)) xb x1 K none kc 0) := Lib.hid ((but_set (i := 1) (.bool true) HRr.out).1.blk HXr.out (by simpa using Ne.symm hbx))
            have HRt : Hid (RdAt (wr.setCell ⟨b, 1, none⟩ (.bool true)) b ⟨rr, true⟩) := Lib.hid (HRr.out.bad true)
            have HBt : Hid (But [b] w (wr.setCell ⟨b, 1, none⟩ (.bool true))) := Lib.hid (HBr.out.on (but_set (i := 1) (.bool true) HRr.out).1 (by simp))
            have HEt : Hid (EvT B (wr.setCell ⟨b, 1, none⟩ (.bool true)) x1 K none) := Lib.hid (HEr.out.but (but_set (i := 1) (.bool true) HRr.out).1 (by intro j hj; simp at hj; subst hj; exact ⟨_, _, _, HRr.out, by decide, by decide⟩))
            replace HE0 : Hid (Sc.event0 k r = (x1, ⟨rr, true⟩)) := HE0
            clear HXr HRr HBr HEr
            obtain ⟨r0, r1, rf0, rf1, rlt⟩ := HRt.out.cells
            simp only at r0 r1
            have hlt : xb < (wr.setCell ⟨b, 1, none⟩ (.bool true)).heap.size := (Array.getElem?_eq_some_iff.1 HXt.out).1
            obtain ⟨c0, c1, c2, c3, c4, c5, c6⟩ := HXt.out.cells
            rw [hxk] at c0
            have HEV : Hid (Sc.event word r = (x1, ⟨rr, true⟩)) := Lib.hid (by unfold Sc.event; rw [HK.out, HE0.out]; rfl)
            have HX9 : Hid (EvBox ((wr.setCell ⟨b, 1, none⟩ (.bool true)).setCell ⟨b, 1, none⟩ (.bool true)) xb x1 K none kc 0) := Lib.hid ((but_set (i := 1) (.bool true) HRt.out).1.blk HXt.out (by simpa using Ne.symm hbx))
            have HR9 := Lib.hid (HRt.out.bad true)
            have HB9 := Lib.hid (HBt.out.on (but_set (i := 1) (.bool true) HRt.out).1 (by simp))
            have HE9 := Lib.hid (HEt.out.but (but_set (i := 1) (.bool true) HRt.out).1 (by intro j hj; simp at hj; subst hj; exact ⟨_, _, _, HRt.out, by decide, by decide⟩))
            obtain ⟨d0, d1, d2, d3, d4, d5, d6⟩ := HX9.out.cells
            have hf := fun i => blk_free HX9.out i
            rw [hxk] at d0
            go_wp2_with fail
            rw [← hxk, HX9.out.self]
            refine bodyPost_ret (v := evV x1 K none kc 0) ?_ rfl ?_
            · rw [hxk]
              simp [results, Tryz.results25, go_sem, d0, d1, d2, d3, d4, d5, d6]
              rw [← hxk]; rfl
            · rw [HEV.out]
              first
                | exact ⟨K, none, kc, 0, rfl, HE9.out, HR9.out, HB9.out⟩
                | exact ⟨K, none, ⟨kc, 0, rfl⟩, HE9.out, HR9.out, HB9.out⟩
          · have HXt : Hid (EvBox (wr.setCell ⟨b, 1, none⟩ (.bool false)) xb x1 K none kc 0) := Lib.hid ((but_set (i := 1) (.bool false) HRr.out).1.blk HXr.out (by simpa using Ne.symm hbx))
            have HRt : Hid (RdAt (wr.setCell ⟨b, 1, none⟩ (.bool false)) b ⟨rr, false⟩) := Lib.hid (HRr.out.bad false)
            have HBt : Hid (But [b] w (wr.setCell ⟨b, 1, none⟩ (.bool false))) := Lib.hid (HBr.out.on (but_set (i := 1) (.bool false) HRr.out).1 (by simp))
            have HEt : Hid (EvT B (wr.setCell ⟨b, 1, none⟩ (.bool false)) x1 K none) := Lib.hid (HEr.out.but (but_set (i := 1) (.bool false) HRr.out).1 (by intro j hj; simp at hj; subst hj; exact ⟨_, _, _, HRr.out, by decide, by decide⟩))
            replace HE0 : Hid (Sc.event0 k r = (x1, ⟨rr, false⟩)) := HE0
            clear HXr HRr HBr HEr
            obtain ⟨r0, r1, rf0, rf1, rlt⟩ := HRt.out.cells
            simp only at r0 r1
            have hlt : xb < (wr.setCell ⟨b, 1, none⟩ (.bool false)).heap.size := (Array.getElem?_eq_some_iff.1 HXt.out).1
            obtain ⟨c0, c1, c2, c3, c4, c5, c6⟩ := HXt.out.cells
            rw [hxk] at c0
            go_wp2_with fail
            rw [← hxk]
            refine (wrong_any x1 K none kc 0 _ HEt.out.at_).mono ?_
            rintro e w8 ⟨rfl, hb8⟩
            have HXu := HXt.out.next hb8
            have HRu := HRt.out.next hb8
            have HBu := HBt.out.step (hb8.mono HBt.out.size)
            have HEu := HEt.out.but (But.of (S := []) hb8) (by simp)
            clear r0 r1 rf0 rf1 rlt hlt c0 c1 c2 c3 c4 c5 c6 HXt HRt HBt HEt hb8 s0 s1 sf0 sf1 slt
            have HXt := Lib.hid HXu
            have HRt := Lib.hid HRu
            have HBt := Lib.hid HBu
            have HEt := Lib.hid HEu
            clear HXu HRu HBu HEu
            obtain ⟨r0, r1, rf0, rf1, rlt⟩ := HRt.out.cells
            simp only at r0 r1
            have hlt : xb < w8.heap.size := (Array.getElem?_eq_some_iff.1 HXt.out).1
            obtain ⟨c0, c1, c2, c3, c4, c5, c6⟩ := HXt.out.cells
            rw [hxk] at c0
            have HEV : Hid (Sc.event word r = (x1, ⟨rr, Sc.wrong x1⟩)) := Lib.hid (by unfold Sc.event; rw [HK.out, HE0.out]; rfl)
            generalize Sc.wrong x1 = q at HEV ⊢
            have HX9 : Hid (EvBox (w8.setCell ⟨b, 1, none⟩ (.bool q)) xb x1 K none kc 0) := Lib.hid ((but_set (i := 1) (.bool q) HRt.out).1.blk HXt.out (by simpa using Ne.symm hbx))
            have HR9 := Lib.hid (HRt.out.bad q)
            have HB9 := Lib.hid (HBt.out.on (but_set (i := 1) (.bool q) HRt.out).1 (by simp))
            have HE9 := Lib.hid (HEt.out.but (but_set (i := 1) (.bool q) HRt.out).1 (by intro j hj; simp at hj; subst hj; exact ⟨_, _, _, HRt.out, by decide, by decide⟩))
            obtain ⟨d0, d1, d2, d3, d4, d5, d6⟩ := HX9.out.cells
            have hf := fun i => blk_free HX9.out i
            rw [hxk] at d0
            go_wp2_with fail
            rw [← hxk, HX9.out.self]
            refine bodyPost_ret (v := evV x1 K none kc 0) ?_ rfl ?_
            · rw [hxk]
              simp [results, Tryz.results25, go_sem, d0, d1, d2, d3, d4, d5, d6]
              rw [← hxk]; rfl
            · rw [HEV.out]
              first
                | exact ⟨K, none, kc, 0, rfl, HE9.out, HR9.out, HB9.out⟩
                | exact ⟨K, none, ⟨kc, 0, rfl⟩, HE9.out, HR9.out, HB9.out⟩
          · have HXt : Hid (EvBox (wr.setCell ⟨b, 1, none⟩ (.bool true)) xb x1 K none kc 0) := Lib.hid ((but_set (i := 1) (.bool true) HRr.out).1.blk HXr.out (by simpa using Ne.symm hbx))
            have HRt : Hid (RdAt (wr.setCell ⟨b, 1, none⟩ (.bool true)) b ⟨rr, true⟩) := Lib.hid (HRr.out.bad true)
            have HBt : Hid (But [b] w (wr.setCell ⟨b, 1, none⟩ (.bool true))) := Lib.hid (HBr.out.on (but_set (i := 1) (.bool true) HRr.out).1 (by simp))
            have HEt : Hid (EvT B (wr.setCell ⟨b, 1, none⟩ (.bool true)) x1 K none) := Lib.hid (HEr.out.but (but_set (i := 1) (.bool true) HRr.out).1 (by intro j hj; simp at hj; subst hj; exact ⟨_, _, _, HRr.out, by decide, by decide⟩))
            replace HE0 : Hid (Sc.event0 k r = (x1, ⟨rr, true⟩)) := HE0
            clear HXr HRr HBr HEr
            obtain ⟨r0, r1, rf0, rf1, rlt⟩ := HRt.out.cells
            simp only at r0 r1
            have hlt : xb < (wr.setCell ⟨b, 1, none⟩ (.bool true)).heap.size := (Array.getElem?_eq_some_iff.1 HXt.out).1
            obtain ⟨c0, c1, c2, c3, c4, c5, c6⟩ := HXt.out.cells
            rw [hxk] at c0
            have HEV : Hid (Sc.event word r = (x1, ⟨rr, true⟩)) := Lib.hid (by unfold Sc.event; rw [HK.out, HE0.out]; rfl)
            have HX9 : Hid (EvBox ((wr.setCell ⟨b, 1, none⟩ (.bool true)).setCell ⟨b, 1, none⟩ (.bool true)) xb x1 K none kc 0) := Lib.hid ((but_set (i := 1) (.bool true) HRt.out).1.blk HXt.out (by simpa using Ne.symm hbx))
            have HR9 := Lib.hid (HRt.out.bad true)
            have HB9 := Lib.hid (HBt.out.on (but_set (i := 1) (.bool true) HRt.out).1 (by simp))
            have HE9 := Lib.hid (HEt.out.but (but_set (i := 1) (.bool true) HRt.out).1 (by intro j hj; simp at hj; subst hj; exact ⟨_, _, _, HRt.out, by decide, by decide⟩))
            obtain ⟨d0, d1, d2, d3, d4, d5, d6⟩ := HX9.out.cells
            have hf := fun i => blk_free HX9.out i
            rw [hxk] at d0
            go_wp2_with fail
            rw [← hxk, HX9.out.self]
            refine bodyPost_ret (v := evV x1 K none kc 0) ?_ rfl ?_
            · rw [hxk]
              simp [results, Tryz.results25, go_sem, d0, d1, d2, d3, d4, d5, d6]
              rw [← hxk]; rfl
            · rw [HEV.out]
              first
                | exact ⟨K, none, kc, 0, rfl, HE9.out, HR9.out, HB9.out⟩
                | exact ⟨K, none, ⟨kc, 0, rfl⟩, HE9.out, HR9.out, HB9.out⟩
          · have HXt : Hid (EvBox (wr.setCell ⟨b, 1, none⟩ (.bool true)) xb x1 K none kc 0) := Lib.hid ((but_set (i := 1) (.bool true) HRr.out).1.blk HXr.out (by simpa using Ne.symm hbx))
            have HRt : Hid (RdAt (wr.setCell ⟨b, 1, none⟩ (.bool true)) b ⟨rr, true⟩) := Lib.hid (HRr.out.bad true)
            have HBt : Hid (But [b] w (wr.setCell ⟨b, 1, none⟩ (.bool true))) := Lib.hid (HBr.out.on (but_set (i := 1) (.bool true) HRr.out).1 (by simp))
            have HEt : Hid (EvT B (wr.setCell ⟨b, 1, none⟩ (.bool true)) x1 K none) := Lib.hid (HEr.out.but (but_set (i := 1) (.bool true) HRr.out).1 (by intro j hj; simp at hj; subst hj; exact ⟨_, _, _, HRr.out, by decide, by decide⟩))
            replace HE0 : Hid (Sc.event0 k r = (x1, ⟨rr, true⟩)) := HE0
            clear HXr HRr HBr HEr
            obtain ⟨r0, r1, rf0, rf1, rlt⟩ := HRt.out.cells
            simp only at r0 r1
            have hlt : xb < (wr.setCell ⟨b, 1, none⟩ (.bool true)).heap.size := (Array.getElem?_eq_some_iff.1 HXt.out).1
            obtain ⟨c0, c1, c2, c3, c4, c5, c6⟩ := HXt.out.cells
            rw [hxk] at c0
            have HEV : Hid (Sc.event word r = (x1, ⟨rr, true⟩)) := Lib.hid (by unfold Sc.event; rw [HK.out, HE0.out]; rfl)
            have HX9 : Hid (EvBox ((wr.setCell ⟨b, 1, none⟩ (.bool true)).setCell ⟨b, 1, none⟩ (.bool true)) xb x1 K none kc 0) := Lib.hid ((but_set (i := 1) (.bool true) HRt.out).1.blk HXt.out (by simpa using Ne.symm hbx))
            have HR9 := Lib.hid (HRt.out.bad true)
            have HB9 := Lib.hid (HBt.out.on (but_set (i := 1) (.bool true) HRt.out).1 (by simp))
            have HE9 := Lib.hid (HEt.out.but (but_set (i := 1) (.bool true) HRt.out).1 (by intro j hj; simp at hj; subst hj; exact ⟨_, _, _, HRt.out, by decide, by decide⟩))
            obtain ⟨d0, d1, d2, d3, d4, d5, d6⟩ := HX9.out.cells
            have hf := fun i => blk_free HX9.out i
            rw [hxk] at d0
            go_wp2_with fail
            rw [← hxk, HX9.out.self]
            refine bodyPost_ret (v := evV x1 K none kc 0) ?_ rfl ?_
            · rw [hxk]
              simp [results, Tryz.results25, go_sem, d0, d1, d2, d3, d4, d5, d6]
              rw [← hxk]; rfl
            · rw [HEV.out]
              first
                | exact ⟨K, none, kc, 0, rfl, HE9.out, HR9.out, HB9.out⟩
                | exact ⟨K, none, ⟨kc, 0, rfl⟩, HE9.out, HR9.out, HB9.out⟩
    · have b8 : (k == 8) = false := beq_eq_false_iff_ne.2 h8
      have HE0 : Hid (Sc.event0 k r = (Sc.build k (Sc.numsRd (Sc.offs k).length r).1, (Sc.numsRd (Sc.offs k).length r).2)) := Lib.hid (by unfold Sc.event0; rw [if_neg h1, if_neg h8])
      have HET : Hid (EvT B w5 (Sc.build k (Sc.numsRd (Sc.offs k).length r).1) none none) := Lib.hid ⟨RowT.nil _ _ _ _, RowT.nil _ _ _ _, Nat.zero_le _, Nat.zero_le _⟩
      have hxk : (Sc.build k (Sc.numsRd (Sc.offs k).length r).1).kind = k := rfl
      generalize (Sc.numsRd (Sc.offs k).length r).2 = rd at HR5 HE0 ⊢
      generalize Sc.build k (Sc.numsRd (Sc.offs k).length r).1 = x1 at HE0 HX5 HET c1 c2 c3 c4 c5 c6 hxk ⊢
      obtain ⟨rr, rb⟩ := rd
      have HXt := HX5
      have HRt := HR5
      have HBt := HB5
      have HEt := HET
      clear h1 h8 HX5 HR5 HB5 HET c0 c1 c2 c3 c4 c5 c6
      cases rb
      · skip
        obtain ⟨r0, r1, rf0, rf1, rlt⟩ := HRt.out.cells
        simp only at r0 r1
        have hlt : xb < w5.heap.size := (Array.getElem?_eq_some_iff.1 HXt.out).1
        obtain ⟨c0, c1, c2, c3, c4, c5, c6⟩ := HXt.out.cells
        rw [hxk] at c0
        go_wp2_with fail
        rw [← hxk]
        refine (wrong_any x1 none none 0 0 _ HEt.out.at_).mono ?_
        rintro e w8 ⟨rfl, hb8⟩
        have HXu := HXt.out.next hb8
        have HRu := HRt.out.next hb8
        have HBu := HBt.out.step (hb8.mono HBt.out.size)
        have HEu := HEt.out.but (But.of (S := []) hb8) (by simp)
        clear r0 r1 rf0 rf1 rlt hlt c0 c1 c2 c3 c4 c5 c6 HXt HRt HBt HEt hb8 
        have HXt := Lib.hid HXu
        have HRt := Lib.hid HRu
        have HBt := Lib.hid HBu
        have HEt := Lib.hid HEu
        clear HXu HRu HBu HEu
        obtain ⟨r0, r1, rf0, rf1, rlt⟩ := HRt.out.cells
        simp only at r0 r1
        have hlt : xb < w8.heap.size := (Array.getElem?_eq_some_iff.1 HXt.out).1
        obtain ⟨c0, c1, c2, c3, c4, c5, c6⟩ := HXt.out.cells
        rw [hxk] at c0
        have HEV : Hid (Sc.event word r = (x1, ⟨rr, Sc.wrong x1⟩)) := Lib.hid (by unfold Sc.event; rw [HK.out, HE0.out]; rfl)
        generalize Sc.wrong x1 = q at HEV ⊢
        have HX9 : Hid (EvBox (w8.setCell ⟨b, 1, none⟩ (.bool q)) xb x1 none none 0 0) := Lib.hid ((but_set (i := 1) (.bool q) HRt.out).1.blk HXt.out (by simpa using Ne.symm hbx))
        have HR9 := Lib.hid (HRt.out.bad q)
        have HB9 := Lib.hid (HBt.out.on (but_set (i := 1) (.bool q) HRt.out).1 (by simp))
        have HE9 := Lib.hid (HEt.out.but (but_set (i := 1) (.bool q) HRt.out).1 (by intro j hj; simp at hj; subst hj; exact ⟨_, _, _, HRt.out, by decide, by decide⟩))
        obtain ⟨d0, d1, d2, d3, d4, d5, d6⟩ := HX9.out.cells
        have hf := fun i => blk_free HX9.out i
        rw [hxk] at d0
        go_wp2_with fail
        rw [← hxk, HX9.out.self]
        refine bodyPost_ret (v := evV x1 none none 0 0) ?_ rfl ?_
        · rw [hxk]
          simp [results, Tryz.results25, go_sem, d0, d1, d2, d3, d4, d5, d6]
          rw [← hxk]; rfl
        · rw [HEV.out]
          first
            | exact ⟨none, none, 0, 0, rfl, HE9.out, HR9.out, HB9.out⟩
            | exact ⟨none, none, ⟨0, 0, rfl⟩, HE9.out, HR9.out, HB9.out⟩
      · skip
        obtain ⟨r0, r1, rf0, rf1, rlt⟩ := HRt.out.cells
        simp only at r0 r1
        have hlt : xb < w5.heap.size := (Array.getElem?_eq_some_iff.1 HXt.out).1
        obtain ⟨c0, c1, c2, c3, c4, c5, c6⟩ := HXt.out.cells
        rw [hxk] at c0
        have HEV : Hid (Sc.event word r = (x1, ⟨rr, true⟩)) := Lib.hid (by unfold Sc.event; rw [HK.out, HE0.out]; rfl)
        have HX9 : Hid (EvBox (w5.setCell ⟨b, 1, none⟩ (.bool true)) xb x1 none none 0 0) := Lib.hid ((but_set (i := 1) (.bool true) HRt.out).1.blk HXt.out (by simpa using Ne.symm hbx))
        have HR9 := Lib.hid (HRt.out.bad true)
        have HB9 := Lib.hid (HBt.out.on (but_set (i := 1) (.bool true) HRt.out).1 (by simp))
        have HE9 := Lib.hid (HEt.out.but (but_set (i := 1) (.bool true) HRt.out).1 (by intro j hj; simp at hj; subst hj; exact ⟨_, _, _, HRt.out, by decide, by decide⟩))
        obtain ⟨d0, d1, d2, d3, d4, d5, d6⟩ := HX9.out.cells
        have hf := fun i => blk_free HX9.out i
        rw [hxk] at d0
        go_wp2_with fail
        rw [← hxk, HX9.out.self]
        refine bodyPost_ret (v := evV x1 none none 0 0) ?_ rfl ?_
        · rw [hxk]
          simp [results, Tryz.results25, go_sem, d0, d1, d2, d3, d4, d5, d6]
          rw [← hxk]; rfl
        · rw [HEV.out]
          first
            | exact ⟨none, none, 0, 0, rfl, HE9.out, HR9.out, HB9.out⟩
            | exact ⟨none, none, ⟨0, 0, rfl⟩, HE9.out, HR9.out, HB9.out⟩
end Go.Proofs.YthpojljfmipngaaGreatDoor
