/-
  THE WALKS, twenty-second part: few of the laws of chapter 28. CONDITIONS: the events lie as ArgEvs says.
-/
import Derived.Test.YthpojljfmipngaaDoorWalkS
namespace Go.Proofs.YthpojljfmipngaaDoor
open Go.RowKit
def cutEv (x : Sc.Ev) : Sc.Ev := { x with bytes := x.bytes.take 10241, keep := x.keep.take 2049 }
def fewOf (s : Sc.Scr) : Sc.Scr := ⟨s.servers, s.area, (s.events.take 301).map cutEv⟩
/-- An argument's events: each slice's capacity holds its length. -/
def ArgEvs (w : World) (A : Option Addr) (l : List Sc.Ev) : Prop :=
  l ≠ [] → ∃ b off, A = some ⟨b, off, none⟩ ∧ b < w.heap.size ∧ ∀ i x, l[i]? = some x → ∃ K B kc bc, EvCells w b (off + i * 7) x K B kc bc ∧ EvAt w x K B ∧ x.keep.length ≤ kc ∧ x.bytes.length ≤ bc ∧ kc ≤ 9223372036854775807 ∧ bc ≤ 9223372036854775807
theorem ArgEvs.evs {w : World} {A : Option Addr} {l : List Sc.Ev} (h : ArgEvs w A l) : EvsAt w A l := fun hne => by
  obtain ⟨b, off, h1, h2, h3⟩ := h hne
  refine ⟨b, off, h1, h2, fun i x hi => ?_⟩
  obtain ⟨K, B, kc, bc, c1, c2, _⟩ := h3 i x hi
  exact ⟨K, B, kc, bc, c1, c2⟩
theorem ArgEvs.at_ {w : World} {A : Option Addr} {l : List Sc.Ev} (h : ArgEvs w A l) {k : Nat} {x : Sc.Ev} (hx : l[k]? = some x) :
    ∃ b off K B kc bc, A = some ⟨b, off, none⟩ ∧ b < w.heap.size ∧ EvCells w b (off + k * 7) x K B kc bc ∧ EvAt w x K B ∧ x.keep.length ≤ kc ∧ x.bytes.length ≤ bc ∧ kc ≤ 9223372036854775807 ∧ bc ≤ 9223372036854775807 := by
  obtain ⟨b, off, h1, h2, h3⟩ := h (by intro e; subst e; simp at hx)
  obtain ⟨K, B, kc, bc, c1, c2, c3⟩ := h3 k x hx
  exact ⟨b, off, K, B, kc, bc, h1, h2, c1, c2, c3⟩
theorem CellsAt.take {w : World} {A : Option Addr} {vs : List Value} (h : CellsAt w A vs) (n : Nat) : CellsAt w A (vs.take n) := fun hne => by
  obtain ⟨b, off, h1, h2, h3⟩ := h (by intro e; subst e; simp at hne)
  refine ⟨b, off, h1, h2, fun i v hi => h3 i v ?_⟩
  rw [List.getElem?_take] at hi
  split at hi
  · exact hi
  · cases hi
theorem EvAt.cut {w : World} {x : Sc.Ev} {K A : Option Addr} (h : EvAt w x K A) : EvAt w (cutEv x) K A := by
  refine ⟨?_, ?_, ?_, ?_⟩
  · have : boolCells (cutEv x).keep = (boolCells x.keep).take 2049 := by unfold boolCells cutEv; rw [List.map_take]
    rw [this]; exact h.keep.take _
  · have : Lib.byteCells (cutEv x).bytes = (Lib.byteCells x.bytes).take 10241 := by unfold Lib.byteCells cutEv; rw [List.map_take]
    rw [this]; exact h.bytes.take _
  · unfold cutEv; have := h.kl; simp; omega
  · unfold cutEv; have := h.bl; simp; omega
/-- The row that the call has grown. -/
theorem own_evs {w : World} {B : Nat} {v : Value} {n : Nat} {rs : List EvR} (h : Own 45 7 B v n (rs.flatMap EvR.row) w) (hn : rs.length = n) (hE : ∀ r ∈ rs, EvAt w r.x r.K r.A) : ∃ A c, v = .slice A n c ∧ EvsAt w A (rs.map EvR.x) := by
  rcases h.own.2 with ⟨rfl, h0⟩ | ⟨g, cap, cur, rfl, hb, hg, rest⟩
  · have he : rs = [] := List.eq_nil_of_length_eq_zero (by rw [hn, h0])
    subst he
    exact ⟨_, _, by rw [h0], EvsAt.nil _ _⟩
  · refine ⟨_, _, rfl, fun _ => ⟨g, 0, rfl, (Array.getElem?_eq_some_iff.1 hg).1, fun i x hi => ?_⟩⟩
    rw [List.getElem?_map] at hi
    cases hr : rs[i]? with
    | none => rw [hr] at hi; cases hi
    | some r =>
      rw [hr] at hi
      obtain rfl : r.x = x := by simpa using hi
      have hc : ∀ j u, r.row[j]? = some u → w.cell? ⟨g, 0 + i * 7 + j, none⟩ = some u := by
        intro j u hj
        have hm : (rs.flatMap EvR.row)[i * 7 + j]? = some u := flat_get rs i j r hr u hj
        have := h.own.cells (g := g) rfl (i * 7 + j) u hm
        have hadd : (⟨g, 0, none⟩ : Addr).add (i * 7 + j) = ⟨g, i * 7 + j, none⟩ := by unfold Addr.add; split <;> simp_all
        rw [hadd] at this
        rw [Nat.zero_add]; exact this
      exact ⟨r.K, r.A, r.kc, r.bc, ⟨hc 0 _ rfl, hc 1 _ rfl, hc 2 _ rfl, hc 3 _ rfl, hc 4 _ rfl, hc 5 _ rfl, hc 6 _ rfl⟩, hE r (List.mem_of_getElem? hr)⟩
set_option maxRecDepth 100000 in
set_option maxHeartbeats 8000000 in
theorem few_any (s : Sc.Scr) (A : Option Addr) (c : Nat) (w : World) (hl : s.events.length ≤ 9223372036854775807) (hA : ArgEvs w A s.events) :
    Calls Tryd.prog 12 #[scrV s A c] w fun e w' => ∃ A' c', e = .returned (scrV (fewOf s) A' c') ∧ EvsAt w' A' (fewOf s).events ∧ Below w.heap.size w w' := by
  obtain ⟨sv, ar, evs⟩ := s
  simp only at hl hA
  have hb1 := below_box w (.cells #[.int .i64 sv, .int .i64 ar, .slice A evs.length c] 28)
  have hb2 := below_box (w.alloc (.cells #[.int .i64 sv, .int .i64 ar, .slice A evs.length c] 28)) (.cells #[.int .i64 0, .int .i64 0, .slice none 0 0] 28)
  have hx1 := blk_next hb2 (heap_alloc_new w (.cells #[.int .i64 sv, .int .i64 ar, .slice A evs.length c] 28))
  have hx2 := heap_alloc_new (w.alloc (.cells #[.int .i64 sv, .int .i64 ar, .slice A evs.length c] 28)) (.cells #[.int .i64 0, .int .i64 0, .slice none 0 0] 28)
  have hsz : (w.alloc (.cells #[.int .i64 sv, .int .i64 ar, .slice A evs.length c] 28)).heap.size = w.heap.size + 1 := by simp
  have hsz2 : ((w.alloc (.cells #[.int .i64 sv, .int .i64 ar, .slice A evs.length c] 28)).alloc (.cells #[.int .i64 0, .int .i64 0, .slice none 0 0] 28)).heap.size = w.heap.size + 2 := by simp
  rw [hsz] at hx2
  have HX1 := Lib.hid hx1
  have HX2 := Lib.hid hx2
  have HB2 := Lib.hid (hb1.trans (hb2.mono hb1.size))
  have HSZ := Lib.hid hsz2
  clear hb1 hb2 hx1 hx2 hsz hsz2
  unfold scrV
  go_enter Tryd.func12, Tryd.ntmps12
  go_wp2_with fail
  generalize (w.alloc (.cells #[.int .i64 sv, .int .i64 ar, .slice A evs.length c] 28)).alloc (.cells #[.int .i64 0, .int .i64 0, .slice none 0 0] 28) = w2 at HX1 HX2 HB2 HSZ ⊢
  generalize hsb : w.heap.size = sb at HX1 HX2 HSZ ⊢
  go_loopw [3, 4, 5, 9] (fun l _ _ i wr => ∃ (k : Nat) (rs : List EvR), k ≤ evs.length ∧ k ≤ 301 ∧ rs.length = k ∧ i = .int .i64 k ∧ Own 45 7 (sb + 2) l k (rs.flatMap EvR.row) wr ∧ Hid (rs.map EvR.x = (evs.take k).map cutEv) ∧ Hid (∀ r ∈ rs, EvAt w r.x r.K r.A) ∧ Below (sb + 2) w2 wr) (fun _ _ _ i _ => evs.length - (intOf i).toNat)
  case atStart =>
    refine ⟨0, [], Nat.zero_le _, Nat.zero_le _, rfl, rfl, ⟨World.ownsRow_nil _ _ _ _, ?_⟩, Lib.hid rfl, Lib.hid (by simp), Below.refl _ _⟩
    have := HSZ.out
    omega
  case round =>
    obtain ⟨k, rs, hk, hk1, hrl, rfl, hO, hR, hE, hb⟩ := hrel
    have HRL := Lib.hid hrl
    clear hrl
    have HO := Lib.hid hO
    have HB := Lib.hid hb
    have hbw : Below w.heap.size w wr := HB2.out.trans (hb.mono (by omega))
    have HBW := Lib.hid hbw
    clear hO hb
    by_cases hlt : k < evs.length
    · have hx : evs[k]? = some evs[k] := List.getElem?_eq_getElem hlt
      have HT : Hid ((evs.take (k + 1)).map cutEv = (evs.take k).map cutEv ++ [cutEv evs[k]]) := Lib.hid (by rw [List.take_succ_eq_append_getElem hlt, List.map_append]; rfl)
      generalize evs[k] = x at hx HT
      obtain ⟨g, off, K, A', kc, bc, rfl, hgl, hcl, hev, hc1, hc2, hc3, hc4⟩ := hA.at_ hx
      obtain ⟨c0, c1, c2, c3, c4, c5, c6⟩ := hcl.same (hbw.block g hgl)
      have hglr : g < wr.heap.size := Nat.lt_of_lt_of_le hgl hbw.size
      have HEV := Lib.hid hev
      clear hA hx hcl hev hbw
      by_cases hkk : k = 301
      · have HKK : Hid ((evs.take k).map cutEv = (evs.take 301).map cutEv) := Lib.hid (by rw [hkk])
        have hkb : ((k : Int) == 301) = true := by rw [hkk]; rfl
        have h301 := Lib.hid hkk
        clear hkk
        have hbx := below_box wr (.cells #[.int .i64 x.kind, .int .i64 x.node, .int .i64 x.to, .int .i64 x.n, .int .i64 x.bit, .slice K x.keep.length kc, .slice A' x.bytes.length bc] 45)
        have HOa := Lib.hid (HO.out.next hbx)
        have HBa := Lib.hid (HB.out.trans (hbx.mono HO.out.le))
        have HBWa := Lib.hid (HBW.out.trans (hbx.mono HBW.out.size))
        have hsp : sb + 2 ≤ wr.heap.size := HO.out.le
        clear HO HB HBW hbx
        have HO := HOa
        have HB := HBa
        have HBW := HBWa
        clear HOa HBa HBWa
        have HFE : Hid (rs.map EvR.x = (evs.take 301).map cutEv) := Lib.hid (by rw [hR.out, HKK.out])
        have hsbl : sb < (wr.alloc (.cells #[.int .i64 x.kind, .int .i64 x.node, .int .i64 x.to, .int .i64 x.n, .int .i64 x.bit, .slice K x.keep.length kc, .slice A' x.bytes.length bc] 45)).heap.size := by have := HO.out.le; omega
        have HX1r := Lib.hid ((HB.out.block sb (by omega)).trans HX1.out)
        have HX2r := Lib.hid ((HB.out.block (sb + 1) (by omega)).trans HX2.out)
        obtain ⟨A9, c9, rfl⟩ := own_shape HO.out
        have hst := but_set (i := 2) (.slice A9 k c9) HX1r.out
        have HX2s := Lib.hid (hst.1.blk HX2r.out (by simp))
        have h3 := set3 HX2s.out (.int .i64 sv) (.int .i64 ar) (.slice A9 k c9)
        have HOW := Lib.hid ((HO.out.but hst.1 (by intro j hj; simp at hj; omega)).but h3.1 (by intro j hj; simp at hj; omega))
        have HBF := Lib.hid (HBW.out.trans ((hst.1.to (B := w.heap.size) (Nat.le_trans HB2.out.size (by have := HB.out.size; omega)) (by intro j hj; simp at hj; omega)).trans (h3.1.to (B := w.heap.size) (by have := HBW.out.size; simp; omega) (by intro j hj; simp at hj; omega))))
        have s0 := blk_cells HX1r.out 0
        have s1 := blk_cells HX1r.out 1
        have s2 := blk_cells HX1r.out 2
        have sf := fun i => blk_free HX1r.out i
        have t0 := blk_cells hst.2 0
        have t1 := blk_cells hst.2 1
        have t2 := blk_cells hst.2 2
        have q0 := blk_cells HX2s.out 0
        have q1 := blk_cells HX2s.out 1
        have q2 := blk_cells HX2s.out 2
        have qf := fun i => blk_free HX2s.out i
        have qlt : sb + 1 < ((wr.alloc (.cells #[.int .i64 x.kind, .int .i64 x.node, .int .i64 x.to, .int .i64 x.n, .int .i64 x.bit, .slice K x.keep.length kc, .slice A' x.bytes.length bc] 45)).setCell ⟨sb, 2, none⟩ (.slice A9 k c9)).heap.size := (Array.getElem?_eq_some_iff.1 HX2s.out).1
        have Z0 := Lib.hid (blk_cells h3.2 0)
        have Z1 := Lib.hid (blk_cells h3.2 1)
        have Z2 := Lib.hid (blk_cells h3.2 2)
        clear hst h3 hR
        go_wp2_with fail
        refine bodyPost_ret (v := .agg #[.int .i64 sv, .int .i64 ar, .slice A9 k c9]) ?_ rfl ?_
        · have z0 := Z0.out
          have z1 := Z1.out
          have z2 := Z2.out
          simp [results, Tryd.results12, go_sem, z0, z1, z2]
        · obtain ⟨A8, c8, he8, hE8⟩ := own_evs HOW.out HRL.out (fun r hr => (hE.out r hr).next HBF.out)
          injection he8 with e1 e2 e3
          subst e1
          subst e3
          rw [HFE.out] at hE8
          have hlen : k = ((evs.take 301).map cutEv).length := by rw [← HFE.out, List.length_map]; exact HRL.out.symm
          unfold fewOf
          exact ⟨A9, c9, by simp only; rw [← hlen], hE8, HBF.out⟩
      · have hkb : ((k : Int) == 301) = false := by rw [beq_eq_false_iff_ne]; omega
        obtain ⟨n1, hn1⟩ : ∃ n, n = (cutEv x).bytes.length := ⟨_, rfl⟩
        obtain ⟨n2, hn2⟩ : ∃ n, n = (cutEv x).keep.length := ⟨_, rfl⟩
        have hm1 : min (x.bytes.length : Int) 10241 = (n1 : Int) := by rw [hn1]; unfold cutEv; simp; omega
        have hm2 : min (x.keep.length : Int) 2049 = (n2 : Int) := by rw [hn2]; unfold cutEv; simp; omega
        have hn1b : n1 ≤ bc := by rw [hn1]; unfold cutEv; simp; omega
        have hn2k : n2 ≤ kc := by rw [hn2]; unfold cutEv; simp; omega
        have H1 := Lib.hid hn1
        have H2 := Lib.hid hn2
        have hbx := below_box wr (.cells #[.int .i64 x.kind, .int .i64 x.node, .int .i64 x.to, .int .i64 x.n, .int .i64 x.bit, .slice K x.keep.length kc, .slice A' x.bytes.length bc] 45)
        have hxx : EvBox (wr.alloc (.cells #[.int .i64 x.kind, .int .i64 x.node, .int .i64 x.to, .int .i64 x.n, .int .i64 x.bit, .slice K x.keep.length kc, .slice A' x.bytes.length bc] 45)) wr.heap.size x K A' kc bc := heap_alloc_new wr _
        clear hn1 hn2
        go_wp2_with fail
        have hwrs : sb + 2 ≤ wr.heap.size := HO.out.le
        clear c0 c1 c2 c3 c4 c5 c6
        generalize wr.alloc (.cells #[.int .i64 x.kind, .int .i64 x.node, .int .i64 x.to, .int .i64 x.n, .int .i64 x.bit, .slice K x.keep.length kc, .slice A' x.bytes.length bc] 45) = w3 at hbx hxx ⊢
        generalize hxe : wr.heap.size = xb at hxx hwrs ⊢
        obtain ⟨c0, c1, c2, c3, c4, c5, c6⟩ := hxx.cells
        have hxlt : xb < w3.heap.size := (Array.getElem?_eq_some_iff.1 hxx).1
        have f5 := blk_free hxx 5
        have f6 := blk_free hxx 6
        have hst := but_set (i := 6) (.slice A' n1 bc) hxx
        have hst2 := but_set (i := 5) (.slice K n2 kc) hst.2
        have hx4 : EvBox ((w3.setCell ⟨xb, 6, none⟩ (.slice A' n1 bc)).setCell ⟨xb, 5, none⟩ (.slice K n2 kc)) xb (cutEv x) K A' kc bc := by
          unfold EvBox; rw [hst2.2, H1.out, H2.out]; rfl
        have e5 := blk_cells hst.2 5
        have g5 := blk_free hst.2 5
        have hxlt2 : xb < (w3.setCell ⟨xb, 6, none⟩ (.slice A' n1 bc)).heap.size := (Array.getElem?_eq_some_iff.1 hst.2).1
        have HB4 : Hid (Below xb wr ((w3.setCell ⟨xb, 6, none⟩ (.slice A' n1 bc)).setCell ⟨xb, 5, none⟩ (.slice K n2 kc))) := Lib.hid ((hxe ▸ hbx).trans ((hst.1.trans hst2.1).to (Nat.le_of_lt hxlt) (by intro j hj; simp at hj; omega)))
        have HX4 := Lib.hid hx4
        have HX5 : Hid (EvBox ((w3.setCell ⟨xb, 6, none⟩ (.slice A' n1 bc)).setCell ⟨xb, 5, none⟩ (.slice K n2 kc)).drew xb (cutEv x) K A' kc bc) := Lib.hid hx4
        have HB5 : Hid (Below xb wr ((w3.setCell ⟨xb, 6, none⟩ (.slice A' n1 bc)).setCell ⟨xb, 5, none⟩ (.slice K n2 kc)).drew) := Lib.hid (HB4.out.trans (below_drewN (Below.refl _ _) 1))
        clear HX4 HB4
        clear hx4 hst hst2 hxx hbx
        go_region
        generalize ((w3.setCell ⟨xb, 6, none⟩ (.slice A' n1 bc)).setCell ⟨xb, 5, none⟩ (.slice K n2 kc)).drew = w4 at HX5 HB5 ⊢
        clear c0 c1 c2 c3 c4 c5 c6 f5 f6 e5 g5 hxlt hxlt2
        have hOw := HO.out.next (hxe.symm ▸ HB5.out)
        have HOW := Lib.hid hOw
        clear hOw
        obtain ⟨c0, c1, c2, c3, c4, c5, c6⟩ := HX5.out.cells
        simp only [show (cutEv x).kind = x.kind from rfl, show (cutEv x).node = x.node from rfl, show (cutEv x).to = x.to from rfl, show (cutEv x).n = x.n from rfl, show (cutEv x).bit = x.bit from rfl] at c0 c1 c2 c3 c4
        have hxlt : xb < w4.heap.size := (Array.getElem?_eq_some_iff.1 HX5.out).1
        go_wp2_with (at_builtin; refine wpList_own_append rfl _ _ 26 45 zeroEv 7 88 rfl Tryd.underlying26 info45 rfl (by decide) HOW.out rfl (EvR.row ⟨cutEv x, K, A', kc, bc⟩) 1 rfl rfl (by intro u hu; simp only [EvR.row, List.mem_cons, List.not_mem_nil, or_false] at hu; rcases hu with rfl | rfl | rfl | rfl | rfl | rfl | rfl <;> rfl) rfl (by unfold maxLen; omega) (by omega) ?_)
        intro v' w5 hO5 hb5
        have HO5 := Lib.hid hO5
        have HB6 := Lib.hid (HB.out.trans ((HB5.out.mono hwrs).trans hb5))
        clear hO5 hb5
        go_wp2_with fail
        go_roundw
        case rel =>
          refine ⟨k + 1, rs ++ [⟨cutEv x, K, A', kc, bc⟩], by omega, by omega, by rw [List.length_append, HRL.out]; rfl, by go_num, ?_, Lib.hid ?_, Lib.hid ?_, HB6.out⟩
          · rw [List.flatMap_append]; simpa using HO5.out
          · rw [List.map_append, hR.out, HT.out]; rfl
          · intro r hr
            rcases List.mem_append.1 hr with hr | hr
            · exact hE.out r hr
            · rw [List.mem_singleton] at hr; subst hr; exact HEV.out.cut
        case measure => simp [intOf]; omega
    · have HKK : Hid ((evs.take k).map cutEv = (evs.take 301).map cutEv) := Lib.hid (by rw [List.take_of_length_le (by omega), List.take_of_length_le (by omega)])
      have HFE : Hid (rs.map EvR.x = (evs.take 301).map cutEv) := Lib.hid (by rw [hR.out, HKK.out])
      have hsbl : sb < wr.heap.size := by have := HO.out.le; omega
      have HX1r := Lib.hid ((HB.out.block sb (by omega)).trans HX1.out)
      have HX2r := Lib.hid ((HB.out.block (sb + 1) (by omega)).trans HX2.out)
      obtain ⟨A9, c9, rfl⟩ := own_shape HO.out
      have hst := but_set (i := 2) (.slice A9 k c9) HX1r.out
      have HX2s := Lib.hid (hst.1.blk HX2r.out (by simp))
      have h3 := set3 HX2s.out (.int .i64 sv) (.int .i64 ar) (.slice A9 k c9)
      have HOW := Lib.hid ((HO.out.but hst.1 (by intro j hj; simp at hj; omega)).but h3.1 (by intro j hj; simp at hj; omega))
      have HBF := Lib.hid (HBW.out.trans ((hst.1.to (B := w.heap.size) (Nat.le_trans HB2.out.size (by have := HB.out.size; omega)) (by intro j hj; simp at hj; omega)).trans (h3.1.to (B := w.heap.size) (by have := HBW.out.size; simp; omega) (by intro j hj; simp at hj; omega))))
      have s0 := blk_cells HX1r.out 0
      have s1 := blk_cells HX1r.out 1
      have s2 := blk_cells HX1r.out 2
      have sf := fun i => blk_free HX1r.out i
      have t0 := blk_cells hst.2 0
      have t1 := blk_cells hst.2 1
      have t2 := blk_cells hst.2 2
      have q0 := blk_cells HX2s.out 0
      have q1 := blk_cells HX2s.out 1
      have q2 := blk_cells HX2s.out 2
      have qf := fun i => blk_free HX2s.out i
      have qlt : sb + 1 < (wr.setCell ⟨sb, 2, none⟩ (.slice A9 k c9)).heap.size := (Array.getElem?_eq_some_iff.1 HX2s.out).1
      have Z0 := Lib.hid (blk_cells h3.2 0)
      have Z1 := Lib.hid (blk_cells h3.2 1)
      have Z2 := Lib.hid (blk_cells h3.2 2)
      clear hst h3 hR
      go_wp2_with fail
      refine bodyPost_ret (v := .agg #[.int .i64 sv, .int .i64 ar, .slice A9 k c9]) ?_ rfl ?_
      · have z0 := Z0.out
        have z1 := Z1.out
        have z2 := Z2.out
        simp [results, Tryd.results12, go_sem, z0, z1, z2]
      · obtain ⟨A8, c8, he8, hE8⟩ := own_evs HOW.out HRL.out (fun r hr => (hE.out r hr).next HBF.out)
        injection he8 with e1 e2 e3
        subst e1
        subst e3
        rw [HFE.out] at hE8
        have hlen : k = ((evs.take 301).map cutEv).length := by rw [← HFE.out, List.length_map]; exact HRL.out.symm
        unfold fewOf
        exact ⟨A9, c9, by simp only; rw [← hlen], hE8, HBF.out⟩
end Go.Proofs.YthpojljfmipngaaDoor
