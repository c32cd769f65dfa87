/-
  THE WALKS, ninth part: event of script's writer. CONDITIONS: Env; the event's rows lie below the builder's base; its kind is one of the eleven; its numbers are of 64 bits.
-/
import Derived.Test.YthpojljfmipngaaGreatDoorWalkH
import Derived.Test.YthpojljfmipngaaGreatDoorWalkC
import Derived.Deep.RegionWith
import Derived.Lib.LazyBuf
namespace Go.Proofs.YthpojljfmipngaaGreatDoor
open Go.RowKit
theorem word_get {k : Int} (h1 : 1 ≤ k) (h2 : k ≤ 11) : ∃ s, Sc.words[k.toNat]? = some s ∧ Sc.words.getD k.toNat [] = s ∧ s.length ≤ 7 := by
  obtain rfl | rfl | rfl | rfl | rfl | rfl | rfl | rfl | rfl | rfl | rfl : k = 1 ∨ k = 2 ∨ k = 3 ∨ k = 4 ∨ k = 5 ∨ k = 6 ∨ k = 7 ∨ k = 8 ∨ k = 9 ∨ k = 10 ∨ k = 11 := by omega
  all_goals exact ⟨_, rfl, rfl, by decide⟩
/-- An event's box beside a builder. -/
theorem EvBox.kept {w w' : World} {bx : Nat} {x : Sc.Ev} {K A : Option Addr} {kc bc b : Nat} (h : EvBox w bx x K A kc bc) (hk : Lib.OthersKept 5 (some b) w w') (hb : bx ≠ b) : EvBox w' bx x K A kc bc := by
  unfold EvBox at h ⊢
  exact hk bx _ h (fun e => hb (Option.some.inj e)) (fun c fz e => by injection e with _ e2; cases e2)
theorem offs_mem {k : Int} {o : Nat} (h : o ∈ Sc.offs k) : o = 1 ∨ o = 2 ∨ o = 3 ∨ o = 4 := by
  unfold Sc.offs at h
  split at h
  · simp at h; omega
  split at h
  · simp at h; omega
  split at h
  · simp at h; omega
  split at h
  · simp at h; omega
  split at h
  · simp at h; omega
  · simp at h
theorem offs_len (k : Int) : (Sc.offs k).length ≤ 2 := by
  unfold Sc.offs
  split
  · simp
  split
  · simp
  split
  · simp
  split
  · simp
  split
  · simp
  · simp
set_option maxRecDepth 20000 in
theorem nums_cells (x : Sc.Ev) (K B : Value) (hin : inI x.node ∧ inI x.to ∧ inI x.n ∧ inI x.bit) : ∀ (i o : Nat) v, (Sc.offs x.kind)[i]? = some o → (Sc.nums x)[i]? = some v → (#[.int .i64 x.kind, .int .i64 x.node, .int .i64 x.to, .int .i64 x.n, .int .i64 x.bit, K, B] : Array Value)[o]? = some (.int .i64 v) ∧ inI v := by
  intro i o v ho hv
  unfold Sc.nums at hv
  rw [List.getElem?_map, ho] at hv
  have hv' : Sc.getF x o = v := by simpa using hv
  rcases offs_mem (List.mem_of_getElem? ho) with rfl | rfl | rfl | rfl
  · obtain rfl : x.node = v := hv'
    exact ⟨rfl, hin.1⟩
  · obtain rfl : x.to = v := hv'
    exact ⟨rfl, hin.2.1⟩
  · obtain rfl : x.n = v := hv'
    exact ⟨rfl, hin.2.2.1⟩
  · obtain rfl : x.bit = v := hv'
    exact ⟨rfl, hin.2.2.2⟩
theorem quoteT_len (s : List UInt8) : (Sc.quoteT s).length ≤ 4 * s.length + 3 := by
  have := escTo_len s s.length
  unfold escTo at this
  rw [List.take_length] at this
  unfold Sc.quoteT
  simp at this ⊢; omega
theorem conv_bytes {w : World} {A : Option Addr} {l : List UInt8} (h : CellsAt w A (Lib.byteCells l)) (c : Nat) : (convert 37 9 (.slice A l.length c)).run Tryz.prog w = .ok (.string ⟨l.toArray⟩) w := by
  have := Lib.BytesIn.convert (P := Tryz.prog) (bytesIn_of h) (by simp) c 37 5 9 Tryz.underlying37 Tryz.underlying5 Tryz.underlying9
  rw [this, Lib.Lz.strOfNums_map]
set_option maxRecDepth 100000 in
set_option maxHeartbeats 8000000 in
theorem event_any (B b : Nat) (l : List UInt8) (x : Sc.Ev) (K A : Option Addr) (kc bc : Nat) (w0 w : World) (henv : Env w) (hB6 : 6 ≤ B) (h : IsB B b l w) (hw0 : w0.heap.size ≤ B) (hb0 : Below B w0 w) (hx : EvAt w0 x K A)
    (hk1 : 1 ≤ x.kind) (hk2 : x.kind ≤ 11) (hin : inI x.node ∧ inI x.to ∧ inI x.n ∧ inI x.bit) (hbl : x.bytes.length ≤ 1073741824) (hkl : x.keep.length ≤ 1073741824) (hlen : (l ++ Sc.evLine x).length ≤ 1099511627776) :
    Calls Tryz.prog 17 #[.pointer (some ⟨b, 0, none⟩), evV x K A kc bc] w fun e w' => e = .returned (.tuple #[]) ∧ IsB B b (l ++ Sc.evLine x) w' ∧ Below B w w' := by
  obtain ⟨ws, hws, hwd, hwl⟩ := word_get hk1 hk2
  have hbx : EvBox (w.alloc (.cells #[.int .i64 x.kind, .int .i64 x.node, .int .i64 x.to, .int .i64 x.n, .int .i64 x.bit, .slice K x.keep.length kc, .slice A x.bytes.length bc] 39)) w.heap.size x K A kc bc := heap_alloc_new w _
  have h1 := h.alloc (.cells #[.int .i64 x.kind, .int .i64 x.node, .int .i64 x.to, .int .i64 x.n, .int .i64 x.bit, .slice K x.keep.length kc, .slice A x.bytes.length bc] 39)
  have hb1 : Below B w (w.alloc (.cells #[.int .i64 x.kind, .int .i64 x.node, .int .i64 x.to, .int .i64 x.n, .int .i64 x.bit, .slice K x.keep.length kc, .slice A x.bytes.length bc] 39)) := (Below.refl _ _).alloc h.le_size _
  have hne : w.heap.size ≠ b := Nat.ne_of_gt h.lt
  unfold evV
  go_enter Tryz.func17, Tryz.ntmps17
  go_wp2_with fail
  generalize w.alloc (.cells #[.int .i64 x.kind, .int .i64 x.node, .int .i64 x.to, .int .i64 x.n, .int .i64 x.bit, .slice K x.keep.length kc, .slice A x.bytes.length bc] 39) = w1 at hbx h1 hb1 ⊢
  generalize w.heap.size = bx at hbx hne ⊢
  obtain ⟨c0, c1, c2, c3, c4, c5, c6⟩ := hbx.cells
  have hbxlt : bx < w1.heap.size := (Array.getElem?_eq_some_iff.1 hbx).1
  have hkn : ((x.kind.toNat : Nat) : Int) = x.kind := by omega
  have hk12 : x.kind < 12 := by omega
  have hwc : ∀ W : World, (W.alloc (.cells wordCells.toArray 9)).cell? ⟨W.heap.size, x.kind.toNat, none⟩ = some (.string ⟨ws.toArray⟩) := by
    intro W
    rw [blk_cells (heap_alloc_new W _), List.getElem?_toArray]
    unfold wordCells
    rw [List.getElem?_map, hws]; rfl
  have hl0 : (l ++ ws).length + (Sc.numsText (Sc.nums x)).length ≤ 1099511627776 := by
    unfold Sc.evLine at hlen
    rw [hwd] at hlen
    simp at hlen ⊢; omega
  have hl1 : l.length + ws.length ≤ 140737488355328 := by simp at hl0; omega
  have hl2 : ((l ++ ws) ++ Sc.numsText (Sc.nums x)).length ≤ 1099511627776 := by rw [List.length_append]; exact hl0
  have hol : (Sc.offs x.kind).length = (Sc.nums x).length := by unfold Sc.nums; rw [List.length_map]
  have hol2 : (Sc.offs x.kind).length ≤ 1048576 := Nat.le_trans (offs_len _) (by decide)
  have HC := Lib.hid (nums_cells x (.slice K x.keep.length kc) (.slice A x.bytes.length bc) hin)
  have HX := Lib.hid hx
  have HENV := Lib.hid henv
  have HB0 := Lib.hid hb0
  have HB1 := Lib.hid hb1
  have HOL := Lib.hid hol
  have HBX := Lib.hid hbx
  have H1 := Lib.hid h1
  clear hin hx henv hb0 hb1 hol hbx h1 hlen hl0 h
  go_region_with (first
    | (go_at_call 31; refine (words_any _).mono ?_; rintro e w2 ⟨rfl, rfl⟩)
    | (go_at_call 13; refine (writeString_at B b l ws _ rfl _ ((H1.out.alloc _).drew) hl1).mono ?_; rintro e w3 ⟨rfl, h3, hb3, hk3⟩))
  all_goals
    have HBX3 := Lib.hid ((HBX.out.next (below_box w1 (.cells wordCells.toArray 9))).next (below_drewN (Below.refl _ _) 1) |>.kept hk3 hne)
    have HB3 := Lib.hid (HB1.out.trans (((below_box w1 (.cells wordCells.toArray 9)).mono H1.out.le_size).trans ((below_drewN (Below.refl _ _) 1).trans hb3)))
    have H3 := Lib.hid h3
    clear c0 c1 c2 c3 c4 c5 c6 hwc hb3 hk3 h3
    have c0 := HBX3.out.cells.1
    go_wp2_with fail
    refine (fields_row bx x.kind _ c0).mono ?_
    rintro e w4 ⟨FA, rfl, hrow, hb4⟩
    have HBX4 := Lib.hid (HBX3.out.next hb4)
    have HB4 := Lib.hid (HB3.out.trans (hb4.mono H3.out.le_size))
    have H4 := Lib.hid (H3.out.next hb4)
    have he4 := HENV.out.below HB4.out hB6
    clear c0 hb4
    go_wp2_with fail
    refine (wnumbers_any B b (l ++ ws) FA bx _ (Sc.nums x) _ 39 _ _ he4 hB6 H4.out hl2 hol2 HOL.out hrow HBX4.out (by decide) hne HC.out).mono ?_
    rintro e w5 ⟨rfl, h5, hb5, hk5⟩
    have HBX5 := Lib.hid (HBX4.out.kept hk5 hne)
    have HB5 := Lib.hid (HB4.out.trans hb5)
    clear hrow he4 hb5 hk5 HBX3 HB3 H3 HBX4 HB4 H4
    obtain ⟨c0, c1, c2, c3, c4, c5, c6⟩ := HBX5.out.cells
    have hlx : ∀ m, (if x.kind = 1 then Sc.quoteT x.bytes else if x.kind = 8 then [32, 61] ++ Sc.bits x.keep else []) = m → l ++ Sc.evLine x = (((l ++ ws) ++ Sc.numsText (Sc.nums x)) ++ m) ++ [10] := fun m hm => by
      unfold Sc.evLine; rw [hm, hwd]; simp
    have HLX := Lib.hid hlx
    clear hlx
    generalize (l ++ ws) ++ Sc.numsText (Sc.nums x) = l5 at h5 hl2 HLX
    by_cases k1 : x.kind = 1
    · have b1 : (x.kind == 1) = true := by rw [k1]; rfl
      have hx5 := HX.out.next ((HB0.out.trans HB5.out).mono hw0)
      have hcv := conv_bytes hx5.bytes bc
      have HE := Lib.hid (HLX.out _ (if_pos k1))
      clear c1 c2 c3 c4 c5 HOL k1 hx5
      go_wp2_with fail
      refine (wquote_any B b l5 _ _ (by rw [Lib.size_eq]; exact hbl) h5 (by omega)).mono ?_
      rintro e w6 ⟨rfl, h6, hb6⟩
      go_wp2_with fail
      have hl6 : (l5 ++ Sc.quoteT x.bytes).length + 1 ≤ 140737488355328 := by
        have := quoteT_len x.bytes
        simp only [List.length_append] at hl2 ⊢; omega
      refine (writeByte_at B b _ 10 10 rfl _ h6 hl6).mono ?_
      rintro e w7 ⟨rfl, h7, hb7, _⟩
      go_wp2_with fail
      go_end0
      exact ⟨rfl, by rw [HE.out]; exact h7, HB5.out.trans (hb6.trans hb7)⟩
    · have b1 : (x.kind == 1) = false := beq_eq_false_iff_ne.2 k1
      by_cases k8 : x.kind = 8
      · have b8 : (x.kind == 8) = true := by rw [k8]; rfl
        have HE := Lib.hid (HLX.out _ ((if_neg k1).trans (if_pos k8)))
        clear c1 c2 c3 c4 c6 k1 k8 HOL HLX
        go_wp2_with fail
        refine (writeString_at B b l5 [32, 61] _ rfl _ h5 (by simp; omega)).mono ?_
        rintro e w6 ⟨rfl, h6, hb6, hk6⟩
        have c5 := (HBX5.out.kept hk6 hne).cells.2.2.2.2.2.1
        have HB6 := Lib.hid (HB5.out.trans hb6)
        clear hb6 hk6 HBX5 HB5
        go_wp2_with fail
        go_loopw [37] (fun i wr => ∃ k : Nat, k ≤ x.keep.length ∧ i = .int .i64 k ∧ IsB B b ((l5 ++ [32, 61]) ++ Sc.bits (x.keep.take k)) wr ∧ Below B w6 wr) (fun i _ => x.keep.length - (intOf i).toNat)
        case atStart => exact ⟨0, Nat.zero_le _, rfl, by simpa [Sc.bits] using h6, Below.refl _ _⟩
        case round =>
          obtain ⟨k, hk, rfl, hI, hb⟩ := hrel
          by_cases hlt : k < x.keep.length
          · have hlk : ((l5 ++ [32, 61]) ++ Sc.bits (x.keep.take k)).length + 1 ≤ 140737488355328 := by
              have : (Sc.bits (x.keep.take k)).length = k := by unfold Sc.bits; rw [List.length_map, List.length_take]; omega
              simp only [List.length_append] at hl2 ⊢; simp; omega
            have h1 : x.keep[k]? = some x.keep[k] := List.getElem?_eq_getElem hlt
            have HS : Hid (Sc.bits (x.keep.take (k + 1)) = Sc.bits (x.keep.take k) ++ [if x.keep[k] then 49 else 48]) := Lib.hid (by
              unfold Sc.bits; rw [List.take_succ_eq_append_getElem hlt, List.map_append]; rfl)
            obtain ⟨g, o, rfl, hg, cg⟩ := (HX.out.next ((HB0.out.trans (HB6.out.trans hb)).mono hw0)).keep.at_ (Below.refl _ _) (boolCells_get h1)
            generalize hkk : x.keep[k] = q at cg HS
            clear h1 hkk
            cases q
            · go_wp2_with fail
              refine (writeByte_at B b _ 48 48 rfl _ hI hlk).mono ?_
              rintro e w8 ⟨rfl, h8, hb8, _⟩
              go_wp2_with fail
              go_roundw
              case rel => exact ⟨k + 1, by omega, by go_num, by rw [HS.out, ← List.append_assoc]; exact h8, hb.trans hb8⟩
              case measure => simp [intOf]; omega
            · go_wp2_with fail
              refine (writeByte_at B b _ 49 49 rfl _ hI hlk).mono ?_
              rintro e w8 ⟨rfl, h8, hb8, _⟩
              go_wp2_with fail
              go_roundw
              case rel => exact ⟨k + 1, by omega, by go_num, by rw [HS.out, ← List.append_assoc]; exact h8, hb.trans hb8⟩
              case measure => simp [intOf]; omega
          · have HFIN : Hid (x.keep.take k = x.keep) := Lib.hid (List.take_of_length_le (by omega))
            go_wp2_with fail
            rw [HFIN.out] at hI
            have hl7 : ((l5 ++ [32, 61]) ++ Sc.bits x.keep).length + 1 ≤ 140737488355328 := by
              have : (Sc.bits x.keep).length = x.keep.length := by unfold Sc.bits; rw [List.length_map]
              simp only [List.length_append] at hl2 ⊢; simp; omega
            refine (writeByte_at B b _ 10 10 rfl _ hI hl7).mono ?_
            rintro e w7 ⟨rfl, h7, hb7, _⟩
            go_wp2_with fail
            go_end0
            exact ⟨rfl, by rw [HE.out, ← List.append_assoc]; exact h7, HB6.out.trans (hb.trans hb7)⟩
      · have b8 : (x.kind == 8) = false := beq_eq_false_iff_ne.2 k8
        have HE := Lib.hid (HLX.out _ ((if_neg k1).trans (if_neg k8)))
        clear c1 c2 c3 c4 c5 c6 k1 k8 HOL HLX
        go_wp2_with fail
        refine (writeByte_at B b l5 10 10 rfl _ h5 (by omega)).mono ?_
        rintro e w7 ⟨rfl, h7, hb7, _⟩
        go_wp2_with fail
        go_end0
        exact ⟨rfl, by rw [HE.out, List.append_nil]; exact h7, HB5.out.trans hb7⟩
end Go.Proofs.YthpojljfmipngaaGreatDoor
