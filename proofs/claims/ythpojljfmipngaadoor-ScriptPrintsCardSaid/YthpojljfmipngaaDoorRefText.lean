/-
  THE WALKS: Right, Line and Text of the reference of chapter 28; append to a row of bytes made of a string. CONDITIONS: events lie as EvAt and EvsAt say; Line, Text: the event, the script, may be.
-/
import Derived.Test.YthpojljfmipngaaDoorRefI
import Derived.Test.YthpojljfmipngaaDoorTellB
import Derived.Test.YthpojljfmipngaaDoorRefD
import Derived.Test.YthpojljfmipngaaDoorWalkQ
import Derived.Lib.FrozenHead
namespace Go.Proofs.YthpojljfmipngaaDoor
open Go.RowKit
theorem right_eq (s : Sc.Scr) : decide (Sc.checkOf s = 0) = !(decide (300 < s.events.length) || Sc.wides [s.servers, s.area] || s.events.any Sc.wrong) := by
  unfold Sc.checkOf
  cases Sc.wides [s.servers, s.area] <;> cases decide (300 < s.events.length) <;> cases s.events.any Sc.wrong <;> simp
set_option maxRecDepth 100000 in
set_option maxHeartbeats 4000000 in
theorem refRight_any (s : Sc.Scr) (A : Option Addr) (c : Nat) (w : World) (hA : EvsAt w A s.events) :
    Calls Tryd.prog 20 #[scrV s A c] w fun e w' => e = .returned (.bool (decide (Sc.checkOf s = 0))) ∧ Below w.heap.size w w' := by
  have HQ := Lib.hid (right_eq s)
  have hb1 := below_box w (.cells #[.int .i64 s.servers, .int .i64 s.area, .slice A s.events.length c] 28)
  have hx1 : ScrBox (w.alloc (.cells #[.int .i64 s.servers, .int .i64 s.area, .slice A s.events.length c] 28)) w.heap.size s A c := heap_alloc_new w _
  have HA := Lib.hid (hA.next hb1)
  have HX := Lib.hid hx1
  have HB := Lib.hid hb1
  have HSZ : Hid ((w.alloc (.cells #[.int .i64 s.servers, .int .i64 s.area, .slice A s.events.length c] 28)).heap.size = w.heap.size + 1) := Lib.hid (by simp)
  clear hA hx1 hb1
  unfold scrV
  generalize decide (Sc.checkOf s = 0) = q at HQ ⊢
  by_cases h3 : (300 : Int) < s.events.length
  · have HF : Hid (q = false) := Lib.hid (by rw [HQ.out, decide_eq_true (show 300 < s.events.length by omega)]; rfl)
    obtain ⟨c0, c1, c2⟩ := HX.out.cells
    go_enter Tryd.func20, Tryd.ntmps20
    go_wp2_with fail
    go_ret
    rw [HF.out]
    exact ⟨rfl, HB.out⟩
  have HL3 := Lib.hid h3
  obtain ⟨c0, c1, c2⟩ := HX.out.cells
  go_enter Tryd.func20, Tryd.ntmps20
  go_wp2_with fail
  generalize w.alloc (.cells #[.int .i64 s.servers, .int .i64 s.area, .slice A s.events.length c] 28) = w1 at HA HX HB HSZ ⊢
  generalize hsb : w.heap.size = sb at HX HSZ ⊢
  have HS1 : Hid (w.heap.size ≤ w1.heap.size) := Lib.hid HB.out.size
  have hbn := below_box w1 (.cells #[.int .i64 s.servers, .int .i64 s.area] 3)
  have HC := Lib.hid (cells_lit w1 3 (C := #[.int .i64 s.servers, .int .i64 s.area]) (vs := intCells [s.servers, s.area]) rfl rfl)
  have HN : Hid (Calls Tryd.prog 42 #[.slice (some ⟨sb + 1, 0, none⟩) 2 2] (w1.alloc (.cells #[.int .i64 s.servers, .int .i64 s.area] 3)) fun e w' => e = .returned (.bool (!Sc.wides [s.servers, s.area])) ∧ w' = (w1.alloc (.cells #[.int .i64 s.servers, .int .i64 s.area] 3))) := Lib.hid (by rw [← HSZ.out]; exact refWide_any [s.servers, s.area] _ 2 _ (by simp) HC.out)
  refine HN.out.mono ?_
  rintro e w2 ⟨rfl, rfl⟩
  have HA2 := Lib.hid (HA.out.next hbn)
  have HX2 := Lib.hid (HX.out.next hbn)
  have HB2 := Lib.hid (HB.out.trans (hbn.mono HS1.out))
  have HSS : Hid (w.heap.size ≤ (w1.alloc (.cells #[.int .i64 s.servers, .int .i64 s.area] 3)).heap.size) := Lib.hid (Nat.le_trans HS1.out hbn.size)
  clear hbn HC HA HX HB c0 c1 c2
  generalize w1.alloc (.cells #[.int .i64 s.servers, .int .i64 s.area] 3) = w2 at HA2 HX2 HB2 HSS ⊢
  obtain ⟨c0, c1, c2⟩ := HX2.out.cells
  cases hw : Sc.wides [s.servers, s.area] with
  | true =>
    have HF : Hid (q = false) := Lib.hid (by rw [HQ.out, hw]; simp)
    clear hw
    go_wp2_with fail
    go_ret
    rw [HF.out]
    exact ⟨rfl, HB2.out⟩
  | false =>
    have HQ2 : Hid (q = !s.events.any Sc.wrong) := Lib.hid (by rw [HQ.out, hw, decide_eq_false (show ¬ 300 < s.events.length by omega)]; rfl)
    clear hw HQ
    have hl : s.events.length ≤ 300 := by have := HL3.out; omega
    go_wp2_with fail
    go_loopw [4, 23] (fun _ i wr => ∃ k : Nat, k ≤ s.events.length ∧ i = .int .i64 k ∧ Hid ((s.events.take k).any Sc.wrong = false) ∧ Below w2.heap.size w2 wr) (fun _ i _ => s.events.length - (intOf i).toNat)
    case atStart => exact ⟨0, Nat.zero_le _, rfl, rfl, Below.refl _ _⟩
    case round =>
      obtain ⟨k, hk, rfl, H, hb⟩ := hrel
      by_cases hlt : k < s.events.length
      · have hx : s.events[k]? = some s.events[k] := List.getElem?_eq_getElem hlt
        have HS : Hid ((s.events.take (k + 1)).any Sc.wrong = Sc.wrong s.events[k]) := Lib.hid (by
          have h := H.out; rw [List.take_succ_eq_append_getElem hlt, List.any_append, h]; simp)
        have HV : Hid (Sc.wrong s.events[k] = true → s.events.any Sc.wrong = true) := Lib.hid (fun h => List.any_eq_true.2 ⟨_, List.getElem_mem hlt, h⟩)
        generalize s.events[k] = x at hx HS HV
        obtain ⟨b, off, K, B, kc, bc, rfl, hbl, ⟨d0, d1, d2, d3, d4, d5, d6⟩, hev⟩ := (HA2.out.next hb).at_ hx
        have hbx := below_box wr (.cells #[.int .i64 x.kind, .int .i64 x.node, .int .i64 x.to, .int .i64 x.n, .int .i64 x.bit, .slice K x.keep.length kc, .slice B x.bytes.length bc] 45)
        have HEV := Lib.hid (hev.next hbx)
        have HBR := Lib.hid (hb.trans (hbx.mono hb.size))
        clear hx hev hb hbx H c0 c1 c2
        go_wp2_with fail
        refine (refEvent_any x K B kc bc _ HEV.out).mono ?_
        rintro e w4 ⟨rfl, hb4⟩
        have HB4 := Lib.hid (HBR.out.trans (hb4.mono HBR.out.size))
        clear hb4 d0 d1 d2 d3 d4 d5 d6 hbl HEV HBR
        cases hwr : Sc.wrong x with
        | true =>
          have HF : Hid (q = false) := Lib.hid (by rw [HQ2.out, HV.out hwr]; rfl)
          clear hwr
          go_wp2_with fail
          go_ret
          rw [HF.out]
          exact ⟨rfl, HB2.out.trans (HB4.out.mono HSS.out)⟩
        | false =>
          have HR := Lib.hid (HS.out.trans hwr)
          clear hwr
          go_wp2_with fail
          go_roundw
          case rel => exact ⟨k + 1, by omega, by go_num, HR, HB4.out⟩
          case measure => simp [intOf]; omega
      · have HF : Hid (q = true) := by
          have h := H.out
          rw [List.take_of_length_le (by omega)] at h
          exact Lib.hid (by rw [HQ2.out, h]; rfl)
        have HB4 := Lib.hid hb
        clear hb
        go_wp2_with fail
        go_ret
        rw [HF.out]
        exact ⟨rfl, HB2.out.trans (HB4.out.mono HSS.out)⟩
open Go.RowKit
theorem word_right {k : Int} (h1 : 1 ≤ k) (h2 : k ≤ 11) : Sc.wordOf k = Sc.words.getD k.toNat [] := by unfold Sc.wordOf; rw [if_neg (by omega)]
theorem word_len (k : Int) : (Sc.wordOf k).length ≤ 10 := by
  unfold Sc.wordOf
  split
  · decide
  · rename_i h
    have hk : k = 1 ∨ k = 2 ∨ k = 3 ∨ k = 4 ∨ k = 5 ∨ k = 6 ∨ k = 7 ∨ k = 8 ∨ k = 9 ∨ k = 10 ∨ k = 11 := by omega
    rcases hk with rfl | rfl | rfl | rfl | rfl | rfl | rfl | rfl | rfl | rfl | rfl <;> decide
theorem wrong_lens {x : Sc.Ev} (h : Sc.wrong x = false) : x.bytes.length ≤ 10240 ∧ x.keep.length ≤ 2048 := by
  unfold Sc.wrong at h
  simp only [Bool.or_eq_false_iff, decide_eq_false_iff_not] at h
  omega
theorem nums_in {x : Sc.Ev} (h : Sc.wrong x = false) : ∀ v ∈ Sc.nums x, -9999999999 ≤ v ∧ v ≤ 9999999999 := by
  intro v hv
  have := (Sc.wrong_parts h).2.2.1 v hv
  unfold Sc.wideN at this
  simp only [Bool.or_eq_false_iff, decide_eq_false_iff_not] at this
  omega
theorem refQuote_len (l : Sc.Bs) : (refQuote l).length ≤ 4 * l.length + 3 := by
  have := quoteT_len l
  rw [quoteT_ref] at this
  simp only [List.length_cons] at this
  omega
set_option maxRecDepth 100000 in
set_option maxHeartbeats 4000000 in
theorem refLine_any (x : Sc.Ev) (K A : Option Addr) (kc bc : Nat) (w : World) (hx : EvAt w x K A) (hw : Sc.wrong x = false) :
    Calls Tryd.prog 44 #[evV x K A kc bc] w fun e w' => e = .returned (.string ⟨(Sc.evLine x).toArray⟩) ∧ Below w.heap.size w w' := by
  have hb1 := below_box w (.cells #[.int .i64 x.kind, .int .i64 x.node, .int .i64 x.to, .int .i64 x.n, .int .i64 x.bit, .slice K x.keep.length kc, .slice A x.bytes.length bc] 45)
  have hx1 : EvBox (w.alloc (.cells #[.int .i64 x.kind, .int .i64 x.node, .int .i64 x.to, .int .i64 x.n, .int .i64 x.bit, .slice K x.keep.length kc, .slice A x.bytes.length bc] 45)) w.heap.size x K A kc bc := heap_alloc_new w _
  have hk1 := (Sc.wrong_parts hw).1
  have hk2 := (Sc.wrong_parts hw).2.1
  obtain ⟨hl1, hl2⟩ := wrong_lens hw
  have hin := nums_in hw
  have hnl := numsText_le (Sc.nums x) (fun v hv => by have := hin v hv; omega)
  have hn2 := numsx_len x
  have HIN : Hid (∀ v ∈ Sc.nums x, -4611686018427387904 ≤ v ∧ v ≤ 9223372036854775807) := Lib.hid (fun v hv => by have := hin v hv; omega)
  have hwl := word_len x.kind
  have HE : Hid (Sc.evLine x = Sc.wordOf x.kind ++ (Sc.numsText (Sc.nums x) ++ ((if x.kind = 1 then 32 :: refQuote x.bytes else if x.kind = 8 then [32, 61] ++ Sc.bits x.keep else []) ++ [10]))) := Lib.hid (by
    unfold Sc.evLine
    rw [quoteT_ref, word_right hk1 hk2])
  have hql := refQuote_len x.bytes
  have hbl : (Sc.bits x.keep).length = x.keep.length := by unfold Sc.bits; rw [List.length_map]
  obtain ⟨T1, a1, E1⟩ := add_str (Sc.wordOf x.kind) (Sc.numsText (Sc.nums x)) (by omega)
  obtain ⟨T2, a2, E2⟩ := add_str [32] (refQuote x.bytes) (by simp only [List.length_cons, List.length_nil]; omega)
  obtain ⟨T3, a3, E3⟩ := add_str (Sc.wordOf x.kind ++ Sc.numsText (Sc.nums x)) ([32] ++ refQuote x.bytes) (by simp only [List.length_append, List.length_cons, List.length_nil]; omega)
  obtain ⟨T4, a4, E4⟩ := add_str (Sc.wordOf x.kind ++ Sc.numsText (Sc.nums x) ++ ([32] ++ refQuote x.bytes)) [10] (by simp only [List.length_append, List.length_cons, List.length_nil]; omega)
  obtain ⟨U2, b2, G2⟩ := add_str [32, 61] (Sc.bits x.keep) (by simp only [List.length_cons, List.length_nil]; omega)
  obtain ⟨U3, b3, G3⟩ := add_str (Sc.wordOf x.kind ++ Sc.numsText (Sc.nums x)) ([32, 61] ++ Sc.bits x.keep) (by simp only [List.length_append, List.length_cons, List.length_nil]; omega)
  obtain ⟨U4, b4, G4⟩ := add_str (Sc.wordOf x.kind ++ Sc.numsText (Sc.nums x) ++ ([32, 61] ++ Sc.bits x.keep)) [10] (by simp only [List.length_append, List.length_cons, List.length_nil]; omega)
  obtain ⟨V4, d4, J4⟩ := add_str (Sc.wordOf x.kind ++ Sc.numsText (Sc.nums x)) [10] (by simp only [List.length_append, List.length_cons, List.length_nil]; omega)
  rw [← E1, ← E2] at a3
  rw [← E3] at a4
  rw [← E1, ← G2] at b3
  rw [← G3] at b4
  rw [← E1] at d4
  have HT4 := Lib.hid E4
  have HU4 := Lib.hid G4
  have HV4 := Lib.hid J4
  have HX := Lib.hid hx1
  have HB := Lib.hid hb1
  have HEV := Lib.hid hx
  have HC62 : Hid (∀ W, Calls Tryd.prog 62 #[.int .i64 x.kind] W fun e w' => e = .returned (.string ⟨(Sc.wordOf x.kind).toArray⟩) ∧ Below W.heap.size W w') := Lib.hid (fun W => (refWord_any x.kind W).mono (by rintro e w' ⟨h1, rfl⟩; exact ⟨h1, Below.refl _ _⟩))
  have HC63 : Hid (∀ W, Calls Tryd.prog 63 #[.agg #[.int .i64 x.kind, .int .i64 x.node, .int .i64 x.to, .int .i64 x.n, .int .i64 x.bit, .slice K x.keep.length kc, .slice A x.bytes.length bc]] W fun e w' => ∃ F fc, e = .returned (.slice F (Sc.nums x).length fc) ∧ CellsAt w' F (intCells (Sc.nums x)) ∧ Below W.heap.size W w') := Lib.hid (fun W => refFields_any x K A kc bc W)
  have HC40 : Hid (∀ W F fc, CellsAt W F (intCells (Sc.nums x)) → Calls Tryd.prog 40 #[.slice F (Sc.nums x).length fc] W fun e w' => e = .returned (.string ⟨(Sc.numsText (Sc.nums x)).toArray⟩) ∧ Below W.heap.size W w') := Lib.hid (fun W F fc h => refNumbers_any (Sc.nums x) F fc W (Nat.le_trans (numsx_len x) (by decide)) h HIN.out)
  have HC41 : Hid (∀ W, Calls Tryd.prog 41 #[.string ⟨x.bytes.toArray⟩] W fun e w' => e = .returned (.string ⟨(refQuote x.bytes).toArray⟩) ∧ Below W.heap.size W w') := Lib.hid (fun W => refQuote_any ⟨x.bytes.toArray⟩ W (by rw [Lib.size_eq]; simp only; omega))
  have HC65 : Hid (∀ W, CellsAt W K (boolCells x.keep) → Calls Tryd.prog 65 #[.slice K x.keep.length kc] W fun e w' => e = .returned (.string ⟨(Sc.bits x.keep).toArray⟩) ∧ Below W.heap.size W w') := Lib.hid (fun W h => refBits_any x.keep K kc W (by omega) h)
  clear E1 E2 E3 E4 G2 G3 G4 J4 hx1 hb1 hx hk1 hk2 hl1 hl2 hin hnl hn2 hwl hql hbl hw
  generalize (⟨(Sc.wordOf x.kind).toArray⟩ : ByteArray) = S1 at HC62 a1
  generalize (⟨(Sc.numsText (Sc.nums x)).toArray⟩ : ByteArray) = S2 at HC40 a1
  generalize (⟨(refQuote x.bytes).toArray⟩ : ByteArray) = S3 at HC41 a2
  generalize (⟨(Sc.bits x.keep).toArray⟩ : ByteArray) = S4 at HC65 b2
  unfold evV
  go_enter Tryd.func44, Tryd.ntmps44
  go_upto_region 1 with (fail)
  generalize w.alloc (.cells #[.int .i64 x.kind, .int .i64 x.node, .int .i64 x.to, .int .i64 x.n, .int .i64 x.bit, .slice K x.keep.length kc, .slice A x.bytes.length bc] 45) = w1 at HX HB ⊢
  generalize hsb : w.heap.size = sb at HX ⊢
  have HSW : Hid (∀ w', Below w1.heap.size w1 w' → w'.cell? ⟨sb, 0, none⟩ = some (.int .i64 x.kind) ∧ w'.cell? ⟨sb, 1, none⟩ = some (.int .i64 x.node) ∧ w'.cell? ⟨sb, 2, none⟩ = some (.int .i64 x.to) ∧ w'.cell? ⟨sb, 3, none⟩ = some (.int .i64 x.n) ∧ w'.cell? ⟨sb, 4, none⟩ = some (.int .i64 x.bit) ∧ w'.cell? ⟨sb, 5, none⟩ = some (.slice K x.keep.length kc) ∧ w'.cell? ⟨sb, 6, none⟩ = some (.slice A x.bytes.length bc) ∧ Hid (Below w1.heap.size w1 w')) := Lib.hid (fun w' h => by
    obtain ⟨a0, a1, a2, a3, a4, a5, a6⟩ := (HX.out.next h).cells
    exact ⟨a0, a1, a2, a3, a4, a5, a6, Lib.hid h⟩)
  go_region_held3 (fun w' => w'.cell? ⟨sb, 0, none⟩ = some (.int .i64 x.kind) ∧ w'.cell? ⟨sb, 1, none⟩ = some (.int .i64 x.node) ∧ w'.cell? ⟨sb, 2, none⟩ = some (.int .i64 x.to) ∧ w'.cell? ⟨sb, 3, none⟩ = some (.int .i64 x.n) ∧ w'.cell? ⟨sb, 4, none⟩ = some (.int .i64 x.bit) ∧ w'.cell? ⟨sb, 5, none⟩ = some (.slice K x.keep.length kc) ∧ w'.cell? ⟨sb, 6, none⟩ = some (.slice A x.bytes.length bc) ∧ Hid (Below w1.heap.size w1 w')) (first
    | assumption
    | exact HSW.out _ (below_drewN (Below.refl _ _) 1)
    | (obtain ⟨_, _, _, _, _, _, _, hbl⟩ := ‹_ ∧ _ ∧ _ ∧ _ ∧ _ ∧ _ ∧ _ ∧ Hid _›; exact HSW.out _ (hbl.out.trans (hb9.mono hbl.out.size)))) (first
    | (go_at_call 62; refine (HC62.out _).mono ?_; rintro e w9 ⟨rfl, hb9⟩)
    | (go_at_call 63; refine (HC63.out _).mono ?_; rintro e w9 ⟨F, fc, rfl, hF9, hb9⟩)
    | (go_at_call 40; refine (HC40.out _ _ _ hF9).mono ?_; rintro e w9 ⟨rfl, hb9⟩))
  all_goals
    obtain ⟨_, _, _, _, _, _, _, hbl⟩ := ‹_ ∧ _ ∧ _ ∧ _ ∧ _ ∧ _ ∧ _ ∧ Hid _›
    have HX2 := Lib.hid (HX.out.next hbl.out)
    have HB2 := Lib.hid (HB.out.trans (hbl.out.mono HB.out.size))
    clear hbl
  clear HSW HC62 HC63 HC40 HX HB hb9 hF9
  rename_i w9a hb9a w9b hb9b hS9
  clear hS9 hb9a hb9b
  have HCV := Lib.hid (HEV.out.next HB2.out)
  obtain ⟨c0, c1, c2, c3, c4, c5, c6⟩ := HX2.out.cells
  by_cases h1 : x.kind = 1
  · have hkb : (x.kind == 1) = true := by rw [h1]; rfl
    have HF : Hid (T4 = ⟨(Sc.evLine x).toArray⟩) := Lib.hid (by rw [HT4.out, HE.out, if_pos h1]; simp)
    have hcv := conv_bytes HCV.out.bytes bc
    clear h1 b2 b3 b4 d4
    go_wp2_with fail
    refine (HC41.out _).mono ?_
    rintro e w10 ⟨rfl, hb10⟩
    have HB3 := Lib.hid (HB2.out.trans (hb10.mono HB2.out.size))
    have HX3 := Lib.hid (HX2.out.next hb10)
    clear hb10 hcv c0 c1 c2 c3 c4 c5 c6 HX2 HB2
    go_wp2_with fail
    go_ret
    rw [HF.out]
    exact ⟨rfl, hsb ▸ HB3.out⟩
  · have hkb : (x.kind == 1) = false := by rw [beq_eq_false_iff_ne]; exact h1
    by_cases h8 : x.kind = 8
    · have hkb8 : (x.kind == 8) = true := by rw [h8]; rfl
      have HF : Hid (U4 = ⟨(Sc.evLine x).toArray⟩) := Lib.hid (by rw [HU4.out, HE.out, if_neg h1, if_pos h8]; simp)
      clear h1 h8 a2 a3 a4 d4
      go_wp2_with fail
      refine (HC65.out _ HCV.out.keep).mono ?_
      rintro e w10 ⟨rfl, hb10⟩
      have HB3 := Lib.hid (HB2.out.trans (hb10.mono HB2.out.size))
      clear hb10 c0 c1 c2 c3 c4 c5 c6 HX2 HB2
      go_wp2_with fail
      go_ret
      rw [HF.out]
      exact ⟨rfl, hsb ▸ HB3.out⟩
    · have hkb8 : (x.kind == 8) = false := by rw [beq_eq_false_iff_ne]; exact h8
      have HF : Hid (V4 = ⟨(Sc.evLine x).toArray⟩) := Lib.hid (by rw [HV4.out, HE.out, if_neg h1, if_neg h8]; simp)
      clear h1 h8 a2 a3 a4 b2 b3 b4
      go_wp2_with fail
      go_ret
      rw [HF.out]
      exact ⟨rfl, hsb ▸ HB2.out⟩
open Go.RowKit
theorem run_storeCells_atM (P : Program) (g o : Nat) (t : TypeId) (fz : Nat × Nat) : ∀ (vs : List Value) (i : Nat) (cur : Array Value) (w : World), w.heap[g]? = some (.cells cur t fz) → cur.size ≤ fz.1 → o + i + vs.length ≤ cur.size → (∀ v ∈ vs, v.oneCell' = true) →
    (storeCells ⟨g, o, none⟩ vs i).run P w = .ok () (w.setRow g (cur.toList.take (o + i) ++ vs ++ cur.toList.drop (o + i + vs.length)).toArray)
  | [], i, cur, w, hg, _, _, _ => by
    simp only [storeCells, List.append_nil, List.length_nil, Nat.add_zero, List.take_append_drop, Array.toArray_toList]
    rw [setRow_self w g cur t fz hg]
    rfl
  | v :: rest, i, cur, w, hg, hfz, hl, h1 => by
    have hi : o + i < cur.size := by simp at hl; omega
    have hadd : (⟨g, o, none⟩ : Addr).add i = ⟨g, o + i, none⟩ := by unfold Addr.add; split <;> simp_all
    have hcell : w.cell? ⟨g, o + i, none⟩ = some cur[o + i] := by simp [World.cell?, hg, hi]
    have hfro : w.frozen? ⟨g, o + i, none⟩ = false := by
      obtain ⟨lo, hi'⟩ := fz
      simp only [World.frozen?, hg, Bool.and_eq_false_iff, decide_eq_false_iff_not]
      left
      simp only at hfz
      omega
    have hst : (store ((⟨g, o, none⟩ : Addr).add i) v).run P w = .ok () (w.setRow g (cur.setIfInBounds (o + i) v)) := by
      rw [hadd, run_store P w _ v _ (h1 v (by simp)), hcell]
      simp [hfro, setCell_eq_setRow w g (o + i) cur t fz v hg]
    have ih := run_storeCells_atM P g o t fz rest (i + 1) (cur.setIfInBounds (o + i) v) (w.setRow g (cur.setIfInBounds (o + i) v)) (setRow_heap w g cur _ t _ hg) (by simp; omega) (by simp at hl ⊢; omega) (fun x hx => h1 x (by simp [hx]))
    simp only [storeCells, Sem.run_bind, hst, Result.andThen_ok, ih, setRow_setRow]
    congr 3
    have e := list_seg_step cur.toList (o + i) v rest (by simp at hl ⊢; omega)
    simpa [Array.toList_setIfInBounds, Nat.add_assoc] using e
theorem run_append_room_stringM {P : Program} (w : World) (t u ty e : TypeId) (i : TypeInfo) (ht : P.underlying t = some (.slice e)) (hu : P.underlying u = some .string) (hi : P.info? e = some i) (hs1 : i.size = 1)
    (g sLen sCap : Nat) (cur : Array Value) (fz : Nat × Nat) (hg : w.heap[g]? = some (.cells cur e fz)) (hfz : cur.size ≤ fz.1) (s : ByteArray)
    (hroom : sLen + s.size ≤ sCap) (hfit : sLen + s.size ≤ cur.size) :
    (Builtin.append_ #[t, u] ty #[.slice (some ⟨g, 0, none⟩) sLen sCap, .string s]).run P w =
      .ok (.slice (some ⟨g, 0, none⟩) (sLen + s.size) sCap) (w.setRow g (cur.toList.take sLen ++ Lib.strCells s ++ cur.toList.drop (sLen + s.size)).toArray) := by
  have hf := Lib.run_firstCells_string (P := P) w 1 s
  have hst := run_storeCells_atM P g sLen e fz (Lib.strCells s) 0 cur w hg hfz (by simpa [Lib.strCells_length] using hfit) (Lib.strCells_oneCell s)
  simp only [Nat.add_zero, Lib.strCells_length] at hst
  simp [Builtin.append_, run_underlying ht, run_underlying hu, sizeOf, typeInfo, hi, hs1, Builtin.lenOf, hroom, hf, Addr.add_lit, hst]
/-- A row of bytes of the call's own, its block marked behind its cells or not. -/
structure OwnM (B : Nat) (v : Value) (out : Sc.Bs) (w : World) : Prop where
  row : ∃ g cap cur fz, v = .slice (some ⟨g, 0, none⟩) out.length cap ∧ B ≤ g ∧ w.heap[g]? = some (.cells cur 5 fz) ∧ (fz = (0, 0) ∨ cur.size ≤ fz.1) ∧ out.length ≤ cap ∧ cap ≤ maxLen ∧ cur.size = cap ∧ cur.toList.take out.length = Lib.byteCells out
  le : B ≤ w.heap.size
theorem OwnM.next {B : Nat} {v : Value} {out : Sc.Bs} {w w' : World} (h : OwnM B v out w) (hb : Below w.heap.size w w') : OwnM B v out w' := by
  obtain ⟨g, cap, cur, fz, rfl, hB, hg, rest⟩ := h.row
  exact ⟨⟨g, cap, cur, fz, rfl, hB, blk_next hb hg, rest⟩, Nat.le_trans h.le hb.size⟩
theorem OwnM.cells {B : Nat} {v : Value} {out : Sc.Bs} {w : World} (h : OwnM B v out w) : ∃ A c, v = .slice A out.length c ∧ CellsAt w A (Lib.byteCells out) := by
  obtain ⟨g, cap, cur, fz, rfl, hB, hg, _, _, _, _, ht⟩ := h.row
  refine ⟨_, _, rfl, fun _ => ⟨g, 0, rfl, (Array.getElem?_eq_some_iff.1 hg).1, fun i u hi => ?_⟩⟩
  rw [Nat.zero_add, cell_of_row w g i cur 5 fz hg]
  rw [← ht, List.getElem?_take] at hi
  split at hi
  · simpa using hi
  · cases hi
theorem OwnM.string {B : Nat} {v : Value} {out : Sc.Bs} {w : World} (h : OwnM B v out w) : (convert 43 9 v).run Tryd.prog w = .ok (.string ⟨out.toArray⟩) w := by
  obtain ⟨A, c, rfl, hc⟩ := h.cells
  exact conv_bytes hc c
theorem ownM_bytesW (w : World) (l : Sc.Bs) (hl : l.length ≤ 1000) : OwnM w.heap.size (.slice (some ⟨w.heap.size, 0, none⟩) l.length (bytesCap w l)) l (bytesW w l) := by
  have hge : l.length ≤ bytesCap w l := grownCap_ge w l.length 0 5
  have hle : bytesCap w l ≤ maxLen := grownCap_le_maxLen w l.length 0 5 (by unfold maxLen; omega)
  have hsz : (Lib.bytesCells w 5 ⟨l.toArray⟩).size = bytesCap w l := by
    unfold Lib.bytesCells
    have hs : (⟨l.toArray⟩ : ByteArray).size = l.length := Lib.size_eq _
    rw [hs]
    simp only [Array.size_append, Array.size_map, List.size_toArray, Array.size_replicate]
    unfold bytesCap at hge ⊢
    omega
  refine ⟨⟨w.heap.size, bytesCap w l, _, _, rfl, Nat.le_refl _, Lib.bytesWorld_at_new w 5 _, .inr (Nat.le_refl _), hge, hle, hsz, ?_⟩, (below_bytesW w l).size⟩
  unfold Lib.bytesCells
  rw [Array.toList_append, List.take_append_of_le_length (by simp), List.take_of_length_le (by simp)]
  unfold Lib.byteCells
  simp
theorem wpList_bfm_str {ops : Array Oper} {rest : List Oper} {o : Oper} {a : Act} {Q : Exit → Act → World → Prop} (hgd : o.guard = none) (s x : Operand)
    (ho : o.op = .call { callee := .builtin .append, args := #[s, x], argTypes := #[43, 9] }) {B : Nat} {v : Value} {out : Sc.Bs} {w : World} (hb : OwnM B v out w) (hs : a.eval s = v)
    (m : Sc.Bs) (str : ByteArray) (hm : str = ⟨m.toArray⟩) (hx : a.eval x = .string str) (hlen : out.length + m.length ≤ 140737488355328)
    (h : ∀ v' w', OwnM B v' (out ++ m) w' → Below B w w' → wpList Tryd.prog ops Q rest (a.put o.dst v') w') : wpList Tryd.prog ops Q (o :: rest) a w := by
  obtain ⟨i0, hi, hz0, hz1, hz2⟩ := info5'
  subst hm
  have hsz : (⟨m.toArray⟩ : ByteArray).size = m.length := Lib.size_eq _
  have hsc : Lib.strCells ⟨m.toArray⟩ = Lib.byteCells m := by unfold Lib.strCells Lib.byteCells; simp
  have hx1 : (Lib.byteCells out).length = out.length := byteCells_len out
  have hlo := hb.le
  have key : ∃ v' w', (Builtin.append_ #[43, 9] o.type #[v, .string ⟨m.toArray⟩]).run Tryd.prog w = .ok v' w' ∧ OwnM B v' (out ++ m) w' ∧ w.grownBy w' v.ownBlock := by
    obtain ⟨g, cap, cur, fz, rfl, hB, hg, hfz, hnc, hcm, hcs, ht⟩ := hb.row
    have holds : ∀ j u, (Lib.byteCells out)[j]? = some u → w.cell? ((⟨g, 0, none⟩ : Addr).add j) = some u := by
      intro j u hu
      have hadd : (⟨g, 0, none⟩ : Addr).add j = ⟨g, j, none⟩ := by unfold Addr.add; split <;> simp_all
      rw [hadd, cell_of_row w g j cur 5 fz hg]
      rw [← ht, List.getElem?_take] at hu
      split at hu
      · simpa using hu
      · cases hu
    by_cases hroom : out.length + m.length ≤ cap
    · rcases hfz with rfl | hfz
      · have hr := Lib.run_append_room_stringF (P := Tryd.prog) w 43 9 o.type 5 i0 Tryd.underlying43 Tryd.underlying9 hi hz1 g out.length cap cur (0, 0) hg (Nat.zero_le _) ⟨m.toArray⟩ (by rw [hsz]; exact hroom) (by rw [hsz]; omega)
        refine ⟨_, _, hr, ⟨⟨g, cap, _, (0, 0), by rw [hsz, List.length_append], hB, setRow_heap w g cur _ 5 _ hg, .inl rfl, by rw [List.length_append]; exact hroom, hcm, ?_, ?_⟩, by simp; exact hlo⟩, ⟨rfl, rfl, rfl, by simp, fun k _ hk => setRow_other w g k _ (fun e => hk (by simp [Value.ownBlock, e]))⟩⟩
        · rw [hsc, hsz]
          simp only [List.size_toArray, List.length_append, List.length_take, List.length_drop, Array.length_toList, byteCells_len]
          omega
        · rw [hsc, ht, byteCells_app]
          have : (out ++ m).length = (Lib.byteCells out ++ Lib.byteCells m).length := by rw [List.length_append, List.length_append, byteCells_len, byteCells_len]
          rw [this]
          exact List.take_left
      · have hr := run_append_room_stringM (P := Tryd.prog) w 43 9 o.type 5 i0 Tryd.underlying43 Tryd.underlying9 hi hz1 g out.length cap cur fz hg hfz ⟨m.toArray⟩ (by rw [hsz]; exact hroom) (by rw [hsz]; omega)
        have hsz2 : (cur.toList.take out.length ++ Lib.strCells ⟨m.toArray⟩ ++ cur.toList.drop (out.length + (⟨m.toArray⟩ : ByteArray).size)).toArray.size = cur.size := by
          rw [hsc, hsz]
          simp only [List.size_toArray, List.length_append, List.length_take, List.length_drop, Array.length_toList, byteCells_len]
          omega
        refine ⟨_, _, hr, ⟨⟨g, cap, _, fz, by rw [hsz, List.length_append], hB, setRow_heap w g cur _ 5 _ hg, .inr (by rw [hsz2]; exact hfz), by rw [List.length_append]; exact hroom, hcm, by rw [hsz2]; exact hcs, ?_⟩, by simp; exact hlo⟩, ⟨rfl, rfl, rfl, by simp, fun k _ hk => setRow_other w g k _ (fun e => hk (by simp [Value.ownBlock, e]))⟩⟩
        rw [hsc, ht, byteCells_app]
        have : (out ++ m).length = (Lib.byteCells out ++ Lib.byteCells m).length := by rw [List.length_append, List.length_append, byteCells_len, byteCells_len]
        rw [this]
        exact List.take_left
    · have hr := Lib.run_append_grow_string (P := Tryd.prog) w 43 9 o.type 5 i0 (.int .u8 0) Tryd.underlying43 Tryd.underlying9 hi hz0 ⟨g, 0, none⟩ out.length cap (Lib.byteCells out) (by rw [hz1, byteCells_len, Nat.mul_one]) holds ⟨m.toArray⟩ (by rw [hsz]; omega) (by rw [hsz]; omega) (by rw [hz2, hsz]; exact growslice_fits (by omega) (by omega))
      have hge := grownCap_ge w (out.length + m.length) cap 5
      have hcm2 : grownCap w (out.length + m.length) cap 5 ≤ maxLen := grownCap_le_maxLen w (out.length + m.length) cap 5 (by unfold maxLen; omega)
      rw [hsz, hsc] at hr
      refine ⟨_, _, hr, ⟨⟨w.heap.size, _, _, (0, 0), by rw [List.length_append], hlo, heap_alloc_new w.drew _, .inl rfl, by rw [List.length_append]; exact hge, hcm2, ?_, ?_⟩, by simp; omega⟩, ⟨rfl, rfl, rfl, by simp, fun k hk _ => heap_alloc_old w.drew _ hk⟩⟩
      · have hz1' : (Value.int IntKind.u8 0).cells.size = 1 := rfl
        simp only [Array.size_append, List.size_toArray, size_zeroCells, hz1', byteCells_len]
        omega
      · simp only [Array.toList_append, List.append_assoc]
        rw [← List.append_assoc, byteCells_app]
        have : (out ++ m).length = (Lib.byteCells out ++ Lib.byteCells m).length := by rw [List.length_append, List.length_append, byteCells_len, byteCells_len]
        rw [this]
        exact List.take_left
  obtain ⟨v', w', hr, ho', hg'⟩ := key
  refine wpList_plain hgd fun K hK => ?_
  unfold Oper.wp execOp
  simp only [ho, resolve, invoke, builtin, Sem.run_bind, Sem.run_pure, Result.andThen_ok, List.map_toArray, List.map_cons, List.map_nil, hs, hx, hr]
  refine hK _ _ (h v' w' ho' ((Below.refl B w).grown hg' hlo (fun k hk => ?_)))
  obtain ⟨g, cap, cur, fz, rfl, hB, _⟩ := hb.row
  simp [Value.ownBlock] at hk
  subst hk
  exact hB
open Go.RowKit
theorem check_parts {s : Sc.Scr} (h : Sc.checkOf s = 0) : Sc.wides [s.servers, s.area] = false ∧ s.events.length ≤ 300 ∧ ∀ x ∈ s.events, Sc.wrong x = false := by
  unfold Sc.checkOf at h
  split at h
  · cases h
  · rename_i hc
    simp only [Bool.or_eq_true, not_or, Bool.not_eq_true, decide_eq_false_iff_not] at hc
    refine ⟨hc.1.1, by omega, fun x hx => ?_⟩
    cases hw : Sc.wrong x with
    | false => rfl
    | true => rw [List.any_eq_true.2 ⟨x, hx, hw⟩] at hc; cases hc.2
theorem evLine_len {x : Sc.Ev} (h : Sc.wrong x = false) : (Sc.evLine x).length ≤ 50000 := by
  obtain ⟨hl1, hl2⟩ := wrong_lens h
  have hin := nums_in h
  have hnl := numsText_le (Sc.nums x) (fun v hv => by have := hin v hv; omega)
  have hn2 := numsx_len x
  have hwl := word_len x.kind
  have hql := quoteT_len x.bytes
  have hbl : (Sc.bits x.keep).length = x.keep.length := by unfold Sc.bits; rw [List.length_map]
  unfold Sc.evLine
  rw [← word_right (Sc.wrong_parts h).1 (Sc.wrong_parts h).2.1]
  simp only [List.length_append, List.length_cons, List.length_nil]
  split
  · omega
  split
  · simp only [List.length_append, List.length_cons, List.length_nil]; omega
  · simp only [List.length_nil]; omega
theorem flatLine_len : ∀ (l : List Sc.Ev), (∀ x ∈ l, Sc.wrong x = false) → (l.flatMap Sc.evLine).length ≤ l.length * 50000
  | [], _ => by simp
  | x :: l, h => by
    have h1 := evLine_len (h x (by simp))
    have h2 := flatLine_len l (fun y hy => h y (by simp [hy]))
    rw [List.flatMap_cons, List.length_append, List.length_cons]
    omega
set_option maxRecDepth 100000 in
set_option maxHeartbeats 4000000 in
theorem refText_any (s : Sc.Scr) (A : Option Addr) (c : Nat) (w : World) (hA : EvsAt w A s.events) (hc : Sc.checkOf s = 0) :
    Calls Tryd.prog 21 #[scrV s A c] w fun e w' => e = .returned (.string ⟨(Sc.textOf s).toArray⟩) ∧ Below w.heap.size w w' := by
  obtain ⟨hw, hl, hr⟩ := check_parts hc
  have hb1 := below_box w (.cells #[.int .i64 s.servers, .int .i64 s.area, .slice A s.events.length c] 28)
  have hx1 : ScrBox (w.alloc (.cells #[.int .i64 s.servers, .int .i64 s.area, .slice A s.events.length c] 28)) w.heap.size s A c := heap_alloc_new w _
  have hin : ∀ v ∈ [s.servers, s.area], -9999999999 ≤ v ∧ v ≤ 9999999999 := by
    intro v hv
    unfold Sc.wides at hw
    have := List.any_eq_false.1 hw v hv
    unfold Sc.wideN at this
    simp only [Bool.or_eq_true, decide_eq_true_eq, not_or] at this
    omega
  have hnl := numsText_le [s.servers, s.area] (fun v hv => by have := hin v hv; omega)
  simp only [List.length_cons, List.length_nil] at hnl
  have HIN : Hid (∀ v ∈ [s.servers, s.area], -4611686018427387904 ≤ v ∧ v ≤ 9223372036854775807) := Lib.hid (fun v hv => by have := hin v hv; omega)
  obtain ⟨T1, a1, E1⟩ := add_str [119, 111, 114, 108, 100] (Sc.numsText [s.servers, s.area]) (by simp only [List.length_cons, List.length_nil]; omega)
  obtain ⟨T2, a2, E2⟩ := add_str ([119, 111, 114, 108, 100] ++ Sc.numsText [s.servers, s.area]) [10] (by simp only [List.length_append, List.length_cons, List.length_nil]; omega)
  rw [← E1] at a2
  obtain ⟨hd, hhd⟩ : ∃ hd, hd = [119, 111, 114, 108, 100] ++ Sc.numsText [s.servers, s.area] ++ [10] := ⟨_, rfl⟩
  have hdl : hd.length ≤ 100 := by rw [hhd]; simp only [List.length_append, List.length_cons, List.length_nil]; omega
  rw [← hhd] at E2
  have HTX : Hid (Sc.textOf s = hd ++ s.events.flatMap Sc.evLine) := Lib.hid (by rw [hhd]; unfold Sc.textOf; simp)
  have hcv := fun W => conv_str W hd
  rw [← E2] at hcv
  have HA := Lib.hid (hA.next hb1)
  have HX := Lib.hid hx1
  have HB := Lib.hid hb1
  have HL := Lib.hid hl
  have HR := Lib.hid hr
  have HDL := Lib.hid hdl
  have HSZ : Hid ((w.alloc (.cells #[.int .i64 s.servers, .int .i64 s.area, .slice A s.events.length c] 28)).heap.size = w.heap.size + 1) := Lib.hid (by simp)
  clear E1 E2 hx1 hb1 hA hc hw hl hr hin hnl hhd hdl
  unfold scrV
  obtain ⟨c0, c1, c2⟩ := HX.out.cells
  have HN : Hid (∀ w1 : World, w1.heap.size = w.heap.size + 1 → Calls Tryd.prog 40 #[.slice (some ⟨w.heap.size + 1, 0, none⟩) 2 2] (w1.alloc (.cells #[.int .i64 s.servers, .int .i64 s.area] 3)) fun e w' => e = .returned (.string ⟨(Sc.numsText [s.servers, s.area]).toArray⟩) ∧ Below (w1.alloc (.cells #[.int .i64 s.servers, .int .i64 s.area] 3)).heap.size (w1.alloc (.cells #[.int .i64 s.servers, .int .i64 s.area] 3)) w') :=
    Lib.hid (fun w1 h1 => by rw [← h1]; exact refNumbers_any [s.servers, s.area] _ 2 _ (by simp) (cells_new w1 _ _ _ rfl) HIN.out)
  generalize (⟨(Sc.numsText [s.servers, s.area]).toArray⟩ : ByteArray) = S1 at HN a1
  go_enter Tryd.func21, Tryd.ntmps21
  go_wp2_with fail
  generalize w.alloc (.cells #[.int .i64 s.servers, .int .i64 s.area, .slice A s.events.length c] 28) = w1 at HA HX HB HSZ ⊢
  refine (HN.out w1 HSZ.out).mono ?_
  rintro e w2 ⟨rfl, hb2⟩
  have hbn := below_box w1 (.cells #[.int .i64 s.servers, .int .i64 s.area] 3)
  have hb12 := hbn.trans (hb2.mono hbn.size)
  have HA2 := Lib.hid (HA.out.next hb12)
  have HX2 := Lib.hid (HX.out.next hb12)
  have HB2 := Lib.hid (HB.out.trans (hb12.mono HB.out.size))
  clear hb2 hbn hb12 HA HX HB HSZ c0 c1 c2
  have HM := Lib.hid (ownM_bytesW w2 hd (Nat.le_trans HDL.out (by decide)))
  have hbw := below_bytesW w2 hd
  have HA3 := Lib.hid (HA2.out.next hbw)
  have HX3 := Lib.hid (HX2.out.next hbw)
  have HB3 := Lib.hid (HB2.out.trans (hbw.mono HB2.out.size))
  have HS3 : Hid (w.heap.size ≤ w2.heap.size) := Lib.hid HB2.out.size
  have HWW := Lib.hid hbw
  obtain ⟨c0, c1, c2⟩ := HX3.out.cells
  clear hbw HX2
  go_wp2_with fail
  generalize (Value.slice (some ⟨w2.heap.size, 0, none⟩) hd.length (bytesCap w2 hd)) = v0 at HM ⊢
  generalize bytesW w2 hd = w3 at HM HA3 HX3 HB3 HWW c0 c1 c2 ⊢
  clear a1 a2 hcv
  have hl : s.events.length ≤ 300 := HL.out
  go_loopw [3, 5, 20] (fun bv _ i wr => ∃ k : Nat, k ≤ s.events.length ∧ i = .int .i64 k ∧ OwnM w2.heap.size bv (hd ++ (s.events.take k).flatMap Sc.evLine) wr ∧ Below w2.heap.size w2 wr) (fun _ _ i _ => s.events.length - (intOf i).toNat)
  case atStart => exact ⟨0, Nat.zero_le _, rfl, by simpa using HM.out, HWW.out⟩
  case round =>
    obtain ⟨k, hk, rfl, hM, hb⟩ := hrel
    have HMM := Lib.hid hM
    have HB := Lib.hid hb
    clear hM
    by_cases hlt : k < s.events.length
    · have hx : s.events[k]? = some s.events[k] := List.getElem?_eq_getElem hlt
      have HS : Hid (hd ++ (s.events.take (k + 1)).flatMap Sc.evLine = (hd ++ (s.events.take k).flatMap Sc.evLine) ++ Sc.evLine s.events[k]) := Lib.hid (by
        rw [List.take_succ_eq_append_getElem hlt, List.flatMap_append]; simp)
      have hwr := HR.out _ (List.getElem_mem hlt)
      have hlen : (hd ++ (s.events.take k).flatMap Sc.evLine).length ≤ 20000000 := by
        have h1 := flatLine_len (s.events.take k) (fun y hy => HR.out y (List.mem_of_mem_take hy))
        have h2 := HDL.out
        rw [List.length_take] at h1
        rw [List.length_append]
        omega
      have hlen2 := evLine_len hwr
      generalize s.events[k] = x at hx HS hwr hlen2
      have HWR := Lib.hid hwr
      obtain ⟨b, off, K, B, kc, bc, rfl, hbl, ⟨d0, d1, d2, d3, d4, d5, d6⟩, hev⟩ := (HA2.out.next hb).at_ hx
      have hbx := below_box wr (.cells #[.int .i64 x.kind, .int .i64 x.node, .int .i64 x.to, .int .i64 x.n, .int .i64 x.bit, .slice K x.keep.length kc, .slice B x.bytes.length bc] 45)
      have HEV := Lib.hid (hev.next hbx)
      have HBR := Lib.hid (HB.out.trans (hbx.mono HB.out.size))
      have HM2 := Lib.hid (HMM.out.next hbx)
      clear hx hev hb hbx c0 c1 c2 hwr
      go_wp2_with fail
      refine (refLine_any x K B kc bc _ HEV.out HWR.out).mono ?_
      rintro e w4 ⟨rfl, hb4⟩
      have HM4 := Lib.hid (HM2.out.next hb4)
      have HB4 := Lib.hid (HBR.out.trans (hb4.mono HBR.out.size))
      clear hb4 d0 d1 d2 d3 d4 d5 d6 hbl HEV HBR HM2 HMM HB
      obtain ⟨ln, hln⟩ : ∃ ln, Sc.evLine x = ln := ⟨_, rfl⟩
      rw [hln] at HS hlen2 ⊢
      obtain ⟨S9, hS9⟩ : ∃ S9 : ByteArray, S9 = ⟨ln.toArray⟩ := ⟨_, rfl⟩
      rw [← hS9]
      have HS9 := Lib.hid hS9
      obtain ⟨acc, hacc⟩ : ∃ acc, hd ++ (s.events.take k).flatMap Sc.evLine = acc := ⟨_, rfl⟩
      rw [hacc] at HS hlen HM4
      clear hS9 hln hacc
      go_wp2_with (at_builtin; refine wpList_bfm_str rfl _ _ rfl HM4.out rfl ln S9 HS9.out rfl (by omega) ?_)
      intro v' w5 hM5 hb5
      have HM5 := Lib.hid hM5
      have HB5 := Lib.hid (HB4.out.trans hb5)
      clear hM5 hb5
      go_wp2_with fail
      go_roundw
      case rel => exact ⟨k + 1, by omega, by go_num, by rw [HS.out]; exact HM5.out, HB5.out⟩
      case measure => simp [intOf]; omega
    · have HF : Hid (hd ++ (s.events.take k).flatMap Sc.evLine = Sc.textOf s) := Lib.hid (by rw [HTX.out, List.take_of_length_le (by omega)])
      have hcv := HMM.out.string
      rw [HF.out] at hcv
      have HBZ := Lib.hid (HB2.out.trans (HB.out.mono HB2.out.size))
      clear hb
      go_wp2_with fail
      go_ret
      exact ⟨rfl, HBZ.out⟩
end Go.Proofs.YthpojljfmipngaaDoor
