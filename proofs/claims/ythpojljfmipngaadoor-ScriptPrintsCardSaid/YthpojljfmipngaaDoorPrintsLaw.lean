/-
  THE WALKS of prints and ScriptPrints, and how a row of scripts lies in memory. CONDITIONS: Env; the scripts lie as ArgEvs and ArgScrs say.
-/
import Derived.Test.YthpojljfmipngaaDoorLawSame
import Derived.Test.YthpojljfmipngaaDoorRefText
import Derived.Test.YthpojljfmipngaaDoorArgs
namespace Go.Proofs.YthpojljfmipngaaDoor
open Go.RowKit
set_option maxRecDepth 100000 in
set_option maxHeartbeats 8000000 in
theorem prints_any (s : Sc.Scr) (A : Option Addr) (c : Nat) (w : World) (henv : Env w) (hl : s.events.length ≤ 9223372036854775807) (hA : ArgEvs w A s.events) :
    Calls Tryd.prog 9 #[scrV s A c] w fun e w' => e = .returned (.bool true) ∧ Below w.heap.size w w' := by
  have hb1 := below_box w (.cells #[.int .i64 s.servers, .int .i64 s.area, .slice A s.events.length c] 28)
  have hx1 : ScrBox (w.alloc (.cells #[.int .i64 s.servers, .int .i64 s.area, .slice A s.events.length c] 28)) w.heap.size s A c := heap_alloc_new w _
  have HA := Lib.hid (hA.next hb1)
  have HX := Lib.hid hx1
  have HB := Lib.hid hb1
  have HENV := Lib.hid henv
  have HHL := Lib.hid hl
  clear hA hx1 hb1 henv hl
  unfold scrV
  obtain ⟨c0, c1, c2⟩ := HX.out.cells
  go_enter Tryd.func9, Tryd.ntmps9
  go_wp2_with fail
  generalize w.alloc (.cells #[.int .i64 s.servers, .int .i64 s.area, .slice A s.events.length c] 28) = w2 at HA HX HB c0 c1 c2 ⊢
  generalize hsb : w.heap.size = sb at HX c0 c1 c2 ⊢
  refine (few_any s A c _ HHL.out HA.out).mono ?_
  rintro e w3 ⟨A3, c3, rfl, hE3, hb3⟩
  have HX3 := Lib.hid (HX.out.next hb3)
  have HB3 := Lib.hid (HB.out.trans (hb3.mono HB.out.size))
  have HE3 := Lib.hid hE3
  clear hb3 hE3 HA HX HB c0 c1 c2
  have HFL := Lib.hid (few_len s)
  have HFR := Lib.hid (few_rows s)
  generalize fewOf s = fs at HE3 HFL HFR ⊢
  unfold scrV
  obtain ⟨c0, c1, c2⟩ := HX3.out.cells
  have hf := fun i => blk_free HX3.out i
  have hlt : sb < w3.heap.size := (Array.getElem?_eq_some_iff.1 HX3.out).1
  have h3 := set3 HX3.out (.int .i64 fs.servers) (.int .i64 fs.area) (.slice A3 fs.events.length c3)
  have HX4 : Hid (ScrBox (((w3.setCell ⟨sb, 0, none⟩ (.int .i64 fs.servers)).setCell ⟨sb, 1, none⟩ (.int .i64 fs.area)).setCell ⟨sb, 2, none⟩ (.slice A3 fs.events.length c3)) sb fs A3 c3) := Lib.hid h3.2
  have HE4 := Lib.hid (HE3.out.skip28 h3.1 HX3.out)
  have hb4 := h3.1.to (B := w.heap.size) HB3.out.size (by intro j hj; simp at hj; omega)
  have HB4 := Lib.hid (HB3.out.trans hb4)
  clear h3 hb4 HX3 HE3 HB3
  go_upto_region 2 with (fail)
  generalize ((w3.setCell ⟨sb, 0, none⟩ (.int .i64 fs.servers)).setCell ⟨sb, 1, none⟩ (.int .i64 fs.area)).setCell ⟨sb, 2, none⟩ (.slice A3 fs.events.length c3) = w4 at HX4 HE4 HB4 ⊢
  clear c0 c1 c2 hf hlt
  obtain ⟨c0, c1, c2⟩ := HX4.out.cells
  go_wp2_with fail
  refine (copied_any fs A3 c3 _ (Nat.le_trans HFL.out (by decide)) HE4.out HFR.out).mono ?_
  rintro e w5 ⟨A5, c5, rfl, hE5, hb5⟩
  have hbx := below_box w5 (.cells #[.int .i64 fs.servers, .int .i64 fs.area, .slice A5 fs.events.length c5] 28)
  have hb56 := hb5.trans (hbx.mono hb5.size)
  have HX6 := Lib.hid (HX4.out.next hb56)
  have HE6 := Lib.hid (HE4.out.next hb56)
  have HF6 := Lib.hid (hE5.next hbx)
  have HB6 := Lib.hid (HB4.out.trans (hb56.mono HB4.out.size))
  have HY6 : Hid (ScrBox (w5.alloc (.cells #[.int .i64 fs.servers, .int .i64 fs.area, .slice A5 fs.events.length c5] 28)) w5.heap.size fs A5 c5) := Lib.hid (heap_alloc_new w5 _)
  clear hE5 hb5 hbx hb56 HX4 HE4 HB4 c0 c1 c2
  unfold scrV
  go_upto_region 3 with (fail)
  generalize w5.alloc (.cells #[.int .i64 fs.servers, .int .i64 fs.area, .slice A5 fs.events.length c5] 28) = w6 at HX6 HE6 HF6 HB6 HY6 ⊢
  generalize w5.heap.size = tb at HY6 ⊢
  obtain ⟨d0, d1, d2⟩ := HY6.out.cells
  go_wp2_with fail
  refine (print_any fs A5 c5 _ (HENV.out.next HB6.out) HF6.out).mono ?_
  rintro e w7 ⟨rfl, hb7⟩
  have HX7 := Lib.hid (HX6.out.next hb7)
  have HY7 := Lib.hid (HY6.out.next hb7)
  have HE7 := Lib.hid (HE6.out.next hb7)
  have HF7 := Lib.hid (HF6.out.next hb7)
  have HB7 := Lib.hid (HB6.out.trans (hb7.mono HB6.out.size))
  clear hb7 HX6 HY6 HE6 HF6 HB6 d0 d1 d2
  obtain ⟨d0, d1, d2⟩ := HY7.out.cells
  obtain ⟨⟨tx, er⟩, hp⟩ : ∃ p, Sc.printOf fs = p := ⟨_, rfl⟩
  have HP := Lib.hid hp
  rw [hp]
  simp only []
  clear hp
  go_wp2_with fail
  refine (check_any fs A5 c5 _ HF7.out).mono ?_
  rintro e w8 ⟨rfl, hb8⟩
  have HX8 := Lib.hid (HX7.out.next hb8)
  have HY8 := Lib.hid (HY7.out.next hb8)
  have HE8 := Lib.hid (HE7.out.next hb8)
  have HF8 := Lib.hid (HF7.out.next hb8)
  have HB8 := Lib.hid (HB7.out.trans (hb8.mono HB7.out.size))
  clear hb8 HX7 HY7 HE7 HF7 HB7 d0 d1 d2
  obtain ⟨d0, d1, d2⟩ := HY8.out.cells
  obtain ⟨c0, c1, c2⟩ := HX8.out.cells
  go_wp2_with fail
  have hS := refSame_any fs fs A5 A3 c5 c3 w8 (Nat.le_trans HFL.out (by decide)) HF8.out HE8.out
  rw [decide_eq_true rfl] at hS
  refine hS.mono ?_
  rintro e w9 ⟨rfl, hb9⟩
  have HX9 := Lib.hid (HX8.out.next hb9)
  have HE9 := Lib.hid (HE8.out.next hb9)
  have HB9 := Lib.hid (HB8.out.trans (hb9.mono HB8.out.size))
  clear hb9 hS HX8 HY8 HE8 HF8 HB8 d0 d1 d2 c0 c1 c2
  obtain ⟨c0, c1, c2⟩ := HX9.out.cells
  go_wp2_with fail
  refine (refRight_any fs A3 c3 _ HE9.out).mono ?_
  rintro e w10 ⟨rfl, hb10⟩
  have HX10 := Lib.hid (HX9.out.next hb10)
  have HE10 := Lib.hid (HE9.out.next hb10)
  have HB10 := Lib.hid (HB9.out.trans (hb10.mono HB9.out.size))
  clear hb10 HX9 HE9 HB9 c0 c1 c2
  by_cases hc : Sc.checkOf fs = 0
  · rw [decide_eq_true hc, hc]
    have HC := Lib.hid hc
    clear hc
    obtain ⟨c0, c1, c2⟩ := HX10.out.cells
    go_wp2_with fail
    refine (refText_any fs A3 c3 _ HE10.out HC.out).mono ?_
    rintro e w11 ⟨rfl, hb11⟩
    have HB11 := Lib.hid (HB10.out.trans (hb11.mono HB10.out.size))
    clear hb11 c0 c1 c2 HX10 HE10 HB10
    by_cases hlen : 262144 < (Sc.textOf fs).length
    · obtain ⟨h1, h2⟩ : tx = [] ∧ er = 3 := by
        have := HP.out
        unfold Sc.printOf at this
        rw [if_pos HC.out, if_pos hlen] at this
        exact ⟨congrArg Prod.fst this.symm, congrArg Prod.snd this.symm⟩
      subst h1 h2
      have hl2 : (262144 : Int) < (⟨(Sc.textOf fs).toArray⟩ : ByteArray).size := by rw [Lib.size_eq]; simp only; omega
      generalize (⟨(Sc.textOf fs).toArray⟩ : ByteArray) = S1 at hl2 ⊢
      clear hlen
      go_wp2_with fail
      go_ret
      exact ⟨rfl, hsb ▸ HB11.out⟩
    · obtain ⟨h1, h2⟩ : tx = Sc.textOf fs ∧ er = 0 := by
        have := HP.out
        unfold Sc.printOf at this
        rw [if_pos HC.out, if_neg hlen] at this
        exact ⟨congrArg Prod.fst this.symm, congrArg Prod.snd this.symm⟩
      subst h1 h2
      have hl2 : ¬ (262144 : Int) < (⟨(Sc.textOf fs).toArray⟩ : ByteArray).size := by rw [Lib.size_eq]; simp only; omega
      generalize (⟨(Sc.textOf fs).toArray⟩ : ByteArray) = S1 at hl2 ⊢
      clear hlen
      go_wp2_with fail
      go_ret
      exact ⟨rfl, hsb ▸ HB11.out⟩
  · have hc2 : Sc.checkOf fs = 2 := by
      unfold Sc.checkOf at hc ⊢
      split
      · rfl
      · rename_i h; rw [if_neg h] at hc; exact absurd rfl hc
    obtain ⟨h1, h2⟩ : tx = [] ∧ er = 2 := by
      have := HP.out
      unfold Sc.printOf at this
      rw [if_neg hc] at this
      exact ⟨congrArg Prod.fst this.symm, congrArg Prod.snd this.symm⟩
    rw [decide_eq_false hc, hc2]
    subst h1 h2
    clear hc hc2
    go_wp2_with fail
    go_ret
    exact ⟨rfl, hsb ▸ HB10.out⟩
open Go.RowKit
/-- An argument's row of scripts. -/
def ArgScrs (w : World) (A : Option Addr) (l : List Sc.Scr) : Prop :=
  l ≠ [] → ∃ b off, A = some ⟨b, off, none⟩ ∧ b < w.heap.size ∧ ∀ i s, l[i]? = some s → ∃ E c, w.cell? ⟨b, off + i * 3, none⟩ = some (.int .i64 s.servers) ∧ w.cell? ⟨b, off + i * 3 + 1, none⟩ = some (.int .i64 s.area) ∧ w.cell? ⟨b, off + i * 3 + 2, none⟩ = some (.slice E s.events.length c) ∧ ArgEvs w E s.events ∧ s.events.length ≤ 9223372036854775807
theorem ArgScrs.at_ {w wr : World} {A : Option Addr} {l : List Sc.Scr} (h : ArgScrs w A l) (hb : Below w.heap.size w wr) {k : Nat} {s : Sc.Scr} (hs : l[k]? = some s) :
    ∃ b off E c, A = some ⟨b, off, none⟩ ∧ b < wr.heap.size ∧ wr.cell? ⟨b, off + k * 3, none⟩ = some (.int .i64 s.servers) ∧ wr.cell? ⟨b, off + k * 3 + 1, none⟩ = some (.int .i64 s.area) ∧ wr.cell? ⟨b, off + k * 3 + 2, none⟩ = some (.slice E s.events.length c) ∧ ArgEvs wr E s.events ∧ s.events.length ≤ 9223372036854775807 := by
  obtain ⟨b, off, h1, h2, h3⟩ := h (by intro e; subst e; simp at hs)
  obtain ⟨E, c, c0, c1, c2, c3, c4⟩ := h3 k s hs
  exact ⟨b, off, E, c, h1, Nat.lt_of_lt_of_le h2 hb.size, (hb.cell (p := ⟨b, off + k * 3, none⟩) h2).trans c0, (hb.cell (p := ⟨b, off + k * 3 + 1, none⟩) h2).trans c1, (hb.cell (p := ⟨b, off + k * 3 + 2, none⟩) h2).trans c2, c3.next hb, c4⟩
theorem ArgScrs.next {w w' : World} {A : Option Addr} {l : List Sc.Scr} (h : ArgScrs w A l) (hb : Below w.heap.size w w') : ArgScrs w' A l := fun hne => by
  obtain ⟨b, off, h1, h2, h3⟩ := h hne
  refine ⟨b, off, h1, Nat.lt_of_lt_of_le h2 hb.size, fun i s hi => ?_⟩
  obtain ⟨E, c, c0, c1, c2, c3, c4⟩ := h3 i s hi
  exact ⟨E, c, (hb.cell (p := ⟨b, off + i * 3, none⟩) h2).trans c0, (hb.cell (p := ⟨b, off + i * 3 + 1, none⟩) h2).trans c1, (hb.cell (p := ⟨b, off + i * 3 + 2, none⟩) h2).trans c2, c3.next hb, c4⟩
set_option maxRecDepth 100000 in
set_option maxHeartbeats 8000000 in
theorem printsLaw_any (l : List Sc.Scr) (A : Option Addr) (c : Nat) (w : World) (henv : Env w) (hl : l.length ≤ 9223372036854775807) (hA : ArgScrs w A l) :
    Calls Tryd.prog 3 #[.slice A l.length c] w fun e w' => e = .returned (.bool true) ∧ Below w.heap.size w w' := by
  have HENV := Lib.hid henv
  have HA := Lib.hid hA
  clear henv hA
  go_enter Tryd.func3, Tryd.ntmps3
  go_wp2_with fail
  refine (wakes_any _ HENV.out).mono ?_
  rintro e w1 ⟨rfl, hb1⟩
  have HB1 := Lib.hid hb1
  clear hb1
  go_wp2_with fail
  go_loopw [3, 4, 9] (fun _ _ i wr => ∃ k : Nat, k ≤ l.length ∧ i = .int .i64 k ∧ Below w.heap.size w wr) (fun _ _ i _ => l.length - (intOf i).toNat)
  case atStart => exact ⟨0, Nat.zero_le _, rfl, HB1.out⟩
  case round =>
    obtain ⟨k, hk, rfl, hb⟩ := hrel
    have HB := Lib.hid hb
    by_cases hlt : k < l.length
    · have hx : l[k]? = some l[k] := List.getElem?_eq_getElem hlt
      generalize l[k] = s at hx
      obtain ⟨b, off, E, ec, rfl, hbl, c0, c1, c2, hE, hel⟩ := HA.out.at_ hb hx
      have hbx := below_box wr (.cells #[.int .i64 s.servers, .int .i64 s.area, .slice E s.events.length ec] 28)
      have HBX := Lib.hid (HB.out.trans (hbx.mono HB.out.size))
      have HE := Lib.hid (hE.next hbx)
      have HEL := Lib.hid hel
      clear hb hx hE hbx hel
      by_cases h6 : (k : Int) < 6
      · go_wp2_with fail
        refine (prints_any s E ec _ (HENV.out.next HBX.out) HEL.out HE.out).mono ?_
        rintro e w4 ⟨rfl, hb4⟩
        have HB4 := Lib.hid (HBX.out.trans (hb4.mono HBX.out.size))
        clear hb4 c0 c1 c2 hbl
        go_wp2_with fail
        go_roundw
        case rel => exact ⟨k + 1, by omega, by go_num, HB4.out⟩
        case measure => simp [intOf]; omega
      · go_wp2_with fail
        go_roundw
        case rel => exact ⟨k + 1, by omega, by go_num, HBX.out⟩
        case measure => simp [intOf]; omega
    · clear hb
      go_wp2_with fail
      go_ret
      exact ⟨rfl, HB.out⟩
open Go.ChangeShapes Go.WideShapes Go.ChangeAt in
theorem open_scrs {H : Type} {enc : TypeId × Value → H} {w : World} {held : Bool} {fuel : Nat} {cs : List Value} {x : DataW H × List MemPlace} (h : DataW.trod enc Tryd.prog w 0 (fun _ => true) held fuel 22 cs = some x) :
    ∃ (l : List Sc.Scr) (A : Option Addr) (c : Nat), cs = [.slice A l.length c] ∧ l.length ≤ 9223372036854775807 ∧ ArgScrs w A l := by
  rcases Go.Deep.open_slice Tryd.underlying22 h with ⟨rfl, _⟩ | ⟨a, len, cap, m, n, D, Pl, rfl, _, hlc, hcm, hm, _, hi⟩
  · exact ⟨[], none, 0, rfl, by simp, fun h => absurd rfl h⟩
  · have hm' : m = cap := by simpa using hm
    have : Inhabited (Sc.Scr × Option Addr × Nat) := ⟨⟨⟨0, 0, []⟩, none, 0⟩⟩
    obtain ⟨l, hl, hget⟩ := list_of (α := Sc.Scr × Option Addr × Nat) len (fun i r => (∀ j u, [Value.int .i64 r.1.servers, .int .i64 r.1.area, .slice r.2.1 r.1.events.length r.2.2][j]? = some u → w.cell? (a.add (i * 3 + j)) = some u) ∧ ArgEvs w r.2.1 r.1.events ∧ r.1.events.length ≤ 9223372036854775807) (fun i hil => by
      obtain ⟨cs', hcs, htr⟩ := hi i (by omega)
      rw [cells28] at hcs
      obtain ⟨_, hcl, hat⟩ := World.cells?_some hcs
      obtain ⟨s, A, c, rfl, hl, hA⟩ := open_scr htr
      refine ⟨⟨s, A, c⟩, fun j u hj => ?_, hA, hl⟩
      have hj3 : j < 3 := (List.getElem?_eq_some_iff.1 hj).1
      have := hat j hj3
      rw [hj, Go.Deep.add_add] at this
      exact this)
    refine ⟨l.map (·.1), some a, cap, by rw [List.length_map, hl], by rw [List.length_map, hl]; simp [maxLen] at hcm; omega, fun hne => ?_⟩
    have hlne : l ≠ [] := by intro e; subst e; exact hne rfl
    obtain ⟨t0, ht0⟩ : ∃ u, l[0]? = some u := ⟨_, List.getElem?_eq_getElem (List.length_pos_iff.2 hlne)⟩
    have h0 := (hget 0 t0 ht0).1 0 _ rfl
    have hs := spot_none h0
    obtain ⟨b, off, spot⟩ := a
    subst hs
    have hadd : ∀ j, (⟨b, off, none⟩ : Addr).add j = ⟨b, off + j, none⟩ := fun j => by simp [Addr.add]
    refine ⟨b, off, rfl, World.block_lt_of_cell? _ _ h0, fun i x hx => ?_⟩
    rw [List.getElem?_map] at hx
    cases hli : l[i]? with
    | none => rw [hli] at hx; cases hx
    | some r =>
      rw [hli] at hx
      obtain rfl : r.1 = x := by simpa using hx
      obtain ⟨hc, hr1, hr2⟩ := hget i r hli
      have hc' : ∀ j u, [Value.int .i64 r.1.servers, .int .i64 r.1.area, .slice r.2.1 r.1.events.length r.2.2][j]? = some u → w.cell? ⟨b, off + i * 3 + j, none⟩ = some u := fun j u hj => by
        have := hc j u hj
        rw [hadd, ← Nat.add_assoc] at this
        exact this
      exact ⟨r.2.1, r.2.2, hc' 0 _ rfl, hc' 1 _ rfl, hc' 2 _ rfl, hr1, hr2⟩
end Go.Proofs.YthpojljfmipngaaDoor
