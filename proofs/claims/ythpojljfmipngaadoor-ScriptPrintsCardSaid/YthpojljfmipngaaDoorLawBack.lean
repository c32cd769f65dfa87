/-
  THE WALK of ScriptBack. CONDITIONS: Env; the script lies as ArgEvs says.
-/
import Derived.Test.YthpojljfmipngaaDoorWalkT
import Derived.Test.YthpojljfmipngaaDoorWalkU
import Derived.Test.YthpojljfmipngaaDoorWalkV
import Derived.Test.YthpojljfmipngaaDoorLawLines
namespace Go.Proofs.YthpojljfmipngaaDoor
open Go.RowKit
theorem CellsAt.skip {w w' : World} {A : Option Addr} {vs : List Value} {sb : Nat} {cs : Array Value} {t : TypeId} (h : CellsAt w A vs) (hk : But [sb] w w') (hx : w.heap[sb]? = some (.cells cs t (0, 0))) (hv : ∀ v ∈ vs, v ∉ cs.toList) : CellsAt w' A vs := fun hne => by
  obtain ⟨b, off, h1, h2, h3⟩ := h hne
  have hb : b ≠ sb := by
    intro e
    subst e
    obtain ⟨v0, hv0⟩ : ∃ v, vs[0]? = some v := ⟨_, List.getElem?_eq_getElem (List.length_pos_iff.2 hne)⟩
    have := h3 0 v0 hv0
    rw [blk_cells hx] at this
    exact hv v0 (List.mem_of_getElem? hv0) (Array.mem_toList_iff.2 (Array.mem_of_getElem? this))
  have hh := hk.block b h2 (by simpa using hb)
  exact ⟨b, off, h1, Nat.lt_of_lt_of_le h2 hk.size, fun i v hi => (World.cell?_of_block (a := ⟨b, off + i, none⟩) hh).trans (h3 i v hi)⟩
theorem EvAt.skip28 {w w' : World} {x : Sc.Ev} {K A : Option Addr} {sb : Nat} {p q : Int} {X : Option Addr} {n m : Nat} (h : EvAt w x K A) (hk : But [sb] w w') (hx : w.heap[sb]? = some (.cells #[.int .i64 p, .int .i64 q, .slice X n m] 28 (0, 0))) : EvAt w' x K A :=
  ⟨h.keep.skip hk hx (by
      intro v hv
      unfold boolCells at hv
      obtain ⟨b, _, rfl⟩ := List.mem_map.1 hv
      simp),
   h.bytes.skip hk hx (by
      intro v hv
      unfold Lib.byteCells at hv
      obtain ⟨b, _, rfl⟩ := List.mem_map.1 hv
      simp), h.kl, h.bl⟩
theorem EvsAt.skip28 {w w' : World} {A : Option Addr} {l : List Sc.Ev} {sb : Nat} {p q : Int} {X : Option Addr} {n m : Nat} (h : EvsAt w A l) (hk : But [sb] w w') (hx : w.heap[sb]? = some (.cells #[.int .i64 p, .int .i64 q, .slice X n m] 28 (0, 0))) : EvsAt w' A l := fun hne => by
  obtain ⟨b, off, h1, h2, h3⟩ := h hne
  have hb : b ≠ sb := by
    intro e
    subst e
    obtain ⟨v0, hv0⟩ : ∃ v, l[0]? = some v := ⟨_, List.getElem?_eq_getElem (List.length_pos_iff.2 hne)⟩
    obtain ⟨K, B, kc, bc, ⟨_, _, _, _, _, _, c6⟩, _⟩ := h3 0 v0 hv0
    rw [blk_cells hx, Array.getElem?_eq_none (by simp)] at c6
    cases c6
  have hh := hk.block b h2 (by simpa using hb)
  refine ⟨b, off, h1, Nat.lt_of_lt_of_le h2 hk.size, fun i x hi => ?_⟩
  obtain ⟨K, B, kc, bc, c1, c2⟩ := h3 i x hi
  exact ⟨K, B, kc, bc, c1.same hh, c2.skip28 hk hx⟩
theorem ArgEvs.next {w w' : World} {A : Option Addr} {l : List Sc.Ev} (h : ArgEvs w A l) (hb : Below w.heap.size w w') : ArgEvs w' A l := fun hne => by
  obtain ⟨b, off, h1, h2, h3⟩ := h hne
  refine ⟨b, off, h1, Nat.lt_of_lt_of_le h2 hb.size, fun i x hi => ?_⟩
  obtain ⟨K, B, kc, bc, c1, c2, c3⟩ := h3 i x hi
  exact ⟨K, B, kc, bc, c1.same (hb.block b h2), c2.next hb, c3⟩
theorem print_len (s : Sc.Scr) (h : (Sc.printOf s).2 = 0) : (Sc.printOf s).1.length ≤ 262144 := by
  unfold Sc.printOf at h ⊢
  split at h
  · rename_i hc
    split at h
    · cases h
    · rename_i hl
      rw [if_pos hc, if_neg hl]
      simp only; omega
  · cases h
theorem few_len (s : Sc.Scr) : (fewOf s).events.length ≤ 301 := by
  unfold fewOf; simp; omega
set_option maxRecDepth 100000 in
set_option maxHeartbeats 8000000 in
theorem back_any (s : Sc.Scr) (A : Option Addr) (c : Nat) (s0 : ByteArray) (w : World) (henv : Env w) (hl : s.events.length ≤ 9223372036854775807) (hA : ArgEvs w A s.events) (hs0 : s0.size ≤ 9223372036854775807) :
    Calls Tryd.prog 6 #[scrV s A c, .string s0] w fun e w' => e = .returned (.bool true) ∧ Below w.heap.size w w' := by
  obtain ⟨n0, hn0⟩ : ∃ n, n = min s0.size 262144 := ⟨_, rfl⟩
  have hm0 : min (s0.size : Int) 262144 = (n0 : Int) := by omega
  have hl0 : n0 ≤ s0.size := by omega
  have hx0 := str_take s0 n0
  have hlen0 : (s0.data.toList.take n0).length = n0 := by rw [List.length_take, ← Lib.size_eq]; omega
  generalize s0.data.toList.take n0 = L0 at hx0 hlen0
  have HL0 : Hid (L0.length ≤ 262144) := Lib.hid (by omega)
  have H0 := Lib.hid hlen0
  clear hn0 hlen0
  have hb1 := below_box w (.cells #[.int .i64 s.servers, .int .i64 s.area, .slice A s.events.length c] 28)
  have hx1 : ScrBox (w.alloc (.cells #[.int .i64 s.servers, .int .i64 s.area, .slice A s.events.length c] 28)) w.heap.size s A c := heap_alloc_new w _
  have HA := Lib.hid (hA.next hb1)
  have HX := Lib.hid hx1
  have HB := Lib.hid hb1
  have HENV := Lib.hid henv
  have HHL := Lib.hid hl
  clear hA hx1 hb1 henv hl
  unfold scrV
  go_enter Tryd.func6, Tryd.ntmps6
  go_wp2_with fail
  generalize w.alloc (.cells #[.int .i64 s.servers, .int .i64 s.area, .slice A s.events.length c] 28) = w1 at HA HX HB ⊢
  generalize hsb : w.heap.size = sb at HX ⊢
  refine (wakes_any _ (HENV.out.next (hsb ▸ HB.out))).mono ?_
  rintro e w2 ⟨rfl, hb2⟩
  have HA2 := Lib.hid (HA.out.next hb2)
  have HX2 := Lib.hid (HX.out.next hb2)
  have HB2 := Lib.hid (HB.out.trans (hb2.mono HB.out.size))
  clear hb2 HA HX HB
  obtain ⟨c0, c1, c2⟩ := HX2.out.cells
  go_wp2_with fail
  refine (few_any s A c _ HHL.out HA2.out).mono ?_
  rintro e w3 ⟨A3, c3, rfl, hE3, hb3⟩
  have HX3 := Lib.hid (HX2.out.next hb3)
  have HB3 := Lib.hid (HB2.out.trans (hb3.mono HB2.out.size))
  have HE3 := Lib.hid hE3
  clear hb3 hE3 HA2 HX2 HB2 c0 c1 c2
  have HFL := Lib.hid (few_len s)
  generalize fewOf s = fs at HE3 HFL ⊢
  unfold scrV
  obtain ⟨c0, c1, c2⟩ := HX3.out.cells
  have hf := fun i => blk_free HX3.out i
  have hlt : sb < w3.heap.size := (Array.getElem?_eq_some_iff.1 HX3.out).1
  have h3 := set3 HX3.out (.int .i64 fs.servers) (.int .i64 fs.area) (.slice A3 fs.events.length c3)
  have HX4 : Hid (ScrBox (((w3.setCell ⟨sb, 0, none⟩ (.int .i64 fs.servers)).setCell ⟨sb, 1, none⟩ (.int .i64 fs.area)).setCell ⟨sb, 2, none⟩ (.slice A3 fs.events.length c3)) sb fs A3 c3) := Lib.hid h3.2
  have HE4 := Lib.hid (HE3.out.skip28 h3.1 HX3.out)
  have hb4 := h3.1.to (B := w.heap.size) HB3.out.size (by intro j hj; simp at hj; omega)
  have HB4 := Lib.hid (HB3.out.trans hb4)
  obtain ⟨d0, d1, d2⟩ := HX4.out.cells
  clear h3 hb4 HX3 HE3 HB3
  go_wp2_with fail
  generalize ((w3.setCell ⟨sb, 0, none⟩ (.int .i64 fs.servers)).setCell ⟨sb, 1, none⟩ (.int .i64 fs.area)).setCell ⟨sb, 2, none⟩ (.slice A3 fs.events.length c3) = w4 at HX4 HE4 HB4 ⊢
  clear c0 c1 c2 d0 d1 d2 hf hlt
  refine (print_any fs A3 c3 _ (HENV.out.next HB4.out) HE4.out).mono ?_
  rintro e w5 ⟨rfl, hb5⟩
  have HX5 := Lib.hid (HX4.out.next hb5)
  have HE5 := Lib.hid (HE4.out.next hb5)
  have HB5 := Lib.hid (HB4.out.trans (hb5.mono HB4.out.size))
  clear hb5 HX4 HE4 HB4
  -- behind both ways: a text that is read, and printed as it was
  have hpr : (Sc.printOf fs).2 = 0 ∨ (Sc.printOf fs).2 = 2 ∨ (Sc.printOf fs).2 = 3 := by
    unfold Sc.printOf
    split
    · split <;> simp
    · simp
  have hback := Sc.parse_print fs
  have hplen := print_len fs
  obtain ⟨⟨tx, er⟩, hp⟩ : ∃ p, Sc.printOf fs = p := ⟨_, rfl⟩
  rw [hp] at hpr hback hplen ⊢
  simp only at hpr hback hplen ⊢
  clear hp
  rcases hpr with rfl | rfl | rfl
  · have HBK := Lib.hid (hback rfl)
    have HPL := Lib.hid (hplen rfl)
    clear hback hplen
    go_wp2_with fail
    refine (parse_any tx _ (HENV.out.next HB5.out) (by have := HPL.out; omega)).mono ?_
    rintro e w6 ⟨A6, c6, rfl, hE6, hb6⟩
    rw [HBK.out] at hE6 ⊢
    simp only at hE6 ⊢
    have HX6 := Lib.hid (HX5.out.next hb6)
    have HE6 := Lib.hid (HE5.out.next hb6)
    have HF6 := Lib.hid hE6
    have HB6 := Lib.hid (HB5.out.trans (hb6.mono HB5.out.size))
    clear hb6 hE6 HX5 HE5 HB5
    obtain ⟨c0, c1, c2⟩ := HX6.out.cells
    have hlt6 : sb < w6.heap.size := (Array.getElem?_eq_some_iff.1 HX6.out).1
    have hb7 := below_box w6 (.cells #[.int .i64 fs.servers, .int .i64 fs.area, .slice A6 fs.events.length c6] 28)
    have HE7 := Lib.hid (HE6.out.next hb7)
    have HF7 := Lib.hid (HF6.out.next hb7)
    have HB7 := Lib.hid (HB6.out.trans (hb7.mono HB6.out.size))
    clear hb7
    unfold scrV
    go_wp2_with fail
    refine (sameScr_any fs fs A3 A6 c3 c6 _ (Nat.le_trans HFL.out (by decide)) HE7.out HF7.out).mono ?_
    rintro e w8 ⟨rfl, hb8⟩
    rw [decide_eq_true rfl]
    have HB8 := Lib.hid (HB7.out.trans (hb8.mono HB7.out.size))
    clear hb8 c0 c1 c2 hlt6 HB7 HE7 HF7 HE6 HF6 HX6
    go_wp2_with fail
    refine (parse_any L0 _ (HENV.out.next HB8.out) (by have := HL0.out; omega)).mono ?_
    rintro e w9 ⟨A9, c9, rfl, hE9, hb9⟩
    have HB9 := Lib.hid (HB8.out.trans (hb9.mono HB8.out.size))
    have HE9 := Lib.hid hE9
    clear hb9 hE9 hx0 hm0
    obtain ⟨⟨S, a, er⟩, hP⟩ : ∃ p, Sc.parseOf L0 = p := ⟨_, rfl⟩
    have hw := Sc.parse_wrong L0 0 0 Sc.zeroS
    have hpp := Sc.print_parse L0
    rw [← show Sc.parseOf L0 = Sc.parseGo L0 0 0 Sc.zeroS by unfold Sc.parseOf; rw [if_neg (by have := HL0.out; omega)], hP] at hw
    rw [hP] at hpp HE9 ⊢
    simp only at hpp HE9 ⊢
    clear hP
    unfold scrV
    by_cases hz : er = 0
    · subst hz
      obtain ⟨_, hck, hprn⟩ := hpp rfl
      have HCK := Lib.hid hck
      have HPR := Lib.hid hprn
      clear hpp hck hprn hw
      go_wp2_with fail
      have hb10 := below_box w9 (.cells #[.int .i64 S.servers, .int .i64 S.area, .slice A9 S.events.length c9] 28)
      have hx10 : ScrBox (w9.alloc (.cells #[.int .i64 S.servers, .int .i64 S.area, .slice A9 S.events.length c9] 28)) w9.heap.size S A9 c9 := heap_alloc_new w9 _
      have HX10 := Lib.hid hx10
      have HE10 := Lib.hid (HE9.out.next hb10)
      have HB10 := Lib.hid (HB9.out.trans (hb10.mono HB9.out.size))
      clear hx10 hb10 HE9 HB9
      generalize w9.alloc (.cells #[.int .i64 S.servers, .int .i64 S.area, .slice A9 S.events.length c9] 28) = w10 at HX10 HE10 HB10 ⊢
      generalize w9.heap.size = ub at HX10 ⊢
      refine (print_any S A9 c9 _ (HENV.out.next HB10.out) HE10.out).mono ?_
      rintro e w11 ⟨rfl, hb11⟩
      rw [HPR.out]
      have HX11 := Lib.hid (HX10.out.next hb11)
      have HE11 := Lib.hid (HE10.out.next hb11)
      have HB11 := Lib.hid (HB10.out.trans (hb11.mono HB10.out.size))
      clear hb11 HX10 HE10 HB10
      obtain ⟨c0, c1, c2⟩ := HX11.out.cells
      generalize (⟨L0.toArray⟩ : ByteArray) = st
      go_wp2_with fail
      refine (check_any S A9 c9 _ HE11.out).mono ?_
      rintro e w12 ⟨rfl, hb12⟩
      rw [HCK.out]
      have HB12 := Lib.hid (HB11.out.trans (hb12.mono HB11.out.size))
      clear hb12
      go_wp2_with fail
      go_ret
      exact ⟨rfl, by rw [hsb]; exact hsb ▸ HB12.out⟩
    · rcases hw with hw | ⟨hze, herr, _, hle, _, _⟩
      · exact absurd hw hz
      simp only at hze herr hle
      subst herr
      subst hze
      clear hz hpp
      rw [Nat.zero_add] at hle
      have hsz : (⟨L0.toArray⟩ : ByteArray).size = L0.length := by rw [Lib.size_eq]
      have hb10 := below_box w9 (.cells #[.int .i64 Sc.zeroS.servers, .int .i64 Sc.zeroS.area, .slice A9 Sc.zeroS.events.length c9] 28)
      have HB10 := Lib.hid (HB9.out.trans (hb10.mono HB9.out.size))
      clear hb10 HB9
      have hai : (a : Int) ≤ (L0.length : Int) := by omega
      have z1 : Sc.zeroS.servers = 0 := rfl
      have z2 : Sc.zeroS.area = 0 := rfl
      have z3 : Sc.zeroS.events.length = 0 := rfl
      rw [z1, z2, z3] at HB10 ⊢
      generalize (⟨L0.toArray⟩ : ByteArray) = st at hsz ⊢
      clear z1 z2 z3
      go_wp2_with fail
      go_ret
      exact ⟨rfl, hsb ▸ HB10.out⟩
  · clear hback hplen
    go_wp2_with fail
    refine (parse_any L0 _ (HENV.out.next HB5.out) (by have := HL0.out; omega)).mono ?_
    rintro e w9 ⟨A9, c9, rfl, hE9, hb9⟩
    have HB9 := Lib.hid (HB5.out.trans (hb9.mono HB5.out.size))
    have HE9 := Lib.hid hE9
    clear hb9 hE9 hx0 hm0
    obtain ⟨⟨S, a, er⟩, hP⟩ : ∃ p, Sc.parseOf L0 = p := ⟨_, rfl⟩
    have hw := Sc.parse_wrong L0 0 0 Sc.zeroS
    have hpp := Sc.print_parse L0
    rw [← show Sc.parseOf L0 = Sc.parseGo L0 0 0 Sc.zeroS by unfold Sc.parseOf; rw [if_neg (by have := HL0.out; omega)], hP] at hw
    rw [hP] at hpp HE9 ⊢
    simp only at hpp HE9 ⊢
    clear hP
    unfold scrV
    by_cases hz : er = 0
    · subst hz
      obtain ⟨_, hck, hprn⟩ := hpp rfl
      have HCK := Lib.hid hck
      have HPR := Lib.hid hprn
      clear hpp hck hprn hw
      go_wp2_with fail
      have hb10 := below_box w9 (.cells #[.int .i64 S.servers, .int .i64 S.area, .slice A9 S.events.length c9] 28)
      have hx10 : ScrBox (w9.alloc (.cells #[.int .i64 S.servers, .int .i64 S.area, .slice A9 S.events.length c9] 28)) w9.heap.size S A9 c9 := heap_alloc_new w9 _
      have HX10 := Lib.hid hx10
      have HE10 := Lib.hid (HE9.out.next hb10)
      have HB10 := Lib.hid (HB9.out.trans (hb10.mono HB9.out.size))
      clear hx10 hb10 HE9 HB9
      generalize w9.alloc (.cells #[.int .i64 S.servers, .int .i64 S.area, .slice A9 S.events.length c9] 28) = w10 at HX10 HE10 HB10 ⊢
      generalize w9.heap.size = ub at HX10 ⊢
      refine (print_any S A9 c9 _ (HENV.out.next HB10.out) HE10.out).mono ?_
      rintro e w11 ⟨rfl, hb11⟩
      rw [HPR.out]
      have HX11 := Lib.hid (HX10.out.next hb11)
      have HE11 := Lib.hid (HE10.out.next hb11)
      have HB11 := Lib.hid (HB10.out.trans (hb11.mono HB10.out.size))
      clear hb11 HX10 HE10 HB10
      obtain ⟨c0, c1, c2⟩ := HX11.out.cells
      generalize (⟨L0.toArray⟩ : ByteArray) = st
      go_wp2_with fail
      refine (check_any S A9 c9 _ HE11.out).mono ?_
      rintro e w12 ⟨rfl, hb12⟩
      rw [HCK.out]
      have HB12 := Lib.hid (HB11.out.trans (hb12.mono HB11.out.size))
      clear hb12
      go_wp2_with fail
      go_ret
      exact ⟨rfl, by rw [hsb]; exact hsb ▸ HB12.out⟩
    · rcases hw with hw | ⟨hze, herr, _, hle, _, _⟩
      · exact absurd hw hz
      simp only at hze herr hle
      subst herr
      subst hze
      clear hz hpp
      rw [Nat.zero_add] at hle
      have hsz : (⟨L0.toArray⟩ : ByteArray).size = L0.length := by rw [Lib.size_eq]
      have hb10 := below_box w9 (.cells #[.int .i64 Sc.zeroS.servers, .int .i64 Sc.zeroS.area, .slice A9 Sc.zeroS.events.length c9] 28)
      have HB10 := Lib.hid (HB9.out.trans (hb10.mono HB9.out.size))
      clear hb10 HB9
      have hai : (a : Int) ≤ (L0.length : Int) := by omega
      have z1 : Sc.zeroS.servers = 0 := rfl
      have z2 : Sc.zeroS.area = 0 := rfl
      have z3 : Sc.zeroS.events.length = 0 := rfl
      rw [z1, z2, z3] at HB10 ⊢
      generalize (⟨L0.toArray⟩ : ByteArray) = st at hsz ⊢
      clear z1 z2 z3
      go_wp2_with fail
      go_ret
      exact ⟨rfl, hsb ▸ HB10.out⟩
  · clear hback hplen
    go_wp2_with fail
    refine (parse_any L0 _ (HENV.out.next HB5.out) (by have := HL0.out; omega)).mono ?_
    rintro e w9 ⟨A9, c9, rfl, hE9, hb9⟩
    have HB9 := Lib.hid (HB5.out.trans (hb9.mono HB5.out.size))
    have HE9 := Lib.hid hE9
    clear hb9 hE9 hx0 hm0
    obtain ⟨⟨S, a, er⟩, hP⟩ : ∃ p, Sc.parseOf L0 = p := ⟨_, rfl⟩
    have hw := Sc.parse_wrong L0 0 0 Sc.zeroS
    have hpp := Sc.print_parse L0
    rw [← show Sc.parseOf L0 = Sc.parseGo L0 0 0 Sc.zeroS by unfold Sc.parseOf; rw [if_neg (by have := HL0.out; omega)], hP] at hw
    rw [hP] at hpp HE9 ⊢
    simp only at hpp HE9 ⊢
    clear hP
    unfold scrV
    by_cases hz : er = 0
    · subst hz
      obtain ⟨_, hck, hprn⟩ := hpp rfl
      have HCK := Lib.hid hck
      have HPR := Lib.hid hprn
      clear hpp hck hprn hw
      go_wp2_with fail
      have hb10 := below_box w9 (.cells #[.int .i64 S.servers, .int .i64 S.area, .slice A9 S.events.length c9] 28)
      have hx10 : ScrBox (w9.alloc (.cells #[.int .i64 S.servers, .int .i64 S.area, .slice A9 S.events.length c9] 28)) w9.heap.size S A9 c9 := heap_alloc_new w9 _
      have HX10 := Lib.hid hx10
      have HE10 := Lib.hid (HE9.out.next hb10)
      have HB10 := Lib.hid (HB9.out.trans (hb10.mono HB9.out.size))
      clear hx10 hb10 HE9 HB9
      generalize w9.alloc (.cells #[.int .i64 S.servers, .int .i64 S.area, .slice A9 S.events.length c9] 28) = w10 at HX10 HE10 HB10 ⊢
      generalize w9.heap.size = ub at HX10 ⊢
      refine (print_any S A9 c9 _ (HENV.out.next HB10.out) HE10.out).mono ?_
      rintro e w11 ⟨rfl, hb11⟩
      rw [HPR.out]
      have HX11 := Lib.hid (HX10.out.next hb11)
      have HE11 := Lib.hid (HE10.out.next hb11)
      have HB11 := Lib.hid (HB10.out.trans (hb11.mono HB10.out.size))
      clear hb11 HX10 HE10 HB10
      obtain ⟨c0, c1, c2⟩ := HX11.out.cells
      generalize (⟨L0.toArray⟩ : ByteArray) = st
      go_wp2_with fail
      refine (check_any S A9 c9 _ HE11.out).mono ?_
      rintro e w12 ⟨rfl, hb12⟩
      rw [HCK.out]
      have HB12 := Lib.hid (HB11.out.trans (hb12.mono HB11.out.size))
      clear hb12
      go_wp2_with fail
      go_ret
      exact ⟨rfl, by rw [hsb]; exact hsb ▸ HB12.out⟩
    · rcases hw with hw | ⟨hze, herr, _, hle, _, _⟩
      · exact absurd hw hz
      simp only at hze herr hle
      subst herr
      subst hze
      clear hz hpp
      rw [Nat.zero_add] at hle
      have hsz : (⟨L0.toArray⟩ : ByteArray).size = L0.length := by rw [Lib.size_eq]
      have hb10 := below_box w9 (.cells #[.int .i64 Sc.zeroS.servers, .int .i64 Sc.zeroS.area, .slice A9 Sc.zeroS.events.length c9] 28)
      have HB10 := Lib.hid (HB9.out.trans (hb10.mono HB9.out.size))
      clear hb10 HB9
      have hai : (a : Int) ≤ (L0.length : Int) := by omega
      have z1 : Sc.zeroS.servers = 0 := rfl
      have z2 : Sc.zeroS.area = 0 := rfl
      have z3 : Sc.zeroS.events.length = 0 := rfl
      rw [z1, z2, z3] at HB10 ⊢
      generalize (⟨L0.toArray⟩ : ByteArray) = st at hsz ⊢
      clear z1 z2 z3
      go_wp2_with fail
      go_ret
      exact ⟨rfl, hsb ▸ HB10.out⟩
theorem back_row (s : Sc.Scr) (s0 : ByteArray) (A : Option Addr) (c : Nat) (w : World) (henv : Env w) (hl : s.events.length ≤ 9223372036854775807) (hs0 : s0.size ≤ 9223372036854775807) (hA : ArgEvs w A s.events) :
    Calls Tryd.prog 6 #[.agg #[.int .i64 s.servers, .int .i64 s.area, .slice A s.events.length c], .string s0] w fun e w' => e = .returned (.bool true) ∧ Below w.heap.size w w' :=
  back_any s A c s0 w henv hl hA hs0
end Go.Proofs.YthpojljfmipngaaDoor
