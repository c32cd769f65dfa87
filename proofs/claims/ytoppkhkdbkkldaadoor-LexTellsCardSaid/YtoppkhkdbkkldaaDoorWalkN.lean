/-
  PROVED: what Value of package lex makes. CONDITION: the token's text is at most 2^28 letters long.
-/
import Derived.Test.YtoppkhkdbkkldaaDoorWalkL
namespace Go.Proofs.YtoppkhkdbkkldaaDoor
open Go.RowKit
def valueRes (t : Lx.Tok) : Value :=
  match Lx.valueOf t with
  | some q => .tuple #[.string ⟨q.toArray⟩, .int .i64 0]
  | none => .tuple #[.string ⟨#[]⟩, .int .i64 200]
theorem valueRes_some {t : Lx.Tok} {q : List UInt8} (h : Lx.valueOf t = some q) : valueRes t = .tuple #[.string ⟨q.toArray⟩, .int .i64 0] := by unfold valueRes; rw [h]
theorem valueRes_none {t : Lx.Tok} (h : Lx.valueOf t = none) : valueRes t = .tuple #[.string ⟨#[]⟩, .int .i64 200] := by unfold valueRes; rw [h]

/-- The letters of a quoted text are plain ones. -/
theorem quoteTail_ascii : ∀ (k : Nat) (l : List UInt8), l.length ≤ k → Lx.quoteTail l = some l.length → ∀ c ∈ l, c.toNat < 128 := by
  intro k
  induction k with
  | zero =>
    intro l hl h c hc
    obtain rfl : l = [] := List.length_eq_zero_iff.1 (by omega)
    cases hc
  | succ k ih =>
    intro l hl h
    cases l with
    | nil => intro c hc; cases hc
    | cons c l =>
      rw [Lx.quoteTail_cons] at h
      by_cases h34 : c.toNat = 34
      · rw [if_pos h34] at h
        have : l = [] := List.length_eq_zero_iff.1 (by have := Option.some.inj h; rw [List.length_cons] at this; omega)
        subst this
        intro d hd
        obtain rfl : d = c := by simpa using hd
        omega
      rw [if_neg h34] at h
      by_cases h92 : c.toNat = 92
      · rw [if_pos h92] at h
        cases l with
        | nil => simp at h
        | cons d l =>
          simp only [] at h
          by_cases hd : d.toNat = 34 ∨ d.toNat = 92 ∨ d.toNat = 110
          · rw [if_pos hd] at h
            obtain ⟨m, hm, he⟩ := Option.map_eq_some_iff.1 h
            simp at he
            subst he
            intro x hx
            simp only [List.mem_cons] at hx
            rcases hx with rfl | rfl | hx
            · omega
            · omega
            · exact ih l (by simp at hl; omega) hm x hx
          · rw [if_neg hd] at h; cases h
      rw [if_neg h92] at h
      by_cases hb : c.toNat < 32 ∨ 126 < c.toNat
      · rw [if_pos hb] at h; cases h
      rw [if_neg hb] at h
      obtain ⟨m, hm, he⟩ := Option.map_eq_some_iff.1 h
      simp at he
      subst he
      intro x hx
      simp only [List.mem_cons] at hx
      rcases hx with rfl | hx
      · omega
      · exact ih l (by simp at hl; omega) hm x hx
theorem text_alone {t : Lx.Tok} (h3 : t.kind = 3) (h : Lx.isAlone t = true) : 2 ≤ t.text.length ∧ ∀ c ∈ t.text, c.toNat < 128 := by
  unfold Lx.isAlone at h
  by_cases h0 : t.text.isEmpty = true
  · rw [if_pos h0, h3] at h; cases h
  rw [if_neg h0] at h
  simp only [Bool.and_eq_true, beq_iff_eq, decide_eq_true_eq] at h
  obtain ⟨e1, e2, e3⟩ := h
  rw [h3] at e2
  have hp := (Lx.tokenOf_pos e1).2
  have hn : (Lx.tokenOf t.text).2.1 = t.text.length := by
    have := congrArg List.length e3
    rw [List.length_take] at this; omega
  cases hx : t.text with
  | nil => rw [hx] at h0; exact absurd rfl h0
  | cons c l =>
    rw [hx] at e2 hn
    have key : c.toNat = 34 ∧ Lx.textLen (c :: l) ≠ 0 ∧ Lx.textLen (c :: l) = (c :: l).length := by
      rw [Lx.tokenOf.eq_def] at e2 hn
      simp only [] at e2 hn
      by_cases a1 : Lx.isLetter c = true
      · rw [if_pos a1] at e2; split at e2 <;> cases e2
      rw [if_neg a1] at e2 hn
      by_cases a2 : Lx.isDigit c = true
      · rw [if_pos a2] at e2
        split at e2
        · cases e2
        · split at e2 <;> cases e2
      rw [if_neg a2] at e2 hn
      by_cases a3 : c.toNat = 34
      · rw [if_pos a3] at e2 hn
        by_cases a4 : Lx.textLen (c :: l) = 0
        · rw [if_pos a4] at e2; cases e2
        rw [if_neg a4] at hn
        exact ⟨a3, a4, hn⟩
      rw [if_neg a3] at e2
      split at e2
      · cases e2
      · split at e2 <;> cases e2
    obtain ⟨k1, k2, k3⟩ := key
    unfold Lx.textLen at k2 k3
    simp only [List.tail_cons] at k2 k3
    cases hq : Lx.quoteTail l with
    | none => rw [hq] at k2; simp at k2
    | some n =>
      rw [hq] at k3
      simp only [List.length_cons] at k3
      obtain rfl : n = l.length := by omega
      have hl := quoteTail_ascii _ l (Nat.le_refl _) hq
      have hpos := (Lx.quoteTail_le _ l (Nat.le_refl _) _ hq).2
      refine ⟨by simp; omega, fun d hd => ?_⟩
      rcases List.mem_cons.1 hd with rfl | hd
      · omega
      · exact hl d hd

/-- The state behind p letters. -/
def UnAt (U : List UInt8) (p : Nat) (pair : Bool) (out : List UInt8) : Prop := Lx.unescape false U = out ++ Lx.unescape pair (U.drop p)
theorem UnAt.start (U : List UInt8) : UnAt U 0 false [] := by unfold UnAt; rw [List.drop_zero]; rfl
theorem UnAt.ends {U out : List UInt8} {pair : Bool} {p : Nat} (h : UnAt U p pair out) (hp : U.length ≤ p) : Lx.unescape false U = out := by
  unfold UnAt at h
  rw [List.drop_eq_nil_of_le hp, Lx.unescape, List.append_nil] at h
  exact h
theorem UnAt.feed {U out : List UInt8} {p : Nat} {c : UInt8} (h : UnAt U p true out) (hc : U[p]? = some c) (h1 : c.toNat = 110) : UnAt U (p + 1) false (out ++ [10]) := by
  obtain ⟨hk, rfl⟩ := List.getElem?_eq_some_iff.1 hc
  unfold UnAt at h ⊢
  rw [h, List.drop_eq_getElem_cons hk, Lx.unescape]
  simp [h1]
theorem UnAt.pair {U out : List UInt8} {p : Nat} {c : UInt8} (h : UnAt U p true out) (hc : U[p]? = some c) (h1 : ¬ c.toNat = 110) : UnAt U (p + 1) false (out ++ [c]) := by
  obtain ⟨hk, rfl⟩ := List.getElem?_eq_some_iff.1 hc
  unfold UnAt at h ⊢
  rw [h, List.drop_eq_getElem_cons hk, Lx.unescape]
  simp [h1]
theorem UnAt.one {U out : List UInt8} {p : Nat} {c : UInt8} (h : UnAt U p false out) (hc : U[p]? = some c) (h1 : ¬ c.toNat = 92) : UnAt U (p + 1) false (out ++ [c]) := by
  obtain ⟨hk, rfl⟩ := List.getElem?_eq_some_iff.1 hc
  unfold UnAt at h ⊢
  rw [h, List.drop_eq_getElem_cons hk, Lx.unescape]
  have h2 : (U[p].toNat == 92) = false := by simpa using h1
  simp [h1, h2]
theorem UnAt.slash {U out : List UInt8} {p : Nat} {c : UInt8} (h : UnAt U p false out) (hc : U[p]? = some c) (h1 : c.toNat = 92) : UnAt U (p + 1) true out := by
  obtain ⟨hk, rfl⟩ := List.getElem?_eq_some_iff.1 hc
  unfold UnAt at h ⊢
  rw [h, List.drop_eq_getElem_cons hk, Lx.unescape]
  simp [h1]
set_option maxRecDepth 100000 in
set_option maxHeartbeats 4000000 in
theorem value_any (k a : Int) (s : ByteArray) (w : World) (henv : Env w) (hs : s.size ≤ 268435456) :
    Calls Tryd.prog 22 #[.agg #[.int .i64 k, .string s, .int .i64 a]] w fun e w' => e = .returned (valueRes ⟨k, s.data.toList, a⟩) ∧ Below w.heap.size w w' := by
  have hbox := below_box w (.cells #[.int .i64 k, .string s, .int .i64 a] 32)
  have hEB := henv.below hbox henv.big
  by_cases h3 : k = 3
  · cases hal : Lx.isAlone ⟨k, s.data.toList, a⟩ with
    | false =>
      have HN := Lib.hid (show Lx.valueOf ⟨k, s.data.toList, a⟩ = none by unfold Lx.valueOf; rw [hal]; simp)
      have HA := Lib.hid hal
      subst h3
      clear hal
      go_enter Tryd.func22, Tryd.ntmps22
      go_wp2_with fail
      refine (alone_any 3 a s (by omega) _ hEB).mono ?_
      rintro e w1 ⟨rfl, hb1⟩
      rw [HA.out]
      go_wp2_with fail
      go_ret2
      exact ⟨retv (valueRes_none HN.out).symm, hbox.trans (hb1.mono (by simp))⟩
    | true =>
      obtain ⟨h2, hasc⟩ := text_alone (t := ⟨k, s.data.toList, a⟩) h3 hal
      have HV := Lib.hid (show Lx.valueOf ⟨k, s.data.toList, a⟩ = some (Lx.unescape false ((s.data.toList.drop 1).take (s.data.toList.length - 2))) by unfold Lx.valueOf; rw [hal, h3]; rfl)
      have HA := Lib.hid hal
      have HS := Lib.hid hasc
      subst h3
      clear hal hasc
      have h2' : 2 ≤ s.size := by rw [Lib.size_eq]; exact h2
      clear h2
      go_enter Tryd.func22, Tryd.ntmps22
      go_wp2_with fail
      refine (alone_any 3 a s (by omega) _ hEB).mono ?_
      rintro e w1 ⟨rfl, hb1⟩
      rw [HA.out]
      have c0 : w1.cell? ⟨w.heap.size, 1, none⟩ = some (.string s) := by
        rw [hb1.cell (p := ⟨w.heap.size, 1, none⟩) (by simp)]
        exact (blk_cells (heap_alloc_new w _) 1).trans rfl
      have hb01 := hbox.trans (hb1.mono (by simp))
      have hlt1 : w.heap.size < w1.heap.size := by have := hb1.size; simp at this; omega
      have hle : (1 : Int) ≤ (s.size : Int) - 1 := by omega
      have hle2 : (s.size : Int) - 1 ≤ s.size := by omega
      go_wp2_with fail
      have hB0 : IsB w1.heap.size w1.heap.size [] ((w1.alloc (.cells #[.pointer none, .slice none 0 0] 63)).iter (s.extract 1 (s.size - 1)) 0) := (isB_new w1).alloc _
      have hbI : Below w1.heap.size w1 ((w1.alloc (.cells #[.pointer none, .slice none 0 0] 63)).iter (s.extract 1 (s.size - 1)) 0) := (below_box w1 _).alloc (by simp) _
      have hI0 : ((w1.alloc (.cells #[.pointer none, .slice none 0 0] 63)).iter (s.extract 1 (s.size - 1)) 0).heap[w1.heap.size + 1]? = some (.stringIter (s.extract 1 (s.size - 1)) 0) := by
        have := World.iter_heap (w1.alloc (.cells #[.pointer none, .slice none 0 0] 63)) (s.extract 1 (s.size - 1)) 0
        simpa using this
      have hdat : (s.extract 1 (s.size - 1)).data.toList = (s.data.toList.drop 1).take (s.data.toList.length - 2) := by
        rw [Lib.extract_data, ← Lib.size_eq]
        rfl
      have hasc2 : Hid (∀ c ∈ (s.extract 1 (s.size - 1)).data.toList, c.toNat < 128) := by
        refine Lib.hid fun c hc => HS.out c ?_
        rw [hdat] at hc
        exact List.mem_of_mem_drop (List.mem_of_mem_take hc)
      have HV2 : Hid (Lx.valueOf ⟨3, s.data.toList, a⟩ = some (Lx.unescape false (s.extract 1 (s.size - 1)).data.toList)) := by rw [hdat]; exact HV
      have hus : (s.extract 1 (s.size - 1)).size ≤ s.size := by rw [ByteArray.size_extract]; omega
      have hU0 := Lib.hid (UnAt.start (s.extract 1 (s.size - 1)).data.toList)
      clear hdat HV HS c0 hle hle2
      generalize (w1.alloc (.cells #[.pointer none, .slice none 0 0] 63)).iter (s.extract 1 (s.size - 1)) 0 = w2 at hB0 hbI hI0 ⊢
      generalize s.extract 1 (s.size - 1) = u at hB0 hbI hI0 hasc2 HV2 hus hU0 ⊢
      go_loopw [5, 7] (fun pr x wr => ∃ (p : Nat) (pair : Bool) (out : List UInt8), p ≤ u.size ∧ pr = .bool pair ∧ out.length ≤ p ∧ Hid (UnAt u.data.toList p pair out) ∧ IsB w1.heap.size w1.heap.size out wr ∧ Below w1.heap.size w1 wr ∧ wr.heap[w1.heap.size + 1]? = some (.stringIter u p)) (fun _ _ wr => u.size - wr.iterPos (w1.heap.size + 1))
      case atStart => exact ⟨0, false, [], Nat.zero_le _, rfl, Nat.le_refl _, hU0, hB0, hbI, hI0⟩
      case round =>
        obtain ⟨p, pair, out, hp, rfl, hout, H, hB, hb, hit⟩ := hrel
        have hsz : w1.heap.size + 1 < wr.heap.size := (Array.getElem?_eq_some_iff.1 hit).1
        by_cases hlt : p < u.size
        · have hc : u.data.toList[p]? = some (u[p]'hlt) := by
            rw [Array.getElem?_toList]
            exact Array.getElem?_eq_getElem hlt
          have hca := hasc2.out _ (List.mem_of_getElem? hc)
          have hnx : ∀ ty, (Instr.next (.pointer (some ⟨w1.heap.size + 1, 0, none⟩)) true ty).run Tryd.prog wr = _ := fun ty => Lib.run_next_ascii_at wr (w1.heap.size + 1) u p ty hit hlt hca
          have hB2 : IsB w1.heap.size w1.heap.size out (wr.iterAt (w1.heap.size + 1) u (p + 1)) := Lib.IsBuilderF.iterAt hB hit (p + 1)
          have hit2 := Lib.iterAt_heap wr (w1.heap.size + 1) u p (p + 1) hit
          have hb2 := Lib.below_iterAt hb (k := w1.heap.size + 1) (by omega) u (p + 1)
          have hsz2 : wr.iterPos (w1.heap.size + 1) = p := by simp only [World.iterPos, hit]
          generalize u[p]'hlt = c at hc hca hnx
          have HIT := Lib.hid hit
          have HSZ := Lib.hid hsz2
          have HIT2 := Lib.hid hit2
          have HCC := Lib.hid hc
          clear hit hsz2 hit2 hc hI0
          cases pair with
          | true =>
            by_cases h110 : c.toNat = 110
            · have b110 : ((c.toNat : Int) == 110) = true := by rw [h110]; rfl
              have b92 : ((c.toNat : Int) == 92) = false := by rw [beq_eq_false_iff_ne]; omega
              have HU := Lib.hid (H.out.feed HCC.out h110)
              clear h110
              go_wp2_with fail
              refine (writeByte_at _ _ out 10 10 rfl _ hB2 (by omega)).mono ?_
              rintro e w3 ⟨rfl, hB3, hb3, hk3⟩
              go_wp2_with fail
              go_roundw
              case rel => exact ⟨p + 1, false, out ++ [10], by omega, rfl, by simp; omega, HU, hB3, hb2.trans hb3, hk3.iter HIT2.out (by omega)⟩
              case measure =>
                have e := hk3.iter HIT2.out (by omega)
                rw [HSZ.out]
                simp only [World.iterPos, e]
                omega
            · have b110 : ((c.toNat : Int) == 110) = false := by rw [beq_eq_false_iff_ne]; omega
              have HU := Lib.hid (H.out.pair HCC.out h110)
              clear h110
              go_wp2_with fail
              refine (writeRune_any _ _ out c (by omega) _ hB2 (by omega)).mono ?_
              rintro e w3 ⟨rfl, hB3, hb3, hk3⟩
              go_wp2_with fail
              go_roundw
              case rel => exact ⟨p + 1, false, out ++ [c], by omega, rfl, by simp; omega, HU, hB3, hb2.trans hb3, hk3.iter HIT2.out (by omega)⟩
              case measure =>
                have e := hk3.iter HIT2.out (by omega)
                rw [HSZ.out]
                simp only [World.iterPos, e]
                omega
          | false =>
            by_cases h92 : c.toNat = 92
            · have b92 : ((c.toNat : Int) == 92) = true := by rw [h92]; rfl
              have n92 : ((c.toNat : Int) != 92) = false := by rw [h92]; rfl
              have HU := Lib.hid (H.out.slash HCC.out h92)
              clear h92
              go_wp2_with fail
              go_roundw
              case rel => exact ⟨p + 1, true, out, by omega, rfl, by omega, HU, hB2, hb2, HIT2.out⟩
              case measure =>
                have e := HIT2.out
                rw [HSZ.out]
                simp only [World.iterPos, e]
                omega
            · have b92 : ((c.toNat : Int) == 92) = false := by rw [beq_eq_false_iff_ne]; omega
              have n92 : ((c.toNat : Int) != 92) = true := by rw [bne_iff_ne]; omega
              have HU := Lib.hid (H.out.one HCC.out h92)
              clear h92
              go_wp2_with fail
              refine (writeRune_any _ _ out c (by omega) _ hB2 (by omega)).mono ?_
              rintro e w3 ⟨rfl, hB3, hb3, hk3⟩
              go_wp2_with fail
              go_roundw
              case rel => exact ⟨p + 1, false, out ++ [c], by omega, rfl, by simp; omega, HU, hB3, hb2.trans hb3, hk3.iter HIT2.out (by omega)⟩
              case measure =>
                have e := hk3.iter HIT2.out (by omega)
                rw [HSZ.out]
                simp only [World.iterPos, e]
                omega
        · have hnx : ∀ ty, (Instr.next (.pointer (some ⟨w1.heap.size + 1, 0, none⟩)) true ty).run Tryd.prog wr = _ := fun ty => Lib.run_next_end_at wr (w1.heap.size + 1) u p ty hit hlt
          have HE := Lib.hid (show Lx.unescape false u.data.toList = out from UnAt.ends H.out (by rw [← Lib.size_eq]; omega))
          clear hit hI0
          go_wp2_with fail
          refine (bldString_any _ _ _ _ hB).mono ?_
          rintro e w4 ⟨rfl, _, hb4, _⟩
          go_wp2_with fail
          go_ret2
          exact ⟨retv (valueRes_some (by rw [HV2.out, HE.out])).symm, hb01.trans ((hb.trans hb4).mono (by omega))⟩
  · have HN := Lib.hid (show Lx.valueOf ⟨k, s.data.toList, a⟩ = none by unfold Lx.valueOf; simp [h3])
    have hk3 : (k != 3) = true := by rw [bne_iff_ne]; exact h3
    clear h3
    go_enter Tryd.func22, Tryd.ntmps22
    go_wp2_with fail
    go_ret2
    exact ⟨retv (valueRes_none HN.out).symm, hbox⟩

end Go.Proofs.YtoppkhkdbkkldaaDoor
