/-
  THE WALK of the document's Parse. CONDITION: the heap has its first blocks; the text's length.
-/
import Derived.Test.YthpojljfmipngaaGreatDoorPG
import Derived.Test.YthpojljfmipngaaGreatDoorWalkS
namespace Go.Proofs.YthpojljfmipngaaGreatDoor
open Go.RowKit
namespace Rf
theorem lineR_few (s : Sc.Scr) (l : Sc.Bs) (n : Nat) (hs : s.events.length ≤ 300) (h : (lineR s l n).2 = true) : (lineR s l n).1.events.length ≤ 300 := by
  unfold lineR at h ⊢
  split at h
  · rename_i h0
    rw [if_pos h0]
    simp only
    split <;> exact hs
  · rename_i h0
    rw [if_neg h0]
    simp only [Bool.and_eq_true, decide_eq_true_eq] at h
    simp; omega
theorem upto_facts (l : Sc.Bs) : (Sc.upto 10 l).1.length ≤ l.length ∧ (∀ k c, k < (Sc.upto 10 l).1.length → l[k]? = some c → c ≠ 10) ∧ ((Sc.upto 10 l).2.2 = true → (Sc.upto 10 l).1.length < l.length ∧ ∀ c, l[(Sc.upto 10 l).1.length]? = some c → c = 10) ∧ ((Sc.upto 10 l).2.2 = false → (Sc.upto 10 l).1.length = l.length) ∧ (Sc.upto 10 l).1 = l.take (Sc.upto 10 l).1.length := by
  have hf := Sc.upto_free 10 l
  cases hq : (Sc.upto 10 l).2.2 with
  | true =>
    have hs := Sc.upto_split 10 l hq
    generalize (Sc.upto 10 l).1 = a at hs hf ⊢
    generalize (Sc.upto 10 l).2.1 = b at hs
    subst hs
    refine ⟨by simp, ?_, fun _ => ⟨by simp, ?_⟩, (fun h => by cases h), by simp⟩
    · intro k c hk hc
      rw [List.getElem?_append_left hk] at hc
      exact hf c (List.mem_of_getElem? hc)
    · intro c hc
      simpa using hc.symm
  | false =>
    obtain ⟨h1, _⟩ := Sc.upto_none 10 l hq
    rw [h1] at hf ⊢
    refine ⟨Nat.le_refl _, ?_, (fun h => by cases h), fun _ => rfl, by simp⟩
    intro k c _ hc
    exact hf c (List.mem_of_getElem? hc)
end Rf
/-- What Parse leaves. -/
def POut (P : Sc.Scr × Nat × Int) (w : World) (e : Ending) (w' : World) : Prop :=
  ∃ A c, e = .returned (.tuple #[scrV P.1 A c, .int .i64 P.2.1, .int .i64 P.2.2]) ∧ EvsFree w.heap.size w' A P.1.events ∧ Below w.heap.size w w'
theorem POut.of {P : Sc.Scr × Nat × Int} {w w' : World} {s : Sc.Scr} {p : Nat} {r : Int} (A : Option Addr) (c : Nat) (h : P = (s, p, r)) (hE : EvsFree w.heap.size w' A s.events) (hb : Below w.heap.size w w') : POut P w (.returned (.tuple #[.agg #[.int .i64 s.servers, .int .i64 s.area, .slice A s.events.length c], .int .i64 p, .int .i64 r])) w' := by
  subst h
  exact ⟨A, c, rfl, hE, hb⟩
set_option maxRecDepth 100000 in
set_option maxHeartbeats 8000000 in
theorem refParse_any (text : Sc.Bs) (w : World) (hlen : text.length ≤ 9223372036854775807) :
    Calls Tryz.prog 8 #[.string ⟨text.toArray⟩] w (POut (Rf.parseR text) w) := by
  have hz := fun W : World => heap_alloc_new W (.cells #[.int .i64 0, .int .i64 0, .slice none 0 0] 30)
  have hb1 := below_box w (.cells #[.int .i64 0, .int .i64 0, .slice none 0 0] 30)
  have hx1 := hz w
  have HX1 := Lib.hid hx1
  have HB1 := Lib.hid hb1
  clear hz hx1 hb1
  by_cases hl : (262144 : Int) < text.length
  · have HE : Hid (Rf.parseR text = (Sc.zeroS, 0, 3)) := Lib.hid (by unfold Rf.parseR; rw [if_pos (by omega)])
    have x0 := blk_cells HX1.out 0
    have x1 := blk_cells HX1.out 1
    have x2 := blk_cells HX1.out 2
    go_enter Tryz.func8, Tryz.ntmps8
    go_wp2_with fail
    refine bodyPost_ret (v := .tuple #[.agg #[.int .i64 0, .int .i64 0, .slice none 0 0], .int .i64 0, .int .i64 3]) ?_ rfl ?_
    · simp [results, Tryz.results8, go_sem, x0, x1, x2]
    · exact POut.of (s := Sc.zeroS) none 0 HE.out (EvsFree.nil _ _ _) HB1.out
  have hl2 : text.length ≤ 262144 := by omega
  have hx2 := heap_alloc_new (w.alloc (.cells #[.int .i64 0, .int .i64 0, .slice none 0 0] 30)) (.cells #[.int .i64 0, .int .i64 0, .slice none 0 0] 30)
  have hb2 := below_box (w.alloc (.cells #[.int .i64 0, .int .i64 0, .slice none 0 0] 30)) (.cells #[.int .i64 0, .int .i64 0, .slice none 0 0] 30)
  have HX2 := Lib.hid (blk_next hb2 HX1.out)
  have HB2 := Lib.hid (HB1.out.trans (hb2.mono HB1.out.size))
  have hsz : (w.alloc (.cells #[.int .i64 0, .int .i64 0, .slice none 0 0] 30)).heap.size = w.heap.size + 1 := by simp
  have hsz2 : ((w.alloc (.cells #[.int .i64 0, .int .i64 0, .slice none 0 0] 30)).alloc (.cells #[.int .i64 0, .int .i64 0, .slice none 0 0] 30)).heap.size = w.heap.size + 2 := by simp
  rw [hsz] at hx2
  have HS2 : Hid (ScrAt ((w.alloc (.cells #[.int .i64 0, .int .i64 0, .slice none 0 0] 30)).alloc (.cells #[.int .i64 0, .int .i64 0, .slice none 0 0] 30)) (w.heap.size + 1) (w.heap.size + 2) Sc.zeroS (.slice none 0 0) []) := Lib.hid
    ⟨by omega, hx2, ⟨World.ownsRow_nil _ _ _ _, by rw [hsz2]; exact Nat.le_refl _⟩, rfl, fun r hr => by simp at hr⟩
  have HP : Hid (Rf.parseR text = Rf.parseRGo text 0 0 Sc.zeroS) := Lib.hid (by unfold Rf.parseR; rw [if_neg (by omega)])
  clear hx2 hb2 hsz hsz2 HX1 HB1
  go_enter Tryz.func8, Tryz.ntmps8
  go_wp2_with fail
  generalize (w.alloc (.cells #[.int .i64 0, .int .i64 0, .slice none 0 0] 30)).alloc (.cells #[.int .i64 0, .int .i64 0, .slice none 0 0] 30) = w2 at HX2 HB2 HS2 ⊢
  generalize hrb : w.heap.size = rb at HX2 HS2 ⊢
  go_loopw [6, 7] (fun at_ n wr => ∃ (a k : Nat) (s : Sc.Scr) (v : Value) (rs : List EvR), at_ = .int .i64 a ∧ n = .int .i64 k ∧ a ≤ text.length ∧ k ≤ a ∧ rs.length ≤ 300 ∧ ScrAt wr (rb + 1) (rb + 2) s v rs ∧ Below (rb + 1) w2 wr ∧ Hid (Rf.parseR text = Rf.parseRGo (text.drop a) a k s)) (fun at_ _ _ => text.length - (intOf at_).toNat)
  case atStart => exact ⟨0, 0, Sc.zeroS, _, [], rfl, rfl, Nat.zero_le _, Nat.zero_le _, Nat.zero_le _, HS2.out, Below.refl _ _, by simpa using HP⟩
  case round =>
    obtain ⟨a, k, s, v, rs, rfl, rfl, ha, hka, hrs, hS, hb, hP⟩ := hrel
    have HS := Lib.hid hS
    have HB := Lib.hid hb
    clear hS hb HP
    have HP := hP
    clear hP
    have HW3 : Hid (Below rb w wr) := Lib.hid (hrb ▸ HB2.out.trans (HB.out.mono (by omega)))
    have HX3 := Lib.hid ((HB.out.block rb (by omega)).trans HX2.out)
    by_cases hlt : a < text.length
    · have hz : (⟨text.toArray⟩ : ByteArray).size = text.length := by rw [Lib.size_eq]
      have hne : text.drop a ≠ [] := by intro e; have := congrArg List.length e; rw [List.length_drop, List.length_nil] at this; omega
      obtain ⟨u1, u2, u3, u4, u5⟩ := Rf.upto_facts (text.drop a)
      rw [List.length_drop] at u1 u3 u4
      have G1 : Hid ((Sc.upto 10 (text.drop a)).2.2 = false → Rf.parseR text = (Sc.zeroS, a, 380)) := Lib.hid (fun h => by
        rw [HP.out, Rf.parseRGo, if_neg hne, if_neg (by rw [h]; simp)])
      have G2 : Hid ((Sc.upto 10 (text.drop a)).2.2 = true → ¬ ((Sc.upto 10 (text.drop a)).1.length ≤ 60000 ∧ (Rf.lineR s (Sc.upto 10 (text.drop a)).1 k).2 = true) → Rf.parseR text = (Sc.zeroS, a, 380)) := Lib.hid (fun h h2 => by
        rw [HP.out, Rf.parseRGo, if_neg hne, if_pos h, if_neg h2])
      have G3 : Hid ((Sc.upto 10 (text.drop a)).2.2 = true → (Sc.upto 10 (text.drop a)).1.length ≤ 60000 → (Rf.lineR s (Sc.upto 10 (text.drop a)).1 k).2 = true → Rf.parseR text = Rf.parseRGo (Sc.upto 10 (text.drop a)).2.1 (a + (Sc.upto 10 (text.drop a)).1.length + 1) (k + 1) (Rf.lineR s (Sc.upto 10 (text.drop a)).1 k).1) := Lib.hid (fun h h1 h2 => by
        rw [HP.out, Rf.parseRGo, if_neg hne, if_pos h, if_pos ⟨h1, h2⟩])
      have G4 := Lib.hid (drop_upto text a)
      have hex : (⟨text.toArray⟩ : ByteArray).extract a (a + (Sc.upto 10 (text.drop a)).1.length) = ⟨(Sc.upto 10 (text.drop a)).1.toArray⟩ := by
        rw [Lib.extract_eq]
        simp only [Nat.add_sub_cancel_left]
        rw [← u5]
      have HGET : Hid (∀ (j : Nat) (h : j < (⟨text.toArray⟩ : ByteArray).size), text[j]? = some ((⟨text.toArray⟩ : ByteArray)[j]'h)) := Lib.hid (fun j h => by
        have h2 : j < text.length := by rw [← hz]; exact h
        rw [List.getElem?_eq_getElem h2]; rfl)
      have U2 : Hid (∀ j c, a ≤ j → j < a + (Sc.upto 10 (text.drop a)).1.length → text[j]? = some c → c.toNat ≠ 10) := Lib.hid (fun j c h1 h2 h3 e => u2 (j - a) c (by omega) (by rw [List.getElem?_drop, show a + (j - a) = j by omega]; exact h3) (UInt8.toNat_inj.1 e))
      have U3 : Hid ((Sc.upto 10 (text.drop a)).2.2 = true → a + (Sc.upto 10 (text.drop a)).1.length < text.length ∧ ∀ c, text[a + (Sc.upto 10 (text.drop a)).1.length]? = some c → c.toNat = 10) := Lib.hid (fun h => ⟨by have := (u3 h).1; omega, fun c hc => by rw [(u3 h).2 c (by rw [List.getElem?_drop]; exact hc)]; rfl⟩)
      have U4 : Hid ((Sc.upto 10 (text.drop a)).2.2 = false → a + (Sc.upto 10 (text.drop a)).1.length = text.length) := Lib.hid (fun h => by have := u4 h; omega)
      clear hne u2 u3 u4 u5
      generalize hst : (⟨text.toArray⟩ : ByteArray) = st at hz hex HGET ⊢
      clear hst
      generalize Sc.upto 10 (text.drop a) = u at G1 G2 G3 G4 U2 U3 U4 u1 hex ⊢
      obtain ⟨l, t, q⟩ := u
      simp only at G1 G2 G3 G4 U2 U3 U4 u1 hex ⊢
      obtain ⟨E, hE⟩ : ∃ E, a + l.length = E := ⟨_, rfl⟩
      have HE := Lib.hid hE
      rw [hE] at U2 U3 U4 hex G3 G4
      have hEl : E ≤ text.length := by omega
      have haE : a ≤ E := by omega
      clear hE u1
      obtain ⟨wo, rfl⟩ : ∃ wo : World, wo = wr := ⟨_, rfl⟩
      go_wp2_with fail
      go_loopw [8] (fun e wr => ∃ j : Nat, a ≤ j ∧ j ≤ E ∧ e = .int .i64 j ∧ wr = wo) (fun e _ => E - (intOf e).toNat)
      case atStart => exact ⟨a, Nat.le_refl _, haE, rfl, by first | rfl | trivial⟩
      case round =>
        obtain ⟨j, haj, hjE, rfl, hwr⟩ := hrel
        subst hwr
        by_cases hj : j < E
        · have hjs : j < st.size := by omega
          obtain ⟨c, hc⟩ : ∃ c, st[j]'hjs = c := ⟨_, rfl⟩
          have h10 := U2.out j c haj hj (by rw [HGET.out j hjs, hc])
          have n10 : ((c.toNat : Int) != 10) = true := by simp; omega
          have hjt : j < text.length := by omega
          clear h10
          go_wp2_with fail
          go_roundw
          case rel => exact ⟨j + 1, by omega, by omega, by go_num, by first | rfl | trivial⟩
          case measure => simp [intOf]; omega
        · obtain rfl : j = E := by omega
          clear hjE hj
          cases q
          · have hjt := U4.out rfl
            have HF := Lib.hid (G1.out rfl)
            have q0 := blk_cells HX3.out 0
            have q1 := blk_cells HX3.out 1
            have q2 := blk_cells HX3.out 2
            have qf := fun i => blk_free HX3.out i
            have qlt : rb < wr.heap.size := (Array.getElem?_eq_some_iff.1 HX3.out).1
            clear G2 G3 G4 U2 U3 HGET
            subst hjt
            go_wp2_with fail
            rw [zero3 HX3.out]
            refine bodyPost_ret (v := .tuple #[.agg #[.int .i64 0, .int .i64 0, .slice none 0 0], .int .i64 a, .int .i64 380]) ?_ rfl ?_
            · simp [results, Tryz.results8, go_sem, q0, q1, q2]
            · exact POut.of (s := Sc.zeroS) none 0 HF.out (EvsFree.nil _ _ _) (by rw [hrb]; exact HW3.out)
          · obtain ⟨hjt, hjc⟩ := U3.out rfl
            have hjs : j < st.size := by omega
            obtain ⟨c, hc⟩ : ∃ c, st[j]'hjs = c := ⟨_, rfl⟩
            have h10 := hjc c (by rw [HGET.out j hjs, hc])
            have n10 : ((c.toNat : Int) != 10) = false := by simp; omega
            have nle : ((j : Int) == (text.length : Int)) = false := by rw [beq_eq_false_iff_ne]; omega
            have H2 := Lib.hid (G2.out rfl)
            have H3 := Lib.hid (G3.out rfl)
            have H4 := Lib.hid (G4.out rfl)
            have hjl : l.length = j - a := by have := HE.out; omega
            have HJL := Lib.hid hjl
            clear hjc h10 U2 U3 U4 G1 G2 G3 G4 HGET hjl
            by_cases h6 : j - a ≤ 60000
            · have h6i : ¬ (60000 : Int) < (j : Int) - a := by omega
              have h7 : (0 : Int) ≤ (j : Int) - a := by omega
              go_wp2_with fail
              refine (refLine20_any (rb + 1) (rb + 2) s v rs l k _ HS.out (by rw [HJL.out]; exact h6) hrs).mono ?_
              rintro e w4 ⟨rfl, hS4, hb4⟩
              have HB4 := Lib.hid (HB.out.trans hb4)
              have HX4 := Lib.hid ((HB4.out.block rb (by omega)).trans HX2.out)
              have HW4 : Hid (Below rb w w4) := Lib.hid (hrb ▸ HB2.out.trans (HB4.out.mono (by omega)))
              have hfew := Rf.lineR_few s l k (by rw [HS.out.evs, List.length_map]; exact hrs)
              have F2 : Hid ((Rf.lineR s l k).2 = false → Rf.parseR text = (Sc.zeroS, a, 380)) := Lib.hid (fun h => H2.out (fun hh => by rw [h] at hh; cases hh.2))
              have F3 := Lib.hid (H3.out (by rw [HJL.out]; exact h6))
              have HS4 := Lib.hid hS4
              clear hS4 hb4 HX3 HW3 H2 H3
              generalize hln : Rf.lineR s l k = ln at F2 F3 HS4 hfew ⊢
              clear hln
              obtain ⟨s', q⟩ := ln
              simp only at F2 F3 HS4 hfew ⊢
              cases q
              · have HF := Lib.hid (F2.out (by simp))
                clear F3 H4 HS4
                have q0 := blk_cells HX4.out 0
                have q1 := blk_cells HX4.out 1
                have q2 := blk_cells HX4.out 2
                have qf := fun i => blk_free HX4.out i
                have qlt : rb < w4.heap.size := (Array.getElem?_eq_some_iff.1 HX4.out).1
                go_wp2_with fail
                rw [zero3 HX4.out]
                refine bodyPost_ret (v := .tuple #[.agg #[.int .i64 0, .int .i64 0, .slice none 0 0], .int .i64 a, .int .i64 380]) ?_ rfl ?_
                · simp [results, Tryz.results8, go_sem, q0, q1, q2]
                · exact POut.of (s := Sc.zeroS) none 0 HF.out (EvsFree.nil _ _ _) (by rw [hrb]; exact HW4.out)
              · obtain ⟨hd, hle⟩ := H4.out
                have HD := Lib.hid hd
                have HF := Lib.hid (F3.out (by simp))
                obtain ⟨v', rs', hS5⟩ := HS4.out (by simp)
                have HS5 := Lib.hid hS5
                have hrs' : rs'.length ≤ 300 := by have h1 := hfew (by simp); have h2 := HS5.out.evs; rw [h2, List.length_map] at h1; exact h1
                clear F2 F3 hd hS5 HS4
                go_wp2_with fail
                go_roundw
                case rel => exact ⟨j + 1, k + 1, s', v', rs', by go_num, by go_num, hle, by omega, hrs', HS5.out, HB4.out, Lib.hid (by rw [HF.out, HD.out])⟩
                case measure => simp [intOf]; omega
            · have h6i : (60000 : Int) < (j : Int) - a := by omega
              have HF := Lib.hid (H2.out (fun hh => by have := hh.1; rw [HJL.out] at this; omega))
              have q0 := blk_cells HX3.out 0
              have q1 := blk_cells HX3.out 1
              have q2 := blk_cells HX3.out 2
              have qf := fun i => blk_free HX3.out i
              have qlt : rb < wr.heap.size := (Array.getElem?_eq_some_iff.1 HX3.out).1
              clear H2 H3 H4 HJL
              go_wp2_with fail
              rw [zero3 HX3.out]
              refine bodyPost_ret (v := .tuple #[.agg #[.int .i64 0, .int .i64 0, .slice none 0 0], .int .i64 a, .int .i64 380]) ?_ rfl ?_
              · simp [results, Tryz.results8, go_sem, q0, q1, q2]
              · exact POut.of (s := Sc.zeroS) none 0 HF.out (EvsFree.nil _ _ _) (by rw [hrb]; exact HW3.out)
    · obtain rfl : a = text.length := by omega
      have hnil : text.drop text.length = [] := List.drop_length
      rw [hnil] at HP
      by_cases hk : k < 1
      · have HF : Hid (Rf.parseR text = (Sc.zeroS, text.length, 380)) := Lib.hid (by rw [HP.out, Rf.parseRGo, if_pos rfl, if_pos hk])
        have hki : (k : Int) < 1 := by omega
        have q0 := blk_cells HX3.out 0
        have q1 := blk_cells HX3.out 1
        have q2 := blk_cells HX3.out 2
        have qf := fun i => blk_free HX3.out i
        have qlt : rb < wr.heap.size := (Array.getElem?_eq_some_iff.1 HX3.out).1
        go_wp2_with fail
        rw [zero3 HX3.out]
        refine bodyPost_ret (v := .tuple #[.agg #[.int .i64 0, .int .i64 0, .slice none 0 0], .int .i64 text.length, .int .i64 380]) ?_ rfl ?_
        · simp [results, Tryz.results8, go_sem, q0, q1, q2]
        · exact POut.of (s := Sc.zeroS) none 0 HF.out (EvsFree.nil _ _ _) (by rw [hrb]; exact HW3.out)
      · have HF : Hid (Rf.parseR text = (s, 0, 0)) := Lib.hid (by rw [HP.out, Rf.parseRGo, if_pos rfl, if_neg hk])
        have hki : ¬ (k : Int) < 1 := by omega
        obtain ⟨A, c, rfl, _⟩ := HS.out.evsAt
        have h3 := set3 HX3.out (.int .i64 s.servers) (.int .i64 s.area) (.slice A s.events.length c)
        have HE := Lib.hid ((HS.out.but3 h3.1 (by omega) ⟨_, _, HX3.out⟩).evs')
        have HW4 := Lib.hid (HW3.out.trans (h3.1.to (B := rb) (by have := (Array.getElem?_eq_some_iff.1 HX3.out).1; omega) (by intro j hj; simp at hj; omega)))
        obtain ⟨p0, p1, p2, pf, plt⟩ := HS.out.cells
        have q0 := blk_cells HX3.out 0
        have q1 := blk_cells HX3.out 1
        have q2 := blk_cells HX3.out 2
        have qf := fun i => blk_free HX3.out i
        have qlt : rb < wr.heap.size := (Array.getElem?_eq_some_iff.1 HX3.out).1
        have z0 := blk_cells h3.2 0
        have z1 := blk_cells h3.2 1
        have z2 := blk_cells h3.2 2
        have Z0 := Lib.hid z0
        have Z1 := Lib.hid z1
        have Z2 := Lib.hid z2
        clear z0 z1 z2 h3
        go_wp2_with fail
        refine bodyPost_ret (v := .tuple #[.agg #[.int .i64 s.servers, .int .i64 s.area, .slice A s.events.length c], .int .i64 0, .int .i64 0]) ?_ rfl ?_
        · have z0 := Z0.out
          have z1 := Z1.out
          have z2 := Z2.out
          simp [results, Tryz.results8, go_sem, z0, z1, z2]
        · exact POut.of A c HF.out (HE.out.mono (by omega)) (by rw [hrb]; exact HW4.out)
end Go.Proofs.YthpojljfmipngaaGreatDoor
