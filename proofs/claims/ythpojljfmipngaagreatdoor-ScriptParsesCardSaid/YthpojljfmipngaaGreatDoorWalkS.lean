/-
  THE WALKS, nineteenth part: Parse of package script. CONDITION: Env.
-/
import Derived.Test.YthpojljfmipngaaGreatDoorWalkR
import Derived.Test.YthpojljfmipngaaGreatDoorWalkO
namespace Go.Proofs.YthpojljfmipngaaGreatDoor
open Go.RowKit
theorem row_len (r : EvR) : r.row.length = 7 := rfl
theorem flat_get : ∀ (rs : List EvR) (i j : Nat) (r : EvR), rs[i]? = some r → ∀ u, r.row[j]? = some u → (rs.flatMap EvR.row)[i * 7 + j]? = some u
  | [], i, j, r, h, _, _ => by simp at h
  | a :: rs, 0, j, r, h, u, hu => by
    obtain rfl : a = r := by simpa using h
    have hj : j < 7 := by have := (List.getElem?_eq_some_iff.1 hu).1; rwa [row_len] at this
    rw [List.flatMap_cons, Nat.zero_mul, Nat.zero_add, List.getElem?_append_left (by rw [row_len]; exact hj)]
    exact hu
  | a :: rs, i + 1, j, r, h, u, hu => by
    have ih := flat_get rs i j r (by simpa using h) u hu
    rw [List.flatMap_cons, List.getElem?_append_right (by rw [row_len]; omega), row_len, show (i + 1) * 7 + j - 7 = i * 7 + j by omega]
    exact ih
/-- A row of events of the call's own, in blocks from B on; each event's rows are free to be written. -/
def EvsFree (B : Nat) (w : World) (A : Option Addr) (l : List Sc.Ev) : Prop :=
  l ≠ [] → ∃ b cs, A = some ⟨b, 0, none⟩ ∧ w.heap[b]? = some (.cells cs 39 (0, 0)) ∧ B ≤ b ∧ ∀ i x, l[i]? = some x → ∃ K B' kc bc, EvCells w b (0 + i * 7) x K B' kc bc ∧ EvT B w x K B'
theorem EvsFree.nil (B : Nat) (w : World) (A : Option Addr) : EvsFree B w A [] := fun h => absurd rfl h
theorem EvsFree.at_ {B : Nat} {w : World} {A : Option Addr} {l : List Sc.Ev} (h : EvsFree B w A l) : EvsAt w A l := fun hne => by
  obtain ⟨b, cs, h1, h2, _, h4⟩ := h hne
  refine ⟨b, 0, h1, (Array.getElem?_eq_some_iff.1 h2).1, fun i x hi => ?_⟩
  obtain ⟨K, B', kc, bc, h5, h6⟩ := h4 i x hi
  exact ⟨K, B', kc, bc, h5, h6.at_⟩
theorem EvT.mono {B B' : Nat} {w : World} {x : Sc.Ev} {K A : Option Addr} (h : EvT B w x K A) (hB : B' ≤ B) : EvT B' w x K A := ⟨h.keep.mono hB, h.bytes.mono hB, h.kl, h.bl⟩
theorem EvsFree.mono {B B' : Nat} {w : World} {A : Option Addr} {l : List Sc.Ev} (h : EvsFree B w A l) (hB : B' ≤ B) : EvsFree B' w A l := fun hne => by
  obtain ⟨b, cs, h1, h2, h3, h4⟩ := h hne
  refine ⟨b, cs, h1, h2, Nat.le_trans hB h3, fun i x hi => ?_⟩
  obtain ⟨K, B', kc, bc, h5, h6⟩ := h4 i x hi
  exact ⟨K, B', kc, bc, h5, h6.mono hB⟩
theorem ScrAt.evsAt {w : World} {sb B : Nat} {s : Sc.Scr} {v : Value} {rs : List EvR} (h : ScrAt w sb B s v rs) : ∃ A c, v = .slice A s.events.length c ∧ EvsFree sb w A s.events := by
  have hl : s.events.length = rs.length := by rw [h.evs, List.length_map]
  rcases h.own.own.2 with ⟨rfl, h0⟩ | ⟨g, cap, cur, rfl, hb, hg, rest⟩
  · have he : s.events = [] := List.eq_nil_of_length_eq_zero (by rw [hl, h0])
    rw [he]
    exact ⟨_, _, rfl, EvsFree.nil _ _ _⟩
  · rw [hl]
    refine ⟨_, _, rfl, fun _ => ⟨g, _, rfl, hg, Nat.le_trans (Nat.le_of_lt h.lt) hb, fun i x hi => ?_⟩⟩
    rw [h.evs, List.getElem?_map] at hi
    cases hr : rs[i]? with
    | none => rw [hr] at hi; cases hi
    | some r =>
      rw [hr] at hi
      obtain rfl : r.x = x := by simpa using hi
      have hc : ∀ j u, r.row[j]? = some u → w.cell? ⟨g, 0 + i * 7 + j, none⟩ = some u := by
        intro j u hj
        have hm : (rs.flatMap EvR.row)[i * 7 + j]? = some u := flat_get rs i j r hr u hj
        have := h.own.own.cells (g := g) rfl (i * 7 + j) u hm
        have hadd : (⟨g, 0, none⟩ : Addr).add (i * 7 + j) = ⟨g, i * 7 + j, none⟩ := by unfold Addr.add; split <;> simp_all
        rw [hadd] at this
        rw [Nat.zero_add]; exact this
      exact ⟨r.K, r.A, r.kc, r.bc, ⟨hc 0 _ rfl, hc 1 _ rfl, hc 2 _ rfl, hc 3 _ rfl, hc 4 _ rfl, hc 5 _ rfl, hc 6 _ rfl⟩, h.each r (List.mem_of_getElem? hr)⟩
theorem drop_upto (l : Sc.Bs) (a : Nat) (h : (Sc.upto 10 (l.drop a)).2.2 = true) : l.drop (a + (Sc.upto 10 (l.drop a)).1.length + 1) = (Sc.upto 10 (l.drop a)).2.1 ∧ a + (Sc.upto 10 (l.drop a)).1.length + 1 ≤ l.length := by
  have hs := Sc.upto_split 10 _ h
  generalize (Sc.upto 10 (l.drop a)).1 = x at hs ⊢
  generalize (Sc.upto 10 (l.drop a)).2.1 = y at hs ⊢
  constructor
  · rw [show a + x.length + 1 = a + (x.length + 1) by omega, ← List.drop_drop, hs]
    simp
  · have := congrArg List.length hs
    rw [List.length_drop, List.length_append, List.length_cons] at this
    omega
theorem str_drop (l : Sc.Bs) (a : Nat) : (⟨l.toArray⟩ : ByteArray).extract a l.length = ⟨(l.drop a).toArray⟩ := by
  rw [Lib.extract_eq]
  simp only [List.take_of_length_le (l := l.drop a) (i := l.length - a) (by rw [List.length_drop]; omega)]
theorem ScrAt.evs' {w : World} {sb B : Nat} {s : Sc.Scr} {A : Option Addr} {n c : Nat} {rs : List EvR} (h : ScrAt w sb B s (.slice A n c) rs) : EvsFree sb w A s.events := by
  obtain ⟨A', c', he, hE⟩ := h.evsAt
  injection he with h1 h2 h3
  subst h1
  exact hE
theorem ScrAt.but3 {w w' : World} {sb B rb : Nat} {s : Sc.Scr} {v : Value} {rs : List EvR} (h : ScrAt w sb B s v rs) (hk : But [rb] w w') (hr : rb < sb) (hx : ∃ cs fz, w.heap[rb]? = some (.cells cs 30 fz)) : ScrAt w' sb B s v rs := by
  obtain ⟨h1, h2, h3, h4, h5⟩ := h
  obtain ⟨cs, fz, hbb⟩ := hx
  exact ⟨h1, hk.blk h2 (by simp; omega), h3.but hk (by intro j hj; simp at hj; omega), h4, fun r hr' => (h5 r hr').but hk (by intro j hj; simp at hj; subst hj; exact ⟨cs, 30, fz, hbb, by decide, by decide⟩)⟩
theorem set3 {w : World} {rb : Nat} {x y z : Value} (h : w.heap[rb]? = some (.cells #[x, y, z] 30 (0, 0))) (a b c : Value) :
    But [rb] w (((w.setCell ⟨rb, 0, none⟩ a).setCell ⟨rb, 1, none⟩ b).setCell ⟨rb, 2, none⟩ c) ∧ (((w.setCell ⟨rb, 0, none⟩ a).setCell ⟨rb, 1, none⟩ b).setCell ⟨rb, 2, none⟩ c).heap[rb]? = some (.cells #[a, b, c] 30 (0, 0)) := by
  have h1 := but_set (i := 0) a h
  have h2 := but_set (i := 1) b h1.2
  have h3 := but_set (i := 2) c h2.2
  exact ⟨h1.1.trans (h2.1.trans h3.1), h3.2⟩
theorem zero3 {w : World} {rb : Nat} (h : w.heap[rb]? = some (.cells #[.int .i64 0, .int .i64 0, .slice none 0 0] 30 (0, 0))) :
    ((w.setCell ⟨rb, 0, none⟩ (.int .i64 0)).setCell ⟨rb, 1, none⟩ (.int .i64 0)).setCell ⟨rb, 2, none⟩ (.slice none 0 0) = w := by
  rw [setCell_self h (v := .int .i64 0) rfl, setCell_self h (v := .int .i64 0) rfl, setCell_self h (v := .slice none 0 0) rfl]
theorem line_few (s : Sc.Scr) (l : Sc.Bs) (n : Nat) (hs : s.events.length ≤ 300) (h : (Sc.line s l n).2 = true) : (Sc.line s l n).1.events.length ≤ 300 := by
  unfold Sc.line at h ⊢
  split at h
  · rename_i h0; rw [if_pos h0]; exact hs
  · rename_i h0
    rw [if_neg h0]
    have := (Sc.body_inv _ _ h).2.2
    simp; omega
set_option maxRecDepth 100000 in
set_option maxHeartbeats 8000000 in
theorem parse_any (text : Sc.Bs) (w : World) (henv : Env w) (hlen : text.length ≤ 9223372036854775807) :
    Calls Tryz.prog 6 #[.string ⟨text.toArray⟩] w fun e w' => ∃ A c, e = .returned (.tuple #[scrV (Sc.parseOf text).1 A c, .int .i64 (Sc.parseOf text).2.1, .int .i64 (Sc.parseOf text).2.2]) ∧ EvsFree w.heap.size w' A (Sc.parseOf text).1.events ∧ Below w.heap.size w w' := by
  have hz := fun W : World => heap_alloc_new W (.cells #[.int .i64 0, .int .i64 0, .slice none 0 0] 30)
  have hb1 := below_box w (.cells #[.int .i64 0, .int .i64 0, .slice none 0 0] 30)
  have hx1 := hz w
  have HX1 := Lib.hid hx1
  have HB1 := Lib.hid hb1
  have HENV := Lib.hid henv
  clear hz hx1 hb1 henv
  by_cases hl : (262144 : Int) < text.length
  · have HE : Hid (Sc.parseOf text = (Sc.zeroS, 0, 3)) := Lib.hid (by unfold Sc.parseOf; rw [if_pos (by omega)])
    have x0 := blk_cells HX1.out 0
    have x1 := blk_cells HX1.out 1
    have x2 := blk_cells HX1.out 2
    go_enter Tryz.func6, Tryz.ntmps6
    go_wp2_with fail
    go_step3
    go_wp2_with fail
    rw [Exit.noGoto_ret]
    refine bodyPost_ret (v := .tuple #[.agg #[.int .i64 0, .int .i64 0, .slice none 0 0], .int .i64 0, .int .i64 3]) ?_ rfl ?_
    · simp [results, Tryz.results6, go_sem, x0, x1, x2]
    · rw [HE.out]
      exact ⟨none, 0, rfl, EvsFree.nil _ _ _, HB1.out⟩
  have hl2 : text.length ≤ 262144 := by omega
  have hx2 := heap_alloc_new (w.alloc (.cells #[.int .i64 0, .int .i64 0, .slice none 0 0] 30)) (.cells #[.int .i64 0, .int .i64 0, .slice none 0 0] 30)
  have hb2 := below_box (w.alloc (.cells #[.int .i64 0, .int .i64 0, .slice none 0 0] 30)) (.cells #[.int .i64 0, .int .i64 0, .slice none 0 0] 30)
  have HX2 := Lib.hid (blk_next hb2 HX1.out)
  have HB2 := Lib.hid (HB1.out.trans (hb2.mono HB1.out.size))
  have hsz : (w.alloc (.cells #[.int .i64 0, .int .i64 0, .slice none 0 0] 30)).heap.size = w.heap.size + 1 := by simp
  have hsz2 : ((w.alloc (.cells #[.int .i64 0, .int .i64 0, .slice none 0 0] 30)).alloc (.cells #[.int .i64 0, .int .i64 0, .slice none 0 0] 30)).heap.size = w.heap.size + 2 := by simp
  rw [hsz] at hx2
  have h6 := HENV.out.big
  have HS2 : Hid (ScrAt ((w.alloc (.cells #[.int .i64 0, .int .i64 0, .slice none 0 0] 30)).alloc (.cells #[.int .i64 0, .int .i64 0, .slice none 0 0] 30)) (w.heap.size + 1) (w.heap.size + 2) Sc.zeroS (.slice none 0 0) []) := Lib.hid
    ⟨by omega, hx2, ⟨World.ownsRow_nil _ _ _ _, by rw [hsz2]; exact Nat.le_refl _⟩, rfl, fun r hr => by simp at hr⟩
  have HP : Hid (Sc.parseOf text = Sc.parseGo text 0 0 Sc.zeroS) := Lib.hid (by unfold Sc.parseOf; rw [if_neg (by omega)])
  clear hx2 hb2 hsz hsz2 HX1 HB1
  go_enter Tryz.func6, Tryz.ntmps6
  go_wp2_with fail
  go_step3
  go_wp2_with fail
  go_step3
  generalize (w.alloc (.cells #[.int .i64 0, .int .i64 0, .slice none 0 0] 30)).alloc (.cells #[.int .i64 0, .int .i64 0, .slice none 0 0] 30) = w2 at HX2 HB2 HS2 ⊢
  generalize hrb : w.heap.size = rb at HX2 HS2 h6 ⊢
  go_wp2_with fail
  go_loopw [6, 7, 8, 9, 10, 11] (fun at_ n ok _ _ _ wr => ∃ (a k : Nat) (s : Sc.Scr) (v : Value) (rs : List EvR), at_ = .int .i64 a ∧ n = .int .i64 k ∧ ok = .bool true ∧ a ≤ text.length ∧ k ≤ a ∧ rs.length ≤ 300 ∧ ScrAt wr (rb + 1) (rb + 2) s v rs ∧ Below (rb + 1) w2 wr ∧ Hid (Sc.parseOf text = Sc.parseGo (text.drop a) a k s)) (fun at_ _ _ _ _ _ _ => text.length - (intOf at_).toNat)
  case atStart => exact ⟨0, 0, Sc.zeroS, _, [], rfl, rfl, rfl, Nat.zero_le _, Nat.zero_le _, Nat.zero_le _, HS2.out, Below.refl _ _, by simpa using HP⟩
  case round =>
    obtain ⟨a, k, s, v, rs, rfl, rfl, rfl, ha, hka, hrs, hS, hb, hP⟩ := hrel
    have HS := Lib.hid hS
    have HB := Lib.hid hb
    clear hS hb HP
    have HP := hP
    clear hP
    by_cases hlt : a < text.length
    · have hz : (⟨text.toArray⟩ : ByteArray).size = text.length := by rw [Lib.size_eq]
      have hex : (⟨text.toArray⟩ : ByteArray).extract a text.length = ⟨(text.drop a).toArray⟩ := str_drop text a
      have hne : text.drop a ≠ [] := by intro e; have := congrArg List.length e; rw [List.length_drop, List.length_nil] at this; omega
      have G1 : Hid ((Sc.upto 10 (text.drop a)).2.2 = false → Sc.parseOf text = (Sc.zeroS, a, 380)) := Lib.hid (fun h => by
        rw [HP.out, Sc.parseGo, if_neg hne, if_neg (by rw [h]; simp)])
      have G2 : Hid ((Sc.upto 10 (text.drop a)).2.2 = true → (Sc.line s (Sc.upto 10 (text.drop a)).1 k).2 = false → Sc.parseOf text = (Sc.zeroS, a, 380)) := Lib.hid (fun h h2 => by
        rw [HP.out, Sc.parseGo, if_neg hne, if_pos h, if_neg (by rw [h2]; simp)])
      have G3 : Hid ((Sc.upto 10 (text.drop a)).2.2 = true → (Sc.line s (Sc.upto 10 (text.drop a)).1 k).2 = true → Sc.parseOf text = Sc.parseGo (Sc.upto 10 (text.drop a)).2.1 (a + (Sc.upto 10 (text.drop a)).1.length + 1) (k + 1) (Sc.line s (Sc.upto 10 (text.drop a)).1 k).1) := Lib.hid (fun h h2 => by
        rw [HP.out, Sc.parseGo, if_neg hne, if_pos h, if_pos h2])
      have G4 := Lib.hid (drop_upto text a)
      have hul := (upto_le 10 (text.drop a)).1
      rw [List.length_drop] at hul
      have he : Env wr := HENV.out.next (HB2.out.trans (HB.out.mono (by omega)))
      clear hne
      generalize hst : (⟨text.toArray⟩ : ByteArray) = st at hz hex ⊢
      clear hst
      go_wp2_with fail
      refine (cut_any (text.drop a) 10 _ he (by rw [List.length_drop]; omega)).mono ?_
      rintro e w3 ⟨rfl, hb3⟩
      have HS3 := Lib.hid (HS.out.next hb3)
      have HB3 := Lib.hid (HB.out.trans (hb3.mono (Nat.le_of_lt HS.out.cells.2.2.2.2)))
      have he3 := he.next hb3
      have HX3 := Lib.hid ((HB3.out.block rb (by omega)).trans HX2.out)
      have HW3 : Hid (Below rb w w3) := Lib.hid (hrb ▸ HB2.out.trans (HB3.out.mono (by omega)))
      clear hb3 he HS HB
      generalize Sc.upto 10 (text.drop a) = u at G1 G2 G3 G4 hul ⊢
      obtain ⟨l, t, q⟩ := u
      simp only at G1 G2 G3 G4 hul ⊢
      cases q
      · have HF := Lib.hid (G1.out rfl)
        clear G2 G3 G4 he3
        have q0 := blk_cells HX3.out 0
        have q1 := blk_cells HX3.out 1
        have q2 := blk_cells HX3.out 2
        have qf := fun i => blk_free HX3.out i
        have qlt : rb < w3.heap.size := (Array.getElem?_eq_some_iff.1 HX3.out).1
        go_wp2_with fail
        try rw [Exit.noGoto_ret]
        rw [zero3 HX3.out]
        refine bodyPost_ret (v := .tuple #[.agg #[.int .i64 0, .int .i64 0, .slice none 0 0], .int .i64 a, .int .i64 380]) ?_ rfl ?_
        · simp [results, Tryz.results6, go_sem, q0, q1, q2]
        · rw [HF.out]
          exact ⟨none, 0, rfl, EvsFree.nil _ _ _, by rw [hrb]; exact HW3.out⟩
      · go_wp2_with fail
        refine (line_any (rb + 1) (rb + 2) s v rs l k _ he3 (by omega) HS3.out (by omega) (by omega)).mono ?_
        rintro e w4 ⟨rfl, ⟨v', rs', hS4⟩, hb4⟩
        have HS4 := Lib.hid hS4
        have HB4 := Lib.hid (HB3.out.trans hb4)
        have HX4 := Lib.hid ((HB4.out.block rb (by omega)).trans HX2.out)
        have HW4 : Hid (Below rb w w4) := Lib.hid (hrb ▸ HB2.out.trans (HB4.out.mono (by omega)))
        have hfew := line_few s l k (by rw [HS3.out.evs, List.length_map]; exact hrs)
        clear hS4 hb4 he3 HS3 HB3 HX3 HW3
        generalize hln : Sc.line s l k = ln at G2 G3 HS4 hfew ⊢
        clear hln
        obtain ⟨s', q⟩ := ln
        simp only at G2 G3 HS4 hfew ⊢
        cases q
        · have HF := Lib.hid (G2.out (by simp) (by simp))
          clear G1 G3 G4
          have q0 := blk_cells HX4.out 0
          have q1 := blk_cells HX4.out 1
          have q2 := blk_cells HX4.out 2
          have qf := fun i => blk_free HX4.out i
          have qlt : rb < w4.heap.size := (Array.getElem?_eq_some_iff.1 HX4.out).1
          go_wp2_with fail
          try rw [Exit.noGoto_ret]
          rw [zero3 HX4.out]
          refine bodyPost_ret (v := .tuple #[.agg #[.int .i64 0, .int .i64 0, .slice none 0 0], .int .i64 a, .int .i64 380]) ?_ rfl ?_
          · simp [results, Tryz.results6, go_sem, q0, q1, q2]
          · rw [HF.out]
            exact ⟨none, 0, rfl, EvsFree.nil _ _ _, by rw [hrb]; exact HW4.out⟩
        · obtain ⟨hd, hle⟩ := G4.out (by simp)
          have HD := Lib.hid hd
          have HF := Lib.hid (G3.out (by simp) (by simp))
          have hrs' : rs'.length ≤ 300 := by have h1 := hfew (by simp); have h2 := HS4.out.evs; rw [h2, List.length_map] at h1; exact h1
          clear G1 G2 hd
          go_wp2_with fail
          go_roundw
          case rel => exact ⟨a + l.length + 1, k + 1, s', v', rs', by go_num, by go_num, rfl, hle, by omega, hrs', HS4.out, HB4.out, Lib.hid (by rw [HF.out, HD.out])⟩
          case measure => simp [intOf]; omega
    · obtain rfl : a = text.length := by omega
      have hnil : text.drop text.length = [] := List.drop_length
      rw [hnil] at HP
      by_cases hk : k < 1
      · have HF : Hid (Sc.parseOf text = (Sc.zeroS, text.length, 380)) := Lib.hid (by rw [HP.out, Sc.parseGo, if_pos rfl, if_pos hk])
        have hki : (k : Int) < 1 := by omega
        have HX3 := Lib.hid ((HB.out.block rb (by omega)).trans HX2.out)
        have HW3 : Hid (Below rb w wr) := Lib.hid (hrb ▸ HB2.out.trans (HB.out.mono (by omega)))
        have q0 := blk_cells HX3.out 0
        have q1 := blk_cells HX3.out 1
        have q2 := blk_cells HX3.out 2
        have qf := fun i => blk_free HX3.out i
        have qlt : rb < wr.heap.size := (Array.getElem?_eq_some_iff.1 HX3.out).1
        go_wp2_with fail
        try rw [Exit.noGoto_ret]
        rw [zero3 HX3.out]
        refine bodyPost_ret (v := .tuple #[.agg #[.int .i64 0, .int .i64 0, .slice none 0 0], .int .i64 text.length, .int .i64 380]) ?_ rfl ?_
        · simp [results, Tryz.results6, go_sem, q0, q1, q2]
        · rw [HF.out]
          exact ⟨none, 0, rfl, EvsFree.nil _ _ _, by rw [hrb]; exact HW3.out⟩
      · have HF : Hid (Sc.parseOf text = (s, 0, 0)) := Lib.hid (by rw [HP.out, Sc.parseGo, if_pos rfl, if_neg hk])
        have hki : ¬ (k : Int) < 1 := by omega
        have HX3 := Lib.hid ((HB.out.block rb (by omega)).trans HX2.out)
        have HW3 : Hid (Below rb w wr) := Lib.hid (hrb ▸ HB2.out.trans (HB.out.mono (by omega)))
        obtain ⟨A, c, rfl, _⟩ := HS.out.evsAt
        have h3 := set3 HX3.out (.int .i64 s.servers) (.int .i64 s.area) (.slice A s.events.length c)
        have HE := Lib.hid ((HS.out.but3 h3.1 (by omega) ⟨_, _, HX3.out⟩).evs')
        have HW4 := Lib.hid (HW3.out.trans (h3.1.to (B := rb) (by have := (Array.getElem?_eq_some_iff.1 HX3.out).1; omega) (by intro j hj; simp at hj; omega)))
        obtain ⟨p0, p1, p2, pf, plt⟩ := HS.out.cells
        have q0 := blk_cells HX3.out 0
        have q1 := blk_cells HX3.out 1
        have q2 := blk_cells HX3.out 2
        have qf := fun i => blk_free HX3.out i
        have qlt : rb < wr.heap.size := (Array.getElem?_eq_some_iff.1 HX3.out).1
        have z0 := blk_cells h3.2 0
        have z1 := blk_cells h3.2 1
        have z2 := blk_cells h3.2 2
        have Z0 := Lib.hid z0
        have Z1 := Lib.hid z1
        have Z2 := Lib.hid z2
        clear z0 z1 z2 h3
        go_wp2_with fail
        try rw [Exit.noGoto_ret]
        refine bodyPost_ret (v := .tuple #[.agg #[.int .i64 s.servers, .int .i64 s.area, .slice A s.events.length c], .int .i64 0, .int .i64 0]) ?_ rfl ?_
        · have z0 := Z0.out
          have z1 := Z1.out
          have z2 := Z2.out
          simp [results, Tryz.results6, go_sem, z0, z1, z2]
        · rw [HF.out]
          exact ⟨A, c, rfl, HE.out.mono (by omega), by rw [hrb]; exact HW4.out⟩
end Go.Proofs.YthpojljfmipngaaGreatDoor
