/-
  The document's Text. CONDITIONS: the value lies as JV says, is good, its numbers are int64s; the text is not long.
-/
import Derived.Test.YtimioelnnhnbiaaDoorRB
import Derived.Test.YtimioelnnhnbiaaDoorWU
import Derived.Deep.RegionHeld3
namespace Go.Proofs.YtimioelnnhnbiaaDoor
open Go.RowKit
def TextC (N : Nat) : Prop := ∀ (x : Js.J) (vs : List Value) (S : Nat → Prop) (w : World), Js.nodes x ≤ N → JV w S x vs → Js.good x = true → Js.inR x = true → (Js.textOf x).length ≤ 1073741824 →
    Calls Tryd.prog 12 #[.agg vs.toArray] w fun e w' => e = .returned (.string (str (Js.textOf x))) ∧ Below w.heap.size w w'
set_option maxRecDepth 100000 in
set_option maxHeartbeats 16000000 in
theorem text_step (N : Nat) (ih : TextC N) : TextC (N + 1) := by
  intro x vs S w hN hjv hg hr hlen
  cases x with | mk k0 b0 n0 t0 l m =>
  have HJ := Lib.hid hjv
  unfold JV at hjv
  obtain ⟨A5, c5, A6, c6, rfl, hc5, hc6, -, -⟩ := hjv
  have hgd : (Js.plain (.mk k0 b0 n0 t0 l m) && Js.goodL l && Js.goodM m && decide ((m.map (·.1)).Nodup)) = true := hg
  have hrd : (decide (-9223372036854775808 ≤ n0) && decide (n0 ≤ 9223372036854775807) && decide (-9223372036854775808 ≤ k0) && decide (k0 ≤ 9223372036854775807) && Js.inRL l && Js.inRM m) = true := hr
  simp only [Bool.and_eq_true, decide_eq_true_eq] at hgd hrd
  obtain ⟨⟨⟨hpl, hgl⟩, hgm⟩, -⟩ := hgd
  obtain ⟨⟨⟨⟨⟨hn1, hn2⟩, -⟩, -⟩, hrl⟩, hrm⟩ := hrd
  have hk16 : (1 ≤ k0 ∧ k0 ≤ 6) ∧ (k0 = 5 → m = []) ∧ (k0 = 6 → l = []) := by
    unfold Js.plain at hpl
    simp only [Bool.and_eq_true, Bool.or_eq_true, decide_eq_true_eq, List.isEmpty_iff] at hpl
    obtain ⟨⟨⟨⟨⟨⟨h1, h2⟩, -⟩, -⟩, -⟩, h5⟩, h6⟩ := hpl
    have h1 : 1 ≤ k0 := h1
    have h2 : k0 ≤ 6 := h2
    have h5 : k0 = 5 ∨ l = [] := h5
    have h6 : k0 = 6 ∨ m = [] := h6
    exact ⟨⟨h1, h2⟩, fun h => h6.resolve_left (by omega), fun h => h5.resolve_left (by omega)⟩
  have hbel := below_box w (.cells #[.int .i64 k0, .bool b0, .int .i64 n0, .string (str t0), .slice A5 l.length c5, .slice A6 m.length c6] 25)
  have HBx : Hid (JBox (w.alloc (.cells #[.int .i64 k0, .bool b0, .int .i64 n0, .string (str t0), .slice A5 l.length c5, .slice A6 m.length c6] 25)) w.heap.size (.int .i64 k0) (.bool b0) (.int .i64 n0) (.string (str t0)) (.slice A5 l.length c5) (.slice A6 m.length c6)) := Lib.hid (heap_alloc_new w (.cells #[.int .i64 k0, .bool b0, .int .i64 n0, .string (str t0), .slice A5 l.length c5, .slice A6 m.length c6] 25))
  have HW1 := Lib.hid hbel
  have HJ1 := Lib.hid (HJ.out.next hbel)
  clear hbel HJ hpl hg hr
  go_enter Tryd.func12, Tryd.ntmps12
  go_upto_region 1 with fail
  generalize (w.alloc (.cells #[.int .i64 k0, .bool b0, .int .i64 n0, .string (str t0), .slice A5 l.length c5, .slice A6 m.length c6] 25)) = w1 at HBx HW1 HJ1 ⊢
  obtain ⟨M, hM⟩ : ∃ M, w.heap.size = M := ⟨_, rfl⟩
  rw [hM] at HBx ⊢
  have HMM := Lib.hid hM
  clear hM
  obtain ⟨x0, x1, x2, x3, x4, x5⟩ := HBx.out.cells
  by_cases h1 : k0 = 1
  · subst h1
    go_wp2_with fail
    go_ret
    exact ⟨rfl, HW1.out⟩
  have b1 : (k0 == 1) = false := by rw [beq_eq_false_iff_ne]; exact h1
  by_cases h2 : k0 = 2
  · subst h2
    cases b0
    · go_wp2_with fail
      go_ret
      exact ⟨rfl, HW1.out⟩
    · go_wp2_with fail
      go_ret
      exact ⟨rfl, HW1.out⟩
  have b2 : (k0 == 2) = false := by rw [beq_eq_false_iff_ne]; exact h2
  by_cases h3 : k0 = 3
  · subst h3
    have HT : Hid (Js.textOf (.mk 3 b0 n0 t0 l m) = Lib.itoa n0) := Lib.hid rfl
    go_wp2_with fail
    refine (digits_any n0 _ hn1 hn2).mono ?_
    rintro e w2 ⟨rfl, rfl⟩
    go_wp2_with fail
    go_ret
    exact ⟨by rw [HT.out]; rfl, HW1.out⟩
  have b3 : (k0 == 3) = false := by rw [beq_eq_false_iff_ne]; exact h3
  by_cases h4 : k0 = 4
  · subst h4
    have HT : Hid (Js.textOf (.mk 4 b0 n0 t0 l m) = Js.quote t0) := Lib.hid rfl
    have hql := Js.quote_len t0
    rw [HT.out] at hlen
    go_wp2_with fail
    refine (refQuote_any t0 _ (by omega)).mono ?_
    rintro e w2 ⟨rfl, hb2⟩
    have HW2 := Lib.hid (HW1.out.trans (hb2.mono HW1.out.size))
    clear hb2
    go_wp2_with fail
    go_ret
    exact ⟨by rw [HT.out]; rfl, HW2.out⟩
  have b4 : (k0 == 4) = false := by rw [beq_eq_false_iff_ne]; exact h4
  have h56 : k0 = 5 ∨ k0 = 6 := by omega
  have HT : Hid (Js.textOf (.mk k0 b0 n0 t0 l m) = (if k0 = 5 then 91 else 123) :: (Js.textL l true ++ Js.textM m true ++ [if k0 = 5 then 93 else 125])) := Lib.hid (by
    rw [Js.textOf, if_neg h1, if_neg h2, if_neg h3, if_neg h4]
    rcases h56 with h | h
    · rw [if_pos h, if_pos h, if_pos h, hk16.2.1 h]; simp [Js.textM]
    · have h5 : ¬ k0 = 5 := by omega
      rw [if_neg h5, if_neg h5, if_neg h5, hk16.2.2 h]; simp [Js.textL])
  have hlen2 : (Js.textL l true).length + (Js.textM m true).length + 2 ≤ 1073741824 := by
    rw [HT.out, List.length_cons, List.length_append, List.length_append, List.length_singleton] at hlen; omega
  have hnodes : 1 + Js.nodesL l + Js.nodesM m ≤ N + 1 := hN
  have IH := Lib.hid ih
  have HK := Lib.hid h56
  clear h1 h2 h3 h4 h56 hk16 hn1 hn2 hlen hN ih
  go_wp2_with fail
  clear x0 x1 x2 x3 x4 x5
  go_loopw [3, 4] (fun sv i wr => ∃ (k : Nat) (s : Js.Bs), k ≤ l.length ∧ i = .int .i64 k ∧ sv = .string (str s) ∧ Hid (s = Js.textL (l.take k) true) ∧ Hid (JV wr S (.mk k0 b0 n0 t0 l m) [.int .i64 k0, .bool b0, .int .i64 n0, .string (str t0), .slice A5 l.length c5, .slice A6 m.length c6]) ∧ Hid (Below w.heap.size w wr) ∧ Hid (JBox wr M (.int .i64 k0) (.bool b0) (.int .i64 n0) (.string (str t0)) (.slice A5 l.length c5) (.slice A6 m.length c6))) (fun _ i _ => l.length - (intOf i).toNat)
  case atStart => exact ⟨0, [], Nat.zero_le _, rfl, rfl, Lib.hid rfl, HJ1, HW1, HBx⟩
  case round =>
    obtain ⟨k, s, hk, rfl, rfl, HS, HJ, HW, HB⟩ := hrel
    clear HJ1 HW1 HBx
    have hkl := Js.textL_ge l k hk
    have hle := Js.textL_le l k
    have hk30 : k ≤ 1073741825 := by omega
    obtain ⟨x0, x1, x2, x3, x4, x5⟩ := HB.out.cells
    by_cases hlt : k < l.length
    · obtain ⟨y, hy⟩ : ∃ y, l[k]? = some y := ⟨l[k], List.getElem?_eq_getElem hlt⟩
      have hjl := HJ.out
      unfold JV at hjl
      obtain ⟨_, _, _, _, hvs, -, -, hjl, -⟩ := hjl
      simp only [List.cons.injEq, Value.slice.injEq, and_true, true_and] at hvs
      obtain ⟨⟨rfl, rfl⟩, rfl, rfl⟩ := hvs
      obtain ⟨g, o, k1, b1', n1, t1, A7, l7, c7, A8, l8, c8, hA, hSg, hg, q0, q1, q2, q3, q4, q5, hjy⟩ := hjl.elem hy
      subst hA
      obtain ⟨p1, p2, p3⟩ := Js.nodesL_split l k y hy
      have hle1 := Js.textL_le l (k + 1)
      have hsn := Js.textL_snoc hy
      rw [← HS.out] at hsn
      have hpn : Js.nodes y ≤ N := by omega
      have hyl : (Js.textOf y).length ≤ 1073741824 := by rw [hsn, List.length_append, List.length_append] at hle1; omega
      have HC := Lib.hid (IH.out y _ S wr hpn hjy (Js.goodL_at hgl hy) (Js.inRL_at hrl hy) hyl)
      obtain ⟨ty, hty⟩ : ∃ ty, Js.textOf y = ty := ⟨_, rfl⟩
      rw [hty] at HC hsn hyl
      have hsl : s.length ≤ 1073741824 := by rw [HS.out]; omega
      clear hjl hjy hy p1 p2 p3 hSg hty HS hle1
      by_cases h0 : k = 0
      · have qd : decide (0 < k) = false := by simp; omega
        have hB : ∀ w, (Op.stringOp .add (str s) (str ty)).run Tryd.prog w = .ok (.string (str (s ++ ty))) w := fun w => add_str s ty (by (try simp only [List.length_append, List.length_cons, List.length_nil]); omega) w
        have HN : Hid (s ++ ty = Js.textL (l.take (k + 1)) true) := Lib.hid (by rw [hsn]; rw [if_pos h0]; simp)
        clear hsn h0
        go_wp2_with fail
        refine HC.out.mono ?_
        rintro e w7 ⟨rfl, hb7⟩
        have HJ7 := Lib.hid (HJ.out.next hb7)
        have HW7 := Lib.hid (HW.out.trans (hb7.mono HW.out.size))
        have HB7 := Lib.hid (HB.out.next hb7)
        clear hb7 HJ HW HB q0 q1 q2 q3 q4 q5 x0 x1 x2 x3 x4 x5
        go_wp2_with fail
        go_roundw
        case rel => exact ⟨k + 1, _, by omega, by go_num, rfl, Lib.hid (by first | exact HN.out | (rw [← HN.out]; simp)), HJ7, HW7, HB7⟩
        case measure => simp [intOf]; omega
      · have qd : decide (0 < k) = true := by simp; omega
        have hA : ∀ w, (Op.stringOp .add (str s) (⟨#[44]⟩ : ByteArray)).run Tryd.prog w = .ok (.string (str (s ++ [44]))) w := fun w => add_str s [44] (by (try simp only [List.length_append, List.length_cons, List.length_nil]); omega) w
        have hB : ∀ w, (Op.stringOp .add (str (s ++ [44])) (str ty)).run Tryd.prog w = .ok (.string (str ((s ++ [44]) ++ ty))) w := fun w => add_str (s ++ [44]) ty (by (try simp only [List.length_append, List.length_cons, List.length_nil]); omega) w
        have HN : Hid ((s ++ [44]) ++ ty = Js.textL (l.take (k + 1)) true) := Lib.hid (by rw [hsn]; rw [if_neg h0]; simp)
        clear hsn h0
        go_wp2_with fail
        refine HC.out.mono ?_
        rintro e w7 ⟨rfl, hb7⟩
        have HJ7 := Lib.hid (HJ.out.next hb7)
        have HW7 := Lib.hid (HW.out.trans (hb7.mono HW.out.size))
        have HB7 := Lib.hid (HB.out.next hb7)
        clear hb7 HJ HW HB q0 q1 q2 q3 q4 q5 x0 x1 x2 x3 x4 x5
        go_wp2_with fail
        go_roundw
        case rel => exact ⟨k + 1, _, by omega, by go_num, rfl, Lib.hid (by first | exact HN.out | (rw [← HN.out]; simp)), HJ7, HW7, HB7⟩
        case measure => simp [intOf]; omega
    · obtain rfl : k = l.length := by omega
      rw [List.take_length] at HS
      have hs1 := HS.out
      clear hkl hle hk30
      go_wp2_with fail
      clear x0 x1 x2 x3 x4 x5
      go_loopw [3, 5] (fun sv i wr => ∃ (k : Nat) (s : Js.Bs), k ≤ m.length ∧ i = .int .i64 k ∧ sv = .string (str s) ∧ Hid (s = Js.textL l true ++ Js.textM (m.take k) true) ∧ Hid (JV wr S (.mk k0 b0 n0 t0 l m) [.int .i64 k0, .bool b0, .int .i64 n0, .string (str t0), .slice A5 l.length c5, .slice A6 m.length c6]) ∧ Hid (Below w.heap.size w wr) ∧ Hid (JBox wr M (.int .i64 k0) (.bool b0) (.int .i64 n0) (.string (str t0)) (.slice A5 l.length c5) (.slice A6 m.length c6))) (fun _ i _ => m.length - (intOf i).toNat)
      case atStart => exact ⟨0, s, Nat.zero_le _, rfl, rfl, Lib.hid (by rw [hs1]; simp [Js.textM]), HJ, HW, HB⟩
      clear hs1 HS
      case round =>
        obtain ⟨k, s, hk, rfl, rfl, HS, HJ', HW', HB'⟩ := hrel
        clear HJ HW HB
        have hkl := Js.textM_ge m k hk
        have hle := Js.textM_le m k
        have hk30 : k ≤ 1073741825 := by omega
        obtain ⟨x0, x1, x2, x3, x4, x5⟩ := HB'.out.cells
        by_cases hlt : k < m.length
        · obtain ⟨nm, y, hy⟩ : ∃ nm y, m[k]? = some (nm, y) := ⟨m[k].1, m[k].2, List.getElem?_eq_getElem hlt⟩
          have hjl := HJ'.out
          unfold JV at hjl
          obtain ⟨_, _, _, _, hvs, -, -, -, hjm⟩ := hjl
          simp only [List.cons.injEq, Value.slice.injEq, and_true, true_and] at hvs
          obtain ⟨⟨rfl, rfl⟩, rfl, rfl⟩ := hvs
          obtain ⟨g, o, k1, b1', n1, t1, A7, l7, c7, A8, l8, c8, hA, hSg, hg, q0, q1, q2, q3, q4, q5, q6, hjy⟩ := hjm.elem hy
          subst hA
          obtain ⟨p1, p2, p3⟩ := Js.nodesM_split m k nm y hy
          have hle1 := Js.textM_le m (k + 1)
          have hsn := Js.textM_snoc hy
          have hss : Js.textL l true ++ Js.textM (m.take (k + 1)) true = s ++ ((if k = 0 then [] else [44]) ++ (Js.quote nm ++ (58 :: Js.textOf y))) := by
            rw [hsn, HS.out, List.append_assoc]
          have hpn : Js.nodes y ≤ N := by omega
          have htot := congrArg List.length hss
          rw [List.length_append, List.length_append, List.length_append, List.length_append, List.length_cons] at htot
          have hyl : (Js.textOf y).length ≤ 1073741824 := by omega
          have hql : (Js.quote nm).length ≤ 1073741824 := by omega
          have hsl : s.length ≤ 1073741824 := by omega
          have hnl := Js.quote_len nm
          have HC := Lib.hid (fun vs W (hW : JV W S y vs) => IH.out y vs S W hpn hW (Js.goodM_at hgm hy) (Js.inRM_at hrm hy) hyl)
          have HSW : Hid (∀ W, Below wr.heap.size wr W → W.cell? ⟨M, 5, none⟩ = some (.slice (some ⟨g, o, none⟩) m.length c6) ∧ W.cell? ⟨g, o + k * 7, none⟩ = some (.string (str nm)) ∧ W.cell? ⟨g, o + k * 7 + 1, none⟩ = some (.int .i64 k1) ∧ W.cell? ⟨g, o + k * 7 + 2, none⟩ = some (.bool b1') ∧ W.cell? ⟨g, o + k * 7 + 3, none⟩ = some (.int .i64 n1) ∧ W.cell? ⟨g, o + k * 7 + 4, none⟩ = some (.string t1) ∧ W.cell? ⟨g, o + k * 7 + 5, none⟩ = some (.slice A7 l7 c7) ∧ W.cell? ⟨g, o + k * 7 + 6, none⟩ = some (.slice A8 l8 c8) ∧ Hid (Below wr.heap.size wr W)) := Lib.hid (fun W hW => by
            have hk := fun i => World.cell?_of_block (a := ⟨g, i, none⟩) (hW.block g hg)
            exact ⟨(HB'.out.next hW).cells.2.2.2.2.2, (hk _).trans q0, (hk _).trans q1, (hk _).trans q2, (hk _).trans q3, (hk _).trans q4, (hk _).trans q5, (hk _).trans q6, Lib.hid hW⟩)
          have HCC : Hid (∀ W, Below wr.heap.size wr W → _) := Lib.hid (fun W hW => HC.out _ W (hjy.next hW))
          clear HC
          have HQ := Lib.hid (fun W => refQuote_any nm W (by omega))
          obtain ⟨ty, hty⟩ : ∃ ty, Js.textOf y = ty := ⟨_, rfl⟩
          obtain ⟨tn, htn⟩ : ∃ tn, Js.quote nm = tn := ⟨_, rfl⟩
          rw [hty] at HCC hss hyl
          rw [htn] at HQ hss hql
          clear hjm hjy hy p1 p2 p3 hSg hty htn HS hle1 hsn htot hnl
          by_cases h0 : k = 0
          · have qd : decide (0 < k) = false := by simp; omega
            obtain ⟨r1, hr1⟩ : ∃ r1, s ++ tn = r1 := ⟨_, rfl⟩
            obtain ⟨r2, hr2⟩ : ∃ r2, r1 ++ [58] = r2 := ⟨_, rfl⟩
            obtain ⟨r3, hr3⟩ : ∃ r3, r2 ++ ty = r3 := ⟨_, rfl⟩
            have hl1 : r1.length = s.length + tn.length := by rw [← hr1, List.length_append]
            have hl2 : r2.length = r1.length + 1 := by rw [← hr2, List.length_append, List.length_singleton]
            have hB : ∀ w, (Op.stringOp .add (str s) (str tn)).run Tryd.prog w = .ok (.string (str r1)) w := fun w => by rw [← hr1]; exact add_str s tn (by omega) w
            have hC : ∀ w, (Op.stringOp .add (str r1) (⟨#[58]⟩ : ByteArray)).run Tryd.prog w = .ok (.string (str r2)) w := fun w => by rw [← hr2]; exact add_str r1 [58] (by simp only [List.length_cons, List.length_nil]; omega) w
            have hD : ∀ w, (Op.stringOp .add (str r2) (str ty)).run Tryd.prog w = .ok (.string (str r3)) w := fun w => by rw [← hr3]; exact add_str r2 ty (by omega) w
            have HN : Hid (r3 = Js.textL l true ++ Js.textM (m.take (k + 1)) true) := Lib.hid (by rw [hss, if_pos h0, ← hr3, ← hr2, ← hr1]; simp)
            clear hr1 hr2 hr3
            clear hss h0
            go_wp2_with fail
            go_region_held3 (fun w' => w'.cell? ⟨M, 5, none⟩ = some (.slice (some ⟨g, o, none⟩) m.length c6) ∧ w'.cell? ⟨g, o + k * 7, none⟩ = some (.string (str nm)) ∧ w'.cell? ⟨g, o + k * 7 + 1, none⟩ = some (.int .i64 k1) ∧ w'.cell? ⟨g, o + k * 7 + 2, none⟩ = some (.bool b1') ∧ w'.cell? ⟨g, o + k * 7 + 3, none⟩ = some (.int .i64 n1) ∧ w'.cell? ⟨g, o + k * 7 + 4, none⟩ = some (.string t1) ∧ w'.cell? ⟨g, o + k * 7 + 5, none⟩ = some (.slice A7 l7 c7) ∧ w'.cell? ⟨g, o + k * 7 + 6, none⟩ = some (.slice A8 l8 c8) ∧ Hid (Below wr.heap.size wr w')) (first
              | assumption
              | exact HSW.out _ (below_drewN (Below.refl _ _) 1)
              | (obtain ⟨_, _, _, _, _, _, _, _, hbl⟩ := ‹_ ∧ _ ∧ _ ∧ _ ∧ _ ∧ _ ∧ _ ∧ _ ∧ Hid _›; exact HSW.out _ (hbl.out.trans (hb3.mono hbl.out.size)))) (first
              | (go_at_call 23; refine (HQ.out _).mono ?_; rintro e w3 ⟨rfl, hb3⟩)
              | (go_at_call 12; refine (HCC.out _ (by obtain ⟨_, _, _, _, _, _, _, _, hbl⟩ := ‹_ ∧ _ ∧ _ ∧ _ ∧ _ ∧ _ ∧ _ ∧ _ ∧ Hid _›; exact hbl.out)).mono ?_; rintro e w3 ⟨rfl, hb3⟩))
            all_goals
              obtain ⟨_, _, _, _, _, _, _, _, hbl⟩ := ‹_ ∧ _ ∧ _ ∧ _ ∧ _ ∧ _ ∧ _ ∧ _ ∧ Hid _›
              have HJ7 := Lib.hid (HJ'.out.next hbl.out)
              have HW7 := Lib.hid (HW'.out.trans (hbl.out.mono HW'.out.size))
              have HB7 := Lib.hid (HB'.out.next hbl.out)
              (try simp only [Exit.then])
              clear hbl HSW HCC HQ HJ' HW' HB' q0 q1 q2 q3 q4 q5 q6 x0 x1 x2 x3 x4 x5
              go_wp2_with fail
              go_roundw
              case rel => exact ⟨k + 1, _, by omega, by go_num, rfl, Lib.hid (by first | exact HN.out | (rw [← HN.out]; simp)), HJ7, HW7, HB7⟩
              case measure => simp [intOf]; omega
          · have qd : decide (0 < k) = true := by simp; omega
            obtain ⟨r0, hr0⟩ : ∃ r0, s ++ [44] = r0 := ⟨_, rfl⟩
            have hA : ∀ w, (Op.stringOp .add (str s) (⟨#[44]⟩ : ByteArray)).run Tryd.prog w = .ok (.string (str r0)) w := fun w => by rw [← hr0]; exact add_str s [44] (by (try simp only [List.length_append, List.length_cons, List.length_nil]); omega) w
            have hr0l : r0.length ≤ 1073741825 := by rw [← hr0, List.length_append, List.length_singleton]; omega
            obtain ⟨r1, hr1⟩ : ∃ r1, r0 ++ tn = r1 := ⟨_, rfl⟩
            obtain ⟨r2, hr2⟩ : ∃ r2, r1 ++ [58] = r2 := ⟨_, rfl⟩
            obtain ⟨r3, hr3⟩ : ∃ r3, r2 ++ ty = r3 := ⟨_, rfl⟩
            have hl1 : r1.length = r0.length + tn.length := by rw [← hr1, List.length_append]
            have hl2 : r2.length = r1.length + 1 := by rw [← hr2, List.length_append, List.length_singleton]
            have hB : ∀ w, (Op.stringOp .add (str r0) (str tn)).run Tryd.prog w = .ok (.string (str r1)) w := fun w => by rw [← hr1]; exact add_str r0 tn (by omega) w
            have hC : ∀ w, (Op.stringOp .add (str r1) (⟨#[58]⟩ : ByteArray)).run Tryd.prog w = .ok (.string (str r2)) w := fun w => by rw [← hr2]; exact add_str r1 [58] (by simp only [List.length_cons, List.length_nil]; omega) w
            have hD : ∀ w, (Op.stringOp .add (str r2) (str ty)).run Tryd.prog w = .ok (.string (str r3)) w := fun w => by rw [← hr3]; exact add_str r2 ty (by omega) w
            have HN : Hid (r3 = Js.textL l true ++ Js.textM (m.take (k + 1)) true) := Lib.hid (by rw [hss, if_neg h0, ← hr3, ← hr2, ← hr1, ← hr0]; simp)
            clear hr1 hr2 hr3 hr0
            clear hss h0
            go_wp2_with fail
            go_region_held3 (fun w' => w'.cell? ⟨M, 5, none⟩ = some (.slice (some ⟨g, o, none⟩) m.length c6) ∧ w'.cell? ⟨g, o + k * 7, none⟩ = some (.string (str nm)) ∧ w'.cell? ⟨g, o + k * 7 + 1, none⟩ = some (.int .i64 k1) ∧ w'.cell? ⟨g, o + k * 7 + 2, none⟩ = some (.bool b1') ∧ w'.cell? ⟨g, o + k * 7 + 3, none⟩ = some (.int .i64 n1) ∧ w'.cell? ⟨g, o + k * 7 + 4, none⟩ = some (.string t1) ∧ w'.cell? ⟨g, o + k * 7 + 5, none⟩ = some (.slice A7 l7 c7) ∧ w'.cell? ⟨g, o + k * 7 + 6, none⟩ = some (.slice A8 l8 c8) ∧ Hid (Below wr.heap.size wr w')) (first
              | assumption
              | exact HSW.out _ (below_drewN (Below.refl _ _) 1)
              | (obtain ⟨_, _, _, _, _, _, _, _, hbl⟩ := ‹_ ∧ _ ∧ _ ∧ _ ∧ _ ∧ _ ∧ _ ∧ _ ∧ Hid _›; exact HSW.out _ (hbl.out.trans (hb3.mono hbl.out.size)))) (first
              | (go_at_call 23; refine (HQ.out _).mono ?_; rintro e w3 ⟨rfl, hb3⟩)
              | (go_at_call 12; refine (HCC.out _ (by obtain ⟨_, _, _, _, _, _, _, _, hbl⟩ := ‹_ ∧ _ ∧ _ ∧ _ ∧ _ ∧ _ ∧ _ ∧ _ ∧ Hid _›; exact hbl.out)).mono ?_; rintro e w3 ⟨rfl, hb3⟩))
            all_goals
              obtain ⟨_, _, _, _, _, _, _, _, hbl⟩ := ‹_ ∧ _ ∧ _ ∧ _ ∧ _ ∧ _ ∧ _ ∧ _ ∧ Hid _›
              have HJ7 := Lib.hid (HJ'.out.next hbl.out)
              have HW7 := Lib.hid (HW'.out.trans (hbl.out.mono HW'.out.size))
              have HB7 := Lib.hid (HB'.out.next hbl.out)
              (try simp only [Exit.then])
              clear hbl HSW HCC HQ HJ' HW' HB' q0 q1 q2 q3 q4 q5 q6 x0 x1 x2 x3 x4 x5
              go_wp2_with fail
              go_roundw
              case rel => exact ⟨k + 1, _, by omega, by go_num, rfl, Lib.hid (by first | exact HN.out | (rw [← HN.out]; simp)), HJ7, HW7, HB7⟩
              case measure => simp [intOf]; omega
        · obtain rfl : k = m.length := by omega
          rw [List.take_length] at HS
          have hsl : s.length + 2 ≤ 1073741824 := by rw [HS.out, List.length_append]; omega
          rcases HK.out with rfl | rfl
          · have hA : ∀ w, (Op.stringOp .add (⟨#[91]⟩ : ByteArray) (str s)).run Tryd.prog w = .ok (.string (str (91 :: s))) w := fun w => add_str [91] s (by (try simp only [List.length_append, List.length_cons, List.length_nil]); omega) w
            have hB : ∀ w, (Op.stringOp .add (str (91 :: s)) (⟨#[93]⟩ : ByteArray)).run Tryd.prog w = .ok (.string (str (91 :: s ++ [93]))) w := fun w => add_str (91 :: s) [93] (by (try simp only [List.length_append, List.length_cons, List.length_nil]); omega) w
            go_wp2_with fail
            go_ret
            exact ⟨by rw [HT.out, ← HS.out]; rfl, HW'.out⟩
          · have hA : ∀ w, (Op.stringOp .add (⟨#[123]⟩ : ByteArray) (str s)).run Tryd.prog w = .ok (.string (str (123 :: s))) w := fun w => add_str [123] s (by (try simp only [List.length_append, List.length_cons, List.length_nil]); omega) w
            have hB : ∀ w, (Op.stringOp .add (str (123 :: s)) (⟨#[125]⟩ : ByteArray)).run Tryd.prog w = .ok (.string (str (123 :: s ++ [125]))) w := fun w => add_str (123 :: s) [125] (by (try simp only [List.length_append, List.length_cons, List.length_nil]); omega) w
            go_wp2_with fail
            go_ret
            exact ⟨by rw [HT.out, ← HS.out]; rfl, HW'.out⟩
theorem reftext_any : ∀ N, TextC N
  | 0 => fun x vs S w hN => absurd hN (by have := Js.nodes_pos x; omega)
  | N + 1 => text_step N (reftext_any N)
end Go.Proofs.YtimioelnnhnbiaaDoor
