/-
  THE WALKS, fourteenth part: Decode. CONDITIONS: the text is not too long; the plain parser's rounds are enough.
-/
import Derived.Test.YtimioelnnhnbiaaDoorWN
namespace Go.Proofs.YtimioelnnhnbiaaDoor
open Go.RowKit
def spot (e a : Int) : Value := .agg #[.int .i64 e, .int .i64 a]
/-- What Decode hands back, by what the plain parser makes of the text. -/
def DOut (w : World) (s : Js.Bs) : Js.Res Js.J → Ending → World → Prop
  | .ok x st, e, w' => Below w.heap.size w w' ∧ (if st.at_ < s.length then e = .returned (.tuple #[zeroJ, spot 330 st.at_]) else if st.large = true then e = .returned (.tuple #[zeroJ, spot 2 0]) else ∃ vs, e = .returned (.tuple #[.agg vs.toArray, spot 0 0]) ∧ JV w' (fun g => w.heap.size ≤ g) x vs)
  | .bad k, e, w' => Below w.heap.size w w' ∧ e = .returned (.tuple #[zeroJ, spot 330 k])
  | .out, _, _ => False
set_option maxRecDepth 100000 in
set_option maxHeartbeats 8000000 in
theorem decode_any (s : Js.Bs) (hlen : s.length ≤ 1073741824) (n : Nat) (hne : Js.value s n Js.st0 ≠ .out) (w : World) :
    Calls Tryd.prog 13 #[.string (str s)] w (DOut w s (Js.value s n Js.st0)) := by
  have HNE := Lib.hid hne
  have hmf : ∀ (fn : Fn) (first cap : Array Value) (w : World), (Instr.makeFunc fn first cap).run Tryd.prog w = .ok (.func fn first cap) w := fun _ _ _ _ => rfl
  have hz := str_size s
  have b1 := below_box w (.cells #[.int .i64 0, .bool false, .int .i64 0, .string ⟨#[]⟩, .slice none 0 0, .slice none 0 0] 25)
  have n1 : JBox _ w.heap.size _ _ _ _ _ _ := heap_alloc_new w (.cells #[.int .i64 0, .bool false, .int .i64 0, .string ⟨#[]⟩, .slice none 0 0, .slice none 0 0] 25)
  have s1 : (w.alloc (.cells #[.int .i64 0, .bool false, .int .i64 0, .string ⟨#[]⟩, .slice none 0 0, .slice none 0 0] 25)).heap.size = w.heap.size + 1 := by simp
  have b2 := below_box (w.alloc (.cells #[.int .i64 0, .bool false, .int .i64 0, .string ⟨#[]⟩, .slice none 0 0, .slice none 0 0] 25)) (.cells #[.int .i64 0, .int .i64 0] 34)
  have n2 : SBox _ _ _ _ := heap_alloc_new (w.alloc (.cells #[.int .i64 0, .bool false, .int .i64 0, .string ⟨#[]⟩, .slice none 0 0, .slice none 0 0] 25)) (.cells #[.int .i64 0, .int .i64 0] 34)
  have s2 : ((w.alloc (.cells #[.int .i64 0, .bool false, .int .i64 0, .string ⟨#[]⟩, .slice none 0 0, .slice none 0 0] 25)).alloc (.cells #[.int .i64 0, .int .i64 0] 34)).heap.size = w.heap.size + 1 + 1 := by simp
  have b3 := below_box ((w.alloc (.cells #[.int .i64 0, .bool false, .int .i64 0, .string ⟨#[]⟩, .slice none 0 0, .slice none 0 0] 25)).alloc (.cells #[.int .i64 0, .int .i64 0] 34)) (.cells #[.string (str s), .int .i64 0, .int .i64 0, .int .i64 0, .int .i64 0, .bool false] 63)
  have n3 : RdAt _ _ s Js.st0 := heap_alloc_new ((w.alloc (.cells #[.int .i64 0, .bool false, .int .i64 0, .string ⟨#[]⟩, .slice none 0 0, .slice none 0 0] 25)).alloc (.cells #[.int .i64 0, .int .i64 0] 34)) (.cells #[.string (str s), .int .i64 0, .int .i64 0, .int .i64 0, .int .i64 0, .bool false] 63)
  rw [s1] at n2
  rw [s2] at n3
  have HX := Lib.hid ((n1.next b2).next b3)
  have HS : Hid (SBox _ (w.heap.size + 1) 0 0) := Lib.hid (blk_next b3 n2)
  have HR := Lib.hid n3
  have HB := Lib.hid ((b1.trans (b2.mono b1.size)).trans (b3.mono (by rw [s2]; omega)))
  clear hne b1 n1 s1 b2 n2 s2 b3 n3
  go_enter_defers Tryd.func13, Tryd.ntmps13
  go_wp2_with fail
  generalize (((w.alloc (.cells #[.int .i64 0, .bool false, .int .i64 0, .string ⟨#[]⟩, .slice none 0 0, .slice none 0 0] 25)).alloc (.cells #[.int .i64 0, .int .i64 0] 34)).alloc (.cells #[.string (str s), .int .i64 0, .int .i64 0, .int .i64 0, .int .i64 0, .bool false] 63)) = w1 at HX HS HR HB ⊢
  have HDEF : Hid (∀ r e w', DOut w s r e w' ↔ DOut w s r e w') := Lib.hid (fun _ _ _ => Iff.rfl)
  obtain ⟨N, hN⟩ : ∃ N, w.heap.size = N := ⟨_, rfl⟩
  rw [hN] at HX HS HR HB ⊢
  have HN := Lib.hid hN
  clear hN HDEF
  have hF : Fine s Js.st0 := ⟨Nat.zero_le _, Nat.le_refl _, Nat.le_refl _, Nat.le_refl _⟩
  have HST := Lib.hid (fun x st' h => (steps s n).value Js.st0 x st' h hF)
  refine ((value_all (N + 1 + 1) s hlen n).1 Js.st0 _ HR.out hF HNE.out).mono ?_
  intro e w2 ho
  obtain ⟨r, hr⟩ : ∃ r, Js.value s n Js.st0 = r := ⟨_, rfl⟩
  rw [hr] at ho ⊢
  have HRQ := Lib.hid hr
  clear hr hF
  cases r with
  | out => exact ho.elim
  | bad k =>
    obtain ⟨rfl, hb2⟩ := ho
    have HX2 := Lib.hid (HX.out.but hb2 (by simp; omega))
    have HS2 : Hid (SBox w2 (N + 1) 0 0) := Lib.hid (hb2.blk HS.out (by simp))
    have HB2 := Lib.hid (HB.out.trans (hb2.to (Nat.le_of_lt HX.out.lt) (by intro j hj; simp at hj; omega)))
    clear hb2 HX HS HB HR
    unfold bad
    go_wp2_with fail
    refine leaves_cons (f := 24) (args := #[.pointer (some ⟨N, 0, none⟩), .pointer (some ⟨N + 1, 0, none⟩)]) (by simp) (by simp [go_sem]) ?_
    refine (catch_bad N (N + 1) k _ (by omega) _ _ _ _ _ _ _ _ HX2.out HS2.out).mono ?_
    rintro e9 u9 w9 ⟨rfl, rfl, hb9, hx9, hs9⟩
    show Leaves _ _ _ _ [] .returning _
    have HB9 := HB2.out.trans (hb9.to (Nat.le_of_lt HX2.out.lt) (by intro j hj; simp at hj; omega))
    refine ⟨_, results_row2 rfl _ _ _ N (N + 1) _ _ rfl (j25_load hx9) rfl (s34_load hs9), ?_⟩
    exact ⟨by rw [HN.out]; exact HB9, rfl⟩
  | ok x st2 =>
    obtain ⟨⟨vs, rfl, hjv⟩, hr2, hb2⟩ := ho
    obtain ⟨A5, c5, A6, c6, k0, b0, n0, t0, l5, l6, rfl⟩ := hjv.shape
    have hat2 := (HST.out x st2 HRQ.out).1.at_
    have HX2 := Lib.hid (HX.out.but hb2 (by simp; omega))
    have HS2 : Hid (SBox w2 (N + 1) 0 0) := Lib.hid (hb2.blk HS.out (by simp))
    have HB2 := Lib.hid (HB.out.trans (hb2.to (Nat.le_of_lt HX.out.lt) (by intro j hj; simp at hj; omega)))
    have HJ2 : Hid (JV w2 (fun g => N + 2 < g) x [.int .i64 k0, .bool b0, .int .i64 n0, .string t0, .slice A5 l5 c5, .slice A6 l6 c6]) := Lib.hid (hjv.wide (fun g hg _ => Nat.lt_of_lt_of_le HR.out.lt hg))
    have hst := j25_set (.int .i64 k0) (.bool b0) (.int .i64 n0) (.string t0) (.slice A5 l5 c5) (.slice A6 l6 c6) HX2.out
    unfold set6 at hst
    obtain ⟨f0, f1, f2, f3, f4, f5⟩ := HX2.out.frees
    obtain ⟨c0, c1, c2, c3, c4, c5'⟩ := HX2.out.cells
    have HX3 := Lib.hid hst.2
    have HR3 := Lib.hid (show RdAt _ (N + 1 + 1) s st2 from hst.1.blk hr2 (by simp; omega))
    have HS3 : Hid (SBox _ (N + 1) 0 0) := Lib.hid (hst.1.blk HS2.out (by simp))
    have HB3 := Lib.hid (HB2.out.trans (hst.1.to (Nat.le_of_lt HX2.out.lt) (by intro j hj; simp at hj; omega)))
    have HJ3 := Lib.hid (HJ2.out.but hst.1 (by intro j hj; simp at hj; subst hj; omega))
    clear hjv hr2 hb2 HX HS HB HR hst HST
    have hNl := HX2.out.lt
    have k1 := HR3.out.cells.2.1
    have k5 := HR3.out.cells.2.2.2.2.2
    have HNE3 : Hid (N + 1 + 1 ≠ N) := Lib.hid (by omega)
    go_upto_region 4 with fail
    generalize ((((((w2.setCell ⟨N, 0, none⟩ (.int .i64 k0)).setCell ⟨N, 1, none⟩ (.bool b0)).setCell ⟨N, 2, none⟩ (.int .i64 n0)).setCell ⟨N, 3, none⟩ (.string t0)).setCell ⟨N, 4, none⟩ (.slice A5 l5 c5)).setCell ⟨N, 5, none⟩ (.slice A6 l6 c6)) = w3 at HX3 HR3 HS3 HB3 HJ3 k1 k5 ⊢
    clear HX2 HS2 HB2 HJ2 f0 f1 f2 f3 f4 f5 c0 c1 c2 c3 c4 c5' hNl
    by_cases hend : st2.at_ < s.length
    · have q : decide ((st2.at_ : Int) < (s.length : Int)) = true := by simp; omega
      have HEND := Lib.hid hend
      clear hend
      go_wp2_with fail
      refine (fail_any (N + 1 + 1) s st2 _ HR3.out).mono ?_
      rintro e w' ⟨rfl, rfl⟩
      unfold bad
      go_wp2_with fail
      refine leaves_cons (f := 24) (args := #[.pointer (some ⟨N, 0, none⟩), .pointer (some ⟨N + 1, 0, none⟩)]) (by simp) (by simp [go_sem]) ?_
      refine (catch_bad N (N + 1) st2.at_ _ (by omega) _ _ _ _ _ _ _ _ HX3.out HS3.out).mono ?_
      rintro e9 u9 w9 ⟨rfl, rfl, hb9, hx9, hs9⟩
      show Leaves _ _ _ _ [] .returning _
      have HB9 := HB3.out.trans (hb9.to (Nat.le_of_lt HX3.out.lt) (by intro j hj; simp at hj; omega))
      refine ⟨_, results_row2 rfl _ _ _ N (N + 1) _ _ rfl (j25_load hx9) rfl (s34_load hs9), ?_⟩
      rw [HRQ.out]
      exact ⟨by rw [HN.out]; exact HB9, by rw [if_pos HEND.out]; rfl⟩
    · have q : decide ((st2.at_ : Int) < (s.length : Int)) = false := by simp; omega
      have HEND := Lib.hid hend
      clear hend
      obtain ⟨x0, x1, x2, x3, x4, x5⟩ := HX3.out.cells
      obtain ⟨f0, f1, f2, f3, f4, f5⟩ := HX3.out.frees
      obtain ⟨d0, d1, g0, g1⟩ := HS3.out.cells
      obtain ⟨L, hL⟩ : ∃ L, st2.large = L := ⟨_, rfl⟩
      rw [hL] at k5
      have HL := Lib.hid hL
      clear hL
      cases L
      · go_wp2_with fail
        have h1 := j25_set (.int .i64 k0) (.bool b0) (.int .i64 n0) (.string t0) (.slice A5 l5 c5) (.slice A6 l6 c6) HX3.out
        unfold set6 at h1
        have h2 := s34_set 0 0 (show SBox _ (N + 1) 0 0 from h1.1.blk HS3.out (by simp))
        have hx9 := h1.2.but h2.1 (by simp)
        have HB9 := HB3.out.trans ((h1.1.to (Nat.le_of_lt HX3.out.lt) (by intro j hj; simp at hj; omega)).trans (h2.1.to (Nat.le_trans (Nat.le_of_lt HX3.out.lt) h1.1.size) (by intro j hj; simp at hj; omega)))
        have HJ9 := (HJ3.out.but h1.1 (by intro j hj; simp at hj; subst hj; omega)).but h2.1 (by intro j hj; simp at hj; subst hj; omega)
        refine leaves_cons (f := 24) (args := #[.pointer (some ⟨N, 0, none⟩), .pointer (some ⟨N + 1, 0, none⟩)]) (by simp) (by simp [go_sem]) ?_
        refine (catch_idle N (N + 1) _).mono ?_
        rintro e9 u9 w9 ⟨rfl, rfl, rfl⟩
        show Leaves _ _ _ _ [] .returning _
        refine ⟨_, results_row2 rfl _ _ _ N (N + 1) _ _ rfl (j25_load hx9) rfl (s34_load h2.2), ?_⟩
        rw [HRQ.out]
        refine ⟨by rw [HN.out]; exact HB9, ?_⟩
        rw [if_neg HEND.out, HL.out, if_neg (by simp)]
        exact ⟨_, rfl, HJ9.wide (fun g hg _ => by rw [HN.out]; omega)⟩
      · go_wp2_with fail
        have h1 := j25_set (.int .i64 0) (.bool false) (.int .i64 0) (.string ⟨#[]⟩) (.slice none 0 0) (.slice none 0 0) HX3.out
        unfold set6 at h1
        have h2 := s34_set 2 0 (show SBox _ (N + 1) 0 0 from h1.1.blk HS3.out (by simp))
        have hx9 := h1.2.but h2.1 (by simp)
        have HB9 := HB3.out.trans ((h1.1.to (Nat.le_of_lt HX3.out.lt) (by intro j hj; simp at hj; omega)).trans (h2.1.to (Nat.le_trans (Nat.le_of_lt HX3.out.lt) h1.1.size) (by intro j hj; simp at hj; omega)))
        refine leaves_cons (f := 24) (args := #[.pointer (some ⟨N, 0, none⟩), .pointer (some ⟨N + 1, 0, none⟩)]) (by simp) (by simp [go_sem]) ?_
        refine (catch_idle N (N + 1) _).mono ?_
        rintro e9 u9 w9 ⟨rfl, rfl, rfl⟩
        show Leaves _ _ _ _ [] .returning _
        refine ⟨_, results_row2 rfl _ _ _ N (N + 1) _ _ rfl (j25_load hx9) rfl (s34_load h2.2), ?_⟩
        rw [HRQ.out]
        refine ⟨by rw [HN.out]; exact HB9, ?_⟩
        rw [if_neg HEND.out, HL.out, if_pos rfl]
        rfl
end Go.Proofs.YtimioelnnhnbiaaDoor
