/-
  THE LAW JsonFirst, walked. CONDITIONS: Env.
-/
import Derived.Test.YtimioelnnhnbiaaDoorLawBack
import Derived.Test.YtimioelnnhnbiaaDoorRA
namespace Go.Proofs.YtimioelnnhnbiaaDoor
open Go.RowKit
set_option maxRecDepth 100000 in
set_option maxHeartbeats 8000000 in
theorem first_law (s more : Js.Bs) (w : World) (henv : Env w) :
    Calls Tryd.prog 5 #[.string (str s), .string (str more)] w fun e w' => e = .returned (.bool true) ∧ Below w.heap.size w w' := by
  have hz := str_size s
  have hz2 := str_size more
  have HENV := Lib.hid henv
  go_enter Tryd.func5, Tryd.ntmps5
  go_wp2_with fail
  refine (wakes_any w henv).mono ?_
  rintro e w2 ⟨rfl, hb2⟩
  have HW2 := Lib.hid hb2
  clear hb2 henv
  by_cases h1 : 20000 < s.length
  · have q1 : decide ((20000 : Int) < (s.length : Int)) = true := by simp; omega
    clear h1
    go_wp2_with fail
    go_ret
    exact ⟨rfl, HW2.out⟩
  have q1 : decide ((20000 : Int) < (s.length : Int)) = false := by simp; omega
  by_cases h2 : 20000 < more.length
  · have q2 : decide ((20000 : Int) < (more.length : Int)) = true := by simp; omega
    clear h2
    go_wp2_with fail
    go_ret
    exact ⟨rfl, HW2.out⟩
  have q2 : decide ((20000 : Int) < (more.length : Int)) = false := by simp; omega
  have HL := Lib.hid (show s.length ≤ 20000 ∧ more.length ≤ 20000 by omega)
  clear h1 h2
  go_wp2_with fail
  have HCS := Lib.hid (dec_cases s)
  refine (dec_any s (by have := HL.out; omega) w2).mono ?_
  rintro e w5 ⟨hb5, us, rfl, hju⟩
  obtain ⟨y, E, A, hD⟩ : ∃ y E A, Dec s = (y, E, A) := ⟨_, _, _, rfl⟩
  rw [hD] at hju HCS ⊢
  have HD := Lib.hid hD
  clear hD q1 q2
  obtain ⟨C5, d5, C6, d6, k9, b9, n9, t9, m5, m6, rfl⟩ := hju.shape
  have b6 := below_box w5 (.cells #[.int .i64 k9, .bool b9, .int .i64 n9, .string t9, .slice C5 m5 d5, .slice C6 m6 d6] 25)
  have n6 : JBox _ _ _ _ _ _ _ _ := heap_alloc_new w5 (.cells #[.int .i64 k9, .bool b9, .int .i64 n9, .string t9, .slice C5 m5 d5, .slice C6 m6 d6] 25)
  have s6 : (w5.alloc (.cells #[.int .i64 k9, .bool b9, .int .i64 n9, .string t9, .slice C5 m5 d5, .slice C6 m6 d6] 25)).heap.size = w5.heap.size + 1 := by simp
  have b7 := below_box (w5.alloc (.cells #[.int .i64 k9, .bool b9, .int .i64 n9, .string t9, .slice C5 m5 d5, .slice C6 m6 d6] 25)) (.cells #[.int .i64 E, .int .i64 A] 34)
  have n7 : SBox _ _ E A := heap_alloc_new (w5.alloc (.cells #[.int .i64 k9, .bool b9, .int .i64 n9, .string t9, .slice C5 m5 d5, .slice C6 m6 d6] 25)) (.cells #[.int .i64 E, .int .i64 A] 34)
  have HJU := Lib.hid (((hju.next b6).next b7).wide (T := fun g => g < ((w5.alloc (.cells #[.int .i64 k9, .bool b9, .int .i64 n9, .string t9, .slice C5 m5 d5, .slice C6 m6 d6] 25)).alloc (.cells #[.int .i64 E, .int .i64 A] 34)).heap.size) (fun g _ h => h))
  have HN7 := Lib.hid (n6.next b7)
  have HW7 := Lib.hid (((HW2.out.trans (hb5.mono HW2.out.size)).trans (b6.mono (Nat.le_trans HW2.out.size hb5.size))).trans (b7.mono (by rw [s6]; have := HW2.out.size; have := hb5.size; omega)))
  rw [s6] at n7
  have HS7 := Lib.hid n7
  clear hb5 hju b6 n6 s6 b7 n7 HW2
  go_upto_region 6 with fail
  generalize ((w5.alloc (.cells #[.int .i64 k9, .bool b9, .int .i64 n9, .string t9, .slice C5 m5 d5, .slice C6 m6 d6] 25)).alloc (.cells #[.int .i64 E, .int .i64 A] 34)) = w7 at HJU HN7 HW7 HS7 ⊢
  generalize w5.heap.size = N at HN7 HS7 ⊢
  obtain ⟨z0, z1, z2, z3, z4, z5⟩ := HN7.out.cells
  obtain ⟨d0, d1, d2, d3⟩ := HS7.out.cells
  rcases HCS.out with ⟨y2, he, hrt, hir⟩ | he | ⟨a, he, hal, hag⟩
  · injection he with e1 e2
    injection e2 with e2 e3
    subst e1 e2 e3
    have HRT := Lib.hid hrt
    have HIR := Lib.hid hir
    have HET : Hid (encText y = Js.textOf y) := Lib.hid (by unfold encText; rw [hrt]; rfl)
    have HEE : Hid (encErr y = 0) := Lib.hid (by unfold encErr; rw [hrt]; rfl)
    clear hrt hir HCS HD
    go_wp2_with fail
    obtain ⟨r1, r2, r3⟩ := right_small HRT.out
    refine (encode_any y _ _ w7 HJU.out (fun g h => h) r1 r2 r3 HIR.out (HENV.out.next HW7.out)).mono ?_
    rintro e w8 ⟨rfl, hb8⟩
    rw [HET.out, HEE.out]
    have HW8 := Lib.hid (HW7.out.trans (hb8.mono HW7.out.size))
    have HN8 := Lib.hid (HN7.out.next hb8)
    have HJ8 := Lib.hid (HJU.out.next hb8)
    have htl := Js.text_len y HIR.out
    have hlenT : (Js.textOf y).length ≤ 1073741824 := by
      obtain ⟨_, g1, _, g2⟩ := right_parts HRT.out
      omega
    have HDB : Hid (Dec (Js.textOf y) = (y, 0, 0)) := Lib.hid (dec_back HRT.out HIR.out)
    have HND := Lib.hid r1
    clear hb8 htl r1 r2 r3 HW7 HN7 HJU HS7 HET HEE HRT HIR z0 z1 z2 z3 z4 z5 d0 d1 d2 d3
    generalize Js.textOf y = T at hlenT HDB ⊢
    go_wp2_with fail
    refine (dec_any T hlenT w8).mono ?_
    rintro e w9 ⟨hb9, us9, rfl, hj9⟩
    rw [HDB.out] at hj9 ⊢
    obtain ⟨D5, g5, D6, g6, k2, b2, n2, t2, p5, p6, rfl⟩ := hj9.shape
    have b6 := below_box w9 (.cells #[.int .i64 k2, .bool b2, .int .i64 n2, .string t2, .slice D5 p5 g5, .slice D6 p6 g6] 25)
    have n6 : JBox _ _ _ _ _ _ _ _ := heap_alloc_new w9 (.cells #[.int .i64 k2, .bool b2, .int .i64 n2, .string t2, .slice D5 p5 g5, .slice D6 p6 g6] 25)
    have s6 : (w9.alloc (.cells #[.int .i64 k2, .bool b2, .int .i64 n2, .string t2, .slice D5 p5 g5, .slice D6 p6 g6] 25)).heap.size = w9.heap.size + 1 := by simp
    have b7 := below_box (w9.alloc (.cells #[.int .i64 k2, .bool b2, .int .i64 n2, .string t2, .slice D5 p5 g5, .slice D6 p6 g6] 25)) (.cells #[.int .i64 0, .int .i64 0] 34)
    have n7 : SBox _ _ 0 0 := heap_alloc_new (w9.alloc (.cells #[.int .i64 k2, .bool b2, .int .i64 n2, .string t2, .slice D5 p5 g5, .slice D6 p6 g6] 25)) (.cells #[.int .i64 0, .int .i64 0] 34)
    have HJA := Lib.hid ((((HJ8.out.next hb9).next b6).next b7).wide (T := fun g => g < ((w9.alloc (.cells #[.int .i64 k2, .bool b2, .int .i64 n2, .string t2, .slice D5 p5 g5, .slice D6 p6 g6] 25)).alloc (.cells #[.int .i64 0, .int .i64 0] 34)).heap.size) (fun g _ h => h))
    have HJB := Lib.hid (((hj9.next b6).next b7).wide (T := fun g => g < ((w9.alloc (.cells #[.int .i64 k2, .bool b2, .int .i64 n2, .string t2, .slice D5 p5 g5, .slice D6 p6 g6] 25)).alloc (.cells #[.int .i64 0, .int .i64 0] 34)).heap.size) (fun g _ h => h))
    have HNA := Lib.hid (((HN8.out.next hb9).next b6).next b7)
    have HNB := Lib.hid (n6.next b7)
    have HWA := Lib.hid (((HW8.out.trans (hb9.mono HW8.out.size)).trans (b6.mono (Nat.le_trans HW8.out.size hb9.size))).trans (b7.mono (by rw [s6]; have := HW8.out.size; have := hb9.size; omega)))
    rw [s6] at n7
    have HSB := Lib.hid n7
    clear hb9 hj9 b6 n6 s6 b7 n7 HW8 HN8 HJ8
    go_upto_region 9 with fail
    generalize ((w9.alloc (.cells #[.int .i64 k2, .bool b2, .int .i64 n2, .string t2, .slice D5 p5 g5, .slice D6 p6 g6] 25)).alloc (.cells #[.int .i64 0, .int .i64 0] 34)) = wa at HJA HJB HNA HNB HWA HSB ⊢
    generalize w9.heap.size = P at HNB HSB ⊢
    obtain ⟨x0, x1, x2, x3, x4, x5⟩ := HNA.out.cells
    obtain ⟨z0, z1, z2, z3, z4, z5⟩ := HNB.out.cells
    obtain ⟨d0, d1, -, -⟩ := HSB.out.cells
    go_wp2_with fail
    refine (same_any _ y y _ _ _ wa (Nat.le_refl _) HND.out HJA.out HJB.out).mono ?_
    rintro e wb ⟨rfl, hbb⟩
    rw [Js.same_self]
    go_wp2_with fail
    go_ret
    exact ⟨rfl, HWA.out.trans (hbb.mono HWA.out.size)⟩
  · injection he with e1 e2
    injection e2 with e2 e3
    subst e1 e2 e3
    have hk : k9 = 0 := (jv_kind HJU.out).symm
    subst hk
    clear HCS HD
    go_wp2_with fail
    go_ret
    exact ⟨rfl, HW7.out⟩
  · injection he with e1 e2
    injection e2 with e2 e3
    subst e1 e2 e3
    have hk : k9 = 0 := (jv_kind HJU.out).symm
    subst hk
    clear HCS HD
    by_cases hlast : a = s.length
    · have hb : ((a : Int) == (s.length : Int)) = true := by simp; omega
      clear hag hal hlast
      go_wp2_with fail
      go_ret
      exact ⟨rfl, HW7.out⟩
    · have hb : ((a : Int) == (s.length : Int)) = false := by simp; omega
      have HAG := Lib.hid (hag (by omega) more)
      have HAL := Lib.hid (show a < s.length by omega)
      have hw : wrap64 ((a : Int) + 1) = (((a + 1 : Nat)) : Int) := by unfold wrap64; have := HL.out; omega
      have hs1 : 0 ≤ wrap64 ((a : Int) + 1) ∧ wrap64 ((a : Int) + 1) ≤ (s.length : Int) := by rw [hw]; omega
      have hs2 : ¬ 9223372036854775807 < (wrap64 ((a : Int) + 1)).toNat + more.length := by rw [hw]; have := HL.out; omega
      have HWR := Lib.hid hw
      have hlen2 : (s.take (a + 1) ++ more).length ≤ 1073741824 := by
        have := HL.out
        rw [List.length_append, List.length_take]; omega
      have HTX : Hid ((str s).extract 0 (a + 1) ++ str more = str (s.take (a + 1) ++ more)) := Lib.hid (by rw [str_take, str_app])
      clear hag hal hlast hw
      go_wp2_with fail
      rw [HWR.out, Int.toNat_natCast, HTX.out]
      refine (dec_any _ hlen2 w7).mono ?_
      rintro e w9 ⟨hb9, us9, rfl, hj9⟩
      rw [HAG.out]
      obtain ⟨D5, g5, D6, g6, k2, b2, n2, t2, p5, p6, rfl⟩ := hj9.shape
      have b6 := below_box w9 (.cells #[.int .i64 k2, .bool b2, .int .i64 n2, .string t2, .slice D5 p5 g5, .slice D6 p6 g6] 25)
      have s6 : (w9.alloc (.cells #[.int .i64 k2, .bool b2, .int .i64 n2, .string t2, .slice D5 p5 g5, .slice D6 p6 g6] 25)).heap.size = w9.heap.size + 1 := by simp
      have b7 := below_box (w9.alloc (.cells #[.int .i64 k2, .bool b2, .int .i64 n2, .string t2, .slice D5 p5 g5, .slice D6 p6 g6] 25)) (.cells #[.int .i64 330, .int .i64 a] 34)
      have n7 : SBox _ _ 330 a := heap_alloc_new (w9.alloc (.cells #[.int .i64 k2, .bool b2, .int .i64 n2, .string t2, .slice D5 p5 g5, .slice D6 p6 g6] 25)) (.cells #[.int .i64 330, .int .i64 a] 34)
      have HNA := Lib.hid (((HN7.out.next hb9).next b6).next b7)
      have HSA : Hid (SBox _ (N + 1) 330 a) := Lib.hid (blk_next b7 (blk_next b6 (blk_next hb9 HS7.out)))
      have HWA := Lib.hid (((HW7.out.trans (hb9.mono HW7.out.size)).trans (b6.mono (Nat.le_trans HW7.out.size hb9.size))).trans (b7.mono (by rw [s6]; have := HW7.out.size; have := hb9.size; omega)))
      rw [s6] at n7
      have HSB := Lib.hid n7
      clear hb9 hj9 b6 s6 b7 n7 HW7 HN7 HS7 HJU z0 z1 z2 z3 z4 z5 d0 d1 d2 d3 hs1 hs2 hlen2
      go_upto_region 15 with fail
      generalize ((w9.alloc (.cells #[.int .i64 k2, .bool b2, .int .i64 n2, .string t2, .slice D5 p5 g5, .slice D6 p6 g6] 25)).alloc (.cells #[.int .i64 330, .int .i64 a] 34)) = wa at HNA HSA HWA HSB ⊢
      generalize w9.heap.size = P at HSB ⊢
      obtain ⟨x0, x1, x2, x3, x4, x5⟩ := HNA.out.cells
      obtain ⟨d0, d1, -, -⟩ := HSA.out.cells
      obtain ⟨f0, f1, -, -⟩ := HSB.out.cells
      go_wp2_with fail
      go_ret
      exact ⟨rfl, HWA.out⟩
theorem first_at (s more : ByteArray) (w : World) (henv : Env w) (_ : s.size ≤ 9223372036854775807) (_ : more.size ≤ 9223372036854775807) :
    Calls Tryd.prog 5 #[.string s, .string more] w fun e w' => e = .returned (.bool true) ∧ Below w.heap.size w w' := by
  rw [show s = str s.data.toList by unfold str; simp, show more = str more.data.toList by unfold str; simp]
  exact first_law _ _ w henv
end Go.Proofs.YtimioelnnhnbiaaDoor
