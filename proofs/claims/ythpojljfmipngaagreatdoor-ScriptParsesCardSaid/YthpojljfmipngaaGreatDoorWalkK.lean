/-
  THE WALKS, eleventh part: pair, escaped of script's reader. CONDITIONS: the reader lies in a block of its own; Env.
-/
import Derived.Test.YthpojljfmipngaaGreatDoorWalkJ
namespace Go.Proofs.YthpojljfmipngaaGreatDoor
open Go.RowKit
def digitsL : List UInt8 := [48, 49, 50, 51, 52, 53, 54, 55, 56, 57, 97, 98, 99, 100, 101, 102]
def hvI (c : UInt8) : Int := match Sc.hv c with | some n => n | none => -1
theorem idx_hv (c : UInt8) : Lib.indexByte digitsL c = hvI c := by
  have h : ∀ n : Fin 256, Lib.indexByte digitsL (UInt8.ofNat n.val) = hvI (UInt8.ofNat n.val) := by decide +kernel
  have := h ⟨c.toNat, c.toNat_lt⟩
  simpa using this
theorem hvI_rg (c : UInt8) : -1 ≤ hvI c ∧ hvI c ≤ 15 := by
  have h : ∀ n : Fin 256, -1 ≤ hvI (UInt8.ofNat n.val) ∧ hvI (UInt8.ofNat n.val) ≤ 15 := by decide +kernel
  have := h ⟨c.toNat, c.toNat_lt⟩
  simpa using this
theorem index_any (c : UInt8) (w : World) :
    Calls Tryz.prog 90 #[.string ⟨#[48, 49, 50, 51, 52, 53, 54, 55, 56, 57, 97, 98, 99, 100, 101, 102]⟩, .int .u8 c.toNat] w fun e w' => e = .returned (.int .i64 (hvI c)) ∧ w' = w := by
  refine (Tryz.strings_IndexByte _ _ _).mono ?_
  rintro e w' ⟨rfl, rfl⟩
  refine ⟨ret_int ?_, rfl⟩
  rw [← idx_hv]
  congr 1
  simp
theorem pair_val : ∀ p q : Fin 17, 0 ≤ bits BinOp.or IntKind.i64 (((p.val : Int) - 1) * 16) (bits BinOp.and IntKind.i64 ((q.val : Int) - 1) 15) % 256 ∧ bits BinOp.or IntKind.i64 (((p.val : Int) - 1) * 16) (bits BinOp.and IntKind.i64 ((q.val : Int) - 1) 15) % 256 < 256 ∧ (0 < p.val → 0 < q.val → bits BinOp.or IntKind.i64 (((p.val : Int) - 1) * 16) (bits BinOp.and IntKind.i64 ((q.val : Int) - 1) 15) % 256 = 16 * ((p.val : Int) - 1) + ((q.val : Int) - 1)) := by decide +kernel
theorem hexOf_two (a b : UInt8) (t : List UInt8) : (Sc.hexOf (a :: b :: t)).isSome = decide (0 ≤ hvI a ∧ 0 ≤ hvI b) ∧ ∀ x, Sc.hexOf (a :: b :: t) = some x → 0 ≤ hvI a ∧ 0 ≤ hvI b ∧ x = UInt8.ofNat (16 * hvI a + hvI b).toNat := by
  have e : Sc.hexOf (a :: b :: t) = match Sc.hv a, Sc.hv b with | some m, some n => some (UInt8.ofNat (16 * m + n)) | _, _ => none := rfl
  rw [e]
  unfold hvI
  rcases Sc.hv a with _ | m <;> rcases Sc.hv b with _ | n
  · exact ⟨rfl, fun x h => by cases h⟩
  · exact ⟨rfl, fun x h => by cases h⟩
  · refine ⟨?_, fun x h => by cases h⟩
    simp
  · refine ⟨?_, fun x h => ?_⟩
    · simp
    · obtain rfl := Option.some.inj h
      exact ⟨Int.natCast_nonneg _, Int.natCast_nonneg _, by congr 1⟩
theorem pair_fin (a b : UInt8) (t : List UInt8) (V : Int) (q : Bool) (hV : V = bits BinOp.or IntKind.i64 (hvI a * 16) (bits BinOp.and IntKind.i64 (hvI b) 15) % 256) (hq : q = decide (0 ≤ hvI a ∧ 0 ≤ hvI b)) :
    ∃ v : UInt8, Ending.returned (.tuple #[.int .u8 V, .bool q]) = .returned (.tuple #[.int .u8 v.toNat, .bool (Sc.hexOf (a :: b :: t)).isSome]) ∧ ∀ x, Sc.hexOf (a :: b :: t) = some x → v = x := by
  obtain ⟨ra1, ra2⟩ := hvI_rg a
  obtain ⟨rb1, rb2⟩ := hvI_rg b
  obtain ⟨h1, h2⟩ := hexOf_two a b t
  have hp := pair_val ⟨(hvI a + 1).toNat, by omega⟩ ⟨(hvI b + 1).toNat, by omega⟩
  simp only [show (((hvI a + 1).toNat : Nat) : Int) - 1 = hvI a by omega, show (((hvI b + 1).toNat : Nat) : Int) - 1 = hvI b by omega] at hp
  rw [← hV] at hp
  obtain ⟨p1, p2, p3⟩ := hp
  have ht : ((UInt8.ofNat V.toNat).toNat : Int) = V := by simp; omega
  refine ⟨UInt8.ofNat V.toNat, by rw [ht, h1, hq], fun x hx => ?_⟩
  obtain ⟨g1, g2, rfl⟩ := h2 x hx
  rw [p3 (by omega) (by omega)]
set_option maxRecDepth 100000 in
set_option maxHeartbeats 4000000 in
theorem pair_any (l : Sc.Bs) (hl : l.length ≤ 4294967281) (w : World) :
    Calls Tryz.prog 79 #[.string ⟨l.toArray⟩] w fun e w' => (∃ v : UInt8, e = .returned (.tuple #[.int .u8 v.toNat, .bool (Sc.hexOf l).isSome]) ∧ ∀ x, Sc.hexOf l = some x → v = x) ∧ Below w.heap.size w w' := by
  match l with
  | [] =>
    go_enter Tryz.func79, Tryz.ntmps79
    go_wp2_with fail
    go_ret2
    exact ⟨⟨0, rfl, fun x h => by cases h⟩, Below.refl _ _⟩
  | [a] =>
    go_enter Tryz.func79, Tryz.ntmps79
    go_wp2_with fail
    go_ret2
    exact ⟨⟨0, rfl, fun x h => by cases h⟩, Below.refl _ _⟩
  | a :: b :: t =>
    have hz : (⟨(a :: b :: t).toArray⟩ : ByteArray).size = t.length + 2 := by rw [Lib.size_eq]; rfl
    have hz2 : ¬ ((⟨(a :: b :: t).toArray⟩ : ByteArray).size : Int) < 2 := by rw [hz]; omega
    have h0 : 0 < (⟨(a :: b :: t).toArray⟩ : ByteArray).size := by rw [hz]; omega
    have h1 : 1 < (⟨(a :: b :: t).toArray⟩ : ByteArray).size := by rw [hz]; omega
    have e0 : (⟨(a :: b :: t).toArray⟩ : ByteArray)[0] = a := rfl
    have e1 : (⟨(a :: b :: t).toArray⟩ : ByteArray)[1] = b := rfl
    have q0 : (0 : Int) < (t.length : Int) + 2 := by omega
    have q1 : (1 : Int) < (t.length : Int) + 2 := by omega
    obtain ⟨ra1, ra2⟩ := hvI_rg a
    obtain ⟨rb1, rb2⟩ := hvI_rg b
    generalize hs : (⟨(a :: b :: t).toArray⟩ : ByteArray) = s at hz hz2 h0 h1 e0 e1 ⊢
    go_enter Tryz.func79, Tryz.ntmps79
    go_wp2_with fail
    go_quiet (first
      | (refine (index_any a _).mono ?_; rintro e w2 ⟨rfl, rfl⟩; exact ⟨rfl, _, rfl⟩)
      | (refine (index_any b _).mono ?_; rintro e w2 ⟨rfl, rfl⟩; exact ⟨rfl, _, rfl⟩))
    go_wp2_with fail
    all_goals
      go_ret2
      refine ⟨pair_fin a b t _ _ rfl ?_, below_drewN (Below.refl _ _) _⟩
      rw [Bool.eq_iff_iff]
      simp
      try omega
theorem str_drop1 (c : UInt8) (t : List UInt8) : (⟨(c :: t).toArray⟩ : ByteArray).extract 1 (t.length + 1) = ⟨t.toArray⟩ := by
  rw [Lib.extract_eq]
  simp
theorem str_drop2 (t : List UInt8) : (⟨t.toArray⟩ : ByteArray).extract 2 t.length = ⟨(t.drop 2).toArray⟩ := by
  rw [Lib.extract_eq]
  simp only [List.take_of_length_le (l := t.drop 2) (i := t.length - 2) (by rw [List.length_drop]; omega)]
theorem hexOf_len {t : List UInt8} {x : UInt8} (h : Sc.hexOf t = some x) : 2 ≤ t.length ∧ (2 : Int) ≤ (t.length : Int) := by
  match t, h with
  | [], h => cases h
  | [_], h => cases h
  | _ :: _ :: _, _ => simp; omega
theorem str_cons_ne (c : UInt8) (t : List UInt8) : (⟨(c :: t).toArray⟩ : ByteArray).toList.isEmpty = false := by
  rw [ByteArray.toList_eq]
  rfl
set_option maxRecDepth 100000 in
set_option maxHeartbeats 8000000 in
theorem escaped_any (b : Nat) (r : Sc.Rd) (w : World) (h : RdAt w b r) (hlen : r.rest.length < 4294967281) :
    Calls Tryz.prog 61 #[.pointer (some ⟨b, 0, none⟩)] w fun e w' => e = .returned (.int .u8 (Sc.escaped r).1.toNat) ∧ RdAt w' b (Sc.escaped r).2 ∧ But [b] w w' := by
  obtain ⟨l, q⟩ := r
  obtain ⟨c0, c1, f0, f1, hlt⟩ := h.cells
  match l with
  | [] =>
    have H := Lib.hid (h.bad true)
    have B := Lib.hid (but_set (i := 1) (.bool true) h).1
    clear h
    go_enter Tryz.func61, Tryz.ntmps61
    go_wp2_with fail
    go_ret
    exact ⟨rfl, H.out, B.out⟩
  | c :: t =>
    have H := Lib.hid (h.rest t)
    have B := Lib.hid (but_set (i := 0) (.string ⟨t.toArray⟩) h).1
    have hz : (⟨(c :: t).toArray⟩ : ByteArray).size = t.length + 1 := by rw [Lib.size_eq]; rfl
    have h0 : 0 < (⟨(c :: t).toArray⟩ : ByteArray).size := by rw [hz]; omega
    have e0 : (⟨(c :: t).toArray⟩ : ByteArray)[0] = c := rfl
    have e1 : (⟨(c :: t).toArray⟩ : ByteArray).extract 1 (t.length + 1) = ⟨t.toArray⟩ := str_drop1 c t
    have n0 : (⟨(c :: t).toArray⟩ : ByteArray).toList.isEmpty = false := str_cons_ne c t
    clear h
    simp only at c0 c1
    generalize hs : (⟨(c :: t).toArray⟩ : ByteArray) = s at hz h0 e0 e1 n0 c0 ⊢
    have HES := Lib.hid (show ∀ p, Sc.escaped ⟨c :: t, q⟩ = p → Sc.escaped ⟨c :: t, q⟩ = p from fun _ h => h)
    by_cases k1 : c.toNat = 34 ∨ c.toNat = 92
    · have HE := Lib.hid (show Sc.escaped ⟨c :: t, q⟩ = (c, ⟨t, q⟩) by unfold Sc.escaped; exact if_pos k1)
      have hcase : ((c.toNat : Int) == 34) = true ∨ (((c.toNat : Int) == 34) = false ∧ ((c.toNat : Int) == 92) = true) := by
        by_cases a : c.toNat = 34
        · exact .inl (by rw [a]; rfl)
        · refine .inr ⟨by rw [beq_eq_false_iff_ne]; omega, ?_⟩
          rw [k1.resolve_left a]; rfl
      clear k1 hlt hlen
      rcases hcase with b1 | ⟨b1, b2⟩
      all_goals
        go_enter Tryz.func61, Tryz.ntmps61
        go_wp2_with fail
        go_ret
        rw [HE.out]
        exact ⟨rfl, H.out, B.out⟩
    · have b34 : ((c.toNat : Int) == 34) = false := by rw [beq_eq_false_iff_ne]; omega
      have b92 : ((c.toNat : Int) == 92) = false := by rw [beq_eq_false_iff_ne]; omega
      by_cases k2 : c.toNat = 110
      · have HE := Lib.hid (show Sc.escaped ⟨c :: t, q⟩ = (10, ⟨t, q⟩) by unfold Sc.escaped; exact (if_neg k1).trans (if_pos k2))
        have b110 : ((c.toNat : Int) == 110) = true := by rw [k2]; rfl
        clear k1 k2
        go_enter Tryz.func61, Tryz.ntmps61
        go_wp2_with fail
        go_ret
        rw [HE.out]
        exact ⟨rfl, H.out, B.out⟩
      have b110 : ((c.toNat : Int) == 110) = false := by rw [beq_eq_false_iff_ne]; omega
      by_cases k3 : c.toNat = 114
      · have HE := Lib.hid (show Sc.escaped ⟨c :: t, q⟩ = (13, ⟨t, q⟩) by unfold Sc.escaped; exact (if_neg k1).trans ((if_neg k2).trans (if_pos k3)))
        have b114 : ((c.toNat : Int) == 114) = true := by rw [k3]; rfl
        clear k1 k2 k3
        go_enter Tryz.func61, Tryz.ntmps61
        go_wp2_with fail
        go_ret
        rw [HE.out]
        exact ⟨rfl, H.out, B.out⟩
      have b114 : ((c.toNat : Int) == 114) = false := by rw [beq_eq_false_iff_ne]; omega
      have HE0 := Lib.hid (show Sc.escaped ⟨c :: t, q⟩ = (if c.toNat = 120 then (match Sc.hexOf t with | some x => if Sc.needs x then (x, ⟨t.drop 2, q⟩) else (0, ⟨t, true⟩) | none => (0, ⟨t, true⟩)) else (0, ⟨t, true⟩)) by unfold Sc.escaped; exact (if_neg k1).trans ((if_neg k2).trans (if_neg k3)))
      clear k1 k2 k3 HES
      have hlt4 : t.length ≤ 4294967281 := by simp at hlen; omega
      obtain ⟨d0, d1, g0, g1, hltd⟩ := H.out.cells
      simp only at d0 d1
      by_cases k4 : c.toNat = 120
      · have b120 : ((c.toNat : Int) != 120) = false := by rw [k4]; rfl
        rw [if_pos k4] at HE0
        clear k4
        go_enter Tryz.func61, Tryz.ntmps61
        go_wp2_with fail
        refine (pair_any t hlt4 _).mono ?_
        rintro e w1 ⟨⟨v, rfl, hv⟩, hb1⟩
        have H1 := Lib.hid (H.out.next hb1)
        have B1 := Lib.hid (B.out.trans (But.of (S := [b]) hb1))
        clear d0 d1 g0 g1 hltd H B c0 c1 f0 f1 hlt hb1
        obtain ⟨d0, d1, g0, g1, hltd⟩ := H1.out.cells
        simp only at d0 d1
        have H2 := Lib.hid (H1.out.bad true)
        have B2 := Lib.hid (B1.out.trans (but_set (i := 1) (.bool true) H1.out).1)
        rcases hh : Sc.hexOf t with _ | x
        · have HE := Lib.hid (show Sc.escaped ⟨c :: t, q⟩ = (0, ⟨t, true⟩) by rw [HE0, hh])
          clear hh HE0 hv
          go_wp2_with fail
          go_ret
          rw [HE.out]
          exact ⟨rfl, H2.out, B2.out⟩
        · obtain rfl := hv x hh
          obtain ⟨ht2, ht2'⟩ := hexOf_len hh
          have hsz : (⟨t.toArray⟩ : ByteArray).size = t.length := by rw [Lib.size_eq]
          have hex := str_drop2 t
          have hcase : (((32 : Int) ≤ (v.toNat : Int)) ∧ ((v.toNat : Int) ≤ 126)) ∨ ((¬ ((32 : Int) ≤ (v.toNat : Int))) ∧ ((v.toNat : Int) == 10) = true) ∨ ((¬ ((32 : Int) ≤ (v.toNat : Int))) ∧ ((v.toNat : Int) == 10) = false ∧ ((v.toNat : Int) == 13) = true) ∨ ((¬ ((32 : Int) ≤ (v.toNat : Int))) ∧ ((v.toNat : Int) == 10) = false ∧ ((v.toNat : Int) == 13) = false) ∨ (((32 : Int) ≤ (v.toNat : Int)) ∧ (¬ ((v.toNat : Int) ≤ 126)) ∧ ((v.toNat : Int) == 10) = false ∧ ((v.toNat : Int) == 13) = false) := by
            simp only [beq_iff_eq, beq_eq_false_iff_ne]; omega
          have hneed : Sc.needs v = decide (¬ ((32 ≤ v.toNat ∧ v.toNat ≤ 126) ∨ v.toNat = 10 ∨ v.toNat = 13)) := by
            unfold Sc.needs; rw [Bool.eq_iff_iff]; simp; omega
          have HN := Lib.hid hneed
          have H3 := Lib.hid (H1.out.rest (t.drop 2))
          have B3 := Lib.hid (B1.out.trans (but_set (i := 0) (.string ⟨(t.drop 2).toArray⟩) H1.out).1)
          clear hneed hv hlt4 hlen hz h0 e0 e1 n0
          generalize hst : (⟨t.toArray⟩ : ByteArray) = st at hsz hex d0
          rcases hcase with ⟨l1, l2⟩ | ⟨l1, b10⟩ | ⟨l1, b10, b13⟩ | ⟨l1, b10, b13⟩ | ⟨l1, l2, b10, b13⟩
          · have HE := Lib.hid (show Sc.escaped ⟨c :: t, q⟩ = (0, ⟨t, true⟩) by rw [HE0, hh]; exact if_neg (by rw [HN.out]; simp; omega))
            clear hh HE0 HN
            go_wp2_with fail
            go_ret
            rw [HE.out]
            exact ⟨rfl, H2.out, B2.out⟩
          · have HE := Lib.hid (show Sc.escaped ⟨c :: t, q⟩ = (0, ⟨t, true⟩) by rw [HE0, hh]; have := beq_iff_eq.1 b10; exact if_neg (by rw [HN.out]; simp; omega))
            clear hh HE0 HN
            go_wp2_with fail
            go_ret
            rw [HE.out]
            exact ⟨rfl, H2.out, B2.out⟩
          · have HE := Lib.hid (show Sc.escaped ⟨c :: t, q⟩ = (0, ⟨t, true⟩) by rw [HE0, hh]; have := beq_iff_eq.1 b13; exact if_neg (by rw [HN.out]; simp; omega))
            clear hh HE0 HN
            go_wp2_with fail
            go_ret
            rw [HE.out]
            exact ⟨rfl, H2.out, B2.out⟩
          all_goals
            have HE := Lib.hid (show Sc.escaped ⟨c :: t, q⟩ = (v, ⟨t.drop 2, q⟩) by rw [HE0, hh]; have := beq_eq_false_iff_ne.1 b13; have := beq_eq_false_iff_ne.1 b10; exact if_pos (by rw [HN.out]; simp; omega))
            clear hh HE0 HN
            go_wp2_with fail
            go_ret
            rw [HE.out]
            exact ⟨rfl, H3.out, B3.out⟩
      · have b120 : ((c.toNat : Int) != 120) = true := by rw [bne_iff_ne]; omega
        rw [if_neg k4] at HE0
        clear k4
        go_enter Tryz.func61, Tryz.ntmps61
        go_wp2_with fail
        refine (pair_any t hlt4 _).mono ?_
        rintro e w1 ⟨⟨v, rfl, hv⟩, hb1⟩
        have H1 := Lib.hid (H.out.next hb1)
        have B1 := Lib.hid (B.out.trans (But.of (S := [b]) hb1))
        clear d0 d1 g0 g1 hltd H B c0 c1 f0 f1 hlt hb1
        obtain ⟨d0, d1, g0, g1, hltd⟩ := H1.out.cells
        simp only at d0 d1
        have H2 := Lib.hid (H1.out.bad true)
        have B2 := Lib.hid (B1.out.trans (but_set (i := 1) (.bool true) H1.out).1)
        clear hv
        go_wp2_with fail
        go_ret
        rw [HE0]
        exact ⟨rfl, H2.out, B2.out⟩
end Go.Proofs.YthpojljfmipngaaGreatDoor
