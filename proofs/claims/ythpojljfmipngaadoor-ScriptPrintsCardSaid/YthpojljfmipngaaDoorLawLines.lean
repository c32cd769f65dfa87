/-
  THE WALK of ScriptLines. CONDITION: Env.
-/
import Derived.Test.YthpojljfmipngaaDoorWalkT
namespace Go.Proofs.YthpojljfmipngaaDoor
open Go.RowKit
theorem str_take (s : ByteArray) (n : Nat) : s.extract 0 n = ⟨(s.data.toList.take n).toArray⟩ := by
  have := Lib.extract_eq s 0 n
  simpa using this
/-- The law's second text says the same place. -/
theorem again_eq (L1 L2 : Sc.Bs) (h1 : L1.length ≤ 20000) (h2 : L2.length ≤ 1000) (hne : (Sc.parseOf L1).2.2 ≠ 0) (o : Nat) (ho : Lib.indexByte (L1.drop (Sc.parseOf L1).2.1) 10 = (o : Int)) :
    Sc.parseOf (L1.take ((Sc.parseOf L1).2.1 + o + 1) ++ L2) = (Sc.zeroS, (Sc.parseOf L1).2.1, 380) := by
  have e1 : Sc.parseOf L1 = Sc.parseGo L1 0 0 Sc.zeroS := by unfold Sc.parseOf; rw [if_neg (by omega)]
  rw [e1] at hne ho ⊢
  rcases Sc.parse_wrong L1 0 0 Sc.zeroS with h | ⟨_, _, _, hle, _, hag⟩
  · exact absurd h hne
  generalize (Sc.parseGo L1 0 0 Sc.zeroS).2.1 = a at ho hle hag ⊢
  obtain ⟨hs1, hs2⟩ := Lib.indexByte_some ho
  have hu := Sc.upto_at hs1 hs2
  rw [Nat.sub_zero] at hag
  rw [hu] at hag
  have hk := hag rfl L2
  have ht : L1.take a ++ ((L1.drop a).take o ++ 10 :: L2) = L1.take (a + o + 1) ++ L2 := by
    rw [show a + o + 1 = a + (o + 1) by omega, List.take_add, List.append_assoc]
    congr 1
    obtain ⟨hlt, he⟩ := List.getElem?_eq_some_iff.1 hs1
    rw [List.take_succ_eq_append_getElem hlt, he]
    simp
  rw [ht] at hk
  unfold Sc.parseOf
  rw [if_neg (by simp; omega)]
  exact hk
theorem app_str (x y : Sc.Bs) : (⟨x.toArray⟩ ++ ⟨y.toArray⟩ : ByteArray) = ⟨(x ++ y).toArray⟩ := by
  apply ByteArray.ext
  simp
set_option maxRecDepth 100000 in
set_option maxHeartbeats 8000000 in
theorem lines_any (s0 s1 : ByteArray) (w : World) (henv : Env w) (hs0 : s0.size ≤ 9223372036854775807) (hs1 : s1.size ≤ 9223372036854775807) :
    Calls Tryd.prog 4 #[.string s0, .string s1] w fun e w' => e = .returned (.bool true) ∧ Below w.heap.size w w' := by
  obtain ⟨n0, hn0⟩ : ∃ n, n = min s0.size 20000 := ⟨_, rfl⟩
  obtain ⟨n1, hn1⟩ : ∃ n, n = min s1.size 1000 := ⟨_, rfl⟩
  have hm0 : min (s0.size : Int) 20000 = (n0 : Int) := by omega
  have hm1 : min (s1.size : Int) 1000 = (n1 : Int) := by omega
  have hl0 : n0 ≤ s0.size := by omega
  have hl1 : n1 ≤ s1.size := by omega
  have hx0 := str_take s0 n0
  have hx1 := str_take s1 n1
  have hlen0 : (s0.data.toList.take n0).length = n0 := by rw [List.length_take, ← Lib.size_eq]; omega
  have hlen1 : (s1.data.toList.take n1).length = n1 := by rw [List.length_take, ← Lib.size_eq]; omega
  generalize s0.data.toList.take n0 = L0 at hx0 hlen0
  generalize s1.data.toList.take n1 = L1 at hx1 hlen1
  have HL0 : Hid (L0.length ≤ 20000) := Lib.hid (by omega)
  have HL1 : Hid (L1.length ≤ 1000) := Lib.hid (by omega)
  have H0 := Lib.hid hlen0
  have H1 := Lib.hid hlen1
  clear hn0 hn1 hlen0 hlen1
  go_enter Tryd.func4, Tryd.ntmps4
  go_wp2_with fail
  refine (wakes_any _ henv).mono ?_
  rintro e w1 ⟨rfl, hb1⟩
  have HB1 := Lib.hid hb1
  have he1 := henv.next hb1
  clear hb1
  go_wp2_with fail
  go_region
  go_wp2_with fail
  refine (parse_any L0 _ (he1.next (below_drewN (Below.refl _ _) 1)) (by have := HL0.out; omega)).mono ?_
  rintro e w2 ⟨A, c, rfl, hE, hb2⟩
  have HB2 := Lib.hid (HB1.out.trans (((below_drewN (Below.refl w1.heap.size w1) 1).trans hb2).mono HB1.out.size))
  have he2 := (he1.next (below_drewN (Below.refl _ _) 1)).next hb2
  clear he1 hb2 hE hx0 hx1 hm0 hm1
  obtain ⟨⟨S, a, er⟩, hP⟩ : ∃ p, Sc.parseOf L0 = p := ⟨_, rfl⟩
  have hw := Sc.parse_wrong L0 0 0 Sc.zeroS
  rw [← show Sc.parseOf L0 = Sc.parseGo L0 0 0 Sc.zeroS by unfold Sc.parseOf; rw [if_neg (by have := HL0.out; omega)], hP] at hw
  have HP := Lib.hid hP
  rw [hP]
  unfold scrV
  simp only []
  clear hP
  by_cases hz : er = 0
  · subst hz
    go_wp2_with fail
    go_ret
    exact ⟨rfl, HB2.out.trans (below_box w2 _ |>.mono HB2.out.size)⟩
  rcases hw with hw | ⟨_, herr, _, hle, hfeed, _⟩
  · exact absurd hw hz
  simp only at herr hle hfeed
  subst herr
  clear hz
  rw [Nat.zero_add] at hle
  have hai : ¬ (L0.length : Int) < (a : Int) := by omega
  have hsz : (⟨L0.toArray⟩ : ByteArray).size = L0.length := by rw [Lib.size_eq]
  have hex : (⟨L0.toArray⟩ : ByteArray).extract a L0.length = ⟨(L0.drop a).toArray⟩ := str_drop L0 a
  have hcut : ∀ o, (⟨L0.toArray⟩ : ByteArray).extract 0 (a + o + 1) = ⟨(L0.take (a + o + 1)).toArray⟩ := fun o => str_take _ _
  have HCUT := Lib.hid hcut
  have hind : ∀ W : World, Calls Tryd.prog 11 #[.string ⟨(L0.drop a).toArray⟩, .int .u8 10] W fun e w' => e = .returned (.int .i64 (Lib.indexByte (L0.drop a) 10)) ∧ w' = W := fun W => by
    have := Tryd.strings_IndexByte ⟨(L0.drop a).toArray⟩ 10 W
    simpa using this
  have HIND := Lib.hid hind
  have HLE := Lib.hid hle
  have H380 : Hid (∀ st : ByteArray, st.size = L0.length → True) := Lib.hid (fun _ _ => trivial)
  have hget : ∀ a', a = a' + 1 → ∃ h : a' < (⟨L0.toArray⟩ : ByteArray).size, (⟨L0.toArray⟩ : ByteArray)[a'] = 10 := by
    intro a' e
    subst e
    have hf := hfeed (by omega)
    rw [show a' + 1 - 0 - 1 = a' by omega] at hf
    obtain ⟨h1, h2⟩ := List.getElem?_eq_some_iff.1 hf
    exact ⟨by rw [hsz]; exact h1, by show L0.toArray[a'] = 10; simpa using h2⟩
  clear hcut hind hfeed H380
  generalize hst : (⟨L0.toArray⟩ : ByteArray) = st at hsz hex HCUT hget ⊢
  clear hst
  cases a with
  | zero =>
    clear hget
    go_wp2_with fail
    refine (HIND.out _).mono ?_
    rintro e w' ⟨rfl, rfl⟩
    have hge := Lib.indexByte_ge (L0.drop (0)) 10
    have HAG := fun o ho => Lib.hid (again_eq L0 L1 HL0.out HL1.out (by rw [HP.out]; show (380 : Int) ≠ 0; decide) o ho)
    rw [HP.out] at HAG
    simp only at HAG
    rcases (show Lib.indexByte (L0.drop (0)) 10 = -1 ∨ ∃ o : Nat, Lib.indexByte (L0.drop (0)) 10 = (o : Int) from by
        by_cases h : 0 ≤ Lib.indexByte (L0.drop (0)) 10
        · exact .inr ⟨_, (Int.toNat_of_nonneg h).symm⟩
        · exact .inl (by omega)) with ho | ⟨o, ho⟩
    · clear HAG hge
      rw [ho]
      clear ho
      have HB3 := Lib.hid (HB2.out.trans (below_box w2 (.cells #[.int .i64 Sc.zeroS.servers, .int .i64 Sc.zeroS.area, .slice A Sc.zeroS.events.length c] 28) |>.mono HB2.out.size))
      go_wp2_with fail
      go_ret
      exact ⟨rfl, HB3.out⟩
    · have HAG1 := HAG o ho
      have hol : o < L0.length - (0) := by
        have := (List.getElem?_eq_some_iff.1 (Lib.indexByte_some ho).1).1
        rwa [List.length_drop] at this
      have ho1 : (0) + o + 1 ≤ L0.length := by omega
      have ho2 : o ≤ 20000 := by have := HL0.out; omega
      have ho3 : (0) ≤ 20000 := by have := HL0.out; omega
      have hc := HCUT.out o
      have hcs : (⟨(L0.take (0 + o + 1)).toArray⟩ : ByteArray).size ≤ 20000 := by rw [Lib.size_eq]; have := HL0.out; simp; omega
      have hls : (⟨L1.toArray⟩ : ByteArray).size ≤ 1000 := by rw [Lib.size_eq]; exact HL1.out
      have happ : (⟨(L0.take (0 + o + 1)).toArray⟩ ++ ⟨L1.toArray⟩ : ByteArray).size ≤ 9223372036854775807 := by rw [ByteArray.size_append]; omega
      have hb3 := below_box w2 (.cells #[.int .i64 Sc.zeroS.servers, .int .i64 Sc.zeroS.area, .slice A Sc.zeroS.events.length c] 28)
      have he3 := he2.next hb3
      have HB3 := Lib.hid (HB2.out.trans (hb3.mono HB2.out.size))
      simp only [Nat.zero_add] at hc hcs happ
      have hmn : min (o + 1) L0.length + L1.length ≤ 9223372036854775807 := by have := HL0.out; have := HL1.out; omega
      have HG : Hid (Sc.parseOf (L0.take (o + 1) ++ L1) = (Sc.zeroS, 0, 380)) := Lib.hid (by have := HAG1.out; simpa using this)
      rw [ho]
      clear HAG hge ho he2 hb3 HAG1
      go_wp2_with fail
      rw [app_str (L0.take (o + 1)) L1]
      refine (parse_any _ _ he3 (by rw [List.length_append, List.length_take]; have := HL0.out; have := HL1.out; omega)).mono ?_
      rintro e w4 ⟨A4, c4, rfl, _, hb4⟩
      rw [HG.out]
      have HB4 := Lib.hid (HB3.out.trans (hb4.mono HB3.out.size))
      clear hb4
      unfold scrV
      go_wp2_with fail
      go_ret
      exact ⟨rfl, HB4.out.trans (below_box w4 _ |>.mono HB4.out.size)⟩
  | succ a' =>
    obtain ⟨hg1, hg2⟩ := hget a' rfl
    have hai1 : ¬ (L0.length : Int) < (a' : Int) + 1 := by omega
    have hai2 : ¬ ((a' : Int) + 1 < 0) := by omega
    have hai3 : (0 : Int) < (a' : Int) + 1 := by omega
    have hai4 : (a' : Int) + 1 - 1 = a' := by omega
    have hai5 : (a' : Int) < (st.size : Int) := by omega
    have e10 : ((10 : UInt8).toNat : Int) = 10 := rfl
    have hai6 : a' ≤ 20000 := by have := HL0.out; omega
    clear hget hai hle
    go_wp2_with fail
    refine (HIND.out _).mono ?_
    rintro e w' ⟨rfl, rfl⟩
    have hge := Lib.indexByte_ge (L0.drop (a' + 1)) 10
    have HAG := fun o ho => Lib.hid (again_eq L0 L1 HL0.out HL1.out (by rw [HP.out]; show (380 : Int) ≠ 0; decide) o ho)
    rw [HP.out] at HAG
    simp only at HAG
    rcases (show Lib.indexByte (L0.drop (a' + 1)) 10 = -1 ∨ ∃ o : Nat, Lib.indexByte (L0.drop (a' + 1)) 10 = (o : Int) from by
        by_cases h : 0 ≤ Lib.indexByte (L0.drop (a' + 1)) 10
        · exact .inr ⟨_, (Int.toNat_of_nonneg h).symm⟩
        · exact .inl (by omega)) with ho | ⟨o, ho⟩
    · clear HAG hge
      rw [ho]
      clear ho
      have HB3 := Lib.hid (HB2.out.trans (below_box w2 (.cells #[.int .i64 Sc.zeroS.servers, .int .i64 Sc.zeroS.area, .slice A Sc.zeroS.events.length c] 28) |>.mono HB2.out.size))
      go_wp2_with fail
      go_ret
      exact ⟨rfl, HB3.out⟩
    · have HAG1 := HAG o ho
      have hol : o < L0.length - (a' + 1) := by
        have := (List.getElem?_eq_some_iff.1 (Lib.indexByte_some ho).1).1
        rwa [List.length_drop] at this
      have ho1 : (a' + 1) + o + 1 ≤ L0.length := by omega
      have ho2 : o ≤ 20000 := by have := HL0.out; omega
      have ho3 : (a' + 1) ≤ 20000 := by have := HL0.out; omega
      have hc := HCUT.out o
      have hcs : (⟨(L0.take (a' + 1 + o + 1)).toArray⟩ : ByteArray).size ≤ 20000 := by rw [Lib.size_eq]; have := HL0.out; simp; omega
      have hls : (⟨L1.toArray⟩ : ByteArray).size ≤ 1000 := by rw [Lib.size_eq]; exact HL1.out
      have happ : (⟨(L0.take (a' + 1 + o + 1)).toArray⟩ ++ ⟨L1.toArray⟩ : ByteArray).size ≤ 9223372036854775807 := by rw [ByteArray.size_append]; omega
      have hb3 := below_box w2 (.cells #[.int .i64 Sc.zeroS.servers, .int .i64 Sc.zeroS.area, .slice A Sc.zeroS.events.length c] 28)
      have he3 := he2.next hb3
      have HB3 := Lib.hid (HB2.out.trans (hb3.mono HB2.out.size))
      have hmn : min (a' + 1 + o + 1) L0.length + L1.length ≤ 9223372036854775807 := by have := HL0.out; have := HL1.out; omega
      have HG : Hid (Sc.parseOf (L0.take (a' + 1 + o + 1) ++ L1) = (Sc.zeroS, a' + 1, 380)) := Lib.hid (by have := HAG1.out; simpa using this)
      rw [ho]
      clear HAG hge ho he2 hb3 HAG1
      go_wp2_with fail
      rw [app_str (L0.take (a' + 1 + o + 1)) L1]
      refine (parse_any _ _ he3 (by rw [List.length_append, List.length_take]; have := HL0.out; have := HL1.out; omega)).mono ?_
      rintro e w4 ⟨A4, c4, rfl, _, hb4⟩
      rw [HG.out]
      have HB4 := Lib.hid (HB3.out.trans (hb4.mono HB3.out.size))
      clear hb4
      unfold scrV
      go_wp2_with fail
      go_ret
      exact ⟨rfl, HB4.out.trans (below_box w4 _ |>.mono HB4.out.size)⟩
end Go.Proofs.YthpojljfmipngaaDoor
