/-
  THE WALKS of the document's Parse: unquote. CONDITION: the text's length.
-/
import Derived.Test.YthpojljfmipngaaGreatDoorPD
namespace Go.Proofs.YthpojljfmipngaaGreatDoor
open Go.RowKit
namespace Rf
open Sc (Bs)
def bodyQ (s : Bs) : Bs := (s.drop 1).take (s.length - 2)
def unqR (s : Bs) : Bs × Bool :=
  if s.length < 2 ∨ s.getD 0 0 ≠ 34 ∨ s.getD (s.length - 1) 0 ≠ 34 then ([], false)
  else match decGo (bodyQ s) [] with
    | none => ([], false)
    | some out => (out, decide (refQuote out = s))
theorem dec_one {c : UInt8} {t out : Bs} (h : ¬ (c = 92 ∧ t ≠ [])) : decGo (c :: t) out = decGo t (out ++ [c]) := by
  cases t with
  | nil => simp [decGo]
  | cons d t => rw [decGo.eq_def]; simp only; rw [if_neg (fun e => h ⟨e, by simp⟩)]
theorem dec_hex {a b : UInt8} {t out : Bs} (h : badHex a b = false) : decGo (92 :: 120 :: a :: b :: t) out = decGo t (out ++ [hexV a b]) := by
  rw [decGo, if_pos rfl, if_pos rfl]; simp [h]
theorem dec_bad {a b : UInt8} {t out : Bs} (h : badHex a b = true) : decGo (92 :: 120 :: a :: b :: t) out = none := by
  rw [decGo, if_pos rfl, if_pos rfl]; simp [h]
theorem dec_esc {d : UInt8} {t out : Bs} (h : ¬ (d = 120 ∧ 2 ≤ t.length)) : decGo (92 :: d :: t) out = decGo t (out ++ [unEsc d]) := by
  by_cases hd : d = 120
  · subst hd
    match t, h with
    | [], _ => simp [decGo, unEsc]
    | [a], _ => simp [decGo, unEsc]
    | a :: b :: t, h => exact absurd ⟨rfl, by simp⟩ h
  · rw [decGo.eq_def]; simp only; rw [if_pos trivial, if_neg hd]
end Rf
theorem bs_at {s : ByteArray} {k : Nat} (h : k < s.size) : s.data.toList.getD k 0 = s[k]'h := by
  have h2 : k < s.data.toList.length := by rw [← Lib.size_eq]; exact h
  rw [List.getD_eq_getElem?_getD, List.getElem?_eq_getElem h2]
  simp only [Option.getD_some, Array.getElem_toList]
  rfl
theorem nat_eq {c : UInt8} {n : Nat} (hn : n < 256) (h : c ≠ UInt8.ofNat n) : ((c.toNat : Int) == (n : Int)) = false := by
  rw [beq_eq_false_iff_ne]
  intro e
  apply h
  apply UInt8.toNat_inj.1
  rw [UInt8.toNat_ofNat_of_lt' hn]
  omega
theorem drop_get {s : ByteArray} {k : Nat} (h : k < s.size) : s.data.toList.drop k = (s[k]'h) :: s.data.toList.drop (k + 1) := by
  have h2 : k < s.data.toList.length := by rw [← Lib.size_eq]; exact h
  have hget : s.data.toList[k]'h2 = s[k]'h := by simp only [Array.getElem_toList]; rfl
  rw [← hget]; exact List.drop_eq_getElem_cons h2
set_option maxRecDepth 100000 in
set_option maxHeartbeats 8000000 in
theorem unquote_any (s : ByteArray) (w : World) (hs : s.size ≤ 1048576) :
    Calls Tryz.prog 53 #[.string s] w fun e w' => e = .returned (.tuple #[.string ⟨(Rf.unqR s.data.toList).1.toArray⟩, .bool (Rf.unqR s.data.toList).2]) ∧ Below w.heap.size w w' := by
  have hsz : s.data.toList.length = s.size := (Lib.size_eq s).symm
  by_cases h2 : (s.size : Int) < 2
  · have HE : Hid (Rf.unqR s.data.toList = ([], false)) := Lib.hid (by unfold Rf.unqR; rw [if_pos (.inl (by omega))])
    clear hsz
    go_enter Tryz.func53, Tryz.ntmps53
    go_wp2_with fail
    rw [HE.out]
    exact bodyPost_ret (v := .tuple #[.string ⟨#[]⟩, .bool false]) (by simp [results, Tryz.results53, go_sem]) rfl ⟨rfl, Below.refl _ _⟩
  obtain ⟨m, hm⟩ : ∃ m, s.size = m + 2 := ⟨s.size - 2, by omega⟩
  have q2 : ¬ ((m : Int) + 2 < 2) := by omega
  have q3 : (m : Int) + 2 - 1 = (m : Int) + 1 := by omega
  have h0 : 0 < s.size := by omega
  have h1 : m + 1 < s.size := by omega
  obtain ⟨c0, e0⟩ : ∃ c, s[0]'h0 = c := ⟨_, rfl⟩
  obtain ⟨c1, e1⟩ : ∃ c, s[m + 1]'h1 = c := ⟨_, rfl⟩
  have g0 : s.data.toList.getD 0 0 = c0 := (bs_at h0).trans e0
  have g1 : s.data.toList.getD (s.data.toList.length - 1) 0 = c1 := by rw [hsz, hm]; exact (bs_at h1).trans e1
  by_cases n0 : c0 = 34
  · by_cases n1 : c1 = 34
    · have HE : Hid (Rf.unqR s.data.toList = match Rf.decGo (Rf.bodyQ s.data.toList) [] with | none => ([], false) | some out => (out, decide (refQuote out = s.data.toList))) := Lib.hid (by
        unfold Rf.unqR; rw [if_neg (by rw [g0, g1]; simp [n0, n1]; omega)])
      have hbd : (s.extract 1 (m + 1)).data.toList = Rf.bodyQ s.data.toList := by
        rw [Lib.extract_eq]
        unfold Rf.bodyQ
        rw [hsz, hm]
        simp
      have hbs : (s.extract 1 (m + 1)).size = m := by
        rw [Lib.size_eq, hbd]; unfold Rf.bodyQ; rw [List.length_take, List.length_drop, hsz, hm]; omega
      rw [← hbd] at HE
      have HM := Lib.hid hm
      have HSL := Lib.hid hsz
      clear g0 g1 hsz hbd
      subst n0
      subst n1
      obtain ⟨bd, hbdx⟩ : ∃ bd, s.extract 1 (m + 1) = bd := ⟨_, rfl⟩
      rw [hbdx] at HE hbs
      go_enter Tryz.func53, Tryz.ntmps53
      go_wp2_with fail
      clear hbdx
      go_loopw [5, 6, 7, 8, 9] (fun ov i _ _ _ wr => ∃ (k : Nat) (out : Sc.Bs), k ≤ m ∧ i = .int .i64 k ∧ Bf w.heap.size ov out wr ∧ Hid (Rf.decGo bd.data.toList [] = Rf.decGo (bd.data.toList.drop k) out) ∧ out.length ≤ k ∧ Below w.heap.size w wr) (fun _ i _ _ _ _ => m - (intOf i).toNat)
      case atStart => exact ⟨0, [], Nat.zero_le _, rfl, Bf.nil w, Lib.hid rfl, Nat.le_refl _, Below.refl _ _⟩
      case round =>
        obtain ⟨k, out, hk, rfl, hB, H, hol, hb⟩ := hrel
        have HB := Lib.hid hB
        have HBW := Lib.hid hb
        clear hB hb
        by_cases hlt : k < m
        · have hk0 : k < bd.size := by omega
          obtain ⟨c, hc⟩ : ∃ c, bd[k]'hk0 = c := ⟨_, rfl⟩
          have hd0 := drop_get hk0
          rw [hc] at hd0
          have HD0 := Lib.hid hd0
          clear hd0
          by_cases h92 : c = 92 ∧ k + 1 < m
          · obtain ⟨rfl, hk1⟩ := h92
            have hk1' : k + 1 < bd.size := by omega
            obtain ⟨d, hd⟩ : ∃ d, bd[k + 1]'hk1' = d := ⟨_, rfl⟩
            have hd1 := drop_get hk1'
            rw [hd] at hd1
            have HD1 := Lib.hid hd1
            clear hd1
            have q4 : (k : Int) + 1 < m := by omega
            by_cases h120 : d = 120 ∧ k + 3 < m
            · obtain ⟨rfl, hk3⟩ := h120
              have hk2' : k + 2 < bd.size := by omega
              have hk3' : k + 3 < bd.size := by omega
              obtain ⟨a, ha⟩ : ∃ d, bd[k + 2]'hk2' = d := ⟨_, rfl⟩
              obtain ⟨b, hbb⟩ : ∃ d, bd[k + 3]'hk3' = d := ⟨_, rfl⟩
              have hd2 := drop_get hk2'
              have hd3 := drop_get hk3'
              rw [ha] at hd2
              rw [hbb] at hd3
              have hex : bd.extract (k + 2) (k + 4) = ⟨[a, b].toArray⟩ := by
                rw [Lib.extract_eq, hd2, show k + 2 + 1 = k + 3 from rfl, hd3]
                simp [show k + 4 - (k + 2) = 2 by omega]
              have HDEC : Hid (bd.data.toList.drop k = 92 :: 120 :: a :: b :: bd.data.toList.drop (k + 4)) := Lib.hid (by rw [HD0.out, HD1.out, show k + 1 + 1 = k + 2 from rfl, hd2, show k + 2 + 1 = k + 3 from rfl, hd3])
              clear hd2 hd3 ha hbb
              have q5 : (k : Int) + 1 + 2 < m := by omega
              go_wp2_with fail
              refine (unhex_any a b _).mono ?_
              rintro e w3 ⟨hb3, hbad, hgood⟩
              have HBW3 := Lib.hid (HBW.out.trans (hb3.mono HBW.out.size))
              have HB3 := Lib.hid (HB.out.next hb3)
              clear hb3
              cases hbx : Rf.badHex a b with
              | true =>
                obtain rfl := hbad hbx
                have HF : Hid (Rf.unqR s.data.toList = ([], false)) := Lib.hid (by rw [HE.out, H.out, HDEC.out, Rf.dec_bad hbx])
                clear hbad hgood hbx
                go_wp2_with fail
                rw [HF.out]
                exact bodyPost_ret (v := .tuple #[.string ⟨#[]⟩, .bool false]) (by simp [results, Tryz.results53, go_sem]) rfl ⟨rfl, HBW3.out⟩
              | false =>
                obtain ⟨v, rfl, hv⟩ := hgood hbx
                obtain ⟨A, vc, rfl, hrow⟩ := Own.slice hv
                obtain ⟨g, o, rfl, hg, hcell⟩ := hrow.at_ (Below.refl _ _) (k := 0) rfl
                rw [Nat.add_zero] at hcell
                have HNX : Hid (Rf.decGo bd.data.toList [] = Rf.decGo (bd.data.toList.drop (k + 4)) (out ++ [Rf.hexV a b])) := Lib.hid (by rw [H.out, HDEC.out, Rf.dec_hex hbx])
                generalize Rf.hexV a b = hx at HNX hcell
                clear hbad hgood hbx hv hrow H hex
                simp only [List.length_cons, List.length_nil]
                go_wp2_with (at_builtin; refine wpList_own_append rfl _ _ 37 5 (.int .u8 0) 1 1 rfl Tryz.underlying37 info5 rfl (by decide) HB3.out rfl [.int .u8 (hx.toNat : Int)] 1 rfl rfl (by simp [Value.oneCell']) rfl (by unfold maxLen; omega) (by omega) ?_)
                intro v' w5 hO5 hb5
                have HB5 : Hid (Bf w.heap.size v' (out ++ [hx]) w5) := Lib.hid (Own.byte (c := hx) hO5)
                have HBW5 := Lib.hid (HBW3.out.trans hb5)
                clear hO5 hb5
                go_wp2_with fail
                go_roundw
                case rel => exact ⟨k + 4, out ++ [hx], by omega, by go_num, HB5.out, HNX, by simp; omega, HBW5.out⟩
                case measure => simp [intOf]; omega
            · have HNX : Hid (Rf.decGo bd.data.toList [] = Rf.decGo (bd.data.toList.drop (k + 2)) (out ++ [Rf.unEsc d])) := Lib.hid (by
                rw [H.out, HD0.out, HD1.out, Rf.dec_esc (fun h => h120 ⟨h.1, by have := h.2; rw [List.length_drop, ← Lib.size_eq] at this; omega⟩)])
              clear H
              by_cases hd120 : d = 120
              · have q5 : ¬ (k : Int) + 1 + 2 < m := fun h => h120 ⟨hd120, by omega⟩
                subst hd120
                have HNX : Hid (Rf.decGo bd.data.toList [] = Rf.decGo (bd.data.toList.drop (k + 2)) (out ++ [120])) := HNX
                clear h120
                go_wp2_with (at_builtin; refine wpList_own_append rfl _ _ 37 5 (.int .u8 0) 1 1 rfl Tryz.underlying37 info5 rfl (by decide) HB.out rfl [.int .u8 120] 1 rfl rfl (by simp [Value.oneCell']) rfl (by unfold maxLen; omega) (by omega) ?_)
                intro v' w5 hO5 hb5
                have HB5 : Hid (Bf w.heap.size v' (out ++ [120]) w5) := Lib.hid (Own.byte (c := 120) hO5)
                have HBW5 := Lib.hid (HBW.out.trans hb5)
                clear hO5 hb5
                go_wp2_with fail
                go_roundw
                case rel => exact ⟨k + 2, out ++ [120], by omega, by go_num, HB5.out, HNX, by simp; omega, HBW5.out⟩
                case measure => simp [intOf]; omega
              · have q6 : ((d.toNat : Int) == 120) = false := nat_eq (n := 120) (by decide) hd120
                clear h120 hd120
                by_cases hd110 : d = 110
                · subst hd110
                  have HNX : Hid (Rf.decGo bd.data.toList [] = Rf.decGo (bd.data.toList.drop (k + 2)) (out ++ [10])) := HNX
                  go_wp2_with (at_builtin; refine wpList_own_append rfl _ _ 37 5 (.int .u8 0) 1 1 rfl Tryz.underlying37 info5 rfl (by decide) HB.out rfl [.int .u8 10] 1 rfl rfl (by simp [Value.oneCell']) rfl (by unfold maxLen; omega) (by omega) ?_)
                  intro v' w5 hO5 hb5
                  have HB5 : Hid (Bf w.heap.size v' (out ++ [10]) w5) := Lib.hid (Own.byte (c := 10) hO5)
                  have HBW5 := Lib.hid (HBW.out.trans hb5)
                  clear hO5 hb5
                  go_wp2_with fail
                  go_roundw
                  case rel => exact ⟨k + 2, out ++ [10], by omega, by go_num, HB5.out, HNX, by simp; omega, HBW5.out⟩
                  case measure => simp [intOf]; omega
                · have q7 : ((d.toNat : Int) == 110) = false := nat_eq (n := 110) (by decide) hd110
                  by_cases hd114 : d = 114
                  · subst hd114
                    have HNX : Hid (Rf.decGo bd.data.toList [] = Rf.decGo (bd.data.toList.drop (k + 2)) (out ++ [13])) := HNX
                    clear hd110
                    go_wp2_with (at_builtin; refine wpList_own_append rfl _ _ 37 5 (.int .u8 0) 1 1 rfl Tryz.underlying37 info5 rfl (by decide) HB.out rfl [.int .u8 13] 1 rfl rfl (by simp [Value.oneCell']) rfl (by unfold maxLen; omega) (by omega) ?_)
                    intro v' w5 hO5 hb5
                    have HB5 : Hid (Bf w.heap.size v' (out ++ [13]) w5) := Lib.hid (Own.byte (c := 13) hO5)
                    have HBW5 := Lib.hid (HBW.out.trans hb5)
                    clear hO5 hb5
                    go_wp2_with fail
                    go_roundw
                    case rel => exact ⟨k + 2, out ++ [13], by omega, by go_num, HB5.out, HNX, by simp; omega, HBW5.out⟩
                    case measure => simp [intOf]; omega
                  · have q8 : ((d.toNat : Int) == 114) = false := nat_eq (n := 114) (by decide) hd114
                    have HNX : Hid (Rf.decGo bd.data.toList [] = Rf.decGo (bd.data.toList.drop (k + 2)) (out ++ [d])) := by unfold Rf.unEsc at HNX; rw [if_neg hd110, if_neg hd114] at HNX; exact HNX
                    clear hd110 hd114
                    go_wp2_with (at_builtin; refine wpList_own_append rfl _ _ 37 5 (.int .u8 0) 1 1 rfl Tryz.underlying37 info5 rfl (by decide) HB.out rfl [.int .u8 (d.toNat : Int)] 1 rfl rfl (by simp [Value.oneCell']) rfl (by unfold maxLen; omega) (by omega) ?_)
                    intro v' w5 hO5 hb5
                    have HB5 : Hid (Bf w.heap.size v' (out ++ [d]) w5) := Lib.hid (Own.byte (c := d) hO5)
                    have HBW5 := Lib.hid (HBW.out.trans hb5)
                    clear hO5 hb5
                    go_wp2_with fail
                    go_roundw
                    case rel => exact ⟨k + 2, out ++ [d], by omega, by go_num, HB5.out, HNX, by simp; omega, HBW5.out⟩
                    case measure => simp [intOf]; omega
          · have HNX : Hid (Rf.decGo bd.data.toList [] = Rf.decGo (bd.data.toList.drop (k + 1)) (out ++ [c])) := Lib.hid (by
              rw [H.out, HD0.out, Rf.dec_one (fun h => h92 ⟨h.1, by
                have := List.length_pos_iff.2 h.2
                rw [List.length_drop, ← Lib.size_eq] at this
                omega⟩)])
            clear H
            by_cases hc92 : c = 92
            · have q4 : ¬ (k : Int) + 1 < m := fun h => h92 ⟨hc92, by omega⟩
              subst hc92
              clear h92
              go_wp2_with (at_builtin; refine wpList_own_append rfl _ _ 37 5 (.int .u8 0) 1 1 rfl Tryz.underlying37 info5 rfl (by decide) HB.out rfl [.int .u8 92] 1 rfl rfl (by simp [Value.oneCell']) rfl (by unfold maxLen; omega) (by omega) ?_)
              intro v' w5 hO5 hb5
              have HB5 : Hid (Bf w.heap.size v' (out ++ [92]) w5) := Lib.hid (Own.byte (c := 92) hO5)
              have HBW5 := Lib.hid (HBW.out.trans hb5)
              clear hO5 hb5
              go_wp2_with fail
              go_roundw
              case rel => exact ⟨k + 1, out ++ [92], by omega, by go_num, HB5.out, HNX, by simp; omega, HBW5.out⟩
              case measure => simp [intOf]; omega
            · have q4 : ((c.toNat : Int) == 92) = false := nat_eq (n := 92) (by decide) hc92
              clear h92 hc92
              go_wp2_with (at_builtin; refine wpList_own_append rfl _ _ 37 5 (.int .u8 0) 1 1 rfl Tryz.underlying37 info5 rfl (by decide) HB.out rfl [.int .u8 (c.toNat : Int)] 1 rfl rfl (by simp [Value.oneCell']) rfl (by unfold maxLen; omega) (by omega) ?_)
              intro v' w5 hO5 hb5
              have HB5 : Hid (Bf w.heap.size v' (out ++ [c]) w5) := Lib.hid (Own.byte (c := c) hO5)
              have HBW5 := Lib.hid (HBW.out.trans hb5)
              clear hO5 hb5
              go_wp2_with fail
              go_roundw
              case rel => exact ⟨k + 1, out ++ [c], by omega, by go_num, HB5.out, HNX, by simp; omega, HBW5.out⟩
              case measure => simp [intOf]; omega
        · have hke : k = m := by omega
          subst hke
          have HF : Hid (Rf.unqR s.data.toList = (out, decide (refQuote out = s.data.toList))) := Lib.hid (by
            rw [HE.out, H.out, List.drop_eq_nil_of_le (by rw [← Lib.size_eq]; omega)]; simp [Rf.decGo])
          have hba := ba_eq ⟨(refQuote out).toArray⟩ s
          have HQ : Hid (∀ W, Calls Tryz.prog 70 #[.string ⟨out.toArray⟩] W fun e w' => e = .returned (.string ⟨(refQuote out).toArray⟩) ∧ Below W.heap.size W w') := Lib.hid (fun W => refQuote_any ⟨out.toArray⟩ W (by rw [Lib.size_eq]; simp only; omega))
          simp only at hba
          rw [← hba] at HF
          clear hba H
          generalize (⟨(refQuote out).toArray⟩ : ByteArray) = S9 at HF HQ
          go_upto_region 22 with (fail)
          have HSW : Hid (∀ w', Below wr.heap.size wr w' → (convert 37 9 u5).run Tryz.prog w' = .ok (.string ⟨out.toArray⟩) w' ∧ Hid (Below wr.heap.size wr w')) := Lib.hid (fun w' h => ⟨bf_string (HB.out.next h), Lib.hid h⟩)
          cases hb9 : (S9 == s) with
          | false =>
            rw [hb9] at HF
            have hbt : ¬ S9.toList = s.toList := by rw [ba_eq] at hb9; rw [ByteArray.toList_eq, ByteArray.toList_eq]; exact of_decide_eq_false hb9
            go_region_held3 (fun w' => (convert 37 9 u5).run Tryz.prog w' = .ok (.string ⟨out.toArray⟩) w' ∧ Hid (Below wr.heap.size wr w')) (first
              | assumption
              | exact HSW.out _ (below_drewN (Below.refl _ _) 1)
              | (obtain ⟨_, hbl⟩ := ‹_ ∧ Hid _›; exact HSW.out _ (hbl.out.trans (hb9'.mono hbl.out.size)))) (first
              | (go_at_call 70; refine (HQ.out _).mono ?_; rintro e w9 ⟨rfl, hb9'⟩))
            all_goals
              obtain ⟨_, hbl⟩ := ‹_ ∧ Hid _›
              have HBZ := Lib.hid (HBW.out.trans (hbl.out.mono HBW.out.size))
              clear hbl
              go_wp2_with fail
              rw [HF.out]
              exact bodyPost_ret (v := .tuple #[.string ⟨out.toArray⟩, .bool false]) (by simp [results, Tryz.results53, go_sem, hbt]) rfl ⟨rfl, HBZ.out⟩
          | true =>
            rw [hb9] at HF
            have hbt : S9.toList = s.toList := by rw [ba_eq] at hb9; rw [ByteArray.toList_eq, ByteArray.toList_eq]; exact of_decide_eq_true hb9
            go_region_held3 (fun w' => (convert 37 9 u5).run Tryz.prog w' = .ok (.string ⟨out.toArray⟩) w' ∧ Hid (Below wr.heap.size wr w')) (first
              | assumption
              | exact HSW.out _ (below_drewN (Below.refl _ _) 1)
              | (obtain ⟨_, hbl⟩ := ‹_ ∧ Hid _›; exact HSW.out _ (hbl.out.trans (hb9'.mono hbl.out.size)))) (first
              | (go_at_call 70; refine (HQ.out _).mono ?_; rintro e w9 ⟨rfl, hb9'⟩))
            all_goals
              obtain ⟨_, hbl⟩ := ‹_ ∧ Hid _›
              have HBZ := Lib.hid (HBW.out.trans (hbl.out.mono HBW.out.size))
              clear hbl
              go_wp2_with fail
              rw [HF.out]
              exact bodyPost_ret (v := .tuple #[.string ⟨out.toArray⟩, .bool true]) (by simp [results, Tryz.results53, go_sem]) rfl ⟨rfl, HBZ.out⟩
    · have HE : Hid (Rf.unqR s.data.toList = ([], false)) := Lib.hid (by unfold Rf.unqR; rw [if_pos (.inr (.inr (by rw [g1]; exact n1)))])
      have b1 : ((c1.toNat : Int) == 34) = false := nat_eq (n := 34) (by decide) n1
      subst n0
      clear g0 g1 hsz n1
      go_enter Tryz.func53, Tryz.ntmps53
      go_wp2_with fail
      rw [HE.out]
      exact bodyPost_ret (v := .tuple #[.string ⟨#[]⟩, .bool false]) (by simp [results, Tryz.results53, go_sem]) rfl ⟨rfl, Below.refl _ _⟩
  · have HE : Hid (Rf.unqR s.data.toList = ([], false)) := Lib.hid (by unfold Rf.unqR; rw [if_pos (.inr (.inl (by rw [g0]; exact n0)))])
    have b0 : ((c0.toNat : Int) == 34) = false := nat_eq (n := 34) (by decide) n0
    clear g0 g1 hsz n0
    go_enter Tryz.func53, Tryz.ntmps53
    go_wp2_with fail
    rw [HE.out]
    exact bodyPost_ret (v := .tuple #[.string ⟨#[]⟩, .bool false]) (by simp [results, Tryz.results53, go_sem]) rfl ⟨rfl, Below.refl _ _⟩
end Go.Proofs.YthpojljfmipngaaGreatDoor
