/-
  PROVED: what the reference's Value makes. CONDITION: the token's text is at most 2^28 letters long.
-/
import Derived.Test.YtoppkhkdbkkldaaDoorRefE
import Derived.Test.YtoppkhkdbkkldaaDoorWalkN
import Derived.BigQuiet
namespace Go.Proofs.YtoppkhkdbkkldaaDoor
open Go.RowKit
def refValueOf (t : Lx.Tok) : Option (List UInt8) := if t.kind = 3 ∧ ¬ t.text = [] ∧ quotedLen t.text = t.text.length then some (Lx.unescape false ((t.text.drop 1).take (t.text.length - 2))) else none
def refValueRes (t : Lx.Tok) : Value :=
  match refValueOf t with
  | some q => .tuple #[.string ⟨q.toArray⟩, .bool true]
  | none => .tuple #[.string ⟨#[]⟩, .bool false]
theorem refValueRes_some {t : Lx.Tok} {q : List UInt8} (h : refValueOf t = some q) : refValueRes t = .tuple #[.string ⟨q.toArray⟩, .bool true] := by unfold refValueRes; rw [h]
theorem refValueRes_none {t : Lx.Tok} (h : refValueOf t = none) : refValueRes t = .tuple #[.string ⟨#[]⟩, .bool false] := by unfold refValueRes; rw [h]
theorem quoted_q (s : ByteArray) (hs : s.size ≤ 4294967296) (v : Int) (hv : ((quotedLen s.data.toList : Nat) : Int) = v) (w : World) : Calls Tryd.prog 49 #[.string s] w fun e w' => e = .returned (.int .i64 v) ∧ w' = w :=
  (refQuoted_any s hs w).mono fun _ _ ⟨h1, h2⟩ => ⟨by rw [h1, hv], h2.symm⟩
/-- From place p on the letters are a quoted text's, up to the end. -/
def Good (T : List UInt8) (p : Nat) : Prop := Lx.quoteTail (T.drop p) = some (T.length - p)
theorem Good.pair {T : List UInt8} {p : Nat} {c : UInt8} (h : Good T p) (hc : T[p]? = some c) (h1 : c.toNat = 92) : p + 2 < T.length ∧ Good T (p + 2) := by
  obtain ⟨hk, rfl⟩ := List.getElem?_eq_some_iff.1 hc
  unfold Good at h
  rw [List.drop_eq_getElem_cons hk, Lx.quoteTail_cons, if_neg (by omega), if_pos h1] at h
  by_cases hk2 : p + 1 < T.length
  · rw [List.drop_eq_getElem_cons hk2] at h
    simp only [] at h
    split at h
    · obtain ⟨m, hm, he⟩ := Option.map_eq_some_iff.1 h
      have hpos := (Lx.quoteTail_le _ _ (Nat.le_refl _) _ hm).2
      refine ⟨by omega, ?_⟩
      unfold Good
      rw [hm]
      congr 1
      omega
    · cases h
  · rw [List.drop_eq_nil_of_le (by omega)] at h
    cases h
theorem Good.one {T : List UInt8} {p : Nat} {c : UInt8} (h : Good T p) (hc : T[p]? = some c) (h1 : ¬ c.toNat = 92) (h2 : p + 1 < T.length) : Good T (p + 1) := by
  obtain ⟨hk, rfl⟩ := List.getElem?_eq_some_iff.1 hc
  unfold Good at h
  rw [List.drop_eq_getElem_cons hk, Lx.quoteTail_cons] at h
  by_cases h34 : T[p].toNat = 34
  · rw [if_pos h34] at h
    have := Option.some.inj h
    omega
  rw [if_neg h34, if_neg h1] at h
  split at h
  · cases h
  · obtain ⟨m, hm, he⟩ := Option.map_eq_some_iff.1 h
    unfold Good
    rw [hm]
    congr 1
    omega
theorem quoted_good {L : List UInt8} (h0 : ¬ L = []) (h : quotedLen L = L.length) : 2 ≤ L.length ∧ Good (L.drop 1) 0 := by
  cases L with
  | nil => exact absurd rfl h0
  | cons c l =>
    unfold quotedLen Lx.textLen at h
    simp only [List.tail_cons, List.length_cons] at h
    split at h
    · cases hq : Lx.quoteTail l with
      | none => rw [hq] at h; simp at h
      | some n =>
        rw [hq] at h
        simp only [] at h
        have hpos := (Lx.quoteTail_le _ _ (Nat.le_refl _) _ hq).2
        refine ⟨by simp; omega, ?_⟩
        unfold Good
        simp only [List.drop_succ_cons, List.drop_zero]
        rw [hq]; congr 1; omega
    · omega

set_option maxRecDepth 100000 in
set_option maxHeartbeats 4000000 in
theorem refValue_any (k a : Int) (s : ByteArray) (w : World) (hs : s.size ≤ 268435456) :
    Calls Tryd.prog 25 #[.agg #[.int .i64 k, .string s, .int .i64 a]] w fun e w' => e = .returned (refValueRes ⟨k, s.data.toList, a⟩) ∧ Below w.heap.size w w' := by
  have hL : s.data.toList.length = s.size := (Lib.size_eq s).symm
  have hs' : s.size ≤ 4294967296 := by omega
  by_cases h3 : k = 3
  · have b3 : (k != 3) = false := by rw [h3]; rfl
    by_cases h0 : s.data.toList = []
    · have hne : (s.toList == []) = true := by rw [Lib.toList_data, h0]; rfl
      have HN := Lib.hid (show refValueOf ⟨k, s.data.toList, a⟩ = none by unfold refValueOf; rw [if_neg]; exact fun h => h.2.1 h0)
      clear h0
      go_enter Tryd.func25, Tryd.ntmps25
      go_wp2_with fail
      go_quiet (fail)
      go_wp2_with fail
      go_ret2
      exact ⟨retv (refValueRes_none HN.out).symm, below_drewN (below_box _ _) _⟩
    · have hne : (s.toList == []) = false := by rw [Lib.toList_data]; simpa using h0
      by_cases hq : quotedLen s.data.toList = s.data.toList.length
      · obtain ⟨h2, hG⟩ := quoted_good h0 hq
        have HV := Lib.hid (show refValueOf ⟨k, s.data.toList, a⟩ = some (Lx.unescape false ((s.data.toList.drop 1).take (s.data.toList.length - 2))) by unfold refValueOf; rw [if_pos ⟨h3, h0, hq⟩])
        have HQ := Lib.hid (show ((quotedLen s.data.toList : Nat) : Int) = (s.size : Int) by rw [hq, hL])
        have hb : ((s.size : Int) != (s.size : Int)) = false := by simp
        have HG := Lib.hid hG
        have h2' : 2 ≤ s.size := by omega
        have hle : (1 : Int) ≤ (s.size : Int) - 1 := by omega
        have hle2 : (s.size : Int) - 1 ≤ s.size := by omega
        clear hG hq h0 h2 h3
        go_enter Tryd.func25, Tryd.ntmps25
        go_wp2_with fail
        go_quiet ((go_at_call 49; exact Calls.quiet_of_same (quoted_q s hs' _ HQ.out _)))
        go_wp2_with fail
        have hbw : Below w.heap.size w ((w.alloc (.cells #[.int .i64 k, .string s, .int .i64 a] 32)).drewN nq) := below_drewN (below_box _ _) _
        have hsz : w.heap.size ≤ ((w.alloc (.cells #[.int .i64 k, .string s, .int .i64 a] 32)).drewN nq).heap.size := hbw.size
        generalize (w.alloc (.cells #[.int .i64 k, .string s, .int .i64 a] 32)).drewN nq = w2 at hbw hsz ⊢
        have hdat : (s.extract 1 (s.size - 1)).data.toList = (s.data.toList.drop 1).take (s.data.toList.length - 2) := by
          rw [Lib.extract_data, ← Lib.size_eq]
          rfl
        have hus : (s.extract 1 (s.size - 1)).size = s.size - 2 := by rw [ByteArray.size_extract]; omega
        have hget : ∀ p (hp : p < (s.extract 1 (s.size - 1)).size), (s.data.toList.drop 1)[p]? = some (s.extract 1 (s.size - 1))[p] ∧ (s.extract 1 (s.size - 1)).data.toList[p]? = some (s.extract 1 (s.size - 1))[p] := by
          intro p hp
          have h2 : (s.extract 1 (s.size - 1)).data.toList[p]? = some (s.extract 1 (s.size - 1))[p] := by rw [Array.getElem?_toList]; exact Array.getElem?_eq_getElem hp
          refine ⟨?_, h2⟩
          rw [hdat, List.getElem?_take] at h2
          split at h2
          · exact h2
          · cases h2
        have HGET := Lib.hid hget
        have HV2 : Hid (refValueOf ⟨k, s.data.toList, a⟩ = some (Lx.unescape false (s.extract 1 (s.size - 1)).data.toList)) := by rw [hdat]; exact HV
        have hU0 := Lib.hid (UnAt.start (s.extract 1 (s.size - 1)).data.toList)
        have hTL : (s.data.toList.drop 1).length = s.size - 1 := by rw [List.length_drop, hL]
        clear hdat HV hget hle hle2
        generalize s.extract 1 (s.size - 1) = u at HV2 hus HGET hU0 ⊢
        have hUL : u.data.toList.length = u.size := (Lib.size_eq u).symm
        go_loopw [4, 6] (fun x i wr => ∃ (p : Nat) (out : List UInt8), p ≤ u.size ∧ i = .int .i64 p ∧ out.length ≤ p ∧ Hid (UnAt u.data.toList p false out) ∧ Hid (Good (s.data.toList.drop 1) p) ∧ Buf w2.heap.size x out w2 wr) (fun _ i _ => u.size - (intOf i).toNat)
        case atStart => exact ⟨0, [], Nat.zero_le _, rfl, Nat.le_refl _, hU0, HG, Buf.empty⟩
        case round =>
          obtain ⟨p, out, hp, rfl, hout, H, G, hB⟩ := hrel
          clear hU0 HG
          by_cases hlt : p < u.size
          · obtain ⟨t1, t2⟩ := HGET.out p hlt
            by_cases h92 : u[p].toNat = 92
            · obtain ⟨hp2, hG2⟩ := G.out.pair t1 h92
              have hlt2 : p + 1 < u.size := by omega
              obtain ⟨_, t4⟩ := HGET.out (p + 1) hlt2
              have HG2 := Lib.hid hG2
              have b92 : ((u[p].toNat : Int) == 92) = true := by rw [h92]; rfl
              by_cases h110 : u[p + 1].toNat = 110
              · have HU := Lib.hid ((H.out.slash t2 h92).feed t4 h110)
                have b110 : ((u[p + 1].toNat : Int) == 110) = true := by rw [h110]; rfl
                clear t1 t2 t4 h92 h110 hG2
                go_wp2_with (at_builtin; refine wpList_buf_append rfl _ _ rfl hB rfl [10] rfl rfl (by simp; omega) ?_; intro v' w' hB')
                go_roundw
                case rel => exact ⟨p + 2, _, by omega, by go_num, by simp; omega, HU, HG2, hB'⟩
                case measure => simp [intOf]; omega
              · have HU := Lib.hid ((H.out.slash t2 h92).pair t4 h110)
                have b110 : ((u[p + 1].toNat : Int) == 110) = false := by rw [beq_eq_false_iff_ne]; omega
                clear t1 t2 t4 h92 h110 hG2
                go_wp2_with (at_builtin; refine wpList_buf_append rfl _ _ rfl hB rfl [u[p + 1]] rfl rfl (by simp; omega) ?_; intro v' w' hB')
                go_roundw
                case rel => exact ⟨p + 2, _, by omega, by go_num, by simp; omega, HU, HG2, hB'⟩
                case measure => simp [intOf]; omega
            · have b92 : ((u[p].toNat : Int) == 92) = false := by rw [beq_eq_false_iff_ne]; omega
              have HG2 := Lib.hid (G.out.one t1 h92 (by omega))
              have HU := Lib.hid (H.out.one t2 h92)
              clear t1 t2 h92
              go_wp2_with (at_builtin; refine wpList_buf_append rfl _ _ rfl hB rfl [u[p]] rfl rfl (by simp; omega) ?_; intro v' w' hB')
              go_roundw
              case rel => exact ⟨p + 1, _, by omega, by go_num, by simp; omega, HU, HG2, hB'⟩
              case measure => simp [intOf]; omega
          · have HE := Lib.hid (HV2.out.trans (congrArg some (H.out.ends (by omega))))
            have hcv := hB.string
            go_wp2_with fail
            go_ret2
            exact ⟨retv (refValueRes_some HE.out).symm, hbw.trans (hB.below.mono hsz)⟩
      · have hb : ((quotedLen s.data.toList : Int) != (s.size : Int)) = true := by rw [bne_iff_ne, ← hL]; omega
        have HN := Lib.hid (show refValueOf ⟨k, s.data.toList, a⟩ = none by unfold refValueOf; rw [if_neg]; exact fun h => hq h.2.2)
        clear hq h0
        go_enter Tryd.func25, Tryd.ntmps25
        go_wp2_with fail
        go_quiet ((go_at_call 49; exact Calls.quiet_of_same (quoted_q s hs' _ rfl _)))
        go_wp2_with fail
        go_ret2
        exact ⟨retv (refValueRes_none HN.out).symm, below_drewN (below_box _ _) _⟩
  · have b3 : (k != 3) = true := by rw [bne_iff_ne]; exact h3
    have HN := Lib.hid (show refValueOf ⟨k, s.data.toList, a⟩ = none by unfold refValueOf; rw [if_neg]; exact fun h => h3 h.1)
    clear h3
    go_enter Tryd.func25, Tryd.ntmps25
    go_wp2_with fail
    go_quiet (fail)
    go_wp2_with fail
    go_ret2
    exact ⟨retv (refValueRes_none HN.out).symm, below_drewN (below_box _ _) _⟩
end Go.Proofs.YtoppkhkdbkkldaaDoor
