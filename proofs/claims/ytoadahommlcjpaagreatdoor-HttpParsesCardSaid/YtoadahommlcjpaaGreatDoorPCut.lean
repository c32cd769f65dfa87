/-
  THE WALKS: cut and field of the document. CONDITION: lengths.
-/
import Derived.Test.YtoadahommlcjpaaGreatDoorRight
import Derived.Test.YtoadahommlcjpaaGreatDoorRefLaw
namespace Go.Proofs.YtoadahommlcjpaaGreatDoor
open Go.RowKit
namespace Ht
theorem upto_hit (c : UInt8) : ∀ (s : Bs) (k : Nat), c ∉ s.take k → s[k]? = some c → upto c s = (s.take k, s.drop (k + 1), true)
  | [], k, _, h => by simp at h
  | x :: t, 0, _, h => by simp at h; subst h; simp [upto]
  | x :: t, k + 1, hn, h => by
    have hx : x ≠ c := fun e => hn (by simp [e])
    rw [upto, if_neg hx, upto_hit c t k (fun hm => hn (by simp [hm])) (by simpa using h)]; rfl
theorem upto_miss (c : UInt8) : ∀ s : Bs, c ∉ s → upto c s = (s, [], false)
  | [], _ => rfl
  | x :: t, hn => by rw [upto, if_neg (fun e => hn (by simp [e])), upto_miss c t (fun hm => hn (by simp [hm]))]
theorem not_mem_succ {c x : UInt8} {s : Bs} {k : Nat} (h : c ∉ s.take k) (hx : s[k]? = some x) (hne : x ≠ c) : c ∉ s.take (k + 1) := by
  obtain ⟨hk, rfl⟩ := List.getElem?_eq_some_iff.1 hx
  rw [List.take_succ_eq_append_getElem hk]
  intro hm
  rcases List.mem_append.1 hm with h1 | h1
  · exact h h1
  · simp at h1; exact hne h1.symm
end Ht
theorem byteCells_nz {l : Ht.Bs} (h : l ≠ []) : Lib.byteCells l ≠ [] := by
  intro h0; exact h (by unfold Lib.byteCells at h0; exact List.map_eq_nil_iff.1 h0)
theorem str_back (b : ByteArray) : b = ⟨b.data.toList.toArray⟩ := by cases b; simp
theorem str_dropA (s : ByteArray) (a : Nat) : s.extract a s.size = ⟨(s.data.toList.drop a).toArray⟩ := by
  rw [str_back (s.extract a s.size), Lib.extract_data]
  congr 2
  exact List.take_of_length_le (by rw [List.length_drop, ← Lib.size_eq]; exact Nat.le_refl _)
theorem str_takeA (s : ByteArray) (a : Nat) : s.extract 0 a = ⟨(s.data.toList.take a).toArray⟩ := by
  rw [str_back (s.extract 0 a), ByteArray.data_extract]
  simp
theorem get_list {s : ByteArray} {k : Nat} (h : k < s.size) : s.data.toList[k]? = some (s[k]'h) := by
  have h2 : k < s.data.toList.length := by rw [← Lib.size_eq]; exact h
  rw [List.getElem?_eq_getElem h2]
  simp only [Array.getElem_toList]; rfl
theorem results_tmp3 {fn : Func} {t u v : Tmp} (h : fn.results = #[.tmp t, .tmp u, .tmp v]) (tmps : Array Value) (P : Program) (w : World) :
    (results fn tmps).run P w = .ok (.tuple #[tmps.getD t undef, tmps.getD u undef, tmps.getD v undef]) w := by
  simp [results, h]
set_option maxRecDepth 100000 in
set_option maxHeartbeats 4000000 in
theorem refCut_any (s : ByteArray) (w : World) (hs : s.size ≤ 1073741824) :
    Calls Tryz.prog 87 #[.string s] w fun e w' => e = .returned (.tuple #[.string ⟨(Ht.upto 32 s.data.toList).1.toArray⟩, .string ⟨(Ht.upto 32 s.data.toList).2.1.toArray⟩, .bool (Ht.upto 32 s.data.toList).2.2]) ∧ Below w.heap.size w w' := by
  obtain ⟨R, hR⟩ : ∃ R, Ht.upto 32 s.data.toList = R := ⟨_, rfl⟩
  rw [hR]
  have HR := Lib.hid hR
  clear hR
  go_enter Tryz.func87, Tryz.ntmps87
  go_wp2_with fail
  go_loopw [8] (fun i wr => ∃ k : Nat, k ≤ s.size ∧ i = .int .i64 k ∧ Hid ((32 : UInt8) ∉ s.data.toList.take k) ∧ wr = w) (fun i _ => s.size - (intOf i).toNat)
  case atStart => exact ⟨0, Nat.zero_le _, rfl, Lib.hid (by simp), rfl⟩
  case round =>
    obtain ⟨k, hk, rfl, H, rfl⟩ := hrel
    by_cases hlt : k < s.size
    · have HG := Lib.hid (get_list hlt)
      obtain ⟨c, hc⟩ : ∃ c, s[k]'hlt = c := ⟨_, rfl⟩
      rw [hc] at HG
      by_cases h32 : c = 32
      · have HF : Hid (R = (s.data.toList.take k, s.data.toList.drop (k + 1), true)) := Lib.hid (by rw [← HR.out]; exact Ht.upto_hit 32 _ k H.out (by rw [HG.out, h32]))
        have hci : (c.toNat : Int) = 32 := by rw [h32]; rfl
        clear h32 H HG HR
        go_wp2_with fail
        go_quiet (fail)
        go_wp2_with fail
        (try simp only [Exit.inBlock, Exit.then])
        refine bodyPost_ret (results_tmp3 rfl _ _ _) rfl ?_
        exact ⟨retv (by rw [HF.out, ← str_takeA, ← str_dropA]; rfl), below_drewN (Below.refl _ _) _⟩
      · have HN := Lib.hid (Ht.not_mem_succ H.out HG.out h32)
        have hci : ¬ (c.toNat : Int) = 32 := fun h => h32 ((u8_eq c 32 (by omega)).1 h)
        clear h32 H HG HR
        go_wp2_with fail
        go_roundw
        case rel => exact ⟨k + 1, by omega, by go_num, HN, trivial⟩
        case measure => simp [intOf]; omega
    · obtain rfl : k = s.size := by omega
      have HF : Hid (R = (s.data.toList, [], false)) := Lib.hid (by rw [← HR.out]; exact Ht.upto_miss 32 _ (by have := H.out; rwa [List.take_of_length_le (by rw [Lib.size_eq]; exact Nat.le_refl _)] at this))
      clear H HR
      go_wp2_with fail
      (try simp only [Exit.inBlock, Exit.then])
      refine bodyPost_ret (results_tmp3 rfl _ _ _) rfl ?_
      exact ⟨retv (by rw [HF.out, ← str_back]; rfl), Below.refl _ _⟩
/-! ### field -/
def strSize : Value → Nat
  | .string s => s.size
  | _ => 0
theorem trim_step {c : UInt8} (l : Ht.Bs) (h : Ht.isBl c = true) : Ht.trim (c :: l) = Ht.trim l := by unfold Ht.trim; rw [List.dropWhile_cons_of_pos h]
theorem trim_left {c : UInt8} {l : Ht.Bs} (h : Ht.isBl c = false) : Ht.trim (c :: l) = (List.dropWhile Ht.isBl (c :: l).reverse).reverse := by
  unfold Ht.trim; rw [List.dropWhile_cons_of_neg (by rw [h]; simp)]
theorem trimR_step {c : UInt8} (l : Ht.Bs) (h : Ht.isBl c = true) : (List.dropWhile Ht.isBl (l ++ [c]).reverse).reverse = (List.dropWhile Ht.isBl l.reverse).reverse := by
  rw [List.reverse_append, List.reverse_singleton, List.singleton_append, List.dropWhile_cons_of_pos h]
theorem trimR_stop {c : UInt8} (l : Ht.Bs) (h : Ht.isBl c = false) : (List.dropWhile Ht.isBl (l ++ [c]).reverse).reverse = l ++ [c] := by
  rw [List.reverse_append, List.reverse_singleton, List.singleton_append, List.dropWhile_cons_of_neg (by rw [h]; simp)]
  simp
theorem bl_cases {c : UInt8} : ((c.toNat : Int) = 32 ∧ Ht.isBl c = true) ∨ (¬ (c.toNat : Int) = 32 ∧ (c.toNat : Int) = 9 ∧ Ht.isBl c = true) ∨ (¬ (c.toNat : Int) = 32 ∧ ¬ (c.toNat : Int) = 9 ∧ Ht.isBl c = false) := by
  have e1 := u8_eq c 32 (by omega)
  have e2 := u8_eq c 9 (by omega)
  unfold Ht.isBl
  by_cases h1 : c = 32
  · exact .inl ⟨e1.2 h1, by simp [h1]⟩
  · by_cases h2 : c = 9
    · exact .inr (.inl ⟨fun h => h1 (e1.1 h), e2.2 h2, by simp [h2]⟩)
    · exact .inr (.inr ⟨fun h => h1 (e1.1 h), fun h => h2 (e2.1 h), by simp [h1, h2]⟩)
theorem str_head {s : ByteArray} (h : 0 < s.size) : s.data.toList = s[0]'h :: (s.extract 1 s.size).data.toList := by
  rw [str_dropA]
  have h2 : 0 < s.data.toList.length := by rw [← Lib.size_eq]; exact h
  have h3 := get_list h
  rw [List.getElem?_eq_getElem h2] at h3
  conv => lhs; rw [← List.drop_zero (l := s.data.toList), List.drop_eq_getElem_cons h2]
  rw [Option.some.inj h3]
theorem str_last {s : ByteArray} (h : 0 < s.size) : s.data.toList = (s.extract 0 (s.size - 1)).data.toList ++ [s[s.size - 1]'(by omega)] := by
  rw [str_takeA]
  have h2 : s.size - 1 < s.data.toList.length := by rw [← Lib.size_eq]; omega
  have h3 := get_list (show s.size - 1 < s.size by omega)
  rw [List.getElem?_eq_getElem h2] at h3
  have h4 := List.take_succ_eq_append_getElem h2
  rw [Option.some.inj h3, List.take_of_length_le (by rw [← Lib.size_eq]; omega)] at h4
  exact h4
theorem str_nil {s : ByteArray} (h : ¬ 0 < s.size) : s.data.toList = [] := List.eq_nil_of_length_eq_zero (by rw [← Lib.size_eq]; omega)
end Go.Proofs.YtoadahommlcjpaaGreatDoor
