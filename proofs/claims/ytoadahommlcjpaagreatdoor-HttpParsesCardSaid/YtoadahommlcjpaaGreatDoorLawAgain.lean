/-
  THE LAW: what was read, printed, is read as it was.
-/
import Derived.Test.YtoadahommlcjpaaGreatDoorWP
import Derived.Deep.QuietTactic
namespace Go.Proofs.YtoadahommlcjpaaGreatDoor
open Go.RowKit
/-- May a request be? -/
def rightQ (r : Ht.Req) : Prop := Ht.tokenB r.method = true ∧ Ht.targetB r.target = true ∧ Ht.checkedB r.heads r.body = true
theorem tok_len {s : Ht.Bs} (h : Ht.tokenB s = true) : s.length ≤ 40 := (Ht.token_parts h).2.2
theorem tgt_len {s : Ht.Bs} (h : Ht.targetB s = true) : s.length ≤ 200 := by
  unfold Ht.targetB at h
  simp only [Bool.and_eq_true, decide_eq_true_eq] at h
  exact h.1.1
theorem val_len {s : Ht.Bs} (h : Ht.valuedB s = true) : s.length ≤ 200 := by
  unfold Ht.valuedB at h
  simp only [Bool.and_eq_true, decide_eq_true_eq] at h
  exact h.1.1.1
theorem heads_len {l : List Ht.Hd} (h : ∀ x ∈ l, x.name.length ≤ 50 ∧ x.value.length ≤ 210) : (l.flatMap Ht.hdLine).length ≤ l.length * 264 ∧ HdsLen l := by
  induction l with
  | nil => exact ⟨by simp, fun x hx => by simp at hx⟩
  | cons y t ih =>
    obtain ⟨i1, i2⟩ := ih (fun x hx => h x (List.mem_cons_of_mem _ hx))
    have hy := h y (List.mem_cons_self)
    refine ⟨?_, fun x hx => ?_⟩
    · rw [List.flatMap_cons, List.length_append, List.length_cons]
      have : (Ht.hdLine y).length ≤ 264 := by
        unfold Ht.hdLine
        by_cases hv : y.value = []
        · simp [hv]; omega
        · simp [hv]; omega
      omega
    · rcases List.mem_cons.1 hx with rfl | hx
      · omega
      · exact i2 x hx
theorem right_heads {l : List Ht.Hd} {b : Ht.Bs} (h : Ht.checkedB l b = true) : l.length ≤ 16 ∧ b.length ≤ 8192 ∧ ∀ x ∈ l, x.name.length ≤ 50 ∧ x.value.length ≤ 210 := by
  obtain ⟨h1, h2, h3⟩ := Ht.checked_parts h
  refine ⟨h1, h2, fun x hx => ?_⟩
  obtain ⟨k1, _, _, k4⟩ := Ht.wrong_no (h3 x hx)
  have := tok_len k1
  have := val_len k4
  omega
theorem ReqAt.of_right {w : World} {r : Ht.Req} {A B : Option Addr} (hr : rightQ r) (h1 : HdsAt w A r.heads) (h2 : CellsAt w B (Lib.byteCells r.body)) : ReqAt w r A B := by
  obtain ⟨k1, k2, k3⟩ := hr
  obtain ⟨l1, l2, l3⟩ := right_heads k3
  obtain ⟨m1, m2⟩ := heads_len l3
  have := tok_len k1
  have := tgt_len k2
  exact ⟨h1, h2, by omega, m2, by omega, by omega, by omega, by omega⟩
theorem ReqAt.zero (w : World) : ReqAt w Ht.zReq none none := ⟨HdsAt.nil _ _, CellsAt.nil _ _, by decide, fun h hh => by simp [Ht.zReq] at hh, by decide, by decide, by decide, by decide⟩
theorem right_of_print {r : Ht.Req} (h : (Ht.printReq r).2 = 0 ∨ Ht.printReq r = ([], 3)) : rightQ r := by
  by_cases hc : (Ht.tokenB r.method && Ht.targetB r.target && Ht.checkedB r.heads r.body) = true
  · simp only [Bool.and_eq_true] at hc
    exact ⟨hc.1.1, hc.1.2, hc.2⟩
  · exfalso
    have : Ht.printReq r = ([], 2) := by unfold Ht.printReq; rw [if_neg hc]
    rw [this] at h
    rcases h with h | h
    · exact absurd h (by decide)
    · have := congrArg Prod.snd h
      exact absurd this (by decide)
theorem out_len {r : Ht.Req} (h : (Ht.printReq r).2 = 0) : (Ht.printReq r).1.length ≤ 10240 := by
  obtain ⟨_, _, h3, h4, h5⟩ := Ht.req_parts h
  obtain ⟨h6, h7⟩ := Ht.printed_parts h4
  have hb := (Ht.checked_parts h3).2.1
  rw [h5, h7]
  simp only [List.length_append]
  omega
/-- What ParseRequest leaves. -/
theorem ReqOut.at_ {w w' : World} {R : Ht.Req × Nat × Int} {e : Ending} (h : ReqOut w R e w') (hr : R.2.2 = 0 → rightQ R.1) (hz : R.2.2 ≠ 0 → R.1 = Ht.zReq) :
    ∃ A c B d, e = .returned (.tuple #[.agg #[.string ⟨R.1.method.toArray⟩, .string ⟨R.1.target.toArray⟩, .slice A R.1.heads.length c, .slice B R.1.body.length d], .int .i64 (R.2.1 : Int), .int .i64 R.2.2]) ∧ ReqAt w' R.1 A B ∧ Below w.heap.size w w' := by
  obtain ⟨hv, bv, h1, h2, h3, h4⟩ := h
  obtain ⟨A, c, rfl, hc, h5⟩ := h2.heads
  obtain ⟨B, d, rfl, hd, _, h6⟩ := h3.bytes
  refine ⟨A, c, B, d, h1, ?_, h4⟩
  by_cases h0 : R.2.2 = 0
  · exact ReqAt.of_right (hr h0) h5 h6
  · have hz' := hz h0
    rw [hz'] at h5 h6 ⊢
    exact ⟨HdsAt.nil _ _, CellsAt.nil _ _, by decide, fun h hh => by simp [Ht.zReq] at hh, by decide, by decide, by decide, by decide⟩
theorem parse_right (b : Ht.Bs) : (Ht.parseReq b).2.2 = 0 → rightQ (Ht.parseReq b).1 := fun h => right_of_print (Ht.again_req b h).1
theorem parse_zero (b : Ht.Bs) : (Ht.parseReq b).2.2 ≠ 0 → (Ht.parseReq b).1 = Ht.zReq := fun h => (Ht.zero_req b h).1

theorem parseReq_at (b : Ht.Bs) (B : Option Addr) (c : Nat) (w : World) (henv : Env w) (hbc : b.length ≤ c) (hc : b.length ≤ 140737488355328) (hcells : CellsAt w B (Lib.byteCells b)) :
    Calls Tryz.prog 12 #[.slice B b.length c] w fun e w' => ∃ A c' B' d, e = .returned (.tuple #[.agg #[.string ⟨(Ht.parseReq b).1.method.toArray⟩, .string ⟨(Ht.parseReq b).1.target.toArray⟩, .slice A (Ht.parseReq b).1.heads.length c', .slice B' (Ht.parseReq b).1.body.length d], .int .i64 ((Ht.parseReq b).2.1 : Int), .int .i64 (Ht.parseReq b).2.2]) ∧ ReqAt w' (Ht.parseReq b).1 A B' ∧ Below w.heap.size w w' :=
  (parseReq_any b B c w henv hbc hc hcells).mono (fun _ _ h => h.at_ (parse_right b) (parse_zero b))
theorem cells_mid {l m : Ht.Bs} {B : Option Addr} {w : World} (h : CellsAt w B (Lib.byteCells l)) {k j : Nat} (hj : j = k) (hm : (l.drop k).take m.length = m) : CellsAt w (B.map fun x => { block := x.block, off := x.off + j }) (Lib.byteCells m) := by
  have h1 := cells_take (cells_dropO h hj) m.length
  rwa [hm] at h1
theorem cells_midA {l m : Ht.Bs} {B : Option Addr} {w : World} (h : CellsAt w B (Lib.byteCells l)) {k c : Nat} (hm : (l.drop k).take m.length = m) (hc : c = k → m = []) : CellsAt w (if c = k then B else B.map fun x => x.add k) (Lib.byteCells m) := by
  by_cases hck : c = k
  · rw [hc hck]
    exact CellsAt.nil _ _
  · rw [if_neg hck]
    intro hne
    obtain ⟨g, o, h1, h2, h3⟩ := cells_mid h rfl hm hne
    cases B with
    | none => cases h1
    | some a =>
      by_cases hl : l = []
      · exfalso
        subst hl
        simp at hm
        subst hm
        exact hne rfl
      · obtain ⟨g', o', e1, e2, e3⟩ := h (fun e => hl (List.map_eq_nil_iff.1 e))
        cases e1
        refine ⟨g', o' + k, ?_, ?_, ?_⟩
        · simp only [Option.map_some]
          congr 1
          unfold Addr.add; split <;> simp_all
        · exact e2
        · simp only [Option.map_some, Option.some.injEq, Addr.mk.injEq] at h1
          obtain ⟨rfl, rfl, _⟩ := h1
          exact h3
set_option maxRecDepth 100000 in
set_option maxHeartbeats 4000000 in
theorem again_law (b0 : Ht.Bs) (B : Option Addr) (c : Nat) (w : World) (henv : Env w) (hbc : b0.length ≤ c) (hcells : CellsAt w B (Lib.byteCells b0)) :
    Calls Tryz.prog 3 #[.slice B b0.length c] w fun e w' => e = .returned (.bool true) ∧ Below w.heap.size w w' := by
  obtain ⟨b, hb⟩ : ∃ b, b0.take 12000 = b := ⟨_, rfl⟩
  have hbl : b.length = min b0.length 12000 := by rw [← hb, List.length_take, Nat.min_comm]
  have hmk : min (b0.length : Int) 12000 = (b.length : Int) := by rw [hbl]; omega
  have hb12 : b.length ≤ 12000 := by omega
  have hbc2 : b.length ≤ c := by omega
  have hbb : b.length ≤ b0.length := by omega
  have HCL : Hid (∀ W, Below w.heap.size w W → CellsAt W B (Lib.byteCells b)) := Lib.hid (fun W hW => by
    rw [← hb]; exact cells_take (hcells.next hW (Nat.le_refl _)) 12000)
  have HE := Lib.hid (fun W (hW : Below w.heap.size w W) => henv.next hW)
  have HWK := Lib.hid (wakes_any w henv)
  have HP := Lib.hid (fun W (hW : Below w.heap.size w W) => parseReq_at b B c W (henv.next hW) hbc2 (by omega) (HCL.out W hW))
  have HZ : Hid ((Ht.parseReq b).2.2 ≠ 0 → (Ht.parseReq b).1 = Ht.zReq ∧ (Ht.parseReq b).2.1 = 0) := Lib.hid (Ht.zero_req b)
  have HG : Hid ((Ht.parseReq b).2.2 = 0 → _) := Lib.hid (Ht.again_req b)
  obtain ⟨P, hP⟩ : ∃ P, Ht.parseReq b = P := ⟨_, rfl⟩
  rw [hP] at HP HZ HG
  clear hb hbl hcells henv hP
  obtain ⟨r, n, er⟩ := P
  dsimp only at HP HZ HG
  go_enter Tryz.func3, Tryz.ntmps3
  go_wp2_with fail
  refine HWK.out.mono ?_
  rintro e w1 ⟨rfl, hb1⟩
  have HW1 := Lib.hid hb1
  clear hb1 HWK
  go_wp2_with fail
  refine (HP.out _ HW1.out).mono ?_
  rintro e w2 ⟨A, n1, Bd, n2, rfl, hr, hb2⟩
  have HW2 := Lib.hid (HW1.out.trans (hb2.mono HW1.out.size))
  have hbx := below_box w2 (.cells #[.string ⟨r.method.toArray⟩, .string ⟨r.target.toArray⟩, .slice A r.heads.length n1, .slice Bd r.body.length n2] 26)
  have HW3 := Lib.hid (HW2.out.trans (hbx.mono HW2.out.size))
  have HRA := Lib.hid (hr.next hbx)
  have HB3 := Lib.hid (heap_alloc_new w2 (.cells #[.string ⟨r.method.toArray⟩, .string ⟨r.target.toArray⟩, .slice A r.heads.length n1, .slice Bd r.body.length n2] 26))
  obtain ⟨c0, c1, c2, c3⟩ := blk4 HB3.out
  clear hr hb2 hbx HW1 HP
  by_cases h0 : er = 0
  · subst h0
    obtain ⟨g1, g2, g3, g4⟩ := HG.out rfl
    have HG1 := Lib.hid g1
    have HG4 := Lib.hid g4
    have hn12 : n ≤ 12000 := by omega
    obtain ⟨k, hk⟩ : ∃ k, n = k + r.body.length := ⟨n - r.body.length, by omega⟩
    subst hk
    rw [Nat.add_sub_cancel] at HG4
    obtain ⟨m, t, hs, bd⟩ := r
    dsimp only at HG1 HG4 HRA HB3 c0 c1 c2 c3 g2 g3 hn12 HW3
    clear g1 g4 HG HZ
    have hd1 : decide ((k : Int) + (bd.length : Int) < (bd.length : Int)) = false := by simp; omega
    have hd2 : decide ((b.length : Int) < (k : Int) + (bd.length : Int)) = false := by simp; omega
    have hw1 : IntKind.i64.wrap ((k : Int) + (bd.length : Int) - (bd.length : Int)) = (k : Int) := by rw [IntWalk.i64_in _ (by omega)]; omega
    have hck : c = k → bd = [] := fun h => List.eq_nil_of_length_eq_zero (by omega)
    have HEQ : Hid (∀ W, Below w.heap.size w W → CellsAt W Bd (Lib.byteCells bd) → ∀ n, Calls Tryz.prog 14 #[.slice (if c = k then B else B.map (fun x => x.add k)) bd.length (c - k), .slice Bd bd.length n2] (W.drewN n) fun e w' => e = .returned (.bool true) ∧ w' = W.drewN n) := Lib.hid (fun W hW h1 n => by
      have hWn := below_drewN hW n
      refine (bytesEqual_any bd bd _ Bd (c - k) n2 (W.drewN n) (cells_midA (HCL.out _ hWn) HG4.out hck) (h1.drewN n) (q := true) (by simp)).mono ?_
      rintro e w' ⟨he, hw⟩
      exact ⟨he, hw.symm⟩)
    clear hck
    go_wp2_with fail
    generalize w2.alloc (.cells #[.string ⟨m.toArray⟩, .string ⟨t.toArray⟩, .slice A hs.length n1, .slice Bd bd.length n2] 26) = w3 at HB3 HW3 HRA c0 c1 c2 c3 ⊢
    have HQ := Lib.hid (HEQ.out w3 HW3.out HRA.out.body)
    clear HEQ
    go_quiet ((go_at_call 14; exact Calls.quiet_of_same (HQ.out _)))
    all_goals
      have HW4 := Lib.hid (below_drewN HW3.out nq)
      have HRA4 := Lib.hid (HRA.out.next (below_drewN (Below.refl _ _) nq))
      have HB4 : Hid ((w3.drewN nq).heap[w2.heap.size]? = some (.cells #[.string ⟨m.toArray⟩, .string ⟨t.toArray⟩, .slice A hs.length n1, .slice Bd bd.length n2] 26 (0, 0))) := HB3
      generalize w3.drewN nq = w4 at HW4 HRA4 HB4 ⊢
      clear HB3 HRA HW3 HQ c0 c1 c2 c3 hd1 hd2 hw1
      obtain ⟨c0, c1, c2, c3⟩ := blk4 HB4.out
      simp only [Exit.then]
      generalize (if c = k then B else B.map fun x => x.add k) = A7
      have HPr := Lib.hid (printReq_any ⟨m, t, hs, bd⟩ A n1 Bd n2 w4 (HE.out w4 HW4.out) HRA4.out)
      obtain ⟨⟨out, ep⟩, hpr⟩ : ∃ x, Ht.printReq ⟨m, t, hs, bd⟩ = x := ⟨_, rfl⟩
      have HBK := Lib.hid (Ht.back_req ⟨m, t, hs, bd⟩)
      have HOL := Lib.hid (out_len (r := ⟨m, t, hs, bd⟩))
      rw [hpr] at HPr HG1 HBK HOL
      clear hpr
      dsimp only at HG1 HBK HOL
      go_wp2_with fail
      refine HPr.out.mono ?_
      rintro e w5 ⟨v, rfl, hO, hb5⟩
      dsimp only at hO
      obtain ⟨A5, n5, rfl, hn5, _, hc5⟩ := hO.bytes
      have HC5 := Lib.hid hc5
      have HW5 := Lib.hid (HW4.out.trans (hb5.mono HW4.out.size))
      have HRA5 := Lib.hid (HRA4.out.next hb5)
      have HB5 := Lib.hid (blk_next hb5 HB4.out)
      clear hO hc5 hb5 HPr HB4 HRA4 c0 c1 c2 c3
      by_cases h1 : ep = 0
      · subst h1
        have hbk := HBK.out rfl []
        rw [List.append_nil] at hbk
        have hol : out.length ≤ 140737488355328 := by have := HOL.out rfl; omega
        have HP5 := Lib.hid (parseReq_at out A5 n5 w5 (HE.out w5 HW5.out) hn5 hol HC5.out)
        rw [hbk] at HP5
        clear hbk HBK HG1
        go_wp2_with fail
        refine HP5.out.mono ?_
        rintro e w6 ⟨A6, n6, B6, n7, rfl, hr6, hb6⟩
        (try dsimp only at hr6)
        have hbx := below_box w6 (.cells #[.string ⟨m.toArray⟩, .string ⟨t.toArray⟩, .slice A6 hs.length n6, .slice B6 bd.length n7] 26)
        have HW7 := Lib.hid ((HW5.out.trans (hb6.mono HW5.out.size)).trans (hbx.mono (HW5.out.trans (hb6.mono HW5.out.size)).size))
        have HB7 := Lib.hid (heap_alloc_new w6 (.cells #[.string ⟨m.toArray⟩, .string ⟨t.toArray⟩, .slice A6 hs.length n6, .slice B6 bd.length n7] 26))
        have HB7' := Lib.hid (blk_next hbx (blk_next hb6 HB5.out))
        have HS7 := Lib.hid (sameReq_any ⟨m, t, hs, bd⟩ ⟨m, t, hs, bd⟩ A n1 Bd n2 A6 n6 B6 n7 (w6.alloc (.cells #[.string ⟨m.toArray⟩, .string ⟨t.toArray⟩, .slice A6 hs.length n6, .slice B6 bd.length n7] 26)) ((HRA5.out.next hb6).next hbx) (hr6.next hbx) (q := true) (by simp))
        clear hr6 hb6 hbx HP5
        obtain ⟨c0, c1, c2, c3⟩ := blk4 HB7.out
        obtain ⟨d0, d1, d2, d3⟩ := blk4 HB7'.out
        go_wp2_with fail
        refine HS7.out.mono ?_
        rintro e w8 ⟨rfl, hb8⟩
        go_wp2_with fail
        go_ret
        exact ⟨rfl, HW7.out.trans (hb8.mono HW7.out.size)⟩
      · have h3 : ep = 3 := by
          rcases HG1.out with h | h
          · exact absurd h h1
          · exact congrArg Prod.snd h
        subst h3
        go_wp2_with fail
        go_ret
        exact ⟨rfl, HW5.out⟩
  · obtain ⟨z1, z2⟩ := HZ.out h0
    subst z1 z2
    have HS := Lib.hid (fun W => sameReq_any Ht.zReq Ht.zReq A n1 Bd n2 none 0 none 0 W (⟨HdsAt.nil _ _, CellsAt.nil _ _, by decide, fun h hh => by simp [Ht.zReq] at hh, by decide, by decide, by decide, by decide⟩) (ReqAt.zero W) (q := true) (by decide))
    clear HG HZ
    go_wp2_with fail
    refine (HS.out _).mono ?_
    rintro e w4 ⟨rfl, hb4⟩
    go_wp2_with fail
    go_ret
    exact ⟨rfl, HW3.out.trans (hb4.mono HW3.out.size)⟩
end Go.Proofs.YtoadahommlcjpaaGreatDoor
