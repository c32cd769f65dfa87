/-
  THE WALKS, sixteenth part: Print of package script. CONDITIONS: Env; the events lie as EvsAt says.
-/
import Derived.Test.YthpojljfmipngaaGreatDoorWalkO
import Derived.Test.YthpojljfmipngaaGreatDoorBackB
import Derived.Lib.ItoaLen
namespace Go.Proofs.YthpojljfmipngaaGreatDoor
open Go.RowKit
theorem inI_of {v : Int} (h : Sc.wideN v = false) : inI v := by
  unfold Sc.wideN at h
  rw [Bool.or_eq_false_iff, decide_eq_false_iff_not, decide_eq_false_iff_not] at h
  unfold inI; omega
theorem getF_clean (x : Sc.Ev) (hx : x = Sc.clean x) (hw : ∀ v ∈ Sc.nums x, Sc.wideN v = false) : inI x.node ∧ inI x.to ∧ inI x.n ∧ inI x.bit := by
  have key : ∀ o, inI (if o ∈ Sc.offs x.kind then Sc.getF x o else 0) := by
    intro o
    split
    · rename_i h
      exact inI_of (hw _ (by unfold Sc.nums; exact List.mem_map.2 ⟨o, h, rfl⟩))
    · unfold inI; omega
  have e1 : x.node = if 1 ∈ Sc.offs x.kind then Sc.getF x 1 else 0 := congrArg Sc.Ev.node hx
  have e2 : x.to = if 2 ∈ Sc.offs x.kind then Sc.getF x 2 else 0 := congrArg Sc.Ev.to hx
  have e3 : x.n = if 3 ∈ Sc.offs x.kind then Sc.getF x 3 else 0 := congrArg Sc.Ev.n hx
  have e4 : x.bit = if 4 ∈ Sc.offs x.kind then Sc.getF x 4 else 0 := congrArg Sc.Ev.bit hx
  exact ⟨by rw [e1]; exact key 1, by rw [e2]; exact key 2, by rw [e3]; exact key 3, by rw [e4]; exact key 4⟩
theorem itoa_len {v : Int} (h : Sc.wideN v = false) : (Lib.itoa v).length ≤ 21 := by
  have := inI_of h
  exact Lib.itoa_length_le v this.1 this.2
theorem nums_len (vs : List Int) (h : ∀ v ∈ vs, Sc.wideN v = false) : (Sc.numsText vs).length ≤ 22 * vs.length := by
  induction vs with
  | nil => exact Nat.le_refl _
  | cons v vs ih =>
    rw [Sc.numsText_cons]
    have h1 := itoa_len (h v (by simp))
    have h2 := ih (fun x hx => h x (by simp [hx]))
    simp; omega
structure EvOk (x : Sc.Ev) : Prop where
  k1 : 1 ≤ x.kind
  k2 : x.kind ≤ 11
  inn : inI x.node ∧ inI x.to ∧ inI x.n ∧ inI x.bit
  bl : x.bytes.length ≤ 10240
  kl : x.keep.length ≤ 2048
  ll : (Sc.evLine x).length ≤ 60000
theorem EvOk.of {x : Sc.Ev} (h : Sc.wrong x = false) : EvOk x := by
  obtain ⟨k1, k2, hw, hc⟩ := Sc.wrong_parts h
  have hb : x.bytes.length ≤ 10240 ∧ x.keep.length ≤ 2048 := by
    unfold Sc.wrong at h
    simp only [Bool.or_eq_false_iff, decide_eq_false_iff_not] at h
    omega
  refine ⟨k1, k2, getF_clean x hc hw, hb.1, hb.2, ?_⟩
  obtain ⟨s, _, hs, hl⟩ := word_get k1 k2
  have hn := nums_len _ hw
  have hnl : (Sc.nums x).length ≤ 2 := by unfold Sc.nums; rw [List.length_map]; exact offs_len _
  have hq := quoteT_len x.bytes
  have hbits : (Sc.bits x.keep).length = x.keep.length := by unfold Sc.bits; rw [List.length_map]
  have hm : (if x.kind = 1 then Sc.quoteT x.bytes else if x.kind = 8 then [32, 61] ++ Sc.bits x.keep else []).length ≤ 50000 := by
    split
    · omega
    split
    · simp; omega
    · simp
  unfold Sc.evLine
  rw [hs]
  simp only [List.length_append, List.length_cons, List.length_nil]
  omega
theorem lines_len (l : List Sc.Ev) (h : ∀ x ∈ l, Sc.wrong x = false) : (l.flatMap Sc.evLine).length ≤ 60000 * l.length := by
  induction l with
  | nil => exact Nat.le_refl _
  | cons x l ih =>
    have h1 := (EvOk.of (h x (by simp))).ll
    have h2 := ih (fun y hy => h y (by simp [hy]))
    rw [List.flatMap_cons, List.length_append, List.length_cons]
    omega
def headText (s : Sc.Scr) : Sc.Bs := [119, 111, 114, 108, 100] ++ Sc.numsText [s.servers, s.area] ++ [10]
theorem textOf_eq (s : Sc.Scr) : Sc.textOf s = headText s ++ s.events.flatMap Sc.evLine := by unfold Sc.textOf headText; simp
set_option maxRecDepth 100000 in
set_option maxHeartbeats 8000000 in
theorem print_any (s : Sc.Scr) (A : Option Addr) (c : Nat) (w : World) (henv : Env w) (hA : EvsAt w A s.events) :
    Calls Tryz.prog 7 #[scrV s A c] w fun e w' => e = .returned (.tuple #[.string ⟨(Sc.printOf s).1.toArray⟩, .int .i64 (Sc.printOf s).2]) ∧ Below w.heap.size w w' := by
  have hbx : ScrBox (w.alloc (.cells #[.int .i64 s.servers, .int .i64 s.area, .slice A s.events.length c] 30)) w.heap.size s A c := heap_alloc_new w _
  have hb1 := below_box w (.cells #[.int .i64 s.servers, .int .i64 s.area, .slice A s.events.length c] 30)
  have HA := Lib.hid (hA.next hb1)
  have HB := Lib.hid hb1
  have HX := Lib.hid hbx
  have HENV := Lib.hid henv
  clear hA hb1 hbx henv
  have HW := Lib.hid (show ∃ k, k = w.heap.size from ⟨_, rfl⟩)
  unfold scrV
  go_enter Tryz.func7, Tryz.ntmps7
  go_wp2_with fail
  generalize w.alloc (.cells #[.int .i64 s.servers, .int .i64 s.area, .slice A s.events.length c] 30) = w1 at HA HB HX ⊢
  generalize hbe : w.heap.size = b at HX ⊢
  refine (check_any s A c _ HA.out).mono ?_
  rintro e w2 ⟨rfl, hb2⟩
  have HA2 := Lib.hid (HA.out.next hb2)
  have HB2 := Lib.hid (HB.out.trans (hb2.mono HB.out.size))
  have HX2 := Lib.hid (HX.out.next hb2)
  clear hb2 HA HB HX
  have hck : Sc.checkOf s = 0 ∨ Sc.checkOf s = 2 := by unfold Sc.checkOf; split <;> simp
  rcases hck with hck | hck
  · have HC := Lib.hid hck
    obtain ⟨w1s, w1a, hcn, hwr⟩ := Sc.check_parts hck
    have HWR := Lib.hid hwr
    have hlim : (headText s ++ s.events.flatMap Sc.evLine).length ≤ 30000000 := by
      have h1 := nums_len [s.servers, s.area] (by intro v hv; simp at hv; rcases hv with rfl | rfl <;> assumption)
      have h2 := lines_len s.events hwr
      unfold headText
      simp only [List.length_append, List.length_cons, List.length_nil] at h1 ⊢
      omega
    have HLIM := Lib.hid hlim
    have hin : Hid (∀ (i o : Nat) v, [0, 1][i]? = some o → [s.servers, s.area][i]? = some v → (#[.int .i64 s.servers, .int .i64 s.area, .slice A s.events.length c] : Array Value)[o]? = some (.int .i64 v) ∧ inI v) := Lib.hid (fun i o v ho hv => ⟨setup_cells s _ i o v ho hv, by
      have := List.mem_of_getElem? hv
      simp at this
      rcases this with rfl | rfl
      · exact inI_of w1s
      · exact inI_of w1a⟩)
    rw [hck]
    clear hck hwr hlim w1s w1a
    go_wp2_with fail
    have h3 := isB_new w2
    have hb3 := below_box w2 (.cells #[.pointer none, .slice none 0 0] 50)
    have HX3 := Lib.hid (HX2.out.next hb3)
    have hbb : b ≠ w2.heap.size := Nat.ne_of_lt (Array.getElem?_eq_some_iff.1 HX2.out).1
    have hB6 : 6 ≤ w2.heap.size := Nat.le_trans HENV.out.big HB2.out.size
    have HLE := Lib.hid HB2.out.size
    generalize w2.alloc (.cells #[.pointer none, .slice none 0 0] 50) = w3 at h3 hb3 HX3 ⊢
    obtain ⟨B, hBe⟩ : ∃ B, w2.heap.size = B := ⟨_, rfl⟩
    have HBE := Lib.hid hBe
    rw [hBe] at h3 hb3 hbb hB6 HLE ⊢
    clear hBe
    have HB3 := Lib.hid hb3
    clear hb3
    refine (writeString_at B B [] [119, 111, 114, 108, 100] _ rfl _ h3 (by simp)).mono ?_
    rintro e w4 ⟨rfl, h4, hb4, hk4⟩
    have HX4 : Hid (ScrBox w4 b s A c) := Lib.hid (hk4 b _ HX3.out (fun e => hbb (Option.some.inj e)) (fun c fz e => by injection e with _ e2; cases e2))
    have HB4 := Lib.hid (HB3.out.trans hb4)
    have H4 := Lib.hid h4
    clear h3 h4 hb4 hk4 HX3 HB3
    go_wp2_with fail
    refine (setup_row b _).mono ?_
    rintro e w5 ⟨SA, rfl, hrow, hb5⟩
    have HX5 := Lib.hid (HX4.out.next hb5)
    have HB5 := Lib.hid (HB4.out.trans (hb5.mono H4.out.le_size))
    have H5 := Lib.hid (H4.out.next hb5)
    have he5 : Env w5 := HENV.out.next (HB2.out.trans (HB5.out.mono HLE.out))
    clear hb5 HX4 HB4 H4
    go_wp2_with fail
    refine (wnumbers_any B B _ SA b [0, 1] [s.servers, s.area] _ 30 _ _ he5 hB6 H5.out (by
      have := HLIM.out; unfold headText at this; simp only [List.length_append, List.length_cons, List.length_nil] at this ⊢; omega) (by decide) rfl hrow HX5.out (by decide) hbb hin.out).mono ?_
    rintro e w6 ⟨rfl, h6, hb6, hk6⟩
    have HX6 : Hid (ScrBox w6 b s A c) := Lib.hid (hk6 b _ HX5.out (fun e => hbb (Option.some.inj e)) (fun c fz e => by injection e with _ e2; cases e2))
    have HB6 := Lib.hid (HB5.out.trans hb6)
    clear hrow he5 hb6 hk6 HX5 HB5 H5
    go_wp2_with fail
    refine (writeByte_at B B _ 10 10 rfl _ h6 (by
      have := HLIM.out; unfold headText at this; simp only [List.length_append, List.length_cons, List.length_nil] at this ⊢; omega)).mono ?_
    rintro e w7 ⟨rfl, h7, hb7, hk7⟩
    have HX7 : Hid (ScrBox w7 b s A c) := Lib.hid (hk7 b _ HX6.out (fun e => hbb (Option.some.inj e)) (fun c fz e => by injection e with _ e2; cases e2))
    have HB7 := Lib.hid (HB6.out.trans hb7)
    have H7 : Hid (IsB B B (headText s) w7) := Lib.hid (by unfold headText; exact h7)
    clear h6 h7 hb7 hk7 HX6 HB6
    obtain ⟨c0, c1, c2⟩ := HX7.out.cells
    go_wp2_with fail
    clear c0 c1 c2 HX7
    go_loopw [7, 23] (fun _ i wr => ∃ k : Nat, k ≤ s.events.length ∧ i = .int .i64 k ∧ IsB B B (headText s ++ (s.events.take k).flatMap Sc.evLine) wr ∧ Below B w2 wr) (fun _ i _ => s.events.length - (intOf i).toNat)
    case atStart => exact ⟨0, Nat.zero_le _, rfl, by simpa using H7.out, HB7.out⟩
    case round =>
      obtain ⟨k, hk, rfl, hI, hb⟩ := hrel
      by_cases hlt : k < s.events.length
      · have hx : s.events[k]? = some s.events[k] := List.getElem?_eq_getElem hlt
        have HS : Hid (headText s ++ (s.events.take (k + 1)).flatMap Sc.evLine = (headText s ++ (s.events.take k).flatMap Sc.evLine) ++ Sc.evLine s.events[k]) := Lib.hid (by
          rw [List.take_succ_eq_append_getElem hlt, List.flatMap_append]; simp)
        have hln : ((headText s ++ (s.events.take k).flatMap Sc.evLine) ++ Sc.evLine s.events[k]).length ≤ 1099511627776 := by
          have h1 := HLIM.out
          have h2 : (s.events.flatMap Sc.evLine).length = ((s.events.take (k + 1)).flatMap Sc.evLine).length + ((s.events.drop (k + 1)).flatMap Sc.evLine).length := by
            rw [← List.length_append, ← List.flatMap_append, List.take_append_drop]
          rw [← HS.out, List.length_append]
          rw [List.length_append] at h1
          omega
        have hok := EvOk.of (HWR.out _ (List.mem_of_getElem? hx))
        generalize s.events[k] = x at hx HS hln hok
        obtain ⟨g, off, K, A', kc, bc, rfl, hgl2, hcl, hev⟩ := HA2.out.at_ hx
        obtain ⟨c0, c1, c2, c3, c4, c5, c6⟩ := hcl.same (hb.block g (by rw [← HBE.out]; exact hgl2))
        have hgl : g < wr.heap.size := Nat.lt_of_lt_of_le hgl2 hb.size
        have he : Env wr := HENV.out.next (HB2.out.trans (hb.mono HLE.out))
        have HEV : Hid (EvAt w2 x K A') := Lib.hid hev
        have HI := Lib.hid hI
        have HB := Lib.hid hb
        have HLN := Lib.hid hln
        have HOK := Lib.hid hok
        have HEN := Lib.hid he
        clear hx hev hI hb hln hok he hcl hgl2
        go_wp2_with fail
        have hbw := below_box wr (.cells #[.int .i64 x.kind, .int .i64 x.node, .int .i64 x.to, .int .i64 x.n, .int .i64 x.bit, .slice K x.keep.length kc, .slice A' x.bytes.length bc] 39)
        refine (event_any B B _ x K A' kc bc w2 _ (HEN.out.next hbw) hB6 (HI.out.next hbw) (Nat.le_of_eq HBE.out) (HB.out.trans (hbw.mono HI.out.le_size)) HEV.out HOK.out.k1 HOK.out.k2 HOK.out.inn (Nat.le_trans HOK.out.bl (by decide)) (Nat.le_trans HOK.out.kl (by decide)) HLN.out).mono ?_
        rintro e w9 ⟨rfl, h9, hb9⟩
        have HB9 := Lib.hid ((HB.out.trans (hbw.mono HI.out.le_size)).trans hb9)
        have H9 := Lib.hid h9
        clear hbw h9 hb9 c0 c1 c2 c3 c4 c5 c6 HI HB
        go_wp2_with fail
        go_roundw
        case rel => exact ⟨k + 1, by omega, by go_num, by rw [HS.out]; exact H9.out, HB9.out⟩
        case measure => simp [intOf]; omega
      · have HT : Hid (headText s ++ (s.events.take k).flatMap Sc.evLine = Sc.textOf s) := Lib.hid (by rw [List.take_of_length_le (by omega), textOf_eq])
        have H9 : Hid (IsB B B (Sc.textOf s) wr) := Lib.hid (by rw [← HT.out]; exact hI)
        have HB9 := Lib.hid hb
        have hne : Sc.textOf s ≠ [] := by rw [textOf_eq]; unfold headText; simp
        clear hI hb
        go_wp2_with fail
        refine (bldLen_any B B _ _ H9.out).mono ?_
        rintro e w' ⟨rfl, rfl⟩
        generalize hN : (Sc.textOf s).length = N
        have HN := Lib.hid hN
        clear hN
        by_cases hl : (262144 : Int) < N
        · have HE : Hid (Sc.printOf s = ([], 3)) := Lib.hid (by unfold Sc.printOf; rw [HN.out, if_pos HC.out, if_pos (by omega)])
          go_wp2_with fail
          go_ret2
          rw [HE.out]
          exact ⟨rfl, hbe ▸ (HB2.out.trans (HB9.out.mono HLE.out))⟩
        · have HE : Hid (Sc.printOf s = (Sc.textOf s, 0)) := Lib.hid (by unfold Sc.printOf; rw [HN.out, if_pos HC.out, if_neg (by omega)])
          have HNE := Lib.hid hne
          clear hne
          go_wp2_with fail
          refine (bldString_any B B _ _ H9.out HNE.out).mono ?_
          rintro e w10 ⟨rfl, hb10⟩
          have HB10 := Lib.hid (HB9.out.trans hb10)
          clear hb10
          go_wp2_with fail
          go_ret2
          rw [HE.out]
          exact ⟨rfl, hbe ▸ (HB2.out.trans (HB10.out.mono HLE.out))⟩
  · have HE : Hid (Sc.printOf s = ([], 2)) := Lib.hid (by unfold Sc.printOf; rw [hck]; rfl)
    rw [hck]
    clear hck
    go_wp2_with fail
    go_ret2
    rw [HE.out]
    exact ⟨rfl, hbe ▸ HB2.out⟩
end Go.Proofs.YthpojljfmipngaaGreatDoor
