/-
  PROVED: the call of LexSame returns true and writes nothing below the old heap. CONDITION: Env.
-/
import Derived.Test.YtoppkhkdbkkldaaDoorWalkK
namespace Go.Proofs.YtoppkhkdbkkldaaDoor
open Go.RowKit
/-! ### the law LexSame -/
theorem ArgToks.below {w w' : World} {A : Option Addr} {l : List Lx.Tok} (h : ArgToks w A l) {B : Nat} (hb : Below B w w') (hB : w.heap.size ≤ B) : ArgToks w' A l := fun hne => by
  obtain ⟨b, off, hA, hg, hc⟩ := h hne
  have hb' : Below w.heap.size w w' := hb.mono hB
  have e := fun (j : Nat) => hb'.cell (p := ⟨b, j, none⟩) hg
  exact ⟨b, off, hA, Nat.lt_of_lt_of_le hg hb.size, fun i t hi => by
    obtain ⟨h1, h2, h3⟩ := hc i t hi
    exact ⟨(e _).trans h1, (e _).trans h2, (e _).trans h3⟩⟩
theorem few_length (l : List Lx.Tok) : (fewOf l).length ≤ 1025 := by unfold fewOf; rw [List.length_map, List.length_take]; omega
theorem few_text {l : List Lx.Tok} {t : Lx.Tok} (h : t ∈ fewOf l) : t.text.length ≤ 4099 := by
  unfold fewOf at h
  obtain ⟨u, _, rfl⟩ := List.mem_map.1 h
  show (u.text.take 4099).length ≤ 4099
  rw [List.length_take]; omega
theorem toks_prefix {w : World} {base g n cap : Nat} {l : List Lx.Tok} {x : Lx.Tok} (hn : n = l.length) (h : w.ownsRow base 32 3 (.slice (some ⟨g, 0, none⟩) (n + 1) cap) (n + 1) (toksCells (l ++ [x]))) : HasToks w (some ⟨g, 0, none⟩) l := by
  have h' : w.ownsRow base 32 3 (.slice (some ⟨g, 0, none⟩) (n + 1) cap) (l ++ [x]).length (toksCells (l ++ [x])) := by rw [show (l ++ [x]).length = n + 1 by simp [hn]]; exact h
  obtain ⟨A, c, hv, hh⟩ := own_toks h'
  intro hne
  obtain ⟨g', hA, hg, hc⟩ := hh (by simp)
  subst hA
  obtain rfl : g = g' := by simp at hv; exact hv.1
  refine ⟨g, rfl, hg, fun i t hi => hc i t ?_⟩
  rw [List.getElem?_append_left (List.getElem?_eq_some_iff.1 hi).1]; exact hi
theorem sameToks_refl : ∀ l : List Lx.Tok, Lx.sameToks l l = true
  | [] => rfl
  | t :: l => by rw [Lx.sameToks, sameToks_refl l]; simp [Lx.sameTok]
theorem wpList_append_own_g {P : Program} {w : World} {ops : Array Oper} {rest : List Oper} {o : Oper} {a : Act} {Q : Exit → Act → World → Prop} (hw : Region.wanted o (yielded ops a.tmps) = true) (s x : Operand) (t : TypeId)
    (ho : o.op = .call { callee := .builtin .append, args := #[s, x], argTypes := #[t, t] })
    (base : Nat) (e : TypeId) (i : TypeInfo) (z : Value) (size bytes : Nat) (ht : P.underlying t = some (.slice e)) (hi : P.info? e = some i) (hz : i.zero = some z)
    (hsize : i.size = size) (hby : i.bytes = bytes) (hzs : z.cells.size = size) (hsz : 0 < size)
    (v : Value) (n : Nat) (xs : List Value) (hs : a.eval s = v) (hown : w.ownsRow base e size v n xs)
    (ad : Addr) (m c : Nat) (news : List Value) (hx : a.eval x = .slice (some ad) m c) (hl : news.length = m * size) (hnews : ∀ j u, news[j]? = some u → w.cell? (ad.add j) = some u) (h1 : ∀ u ∈ news, u.oneCell' = true)
    (h63 : n + m ≤ maxLen) (hbytes : (n + m) * bytes ≤ 140737488355328) (hbase : base ≤ w.heap.size)
    (h : ∀ v' w', w'.ownsRow base e size v' (n + m) (xs ++ news) → w.grownBy w' v.ownBlock → wpList P ops Q rest (a.put o.dst v') w') : wpList P ops Q (o :: rest) a w :=
  wpList_step fun K hK => by
    rw [if_pos hw]
    exact wp_append_own w s x t ho base e i z size bytes ht hi hz hsize hby hzs hsz v n xs hs hown ad m c news hx hl hnews h1 h63 hbytes hbase fun v' w' h2 h3 _ => hK _ _ (h v' w' h2 h3)
theorem toksCells_one (l : List Lx.Tok) : ∀ u ∈ toksCells l, u.oneCell' = true := by
  induction l with
  | nil => intro u hu; simp [toksCells] at hu
  | cons t l ih =>
    intro u hu
    rw [toksCells_cons] at hu
    simp only [List.mem_cons] at hu
    rcases hu with rfl | rfl | rfl | hu
    · rfl
    · rfl
    · rfl
    · exact ih u hu
/-- The row's cells, by their places. -/
theorem toks_cells {w : World} {base g n cap : Nat} {l : List Lx.Tok} {x : Lx.Tok} (h : w.ownsRow base 32 3 (.slice (some ⟨g, 0, none⟩) (n + 1) cap) (n + 1) (toksCells (l ++ [x]))) : ∀ j u, (toksCells l)[j]? = some u → w.cell? ((⟨g, 0, none⟩ : Addr).add j) = some u := by
  intro j u hu
  refine h.cells (g := g) rfl j u ?_
  rw [toksCells_snoc, List.getElem?_append_left (List.getElem?_eq_some_iff.1 hu).1]
  exact hu
set_option maxRecDepth 100000 in
set_option maxHeartbeats 2000000 in
theorem lawSame_any (l m : List Lx.Tok) (A B : Option Addr) (c d : Nat) (w : World) (henv : Env w) (hl : l.length ≤ 9223372036854775807) (hls : ∀ t ∈ l, t.text.length ≤ 9223372036854775807) (hm : m.length ≤ 9223372036854775807) (hms : ∀ t ∈ m, t.text.length ≤ 9223372036854775807) (hA : ArgToks w A l) (hB : ArgToks w B m) :
    Calls Tryd.prog 4 #[.slice A l.length c, .slice B m.length d] w fun e w' => e = .returned (.bool true) ∧ Below w.heap.size w w' := by
  obtain ⟨i0, hi, hz0, hz1, hz2⟩ := info_parts tok_info
  go_enter Tryd.func4, Tryd.ntmps4
  go_wp2_with fail
  refine (wakes_any w henv).mono ?_
  rintro e w1 ⟨rfl, hb1⟩
  go_wp2_with fail
  refine (few_any l A c w1 hl hls (hA.below hb1 (Nat.le_refl _))).mono ?_
  rintro e w2 ⟨g, n, hn, rfl, hown2, hb2⟩
  have hb12 := hb1.trans (hb2.mono hb1.size)
  go_wp2_with fail
  refine (few_any m B d w2 hm hms (hB.below hb12 (Nat.le_refl _))).mono ?_
  rintro e w3 ⟨g', n', hn', rfl, hown3, hb3⟩
  have hb13 := hb12.trans (hb3.mono hb12.size)
  have hA3 := (toks_prefix hn hown2).below hb3
  have hB3 := toks_prefix hn' hown3
  have hn9 := few_length l
  have hn9' := few_length m
  subst hn hn'
  have h2 := Lib.hid hown2
  have h3 := Lib.hid hown3
  clear hown2 hown3 hA hB
  go_wp2_with fail
  refine (same_any (fewOf l) (fewOf m) _ _ _ _ w3 (by omega) hA3 hB3).mono ?_
  rintro e w4 ⟨rfl, hb4⟩
  have hb14 := hb13.trans (hb4.mono hb13.size)
  have hA4 := hA3.below hb4
  have hB4 := hB3.below hb4
  clear hA3 hB3
  go_wp2_with fail
  refine (refSame_any (fewOf l) (fewOf m) _ _ _ _ w4 (by omega) hA4 hB4).mono ?_
  rintro e w5 ⟨rfl, hb5⟩
  have hb15 := hb14.trans (hb5.mono hb14.size)
  have hA5 := hA4.below hb5
  clear hA4 hB4
  have hd : (Lx.sameToks (fewOf l) (fewOf m) == Lx.sameToks (fewOf l) (fewOf m)) = true := by simp
  generalize Lx.sameToks (fewOf l) (fewOf m) = r at hd ⊢
  have hs5 := (hb3.trans (hb4.mono hb3.size)).trans (hb5.mono (Nat.le_trans hb3.size hb4.size))
  have hc5 : ∀ j u, (toksCells (fewOf l))[j]? = some u → w5.cell? ((⟨g, 0, none⟩ : Addr).add j) = some u := fun j u hu => toks_cells (own_below h2.out hs5) j u hu
  have hlen3 : (toksCells (fewOf l)).length = (fewOf l).length * 3 := toksCells_length _
  have HC := Lib.hid hc5
  clear hc5
  go_wp2_with (at_builtin; refine wpList_append_own_g (by kernel_rfl) (.tmp 20) (.tmp 21) 24 rfl w5.heap.size 32 i0 (.agg #[.int .i64 0, .string ⟨#[]⟩, .int .i64 0]) 3 32 Tryd.underlying24 hi hz0 hz1 hz2 rfl (by decide) _ 0 [] rfl (World.ownsRow_made w5 #[] 0 (Nat.le_refl _) (by decide) rfl) ⟨g, 0, none⟩ (fewOf l).length ((fewOf l).length + 2) (toksCells (fewOf l)) rfl hlen3 ?k1 (toksCells_one _) (by unfold maxLen; omega) (by omega) (by simp) ?_)
  case k1 => exact fun j u hu => ((below_box w5 (.cells #[] 32)).cell (World.block_lt_of_cell? _ _ (HC.out j u hu))).trans (HC.out j u hu)
  intro v' w6 hown6 hg6
  have hb6 : Below w5.heap.size w5 w6 := (below_box w5 _).grown hg6 (by simp) (fun j hj => by have := Option.some.inj (show some w5.heap.size = some j from hj); omega)
  obtain ⟨A', cap', rfl, hA6⟩ := own_toks hown6
  have hb16 := hb15.trans (hb6.mono hb15.size)
  have hA6' := hA5.below hb6
  have H6 := Lib.hid hown6
  clear hown6 hg6
  go_wp2_with fail
  refine (same_any (fewOf l) (fewOf l) _ _ _ _ w6 (by omega) hA6' hA6).mono ?_
  rintro e w7 ⟨rfl, hb7⟩
  have hb17 := hb16.trans (hb7.mono hb16.size)
  rw [sameToks_refl]
  go_wp2_with fail
  go_ret
  exact ⟨rfl, hb17⟩

end Go.Proofs.YtoppkhkdbkkldaaDoor
