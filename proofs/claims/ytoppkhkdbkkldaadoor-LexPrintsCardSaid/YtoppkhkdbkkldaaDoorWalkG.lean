/-
  THE WALKS, seventh part: Lex of package lex, whole.
-/
import Derived.Test.YtoppkhkdbkkldaaDoorWalkF
import Derived.Test.YtoppkhkdbkkldaaDoorLexEq
namespace Go.Proofs.YtoppkhkdbkkldaaDoor
open Go.RowKit

abbrev midFrame (s : ByteArray) (bS bT : Nat) (v : Value) (a : Nat) (e : Bool) (f : Nat → Value) : Act := ⟨#[.string s, f 1, f 2, .pointer (some ⟨bS, 0, none⟩), v, .int .i64 (a : Nat), .int .i64 0, .pointer (some ⟨bT, 0, none⟩), .bool e, f 9, f 10, f 11, f 12, f 13, f 14, f 15, f 16, f 17, f 18, f 19, f 20, f 21, f 22, f 23, f 24, f 25, f 26, f 27, f 28, f 29, f 30, f 31, f 32, f 33, f 34, f 35, f 36, f 37, f 38, f 39, f 40, f 41, f 42, f 43, f 44, f 45, f 46, f 47, f 48, f 49, f 50, f 51, f 52, f 53, f 54, f 55, f 56, f 57, f 58, f 59, f 60, f 61, f 62, f 63, f 64, f 65, f 66, f 67, f 68, f 69, f 70, f 71, f 72, f 73, f 74, f 75, f 76, f 77, f 78, f 79, f 80, f 81, f 82, f 83, f 84, f 85, f 86, f 87, f 88, f 89, f 90, f 91, f 92, f 93, f 94, f 95, f 96, f 97], []⟩
structure IsMid (s : ByteArray) (bS bT : Nat) (v : Value) (a : Nat) (e : Bool) (t : Array Value) : Prop where
  fr : IsFrame s bS bT v a t
  t8 : t.getD 8 undef = .bool e
theorem IsMid.eq {s : ByteArray} {bS bT : Nat} {v : Value} {a : Nat} {e : Bool} {t : Array Value} (h : IsMid s bS bT v a e t) : (⟨t, []⟩ : Act) = midFrame s bS bT v a e (fun i => t.getD i undef) := by
  rw [h.fr.eq]
  unfold lexFrame midFrame
  rw [← h.t8]

theorem rest_list (s : ByteArray) (a : Nat) : (s.extract a s.size).data.toList = s.data.toList.drop a := by
  rw [Lib.extract_data]
  exact List.take_of_length_le (by rw [List.length_drop, ← Lib.size_eq]; exact Nat.le_refl _)
theorem prefix_rest (s : ByteArray) (a : Nat) (w : World) :
    Calls Tryd.prog 34 #[.string (s.extract a s.size), .string ⟨#[47, 47]⟩] w fun e w' => e = .returned (.bool (Lib.hasPrefix (s.data.toList.drop a) [47, 47])) ∧ w = w' := by
  refine (Tryd.strings_HasPrefix _ _ w).mono ?_
  rintro e w' ⟨rfl, rfl⟩
  exact ⟨by rw [rest_list], rfl⟩
theorem run_blank_n (s : ByteArray) (a : Nat) (ha : a ≤ s.size) (hs : s.size ≤ 4096) (w : World) :
    Calls Tryd.prog 32 #[.string s, .int .i64 (a : Nat), .func (.func 33) #[] #[]] w fun e w' => e = .returned (.int .i64 (Lx.runLen Lx.isBlank (s.data.toList.drop a))) ∧ w = w' := by
  have h := run_blank s (a : Nat) (by omega) (by omega) (by omega) w
  rwa [Int.toNat_natCast] at h
theorem run_feed_n (s : ByteArray) (a : Nat) (ha : a ≤ s.size) (hs : s.size ≤ 4096) (w : World) :
    Calls Tryd.prog 32 #[.string s, .int .i64 (a : Nat), .func (.func 35) #[] #[]] w fun e w' => e = .returned (.int .i64 (Lx.runLen Lx.notFeed (s.data.toList.drop a))) ∧ w = w' := by
  have h := run_feed s (a : Nat) (by omega) (by omega) (by omega) w
  rwa [Int.toNat_natCast] at h
theorem place_comment {s : ByteArray} {a : Nat} (hp : Lib.hasPrefix (s.data.toList.drop (a + Lx.runLen Lx.isBlank (s.data.toList.drop a))) [47, 47] = true) :
    Lx.placeOf s.data.toList a = a + Lx.runLen Lx.isBlank (s.data.toList.drop a) + Lx.runLen Lx.notFeed (s.data.toList.drop (a + Lx.runLen Lx.isBlank (s.data.toList.drop a))) := by
  unfold Lx.placeOf Lx.skipLen
  rw [List.drop_drop, if_pos hp]; omega
theorem place_plain {s : ByteArray} {a : Nat} (hp : Lib.hasPrefix (s.data.toList.drop (a + Lx.runLen Lx.isBlank (s.data.toList.drop a))) [47, 47] = false) :
    Lx.placeOf s.data.toList a = a + Lx.runLen Lx.isBlank (s.data.toList.drop a) := by
  unfold Lx.placeOf Lx.skipLen
  rw [List.drop_drop, if_neg (by rw [hp]; exact Bool.false_ne_true)]; omega
theorem run_drop_le (p : UInt8 → Bool) (s : ByteArray) (a : Nat) (ha : a ≤ s.size) : a + Lx.runLen p (s.data.toList.drop a) ≤ s.size := by
  have := Lx.runLen_le p (s.data.toList.drop a)
  rw [List.length_drop, ← Lib.size_eq] at this
  omega

/-- Does nothing stand at a place but a line's end? -/
def endsAt (s : ByteArray) (a : Nat) : Bool := decide (a = s.size) || decide ((s.data.toList.drop a).head? = some 10)
theorem endsAt_out {s : ByteArray} {a : Nat} (h : a = s.size) : endsAt s a = true := by simp [endsAt, h]
theorem head10 {s : ByteArray} {a : Nat} (h : a < s.size) : (s.data.toList.drop a).head? = some 10 ↔ (s[a].toNat : Int) = 10 := by
  rw [drop_byte s a h, List.head?_cons, Option.some_inj]
  constructor
  · intro e; rw [e]; rfl
  · intro e; exact UInt8.toNat_inj.1 (by show s[a].toNat = 10; omega)
theorem endsAt_in {s : ByteArray} {a : Nat} (h : a < s.size) : endsAt s a = ((s[a].toNat : Int) == 10) := by
  have h1 : decide (a = s.size) = false := by rw [decide_eq_false_iff_not]; omega
  rw [endsAt, h1, Bool.false_or, Bool.eq_iff_iff]
  simp only [decide_eq_true_eq, beq_iff_eq]
  exact head10 h

set_option maxRecDepth 100000 in
set_option maxHeartbeats 4000000 in
theorem lex_pass (s : ByteArray) (hs : s.size ≤ 4096) (bS bT : Nat) (v : Value) (a : Nat) (ha : a ≤ s.size) (f : Nat → Value) (w : World) (Q : Exit → Act → World → Prop)
    (hm : ∀ t, IsMid s bS bT v (Lx.placeOf s.data.toList a) (endsAt s (Lx.placeOf s.data.toList a)) t → lexM.wp Tryd.prog Q ⟨t, []⟩ w) :
    (sndOf (restAt 0)).wp Tryd.prog Q (lexFrame s bS bT v a f) w := by
  have hb1 := run_drop_le Lx.isBlank s a ha
  cases hp : Lib.hasPrefix (s.data.toList.drop (a + Lx.runLen Lx.isBlank (s.data.toList.drop a))) [47, 47]
  · have e := place_plain hp
    rw [e] at hm
    have HM := Lib.hid hm
    have HP := Lib.hid hp
    clear hm hp e
    change Code.wp Tryd.prog (Code.seq _ _) _ _ _
    go_wp2_with fail
    refine (run_blank_n s a ha hs _).mono ?_
    rintro e w' ⟨rfl, rfl⟩
    generalize hb : a + Lx.runLen Lx.isBlank (s.data.toList.drop a) = b at HM HP hb1
    have hb' : (a : Int) + (Lx.runLen Lx.isBlank (s.data.toList.drop a) : Nat) = (b : Nat) := by omega
    clear hb
    go_wp2_with fail
    refine (prefix_rest s b _).mono ?_
    rintro e w' ⟨rfl, rfl⟩
    rw [HP.out]
    clear hb'
    by_cases hx : b = s.size
    · have hE := Lib.hid (endsAt_out hx)
      have HX := Lib.hid hx
      have h1 : ((b : Int) == (s.size : Int)) = true := by rw [hx]; exact beq_self_eq_true _
      clear hx
      go_upto_region 9 with (fail)
      rename_i K hK
      have HK := Lib.hid hK
      clear hK
      go_wp2_with fail
      apply HK.out
      apply HM.out
      refine ⟨⟨rfl, rfl, rfl, rfl, rfl, rfl, rfl⟩, ?_⟩
      rw [hE.out]; rfl
    · have hlt : b < s.size := by omega
      have hE := Lib.hid (endsAt_in hlt)
      have h1 : ((b : Int) == (s.size : Int)) = false := by rw [beq_eq_false_iff_ne]; omega
      go_upto_region 9 with (fail)
      rename_i K hK
      have HK := Lib.hid hK
      clear hK
      go_wp2_with fail
      apply HK.out
      apply HM.out
      refine ⟨⟨rfl, rfl, rfl, rfl, rfl, rfl, rfl⟩, ?_⟩
      rw [hE.out]; rfl
  · have e := place_comment hp
    have hb2 := run_drop_le Lx.notFeed s _ hb1
    rw [e] at hm
    have HM := Lib.hid hm
    have HP := Lib.hid hp
    clear hm hp e
    change Code.wp Tryd.prog (Code.seq _ _) _ _ _
    go_wp2_with fail
    refine (run_blank_n s a ha hs _).mono ?_
    rintro e w' ⟨rfl, rfl⟩
    generalize hc : a + Lx.runLen Lx.isBlank (s.data.toList.drop a) = c at HM HP hb1 hb2
    have hc' : (a : Int) + (Lx.runLen Lx.isBlank (s.data.toList.drop a) : Nat) = (c : Nat) := by omega
    clear hc
    go_wp2_with fail
    refine (prefix_rest s c _).mono ?_
    rintro e w' ⟨rfl, rfl⟩
    rw [HP.out]
    clear hc'
    go_wp2_with fail
    refine (run_feed_n s c hb1 hs _).mono ?_
    rintro e w' ⟨rfl, rfl⟩
    generalize hb : c + Lx.runLen Lx.notFeed (s.data.toList.drop c) = b at HM hb2
    have hb' : (c : Int) + (Lx.runLen Lx.notFeed (s.data.toList.drop c) : Nat) = (b : Nat) := by omega
    clear hb
    go_upto_region 9 with (fail)
    clear hb'
    by_cases hx : b = s.size
    · have hE := Lib.hid (endsAt_out hx)
      have HX := Lib.hid hx
      have h1 : ((b : Int) == (s.size : Int)) = true := by rw [hx]; exact beq_self_eq_true _
      clear hx
      go_upto_region 9 with (fail)
      rename_i K hK
      have HK := Lib.hid hK
      clear hK
      go_wp2_with fail
      apply HK.out
      apply HM.out
      refine ⟨⟨rfl, rfl, rfl, rfl, rfl, rfl, rfl⟩, ?_⟩
      rw [hE.out]; rfl
    · have hlt : b < s.size := by omega
      have hE := Lib.hid (endsAt_in hlt)
      have h1 : ((b : Int) == (s.size : Int)) = false := by rw [beq_eq_false_iff_ne]; omega
      go_upto_region 9 with (fail)
      rename_i K hK
      have HK := Lib.hid hK
      clear hK
      go_wp2_with fail
      apply HK.out
      apply HM.out
      refine ⟨⟨rfl, rfl, rfl, rfl, rfl, rfl, rfl⟩, ?_⟩
      rw [hE.out]; rfl

/-! ### A scope in which the run jumps to several labels -/
def Exit.jumpTo (c : Code) (J : Nat → Act → World → Prop) (Q : Exit → Act → World → Prop) : Exit → Act → World → Prop
  | .goto l, a, w => (findLabel c l).isSome = true ∧ J l a w
  | e, a, w => Q e a w
theorem wp_scope_labels {P : Program} {c : Code} {a : Act} {w : World} {Q : Exit → Act → World → Prop} (J : Nat → Act → World → Prop) (μ : Nat → Act → World → Nat)
    (first : c.wp P (Exit.jumpTo c J Q) a w)
    (pass : ∀ l rest a w, findLabel c l = some rest → J l a w → rest.wp P (Exit.jumpTo c (fun l' a' w' => J l' a' w' ∧ μ l' a' w' < μ l a w) Q) a w) : (Code.scope c).wp P Q a w := by
  intro b k cs
  have key : ∀ n l rest a w, findLabel c l = some rest → μ l a w = n → J l a w → ∃ e a' w', Q e a' w' ∧ Arrives P (lone (b.at a (.code rest :: .inScope c :: k)) cs w) b k cs e a' w' := by
    intro n
    induction n using Nat.strongRecOn with
    | _ n ih =>
      intro l rest a w hf hn hJ
      obtain ⟨e, a₁, w₁, hq, harr⟩ := pass l rest a w hf hJ b (.inScope c :: k) cs
      cases e with
      | normal => exact ⟨.normal, a₁, w₁, hq, Steps.trans harr (.one step_inScope)⟩
      | exit id => exact ⟨.exit id, a₁, w₁, hq, fun k' hk => harr k' (by simp [exitTo, hk])⟩
      | goto l' =>
        obtain ⟨hs, hJ', hlt⟩ := hq
        obtain ⟨rest', hf'⟩ := Option.isSome_iff_exists.1 hs
        obtain ⟨e₂, a₂, w₂, hq₂, harr₂⟩ := ih _ (by omega) l' rest' a₁ w₁ hf' rfl hJ'
        exact ⟨e₂, a₂, w₂, hq₂, .of_steps (harr _ (by simp [gotoIn, hf'])) harr₂⟩
      | ret => exact ⟨_, a₁, w₁, hq, harr⟩
      | panic ch => exact ⟨_, a₁, w₁, hq, harr⟩
      | outgrown => exact ⟨_, a₁, w₁, hq, harr⟩
  obtain ⟨e, a₁, w₁, hq, harr⟩ := first b (.inScope c :: k) cs
  cases e with
  | normal => exact ⟨.normal, a₁, w₁, hq, .head step_scope (Steps.trans harr (.one step_inScope))⟩
  | exit id => exact ⟨.exit id, a₁, w₁, hq, fun k' hk => .head step_scope (harr k' (by simp [exitTo, hk]))⟩
  | goto l' =>
    obtain ⟨hs, hJ'⟩ := hq
    obtain ⟨rest', hf'⟩ := Option.isSome_iff_exists.1 hs
    obtain ⟨e₂, a₂, w₂, hq₂, harr₂⟩ := key _ l' rest' a₁ w₁ hf' rfl hJ'
    exact ⟨e₂, a₂, w₂, hq₂, .of_steps (.head step_scope (harr _ (by simp [gotoIn, hf']))) harr₂⟩
  | ret => exact ⟨_, a₁, w₁, hq, .of_steps (.one step_scope) harr⟩
  | panic ch => exact ⟨_, a₁, w₁, hq, .of_steps (.one step_scope) harr⟩
  | outgrown => exact ⟨_, a₁, w₁, hq, .of_steps (.one step_scope) harr⟩

/-! ### Lex -/
/-- What Lex leaves: the tokens in a row of its own, the spot. -/
def LexPost (w0 : World) (x : List Lx.Tok × Int × Nat) (e : Ending) (w' : World) : Prop :=
  ∃ v, e = .returned (.tuple #[v, .agg #[.int .i64 x.2.1, .int .i64 x.2.2]]) ∧ w'.ownsRow w0.heap.size 32 3 v x.1.length (toksCells x.1) ∧ (x.1 = [] → v = .slice none 0 0) ∧ Below w0.heap.size w0 w'

theorem RetOk.post {w0 : World} {x : List Lx.Tok × Int × Nat} {t : Array Value} {w' : World} (h : RetOk w0 x t w') : bodyPost Tryd.prog Tryd.f12 (LexPost w0 x) .ret ⟨t, []⟩ w' := by
  obtain ⟨h3, h0, h1, hown, hnil, hb⟩ := h
  refine bodyPost_ret (v := .tuple #[t.getD 2 undef, .agg #[.int .i64 x.2.1, .int .i64 x.2.2]]) ?_ rfl ⟨_, rfl, own_base hown (by omega), hnil, hb⟩
  simp [results, Tryd.results12, go_sem] at h3 ⊢
  simp [h3, h0, h1, go_sem]

def J0 (s : ByteArray) (w0 : World) (a : Act) (w : World) : Prop :=
  ∃ v t acc p, a = ⟨t, []⟩ ∧ IsFrame s w0.heap.size (w0.heap.size + 1) v p t ∧ LexW w0 w v acc ∧ p ≤ s.size ∧ acc.length ≤ 1024 ∧ Lx.lexOf s.data.toList = Lx.lexFrom s.data.toList acc p
def J1 (s : ByteArray) (w0 : World) (a : Act) (w : World) : Prop :=
  ∃ v t acc p, a = ⟨t, []⟩ ∧ IsFrame s w0.heap.size (w0.heap.size + 1) v p t ∧ LexW w0 w v acc ∧ p ≤ s.size ∧ acc.length ≤ 1024 ∧ Lx.lexOf s.data.toList = Lx.lexStep s.data.toList acc p
def JL (s : ByteArray) (w0 : World) (l : Nat) (a : Act) (w : World) : Prop := (l = 0 ∧ J0 s w0 a w) ∨ (l = 1 ∧ J1 s w0 a w)
def muL (s : ByteArray) (l : Nat) (a : Act) (_ : World) : Nat := 2 * (s.size + 1 - (intOf (a.tmps.getD 5 undef)).toNat) + (1 - l)
theorem muL_at {s : ByteArray} {bS bT : Nat} {v : Value} {p : Nat} {t : Array Value} (h : IsFrame s bS bT v p t) (l : Nat) (w : World) : muL s l ⟨t, []⟩ w = 2 * (s.size + 1 - p) + (1 - l) := by
  unfold muL
  rw [show (⟨t, []⟩ : Act).tmps.getD 5 undef = .int .i64 (p : Nat) from h.t5]
  simp [intOf]
theorem list_snoc (l : List Lx.Tok) (h : l ≠ []) : ∃ pre t, l = pre ++ [t] := ⟨l.dropLast, l.getLast h, (List.dropLast_concat_getLast h).symm⟩
theorem lastClosing_ne {l : List Lx.Tok} (h : Lx.lastClosing l = true) : l ≠ [] := by intro e; subst e; simp [Lx.lastClosing] at h
theorem endsAt_true {s : ByteArray} {a : Nat} (h : endsAt s a = true) : a = s.data.toList.length ∨ (s.data.toList.drop a).head? = some 10 := by
  rw [← Lib.size_eq]; simpa [endsAt] using h
theorem endsAt_false {s : ByteArray} {a : Nat} (h : endsAt s a = false) : ¬ a = s.size ∧ ¬ (s.data.toList.drop a).head? = some 10 := by
  simpa [endsAt] using h

theorem lex_pass0 (s : ByteArray) (hs : s.size ≤ 4096) (w0 : World) (henv : Env w0) (t : Array Value) (v : Value) (acc : List Lx.Tok) (p : Nat) (w : World) (hfr : IsFrame s w0.heap.size (w0.heap.size + 1) v p t) (hW : LexW w0 w v acc) (hp : p ≤ s.size) (hacc : acc.length ≤ 1024) (hL : Lx.lexOf s.data.toList = Lx.lexFrom s.data.toList acc p)
    (Q : Exit → Act → World → Prop)
    (q0 : ∀ a' w', J0 s w0 a' w' → muL s 0 a' w' < 2 * (s.size + 1 - p) + 1 → Q (.goto 0) a' w')
    (q1 : ∀ a' w', J1 s w0 a' w' → muL s 1 a' w' < 2 * (s.size + 1 - p) + 1 → Q (.goto 1) a' w')
    (qr : ∀ t' w', RetOk w0 (Lx.lexOf s.data.toList) t' w' → Q .ret ⟨t', []⟩ w') :
    (sndOf (restAt 0)).wp Tryd.prog Q ⟨t, []⟩ w := by
  rw [hfr.eq]
  refine lex_pass s hs _ _ v p hp _ w Q ?_
  intro t1 hmid
  rw [hmid.eq]
  have hsz := Lib.size_eq s
  have hpl : p ≤ s.data.toList.length := by omega
  have hge := Lx.placeOf_ge s.data.toList p
  have hle : Lx.placeOf s.data.toList p ≤ s.size := by rw [hsz]; exact Lx.placeOf_le hpl
  generalize hq : Lx.placeOf s.data.toList p = q at *
  have go1 : ∀ t' v' w' acc', IsFrame s w0.heap.size (w0.heap.size + 1) v' q t' → LexW w0 w' v' acc' → acc'.length ≤ 1024 → Lx.lexOf s.data.toList = Lx.lexStep s.data.toList acc' q → Q (.goto 1) ⟨t', []⟩ w' := fun t' v' w' acc' h1 h2 h3 h4 =>
    q1 _ _ ⟨v', t', acc', q, rfl, h1, h2, hle, h3, h4⟩ (by rw [muL_at h1]; omega)
  cases hE : endsAt s q
  · obtain ⟨hne, h10⟩ := endsAt_false hE
    have hlt : q < s.size := by omega
    have hlt' : Lx.placeOf s.data.toList p < s.data.toList.length := by rw [hq]; omega
    rw [← hq] at h10
    obtain ⟨A, cap, rfl, _⟩ := own_toks hW.own
    by_cases he : (Lx.tokenOf (s.data.toList.drop q)).2.2 = 0
    · by_cases hfull : acc.length = 1024
      · have hX := Lx.from_tok_full (acc := acc) hlt' h10 (by rw [hq]; exact he) hfull
        rw [hq] at hX
        rw [hX] at hL
        rw [hfull] at hW ⊢
        exact mid_tok_full s hs A cap q hlt (fun i => t1.getD i undef) w0 w acc hW henv he Q (fun t' w' h => qr t' w' (by rw [hL]; exact h))
      · have hX := Lx.from_tok_told (acc := acc) hlt' h10 (by rw [hq]; exact he) hfull
        rw [hq] at hX
        rw [hX] at hL
        have hpos := Lx.tokenOf_pos he
        have htl : ((s.data.toList.drop q).take (Lx.tokenOf (s.data.toList.drop q)).2.1).length = (Lx.tokenOf (s.data.toList.drop q)).2.1 := by
          rw [List.length_take]; omega
        have hdl : (s.data.toList.drop q).length = s.size - q := by rw [List.length_drop, hsz]
        refine mid_tok_told s hs A cap q hlt (fun i => t1.getD i undef) w0 w acc (by omega) hW henv (Lx.tokenOf (s.data.toList.drop q)).1 ((s.data.toList.drop q).take (Lx.tokenOf (s.data.toList.drop q)).2.1) (by rw [htl]; omega) (by unfold tokRes; rw [he]) Q ?_
        intro t' v' w' h1 h2
        rw [htl] at h1
        refine q0 _ _ ⟨v', t', _, _, rfl, h1, h2, by omega, by rw [List.length_append]; simp; omega, hL⟩ (by rw [muL_at h1]; omega)
    · have hX := Lx.from_tok_err (acc := acc) hlt' h10 (by rw [hq]; exact he)
      rw [hq] at hX
      rw [hX] at hL
      exact mid_tok_err s hs A acc.length cap q hlt (fun i => t1.getD i undef) w0 w acc hW henv he Q (fun t' w' h => qr t' w' (by rw [hL]; exact h))
  · have hend := endsAt_true hE
    rw [← hq] at hend
    cases hc : Lx.lastClosing acc
    · have hX := Lx.from_ends_open (acc := acc) hend hc
      rw [hq] at hX
      rw [hX] at hL
      by_cases hnil : acc = []
      · subst hnil
        exact mid_open_nil s v q (fun i => t1.getD i undef) w0 w hW Q (fun t' w' h1 h2 => go1 t' v w' [] h1 h2 hacc hL)
      · obtain ⟨pre, tk, rfl⟩ := list_snoc acc hnil
        rw [lastClosing_snoc] at hc
        exact mid_open s v q (fun i => t1.getD i undef) w0 w pre tk (by rw [List.length_append] at hacc; simp at hacc; omega) hW henv hc Q (fun t' w' h1 h2 => go1 t' v w' _ h1 h2 hacc hL)
    · have hnil := lastClosing_ne hc
      by_cases hfull : acc.length = 1024
      · have hX := Lx.from_ends_full (acc := acc) hend hc hfull
        rw [hq] at hX
        rw [hX] at hL
        obtain ⟨pre, tk, rfl⟩ := list_snoc acc hnil
        rw [lastClosing_snoc] at hc
        exact mid_full s v q (fun i => t1.getD i undef) w0 w pre tk (by rw [List.length_append] at hfull; simp at hfull; omega) hW henv hc Q (fun t' w' h => qr t' w' (by rw [hL]; exact h))
      · have hX := Lx.from_ends_told (acc := acc) hend hc hfull
        rw [hq] at hX
        rw [hX] at hL
        obtain ⟨pre, tk, rfl⟩ := list_snoc acc hnil
        rw [lastClosing_snoc] at hc
        have hpre : pre.length < 1023 := by rw [List.length_append] at hfull hacc; simp at hfull hacc; omega
        refine mid_told s hs v q hle (fun i => t1.getD i undef) w0 w pre tk hpre hW henv hc Q ?_ ?_
        · intro hlt t' v' w' h1 h2
          rw [Lx.lexStep_go (by omega)] at hL
          exact q0 _ _ ⟨v', t', _, _, rfl, h1, h2, by omega, by simp; omega, hL⟩ (by rw [muL_at h1]; omega)
        · intro hend' t' w' h
          rw [Lx.lexStep_end (by omega)] at hL
          exact qr t' w' (by rw [hL]; exact h)

theorem lex_pass1 (s : ByteArray) (hs : s.size ≤ 4096) (w0 : World) (t : Array Value) (v : Value) (acc : List Lx.Tok) (p : Nat) (w : World) (hfr : IsFrame s w0.heap.size (w0.heap.size + 1) v p t) (hW : LexW w0 w v acc) (hp : p ≤ s.size) (hacc : acc.length ≤ 1024) (hL : Lx.lexOf s.data.toList = Lx.lexStep s.data.toList acc p)
    (Q : Exit → Act → World → Prop)
    (q0 : ∀ a' w', J0 s w0 a' w' → muL s 0 a' w' < 2 * (s.size + 1 - p) → Q (.goto 0) a' w')
    (qr : ∀ t' w', RetOk w0 (Lx.lexOf s.data.toList) t' w' → Q .ret ⟨t', []⟩ w') :
    (restAt 1).wp Tryd.prog Q ⟨t, []⟩ w := by
  rw [hfr.eq]
  have hsz := Lib.size_eq s
  refine lex_step s hs _ _ v p _ w Q hp hW.spot ?_ ?_
  · intro hlt t' h1
    rw [Lx.lexStep_go (by omega)] at hL
    exact q0 _ _ ⟨v, t', acc, _, rfl, h1, hW, by omega, hacc, hL⟩ (by rw [muL_at h1]; omega)
  · intro hend t' w' h2 h3 hw
    subst hw
    rw [Lx.lexStep_end (by omega)] at hL
    exact qr _ _ (by rw [hL]; exact hW.ret_ok _ h2 h3)

theorem rest0_eq : restAt 0 = .seq .skip (sndOf (restAt 0)) := by kernel_rfl
theorem rest0_of {Q : Exit → Act → World → Prop} {a : Act} {w : World} (h : (sndOf (restAt 0)).wp Tryd.prog Q a w) : (restAt 0).wp Tryd.prog Q a w := by
  rw [rest0_eq]
  exact wp_seq (wp_skip h)
theorem find_labels (l : Nat) (r : Code) (h : findLabel lexIn l = some r) (hl : l = 0 ∨ l = 1) : r = restAt l := by
  rcases hl with rfl | rfl
  · rw [find0] at h; exact (Option.some.inj h).symm
  · rw [find1] at h; exact (Option.some.inj h).symm

set_option maxRecDepth 100000 in
set_option maxHeartbeats 4000000 in
theorem lex_any (s : ByteArray) (w : World) (henv : Env w) (hs : s.size ≤ 9223372036854775807) :
    Calls Tryd.prog 12 #[.string s] w fun e w' => LexPost w (Lx.lexOf s.data.toList) e w' := by
  by_cases hlong : 4096 < s.size
  · have hL := Lib.hid (Lx.lexOf_long (L := s.data.toList) (by rw [← Lib.size_eq]; exact hlong))
    go_enter Tryd.func12, Tryd.ntmps12
    go_wp2_with fail
    go_step3
    go_wp2_with fail
    rw [Exit.noGoto_ret]
    refine bodyPost_ret (v := .tuple #[.slice none 0 0, .agg #[.int .i64 3, .int .i64 0]]) (by simp [results, Tryd.results12, go_sem]) rfl ?_
    rw [hL.out]
    exact ⟨_, rfl, World.ownsRow_nil _ _ _ _, fun _ => rfl, below_box _ _⟩
  · go_enter Tryd.func12, Tryd.ntmps12
    go_wp2_with fail
    refine wp_scope_labels (c := lexIn) (JL s w) (muL s) ?_ ?_
    · change Code.wp Tryd.prog (Code.seq _ _) _ _ _
      go_wp2_with fail
      apply wp_label
      rename_i K hK
      apply hK
      have hW : LexW w ((w.alloc (.cells #[.int .i64 0, .int .i64 0] 27)).alloc (.cells #[.int .i64 0, .string ⟨#[]⟩, .int .i64 0] 32)) (.slice none 0 0) [] := by
        refine ⟨World.ownsRow_nil _ _ _ _, fun _ => rfl, ?_, ⟨.int .i64 0, .string ⟨#[]⟩, .int .i64 0, ?_⟩, ((Below.refl _ _).alloc (Nat.le_refl _) _).alloc (by simp) _, by simp⟩
        · rw [Below.heap_alloc _ _ _ (by simp)]; exact heap_alloc_new w _
        · have := heap_alloc_new (w.alloc (.cells #[.int .i64 0, .int .i64 0] 27)) (.cells #[.int .i64 0, .string ⟨#[]⟩, .int .i64 0] 32)
          simpa using this
      refine lex_pass0 s (by omega) w henv _ (.slice none 0 0) [] 0 _ ⟨rfl, rfl, rfl, rfl, rfl, rfl, rfl⟩ hW (by omega) (by simp) (Lx.lexOf_from (by rw [← Lib.size_eq]; exact hlong)) _ ?_ ?_ ?_
      · intro a' w' hj _
        exact ⟨by rw [find0]; rfl, .inl ⟨rfl, hj⟩⟩
      · intro a' w' hj _
        exact ⟨by rw [find1]; rfl, .inr ⟨rfl, hj⟩⟩
      · intro t' w' h
        exact h.post
    · intro l r a w1 hf hJ
      rcases hJ with ⟨rfl, v, t, acc, p, rfl, hfr, hW, hp, hacc, hL⟩ | ⟨rfl, v, t, acc, p, rfl, hfr, hW, hp, hacc, hL⟩
      · obtain rfl := find_labels 0 r hf (.inl rfl)
        refine rest0_of (lex_pass0 s (by omega) w henv t v acc p w1 hfr hW hp hacc hL _ ?_ ?_ ?_)
        · intro a' w' hj hm
          exact ⟨by rw [find0]; rfl, .inl ⟨rfl, hj⟩, by rw [muL_at hfr]; exact hm⟩
        · intro a' w' hj hm
          exact ⟨by rw [find1]; rfl, .inr ⟨rfl, hj⟩, by rw [muL_at hfr]; exact hm⟩
        · intro t' w' h
          exact h.post
      · obtain rfl := find_labels 1 r hf (.inr rfl)
        refine lex_pass1 s (by omega) w t v acc p w1 hfr hW hp hacc hL _ ?_ ?_
        · intro a' w' hj hm
          exact ⟨by rw [find0]; rfl, .inl ⟨rfl, hj⟩, by rw [muL_at hfr]; exact hm⟩
        · intro t' w' h
          exact h.post
end Go.Proofs.YtoppkhkdbkkldaaDoor
