/-
  Joined: YI YK YF.
-/
import Derived.Test.YtimioelnnhnbiaaGreatDoorS30
import Derived.Test.YtimioelnnhnbiaaGreatDoorS25
import Derived.Test.YtimioelnnhnbiaaGreatDoorS11
import Derived.Test.YtimioelnnhnbiaaGreatDoorS26
import Derived.Test.YtimioelnnhnbiaaGreatDoorS28
namespace Go.Proofs.YtimioelnnhnbiaaGreatDoor
open Go.RowKit
theorem run_eql9 {o : Oper} {a : Act} {W : World} {t t2 : TypeId} {x y : Operand} {C D : Array Value} {r : Value} (ho : o.op = .binOp .eql t x y t2) (hx : a.eval x = .agg C) (hy : a.eval y = .agg D) (hg : Tryz.prog.eqGuardType Tryz.prog.depth t = false) (h : (binOp .eql t (.agg C) (.agg D)).run Tryz.prog W = .ok r W) : (execOp a.eval o).run Tryz.prog W = .ok (.value r) W := by
 unfold execOp
 simp only [ho, hx, hy, Sem.run_bind, run_eqGuard_agg W .eql t x y C D hg, h, Result.andThen_ok]
 rfl
theorem equal_45f {l' l2 : List (Js.Bs × Js.Bs)} (h : l' = l2) (l : List (Js.Bs × Js.Bs)) (A B : Option Addr) (c d : Nat) (w : World) (hA : RowAt 2 fileC w A l2) (hB : RowAt 2 fileC w B l) (hlen : l.length ≤ 1000000) (hc : l2.length ≤ c) (hd : l.length ≤ d) (hn : l2 = l := by rfl) :
  Calls Tryz.prog 45 #[.slice A l'.length c, .slice B l.length d] w fun e w' => e = .returned (.bool true) ∧ Below w.heap.size w w' := by
 subst hn h
 exact equal_45 _ A B c d w hA hB hlen hc hd
theorem equal_46f {l' l2 : List (PClash)} (h : l' = l2) (l : List (PClash)) (A B : Option Addr) (c d : Nat) (w : World) (hA : RowAt 7 clashC w A l2) (hB : RowAt 7 clashC w B l) (hlen : l.length ≤ 1000000) (hc : l2.length ≤ c) (hd : l.length ≤ d) (hn : l2 = l := by rfl) :
  Calls Tryz.prog 46 #[.slice A l'.length c, .slice B l.length d] w fun e w' => e = .returned (.bool true) ∧ Below w.heap.size w w' := by
 subst hn h
 exact equal_46 _ A B c d w hA hB hlen hc hd
theorem equal_47f {n : Nat} {l' : List (Nat → UInt8)} (h : l'.length = n) (l : List (Nat → UInt8)) (A B : Option Addr) (c d : Nat) (w : World) (hA : RowAt 32 idC w A l) (hB : RowAt 32 idC w B l) (hlen : l.length ≤ 1000000) (hc : n ≤ c) (hd : l.length ≤ d) (hn : n = l.length := by rfl) :
  Calls Tryz.prog 47 #[.slice A l'.length c, .slice B l.length d] w fun e w' => e = .returned (.bool true) ∧ Below w.heap.size w w' := by
 subst hn
 rw [h]
 exact equal_47 l A B c d w hA hB hlen hc hd
set_option maxRecDepth 100000 in
set_option maxHeartbeats 16000000 in
theorem txnSame_any (b c : PAnswer) (Af : Option Addr) (cf : Nat) (Ac : Option Addr) (cc : Nat) (Ai : Option Addr) (ci : Nat) (Bf : Option Addr) (df : Nat) (Bc : Option Addr) (dc : Nat) (Bi : Option Addr) (di : Nat) (w : World) (hr : restA b = restA c) (hf : c.files = b.files) (hc : c.clashes = b.clashes) (hi : c.ids.length = b.ids.length)
  (hRc : AnsRows w c Bf df Bc dc Bi di) (hRb : AnsRows w b Af cf Ac cc Ai ci) (hI : RowAt 32 idC w Bi b.ids) (hlen : b.files.length ≤ 1000000 ∧ b.clashes.length ≤ 1000000 ∧ b.ids.length ≤ 1000000) :
  Calls Tryz.prog 15 #[.agg (ansA c Bf df Bc dc Bi di), .agg (ansA b Af cf Ac cc Ai ci)] w fun e w' => e = .returned (.bool true) ∧ Below w.heap.size w w' := by
 have b1 := below_box w (.cells (ansA c Bf df Bc dc Bi di) 49)
 have s1 : (w.alloc (.cells (ansA c Bf df Bc dc Bi di) 49)).heap.size = w.heap.size + 1 := by simp
 have e1 := heap_alloc_new w (.cells (ansA c Bf df Bc dc Bi di) 49)
 have b2 := below_box (w.alloc (.cells (ansA c Bf df Bc dc Bi di) 49)) (.cells (ansA b Af cf Ac cc Ai ci) 49)
 have e2 := heap_alloc_new (w.alloc (.cells (ansA c Bf df Bc dc Bi di) 49)) (.cells (ansA b Af cf Ac cc Ai ci) 49)
 rw [s1] at e2
 have h0 := blk_next b2 e1
 have h2 : Below w.heap.size w ((w.alloc (.cells (ansA c Bf df Bc dc Bi di) 49)).alloc (.cells (ansA b Af cf Ac cc Ai ci) 49)) := b1.trans (b2.mono (by rw [s1]; omega))
 have h3 := hRc.next h2
 have h4 := hRb.next h2
 have h5 := hI.next h2
 clear b1 s1 e1 b2 hRc hRb hI
 go_enter Tryz.func15, Tryz.ntmps15
 go_upto_region 1 with fail
 generalize ((w.alloc (.cells (ansA c Bf df Bc dc Bi di) 49)).alloc (.cells (ansA b Af cf Ac cc Ai ci) 49)) = w2 at e2 h0 h2 h3 h4 h5 ⊢
 obtain ⟨N, hN⟩ : ∃ N, w.heap.size = N := ⟨_, rfl⟩
 rw [hN] at e2 h0 h2 ⊢
 have HN := Lib.hid hN
 have H0 : Hid ((w2.heap[N]? = some (.cells (ansA c Bf df Bc dc Bi di) 49 (0, 0)) ∧ w2.heap[N + 1]? = some (.cells (ansA b Af cf Ac cc Ai ci) 49 (0, 0))) ∧ Below N w w2 ∧ AnsRows w2 c Bf df Bc dc Bi di ∧ AnsRows w2 b Af cf Ac cc Ai ci ∧ RowAt 32 idC w2 Bi b.ids) := Lib.hid ⟨⟨h0, e2⟩, h2, h3, h4, h5⟩
 clear hN e2 h0 h2 h3 h4 h5
 go_wp2_with fail
 apply shared1 (F := fun W => (W.heap[N]? = some (.cells (ansA c Bf df Bc dc Bi di) 49 (0, 0)) ∧ W.heap[N + 1]? = some (.cells (ansA b Af cf Ac cc Ai ci) 49 (0, 0))) ∧ Below N w W ∧ AnsRows W c Bf df Bc dc Bi di ∧ AnsRows W b Af cf Ac cc Ai ci ∧ RowAt 32 idC W Bi b.ids)
 case tree =>
  have H := H0.out
  have nx : Nx fun W => (W.heap[N]? = some (.cells (ansA c Bf df Bc dc Bi di) 49 (0, 0)) ∧ W.heap[N + 1]? = some (.cells (ansA b Af cf Ac cc Ai ci) 49 (0, 0))) ∧ Below N w W ∧ AnsRows W c Bf df Bc dc Bi di ∧ AnsRows W b Af cf Ac cc Ai ci ∧ RowAt 32 idC W Bi b.ids := nx_and (nx_and nx_blk nx_blk) (nx_and (fun _ _ h hb => h.trans (hb.mono (by have := HN.out; have := h.size; omega))) (nx_and nx_ans (nx_and nx_ans nx_row)))
  intro KEY
  refine region_till (S := fun W => W.heap[N]? = some (.cells (ansA c Bf df Bc dc Bi di) 49 (0, 0)) ∧ W.heap[N + 1]? = some (.cells (ansA b Af cf Ac cc Ai ci) 49 (0, 0))) 29 rfl nx H (fun _ h => h.1) fun W H sh => ?_
  refine takeQ 0 (v := .func (.func 44) #[] #[]) rfl H.1 sh fun sh => ?_
  refine takeY (v := .agg (ansA c Bf df Bc dc Bi di)) 1 rfl (yieldsIf_load_mid (by kernel_rfl) 49 _ rfl N 0 (by kernel_rfl) (ansL c Bf df Bc dc Bi di) _ (fun W hS j v hv => (blk_cells hS.1 (0 + j)).trans (by rw [Nat.zero_add, show (ansA c Bf df Bc dc Bi di) = (ansL c Bf df Bc dc Bi di).toArray from rfl, List.getElem?_toArray]; exact hv)) Tryz.underlying49 rfl (by rw [info49]; rfl)) H.1 sh fun sh => ?_
  refine takeQ 3 (v := .func (.func 44) #[] #[]) rfl H.1 sh fun sh => ?_
  refine takeY (v := .agg (ansA b Af cf Ac cc Ai ci)) 4 rfl (yieldsIf_load_mid (by kernel_rfl) 49 _ rfl (N + 1) 0 (by kernel_rfl) (ansL b Af cf Ac cc Ai ci) _ (fun W hS j v hv => (blk_cells hS.2 (0 + j)).trans (by rw [Nat.zero_add, show (ansA b Af cf Ac cc Ai ci) = (ansL b Af cf Ac cc Ai ci).toArray from rfl, List.getElem?_toArray]; exact hv)) Tryz.underlying49 rfl (by rw [info49]; rfl)) H.1 sh fun sh => ?_
  refine till1 2 rfl (stepL 44 #[.agg (ansA c Bf df Bc dc Bi di)] (rest_any c Bf df Bc dc Bi di W) nx H (fun _ h => h.1) ?_)
  intro W H
  replace sh := sh.put (i := 2) (by kernel_rfl)
  refine till1 5 rfl (stepL 44 #[.agg (ansA b Af cf Ac cc Ai ci)] (rest_any b Af cf Ac cc Ai ci W) nx H (fun _ h => h.1) ?_)
  intro W H
  replace sh := sh.put (i := 5) (by kernel_rfl)
  refine takeY 6 (v := .bool true) rfl (Or.inl ⟨by kernel_rfl, fun W0 hS => run_eql9 (C := restA c) (D := restA b) rfl (by kernel_rfl) (by kernel_rfl) (by kernel_rfl) (by rw [← hr]; exact eql98 b W0)⟩) H.1 sh fun sh => ?_
  refine takeQ 7 (v := .bool true) rfl H.1 sh fun sh => ?_
  refine takeQ 8 (v := .pointer (some ⟨N, 36, none⟩)) rfl H.1 sh fun sh => ?_
  refine takeV 9 N 36 (.slice Bf c.files.length df) rfl rfl rfl rfl (fun W hS => (blk_cells hS.1 36).trans rfl) H.1 sh fun sh => ?_
  refine takeQ 10 (v := .pointer (some ⟨N + 1, 36, none⟩)) rfl H.1 sh fun sh => ?_
  refine takeV 11 (N + 1) 36 (.slice Af b.files.length cf) rfl rfl rfl rfl (fun W hS => (blk_cells hS.2 36).trans rfl) H.1 sh fun sh => ?_
  refine till1 12 rfl (stepL 45 #[.slice Bf c.files.length df, .slice Af b.files.length cf] (equal_45f hf b.files Bf Af df cf W (hf ▸ H.2.2.1.files) H.2.2.2.1.files (by omega) (hf ▸ H.2.2.1.lf) H.2.2.2.1.lf) nx H (fun _ h => h.1) ?_)
  intro W H
  replace sh := sh.put (i := 12) (by kernel_rfl)
  refine takeQ 13 (v := .bool true) rfl H.1 sh fun sh => ?_
  refine takeQ 14 (v := .bool true) rfl H.1 sh fun sh => ?_
  refine takeQ 15 (v := .pointer (some ⟨N, 37, none⟩)) rfl H.1 sh fun sh => ?_
  refine takeV 16 N 37 (.slice Bc c.clashes.length dc) rfl rfl rfl rfl (fun W hS => (blk_cells hS.1 37).trans rfl) H.1 sh fun sh => ?_
  refine takeQ 17 (v := .pointer (some ⟨N + 1, 37, none⟩)) rfl H.1 sh fun sh => ?_
  refine takeV 18 (N + 1) 37 (.slice Ac b.clashes.length cc) rfl rfl rfl rfl (fun W hS => (blk_cells hS.2 37).trans rfl) H.1 sh fun sh => ?_
  refine till1 19 rfl (stepL 46 #[.slice Bc c.clashes.length dc, .slice Ac b.clashes.length cc] (equal_46f hc b.clashes Bc Ac dc cc W (hc ▸ H.2.2.1.clashes) H.2.2.2.1.clashes (by omega) (hc ▸ H.2.2.1.lc) H.2.2.2.1.lc) nx H (fun _ h => h.1) ?_)
  intro W H
  replace sh := sh.put (i := 19) (by kernel_rfl)
  refine takeQ 20 (v := .bool true) rfl H.1 sh fun sh => ?_
  refine takeQ 21 (v := .bool true) rfl H.1 sh fun sh => ?_
  refine takeQ 22 (v := .pointer (some ⟨N, 42, none⟩)) rfl H.1 sh fun sh => ?_
  refine takeV 23 N 42 (.slice Bi c.ids.length di) rfl rfl rfl rfl (fun W hS => (blk_cells hS.1 42).trans rfl) H.1 sh fun sh => ?_
  refine takeQ 24 (v := .pointer (some ⟨N + 1, 42, none⟩)) rfl H.1 sh fun sh => ?_
  refine takeV 25 (N + 1) 42 (.slice Ai b.ids.length ci) rfl rfl rfl rfl (fun W hS => (blk_cells hS.2 42).trans rfl) H.1 sh fun sh => ?_
  refine till1 26 rfl (stepL 47 #[.slice Bi c.ids.length di, .slice Ai b.ids.length ci] (equal_47f hi b.ids Bi Ai di ci W H.2.2.2.2 H.2.2.2.1.ids (by omega) (hi ▸ H.2.2.1.li) H.2.2.2.1.li) nx H (fun _ h => h.1) ?_)
  intro W H
  replace sh := sh.put (i := 26) (by kernel_rfl)
  refine takeQ 27 (v := .bool true) rfl H.1 sh fun sh => ?_
  refine takeQ 28 (v := .bool true) rfl H.1 sh fun sh => ?_
  refine wpTill_done (by kernel_rfl) ?_ _
  simp only [Exit.then, Act.put, CL]
  exact KEY W H
 case key =>
  clear H0
  intro W9 H0
  replace H0 := Lib.hid H0
  have hN := HN.out
  go_wp2_with fail
  go_ret
  (try rw [hN])
  exact ⟨rfl, H0.out.2.1⟩
end Go.Proofs.YtimioelnnhnbiaaGreatDoor
namespace Go.Proofs.YtimioelnnhnbiaaGreatDoor
open Go.RowKit
theorem hexI_lt {n : Nat} (h : n < 16) : hexI (hB n) = n := hexI_hB ⟨n, h⟩
theorem idGo_hex : ∀ (l : List UInt8) (d : Nat) (I : Nat → UInt8), (∀ j, d ≤ j → I j = 0) →
  ∃ J, idGo (2 * d) (hexT l) I = some J ∧ (∀ j, j < d → J j = I j) ∧ (∀ j c, l[j]? = some c → J (d + j) = c)
 | [], d, I, _ => ⟨I, rfl, fun _ _ => rfl, fun j c h => by simp at h⟩
 | c :: t, d, I, hI => by
  have h1 : c.toNat / 16 < 16 := by have := c.toNat_lt; omega
  have h2 : c.toNat % 16 < 16 := Nat.mod_lt _ (by decide)
  have e : hexT (c :: t) = hB (c.toNat / 16) :: hB (c.toNat % 16) :: hexT t := by unfold hexT; rw [List.flatMap_cons]; rfl
  rw [e]
  unfold idGo
  rw [hexI_lt h1, if_neg (by omega)]
  unfold idGo
  rw [hexI_lt h2, if_neg (by omega)]
  have hd : 2 * d / 2 = d := by omega
  have hd2 : (2 * d + 1) / 2 = d := by omega
  rw [hd, hd2]
  have hv : UInt8.ofNat (16 * (setId I d (UInt8.ofNat (16 * (I d).toNat + c.toNat / 16)) d).toNat + c.toNat % 16) = c := by
   have : (setId I d (UInt8.ofNat (16 * (I d).toNat + c.toNat / 16)) d) = UInt8.ofNat (c.toNat / 16) := by
    unfold setId
    rw [if_pos rfl, hI d (Nat.le_refl _)]
    simp
   rw [this]
   apply UInt8.toNat_inj.1
   have hc := c.toNat_lt
   simp only [UInt8.toNat_ofNat']
   omega
  rw [hv]
  obtain ⟨J, g1, g2, g3⟩ := idGo_hex t (d + 1) (setId (setId I d (UInt8.ofNat (16 * (I d).toNat + c.toNat / 16))) d c) (fun j hj => by
   unfold setId
   rw [if_neg (by omega), if_neg (by omega)]
   exact hI j (by omega))
  refine ⟨J, by rw [show 2 * d + 1 + 1 = 2 * (d + 1) by omega]; exact g1, fun j hj => ?_, fun j c' hj => ?_⟩
  ·rw [g2 j (by omega)]
   unfold setId
   rw [if_neg (by omega), if_neg (by omega)]
  ·cases j with
   | zero =>
    simp at hj
    subst hj
    rw [Nat.add_zero, g2 d (by omega)]
    unfold setId
    rw [if_pos rfl]
   | succ k =>
    have := g3 k c' (by simpa using hj)
    rw [show d + (k + 1) = d + 1 + k by omega]
    exact this
theorem idC_ext {I J : Nat → UInt8} (h : ∀ j, j < 32 → I j = J j) : idC I = idC J := by
 unfold idC
 simp only [h 0 (by decide), h 1 (by decide), h 2 (by decide), h 3 (by decide), h 4 (by decide), h 5 (by decide), h 6 (by decide), h 7 (by decide), h 8 (by decide), h 9 (by decide), h 10 (by decide), h 11 (by decide), h 12 (by decide), h 13 (by decide), h 14 (by decide), h 15 (by decide), h 16 (by decide), h 17 (by decide), h 18 (by decide), h 19 (by decide), h 20 (by decide), h 21 (by decide), h 22 (by decide), h 23 (by decide), h 24 (by decide), h 25 (by decide), h 26 (by decide), h 27 (by decide), h 28 (by decide), h 29 (by decide), h 30 (by decide), h 31 (by decide)]
theorem id_back (I : Nat → UInt8) : ∀ j, j < 32 → idOf (jId I) j = I j := by
 show ∀ j, j < 32 → unidP (idS I) j = I j
 unfold idS
 by_cases h : alikeId I noId = true
 ·rw [if_pos h]
  unfold alikeId at h
  have h := of_decide_eq_true h
  intro j hj
  rw [h j (List.mem_range.2 hj)]
  rfl
 ·rw [if_neg h]
  intro j hj
  obtain ⟨J, g1, _, g3⟩ := idGo_hex (idL I) 0 noId (fun _ _ => rfl)
  have : unidP (idText I) = J := by
   unfold unidP unidO idText
   rw [if_pos (by rw [hexT_len]; rfl)]
   rw [show (0 : Nat) = 2 * 0 from rfl, g1]
   rfl
  rw [this]
  have := g3 j (I j) (idL_at I j hj)
  rwa [Nat.zero_add] at this
theorem idC_back (I : Nat → UInt8) : idC (idOf (jId I)) = idC I := idC_ext (id_back I)
theorem idL_ext {I J : Nat → UInt8} (h : ∀ j, j < 32 → I j = J j) : idL I = idL J := by
 apply List.ext_getElem?
 intro i
 by_cases hi : i < 32
 ·rw [idL_at I i hi, idL_at J i hi, h i hi]
 ·rw [List.getElem?_eq_none (by simp [idL]; omega), List.getElem?_eq_none (by simp [idL]; omega)]
theorem jId_back (I : Nat → UInt8) : jId (idOf (jId I)) = jId I := by
 have h := id_back I
 generalize idOf (jId I) = J at h ⊢
 unfold jId idS idText alikeId
 rw [idL_ext h]
 have : (∀ j ∈ List.range 32, J j = noId j) ↔ (∀ j ∈ List.range 32, I j = noId j) := by
  constructor <;> intro k j hj
  ·rw [← h j (List.mem_range.1 hj)]; exact k j hj
  ·rw [h j (List.mem_range.1 hj)]; exact k j hj
 simp only [this]
theorem files_back (l : List (Js.Bs × Js.Bs)) : (l.map jFile).map fileOf = l := by
 rw [List.map_map, show fileOf ∘ jFile = id from funext fun _ => by kernel_rfl, List.map_id]
theorem clashes_back (l : List PClash) : (l.map jClash).map clashOf = l := by
 rw [List.map_map, show clashOf ∘ jClash = id from funext fun _ => by kernel_rfl, List.map_id]
theorem nums_back (l : List Int) : (l.map jNum).map Js.J.num = l := by
 rw [List.map_map, show Js.J.num ∘ jNum = id from funext fun _ => rfl, List.map_id]
theorem ask_back (a : PAsk) : askJ (askP (askJ a)) = askJ a := by
 have h : askP (askJ a) = { a with base := idOf (jId a.base), files := (a.files.map jFile).map fileOf, order := (a.order.map jNum).map Js.J.num, args := (a.args.map jNum).map Js.J.num } := by kernel_rfl
 rw [h, files_back, nums_back, nums_back]
 unfold askJ
 rw [jId_back]
 rfl
theorem ans_back (b : PAnswer) : ansP (ansJ b) = { b with commit := idOf (jId b.commit), ids := (b.ids.map jId).map idOf } := by
 have h : ansP (ansJ b) = { b with commit := idOf (jId b.commit), files := (b.files.map jFile).map fileOf, clashes := (b.clashes.map jClash).map clashOf, ids := (b.ids.map jId).map idOf } := by kernel_rfl
 rw [h, files_back, clashes_back]
theorem ansJ_back (b : PAnswer) : ansJ (ansP (ansJ b)) = ansJ b := by
 rw [ans_back]
 unfold ansJ
 have h : ((b.ids.map jId).map idOf).map jId = b.ids.map jId := by
  rw [List.map_map, List.map_map]
  exact List.map_congr_left fun I _ => jId_back I
 rw [jId_back, h]
 rfl
theorem rest_back (b : PAnswer) : restA b = restA (ansP (ansJ b)) := by
 rw [ans_back]
 unfold restA restL
 rw [idC_back]
theorem rowAt_back {w : World} {A : Option Addr} {l : List (Nat → UInt8)} (h : RowAt 32 idC w A ((l.map jId).map idOf)) : RowAt 32 idC w A l := by
 intro k x hx
 obtain ⟨g, o, h1, h2, h3⟩ := h k (idOf (jId x)) (by rw [List.map_map, List.getElem?_map, hx]; rfl)
 exact ⟨g, o, h1, h2, fun j u hu => h3 j u (by rw [idC_back]; exact hu)⟩
theorem askE_back {a : PAsk} (h : Js.right (askJ a) = true) : toAskE (askJ a) = 0 := by
 unfold toAskE
 rw [if_pos h, ask_back, if_pos (Js.same_self _)]
theorem ansE_back {b : PAnswer} (h : Js.right (ansJ b) = true) : toAnsE (ansJ b) = 0 := by
 unfold toAnsE
 rw [if_pos h, ansJ_back, if_pos (Js.same_self _)]
end Go.Proofs.YtimioelnnhnbiaaGreatDoor
namespace Go.Proofs.YtimioelnnhnbiaaGreatDoor
open Go.RowKit
def zeroC : List Value := [.int .i64 0, .bool false, .int .i64 0, .string ⟨#[]⟩, .slice none 0 0, .slice none 0 0]
def okJ (x : Js.J) : Js.J := if Js.right x then x else Js.zero
set_option maxRecDepth 100000 in
set_option maxHeartbeats 8000000 in
theorem checked_any (x : Js.J) (vs : List Value) (S : Nat → Prop) (w : World) (hjv : JV w S x vs) (hSw : ∀ g, S g → g < w.heap.size) (hno : Js.nodes x ≤ 70000 ∧ Js.bytes x ≤ 70000 ∧ Js.deep x ≤ 70000) :
  Calls Tryz.prog 43 #[.agg vs.toArray] w fun e w' => Below w.heap.size w w' ∧ ∃ us, e = .returned (.tuple #[.agg us.toArray, .int .i64 (encErr x)]) ∧ JV w' S (okJ x) us := by
 have HNO := Lib.hid hno
 have hvs := hjv.len
 have hone := hjv.one
 have b1 := below_box w (.cells vs.toArray 25)
 have s1 : (w.alloc (.cells vs.toArray 25)).heap.size = w.heap.size + 1 := by simp
 have e1 := heap_alloc_new w (.cells vs.toArray 25)
 have b2 := below_box (w.alloc (.cells vs.toArray 25)) (.cells zeroC.toArray 25)
 have e2 := heap_alloc_new (w.alloc (.cells vs.toArray 25)) (.cells zeroC.toArray 25)
 rw [s1] at e2
 have HT0 : Ta w w.heap.size vs zeroC.toArray 25 ((w.alloc (.cells vs.toArray 25)).alloc (.cells #[.int .i64 0, .bool false, .int .i64 0, .string ⟨#[]⟩, .slice none 0 0, .slice none 0 0] 25)) := ⟨blk_next b2 e1, e2, b1.trans (b2.mono (by rw [s1]; omega))⟩
 have HX0 : JV ((w.alloc (.cells vs.toArray 25)).alloc (.cells #[.int .i64 0, .bool false, .int .i64 0, .string ⟨#[]⟩, .slice none 0 0, .slice none 0 0] 25)) S x vs := (hjv.next b1).next b2
 clear b1 s1 e1 b2 e2 hjv hno
 go_enter Tryz.func43, Tryz.ntmps43
 go_upto_region 1 with fail
 generalize ((w.alloc (.cells vs.toArray 25)).alloc (.cells #[.int .i64 0, .bool false, .int .i64 0, .string ⟨#[]⟩, .slice none 0 0, .slice none 0 0] 25)) = w2 at HT0 HX0 ⊢
 have HT := Lib.hid HT0
 have HX := Lib.hid HX0
 clear HT0 HX0
 obtain ⟨N, hN⟩ : ∃ N, w.heap.size = N := ⟨_, rfl⟩
 rw [hN] at HT hSw ⊢
 have HN := Lib.hid hN
 have HSL := Lib.hid hSw
 clear hN hSw
 go_wp2_with (refine wpList_load_row rfl 25 _ rfl N rfl vs.toArray HT.out.arg _ Tryz.underlying25 rfl (by rw [info25s]; simp [hvs]) ?_)
 refine (check_any x vs S w2 HX.out (HT.out.sub HSL.out) (by have := HNO.out; omega) (by have := HNO.out; omega) (by have := HNO.out; omega)).mono ?_
 rintro e wa ⟨rfl, hb⟩
 have H0 : Hid (Ta w N vs zeroC.toArray 25 wa ∧ JV wa S x vs) := Lib.hid ⟨HT.out.next hb, HX.out.next hb⟩
 clear hb HT HX
 by_cases hr : Js.right x = true
 case neg =>
  have hee : encErr x = 2 := by unfold encErr; rw [if_neg hr]
  rw [hee]
  go_wp2_with (first | (refine wpList_buildTo rfl 25 #[] rfl zeroC.toArray (by rw [show (Array.map (fun (x : Nat × Operand) => (x.1, Act.eval _ x.2)) #[]).toList = [] from by simp]; kernel_rfl) ?_) | (refine wpList_store_row rfl 25 _ _ rfl (N + 1) rfl zeroC.toArray zeroC.toArray rfl H0.out.1.res rfl (by rw [info25s]; rfl) (by intro v hv; simp [zeroC] at hv; rcases hv with rfl | rfl | rfl | rfl | rfl <;> rfl) ?_; intro w8 hk8 hx8))
  refine bodyPost_ret (results_cell_tmp rfl _ _ _ (N + 1) zeroC.toArray rfl (run_loadVar_row _ (N + 1) 25 25 zeroC.toArray (0, 0) _ hx8 Tryz.underlying25 rfl (by rw [info25s]; rfl))) rfl ?_
  (try rw [HN.out])
  exact ⟨H0.out.1.low.trans (hk8.to (by have := H0.out.1.size; omega) (by intro j hj; simp at hj; omega)), zeroC, by rw [hee]; rfl, by unfold okJ; rw [if_neg hr]; exact JV.leaf _ _ 0 false 0 []⟩
 have hee : encErr x = 0 := by unfold encErr; rw [if_pos hr]
 rw [hee]
 go_wp2_with (first | (refine wpList_load_row rfl 25 _ rfl N rfl vs.toArray H0.out.1.arg _ Tryz.underlying25 rfl (by rw [info25s]; simp [hvs]) ?_) | (refine wpList_store_row rfl 25 _ _ rfl (N + 1) rfl zeroC.toArray vs.toArray rfl H0.out.1.res (by simp [hvs, zeroC]) (by rw [info25s]; simp [hvs]) (by simpa using hone) ?_; intro w8 hk8 hx8))
 refine bodyPost_ret (results_cell_tmp rfl _ _ _ (N + 1) vs.toArray rfl (run_loadVar_row _ (N + 1) 25 25 vs.toArray (0, 0) _ hx8 Tryz.underlying25 rfl (by rw [info25s]; simp [hvs]))) rfl ?_
 (try rw [HN.out])
 exact ⟨H0.out.1.low.trans (hk8.to (by have := H0.out.1.size; omega) (by intro j hj; simp at hj; omega)), vs, by rw [hee]; rfl, by unfold okJ; rw [if_pos hr]; exact H0.out.2.but hk8 (fun j hj hs => by simp at hj; subst hj; have := HSL.out _ hs; omega)⟩
set_option maxRecDepth 100000 in
set_option maxHeartbeats 8000000 in
theorem fromAsk_any (a : PAsk) (Af : Option Addr) (cf : Nat) (Ao : Option Addr) (co : Nat) (Aa : Option Addr) (ca : Nat) (w : World) (hR : AskRows w a Af cf Ao co Aa ca) (hlen : a.files.length ≤ 1000000 ∧ a.order.length ≤ 1000000 ∧ a.args.length ≤ 1000000) (hno : Js.nodes (askJ a) ≤ 70000 ∧ Js.bytes (askJ a) ≤ 70000 ∧ Js.deep (askJ a) ≤ 70000) :
  Calls Tryz.prog 13 #[.agg (askA a Af cf Ao co Aa ca)] w fun e w' => Below w.heap.size w w' ∧ ∃ us, e = .returned (.tuple #[.agg us.toArray, .int .i64 (encErr (askJ a))]) ∧ JV w' (fun g => w.heap.size ≤ g) (okJ (askJ a)) us := by
 have HR := Lib.hid hR
 have HLEN := Lib.hid hlen
 have HNO := Lib.hid hno
 have b1 := below_box w (.cells (askA a Af cf Ao co Aa ca) 38)
 have s1 : (w.alloc (.cells (askA a Af cf Ao co Aa ca) 38)).heap.size = w.heap.size + 1 := by simp
 have e1 := heap_alloc_new w (.cells (askA a Af cf Ao co Aa ca) 38)
 have b2 := below_box (w.alloc (.cells (askA a Af cf Ao co Aa ca) 38)) (.cells zeroC.toArray 25)
 have e2 := heap_alloc_new (w.alloc (.cells (askA a Af cf Ao co Aa ca) 38)) (.cells zeroC.toArray 25)
 rw [s1] at e2
 have hF0 : ((w.alloc (.cells (askA a Af cf Ao co Aa ca) 38)).alloc (.cells #[.int .i64 0, .bool false, .int .i64 0, .string ⟨#[]⟩, .slice none 0 0, .slice none 0 0] 25)).heap[w.heap.size]? = some (.cells (askA a Af cf Ao co Aa ca) 38 (0, 0)) := blk_next b2 e1
 have hF1 : ((w.alloc (.cells (askA a Af cf Ao co Aa ca) 38)).alloc (.cells #[.int .i64 0, .bool false, .int .i64 0, .string ⟨#[]⟩, .slice none 0 0, .slice none 0 0] 25)).heap[w.heap.size + 1]? = some (.cells zeroC.toArray 25 (0, 0)) := e2
 have hF2 : Below w.heap.size w ((w.alloc (.cells (askA a Af cf Ao co Aa ca) 38)).alloc (.cells #[.int .i64 0, .bool false, .int .i64 0, .string ⟨#[]⟩, .slice none 0 0, .slice none 0 0] 25)) := b1.trans (b2.mono (by rw [s1]; omega))
 clear b1 s1 e1 b2 e2 hR hlen hno
 go_enter Tryz.func13, Tryz.ntmps13
 go_upto_region 1 with fail
 generalize ((w.alloc (.cells (askA a Af cf Ao co Aa ca) 38)).alloc (.cells #[.int .i64 0, .bool false, .int .i64 0, .string ⟨#[]⟩, .slice none 0 0, .slice none 0 0] 25)) = w2 at hF0 hF1 hF2 ⊢
 have HR2 := Lib.hid (HR.out.next hF2)
 have H0 := Lib.hid hF0
 have H1 := Lib.hid hF1
 have H2 := Lib.hid hF2
 clear hF0 hF1 hF2
 obtain ⟨N, hN⟩ : ∃ N, w.heap.size = N := ⟨_, rfl⟩
 rw [hN] at H0 H1 H2 ⊢
 have HN := Lib.hid hN
 clear hN
 go_wp2_with (refine wpList_load_row rfl 38 _ rfl N rfl (askA a Af cf Ao co Aa ca) H0.out _ Tryz.underlying38 rfl info38 ?_)
 refine (asked_any a Af cf Ao co Aa ca w2 HR2.out HLEN.out).mono ?_
 rintro e w3 ⟨hb, us, rfl, hj⟩
 have hsz : N + 2 ≤ w2.heap.size := (Array.getElem?_eq_some_iff.1 H1.out).1
 have H3 := Lib.hid (H2.out.trans (hb.mono (by omega)))
 have H4 := Lib.hid (blk_next hb H1.out)
 have HJ : Hid (JV w3 (fun g => N + 2 ≤ g ∧ g < w3.heap.size) (askJ a) us) := Lib.hid (hj.wide (fun g hg h2 => ⟨by omega, h2⟩))
 clear hb hj hsz H0 H1 H2
 go_wp2_with fail
 refine (checked_any (askJ a) us _ w3 HJ.out (fun g hg => hg.2) HNO.out).mono ?_
 rintro e w4 ⟨hb, vs, rfl, hj⟩
 have hvs := hj.len
 have hone := hj.one
 have H5 := Lib.hid (H3.out.trans (hb.mono (by have := (Array.getElem?_eq_some_iff.1 H4.out).1; omega)))
 have H6 := Lib.hid (blk_next hb H4.out)
 have HJ2 := Lib.hid hj
 have HSZ := Lib.hid (show N + 2 ≤ w4.heap.size from Nat.le_trans (Array.getElem?_eq_some_iff.1 H4.out).1 hb.size)
 clear hb hj H3 H4
 go_wp2_with (refine wpList_store_row rfl 25 _ _ rfl (N + 1) rfl zeroC.toArray vs.toArray rfl H6.out (by simp [hvs, zeroC]) (by rw [info25s]; simp [hvs]) (by simpa using hone) ?_; intro w8 hk8 hx8)
 refine bodyPost_ret (results_cell_tmp rfl _ _ _ (N + 1) vs.toArray rfl (run_loadVar_row _ (N + 1) 25 25 vs.toArray (0, 0) _ hx8 Tryz.underlying25 rfl (by rw [info25s]; simp [hvs]))) rfl ?_
 (try rw [HN.out])
 exact ⟨H5.out.trans (hk8.to (by have := HSZ.out; omega) (by intro j hj; simp at hj; omega)), vs, rfl, (HJ2.out.but hk8 (fun j hj hs => by simp at hj; subst hj; have := hs.1; omega)).wide (fun g hg _ => by have := hg.1; omega)⟩
set_option maxRecDepth 100000 in
set_option maxHeartbeats 8000000 in
theorem fromAnswer_any (b : PAnswer) (Af : Option Addr) (cf : Nat) (Ac : Option Addr) (cc : Nat) (Ai : Option Addr) (ci : Nat) (w : World) (hR : AnsRows w b Af cf Ac cc Ai ci) (hlen : b.files.length ≤ 1000000 ∧ b.clashes.length ≤ 1000000 ∧ b.ids.length ≤ 1000000) (hno : Js.nodes (ansJ b) ≤ 70000 ∧ Js.bytes (ansJ b) ≤ 70000 ∧ Js.deep (ansJ b) ≤ 70000) :
  Calls Tryz.prog 14 #[.agg (ansA b Af cf Ac cc Ai ci)] w fun e w' => Below w.heap.size w w' ∧ ∃ us, e = .returned (.tuple #[.agg us.toArray, .int .i64 (encErr (ansJ b))]) ∧ JV w' (fun g => w.heap.size ≤ g) (okJ (ansJ b)) us := by
 have HR := Lib.hid hR
 have HLEN := Lib.hid hlen
 have HNO := Lib.hid hno
 have b1 := below_box w (.cells (ansA b Af cf Ac cc Ai ci) 49)
 have s1 : (w.alloc (.cells (ansA b Af cf Ac cc Ai ci) 49)).heap.size = w.heap.size + 1 := by simp
 have e1 := heap_alloc_new w (.cells (ansA b Af cf Ac cc Ai ci) 49)
 have b2 := below_box (w.alloc (.cells (ansA b Af cf Ac cc Ai ci) 49)) (.cells zeroC.toArray 25)
 have e2 := heap_alloc_new (w.alloc (.cells (ansA b Af cf Ac cc Ai ci) 49)) (.cells zeroC.toArray 25)
 rw [s1] at e2
 have hF0 : ((w.alloc (.cells (ansA b Af cf Ac cc Ai ci) 49)).alloc (.cells #[.int .i64 0, .bool false, .int .i64 0, .string ⟨#[]⟩, .slice none 0 0, .slice none 0 0] 25)).heap[w.heap.size]? = some (.cells (ansA b Af cf Ac cc Ai ci) 49 (0, 0)) := blk_next b2 e1
 have hF1 : ((w.alloc (.cells (ansA b Af cf Ac cc Ai ci) 49)).alloc (.cells #[.int .i64 0, .bool false, .int .i64 0, .string ⟨#[]⟩, .slice none 0 0, .slice none 0 0] 25)).heap[w.heap.size + 1]? = some (.cells zeroC.toArray 25 (0, 0)) := e2
 have hF2 : Below w.heap.size w ((w.alloc (.cells (ansA b Af cf Ac cc Ai ci) 49)).alloc (.cells #[.int .i64 0, .bool false, .int .i64 0, .string ⟨#[]⟩, .slice none 0 0, .slice none 0 0] 25)) := b1.trans (b2.mono (by rw [s1]; omega))
 clear b1 s1 e1 b2 e2 hR hlen hno
 go_enter Tryz.func14, Tryz.ntmps14
 go_upto_region 1 with fail
 generalize ((w.alloc (.cells (ansA b Af cf Ac cc Ai ci) 49)).alloc (.cells #[.int .i64 0, .bool false, .int .i64 0, .string ⟨#[]⟩, .slice none 0 0, .slice none 0 0] 25)) = w2 at hF0 hF1 hF2 ⊢
 have HR2 := Lib.hid (HR.out.next hF2)
 have H0 := Lib.hid hF0
 have H1 := Lib.hid hF1
 have H2 := Lib.hid hF2
 clear hF0 hF1 hF2
 obtain ⟨N, hN⟩ : ∃ N, w.heap.size = N := ⟨_, rfl⟩
 rw [hN] at H0 H1 H2 ⊢
 have HN := Lib.hid hN
 clear hN
 go_wp2_with (refine wpList_load_row rfl 49 _ rfl N rfl (ansA b Af cf Ac cc Ai ci) H0.out _ Tryz.underlying49 rfl info49 ?_)
 refine (answered_any b Af cf Ac cc Ai ci w2 HR2.out HLEN.out).mono ?_
 rintro e w3 ⟨hb, us, rfl, hj⟩
 have hsz : N + 2 ≤ w2.heap.size := (Array.getElem?_eq_some_iff.1 H1.out).1
 have H3 := Lib.hid (H2.out.trans (hb.mono (by omega)))
 have H4 := Lib.hid (blk_next hb H1.out)
 have HJ : Hid (JV w3 (fun g => N + 2 ≤ g ∧ g < w3.heap.size) (ansJ b) us) := Lib.hid (hj.wide (fun g hg h2 => ⟨by omega, h2⟩))
 clear hb hj hsz H0 H1 H2
 go_wp2_with fail
 refine (checked_any (ansJ b) us _ w3 HJ.out (fun g hg => hg.2) HNO.out).mono ?_
 rintro e w4 ⟨hb, vs, rfl, hj⟩
 have hvs := hj.len
 have hone := hj.one
 have H5 := Lib.hid (H3.out.trans (hb.mono (by have := (Array.getElem?_eq_some_iff.1 H4.out).1; omega)))
 have H6 := Lib.hid (blk_next hb H4.out)
 have HJ2 := Lib.hid hj
 have HSZ := Lib.hid (show N + 2 ≤ w4.heap.size from Nat.le_trans (Array.getElem?_eq_some_iff.1 H4.out).1 hb.size)
 clear hb hj H3 H4
 go_wp2_with (refine wpList_store_row rfl 25 _ _ rfl (N + 1) rfl zeroC.toArray vs.toArray rfl H6.out (by simp [hvs, zeroC]) (by rw [info25s]; simp [hvs]) (by simpa using hone) ?_; intro w8 hk8 hx8)
 refine bodyPost_ret (results_cell_tmp rfl _ _ _ (N + 1) vs.toArray rfl (run_loadVar_row _ (N + 1) 25 25 vs.toArray (0, 0) _ hx8 Tryz.underlying25 rfl (by rw [info25s]; simp [hvs]))) rfl ?_
 (try rw [HN.out])
 exact ⟨H5.out.trans (hk8.to (by have := HSZ.out; omega) (by intro j hj; simp at hj; omega)), vs, rfl, (HJ2.out.but hk8 (fun j hj hs => by simp at hj; subst hj; have := hs.1; omega)).wide (fun g hg _ => by have := hg.1; omega)⟩
end Go.Proofs.YtimioelnnhnbiaaGreatDoor
