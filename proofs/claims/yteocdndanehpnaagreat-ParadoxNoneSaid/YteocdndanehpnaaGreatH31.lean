/- Several texts in one: RnQ, RoundB, QuM. -/
import Derived.Test.YteocdndanehpnaaGreatH17
import Derived.Test.YteocdndanehpnaaGreatH14
import Derived.Test.YteocdndanehpnaaGreatH02
import Derived.Test.YteocdndanehpnaaGreatH26
import Derived.Deep.DeepCutAuto
namespace Go.Proofs.YteocdndanehpnaaGreat
open Go.RowKit Go.Shelf
set_option linter.unusedSimpArgs false
set_option linter.unusedVariables false
theorem RowN.later {W w : World} {g n : Nat} {xs : List Int} (h : RowN W g n xs) (hl : Lat W w) : RowN w g n xs := by
 obtain ⟨cur, h1, h2⟩ := h
 exact ⟨cur, h1.later hl, h2⟩
theorem RowN.lt {W : World} {g n : Nat} {xs : List Int} (h : RowN W g n xs) : g < W.heap.size := by
 obtain ⟨cur, h1, h2⟩ := h
 exact h1.lt
theorem RowN.slot {W : World} {g n : Nat} {xs : List Int} (h : RowN W g n xs) {i : Nat} (hi : i < xs.length) : ∃ x, xs[i]? = some x ∧ W.cell? ⟨g, i, none⟩ = some (.int .i64 x) ∧ W.frozen? ⟨g, i, none⟩ = false := by
 refine ⟨xs[i], List.getElem?_eq_getElem hi, h.cell (List.getElem?_eq_getElem hi), ?_⟩
 obtain ⟨cur, h1, _⟩ := h
 exact h1.frozen i
theorem RowN.of_blk {W : World} {g : Nat} {xs : List Int} (h : Blk W g 3 (nums .i64 xs)) : RowN W g xs.length xs :=
 ⟨_, h, by rw [show (nums .i64 xs).toList = xs.map (Value.int .i64) from rfl, List.take_of_length_le (by simp)], rfl, by simp [nums]⟩
theorem Own.rowN {w : World} {B : Nat} {v : Value} {xs : List Int} (h : Own w B 3 .i64 v xs) (hn : 0 < xs.length) : ∃ g c, v = .slice (some ⟨g, 0, none⟩) xs.length c ∧ RowN w g xs.length xs ∧ B ≤ g ∧ g < w.heap.size ∧ xs.length ≤ c := by
 obtain ⟨h1, h2⟩ := h
 rcases h2 with ⟨_, h0⟩ | ⟨g, cap, cur, hv, hb, hg, hnc, hm, hcs, ht⟩
 ·omega
 ·have hB : Blk w g 3 cur := hg
  refine ⟨g, cap, hv, ⟨cur, hB, by rw [Nat.mul_one] at ht; exact ht, rfl, by omega⟩, hb, hB.lt, hnc⟩
section
open Go.Sort
theorem rowN_holds {w : World} {g n : Nat} {xs : List Int} (h : RowN w g n xs) : Holds (Value.int .i64) w g 0 xs.toArray := by
 intro j hj
 have hj' : j < xs.length := by simpa using hj
 obtain ⟨cur, hb, _⟩ := id h
 refine ⟨?_, hb.frozen _⟩
 rw [Nat.zero_add, h.cell (List.getElem?_eq_getElem hj')]
 simp [hj']
theorem putRow_rowN {w w' : World} {g n q : Nat} {os : Array Obj} {xs ys : List Int} (h : RowN w g n xs) (hy : ys.length = n) (e : w' = grow (putRow (Value.int .i64) (Sort.ahead w q) g 0 ys.toArray) os) : RowN w' g n ys ∧ LatP (· = g) w w' := by
 obtain ⟨cur, hb, h1, h2, h3⟩ := h
 have hlt := hb.lt
 have hsz : (putRow (Value.int .i64) (Sort.ahead w q) g 0 ys.toArray).heap.size = w.heap.size := by simp [putRow, mapBlock, Sort.ahead]
 have hnew : w'.heap[g]? = some (.cells (putCells (Value.int .i64) 0 ys.toArray cur) 3 (0, 0)) := by
  rw [e, heap_grow_old _ _ (by rw [hsz]; exact hlt)]
  unfold Blk at hb
  simp [putRow, mapBlock, Sort.ahead, Array.getElem?_modify, hb, onCells]
 refine ⟨⟨_, hnew, ?_, hy, by simp [putCells]; exact h3⟩, ?_⟩
 ·apply List.ext_getElem?
  intro k
  rw [List.getElem?_take, List.getElem?_map]
  split
  ·rename_i hk
   have hk' : k < ys.length := by omega
   have hkc : k < cur.size := by omega
   simp [putCells, Array.getElem?_mapIdx, hk', hkc, List.getElem?_eq_getElem hk']
  ·rw [List.getElem?_eq_none (by omega)]; rfl
 ·refine ⟨by rw [e]; rfl, by rw [e]; rfl, by rw [e]; rfl, by rw [e]; simp [grow, hsz], fun k hk hne => ?_⟩
  rw [e, heap_grow_old _ _ (by rw [hsz]; exact hk)]
  have hne' : ¬ g = k := fun h => hne h.symm
  simp [putRow, mapBlock, Sort.ahead, Array.getElem?_modify, hne']
theorem sort_row {w : World} {g n c : Nat} {xs : List Int} (h : RowN w g n xs) (hn : n ≤ 1000) :
  Calls Tryz.prog 73 #[.slice (some ⟨g, 0, none⟩) n c] w (fun e w' => e = .returned (.tuple #[]) ∧ RowN w' g n (xs.mergeSort fun x y => decide (x ≤ y)) ∧ LatP (· = g) w w') := by
 have hl : xs.length = n := h.sl.1
 have := Tryz.slices_Sort_int g 0 c xs w (rowN_holds h) h.lt (by omega)
 rw [hl] at this
 refine this.mono ?_
 rintro e w' ⟨rfl, q, os, hw⟩
 exact ⟨rfl, putRow_rowN h (by rw [List.length_mergeSort]; exact hl) hw⟩
end
end Go.Proofs.YteocdndanehpnaaGreat
namespace Go.Proofs.YteocdndanehpnaaGreat
open Go.RowKit
theorem rangeFunc_bd {P : Program} {g : Operand} {ps : Array Tmp} {assign body : Code} {Q : Exit → Act → World → Prop} {a : Act} {w : World} {id : Nat} {gf : Nat} {bd : Array Value}
  (hg : a.eval g = .func (.func gf) bd #[]) (eg : ∀ args w, (callFunc gf args).run P w = .ok (.enter gf args) w)
  (h : ∀ (fn : FuncId) (W1 : World), W1 = (w.alloc (.deferred (some []))).alloc (.loop (recOf a fn ps assign body w.heap.size .ready none)) →
    Calls P gf (bd ++ #[.func (.yield (w.heap.size + 1)) #[] #[]]) W1 (iterEnds (w.heap.size + 1) w.heap.size id (recOf a fn ps assign body w.heap.size) Q a)) :
  (Code.rangeFunc g ps assign body).wp P Q a w := by
 refine (wpIn_wide (n := 3)).1 (wpIn_rangeFunc (F := Fence.wide) (n := 3) ?_)
 intro fn _
 have hro : Fence.wide.round = none := rfl
 rw [hro]
 have h' := h fn _ rfl
 obtain ⟨W1, hW1⟩ : ∃ W1, (w.alloc (.deferred (some []))).alloc (.loop (recOf a fn ps assign body w.heap.size .ready none)) = W1 := ⟨_, rfl⟩
 rw [hW1] at h'
 refine ⟨w.heap.size + 1, [{ target := .collected w.heap.size, args := #[] }], W1, { target := .fn (.func gf) #[], args := bd ++ #[.func (.yield (w.heap.size + 1)) #[] #[]] }, W1, gf,
  bd ++ #[.func (.yield (w.heap.size + 1)) #[] #[]], W1, ?_, ?_, fun _ _ => trivial, ?_, ?_, ?_⟩
 ·have := run_enterLoop_outer (P := P) (w := w) fn a.tmps ps assign body
  rw [this, ← hW1]
  rfl
 ·clear h h' eg
  simp only [resolve, hg]
  simp [go_sem]
 ·clear h h' hg
  simp [invoke, go_sem, eg]
 ·intro hh; cases hh
 ·rw [show (3 - 1 : Nat) = 2 from rfl]
  refine callsIn_wide.2 (h'.mono ?_)
  rintro e w2 ⟨v, rfl, h⟩
  rcases h with ⟨h1, h2⟩ | ⟨h1, h2⟩
  ·exact ⟨none, _, run_endLoop h1 (by simp [recOf]), h2⟩
  ·exact ⟨some (.exit id), _, run_endLoop h1 (by simp [recOf]), wpIn_exit h2⟩
theorem leave_marks2 {P : Program} {fn : Func} {R : Ending → World → Prop} {tmps : Array Value} {w : World} {v : Value} {D2 D1 : Nat} (hK2 : w.heap[D2]? = some (.deferred (some []))) (hK1 : (w.putObj D2 (.deferred none)).heap[D1]? = some (.deferred (some [])))
  (hr : (results fn tmps).run P ((w.putObj D2 (.deferred none)).putObj D1 (.deferred none)) = .ok v ((w.putObj D2 (.deferred none)).putObj D1 (.deferred none))) (hR : R (.returned v) ((w.putObj D2 (.deferred none)).putObj D1 (.deferred none))) :
  marksPost P fn R .ret { tmps := tmps, defers := [{ target := .collected D2, args := #[] }, { target := .collected D1, args := #[] }] } w :=
 ⟨by simp, .inl ⟨D2, _, rfl, run_takeDeferred hK2, by simp, .inl ⟨D1, _, rfl, run_takeDeferred hK1, v, hr, hR⟩⟩⟩
end Go.Proofs.YteocdndanehpnaaGreat
namespace Go.Proofs.YteocdndanehpnaaGreat
open Go.RowKit
set_option linter.unusedSimpArgs false
set_option linter.unusedVariables false
def prs (xs : List (Int × Int)) : List (List Value) := xs.map fun x => [.int .i64 x.1, .int .i64 x.2]
def bls (bs : List Bool) : List (List Value) := bs.map fun b => [.bool b]
def memL (bs : List Bool) (k : Nat) : List Nat := (List.range k).filter fun i => bs.getD i false
theorem memL_yes {bs : List Bool} {k : Nat} (h : bs[k]? = some true) : memL bs (k + 1) = memL bs k ++ [k] := by
 unfold memL
 rw [List.range_succ, List.filter_append]
 simp [List.getD_eq_getElem?_getD, h]
theorem memL_no {bs : List Bool} {k : Nat} (h : bs[k]? = some false) : memL bs (k + 1) = memL bs k := by
 unfold memL
 rw [List.range_succ, List.filter_append]
 simp [List.getD_eq_getElem?_getD, h]
theorem memL_len (bs : List Bool) (k : Nat) : (memL bs k).length ≤ k := by
 have := List.length_filter_le (fun i => bs.getD i false) (List.range k)
 rw [List.length_range] at this
 exact this
theorem mem_memL {bs : List Bool} {k i : Nat} : i ∈ memL bs k ↔ i < k ∧ bs[i]? = some true := by
 unfold memL
 rw [List.mem_filter, List.mem_range, List.getD_eq_getElem?_getD]
 cases h : bs[i]? with
 | none => simp
 | some b => simp
theorem memL_asc (bs : List Bool) (k : Nat) : (memL bs k).Pairwise (· < ·) := List.pairwise_lt_range.sublist List.filter_sublist
theorem prs_at {xs : List (Int × Int)} {k : Nat} {a b : Int} (h : xs[k]? = some (a, b)) : (prs xs)[k]? = some [.int .i64 a, .int .i64 b] := by
 unfold prs; rw [List.getElem?_map, h]; rfl
theorem bls_at {bs : List Bool} {k : Nat} {b : Bool} (h : bs[k]? = some b) : (bls bs)[k]? = some [.bool b] := by
 unfold bls; rw [List.getElem?_map, h]; rfl
theorem blk_apart {W : World} {g g' : Nat} {t t' : TypeId} {cs cs' : Array Value} (h : Blk W g t cs) (h' : Blk W g' t' cs') (ht : t ≠ t') : g ≠ g' := by
 intro e
 subst e
 unfold Blk at h h'
 rw [h] at h'
 cases h'
 exact ht rfl
def YieldsM (xs : List (Int × Int)) (bs : List Bool) (l : Nat) (theirs : Nat → Prop) (I : List Nat → Option Nat → World → Prop) : Prop :=
 ∀ (g : Option Nat) (W : World) (i : Nat) (a b : Int), xs[i]? = some (a, b) → bs[i]? = some true → I (memL bs i) g W →
  YieldAt Fence.wide 2 Tryz.prog l #[.int .i64 i, .agg #[.int .i64 a, .int .i64 b]] W (fun e W' => ∃ b, e = .returned (.bool b) ∧ (b = true ∧ LatP (fun q => theirs q ∨ some q = g) W W' ∧ ∃ g', I (memL bs i ++ [i]) g' W'))
structure SetIs (W : World) (r gR gB n c c' : Nat) (xs : List (Int × Int)) (bs : List Bool) : Prop where
 blk : Blk W r 88 #[.slice (some ⟨gR, 0, none⟩) n c, .slice (some ⟨gB, 0, none⟩) n c']
 all : RowB W gR 90 2 (prs xs)
 isin : RowB W gB 4 1 (bls bs)
 lenx : xs.length = n
 lenb : bs.length = n
theorem SetIs.later {W w : World} {r gR gB n c c' : Nat} {xs : List (Int × Int)} {bs : List Bool} (h : SetIs W r gR gB n c c' xs bs) (hl : Lat W w) : SetIs w r gR gB n c c' xs bs :=
 ⟨h.blk.later hl, h.all.later hl, h.isin.later hl, h.lenx, h.lenb⟩
theorem SetIs.keepP {M : Nat → Prop} {W w : World} {r gR gB n c c' : Nat} {xs : List (Int × Int)} {bs : List Bool} (h : SetIs W r gR gB n c c' xs bs) (hl : LatP M W w) (h1 : ¬ M r) (h2 : ¬ M gR) (h3 : ¬ M gB) : SetIs w r gR gB n c c' xs bs :=
 ⟨h.blk.keepP hl h1, h.all.kept (hl.block _ h.all.lt h2), h.isin.kept (hl.block _ h.isin.lt h3), h.lenx, h.lenb⟩
set_option maxRecDepth 100000 in
set_option maxHeartbeats 1000000 in
theorem members_iter (xs : List (Int × Int)) (bs : List Bool) (r gR gB n c c' : Nat) (E : TypeId) (hE1 : E ≠ 88) (hE2 : E ≠ 90) (hE3 : E ≠ 4) (hn1 : n ≤ 1000000) (l : Nat) (theirs : Nat → Prop) (I : List Nat → Option Nat → World → Prop) (W0 : World)
  (hS : SetIs W0 r gR gB n c c' xs bs) (hI : ∀ L g W W', I L g W → Lat W W' → I L g W')
  (hg : ∀ L g W, I L g W → ∀ k, g = some k → ∃ cs, Blk W k E cs) (hth : ∀ k, theirs k → k < W0.heap.size ∧ k ≠ r ∧ k ≠ gR ∧ k ≠ gB) (hY : YieldsM xs bs l theirs I) (g0 : Option Nat) (hI0 : I [] g0 W0) :
  Calls Tryz.prog 59 #[.pointer (some ⟨r, 0, none⟩), .func (.yield l) #[] #[]] W0 (fun e W' => ∃ v, e = .returned v ∧ ∃ g, I (memL bs n) g W') := by
 have HI := Lib.hid hI
 have HG := Lib.hid hg
 have HTH := Lib.hid hth
 have HY := Lib.hid hY
 clear hI hg hth hY
 have c0 := hS.blk.cell 0
 go_enter Tryz.func59, Tryz.ntmps59
 go_wp2
 go_loopw [11] (fun t wr => ∃ (i : Nat) (g : Option Nat), i ≤ n ∧ t = .int .i64 i ∧ I (memL bs i) g wr ∧ SetIs wr r gR gB n c c' xs bs ∧ W0.heap.size ≤ wr.heap.size) (fun t _ => n - (intOf t).toNat)
 case atStart => exact ⟨0, g0, Nat.zero_le _, rfl, hI0, hS, Nat.le_refl _⟩
 case round =>
  obtain ⟨i, g, hi, rfl, hIi, hSi, hwi⟩ := hrel
  clear hS hI0 c0
  by_cases hlt : i < n
  ·obtain ⟨⟨a, b⟩, hab⟩ : ∃ y, xs[i]? = some y := ⟨_, List.getElem?_eq_getElem (by rw [hSi.lenx]; exact hlt)⟩
   obtain ⟨m, hm⟩ : ∃ y, bs[i]? = some y := ⟨_, List.getElem?_eq_getElem (by rw [hSi.lenb]; exact hlt)⟩
   have hrg := hSi.all.range (prs_at hab)
   have hltI : (i : Int) < (n : Int) := by omega
   have hi0 : (0 : Int) ≤ (i : Int) := by omega
   go_upto_region 3 with (refine wpList_load_mid (by rfl) 90 (.tmp 14) (by rfl) gR (i * 2) (by rfl) [.int .i64 a, .int .i64 b] _ hrg Tryz.underlying90 rfl (by kernel_rfl) ?_)
   refine name1 (Q := fun W => Code.wp _ _ _ _ W) ?_
   intro W1 L1 hs1 k5
   obtain ⟨b5, hb5⟩ : ∃ z, wr.heap.size = z := ⟨_, rfl⟩
   rw [hb5] at k5 ⊢
   have hw5 : W0.heap.size ≤ b5 := by rw [← hb5]; exact hwi
   clear hb5 hs1 hrg
   have hS1 := hSi.later L1
   have hI1 := HI.out _ _ _ _ hIi L1
   have hw1 := Nat.le_trans hwi L1.size
   have c1 := hS1.blk.cell 1
   have cb : W1.cell? ⟨gB, i, none⟩ = some (.bool m) := by
    have h := hS1.isin.range (bls_at hm) 0 (.bool m) rfl
    rw [Nat.mul_one, Nat.add_zero] at h
    exact h
   have d0 := k5.cell 0
   have d1 := k5.cell 1
   clear hSi hIi hwi L1
   cases m with
   | false =>
     have HP := Lib.hid (memL_no hm)
     clear hab hm
     go_wp2
     go_roundw
     case rel => exact ⟨i + 1, g, by omega, by go_num, by rw [HP.out]; exact hI1, hS1, hw1⟩
     case measure => simp [intOf]; omega
   | true =>
     have HP := Lib.hid (memL_yes hm)
     obtain ⟨fn, tmps, assign, body, hy', hRr⟩ := HY.out g W1 i a b hab hm hI1
     have hy : (Instr.yield l #[.int .i64 i, .agg #[.int .i64 a, .int .i64 b]]).run Tryz.prog W1 = .ok (.round l fn tmps assign body) W1 := hy'
     clear hy' hab hm
     refine (wpIn_wide (n := 3)).1 ?_
     gi_wp2
     refine hRr.mono ?_
     clear hRr hy
     rintro e w6 ⟨_, rfl, rfl, hl6, g3, hI6⟩
     have n1 : ¬ (theirs r ∨ some r = g) := fun h => by
      rcases h with h | h
      ·exact (HTH.out _ h).2.1 rfl
      ·obtain ⟨cs, hb'⟩ := HG.out _ _ _ hI1 r h.symm
       exact blk_apart hb' hS1.blk hE1 rfl
     have n2 : ¬ (theirs gR ∨ some gR = g) := fun h => by
      rcases h with h | h
      ·exact (HTH.out _ h).2.2.1 rfl
      ·obtain ⟨cs, hb'⟩ := HG.out _ _ _ hI1 gR h.symm
       obtain ⟨_, cs2, hb2, _⟩ := hS1.all
       exact blk_apart hb' hb2 hE2 rfl
     have n3 : ¬ (theirs gB ∨ some gB = g) := fun h => by
      rcases h with h | h
      ·exact (HTH.out _ h).2.2.2 rfl
      ·obtain ⟨cs, hb'⟩ := HG.out _ _ _ hI1 gB h.symm
       obtain ⟨_, cs2, hb2, _⟩ := hS1.isin
       exact blk_apart hb' hb2 hE3 rfl
     have hS6 := hS1.keepP hl6 n1 n2 n3
     have hw6 := Nat.le_trans hw1 hl6.size
     clear hl6 d0 d1 k5 c1 cb n1 n2 n3 hS1 hI1 hw1
     gi_wp2
     go_wp2
     go_roundw
     case rel => exact ⟨i + 1, g3, by omega, by go_num, by rw [HP.out]; exact hI6, hS6, hw6⟩
     case measure => simp [intOf]; omega
  ·obtain rfl : i = n := by omega
   go_wp2
   refine bodyPost_end (results_none rfl _ _ _) rfl ?_
   exact ⟨_, rfl, g, hIi⟩
end Go.Proofs.YteocdndanehpnaaGreat
