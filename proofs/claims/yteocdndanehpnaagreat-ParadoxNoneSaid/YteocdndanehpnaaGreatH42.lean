/- Several texts in one: Qcn. -/
import Derived.Test.YteocdndanehpnaaGreatH41
namespace Go.Proofs.YteocdndanehpnaaGreat
open Go.RowKit
set_option linter.unusedSimpArgs false
set_option linter.unusedVariables false
theorem claim_parts {a N D : Int} (h0 : 0 ≤ a) (h1 : a ≤ 1000000000) (hN : 1 ≤ N) (hN1 : N ≤ 70000000001) (hD : 1 ≤ D) (hD1 : D ≤ 1002) : ∃ (XO XD : Array Value) (u0 u v : W8), GoodX XO ∧ GoodX XD ∧
  (∀ w, Calls Tryz.prog 61 #[.int .i64 a, .agg (shA N D)] w (ShR w XO 0)) ∧
  (∀ w, Calls Tryz.prog 62 #[.agg XO] w (fun e w' => e = .returned (.tuple #[.agg #[.int .u64 u0.a0, .int .u64 u0.a1, .int .u64 u0.a2, .int .u64 u0.a3, .int .u64 u0.a4, .int .u64 u0.a5, .int .u64 u0.a6, .int .u64 u0.a7], .int .i64 0]) ∧ Lat w w')) ∧
  (∀ w, Calls Tryz.prog 63 #[.agg #[.int .u64 u0.a0, .int .u64 u0.a1, .int .u64 u0.a2, .int .u64 u0.a3, .int .u64 u0.a4, .int .u64 u0.a5, .int .u64 u0.a6, .int .u64 u0.a7]] w (fun e w' => e = .returned (.tuple #[.int .i64 (a * D / N), .int .i64 0]) ∧ Lat w w')) ∧
  (∀ w, Calls Tryz.prog 64 #[.int .i64 (a * D / N), .int .i64 1] w (ShR w XD 0)) ∧
  (∀ w, Calls Tryz.prog 65 #[.agg XO, .agg XD] w (ShR w #[.int .u64 u.a0, .int .u64 u.a1, .int .u64 u.a2, .int .u64 u.a3, .int .u64 u.a4, .int .u64 u.a5, .int .u64 u.a6, .int .u64 u.a7, .int .u64 v.a0, .int .u64 v.a1, .int .u64 v.a2, .int .u64 v.a3, .int .u64 v.a4, .int .u64 v.a5, .int .u64 v.a6, .int .u64 v.a7] 0)) ∧ shA (a * D % N) N = #[.int .u64 u.a0, .int .u64 u.a1, .int .u64 u.a2, .int .u64 u.a3, .int .u64 u.a4, .int .u64 u.a5, .int .u64 u.a6, .int .u64 u.a7, .int .u64 v.a0, .int .u64 v.a1, .int .u64 v.a2, .int .u64 v.a3, .int .u64 v.a4, .int .u64 v.a5, .int .u64 v.a6, .int .u64 v.a7] := by
 have hm := Int.mul_le_mul h1 hD1 (by omega) (by omega)
 have hm0 := Int.mul_nonneg h0 (show 0 ≤ D by omega)
 have hd0 := Int.ediv_nonneg hm0 (show 0 ≤ N by omega)
 have hd1 := Int.ediv_le_self N hm0
 have hf : Fits (a * D) N := fits_small (by omega) (by omega) (by omega) (by omega)
 exact ⟨shA (a * D) N, shA (a * D / N) 1, W8.of (a * D / N), W8.of (lowN (a * D % N) N), W8.of (lowD (a * D % N) N), shA_good _ _, shA_good _ _, fun w => over_any h0 h1 hN hN1 hD hD1 w, fun w => floorX hf w,
  fun w => wInt_fit _ hd0 (by omega) w, fun w => shOfX _ 1 w (by omega) (by omega) (by omega) (by omega), fun w => rest_any hm0 (by omega) hN hN1 w, rfl⟩
theorem clR_snoc (p l : Nat → Int) (d n : Int) (L : List Nat) (i : Nat) : clR p l d n (L ++ [i]) = clR p l d n L ++ [clV p l d n i] := by simp [clR]
theorem clInfoA : (Tryz.prog.info? 101).map (fun i => (i.zero, i.size, i.bytes)) = some (some (.agg #[.int .i64 0, .int .i64 0, .int .i64 0, .int .i64 0, .int .u64 0, .int .u64 0, .int .u64 0, .int .u64 0, .int .u64 0, .int .u64 0, .int .u64 0, .int .u64 0, .int .u64 0, .int .u64 0, .int .u64 0, .int .u64 0, .int .u64 0, .int .u64 0, .int .u64 0, .int .u64 0]), 20, 160) := by kernel_rfl
def CnI (rec : LoopState → Option Code → Loop) (w5 : World) (b11 b13 : Nat) (XQ : Array Value) (D N : Int) (xs : List (Int × Int)) (st : LoopState) (L : List Nat) (ov : Value) (W : World) : Prop :=
 W.heap[w5.heap.size + 1]? = some (.loop (rec st none)) ∧ W.heap[w5.heap.size]? = some (.deferred (some [])) ∧ Blk W b11 99 XQ ∧ Blk W b13 91 #[ov] ∧
  OwnM W w5.heap.size 101 20 ov (clR (pX xs) (lX xs) D N L) ∧ LatP (· = b13) w5 W
theorem OwnM.at_ {w : World} {B m : Nat} {E : TypeId} {v : Value} {xs : List (List Value)} (h : OwnM w B E m v xs) : ∀ g, v.ownBlock = some g → B ≤ g ∧ g < w.heap.size ∧ ∃ cs, Blk w g E cs := by
 intro g hg
 rcases h.2.2 with ⟨rfl, _⟩ | ⟨g', cap, cur, rfl, hb, hh, _⟩
 ·cases hg
 ·cases hg
  have hB : Blk w g' E cur := hh
  exact ⟨hb, hB.lt, cur, hB⟩
theorem OwnM.keepP {M : Nat → Prop} {w w' : World} {B m : Nat} {E : TypeId} {v : Value} {xs : List (List Value)} (h : OwnM w B E m v xs) (hl : LatP M w w') (hM : ∀ g, v.ownBlock = some g → ¬ M g) : OwnM w' B E m v xs :=
 h.kept (fun g hg => hl.block g (h.at_ g hg).2.1 (hM g hg))
theorem CnI.later {rec : LoopState → Option Code → Loop} {w5 : World} {b11 b13 : Nat} {XQ : Array Value} {D N : Int} {xs : List (Int × Int)} {st : LoopState} {L : List Nat} {ov : Value} {W W' : World} (h : CnI rec w5 b11 b13 XQ D N xs st L ov W) (hl : Lat W W') : CnI rec w5 b11 b13 XQ D N xs st L ov W' := by
 obtain ⟨q1, q2, q3, q8, qo, q4⟩ := h
 exact ⟨(Below.block hl _ (hlt_of q1)).trans q1, (Below.block hl _ (hlt_of q2)).trans q2, q3.later hl, q8.later hl, qo.later hl, q4.trans (hl.p _)⟩
theorem CnI.put {rec : LoopState → Option Code → Loop} {w5 : World} {b11 b13 : Nat} {XQ : Array Value} {D N : Int} {xs : List (Int × Int)} {st st2 : LoopState} {L : List Nat} {ov : Value} {W : World} (h : CnI rec w5 b11 b13 XQ D N xs st L ov W) (hb : b13 < w5.heap.size) (hb2 : b11 < w5.heap.size) :
  CnI rec w5 b11 b13 XQ D N xs st2 L ov (W.putObj (w5.heap.size + 1) (.loop (rec st2 none))) := by
 obtain ⟨q1, q2, q3, q8, qo, q4⟩ := h
 have hp := lat_putObj (w := W) (o := .loop (rec st2 none)) (hlt_of q1)
 have hno : ∀ g, ov.ownBlock = some g → ¬ g = w5.heap.size + 1 := fun g hg => by obtain ⟨_, _, cs, h2⟩ := qo.at_ g hg; exact no_loop q1 h2
 refine ⟨putObj_at (hlt_of q1), hp.at_ q2 (by omega), q3.keepP hp (by omega), q8.keepP hp (by omega), qo.keepP hp hno, ⟨hp.os.trans q4.os, hp.tape.trans q4.tape, hp.output.trans q4.output, Nat.le_trans q4.size hp.size, fun k hk hm => (hp.block k (Nat.lt_of_lt_of_le hk q4.size) (by omega)).trans (q4.block k hk hm)⟩⟩
def ClPost (w : World) (p l : Nat → Int) (d n : Int) (c : List Nat) (e : Ending) (w' : World) : Prop :=
 ∃ v, e = .returned (.tuple #[v, .bool true]) ∧ OwnM w' w.heap.size 101 20 v (clR p l d n c) ∧ Lat w w'
set_option maxRecDepth 100000 in
set_option maxHeartbeats 8000000 in
theorem claims_some (xs : List (Int × Int)) (bs : List Bool) (r gR gB n c c' : Nat) (o k : Int) (w : World) (hS : SetIs w r gR gB n c c' xs bs) (hn : n ≤ 60) (hx : ∀ y ∈ xs, 0 ≤ y.1 ∧ y.1 ≤ 1000000000)
  (hk : 1 ≤ k) (hk4 : k ≤ 4) (ho : 1 ≤ o) (ho1 : o ≤ 1000) (hz : 0 < ((memL bs n).map (pX xs)).sum) :
  Calls Tryz.prog 45 #[.pointer (some ⟨r, 0, none⟩), .int .i64 o, .int .i64 k] w (ClPost w (pX xs) (lX xs) (quoD k o) (quoN k ((memL bs n).map (pX xs)).sum o) (memL bs n)) := by
 refine calls_of_marks Tryz.func45 rfl ?_
 simp only [Tryz.ntmps45, List.size_toArray, List.length_cons, List.length_nil, Nat.reduceAdd, Nat.reduceSub, Array.replicate_succ, Array.replicate_zero, List.push_toArray, List.append_toArray, List.nil_append, List.cons_append]
 go_upto_region 2 with (fail)
 refine name1 (Q := fun W => Code.wp _ _ _ _ W) ?_
 intro w5 l5 hs5 k8
 obtain ⟨b8, hb8⟩ : ∃ z, w.heap.size = z := ⟨_, rfl⟩
 have hw8 : w.heap.size ≤ b8 := by omega
 rw [hb8] at k8 ⊢
 have h8 := k8.lt
 have hS5 := hS.later l5
 clear hb8 hs5 hS
 go_wp2_with fail
 rename_i KN hKN
 refine rangeFunc_bd (id := 0) (gf := 59) (bd := #[.pointer (some ⟨r, 0, none⟩)]) (by rfl) (enters_of Tryz.func59 (by kernel_rfl) rfl) ?_
 intro fn W1 hW1
 generalize hrec : recOf _ fn _ _ _ _ = rec at hW1 ⊢
 have hl1 : Lat w5 W1 := by rw [hW1]; exact (Lat.alloc _ _).trans (Lat.alloc _ _)
 have hz1 : W1.heap.size = w5.heap.size + 2 := by rw [hW1]; simp
 have hI1 : CmI rec w5 b8 o xs .ready [] W1 := by
  refine ⟨?_, ?_, k8.later hl1, hl1.p _⟩
  ·rw [hW1]; have := World.alloc_heap_new (w5.alloc (.deferred (some []))) (.loop (rec .ready none)); rwa [World.size_alloc] at this
  ·rw [hW1]; exact (Below.heap_alloc _ _ _ (by simp)).trans (World.alloc_heap_new w5 _)
 clear hW1
 have hth : ∀ q, (q = b8 ∨ q = w5.heap.size + 1) → q < W1.heap.size ∧ q ≠ r ∧ q ≠ gR ∧ q ≠ gB := by
  intro q h
  have e1 := hS5.blk.lt
  have e2 := hS5.all.lt
  have e3 := hS5.isin.lt
  have a1 : b8 ≠ r := blk_apart k8 hS5.blk (by decide)
  have a2 : b8 ≠ gR := by obtain ⟨_, cs2, hb2, _⟩ := hS5.all; exact blk_apart k8 hb2 (by decide)
  have a3 : b8 ≠ gB := by obtain ⟨_, cs2, hb2, _⟩ := hS5.isin; exact blk_apart k8 hb2 (by decide)
  rcases h with rfl | rfl
  ·exact ⟨by omega, a1, a2, a3⟩
  ·exact ⟨by omega, by omega, by omega, by omega⟩
 have hY : YieldsM xs bs (w5.heap.size + 1) (fun q => q = b8 ∨ q = w5.heap.size + 1) (fun L g W => g = none ∧ CmI rec w5 b8 o xs .ready L W) := by
  intro gg V i a b hi hbi hIL
  obtain ⟨rfl, hIL⟩ := hIL
  have hin : i < n := by have := (List.getElem?_eq_some_iff.1 hi).1; have := hS5.lenx; omega
  have hq1 := hIL.1
  rw [← hrec] at hq1
  refine round_any (id := 0) (R := fun bb W' => bb = true ∧ LatP (fun q => (q = b8 ∨ q = w5.heap.size + 1) ∨ some q = none) V W' ∧ ∃ g' : Option Nat, g' = none ∧ CmI rec w5 b8 o xs .ready (memL bs i ++ [i]) W') hq1 rfl ?_
  rw [hrec]
  rw [zip_two]
  refine round_region (fun ⟨_, _, h⟩ => h) rfl ?_
  simp only [List.size_toArray, List.length_cons, List.length_nil, List.foldl_toArray, List.foldl_cons, List.foldl_nil, List.setIfInBounds_toArray, List.set_cons_zero, List.set_cons_succ]
  go_wp2
  generalize hV2 : V.alloc _ = V2
  have k10 : Blk V2 V.heap.size 90 #[.int .i64 a, .int .i64 b] := by rw [← hV2]; exact Blk.new _ _ _
  have M2 : Lat V V2 := by rw [← hV2]; exact Lat.alloc _ _
  clear hV2
  have hI2 := hIL.later M2
  refine ⟨hI2.1, ?_⟩
  have hlV := hlt_of hI2.1
  have hp1 := lat_putObj (w := V2) (o := .loop (rec .busy none)) hlV
  have hI3 := hI2.put (st2 := .busy) h8
  obtain ⟨Wb, hWb⟩ : ∃ Wb, V2.putObj (w5.heap.size + 1) (.loop (rec .busy none)) = Wb := ⟨_, rfl⟩
  rw [hWb] at hp1 hI3 ⊢
  clear hWb
  have n10 : ¬ V.heap.size = w5.heap.size + 1 := by have := hlt_of hIL.1; omega
  have k10 := k10.keepP hp1 n10
  have hVb : LatP (fun q => (q = b8 ∨ q = w5.heap.size + 1) ∨ some q = none) V Wb := (M2.p _).trans (hp1.wider (fun q h => .inl (.inr h)))
  have hb1 := sumM_in hx bs (k := i) (by omega)
  have hpa := (pX_of hi).1
  have hpb := pX_in hx i
  have hsum : ((memL bs i ++ [i]).map (pX xs)).sum = ((memL bs i).map (pX xs)).sum + a := by simp [hpa]
  obtain ⟨s, hs⟩ : ∃ s, ((memL bs i).map (pX xs)).sum = s := ⟨_, rfl⟩
  have hc8 := hI3.2.2.1
  rw [hs] at hc8 hb1 hsum
  have hadd : wrap64 (s + a) = s + a := IntWalk.wrap64_in _ (by omega)
  have hadd' : IntKind.i64.wrap (s + a) = s + a := IntWalk.i64_in _ (by omega)
  have d0 := hc8.cell 0
  have f0 := hc8.frozen 0
  have e0 := k10.cell 0
  have HI3 := Lib.hid hI3
  have HSU := Lib.hid hsum
  have HVB := Lib.hid hVb
  have HC8 := Lib.hid hc8
  clear hI3 hsum hVb hI2 hIL hlV hp1 M2 hi hbi hin hb1 hpa hpb hs hc8 hq1
  refine wpIn_block ?_
  refine round_region (fun ⟨_, _, h⟩ => h) rfl ?_
  go_wp2
  have hset := latP_setQ Wb b8 0 (.int .i64 (s + a))
  have z8 := HC8.out.set 0 (.int .i64 (s + a))
  obtain ⟨Z, hZ⟩ : ∃ Z, Wb.setCell ⟨b8, 0, none⟩ (.int .i64 (s + a)) = Z := ⟨_, rfl⟩
  rw [hZ] at hset z8 ⊢
  have hI4 : CmI rec w5 b8 o xs .busy (memL bs i ++ [i]) Z := by
   obtain ⟨q1, q2, _, q4⟩ := HI3.out
   refine ⟨hset.at_ q1 (by omega), hset.at_ q2 (by omega), by rw [HSU.out]; simpa using z8, q4.trans hset⟩
  have hI5 := hI4.put (st2 := .ready) h8
  have hp2 := lat_putObj (w := Z) (o := .loop (rec .ready none)) (hlt_of hI4.1)
  exact ⟨hI4.1, rfl, (HVB.out.trans (hset.wider (fun q h => .inl (.inl h)))).trans (hp2.wider (fun q h => .inl (.inr h))), none, rfl, hI5⟩
 refine (members_iter xs bs r gR gB n c c' 101 (by decide) (by decide) (by decide) (by omega) (w5.heap.size + 1) (fun q => q = b8 ∨ q = w5.heap.size + 1) (fun L g W => g = none ∧ CmI rec w5 b8 o xs .ready L W) W1 (hS5.later hl1) (fun L g W W' h hl => ⟨h.1, h.2.later hl⟩) (fun L g W h k e => by rw [h.1] at e; cases e) hth hY none ⟨rfl, hI1⟩).mono ?_
 rintro e W9 ⟨v, rfl, g9, _, hI9⟩
 refine ⟨v, rfl, Or.inl ⟨hI9.1, ?_⟩⟩
 have hI10 := hI9.put (st2 := .exhausted) h8
 obtain ⟨Z, hZ⟩ : ∃ Z, W9.putObj (w5.heap.size + 1) (.loop (rec .exhausted none)) = Z := ⟨_, rfl⟩
 rw [hZ] at hI10 ⊢
 have hc8 := hI10.2.2.1
 obtain ⟨P, hP⟩ : ∃ P, ((memL bs n).map (pX xs)).sum = P := ⟨_, rfl⟩
 rw [hP] at hc8
 have d0 := hc8.cell 0
 have d1 := hc8.cell 1
 have HI10 := Lib.hid hI10
 clear hI10 hI9 hZ hY hth hI1 hl1 hc8
 dsimp only
 refine hKN _ _ ?_
 have hb0 := sumM_in hx bs hn
 rw [hP] at hz hb0 ⊢
 obtain ⟨r1, r2, r3, r4⟩ := qnd_range (k := k) hz (by omega) ho ho1
 have HQ := hQuo_any k P o hk hk4 hz (by omega) ho ho1
 revert HQ r1 r2 r3 r4
 generalize quoN k P o = N
 generalize quoD k o = D
 intro r1 r2 r3 r4 HQ
 obtain ⟨XQ, hXQ⟩ : ∃ X, shA N D = X := ⟨_, rfl⟩
 have gQ : GoodX XQ := by rw [← hXQ]; exact shA_good _ _
 have HXQ := Lib.hid hXQ
 rw [hXQ] at HQ
 have iQ := Lib.hid gQ.info
 have zQ := Lib.hid gQ.1
 have cQ := Lib.hid gQ.2.1
 have hPI : ¬ P = 0 := by omega
 clear hXQ gQ hz hb0 hP
 go_wp2_with fail
 refine (HQ Z).mono ?_
 rintro e w7 ⟨rfl, l7⟩
 have HI7 := Lib.hid (HI10.out.later l7)
 clear d0 d1 HQ HI10
 have K0 := Blk.new w7 99 #[.int .u64 W8.zero.a0, .int .u64 W8.zero.a1, .int .u64 W8.zero.a2, .int .u64 W8.zero.a3, .int .u64 W8.zero.a4, .int .u64 W8.zero.a5, .int .u64 W8.zero.a6, .int .u64 W8.zero.a7, .int .u64 W8.zero.a0, .int .u64 W8.zero.a1, .int .u64 W8.zero.a2, .int .u64 W8.zero.a3, .int .u64 W8.zero.a4, .int .u64 W8.zero.a5, .int .u64 W8.zero.a6, .int .u64 W8.zero.a7]
 go_upto_region 8 with (refine wpList_put rfl 99 (.tmp 11) (.tmp 45) (by rfl) (by rfl) w7.heap.size (by rfl) XQ (by rfl) K0 (by rw [zQ.out]; rfl) iQ.out cQ.out ?_; intro w8 hput; have k11 := hput.blk; have l8 := hput.lat w7 (Lat.alloc _ _) (Nat.le_refl _))
 obtain ⟨b11, hb11⟩ : ∃ z, w7.heap.size = z := ⟨_, rfl⟩
 rw [hb11] at k11 ⊢
 have HI8 := Lib.hid (HI7.out.later l8)
 have l08 : Lat w5 w5 := Lat.refl _
 have h11w : w5.heap.size + 1 < b11 := by rw [← hb11]; exact hlt_of HI7.out.1
 clear hput K0 HI7 hb11
 go_upto_region 9 with (fail)
 refine name1 (Q := fun W => Code.wp _ _ _ _ W) ?_
 intro w9 l9 hs9 k13
 obtain ⟨b13, hb13⟩ : ∃ z, w8.heap.size = z := ⟨_, rfl⟩
 rw [hb13] at k13 ⊢
 have h13 : b11 < b13 := by rw [← hb13]; exact k11.lt
 have h13l := k13.lt
 have k11 := k11.later l9
 have HI9 := Lib.hid (HI8.out.later l9)
 have hS9 : SetIs w9 r gR gB n c c' xs bs := by
  refine hS5.keepP HI9.out.2.2.2 ?_ ?_ ?_
  ·exact (blk_apart k8 hS5.blk (by decide)).symm
  ·obtain ⟨_, cs2, hb2, _⟩ := hS5.all; exact (blk_apart k8 hb2 (by decide)).symm
  ·obtain ⟨_, cs2, hb2, _⟩ := hS5.isin; exact (blk_apart k8 hb2 (by decide)).symm
 clear hb13 hs9 HI8 l8 l9
 go_wp2_with fail
 rename_i KN2 hKN2
 refine rangeFunc_bd (id := 2) (gf := 59) (bd := #[.pointer (some ⟨r, 0, none⟩)]) (by rfl) (enters_of Tryz.func59 (by kernel_rfl) rfl) ?_
 intro fn2 W1 hW1
 generalize hrec2 : recOf _ fn2 _ _ _ _ = rec2 at hW1 ⊢
 have hl1 : Lat w9 W1 := by rw [hW1]; exact (Lat.alloc _ _).trans (Lat.alloc _ _)
 have hz1 : W1.heap.size = w9.heap.size + 2 := by rw [hW1]; simp
 have hI1 : CnI rec2 w9 b11 b13 XQ D N xs .ready [] (.slice none 0 0) W1 := by
  refine ⟨?_, ?_, k11.later hl1, k13.later hl1, by simpa [clR] using OwnM.nil _ _ _ _, hl1.p _⟩
  ·rw [hW1]; have := World.alloc_heap_new (w9.alloc (.deferred (some []))) (.loop (rec2 .ready none)); rwa [World.size_alloc] at this
  ·rw [hW1]; exact (Below.heap_alloc _ _ _ (by simp)).trans (World.alloc_heap_new w9 _)
 clear hW1
 have hth : ∀ q, (q = b13 ∨ q = w9.heap.size + 1) → q < W1.heap.size ∧ q ≠ r ∧ q ≠ gR ∧ q ≠ gB := by
  intro q h
  have e1 := hS9.blk.lt
  have e2 := hS9.all.lt
  have e3 := hS9.isin.lt
  have a1 : b13 ≠ r := blk_apart k13 hS9.blk (by decide)
  have a2 : b13 ≠ gR := by obtain ⟨_, cs2, hb2, _⟩ := hS9.all; exact blk_apart k13 hb2 (by decide)
  have a3 : b13 ≠ gB := by obtain ⟨_, cs2, hb2, _⟩ := hS9.isin; exact blk_apart k13 hb2 (by decide)
  rcases h with rfl | rfl
  ·exact ⟨by omega, a1, a2, a3⟩
  ·exact ⟨by omega, by omega, by omega, by omega⟩
 have h11l : b11 < w9.heap.size := k11.lt
 have hY : YieldsM xs bs (w9.heap.size + 1) (fun q => q = b13 ∨ q = w9.heap.size + 1) (fun L g W => ∃ ov : Value, g = ov.ownBlock ∧ CnI rec2 w9 b11 b13 XQ D N xs .ready L ov W) := by
  intro gg V i a b hi hbi hIL
  obtain ⟨ov, hgg, hIL⟩ := hIL
  have hin : i < n := by have := (List.getElem?_eq_some_iff.1 hi).1; have := hS9.lenx; omega
  have hq1 := hIL.1
  rw [← hrec2] at hq1
  refine round_any (id := 2) (R := fun bb W' => bb = true ∧ LatP (fun q => (q = b13 ∨ q = w9.heap.size + 1) ∨ some q = gg) V W' ∧ ∃ g' : Option Nat, ∃ ov : Value, g' = ov.ownBlock ∧ CnI rec2 w9 b11 b13 XQ D N xs .ready (memL bs i ++ [i]) ov W') hq1 rfl ?_
  rw [hrec2]
  rw [zip_two]
  refine wpIn_seq ?_
  refine round_region (fun ⟨_, _, h⟩ => h) rfl ?_
  simp only [List.size_toArray, List.length_cons, List.length_nil, List.foldl_toArray, List.foldl_cons, List.foldl_nil, List.setIfInBounds_toArray, List.set_cons_zero, List.set_cons_succ]
  go_wp2
  refine round_region (fun ⟨_, _, h⟩ => h) rfl ?_
  go_wp2
  generalize hV2 : V.alloc _ = V2
  have k15 : Blk V2 V.heap.size 90 #[.int .i64 a, .int .i64 b] := by rw [← hV2]; exact Blk.new _ _ _
  have M2 : Lat V V2 := by rw [← hV2]; exact Lat.alloc _ _
  clear hV2
  have hI2 := hIL.later M2
  refine ⟨hI2.1, ?_⟩
  have hp1 := lat_putObj (w := V2) (o := .loop (rec2 .busy none)) (hlt_of hI2.1)
  have hI3 := hI2.put (st2 := .busy) h13l h11l
  obtain ⟨Wb, hWb⟩ : ∃ Wb, V2.putObj (w9.heap.size + 1) (.loop (rec2 .busy none)) = Wb := ⟨_, rfl⟩
  rw [hWb] at hp1 hI3 ⊢
  clear hWb
  obtain ⟨b15, hb15⟩ : ∃ z, V.heap.size = z := ⟨_, rfl⟩
  have n15 : ¬ b15 = w9.heap.size + 1 := by have := hlt_of hIL.1; omega
  rw [hb15] at k15 ⊢
  have k15 := k15.keepP hp1 n15
  have hVb : LatP (fun q => (q = b13 ∨ q = w9.heap.size + 1) ∨ some q = gg) V Wb := (M2.p _).trans (hp1.wider (fun q h => .inl (.inr h)))
  have h15 : w9.heap.size ≤ b15 := by rw [← hb15]; exact hIL.2.2.2.2.2.size
  have hpa := pX_of hi
  have hpb := pX_in hx i
  obtain ⟨XO, XD, u0, u, v, gO, gD, HOV, HFL, HIN, HOF, HSB, hsh⟩ := claim_parts (a := a) (N := N) (D := D) (by rw [← hpa.1]; exact hpb.1) (by rw [← hpa.1]; exact hpb.2) r1 r2 r3 r4
  rw [HXQ.out] at HOV
  have HROW : Hid ([.int .i64 a, .int .i64 b, .int .i64 (i : Int), .int .i64 (a * D / N), .int .u64 u.a0, .int .u64 u.a1, .int .u64 u.a2, .int .u64 u.a3, .int .u64 u.a4, .int .u64 u.a5, .int .u64 u.a6, .int .u64 u.a7, .int .u64 v.a0, .int .u64 v.a1, .int .u64 v.a2, .int .u64 v.a3, .int .u64 v.a4, .int .u64 v.a5, .int .u64 v.a6, .int .u64 v.a7] = clV (pX xs) (lX xs) D N i) := by
   show _ = _
   unfold clV
   rw [hpa.1, hpa.2, hsh]
   rfl
  obtain ⟨zz, hzz⟩ : ∃ zz, a * D / N = zz := ⟨_, rfl⟩
  rw [hzz] at HIN HOF HROW
  have iO := Lib.hid gO.info
  have zO := Lib.hid gO.1
  have cO := Lib.hid gO.2.1
  have iD := Lib.hid gD.info
  have zD := Lib.hid gD.1
  have cD := Lib.hid gD.2.1
  have HI3 := Lib.hid hI3
  have HVB := Lib.hid hVb
  have kQ := hI3.2.2.1
  have hlen : (clR (pX xs) (lX xs) D N (memL bs i)).length ≤ 100000000 := by rw [clR_len]; have := memL_len bs i; omega
  clear hI3 hVb hI2 hp1 M2 hi hbi hin hpa hpb hzz hq1 gO gD hsh hIL n15 hb15
  refine wpIn_block ?_
  refine wpIn_seq ?_
  refine round_region (fun ⟨_, _, h⟩ => h) rfl ?_
  have e0 := k15.cell 0
  go_wp2_with (refine wpList_get rfl 99 (.tmp 11) (by rfl) b11 (by rfl) kQ _ Tryz.underlying99 rfl iQ.out ?_)
  refine (HOV Wb).mono ?_
  rintro e W2 ⟨rfl, m2⟩
  have k15 := k15.later m2
  have kQ := kQ.later m2
  clear e0 HOV
  have K0 := Blk.new W2 99 #[.int .u64 W8.zero.a0, .int .u64 W8.zero.a1, .int .u64 W8.zero.a2, .int .u64 W8.zero.a3, .int .u64 W8.zero.a4, .int .u64 W8.zero.a5, .int .u64 W8.zero.a6, .int .u64 W8.zero.a7, .int .u64 W8.zero.a0, .int .u64 W8.zero.a1, .int .u64 W8.zero.a2, .int .u64 W8.zero.a3, .int .u64 W8.zero.a4, .int .u64 W8.zero.a5, .int .u64 W8.zero.a6, .int .u64 W8.zero.a7]
  go_wp2_with (refine wpList_put rfl 99 (.tmp 16) (.tmp 56) (by rfl) (by rfl) W2.heap.size (by rfl) XO (by rfl) K0 (by rw [zO.out]; rfl) iO.out cO.out ?_; intro W3 hput; have k16 := hput.blk; have m3 := hput.lat W2 (Lat.alloc _ _) (Nat.le_refl _))
  obtain ⟨b16, hb16⟩ : ∃ z, W2.heap.size = z := ⟨_, rfl⟩
  rw [hb16] at k16 ⊢
  have k15 := k15.later m3
  have M3 := m2.trans m3
  clear hput K0 hb16 m2 m3 kQ
  refine wpIn_seq ?_
  refine round_region (fun ⟨_, _, h⟩ => h) rfl ?_
  go_wp2_with (refine wpList_get rfl 99 (.tmp 16) (by rfl) b16 (by rfl) k16 _ Tryz.underlying99 rfl iO.out ?_)
  refine (HFL W3).mono ?_
  rintro e W4 ⟨rfl, m4⟩
  have k15 := k15.later m4
  have k16 := k16.later m4
  have M4 := M3.trans m4
  clear HFL M3 m4
  go_wp2
  refine name1 (Q := fun W => Code.wpIn _ _ _ _ _ _ W) ?_
  intro W5 m5 hs5 k18
  obtain ⟨b18, hb18⟩ : ∃ z, W4.heap.size = z := ⟨_, rfl⟩
  rw [hb18] at k18 ⊢
  have k15 := k15.later m5
  have k16 := k16.later m5
  have M5 := M4.trans m5
  clear M4 m5 hs5 hb18
  refine wpIn_seq ?_
  refine round_region (fun ⟨_, _, h⟩ => h) rfl ?_
  have y0 := k18.cell 0
  have y1 := k18.cell 1
  have y2 := k18.cell 2
  have y3 := k18.cell 3
  have y4 := k18.cell 4
  have y5 := k18.cell 5
  have y6 := k18.cell 6
  have y7 := k18.cell 7
  go_wp2_with fail
  refine (HIN W5).mono ?_
  rintro e W6 ⟨rfl, m6⟩
  have k15 := k15.later m6
  have k16 := k16.later m6
  have M6 := M5.trans m6
  clear HIN M5 m6 k18 y0 y1 y2 y3 y4 y5 y6 y7
  go_wp2
  refine wpIn_seq ?_
  refine round_region (fun ⟨_, _, h⟩ => h) rfl ?_
  go_wp2_with fail
  refine (HOF W6).mono ?_
  rintro e W7 ⟨rfl, m7⟩
  have k15 := k15.later m7
  have k16 := k16.later m7
  have M7 := M6.trans m7
  have K0 := Blk.new W7 99 #[.int .u64 W8.zero.a0, .int .u64 W8.zero.a1, .int .u64 W8.zero.a2, .int .u64 W8.zero.a3, .int .u64 W8.zero.a4, .int .u64 W8.zero.a5, .int .u64 W8.zero.a6, .int .u64 W8.zero.a7, .int .u64 W8.zero.a0, .int .u64 W8.zero.a1, .int .u64 W8.zero.a2, .int .u64 W8.zero.a3, .int .u64 W8.zero.a4, .int .u64 W8.zero.a5, .int .u64 W8.zero.a6, .int .u64 W8.zero.a7]
  clear HOF M6 m7
  go_wp2_with (refine wpList_put rfl 99 (.tmp 22) (.tmp 71) (by rfl) (by rfl) W7.heap.size (by rfl) XD (by rfl) K0 (by rw [zD.out]; rfl) iD.out cD.out ?_; intro W8' hput; have k22 := hput.blk; have m8 := hput.lat W7 (Lat.alloc _ _) (Nat.le_refl _))
  obtain ⟨b22, hb22⟩ : ∃ z, W7.heap.size = z := ⟨_, rfl⟩
  rw [hb22] at k22 ⊢
  have k15 := k15.later m8
  have k16 := k16.later m8
  have M8 := M7.trans m8
  clear hput K0 hb22 M7 m8
  refine wpIn_seq ?_
  refine round_region (fun ⟨_, _, h⟩ => h) rfl ?_
  go_wp2_with (first
   | (refine wpList_get rfl 99 (.tmp 16) (by rfl) b16 (by rfl) k16 _ Tryz.underlying99 rfl iO.out ?_)
   | (refine wpList_get rfl 99 (.tmp 22) (by rfl) b22 (by rfl) k22 _ Tryz.underlying99 rfl iD.out ?_))
  refine (HSB W8').mono ?_
  rintro e W9 ⟨rfl, m9⟩
  have k15 := k15.later m9
  have M9 := M8.trans m9
  clear HSB M8 m9 k16 k22
  go_wp2
  refine name1 (Q := fun W => Code.wpIn _ _ _ _ _ _ W) ?_
  intro W10 m10 hs10 k24
  obtain ⟨b24, hb24⟩ : ∃ z, W9.heap.size = z := ⟨_, rfl⟩
  rw [hb24] at k24 ⊢
  have k15 := k15.later m10
  have M10 := M9.trans m10
  clear M9 m10 hs10 hb24
  have HIZ := Lib.hid (HI3.out.later M10)
  have k13z := HIZ.out.2.2.2.1
  have hown := HIZ.out.2.2.2.2.1
  have hsz : w9.heap.size ≤ W10.heap.size := HIZ.out.2.2.2.2.2.size
  refine round_region (fun ⟨_, _, h⟩ => h) rfl ?_
  have e0 := k15.cell 0
  have e1 := k15.cell 1
  have d13 := k13z.cell 0
  have hn13 : ∀ g', ov.ownBlock = some g' → b13 ≠ g' := fun g' hg' => by
   have := (hown.at_ g' hg').1
   omega
  have LA := Lat.alloc W10 (.cells #[.int .i64 a, .int .i64 b, .int .i64 (i : Int), .int .i64 zz, .int .u64 u.a0, .int .u64 u.a1, .int .u64 u.a2, .int .u64 u.a3, .int .u64 u.a4, .int .u64 u.a5, .int .u64 u.a6, .int .u64 u.a7, .int .u64 v.a0, .int .u64 v.a1, .int .u64 v.a2, .int .u64 v.a3, .int .u64 v.a4, .int .u64 v.a5, .int .u64 v.a6, .int .u64 v.a7] 101)
  go_wp2_with (first
   | (refine wpList_get rfl 99 (.tmp 24) (by rfl) b24 (by rfl) k24 _ Tryz.underlying99 rfl shareInfo16 ?_)
   | (at_builtin; refine wpList_pushM rfl _ _ 91 (by rfl) w9.heap.size 101 101 (.agg #[.int .i64 0, .int .i64 0, .int .i64 0, .int .i64 0, .int .u64 0, .int .u64 0, .int .u64 0, .int .u64 0, .int .u64 0, .int .u64 0, .int .u64 0, .int .u64 0, .int .u64 0, .int .u64 0, .int .u64 0, .int .u64 0, .int .u64 0, .int .u64 0, .int .u64 0, .int .u64 0]) 20 160 Tryz.underlying91 clInfoA rfl (by decide) (by decide) ov (clR (pX xs) (lX xs) D N (memL bs i)) [.int .i64 a, .int .i64 b, .int .i64 (i : Int), .int .i64 zz, .int .u64 u.a0, .int .u64 u.a1, .int .u64 u.a2, .int .u64 u.a3, .int .u64 u.a4, .int .u64 u.a5, .int .u64 u.a6, .int .u64 u.a7, .int .u64 v.a0, .int .u64 v.a1, .int .u64 v.a2, .int .u64 v.a3, .int .u64 v.a4, .int .u64 v.a5, .int .u64 v.a6, .int .u64 v.a7] (by simp [Value.oneCell']) _ W10.heap.size (by rfl) (hown.later LA) (Blk.new _ _ _) rfl 1 (by rfl) hlen (Nat.le_trans hsz LA.size) ?_; intro v' w' own' hgr _; obtain ⟨A', c9, hv9, _⟩ := own'.form; obtain ⟨nn, hnn⟩ : ∃ nn, (clR (pX xs) (lX xs) D N (memL bs i) ++ [([.int .i64 a, .int .i64 b, .int .i64 (i : Int), .int .i64 zz, .int .u64 u.a0, .int .u64 u.a1, .int .u64 u.a2, .int .u64 u.a3, .int .u64 u.a4, .int .u64 u.a5, .int .u64 u.a6, .int .u64 u.a7, .int .u64 v.a0, .int .u64 v.a1, .int .u64 v.a2, .int .u64 v.a3, .int .u64 v.a4, .int .u64 v.a5, .int .u64 v.a6, .int .u64 v.a7] : List Value)]).length = nn := ⟨_, rfl⟩; rw [hnn] at hv9; subst hv9; have y13 : Blk w' b13 91 #[ov] := (hgr.block _ (k13z.later LA).lt (fun h => hn13 _ h.symm rfl)).trans (k13z.later LA); have x0 := y13.cell 0; have f0 := y13.frozen 0; clear d13))
  have S : LatP (fun q => some q = ov.ownBlock) W10 w' := (LA.p _).trans ⟨hgr.os, hgr.tape, hgr.output, hgr.size, fun j hj hn => hgr.block j hj hn⟩
  have hset := latP_setQ w' b13 0 (.slice A' nn c9)
  have z13 := y13.set 0 (.slice A' nn c9)
  have own2 : OwnM (w'.setCell ⟨b13, 0, none⟩ (.slice A' nn c9)) w9.heap.size 101 20 (.slice A' nn c9) (clR (pX xs) (lX xs) D N (memL bs i) ++ [([.int .i64 a, .int .i64 b, .int .i64 (i : Int), .int .i64 zz, .int .u64 u.a0, .int .u64 u.a1, .int .u64 u.a2, .int .u64 u.a3, .int .u64 u.a4, .int .u64 u.a5, .int .u64 u.a6, .int .u64 u.a7, .int .u64 v.a0, .int .u64 v.a1, .int .u64 v.a2, .int .u64 v.a3, .int .u64 v.a4, .int .u64 v.a5, .int .u64 v.a6, .int .u64 v.a7] : List Value)]) := own'.keepP hset (fun g hg e => by have := (own'.at_ g hg).1; omega)
  rw [HROW.out, ← clR_snoc] at own2
  obtain ⟨Zz, hZz⟩ : ∃ Zz, w'.setCell ⟨b13, 0, none⟩ (.slice A' nn c9) = Zz := ⟨_, rfl⟩
  rw [hZz] at hset z13 own2 ⊢
  have hI4 : CnI rec2 w9 b11 b13 XQ D N xs .busy (memL bs i ++ [i]) (.slice A' nn c9) Zz := by
   obtain ⟨q1, q2, q3, _, qo, q4⟩ := HIZ.out
   have no1 : ¬ some (w9.heap.size + 1) = ov.ownBlock := fun h => by obtain ⟨_, _, cs, h2⟩ := qo.at_ _ h.symm; exact no_loop q1 h2 rfl
   have no2 : ¬ some w9.heap.size = ov.ownBlock := fun h => by
    obtain ⟨_, _, cs, h2⟩ := qo.at_ _ h.symm
    unfold Blk at h2
    rw [q2] at h2
    cases h2
   have no3 : ¬ some b11 = ov.ownBlock := fun h => by have := (qo.at_ _ h.symm).1; omega
   refine ⟨hset.at_ (S.at_ q1 no1) (by omega), hset.at_ (S.at_ q2 no2) (by omega), (q3.keepP S no3).keepP hset (by omega), by simpa using z13, own2, ?_⟩
   exact ⟨(hset.os.trans S.os).trans q4.os, (hset.tape.trans S.tape).trans q4.tape, (hset.output.trans S.output).trans q4.output, Nat.le_trans q4.size (Nat.le_trans S.size hset.size),
    fun k hk hm => ((hset.block k (Nat.lt_of_lt_of_le hk (Nat.le_trans q4.size S.size)) hm).trans (S.block k (Nat.lt_of_lt_of_le hk q4.size) (fun h => by have := (qo.at_ _ h.symm).1; omega))).trans (q4.block k hk hm)⟩
  have hI5 := hI4.put (st2 := .ready) h13l h11l
  have hp2 := lat_putObj (w := Zz) (o := .loop (rec2 .ready none)) (hlt_of hI4.1)
  exact ⟨hI4.1, rfl, (((HVB.out.trans (M10.p _)).trans (S.wider (fun q h => .inr (by rw [hgg]; exact h)))).trans (hset.wider (fun q h => .inl (.inl h)))).trans (hp2.wider (fun q h => .inl (.inr h))), _, _, rfl, hI5⟩
 refine (members_iter xs bs r gR gB n c c' 101 (by decide) (by decide) (by decide) (by omega) (w9.heap.size + 1) (fun q => q = b13 ∨ q = w9.heap.size + 1) (fun L g W => ∃ ov : Value, g = ov.ownBlock ∧ CnI rec2 w9 b11 b13 XQ D N xs .ready L ov W) W1 (hS9.later hl1)
  (fun L g W W' h hl => by obtain ⟨ov, h1, h2⟩ := h; exact ⟨ov, h1, h2.later hl⟩) (fun L g W h k e => by obtain ⟨ov, h1, h2⟩ := h; rw [h1] at e; exact (h2.2.2.2.2.1.at_ k e).2.2) hth hY _ ⟨_, rfl, hI1⟩).mono ?_
 rintro e Wf ⟨v, rfl, gf, ov, _, hIf⟩
 refine ⟨v, rfl, Or.inl ⟨hIf.1, ?_⟩⟩
 have hIe := hIf.put (st2 := .exhausted) h13l h11l
 obtain ⟨Zf, hZf⟩ : ∃ Zf, Wf.putObj (w9.heap.size + 1) (.loop (rec2 .exhausted none)) = Zf := ⟨_, rfl⟩
 rw [hZf] at hIe ⊢
 have d13 := hIe.2.2.2.1.cell 0
 have HIE := Lib.hid hIe
 clear hIe hIf hZf hY hth hI1 hl1
 dsimp only
 refine hKN2 _ _ ?_
 go_wp2
 obtain ⟨q1, q2, q3, q13, qo, q4⟩ := HIE.out
 obtain ⟨p1, p2, p8, p4⟩ := HI9.out
 have p2f := q4.at_ p2 (by omega)
 have hlt5 := hlt_of p2
 have hpA := lat_putObj (w := Zf) (o := .deferred none) (hlt_of q2)
 have p2g := hpA.at_ p2f (by omega)
 have hpB := lat_putObj (w := Zf.putObj w9.heap.size (.deferred none)) (o := .deferred none) (hlt_of p2g)
 refine leave_marks2 q2 p2g (v := .tuple #[ov, .bool true]) (by simp [results, Tryz.results45, go_sem]) ?_
 have hno : ∀ x, (Zf.heap[x]? = some (.deferred (some [])) ∨ Zf.heap[x]? = some (.deferred none)) → ∀ g, ov.ownBlock = some g → g ≠ x := fun x hx g hg e => by
  obtain ⟨_, _, cs, h2⟩ := qo.at_ _ hg
  subst e
  unfold Blk at h2
  rcases hx with hx | hx <;> (rw [hx] at h2; cases h2)
 have qo2 := (qo.keepP hpA (fun g hg e => hno _ (.inl q2) g hg e)).keepP hpB (fun g hg e => hno _ (.inl p2f) g hg e)
 have hle := l5.size
 refine ⟨ov, rfl, ?_, ?_⟩
 ·obtain ⟨h0, h1, h2⟩ := qo2
  refine ⟨h0, h1, ?_⟩
  rcases h2 with h2 | ⟨g, cap, cur, e, hb, r⟩
  ·exact .inl h2
  ·exact .inr ⟨g, cap, cur, e, Nat.le_trans (Nat.le_trans hle p4.size) hb, r⟩
 ·exact LatP.lat (M := fun q => w.heap.size ≤ q) l5 ((((p4.wider (fun q h => by show w.heap.size ≤ q; rw [h]; exact hw8)).trans (q4.wider (fun q h => by show w.heap.size ≤ q; rw [h]; omega))).trans (hpA.wider (fun q h => by show w.heap.size ≤ q; rw [h]; have := p4.size; omega))).trans (hpB.wider (fun q h => by show w.heap.size ≤ q; rw [h]; exact hle))) (fun q h => h)
end Go.Proofs.YteocdndanehpnaaGreat
