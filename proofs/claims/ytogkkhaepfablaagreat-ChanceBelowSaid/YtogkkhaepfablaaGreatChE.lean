
/- Chance: a number below n. -/
import Derived.Test.YtogkkhaepfablaaGreatChD
import Derived.Shelf.Abstract
namespace Go.Proofs.YtogkkhaepfablaaGreat
open Go.RowKit Go.Shelf
set_option linter.unusedSimpArgs false

theorem candU_fn (b : Nat) (w : World) : Calls Tryz.prog 67 #[.func (.func 61) #[.pointer (some ⟨b, 0, none⟩)] #[]] w (fun e w' => e = .returned (.func (.func 91) #[] #[.pointer (some ⟨w.heap.size, 0, none⟩)]) ∧ Lat w w' ∧
    Blk w' w.heap.size 109 #[.func (.func 61) #[.pointer (some ⟨b, 0, none⟩)] #[]]) := by
  go_enter Tryz.func67, Tryz.ntmps67
  go_wp2
  refine name1 (Q := fun W => bodyPost _ _ _ _ _ W) ?_
  intro W hl hs k1
  go_ret
  exact ⟨rfl, hl, k1⟩

/-- What holds while the candidates are drawn. -/
structure BelF (w W : World) (b bt D : Nat) (o : Obj) (s n rest : Nat) (r e : Int) : Prop where
  l : W.heap[D + 1]? = some o
  d : W.heap[D]? = some (.deferred (some []))
  kb : Blk W b 83 #[.int .u64 (s : Nat)]
  k3 : Blk W w.heap.size 22 #[.int .u64 (n : Nat)]
  k4 : Blk W (w.heap.size + 1) 22 #[.int .u64 r]
  k5 : Blk W (w.heap.size + 1 + 1) 34 #[.int .i64 e]
  k7 : Blk W (w.heap.size + 1 + 1 + 1) 22 #[.int .u64 (rest : Nat)]
  kt : Blk W bt 109 #[.func (.func 61) #[.pointer (some ⟨b, 0, none⟩)] #[]]
  lp : LatP (· = b) w W
  hb : b < w.heap.size
  ht : w.heap.size + 4 ≤ bt
  hD : bt < D
theorem BelF.step {w W W' : World} {b bt D : Nat} {o : Obj} {s s' n rest : Nat} {r e : Int} (h : BelF w W b bt D o s n rest r e) (kb : Blk W' b 83 #[.int .u64 (s' : Nat)]) (hl : LatP (· = b) W W') : BelF w W' b bt D o s' n rest r e := by
  obtain ⟨h1, h2, _, k3, k4, k5, k7, kt, lp, hb, ht, hD⟩ := h
  exact ⟨hl.at_ h1 (by omega), hl.at_ h2 (by omega), kb, k3.keepP hl (by omega), k4.keepP hl (by omega), k5.keepP hl (by omega), k7.keepP hl (by omega), kt.keepP hl (by omega), lp.trans hl, hb, ht, hD⟩
theorem BelF.put {w W : World} {b bt D : Nat} {o : Obj} {s n rest : Nat} {r e : Int} (h : BelF w W b bt D o s n rest r e) (o' : Obj) : BelF w (W.putObj (D + 1) o') b bt D o' s n rest r e := by
  obtain ⟨h1, h2, kb, k3, k4, k5, k7, kt, lp, hb, ht, hD⟩ := h
  have hl := lat_putObj (o := o') (heap_lt h1)
  exact ⟨putObj_at (heap_lt h1), hl.at_ h2 (by omega), kb.keepP hl (by omega), k3.keepP hl (by omega), k4.keepP hl (by omega), k5.keepP hl (by omega), k7.keepP hl (by omega), kt.keepP hl (by omega),
    ⟨hl.os.trans lp.os, hl.tape.trans lp.tape, hl.output.trans lp.output, Nat.le_trans lp.size hl.size, fun k hk hm => (hl.block k (Nat.lt_of_lt_of_le hk lp.size) (by omega)).trans (lp.block k hk hm)⟩, hb, ht, hD⟩
theorem BelF.set {w W : World} {b bt D : Nat} {o : Obj} {s n rest : Nat} {r e : Int} (h : BelF w W b bt D o s n rest r e) (r' e' : Int) :
    BelF w ((W.setCell ⟨w.heap.size + 1, 0, none⟩ (.int .u64 r')).setCell ⟨w.heap.size + 1 + 1, 0, none⟩ (.int .i64 e')) b bt D o s n rest r' e' := by
  obtain ⟨h1, h2, kb, k3, k4, k5, k7, kt, lp, hb, ht, hD⟩ := h
  refine name_set (Q := fun W => BelF w (W.setCell ⟨w.heap.size + 1 + 1, 0, none⟩ (.int .i64 e')) b bt D o s n rest r' e') k4 ?_
  intro W1 j4 _ _ l1
  have j5 := k5.keepP l1 (by omega)
  refine name_set (Q := fun W => BelF w W b bt D o s n rest r' e') j5 ?_
  intro W2 i5 _ _ l2
  have i4 := j4.keepP l2 (by omega)
  have hl : LatP (fun k => k = w.heap.size + 1 ∨ k = w.heap.size + 1 + 1) W W2 := (l1.wider (fun k h => .inl h)).trans (l2.wider (fun k h => .inr h))
  exact ⟨hl.at_ h1 (by omega), hl.at_ h2 (by omega), kb.keepP hl (by omega), k3.keepP hl (by omega), i4, i5, k7.keepP hl (by omega), kt.keepP hl (by omega),
    ⟨hl.os.trans lp.os, hl.tape.trans lp.tape, hl.output.trans lp.output, Nat.le_trans lp.size hl.size, fun k hk hm => (hl.block k (Nat.lt_of_lt_of_le hk lp.size) (by omega)).trans (lp.block k hk hm)⟩, hb, ht, hD⟩

theorem BelF.out {w W : World} {b bt D : Nat} {o : Obj} {s n rest : Nat} {r e : Int} (h : BelF w W b bt D o s n rest r e) :
    (W.putObj D (.deferred none)).cell? ⟨w.heap.size + 1, 0, none⟩ = some (.int .u64 r) ∧ (W.putObj D (.deferred none)).cell? ⟨w.heap.size + 1 + 1, 0, none⟩ = some (.int .i64 e) ∧
    Blk (W.putObj D (.deferred none)) b 83 #[.int .u64 (s : Nat)] ∧ LatP (· = b) w (W.putObj D (.deferred none)) := by
  obtain ⟨h1, h2, kb, k3, k4, k5, k7, kt, lp, hb, ht, hD⟩ := h
  have hl := lat_putObj (o := .deferred none) (heap_lt h2)
  exact ⟨(k4.keepP hl (by omega)).cell 0, (k5.keepP hl (by omega)).cell 0, kb.keepP hl (by omega),
    ⟨hl.os.trans lp.os, hl.tape.trans lp.tape, hl.output.trans lp.output, Nat.le_trans lp.size hl.size, fun k hk hm => (hl.block k (Nat.lt_of_lt_of_le hk lp.size) (by omega)).trans (lp.block k hk hm)⟩⟩
/-- The numbers of a call. -/
structure BelN (n m rest q lim : Nat) : Prop where
  e0 : ¬ (n : Int) = 0
  e1 : IntKind.u64.wrap (-(n : Int)) = (m : Int)
  e2 : (m : Int).tmod n = (rest : Int)
  e3 : IntKind.u64.wrap (-(rest : Int)) = (q : Int)
  e4 : IntKind.u64.wrap ((q : Int) - 1) = (lim : Int)
/-- What the call leaves: the answer, and the state. -/
def BelPost (b : Nat) (w : World) (r : Int) (e : Int) (t : Nat) (en : Ending) (w' : World) : Prop :=
  en = .returned (.tuple #[.int .u64 r, .int .i64 e]) ∧ Blk w' b 83 #[.int .u64 (t : Nat)] ∧ LatP (· = b) w w'

theorem zip_one (t : Tmp) (x : Value) : (#[t] : Array Tmp).zip #[x] = #[(t, x)] := by
  apply Array.ext'
  rw [Array.toList_zip]
  rfl

set_option maxRecDepth 100000 in
set_option maxHeartbeats 8000000 in
theorem below_in (b s n m rest q lim : Nat) (N : BelN n m rest q lim) (st : Nat → Nat) (xs : Nat → Nat) (h0 : st 0 = s) (HN : ∀ j, NextC (st j) (xs j) (st (j + 1))) (ok : Nat → Bool)
    (hok : ∀ j, ok (xs j) = true → (xs j : Int) ≤ (lim : Int)) (hno : ∀ j, ok (xs j) = false → ¬ (xs j : Int) ≤ (lim : Int) ∧ ¬ (rest : Int) = 0) (w : World) (hb : Blk w b 83 #[.int .u64 (s : Nat)]) :
    Calls Tryz.prog 35 #[.pointer (some ⟨b, 0, none⟩), .int .u64 (n : Nat)] w (fun e w' =>
      (∃ j, j < 200 ∧ (∀ i, i < j → ok (xs i) = false) ∧ ok (xs j) = true ∧ BelPost b w ((xs j : Int) % (n : Int)) 0 (st (j + 1)) e w') ∨ ((∀ i, i < 200 → ok (xs i) = false) ∧ BelPost b w 0 9 (st 200) e w')) := by
  obtain ⟨e0, e1, e2, e3, e4⟩ := N
  have hlt := hb.lt
  refine calls_of_marks Tryz.func35 rfl ?_
  simp only [Tryz.ntmps35, List.size_toArray, List.length_cons, List.length_nil, Nat.reduceAdd, Nat.reduceSub, Array.replicate_succ, Array.replicate_zero, List.push_toArray, List.append_toArray, List.nil_append, List.cons_append]
  go_wp2_with fail
  refine name4 (Q := fun W => Calls _ _ _ W _) ?_
  intro W4 l4 hs4 k3 k4 k5 k7
  refine (candU_fn b W4).mono ?_
  rintro e W5 ⟨rfl, l5, kt⟩
  have hbt : w.heap.size + 4 ≤ W4.heap.size := by omega
  obtain ⟨bt, ebt⟩ : ∃ z, W4.heap.size = z := ⟨_, rfl⟩
  rw [ebt] at kt hbt ⊢
  replace k3 := k3.later l5
  replace k4 := k4.later l5
  replace k5 := k5.later l5
  replace k7 := k7.later l5
  have kb := (hb.later l4).later l5
  have L5 := l4.trans l5
  have hbD := kt.lt
  clear l4 l5 hs4 ebt
  go_wp2_with fail
  rename_i KN hKN
  refine rangeFunc_ret (gf := 91) (lb := #[.pointer (some ⟨bt, 0, none⟩)]) (by rfl) (enters_of Tryz.func91 (by kernel_rfl) rfl) ?_
  intro fn W1 hW1
  generalize hrec : recOf _ fn _ _ _ _ = rec at hW1 ⊢
  obtain ⟨D, hD⟩ : ∃ z, W5.heap.size = z := ⟨_, rfl⟩
  have hl1 : Lat W5 W1 := by rw [hW1]; exact (Lat.alloc _ _).trans (Lat.alloc _ _)
  have hL1 : W1.heap[W5.heap.size + 1]? = some (.loop (rec .ready none)) := by
    rw [hW1]; have := World.alloc_heap_new (W5.alloc (.deferred (some []))) (.loop (rec .ready none)); rwa [World.size_alloc] at this
  have hK1 : W1.heap[W5.heap.size]? = some (.deferred (some [])) := by
    rw [hW1]; exact (Below.heap_alloc _ _ _ (by simp)).trans (World.alloc_heap_new W5 _)
  clear hW1
  rw [hD] at hL1 hK1 hbD ⊢
  have F1 : BelF w W1 b bt D (.loop (rec .ready none)) s n rest 0 0 := ⟨hL1, hK1, kb.later hl1, k3.later hl1, k4.later hl1, k5.later hl1, k7.later hl1, kt.later hl1, (L5.trans hl1).p _, hlt, hbt, hbD⟩
  clear hL1 hK1 hl1 kb k3 k4 k5 k7 kt L5 hD hb hbt hbD
  have hY : YieldsC (D + 1) 200 (fun j W => (∀ i, i < j → ok (xs i) = false) ∧ BelF w W b bt D (.loop (rec .ready none)) (st j) n rest 0 0)
      (fun j v W => v = .int .u64 (xs j : Nat) ∧ (∀ i, i < j → ok (xs i) = false) ∧ BelF w W b bt D (.loop (rec .ready none)) (st (j + 1)) n rest 0 0)
      (fun W => ∃ j, j < 200 ∧ (∀ i, i < j → ok (xs i) = false) ∧ ok (xs j) = true ∧ BelF w W b bt D (.loop (rec .done (some .ret))) (st (j + 1)) n rest ((xs j : Int) % (n : Int)) 0) := by
    rintro j v W hj ⟨rfl, hnone, F⟩
    have q1 := F.l
    rw [← hrec] at q1
    refine round_ret (R := fun bb W' => (bb = true ∧ ((∀ i, i < j + 1 → ok (xs i) = false) ∧ BelF w W' b bt D (.loop (rec .ready none)) (st (j + 1)) n rest 0 0)) ∨
      (bb = false ∧ ∃ j, j < 200 ∧ (∀ i, i < j → ok (xs i) = false) ∧ ok (xs j) = true ∧ BelF w W' b bt D (.loop (rec .done (some .ret))) (st (j + 1)) n rest ((xs j : Int) % (n : Int)) 0)) q1 rfl ?_
    rw [hrec]
    rw [zip_one]
    refine round_region (fun ⟨_, _, h⟩ => h) rfl ?_
    simp only [List.size_toArray, List.length_cons, List.length_nil, List.foldl_toArray, List.foldl_cons, List.foldl_nil, List.setIfInBounds_toArray, List.set_cons_zero, List.set_cons_succ]
    go_wp2
    refine ⟨F.l, ?_⟩
    have Fb := F.put (.loop (rec .busy none))
    obtain ⟨Wb, hWb⟩ : ∃ Wb, W.putObj (D + 1) (.loop (rec .busy none)) = Wb := ⟨_, rfl⟩
    rw [hWb] at Fb ⊢
    clear hWb F q1
    have d7 : Wb.cell? ⟨w.heap.size + 1 + 1 + 1, 0, none⟩ = some (.int .u64 (rest : Int)) := Fb.k7.cell 0
    have d3 : Wb.cell? ⟨w.heap.size, 0, none⟩ = some (.int .u64 (n : Int)) := Fb.k3.cell 0
    have d4 : Wb.cell? ⟨w.heap.size + 1, 0, none⟩ = some (.int .u64 0) := Fb.k4.cell 0
    have d5 : Wb.cell? ⟨w.heap.size + 1 + 1, 0, none⟩ = some (.int .i64 0) := Fb.k5.cell 0
    have f4 := Fb.k4.frozen 0
    have f5 := Fb.k5.frozen 0
    refine wpIn_block ?_
    refine wpIn_seq ?_
    cases hc : ok (xs j) with
    | true =>
      have hle := hok j hc
      have HP := Lib.hid (show j < 200 ∧ (∀ i, i < j → ok (xs i) = false) ∧ ok (xs j) = true from ⟨hj, hnone, hc⟩)
      have HS := Lib.hid (Fb.set ((xs j : Int) % (n : Int)) 0)
      clear hnone hok hno hc hj Fb
      refine round_region (fun ⟨_, _, h⟩ => h) rfl ?_
      go_wp2
      refine wpIn_cond_true rfl ?_
      refine wpIn_seq ?_
      refine round_region (fun ⟨_, _, h⟩ => h) rfl ?_
      go_wp2
      refine wpIn_ret ?_
      exact ⟨HS.out.l, .inr ⟨rfl, j, HP.out.1, HP.out.2.1, HP.out.2.2, HS.out.put _⟩⟩
    | false =>
      have hle := (hno j hc).1
      have hr0 := (hno j hc).2
      have hN : ∀ i, i < j + 1 → ok (xs i) = false := fun i hi => by
        rcases Nat.lt_or_ge i j with h | h
        · exact hnone i h
        · obtain rfl : i = j := by omega
          exact hc
      have HN1 := Lib.hid hN
      have HE1 := Lib.hid Fb.l
      have HE2 := Lib.hid (Fb.put (.loop (rec .ready none)))
      clear hN
      clear hnone hok hno hc hj Fb
      refine round_region (fun ⟨_, _, h⟩ => h) rfl ?_
      go_wp2
      exact wpIn_cond_false (by show Value.bool (decide (xs j ≤ lim) || (rest : Int) == 0) = Value.bool false; have h1 : decide (xs j ≤ lim) = false := decide_eq_false (by omega); have h2 : ((rest : Int) == 0) = false := (by simp; omega); rw [h1, h2]; rfl) (wpIn_skip ⟨HE1.out, .inl ⟨rfl, HN1.out, HE2.out⟩⟩)
  refine (candU_iter (D + 1) bt b _ _ _ (fun j W h => h.2.kt) (fun j W hj h => ?_) hY W1 ⟨fun i h => absurd h (by omega), by rw [h0]; exact F1⟩).mono ?_
  · refine (HN j b W h.2.kb).mono ?_
    rintro e W' ⟨rfl, kb, lp, _⟩
    exact ⟨_, rfl, rfl, h.1, h.2.step kb lp⟩
  · rintro e W9 ⟨v, rfl, h9⟩
    clear hY F1 hok hno HN h0 e0 e1 e2 e3 e4 hrec
    rcases h9 with ⟨hn, F⟩ | ⟨j, hj, hn, hc, F⟩
    · refine ⟨v, rfl, .inl ⟨F.l, ?_⟩⟩
      have FZ := F.put (.loop (rec .exhausted none))
      obtain ⟨Z, hZ⟩ : ∃ Z, W9.putObj (D + 1) (.loop (rec .exhausted none)) = Z := ⟨_, rfl⟩
      rw [hZ] at FZ ⊢
      clear hZ F
      have d4 : Z.cell? ⟨w.heap.size + 1, 0, none⟩ = some (.int .u64 0) := FZ.k4.cell 0
      have d5 : Z.cell? ⟨w.heap.size + 1 + 1, 0, none⟩ = some (.int .i64 0) := FZ.k5.cell 0
      have f4 := FZ.k4.frozen 0
      have f5 := FZ.k5.frozen 0
      have HF := Lib.hid (FZ.set 0 9)
      have HN := Lib.hid hn
      clear FZ hn
      refine hKN _ _ ?_
      go_wp2
      obtain ⟨o1, o2, o3, o4⟩ := HF.out.out
      refine leave_mark HF.out.d (v := .tuple #[.int .u64 0, .int .i64 9]) (by simp [results, Tryz.results35, go_sem, o1, o2]) ?_
      exact .inr ⟨HN.out, rfl, o3, o4⟩
    · refine ⟨v, rfl, .inr ⟨F.l, ?_⟩⟩
      have FZ := F.put (.loop (rec .exhausted (some .ret)))
      obtain ⟨o1, o2, o3, o4⟩ := FZ.out
      refine leave_mark FZ.d (v := .tuple #[.int .u64 ((xs j : Int) % (n : Int)), .int .i64 0]) (by simp [results, Tryz.results35, go_sem, o1, o2]) ?_
      exact .inl ⟨j, hj, hn, hc, rfl, o3, o4⟩

end Go.Proofs.YtogkkhaepfablaaGreat
