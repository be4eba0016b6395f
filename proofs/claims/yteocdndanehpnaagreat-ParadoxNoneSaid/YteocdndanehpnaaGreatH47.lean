/- Several texts in one: PxH, RoundR, PxT, PxF. -/
import Derived.Test.YteocdndanehpnaaGreatH46
import Derived.Deep.AppendLies
import Derived.Test.YteocdndanehpnaaGreatH17
namespace Go.Proofs.YteocdndanehpnaaGreat
open Go.RowKit
set_option linter.unusedSimpArgs false
set_option linter.unusedVariables false
theorem Px.lat_putObj {w : World} {l : Nat} {o : Obj} (_hl : l < w.heap.size) : LatP (· = l) w (w.putObj l o) := by
 refine ⟨rfl, rfl, rfl, by simp [World.putObj], fun k _ hk => ?_⟩
 simp only [World.putObj]
 rw [Array.getElem?_setIfInBounds_ne (fun h => hk h.symm)]
theorem Px.putObj_at {w : World} {l : Nat} {o : Obj} (hl : l < w.heap.size) : (w.putObj l o).heap[l]? = some o := World.putObj_heap_same hl
theorem Px.hlt_of {W : World} {k : Nat} {o : Obj} (h : W.heap[k]? = some o) : k < W.heap.size := (Array.getElem?_eq_some_iff.1 h).1
theorem Px.no_loop {Z : World} {x : Nat} {L : Loop} {gz : Nat} {cs : Array Value} {tz : TypeId} (h1 : Z.heap[x]? = some (.loop L)) (h2 : Blk Z gz tz cs) : gz ≠ x := by
 intro h3
 subst h3
 unfold Blk at h2
 rw [h1] at h2
 cases h2
theorem Px.at_ {M : Nat → Prop} {W w : World} {k : Nat} {o : Obj} (hl : LatP M W w) (h : W.heap[k]? = some o) (hk : ¬ M k) : w.heap[k]? = some o := (hl.block k (Px.hlt_of h) hk).trans h
theorem Px.zip_one (t : Tmp) (x : Value) : (#[t] : Array Tmp).zip #[x] = #[(t, x)] := by
 apply Array.ext'
 rw [Array.toList_zip]
 rfl
theorem Px.own_at {w : World} {B m : Nat} {E : TypeId} {v : Value} {xs : List (List Value)} (h : OwnM w B E m v xs) : ∀ g, v.ownBlock = some g → B ≤ g ∧ g < w.heap.size ∧ ∃ cs, Blk w g E cs := by
 intro g hg
 rcases h.2.2 with ⟨rfl, _⟩ | ⟨g', cap, cur, rfl, hb, hh, _⟩
 ·cases hg
 ·cases hg
  have hB : Blk w g' E cur := hh
  exact ⟨hb, hB.lt, cur, hB⟩
theorem Px.own_low {w : World} {B B' m : Nat} {E : TypeId} {v : Value} {xs : List (List Value)} (h : OwnM w B E m v xs) (hB : B' ≤ B) : OwnM w B' E m v xs := by
 obtain ⟨h0, h1, h2⟩ := h
 refine ⟨h0, h1, ?_⟩
 rcases h2 with h2 | ⟨g, cap, cur, e, hb, r⟩
 ·exact .inl h2
 ·exact .inr ⟨g, cap, cur, e, Nat.le_trans hB hb, r⟩
theorem Px.own_keepP {M : Nat → Prop} {w w' : World} {B m : Nat} {E : TypeId} {v : Value} {xs : List (List Value)} (h : OwnM w B E m v xs) (hl : LatP M w w') (hM : ∀ g, v.ownBlock = some g → ¬ M g) : OwnM w' B E m v xs :=
 h.kept (fun g hg => hl.block g (Px.own_at h g hg).2.1 (hM g hg))
theorem Px.prs_snoc (l : List (Int × Int)) (a b : Int) : prs (l ++ [(a, b)]) = prs l ++ [[.int .i64 a, .int .i64 b]] := by simp [prs]
theorem Px.arrInfo : (Tryz.prog.info? 56).map (fun i => (i.zero, i.size, i.bytes)) = some (some (.agg #[.int .i64 0, .int .i64 0]), 2, 16) := by kernel_rfl
theorem wpList_pushMk {P : Program} {ops : Array Oper} {rest : List Oper} {o : Oper} {a : Act} {Q : Exit → Act → World → Prop} (hgd : o.guard = none) (s x : Operand) (t : TypeId)
  (ho : o.op = .call { callee := .builtin .append, args := #[s, x], argTypes := #[t, t] })
  (B : Nat) (E T : TypeId) (z : Value) (m by_ : Nat) (ht : P.underlying t = some (.slice E)) (hinfo : (P.info? E).map (fun i => (i.zero, i.size, i.bytes)) = some (some z, m, by_)) (hz : z.cells.size = m) (hm : 0 < m) (hby : by_ ≤ 1000)
  (v : Value) (xs : List (List Value)) (y : List Value) (hys : ∀ u ∈ y, u.oneCell' = true) (w : World) (g : Nat) (hs : a.eval s = v) (hown : OwnM w B E m v xs) (hb : Blk w g T y.toArray)
  (hy : y.length = m) (c : Nat) (hx : a.eval x = .slice (some ⟨g, 0, none⟩) 1 c) (hlen : xs.length ≤ 100000000) (hB : B ≤ w.heap.size)
  (h : ∀ v' w', OwnM w' B E m v' (xs ++ [y]) → w.grownBy w' v.ownBlock → (v'.ownBlock = v.ownBlock ∨ v'.ownBlock = some w.heap.size) → wpList P ops Q rest (a.put o.dst v') w') : wpList P ops Q (o :: rest) a w := by
 obtain ⟨i0, hi, hz0, hz1, hz2⟩ := info_parts hinfo
 refine wpList_plain hgd fun _ hK => wp_append_lies (P := P) w s x t ho B E i0 z m by_ ht hi hz0 hz1 hz2 hz hm v xs.length _ hs hown.2 ⟨g, 0, none⟩ 1 c y hx (by omega) ?_ hys (by decide) ?_ ?_ hB w.heap.size rfl ?_
 ·intro j u hu
  have e : (⟨g, 0, none⟩ : Addr).add j = ⟨g, j, none⟩ := by unfold Addr.add; split <;> simp_all
  rw [e, hb.cell j]
  simpa using hu
 ·unfold maxLen; omega
 ·have := Nat.mul_le_mul_left (xs.length + 1) hby; omega
 ·intro g' cap w' h1 h2 h4 _
  refine hK _ _ (h _ w' ⟨fun u hu => ?_, ?_⟩ h2 ?_)
  ·rcases List.mem_append.1 hu with hu | hu
   ·exact hown.1 u hu
   ·rw [List.mem_singleton] at hu; subst hu; exact hy
  ·rw [List.length_append, List.flatten_append]
   simpa using h1
  ·rcases h4 with h4 | h4
   ·left; rw [h4]; rfl
   ·right; rw [← h4]; rfl
def ClcI (rec : LoopState → Option Code → Loop) (w5 : World) (bS : Nat) (st : LoopState) (L : List (Int × Int)) (ov : Value) (W : World) : Prop :=
 W.heap[w5.heap.size + 1]? = some (.loop (rec st none)) ∧ W.heap[w5.heap.size]? = some (.deferred (some [])) ∧ Blk W bS 32 #[ov] ∧ OwnM W w5.heap.size 56 2 ov (prs L) ∧ LatP (· = bS) w5 W
section
variable {rec : LoopState → Option Code → Loop} {w5 : World} {bS : Nat} {st st2 : LoopState} {L : List (Int × Int)} {ov : Value} {W W' : World}
theorem ClcI.later (h : ClcI rec w5 bS st L ov W) (hl : Lat W W') : ClcI rec w5 bS st L ov W' := by
 obtain ⟨q1, q2, q3, qo, q4⟩ := h
 exact ⟨(Below.block hl _ (Px.hlt_of q1)).trans q1, (Below.block hl _ (Px.hlt_of q2)).trans q2, q3.later hl, qo.later hl, q4.trans (hl.p _)⟩
theorem ClcI.put (h : ClcI rec w5 bS st L ov W) (hb : bS < w5.heap.size) : ClcI rec w5 bS st2 L ov (W.putObj (w5.heap.size + 1) (.loop (rec st2 none))) := by
 obtain ⟨q1, q2, q3, qo, q4⟩ := h
 have hp := Px.lat_putObj (w := W) (o := .loop (rec st2 none)) (Px.hlt_of q1)
 have hno : ∀ g, ov.ownBlock = some g → ¬ g = w5.heap.size + 1 := fun g hg => by obtain ⟨_, _, cs, h2⟩ := Px.own_at qo g hg; exact Px.no_loop q1 h2
 refine ⟨Px.putObj_at (Px.hlt_of q1), Px.at_ hp q2 (by omega), q3.keepP hp (by omega), Px.own_keepP qo hp hno, ⟨hp.os.trans q4.os, hp.tape.trans q4.tape, hp.output.trans q4.output, Nat.le_trans q4.size hp.size, fun k hk hm => (hp.block k (Nat.lt_of_lt_of_le hk q4.size) (by omega)).trans (q4.block k hk hm)⟩⟩
end
set_option maxRecDepth 100000 in
set_option maxHeartbeats 8000000 in
theorem appendSeq_loss (D : Int → Int) (Lx : Int → List Int) (B0 b1 b2 b3 b4 n c : Nat) (A : Option Addr) (P : List Int) (a k z : Int) (T : Nat) (w : World)
  (hK : LsK B0 b1 b2 b3 b4 n c A P a k z w) (a0 : 0 ≤ a) (a1 : a ≤ 100000) (hz : z = a + (T : Int)) (hT : T ≤ 100) (hn0 : 0 < n) (hn : n ≤ 60)
  (hD : ∀ (t : Nat) (w : World), t ≤ T → Sl w .i64 A n P → Calls Tryz.prog 20 #[.slice A n c, .int .i64 (a + (t : Int)), .int .i64 k] w (DecPost w (Lx (a + (t : Int))) (D (a + (t : Int)))))
  (hlen : ∀ s, D s = 0 → (Lx s).length = n) :
  Calls Tryz.prog 52 #[.slice none 0 0, .func (.func 53) #[] #[.pointer (some ⟨b1, 0, none⟩), .pointer (some ⟨b2, 0, none⟩), .pointer (some ⟨b3, 0, none⟩), .pointer (some ⟨b4, 0, none⟩)]] w
   (fun e w' => ∃ v, e = .returned v ∧ OwnM w' w.heap.size 56 2 v (prs (lossG D Lx n a T)) ∧ Lat w w') := by
 refine calls_of_marks Tryz.func52 rfl ?_
 simp only [Tryz.ntmps52, List.size_toArray, List.length_cons, List.length_nil, Nat.reduceAdd, Nat.reduceSub, Array.replicate_succ, Array.replicate_zero, List.push_toArray, List.append_toArray, List.nil_append, List.cons_append]
 go_upto_region 1 with (fail)
 refine name1 (Q := fun W => Code.wp _ _ _ _ W) ?_
 intro w5 l5 hs5 k2
 obtain ⟨bS, hbS⟩ : ∃ z, w.heap.size = z := ⟨_, rfl⟩
 have hwS : w.heap.size ≤ bS := by omega
 rw [hbS] at k2 ⊢
 have hBS : B0 ≤ bS := by rw [← hbS]; exact hK.lw
 clear hbS hs5
 have h2 := k2.lt
 have hK5 := hK.later l5
 go_wp2_with fail
 rename_i KN hKN
 refine rangeFunc_any (id := 0) (gf := 53) (lb := #[.pointer (some ⟨b1, 0, none⟩), .pointer (some ⟨b2, 0, none⟩), .pointer (some ⟨b3, 0, none⟩), .pointer (some ⟨b4, 0, none⟩)]) (by rfl) (enters_of Tryz.func53 (by kernel_rfl) rfl) ?_
 intro fn W1 hW1
 generalize hrec : recOf _ fn _ _ _ _ = rec at hW1 ⊢
 have hl1 : Lat w5 W1 := by rw [hW1]; exact (Lat.alloc _ _).trans (Lat.alloc _ _)
 have hz1 : W1.heap.size = w5.heap.size + 2 := by rw [hW1]; simp
 have hI1 : ClcI rec w5 bS .ready [] (.slice none 0 0) W1 := by
  refine ⟨?_, ?_, k2.later hl1, OwnM.nil _ _ _ _, hl1.p _⟩
  ·rw [hW1]; have := World.alloc_heap_new (w5.alloc (.deferred (some []))) (.loop (rec .ready none)); rwa [World.size_alloc] at this
  ·rw [hW1]; exact (Below.heap_alloc _ _ _ (by simp)).trans (World.alloc_heap_new w5 _)
 clear hW1
 have hY : YieldsL (w5.heap.size + 1) (fun q => q = bS ∨ q = w5.heap.size + 1) (fun L g W => ∃ ov : Value, g = ov.ownBlock ∧ ClcI rec w5 bS .ready L ov W) (fun _ _ _ => False) := by
  intro L gg V x y hLl hIL
  obtain ⟨ov, rfl, hIL⟩ := hIL
  have hq1 := hIL.1
  rw [← hrec] at hq1
  refine YieldAt.mono (round_any (id := 0) (R := fun bb W' => bb = true ∧ LatP (fun q => (q = bS ∨ q = w5.heap.size + 1) ∨ some q = ov.ownBlock) V W' ∧ ∃ ov' : Value, (ov'.ownBlock = ov.ownBlock ∨ ∀ q, ov'.ownBlock = some q → V.heap.size ≤ q) ∧ ClcI rec w5 bS .ready (L ++ [(x, y)]) ov' W') hq1 rfl ?_) (fun e W' h => by
   obtain ⟨b, rfl, rfl, hl, ov', ho, hI⟩ := h
   exact ⟨true, rfl, .inl ⟨rfl, hl, ov'.ownBlock, ho, ov', rfl, hI⟩⟩)
  rw [hrec]
  rw [Px.zip_one]
  refine round_region (fun ⟨_, _, h⟩ => h) rfl ?_
  simp only [List.size_toArray, List.length_cons, List.length_nil, List.foldl_toArray, List.foldl_cons, List.foldl_nil, List.setIfInBounds_toArray, List.set_cons_zero, List.set_cons_succ]
  go_wp2
  generalize hV2 : V.alloc _ = V2
  have k5 : Blk V2 V.heap.size 56 #[.int .i64 x, .int .i64 y] := by rw [← hV2]; exact Blk.new _ _ _
  have M2 : Lat V V2 := by rw [← hV2]; exact Lat.alloc _ _
  clear hV2
  have hI2 := hIL.later M2
  refine ⟨hI2.1, ?_⟩
  have hlV := Px.hlt_of hI2.1
  have hp1 := Px.lat_putObj (w := V2) (o := .loop (rec .busy none)) hlV
  have hI3 := hI2.put (st2 := .busy) h2
  obtain ⟨Wb, hWb⟩ : ∃ Wb, V2.putObj (w5.heap.size + 1) (.loop (rec .busy none)) = Wb := ⟨_, rfl⟩
  rw [hWb] at hp1 hI3 ⊢
  clear hWb
  have n5 : ¬ V.heap.size = w5.heap.size + 1 := by have := Px.hlt_of hIL.1; omega
  have k5 := k5.keepP hp1 n5
  have hVb : LatP (fun q => (q = bS ∨ q = w5.heap.size + 1) ∨ some q = ov.ownBlock) V Wb := (M2.p _).trans (hp1.wider (fun q h => .inl (.inr h)))
  have hbW : w5.heap.size ≤ Wb.heap.size := by have := Px.hlt_of hI3.1; omega
  have hVW : V.heap.size ≤ Wb.heap.size := Nat.le_trans M2.size hp1.size
  have hlen : (prs L).length ≤ 100000000 := by unfold prs; rw [List.length_map]; omega
  have HI3 := Lib.hid hI3
  have HVB := Lib.hid hVb
  have dS := hI3.2.2.1.cell 0
  have d0 := k5.cell 0
  have d1 := k5.cell 1
  have LA := Lat.alloc Wb (.cells #[.int .i64 x, .int .i64 y] 56)
  have hnS : ∀ g', ov.ownBlock = some g' → bS ≠ g' := fun g' hg' => by
   obtain ⟨h1, _⟩ := Px.own_at hI3.2.2.2.1 g' hg'
   omega
  clear hI3 hI2 hIL hlV hp1 M2 hVb hq1 n5 k5
  refine wpIn_block ?_
  refine round_region (fun ⟨_, _, h⟩ => h) rfl ?_
  go_wp2_with (refine wpList_pushMk rfl _ _ 32 (by rfl) w5.heap.size 56 56 (.agg #[.int .i64 0, .int .i64 0]) 2 16 Tryz.underlying32 Px.arrInfo rfl (by decide) (by decide) ov (prs L) [.int .i64 x, .int .i64 y] (by simp [Value.oneCell']) _ Wb.heap.size (by rfl) (HI3.out.2.2.2.1.later LA) (Blk.new _ _ _) rfl 1 (by rfl) hlen (Nat.le_trans hbW LA.size) ?_; intro v' w' own' hgr hso; obtain ⟨A', c9, rfl, _⟩ := own'.form; have y11 : Blk w' bS 32 #[ov] := (hgr.block _ (HI3.out.2.2.1.later LA).lt (fun h => hnS _ h.symm rfl)).trans (HI3.out.2.2.1.later LA); have e0 := y11.cell 0; have f0 := y11.frozen 0)
  refine name_set (Q := fun W => roundEnds _ _ _ 0 Exit.normal _ W) y11 ?_
  intro W4 y114 hk4 hs4 hl4
  have eL : (prs L ++ [[Value.int .i64 x, Value.int .i64 y]]).length = (prs L).length + 1 := by simp
  rw [eL] at own' hso
  have S : LatP (fun q => some q = ov.ownBlock) Wb w' := (LA.p _).trans ⟨hgr.os, hgr.tape, hgr.output, hgr.size, fun j hj hn => hgr.block j hj hn⟩
  have S4 : LatP (fun q => q = bS ∨ some q = ov.ownBlock) Wb W4 := (S.wider (fun q h => .inr h)).trans (hl4.wider (fun q h => .inl h))
  obtain ⟨q1, q2, q3, qo, q4⟩ := HI3.out
  have no1 : some (w5.heap.size + 1) ≠ ov.ownBlock := fun h => by
   obtain ⟨_, _, cs, h9⟩ := Px.own_at qo _ h.symm
   exact Px.no_loop q1 h9 rfl
  have no2 : some w5.heap.size ≠ ov.ownBlock := fun h => by
   obtain ⟨_, _, cs, h9⟩ := Px.own_at qo _ h.symm
   unfold Blk at h9
   rw [q2] at h9
   cases h9
  have y1 : W4.heap[w5.heap.size + 1]? = some (.loop (rec .busy none)) := Px.at_ S4 q1 (fun h => by rcases h with h | h; omega; exact no1 h)
  have y2 : W4.heap[w5.heap.size]? = some (.deferred (some [])) := Px.at_ S4 q2 (fun h => by rcases h with h | h; omega; exact no2 h)
  have yo := own'.kept (fun q hq => hk4 q (fun h => by have := (Px.own_at own' q hq).1; omega))
  have yl : LatP (fun q => (q = bS ∨ q = w5.heap.size + 1) ∨ some q = ov.ownBlock) V W4 := HVB.out.trans (S4.wider (fun q h => by
   rcases h with h | h
   ·exact .inl (.inl h)
   ·exact .inr h))
  have y4 : LatP (· = bS) w5 W4 := by
   refine ⟨S4.os.trans q4.os, S4.tape.trans q4.tape, S4.output.trans q4.output, Nat.le_trans q4.size S4.size, fun q hq hm => (S4.block q (Nat.lt_of_lt_of_le hq q4.size) (fun h => ?_)).trans (q4.block q hq hm)⟩
   rcases h with h | h
   ·exact hm h
   ·have := (Px.own_at qo q h.symm).1; omega
  have hI4 : ClcI rec w5 bS .busy (L ++ [(x, y)]) _ W4 := ⟨y1, y2, by simpa using y114, by rw [Px.prs_snoc]; exact yo, y4⟩
  have hI5 := hI4.put (st2 := .ready) h2
  have hp2 := Px.lat_putObj (w := W4) (o := .loop (rec .ready none)) (Px.hlt_of y1)
  refine ⟨y1, rfl, yl.trans (hp2.wider (fun q h => .inl (.inr h))), _, ?_, hI5⟩
  rcases hso with h | h
  ·exact .inl h
  ·right
   intro q hq
   rw [h] at hq
   have := LA.size
   cases hq
   omega
 refine (losses_iter D Lx B0 b1 b2 b3 b4 n c A P a k z T (w5.heap.size + 1) (fun q => q = bS ∨ q = w5.heap.size + 1) (fun L g W => ∃ ov : Value, g = ov.ownBlock ∧ ClcI rec w5 bS .ready L ov W) (fun _ _ _ => False) W1 (hK5.later hl1) a0 a1 hz hT hn0 hn hD hlen (fun L g W W' h hl => by
   obtain ⟨ov, e, h⟩ := h
   exact ⟨ov, e, h.later hl⟩) (fun L g W h q hq => by
   obtain ⟨ov, rfl, h⟩ := h
   obtain ⟨h9, h8, _⟩ := Px.own_at h.2.2.2.1 q hq
   exact ⟨by omega, h8⟩) (fun q h => by
   rcases h with rfl | rfl
   ·exact ⟨hBS, by omega⟩
   ·exact ⟨by omega, by omega⟩) hY _ ⟨_, rfl, hI1⟩).mono ?_
 rintro e W9 ⟨v, rfl, ⟨g9, ov, rfl, hI9⟩ | ⟨_, _, _, hf⟩⟩
 ·refine ⟨v, rfl, Or.inl ⟨hI9.1, ?_⟩⟩
  have hI10 := hI9.put (st2 := .exhausted) h2
  obtain ⟨Z, hZ⟩ : ∃ Z, W9.putObj (w5.heap.size + 1) (.loop (rec .exhausted none)) = Z := ⟨_, rfl⟩
  rw [hZ] at hI10 ⊢
  have d0 := hI10.2.2.1.cell 0
  have HI10 := Lib.hid hI10
  clear hI10 hI9 hZ hY hI1 hl1
  dsimp only
  refine hKN _ _ ?_
  go_wp2
  obtain ⟨q1, q2, q3, qo, q4⟩ := HI10.out
  refine leave_mark q2 (v := ov) (by simp [results, Tryz.results52, go_sem]) ?_
  have hp2 := Px.lat_putObj (w := Z) (o := .deferred none) (Px.hlt_of q2)
  refine ⟨ov, rfl, ?_, ?_⟩
  ·refine Px.own_low (Px.own_keepP qo hp2 (fun g hg h => ?_)) l5.size
   obtain ⟨_, _, cs, h9⟩ := Px.own_at qo g hg
   subst h
   unfold Blk at h9
   rw [q2] at h9
   cases h9
  ·exact LatP.lat (M := fun q => q = bS ∨ q = w5.heap.size) l5 ((q4.wider (fun q h => .inl h)).trans (hp2.wider (fun q h => .inr h))) (fun q h => by rcases h with rfl | rfl; exact hwS; exact l5.size)
 ·exact hf.elim
end Go.Proofs.YteocdndanehpnaaGreat
namespace Go.Proofs.YteocdndanehpnaaGreat
open Go.RowKit
def roundRets (l : Nat) (rec : LoopState → Option Code → Loop) (R : Bool → World → Prop) : Exit → Act → World → Prop
 | .normal, _, w => w.heap[l]? = some (.loop (rec .busy none)) ∧ R true (w.putObj l (.loop (rec .ready none)))
 | .ret, _, w => w.heap[l]? = some (.loop (rec .busy none)) ∧ R false (w.putObj l (.loop (rec .done (some .ret))))
 | _, _, _ => False
theorem round_ret {P : Program} {a : Act} {fn : FuncId} {ps : Array Tmp} {assign body : Code} {D l n : Nat} {args : Array Value} {W : World} {R : Bool → World → Prop}
  (hl : W.heap[l]? = some (.loop (recOf a fn ps assign body D .ready none))) (hs : args.size = ps.size)
  (h : assign.wpIn (Fence.wide.inRound l) n P (Exit.then (fun a₁ w₁ => w₁.heap[l]? = some (.loop (recOf a fn ps assign body D .ready none)) ∧
     body.wpIn (Fence.wide.inRound l) n P (roundRets l (recOf a fn ps assign body D) R) a₁ (w₁.putObj l (.loop (recOf a fn ps assign body D .busy none)))) (fun _ _ _ => False))
    { tmps := (ps.zip args).foldl (fun tmps (t, a) => tmps.setIfInBounds t a) a.tmps, defers := [] } W) :
  YieldAt Fence.wide n P l args W (fun e w' => ∃ b, e = .returned (.bool b) ∧ R b w') := by
 refine ⟨fn, _, assign, body, run_yield hl hs, roundIn_of_wpIn trivial ?_⟩
 refine wpIn_mono h ?_
 rintro e a₁ w₁ hq
 cases e with
 | normal =>
   obtain ⟨hl1, hb⟩ := hq
   refine ⟨_, run_beginRound hl1 rfl, ?_⟩
   refine wpIn_mono hb ?_
   rintro e a₂ w₂ hq
   cases e with
   | normal =>
     obtain ⟨h1, h2⟩ := hq
     exact ⟨_, _, run_endRound none h1, true, rfl, h2⟩
   | ret =>
     obtain ⟨h1, h2⟩ := hq
     exact ⟨_, _, run_endRound (some .ret) h1, false, rfl, h2⟩
   | exit i => exact hq.elim
   | goto t => exact hq.elim
   | panic c => exact hq.elim
   | outgrown => exact hq.elim
 | exit id => exact hq.elim
 | ret => exact hq.elim
 | goto t => exact hq.elim
 | panic c => exact hq.elim
 | outgrown => exact hq.elim
def iterRets (l D : Nat) (rec : LoopState → Option Code → Loop) (Q : Exit → Act → World → Prop) (a : Act) (e : Ending) (w : World) : Prop :=
 ∃ v, e = .returned v ∧
  ((w.heap[l]? = some (.loop (rec .ready none)) ∧ Q .normal { a with defers := { target := .collected D, args := #[] } :: a.defers } (w.putObj l (.loop (rec .exhausted none)))) ∨
   (w.heap[l]? = some (.loop (rec .done (some .ret))) ∧ Q .ret { a with defers := { target := .collected D, args := #[] } :: a.defers } (w.putObj l (.loop (rec .exhausted (some .ret))))))
theorem rangeFunc_ret {P : Program} {g : Operand} {ps : Array Tmp} {assign body : Code} {Q : Exit → Act → World → Prop} {a : Act} {w : World} {gf : Nat} {lb : Array Value}
  (hg : a.eval g = .func (.func gf) #[] lb) (eg : ∀ args w, (callFunc gf args).run P w = .ok (.enter gf args) w)
  (h : ∀ (fn : FuncId) (W1 : World), W1 = (w.alloc (.deferred (some []))).alloc (.loop (recOf a fn ps assign body w.heap.size .ready none)) →
    Calls P gf (#[.func (.yield (w.heap.size + 1)) #[] #[]] ++ lb) W1 (iterRets (w.heap.size + 1) w.heap.size (recOf a fn ps assign body w.heap.size) Q a)) :
  (Code.rangeFunc g ps assign body).wp P Q a w := by
 refine (wpIn_wide (n := 3)).1 (wpIn_rangeFunc (F := Fence.wide) (n := 3) ?_)
 intro fn _
 have hro : Fence.wide.round = none := rfl
 rw [hro]
 have h' := h fn _ rfl
 obtain ⟨W1, hW1⟩ : ∃ W1, (w.alloc (.deferred (some []))).alloc (.loop (recOf a fn ps assign body w.heap.size .ready none)) = W1 := ⟨_, rfl⟩
 rw [hW1] at h'
 refine ⟨w.heap.size + 1, [{ target := .collected w.heap.size, args := #[] }], W1, { target := .fn (.func gf) lb, args := #[.func (.yield (w.heap.size + 1)) #[] #[]] }, W1, gf,
  #[.func (.yield (w.heap.size + 1)) #[] #[]] ++ lb, W1, ?_, ?_, fun _ _ => trivial, ?_, ?_, ?_⟩
 ·have := run_enterLoop_outer (P := P) (w := w) fn a.tmps ps assign body
  rw [this, ← hW1]
  rfl
 ·clear h h' eg
  simp only [resolve, hg]
  simp [go_sem]
 ·clear h h' hg
  simp [invoke, go_sem, eg]
 ·intro hh; cases hh
 ·rw [show (3 - 1 : Nat) = 2 from rfl]
  refine callsIn_wide.2 (h'.mono ?_)
  rintro e w2 ⟨v, rfl, h⟩
  rcases h with ⟨h1, h2⟩ | ⟨h1, h2⟩
  ·exact ⟨none, _, run_endLoop h1 (by simp [recOf]), h2⟩
  ·exact ⟨some .ret, _, run_endLoop h1 (by simp [recOf]), wpIn_ret h2⟩
end Go.Proofs.YteocdndanehpnaaGreat
namespace Go.Proofs.YteocdndanehpnaaGreat
open Go.RowKit
set_option linter.unusedSimpArgs false
set_option linter.unusedVariables false
set_option maxRecDepth 100000 in
set_option maxHeartbeats 4000000 in
theorem losses_fn (A : Option Addr) (n c : Nat) (P : List Int) (k a z : Int) (w : World) (hs : Sl w .i64 A n P) (hA : ∀ x, A = some x → x.block < w.heap.size) :
  Calls Tryz.prog 28 #[.slice A n c, .int .i64 k, .int .i64 a, .int .i64 z] w (fun e w' => e = .returned (.func (.func 53) #[] #[.pointer (some ⟨w.heap.size, 0, none⟩), .pointer (some ⟨w.heap.size + 1 + 1, 0, none⟩), .pointer (some ⟨w.heap.size + 1, 0, none⟩), .pointer (some ⟨w.heap.size + 1 + 1 + 1, 0, none⟩)]) ∧ Lat w w' ∧
   LsK w'.heap.size w.heap.size (w.heap.size + 1 + 1) (w.heap.size + 1) (w.heap.size + 1 + 1 + 1) n c A P a k z w') := by
 have HS := Lib.hid hs
 clear hs
 go_enter Tryz.func28, Tryz.ntmps28
 go_wp2
 refine name4 (Q := fun W => bodyPost _ _ _ _ _ W) ?_
 intro W hl hsz k1 k2 k3 k4
 go_ret
 refine ⟨rfl, hl, k1, k3, k2, k4, HS.out.later hl, by omega, by omega, by omega, by omega, fun x e => Nat.lt_of_lt_of_le (hA x e) hl.size, Nat.le_refl _⟩
structure DecRun (D : Int → Int) (Lx : Int → List Int) (n c : Nat) (A : Option Addr) (P : List Int) (a k : Int) (T : Nat) : Prop where
 a0 : 0 ≤ a
 a1 : a ≤ 100000
 hT : T ≤ 100
 hn0 : 0 < n
 hn : n ≤ 60
 hD : ∀ (t : Nat) (w : World), t ≤ T → Sl w .i64 A n P → Calls Tryz.prog 20 #[.slice A n c, .int .i64 (a + (t : Int)), .int .i64 k] w (DecPost w (Lx (a + (t : Int))) (D (a + (t : Int))))
 hlen : ∀ s, D s = 0 → (Lx s).length = n
set_option maxRecDepth 100000 in
set_option maxHeartbeats 4000000 in
theorem collect_loss {D : Int → Int} {Lx : Int → List Int} {B0 b1 b2 b3 b4 n c : Nat} {A : Option Addr} {P : List Int} {a k z : Int} {T : Nat} (hR : DecRun D Lx n c A P a k T) (w : World)
  (hK : LsK B0 b1 b2 b3 b4 n c A P a k z w) (hz : z = a + (T : Int)) :
  Calls Tryz.prog 27 #[.func (.func 53) #[] #[.pointer (some ⟨b1, 0, none⟩), .pointer (some ⟨b2, 0, none⟩), .pointer (some ⟨b3, 0, none⟩), .pointer (some ⟨b4, 0, none⟩)]] w
   (fun e w' => ∃ v, e = .returned v ∧ OwnM w' w.heap.size 56 2 v (prs (lossG D Lx n a T)) ∧ Lat w w') := by
 have HA := appendSeq_loss D Lx B0 b1 b2 b3 b4 n c A P a k z T w hK hR.a0 hR.a1 hz hR.hT hR.hn0 hR.hn hR.hD hR.hlen
 clear hK hz hR
 go_enter Tryz.func27, Tryz.ntmps27
 go_wp2_with fail
 refine HA.mono ?_
 rintro e w1 ⟨v, rfl, ho, l1⟩
 have HO := Lib.hid ho
 clear ho HA
 go_wp2
 go_ret
 exact ⟨v, rfl, HO.out, l1⟩
set_option maxRecDepth 100000 in
set_option maxHeartbeats 4000000 in
theorem house_ok {D : Int → Int} {Lx : Int → List Int} {n c : Nat} {A : Option Addr} {P : List Int} {a k z : Int} {T : Nat} (hR : DecRun D Lx n c A P a k T) (hz : z = a + (T : Int)) (w : World) (hs : Sl w .i64 A n P)
  (HS : ∀ w', Lat w w' → Calls Tryz.prog 26 #[.slice A n c, .int .i64 k, .int .i64 a, .int .i64 z] w' (fun e w'' => e = .returned (.int .i64 0) ∧ Lat w' w'')) :
  Calls Tryz.prog 11 #[.slice A n c, .int .i64 k, .int .i64 a, .int .i64 z] w (fun e w' => ∃ v, e = .returned (.tuple #[v, .int .i64 0]) ∧ OwnM w' w.heap.size 56 2 v (prs (lossG D Lx n a T)) ∧ Lat w w') := by
 have HR := Lib.hid hR
 have HZ := Lib.hid hz
 have hA : ∀ x, A = some x → x.block < w.heap.size := fun x e => by
  obtain ⟨x', e', h, _⟩ := hs.2 hR.hn0
  rw [e] at e'
  cases e'
  exact h
 clear hR hz
 go_enter Tryz.func11, Tryz.ntmps11
 go_wp2_with fail
 refine (HS w (Lat.refl _)).mono ?_
 rintro e w1 ⟨rfl, l1⟩
 clear HS
 have HF := losses_fn A n c P k a z w1 (hs.later l1) (fun x e => Nat.lt_of_lt_of_le (hA x e) l1.size)
 clear hs hA
 go_wp2_with fail
 refine HF.mono ?_
 rintro e w2 ⟨rfl, l2, hK⟩
 have HC := collect_loss HR.out w2 hK HZ.out
 have L2 := l1.trans l2
 clear HF hK l1 l2
 go_wp2_with fail
 refine HC.mono ?_
 rintro e w3 ⟨v, rfl, ho, l3⟩
 have HO : Hid (OwnM w3 w.heap.size 56 2 v (prs (lossG D Lx n a T))) := Px.own_low ho L2.size
 clear ho HC
 go_wp2
 go_ret2
 exact ⟨v, rfl, HO.out, L2.trans l3⟩
set_option maxRecDepth 100000 in
set_option maxHeartbeats 4000000 in
theorem house_no {n c : Nat} {A : Option Addr} {a k z er : Int} (her : er ≠ 0) (w : World)
  (HS : ∀ w', Lat w w' → Calls Tryz.prog 26 #[.slice A n c, .int .i64 k, .int .i64 a, .int .i64 z] w' (fun e w'' => e = .returned (.int .i64 er) ∧ Lat w' w'')) :
  Calls Tryz.prog 11 #[.slice A n c, .int .i64 k, .int .i64 a, .int .i64 z] w (fun e w' => e = .returned (.tuple #[.slice none 0 0, .int .i64 er]) ∧ Lat w w') := by
 have hb : (er == 0) = false := by simpa using her
 go_enter Tryz.func11, Tryz.ntmps11
 go_wp2_with fail
 refine (HS w (Lat.refl _)).mono ?_
 rintro e w1 ⟨rfl, l1⟩
 clear HS
 go_wp2
 go_ret2
 exact ⟨rfl, l1⟩
end Go.Proofs.YteocdndanehpnaaGreat
namespace Go.Proofs.YteocdndanehpnaaGreat
open Go.RowKit
set_option linter.unusedSimpArgs false
set_option linter.unusedVariables false
def firstV : List (Int × Int) → Int × Int × Int
 | [] => (0, 0, 4)
 | x :: _ => (x.1, x.2, 0)
theorem Px.latP_set (w : World) (g i : Nat) (v : Value) : LatP (· = g) w (w.setCell ⟨g, i, none⟩ v) := ⟨rfl, rfl, rfl, by simp [World.setCell], fun k _ hk => Below.heap_setCell w ⟨g, i, none⟩ v k hk⟩
def FstI (w5 : World) (r : Nat) (o : Obj) (x y er : Int) (W : World) : Prop :=
 W.heap[w5.heap.size + 1]? = some o ∧ W.heap[w5.heap.size]? = some (.deferred (some [])) ∧ Blk W r 3 #[.int .i64 x] ∧ Blk W (r + 1) 3 #[.int .i64 y] ∧ Blk W (r + 1 + 1) 33 #[.int .i64 er] ∧
  LatP (fun q => q = r ∨ q = r + 1 ∨ q = r + 1 + 1) w5 W
section
variable {w5 W W' : World} {r : Nat} {o : Obj} {x y er : Int}
theorem FstI.later (h : FstI w5 r o x y er W) (hl : Lat W W') : FstI w5 r o x y er W' := by
 obtain ⟨q1, q2, k1, k2, k3, q4⟩ := h
 exact ⟨(Below.block hl _ (Px.hlt_of q1)).trans q1, (Below.block hl _ (Px.hlt_of q2)).trans q2, k1.later hl, k2.later hl, k3.later hl, q4.trans (hl.p _)⟩
theorem FstI.put (h : FstI w5 r o x y er W) (hr : r + 1 + 1 < w5.heap.size) (o2 : Obj) : FstI w5 r o2 x y er (W.putObj (w5.heap.size + 1) o2) := by
 obtain ⟨q1, q2, k1, k2, k3, q4⟩ := h
 have hp := Px.lat_putObj (w := W) (o := o2) (Px.hlt_of q1)
 exact ⟨Px.putObj_at (Px.hlt_of q1), Px.at_ hp q2 (by omega), k1.keepP hp (by omega), k2.keepP hp (by omega), k3.keepP hp (by omega),
  ⟨hp.os.trans q4.os, hp.tape.trans q4.tape, hp.output.trans q4.output, Nat.le_trans q4.size hp.size, fun k hk hm => (hp.block k (Nat.lt_of_lt_of_le hk q4.size) (by omega)).trans (q4.block k hk hm)⟩⟩
theorem FstI.set (h : FstI w5 r o x y er W) (hr : r + 1 + 1 < w5.heap.size) (x2 y2 er2 : Int) : FstI w5 r o x2 y2 er2 (((W.setCell ⟨r, 0, none⟩ (.int .i64 x2)).setCell ⟨r + 1, 0, none⟩ (.int .i64 y2)).setCell ⟨r + 1 + 1, 0, none⟩ (.int .i64 er2)) := by
 obtain ⟨q1, q2, k1, k2, k3, q4⟩ := h
 have a1 := k1.set 0 (.int .i64 x2)
 have l1 := Px.latP_set W r 0 (.int .i64 x2)
 obtain ⟨W1, hW1⟩ : ∃ z, W.setCell ⟨r, 0, none⟩ (.int .i64 x2) = z := ⟨_, rfl⟩
 rw [hW1] at a1 l1 ⊢
 have a2 := (k2.keepP l1 (by omega)).set 0 (.int .i64 y2)
 have l2 := Px.latP_set W1 (r + 1) 0 (.int .i64 y2)
 obtain ⟨W2, hW2⟩ : ∃ z, W1.setCell ⟨r + 1, 0, none⟩ (.int .i64 y2) = z := ⟨_, rfl⟩
 rw [hW2] at a2 l2 ⊢
 have a3 := ((k3.keepP l1 (by omega)).keepP l2 (by omega)).set 0 (.int .i64 er2)
 have l3 := Px.latP_set W2 (r + 1 + 1) 0 (.int .i64 er2)
 obtain ⟨W3, hW3⟩ : ∃ z, W2.setCell ⟨r + 1 + 1, 0, none⟩ (.int .i64 er2) = z := ⟨_, rfl⟩
 rw [hW3] at a3 l3 ⊢
 have L : LatP (fun q => q = r ∨ q = r + 1 ∨ q = r + 1 + 1) W W3 := ((l1.wider (fun q h => .inl h)).trans (l2.wider (fun q h => .inr (.inl h)))).trans (l3.wider (fun q h => .inr (.inr h)))
 refine ⟨Px.at_ L q1 (by omega), Px.at_ L q2 (by omega), ?_, ?_, by simpa using a3, q4.trans L⟩
 ·simpa using (a1.keepP l2 (by omega)).keepP l3 (by omega)
 ·simpa using a2.keepP l3 (by omega)
end
set_option maxRecDepth 100000 in
set_option maxHeartbeats 8000000 in
theorem first_ok {D : Int → Int} {Lx : Int → List Int} {n c : Nat} {A : Option Addr} {P : List Int} {a k z : Int} {T : Nat} (hR : DecRun D Lx n c A P a k T) (hz : z = a + (T : Int)) (w : World) (hs : Sl w .i64 A n P)
  (HS : ∀ w', Lat w w' → Calls Tryz.prog 26 #[.slice A n c, .int .i64 k, .int .i64 a, .int .i64 z] w' (fun e w'' => e = .returned (.int .i64 0) ∧ Lat w' w'')) :
  Calls Tryz.prog 12 #[.slice A n c, .int .i64 k, .int .i64 a, .int .i64 z] w (fun e w' => e = .returned (.tuple #[.int .i64 (firstV (lossG D Lx n a T)).1, .int .i64 (firstV (lossG D Lx n a T)).2.1, .int .i64 (firstV (lossG D Lx n a T)).2.2]) ∧ Lat w w') := by
 have HR := Lib.hid hR
 have HZ := Lib.hid hz
 have hA : ∀ x, A = some x → x.block < w.heap.size := fun x e => by
  obtain ⟨x', e', h, _⟩ := hs.2 hR.hn0
  rw [e] at e'
  cases e'
  exact h
 have HSL := Lib.hid hs
 clear hR hz hs
 refine calls_of_marks Tryz.func12 rfl ?_
 simp only [Tryz.ntmps12, List.size_toArray, List.length_cons, List.length_nil, Nat.reduceAdd, Nat.reduceSub, Array.replicate_succ, Array.replicate_zero, List.push_toArray, List.append_toArray, List.nil_append, List.cons_append]
 go_wp2_with fail
 refine name3 (Q := fun W => Calls _ _ _ W _) ?_
 intro w1 l1 hs1 k1 k2 k3
 refine (HS w1 l1).mono ?_
 rintro e w2 ⟨rfl, l2⟩
 have L2 := l1.trans l2
 have k1 := k1.later l2
 have k2 := k2.later l2
 have k3 := k3.later l2
 have HF := losses_fn A n c P k a z w2 (HSL.out.later L2) (fun x e => Nat.lt_of_lt_of_le (hA x e) L2.size)
 clear HS l1 l2 hs1 HSL hA
 go_wp2_with fail
 refine HF.mono ?_
 rintro e w5 ⟨rfl, l5, hK⟩
 have k1 := k1.later l5
 have k2 := k2.later l5
 have k3 := k3.later l5
 have L5 := L2.trans l5
 have hr5 := k3.lt
 clear HF l5 L2
 obtain ⟨b0, hb0⟩ : ∃ z, w2.heap.size = z := ⟨_, rfl⟩
 rw [hb0] at hK ⊢
 clear hb0
 obtain ⟨r, hr⟩ : ∃ z, w.heap.size = z := ⟨_, rfl⟩
 have hwr : w.heap.size ≤ r := by omega
 rw [hr] at k1 k2 k3 hr5 ⊢
 clear hr
 go_wp2_with fail
 rename_i KN hKN
 refine rangeFunc_ret (gf := 53) (lb := #[.pointer (some ⟨b0, 0, none⟩), .pointer (some ⟨b0 + 1 + 1, 0, none⟩), .pointer (some ⟨b0 + 1, 0, none⟩), .pointer (some ⟨b0 + 1 + 1 + 1, 0, none⟩)]) (by rfl) (enters_of Tryz.func53 (by kernel_rfl) rfl) ?_
 intro fn W1 hW1
 generalize hrec : recOf _ fn _ _ _ _ = rec at hW1 ⊢
 have hl1 : Lat w5 W1 := by rw [hW1]; exact (Lat.alloc _ _).trans (Lat.alloc _ _)
 have hz1 : W1.heap.size = w5.heap.size + 2 := by rw [hW1]; simp
 have hI1 : FstI w5 r (.loop (rec .ready none)) 0 0 0 W1 := by
  refine ⟨?_, ?_, k1.later hl1, k2.later hl1, k3.later hl1, hl1.p _⟩
  ·rw [hW1]; have := World.alloc_heap_new (w5.alloc (.deferred (some []))) (.loop (rec .ready none)); rwa [World.size_alloc] at this
  ·rw [hW1]; exact (Below.heap_alloc _ _ _ (by simp)).trans (World.alloc_heap_new w5 _)
 clear hW1
 have hY : YieldsL (w5.heap.size + 1) (fun _ => False) (fun L g W => L = [] ∧ g = none ∧ FstI w5 r (.loop (rec .ready none)) 0 0 0 W) (fun L x W => L = [] ∧ FstI w5 r (.loop (rec .done (some .ret))) x.1 x.2 0 W) := by
  rintro L gg V x y hLl ⟨rfl, rfl, hIL⟩
  have hq1 := hIL.1
  rw [← hrec] at hq1
  refine YieldAt.mono (round_ret (R := fun bb W' => bb = false ∧ FstI w5 r (.loop (rec .done (some .ret))) x y 0 W') hq1 rfl ?_) (fun e W' h => by
   obtain ⟨b, rfl, rfl, h⟩ := h
   exact ⟨false, rfl, .inr ⟨rfl, rfl, h⟩⟩)
  rw [hrec]
  rw [Px.zip_one]
  refine round_region (fun ⟨_, _, h⟩ => h) rfl ?_
  simp only [List.size_toArray, List.length_cons, List.length_nil, List.foldl_toArray, List.foldl_cons, List.foldl_nil, List.setIfInBounds_toArray, List.set_cons_zero, List.set_cons_succ]
  go_wp2
  generalize hV2 : V.alloc _ = V2
  have k5 : Blk V2 V.heap.size 56 #[.int .i64 x, .int .i64 y] := by rw [← hV2]; exact Blk.new _ _ _
  have M2 : Lat V V2 := by rw [← hV2]; exact Lat.alloc _ _
  clear hV2
  have hI2 := hIL.later M2
  refine ⟨hI2.1, ?_⟩
  have hp1 := Px.lat_putObj (w := V2) (o := .loop (rec .busy none)) (Px.hlt_of hI2.1)
  have hI3 := hI2.put hr5 (.loop (rec .busy none))
  obtain ⟨Wb, hWb⟩ : ∃ Wb, V2.putObj (w5.heap.size + 1) (.loop (rec .busy none)) = Wb := ⟨_, rfl⟩
  rw [hWb] at hp1 hI3 ⊢
  clear hWb
  have n5 : ¬ V.heap.size = w5.heap.size + 1 := by have := Px.hlt_of hIL.1; omega
  have k5 := k5.keepP hp1 n5
  obtain ⟨kx, hkx⟩ : ∃ z, V.heap.size = z := ⟨_, rfl⟩
  have hkr : r + 1 + 1 < kx := by have := Px.hlt_of hIL.1; omega
  rw [hkx] at k5 ⊢
  clear hkx n5 hp1 hI2 hIL M2 hq1
  refine wpIn_block ?_
  refine wpIn_seq ?_
  refine round_region_held (S := fun w' => LatP (fun q => q = r ∨ q = r + 1 ∨ q = r + 1 + 1) Wb w') (fun ⟨_, _, h⟩ => h) (by kernel_rfl) rfl ((Lat.drew Wb).p _) (fun hHeld => ?_)
  have D0 : ∀ w', LatP (fun q => q = r ∨ q = r + 1 ∨ q = r + 1 + 1) Wb w' → w'.cell? ⟨kx, 0, none⟩ = some (.int .i64 x) := fun w' h => (k5.keepP h (by omega)).cell 0
  have D1 : ∀ w', LatP (fun q => q = r ∨ q = r + 1 ∨ q = r + 1 + 1) Wb w' → w'.cell? ⟨kx, 1, none⟩ = some (.int .i64 y) := fun w' h => (k5.keepP h (by omega)).cell 1
  have hI4 := hI3.later (Lat.drew Wb)
  obtain ⟨Wd, hWd⟩ : ∃ Wd, Wb.drew = Wd := ⟨_, rfl⟩
  rw [hWd] at hHeld hI4 ⊢
  clear hWd hI3
  refine wpAnyH_take (i := 0) (v := .pointer (some ⟨kx, 0, none⟩)) rfl (by kernel_rfl) (by kernel_rfl) (by kernel_rfl) (fun c _ w' h => h.elim) (Or.inl ⟨by rfl, by intro w' hS; go_simp⟩) hHeld ?_
  simp only [Act.put, List.setIfInBounds_toArray, List.set_cons_zero, List.set_cons_succ]
  refine wpAnyH_take (i := 1) (v := .int .i64 x) rfl (by kernel_rfl) (by kernel_rfl) (by kernel_rfl) (fun c _ w' h => h.elim) (Or.inl ⟨by rfl, by intro w' hS; have hc := D0 w' hS; go_simp⟩) hHeld ?_
  simp only [Act.put, List.setIfInBounds_toArray, List.set_cons_zero, List.set_cons_succ]
  refine wpAnyH_take (i := 2) (v := .pointer (some ⟨kx, 1, none⟩)) rfl (by kernel_rfl) (by kernel_rfl) (by kernel_rfl) (fun c _ w' h => h.elim) (Or.inl ⟨by rfl, by intro w' hS; go_simp⟩) hHeld ?_
  simp only [Act.put, List.setIfInBounds_toArray, List.set_cons_zero, List.set_cons_succ]
  refine wpAnyH_take (i := 3) (v := .int .i64 y) rfl (by kernel_rfl) (by kernel_rfl) (by kernel_rfl) (fun c _ w' h => h.elim) (Or.inl ⟨by rfl, by intro w' hS; have hc := D1 w' hS; go_simp⟩) hHeld ?_
  simp only [Act.put, List.setIfInBounds_toArray, List.set_cons_zero, List.set_cons_succ]
  have hset := hI4.set hr5 x y 0
  have HSET := Lib.hid hset
  obtain ⟨q1, q2, k1, k2, k3, q4⟩ := hI4
  clear q1 q2 q4 hset D0 D1
  refine wpAnyH_ready (rs := [4]) (by kernel_rfl) (by simp) (AllReadyH.cons rfl (fun K hK => ?_) AllReadyH.nil)
  have e1 := k1.cell 0
  have f1 := k1.frozen 0
  go_simp
  have l1 := Px.latP_set Wd r 0 (.int .i64 x)
  have hH1 := hHeld.trans (l1.wider (fun q h => .inl h))
  have k2 := k2.keepP l1 (by omega)
  have k3 := k3.keepP l1 (by omega)
  refine hK.out _ _ hH1 (fun _ => ?_)
  clear hK K e1 f1 k1
  refine wpAnyH_ready (rs := [5]) (by kernel_rfl) (by simp) (AllReadyH.cons rfl (fun K hK => ?_) AllReadyH.nil)
  have e1 := k2.cell 0
  have f1 := k2.frozen 0
  obtain ⟨Wp, hWp⟩ : ∃ z, Wd.setCell ⟨r, 0, none⟩ (.int .i64 x) = z := ⟨_, rfl⟩
  rw [hWp] at HSET hH1 k2 k3 e1 f1 ⊢
  clear hWp l1
  go_simp
  have l2 := Px.latP_set Wp (r + 1) 0 (.int .i64 y)
  have hH2 := hH1.trans (l2.wider (fun q h => .inr (.inl h)))
  have k3 := k3.keepP l2 (by omega)
  refine hK.out _ _ hH2 (fun _ => ?_)
  clear hK K e1 f1 k2
  refine wpAnyH_ready (rs := [6]) (by kernel_rfl) (by simp) (AllReadyH.cons rfl (fun K hK => ?_) AllReadyH.nil)
  have e1 := k3.cell 0
  have f1 := k3.frozen 0
  obtain ⟨Wq, hWq⟩ : ∃ z, Wp.setCell ⟨r + 1, 0, none⟩ (.int .i64 y) = z := ⟨_, rfl⟩
  rw [hWq] at HSET hH2 k3 e1 f1 ⊢
  clear hWq l2
  go_simp
  have l3 := Px.latP_set Wq (r + 1 + 1) 0 (.int .i64 0)
  have hH3 := hH2.trans (l3.wider (fun q h => .inr (.inr h)))
  refine hK.out _ _ hH3 (fun _ => ?_)
  clear hK K e1 f1 k3 l3
  refine wpAnyH_done (by kernel_rfl) ?_ _
  refine wpIn_ret ?_
  exact ⟨HSET.out.1, rfl, HSET.out.put hr5 _⟩
 have hIs : ∀ L g W W', (L = [] ∧ g = none ∧ FstI w5 r (.loop (rec .ready none)) 0 0 0 W) → Lat W W' → (L = ([] : List (Int × Int)) ∧ g = (none : Option Nat) ∧ FstI w5 r (.loop (rec .ready none)) 0 0 0 W') := fun L g W W' h hl => ⟨h.1, h.2.1, h.2.2.later hl⟩
 refine (losses_iter D Lx _ _ _ _ _ n c A P a k z T (w5.heap.size + 1) (fun _ => False) (fun L g W => L = [] ∧ g = none ∧ FstI w5 r (.loop (rec .ready none)) 0 0 0 W) (fun L x W => L = [] ∧ FstI w5 r (.loop (rec .done (some .ret))) x.1 x.2 0 W) W1 (hK.later hl1) HR.out.a0 HR.out.a1 HZ.out HR.out.hT HR.out.hn0 HR.out.hn HR.out.hD HR.out.hlen hIs (fun L g W h q hq => by
   rw [h.2.1] at hq; cases hq) (fun q h => h.elim) hY none ⟨rfl, rfl, hI1⟩).mono ?_
 rintro e W9 ⟨v, rfl, ⟨g9, hL, rfl, hI9⟩ | ⟨L9, x9, hpre, hL9, hI9⟩⟩
 ·refine ⟨v, rfl, Or.inl ⟨hI9.1, ?_⟩⟩
  have hI10 := hI9.put hr5 (.loop (rec .exhausted none))
  obtain ⟨Z, hZ⟩ : ∃ Z, W9.putObj (w5.heap.size + 1) (.loop (rec .exhausted none)) = Z := ⟨_, rfl⟩
  rw [hZ] at hI10 ⊢
  have HI10 := Lib.hid (hI10.set hr5 0 0 4)
  obtain ⟨q1, q2, k1, k2, k3, q4⟩ := hI10
  have c1 := k1.cell 0
  have c2 := k2.cell 0
  have c3 := k3.cell 0
  have f1 := k1.frozen 0
  have f2 := k2.frozen 0
  have f3 := k3.frozen 0
  have HL := Lib.hid hL
  clear q1 q2 q4 hI9 hZ hY hI1 hl1 hK k1 k2 k3 hL
  dsimp only
  refine hKN _ _ ?_
  go_wp2
  obtain ⟨q1, q2, k1, k2, k3, q4⟩ := HI10.out
  have hp2 := Px.lat_putObj (w := ((Z.setCell ⟨r, 0, none⟩ (.int .i64 0)).setCell ⟨r + 1, 0, none⟩ (.int .i64 0)).setCell ⟨r + 1 + 1, 0, none⟩ (.int .i64 4)) (o := .deferred none) (Px.hlt_of q2)
  have o1 := (k1.keepP hp2 (by omega)).cell 0
  have o2 := (k2.keepP hp2 (by omega)).cell 0
  have o3 := (k3.keepP hp2 (by omega)).cell 0
  refine leave_mark q2 (v := .tuple #[.int .i64 0, .int .i64 0, .int .i64 4]) (by simp [results, Tryz.results12, go_sem, o1, o2, o3]) ?_
  refine ⟨by rw [HL.out]; rfl, ?_⟩
  exact LatP.lat (M := fun q => (q = r ∨ q = r + 1 ∨ q = r + 1 + 1) ∨ q = w5.heap.size) L5 ((q4.wider (fun q h => .inl h)).trans (hp2.wider (fun q h => .inr h))) (fun q h => by have := L5.size; omega)
 ·refine ⟨v, rfl, Or.inr ⟨hI9.1, ?_⟩⟩
  obtain rfl := hL9
  have hI10 := hI9.put hr5 (.loop (rec .exhausted (some .ret)))
  obtain ⟨Z, hZ⟩ : ∃ Z, W9.putObj (w5.heap.size + 1) (.loop (rec .exhausted (some .ret))) = Z := ⟨_, rfl⟩
  rw [hZ] at hI10 ⊢
  obtain ⟨q1, q2, k1, k2, k3, q4⟩ := hI10
  have hp2 := Px.lat_putObj (w := Z) (o := .deferred none) (Px.hlt_of q2)
  have o1 := (k1.keepP hp2 (by omega)).cell 0
  have o2 := (k2.keepP hp2 (by omega)).cell 0
  have o3 := (k3.keepP hp2 (by omega)).cell 0
  refine leave_mark q2 (v := .tuple #[.int .i64 x9.1, .int .i64 x9.2, .int .i64 0]) (by simp [results, Tryz.results12, go_sem, o1, o2, o3]) ?_
  refine ⟨?_, ?_⟩
  ·obtain ⟨R, hR⟩ := hpre
   rw [← hR]
   rfl
  ·exact LatP.lat (M := fun q => (q = r ∨ q = r + 1 ∨ q = r + 1 + 1) ∨ q = w5.heap.size) L5 ((q4.wider (fun q h => .inl h)).trans (hp2.wider (fun q h => .inr h))) (fun q h => by have := L5.size; omega)
set_option maxRecDepth 100000 in
set_option maxHeartbeats 4000000 in
theorem first_no {n c : Nat} {A : Option Addr} {a k z er : Int} (her : er ≠ 0) (w : World)
  (HS : ∀ w', Lat w w' → Calls Tryz.prog 26 #[.slice A n c, .int .i64 k, .int .i64 a, .int .i64 z] w' (fun e w'' => e = .returned (.int .i64 er) ∧ Lat w' w'')) :
  Calls Tryz.prog 12 #[.slice A n c, .int .i64 k, .int .i64 a, .int .i64 z] w (fun e w' => e = .returned (.tuple #[.int .i64 0, .int .i64 0, .int .i64 er]) ∧ Lat w w') := by
 have hb : (er == 0) = false := by simpa using her
 go_enter Tryz.func12, Tryz.ntmps12
 go_wp2_with fail
 refine name3 (Q := fun W => Calls _ _ _ W _) ?_
 intro w1 l1 hs1 k1 k2 k3
 refine (HS w1 l1).mono ?_
 rintro e w2 ⟨rfl, l2⟩
 have L2 := l1.trans l2
 have k1 := k1.later l2
 have k2 := k2.later l2
 have k3 := k3.later l2
 have c1 := k1.cell 0
 have c2 := k2.cell 0
 have c3 := k3.cell 0
 have f1 := k1.frozen 0
 have f2 := k2.frozen 0
 have f3 := k3.frozen 0
 clear HS l1 l2 hs1 k1 k2 k3
 go_wp2
 refine bodyPost_ret (v := .tuple #[.int .i64 0, .int .i64 0, .int .i64 er]) (by simp [results, Tryz.results12, go_sem, c1, c2, c3]) rfl ?_
 refine ⟨rfl, ?_⟩
 iterate 3 (refine Lat.setCell ?_ (by simp; try omega) _)
 exact L2
end Go.Proofs.YteocdndanehpnaaGreat
