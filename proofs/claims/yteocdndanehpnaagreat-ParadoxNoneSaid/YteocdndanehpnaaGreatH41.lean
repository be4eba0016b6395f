/- Several texts in one: QcB, Qcm. -/
import Derived.Test.YteocdndanehpnaaGreatH37
import Derived.Test.YteocdndanehpnaaGreatH38
import Derived.Test.YteocdndanehpnaaGreatH31
import Derived.Test.YteocdndanehpnaaGreatH36
namespace Go.Proofs.YteocdndanehpnaaGreat
open Go.RowKit
set_option linter.unusedSimpArgs false
set_option linter.unusedVariables false
set_option maxRecDepth 100000 in
set_option maxHeartbeats 2000000 in
theorem qBIdx_any (p : List Value → Bool) (g n c : Nat) (xs : List (List Value)) (w : World) (hr : RowB w g 101 20 xs) (hn : xs.length = n) (hn1 : n ≤ 1000000)
  (HCL : ∀ x ∈ xs, ∀ w', Calls Tryz.prog 47 #[.agg x.toArray] w' (fun e w'' => e = .returned (.bool (p x)) ∧ Lat w' w'')) :
  Calls Tryz.prog 66 #[.slice (some ⟨g, 0, none⟩) n c, .func (.func 47) #[] #[]] w (qClIdxPost w p xs) := by
 have HI := Lib.hid qClSize
 have HC := Lib.hid HCL
 clear HCL
 go_enter Tryz.func66, Tryz.ntmps66
 go_wp2
 go_loopw [8] (fun i wr => ∃ k : Nat, k ≤ n ∧ i = .int .i64 k ∧ Hid (∀ y ∈ xs.take k, p y = false) ∧ Lat w wr) (fun i _ => n - (intOf i).toNat)
 case atStart => exact ⟨0, Nat.zero_le _, rfl, fun y hy => by simp at hy, Lat.refl w⟩
 case round =>
  rename_i wr
  obtain ⟨k, hk, rfl, hno, hlr⟩ := hrel
  by_cases hlt : k < n
  ·have hkl : k < xs.length := by omega
   obtain ⟨x, hx⟩ : ∃ x, xs[k]? = some x := ⟨_, List.getElem?_eq_getElem hkl⟩
   have hmem := List.mem_of_getElem? hx
   have hxl : (Tryz.prog.info? 101).map (·.size) = some x.length := by rw [(hr.1 x hmem).1]; exact HI.out
   have hrange := (hr.later hlr).range hx
   have HX := Lib.hid hx
   have HT : Hid (∀ b, p x = b → b = false → ∀ y ∈ xs.take (k + 1), p y = false) := by
    intro b hb hf y hy
    obtain ⟨_, e⟩ := List.getElem?_eq_some_iff.1 hx
    rw [List.take_succ_eq_append_getElem hkl, List.mem_append, List.mem_singleton, e] at hy
    rcases hy with hy | rfl
    ·exact hno.out y hy
    ·rw [hb, hf]
   have HCx := HC.out x hmem
   have hgl := hr.later hlr |>.lt
   clear hx hmem
   go_wp2_with (refine wpList_load_mid (by rfl) 101 (.tmp 14) (by rfl) g (k * 20) (by rfl) x _ hrange Tryz.underlying101 rfl hxl ?_)
   refine (HCx wr).mono ?_
   rintro e w2 ⟨rfl, l2⟩
   cases hp : p x with
   | true =>
     have HP := Lib.hid hp
     clear hp
     go_wp2
     go_ret
     exact ⟨k, rfl, .inr ⟨k, x, rfl, HX.out, HP.out, hno.out⟩, hlr.trans l2⟩
   | false =>
     have HP := Lib.hid (HT.out _ hp rfl)
     clear hp
     go_wp2
     go_roundw
     case rel => exact ⟨k + 1, by omega, by go_num, HP.out, hlr.trans l2⟩
     case measure => simp [intOf]; omega
  ·obtain rfl : k = n := by omega
   have HA : Hid (∀ y ∈ xs, p y = false) := by
    have := hno.out
    rwa [List.take_of_length_le (by omega)] at this
   go_wp2
   go_ret
   exact ⟨-1, rfl, .inl ⟨rfl, HA.out⟩, hlr⟩
theorem qBHas_any (p : List Value → Bool) (g n c : Nat) (xs : List (List Value)) (w : World) (hr : RowB w g 101 20 xs) (hn : xs.length = n) (hn1 : n ≤ 1000000)
  (HCL : ∀ x ∈ xs, ∀ w', Calls Tryz.prog 47 #[.agg x.toArray] w' (fun e w'' => e = .returned (.bool (p x)) ∧ Lat w' w'')) :
  Calls Tryz.prog 46 #[.slice (some ⟨g, 0, none⟩) n c, .func (.func 47) #[] #[]] w (fun e w' => e = .returned (.bool (xs.any p)) ∧ Lat w w') := by
 have HI := qBIdx_any p g n c xs w hr hn hn1 HCL
 clear HCL hr
 go_enter Tryz.func46, Tryz.ntmps46
 go_wp2_with fail
 refine HI.mono ?_
 rintro e w1 ⟨r, rfl, h, hl⟩
 rcases h with ⟨rfl, hno⟩ | ⟨k, x, rfl, hx, hp, _⟩
 ·have HB : Hid (xs.any p = false) := by show _ = _; rw [List.any_eq_false]; intro x hx; rw [hno x hx]; decide
  clear hno
  go_wp2
  go_ret
  exact ⟨by rw [HB.out]; rfl, hl⟩
 ·have HB : Hid (xs.any p = true) := by show _ = _; rw [List.any_eq_true]; exact ⟨x, List.mem_of_getElem? hx, hp⟩
  have h0 : (0 : Int) ≤ (k : Int) := by omega
  clear hx hp
  go_wp2
  go_ret
  exact ⟨by rw [HB.out]; rfl, hl⟩
end Go.Proofs.YteocdndanehpnaaGreat
namespace Go.Proofs.YteocdndanehpnaaGreat
open Go.RowKit
set_option linter.unusedSimpArgs false
set_option linter.unusedVariables false
def pX (xs : List (Int × Int)) (i : Nat) : Int := (xs.getD i (0, 0)).1
def lX (xs : List (Int × Int)) (i : Nat) : Int := (xs.getD i (0, 0)).2
theorem pX_of {xs : List (Int × Int)} {i : Nat} {a b : Int} (h : xs[i]? = some (a, b)) : pX xs i = a ∧ lX xs i = b := by
 unfold pX lX
 rw [List.getD_eq_getElem?_getD, h]
 exact ⟨rfl, rfl⟩
theorem pX_in {xs : List (Int × Int)} (hx : ∀ y ∈ xs, 0 ≤ y.1 ∧ y.1 ≤ 1000000000) (i : Nat) : 0 ≤ pX xs i ∧ pX xs i ≤ 1000000000 := by
 unfold pX
 rw [List.getD_eq_getElem?_getD]
 cases h : xs[i]? with
 | none => simp
 | some y => exact hx y (List.mem_of_getElem? h)
theorem sumM_in {xs : List (Int × Int)} (hx : ∀ y ∈ xs, 0 ≤ y.1 ∧ y.1 ≤ 1000000000) (bs : List Bool) {k : Nat} (hk : k ≤ 60) : 0 ≤ ((memL bs k).map (pX xs)).sum ∧ ((memL bs k).map (pX xs)).sum ≤ 60000000000 := by
 have h1 := sumF_bound (c := memL bs k) (f := pX xs) (M := 1000000000) (fun i _ => pX_in hx i)
 have h2 := memL_len bs k
 omega
theorem lat_putObj {w : World} {l : Nat} {o : Obj} (_hl : l < w.heap.size) : LatP (· = l) w (w.putObj l o) := by
 refine ⟨rfl, rfl, rfl, by simp [World.putObj], fun k _ hk => ?_⟩
 simp only [World.putObj]
 rw [Array.getElem?_setIfInBounds_ne (fun h => hk h.symm)]
theorem putObj_at {w : World} {l : Nat} {o : Obj} (hl : l < w.heap.size) : (w.putObj l o).heap[l]? = some o := World.putObj_heap_same hl
theorem zip_two (t u : Tmp) (x y : Value) : (#[t, u] : Array Tmp).zip #[x, y] = #[(t, x), (u, y)] := by
 apply Array.ext'
 rw [Array.toList_zip]
 rfl
theorem latP_setQ (w : World) (g i : Nat) (v : Value) : LatP (· = g) w (w.setCell ⟨g, i, none⟩ v) := ⟨rfl, rfl, rfl, by simp [World.setCell], fun k _ hk => Below.heap_setCell w ⟨g, i, none⟩ v k hk⟩
theorem hlt_of {W : World} {k : Nat} {o : Obj} (h : W.heap[k]? = some o) : k < W.heap.size := (Array.getElem?_eq_some_iff.1 h).1
theorem no_loop {Z : World} {x : Nat} {L : Loop} {gz : Nat} {cs : Array Value} {tz : TypeId} (h1 : Z.heap[x]? = some (.loop L)) (h2 : Blk Z gz tz cs) : gz ≠ x := by
 intro h3
 subst h3
 unfold Blk at h2
 rw [h1] at h2
 cases h2
theorem LatP.at_ {M : Nat → Prop} {W w : World} {k : Nat} {o : Obj} (hl : LatP M W w) (h : W.heap[k]? = some o) (hk : ¬ M k) : w.heap[k]? = some o := (hl.block k (hlt_of h) hk).trans h
def CmI (rec : LoopState → Option Code → Loop) (w5 : World) (b8 : Nat) (o : Int) (xs : List (Int × Int)) (st : LoopState) (L : List Nat) (W : World) : Prop :=
 W.heap[w5.heap.size + 1]? = some (.loop (rec st none)) ∧ W.heap[w5.heap.size]? = some (.deferred (some [])) ∧ Blk W b8 132 #[.int .i64 ((L.map (pX xs)).sum), .int .i64 o] ∧ LatP (· = b8) w5 W
theorem CmI.later {rec : LoopState → Option Code → Loop} {w5 : World} {b8 : Nat} {o : Int} {xs : List (Int × Int)} {st : LoopState} {L : List Nat} {W W' : World} (h : CmI rec w5 b8 o xs st L W) (hl : Lat W W') : CmI rec w5 b8 o xs st L W' := by
 obtain ⟨q1, q2, q8, q4⟩ := h
 exact ⟨(Below.block hl _ (hlt_of q1)).trans q1, (Below.block hl _ (hlt_of q2)).trans q2, q8.later hl, q4.trans (hl.p _)⟩
theorem CmI.put {rec : LoopState → Option Code → Loop} {w5 : World} {b8 : Nat} {o : Int} {xs : List (Int × Int)} {st st2 : LoopState} {L : List Nat} {W : World} (h : CmI rec w5 b8 o xs st L W) (hb : b8 < w5.heap.size) : CmI rec w5 b8 o xs st2 L (W.putObj (w5.heap.size + 1) (.loop (rec st2 none))) := by
 obtain ⟨q1, q2, q8, q4⟩ := h
 have hp := lat_putObj (w := W) (o := .loop (rec st2 none)) (hlt_of q1)
 refine ⟨putObj_at (hlt_of q1), hp.at_ q2 (by omega), q8.keepP hp (by omega), ⟨hp.os.trans q4.os, hp.tape.trans q4.tape, hp.output.trans q4.output, Nat.le_trans q4.size hp.size, fun k hk hm => (hp.block k (Nat.lt_of_lt_of_le hk q4.size) (by omega)).trans (q4.block k hk hm)⟩⟩
set_option maxRecDepth 100000 in
set_option maxHeartbeats 4000000 in
theorem claims_first (xs : List (Int × Int)) (bs : List Bool) (r gR gB n c c' : Nat) (o k : Int) (w : World) (hS : SetIs w r gR gB n c c' xs bs) (hn : n ≤ 60) (hx : ∀ y ∈ xs, 0 ≤ y.1 ∧ y.1 ≤ 1000000000)
  (hz : ((memL bs n).map (pX xs)).sum = 0) :
  Calls Tryz.prog 45 #[.pointer (some ⟨r, 0, none⟩), .int .i64 o, .int .i64 k] w (fun e w' => e = .returned (.tuple #[.slice none 0 0, .bool false]) ∧ Lat w w') := by
 refine calls_of_marks Tryz.func45 rfl ?_
 simp only [Tryz.ntmps45, List.size_toArray, List.length_cons, List.length_nil, Nat.reduceAdd, Nat.reduceSub, Array.replicate_succ, Array.replicate_zero, List.push_toArray, List.append_toArray, List.nil_append, List.cons_append]
 go_upto_region 2 with (fail)
 refine name1 (Q := fun W => Code.wp _ _ _ _ W) ?_
 intro w5 l5 hs5 k8
 obtain ⟨b8, hb8⟩ : ∃ z, w.heap.size = z := ⟨_, rfl⟩
 have hw8 : w.heap.size ≤ b8 := by omega
 rw [hb8] at k8 ⊢
 have h8 := k8.lt
 have hS5 := hS.later l5
 clear hb8 hs5 hS
 have HZ := Lib.hid hz
 clear hz
 go_wp2_with fail
 rename_i KN hKN
 refine rangeFunc_bd (id := 0) (gf := 59) (bd := #[.pointer (some ⟨r, 0, none⟩)]) (by rfl) (enters_of Tryz.func59 (by kernel_rfl) rfl) ?_
 intro fn W1 hW1
 generalize hrec : recOf _ fn _ _ _ _ = rec at hW1 ⊢
 have hl1 : Lat w5 W1 := by rw [hW1]; exact (Lat.alloc _ _).trans (Lat.alloc _ _)
 have hz1 : W1.heap.size = w5.heap.size + 2 := by rw [hW1]; simp
 have hI1 : CmI rec w5 b8 o xs .ready [] W1 := by
  refine ⟨?_, ?_, k8.later hl1, hl1.p _⟩
  ·rw [hW1]; have := World.alloc_heap_new (w5.alloc (.deferred (some []))) (.loop (rec .ready none)); rwa [World.size_alloc] at this
  ·rw [hW1]; exact (Below.heap_alloc _ _ _ (by simp)).trans (World.alloc_heap_new w5 _)
 clear hW1
 have hth : ∀ q, (q = b8 ∨ q = w5.heap.size + 1) → q < W1.heap.size ∧ q ≠ r ∧ q ≠ gR ∧ q ≠ gB := by
  intro q h
  have e1 := hS5.blk.lt
  have e2 := hS5.all.lt
  have e3 := hS5.isin.lt
  have a1 : b8 ≠ r := blk_apart k8 hS5.blk (by decide)
  have a2 : b8 ≠ gR := by obtain ⟨_, cs2, hb2, _⟩ := hS5.all; exact blk_apart k8 hb2 (by decide)
  have a3 : b8 ≠ gB := by obtain ⟨_, cs2, hb2, _⟩ := hS5.isin; exact blk_apart k8 hb2 (by decide)
  rcases h with rfl | rfl
  ·exact ⟨by omega, a1, a2, a3⟩
  ·exact ⟨by omega, by omega, by omega, by omega⟩
 have hY : YieldsM xs bs (w5.heap.size + 1) (fun q => q = b8 ∨ q = w5.heap.size + 1) (fun L g W => g = none ∧ CmI rec w5 b8 o xs .ready L W) := by
  intro gg V i a b hi hbi hIL
  obtain ⟨rfl, hIL⟩ := hIL
  have hin : i < n := by have := (List.getElem?_eq_some_iff.1 hi).1; have := hS5.lenx; omega
  have hq1 := hIL.1
  rw [← hrec] at hq1
  refine round_any (id := 0) (R := fun bb W' => bb = true ∧ LatP (fun q => (q = b8 ∨ q = w5.heap.size + 1) ∨ some q = none) V W' ∧ ∃ g' : Option Nat, g' = none ∧ CmI rec w5 b8 o xs .ready (memL bs i ++ [i]) W') hq1 rfl ?_
  rw [hrec]
  rw [zip_two]
  refine round_region (fun ⟨_, _, h⟩ => h) rfl ?_
  simp only [List.size_toArray, List.length_cons, List.length_nil, List.foldl_toArray, List.foldl_cons, List.foldl_nil, List.setIfInBounds_toArray, List.set_cons_zero, List.set_cons_succ]
  go_wp2
  generalize hV2 : V.alloc _ = V2
  have k10 : Blk V2 V.heap.size 90 #[.int .i64 a, .int .i64 b] := by rw [← hV2]; exact Blk.new _ _ _
  have M2 : Lat V V2 := by rw [← hV2]; exact Lat.alloc _ _
  clear hV2
  have hI2 := hIL.later M2
  refine ⟨hI2.1, ?_⟩
  have hlV := hlt_of hI2.1
  have hp1 := lat_putObj (w := V2) (o := .loop (rec .busy none)) hlV
  have hI3 := hI2.put (st2 := .busy) h8
  obtain ⟨Wb, hWb⟩ : ∃ Wb, V2.putObj (w5.heap.size + 1) (.loop (rec .busy none)) = Wb := ⟨_, rfl⟩
  rw [hWb] at hp1 hI3 ⊢
  clear hWb
  have n10 : ¬ V.heap.size = w5.heap.size + 1 := by have := hlt_of hIL.1; omega
  have k10 := k10.keepP hp1 n10
  have hVb : LatP (fun q => (q = b8 ∨ q = w5.heap.size + 1) ∨ some q = none) V Wb := (M2.p _).trans (hp1.wider (fun q h => .inl (.inr h)))
  have hb1 := sumM_in hx bs (k := i) (by omega)
  have hpa := (pX_of hi).1
  have hpb := pX_in hx i
  have hsum : ((memL bs i ++ [i]).map (pX xs)).sum = ((memL bs i).map (pX xs)).sum + a := by simp [hpa]
  obtain ⟨s, hs⟩ : ∃ s, ((memL bs i).map (pX xs)).sum = s := ⟨_, rfl⟩
  have hc8 := hI3.2.2.1
  rw [hs] at hc8 hb1 hsum
  have hadd : wrap64 (s + a) = s + a := IntWalk.wrap64_in _ (by omega)
  have hadd' : IntKind.i64.wrap (s + a) = s + a := IntWalk.i64_in _ (by omega)
  have d0 := hc8.cell 0
  have f0 := hc8.frozen 0
  have e0 := k10.cell 0
  have HI3 := Lib.hid hI3
  have HSU := Lib.hid hsum
  have HVB := Lib.hid hVb
  have HC8 := Lib.hid hc8
  clear hI3 hsum hVb hI2 hIL hlV hp1 M2 hi hbi hin hb1 hpa hpb hs hc8 hq1
  refine wpIn_block ?_
  refine round_region (fun ⟨_, _, h⟩ => h) rfl ?_
  go_wp2
  have hset := latP_setQ Wb b8 0 (.int .i64 (s + a))
  have z8 := HC8.out.set 0 (.int .i64 (s + a))
  obtain ⟨Z, hZ⟩ : ∃ Z, Wb.setCell ⟨b8, 0, none⟩ (.int .i64 (s + a)) = Z := ⟨_, rfl⟩
  rw [hZ] at hset z8 ⊢
  have hI4 : CmI rec w5 b8 o xs .busy (memL bs i ++ [i]) Z := by
   obtain ⟨q1, q2, _, q4⟩ := HI3.out
   refine ⟨hset.at_ q1 (by omega), hset.at_ q2 (by omega), by rw [HSU.out]; simpa using z8, q4.trans hset⟩
  have hI5 := hI4.put (st2 := .ready) h8
  have hp2 := lat_putObj (w := Z) (o := .loop (rec .ready none)) (hlt_of hI4.1)
  exact ⟨hI4.1, rfl, (HVB.out.trans (hset.wider (fun q h => .inl (.inl h)))).trans (hp2.wider (fun q h => .inl (.inr h))), none, rfl, hI5⟩
 refine (members_iter xs bs r gR gB n c c' 101 (by decide) (by decide) (by decide) (by omega) (w5.heap.size + 1) (fun q => q = b8 ∨ q = w5.heap.size + 1) (fun L g W => g = none ∧ CmI rec w5 b8 o xs .ready L W) W1 (hS5.later hl1) (fun L g W W' h hl => ⟨h.1, h.2.later hl⟩) (fun L g W h k e => by rw [h.1] at e; cases e) hth hY none ⟨rfl, hI1⟩).mono ?_
 rintro e W9 ⟨v, rfl, g9, _, hI9⟩
 refine ⟨v, rfl, Or.inl ⟨hI9.1, ?_⟩⟩
 have hI10 := hI9.put (st2 := .exhausted) h8
 obtain ⟨Z, hZ⟩ : ∃ Z, W9.putObj (w5.heap.size + 1) (.loop (rec .exhausted none)) = Z := ⟨_, rfl⟩
 rw [hZ] at hI10 ⊢
 have hc8 := hI10.2.2.1
 rw [HZ.out] at hc8
 have d0 := hc8.cell 0
 have HI10 := Lib.hid hI10
 clear hI10 hI9 hZ hY hth hI1 hl1 hc8
 dsimp only
 refine hKN _ _ ?_
 go_wp2
 obtain ⟨q1, q2, q8, q4⟩ := HI10.out
 refine leave_mark q2 (v := .tuple #[.slice none 0 0, .bool false]) (by simp [results, Tryz.results45, go_sem]) ?_
 have hp2 := lat_putObj (w := Z) (o := .deferred none) (hlt_of q2)
 refine ⟨rfl, ?_⟩
 exact LatP.lat (M := fun q => q = b8 ∨ q = w5.heap.size) l5 ((q4.wider (fun q h => .inl h)).trans (hp2.wider (fun q h => .inr h))) (fun q h => by rcases h with rfl | rfl; exact hw8; exact l5.size)
end Go.Proofs.YteocdndanehpnaaGreat
