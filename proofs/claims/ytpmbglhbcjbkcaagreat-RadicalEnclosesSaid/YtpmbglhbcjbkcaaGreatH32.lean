/- Several texts in one: RgD, InvG, Off, RdLg, RdKp. -/
import Derived.Deep.DeepCutAuto
import Derived.Test.YtpmbglhbcjbkcaaGreatH31
import Derived.Test.YtpmbglhbcjbkcaaGreatH26
namespace Go.Proofs.YtpmbglhbcjbkcaaGreat
set_option maxHeartbeats 16000000
set_option maxRecDepth 100000
open Go.RowKit
set_option linter.unusedSimpArgs false
theorem zkI (k : Nat) : Value.int .i64 ((k : Int) + 1) = .int .i64 ((k + 1 : Nat) : Int) := by simp
theorem zon {b k : Nat} (h : k < b) : b - (intOf (.int .i64 ((k : Int) + 1))).toNat < b - (intOf (.int .i64 (k : Int))).toNat := by
 show b - ((k : Int) + 1).toNat < b - ((k : Int)).toNat
 omega
theorem Rg.keepL {w W : World} {b : Bool} {A : Option Addr} {n c : Nat} {z : Int} {g : Nat} {t : TypeId} {cs : Array Value} (h : Rg w b A n c z) (hl : LatP (· = g) w W) (hb : Blk w g t cs) (hno : ∀ (j : Nat) (x : Int), cs[j]? ≠ some (.int .i64 x)) : Rg W b A n c z := by
 have ha := h.apart hb hno
 obtain ⟨hn, xs, hs, r⟩ := h
 refine ⟨hn, xs, ⟨hs.1, fun hp => ?_⟩, r⟩
 obtain ⟨a, e, hlt, hc⟩ := hs.2 hp
 refine ⟨a, e, Nat.lt_of_lt_of_le hlt hl.size, fun i x hx => ?_⟩
 have hk : W.heap[(a.add i).block]? = w.heap[(a.add i).block]? := by rw [block_add]; exact hl.block _ hlt (ha hp a e)
 exact (World.cell?_of_block hk).trans (hc i x hx)
theorem zgU {w : World} {g : Nat} {t : TypeId} {b0 b' : Bool} {A0 A' : Option Addr} {n0 c0 n' c' : Nat} {Q : World → Prop} (hb : Blk w g t #[.bool b0, .slice A0 n0 c0])
  (h : ∀ W, Blk W g t #[.bool b', .slice A' n' c'] → LatP (· = g) w W → (∀ {b A n c z}, Rg w b A n c z → Rg W b A n c z) → Q W) :
  Q ((w.setCell ⟨g, 0, none⟩ (.bool b')).setCell ⟨g, 1, none⟩ (.slice A' n' c')) := by
 refine h _ ?_ ?_ ?_
 ·have := (hb.set 0 (.bool b')).set 1 (.slice A' n' c')
  simpa using this
 ·exact LatP.setCells [.bool b', .slice A' n' c'] w 0
 ·intro b A n c z hr
  have ha := hr.apart hb (zbM _ _ _ _)
  exact (hr.far (p := ⟨g, 0, none⟩) ha _).far (p := ⟨g, 1, none⟩) ha _
theorem zhD (b1 : Bool) (A1 : Option Addr) (n1 c1 : Nat) (x : Int) (k : Nat) (w : World) (h1 : Rg w b1 A1 n1 c1 x) (hn : n1 ≤ 2) (hk : k ≤ 1000) :
  Calls Tryz.prog 83 #[.agg #[.bool b1, .slice A1 n1 c1], .int .i64 k] w (RefPost w (x ^ k) (2 + 2 * k)) := by
 go_enter Tryz.func83, Tryz.ntmps83
 go_upto_region 1 with (fail)
 refine zaK (Q := fun W => Code.wp _ _ _ _ W) ?_
 intro W hl hs k2 k4
 go_wp2_with fail
 refine (zay 1 W (by decide) (by decide)).mono ?_
 rintro e w1 ⟨b, A, n, c, rfl, r1, r2, l1⟩
 replace k2 := k2.later l1
 replace k4 := k4.later l1
 have L1 := hl.trans l1
 have R1 := h1.later L1
 have h4 := k4.lt
 clear h1 hl l1 hs
 go_upto_region 2 with (fail)
 refine zas (Q := fun W => Code.wp _ _ _ _ W) ?_
 intro w2 l2 hs2 k5
 replace k2 := k2.later l2
 replace k4 := k4.later l2
 have L2 := L1.trans l2
 have R2 := R1.later l2
 replace r1 := r1.later l2
 obtain ⟨g5, hg5⟩ : ∃ z, w1.heap.size = z := ⟨_, rfl⟩
 rw [hg5] at k5 h4 ⊢
 obtain ⟨g4, hg4⟩ : ∃ z, w.heap.size + 1 = z := ⟨_, rfl⟩
 rw [hg4] at k4 h4 ⊢
 have hw4 : w.heap.size ≤ g4 := by omega
 clear hg5 hg4 L1 R1 l2 hs2
 go_wp2_with fail
 go_loopw [6] (fun i wr => ∃ (j : Nat) (b : Bool) (A : Option Addr) (n c : Nat), i = .int .i64 j ∧ j ≤ k ∧ Rg wr b A n c (x ^ j) ∧ n ≤ 2 + 2 * j ∧ Rg wr b1 A1 n1 c1 x ∧ Blk wr w.heap.size 79 #[.bool b1, .slice A1 n1 c1] ∧ Blk wr g4 79 #[.bool false, .slice none 0 0] ∧ Blk wr g5 79 #[.bool b, .slice A n c] ∧ Lat w wr) (fun i _ => k - (intOf i).toNat)
 case atStart => exact ⟨0, b, A, n, c, rfl, by omega, by rw [Int.pow_zero]; exact r1, by omega, R2, k2, k4, k5, L2⟩
 case round =>
  clear r1 r2 k2 k4 k5 L2 R2
  obtain ⟨j, b, A, n, c, rfl, hj, r1, r2, R2, k2, k4, k5, L2⟩ := hrel
  by_cases hjk : j < k
  ·have hjI : (j : Int) < (k : Int) := by omega
   have d0 := k2.cell 0
   have d1 := k2.cell 1
   have e0 := k5.cell 0
   have e1 := k5.cell 1
   go_wp2_with fail
   refine (zbk b A n c (x ^ j) b1 A1 n1 c1 x wr r1 R2 (by omega) (by omega)).mono ?_
   rintro e w3 ⟨b', A', n', c', rfl, q1, q2, l3⟩
   replace k2 := k2.later l3
   replace k4 := k4.later l3
   replace k5 := k5.later l3
   have L3 := L2.trans l3
   have R3 := R2.later l3
   clear d0 d1 e0 e1 r1 R2 l3
   have e0 := k5.cell 0
   have e1 := k5.cell 1
   have f0 := k5.frozen 0
   have f1 := k5.frozen 1
   have hlt := k5.lt
   have hlt4 := k4.lt
   go_upto_region 4 with (fail)
   refine zgU (Q := fun W => Code.wp _ _ _ _ W) k5 ?_
   intro w4 j5 l4 hr4
   have j2 := k2.keepP l4 (by omega)
   have j4 := k4.keepP l4 (by omega)
   have L4 := l4.narrow L3 (by omega)
   go_wp2
   exact ⟨⟨j + 1, b', A', n', c', zkI j, hjk, by rw [Int.pow_succ]; exact hr4 q1, by omega, hr4 R3, j2, j4, j5, L4⟩, zon hjk⟩
  ·obtain rfl : j = k := by omega
   have e0 := k5.cell 0
   have e1 := k5.cell 1
   have f0 := k4.frozen 0
   have f1 := k4.frozen 1
   have d0 := k4.cell 0
   have d1 := k4.cell 1
   have hlt := k4.lt
   go_wp2
   refine zgU (Q := fun W => bodyPost _ _ _ _ _ W) k4 ?_
   intro w4 j4 l4 hr4
   have c0 := j4.cell 0
   have c1 := j4.cell 1
   refine bodyPost_ret (v := .agg #[.bool b, .slice A n c]) (by simp [results, Tryz.results83, go_sem, c0, c1]) rfl ?_
   exact ⟨b, A, n, c, rfl, hr4 r1, r2, l4.narrow L2 hw4⟩
section
end
theorem zfV {P : Program} {S : World → Prop} {a : Act} {ty : TypeId} {x : Operand} {b o : Nat} {cs : List Value} {d : TypeDesc} (hx : a.eval x = .pointer (some ⟨b, o, none⟩)) (hR : ∀ w, S w → w.rangeAt b o cs) (hu : P.underlying ty = some d) (hd : d.isRow = true) (hi : (P.info? ty).map (·.size) = some cs.length) :
  ∀ (op : Oper) (w : World), op.op = .load ty x → S w → (execOp a.eval op).run P w = .ok (.value (.agg cs.toArray)) w := by
 intro op w ho hS
 unfold execOp
 simp only [ho, hx, Instr.loadAt, Instr.sureAddr, Sem.run_bind, Sem.run_pure, Result.andThen_ok, run_loadVar_mid w b o ty cs d (hR w hS) hu hd hi]
theorem zmZ {w : World} {g : Nat} {t : TypeId} {cs : Array Value} (h : Blk w g t cs) (o : Nat) (l : List Value) (hl : ∀ j v, l[j]? = some v → cs[o + j]? = some v) : w.rangeAt g o l := fun j v hj => by rw [h.cell]; exact hl j v hj
theorem Lg.keepL {w W : World} {b : Bool} {A : Option Addr} {n c : Nat} {z : Int} {g : Nat} {t : TypeId} {cs : Array Value} (h : Lg w b A n c z) (hl : LatP (· = g) w W) (hb : Blk w g t cs) (hno : ∀ (j : Nat) (x : Int), cs[j]? ≠ some (.int .u64 x)) : Lg W b A n c z := by
 have ha := h.apart hb hno
 obtain ⟨hn, xs, hs, r⟩ := h
 refine ⟨hn, xs, ⟨hs.1, fun hp => ?_⟩, r⟩
 obtain ⟨a, e, hlt, hc⟩ := hs.2 hp
 refine ⟨a, e, Nat.lt_of_lt_of_le hlt hl.size, fun i x hx => ?_⟩
 have hk : W.heap[(a.add i).block]? = w.heap[(a.add i).block]? := by rw [block_add]; exact hl.block _ hlt (ha hp a e)
 exact (World.cell?_of_block hk).trans (hc i x hx)
theorem za6 {w : World} {g : Nat} {t : TypeId} {b0 b' : Bool} {A0 A' : Option Addr} {n0 c0 n' c' : Nat} {Q : World → Prop} (hb : Blk w g t #[.bool b0, .slice A0 n0 c0])
  (h : ∀ W, Blk W g t #[.bool b', .slice A' n' c'] → LatP (· = g) w W → (∀ {b A n c z}, Lg w b A n c z → Lg W b A n c z) → Q W) :
  Q ((w.setCell ⟨g, 0, none⟩ (.bool b')).setCell ⟨g, 1, none⟩ (.slice A' n' c')) := by
 refine h _ ?_ ?_ ?_
 ·have := (hb.set 0 (.bool b')).set 1 (.slice A' n' c')
  simpa using this
 ·exact LatP.setCells [.bool b', .slice A' n' c'] w 0
 ·intro b A n c z hr
  have ha := hr.apart hb (zbi _ _ _ _)
  exact (hr.far (p := ⟨g, 0, none⟩) ha _).far (p := ⟨g, 1, none⟩) ha _
theorem zds (b1 : Bool) (A1 : Option Addr) (n1 c1 : Nat) (x : Int) (k : Nat) (w : World) (h1 : Lg w b1 A1 n1 c1 x) (hn : n1 ≤ 8) (hk : k ≤ 1000) :
  Calls Tryz.prog 35 #[.agg #[.bool b1, .slice A1 n1 c1], .int .i64 k] w (LongPost w (x ^ k) (8 + 8 * k)) := by
 go_enter Tryz.func35, Tryz.ntmps35
 go_upto_region 1 with (fail)
 refine zaK (Q := fun W => Code.wp _ _ _ _ W) ?_
 intro W hl hs k2 k4
 go_wp2_with fail
 refine (zaY 1 (by decide) (by decide) W).mono ?_
 rintro e w1 ⟨b, A, n, c, rfl, r1, r2, l1⟩
 replace k2 := k2.later l1
 replace k4 := k4.later l1
 have L1 := hl.trans l1
 have R1 := h1.later L1
 have h4 := k4.lt
 clear h1 hl l1 hs
 go_upto_region 2 with (fail)
 refine zas (Q := fun W => Code.wp _ _ _ _ W) ?_
 intro w2 l2 hs2 k5
 replace k2 := k2.later l2
 replace k4 := k4.later l2
 have L2 := L1.trans l2
 have R2 := R1.later l2
 replace r1 := r1.later l2
 obtain ⟨g5, hg5⟩ : ∃ z, w1.heap.size = z := ⟨_, rfl⟩
 rw [hg5] at k5 h4 ⊢
 obtain ⟨g4, hg4⟩ : ∃ z, w.heap.size + 1 = z := ⟨_, rfl⟩
 rw [hg4] at k4 h4 ⊢
 have hw4 : w.heap.size ≤ g4 := by omega
 clear hg5 hg4 L1 R1 l2 hs2
 go_wp2_with fail
 go_loopw [8] (fun i wr => ∃ (j : Nat) (b : Bool) (A : Option Addr) (n c : Nat), i = .int .i64 j ∧ j ≤ k ∧ Lg wr b A n c (x ^ j) ∧ n ≤ 8 + 8 * j ∧ Lg wr b1 A1 n1 c1 x ∧ Blk wr w.heap.size 88 #[.bool b1, .slice A1 n1 c1] ∧ Blk wr g4 88 #[.bool false, .slice none 0 0] ∧ Blk wr g5 88 #[.bool b, .slice A n c] ∧ Lat w wr) (fun i _ => k - (intOf i).toNat)
 case atStart => exact ⟨0, b, A, n, c, rfl, by omega, by rw [Int.pow_zero]; exact r1, by omega, R2, k2, k4, k5, L2⟩
 case round =>
  clear r1 r2 k2 k4 k5 L2 R2
  obtain ⟨j, b, A, n, c, rfl, hj, r1, r2, R2, k2, k4, k5, L2⟩ := hrel
  by_cases hjk : j < k
  ·have hjI : (j : Int) < (k : Int) := by omega
   have d0 := k2.cell 0
   have d1 := k2.cell 1
   have e0 := k5.cell 0
   have e1 := k5.cell 1
   go_wp2_with fail
   refine (zbc b A n c (x ^ j) b1 A1 n1 c1 x wr r1 R2 (by omega) (by omega)).mono ?_
   rintro e w3 ⟨b', A', n', c', rfl, q1, q2, l3⟩
   replace k2 := k2.later l3
   replace k4 := k4.later l3
   replace k5 := k5.later l3
   have L3 := L2.trans l3
   have R3 := R2.later l3
   clear d0 d1 e0 e1 r1 R2 l3
   have e0 := k5.cell 0
   have e1 := k5.cell 1
   have f0 := k5.frozen 0
   have f1 := k5.frozen 1
   have hlt := k5.lt
   have hlt4 := k4.lt
   go_upto_region 5 with (fail)
   refine za6 (Q := fun W => Code.wp _ _ _ _ W) k5 ?_
   intro w4 j5 l4 hr4
   have j2 := k2.keepP l4 (by omega)
   have j4 := k4.keepP l4 (by omega)
   have L4 := l4.narrow L3 (by omega)
   go_wp2
   exact ⟨⟨j + 1, b', A', n', c', zkI j, hjk, by rw [Int.pow_succ]; exact hr4 q1, by omega, hr4 R3, j2, j4, j5, L4⟩, zon hjk⟩
  ·obtain rfl : j = k := by omega
   have e0 := k5.cell 0
   have e1 := k5.cell 1
   have f0 := k4.frozen 0
   have f1 := k4.frozen 1
   have d0 := k4.cell 0
   have d1 := k4.cell 1
   have hlt := k4.lt
   go_wp2
   refine za6 (Q := fun W => bodyPost _ _ _ _ _ W) k4 ?_
   intro w4 j4 l4 hr4
   have c0 := j4.cell 0
   have c1 := j4.cell 1
   refine bodyPost_ret (v := .agg #[.bool b, .slice A n c]) (by simp [results, Tryz.results35, go_sem, c0, c1]) rfl ?_
   exact ⟨b, A, n, c, rfl, hr4 r1, r2, l4.narrow L2 hw4⟩
theorem LongPost.le {w w' : World} {z : Int} {N M : Nat} {e : Ending} (h : LongPost w z N e w') (hm : N ≤ M) : LongPost w z M e w' := by
 obtain ⟨b, A, n, c, h1, h2, h3, h4⟩ := h
 exact ⟨b, A, n, c, h1, h2, Nat.le_trans h3 hm, h4⟩
set_option linter.unusedVariables false
theorem Lg.keepW {w w' : World} {b : Bool} {A : Option Addr} {n c : Nat} {z : Int} (h : Lg w b A n c z) (hk : zeW w w') : Lg w' b A n c z := by
 rcases hk with hl | ⟨g, T, cs, hb, hc, lp⟩
 ·exact h.later hl
 ·exact h.keepL lp hb (zkG hc)
theorem Rg.keepW {w w' : World} {b : Bool} {A : Option Addr} {n c : Nat} {z : Int} (h : Rg w b A n c z) (hk : zeW w w') : Rg w' b A n c z := by
 rcases hk with hl | ⟨g, T, cs, hb, hc, lp⟩
 ·exact h.later hl
 ·exact h.keepL lp hb (zkH hc)
theorem GV.keepW {z : Int} {N : Nat} {v : Value} {w w' : World} (h : GV z N v w) (hk : zeW w w') : GV z N v w' := by
 obtain ⟨b, A, n, c, e, hr, hn⟩ := h
 exact ⟨b, A, n, c, e, hr.keepW hk, hn⟩
def HV (z : Int) (N : Nat) (v : Value) (w : World) : Prop := ∃ b A n c, v = .agg #[.bool b, .slice A n c] ∧ Rg w b A n c z ∧ n ≤ N
theorem HV.mono {z : Int} {N : Nat} {v : Value} {w w' : World} (h : HV z N v w) (hl : Lat w w') : HV z N v w' := by
 obtain ⟨b, A, n, c, e, hr, hn⟩ := h
 exact ⟨b, A, n, c, e, hr.later hl, hn⟩
theorem HV.keepW {z : Int} {N : Nat} {v : Value} {w w' : World} (h : HV z N v w) (hk : zeW w w') : HV z N v w' := by
 obtain ⟨b, A, n, c, e, hr, hn⟩ := h
 exact ⟨b, A, n, c, e, hr.keepW hk, hn⟩
theorem RefPost.runH {w w' : World} {z : Int} {N : Nat} {e : Ending} {d : Prop} (h : RefPost w z N e w') : ∃ v, e = .returned v ∧ (Lat w w' ∧ (d → HV z N v w')) := by
 obtain ⟨b, A, n, c, e, hr, hn, hl⟩ := h
 exact ⟨_, e, hl, fun _ => ⟨b, A, n, c, rfl, hr, hn⟩⟩
def SV (z : Int) (N : Nat) (v : Value) (w : World) : Prop := ∃ A n c, v = .slice A n c ∧ Lg w false A n c z ∧ n ≤ N
theorem SV.mono {z : Int} {N : Nat} {v : Value} {w w' : World} (h : SV z N v w) (hl : Lat w w') : SV z N v w' := by
 obtain ⟨A, n, c, e, hr, hn⟩ := h
 exact ⟨A, n, c, e, hr.later hl, hn⟩
theorem SV.keepW {z : Int} {N : Nat} {v : Value} {w w' : World} (h : SV z N v w) (hk : zeW w w') : SV z N v w' := by
 obtain ⟨A, n, c, e, hr, hn⟩ := h
 exact ⟨A, n, c, e, hr.keepW hk, hn⟩
theorem zaE {w : World} {g : Nat} {t : TypeId} {cs c : Array Value} {Q : World → Prop} (hb : Blk w g t cs) (hs : cs.size = c.size) (hr : cs.all zbJ = true)
  (h : ∀ W, Blk W g t c → LatP (· = g) w W → zeW w W → Q W) : Q (w.setCells g 0 c.toList) :=
 h _ (hb.setCells c hs) (LatP.setCells _ _ _) (.inr ⟨g, t, cs, hb, hr, LatP.setCells _ _ _⟩)
end Go.Proofs.YtpmbglhbcjbkcaaGreat
