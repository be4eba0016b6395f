
/- wide: equality, zero, of, and the sum of sizes. -/
import Derived.Test.YtogkkhaepfablaaGreatJ12
import Derived.Test.YtogkkhaepfablaaGreatJ28
import Derived.DeepKeys
import Derived.Laws.Bits64
namespace Go.Proofs.YtogkkhaepfablaaGreat
open Go.RowKit

theorem xor63 {a : Nat} (h : a < 2 ^ 64) : a ^^^ 2 ^ 63 = (2 ^ 63 + a) % 2 ^ 64 := by
  apply Nat.eq_of_testBit_eq
  intro j
  rw [Nat.testBit_xor, Nat.testBit_mod_two_pow, Nat.testBit_two_pow]
  rcases Nat.lt_trichotomy j 63 with hj | hj | hj
  · rw [Nat.testBit_two_pow_add_gt hj]; simp [show j < 64 by omega, show ¬ 63 = j by omega]
  · subst hj; rw [Nat.testBit_two_pow_add_eq]; simp
  · have : a.testBit j = false := Nat.testBit_lt_two_pow (Nat.lt_of_lt_of_le h (Nat.pow_le_pow_right (by decide) (by omega)))
    simp [this, show ¬ j < 64 by omega, show ¬ 63 = j by omega]

def litsW (u : W8) : List Lit := u.list.map (Lit.int .u64)
theorem litsW_inj {u v : W8} : litsW u = litsW v ↔ u = v := by
  constructor
  · intro h
    simp only [litsW, W8.list, List.map_cons, List.map_nil, List.cons.injEq, Lit.int.injEq, true_and, and_true] at h
    obtain ⟨h0, h1, h2, h3, h4, h5, h6, h7⟩ := h
    exact W8.ext h0 h1 h2 h3 h4 h5 h6 h7
  · intro h; rw [h]
theorem wf64 {n : Int} (h : 0 ≤ n ∧ n < W64) : (Lit.int .u64 n).wf = true := by
  unfold W64 at h
  have e1 : IntKind.u64.min = 0 := by decide
  have e2 : IntKind.u64.max = 18446744073709551615 := by decide
  simp [Lit.wf, e1, e2]
  omega
theorem cells28 : Tryz.prog.cellsOf 22 = 1 := by kernel_rfl
theorem cells30 : Tryz.prog.cellsOf 26 = 8 := by kernel_rfl
theorem cellsSz : Tryz.prog.cellsOf 104 = 8 := by kernel_rfl
theorem key28 {n : Int} (h : 0 ≤ n ∧ n < W64) (d : Nat) : Tryz.prog.keyLits (d + 1) 22 [.int .u64 n] = some [.int .u64 n] := by
  have hw := wf64 h
  unfold Program.keyLits
  rw [Tryz.underlying22]
  simp [hw]
theorem key30 {u : W8} (h : u.ok) (d : Nat) : Tryz.prog.keyLits (d + 2) 26 [.int .u64 u.a0, .int .u64 u.a1, .int .u64 u.a2, .int .u64 u.a3, .int .u64 u.a4, .int .u64 u.a5, .int .u64 u.a6, .int .u64 u.a7] = some (litsW u) := by
  have h0 := key28 h.at0 d
  have h1 := key28 h.at1 d
  have h2 := key28 h.at2 d
  have h3 := key28 h.at3 d
  have h4 := key28 h.at4 d
  have h5 := key28 h.at5 d
  have h6 := key28 h.at6 d
  have h7 := key28 h.at7 d
  unfold Program.keyLits
  rw [Tryz.underlying26]
  simp [cells28, cells30, List.range, List.range.loop, h0, h1, h2, h3, h4, h5, h6, h7, litsW, W8.list]
theorem keySz {u : W8} (h : u.ok) (d : Nat) : Tryz.prog.keyLits (d + 2) 104 [.int .u64 u.a0, .int .u64 u.a1, .int .u64 u.a2, .int .u64 u.a3, .int .u64 u.a4, .int .u64 u.a5, .int .u64 u.a6, .int .u64 u.a7] = some (litsW u) := by
  have h0 := key28 h.at0 d
  have h1 := key28 h.at1 d
  have h2 := key28 h.at2 d
  have h3 := key28 h.at3 d
  have h4 := key28 h.at4 d
  have h5 := key28 h.at5 d
  have h6 := key28 h.at6 d
  have h7 := key28 h.at7 d
  unfold Program.keyLits
  rw [Tryz.underlying104]
  simp [cells28, cellsSz, List.range, List.range.loop, h0, h1, h2, h3, h4, h5, h6, h7, litsW, W8.list]
theorem wide_eq {u v : W8} (hu : u.ok) (hv : v.ok) (w : World) : (binOp .eql 26 (.agg #[.int .u64 u.a0, .int .u64 u.a1, .int .u64 u.a2, .int .u64 u.a3, .int .u64 u.a4, .int .u64 u.a5, .int .u64 u.a6, .int .u64 u.a7]) (.agg #[.int .u64 v.a0, .int .u64 v.a1, .int .u64 v.a2, .int .u64 v.a3, .int .u64 v.a4, .int .u64 v.a5, .int .u64 v.a6, .int .u64 v.a7])).run Tryz.prog w = .ok (.bool (decide (u.mag = v.mag))) w := by
  obtain ⟨r, hr, hi⟩ := run_equalIn_deep (P := Tryz.prog) 9990 10 26 (by kernel_rfl) w 10 10 (.agg #[.int .u64 u.a0, .int .u64 u.a1, .int .u64 u.a2, .int .u64 u.a3, .int .u64 u.a4, .int .u64 u.a5, .int .u64 u.a6, .int .u64 u.a7]) (.agg #[.int .u64 v.a0, .int .u64 v.a1, .int .u64 v.a2, .int .u64 v.a3, .int .u64 v.a4, .int .u64 v.a5, .int .u64 v.a6, .int .u64 v.a7]) _ _ (by kernel_rfl) (by kernel_rfl) (key30 hu 8) (key30 hv 8)
  have e : r = decide (u.mag = v.mag) := by
    rw [litsW_inj] at hi
    rw [Bool.eq_iff_iff, decide_eq_true_eq, hi]
    exact ⟨fun h => by rw [h], fun h => W8.mag_inj hu hv h⟩
  rw [run_eql_struct, hr, e]
  rfl
theorem size_eq {u v : W8} (hu : u.ok) (hv : v.ok) (w : World) : (binOp .eql 104 (.agg #[.int .u64 u.a0, .int .u64 u.a1, .int .u64 u.a2, .int .u64 u.a3, .int .u64 u.a4, .int .u64 u.a5, .int .u64 u.a6, .int .u64 u.a7]) (.agg #[.int .u64 v.a0, .int .u64 v.a1, .int .u64 v.a2, .int .u64 v.a3, .int .u64 v.a4, .int .u64 v.a5, .int .u64 v.a6, .int .u64 v.a7])).run Tryz.prog w = .ok (.bool (decide (u.mag = v.mag))) w := by
  obtain ⟨r, hr, hi⟩ := run_equalIn_deep (P := Tryz.prog) 9990 10 104 (by kernel_rfl) w 10 10 (.agg #[.int .u64 u.a0, .int .u64 u.a1, .int .u64 u.a2, .int .u64 u.a3, .int .u64 u.a4, .int .u64 u.a5, .int .u64 u.a6, .int .u64 u.a7]) (.agg #[.int .u64 v.a0, .int .u64 v.a1, .int .u64 v.a2, .int .u64 v.a3, .int .u64 v.a4, .int .u64 v.a5, .int .u64 v.a6, .int .u64 v.a7]) _ _ (by kernel_rfl) (by kernel_rfl) (keySz hu 8) (keySz hv 8)
  have e : r = decide (u.mag = v.mag) := by
    rw [litsW_inj] at hi
    rw [Bool.eq_iff_iff, decide_eq_true_eq, hi]
    exact ⟨fun h => by rw [h], fun h => W8.mag_inj hu hv h⟩
  rw [run_eql_struct, hr, e]
  rfl

/-- A binary operation whose run is known. -/
theorem wpList_bin {P : Program} {ops : Array Oper} {rest : List Oper} {o : Oper} {a : Act} {w : World} {Q : Exit → Act → World → Prop} (hgd : o.guard = none) (op : BinOp) (t t2 : TypeId) (x y : Operand) (ho : o.op = .binOp op t x y t2)
    (X Y : Array Value) (V : Value) (hx : a.eval x = .agg X) (hy : a.eval y = .agg Y) (hm : P.eqGuardType P.depth t = false) (hrun : (binOp op t (.agg X) (.agg Y)).run P w = .ok V w)
    (h : wpList P ops Q rest (a.put o.dst V) w) : wpList P ops Q (o :: rest) a w := by
  refine wpList_plain hgd fun K hK => ?_
  unfold Oper.wp execOp
  have hg := run_eqGuard_agg (P := P) w op t x y X Y hm
  simp [ho, hx, hy, hg, hrun, Result.andThen]
  exact hK _ _ h

/-- After k words, in the place of the first ones. -/
def SumInv (xs ys : List Int) (k : Nat) (c : Int) (os : List Int) : Prop :=
  (0 ≤ c ∧ c ≤ 1) ∧ os.length = 8 ∧ InR W64 os ∧ val W64 (os.take k) + W64 ^ k * c = val W64 (xs.take k) + val W64 (ys.take k) ∧ os.drop k = xs.drop k
theorem SumInv.step {xs ys : List Int} {k : Nat} {c x y : Int} {os : List Int} (h : SumInv xs ys k c os) (hk : k < 8) (hx : os[k]? = some x) (hy : ys.getD k 0 = y)
    (rx : 0 ≤ x ∧ x < W64) (ry : 0 ≤ y ∧ y < W64) : SumInv xs ys (k + 1) (addC x y c) (os.set k (addS x y c)) := by
  obtain ⟨hc, hl, hr, he, hd⟩ := h
  obtain ⟨e, r1, r2⟩ := add_facts rx ry hc
  have hx2 : xs.getD k 0 = x := by
    have h0 : (os.drop k)[0]? = some x := by rw [List.getElem?_drop]; exact hx
    rw [hd, List.getElem?_drop] at h0
    rw [List.getD_eq_getElem?_getD]
    have : xs[k]? = some x := h0
    rw [this]; rfl
  refine ⟨r2, by simpa using hl, hr.set k r1, ?_, ?_⟩
  · have e1 : (os.set k (addS x y c)).take k = os.take k := by rw [List.take_set_of_le (Nat.le_refl _)]
    have e2 : (os.set k (addS x y c)).getD k 0 = addS x y c := by simp [List.getD_eq_getElem?_getD, hl, hk]
    rw [val_take_succ, val_take_succ, val_take_succ, e1, e2, hx2, hy, pw_succ]
    have : addS x y c = x + y + c - W64 * addC x y c := by omega
    rw [this]
    grind
  · rw [List.drop_set_of_lt (by omega), ← List.drop_drop, hd, List.drop_drop]

/-- What 'plus' hands back. -/
def PlusPost (w : World) (x y : Int) (e : Ending) (w' : World) : Prop :=
  ∃ (u : W8) (b : Int), e = .returned (.tuple #[.agg #[.int .u64 u.a0, .int .u64 u.a1, .int .u64 u.a2, .int .u64 u.a3, .int .u64 u.a4, .int .u64 u.a5, .int .u64 u.a6, .int .u64 u.a7], .int .u64 b]) ∧ u.ok ∧ u.mag + P512 * b = x + y ∧ (0 ≤ b ∧ b ≤ 1) ∧ Lat w w'

set_option maxRecDepth 100000 in
set_option maxHeartbeats 1000000 in
theorem sizePlus_any (x y : W8) (hx : x.ok) (hy : y.ok) (w : World) :
    Calls Tryz.prog 106 #[.agg #[.int .u64 x.a0, .int .u64 x.a1, .int .u64 x.a2, .int .u64 x.a3, .int .u64 x.a4, .int .u64 x.a5, .int .u64 x.a6, .int .u64 x.a7], .agg #[.int .u64 y.a0, .int .u64 y.a1, .int .u64 y.a2, .int .u64 y.a3, .int .u64 y.a4, .int .u64 y.a5, .int .u64 y.a6, .int .u64 y.a7]] w (PlusPost w x.mag y.mag) := by
  have HLX := Lib.hid (show x.list.length = 8 from rfl)
  have HLY := Lib.hid (show y.list.length = 8 from rfl)
  go_enter Tryz.func106, Tryz.ntmps106
  go_wp2
  refine name3 (Q := fun W => Code.wp _ _ _ _ W) ?_
  intro W hl hs k1 k2 k3
  have K1 : Blk W w.heap.size 104 (nums .u64 x.list) := k1
  have K2 : Blk W (w.heap.size + 1) 104 (nums .u64 y.list) := k2
  have K3 : Blk W (w.heap.size + 1 + 1) 104 (nums .u64 W8.zero.list) := k3
  clear k1 k2 k3
  go_loopw [6, 8] (fun cy i wr => ∃ (k : Nat) (c : Int) (os : List Int), k ≤ 8 ∧ i = .int .i64 k ∧ cy = .int .u64 c ∧ Hid (SumInv x.list y.list k c os) ∧ Lat w wr ∧ Blk wr w.heap.size 104 (nums .u64 os) ∧
    Blk wr (w.heap.size + 1) 104 (nums .u64 y.list) ∧ Blk wr (w.heap.size + 1 + 1) 104 (nums .u64 W8.zero.list)) (fun _ i _ => 8 - (intOf i).toNat)
  case atStart => exact ⟨0, 0, _, by omega, rfl, rfl, ⟨by omega, rfl, hx, by simp [val], rfl⟩, hl, K1, K2, K3⟩
  case round =>
    obtain ⟨k, c, os, hk, rfl, rfl, hinv, hlr, B1, B2, B3⟩ := hrel
    clear hl hs K1 K2 K3
    have hc := hinv.out.1
    by_cases hlt : k < 8
    · obtain ⟨a, hak, hca, hfa⟩ := B1.slot (i := k) (by have := hinv.out.2.1; omega)
      obtain ⟨b, hbk, hcb, _⟩ := B2.slot (i := k) (by have := HLY.out; omega)
      have hra := hinv.out.2.2.1.at hak
      have hrb := hy.at hbk
      have hgb : Hid (y.list.getD k 0 = b) := by show _ = _; rw [List.getD_eq_getElem?_getD, hbk]; rfl
      have HA := Lib.hid hak
      clear hak hbk
      have b1 : (k : Int) < 8 := by omega
      have b0 : (0 : Int) ≤ (k : Int) := by omega
      have hadd := run_Add64 a b c hra.1 hrb.1 hc.1 hc.2
      go_wp2
      go_region
      go_wp2
      go_roundw
      case rel => exact ⟨k + 1, addC a b c, _, by omega, by go_num, rfl, hinv.out.step hlt HA.out hgb.out hra hrb, (hlr.setCell (p := ⟨w.heap.size, k, none⟩) (Nat.le_refl _) (.int .u64 (addS a b c))).trans (Lat.drew _), B1.put k _, B2.far (p := ⟨w.heap.size, k, none⟩) (by simp) _, B3.far (p := ⟨w.heap.size, k, none⟩) (by simp; try omega) _⟩
      case measure => simp [intOf]; omega
    · obtain rfl : k = 8 := by omega
      obtain ⟨u, rfl⟩ : ∃ u : W8, os = u.list := ⟨W8.ofList os, (of_list8 hinv.out.2.1).symm⟩
      have hu : u.ok := hinv.out.2.2.1
      have hv : Hid (u.mag + P512 * c = x.mag + y.mag) := by
        have := hinv.out.2.2.2.1
        rw [List.take_of_length_le (by exact Nat.le_refl 8), List.take_of_length_le (by exact Nat.le_refl 8), List.take_of_length_le (by exact Nat.le_refl 8), ← P512_eq] at this
        show val W64 u.list + P512 * c = val W64 x.list + val W64 y.list
        omega
      have D1 : Blk wr w.heap.size 104 #[.int .u64 u.a0, .int .u64 u.a1, .int .u64 u.a2, .int .u64 u.a3, .int .u64 u.a4, .int .u64 u.a5, .int .u64 u.a6, .int .u64 u.a7] := B1
      have D3 : Blk wr (w.heap.size + 1 + 1) 104 #[.int .u64 W8.zero.a0, .int .u64 W8.zero.a1, .int .u64 W8.zero.a2, .int .u64 W8.zero.a3, .int .u64 W8.zero.a4, .int .u64 W8.zero.a5, .int .u64 W8.zero.a6, .int .u64 W8.zero.a7] := B3
      clear B1 B2 B3 hinv
      have c0 := D1.cell 0
      have c1 := D1.cell 1
      have c2 := D1.cell 2
      have c3 := D1.cell 3
      have c4 := D1.cell 4
      have c5 := D1.cell 5
      have c6 := D1.cell 6
      have c7 := D1.cell 7
      have d0 := D3.cell 0
      have d1 := D3.cell 1
      have d2 := D3.cell 2
      have d3 := D3.cell 3
      have d4 := D3.cell 4
      have d5 := D3.cell 5
      have d6 := D3.cell 6
      have d7 := D3.cell 7
      have f0 := D3.frozen 0
      have f1 := D3.frozen 1
      have f2 := D3.frozen 2
      have f3 := D3.frozen 3
      have f4 := D3.frozen 4
      have f5 := D3.frozen 5
      have f6 := D3.frozen 6
      have f7 := D3.frozen 7
      go_wp2
      refine bodyPost_ret (v := .tuple #[.agg #[.int .u64 u.a0, .int .u64 u.a1, .int .u64 u.a2, .int .u64 u.a3, .int .u64 u.a4, .int .u64 u.a5, .int .u64 u.a6, .int .u64 u.a7], .int .u64 c]) (by simp [results, Tryz.results106, go_sem, d0, d1, d2, d3, d4, d5, d6, d7]) rfl ?_
      exact ⟨u, c, rfl, hu, hv.out, hc, hlr.put8 (by omega) _ _ _ _ _ _ _ _⟩
end Go.Proofs.YtogkkhaepfablaaGreat
