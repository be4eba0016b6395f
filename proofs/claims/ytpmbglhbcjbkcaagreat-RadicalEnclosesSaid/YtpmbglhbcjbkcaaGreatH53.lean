/- Several texts in one: InvC, RdZc, RdZd, RdZe. -/
import Derived.Test.YtpmbglhbcjbkcaaGreatH50
import Derived.Test.YtpmbglhbcjbkcaaGreatH49
import Derived.Test.YtpmbglhbcjbkcaaGreatH52
namespace Go.Proofs.YtpmbglhbcjbkcaaGreat
set_option maxHeartbeats 16000000
set_option maxRecDepth 100000
open Go.RowKit
set_option linter.unusedSimpArgs false
def CopyG (W0 : World) (g h gx gy : Nat) (T : TypeId) (X Y : Array Value) (p q : Nat) (m : Nat) (_a : Act) (W : World) : Prop :=
 (Blk W gx T X ∧ Blk W gy T Y) ∧ (∃ Z, Blk W g T Z ∧ Z.size = X.size ∧ (m.testBit p = true → Z = X)) ∧ (∃ Z, Blk W h T Z ∧ Z.size = Y.size ∧ (m.testBit q = true → Z = Y)) ∧ Lat W0 W
structure zhf (P : Program) (W0 : World) (g h gx gy : Nat) (T : TypeId) (X Y : Array Value) : Prop where
 hg : W0.heap.size ≤ g
 hh : W0.heap.size ≤ h
 ne : g ≠ h
 xg : gx ≠ g
 xh : gx ≠ h
 yg : gy ≠ g
 yh : gy ≠ h
 d : ∃ d : TypeDesc, P.underlying T = some d ∧ d.isRow = true
 ix : (P.info? T).map (·.size) = some X.size
 iy : (P.info? T).map (·.size) = some Y.size
 ox : X.all (·.oneCell') = true
 oy : Y.all (·.oneCell') = true
theorem zbC {m i p : Nat} (h : i ≠ p) : (m ||| 2 ^ i).testBit p = m.testBit p := by
 rw [Nat.testBit_or, Nat.testBit_two_pow, decide_eq_false h, Bool.or_false]
section
variable {P : Program} {rows : List SRow} {base : List (Nat × Value)} {N : Nat} {tbl : List (List Nat)} {W0 : World} {g h gx gy : Nat} {T : TypeId} {X Y : Array Value} {p q i : Nat} {rs : List SRow} {dst : Option Tmp} {deps : List Nat}
theorem zlx {Z : Array Value} {b : Nat} (t : Nat) (hip : i ≠ p) (hiq : i ≠ q) (hbt : base.lookup t = some (.pointer (some ⟨b, 0, none⟩))) (hZ : (b = gx ∧ Z = X) ∨ (b = gy ∧ Z = Y)) (hok : zhf P W0 g h gx gy T X Y) (hr : AllStepsH P rows base N tbl (CopyG W0 g h gx gy T X Y p q) (i + 1) rs) :
  AllStepsH P rows base N tbl (CopyG W0 g h gx gy T X Y p q) i (⟨.load T (.tmp t), dst, none, deps, fun v _ => v = .agg Z⟩ :: rs) :=
 AllStepsH.next (fun _ _ _ h => h) (fun j b h => by cases h) (fun m a w hG hsz hmi hdp hcl hb hd o ho => by
  obtain ⟨⟨h1, h2⟩, h3, h4, h5⟩ := hG
  obtain ⟨d, hd1, hd2⟩ := hok.d
  have hbk : Blk w b T Z := by rcases hZ with ⟨rfl, rfl⟩ | ⟨rfl, rfl⟩ <;> assumption
  have hi : (P.info? T).map (·.size) = some Z.toList.length := by
   rw [Array.length_toList]
   rcases hZ with ⟨_, rfl⟩ | ⟨_, rfl⟩
   ·exact hok.ix
   ·exact hok.iy
  have hl := zah (S := fun w' => w' = w) (hb t _ hbt) (fun w' e => by rw [e]; exact fun j v hj => by rw [Nat.zero_add, hbk.cell j]; simpa using hj) hd1 hd2 hi o w ho rfl
  exact .inl (Runs.val hl ⟨fun _ => by simp, ⟨h1, h2⟩, by rw [zbC hip]; exact h3, by rw [zbC hiq]; exact h4, h5⟩)) hr
theorem zly {rj : SRow} (t s j : Nat) (hpq : p ≠ q) (hbt : base.lookup t = some (.pointer (some ⟨g, 0, none⟩))) (hj : j ∈ deps) (hrj : rows[j]? = some rj) (hrs : rj.dst = some s) (hrv : ∀ v w, rj.V v w → v = .agg X)
  (hok : zhf P W0 g h gx gy T X Y) (hr : AllStepsH P rows base N tbl (CopyG W0 g h gx gy T X Y p q) (p + 1) rs) :
  AllStepsH P rows base N tbl (CopyG W0 g h gx gy T X Y p q) p (⟨.store T (.tmp t) (.tmp s), none, none, deps, fun _ _ => True⟩ :: rs) :=
 AllStepsH.next (fun _ _ _ _ => trivial) (fun j b h => by cases h) (fun m a w hG hsz hmi hdp hcl hb hd o ho => by
  obtain ⟨⟨h1, h2⟩, ⟨Z, hz, hzs, _⟩, ⟨Z', hz', hzs', hzb'⟩, h5⟩ := hG
  obtain ⟨v, hv1, hv2⟩ := hd j rj s hj hrj hrs
  obtain rfl := hrv v w hv2
  have hx := hb t _ hbt
  have hy := hv1.ev
  have hth : w.there g 0 X.size := hzs ▸ zf2 hz
  refine .inr ⟨w.setCells g 0 X.toList, ?_, rfl, ⟨(zaC hok.xg _ _ _).trans h1, (zaC hok.yg _ _ _).trans h2⟩, ⟨X, hz.setCells X hzs, rfl, fun _ => rfl⟩, ⟨Z', (zaC (fun e => hok.ne e.symm) _ _ _).trans hz', hzs', by rw [zbC hpq]; exact hzb'⟩, Lat.setCells hok.hg _ _ _ h5⟩
  unfold execOp
  simp only [ho, hx, hy, Instr.storeAt, Instr.sureAddr, Sem.run_bind, Sem.run_pure, Result.andThen_ok, run_storeVar_mid w g 0 T X hth hok.ix hok.ox]) hr
theorem zlz {rj : SRow} (t s j : Nat) (hpq : q ≠ p) (hbt : base.lookup t = some (.pointer (some ⟨h, 0, none⟩))) (hj : j ∈ deps) (hrj : rows[j]? = some rj) (hrs : rj.dst = some s) (hrv : ∀ v w, rj.V v w → v = .agg Y)
  (hok : zhf P W0 g h gx gy T X Y) (hr : AllStepsH P rows base N tbl (CopyG W0 g h gx gy T X Y p q) (q + 1) rs) :
  AllStepsH P rows base N tbl (CopyG W0 g h gx gy T X Y p q) q (⟨.store T (.tmp t) (.tmp s), none, none, deps, fun _ _ => True⟩ :: rs) :=
 AllStepsH.next (fun _ _ _ _ => trivial) (fun j b h => by cases h) (fun m a w hG hsz hmi hdp hcl hb hd o ho => by
  obtain ⟨⟨h1, h2⟩, ⟨Z, hz, hzs, hzb⟩, ⟨Z', hz', hzs', _⟩, h5⟩ := hG
  obtain ⟨v, hv1, hv2⟩ := hd j rj s hj hrj hrs
  obtain rfl := hrv v w hv2
  have hx := hb t _ hbt
  have hy := hv1.ev
  have hth : w.there h 0 Y.size := hzs' ▸ zf2 hz'
  refine .inr ⟨w.setCells h 0 Y.toList, ?_, rfl, ⟨(zaC hok.xh _ _ _).trans h1, (zaC hok.yh _ _ _).trans h2⟩, ⟨Z, (zaC hok.ne _ _ _).trans hz, hzs, by rw [zbC hpq]; exact hzb⟩, ⟨Y, hz'.setCells Y hzs', rfl, fun _ => rfl⟩, Lat.setCells hok.hh _ _ _ h5⟩
  unfold execOp
  simp only [ho, hx, hy, Instr.storeAt, Instr.sureAddr, Sem.run_bind, Sem.run_pure, Result.andThen_ok, run_storeVar_mid w h 0 T Y hth hok.iy hok.oy]) hr
theorem zoB {op : Op} {c : Value} (hip : i ≠ p) (hiq : i ≠ q) (hrun : ∀ (a : Act) (w : World), (∀ k v, base.lookup k = some v → a.eval (.tmp k) = v) → (∀ (j : Nat) (rj : SRow) (d : Tmp), j ∈ deps → rows[j]? = some rj → rj.dst = some d → ∃ v, Slot a d v ∧ rj.V v w) → ∀ o : Oper, o.op = op → (execOp a.eval o).run P w = .ok (.value c) w)
  (hr : AllStepsH P rows base N tbl (CopyG W0 g h gx gy T X Y p q) (i + 1) rs) :
  AllStepsH P rows base N tbl (CopyG W0 g h gx gy T X Y p q) i (⟨op, dst, none, deps, fun v _ => v = c⟩ :: rs) :=
 AllStepsH.next (fun _ _ _ h => h) (fun j b h => by cases h) (fun m a w hG hsz hmi hdp hcl hb hd o ho => .inl (Runs.val (hrun a w hb hd o ho) ⟨fun _ => rfl, by
  obtain ⟨h1, h3, h4, h5⟩ := hG
  exact ⟨h1, by rw [zbC hip]; exact h3, by rw [zbC hiq]; exact h4, h5⟩⟩)) hr
theorem CopyG.all {m : Nat} {a : Act} {W : World} (h' : CopyG W0 g h gx gy T X Y p q m a W) (h1 : m.testBit p = true) (h2 : m.testBit q = true) : (Blk W g T X ∧ Blk W h T Y) ∧ Lat W0 W := by
 obtain ⟨_, ⟨Z, a1, _, a2⟩, ⟨Z', b1, _, b2⟩, h5⟩ := h'
 rw [a2 h1] at a1
 rw [b2 h2] at b1
 exact ⟨⟨a1, b1⟩, h5⟩
end
set_option linter.unusedVariables false
theorem znZ (T : Array Value) (h : T.size = 52) : ∃ f : Nat → Value, (∀ k, f k = T.getD k undef) ∧ T = #[f 0, f 1, f 2, f 3, f 4, f 5, f 6, f 7, f 8, f 9, f 10, f 11, f 12, f 13, f 14, f 15, f 16, f 17, f 18, f 19, f 20, f 21, f 22, f 23, f 24, f 25, f 26, f 27, f 28, f 29, f 30, f 31, f 32, f 33, f 34, f 35, f 36, f 37, f 38, f 39, f 40, f 41, f 42, f 43, f 44, f 45, f 46, f 47, f 48, f 49, f 50, f 51] := ⟨fun k => T.getD k undef, fun _ => rfl, (spell 52 T h).trans (by kernel_rfl)⟩
noncomputable def zeP (g4 g5 g9 g11 : Nat) (X Y : Array Value) : List SRow := [
 ⟨.load 40 (.tmp 9), some 50, none, [], fun v _ => v = .agg X⟩,
 ⟨.load 40 (.tmp 11), some 51, none, [], fun v _ => v = .agg Y⟩,
 ⟨.store 40 (.tmp 4) (.tmp 50), none, none, [0, 0], fun _ _ => True⟩,
 ⟨.store 40 (.tmp 5) (.tmp 51), none, none, [1, 2, 0, 1, 2], fun _ _ => True⟩,
 ⟨.assign (.const (.int .i64 0)), some 6, none, [3, 0, 1, 2, 3], fun v _ => v = .int .i64 0⟩]
noncomputable def zhg (g4 g5 g9 g11 : Nat) (X Y : Array Value) : List (Nat × Value) := [(4, .pointer (some ⟨g4, 0, none⟩)), (5, .pointer (some ⟨g5, 0, none⟩)), (9, .pointer (some ⟨g9, 0, none⟩)), (11, .pointer (some ⟨g11, 0, none⟩))]
theorem zjM (V : World) (g4 g5 g9 g11 : Nat) (X Y : Array Value) (hok : zhf Tryz.prog V g4 g5 g9 g11 40 X Y) :
  AllStepsH Tryz.prog (zeP g4 g5 g9 g11 X Y) (zhg g4 g5 g9 g11 X Y) 52 [[], [], [0, 0], [1, 2, 0, 1, 2], [3, 0, 1, 2, 3]] (CopyG V g4 g5 g9 g11 40 X Y 2 3) 0 (zeP g4 g5 g9 g11 X Y) := by
 refine zlx 9 (by decide) (by decide) rfl (.inl ⟨rfl, rfl⟩) hok ?_
 refine zlx 11 (by decide) (by decide) rfl (.inr ⟨rfl, rfl⟩) hok ?_
 refine zly 4 50 0 (by decide) rfl (by simp) rfl rfl (fun _ _ h => h) hok ?_
 refine zlz 5 51 1 (by decide) rfl (by simp) rfl rfl (fun _ _ h => h) hok ?_
 refine zoB (by decide) (by decide) (fun a w hb hd o ho => by have e1 : a.eval (.const (.int .i64 0)) = .int .i64 0 := rfl; exact zcs (S := fun _ => True) e1 o w ho trivial) ?_
 exact AllStepsH.none
theorem zcy {W : World} {g h : Nat} {u1 v1 u2 v2 : W8} {r : Int} {T : Array Value} (h4 : T[4]? = some (.pointer (some ⟨g, 0, none⟩))) (h5 : T[5]? = some (.pointer (some ⟨h, 0, none⟩))) (h6 : T[6]? = some (.int .i64 r))
  (k4 : Blk W g 40 (W8.two u1 v1)) (k5 : Blk W h 40 (W8.two u2 v2)) : (results Tryz.f10 T).run Tryz.prog W = .ok (.tuple #[.agg (W8.two u1 v1), .agg (W8.two u2 v2), .int .i64 r]) W := by
 have a4 := run_loadVar_mid (P := Tryz.prog) W g 0 40 [u1.b0, u1.b1, u1.b2, u1.b3, u1.b4, u1.b5, u1.b6, u1.b7, v1.b0, v1.b1, v1.b2, v1.b3, v1.b4, v1.b5, v1.b6, v1.b7] _ k4.rangeAll Tryz.underlying40 rfl zao
 have a5 := run_loadVar_mid (P := Tryz.prog) W h 0 40 [u2.b0, u2.b1, u2.b2, u2.b3, u2.b4, u2.b5, u2.b6, u2.b7, v2.b0, v2.b1, v2.b2, v2.b3, v2.b4, v2.b5, v2.b6, v2.b7] _ k5.rangeAll Tryz.underlying40 rfl zao
 unfold results
 rw [Tryz.results10]
 skip
 simp [h4, h5, h6, asAddr, a4, a5, Sem.run_bind, Sem.run_pure, Result.andThen_ok]
theorem zmH (A : Option Addr) (n c : Nat) (l : List (Int × Int)) (b : Int) (w : World) (hs : RowM w A 2 n (zab l)) (hn : n ≤ 1000000) (hv : ¬ ValidR l) :
  Calls Tryz.prog 10 #[.slice A n c, .int .i64 b] w (zcb w l b) := by
 have HE : Hid (zgV l b = 30) := by show _ = _; unfold zgV; rw [zcm hv]; rfl
 have HC := Lib.hid (fun w' (h : Lat w w') => by have := zdC A n c l w' (hs.later h) hn; rwa [decide_eq_false (show ¬ ckE l = 0 by rw [zcm hv]; decide)] at this)
 have S16 := Lib.hid zao
 have Z1 := Lib.hid (show ((W8.two W8.zero W8.zero) : Array Value).all (·.oneCell') = true by simp [Value.oneCell'])
 clear hs hv
 go_enter Tryz.func10, Tryz.ntmps10
 go_upto_region 1 with (fail)
 refine zaK (Q := fun W => Code.wp _ _ _ _ W) ?_
 intro W hl hsz k4 k5
 obtain ⟨g5, hg5⟩ : ∃ z, w.heap.size + 1 = z := ⟨_, rfl⟩
 obtain ⟨g4, hg4⟩ : ∃ z, w.heap.size = z := ⟨_, rfl⟩
 have HG : Hid (g4 < g5 ∧ w.heap.size = g4) := by show g4 < g5 ∧ w.heap.size = g4; omega
 rw [hg5] at k5 ⊢
 rw [hg4] at k4 ⊢
 have NE := Lib.hid (show g4 ≠ g5 by omega)
 clear hg5 hg4 hsz
 go_wp2_with fail
 refine (HC.out W hl).mono ?_
 rintro e w1 ⟨rfl, l1⟩
 replace k4 := k4.later l1
 replace k5 := k5.later l1
 have L1 := hl.trans l1
 clear hl l1 HC
 go_wp2_with
  (first
    | (refine zat rfl 40 (.tmp 4) (.tmp 16) (by rfl) (by rfl) g4 (by rfl) (W8.two W8.zero W8.zero) (by rfl) k4 (by rfl) S16.out Z1.out ?_; intro wb hpb; have c4 := hpb.blk; have c5 := hpb.keep k5 (fun e => NE.out e.symm); have Lb := hpb.lat w L1 (by have := HG.out; omega))
    | (refine zat rfl 40 (.tmp 5) (.tmp 17) (by rfl) (by rfl) g5 (by rfl) (W8.two W8.zero W8.zero) (by rfl) c5 (by rfl) S16.out Z1.out ?_; intro wc hpc; have d5 := hpc.blk; have d4 := hpc.keep c4 NE.out; have Lc := hpc.lat w Lb (by have := HG.out; omega)))
 refine bodyPost_ret (v := .tuple #[.agg (W8.two W8.zero W8.zero), .agg (W8.two W8.zero W8.zero), .int .i64 30]) (zcy rfl rfl rfl d4 d5) rfl ?_
 exact za7 HE.out (by decide) Lc
theorem zmI (A : Option Addr) (n c : Nat) (l : List (Int × Int)) (b : Int) (w : World) (hs : RowM w A 2 n (zab l)) (hn : n ≤ 1000000) (hv : ValidR l) (hb : b < 0 ∨ 400 < b) :
  Calls Tryz.prog 10 #[.slice A n c, .int .i64 b] w (zcb w l b) := by
 have HE : Hid (zgV l b = 2) := by show _ = _; unfold zgV; rw [zaG hv, if_pos rfl, if_pos hb]
 have HC := Lib.hid (fun w' (h : Lat w w') => by have := zdC A n c l w' (hs.later h) hn; rwa [decide_eq_true (show ckE l = 0 from zaG hv)] at this)
 have S16 := Lib.hid zao
 have Z1 := Lib.hid (show ((W8.two W8.zero W8.zero) : Array Value).all (·.oneCell') = true by simp [Value.oneCell'])
 clear hs hv
 go_enter Tryz.func10, Tryz.ntmps10
 go_upto_region 1 with (fail)
 refine zaK (Q := fun W => Code.wp _ _ _ _ W) ?_
 intro W hl hsz k4 k5
 obtain ⟨g5, hg5⟩ : ∃ z, w.heap.size + 1 = z := ⟨_, rfl⟩
 obtain ⟨g4, hg4⟩ : ∃ z, w.heap.size = z := ⟨_, rfl⟩
 have HG : Hid (g4 < g5 ∧ w.heap.size = g4) := by show g4 < g5 ∧ w.heap.size = g4; omega
 rw [hg5] at k5 ⊢
 rw [hg4] at k4 ⊢
 have NE := Lib.hid (show g4 ≠ g5 by omega)
 clear hg5 hg4 hsz
 go_wp2_with fail
 refine (HC.out W hl).mono ?_
 rintro e w1 ⟨rfl, l1⟩
 replace k4 := k4.later l1
 replace k5 := k5.later l1
 have L1 := hl.trans l1
 clear hl l1 HC
 by_cases hb0 : b < 0
 ·clear hb
  go_wp2_with
   (first
     | (refine zat rfl 40 (.tmp 4) (.tmp 24) (by rfl) (by rfl) g4 (by rfl) (W8.two W8.zero W8.zero) (by rfl) k4 (by rfl) S16.out Z1.out ?_; intro wb hpb; have c4 := hpb.blk; have c5 := hpb.keep k5 (fun e => NE.out e.symm); have Lb := hpb.lat w L1 (by have := HG.out; omega))
     | (refine zat rfl 40 (.tmp 5) (.tmp 25) (by rfl) (by rfl) g5 (by rfl) (W8.two W8.zero W8.zero) (by rfl) c5 (by rfl) S16.out Z1.out ?_; intro wc hpc; have d5 := hpc.blk; have d4 := hpc.keep c4 NE.out; have Lc := hpc.lat w Lb (by have := HG.out; omega)))
  refine bodyPost_ret (v := .tuple #[.agg (W8.two W8.zero W8.zero), .agg (W8.two W8.zero W8.zero), .int .i64 2]) (zcy rfl rfl rfl d4 d5) rfl ?_
  exact za7 HE.out (by decide) Lc
 ·have hb1 : (400 : Int) < b := by omega
  clear hb
  go_wp2_with
   (first
     | (refine zat rfl 40 (.tmp 4) (.tmp 24) (by rfl) (by rfl) g4 (by rfl) (W8.two W8.zero W8.zero) (by rfl) k4 (by rfl) S16.out Z1.out ?_; intro wb hpb; have c4 := hpb.blk; have c5 := hpb.keep k5 (fun e => NE.out e.symm); have Lb := hpb.lat w L1 (by have := HG.out; omega))
     | (refine zat rfl 40 (.tmp 5) (.tmp 25) (by rfl) (by rfl) g5 (by rfl) (W8.two W8.zero W8.zero) (by rfl) c5 (by rfl) S16.out Z1.out ?_; intro wc hpc; have d5 := hpc.blk; have d4 := hpc.keep c4 NE.out; have Lc := hpc.lat w Lb (by have := HG.out; omega)))
  refine bodyPost_ret (v := .tuple #[.agg (W8.two W8.zero W8.zero), .agg (W8.two W8.zero W8.zero), .int .i64 2]) (zcy rfl rfl rfl d4 d5) rfl ?_
  exact za7 HE.out (by decide) Lc
theorem zn0 (A : Option Addr) (n c : Nat) (l : List (Int × Int)) (k : Nat) (w : World) (hs : RowM w A 2 n (zab l)) (hv : ValidR l) (hk : k ≤ 400) :
  Calls Tryz.prog 10 #[.slice A n c, .int .i64 (k : Nat)] w (zcb w l (k : Nat)) := by
 have hn : n ≤ 1000 := by have := zbA hs; have := hv.len; omega
 have hval : ∀ x ∈ l, (-9223372036854775808 ≤ x.1 ∧ x.1 < 9223372036854775808) ∧ 0 ≤ x.2 ∧ x.2 < 9223372036854775808 := fun x hx => by
  obtain ⟨h1, h2, h3, h4, h5⟩ := hv.term x hx
  unfold zbo at h4
  omega
 have hv0 : ∀ x ∈ l, x.1 ≠ 0 := fun x hx => by
  obtain ⟨h1, h2, h3, h4, h5⟩ := hv.term x hx
  first | exact h3 | exact h4 | exact h5 | exact h1 | exact h2
 have HE : Hid (zgV l (k : Nat) = 0) := by show _ = _; unfold zgV; rw [zaG hv, if_pos rfl, if_neg (by omega)]
 have HC := Lib.hid (fun w' (h : Lat w w') => by have := zdC A n c l w' (hs.later h) (by omega); rwa [decide_eq_true (show ckE l = 0 from zaG hv)] at this)
 have HEN := Lib.hid (fun w' (h : Lat w w') => zlv A n c l k w' (hs.later h) hval hv0 hn (by omega))
 have S16 := Lib.hid zao
 have Z1 := Lib.hid (show ((W8.two W8.zero W8.zero) : Array Value).all (·.oneCell') = true by simp [Value.oneCell'])
 obtain ⟨b, hb⟩ : ∃ b : Int, (k : Int) = b := ⟨_, rfl⟩
 have hk1 : ¬ b < 0 := by omega
 have hk2 : ¬ (400 : Int) < b := by omega
 rw [hb] at HEN HE ⊢
 have HB := Lib.hid (show b.toNat = k by omega)
 clear hs hv hval hv0 hn hk hb
 go_enter Tryz.func10, Tryz.ntmps10
 go_upto_region 1 with (fail)
 refine zaK (Q := fun W => Code.wp _ _ _ _ W) ?_
 intro W hl hsz k4 k5
 obtain ⟨g5, hg5⟩ : ∃ z, w.heap.size + 1 = z := ⟨_, rfl⟩
 obtain ⟨g4, hg4⟩ : ∃ z, w.heap.size = z := ⟨_, rfl⟩
 have HG : Hid (g4 < g5 ∧ w.heap.size = g4) := by show g4 < g5 ∧ w.heap.size = g4; omega
 rw [hg5] at k5 ⊢
 rw [hg4] at k4 ⊢
 have NE := Lib.hid (show g4 ≠ g5 by omega)
 clear hg5 hg4 hsz
 go_wp2_with fail
 refine (HC.out W hl).mono ?_
 rintro e w1 ⟨rfl, l1⟩
 replace k4 := k4.later l1
 replace k5 := k5.later l1
 have L1 := hl.trans l1
 clear hl l1 HC
 go_wp2_with fail
 refine (HEN.out w1 L1).mono ?_
 rintro e w2 ⟨b, A, n, c, b', A', n', c', d, D, m, C, d', D', m', C', rfl, ⟨r1, m1, r2, m2⟩, ⟨r3, m3, r4, m4⟩, l2⟩
 replace k4 := k4.later l2
 replace k5 := k5.later l2
 replace L1 := L1.trans l2
 clear l2 HEN hk1 hk2
 go_upto_region 6 with (fail)
 refine zaK (Q := fun W => Code.wp _ _ _ _ W) ?_
 intro w3 la hsx k7 k8
 obtain ⟨g8, hg8⟩ : ∃ z, w2.heap.size + 1 = z := ⟨_, rfl⟩
 obtain ⟨g7, hg7⟩ : ∃ z, w2.heap.size = z := ⟨_, rfl⟩
 have HG7 : Hid (g5 < g7 ∧ g7 < g8) := by have := k5.lt; show g5 < g7 ∧ g7 < g8; omega
 rw [hg8] at k8 ⊢
 rw [hg7] at k7 ⊢
 replace k4 := k4.later la
 replace k5 := k5.later la
 replace L1 := L1.trans la
 have HO1 := Lib.hid (fun w' (q : Lat w3 w') => zgD b A n c (zaT (sLo l k) (2 ^ k)) b' A' n' c' (zaU (sLo l k) (2 ^ k)) w' ((r1.later la).later q) ((r2.later la).later q) (by omega) (by omega))
 have HO2 := Lib.hid (fun w' (q : Lat w3 w') => zgD d D m C (zaT (sHi l k) (2 ^ k)) d' D' m' C' (zaU (sHi l k) (2 ^ k)) w' ((r3.later la).later q) ((r4.later la).later q) (by omega) (by omega))
 clear la hsx hg8 hg7 r1 r2 r3 r4 m1 m2 m3 m4
 have e0 := k7.cell 0
 have e1 := k7.cell 1
 have e2 := k7.cell 2
 have e3 := k7.cell 3
 go_wp2_with fail
 refine (HO1.out w3 (Lat.refl _)).mono ?_
 rintro e w4 ⟨u1, v1, q1, rfl, hI1, la⟩
 replace k4 := k4.later la
 replace k5 := k5.later la
 replace k8 := k8.later la
 replace L1 := L1.trans la
 have l3 := la
 have IS1 := Lib.hid hI1
 clear la e0 e1 e2 e3 k7 HO1 hI1
 go_upto_region 7 with (fail)
 refine zas (Q := fun W => Code.wp _ _ _ _ W) ?_
 intro w5 la hsx k9
 obtain ⟨g9, hg9⟩ : ∃ z, w4.heap.size = z := ⟨_, rfl⟩
 have HG9 : Hid (g8 < g9) := by have := k8.lt; show g8 < g9; omega
 rw [hg9] at k9 ⊢
 replace k4 := k4.later la
 replace k5 := k5.later la
 replace k8 := k8.later la
 replace L1 := L1.trans la
 replace l3 := l3.trans la
 clear la hsx hg9
 have e0 := k8.cell 0
 have e1 := k8.cell 1
 have e2 := k8.cell 2
 have e3 := k8.cell 3
 go_wp2_with fail
 refine (HO2.out w5 l3).mono ?_
 rintro e w6 ⟨u2, v2, q2, rfl, hI2, la⟩
 replace k4 := k4.later la
 replace k5 := k5.later la
 replace k9 := k9.later la
 replace L1 := L1.trans la
 have IS2 := Lib.hid hI2
 have HG8 : Hid (g9 < w6.heap.size) := k9.lt
 clear la e0 e1 e2 e3 k8 HO2 hI2 l3
 go_upto_region 8 with (fail)
 refine zas (Q := fun W => Code.wp _ _ _ _ W) ?_
 intro X7 la hsx k11
 obtain ⟨g11, hg11⟩ : ∃ z, w6.heap.size = z := ⟨_, rfl⟩
 rw [hg11] at HG8
 rw [hg11] at k11 ⊢
 replace k4 := k4.later la
 replace k5 := k5.later la
 replace k9 := k9.later la
 replace L1 := L1.trans la
 clear la hsx hg11
 have hr1 : q1 = 0 ∨ q1 = 6 := by rcases IS1.out with h | h; exact .inl h.2.2.2.2.2.2; exact .inr h.2.2.2
 have hr2 : q2 = 0 ∨ q2 = 6 := by rcases IS2.out with h | h; exact .inl h.2.2.2.2.2.2; exact .inr h.2.2.2
 rcases hr1 with rfl | rfl
 ·rcases hr2 with rfl | rfl
  ·go_upto_region 10 with (fail)
   have HOK : Hid (zhf Tryz.prog w g4 g5 g9 g11 40 (W8.two u1 v1) (W8.two u2 v2)) := by
    have a := HG.out; have b := HG7.out; have c := HG9.out; have d := HG8.out
    exact ⟨by omega, by omega, by omega, by omega, by omega, by omega, by omega, ⟨_, Tryz.underlying40, rfl⟩, zao, zao, by simp [Value.oneCell'], by simp [Value.oneCell']⟩
   rename_i KN hKN
   refine za3 (zeP g4 g5 g9 g11 (W8.two u1 v1) (W8.two u2 v2)) (zhg g4 g5 g9 g11 (W8.two u1 v1) (W8.two u2 v2)) 52 5 [[], [], [0, 0], [1, 2, 0, 1, 2], [3, 0, 1, 2, 3]] (CopyG _ _ _ _ _ _ _ _ 2 3) (by kernel_rfl) (by kernel_rfl) (by kernel_rfl) (by kernel_rfl) (by kernel_rfl) (by kernel_rfl) (by rfl) rfl (base_of (by repeat (first | exact base_nil _ | refine zad rfl ?_))) ⟨⟨k9.later (Lat.drew _), k11.later (Lat.drew _)⟩, ⟨_, k4.later (Lat.drew _), rfl, fun h => by rw [Nat.zero_testBit] at h; cases h⟩, ⟨_, k5.later (Lat.drew _), rfl, fun h => by rw [Nat.zero_testBit] at h; cases h⟩, L1.trans (Lat.drew _)⟩ (zjM w g4 g5 g9 g11 (W8.two u1 v1) (W8.two u2 v2) HOK.out) ?_
   intro m9 a9 W9 hall9 hsz9 hdf9 hG9 hbs hsl
   obtain ⟨v9, h9, q9⟩ := hsl 4 _ _ rfl rfl
   obtain rfl := q9
   have w6 := zaa h9
   clear h9
   refine hKN _ _ ?_
   obtain ⟨⟨j4, j5⟩, l9⟩ := hG9.all (hall9 2 (by decide)) (hall9 3 (by decide))
   obtain ⟨T9, df9⟩ := a9
   obtain rfl : df9 = [] := hdf9
   obtain ⟨f, hf, rfl⟩ := znZ T9 hsz9
   have X9 := fun k v h => (hf k).trans (zaa (hbs k v h))
   have x6 := (hf 6).trans w6
   clear hbs hsl hf hsz9 hKN w6
   simp only [X9 4 _ rfl, X9 5 _ rfl, X9 9 _ rfl, X9 11 _ rfl, x6]
   clear X9 x6
   have J4 := Lib.hid j4
   have J5 := Lib.hid j5
   have HL := Lib.hid l9
   clear j4 j5 l9 k4 k5 k9 k11 HOK L1 hG9 hall9
   go_wp2
   refine bodyPost_ret (v := .tuple #[.agg (W8.two u1 v1), .agg (W8.two u2 v2), .int .i64 0]) (zcy rfl rfl rfl J4.out J5.out) rfl ?_
   exact ⟨u1, v1, u2, v2, 0, rfl, .inr ⟨HE.out, .inl ⟨rfl, by rw [HB.out]; exact IS1.out, by rw [HB.out]; exact IS2.out⟩⟩, HL.out⟩
  ·skip
   go_wp2_with
    (first
      | (refine zat rfl 40 (.tmp 4) (.tmp 48) (by rfl) (by rfl) g4 (by rfl) (W8.two W8.zero W8.zero) (by rfl) k4 (by rfl) S16.out Z1.out ?_; intro wb hpb; have c4 := hpb.blk; have c5 := hpb.keep k5 (fun e => NE.out e.symm); have Lb := hpb.lat w L1 (by have := HG.out; omega))
      | (refine zat rfl 40 (.tmp 5) (.tmp 49) (by rfl) (by rfl) g5 (by rfl) (W8.two W8.zero W8.zero) (by rfl) c5 (by rfl) S16.out Z1.out ?_; intro wc hpc; have d5 := hpc.blk; have d4 := hpc.keep c4 NE.out; have Lc := hpc.lat w Lb (by have := HG.out; omega)))
   refine bodyPost_ret (v := .tuple #[.agg (W8.two W8.zero W8.zero), .agg (W8.two W8.zero W8.zero), .int .i64 6]) (zcy rfl rfl rfl d4 d5) rfl ?_
   exact ⟨W8.zero, W8.zero, W8.zero, W8.zero, 6, rfl, .inr ⟨HE.out, .inr ⟨rfl, rfl, rfl, rfl, rfl, by rw [HB.out]; exact .inr ⟨_, _, IS2.out⟩⟩⟩, Lc⟩
 ·clear hr2
  go_wp2_with
   (first
     | (refine zat rfl 40 (.tmp 4) (.tmp 48) (by rfl) (by rfl) g4 (by rfl) (W8.two W8.zero W8.zero) (by rfl) k4 (by rfl) S16.out Z1.out ?_; intro wb hpb; have c4 := hpb.blk; have c5 := hpb.keep k5 (fun e => NE.out e.symm); have Lb := hpb.lat w L1 (by have := HG.out; omega))
     | (refine zat rfl 40 (.tmp 5) (.tmp 49) (by rfl) (by rfl) g5 (by rfl) (W8.two W8.zero W8.zero) (by rfl) c5 (by rfl) S16.out Z1.out ?_; intro wc hpc; have d5 := hpc.blk; have d4 := hpc.keep c4 NE.out; have Lc := hpc.lat w Lb (by have := HG.out; omega)))
  refine bodyPost_ret (v := .tuple #[.agg (W8.two W8.zero W8.zero), .agg (W8.two W8.zero W8.zero), .int .i64 6]) (zcy rfl rfl rfl d4 d5) rfl ?_
  exact ⟨W8.zero, W8.zero, W8.zero, W8.zero, 6, rfl, .inr ⟨HE.out, .inr ⟨rfl, rfl, rfl, rfl, rfl, by rw [HB.out]; exact .inl ⟨_, _, IS1.out⟩⟩⟩, Lc⟩
theorem zmJ (A : Option Addr) (n c : Nat) (l : List (Int × Int)) (b : Int) (w : World) (hs : RowM w A 2 n (zab l)) (hn : n ≤ 1000000) :
  Calls Tryz.prog 10 #[.slice A n c, .int .i64 b] w (zcb w l b) := by
 by_cases hv : ValidR l
 ·by_cases hb : b < 0 ∨ 400 < b
  ·exact zmI A n c l b w hs hn hv hb
  ·obtain ⟨k, rfl⟩ := Int.eq_ofNat_of_zero_le (show 0 ≤ b by omega)
   exact zn0 A n c l k w hs hv (by omega)
 ·exact zmH A n c l b w hs hn hv
theorem zfv {u v : W8} (h1 : u.ok) (h2 : v.ok) (w : World) : (binOp .neq 40 (.agg (W8.two u v)) (.agg (W8.two u v))).run Tryz.prog w = .ok (.bool false) w := by
 obtain ⟨r, hr, hi⟩ := run_equalIn_deep (P := Tryz.prog) 9990 10 40 (by kernel_rfl) w 10 10 (.agg (W8.two u v)) (.agg (W8.two u v)) _ _ (by kernel_rfl) (by kernel_rfl) (zmp h1 h2 7) (zmp h1 h2 7)
 have e : r = true := hi.2 rfl
 rw [run_neq_struct, hr, e]
 rfl
theorem ShareIs.oks {N D : Int} {u v : W8} {r : Int} (h : ShareIs N D u v r) : u.ok ∧ v.ok := by
 rcases h with ⟨_, _, _, _, rfl, rfl, _⟩ | ⟨_, rfl, rfl, _⟩
 ·exact ⟨W8.of_ok _, W8.of_ok _⟩
 ·exact ⟨W8.zero_ok, W8.zero_ok⟩
theorem EncIs.oks {l : List (Int × Int)} {b : Int} {u1 v1 u2 v2 : W8} {r : Int} (h : EncIs l b u1 v1 u2 v2 r) : u1.ok ∧ v1.ok ∧ u2.ok ∧ v2.ok := by
 rcases h with ⟨_, _, rfl, rfl, rfl, rfl⟩ | ⟨_, ⟨_, h1, h2⟩ | ⟨_, rfl, rfl, rfl, rfl, _⟩⟩
 ·exact ⟨W8.zero_ok, W8.zero_ok, W8.zero_ok, W8.zero_ok⟩
 ·exact ⟨h1.oks.1, h1.oks.2, h2.oks.1, h2.oks.2⟩
 ·exact ⟨W8.zero_ok, W8.zero_ok, W8.zero_ok, W8.zero_ok⟩
theorem zjN {V : World} {B1 : Option Addr} {N1 f1 : Nat} {L1 : List (Int × Int)} {B2 : Option Addr} {N2 f2 : Nat} {L2 : List (Int × Int)} {B3 : Option Addr} {N3 f3 : Nat} {L3 : List (Int × Int)} (h1 : RowM V B1 2 N1 (zab L1)) (h2 : RowM V B2 2 N2 (zab L2)) (h3 : RowM V B3 2 N3 (zab L3)) (b1 : N1 ≤ 1000000) (b2 : N2 ≤ 1000000) (b3 : N3 ≤ 1000000) :
  ∀ k : Nat, k < 3 → ∃ (Ba : Option Addr) (Na fa : Nat) (La : List (Int × Int)), RowM V Ba 2 Na (zab La) ∧ Na ≤ 1000000 ∧ ∀ w, (Instr.index 33 (.agg #[.slice B1 N1 f1, .slice B2 N2 f2, .slice B3 N3 f3]) (.int .i64 (k : Nat))).run Tryz.prog w = .ok (.slice Ba Na fa) w := by
 intro k hk
 rcases (show k = 0 ∨ k = 1 ∨ k = 2 by omega) with rfl | rfl | rfl
 ·exact ⟨B1, N1, f1, L1, h1, b1, fun w => by unfold Instr.index; go_simp⟩
 ·exact ⟨B2, N2, f2, L2, h2, b2, fun w => by unfold Instr.index; go_simp⟩
 ·exact ⟨B3, N3, f3, L3, h3, b3, fun w => by unfold Instr.index; go_simp⟩
theorem zmK (x y : Int) : ∀ k : Nat, k < 2 → ∃ v : Int, ∀ w, (Instr.index 35 (.agg #[.int .i64 x, .int .i64 y]) (.int .i64 (k : Nat))).run Tryz.prog w = .ok (.int .i64 v) w := by
 intro k hk
 rcases (show k = 0 ∨ k = 1 by omega) with rfl | rfl
 ·exact ⟨x, fun w => by unfold Instr.index; go_simp⟩
 ·exact ⟨y, fun w => by unfold Instr.index; go_simp⟩
theorem zlA (k : Nat) (h : k < 1000000) : wrap64 ((k : Int) + 1) = ((k + 1 : Nat) : Int) ∧ IntKind.i64.wrap ((k : Int) + 1) = ((k + 1 : Nat) : Int) := by
 have a : wrap64 ((k : Int) + 1) = ((k + 1 : Nat) : Int) := by rw [IntWalk.wrap64_in _ (by omega)]; omega
 exact ⟨a, by rw [IntWalk.i64_left]; exact a⟩
theorem zjO (l : List (Int × Int)) : (zdq l).length ≤ 200 := by
 unfold zdq
 split
 ·rename_i h; exact (zde h).2.2.2
 ·exact Nat.zero_le _
theorem zjP (z : Int) : ∃ c r : Int, IntKind.u64.wrap z = c ∧ c.tmod 70 = r ∧ IntKind.u64.wrap r = r ∧ wrap64 r = r ∧ IntKind.i64.wrap r = r := by
 have h : 0 ≤ IntKind.u64.wrap z := by
  have : IntKind.u64.wrap z = z % 18446744073709551616 := by simp [IntKind.wrap, IntKind.bits, IntKind.signed]
  omega
 have hr : 0 ≤ (IntKind.u64.wrap z).tmod 70 ∧ (IntKind.u64.wrap z).tmod 70 < 70 := by rw [Int.tmod_eq_emod_of_nonneg h]; omega
 refine ⟨_, _, rfl, rfl, ?_, IntWalk.wrap64_in _ (by omega), ?_⟩
 ·generalize (IntKind.u64.wrap z).tmod 70 = r at hr
  have : IntKind.u64.wrap r = r % 18446744073709551616 := by simp [IntKind.wrap, IntKind.bits, IntKind.signed]
  omega
 ·rw [IntWalk.i64_left]; exact IntWalk.wrap64_in _ (by omega)
theorem zlB (T : Array Value) (h : T.size = 74) : ∃ f : Nat → Value, (∀ k, f k = T.getD k undef) ∧ T = #[f 0, f 1, f 2, f 3, f 4, f 5, f 6, f 7, f 8, f 9, f 10, f 11, f 12, f 13, f 14, f 15, f 16, f 17, f 18, f 19, f 20, f 21, f 22, f 23, f 24, f 25, f 26, f 27, f 28, f 29, f 30, f 31, f 32, f 33, f 34, f 35, f 36, f 37, f 38, f 39, f 40, f 41, f 42, f 43, f 44, f 45, f 46, f 47, f 48, f 49, f 50, f 51, f 52, f 53, f 54, f 55, f 56, f 57, f 58, f 59, f 60, f 61, f 62, f 63, f 64, f 65, f 66, f 67, f 68, f 69, f 70, f 71, f 72, f 73] := ⟨fun k => T.getD k undef, fun _ => rfl, (spell 74 T h).trans (by kernel_rfl)⟩
def TripV (N1 : Nat) (L1 : List (Int × Int)) (N2 : Nat) (L2 : List (Int × Int)) (N3 : Nat) (L3 : List (Int × Int)) (v : Value) (w : World) : Prop := ∃ (B1 : Option Addr) (f1 : Nat) (B2 : Option Addr) (f2 : Nat) (B3 : Option Addr) (f3 : Nat), v = .agg #[.slice B1 N1 f1, .slice B2 N2 f2, .slice B3 N3 f3] ∧ RowM w B1 2 N1 (zab L1) ∧ RowM w B2 2 N2 (zab L2) ∧ RowM w B3 2 N3 (zab L3)
theorem TripV.mono {N1 : Nat} {L1 : List (Int × Int)} {N2 : Nat} {L2 : List (Int × Int)} {N3 : Nat} {L3 : List (Int × Int)} {v : Value} {w w' : World} (h : TripV N1 L1 N2 L2 N3 L3 v w) (hl : Lat w w') : TripV N1 L1 N2 L2 N3 L3 v w' := by obtain ⟨B1, f1, B2, f2, B3, f3, e, r1, r2, r3⟩ := h; exact ⟨B1, f1, B2, f2, B3, f3, e, r1.later hl, r2.later hl, r3.later hl⟩
noncomputable def zgj (A : Option Addr) (n c : Nat) (A1 : Option Addr) (nb cb : Nat) (AM : Option Addr) (nM cM g4 N4 : Nat) (LA : List (Int × Int)) (nR : Nat) (RL ML : List (Int × Int)) (bb : Int) : List SRow := [
 ⟨.move (.tmp 0), some 27, none, [], fun v _ => v = .slice A n c⟩,
 ⟨.call { callee := .value (.func 7), args := #[.tmp 27, .const (.bool false)], argTypes := #[22, 4] }, some 28, none, [0], RadV N4 LA⟩,
 ⟨.load 25 (.tmp 4), some 29, none, [], fun v _ => v = .agg #[.slice A1 nb cb]⟩,
 ⟨.call { callee := .value (.func 8), args := #[.tmp 29], argTypes := #[25] }, some 30, none, [2, 1], RadV nR RL⟩,
 ⟨.move (.tmp 7), some 31, none, [], fun v _ => v = .slice AM nM cM⟩,
 ⟨.build 33 #[(0, .tmp 28), (1, .tmp 30), (2, .tmp 31)], some 32, none, [1, 3, 4], TripV N4 LA nR RL nM ML⟩,
 ⟨.move (.const (.int .i64 0)), some 33, none, [], fun v _ => v = .int .i64 0⟩]
noncomputable def ziS (A : Option Addr) (n c : Nat) (A1 : Option Addr) (nb cb : Nat) (AM : Option Addr) (nM cM g4 N4 : Nat) (LA : List (Int × Int)) (nR : Nat) (RL ML : List (Int × Int)) (bb : Int) : List (Nat × Value) := [(0, .slice A n c), (2, .int .i64 bb), (4, .pointer (some ⟨g4, 0, none⟩)), (7, .slice AM nM cM)]
theorem zlC (V : World) (A : Option Addr) (n c : Nat) (A1 : Option Addr) (nb cb : Nat) (AM : Option Addr) (nM cM g4 N4 : Nat) (LA : List (Int × Int)) (nR : Nat) (RL ML : List (Int × Int)) (bb : Int) (HO : ∀ w, Lat V w → Calls Tryz.prog 7 #[.slice A n c, .bool false] w (zg7 w (RadV N4 LA))) (HD1 : ∀ w, Lat V w → Calls Tryz.prog 8 #[.agg #[.slice A1 nb cb]] w (zg7 w (RadV nR RL))) (HM : RowM V AM 2 nM (zab ML)) (HC4 : ∀ w', Lat V w' → w'.cell? ⟨g4, 0, none⟩ = some (.slice A1 nb cb)) :
  AllStepsN Tryz.prog (zgj A n c A1 nb cb AM nM cM g4 N4 LA nR RL ML bb) (ziS A n c A1 nb cb AM nM cM g4 N4 LA nR RL ML bb) V (zgj A n c A1 nb cb AM nM cM g4 N4 LA nR RL ML bb) := by
 refine nG ?_ fun a w hl hb hd o ho => by have e1 := hb 0 _ rfl; exact rp1 o ho e1 fun ev ec e1 d ty p af g => by unfold execOp; simp only [e1, ec]; go_simp
 refine nG ?_ fun a w hl hb hd o ho => by obtain ⟨_, e1, rfl⟩ := hd 0 _ _ (by simp) rfl rfl; exact rcO o ho (HO w hl)
 refine nG ?_ fun a w hl hb hd o ho => by have e1 := hb 4 _ rfl; exact rp1 o ho e1 fun ev ec e1 d ty p af g => by unfold execOp; simp only [e1, ec]; have hc := HC4 w hl; go_simp
 refine nG ?_ fun a w hl hb hd o ho => by obtain ⟨_, e1, rfl⟩ := hd 2 _ _ (by simp) rfl rfl; exact rcO o ho (HD1 w hl)
 refine nG ?_ fun a w hl hb hd o ho => by have e1 := hb 7 _ rfl; exact rp1 o ho e1 fun ev ec e1 d ty p af g => by unfold execOp; simp only [e1, ec]; go_simp
 refine nG ?_ fun a w hl hb hd o ho => by obtain ⟨_, e1, B1, f1, rfl, r1⟩ := hd 1 _ _ (by simp) rfl rfl; obtain ⟨_, e2, B2, f2, rfl, r2⟩ := hd 3 _ _ (by simp) rfl rfl; obtain ⟨_, e3, rfl⟩ := hd 4 _ _ (by simp) rfl rfl; obtain ⟨d, op, ty, p, af, gg⟩ := o; simp only at ho; subst ho; have ec : ∀ v, a.eval (.const v) = v := fun _ => rfl; exact Runs.val (by unfold execOp; generalize a.eval = ev at e1 e2 e3 ec ⊢; simp only [e1, e2, e3]; go_simp) ⟨Lat.refl _, fun _ => ⟨B1, f1, B2, f2, AM, cM, rfl, r1, r2, (HM.later hl)⟩⟩
 refine nG ?_ fun a w hl hb hd o ho => by exact rp0 o ho fun ev ec d ty p af g => by unfold execOp; simp only [ec]; go_simp
 exact AllStepsN.none
noncomputable def zeQ (g13 g14 g16 g17 : Nat) (p1 q1 p2 q2 : W8) (rr' : Int) : List SRow := [
 ⟨.load 40 (.tmp 13), some 59, none, [], fun v _ => v = .agg (W8.two p1 q1)⟩,
 ⟨.load 40 (.tmp 16), some 60, none, [], fun v _ => v = .agg (W8.two p1 q1)⟩,
 ⟨.binOp .neq 40 (.tmp 59) (.tmp 60) 40, some 61, none, [0, 1], fun v _ => v = .bool false⟩,
 ⟨.move (.tmp 61), some 62, none, [2], fun v _ => v = .bool false⟩,
 ⟨.load 40 (.tmp 14), some 63, some (3, false), [3], fun v _ => v = .agg (W8.two p2 q2)⟩,
 ⟨.load 40 (.tmp 17), some 64, some (3, false), [3], fun v _ => v = .agg (W8.two p2 q2)⟩,
 ⟨.binOp .neq 40 (.tmp 63) (.tmp 64) 40, some 65, some (3, false), [4, 5, 3], fun v _ => v = .bool false⟩,
 ⟨.pick (.tmp 62) (.const (.bool true)) (.tmp 65), some 66, none, [3, 6], fun v _ => v = .bool false⟩,
 ⟨.move (.tmp 66), some 67, none, [7, 3], fun v _ => v = .bool false⟩,
 ⟨.move (.tmp 15), some 68, some (8, false), [8], fun v _ => v = .int .i64 rr'⟩,
 ⟨.move (.tmp 18), some 69, some (8, false), [8], fun v _ => v = .int .i64 rr'⟩,
 ⟨.binOp .neq 28 (.tmp 68) (.tmp 69) 28, some 70, some (8, false), [9, 10, 8], fun v _ => v = .bool false⟩,
 ⟨.pick (.tmp 67) (.const (.bool true)) (.tmp 70), some 71, none, [8, 11], fun v _ => v = .bool false⟩]
noncomputable def zhh (g13 g14 g16 g17 : Nat) (p1 q1 p2 q2 : W8) (rr' : Int) (v0 v1 v2 v3 v4 v5 v6 v7 v8 v9 v10 v11 v12 v19 v20 v21 v22 v23 v24 v25 v26 v27 v28 v29 v30 v31 v32 v33 v34 v35 v36 v37 v38 v39 v40 v41 v42 v73 : Value) : List (Nat × Value) := [(13, .pointer (some ⟨g13, 0, none⟩)), (14, .pointer (some ⟨g14, 0, none⟩)), (16, .pointer (some ⟨g16, 0, none⟩)), (17, .pointer (some ⟨g17, 0, none⟩)), (15, .int .i64 rr'), (18, .int .i64 rr'), (0, v0), (1, v1), (2, v2), (3, v3), (4, v4), (5, v5), (6, v6), (7, v7), (8, v8), (9, v9), (10, v10), (11, v11), (12, v12), (19, v19), (20, v20), (21, v21), (22, v22), (23, v23), (24, v24), (25, v25), (26, v26), (27, v27), (28, v28), (29, v29), (30, v30), (31, v31), (32, v32), (33, v33), (34, v34), (35, v35), (36, v36), (37, v37), (38, v38), (39, v39), (40, v40), (41, v41), (42, v42), (73, v73)]
theorem zjQ (V : World) (g13 g14 g16 g17 : Nat) (p1 q1 p2 q2 : W8) (rr' : Int) (v0 v1 v2 v3 v4 v5 v6 v7 v8 v9 v10 v11 v12 v19 v20 v21 v22 v23 v24 v25 v26 v27 v28 v29 v30 v31 v32 v33 v34 v35 v36 v37 v38 v39 v40 v41 v42 v73 : Value) (R13 : ∀ w', Lat V w' → w'.rangeAt g13 0 [p1.b0, p1.b1, p1.b2, p1.b3, p1.b4, p1.b5, p1.b6, p1.b7, q1.b0, q1.b1, q1.b2, q1.b3, q1.b4, q1.b5, q1.b6, q1.b7]) (R16 : ∀ w', Lat V w' → w'.rangeAt g16 0 [p1.b0, p1.b1, p1.b2, p1.b3, p1.b4, p1.b5, p1.b6, p1.b7, q1.b0, q1.b1, q1.b2, q1.b3, q1.b4, q1.b5, q1.b6, q1.b7]) (R14 : ∀ w', Lat V w' → w'.rangeAt g14 0 [p2.b0, p2.b1, p2.b2, p2.b3, p2.b4, p2.b5, p2.b6, p2.b7, q2.b0, q2.b1, q2.b2, q2.b3, q2.b4, q2.b5, q2.b6, q2.b7]) (R17 : ∀ w', Lat V w' → w'.rangeAt g17 0 [p2.b0, p2.b1, p2.b2, p2.b3, p2.b4, p2.b5, p2.b6, p2.b7, q2.b0, q2.b1, q2.b2, q2.b3, q2.b4, q2.b5, q2.b6, q2.b7]) (J16 : (Tryz.prog.info? 40).map (·.size) = some 16)
  (HGD : Tryz.prog.eqGuardType Tryz.prog.depth 40 = false) (HE1 : ∀ w, (binOp .neq 40 (.agg (W8.two p1 q1)) (.agg (W8.two p1 q1))).run Tryz.prog w = .ok (.bool false) w) (HE2 : ∀ w, (binOp .neq 40 (.agg (W8.two p2 q2)) (.agg (W8.two p2 q2))).run Tryz.prog w = .ok (.bool false) w) :
  AllStepsN Tryz.prog (zeQ g13 g14 g16 g17 p1 q1 p2 q2 rr') (zhh g13 g14 g16 g17 p1 q1 p2 q2 rr' v0 v1 v2 v3 v4 v5 v6 v7 v8 v9 v10 v11 v12 v19 v20 v21 v22 v23 v24 v25 v26 v27 v28 v29 v30 v31 v32 v33 v34 v35 v36 v37 v38 v39 v40 v41 v42 v73) V (zeQ g13 g14 g16 g17 p1 q1 p2 q2 rr') := by
 refine nG ?_ fun a w hl hb hd o ho => by have e1 := hb 13 _ rfl; exact Runs.val (zah (S := Lat V) e1 R13 Tryz.underlying40 rfl J16 o w ho hl) ⟨Lat.refl _, fun _ => rfl⟩
 refine nG ?_ fun a w hl hb hd o ho => by have e1 := hb 16 _ rfl; exact Runs.val (zah (S := Lat V) e1 R16 Tryz.underlying40 rfl J16 o w ho hl) ⟨Lat.refl _, fun _ => rfl⟩
 refine nG ?_ fun a w hl hb hd o ho => by obtain ⟨v1, e1, q1⟩ := hd 0 _ _ (by simp) rfl rfl; obtain ⟨v2, e2, q2⟩ := hd 1 _ _ (by simp) rfl rfl; subst q1; subst q2; exact Runs.val (zh4 (S := fun _ => True) e1 e2 HGD HE1 o w ho trivial) ⟨Lat.refl _, fun _ => rfl⟩
 refine n1 ?_ (ed 2) (fun ev w hl ec e1 d ty p af g => ?_)
 refine nG ?_ fun a w hl hb hd o ho => by have e1 := hb 14 _ rfl; exact Runs.val (zah (S := Lat V) e1 R14 Tryz.underlying40 rfl J16 o w ho hl) ⟨Lat.refl _, fun _ => rfl⟩
 refine nG ?_ fun a w hl hb hd o ho => by have e1 := hb 17 _ rfl; exact Runs.val (zah (S := Lat V) e1 R17 Tryz.underlying40 rfl J16 o w ho hl) ⟨Lat.refl _, fun _ => rfl⟩
 refine nG ?_ fun a w hl hb hd o ho => by obtain ⟨v1, e1, q1⟩ := hd 4 _ _ (by simp) rfl rfl; obtain ⟨v2, e2, q2⟩ := hd 5 _ _ (by simp) rfl rfl; subst q1; subst q2; exact Runs.val (zh4 (S := fun _ => True) e1 e2 HGD HE2 o w ho trivial) ⟨Lat.refl _, fun _ => rfl⟩
 refine n2 ?_ (ed 3) (ed 6) (fun ev w hl ec e1 e2 d ty p af g => ?_)
 refine n1 ?_ (ed 7) (fun ev w hl ec e1 d ty p af g => ?_)
 refine n1 ?_ (eb 15) (fun ev w hl ec e1 d ty p af g => ?_)
 refine n1 ?_ (eb 18) (fun ev w hl ec e1 d ty p af g => ?_)
 refine n2 ?_ (ed 9) (ed 10) (fun ev w hl ec e1 e2 d ty p af g => ?_)
 refine n2 ?_ (ed 8) (ed 11) (fun ev w hl ec e1 e2 d ty p af g => ?_)
 ·exact AllStepsN.none
 all_goals (unfold execOp; first | simp only [e1, e2, ec] | simp only [e1, ec] | simp only [ec])
 all_goals go_simp
theorem zgk (A : Option Addr) (n c : Nat) (l : List (Int × Int)) (A1 : Option Addr) (nb cb : Nat) (ds1 : List (Int × Int)) (bb : Int) (w : World)
  (hs : RowM w A 2 n (zab l)) (hc : n ≤ c) (h1 : RowM w A1 2 nb (ds1.map zm3)) (h16a : ∀ x ∈ ds1, znJ x) :
  Calls Tryz.prog 3 #[.slice A n c, .agg #[.slice A1 nb cb], .int .i64 bb] w (fun e w' => e = .returned (.bool true) ∧ Lat w w') := by
 have da := zfi (l := za9 6 ds1) (by unfold za9; rw [List.length_map, List.length_take]; omega) (fun x hx => by obtain ⟨y, _, rfl⟩ := List.mem_map.1 hx; exact zow y)
 obtain ⟨RL, hRL⟩ : ∃ a, zaJ (za9 6 ds1) = a := ⟨_, rfl⟩
 rw [hRL] at da
 have hr2 := da.2.2.1
 obtain ⟨nR, hnR⟩ : ∃ n, RL.length = n := ⟨_, rfl⟩
 obtain ⟨LA, hLA⟩ : ∃ L, znW l false = L := ⟨_, rfl⟩
 have ha := zmG l false
 rw [hLA] at ha
 obtain ⟨N4, hN4⟩ : ∃ n, LA.length = n := ⟨_, rfl⟩
 obtain ⟨ML, hML⟩ : ∃ L, zdq LA = L := ⟨_, rfl⟩
 have hm2 : ML.length ≤ 200 := by rw [← hML]; exact zjO _
 obtain ⟨nM, hnM⟩ : ∃ n, ML.length = n := ⟨_, rfl⟩
 have HD1 := Lib.hid (fun w' (l : Lat w w') => zla (c := cb) (h1.later l) h16a hRL hnR)
 have HOA := Lib.hid (fun w' (q : Lat w w') => hLA ▸ znY A n c l false w' (hs.later q) hc)
 have HBD : Hid (nR ≤ 200 ∧ N4 ≤ 401 ∧ nM ≤ 200) := ⟨by omega, by omega, by omega⟩
 have HEQ : Hid (LA.length = N4 ∧ ML.length = nM ∧ zdq LA = ML) := ⟨hN4, hnM, hML⟩
 clear hs hc h1 h16a da hr2 hRL hnR hLA ha hN4 hML hm2 hnM
 go_enter Tryz.func3, Tryz.ntmps3
 go_upto_region 1 with (fail)
 refine zas (Q := fun W => Code.wp _ _ _ _ W) ?_
 intro W hl hsz k4
 have HG4 := Lib.hid (k4.ever 0 rfl)
 obtain ⟨g4, hg4⟩ : ∃ z, w.heap.size = z := ⟨_, rfl⟩
 simp only [hg4] at HG4 ⊢
 clear hg4 k4 hsz
 go_wp2_with fail
 refine (zjx W).mono ?_
 rintro e w1 ⟨rfl, m1⟩
 go_wp2_with fail
 refine (HOA.out w1 (hl.trans m1)).mono ?_
 rintro e w2 ⟨v2, rfl, o2, m2⟩
 obtain ⟨A2, c2, rfl, r2⟩ := zbT o2 HEQ.out.1
 clear o2
 go_wp2_with fail
 refine (zjK A2 N4 c2 LA w2 r2).mono ?_
 rintro e w3 ⟨v3, rfl, o3, m3⟩
 rw [HEQ.out.2.2] at o3
 obtain ⟨AM, cM, rfl, rM⟩ := zbT o3 HEQ.out.2.1
 have L3 := (m1.trans m2).trans m3
 clear o3 r2 m1 m2 m3
 go_upto_region 4 with (fail)
 obtain ⟨V4, rfl⟩ : ∃ z, z = w3 := ⟨_, rfl⟩
 have HM := rM
 have LV := Lib.hid (hl.trans L3)
 have HC4 : ∀ w', Lat V4 w' → w'.cell? ⟨g4, 0, none⟩ = some (.slice A1 nb cb) := fun w' q => HG4.out w' (L3.trans q)
 have HO : ∀ w, Lat V4 w → Calls Tryz.prog 7 #[.slice A n c, .bool false] w (zg7 w (RadV N4 LA)) := fun w q => by
  refine (HOA.out w (LV.out.trans q)).mono ?_
  rintro e w' ⟨v, rfl, o, l'⟩
  obtain ⟨A', c', rfl, r⟩ := zbT o HEQ.out.1
  exact ⟨_, rfl, l', A', c', rfl, r⟩
 have HDa : ∀ w, Lat V4 w → Calls Tryz.prog 8 #[.agg #[.slice A1 nb cb]] w (zg7 w (RadV nR RL)) := fun w q => by
  refine (HD1.out w (LV.out.trans q)).mono ?_
  rintro e w' ⟨A', c', rfl, r, l'⟩
  exact ⟨_, rfl, l', A', c', rfl, r⟩
 clear rM hl L3
 rename_i KN hKN
 refine zae (zgj A n c A1 nb cb AM nM cM g4 N4 LA nR RL ML bb) (ziS A n c A1 nb cb AM nM cM g4 N4 LA nR RL ML bb) 74 7 [[], [0], [], [2, 1], [], [1, 3, 4], []] (by kernel_rfl) (by kernel_rfl) (by kernel_rfl) (by kernel_rfl) (by kernel_rfl) (by kernel_rfl) (by rfl) rfl (base_of (by repeat (first | exact base_nil _ | refine zad rfl ?_))) (zlC V4 A n c A1 nb cb AM nM cM g4 N4 LA nR RL ML bb HO HDa HM HC4) ?_
 ·intro a9 W9 hsz9 hdf9 hL9 hbs hsl
  obtain ⟨v9, h9, q9⟩ := hsl 5 _ _ rfl rfl
  obtain ⟨B1, f1, B2, f2, B3, f3, rfl, r1, r2, r3⟩ := (show TripV N4 LA nR RL nM ML v9 W9 from q9)
  have w32 := zaa h9
  clear h9
  obtain ⟨v9, h9, q9⟩ := hsl 6 _ _ rfl rfl
  obtain rfl : v9 = .int .i64 0 := q9
  have w33 := zaa h9
  clear h9
  refine hKN _ _ ?_
  obtain ⟨T9, df9⟩ := a9
  obtain rfl : df9 = [] := hdf9
  obtain ⟨f, hf, rfl⟩ := zlB T9 hsz9
  have XX := fun k v h => (hf k).trans (zaa (hbs k v h))
  have x0 : f 0 = .slice A n c := XX 0 _ rfl
  have x2 : f 2 = .int .i64 bb := XX 2 _ rfl
  have x4 : f 4 = .pointer (some ⟨g4, 0, none⟩) := XX 4 _ rfl
  have x7 : f 7 = .slice AM nM cM := XX 7 _ rfl
  have x32 := (hf 32).trans w32
  have x33 := (hf 33).trans w33
  clear hbs hsl hf hsz9 hKN w32 w33
  simp only [x0, x2, x4, x7, x32, x33]
  clear XX x0 x2 x4 x7 x32 x33
  have LX := Lib.hid (LV.out.trans hL9)
  obtain ⟨V, rfl⟩ : ∃ z, z = W9 := ⟨_, rfl⟩
  have HPK := Lib.hid (zjN (f1 := f1) (f2 := f2) (f3 := f3) r1 r2 r3 (by have := HBD.out; omega) (by have := HBD.out; omega) (by have := HBD.out; omega))
  clear r1 r2 r3 hL9 LV HM HO HDa HC4 HBD HEQ HD1 HOA HG4
  obtain ⟨bc, br, hb1, hb2, hb3, hb4, hb5⟩ := zjP bb
  have HB := Lib.hid (And.intro hb1 (And.intro hb2 (And.intro hb3 (And.intro hb4 hb5))))
  have HPZ := Lib.hid (zmK bb br)
  clear hb1 hb2 hb3 hb4 hb5
  go_wp2
  go_loopw [33] (fun iv wr => ∃ k : Nat, k ≤ 3 ∧ iv = .int .i64 (k : Nat) ∧ Lat V wr) (fun iv _ => 3 - (intOf iv).toNat)
  case atStart => exact ⟨0, by omega, rfl, Lat.refl _⟩
  case round =>
   obtain ⟨k, hk, rfl, hq⟩ := hrel
   by_cases hk4 : k < 3
   ·have hkI : (k : Int) < 3 := by omega
    obtain ⟨Ba, Na, fa, La, ra, ba, hix⟩ := HPK.out k hk4
    have HK := Lib.hid hk4
    have HA := Lib.hid (And.intro (ra.later hq) ba)
    clear ra ba hk4 hk
    obtain ⟨hb1, hb2, hb3, hb4, hb5⟩ := HB.out
    go_wp2
    clear hb1 hb2 hb3 hb4 hb5 hix hkI
    go_loopw [42] (fun iv wr' => ∃ j : Nat, j ≤ 2 ∧ iv = .int .i64 (j : Nat) ∧ Lat wr wr') (fun iv _ => 2 - (intOf iv).toNat)
    case atStart => exact ⟨0, by omega, rfl, Lat.refl _⟩
    case round =>
     obtain ⟨j, hj, rfl, hr⟩ := hrel
     by_cases hj2 : j < 2
     ·have hjI : (j : Int) < 2 := by omega
      obtain ⟨x, hix⟩ := HPZ.out j hj2
      have HJ := Lib.hid hj2
      clear hj hj2
      go_wp2_with fail
      clear hix hjI
      refine (zkZ Ba Na fa La x wr (HA.out.1.later hr) HA.out.2).mono ?_
      rintro e w8 ⟨u1, v1, u2, v2, rr, rfl, IS, m8⟩
      have HIS := Lib.hid IS
      clear IS
      go_upto_region 11 with (fail)
      refine zaK (Q := fun W => Code.wp _ _ _ _ W) ?_
      intro V0 la hsx k13 k14
      obtain ⟨g14, hg14⟩ : ∃ z, w8.heap.size + 1 = z := ⟨_, rfl⟩
      obtain ⟨g13, hg13⟩ : ∃ z, w8.heap.size = z := ⟨_, rfl⟩
      rw [hg14] at k14 ⊢
      rw [hg13] at k13 ⊢
      have q0 := (hr.trans m8).trans la
      clear la hsx hg14 hg13 m8 hr
      go_wp2_with fail
      refine (zmJ Ba Na fa La x V0 (HA.out.1.later q0) HA.out.2).mono ?_
      rintro e w9 ⟨u1', v1', u2', v2', rr', rfl, IS, m9⟩
      obtain ⟨rfl, rfl, rfl, rfl, rfl⟩ := zgW IS HIS.out
      clear IS
      replace k13 := k13.later m9
      replace k14 := k14.later m9
      replace q0 := q0.trans m9
      clear m9
      go_upto_region 12 with (fail)
      refine zaK (Q := fun W => Code.wp _ _ _ _ W) ?_
      intro X la hsx k16 k17
      obtain ⟨g17, hg17⟩ : ∃ z, w9.heap.size + 1 = z := ⟨_, rfl⟩
      obtain ⟨g16, hg16⟩ : ∃ z, w9.heap.size = z := ⟨_, rfl⟩
      rw [hg17] at k17 ⊢
      rw [hg16] at k16 ⊢
      replace k13 := k13.later la
      replace k14 := k14.later la
      have HQ := Lib.hid (q0.trans la)
      clear la hsx hg17 hg16 q0
      have J16 := zao
      have R13 : ∀ w', Lat X w' → w'.rangeAt g13 0 [u1'.b0, u1'.b1, u1'.b2, u1'.b3, u1'.b4, u1'.b5, u1'.b6, u1'.b7, v1'.b0, v1'.b1, v1'.b2, v1'.b3, v1'.b4, v1'.b5, v1'.b6, v1'.b7] := fun w' hl => (k13.later hl).rangeAll
      have R14 : ∀ w', Lat X w' → w'.rangeAt g14 0 [u2'.b0, u2'.b1, u2'.b2, u2'.b3, u2'.b4, u2'.b5, u2'.b6, u2'.b7, v2'.b0, v2'.b1, v2'.b2, v2'.b3, v2'.b4, v2'.b5, v2'.b6, v2'.b7] := fun w' hl => (k14.later hl).rangeAll
      have R16 : ∀ w', Lat X w' → w'.rangeAt g16 0 [u1'.b0, u1'.b1, u1'.b2, u1'.b3, u1'.b4, u1'.b5, u1'.b6, u1'.b7, v1'.b0, v1'.b1, v1'.b2, v1'.b3, v1'.b4, v1'.b5, v1'.b6, v1'.b7] := fun w' hl => (k16.later hl).rangeAll
      have R17 : ∀ w', Lat X w' → w'.rangeAt g17 0 [u2'.b0, u2'.b1, u2'.b2, u2'.b3, u2'.b4, u2'.b5, u2'.b6, u2'.b7, v2'.b0, v2'.b1, v2'.b2, v2'.b3, v2'.b4, v2'.b5, v2'.b6, v2'.b7] := fun w' hl => (k17.later hl).rangeAll
      have HGD : Tryz.prog.eqGuardType Tryz.prog.depth 40 = false := by kernel_rfl
      have HE1 := fun w => zfv HIS.out.oks.1 HIS.out.oks.2.1 w
      have HE2 := fun w => zfv HIS.out.oks.2.2.1 HIS.out.oks.2.2.2 w
      rename_i KN hKN
      refine zae (zeQ g13 g14 g16 g17 u1' v1' u2' v2' rr') (zhh g13 g14 g16 g17 u1' v1' u2' v2' rr' _ _ _ _ _ _ _ _ _ _ _ _ _ _ _ _ _ _ _ _ _ _ _ _ _ _ _ _ _ _ _ _ _ _ _ _ _ _) 74 13 [[], [], [0, 1], [2], [3], [3], [4, 5, 3], [3, 6], [7, 3], [8], [8], [9, 10, 8], [8, 11]] (by kernel_rfl) (by kernel_rfl) (by kernel_rfl) (by kernel_rfl) (by kernel_rfl) (by kernel_rfl) (by rfl) rfl (base_of (by repeat (first | exact base_nil _ | refine zad rfl ?_))) (zjQ X g13 g14 g16 g17 u1' v1' u2' v2' rr' _ _ _ _ _ _ _ _ _ _ _ _ _ _ _ _ _ _ _ _ _ _ _ _ _ _ _ _ _ _ _ _ _ _ _ _ _ _ R13 R16 R14 R17 J16 HGD HE1 HE2) ?_
      ·intro a9 W9 hsz9 hdf9 hL9 hbs hsl
       obtain ⟨v9, h9, q9⟩ := hsl 12 _ _ rfl rfl
       obtain rfl : v9 = .bool false := q9
       have w71 := zaa h9
       clear h9
       refine hKN _ _ ?_
       obtain ⟨T9, df9⟩ := a9
       obtain rfl : df9 = [] := hdf9
       obtain ⟨f, hf, rfl⟩ := zlB T9 hsz9
       have XX := fun k v h => (hf k).trans (zaa (hbs k v h))
       have x13 : f 13 = .pointer (some ⟨g13, 0, none⟩) := XX 13 _ rfl
       have x14 : f 14 = .pointer (some ⟨g14, 0, none⟩) := XX 14 _ rfl
       have x16 : f 16 = .pointer (some ⟨g16, 0, none⟩) := XX 16 _ rfl
       have x17 : f 17 = .pointer (some ⟨g17, 0, none⟩) := XX 17 _ rfl
       have x15 : f 15 = .int .i64 rr' := XX 15 _ rfl
       have x18 : f 18 = .int .i64 rr' := XX 18 _ rfl
       have x71 := (hf 71).trans w71
       clear hbs hsl hf hsz9 hKN w71
       simp only [x13, x14, x16, x17, x15, x18, XX 0 _ rfl, XX 1 _ rfl, XX 2 _ rfl, XX 3 _ rfl, XX 4 _ rfl, XX 5 _ rfl, XX 6 _ rfl, XX 7 _ rfl, XX 8 _ rfl, XX 9 _ rfl, XX 10 _ rfl, XX 11 _ rfl, XX 12 _ rfl, XX 19 _ rfl, XX 20 _ rfl, XX 21 _ rfl, XX 22 _ rfl, XX 23 _ rfl, XX 24 _ rfl, XX 25 _ rfl, XX 26 _ rfl, XX 27 _ rfl, XX 28 _ rfl, XX 29 _ rfl, XX 30 _ rfl, XX 31 _ rfl, XX 32 _ rfl, XX 33 _ rfl, XX 34 _ rfl, XX 35 _ rfl, XX 36 _ rfl, XX 37 _ rfl, XX 38 _ rfl, XX 39 _ rfl, XX 40 _ rfl, XX 41 _ rfl, XX 42 _ rfl, XX 73 _ rfl, x71]
       clear XX x13 x14 x16 x17 x15 x18 x71
       have HRel := Lib.hid (HQ.out.trans hL9)
       clear hL9 R13 R14 R16 R17 HGD HE1 HE2 J16 k13 k14 k16 k17 HQ HIS
       obtain ⟨hj1, hj2⟩ := zlA j (by have := HJ.out; omega)
       go_wp2
       go_roundw
       case rel => exact ⟨j + 1, by have := HJ.out; omega, by rfl, HRel.out⟩
       case measure => have := HJ.out; simp only [intOf]; omega
     ·have hjI : ¬ (j : Int) < 2 := by omega
      have HRel := Lib.hid (hq.trans hr)
      clear hj hj2 hr hq
      obtain ⟨hk1, hk2⟩ := zlA k (by have := HK.out; omega)
      go_wp2
      go_roundw
      case rel => exact ⟨k + 1, by have := HK.out; omega, by rfl, HRel.out⟩
      case measure => have := HK.out; simp only [intOf]; omega
   ·have hkI : ¬ (k : Int) < 3 := by omega
    have LF := Lib.hid (LX.out.trans hq)
    clear hq hk hk4 HPK HPZ HB
    go_wp2
    go_ret
    exact ⟨rfl, LF.out⟩
end Go.Proofs.YtpmbglhbcjbkcaaGreat
