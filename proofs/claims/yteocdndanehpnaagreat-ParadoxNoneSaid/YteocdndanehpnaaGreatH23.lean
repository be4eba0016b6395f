/- Several texts in one: Eq, DivE. -/
import Derived.Test.YteocdndanehpnaaGreatH17
import Derived.Test.YteocdndanehpnaaGreatH08
import Derived.Test.YteocdndanehpnaaGreatProg
import Derived.DeepKeys
import Derived.Test.YteocdndanehpnaaGreatH22
import Derived.Deep.DeepCutAuto
namespace Go.Proofs.YteocdndanehpnaaGreat
open Go.RowKit
def litsW (u : W8) : List Lit := u.list.map (Lit.int .u64)
theorem litsW_inj {u v : W8} : litsW u = litsW v ↔ u = v := by
 constructor
 ·intro h
  simp only [litsW, W8.list, List.map_cons, List.map_nil, List.cons.injEq, Lit.int.injEq, true_and, and_true] at h
  obtain ⟨h0, h1, h2, h3, h4, h5, h6, h7⟩ := h
  exact W8.ext h0 h1 h2 h3 h4 h5 h6 h7
 ·intro h; rw [h]
theorem wf64 {n : Int} (h : 0 ≤ n ∧ n < W64) : (Lit.int .u64 n).wf = true := by
 unfold W64 at h
 have e1 : IntKind.u64.min = 0 := by decide
 have e2 : IntKind.u64.max = 18446744073709551615 := by decide
 simp [Lit.wf, e1, e2]
 omega
theorem cells28 : Tryz.prog.cellsOf 95 = 1 := by kernel_rfl
theorem cells30 : Tryz.prog.cellsOf 97 = 8 := by kernel_rfl
theorem cells32 : Tryz.prog.cellsOf 99 = 16 := by kernel_rfl
theorem key28 {n : Int} (h : 0 ≤ n ∧ n < W64) (d : Nat) : Tryz.prog.keyLits (d + 1) 95 [.int .u64 n] = some [.int .u64 n] := by
 have hw := wf64 h
 unfold Program.keyLits
 rw [Tryz.underlying95]
 simp [hw]
theorem key30 {u : W8} (h : u.ok) (d : Nat) : Tryz.prog.keyLits (d + 2) 97 [.int .u64 u.a0, .int .u64 u.a1, .int .u64 u.a2, .int .u64 u.a3, .int .u64 u.a4, .int .u64 u.a5, .int .u64 u.a6, .int .u64 u.a7] = some (litsW u) := by
 have h0 := key28 h.at0 d
 have h1 := key28 h.at1 d
 have h2 := key28 h.at2 d
 have h3 := key28 h.at3 d
 have h4 := key28 h.at4 d
 have h5 := key28 h.at5 d
 have h6 := key28 h.at6 d
 have h7 := key28 h.at7 d
 unfold Program.keyLits
 rw [Tryz.underlying97]
 simp [cells28, cells30, List.range, List.range.loop, h0, h1, h2, h3, h4, h5, h6, h7, litsW, W8.list]
theorem key32 {u v : W8} (hu : u.ok) (hv : v.ok) (d : Nat) : Tryz.prog.keyLits (d + 3) 99 [.int .u64 u.a0, .int .u64 u.a1, .int .u64 u.a2, .int .u64 u.a3, .int .u64 u.a4, .int .u64 u.a5, .int .u64 u.a6, .int .u64 u.a7, .int .u64 v.a0, .int .u64 v.a1, .int .u64 v.a2, .int .u64 v.a3, .int .u64 v.a4, .int .u64 v.a5, .int .u64 v.a6, .int .u64 v.a7] = some (litsW u ++ litsW v) := by
 have h0 := key30 hu d
 have h1 := key30 hv d
 unfold Program.keyLits
 rw [Tryz.underlying99]
 simp [cells30, cells32, h0, h1]
theorem cells79 : Tryz.prog.cellsOf 124 = 17 := by kernel_rfl
theorem cells4 : Tryz.prog.cellsOf 4 = 1 := by kernel_rfl
theorem key4 (b : Bool) (d : Nat) : Tryz.prog.keyLits (d + 1) 4 [.bool b] = some [.bool b] := by
 unfold Program.keyLits
 rw [Tryz.underlying4]
theorem key79 (b : Bool) {u v : W8} (hu : u.ok) (hv : v.ok) (d : Nat) : Tryz.prog.keyLits (d + 4) 124 [.bool b, .int .u64 u.a0, .int .u64 u.a1, .int .u64 u.a2, .int .u64 u.a3, .int .u64 u.a4, .int .u64 u.a5, .int .u64 u.a6, .int .u64 u.a7, .int .u64 v.a0, .int .u64 v.a1, .int .u64 v.a2, .int .u64 v.a3, .int .u64 v.a4, .int .u64 v.a5, .int .u64 v.a6, .int .u64 v.a7] = some (.bool b :: (litsW u ++ litsW v)) := by
 have h0 := key4 b (d + 2)
 have h1 := key32 hu hv d
 unfold Program.keyLits
 rw [Tryz.underlying124]
 simp [cells4, cells32, cells79, h0, h1]
theorem cons_app {b1 b2 : Bool} {u1 v1 u2 v2 : W8} : ((Lit.bool b1 :: (litsW u1 ++ litsW v1)) = (Lit.bool b2 :: (litsW u2 ++ litsW v2))) ↔ (b1 = b2 ∧ u1 = u2 ∧ v1 = v2) := by
 rw [List.cons.injEq, Lit.bool.injEq]
 constructor
 ·rintro ⟨h1, h2⟩
  obtain ⟨h3, h4⟩ := List.append_inj h2 rfl
  exact ⟨h1, litsW_inj.1 h3, litsW_inj.1 h4⟩
 ·rintro ⟨rfl, rfl, rfl⟩; exact ⟨rfl, rfl⟩
theorem rank_eq (b1 b2 : Bool) {u1 v1 u2 v2 : W8} (h1 : u1.ok) (h2 : v1.ok) (h3 : u2.ok) (h4 : v2.ok) (w : World) : ∃ r : Bool, (binOp .eql 124 (.agg #[.bool b1, .int .u64 u1.a0, .int .u64 u1.a1, .int .u64 u1.a2, .int .u64 u1.a3, .int .u64 u1.a4, .int .u64 u1.a5, .int .u64 u1.a6, .int .u64 u1.a7, .int .u64 v1.a0, .int .u64 v1.a1, .int .u64 v1.a2, .int .u64 v1.a3, .int .u64 v1.a4, .int .u64 v1.a5, .int .u64 v1.a6, .int .u64 v1.a7]) (.agg #[.bool b2, .int .u64 u2.a0, .int .u64 u2.a1, .int .u64 u2.a2, .int .u64 u2.a3, .int .u64 u2.a4, .int .u64 u2.a5, .int .u64 u2.a6, .int .u64 u2.a7, .int .u64 v2.a0, .int .u64 v2.a1, .int .u64 v2.a2, .int .u64 v2.a3, .int .u64 v2.a4, .int .u64 v2.a5, .int .u64 v2.a6, .int .u64 v2.a7])).run Tryz.prog w = .ok (.bool r) w ∧ (r = true ↔ b1 = b2 ∧ u1 = u2 ∧ v1 = v2) := by
 obtain ⟨r, hr, hi⟩ := run_equalIn_deep (P := Tryz.prog) 9990 10 124 (by kernel_rfl) w 10 10 (.agg #[.bool b1, .int .u64 u1.a0, .int .u64 u1.a1, .int .u64 u1.a2, .int .u64 u1.a3, .int .u64 u1.a4, .int .u64 u1.a5, .int .u64 u1.a6, .int .u64 u1.a7, .int .u64 v1.a0, .int .u64 v1.a1, .int .u64 v1.a2, .int .u64 v1.a3, .int .u64 v1.a4, .int .u64 v1.a5, .int .u64 v1.a6, .int .u64 v1.a7]) (.agg #[.bool b2, .int .u64 u2.a0, .int .u64 u2.a1, .int .u64 u2.a2, .int .u64 u2.a3, .int .u64 u2.a4, .int .u64 u2.a5, .int .u64 u2.a6, .int .u64 u2.a7, .int .u64 v2.a0, .int .u64 v2.a1, .int .u64 v2.a2, .int .u64 v2.a3, .int .u64 v2.a4, .int .u64 v2.a5, .int .u64 v2.a6, .int .u64 v2.a7]) _ _ (by kernel_rfl) (by kernel_rfl) (key79 b1 h1 h2 6) (key79 b2 h3 h4 6)
 refine ⟨r, ?_, by rw [hi, cons_app]⟩
 rw [run_eql_struct, hr]
 rfl
theorem share_eq {u1 v1 u2 v2 : W8} (h1 : u1.ok) (h2 : v1.ok) (h3 : u2.ok) (h4 : v2.ok) (w : World) : ∃ r : Bool, (Op.equalIn 10000 99 (.agg #[.int .u64 u1.a0, .int .u64 u1.a1, .int .u64 u1.a2, .int .u64 u1.a3, .int .u64 u1.a4, .int .u64 u1.a5, .int .u64 u1.a6, .int .u64 u1.a7, .int .u64 v1.a0, .int .u64 v1.a1, .int .u64 v1.a2, .int .u64 v1.a3, .int .u64 v1.a4, .int .u64 v1.a5, .int .u64 v1.a6, .int .u64 v1.a7]) (.agg #[.int .u64 u2.a0, .int .u64 u2.a1, .int .u64 u2.a2, .int .u64 u2.a3, .int .u64 u2.a4, .int .u64 u2.a5, .int .u64 u2.a6, .int .u64 u2.a7, .int .u64 v2.a0, .int .u64 v2.a1, .int .u64 v2.a2, .int .u64 v2.a3, .int .u64 v2.a4, .int .u64 v2.a5, .int .u64 v2.a6, .int .u64 v2.a7])).run Tryz.prog w = .ok r w ∧ (r = true ↔ u1 = u2 ∧ v1 = v2) := by
 obtain ⟨r, hr, hi⟩ := run_equalIn_deep (P := Tryz.prog) 9990 10 99 (by kernel_rfl) w 10 10 (.agg #[.int .u64 u1.a0, .int .u64 u1.a1, .int .u64 u1.a2, .int .u64 u1.a3, .int .u64 u1.a4, .int .u64 u1.a5, .int .u64 u1.a6, .int .u64 u1.a7, .int .u64 v1.a0, .int .u64 v1.a1, .int .u64 v1.a2, .int .u64 v1.a3, .int .u64 v1.a4, .int .u64 v1.a5, .int .u64 v1.a6, .int .u64 v1.a7]) (.agg #[.int .u64 u2.a0, .int .u64 u2.a1, .int .u64 u2.a2, .int .u64 u2.a3, .int .u64 u2.a4, .int .u64 u2.a5, .int .u64 u2.a6, .int .u64 u2.a7, .int .u64 v2.a0, .int .u64 v2.a1, .int .u64 v2.a2, .int .u64 v2.a3, .int .u64 v2.a4, .int .u64 v2.a5, .int .u64 v2.a6, .int .u64 v2.a7]) _ _ (by kernel_rfl) (by kernel_rfl) (key32 h1 h2 7) (key32 h3 h4 7)
 refine ⟨r, hr, ?_⟩
 rw [hi]
 constructor
 ·intro h
  obtain ⟨h3, h4⟩ := List.append_inj h rfl
  exact ⟨litsW_inj.1 h3, litsW_inj.1 h4⟩
 ·rintro ⟨rfl, rfl⟩; rfl
theorem wpList_bin {P : Program} {ops : Array Oper} {rest : List Oper} {o : Oper} {a : Act} {w : World} {Q : Exit → Act → World → Prop} (hgd : o.guard = none) (op : BinOp) (t t2 : TypeId) (x y : Operand) (ho : o.op = .binOp op t x y t2)
  (X Y : Array Value) (V : Value) (hx : a.eval x = .agg X) (hy : a.eval y = .agg Y) (hm : P.eqGuardType P.depth t = false) (hrun : (binOp op t (.agg X) (.agg Y)).run P w = .ok V w)
  (h : wpList P ops Q rest (a.put o.dst V) w) : wpList P ops Q (o :: rest) a w := by
 refine wpList_plain hgd fun K hK => ?_
 unfold Oper.wp execOp
 have hg := run_eqGuard_agg (P := P) w op t x y X Y hm
 simp [ho, hx, hy, hg, hrun, Result.andThen]
 exact hK _ _ h
end Go.Proofs.YteocdndanehpnaaGreat
namespace Go.Proofs.YteocdndanehpnaaGreat
open Go.RowKit
def cmpR (m p s q t : Int) : Int :=
 if postN m s = 0 then (if postN m t = 0 then sideOf (p - q) else 1)
 else if postN m t = 0 then -1 else sideOf (topOf m p * postD m s * postN m t - topOf m q * postD m t * postN m s)
def cmpV (b1 : Bool) (u1 v1 : W8) (b2 : Bool) (u2 v2 : W8) : Int :=
 if b1 = b2 then sideOf (u1.toInt * v2.toInt - u2.toInt * v1.toInt) else if b1 then 1 else -1
theorem sub_range {u v : W8} {b : Bool} : ∀ (j : Nat) (x : Value), ([.int .u64 u.a0, .int .u64 u.a1, .int .u64 u.a2, .int .u64 u.a3, .int .u64 u.a4, .int .u64 u.a5, .int .u64 u.a6, .int .u64 u.a7, .int .u64 v.a0, .int .u64 v.a1, .int .u64 v.a2, .int .u64 v.a3, .int .u64 v.a4, .int .u64 v.a5, .int .u64 v.a6, .int .u64 v.a7] : List Value)[j]? = some x → (#[.bool b, .int .u64 u.a0, .int .u64 u.a1, .int .u64 u.a2, .int .u64 u.a3, .int .u64 u.a4, .int .u64 u.a5, .int .u64 u.a6, .int .u64 u.a7, .int .u64 v.a0, .int .u64 v.a1, .int .u64 v.a2, .int .u64 v.a3, .int .u64 v.a4, .int .u64 v.a5, .int .u64 v.a6, .int .u64 v.a7] : Array Value)[1 + j]? = some x := by
 intro j x h
 rw [Nat.add_comm]
 simpa using h
set_option maxRecDepth 100000 in
set_option maxHeartbeats 4000000 in
theorem cmp_same (b : Bool) (u v : W8) (hu : u.ok) (hv : v.ok) (w : World) :
  Calls Tryz.prog 84 #[.agg #[.bool b, .int .u64 u.a0, .int .u64 u.a1, .int .u64 u.a2, .int .u64 u.a3, .int .u64 u.a4, .int .u64 u.a5, .int .u64 u.a6, .int .u64 u.a7, .int .u64 v.a0, .int .u64 v.a1, .int .u64 v.a2, .int .u64 v.a3, .int .u64 v.a4, .int .u64 v.a5, .int .u64 v.a6, .int .u64 v.a7], .agg #[.bool b, .int .u64 u.a0, .int .u64 u.a1, .int .u64 u.a2, .int .u64 u.a3, .int .u64 u.a4, .int .u64 u.a5, .int .u64 u.a6, .int .u64 u.a7, .int .u64 v.a0, .int .u64 v.a1, .int .u64 v.a2, .int .u64 v.a3, .int .u64 v.a4, .int .u64 v.a5, .int .u64 v.a6, .int .u64 v.a7]] w (fun e w' => e = .returned (.int .i64 0) ∧ Lat w w') := by
 obtain ⟨X, hX⟩ : ∃ X : Array Value, X = #[.bool b, .int .u64 u.a0, .int .u64 u.a1, .int .u64 u.a2, .int .u64 u.a3, .int .u64 u.a4, .int .u64 u.a5, .int .u64 u.a6, .int .u64 u.a7, .int .u64 v.a0, .int .u64 v.a1, .int .u64 v.a2, .int .u64 v.a3, .int .u64 v.a4, .int .u64 v.a5, .int .u64 v.a6, .int .u64 v.a7] := ⟨_, rfl⟩
 have HR : ∀ w, (binOp .eql 124 (.agg X) (.agg X)).run Tryz.prog w = .ok (.bool true) w := fun w => by
  rw [hX]
  obtain ⟨r, hr, hi⟩ := rank_eq b b hu hv hu hv w
  rw [hr, hi.2 ⟨rfl, rfl, rfl⟩]
 have I1 : (Tryz.prog.info? 124).map (·.size) = some X.size := by rw [hX]; exact rankInfo
 have I1' := Lib.hid I1
 have HR' := Lib.hid HR
 rw [← hX]
 clear hX I1 HR
 go_enter Tryz.func84, Tryz.ntmps84
 go_upto_region 1 with (fail)
 refine name2 (Q := fun W => Code.wp _ _ _ _ W) ?_
 intro W hl hs k1 k2
 go_wp2_with (first
  | (refine wpList_get rfl 124 (.tmp 2) (by rfl) w.heap.size (by rfl) k1 _ Tryz.underlying124 rfl I1'.out ?_)
  | (refine wpList_get rfl 124 (.tmp 3) (by rfl) (w.heap.size + 1) (by rfl) k2 _ Tryz.underlying124 rfl I1'.out ?_)
  | (refine wpList_bin rfl .eql 124 124 (.tmp 8) (.tmp 9) (by rfl) X X (.bool true) (by rfl) (by rfl) (by kernel_rfl) (HR'.out _) ?_))
 go_ret
 exact ⟨rfl, hl⟩
set_option maxRecDepth 100000 in
set_option maxHeartbeats 4000000 in
theorem cmp_endless (b : Bool) (u1 v1 u2 v2 : W8) (h1 : u1.ok) (h2 : v1.ok) (h3 : u2.ok) (h4 : v2.ok) (w : World) :
  Calls Tryz.prog 84 #[.agg #[.bool b, .int .u64 u1.a0, .int .u64 u1.a1, .int .u64 u1.a2, .int .u64 u1.a3, .int .u64 u1.a4, .int .u64 u1.a5, .int .u64 u1.a6, .int .u64 u1.a7, .int .u64 v1.a0, .int .u64 v1.a1, .int .u64 v1.a2, .int .u64 v1.a3, .int .u64 v1.a4, .int .u64 v1.a5, .int .u64 v1.a6, .int .u64 v1.a7], .agg #[.bool (!b), .int .u64 u2.a0, .int .u64 u2.a1, .int .u64 u2.a2, .int .u64 u2.a3, .int .u64 u2.a4, .int .u64 u2.a5, .int .u64 u2.a6, .int .u64 u2.a7, .int .u64 v2.a0, .int .u64 v2.a1, .int .u64 v2.a2, .int .u64 v2.a3, .int .u64 v2.a4, .int .u64 v2.a5, .int .u64 v2.a6, .int .u64 v2.a7]] w (fun e w' => e = .returned (.int .i64 (if b then 1 else -1)) ∧ Lat w w') := by
 obtain ⟨X, hX⟩ : ∃ X : Array Value, X = #[.bool b, .int .u64 u1.a0, .int .u64 u1.a1, .int .u64 u1.a2, .int .u64 u1.a3, .int .u64 u1.a4, .int .u64 u1.a5, .int .u64 u1.a6, .int .u64 u1.a7, .int .u64 v1.a0, .int .u64 v1.a1, .int .u64 v1.a2, .int .u64 v1.a3, .int .u64 v1.a4, .int .u64 v1.a5, .int .u64 v1.a6, .int .u64 v1.a7] := ⟨_, rfl⟩
 obtain ⟨Y, hY⟩ : ∃ Y : Array Value, Y = #[.bool (!b), .int .u64 u2.a0, .int .u64 u2.a1, .int .u64 u2.a2, .int .u64 u2.a3, .int .u64 u2.a4, .int .u64 u2.a5, .int .u64 u2.a6, .int .u64 u2.a7, .int .u64 v2.a0, .int .u64 v2.a1, .int .u64 v2.a2, .int .u64 v2.a3, .int .u64 v2.a4, .int .u64 v2.a5, .int .u64 v2.a6, .int .u64 v2.a7] := ⟨_, rfl⟩
 have HR : ∀ w, (binOp .eql 124 (.agg X) (.agg Y)).run Tryz.prog w = .ok (.bool false) w := fun w => by
  rw [hX, hY]
  obtain ⟨r, hr, hi⟩ := rank_eq b (!b) h1 h2 h3 h4 w
  have : r = false := by
   cases r with
   | false => rfl
   | true => have := (hi.1 rfl).1; cases b <;> cases this
  rw [hr, this]
 have I1' : Hid ((Tryz.prog.info? 124).map (·.size) = some X.size) := by show _ = _; rw [hX]; exact rankInfo
 have I2' : Hid ((Tryz.prog.info? 124).map (·.size) = some Y.size) := by show _ = _; rw [hY]; exact rankInfo
 have HR' := Lib.hid HR
 have C1 : X[0]? = some (.bool b) := by rw [hX]; rfl
 have C2 : Y[0]? = some (.bool (!b)) := by rw [hY]; rfl
 rw [← hX, ← hY]
 clear hX hY HR
 go_enter Tryz.func84, Tryz.ntmps84
 go_upto_region 1 with (fail)
 refine name2 (Q := fun W => Code.wp _ _ _ _ W) ?_
 intro W hl hs k1 k2
 have d1 := (k1.cell 0).trans C1
 have d2 := (k2.cell 0).trans C2
 clear C1 C2
 cases b with
 | true =>
   go_wp2_with (first
    | (refine wpList_get rfl 124 (.tmp 2) (by rfl) w.heap.size (by rfl) k1 _ Tryz.underlying124 rfl I1'.out ?_)
    | (refine wpList_get rfl 124 (.tmp 3) (by rfl) (w.heap.size + 1) (by rfl) k2 _ Tryz.underlying124 rfl I2'.out ?_)
    | (refine wpList_bin rfl .eql 124 124 (.tmp 8) (.tmp 9) (by rfl) X Y (.bool false) (by rfl) (by rfl) (by kernel_rfl) (HR'.out _) ?_))
   go_ret
   exact ⟨rfl, hl⟩
 | false =>
   go_wp2_with (first
    | (refine wpList_get rfl 124 (.tmp 2) (by rfl) w.heap.size (by rfl) k1 _ Tryz.underlying124 rfl I1'.out ?_)
    | (refine wpList_get rfl 124 (.tmp 3) (by rfl) (w.heap.size + 1) (by rfl) k2 _ Tryz.underlying124 rfl I2'.out ?_)
    | (refine wpList_bin rfl .eql 124 124 (.tmp 8) (.tmp 9) (by rfl) X Y (.bool false) (by rfl) (by rfl) (by kernel_rfl) (HR'.out _) ?_))
   go_ret
   exact ⟨rfl, hl⟩
set_option maxRecDepth 100000 in
set_option maxHeartbeats 4000000 in
theorem cmp_diff (b : Bool) (u1 v1 u2 v2 : W8) (h1 : u1.ok) (h2 : v1.ok) (h3 : u2.ok) (h4 : v2.ok) (ok1 : ShOk u1.toInt v1.toInt) (ok2 : ShOk u2.toInt v2.toInt) (hne : ¬ (u1 = u2 ∧ v1 = v2)) (w : World) :
  Calls Tryz.prog 84 #[.agg #[.bool b, .int .u64 u1.a0, .int .u64 u1.a1, .int .u64 u1.a2, .int .u64 u1.a3, .int .u64 u1.a4, .int .u64 u1.a5, .int .u64 u1.a6, .int .u64 u1.a7, .int .u64 v1.a0, .int .u64 v1.a1, .int .u64 v1.a2, .int .u64 v1.a3, .int .u64 v1.a4, .int .u64 v1.a5, .int .u64 v1.a6, .int .u64 v1.a7], .agg #[.bool b, .int .u64 u2.a0, .int .u64 u2.a1, .int .u64 u2.a2, .int .u64 u2.a3, .int .u64 u2.a4, .int .u64 u2.a5, .int .u64 u2.a6, .int .u64 u2.a7, .int .u64 v2.a0, .int .u64 v2.a1, .int .u64 v2.a2, .int .u64 v2.a3, .int .u64 v2.a4, .int .u64 v2.a5, .int .u64 v2.a6, .int .u64 v2.a7]] w (fun e w' => e = .returned (.int .i64 (sideOf (u1.toInt * v2.toInt - u2.toInt * v1.toInt))) ∧ Lat w w') := by
 have HC := shCmp_ok u1 v1 u2 v2 h1 h2 h3 h4 ok1 ok2
 obtain ⟨z, hz⟩ : ∃ z, sideOf (u1.toInt * v2.toInt - u2.toInt * v1.toInt) = z := ⟨_, rfl⟩
 obtain ⟨X, hX⟩ : ∃ X : Array Value, X = #[.bool b, .int .u64 u1.a0, .int .u64 u1.a1, .int .u64 u1.a2, .int .u64 u1.a3, .int .u64 u1.a4, .int .u64 u1.a5, .int .u64 u1.a6, .int .u64 u1.a7, .int .u64 v1.a0, .int .u64 v1.a1, .int .u64 v1.a2, .int .u64 v1.a3, .int .u64 v1.a4, .int .u64 v1.a5, .int .u64 v1.a6, .int .u64 v1.a7] := ⟨_, rfl⟩
 obtain ⟨Y, hY⟩ : ∃ Y : Array Value, Y = #[.bool b, .int .u64 u2.a0, .int .u64 u2.a1, .int .u64 u2.a2, .int .u64 u2.a3, .int .u64 u2.a4, .int .u64 u2.a5, .int .u64 u2.a6, .int .u64 u2.a7, .int .u64 v2.a0, .int .u64 v2.a1, .int .u64 v2.a2, .int .u64 v2.a3, .int .u64 v2.a4, .int .u64 v2.a5, .int .u64 v2.a6, .int .u64 v2.a7] := ⟨_, rfl⟩
 obtain ⟨S, hS⟩ : ∃ S : List Value, S = [.int .u64 u1.a0, .int .u64 u1.a1, .int .u64 u1.a2, .int .u64 u1.a3, .int .u64 u1.a4, .int .u64 u1.a5, .int .u64 u1.a6, .int .u64 u1.a7, .int .u64 v1.a0, .int .u64 v1.a1, .int .u64 v1.a2, .int .u64 v1.a3, .int .u64 v1.a4, .int .u64 v1.a5, .int .u64 v1.a6, .int .u64 v1.a7] := ⟨_, rfl⟩
 obtain ⟨T, hT⟩ : ∃ T : List Value, T = [.int .u64 u2.a0, .int .u64 u2.a1, .int .u64 u2.a2, .int .u64 u2.a3, .int .u64 u2.a4, .int .u64 u2.a5, .int .u64 u2.a6, .int .u64 u2.a7, .int .u64 v2.a0, .int .u64 v2.a1, .int .u64 v2.a2, .int .u64 v2.a3, .int .u64 v2.a4, .int .u64 v2.a5, .int .u64 v2.a6, .int .u64 v2.a7] := ⟨_, rfl⟩
 have HC' : ∀ w, Calls Tryz.prog 71 #[.agg S.toArray, .agg T.toArray] w (fun e w' => e = .returned (.tuple #[.int .i64 z, .int .i64 0]) ∧ Lat w w') := fun w => by
  have := HC w
  rw [hz] at this
  rw [hS, hT]
  exact this
 have HR : ∀ w, (binOp .eql 124 (.agg X) (.agg Y)).run Tryz.prog w = .ok (.bool false) w := fun w => by
  rw [hX, hY]
  obtain ⟨r, hr, hi⟩ := rank_eq b b h1 h2 h3 h4 w
  have : r = false := by
   cases r with
   | false => rfl
   | true => exact absurd (hi.1 rfl).2 hne
  rw [hr, this]
 have I1' : Hid ((Tryz.prog.info? 124).map (·.size) = some X.size) := by show _ = _; rw [hX]; exact rankInfo
 have I2' : Hid ((Tryz.prog.info? 124).map (·.size) = some Y.size) := by show _ = _; rw [hY]; exact rankInfo
 have J1' : Hid ((Tryz.prog.info? 99).map (·.size) = some S.length) := by show _ = _; rw [hS]; exact shareInfo'
 have J2' : Hid ((Tryz.prog.info? 99).map (·.size) = some T.length) := by show _ = _; rw [hT]; exact shareInfo'
 have HR' := Lib.hid HR
 have C1 : X[0]? = some (.bool b) := by rw [hX]; rfl
 have C2 : Y[0]? = some (.bool b) := by rw [hY]; rfl
 have R1 : Hid (∀ j x, S[j]? = some x → X[1 + j]? = some x) := by intro j x h; rw [hS] at h; rw [hX]; exact sub_range j x h
 have R2 : Hid (∀ j x, T[j]? = some x → Y[1 + j]? = some x) := by intro j x h; rw [hT] at h; rw [hY]; exact sub_range j x h
 rw [← hX, ← hY, hz]
 clear hX hY hS hT HR HC h1 h2 h3 h4 ok1 ok2 hne hz
 go_enter Tryz.func84, Tryz.ntmps84
 go_upto_region 1 with (fail)
 refine name2 (Q := fun W => Code.wp _ _ _ _ W) ?_
 intro W hl hs k1 k2
 have d1 := (k1.cell 0).trans C1
 have d2 := (k2.cell 0).trans C2
 have g1 := k1.range (o := 1) S R1.out
 have g2 := k2.range (o := 1) T R2.out
 clear C1 C2 R1 R2
 cases b
 all_goals
  go_wp2_with (first
   | (refine wpList_get rfl 124 (.tmp 2) (by rfl) w.heap.size (by rfl) k1 _ Tryz.underlying124 rfl I1'.out ?_)
   | (refine wpList_get rfl 124 (.tmp 3) (by rfl) (w.heap.size + 1) (by rfl) k2 _ Tryz.underlying124 rfl I2'.out ?_)
   | (refine wpList_bin rfl .eql 124 124 (.tmp 8) (.tmp 9) (by rfl) X Y (.bool false) (by rfl) (by rfl) (by kernel_rfl) (HR'.out _) ?_)
   | (refine wpList_load_mid (by rfl) 99 (.tmp 28) (by rfl) w.heap.size 1 (by rfl) S _ g1 Tryz.underlying99 rfl J1'.out ?_)
   | (refine wpList_load_mid (by rfl) 99 (.tmp 30) (by rfl) (w.heap.size + 1) 1 (by rfl) T _ g2 Tryz.underlying99 rfl J2'.out ?_))
  refine (HC' W).mono ?_
  rintro e w1 ⟨rfl, l1⟩
  go_wp2
  go_ret
  exact ⟨rfl, hl.trans l1⟩
theorem cmp_any (b1 b2 : Bool) (u1 v1 u2 v2 : W8) (h1 : u1.ok) (h2 : v1.ok) (h3 : u2.ok) (h4 : v2.ok) (ok1 : ShOk u1.toInt v1.toInt) (ok2 : ShOk u2.toInt v2.toInt) (w : World) :
  Calls Tryz.prog 84 #[.agg #[.bool b1, .int .u64 u1.a0, .int .u64 u1.a1, .int .u64 u1.a2, .int .u64 u1.a3, .int .u64 u1.a4, .int .u64 u1.a5, .int .u64 u1.a6, .int .u64 u1.a7, .int .u64 v1.a0, .int .u64 v1.a1, .int .u64 v1.a2, .int .u64 v1.a3, .int .u64 v1.a4, .int .u64 v1.a5, .int .u64 v1.a6, .int .u64 v1.a7], .agg #[.bool b2, .int .u64 u2.a0, .int .u64 u2.a1, .int .u64 u2.a2, .int .u64 u2.a3, .int .u64 u2.a4, .int .u64 u2.a5, .int .u64 u2.a6, .int .u64 u2.a7, .int .u64 v2.a0, .int .u64 v2.a1, .int .u64 v2.a2, .int .u64 v2.a3, .int .u64 v2.a4, .int .u64 v2.a5, .int .u64 v2.a6, .int .u64 v2.a7]] w (fun e w' => e = .returned (.int .i64 (cmpV b1 u1 v1 b2 u2 v2)) ∧ Lat w w') := by
 by_cases hb : b1 = b2
 ·subst hb
  have e : cmpV b1 u1 v1 b1 u2 v2 = sideOf (u1.toInt * v2.toInt - u2.toInt * v1.toInt) := by rw [cmpV, if_pos rfl]
  rw [e]
  by_cases hs : u1 = u2 ∧ v1 = v2
  ·obtain ⟨rfl, rfl⟩ := hs
   have : sideOf (u1.toInt * v1.toInt - u1.toInt * v1.toInt) = 0 := by rw [Int.sub_self]; rfl
   rw [this]
   exact cmp_same b1 u1 v1 h1 h2 w
  ·exact cmp_diff b1 u1 v1 u2 v2 h1 h2 h3 h4 ok1 ok2 hs w
 ·have e : cmpV b1 u1 v1 b2 u2 v2 = if b1 then 1 else -1 := by rw [cmpV, if_neg hb]
  have hb2 : b2 = !b1 := by cases b1 <;> cases b2 <;> simp at hb ⊢
  subst hb2
  rw [e]
  exact cmp_endless b1 u1 v1 u2 v2 h1 h2 h3 h4 w
theorem cmpV_rank {m p s q t : Int} {b1 b2 : Bool} {u1 v1 u2 v2 : W8} (h1 : RankV m p s b1 u1 v1) (h2 : RankV m q t b2 u2 v2) (p0 : 0 ≤ p) (p1 : p ≤ 1000000000) (q0 : 0 ≤ q) (q1 : q ≤ 1000000000) (s0 : 0 ≤ s) (s1 : s ≤ 1000) (t0 : 0 ≤ t) (t1 : t ≤ 1000) :
  cmpV b1 u1 v1 b2 u2 v2 = cmpR m p s q t := by
 have F1 : Fits p 1 := fits_small (by omega) (by omega) (by omega) (by omega)
 have F2 : Fits q 1 := fits_small (by omega) (by omega) (by omega) (by omega)
 rcases h1 with ⟨z1, rfl, e1⟩ | ⟨z1, rfl, e1⟩ <;> rcases h2 with ⟨z2, rfl, e2⟩ | ⟨z2, rfl, e2⟩
 ·obtain ⟨_, _, a1, a2, _⟩ := e1.facts F1
  obtain ⟨_, _, a3, a4, _⟩ := e2.facts F2
  rw [cmpV, if_pos rfl, cmpR, if_pos z1, if_pos z2, a1, a2, a3, a4, side_low F1.1 F2.1]
  congr 1; omega
 ·have e : cmpV true u1 v1 false u2 v2 = 1 := by simp [cmpV]
  rw [e, cmpR, if_pos z1, if_neg (by omega)]
 ·have e : cmpV false u1 v1 true u2 v2 = -1 := by simp [cmpV]
  rw [e, cmpR, if_neg (by omega), if_pos z2]
 ·have G1 := rank_fits (m := m) p0 p1 s0 s1 z1
  have G2 := rank_fits (m := m) q0 q1 t0 t1 z2
  obtain ⟨_, _, a1, a2, _⟩ := e1.facts G1
  obtain ⟨_, _, a3, a4, _⟩ := e2.facts G2
  rw [cmpV, if_pos rfl, cmpR, if_neg (by omega), if_neg (by omega), a1, a2, a3, a4, side_low G1.1 G2.1]
end Go.Proofs.YteocdndanehpnaaGreat
