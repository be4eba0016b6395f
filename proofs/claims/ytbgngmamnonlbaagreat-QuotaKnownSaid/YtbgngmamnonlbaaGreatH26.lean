/- Several texts in one: Eq. -/
import Derived.Test.YtbgngmamnonlbaaGreatH23
import Derived.Test.YtbgngmamnonlbaaGreatH08
import Derived.Test.YtbgngmamnonlbaaGreatProg
import Derived.DeepKeys
namespace Go.Proofs.YtbgngmamnonlbaaGreat
open Go.RowKit
def litsW (u : W8) : List Lit := u.list.map (Lit.int .u64)
theorem litsW_inj {u v : W8} : litsW u = litsW v ↔ u = v := by
 constructor
 ·intro h
  simp only [litsW, W8.list, List.map_cons, List.map_nil, List.cons.injEq, Lit.int.injEq, true_and, and_true] at h
  obtain ⟨h0, h1, h2, h3, h4, h5, h6, h7⟩ := h
  exact W8.ext h0 h1 h2 h3 h4 h5 h6 h7
 ·intro h; rw [h]
theorem wf64 {n : Int} (h : 0 ≤ n ∧ n < W64) : (Lit.int .u64 n).wf = true := by
 unfold W64 at h
 have e1 : IntKind.u64.min = 0 := by decide
 have e2 : IntKind.u64.max = 18446744073709551615 := by decide
 simp [Lit.wf, e1, e2]
 omega
theorem cells28 : Tryz.prog.cellsOf 38 = 1 := by kernel_rfl
theorem cells30 : Tryz.prog.cellsOf 40 = 8 := by kernel_rfl
theorem cells32 : Tryz.prog.cellsOf 42 = 16 := by kernel_rfl
theorem key28 {n : Int} (h : 0 ≤ n ∧ n < W64) (d : Nat) : Tryz.prog.keyLits (d + 1) 38 [.int .u64 n] = some [.int .u64 n] := by
 have hw := wf64 h
 unfold Program.keyLits
 rw [Tryz.underlying38]
 simp [hw]
theorem key30 {u : W8} (h : u.ok) (d : Nat) : Tryz.prog.keyLits (d + 2) 40 [.int .u64 u.a0, .int .u64 u.a1, .int .u64 u.a2, .int .u64 u.a3, .int .u64 u.a4, .int .u64 u.a5, .int .u64 u.a6, .int .u64 u.a7] = some (litsW u) := by
 have h0 := key28 h.at0 d
 have h1 := key28 h.at1 d
 have h2 := key28 h.at2 d
 have h3 := key28 h.at3 d
 have h4 := key28 h.at4 d
 have h5 := key28 h.at5 d
 have h6 := key28 h.at6 d
 have h7 := key28 h.at7 d
 unfold Program.keyLits
 rw [Tryz.underlying40]
 simp [cells28, cells30, List.range, List.range.loop, h0, h1, h2, h3, h4, h5, h6, h7, litsW, W8.list]
theorem key32 {u v : W8} (hu : u.ok) (hv : v.ok) (d : Nat) : Tryz.prog.keyLits (d + 3) 42 [.int .u64 u.a0, .int .u64 u.a1, .int .u64 u.a2, .int .u64 u.a3, .int .u64 u.a4, .int .u64 u.a5, .int .u64 u.a6, .int .u64 u.a7, .int .u64 v.a0, .int .u64 v.a1, .int .u64 v.a2, .int .u64 v.a3, .int .u64 v.a4, .int .u64 v.a5, .int .u64 v.a6, .int .u64 v.a7] = some (litsW u ++ litsW v) := by
 have h0 := key30 hu d
 have h1 := key30 hv d
 unfold Program.keyLits
 rw [Tryz.underlying42]
 simp [cells30, cells32, h0, h1]
theorem share_eq {u1 v1 u2 v2 : W8} (h1 : u1.ok) (h2 : v1.ok) (h3 : u2.ok) (h4 : v2.ok) (w : World) : ∃ r : Bool, (Op.equalIn 10000 42 (.agg #[.int .u64 u1.a0, .int .u64 u1.a1, .int .u64 u1.a2, .int .u64 u1.a3, .int .u64 u1.a4, .int .u64 u1.a5, .int .u64 u1.a6, .int .u64 u1.a7, .int .u64 v1.a0, .int .u64 v1.a1, .int .u64 v1.a2, .int .u64 v1.a3, .int .u64 v1.a4, .int .u64 v1.a5, .int .u64 v1.a6, .int .u64 v1.a7]) (.agg #[.int .u64 u2.a0, .int .u64 u2.a1, .int .u64 u2.a2, .int .u64 u2.a3, .int .u64 u2.a4, .int .u64 u2.a5, .int .u64 u2.a6, .int .u64 u2.a7, .int .u64 v2.a0, .int .u64 v2.a1, .int .u64 v2.a2, .int .u64 v2.a3, .int .u64 v2.a4, .int .u64 v2.a5, .int .u64 v2.a6, .int .u64 v2.a7])).run Tryz.prog w = .ok r w ∧ (r = true ↔ u1 = u2 ∧ v1 = v2) := by
 obtain ⟨r, hr, hi⟩ := run_equalIn_deep (P := Tryz.prog) 9990 10 42 (by kernel_rfl) w 10 10 (.agg #[.int .u64 u1.a0, .int .u64 u1.a1, .int .u64 u1.a2, .int .u64 u1.a3, .int .u64 u1.a4, .int .u64 u1.a5, .int .u64 u1.a6, .int .u64 u1.a7, .int .u64 v1.a0, .int .u64 v1.a1, .int .u64 v1.a2, .int .u64 v1.a3, .int .u64 v1.a4, .int .u64 v1.a5, .int .u64 v1.a6, .int .u64 v1.a7]) (.agg #[.int .u64 u2.a0, .int .u64 u2.a1, .int .u64 u2.a2, .int .u64 u2.a3, .int .u64 u2.a4, .int .u64 u2.a5, .int .u64 u2.a6, .int .u64 u2.a7, .int .u64 v2.a0, .int .u64 v2.a1, .int .u64 v2.a2, .int .u64 v2.a3, .int .u64 v2.a4, .int .u64 v2.a5, .int .u64 v2.a6, .int .u64 v2.a7]) _ _ (by kernel_rfl) (by kernel_rfl) (key32 h1 h2 7) (key32 h3 h4 7)
 refine ⟨r, hr, ?_⟩
 rw [hi]
 constructor
 ·intro h
  obtain ⟨h3, h4⟩ := List.append_inj h rfl
  exact ⟨litsW_inj.1 h3, litsW_inj.1 h4⟩
 ·rintro ⟨rfl, rfl⟩; rfl
theorem wpList_bin {P : Program} {ops : Array Oper} {rest : List Oper} {o : Oper} {a : Act} {w : World} {Q : Exit → Act → World → Prop} (hgd : o.guard = none) (op : BinOp) (t t2 : TypeId) (x y : Operand) (ho : o.op = .binOp op t x y t2)
  (X Y : Array Value) (V : Value) (hx : a.eval x = .agg X) (hy : a.eval y = .agg Y) (hm : P.eqGuardType P.depth t = false) (hrun : (binOp op t (.agg X) (.agg Y)).run P w = .ok V w)
  (h : wpList P ops Q rest (a.put o.dst V) w) : wpList P ops Q (o :: rest) a w := by
 refine wpList_plain hgd fun K hK => ?_
 unfold Oper.wp execOp
 have hg := run_eqGuard_agg (P := P) w op t x y X Y hm
 simp [ho, hx, hy, hg, hrun, Result.andThen]
 exact hK _ _ h
end Go.Proofs.YtbgngmamnonlbaaGreat
