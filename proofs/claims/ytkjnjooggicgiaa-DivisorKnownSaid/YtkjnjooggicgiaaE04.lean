/- Several texts in one: WakeK. -/
import Derived.Test.YtkjnjooggicgiaaJ38
import Derived.Test.YtkjnjooggicgiaaE03
import Derived.Test.YtkjnjooggicgiaaJ44

/- The statements' own examples, which every statement of the chapter asks first. -/
namespace Go.Proofs.Ytkjnjooggicgiaa
open Go.RowKit Go.Shelf
set_option linter.unusedSimpArgs false

/-- A binary operation that is guarded, and wanted, and whose run is known. -/
theorem wpList_binG {P : Program} {ops : Array Oper} {rest : List Oper} {o : Oper} {a : Act} {w : World} {Q : Exit → Act → World → Prop} (hw : Region.wanted o (yielded ops a.tmps) = true) (op : BinOp) (t t2 : TypeId) (x y : Operand) (ho : o.op = .binOp op t x y t2)
    (X Y : Array Value) (V : Value) (hx : a.eval x = .agg X) (hy : a.eval y = .agg Y) (hm : P.eqGuardType P.depth t = false) (hrun : (binOp op t (.agg X) (.agg Y)).run P w = .ok V w)
    (h : wpList P ops Q rest (a.put o.dst V) w) : wpList P ops Q (o :: rest) a w := by
  refine Go.BigFrame.wpList_want hw fun K hK => ?_
  unfold Oper.wp execOp
  have hg := run_eqGuard_agg (P := P) w op t x y X Y hm
  simp [ho, hx, hy, hg, hrun, Result.andThen]
  exact hK _ _ h


/-- What a call of 'gives' answers that says yes. -/
def Yes (w : World) (e : Ending) (w' : World) : Prop := e = .returned (.bool true) ∧ Lat w w'
theorem gives_yes (A : Option Addr) (n c : Nat) (P : List Int) (Al : Option Addr) (nl cl : Nat) (Lx : List Int) (seats m : Int) (A3 : Option Addr) (n3 c3 : Nat) (S2 : List Int) (A4 : Option Addr) (n4 c4 : Nat) (T2 : List Int) (o2 : Int)
    (hk : giveE P seats m Lx = 0 ∧ sameB (giveF P seats m Lx).seats (ints (giveF P seats m Lx).tied) (giveF P seats m Lx).left S2 T2 o2 = true ∧ (giveF P seats m Lx).seats.length ≤ 100 ∧ (giveF P seats m Lx).tied.length ≤ 100 ∧ n ≤ 100 ∧ nl ≤ 100 ∧ n3 ≤ 100 ∧ n4 ≤ 100) (w : World)
    (hs : Sl w .i64 A n P) (hl : Sl w .i64 Al nl Lx) (h3 : Sl w .i64 A3 n3 S2) (h4 : Sl w .i64 A4 n4 T2) :
    Calls Try.prog 11 #[.slice A n c, .int .i64 seats, .int .i64 m, .slice Al nl cl, .agg #[.slice A3 n3 c3, .slice A4 n4 c4, .int .i64 o2]] w (Yes w) := by
  obtain ⟨k1, k2, k3, k4, k5, k6, k7, k8⟩ := hk
  refine (gives_any A n c P Al nl cl Lx seats m A3 n3 c3 S2 A4 n4 c4 T2 o2 w hs hl (by omega) (by omega) h3 h4 (by omega) (by omega) k1 (by omega) (by omega)).mono ?_
  rintro e w' ⟨rfl, l⟩
  exact ⟨by rw [k2], l⟩

theorem equal_yes (A1 : Option Addr) (n1 c1 : Nat) (xs : List Int) (A2 : Option Addr) (n2 c2 : Nat) (w : World) (h1 : Sl w .i64 A1 n1 xs) (h2 : Sl w .i64 A2 n2 xs) (hn : n1 ≤ 100) :
    Calls Try.prog 12 #[.slice A1 n1 c1, .slice A2 n2 c2] w (Yes w) := by
  have e1 := h1.1
  have e2 := h2.1
  refine (equal_any A1 n1 c1 xs A2 n2 c2 xs w h1 h2 (by omega) (by omega)).mono ?_
  rintro e w' ⟨rfl, l⟩
  exact ⟨by rw [beq_self_eq_true], l⟩
theorem lit_post1 : postX 12 1 = shA 4 3 ∧ postE 12 1 = 0 := by constructor <;> kernel_rfl
theorem lit_post2 : postX 13 1 = shA 2 1 ∧ postE 13 1 = 0 := by constructor <;> kernel_rfl
theorem lit_rank1 : rankX 13 9 1 = shA 81 2 ∧ rankE 13 9 1 = 0 := by constructor <;> kernel_rfl
theorem lit_rank2 : rankE 11 9 0 = 7 := by kernel_rfl
theorem lit_above1 : aboveV 13 9 1 6 0 = -1 ∧ aboveE 13 9 1 6 0 = 0 := by constructor <;> kernel_rfl
theorem lit_above2 : aboveV 11 5 0 4 0 = 1 ∧ aboveE 11 5 0 4 0 = 0 := by constructor <;> kernel_rfl
theorem lit_above3 : aboveV 15 4 1 2 0 = 0 ∧ aboveE 15 4 1 2 0 = 0 := by constructor <;> kernel_rfl
theorem lit_order1 : ints (giveF [9, 5, 3] 3 14 []).order = [0, 1] ∧ giveE [9, 5, 3] 3 14 [] = 0 := by constructor <;> decide +kernel
theorem lit_order2 : ints (giveF [9, 5, 3] 4 14 []).order = [0, 1, 0, 2] ∧ giveE [9, 5, 3] 4 14 [] = 0 := by constructor <;> decide +kernel
theorem lit_give1 : giveE [9, 5, 3] 5 15 [] = 0 ∧ sameB (giveF [9, 5, 3] 5 15 []).seats (ints (giveF [9, 5, 3] 5 15 []).tied) (giveF [9, 5, 3] 5 15 []).left [3, 1, 1] [] 0 = true ∧ (giveF [9, 5, 3] 5 15 []).seats.length ≤ 100 ∧ (giveF [9, 5, 3] 5 15 []).tied.length ≤ 100 ∧ 3 ≤ 100 ∧ 0 ≤ 100 ∧ 3 ≤ 100 ∧ 0 ≤ 100 := by decide +kernel
theorem lit_give2 : giveE [9, 5, 3] 5 11 [] = 0 ∧ sameB (giveF [9, 5, 3] 5 11 []).seats (ints (giveF [9, 5, 3] 5 11 []).tied) (giveF [9, 5, 3] 5 11 []).left [2, 2, 1] [] 0 = true ∧ (giveF [9, 5, 3] 5 11 []).seats.length ≤ 100 ∧ (giveF [9, 5, 3] 5 11 []).tied.length ≤ 100 ∧ 3 ≤ 100 ∧ 0 ≤ 100 ∧ 3 ≤ 100 ∧ 0 ≤ 100 := by decide +kernel
theorem lit_give3 : giveE [6, 6] 3 14 [] = 0 ∧ sameB (giveF [6, 6] 3 14 []).seats (ints (giveF [6, 6] 3 14 []).tied) (giveF [6, 6] 3 14 []).left [1, 1] [0, 1] 1 = true ∧ (giveF [6, 6] 3 14 []).seats.length ≤ 100 ∧ (giveF [6, 6] 3 14 []).tied.length ≤ 100 ∧ 2 ≤ 100 ∧ 0 ≤ 100 ∧ 2 ≤ 100 ∧ 2 ≤ 100 := by decide +kernel
theorem lit_give4 : giveE [9, 5, 3] 2 11 [] = 0 ∧ sameB (giveF [9, 5, 3] 2 11 []).seats (ints (giveF [9, 5, 3] 2 11 []).tied) (giveF [9, 5, 3] 2 11 []).left [1, 1, 0] [] 0 = true ∧ (giveF [9, 5, 3] 2 11 []).seats.length ≤ 100 ∧ (giveF [9, 5, 3] 2 11 []).tied.length ≤ 100 ∧ 3 ≤ 100 ∧ 0 ≤ 100 ∧ 3 ≤ 100 ∧ 0 ≤ 100 := by decide +kernel
theorem lit_give5 : giveE [9, 5, 3] 4 14 [0, 0, 2] = 0 ∧ sameB (giveF [9, 5, 3] 4 14 [0, 0, 2]).seats (ints (giveF [9, 5, 3] 4 14 [0, 0, 2]).tied) (giveF [9, 5, 3] 4 14 [0, 0, 2]).left [1, 1, 2] [] 0 = true ∧ (giveF [9, 5, 3] 4 14 [0, 0, 2]).seats.length ≤ 100 ∧ (giveF [9, 5, 3] 4 14 [0, 0, 2]).tied.length ≤ 100 ∧ 3 ≤ 100 ∧ 3 ≤ 100 ∧ 3 ≤ 100 ∧ 0 ≤ 100 := by decide +kernel

set_option maxRecDepth 100000 in
set_option maxHeartbeats 4000000 in
theorem wakes_any (w : World) : Calls Try.prog 4 #[] w (Yes w) := by
  have HP1 := fun w => dPostX 12 1 w
  have HP2 := fun w => dPostX 13 1 w
  have HR1 := fun w => dRankX 13 9 1 w
  have HR2 := fun w => dRankX 11 9 0 w
  have HA1 := fun w => dAboveX 13 9 1 6 0 w
  have HA2 := fun w => dAboveX 11 5 0 4 0 w
  have HA3 := fun w => dAboveX 15 4 1 2 0 w
  have HO1 := fun A c w (h : Sl w .i64 A 3 [9, 5, 3]) => dOrder_any A 3 c [9, 5, 3] none 0 0 [] 3 14 w h (Sl.nil _ _ _) (by decide) (by decide)
  have HO2 := fun A c w (h : Sl w .i64 A 3 [9, 5, 3]) => dOrder_any A 3 c [9, 5, 3] none 0 0 [] 4 14 w h (Sl.nil _ _ _) (by decide) (by decide)
  have HF1 := fun w => law_of 4 3 w (by decide) (by decide) (by decide) (by decide)
  have HF2 := fun w => law_of 2 1 w (by decide) (by decide) (by decide) (by decide)
  have HF3 := fun w => law_of 81 2 w (by decide) (by decide) (by decide) (by decide)
  rw [lit_post1.1, lit_post1.2] at HP1
  rw [lit_post2.1, lit_post2.2] at HP2
  rw [lit_rank1.1, lit_rank1.2] at HR1
  rw [lit_rank2] at HR2
  rw [lit_above1.1, lit_above1.2] at HA1
  rw [lit_above2.1, lit_above2.2] at HA2
  rw [lit_above3.1, lit_above3.2] at HA3
  have O1 := Lib.hid lit_order1.1
  have O2 := Lib.hid lit_order2.1
  rw [lit_order1.2] at HO1
  rw [lit_order2.2] at HO2
  have G1 := shA_good 4 3
  have G2 := shA_good 2 1
  have G3 := shA_good 81 2
  have G4 := rankX_good 11 9 0
  obtain ⟨F1, hF1⟩ : ∃ F, giveF [9, 5, 3] 3 14 [] = F := ⟨_, rfl⟩
  obtain ⟨F2, hF2⟩ : ∃ F, giveF [9, 5, 3] 4 14 [] = F := ⟨_, rfl⟩
  rw [hF1] at HO1 O1
  rw [hF2] at HO2 O2
  obtain ⟨X1, hX1⟩ : ∃ X, shA 4 3 = X := ⟨_, rfl⟩
  obtain ⟨X2, hX2⟩ : ∃ X, shA 2 1 = X := ⟨_, rfl⟩
  obtain ⟨X3, hX3⟩ : ∃ X, shA 81 2 = X := ⟨_, rfl⟩
  obtain ⟨X4, hX4⟩ : ∃ X, rankX 11 9 0 = X := ⟨_, rfl⟩
  rw [hX1] at HP1 HF1 G1
  rw [hX2] at HP2 HF2 G2
  rw [hX3] at HR1 HF3 G3
  rw [hX4] at HR2 G4
  have E1 := fun w => G1.eql w
  have E2 := fun w => G2.eql w
  have E3 := fun w => G3.eql w
  have i1 : Hid ((Try.prog.info? 29).map (·.size) = some X1.size) := by show _ = _; rw [G1.1]; exact shareInfo16
  have i2 : Hid ((Try.prog.info? 29).map (·.size) = some X2.size) := by show _ = _; rw [G2.1]; exact shareInfo16
  have i3 : Hid ((Try.prog.info? 29).map (·.size) = some X3.size) := by show _ = _; rw [G3.1]; exact shareInfo16
  have i4 : Hid ((Try.prog.info? 29).map (·.size) = some X4.size) := by show _ = _; rw [G4.1]; exact shareInfo16
  have z1 := Lib.hid G1.1
  have z2 := Lib.hid G2.1
  have z3 := Lib.hid G3.1
  have z4 := Lib.hid G4.1
  have c1 := Lib.hid G1.2.1
  have c2 := Lib.hid G2.2.1
  have c3 := Lib.hid G3.2.1
  have c4 := Lib.hid G4.2.1
  have hgd := Lib.hid shGuard
  clear G1 G2 G3 G4 hX1 hX2 hX3 hX4 hF1 hF2
  go_enter Try.func4, Try.ntmps4
  go_wp2_with fail
  refine name1 (Q := fun W => Calls _ _ _ W _) ?_
  intro W1 L1 hs1 k1
  refine (HP1 W1).mono ?_
  rintro e V1 ⟨rfl, l1⟩
  have K0 := Blk.new V1 29 #[.int .u64 W8.zero.a0, .int .u64 W8.zero.a1, .int .u64 W8.zero.a2, .int .u64 W8.zero.a3, .int .u64 W8.zero.a4, .int .u64 W8.zero.a5, .int .u64 W8.zero.a6, .int .u64 W8.zero.a7, .int .u64 W8.zero.a0, .int .u64 W8.zero.a1, .int .u64 W8.zero.a2, .int .u64 W8.zero.a3, .int .u64 W8.zero.a4, .int .u64 W8.zero.a5, .int .u64 W8.zero.a6, .int .u64 W8.zero.a7]
  go_wp2_with (refine wpList_put rfl 29 (.tmp 2) (.tmp 23) (by rfl) (by rfl) V1.heap.size (by rfl) X1 (by rfl) K0 (by rw [z1.out]; rfl) i1.out c1.out ?_; intro W2 hput; have B1 := hput.blk; have m1 := hput.lat W1 (l1.trans (Lat.alloc _ _)) (by have := l1.size; omega))
  have L2 := L1.trans m1
  have k2 := k1.later m1
  clear K0 hput l1 m1 HP1
  refine (HP2 W2).mono ?_
  rintro e V2 ⟨rfl, l2⟩
  have K0 := Blk.new V2 29 #[.int .u64 W8.zero.a0, .int .u64 W8.zero.a1, .int .u64 W8.zero.a2, .int .u64 W8.zero.a3, .int .u64 W8.zero.a4, .int .u64 W8.zero.a5, .int .u64 W8.zero.a6, .int .u64 W8.zero.a7, .int .u64 W8.zero.a0, .int .u64 W8.zero.a1, .int .u64 W8.zero.a2, .int .u64 W8.zero.a3, .int .u64 W8.zero.a4, .int .u64 W8.zero.a5, .int .u64 W8.zero.a6, .int .u64 W8.zero.a7]
  go_wp2_with (refine wpList_put rfl 29 (.tmp 4) (.tmp 27) (by rfl) (by rfl) V2.heap.size (by rfl) X2 (by rfl) K0 (by rw [z2.out]; rfl) i2.out c2.out ?_; intro W3 hput; have B2 := hput.blk; have m2 := hput.lat W2 (l2.trans (Lat.alloc _ _)) (by have := l2.size; omega))
  have L3 := L2.trans m2
  have k3 := k2.later m2
  have B1 := B1.later m2
  clear K0 hput l2 m2 HP2
  refine (HR1 W3).mono ?_
  rintro e V3 ⟨rfl, l3⟩
  have K0 := Blk.new V3 29 #[.int .u64 W8.zero.a0, .int .u64 W8.zero.a1, .int .u64 W8.zero.a2, .int .u64 W8.zero.a3, .int .u64 W8.zero.a4, .int .u64 W8.zero.a5, .int .u64 W8.zero.a6, .int .u64 W8.zero.a7, .int .u64 W8.zero.a0, .int .u64 W8.zero.a1, .int .u64 W8.zero.a2, .int .u64 W8.zero.a3, .int .u64 W8.zero.a4, .int .u64 W8.zero.a5, .int .u64 W8.zero.a6, .int .u64 W8.zero.a7]
  go_wp2_with (refine wpList_put rfl 29 (.tmp 6) (.tmp 31) (by rfl) (by rfl) V3.heap.size (by rfl) X3 (by rfl) K0 (by rw [z3.out]; rfl) i3.out c3.out ?_; intro W4 hput; have B3 := hput.blk; have m3 := hput.lat W3 (l3.trans (Lat.alloc _ _)) (by have := l3.size; omega))
  have L4 := L3.trans m3
  have k4 := k3.later m3
  have B1 := B1.later m3
  have B2 := B2.later m3
  clear K0 hput l3 m3 HR1
  refine (HR2 W4).mono ?_
  rintro e V4 ⟨rfl, l4⟩
  have K0 := Blk.new V4 29 #[.int .u64 W8.zero.a0, .int .u64 W8.zero.a1, .int .u64 W8.zero.a2, .int .u64 W8.zero.a3, .int .u64 W8.zero.a4, .int .u64 W8.zero.a5, .int .u64 W8.zero.a6, .int .u64 W8.zero.a7, .int .u64 W8.zero.a0, .int .u64 W8.zero.a1, .int .u64 W8.zero.a2, .int .u64 W8.zero.a3, .int .u64 W8.zero.a4, .int .u64 W8.zero.a5, .int .u64 W8.zero.a6, .int .u64 W8.zero.a7]
  go_wp2_with (refine wpList_put rfl 29 (.tmp 8) (.tmp 35) (by rfl) (by rfl) V4.heap.size (by rfl) X4 (by rfl) K0 (by rw [z4.out]; rfl) i4.out c4.out ?_; intro W5 hput; have B4 := hput.blk; have m4 := hput.lat W4 (l4.trans (Lat.alloc _ _)) (by have := l4.size; omega))
  have L5 := L4.trans m4
  have k5 := k4.later m4
  have B1 := B1.later m4
  have B2 := B2.later m4
  have B3 := B3.later m4
  clear K0 hput l4 m4 HR2
  refine (HA1 W5).mono ?_
  rintro e W6 ⟨rfl, l5⟩
  have L6 := L5.trans l5
  have k6 := k5.later l5
  have B1 := B1.later l5
  have B2 := B2.later l5
  have B3 := B3.later l5
  clear L5 k5
  clear HA1 l5
  go_wp2_with fail
  refine (HA2 W6).mono ?_
  rintro e W7 ⟨rfl, l6⟩
  have L7 := L6.trans l6
  have k7 := k6.later l6
  have B1 := B1.later l6
  have B2 := B2.later l6
  have B3 := B3.later l6
  clear L6 k6
  clear HA2 l6
  go_wp2_with fail
  refine (HA3 W7).mono ?_
  rintro e W8 ⟨rfl, l7⟩
  have L8 := L7.trans l7
  have k8 := k7.later l7
  have B1 := B1.later l7
  have B2 := B2.later l7
  have B3 := B3.later l7
  clear L7 k7
  clear HA3 l7
  go_wp2_with fail
  refine (HO1 _ _ W8 (Sl.of_blk' (t := 3) k8 rfl)).mono ?_
  rintro e W9 ⟨A1, n1, d1, rfl, q1, l8⟩
  have L9 := L8.trans l8
  have k9 := k8.later l8
  have B1 := B1.later l8
  have B2 := B2.later l8
  have B3 := B3.later l8
  clear L8 k8
  have y1 := q1.1
  clear HO1 l8
  go_wp2_with fail
  refine (HO2 _ _ W9 (Sl.of_blk' (t := 3) k9 rfl)).mono ?_
  rintro e W10 ⟨A2, n2, d2, rfl, q2, l9⟩
  have L10 := L9.trans l9
  have k10 := k9.later l9
  have B1 := B1.later l9
  have B2 := B2.later l9
  have B3 := B3.later l9
  clear L9 k9
  have q1 := q1.later l9
  have y2 := q2.1
  rw [O1.out] at q1
  rw [O2.out] at q2
  rw [O1.out] at y1
  rw [O2.out] at y2
  clear HO2 l9
  obtain rfl : n1 = 2 := y1.symm
  obtain rfl : n2 = 4 := y2.symm
  clear y1 y2 O1 O2
  obtain ⟨Y1, rfl⟩ : ∃ Y : List Value, X1 = Y.toArray := ⟨X1.toList, by simp⟩
  obtain ⟨Y2, rfl⟩ : ∃ Y : List Value, X2 = Y.toArray := ⟨X2.toList, by simp⟩
  obtain ⟨Y3, rfl⟩ : ∃ Y : List Value, X3 = Y.toArray := ⟨X3.toList, by simp⟩
  go_wp2_with fail
  rename_i KN hKN
  have HEND : ∀ (a : Act) (W : World) (LL : List (Nat × Value)), Has a 162 ((0, .bool true) :: LL) → Lat W10 W → KN a W := fun a W LL HA hl => hKN _ _ (by
    have h0 := HA.at' 0 (.bool true) rfl
    refine wp_ret ?_
    refine bodyPost_ret (v := .bool true) (by simp [results, Try.results4, go_sem, h0]) HA.defers ?_
    exact ⟨rfl, L10.trans hl⟩)
  clear hKN
  have R1 : ∀ w', Lat W10 w' → w'.rangeAt V1.heap.size 0 Y1 := fun w' hl => (B1.later hl).rangeAll
  have J1 : (Try.prog.info? 29).map (·.size) = some Y1.length := by have := i1.out; simpa using this
  have R2 : ∀ w', Lat W10 w' → w'.rangeAt V2.heap.size 0 Y2 := fun w' hl => (B2.later hl).rangeAll
  have J2 : (Try.prog.info? 29).map (·.size) = some Y2.length := by have := i2.out; simpa using this
  have R3 : ∀ w', Lat W10 w' → w'.rangeAt V3.heap.size 0 Y3 := fun w' hl => (B3.later hl).rangeAll
  have J3 : (Try.prog.info? 29).map (·.size) = some Y3.length := by have := i3.out; simpa using this
  clear B1 B2 B3 i1 i2 i3 i4 z1 z2 z3 z4 c1 c2 c3 c4
  refine startM (S := fun w' => Lat W10 w') 104 [[],[],[0,1],[2,1],[3],[4,3],[3,5],[6,3],[7],[7,7],[8,9,7],[7,10],[11,9],[12],[13,12],[12,14],[15,12],[16],[16,16],[17,18,16],[16,19],[20,18],[21],[22,21],[21,23],[24,21],[25],[26,25],[25,27],[28,25],[29],[30,29],[29,31],[32,29],[33],[34,33],[33,35],[36,33],[37],[38,37],[37,39],[40,37],[41],[42,41],[41,43],[44,41],[45],[46,45],[45,47],[48,45],[49],[50,49],[49,51],[52,49],[53],[53],[54,55,53,53],[53,56],[57,56],[58],[59,58],[58,60],[61,58],[62],[62],[63,64,62,62],[62,65],[66,65],[67],[68,67],[67,69],[70,67],[71],[71],[73,71],[72,74,71,71],[71,75],[76,75],[77],[77],[79,77],[78,80,77,77],[77,81],[82,81],[83],[83],[83],[85,86,83],[84,87,83,83],[83,88],[89,88],[90],[90],[92,90],[91,93,90,90],[90,94],[95,94],[96],[96],[96],[99,96],[97,98,100,96,96],[96,101],[102,101,0,1,2,3,4,5,6,7,8,9,10,11,12,13,14,15,16,17,18,19,20,21,22,23,24,25,26,27,28,29,30,31,32,33,34,35,36,37,38,39,40,41,42,43,44,45,46,47,48,49,50,51,52,53,54,55,56,57,58,59,60,61,62,63,64,65,66,67,68,69,70,71,72,73,74,75,76,77,78,79,80,81,82,83,84,85,86,87,88,89,90,91,92,93,94,95,96,97,98,99,100,101,102]]
    [(.load 29 (.tmp 2), some 59, none), (.call ⟨.value (.func 8), #[.const (.int .i64 4), .const (.int .i64 3)], #[3, 3]⟩, some 60, none), (.binOp .eql 29 (.tmp 59) (.tmp 60) 29, some 61, none), (.move (.tmp 61), some 62, none), (.move (.tmp 3), some 63, some (3, true)), (.binOp .eql 30 (.tmp 63) (.const (.int .i64 (0))) 30, some 64, some (3, true)), (.pick (.tmp 62) (.tmp 64) (.const (.bool false)), some 65, none), (.move (.tmp 65), some 66, none), (.load 29 (.tmp 4), some 67, some (7, true)), (.call ⟨.value (.func 8), #[.const (.int .i64 2), .const (.int .i64 1)], #[3, 3]⟩, some 68, some (7, true)), (.binOp .eql 29 (.tmp 67) (.tmp 68) 29, some 69, some (7, true)), (.pick (.tmp 66) (.tmp 69) (.const (.bool false)), some 70, none), (.move (.tmp 70), some 71, none), (.move (.tmp 5), some 72, some (12, true)), (.binOp .eql 30 (.tmp 72) (.const (.int .i64 (0))) 30, some 73, some (12, true)), (.pick (.tmp 71) (.tmp 73) (.const (.bool false)), some 74, none), (.move (.tmp 74), some 75, none), (.load 29 (.tmp 6), some 76, some (16, true)), (.call ⟨.value (.func 8), #[.const (.int .i64 81), .const (.int .i64 2)], #[3, 3]⟩, some 77, some (16, true)), (.binOp .eql 29 (.tmp 76) (.tmp 77) 29, some 78, some (16, true)), (.pick (.tmp 75) (.tmp 78) (.const (.bool false)), some 79, none), (.move (.tmp 79), some 80, none), (.move (.tmp 7), some 81, some (21, true)), (.binOp .eql 30 (.tmp 81) (.const (.int .i64 (0))) 30, some 82, some (21, true)), (.pick (.tmp 80) (.tmp 82) (.const (.bool false)), some 83, none), (.move (.tmp 83), some 84, none), (.move (.tmp 9), some 85, some (25, true)), (.binOp .eql 30 (.tmp 85) (.const (.int .i64 (7))) 30, some 86, some (25, true)), (.pick (.tmp 84) (.tmp 86) (.const (.bool false)), some 87, none), (.move (.tmp 87), some 88, none), (.move (.tmp 10), some 89, some (29, true)), (.binOp .eql 3 (.tmp 89) (.const (.int .i64 (-1))) 3, some 90, some (29, true)), (.pick (.tmp 88) (.tmp 90) (.const (.bool false)), some 91, none), (.move (.tmp 91), some 92, none), (.move (.tmp 11), some 93, some (33, true)), (.binOp .eql 30 (.tmp 93) (.const (.int .i64 (0))) 30, some 94, some (33, true)), (.pick (.tmp 92) (.tmp 94) (.const (.bool false)), some 95, none), (.move (.tmp 95), some 96, none), (.move (.tmp 12), some 97, some (37, true)), (.binOp .eql 3 (.tmp 97) (.const (.int .i64 (1))) 3, some 98, some (37, true)), (.pick (.tmp 96) (.tmp 98) (.const (.bool false)), some 99, none), (.move (.tmp 99), some 100, none), (.move (.tmp 13), some 101, some (41, true)), (.binOp .eql 30 (.tmp 101) (.const (.int .i64 (0))) 30, some 102, some (41, true)), (.pick (.tmp 100) (.tmp 102) (.const (.bool false)), some 103, none), (.move (.tmp 103), some 104, none), (.move (.tmp 14), some 105, some (45, true)), (.binOp .eql 3 (.tmp 105) (.const (.int .i64 (0))) 3, some 106, some (45, true)), (.pick (.tmp 104) (.tmp 106) (.const (.bool false)), some 107, none), (.move (.tmp 107), some 108, none), (.move (.tmp 15), some 109, some (49, true)), (.binOp .eql 30 (.tmp 109) (.const (.int .i64 (0))) 30, some 110, some (49, true)), (.pick (.tmp 108) (.tmp 110) (.const (.bool false)), some 111, none), (.move (.tmp 111), some 112, none), (.move (.tmp 16), some 113, some (53, true)), (.buildSlice 37 2 #[(0, .const (.int .i64 0)), (1, .const (.int .i64 1))], some 114, some (53, true)), (.call ⟨.value (.func 12), #[.tmp 113, .tmp 114], #[37, 37]⟩, some 115, some (53, true)), (.pick (.tmp 112) (.tmp 115) (.const (.bool false)), some 116, none), (.move (.tmp 116), some 117, none), (.move (.tmp 17), some 118, some (58, true)), (.binOp .eql 30 (.tmp 118) (.const (.int .i64 (0))) 30, some 119, some (58, true)), (.pick (.tmp 117) (.tmp 119) (.const (.bool false)), some 120, none), (.move (.tmp 120), some 121, none), (.move (.tmp 18), some 122, some (62, true)), (.buildSlice 37 4 #[(0, .const (.int .i64 0)), (1, .const (.int .i64 1)), (2, .const (.int .i64 0)), (3, .const (.int .i64 2))], some 123, some (62, true)), (.call ⟨.value (.func 12), #[.tmp 122, .tmp 123], #[37, 37]⟩, some 124, some (62, true)), (.pick (.tmp 121) (.tmp 124) (.const (.bool false)), some 125, none), (.move (.tmp 125), some 126, none), (.move (.tmp 19), some 127, some (67, true)), (.binOp .eql 30 (.tmp 127) (.const (.int .i64 (0))) 30, some 128, some (67, true)), (.pick (.tmp 126) (.tmp 128) (.const (.bool false)), some 129, none), (.move (.tmp 129), some 130, none), (.move (.tmp 1), some 131, some (71, true)), (.buildSlice 37 3 #[(0, .const (.int .i64 3)), (1, .const (.int .i64 1)), (2, .const (.int .i64 1))], some 132, some (71, true)), (.build 39 #[(0, .tmp 132)], some 133, some (71, true)), (.call ⟨.value (.func 11), #[.tmp 131, .const (.int .i64 5), .const (.int .i64 15), .const (.slice none 0 0), .tmp 133], #[37, 3, 3, 37, 39]⟩, some 134, some (71, true)), (.pick (.tmp 130) (.tmp 134) (.const (.bool false)), some 135, none), (.move (.tmp 135), some 136, none), (.move (.tmp 1), some 137, some (77, true)), (.buildSlice 37 3 #[(0, .const (.int .i64 2)), (1, .const (.int .i64 2)), (2, .const (.int .i64 1))], some 138, some (77, true)), (.build 39 #[(0, .tmp 138)], some 139, some (77, true)), (.call ⟨.value (.func 11), #[.tmp 137, .const (.int .i64 5), .const (.int .i64 11), .const (.slice none 0 0), .tmp 139], #[37, 3, 3, 37, 39]⟩, some 140, some (77, true)), (.pick (.tmp 136) (.tmp 140) (.const (.bool false)), some 141, none), (.move (.tmp 141), some 142, none), (.buildSlice 37 2 #[(0, .const (.int .i64 6)), (1, .const (.int .i64 6))], some 143, some (83, true)), (.buildSlice 37 2 #[(0, .const (.int .i64 1)), (1, .const (.int .i64 1))], some 144, some (83, true)), (.buildSlice 37 2 #[(0, .const (.int .i64 0)), (1, .const (.int .i64 1))], some 145, some (83, true)), (.build 39 #[(0, .tmp 144), (1, .tmp 145), (2, .const (.int .i64 1))], some 146, some (83, true)), (.call ⟨.value (.func 11), #[.tmp 143, .const (.int .i64 3), .const (.int .i64 14), .const (.slice none 0 0), .tmp 146], #[37, 3, 3, 37, 39]⟩, some 147, some (83, true)), (.pick (.tmp 142) (.tmp 147) (.const (.bool false)), some 148, none), (.move (.tmp 148), some 149, none), (.move (.tmp 1), some 150, some (90, true)), (.buildSlice 37 3 #[(0, .const (.int .i64 1)), (1, .const (.int .i64 1)), (2, .const (.int .i64 0))], some 151, some (90, true)), (.build 39 #[(0, .tmp 151)], some 152, some (90, true)), (.call ⟨.value (.func 11), #[.tmp 150, .const (.int .i64 2), .const (.int .i64 11), .const (.slice none 0 0), .tmp 152], #[37, 3, 3, 37, 39]⟩, some 153, some (90, true)), (.pick (.tmp 149) (.tmp 153) (.const (.bool false)), some 154, none), (.move (.tmp 154), some 155, none), (.move (.tmp 1), some 156, some (96, true)), (.buildSlice 37 3 #[(0, .const (.int .i64 0)), (1, .const (.int .i64 0)), (2, .const (.int .i64 2))], some 157, some (96, true)), (.buildSlice 37 3 #[(0, .const (.int .i64 1)), (1, .const (.int .i64 1)), (2, .const (.int .i64 2))], some 158, some (96, true)), (.build 39 #[(0, .tmp 158)], some 159, some (96, true)), (.call ⟨.value (.func 11), #[.tmp 156, .const (.int .i64 4), .const (.int .i64 14), .tmp 157, .tmp 159], #[37, 3, 3, 37, 39]⟩, some 160, some (96, true)), (.pick (.tmp 155) (.tmp 160) (.const (.bool false)), some 161, none), (.assign (.tmp 161), some 0, none)]
    [(0, 0), (255, 8), (131071, 17), (18014398509481983, 54), (9223372036854775807, 63), (4722366482869645213695, 72), (302231454903657293676543, 78), (2475880078570760549798248447, 91), (158456325028528675187087900671, 97), (950737950171172051122527404031, 100), (135399691796838467567091711, 87)]
    (by kernel_rfl) (by kernel_rfl) (by kernel_rfl) (by kernel_rfl) (by kernel_rfl) (by kernel_rfl) (Lat.drew W10) ?_
  obtain ⟨Wd, hWd⟩ : ∃ W, W10.drew = W := ⟨_, rfl⟩
  have L : Lat W10 Wd := by rw [← hWd]; exact Lat.drew W10
  rw [hWd]
  clear hWd
  obtain ⟨fr, hfr⟩ : ∃ n, n = 104 := ⟨_, rfl⟩
  intro ops HT ls HL hS
  refine nameA (Q := fun a => wpAnyH _ _ _ _ _ _ _ a _) (N := 162) (L := [(0, .bool false), (1, .slice (some ⟨w.heap.size, 0, none⟩) 3 3), (2, .pointer (some ⟨V1.heap.size, 0, none⟩)), (3, .int .i64 0), (4, .pointer (some ⟨V2.heap.size, 0, none⟩)), (5, .int .i64 0), (6, .pointer (some ⟨V3.heap.size, 0, none⟩)), (7, .int .i64 0), (9, .int .i64 7), (10, .int .i64 (-1)), (11, .int .i64 0), (12, .int .i64 1), (13, .int .i64 0), (14, .int .i64 0), (15, .int .i64 0), (16, .slice A1 2 d1), (17, .int .i64 0), (18, .slice A2 4 d2), (19, .int .i64 0)]) ?_ ?_
  · iterate 19 (refine Has.cons ?_ _ _ (by rfl))
    exact Has.nil (by rfl) (by rfl)
  intro a HA
  refine stepTake HT HL HA 0 (.load 29 (.tmp 2)) 59 none (.agg Y1.toArray) rfl (by kernel_rfl) (by decide) (fun _ _ _ _ h => h) Grd.none (yv_load (HA.ev rfl) R1 Try.underlying29 rfl J1) hS (by decide) 1 (by kernel_rfl) ?_
  clear HL HA
  intro ls a HL HA
  refine someM HT HL [1] (by kernel_rfl) (by simp) (AllReadyH.callM HT HL HA 1 8 #[.const (.int .i64 4), .const (.int .i64 3)] #[3, 3] #[.int .i64 4, .int .i64 3] 60 none rfl Grd.none (by simp only [List.map_toArray, List.map_cons, List.map_nil, eval_const]) cf_of (HF1 _) (.agg Y1.toArray) (by decide) 3 (by kernel_rfl) (fun e w2 h => ⟨h.1, L.trans h.2⟩) ?_ AllReadyH.nil)
  clear HL HA hS
  rintro e U1 ⟨rfl, lx⟩ hS ls a HL HA
  have L := L.trans lx
  clear lx
  refine stepOne HT HL HA 2 (.binOp .eql 29 (.tmp 59) (.tmp 60) 29) 61 none (.bool true) rfl (by kernel_rfl) Grd.none (yv_bin (HA.ev rfl) (HA.ev rfl) hgd.out E1) hS (by decide) 7 (by kernel_rfl) ?_
  clear HL HA
  intro ls a HL HA
  refine stepOne HT HL HA 3 (.move (.tmp 61)) 62 none (.bool true) rfl (by kernel_rfl) Grd.none (yv_move (HA.ev rfl)) hS (by decide) 15 (by kernel_rfl) ?_
  clear HL HA
  intro ls a HL HA
  refine stepOne HT HL HA 4 (.move (.tmp 3)) 63 (some (3, true)) (.int .i64 (0)) rfl (by kernel_rfl) (Grd.yes 3 62 rfl rfl) (yv_move (HA.ev rfl)) hS (by decide) 31 (by kernel_rfl) ?_
  clear HL HA
  intro ls a HL HA
  refine stepOne HT HL HA 5 (.binOp .eql 30 (.tmp 63) (.const (.int .i64 (0))) 30) 64 (some (3, true)) (.bool true) rfl (by kernel_rfl) (Grd.yes 3 62 rfl rfl) (yv_eqlE (HA.ev rfl) (eval_const _ _) (by decide)) hS (by decide) 63 (by kernel_rfl) ?_
  clear HL HA
  intro ls a HL HA
  refine stepOne HT HL HA 6 (.pick (.tmp 62) (.tmp 64) (.const (.bool false))) 65 none (.bool true) rfl (by kernel_rfl) Grd.none (yv_pick (HA.ev rfl) (HA.ev rfl)) hS (by decide) 127 (by kernel_rfl) ?_
  clear HL HA
  intro ls a HL HA
  refine stepOne HT HL HA 7 (.move (.tmp 65)) 66 none (.bool true) rfl (by kernel_rfl) Grd.none (yv_move (HA.ev rfl)) hS (by decide) 255 (by kernel_rfl) ?_
  clear HL HA
  intro ls a HL HA
  refine stepTake HT HL HA 8 (.load 29 (.tmp 4)) 67 (some (7, true)) (.agg Y2.toArray) rfl (by kernel_rfl) (by decide) (fun _ _ _ _ h => h) (Grd.yes 7 66 rfl rfl) (yv_load (HA.ev rfl) R2 Try.underlying29 rfl J2) hS (by decide) 511 (by kernel_rfl) ?_
  clear HL HA
  intro ls a HL HA
  refine someM HT HL [9] (by kernel_rfl) (by simp) (AllReadyH.callM HT HL HA 9 8 #[.const (.int .i64 2), .const (.int .i64 1)] #[3, 3] #[.int .i64 2, .int .i64 1] 68 (some (7, true)) rfl (Grd.yes 7 66 rfl rfl) (by simp only [List.map_toArray, List.map_cons, List.map_nil, eval_const]) cf_of (HF2 _) (.agg Y2.toArray) (by decide) 1023 (by kernel_rfl) (fun e w2 h => ⟨h.1, L.trans h.2⟩) ?_ AllReadyH.nil)
  clear HL HA hS
  rintro e U2 ⟨rfl, lx⟩ hS ls a HL HA
  have L := L.trans lx
  clear lx
  refine stepOne HT HL HA 10 (.binOp .eql 29 (.tmp 67) (.tmp 68) 29) 69 (some (7, true)) (.bool true) rfl (by kernel_rfl) (Grd.yes 7 66 rfl rfl) (yv_bin (HA.ev rfl) (HA.ev rfl) hgd.out E2) hS (by decide) 2047 (by kernel_rfl) ?_
  clear HL HA
  intro ls a HL HA
  refine stepOne HT HL HA 11 (.pick (.tmp 66) (.tmp 69) (.const (.bool false))) 70 none (.bool true) rfl (by kernel_rfl) Grd.none (yv_pick (HA.ev rfl) (HA.ev rfl)) hS (by decide) 4095 (by kernel_rfl) ?_
  clear HL HA
  intro ls a HL HA
  refine stepOne HT HL HA 12 (.move (.tmp 70)) 71 none (.bool true) rfl (by kernel_rfl) Grd.none (yv_move (HA.ev rfl)) hS (by decide) 8191 (by kernel_rfl) ?_
  clear HL HA
  intro ls a HL HA
  refine stepOne HT HL HA 13 (.move (.tmp 5)) 72 (some (12, true)) (.int .i64 (0)) rfl (by kernel_rfl) (Grd.yes 12 71 rfl rfl) (yv_move (HA.ev rfl)) hS (by decide) 16383 (by kernel_rfl) ?_
  clear HL HA
  intro ls a HL HA
  refine stepOne HT HL HA 14 (.binOp .eql 30 (.tmp 72) (.const (.int .i64 (0))) 30) 73 (some (12, true)) (.bool true) rfl (by kernel_rfl) (Grd.yes 12 71 rfl rfl) (yv_eqlE (HA.ev rfl) (eval_const _ _) (by decide)) hS (by decide) 32767 (by kernel_rfl) ?_
  clear HL HA
  intro ls a HL HA
  refine stepOne HT HL HA 15 (.pick (.tmp 71) (.tmp 73) (.const (.bool false))) 74 none (.bool true) rfl (by kernel_rfl) Grd.none (yv_pick (HA.ev rfl) (HA.ev rfl)) hS (by decide) 65535 (by kernel_rfl) ?_
  clear HL HA
  intro ls a HL HA
  refine stepOne HT HL HA 16 (.move (.tmp 74)) 75 none (.bool true) rfl (by kernel_rfl) Grd.none (yv_move (HA.ev rfl)) hS (by decide) 131071 (by kernel_rfl) ?_
  clear HL HA
  intro ls a HL HA
  refine stepTake HT HL HA 17 (.load 29 (.tmp 6)) 76 (some (16, true)) (.agg Y3.toArray) rfl (by kernel_rfl) (by decide) (fun _ _ _ _ h => h) (Grd.yes 16 75 rfl rfl) (yv_load (HA.ev rfl) R3 Try.underlying29 rfl J3) hS (by decide) 262143 (by kernel_rfl) ?_
  clear HL HA
  intro ls a HL HA
  refine someM HT HL [18] (by kernel_rfl) (by simp) (AllReadyH.callM HT HL HA 18 8 #[.const (.int .i64 81), .const (.int .i64 2)] #[3, 3] #[.int .i64 81, .int .i64 2] 77 (some (16, true)) rfl (Grd.yes 16 75 rfl rfl) (by simp only [List.map_toArray, List.map_cons, List.map_nil, eval_const]) cf_of (HF3 _) (.agg Y3.toArray) (by decide) 524287 (by kernel_rfl) (fun e w2 h => ⟨h.1, L.trans h.2⟩) ?_ AllReadyH.nil)
  clear HL HA hS
  rintro e U3 ⟨rfl, lx⟩ hS ls a HL HA
  have L := L.trans lx
  clear lx
  refine stepOne HT HL HA 19 (.binOp .eql 29 (.tmp 76) (.tmp 77) 29) 78 (some (16, true)) (.bool true) rfl (by kernel_rfl) (Grd.yes 16 75 rfl rfl) (yv_bin (HA.ev rfl) (HA.ev rfl) hgd.out E3) hS (by decide) 1048575 (by kernel_rfl) ?_
  clear HL HA
  intro ls a HL HA
  refine stepOne HT HL HA 20 (.pick (.tmp 75) (.tmp 78) (.const (.bool false))) 79 none (.bool true) rfl (by kernel_rfl) Grd.none (yv_pick (HA.ev rfl) (HA.ev rfl)) hS (by decide) 2097151 (by kernel_rfl) ?_
  clear HL HA
  intro ls a HL HA
  refine stepOne HT HL HA 21 (.move (.tmp 79)) 80 none (.bool true) rfl (by kernel_rfl) Grd.none (yv_move (HA.ev rfl)) hS (by decide) 4194303 (by kernel_rfl) ?_
  clear HL HA
  intro ls a HL HA
  clear R1 R2 R3 J1 J2 J3 E1 E2 E3 HF1 HF2 HF3
  refine stepOne HT HL HA 22 (.move (.tmp 7)) 81 (some (21, true)) (.int .i64 (0)) rfl (by kernel_rfl) (Grd.yes 21 80 rfl rfl) (yv_move (HA.ev rfl)) hS (by decide) 8388607 (by kernel_rfl) ?_
  clear HL HA
  intro ls a HL HA
  refine stepOne HT HL HA 23 (.binOp .eql 30 (.tmp 81) (.const (.int .i64 (0))) 30) 82 (some (21, true)) (.bool true) rfl (by kernel_rfl) (Grd.yes 21 80 rfl rfl) (yv_eqlE (HA.ev rfl) (eval_const _ _) (by decide)) hS (by decide) 16777215 (by kernel_rfl) ?_
  clear HL HA
  intro ls a HL HA
  refine stepOne HT HL HA 24 (.pick (.tmp 80) (.tmp 82) (.const (.bool false))) 83 none (.bool true) rfl (by kernel_rfl) Grd.none (yv_pick (HA.ev rfl) (HA.ev rfl)) hS (by decide) 33554431 (by kernel_rfl) ?_
  clear HL HA
  intro ls a HL HA
  refine stepOne HT HL HA 25 (.move (.tmp 83)) 84 none (.bool true) rfl (by kernel_rfl) Grd.none (yv_move (HA.ev rfl)) hS (by decide) 67108863 (by kernel_rfl) ?_
  clear HL HA
  intro ls a HL HA
  refine stepOne HT HL HA 26 (.move (.tmp 9)) 85 (some (25, true)) (.int .i64 (7)) rfl (by kernel_rfl) (Grd.yes 25 84 rfl rfl) (yv_move (HA.ev rfl)) hS (by decide) 134217727 (by kernel_rfl) ?_
  clear HL HA
  intro ls a HL HA
  refine stepOne HT HL HA 27 (.binOp .eql 30 (.tmp 85) (.const (.int .i64 (7))) 30) 86 (some (25, true)) (.bool true) rfl (by kernel_rfl) (Grd.yes 25 84 rfl rfl) (yv_eqlE (HA.ev rfl) (eval_const _ _) (by decide)) hS (by decide) 268435455 (by kernel_rfl) ?_
  clear HL HA
  intro ls a HL HA
  refine stepOne HT HL HA 28 (.pick (.tmp 84) (.tmp 86) (.const (.bool false))) 87 none (.bool true) rfl (by kernel_rfl) Grd.none (yv_pick (HA.ev rfl) (HA.ev rfl)) hS (by decide) 536870911 (by kernel_rfl) ?_
  clear HL HA
  intro ls a HL HA
  refine stepOne HT HL HA 29 (.move (.tmp 87)) 88 none (.bool true) rfl (by kernel_rfl) Grd.none (yv_move (HA.ev rfl)) hS (by decide) 1073741823 (by kernel_rfl) ?_
  clear HL HA
  intro ls a HL HA
  refine stepOne HT HL HA 30 (.move (.tmp 10)) 89 (some (29, true)) (.int .i64 (-1)) rfl (by kernel_rfl) (Grd.yes 29 88 rfl rfl) (yv_move (HA.ev rfl)) hS (by decide) 2147483647 (by kernel_rfl) ?_
  clear HL HA
  intro ls a HL HA
  refine stepOne HT HL HA 31 (.binOp .eql 3 (.tmp 89) (.const (.int .i64 (-1))) 3) 90 (some (29, true)) (.bool true) rfl (by kernel_rfl) (Grd.yes 29 88 rfl rfl) (yv_eql (HA.ev rfl) (eval_const _ _) (by decide)) hS (by decide) 4294967295 (by kernel_rfl) ?_
  clear HL HA
  intro ls a HL HA
  refine stepOne HT HL HA 32 (.pick (.tmp 88) (.tmp 90) (.const (.bool false))) 91 none (.bool true) rfl (by kernel_rfl) Grd.none (yv_pick (HA.ev rfl) (HA.ev rfl)) hS (by decide) 8589934591 (by kernel_rfl) ?_
  clear HL HA
  intro ls a HL HA
  refine stepOne HT HL HA 33 (.move (.tmp 91)) 92 none (.bool true) rfl (by kernel_rfl) Grd.none (yv_move (HA.ev rfl)) hS (by decide) 17179869183 (by kernel_rfl) ?_
  clear HL HA
  intro ls a HL HA
  refine stepOne HT HL HA 34 (.move (.tmp 11)) 93 (some (33, true)) (.int .i64 (0)) rfl (by kernel_rfl) (Grd.yes 33 92 rfl rfl) (yv_move (HA.ev rfl)) hS (by decide) 34359738367 (by kernel_rfl) ?_
  clear HL HA
  intro ls a HL HA
  refine stepOne HT HL HA 35 (.binOp .eql 30 (.tmp 93) (.const (.int .i64 (0))) 30) 94 (some (33, true)) (.bool true) rfl (by kernel_rfl) (Grd.yes 33 92 rfl rfl) (yv_eqlE (HA.ev rfl) (eval_const _ _) (by decide)) hS (by decide) 68719476735 (by kernel_rfl) ?_
  clear HL HA
  intro ls a HL HA
  refine stepOne HT HL HA 36 (.pick (.tmp 92) (.tmp 94) (.const (.bool false))) 95 none (.bool true) rfl (by kernel_rfl) Grd.none (yv_pick (HA.ev rfl) (HA.ev rfl)) hS (by decide) 137438953471 (by kernel_rfl) ?_
  clear HL HA
  intro ls a HL HA
  refine stepOne HT HL HA 37 (.move (.tmp 95)) 96 none (.bool true) rfl (by kernel_rfl) Grd.none (yv_move (HA.ev rfl)) hS (by decide) 274877906943 (by kernel_rfl) ?_
  clear HL HA
  intro ls a HL HA
  refine stepOne HT HL HA 38 (.move (.tmp 12)) 97 (some (37, true)) (.int .i64 (1)) rfl (by kernel_rfl) (Grd.yes 37 96 rfl rfl) (yv_move (HA.ev rfl)) hS (by decide) 549755813887 (by kernel_rfl) ?_
  clear HL HA
  intro ls a HL HA
  refine stepOne HT HL HA 39 (.binOp .eql 3 (.tmp 97) (.const (.int .i64 (1))) 3) 98 (some (37, true)) (.bool true) rfl (by kernel_rfl) (Grd.yes 37 96 rfl rfl) (yv_eql (HA.ev rfl) (eval_const _ _) (by decide)) hS (by decide) 1099511627775 (by kernel_rfl) ?_
  clear HL HA
  intro ls a HL HA
  refine stepOne HT HL HA 40 (.pick (.tmp 96) (.tmp 98) (.const (.bool false))) 99 none (.bool true) rfl (by kernel_rfl) Grd.none (yv_pick (HA.ev rfl) (HA.ev rfl)) hS (by decide) 2199023255551 (by kernel_rfl) ?_
  clear HL HA
  intro ls a HL HA
  refine stepOne HT HL HA 41 (.move (.tmp 99)) 100 none (.bool true) rfl (by kernel_rfl) Grd.none (yv_move (HA.ev rfl)) hS (by decide) 4398046511103 (by kernel_rfl) ?_
  clear HL HA
  intro ls a HL HA
  refine stepOne HT HL HA 42 (.move (.tmp 13)) 101 (some (41, true)) (.int .i64 (0)) rfl (by kernel_rfl) (Grd.yes 41 100 rfl rfl) (yv_move (HA.ev rfl)) hS (by decide) 8796093022207 (by kernel_rfl) ?_
  clear HL HA
  intro ls a HL HA
  refine stepOne HT HL HA 43 (.binOp .eql 30 (.tmp 101) (.const (.int .i64 (0))) 30) 102 (some (41, true)) (.bool true) rfl (by kernel_rfl) (Grd.yes 41 100 rfl rfl) (yv_eqlE (HA.ev rfl) (eval_const _ _) (by decide)) hS (by decide) 17592186044415 (by kernel_rfl) ?_
  clear HL HA
  intro ls a HL HA
  refine stepOne HT HL HA 44 (.pick (.tmp 100) (.tmp 102) (.const (.bool false))) 103 none (.bool true) rfl (by kernel_rfl) Grd.none (yv_pick (HA.ev rfl) (HA.ev rfl)) hS (by decide) 35184372088831 (by kernel_rfl) ?_
  clear HL HA
  intro ls a HL HA
  refine stepOne HT HL HA 45 (.move (.tmp 103)) 104 none (.bool true) rfl (by kernel_rfl) Grd.none (yv_move (HA.ev rfl)) hS (by decide) 70368744177663 (by kernel_rfl) ?_
  clear HL HA
  intro ls a HL HA
  refine stepOne HT HL HA 46 (.move (.tmp 14)) 105 (some (45, true)) (.int .i64 (0)) rfl (by kernel_rfl) (Grd.yes 45 104 rfl rfl) (yv_move (HA.ev rfl)) hS (by decide) 140737488355327 (by kernel_rfl) ?_
  clear HL HA
  intro ls a HL HA
  refine stepOne HT HL HA 47 (.binOp .eql 3 (.tmp 105) (.const (.int .i64 (0))) 3) 106 (some (45, true)) (.bool true) rfl (by kernel_rfl) (Grd.yes 45 104 rfl rfl) (yv_eql (HA.ev rfl) (eval_const _ _) (by decide)) hS (by decide) 281474976710655 (by kernel_rfl) ?_
  clear HL HA
  intro ls a HL HA
  refine stepOne HT HL HA 48 (.pick (.tmp 104) (.tmp 106) (.const (.bool false))) 107 none (.bool true) rfl (by kernel_rfl) Grd.none (yv_pick (HA.ev rfl) (HA.ev rfl)) hS (by decide) 562949953421311 (by kernel_rfl) ?_
  clear HL HA
  intro ls a HL HA
  refine stepOne HT HL HA 49 (.move (.tmp 107)) 108 none (.bool true) rfl (by kernel_rfl) Grd.none (yv_move (HA.ev rfl)) hS (by decide) 1125899906842623 (by kernel_rfl) ?_
  clear HL HA
  intro ls a HL HA
  refine stepOne HT HL HA 50 (.move (.tmp 15)) 109 (some (49, true)) (.int .i64 (0)) rfl (by kernel_rfl) (Grd.yes 49 108 rfl rfl) (yv_move (HA.ev rfl)) hS (by decide) 2251799813685247 (by kernel_rfl) ?_
  clear HL HA
  intro ls a HL HA
  refine stepOne HT HL HA 51 (.binOp .eql 30 (.tmp 109) (.const (.int .i64 (0))) 30) 110 (some (49, true)) (.bool true) rfl (by kernel_rfl) (Grd.yes 49 108 rfl rfl) (yv_eqlE (HA.ev rfl) (eval_const _ _) (by decide)) hS (by decide) 4503599627370495 (by kernel_rfl) ?_
  clear HL HA
  intro ls a HL HA
  refine stepOne HT HL HA 52 (.pick (.tmp 108) (.tmp 110) (.const (.bool false))) 111 none (.bool true) rfl (by kernel_rfl) Grd.none (yv_pick (HA.ev rfl) (HA.ev rfl)) hS (by decide) 9007199254740991 (by kernel_rfl) ?_
  clear HL HA
  intro ls a HL HA
  refine stepOne HT HL HA 53 (.move (.tmp 111)) 112 none (.bool true) rfl (by kernel_rfl) Grd.none (yv_move (HA.ev rfl)) hS (by decide) 18014398509481983 (by kernel_rfl) ?_
  clear HL HA
  intro ls a HL HA
  refine stepTake HT HL HA 54 (.move (.tmp 16)) 113 (some (53, true)) (.slice A1 2 d1) rfl (by kernel_rfl) (by decide) (fun _ _ _ _ h => h) (Grd.yes 53 112 rfl rfl) (yv_move (HA.ev rfl)) hS (by decide) 36028797018963967 (by kernel_rfl) ?_
  clear HL HA
  intro ls a HL HA
  refine someM HT HL [55] (by kernel_rfl) (by simp) (AllReadyH.newM HT HL HA 55 (.buildSlice 37 2 #[(0, .const (.int .i64 0)), (1, .const (.int .i64 1))]) 114 (some (53, true)) (.slice (some ⟨U3.heap.size, 0, none⟩) 2 2) rfl (Grd.yes 53 112 rfl rfl) (yv_slice2 0 1) (by decide) 72057594037927935 (by kernel_rfl) (fun _ hl => L.trans hl) ?_ AllReadyH.nil)
  clear HL HA hS
  intro U4 lx b0 hS ls a HL HA
  have L := L.trans lx
  clear lx
  refine someM HT HL [56] (by kernel_rfl) (by simp) (AllReadyH.callM HT HL HA 56 12 #[.tmp 113, .tmp 114] #[37, 37] #[.slice A1 2 d1, .slice (some ⟨U3.heap.size, 0, none⟩) 2 2] 115 (some (53, true)) rfl (Grd.yes 53 112 rfl rfl) (by simp only [List.map_toArray, List.map_cons, List.map_nil, eval_const, HA.ev (k := 113) rfl, HA.ev (k := 114) rfl]) cf_equal (equal_yes A1 2 d1 [0, 1] _ 2 2 _ (q1.later L) (Sl.of_blk' (t := 3) b0 rfl) (by decide)) (.bool true) (by decide) 144115188075855871 (by kernel_rfl) (fun e w2 h => ⟨h.1, L.trans h.2⟩) ?_ AllReadyH.nil)
  clear HL HA hS
  rintro e U5 ⟨rfl, lx⟩ hS ls a HL HA
  have L := L.trans lx
  clear lx
  clear b0
  refine stepOne HT HL HA 57 (.pick (.tmp 112) (.tmp 115) (.const (.bool false))) 116 none (.bool true) rfl (by kernel_rfl) Grd.none (yv_pick (HA.ev rfl) (HA.ev rfl)) hS (by decide) 288230376151711743 (by kernel_rfl) ?_
  clear HL HA
  intro ls a HL HA
  refine stepOne HT HL HA 58 (.move (.tmp 116)) 117 none (.bool true) rfl (by kernel_rfl) Grd.none (yv_move (HA.ev rfl)) hS (by decide) 576460752303423487 (by kernel_rfl) ?_
  clear HL HA
  intro ls a HL HA
  refine stepOne HT HL HA 59 (.move (.tmp 17)) 118 (some (58, true)) (.int .i64 (0)) rfl (by kernel_rfl) (Grd.yes 58 117 rfl rfl) (yv_move (HA.ev rfl)) hS (by decide) 1152921504606846975 (by kernel_rfl) ?_
  clear HL HA
  intro ls a HL HA
  refine stepOne HT HL HA 60 (.binOp .eql 30 (.tmp 118) (.const (.int .i64 (0))) 30) 119 (some (58, true)) (.bool true) rfl (by kernel_rfl) (Grd.yes 58 117 rfl rfl) (yv_eqlE (HA.ev rfl) (eval_const _ _) (by decide)) hS (by decide) 2305843009213693951 (by kernel_rfl) ?_
  clear HL HA
  intro ls a HL HA
  refine stepOne HT HL HA 61 (.pick (.tmp 117) (.tmp 119) (.const (.bool false))) 120 none (.bool true) rfl (by kernel_rfl) Grd.none (yv_pick (HA.ev rfl) (HA.ev rfl)) hS (by decide) 4611686018427387903 (by kernel_rfl) ?_
  clear HL HA
  intro ls a HL HA
  refine stepOne HT HL HA 62 (.move (.tmp 120)) 121 none (.bool true) rfl (by kernel_rfl) Grd.none (yv_move (HA.ev rfl)) hS (by decide) 9223372036854775807 (by kernel_rfl) ?_
  clear HL HA
  intro ls a HL HA
  refine stepTake HT HL HA 63 (.move (.tmp 18)) 122 (some (62, true)) (.slice A2 4 d2) rfl (by kernel_rfl) (by decide) (fun _ _ _ _ h => h) (Grd.yes 62 121 rfl rfl) (yv_move (HA.ev rfl)) hS (by decide) 18446744073709551615 (by kernel_rfl) ?_
  clear HL HA
  intro ls a HL HA
  refine someM HT HL [64] (by kernel_rfl) (by simp) (AllReadyH.newM HT HL HA 64 (.buildSlice 37 4 #[(0, .const (.int .i64 0)), (1, .const (.int .i64 1)), (2, .const (.int .i64 0)), (3, .const (.int .i64 2))]) 123 (some (62, true)) (.slice (some ⟨U5.heap.size, 0, none⟩) 4 4) rfl (Grd.yes 62 121 rfl rfl) (yv_slice4 0 1 0 2) (by decide) 36893488147419103231 (by kernel_rfl) (fun _ hl => L.trans hl) ?_ AllReadyH.nil)
  clear HL HA hS
  intro U6 lx b0 hS ls a HL HA
  have L := L.trans lx
  clear lx
  refine someM HT HL [65] (by kernel_rfl) (by simp) (AllReadyH.callM HT HL HA 65 12 #[.tmp 122, .tmp 123] #[37, 37] #[.slice A2 4 d2, .slice (some ⟨U5.heap.size, 0, none⟩) 4 4] 124 (some (62, true)) rfl (Grd.yes 62 121 rfl rfl) (by simp only [List.map_toArray, List.map_cons, List.map_nil, eval_const, HA.ev (k := 122) rfl, HA.ev (k := 123) rfl]) cf_equal (equal_yes A2 4 d2 [0, 1, 0, 2] _ 4 4 _ (q2.later L) (Sl.of_blk' (t := 3) b0 rfl) (by decide)) (.bool true) (by decide) 73786976294838206463 (by kernel_rfl) (fun e w2 h => ⟨h.1, L.trans h.2⟩) ?_ AllReadyH.nil)
  clear HL HA hS
  rintro e U7 ⟨rfl, lx⟩ hS ls a HL HA
  have L := L.trans lx
  clear lx
  clear b0
  refine stepOne HT HL HA 66 (.pick (.tmp 121) (.tmp 124) (.const (.bool false))) 125 none (.bool true) rfl (by kernel_rfl) Grd.none (yv_pick (HA.ev rfl) (HA.ev rfl)) hS (by decide) 147573952589676412927 (by kernel_rfl) ?_
  clear HL HA
  intro ls a HL HA
  refine stepOne HT HL HA 67 (.move (.tmp 125)) 126 none (.bool true) rfl (by kernel_rfl) Grd.none (yv_move (HA.ev rfl)) hS (by decide) 295147905179352825855 (by kernel_rfl) ?_
  clear HL HA
  intro ls a HL HA
  refine stepOne HT HL HA 68 (.move (.tmp 19)) 127 (some (67, true)) (.int .i64 (0)) rfl (by kernel_rfl) (Grd.yes 67 126 rfl rfl) (yv_move (HA.ev rfl)) hS (by decide) 590295810358705651711 (by kernel_rfl) ?_
  clear HL HA
  intro ls a HL HA
  refine stepOne HT HL HA 69 (.binOp .eql 30 (.tmp 127) (.const (.int .i64 (0))) 30) 128 (some (67, true)) (.bool true) rfl (by kernel_rfl) (Grd.yes 67 126 rfl rfl) (yv_eqlE (HA.ev rfl) (eval_const _ _) (by decide)) hS (by decide) 1180591620717411303423 (by kernel_rfl) ?_
  clear HL HA
  intro ls a HL HA
  refine stepOne HT HL HA 70 (.pick (.tmp 126) (.tmp 128) (.const (.bool false))) 129 none (.bool true) rfl (by kernel_rfl) Grd.none (yv_pick (HA.ev rfl) (HA.ev rfl)) hS (by decide) 2361183241434822606847 (by kernel_rfl) ?_
  clear HL HA
  intro ls a HL HA
  refine stepOne HT HL HA 71 (.move (.tmp 129)) 130 none (.bool true) rfl (by kernel_rfl) Grd.none (yv_move (HA.ev rfl)) hS (by decide) 4722366482869645213695 (by kernel_rfl) ?_
  clear HL HA
  intro ls a HL HA
  refine stepTake HT HL HA 72 (.move (.tmp 1)) 131 (some (71, true)) (.slice (some ⟨w.heap.size, 0, none⟩) 3 3) rfl (by kernel_rfl) (by decide) (fun _ _ _ _ h => h) (Grd.yes 71 130 rfl rfl) (yv_move (HA.ev rfl)) hS (by decide) 9444732965739290427391 (by kernel_rfl) ?_
  clear HL HA
  intro ls a HL HA
  refine someM HT HL [73] (by kernel_rfl) (by simp) (AllReadyH.newM HT HL HA 73 (.buildSlice 37 3 #[(0, .const (.int .i64 3)), (1, .const (.int .i64 1)), (2, .const (.int .i64 1))]) 132 (some (71, true)) (.slice (some ⟨U7.heap.size, 0, none⟩) 3 3) rfl (Grd.yes 71 130 rfl rfl) (yv_slice3 3 1 1) (by decide) 18889465931478580854783 (by kernel_rfl) (fun _ hl => L.trans hl) ?_ AllReadyH.nil)
  clear HL HA hS
  intro U8 lx b0 hS ls a HL HA
  have L := L.trans lx
  clear lx
  refine stepOne HT HL HA 74 (.build 39 #[(0, .tmp 132)]) 133 (some (71, true)) (.agg #[.slice (some ⟨U7.heap.size, 0, none⟩) 3 3, .slice none 0 0, .int .i64 0]) rfl (by kernel_rfl) (Grd.yes 71 130 rfl rfl) (yv_award1 (HA.ev rfl)) hS (by decide) 37778931862957161709567 (by kernel_rfl) ?_
  clear HL HA
  intro ls a HL HA
  refine someM HT HL [75] (by kernel_rfl) (by simp) (AllReadyH.callM HT HL HA 75 11 #[.tmp 131, .const (.int .i64 5), .const (.int .i64 15), .const (.slice none 0 0), .tmp 133] #[37, 3, 3, 37, 39] #[.slice (some ⟨w.heap.size, 0, none⟩) 3 3, .int .i64 5, .int .i64 15, .slice none 0 0, .agg #[.slice (some ⟨U7.heap.size, 0, none⟩) 3 3, .slice none 0 0, .int .i64 0]] 134 (some (71, true)) rfl (Grd.yes 71 130 rfl rfl) (by simp only [List.map_toArray, List.map_cons, List.map_nil, eval_const, HA.ev (k := 131) rfl, HA.ev (k := 133) rfl]) cf_gives (gives_yes _ 3 3 [9, 5, 3] none 0 0 [] 5 15 _ 3 3 [3, 1, 1] none 0 0 [] 0 lit_give1 _ (Sl.of_blk' (t := 3) (k10.later L) rfl) (Sl.nil _ _ _) (Sl.of_blk' (t := 3) b0 rfl) (Sl.nil _ _ _)) (.bool true) (by decide) 75557863725914323419135 (by kernel_rfl) (fun e w2 h => ⟨h.1, L.trans h.2⟩) ?_ AllReadyH.nil)
  clear HL HA hS
  rintro e U9 ⟨rfl, lx⟩ hS ls a HL HA
  have L := L.trans lx
  clear lx
  clear b0
  refine stepOne HT HL HA 76 (.pick (.tmp 130) (.tmp 134) (.const (.bool false))) 135 none (.bool true) rfl (by kernel_rfl) Grd.none (yv_pick (HA.ev rfl) (HA.ev rfl)) hS (by decide) 151115727451828646838271 (by kernel_rfl) ?_
  clear HL HA
  intro ls a HL HA
  refine stepOne HT HL HA 77 (.move (.tmp 135)) 136 none (.bool true) rfl (by kernel_rfl) Grd.none (yv_move (HA.ev rfl)) hS (by decide) 302231454903657293676543 (by kernel_rfl) ?_
  clear HL HA
  intro ls a HL HA
  refine stepTake HT HL HA 78 (.move (.tmp 1)) 137 (some (77, true)) (.slice (some ⟨w.heap.size, 0, none⟩) 3 3) rfl (by kernel_rfl) (by decide) (fun _ _ _ _ h => h) (Grd.yes 77 136 rfl rfl) (yv_move (HA.ev rfl)) hS (by decide) 604462909807314587353087 (by kernel_rfl) ?_
  clear HL HA
  intro ls a HL HA
  refine someM HT HL [79] (by kernel_rfl) (by simp) (AllReadyH.newM HT HL HA 79 (.buildSlice 37 3 #[(0, .const (.int .i64 2)), (1, .const (.int .i64 2)), (2, .const (.int .i64 1))]) 138 (some (77, true)) (.slice (some ⟨U9.heap.size, 0, none⟩) 3 3) rfl (Grd.yes 77 136 rfl rfl) (yv_slice3 2 2 1) (by decide) 1208925819614629174706175 (by kernel_rfl) (fun _ hl => L.trans hl) ?_ AllReadyH.nil)
  clear HL HA hS
  intro U10 lx b0 hS ls a HL HA
  have L := L.trans lx
  clear lx
  refine stepOne HT HL HA 80 (.build 39 #[(0, .tmp 138)]) 139 (some (77, true)) (.agg #[.slice (some ⟨U9.heap.size, 0, none⟩) 3 3, .slice none 0 0, .int .i64 0]) rfl (by kernel_rfl) (Grd.yes 77 136 rfl rfl) (yv_award1 (HA.ev rfl)) hS (by decide) 2417851639229258349412351 (by kernel_rfl) ?_
  clear HL HA
  intro ls a HL HA
  refine someM HT HL [81] (by kernel_rfl) (by simp) (AllReadyH.callM HT HL HA 81 11 #[.tmp 137, .const (.int .i64 5), .const (.int .i64 11), .const (.slice none 0 0), .tmp 139] #[37, 3, 3, 37, 39] #[.slice (some ⟨w.heap.size, 0, none⟩) 3 3, .int .i64 5, .int .i64 11, .slice none 0 0, .agg #[.slice (some ⟨U9.heap.size, 0, none⟩) 3 3, .slice none 0 0, .int .i64 0]] 140 (some (77, true)) rfl (Grd.yes 77 136 rfl rfl) (by simp only [List.map_toArray, List.map_cons, List.map_nil, eval_const, HA.ev (k := 137) rfl, HA.ev (k := 139) rfl]) cf_gives (gives_yes _ 3 3 [9, 5, 3] none 0 0 [] 5 11 _ 3 3 [2, 2, 1] none 0 0 [] 0 lit_give2 _ (Sl.of_blk' (t := 3) (k10.later L) rfl) (Sl.nil _ _ _) (Sl.of_blk' (t := 3) b0 rfl) (Sl.nil _ _ _)) (.bool true) (by decide) 4835703278458516698824703 (by kernel_rfl) (fun e w2 h => ⟨h.1, L.trans h.2⟩) ?_ AllReadyH.nil)
  clear HL HA hS
  rintro e U11 ⟨rfl, lx⟩ hS ls a HL HA
  have L := L.trans lx
  clear lx
  clear b0
  refine stepOne HT HL HA 82 (.pick (.tmp 136) (.tmp 140) (.const (.bool false))) 141 none (.bool true) rfl (by kernel_rfl) Grd.none (yv_pick (HA.ev rfl) (HA.ev rfl)) hS (by decide) 9671406556917033397649407 (by kernel_rfl) ?_
  clear HL HA
  intro ls a HL HA
  refine stepOne HT HL HA 83 (.move (.tmp 141)) 142 none (.bool true) rfl (by kernel_rfl) Grd.none (yv_move (HA.ev rfl)) hS (by decide) 19342813113834066795298815 (by kernel_rfl) ?_
  clear HL HA
  intro ls a HL HA
  refine someM HT HL [84, 85, 86] (by kernel_rfl) (by simp) (AllReadyH.newM HT HL HA 84 (.buildSlice 37 2 #[(0, .const (.int .i64 6)), (1, .const (.int .i64 6))]) 143 (some (83, true)) (.slice (some ⟨U11.heap.size, 0, none⟩) 2 2) rfl (Grd.yes 83 142 rfl rfl) (yv_slice2 6 6) (by decide) 38685626227668133590597631 (by kernel_rfl) (fun _ hl => L.trans hl) ?_ (AllReadyH.newM HT HL HA 85 (.buildSlice 37 2 #[(0, .const (.int .i64 1)), (1, .const (.int .i64 1))]) 144 (some (83, true)) (.slice (some ⟨U11.heap.size, 0, none⟩) 2 2) rfl (Grd.yes 83 142 rfl rfl) (yv_slice2 1 1) (by decide) 58028439341502200385896447 (by kernel_rfl) (fun _ hl => L.trans hl) ?_ (AllReadyH.newM HT HL HA 86 (.buildSlice 37 2 #[(0, .const (.int .i64 0)), (1, .const (.int .i64 1))]) 145 (some (83, true)) (.slice (some ⟨U11.heap.size, 0, none⟩) 2 2) rfl (Grd.yes 83 142 rfl rfl) (yv_slice2 0 1) (by decide) 96714065569170333976494079 (by kernel_rfl) (fun _ hl => L.trans hl) ?_ AllReadyH.nil)))
  · skip
    clear HL HA hS
    intro Z0 lx b84 hS ls a HL HA
    have L := L.trans lx
    clear lx
    refine someM HT HL [85, 86] (by kernel_rfl) (by simp) (AllReadyH.newM HT HL HA 85 (.buildSlice 37 2 #[(0, .const (.int .i64 1)), (1, .const (.int .i64 1))]) 144 (some (83, true)) (.slice (some ⟨Z0.heap.size, 0, none⟩) 2 2) rfl (Grd.yes 83 142 rfl rfl) (yv_slice2 1 1) (by decide) 77371252455336267181195263 (by kernel_rfl) (fun _ hl => L.trans hl) ?_ (AllReadyH.newM HT HL HA 86 (.buildSlice 37 2 #[(0, .const (.int .i64 0)), (1, .const (.int .i64 1))]) 145 (some (83, true)) (.slice (some ⟨Z0.heap.size, 0, none⟩) 2 2) rfl (Grd.yes 83 142 rfl rfl) (yv_slice2 0 1) (by decide) 116056878683004400771792895 (by kernel_rfl) (fun _ hl => L.trans hl) ?_ AllReadyH.nil))
    · skip
      clear HL HA hS
      intro Z1 lx b85 hS ls a HL HA
      have L := L.trans lx
      have b84 := b84.later lx
      clear lx
      refine someM HT HL [86] (by kernel_rfl) (by simp) (AllReadyH.newM HT HL HA 86 (.buildSlice 37 2 #[(0, .const (.int .i64 0)), (1, .const (.int .i64 1))]) 145 (some (83, true)) (.slice (some ⟨Z1.heap.size, 0, none⟩) 2 2) rfl (Grd.yes 83 142 rfl rfl) (yv_slice2 0 1) (by decide) 154742504910672534362390527 (by kernel_rfl) (fun _ hl => L.trans hl) ?_ AllReadyH.nil)
      clear HL HA hS
      intro Z2 lx b86 hS ls a HL HA
      have L := L.trans lx
      have b84 := b84.later lx
      have b85 := b85.later lx
      clear lx
      refine stepOne HT HL HA 87 (.build 39 #[(0, .tmp 144), (1, .tmp 145), (2, .const (.int .i64 1))]) 146 (some (83, true)) (.agg #[.slice (some ⟨Z0.heap.size, 0, none⟩) 2 2, .slice (some ⟨Z1.heap.size, 0, none⟩) 2 2, .int .i64 1]) rfl (by kernel_rfl) (Grd.yes 83 142 rfl rfl) (yv_award (HA.ev rfl) (HA.ev rfl) (eval_const _ _)) hS (by decide) 309485009821345068724781055 (by kernel_rfl) ?_
      clear HL HA
      intro ls a HL HA
      refine someM HT HL [88] (by kernel_rfl) (by simp) (AllReadyH.callM HT HL HA 88 11 #[.tmp 143, .const (.int .i64 3), .const (.int .i64 14), .const (.slice none 0 0), .tmp 146] #[37, 3, 3, 37, 39] #[.slice (some ⟨U11.heap.size, 0, none⟩) 2 2, .int .i64 3, .int .i64 14, .slice none 0 0, .agg #[.slice (some ⟨Z0.heap.size, 0, none⟩) 2 2, .slice (some ⟨Z1.heap.size, 0, none⟩) 2 2, .int .i64 1]] 147 (some (83, true)) rfl (Grd.yes 83 142 rfl rfl) (by simp only [List.map_toArray, List.map_cons, List.map_nil, eval_const, HA.ev (k := 143) rfl, HA.ev (k := 146) rfl]) cf_gives (gives_yes _ 2 2 [6, 6] none 0 0 [] 3 14 _ 2 2 [1, 1] _ 2 2 [0, 1] 1 lit_give3 _ (Sl.of_blk' (t := 3) b84 rfl) (Sl.nil _ _ _) (Sl.of_blk' (t := 3) b85 rfl) (Sl.of_blk' (t := 3) b86 rfl)) (.bool true) (by decide) 618970019642690137449562111 (by kernel_rfl) (fun e w2 h => ⟨h.1, L.trans h.2⟩) ?_ AllReadyH.nil)
      clear HL HA hS
      rintro e U12 ⟨rfl, lx⟩ hS ls a HL HA
      have L := L.trans lx
      clear lx
      clear b84 b85 b86
      refine stepOne HT HL HA 89 (.pick (.tmp 142) (.tmp 147) (.const (.bool false))) 148 none (.bool true) rfl (by kernel_rfl) Grd.none (yv_pick (HA.ev rfl) (HA.ev rfl)) hS (by decide) 1237940039285380274899124223 (by kernel_rfl) ?_
      clear HL HA
      intro ls a HL HA
      refine stepOne HT HL HA 90 (.move (.tmp 148)) 149 none (.bool true) rfl (by kernel_rfl) Grd.none (yv_move (HA.ev rfl)) hS (by decide) 2475880078570760549798248447 (by kernel_rfl) ?_
      clear HL HA
      intro ls a HL HA
      refine stepTake HT HL HA 91 (.move (.tmp 1)) 150 (some (90, true)) (.slice (some ⟨w.heap.size, 0, none⟩) 3 3) rfl (by kernel_rfl) (by decide) (fun _ _ _ _ h => h) (Grd.yes 90 149 rfl rfl) (yv_move (HA.ev rfl)) hS (by decide) 4951760157141521099596496895 (by kernel_rfl) ?_
      clear HL HA
      intro ls a HL HA
      refine someM HT HL [92] (by kernel_rfl) (by simp) (AllReadyH.newM HT HL HA 92 (.buildSlice 37 3 #[(0, .const (.int .i64 1)), (1, .const (.int .i64 1)), (2, .const (.int .i64 0))]) 151 (some (90, true)) (.slice (some ⟨U12.heap.size, 0, none⟩) 3 3) rfl (Grd.yes 90 149 rfl rfl) (yv_slice3 1 1 0) (by decide) 9903520314283042199192993791 (by kernel_rfl) (fun _ hl => L.trans hl) ?_ AllReadyH.nil)
      clear HL HA hS
      intro U13 lx b0 hS ls a HL HA
      have L := L.trans lx
      clear lx
      refine stepOne HT HL HA 93 (.build 39 #[(0, .tmp 151)]) 152 (some (90, true)) (.agg #[.slice (some ⟨U12.heap.size, 0, none⟩) 3 3, .slice none 0 0, .int .i64 0]) rfl (by kernel_rfl) (Grd.yes 90 149 rfl rfl) (yv_award1 (HA.ev rfl)) hS (by decide) 19807040628566084398385987583 (by kernel_rfl) ?_
      clear HL HA
      intro ls a HL HA
      refine someM HT HL [94] (by kernel_rfl) (by simp) (AllReadyH.callM HT HL HA 94 11 #[.tmp 150, .const (.int .i64 2), .const (.int .i64 11), .const (.slice none 0 0), .tmp 152] #[37, 3, 3, 37, 39] #[.slice (some ⟨w.heap.size, 0, none⟩) 3 3, .int .i64 2, .int .i64 11, .slice none 0 0, .agg #[.slice (some ⟨U12.heap.size, 0, none⟩) 3 3, .slice none 0 0, .int .i64 0]] 153 (some (90, true)) rfl (Grd.yes 90 149 rfl rfl) (by simp only [List.map_toArray, List.map_cons, List.map_nil, eval_const, HA.ev (k := 150) rfl, HA.ev (k := 152) rfl]) cf_gives (gives_yes _ 3 3 [9, 5, 3] none 0 0 [] 2 11 _ 3 3 [1, 1, 0] none 0 0 [] 0 lit_give4 _ (Sl.of_blk' (t := 3) (k10.later L) rfl) (Sl.nil _ _ _) (Sl.of_blk' (t := 3) b0 rfl) (Sl.nil _ _ _)) (.bool true) (by decide) 39614081257132168796771975167 (by kernel_rfl) (fun e w2 h => ⟨h.1, L.trans h.2⟩) ?_ AllReadyH.nil)
      clear HL HA hS
      rintro e U14 ⟨rfl, lx⟩ hS ls a HL HA
      have L := L.trans lx
      clear lx
      clear b0
      refine stepOne HT HL HA 95 (.pick (.tmp 149) (.tmp 153) (.const (.bool false))) 154 none (.bool true) rfl (by kernel_rfl) Grd.none (yv_pick (HA.ev rfl) (HA.ev rfl)) hS (by decide) 79228162514264337593543950335 (by kernel_rfl) ?_
      clear HL HA
      intro ls a HL HA
      refine stepOne HT HL HA 96 (.move (.tmp 154)) 155 none (.bool true) rfl (by kernel_rfl) Grd.none (yv_move (HA.ev rfl)) hS (by decide) 158456325028528675187087900671 (by kernel_rfl) ?_
      clear HL HA
      intro ls a HL HA
      refine stepTake HT HL HA 97 (.move (.tmp 1)) 156 (some (96, true)) (.slice (some ⟨w.heap.size, 0, none⟩) 3 3) rfl (by kernel_rfl) (by decide) (fun _ _ _ _ h => h) (Grd.yes 96 155 rfl rfl) (yv_move (HA.ev rfl)) hS (by decide) 316912650057057350374175801343 (by kernel_rfl) ?_
      clear HL HA
      intro ls a HL HA
      refine someM HT HL [98, 99] (by kernel_rfl) (by simp) (AllReadyH.newM HT HL HA 98 (.buildSlice 37 3 #[(0, .const (.int .i64 0)), (1, .const (.int .i64 0)), (2, .const (.int .i64 2))]) 157 (some (96, true)) (.slice (some ⟨U14.heap.size, 0, none⟩) 3 3) rfl (Grd.yes 96 155 rfl rfl) (yv_slice3 0 0 2) (by decide) 633825300114114700748351602687 (by kernel_rfl) (fun _ hl => L.trans hl) ?_ (AllReadyH.newM HT HL HA 99 (.buildSlice 37 3 #[(0, .const (.int .i64 1)), (1, .const (.int .i64 1)), (2, .const (.int .i64 2))]) 158 (some (96, true)) (.slice (some ⟨U14.heap.size, 0, none⟩) 3 3) rfl (Grd.yes 96 155 rfl rfl) (yv_slice3 1 1 2) (by decide) 950737950171172051122527404031 (by kernel_rfl) (fun _ hl => L.trans hl) ?_ AllReadyH.nil))
      · skip
        clear HL HA hS
        intro U15 lx b98 hS ls a HL HA
        have L := L.trans lx
        clear lx
        refine someM HT HL [99] (by kernel_rfl) (by simp) (AllReadyH.newM HT HL HA 99 (.buildSlice 37 3 #[(0, .const (.int .i64 1)), (1, .const (.int .i64 1)), (2, .const (.int .i64 2))]) 158 (some (96, true)) (.slice (some ⟨U15.heap.size, 0, none⟩) 3 3) rfl (Grd.yes 96 155 rfl rfl) (yv_slice3 1 1 2) (by decide) 1267650600228229401496703205375 (by kernel_rfl) (fun _ hl => L.trans hl) ?_ AllReadyH.nil)
        clear HL HA hS
        intro U16 lx b99 hS ls a HL HA
        have L := L.trans lx
        have b98 := b98.later lx
        clear lx
        refine stepOne HT HL HA 100 (.build 39 #[(0, .tmp 158)]) 159 (some (96, true)) (.agg #[.slice (some ⟨U15.heap.size, 0, none⟩) 3 3, .slice none 0 0, .int .i64 0]) rfl (by kernel_rfl) (Grd.yes 96 155 rfl rfl) (yv_award1 (HA.ev rfl)) hS (by decide) 2535301200456458802993406410751 (by kernel_rfl) ?_
        clear HL HA
        intro ls a HL HA
        refine someM HT HL [101] (by kernel_rfl) (by simp) (AllReadyH.callM HT HL HA 101 11 #[.tmp 156, .const (.int .i64 4), .const (.int .i64 14), .tmp 157, .tmp 159] #[37, 3, 3, 37, 39] #[.slice (some ⟨w.heap.size, 0, none⟩) 3 3, .int .i64 4, .int .i64 14, .slice (some ⟨U14.heap.size, 0, none⟩) 3 3, .agg #[.slice (some ⟨U15.heap.size, 0, none⟩) 3 3, .slice none 0 0, .int .i64 0]] 160 (some (96, true)) rfl (Grd.yes 96 155 rfl rfl) (by simp only [List.map_toArray, List.map_cons, List.map_nil, eval_const, HA.ev (k := 156) rfl, HA.ev (k := 157) rfl, HA.ev (k := 159) rfl]) cf_gives (gives_yes _ 3 3 [9, 5, 3] _ 3 3 [0, 0, 2] 4 14 _ 3 3 [1, 1, 2] none 0 0 [] 0 lit_give5 _ (Sl.of_blk' (t := 3) (k10.later L) rfl) (Sl.of_blk' (t := 3) b98 rfl) (Sl.of_blk' (t := 3) b99 rfl) (Sl.nil _ _ _)) (.bool true) (by decide) 5070602400912917605986812821503 (by kernel_rfl) (fun e w2 h => ⟨h.1, L.trans h.2⟩) ?_ AllReadyH.nil)
        clear HL HA hS
        rintro e U17 ⟨rfl, lx⟩ hS ls a HL HA
        have L := L.trans lx
        clear lx
        clear b98 b99
        refine stepOne HT HL HA 102 (.pick (.tmp 155) (.tmp 160) (.const (.bool false))) 161 none (.bool true) rfl (by kernel_rfl) Grd.none (yv_pick (HA.ev rfl) (HA.ev rfl)) hS (by decide) 10141204801825835211973625643007 (by kernel_rfl) ?_
        clear HL HA
        intro ls a HL HA
        refine stepOne HT HL HA 103 (.assign (.tmp 161)) 0 none (.bool true) rfl (by kernel_rfl) Grd.none (yv_assignS (HA.ev rfl)) hS (by decide) 20282409603651670423947251286015 (by kernel_rfl) ?_
        clear HL HA
        intro ls a HL HA
        refine doneM HT HL (by kernel_rfl) ?_
        exact HEND _ _ _ HA L
      · skip
        clear HL HA hS
        intro U15 lx b99 hS ls a HL HA
        have L := L.trans lx
        clear lx
        refine stepTake HT HL HA 100 (.build 39 #[(0, .tmp 158)]) 159 (some (96, true)) (.agg #[.slice (some ⟨U14.heap.size, 0, none⟩) 3 3, .slice none 0 0, .int .i64 0]) rfl (by kernel_rfl) (by decide) (fun _ _ _ _ h => h) (Grd.yes 96 155 rfl rfl) (yv_award1 (HA.ev rfl)) hS (by decide) 2218388550399401452619230609407 (by kernel_rfl) ?_
        clear HL HA
        intro ls a HL HA
        refine someM HT HL [98] (by kernel_rfl) (by simp) (AllReadyH.newM HT HL HA 98 (.buildSlice 37 3 #[(0, .const (.int .i64 0)), (1, .const (.int .i64 0)), (2, .const (.int .i64 2))]) 157 (some (96, true)) (.slice (some ⟨U15.heap.size, 0, none⟩) 3 3) rfl (Grd.yes 96 155 rfl rfl) (yv_slice3 0 0 2) (by decide) 2535301200456458802993406410751 (by kernel_rfl) (fun _ hl => L.trans hl) ?_ AllReadyH.nil)
        clear HL HA hS
        intro U16 lx b98 hS ls a HL HA
        have L := L.trans lx
        have b99 := b99.later lx
        clear lx
        refine someM HT HL [101] (by kernel_rfl) (by simp) (AllReadyH.callM HT HL HA 101 11 #[.tmp 156, .const (.int .i64 4), .const (.int .i64 14), .tmp 157, .tmp 159] #[37, 3, 3, 37, 39] #[.slice (some ⟨w.heap.size, 0, none⟩) 3 3, .int .i64 4, .int .i64 14, .slice (some ⟨U15.heap.size, 0, none⟩) 3 3, .agg #[.slice (some ⟨U14.heap.size, 0, none⟩) 3 3, .slice none 0 0, .int .i64 0]] 160 (some (96, true)) rfl (Grd.yes 96 155 rfl rfl) (by simp only [List.map_toArray, List.map_cons, List.map_nil, eval_const, HA.ev (k := 156) rfl, HA.ev (k := 157) rfl, HA.ev (k := 159) rfl]) cf_gives (gives_yes _ 3 3 [9, 5, 3] _ 3 3 [0, 0, 2] 4 14 _ 3 3 [1, 1, 2] none 0 0 [] 0 lit_give5 _ (Sl.of_blk' (t := 3) (k10.later L) rfl) (Sl.of_blk' (t := 3) b98 rfl) (Sl.of_blk' (t := 3) b99 rfl) (Sl.nil _ _ _)) (.bool true) (by decide) 5070602400912917605986812821503 (by kernel_rfl) (fun e w2 h => ⟨h.1, L.trans h.2⟩) ?_ AllReadyH.nil)
        clear HL HA hS
        rintro e U17 ⟨rfl, lx⟩ hS ls a HL HA
        have L := L.trans lx
        clear lx
        clear b98 b99
        refine stepOne HT HL HA 102 (.pick (.tmp 155) (.tmp 160) (.const (.bool false))) 161 none (.bool true) rfl (by kernel_rfl) Grd.none (yv_pick (HA.ev rfl) (HA.ev rfl)) hS (by decide) 10141204801825835211973625643007 (by kernel_rfl) ?_
        clear HL HA
        intro ls a HL HA
        refine stepOne HT HL HA 103 (.assign (.tmp 161)) 0 none (.bool true) rfl (by kernel_rfl) Grd.none (yv_assignS (HA.ev rfl)) hS (by decide) 20282409603651670423947251286015 (by kernel_rfl) ?_
        clear HL HA
        intro ls a HL HA
        refine doneM HT HL (by kernel_rfl) ?_
        exact HEND _ _ _ HA L
    · skip
      clear HL HA hS
      intro Z1 lx b86 hS ls a HL HA
      have L := L.trans lx
      have b84 := b84.later lx
      clear lx
      refine someM HT HL [85] (by kernel_rfl) (by simp) (AllReadyH.newM HT HL HA 85 (.buildSlice 37 2 #[(0, .const (.int .i64 1)), (1, .const (.int .i64 1))]) 144 (some (83, true)) (.slice (some ⟨Z1.heap.size, 0, none⟩) 2 2) rfl (Grd.yes 83 142 rfl rfl) (yv_slice2 1 1) (by decide) 154742504910672534362390527 (by kernel_rfl) (fun _ hl => L.trans hl) ?_ AllReadyH.nil)
      clear HL HA hS
      intro Z2 lx b85 hS ls a HL HA
      have L := L.trans lx
      have b84 := b84.later lx
      have b86 := b86.later lx
      clear lx
      refine stepOne HT HL HA 87 (.build 39 #[(0, .tmp 144), (1, .tmp 145), (2, .const (.int .i64 1))]) 146 (some (83, true)) (.agg #[.slice (some ⟨Z1.heap.size, 0, none⟩) 2 2, .slice (some ⟨Z0.heap.size, 0, none⟩) 2 2, .int .i64 1]) rfl (by kernel_rfl) (Grd.yes 83 142 rfl rfl) (yv_award (HA.ev rfl) (HA.ev rfl) (eval_const _ _)) hS (by decide) 309485009821345068724781055 (by kernel_rfl) ?_
      clear HL HA
      intro ls a HL HA
      refine someM HT HL [88] (by kernel_rfl) (by simp) (AllReadyH.callM HT HL HA 88 11 #[.tmp 143, .const (.int .i64 3), .const (.int .i64 14), .const (.slice none 0 0), .tmp 146] #[37, 3, 3, 37, 39] #[.slice (some ⟨U11.heap.size, 0, none⟩) 2 2, .int .i64 3, .int .i64 14, .slice none 0 0, .agg #[.slice (some ⟨Z1.heap.size, 0, none⟩) 2 2, .slice (some ⟨Z0.heap.size, 0, none⟩) 2 2, .int .i64 1]] 147 (some (83, true)) rfl (Grd.yes 83 142 rfl rfl) (by simp only [List.map_toArray, List.map_cons, List.map_nil, eval_const, HA.ev (k := 143) rfl, HA.ev (k := 146) rfl]) cf_gives (gives_yes _ 2 2 [6, 6] none 0 0 [] 3 14 _ 2 2 [1, 1] _ 2 2 [0, 1] 1 lit_give3 _ (Sl.of_blk' (t := 3) b84 rfl) (Sl.nil _ _ _) (Sl.of_blk' (t := 3) b85 rfl) (Sl.of_blk' (t := 3) b86 rfl)) (.bool true) (by decide) 618970019642690137449562111 (by kernel_rfl) (fun e w2 h => ⟨h.1, L.trans h.2⟩) ?_ AllReadyH.nil)
      clear HL HA hS
      rintro e U12 ⟨rfl, lx⟩ hS ls a HL HA
      have L := L.trans lx
      clear lx
      clear b84 b85 b86
      refine stepOne HT HL HA 89 (.pick (.tmp 142) (.tmp 147) (.const (.bool false))) 148 none (.bool true) rfl (by kernel_rfl) Grd.none (yv_pick (HA.ev rfl) (HA.ev rfl)) hS (by decide) 1237940039285380274899124223 (by kernel_rfl) ?_
      clear HL HA
      intro ls a HL HA
      refine stepOne HT HL HA 90 (.move (.tmp 148)) 149 none (.bool true) rfl (by kernel_rfl) Grd.none (yv_move (HA.ev rfl)) hS (by decide) 2475880078570760549798248447 (by kernel_rfl) ?_
      clear HL HA
      intro ls a HL HA
      refine stepTake HT HL HA 91 (.move (.tmp 1)) 150 (some (90, true)) (.slice (some ⟨w.heap.size, 0, none⟩) 3 3) rfl (by kernel_rfl) (by decide) (fun _ _ _ _ h => h) (Grd.yes 90 149 rfl rfl) (yv_move (HA.ev rfl)) hS (by decide) 4951760157141521099596496895 (by kernel_rfl) ?_
      clear HL HA
      intro ls a HL HA
      refine someM HT HL [92] (by kernel_rfl) (by simp) (AllReadyH.newM HT HL HA 92 (.buildSlice 37 3 #[(0, .const (.int .i64 1)), (1, .const (.int .i64 1)), (2, .const (.int .i64 0))]) 151 (some (90, true)) (.slice (some ⟨U12.heap.size, 0, none⟩) 3 3) rfl (Grd.yes 90 149 rfl rfl) (yv_slice3 1 1 0) (by decide) 9903520314283042199192993791 (by kernel_rfl) (fun _ hl => L.trans hl) ?_ AllReadyH.nil)
      clear HL HA hS
      intro U13 lx b0 hS ls a HL HA
      have L := L.trans lx
      clear lx
      refine stepOne HT HL HA 93 (.build 39 #[(0, .tmp 151)]) 152 (some (90, true)) (.agg #[.slice (some ⟨U12.heap.size, 0, none⟩) 3 3, .slice none 0 0, .int .i64 0]) rfl (by kernel_rfl) (Grd.yes 90 149 rfl rfl) (yv_award1 (HA.ev rfl)) hS (by decide) 19807040628566084398385987583 (by kernel_rfl) ?_
      clear HL HA
      intro ls a HL HA
      refine someM HT HL [94] (by kernel_rfl) (by simp) (AllReadyH.callM HT HL HA 94 11 #[.tmp 150, .const (.int .i64 2), .const (.int .i64 11), .const (.slice none 0 0), .tmp 152] #[37, 3, 3, 37, 39] #[.slice (some ⟨w.heap.size, 0, none⟩) 3 3, .int .i64 2, .int .i64 11, .slice none 0 0, .agg #[.slice (some ⟨U12.heap.size, 0, none⟩) 3 3, .slice none 0 0, .int .i64 0]] 153 (some (90, true)) rfl (Grd.yes 90 149 rfl rfl) (by simp only [List.map_toArray, List.map_cons, List.map_nil, eval_const, HA.ev (k := 150) rfl, HA.ev (k := 152) rfl]) cf_gives (gives_yes _ 3 3 [9, 5, 3] none 0 0 [] 2 11 _ 3 3 [1, 1, 0] none 0 0 [] 0 lit_give4 _ (Sl.of_blk' (t := 3) (k10.later L) rfl) (Sl.nil _ _ _) (Sl.of_blk' (t := 3) b0 rfl) (Sl.nil _ _ _)) (.bool true) (by decide) 39614081257132168796771975167 (by kernel_rfl) (fun e w2 h => ⟨h.1, L.trans h.2⟩) ?_ AllReadyH.nil)
      clear HL HA hS
      rintro e U14 ⟨rfl, lx⟩ hS ls a HL HA
      have L := L.trans lx
      clear lx
      clear b0
      refine stepOne HT HL HA 95 (.pick (.tmp 149) (.tmp 153) (.const (.bool false))) 154 none (.bool true) rfl (by kernel_rfl) Grd.none (yv_pick (HA.ev rfl) (HA.ev rfl)) hS (by decide) 79228162514264337593543950335 (by kernel_rfl) ?_
      clear HL HA
      intro ls a HL HA
      refine stepOne HT HL HA 96 (.move (.tmp 154)) 155 none (.bool true) rfl (by kernel_rfl) Grd.none (yv_move (HA.ev rfl)) hS (by decide) 158456325028528675187087900671 (by kernel_rfl) ?_
      clear HL HA
      intro ls a HL HA
      refine stepTake HT HL HA 97 (.move (.tmp 1)) 156 (some (96, true)) (.slice (some ⟨w.heap.size, 0, none⟩) 3 3) rfl (by kernel_rfl) (by decide) (fun _ _ _ _ h => h) (Grd.yes 96 155 rfl rfl) (yv_move (HA.ev rfl)) hS (by decide) 316912650057057350374175801343 (by kernel_rfl) ?_
      clear HL HA
      intro ls a HL HA
      refine someM HT HL [98, 99] (by kernel_rfl) (by simp) (AllReadyH.newM HT HL HA 98 (.buildSlice 37 3 #[(0, .const (.int .i64 0)), (1, .const (.int .i64 0)), (2, .const (.int .i64 2))]) 157 (some (96, true)) (.slice (some ⟨U14.heap.size, 0, none⟩) 3 3) rfl (Grd.yes 96 155 rfl rfl) (yv_slice3 0 0 2) (by decide) 633825300114114700748351602687 (by kernel_rfl) (fun _ hl => L.trans hl) ?_ (AllReadyH.newM HT HL HA 99 (.buildSlice 37 3 #[(0, .const (.int .i64 1)), (1, .const (.int .i64 1)), (2, .const (.int .i64 2))]) 158 (some (96, true)) (.slice (some ⟨U14.heap.size, 0, none⟩) 3 3) rfl (Grd.yes 96 155 rfl rfl) (yv_slice3 1 1 2) (by decide) 950737950171172051122527404031 (by kernel_rfl) (fun _ hl => L.trans hl) ?_ AllReadyH.nil))
      · skip
        clear HL HA hS
        intro U15 lx b98 hS ls a HL HA
        have L := L.trans lx
        clear lx
        refine someM HT HL [99] (by kernel_rfl) (by simp) (AllReadyH.newM HT HL HA 99 (.buildSlice 37 3 #[(0, .const (.int .i64 1)), (1, .const (.int .i64 1)), (2, .const (.int .i64 2))]) 158 (some (96, true)) (.slice (some ⟨U15.heap.size, 0, none⟩) 3 3) rfl (Grd.yes 96 155 rfl rfl) (yv_slice3 1 1 2) (by decide) 1267650600228229401496703205375 (by kernel_rfl) (fun _ hl => L.trans hl) ?_ AllReadyH.nil)
        clear HL HA hS
        intro U16 lx b99 hS ls a HL HA
        have L := L.trans lx
        have b98 := b98.later lx
        clear lx
        refine stepOne HT HL HA 100 (.build 39 #[(0, .tmp 158)]) 159 (some (96, true)) (.agg #[.slice (some ⟨U15.heap.size, 0, none⟩) 3 3, .slice none 0 0, .int .i64 0]) rfl (by kernel_rfl) (Grd.yes 96 155 rfl rfl) (yv_award1 (HA.ev rfl)) hS (by decide) 2535301200456458802993406410751 (by kernel_rfl) ?_
        clear HL HA
        intro ls a HL HA
        refine someM HT HL [101] (by kernel_rfl) (by simp) (AllReadyH.callM HT HL HA 101 11 #[.tmp 156, .const (.int .i64 4), .const (.int .i64 14), .tmp 157, .tmp 159] #[37, 3, 3, 37, 39] #[.slice (some ⟨w.heap.size, 0, none⟩) 3 3, .int .i64 4, .int .i64 14, .slice (some ⟨U14.heap.size, 0, none⟩) 3 3, .agg #[.slice (some ⟨U15.heap.size, 0, none⟩) 3 3, .slice none 0 0, .int .i64 0]] 160 (some (96, true)) rfl (Grd.yes 96 155 rfl rfl) (by simp only [List.map_toArray, List.map_cons, List.map_nil, eval_const, HA.ev (k := 156) rfl, HA.ev (k := 157) rfl, HA.ev (k := 159) rfl]) cf_gives (gives_yes _ 3 3 [9, 5, 3] _ 3 3 [0, 0, 2] 4 14 _ 3 3 [1, 1, 2] none 0 0 [] 0 lit_give5 _ (Sl.of_blk' (t := 3) (k10.later L) rfl) (Sl.of_blk' (t := 3) b98 rfl) (Sl.of_blk' (t := 3) b99 rfl) (Sl.nil _ _ _)) (.bool true) (by decide) 5070602400912917605986812821503 (by kernel_rfl) (fun e w2 h => ⟨h.1, L.trans h.2⟩) ?_ AllReadyH.nil)
        clear HL HA hS
        rintro e U17 ⟨rfl, lx⟩ hS ls a HL HA
        have L := L.trans lx
        clear lx
        clear b98 b99
        refine stepOne HT HL HA 102 (.pick (.tmp 155) (.tmp 160) (.const (.bool false))) 161 none (.bool true) rfl (by kernel_rfl) Grd.none (yv_pick (HA.ev rfl) (HA.ev rfl)) hS (by decide) 10141204801825835211973625643007 (by kernel_rfl) ?_
        clear HL HA
        intro ls a HL HA
        refine stepOne HT HL HA 103 (.assign (.tmp 161)) 0 none (.bool true) rfl (by kernel_rfl) Grd.none (yv_assignS (HA.ev rfl)) hS (by decide) 20282409603651670423947251286015 (by kernel_rfl) ?_
        clear HL HA
        intro ls a HL HA
        refine doneM HT HL (by kernel_rfl) ?_
        exact HEND _ _ _ HA L
      · skip
        clear HL HA hS
        intro U15 lx b99 hS ls a HL HA
        have L := L.trans lx
        clear lx
        refine stepTake HT HL HA 100 (.build 39 #[(0, .tmp 158)]) 159 (some (96, true)) (.agg #[.slice (some ⟨U14.heap.size, 0, none⟩) 3 3, .slice none 0 0, .int .i64 0]) rfl (by kernel_rfl) (by decide) (fun _ _ _ _ h => h) (Grd.yes 96 155 rfl rfl) (yv_award1 (HA.ev rfl)) hS (by decide) 2218388550399401452619230609407 (by kernel_rfl) ?_
        clear HL HA
        intro ls a HL HA
        refine someM HT HL [98] (by kernel_rfl) (by simp) (AllReadyH.newM HT HL HA 98 (.buildSlice 37 3 #[(0, .const (.int .i64 0)), (1, .const (.int .i64 0)), (2, .const (.int .i64 2))]) 157 (some (96, true)) (.slice (some ⟨U15.heap.size, 0, none⟩) 3 3) rfl (Grd.yes 96 155 rfl rfl) (yv_slice3 0 0 2) (by decide) 2535301200456458802993406410751 (by kernel_rfl) (fun _ hl => L.trans hl) ?_ AllReadyH.nil)
        clear HL HA hS
        intro U16 lx b98 hS ls a HL HA
        have L := L.trans lx
        have b99 := b99.later lx
        clear lx
        refine someM HT HL [101] (by kernel_rfl) (by simp) (AllReadyH.callM HT HL HA 101 11 #[.tmp 156, .const (.int .i64 4), .const (.int .i64 14), .tmp 157, .tmp 159] #[37, 3, 3, 37, 39] #[.slice (some ⟨w.heap.size, 0, none⟩) 3 3, .int .i64 4, .int .i64 14, .slice (some ⟨U15.heap.size, 0, none⟩) 3 3, .agg #[.slice (some ⟨U14.heap.size, 0, none⟩) 3 3, .slice none 0 0, .int .i64 0]] 160 (some (96, true)) rfl (Grd.yes 96 155 rfl rfl) (by simp only [List.map_toArray, List.map_cons, List.map_nil, eval_const, HA.ev (k := 156) rfl, HA.ev (k := 157) rfl, HA.ev (k := 159) rfl]) cf_gives (gives_yes _ 3 3 [9, 5, 3] _ 3 3 [0, 0, 2] 4 14 _ 3 3 [1, 1, 2] none 0 0 [] 0 lit_give5 _ (Sl.of_blk' (t := 3) (k10.later L) rfl) (Sl.of_blk' (t := 3) b98 rfl) (Sl.of_blk' (t := 3) b99 rfl) (Sl.nil _ _ _)) (.bool true) (by decide) 5070602400912917605986812821503 (by kernel_rfl) (fun e w2 h => ⟨h.1, L.trans h.2⟩) ?_ AllReadyH.nil)
        clear HL HA hS
        rintro e U17 ⟨rfl, lx⟩ hS ls a HL HA
        have L := L.trans lx
        clear lx
        clear b98 b99
        refine stepOne HT HL HA 102 (.pick (.tmp 155) (.tmp 160) (.const (.bool false))) 161 none (.bool true) rfl (by kernel_rfl) Grd.none (yv_pick (HA.ev rfl) (HA.ev rfl)) hS (by decide) 10141204801825835211973625643007 (by kernel_rfl) ?_
        clear HL HA
        intro ls a HL HA
        refine stepOne HT HL HA 103 (.assign (.tmp 161)) 0 none (.bool true) rfl (by kernel_rfl) Grd.none (yv_assignS (HA.ev rfl)) hS (by decide) 20282409603651670423947251286015 (by kernel_rfl) ?_
        clear HL HA
        intro ls a HL HA
        refine doneM HT HL (by kernel_rfl) ?_
        exact HEND _ _ _ HA L
  · skip
    clear HL HA hS
    intro Z0 lx b85 hS ls a HL HA
    have L := L.trans lx
    clear lx
    refine someM HT HL [84, 86] (by kernel_rfl) (by simp) (AllReadyH.newM HT HL HA 84 (.buildSlice 37 2 #[(0, .const (.int .i64 6)), (1, .const (.int .i64 6))]) 143 (some (83, true)) (.slice (some ⟨Z0.heap.size, 0, none⟩) 2 2) rfl (Grd.yes 83 142 rfl rfl) (yv_slice2 6 6) (by decide) 77371252455336267181195263 (by kernel_rfl) (fun _ hl => L.trans hl) ?_ (AllReadyH.newM HT HL HA 86 (.buildSlice 37 2 #[(0, .const (.int .i64 0)), (1, .const (.int .i64 1))]) 145 (some (83, true)) (.slice (some ⟨Z0.heap.size, 0, none⟩) 2 2) rfl (Grd.yes 83 142 rfl rfl) (yv_slice2 0 1) (by decide) 135399691796838467567091711 (by kernel_rfl) (fun _ hl => L.trans hl) ?_ AllReadyH.nil))
    · skip
      clear HL HA hS
      intro Z1 lx b84 hS ls a HL HA
      have L := L.trans lx
      have b85 := b85.later lx
      clear lx
      refine someM HT HL [86] (by kernel_rfl) (by simp) (AllReadyH.newM HT HL HA 86 (.buildSlice 37 2 #[(0, .const (.int .i64 0)), (1, .const (.int .i64 1))]) 145 (some (83, true)) (.slice (some ⟨Z1.heap.size, 0, none⟩) 2 2) rfl (Grd.yes 83 142 rfl rfl) (yv_slice2 0 1) (by decide) 154742504910672534362390527 (by kernel_rfl) (fun _ hl => L.trans hl) ?_ AllReadyH.nil)
      clear HL HA hS
      intro Z2 lx b86 hS ls a HL HA
      have L := L.trans lx
      have b85 := b85.later lx
      have b84 := b84.later lx
      clear lx
      refine stepOne HT HL HA 87 (.build 39 #[(0, .tmp 144), (1, .tmp 145), (2, .const (.int .i64 1))]) 146 (some (83, true)) (.agg #[.slice (some ⟨U11.heap.size, 0, none⟩) 2 2, .slice (some ⟨Z1.heap.size, 0, none⟩) 2 2, .int .i64 1]) rfl (by kernel_rfl) (Grd.yes 83 142 rfl rfl) (yv_award (HA.ev rfl) (HA.ev rfl) (eval_const _ _)) hS (by decide) 309485009821345068724781055 (by kernel_rfl) ?_
      clear HL HA
      intro ls a HL HA
      refine someM HT HL [88] (by kernel_rfl) (by simp) (AllReadyH.callM HT HL HA 88 11 #[.tmp 143, .const (.int .i64 3), .const (.int .i64 14), .const (.slice none 0 0), .tmp 146] #[37, 3, 3, 37, 39] #[.slice (some ⟨Z0.heap.size, 0, none⟩) 2 2, .int .i64 3, .int .i64 14, .slice none 0 0, .agg #[.slice (some ⟨U11.heap.size, 0, none⟩) 2 2, .slice (some ⟨Z1.heap.size, 0, none⟩) 2 2, .int .i64 1]] 147 (some (83, true)) rfl (Grd.yes 83 142 rfl rfl) (by simp only [List.map_toArray, List.map_cons, List.map_nil, eval_const, HA.ev (k := 143) rfl, HA.ev (k := 146) rfl]) cf_gives (gives_yes _ 2 2 [6, 6] none 0 0 [] 3 14 _ 2 2 [1, 1] _ 2 2 [0, 1] 1 lit_give3 _ (Sl.of_blk' (t := 3) b84 rfl) (Sl.nil _ _ _) (Sl.of_blk' (t := 3) b85 rfl) (Sl.of_blk' (t := 3) b86 rfl)) (.bool true) (by decide) 618970019642690137449562111 (by kernel_rfl) (fun e w2 h => ⟨h.1, L.trans h.2⟩) ?_ AllReadyH.nil)
      clear HL HA hS
      rintro e U12 ⟨rfl, lx⟩ hS ls a HL HA
      have L := L.trans lx
      clear lx
      clear b84 b85 b86
      refine stepOne HT HL HA 89 (.pick (.tmp 142) (.tmp 147) (.const (.bool false))) 148 none (.bool true) rfl (by kernel_rfl) Grd.none (yv_pick (HA.ev rfl) (HA.ev rfl)) hS (by decide) 1237940039285380274899124223 (by kernel_rfl) ?_
      clear HL HA
      intro ls a HL HA
      refine stepOne HT HL HA 90 (.move (.tmp 148)) 149 none (.bool true) rfl (by kernel_rfl) Grd.none (yv_move (HA.ev rfl)) hS (by decide) 2475880078570760549798248447 (by kernel_rfl) ?_
      clear HL HA
      intro ls a HL HA
      refine stepTake HT HL HA 91 (.move (.tmp 1)) 150 (some (90, true)) (.slice (some ⟨w.heap.size, 0, none⟩) 3 3) rfl (by kernel_rfl) (by decide) (fun _ _ _ _ h => h) (Grd.yes 90 149 rfl rfl) (yv_move (HA.ev rfl)) hS (by decide) 4951760157141521099596496895 (by kernel_rfl) ?_
      clear HL HA
      intro ls a HL HA
      refine someM HT HL [92] (by kernel_rfl) (by simp) (AllReadyH.newM HT HL HA 92 (.buildSlice 37 3 #[(0, .const (.int .i64 1)), (1, .const (.int .i64 1)), (2, .const (.int .i64 0))]) 151 (some (90, true)) (.slice (some ⟨U12.heap.size, 0, none⟩) 3 3) rfl (Grd.yes 90 149 rfl rfl) (yv_slice3 1 1 0) (by decide) 9903520314283042199192993791 (by kernel_rfl) (fun _ hl => L.trans hl) ?_ AllReadyH.nil)
      clear HL HA hS
      intro U13 lx b0 hS ls a HL HA
      have L := L.trans lx
      clear lx
      refine stepOne HT HL HA 93 (.build 39 #[(0, .tmp 151)]) 152 (some (90, true)) (.agg #[.slice (some ⟨U12.heap.size, 0, none⟩) 3 3, .slice none 0 0, .int .i64 0]) rfl (by kernel_rfl) (Grd.yes 90 149 rfl rfl) (yv_award1 (HA.ev rfl)) hS (by decide) 19807040628566084398385987583 (by kernel_rfl) ?_
      clear HL HA
      intro ls a HL HA
      refine someM HT HL [94] (by kernel_rfl) (by simp) (AllReadyH.callM HT HL HA 94 11 #[.tmp 150, .const (.int .i64 2), .const (.int .i64 11), .const (.slice none 0 0), .tmp 152] #[37, 3, 3, 37, 39] #[.slice (some ⟨w.heap.size, 0, none⟩) 3 3, .int .i64 2, .int .i64 11, .slice none 0 0, .agg #[.slice (some ⟨U12.heap.size, 0, none⟩) 3 3, .slice none 0 0, .int .i64 0]] 153 (some (90, true)) rfl (Grd.yes 90 149 rfl rfl) (by simp only [List.map_toArray, List.map_cons, List.map_nil, eval_const, HA.ev (k := 150) rfl, HA.ev (k := 152) rfl]) cf_gives (gives_yes _ 3 3 [9, 5, 3] none 0 0 [] 2 11 _ 3 3 [1, 1, 0] none 0 0 [] 0 lit_give4 _ (Sl.of_blk' (t := 3) (k10.later L) rfl) (Sl.nil _ _ _) (Sl.of_blk' (t := 3) b0 rfl) (Sl.nil _ _ _)) (.bool true) (by decide) 39614081257132168796771975167 (by kernel_rfl) (fun e w2 h => ⟨h.1, L.trans h.2⟩) ?_ AllReadyH.nil)
      clear HL HA hS
      rintro e U14 ⟨rfl, lx⟩ hS ls a HL HA
      have L := L.trans lx
      clear lx
      clear b0
      refine stepOne HT HL HA 95 (.pick (.tmp 149) (.tmp 153) (.const (.bool false))) 154 none (.bool true) rfl (by kernel_rfl) Grd.none (yv_pick (HA.ev rfl) (HA.ev rfl)) hS (by decide) 79228162514264337593543950335 (by kernel_rfl) ?_
      clear HL HA
      intro ls a HL HA
      refine stepOne HT HL HA 96 (.move (.tmp 154)) 155 none (.bool true) rfl (by kernel_rfl) Grd.none (yv_move (HA.ev rfl)) hS (by decide) 158456325028528675187087900671 (by kernel_rfl) ?_
      clear HL HA
      intro ls a HL HA
      refine stepTake HT HL HA 97 (.move (.tmp 1)) 156 (some (96, true)) (.slice (some ⟨w.heap.size, 0, none⟩) 3 3) rfl (by kernel_rfl) (by decide) (fun _ _ _ _ h => h) (Grd.yes 96 155 rfl rfl) (yv_move (HA.ev rfl)) hS (by decide) 316912650057057350374175801343 (by kernel_rfl) ?_
      clear HL HA
      intro ls a HL HA
      refine someM HT HL [98, 99] (by kernel_rfl) (by simp) (AllReadyH.newM HT HL HA 98 (.buildSlice 37 3 #[(0, .const (.int .i64 0)), (1, .const (.int .i64 0)), (2, .const (.int .i64 2))]) 157 (some (96, true)) (.slice (some ⟨U14.heap.size, 0, none⟩) 3 3) rfl (Grd.yes 96 155 rfl rfl) (yv_slice3 0 0 2) (by decide) 633825300114114700748351602687 (by kernel_rfl) (fun _ hl => L.trans hl) ?_ (AllReadyH.newM HT HL HA 99 (.buildSlice 37 3 #[(0, .const (.int .i64 1)), (1, .const (.int .i64 1)), (2, .const (.int .i64 2))]) 158 (some (96, true)) (.slice (some ⟨U14.heap.size, 0, none⟩) 3 3) rfl (Grd.yes 96 155 rfl rfl) (yv_slice3 1 1 2) (by decide) 950737950171172051122527404031 (by kernel_rfl) (fun _ hl => L.trans hl) ?_ AllReadyH.nil))
      · skip
        clear HL HA hS
        intro U15 lx b98 hS ls a HL HA
        have L := L.trans lx
        clear lx
        refine someM HT HL [99] (by kernel_rfl) (by simp) (AllReadyH.newM HT HL HA 99 (.buildSlice 37 3 #[(0, .const (.int .i64 1)), (1, .const (.int .i64 1)), (2, .const (.int .i64 2))]) 158 (some (96, true)) (.slice (some ⟨U15.heap.size, 0, none⟩) 3 3) rfl (Grd.yes 96 155 rfl rfl) (yv_slice3 1 1 2) (by decide) 1267650600228229401496703205375 (by kernel_rfl) (fun _ hl => L.trans hl) ?_ AllReadyH.nil)
        clear HL HA hS
        intro U16 lx b99 hS ls a HL HA
        have L := L.trans lx
        have b98 := b98.later lx
        clear lx
        refine stepOne HT HL HA 100 (.build 39 #[(0, .tmp 158)]) 159 (some (96, true)) (.agg #[.slice (some ⟨U15.heap.size, 0, none⟩) 3 3, .slice none 0 0, .int .i64 0]) rfl (by kernel_rfl) (Grd.yes 96 155 rfl rfl) (yv_award1 (HA.ev rfl)) hS (by decide) 2535301200456458802993406410751 (by kernel_rfl) ?_
        clear HL HA
        intro ls a HL HA
        refine someM HT HL [101] (by kernel_rfl) (by simp) (AllReadyH.callM HT HL HA 101 11 #[.tmp 156, .const (.int .i64 4), .const (.int .i64 14), .tmp 157, .tmp 159] #[37, 3, 3, 37, 39] #[.slice (some ⟨w.heap.size, 0, none⟩) 3 3, .int .i64 4, .int .i64 14, .slice (some ⟨U14.heap.size, 0, none⟩) 3 3, .agg #[.slice (some ⟨U15.heap.size, 0, none⟩) 3 3, .slice none 0 0, .int .i64 0]] 160 (some (96, true)) rfl (Grd.yes 96 155 rfl rfl) (by simp only [List.map_toArray, List.map_cons, List.map_nil, eval_const, HA.ev (k := 156) rfl, HA.ev (k := 157) rfl, HA.ev (k := 159) rfl]) cf_gives (gives_yes _ 3 3 [9, 5, 3] _ 3 3 [0, 0, 2] 4 14 _ 3 3 [1, 1, 2] none 0 0 [] 0 lit_give5 _ (Sl.of_blk' (t := 3) (k10.later L) rfl) (Sl.of_blk' (t := 3) b98 rfl) (Sl.of_blk' (t := 3) b99 rfl) (Sl.nil _ _ _)) (.bool true) (by decide) 5070602400912917605986812821503 (by kernel_rfl) (fun e w2 h => ⟨h.1, L.trans h.2⟩) ?_ AllReadyH.nil)
        clear HL HA hS
        rintro e U17 ⟨rfl, lx⟩ hS ls a HL HA
        have L := L.trans lx
        clear lx
        clear b98 b99
        refine stepOne HT HL HA 102 (.pick (.tmp 155) (.tmp 160) (.const (.bool false))) 161 none (.bool true) rfl (by kernel_rfl) Grd.none (yv_pick (HA.ev rfl) (HA.ev rfl)) hS (by decide) 10141204801825835211973625643007 (by kernel_rfl) ?_
        clear HL HA
        intro ls a HL HA
        refine stepOne HT HL HA 103 (.assign (.tmp 161)) 0 none (.bool true) rfl (by kernel_rfl) Grd.none (yv_assignS (HA.ev rfl)) hS (by decide) 20282409603651670423947251286015 (by kernel_rfl) ?_
        clear HL HA
        intro ls a HL HA
        refine doneM HT HL (by kernel_rfl) ?_
        exact HEND _ _ _ HA L
      · skip
        clear HL HA hS
        intro U15 lx b99 hS ls a HL HA
        have L := L.trans lx
        clear lx
        refine stepTake HT HL HA 100 (.build 39 #[(0, .tmp 158)]) 159 (some (96, true)) (.agg #[.slice (some ⟨U14.heap.size, 0, none⟩) 3 3, .slice none 0 0, .int .i64 0]) rfl (by kernel_rfl) (by decide) (fun _ _ _ _ h => h) (Grd.yes 96 155 rfl rfl) (yv_award1 (HA.ev rfl)) hS (by decide) 2218388550399401452619230609407 (by kernel_rfl) ?_
        clear HL HA
        intro ls a HL HA
        refine someM HT HL [98] (by kernel_rfl) (by simp) (AllReadyH.newM HT HL HA 98 (.buildSlice 37 3 #[(0, .const (.int .i64 0)), (1, .const (.int .i64 0)), (2, .const (.int .i64 2))]) 157 (some (96, true)) (.slice (some ⟨U15.heap.size, 0, none⟩) 3 3) rfl (Grd.yes 96 155 rfl rfl) (yv_slice3 0 0 2) (by decide) 2535301200456458802993406410751 (by kernel_rfl) (fun _ hl => L.trans hl) ?_ AllReadyH.nil)
        clear HL HA hS
        intro U16 lx b98 hS ls a HL HA
        have L := L.trans lx
        have b99 := b99.later lx
        clear lx
        refine someM HT HL [101] (by kernel_rfl) (by simp) (AllReadyH.callM HT HL HA 101 11 #[.tmp 156, .const (.int .i64 4), .const (.int .i64 14), .tmp 157, .tmp 159] #[37, 3, 3, 37, 39] #[.slice (some ⟨w.heap.size, 0, none⟩) 3 3, .int .i64 4, .int .i64 14, .slice (some ⟨U15.heap.size, 0, none⟩) 3 3, .agg #[.slice (some ⟨U14.heap.size, 0, none⟩) 3 3, .slice none 0 0, .int .i64 0]] 160 (some (96, true)) rfl (Grd.yes 96 155 rfl rfl) (by simp only [List.map_toArray, List.map_cons, List.map_nil, eval_const, HA.ev (k := 156) rfl, HA.ev (k := 157) rfl, HA.ev (k := 159) rfl]) cf_gives (gives_yes _ 3 3 [9, 5, 3] _ 3 3 [0, 0, 2] 4 14 _ 3 3 [1, 1, 2] none 0 0 [] 0 lit_give5 _ (Sl.of_blk' (t := 3) (k10.later L) rfl) (Sl.of_blk' (t := 3) b98 rfl) (Sl.of_blk' (t := 3) b99 rfl) (Sl.nil _ _ _)) (.bool true) (by decide) 5070602400912917605986812821503 (by kernel_rfl) (fun e w2 h => ⟨h.1, L.trans h.2⟩) ?_ AllReadyH.nil)
        clear HL HA hS
        rintro e U17 ⟨rfl, lx⟩ hS ls a HL HA
        have L := L.trans lx
        clear lx
        clear b98 b99
        refine stepOne HT HL HA 102 (.pick (.tmp 155) (.tmp 160) (.const (.bool false))) 161 none (.bool true) rfl (by kernel_rfl) Grd.none (yv_pick (HA.ev rfl) (HA.ev rfl)) hS (by decide) 10141204801825835211973625643007 (by kernel_rfl) ?_
        clear HL HA
        intro ls a HL HA
        refine stepOne HT HL HA 103 (.assign (.tmp 161)) 0 none (.bool true) rfl (by kernel_rfl) Grd.none (yv_assignS (HA.ev rfl)) hS (by decide) 20282409603651670423947251286015 (by kernel_rfl) ?_
        clear HL HA
        intro ls a HL HA
        refine doneM HT HL (by kernel_rfl) ?_
        exact HEND _ _ _ HA L
    · skip
      clear HL HA hS
      intro Z1 lx b86 hS ls a HL HA
      have L := L.trans lx
      have b85 := b85.later lx
      clear lx
      refine stepTake HT HL HA 87 (.build 39 #[(0, .tmp 144), (1, .tmp 145), (2, .const (.int .i64 1))]) 146 (some (83, true)) (.agg #[.slice (some ⟨U11.heap.size, 0, none⟩) 2 2, .slice (some ⟨Z0.heap.size, 0, none⟩) 2 2, .int .i64 1]) rfl (by kernel_rfl) (by decide) (fun _ _ _ _ h => h) (Grd.yes 83 142 rfl rfl) (yv_award (HA.ev rfl) (HA.ev rfl) (eval_const _ _)) hS (by decide) 290142196707511001929482239 (by kernel_rfl) ?_
      clear HL HA
      intro ls a HL HA
      refine someM HT HL [84] (by kernel_rfl) (by simp) (AllReadyH.newM HT HL HA 84 (.buildSlice 37 2 #[(0, .const (.int .i64 6)), (1, .const (.int .i64 6))]) 143 (some (83, true)) (.slice (some ⟨Z1.heap.size, 0, none⟩) 2 2) rfl (Grd.yes 83 142 rfl rfl) (yv_slice2 6 6) (by decide) 309485009821345068724781055 (by kernel_rfl) (fun _ hl => L.trans hl) ?_ AllReadyH.nil)
      clear HL HA hS
      intro Z2 lx b84 hS ls a HL HA
      have L := L.trans lx
      have b85 := b85.later lx
      have b86 := b86.later lx
      clear lx
      refine someM HT HL [88] (by kernel_rfl) (by simp) (AllReadyH.callM HT HL HA 88 11 #[.tmp 143, .const (.int .i64 3), .const (.int .i64 14), .const (.slice none 0 0), .tmp 146] #[37, 3, 3, 37, 39] #[.slice (some ⟨Z1.heap.size, 0, none⟩) 2 2, .int .i64 3, .int .i64 14, .slice none 0 0, .agg #[.slice (some ⟨U11.heap.size, 0, none⟩) 2 2, .slice (some ⟨Z0.heap.size, 0, none⟩) 2 2, .int .i64 1]] 147 (some (83, true)) rfl (Grd.yes 83 142 rfl rfl) (by simp only [List.map_toArray, List.map_cons, List.map_nil, eval_const, HA.ev (k := 143) rfl, HA.ev (k := 146) rfl]) cf_gives (gives_yes _ 2 2 [6, 6] none 0 0 [] 3 14 _ 2 2 [1, 1] _ 2 2 [0, 1] 1 lit_give3 _ (Sl.of_blk' (t := 3) b84 rfl) (Sl.nil _ _ _) (Sl.of_blk' (t := 3) b85 rfl) (Sl.of_blk' (t := 3) b86 rfl)) (.bool true) (by decide) 618970019642690137449562111 (by kernel_rfl) (fun e w2 h => ⟨h.1, L.trans h.2⟩) ?_ AllReadyH.nil)
      clear HL HA hS
      rintro e U12 ⟨rfl, lx⟩ hS ls a HL HA
      have L := L.trans lx
      clear lx
      clear b84 b85 b86
      refine stepOne HT HL HA 89 (.pick (.tmp 142) (.tmp 147) (.const (.bool false))) 148 none (.bool true) rfl (by kernel_rfl) Grd.none (yv_pick (HA.ev rfl) (HA.ev rfl)) hS (by decide) 1237940039285380274899124223 (by kernel_rfl) ?_
      clear HL HA
      intro ls a HL HA
      refine stepOne HT HL HA 90 (.move (.tmp 148)) 149 none (.bool true) rfl (by kernel_rfl) Grd.none (yv_move (HA.ev rfl)) hS (by decide) 2475880078570760549798248447 (by kernel_rfl) ?_
      clear HL HA
      intro ls a HL HA
      refine stepTake HT HL HA 91 (.move (.tmp 1)) 150 (some (90, true)) (.slice (some ⟨w.heap.size, 0, none⟩) 3 3) rfl (by kernel_rfl) (by decide) (fun _ _ _ _ h => h) (Grd.yes 90 149 rfl rfl) (yv_move (HA.ev rfl)) hS (by decide) 4951760157141521099596496895 (by kernel_rfl) ?_
      clear HL HA
      intro ls a HL HA
      refine someM HT HL [92] (by kernel_rfl) (by simp) (AllReadyH.newM HT HL HA 92 (.buildSlice 37 3 #[(0, .const (.int .i64 1)), (1, .const (.int .i64 1)), (2, .const (.int .i64 0))]) 151 (some (90, true)) (.slice (some ⟨U12.heap.size, 0, none⟩) 3 3) rfl (Grd.yes 90 149 rfl rfl) (yv_slice3 1 1 0) (by decide) 9903520314283042199192993791 (by kernel_rfl) (fun _ hl => L.trans hl) ?_ AllReadyH.nil)
      clear HL HA hS
      intro U13 lx b0 hS ls a HL HA
      have L := L.trans lx
      clear lx
      refine stepOne HT HL HA 93 (.build 39 #[(0, .tmp 151)]) 152 (some (90, true)) (.agg #[.slice (some ⟨U12.heap.size, 0, none⟩) 3 3, .slice none 0 0, .int .i64 0]) rfl (by kernel_rfl) (Grd.yes 90 149 rfl rfl) (yv_award1 (HA.ev rfl)) hS (by decide) 19807040628566084398385987583 (by kernel_rfl) ?_
      clear HL HA
      intro ls a HL HA
      refine someM HT HL [94] (by kernel_rfl) (by simp) (AllReadyH.callM HT HL HA 94 11 #[.tmp 150, .const (.int .i64 2), .const (.int .i64 11), .const (.slice none 0 0), .tmp 152] #[37, 3, 3, 37, 39] #[.slice (some ⟨w.heap.size, 0, none⟩) 3 3, .int .i64 2, .int .i64 11, .slice none 0 0, .agg #[.slice (some ⟨U12.heap.size, 0, none⟩) 3 3, .slice none 0 0, .int .i64 0]] 153 (some (90, true)) rfl (Grd.yes 90 149 rfl rfl) (by simp only [List.map_toArray, List.map_cons, List.map_nil, eval_const, HA.ev (k := 150) rfl, HA.ev (k := 152) rfl]) cf_gives (gives_yes _ 3 3 [9, 5, 3] none 0 0 [] 2 11 _ 3 3 [1, 1, 0] none 0 0 [] 0 lit_give4 _ (Sl.of_blk' (t := 3) (k10.later L) rfl) (Sl.nil _ _ _) (Sl.of_blk' (t := 3) b0 rfl) (Sl.nil _ _ _)) (.bool true) (by decide) 39614081257132168796771975167 (by kernel_rfl) (fun e w2 h => ⟨h.1, L.trans h.2⟩) ?_ AllReadyH.nil)
      clear HL HA hS
      rintro e U14 ⟨rfl, lx⟩ hS ls a HL HA
      have L := L.trans lx
      clear lx
      clear b0
      refine stepOne HT HL HA 95 (.pick (.tmp 149) (.tmp 153) (.const (.bool false))) 154 none (.bool true) rfl (by kernel_rfl) Grd.none (yv_pick (HA.ev rfl) (HA.ev rfl)) hS (by decide) 79228162514264337593543950335 (by kernel_rfl) ?_
      clear HL HA
      intro ls a HL HA
      refine stepOne HT HL HA 96 (.move (.tmp 154)) 155 none (.bool true) rfl (by kernel_rfl) Grd.none (yv_move (HA.ev rfl)) hS (by decide) 158456325028528675187087900671 (by kernel_rfl) ?_
      clear HL HA
      intro ls a HL HA
      refine stepTake HT HL HA 97 (.move (.tmp 1)) 156 (some (96, true)) (.slice (some ⟨w.heap.size, 0, none⟩) 3 3) rfl (by kernel_rfl) (by decide) (fun _ _ _ _ h => h) (Grd.yes 96 155 rfl rfl) (yv_move (HA.ev rfl)) hS (by decide) 316912650057057350374175801343 (by kernel_rfl) ?_
      clear HL HA
      intro ls a HL HA
      refine someM HT HL [98, 99] (by kernel_rfl) (by simp) (AllReadyH.newM HT HL HA 98 (.buildSlice 37 3 #[(0, .const (.int .i64 0)), (1, .const (.int .i64 0)), (2, .const (.int .i64 2))]) 157 (some (96, true)) (.slice (some ⟨U14.heap.size, 0, none⟩) 3 3) rfl (Grd.yes 96 155 rfl rfl) (yv_slice3 0 0 2) (by decide) 633825300114114700748351602687 (by kernel_rfl) (fun _ hl => L.trans hl) ?_ (AllReadyH.newM HT HL HA 99 (.buildSlice 37 3 #[(0, .const (.int .i64 1)), (1, .const (.int .i64 1)), (2, .const (.int .i64 2))]) 158 (some (96, true)) (.slice (some ⟨U14.heap.size, 0, none⟩) 3 3) rfl (Grd.yes 96 155 rfl rfl) (yv_slice3 1 1 2) (by decide) 950737950171172051122527404031 (by kernel_rfl) (fun _ hl => L.trans hl) ?_ AllReadyH.nil))
      · skip
        clear HL HA hS
        intro U15 lx b98 hS ls a HL HA
        have L := L.trans lx
        clear lx
        refine someM HT HL [99] (by kernel_rfl) (by simp) (AllReadyH.newM HT HL HA 99 (.buildSlice 37 3 #[(0, .const (.int .i64 1)), (1, .const (.int .i64 1)), (2, .const (.int .i64 2))]) 158 (some (96, true)) (.slice (some ⟨U15.heap.size, 0, none⟩) 3 3) rfl (Grd.yes 96 155 rfl rfl) (yv_slice3 1 1 2) (by decide) 1267650600228229401496703205375 (by kernel_rfl) (fun _ hl => L.trans hl) ?_ AllReadyH.nil)
        clear HL HA hS
        intro U16 lx b99 hS ls a HL HA
        have L := L.trans lx
        have b98 := b98.later lx
        clear lx
        refine stepOne HT HL HA 100 (.build 39 #[(0, .tmp 158)]) 159 (some (96, true)) (.agg #[.slice (some ⟨U15.heap.size, 0, none⟩) 3 3, .slice none 0 0, .int .i64 0]) rfl (by kernel_rfl) (Grd.yes 96 155 rfl rfl) (yv_award1 (HA.ev rfl)) hS (by decide) 2535301200456458802993406410751 (by kernel_rfl) ?_
        clear HL HA
        intro ls a HL HA
        refine someM HT HL [101] (by kernel_rfl) (by simp) (AllReadyH.callM HT HL HA 101 11 #[.tmp 156, .const (.int .i64 4), .const (.int .i64 14), .tmp 157, .tmp 159] #[37, 3, 3, 37, 39] #[.slice (some ⟨w.heap.size, 0, none⟩) 3 3, .int .i64 4, .int .i64 14, .slice (some ⟨U14.heap.size, 0, none⟩) 3 3, .agg #[.slice (some ⟨U15.heap.size, 0, none⟩) 3 3, .slice none 0 0, .int .i64 0]] 160 (some (96, true)) rfl (Grd.yes 96 155 rfl rfl) (by simp only [List.map_toArray, List.map_cons, List.map_nil, eval_const, HA.ev (k := 156) rfl, HA.ev (k := 157) rfl, HA.ev (k := 159) rfl]) cf_gives (gives_yes _ 3 3 [9, 5, 3] _ 3 3 [0, 0, 2] 4 14 _ 3 3 [1, 1, 2] none 0 0 [] 0 lit_give5 _ (Sl.of_blk' (t := 3) (k10.later L) rfl) (Sl.of_blk' (t := 3) b98 rfl) (Sl.of_blk' (t := 3) b99 rfl) (Sl.nil _ _ _)) (.bool true) (by decide) 5070602400912917605986812821503 (by kernel_rfl) (fun e w2 h => ⟨h.1, L.trans h.2⟩) ?_ AllReadyH.nil)
        clear HL HA hS
        rintro e U17 ⟨rfl, lx⟩ hS ls a HL HA
        have L := L.trans lx
        clear lx
        clear b98 b99
        refine stepOne HT HL HA 102 (.pick (.tmp 155) (.tmp 160) (.const (.bool false))) 161 none (.bool true) rfl (by kernel_rfl) Grd.none (yv_pick (HA.ev rfl) (HA.ev rfl)) hS (by decide) 10141204801825835211973625643007 (by kernel_rfl) ?_
        clear HL HA
        intro ls a HL HA
        refine stepOne HT HL HA 103 (.assign (.tmp 161)) 0 none (.bool true) rfl (by kernel_rfl) Grd.none (yv_assignS (HA.ev rfl)) hS (by decide) 20282409603651670423947251286015 (by kernel_rfl) ?_
        clear HL HA
        intro ls a HL HA
        refine doneM HT HL (by kernel_rfl) ?_
        exact HEND _ _ _ HA L
      · skip
        clear HL HA hS
        intro U15 lx b99 hS ls a HL HA
        have L := L.trans lx
        clear lx
        refine stepTake HT HL HA 100 (.build 39 #[(0, .tmp 158)]) 159 (some (96, true)) (.agg #[.slice (some ⟨U14.heap.size, 0, none⟩) 3 3, .slice none 0 0, .int .i64 0]) rfl (by kernel_rfl) (by decide) (fun _ _ _ _ h => h) (Grd.yes 96 155 rfl rfl) (yv_award1 (HA.ev rfl)) hS (by decide) 2218388550399401452619230609407 (by kernel_rfl) ?_
        clear HL HA
        intro ls a HL HA
        refine someM HT HL [98] (by kernel_rfl) (by simp) (AllReadyH.newM HT HL HA 98 (.buildSlice 37 3 #[(0, .const (.int .i64 0)), (1, .const (.int .i64 0)), (2, .const (.int .i64 2))]) 157 (some (96, true)) (.slice (some ⟨U15.heap.size, 0, none⟩) 3 3) rfl (Grd.yes 96 155 rfl rfl) (yv_slice3 0 0 2) (by decide) 2535301200456458802993406410751 (by kernel_rfl) (fun _ hl => L.trans hl) ?_ AllReadyH.nil)
        clear HL HA hS
        intro U16 lx b98 hS ls a HL HA
        have L := L.trans lx
        have b99 := b99.later lx
        clear lx
        refine someM HT HL [101] (by kernel_rfl) (by simp) (AllReadyH.callM HT HL HA 101 11 #[.tmp 156, .const (.int .i64 4), .const (.int .i64 14), .tmp 157, .tmp 159] #[37, 3, 3, 37, 39] #[.slice (some ⟨w.heap.size, 0, none⟩) 3 3, .int .i64 4, .int .i64 14, .slice (some ⟨U15.heap.size, 0, none⟩) 3 3, .agg #[.slice (some ⟨U14.heap.size, 0, none⟩) 3 3, .slice none 0 0, .int .i64 0]] 160 (some (96, true)) rfl (Grd.yes 96 155 rfl rfl) (by simp only [List.map_toArray, List.map_cons, List.map_nil, eval_const, HA.ev (k := 156) rfl, HA.ev (k := 157) rfl, HA.ev (k := 159) rfl]) cf_gives (gives_yes _ 3 3 [9, 5, 3] _ 3 3 [0, 0, 2] 4 14 _ 3 3 [1, 1, 2] none 0 0 [] 0 lit_give5 _ (Sl.of_blk' (t := 3) (k10.later L) rfl) (Sl.of_blk' (t := 3) b98 rfl) (Sl.of_blk' (t := 3) b99 rfl) (Sl.nil _ _ _)) (.bool true) (by decide) 5070602400912917605986812821503 (by kernel_rfl) (fun e w2 h => ⟨h.1, L.trans h.2⟩) ?_ AllReadyH.nil)
        clear HL HA hS
        rintro e U17 ⟨rfl, lx⟩ hS ls a HL HA
        have L := L.trans lx
        clear lx
        clear b98 b99
        refine stepOne HT HL HA 102 (.pick (.tmp 155) (.tmp 160) (.const (.bool false))) 161 none (.bool true) rfl (by kernel_rfl) Grd.none (yv_pick (HA.ev rfl) (HA.ev rfl)) hS (by decide) 10141204801825835211973625643007 (by kernel_rfl) ?_
        clear HL HA
        intro ls a HL HA
        refine stepOne HT HL HA 103 (.assign (.tmp 161)) 0 none (.bool true) rfl (by kernel_rfl) Grd.none (yv_assignS (HA.ev rfl)) hS (by decide) 20282409603651670423947251286015 (by kernel_rfl) ?_
        clear HL HA
        intro ls a HL HA
        refine doneM HT HL (by kernel_rfl) ?_
        exact HEND _ _ _ HA L
  · skip
    clear HL HA hS
    intro Z0 lx b86 hS ls a HL HA
    have L := L.trans lx
    clear lx
    refine someM HT HL [84, 85] (by kernel_rfl) (by simp) (AllReadyH.newM HT HL HA 84 (.buildSlice 37 2 #[(0, .const (.int .i64 6)), (1, .const (.int .i64 6))]) 143 (some (83, true)) (.slice (some ⟨Z0.heap.size, 0, none⟩) 2 2) rfl (Grd.yes 83 142 rfl rfl) (yv_slice2 6 6) (by decide) 116056878683004400771792895 (by kernel_rfl) (fun _ hl => L.trans hl) ?_ (AllReadyH.newM HT HL HA 85 (.buildSlice 37 2 #[(0, .const (.int .i64 1)), (1, .const (.int .i64 1))]) 144 (some (83, true)) (.slice (some ⟨Z0.heap.size, 0, none⟩) 2 2) rfl (Grd.yes 83 142 rfl rfl) (yv_slice2 1 1) (by decide) 135399691796838467567091711 (by kernel_rfl) (fun _ hl => L.trans hl) ?_ AllReadyH.nil))
    · skip
      clear HL HA hS
      intro Z1 lx b84 hS ls a HL HA
      have L := L.trans lx
      have b86 := b86.later lx
      clear lx
      refine someM HT HL [85] (by kernel_rfl) (by simp) (AllReadyH.newM HT HL HA 85 (.buildSlice 37 2 #[(0, .const (.int .i64 1)), (1, .const (.int .i64 1))]) 144 (some (83, true)) (.slice (some ⟨Z1.heap.size, 0, none⟩) 2 2) rfl (Grd.yes 83 142 rfl rfl) (yv_slice2 1 1) (by decide) 154742504910672534362390527 (by kernel_rfl) (fun _ hl => L.trans hl) ?_ AllReadyH.nil)
      clear HL HA hS
      intro Z2 lx b85 hS ls a HL HA
      have L := L.trans lx
      have b86 := b86.later lx
      have b84 := b84.later lx
      clear lx
      refine stepOne HT HL HA 87 (.build 39 #[(0, .tmp 144), (1, .tmp 145), (2, .const (.int .i64 1))]) 146 (some (83, true)) (.agg #[.slice (some ⟨Z1.heap.size, 0, none⟩) 2 2, .slice (some ⟨U11.heap.size, 0, none⟩) 2 2, .int .i64 1]) rfl (by kernel_rfl) (Grd.yes 83 142 rfl rfl) (yv_award (HA.ev rfl) (HA.ev rfl) (eval_const _ _)) hS (by decide) 309485009821345068724781055 (by kernel_rfl) ?_
      clear HL HA
      intro ls a HL HA
      refine someM HT HL [88] (by kernel_rfl) (by simp) (AllReadyH.callM HT HL HA 88 11 #[.tmp 143, .const (.int .i64 3), .const (.int .i64 14), .const (.slice none 0 0), .tmp 146] #[37, 3, 3, 37, 39] #[.slice (some ⟨Z0.heap.size, 0, none⟩) 2 2, .int .i64 3, .int .i64 14, .slice none 0 0, .agg #[.slice (some ⟨Z1.heap.size, 0, none⟩) 2 2, .slice (some ⟨U11.heap.size, 0, none⟩) 2 2, .int .i64 1]] 147 (some (83, true)) rfl (Grd.yes 83 142 rfl rfl) (by simp only [List.map_toArray, List.map_cons, List.map_nil, eval_const, HA.ev (k := 143) rfl, HA.ev (k := 146) rfl]) cf_gives (gives_yes _ 2 2 [6, 6] none 0 0 [] 3 14 _ 2 2 [1, 1] _ 2 2 [0, 1] 1 lit_give3 _ (Sl.of_blk' (t := 3) b84 rfl) (Sl.nil _ _ _) (Sl.of_blk' (t := 3) b85 rfl) (Sl.of_blk' (t := 3) b86 rfl)) (.bool true) (by decide) 618970019642690137449562111 (by kernel_rfl) (fun e w2 h => ⟨h.1, L.trans h.2⟩) ?_ AllReadyH.nil)
      clear HL HA hS
      rintro e U12 ⟨rfl, lx⟩ hS ls a HL HA
      have L := L.trans lx
      clear lx
      clear b84 b85 b86
      refine stepOne HT HL HA 89 (.pick (.tmp 142) (.tmp 147) (.const (.bool false))) 148 none (.bool true) rfl (by kernel_rfl) Grd.none (yv_pick (HA.ev rfl) (HA.ev rfl)) hS (by decide) 1237940039285380274899124223 (by kernel_rfl) ?_
      clear HL HA
      intro ls a HL HA
      refine stepOne HT HL HA 90 (.move (.tmp 148)) 149 none (.bool true) rfl (by kernel_rfl) Grd.none (yv_move (HA.ev rfl)) hS (by decide) 2475880078570760549798248447 (by kernel_rfl) ?_
      clear HL HA
      intro ls a HL HA
      refine stepTake HT HL HA 91 (.move (.tmp 1)) 150 (some (90, true)) (.slice (some ⟨w.heap.size, 0, none⟩) 3 3) rfl (by kernel_rfl) (by decide) (fun _ _ _ _ h => h) (Grd.yes 90 149 rfl rfl) (yv_move (HA.ev rfl)) hS (by decide) 4951760157141521099596496895 (by kernel_rfl) ?_
      clear HL HA
      intro ls a HL HA
      refine someM HT HL [92] (by kernel_rfl) (by simp) (AllReadyH.newM HT HL HA 92 (.buildSlice 37 3 #[(0, .const (.int .i64 1)), (1, .const (.int .i64 1)), (2, .const (.int .i64 0))]) 151 (some (90, true)) (.slice (some ⟨U12.heap.size, 0, none⟩) 3 3) rfl (Grd.yes 90 149 rfl rfl) (yv_slice3 1 1 0) (by decide) 9903520314283042199192993791 (by kernel_rfl) (fun _ hl => L.trans hl) ?_ AllReadyH.nil)
      clear HL HA hS
      intro U13 lx b0 hS ls a HL HA
      have L := L.trans lx
      clear lx
      refine stepOne HT HL HA 93 (.build 39 #[(0, .tmp 151)]) 152 (some (90, true)) (.agg #[.slice (some ⟨U12.heap.size, 0, none⟩) 3 3, .slice none 0 0, .int .i64 0]) rfl (by kernel_rfl) (Grd.yes 90 149 rfl rfl) (yv_award1 (HA.ev rfl)) hS (by decide) 19807040628566084398385987583 (by kernel_rfl) ?_
      clear HL HA
      intro ls a HL HA
      refine someM HT HL [94] (by kernel_rfl) (by simp) (AllReadyH.callM HT HL HA 94 11 #[.tmp 150, .const (.int .i64 2), .const (.int .i64 11), .const (.slice none 0 0), .tmp 152] #[37, 3, 3, 37, 39] #[.slice (some ⟨w.heap.size, 0, none⟩) 3 3, .int .i64 2, .int .i64 11, .slice none 0 0, .agg #[.slice (some ⟨U12.heap.size, 0, none⟩) 3 3, .slice none 0 0, .int .i64 0]] 153 (some (90, true)) rfl (Grd.yes 90 149 rfl rfl) (by simp only [List.map_toArray, List.map_cons, List.map_nil, eval_const, HA.ev (k := 150) rfl, HA.ev (k := 152) rfl]) cf_gives (gives_yes _ 3 3 [9, 5, 3] none 0 0 [] 2 11 _ 3 3 [1, 1, 0] none 0 0 [] 0 lit_give4 _ (Sl.of_blk' (t := 3) (k10.later L) rfl) (Sl.nil _ _ _) (Sl.of_blk' (t := 3) b0 rfl) (Sl.nil _ _ _)) (.bool true) (by decide) 39614081257132168796771975167 (by kernel_rfl) (fun e w2 h => ⟨h.1, L.trans h.2⟩) ?_ AllReadyH.nil)
      clear HL HA hS
      rintro e U14 ⟨rfl, lx⟩ hS ls a HL HA
      have L := L.trans lx
      clear lx
      clear b0
      refine stepOne HT HL HA 95 (.pick (.tmp 149) (.tmp 153) (.const (.bool false))) 154 none (.bool true) rfl (by kernel_rfl) Grd.none (yv_pick (HA.ev rfl) (HA.ev rfl)) hS (by decide) 79228162514264337593543950335 (by kernel_rfl) ?_
      clear HL HA
      intro ls a HL HA
      refine stepOne HT HL HA 96 (.move (.tmp 154)) 155 none (.bool true) rfl (by kernel_rfl) Grd.none (yv_move (HA.ev rfl)) hS (by decide) 158456325028528675187087900671 (by kernel_rfl) ?_
      clear HL HA
      intro ls a HL HA
      refine stepTake HT HL HA 97 (.move (.tmp 1)) 156 (some (96, true)) (.slice (some ⟨w.heap.size, 0, none⟩) 3 3) rfl (by kernel_rfl) (by decide) (fun _ _ _ _ h => h) (Grd.yes 96 155 rfl rfl) (yv_move (HA.ev rfl)) hS (by decide) 316912650057057350374175801343 (by kernel_rfl) ?_
      clear HL HA
      intro ls a HL HA
      refine someM HT HL [98, 99] (by kernel_rfl) (by simp) (AllReadyH.newM HT HL HA 98 (.buildSlice 37 3 #[(0, .const (.int .i64 0)), (1, .const (.int .i64 0)), (2, .const (.int .i64 2))]) 157 (some (96, true)) (.slice (some ⟨U14.heap.size, 0, none⟩) 3 3) rfl (Grd.yes 96 155 rfl rfl) (yv_slice3 0 0 2) (by decide) 633825300114114700748351602687 (by kernel_rfl) (fun _ hl => L.trans hl) ?_ (AllReadyH.newM HT HL HA 99 (.buildSlice 37 3 #[(0, .const (.int .i64 1)), (1, .const (.int .i64 1)), (2, .const (.int .i64 2))]) 158 (some (96, true)) (.slice (some ⟨U14.heap.size, 0, none⟩) 3 3) rfl (Grd.yes 96 155 rfl rfl) (yv_slice3 1 1 2) (by decide) 950737950171172051122527404031 (by kernel_rfl) (fun _ hl => L.trans hl) ?_ AllReadyH.nil))
      · skip
        clear HL HA hS
        intro U15 lx b98 hS ls a HL HA
        have L := L.trans lx
        clear lx
        refine someM HT HL [99] (by kernel_rfl) (by simp) (AllReadyH.newM HT HL HA 99 (.buildSlice 37 3 #[(0, .const (.int .i64 1)), (1, .const (.int .i64 1)), (2, .const (.int .i64 2))]) 158 (some (96, true)) (.slice (some ⟨U15.heap.size, 0, none⟩) 3 3) rfl (Grd.yes 96 155 rfl rfl) (yv_slice3 1 1 2) (by decide) 1267650600228229401496703205375 (by kernel_rfl) (fun _ hl => L.trans hl) ?_ AllReadyH.nil)
        clear HL HA hS
        intro U16 lx b99 hS ls a HL HA
        have L := L.trans lx
        have b98 := b98.later lx
        clear lx
        refine stepOne HT HL HA 100 (.build 39 #[(0, .tmp 158)]) 159 (some (96, true)) (.agg #[.slice (some ⟨U15.heap.size, 0, none⟩) 3 3, .slice none 0 0, .int .i64 0]) rfl (by kernel_rfl) (Grd.yes 96 155 rfl rfl) (yv_award1 (HA.ev rfl)) hS (by decide) 2535301200456458802993406410751 (by kernel_rfl) ?_
        clear HL HA
        intro ls a HL HA
        refine someM HT HL [101] (by kernel_rfl) (by simp) (AllReadyH.callM HT HL HA 101 11 #[.tmp 156, .const (.int .i64 4), .const (.int .i64 14), .tmp 157, .tmp 159] #[37, 3, 3, 37, 39] #[.slice (some ⟨w.heap.size, 0, none⟩) 3 3, .int .i64 4, .int .i64 14, .slice (some ⟨U14.heap.size, 0, none⟩) 3 3, .agg #[.slice (some ⟨U15.heap.size, 0, none⟩) 3 3, .slice none 0 0, .int .i64 0]] 160 (some (96, true)) rfl (Grd.yes 96 155 rfl rfl) (by simp only [List.map_toArray, List.map_cons, List.map_nil, eval_const, HA.ev (k := 156) rfl, HA.ev (k := 157) rfl, HA.ev (k := 159) rfl]) cf_gives (gives_yes _ 3 3 [9, 5, 3] _ 3 3 [0, 0, 2] 4 14 _ 3 3 [1, 1, 2] none 0 0 [] 0 lit_give5 _ (Sl.of_blk' (t := 3) (k10.later L) rfl) (Sl.of_blk' (t := 3) b98 rfl) (Sl.of_blk' (t := 3) b99 rfl) (Sl.nil _ _ _)) (.bool true) (by decide) 5070602400912917605986812821503 (by kernel_rfl) (fun e w2 h => ⟨h.1, L.trans h.2⟩) ?_ AllReadyH.nil)
        clear HL HA hS
        rintro e U17 ⟨rfl, lx⟩ hS ls a HL HA
        have L := L.trans lx
        clear lx
        clear b98 b99
        refine stepOne HT HL HA 102 (.pick (.tmp 155) (.tmp 160) (.const (.bool false))) 161 none (.bool true) rfl (by kernel_rfl) Grd.none (yv_pick (HA.ev rfl) (HA.ev rfl)) hS (by decide) 10141204801825835211973625643007 (by kernel_rfl) ?_
        clear HL HA
        intro ls a HL HA
        refine stepOne HT HL HA 103 (.assign (.tmp 161)) 0 none (.bool true) rfl (by kernel_rfl) Grd.none (yv_assignS (HA.ev rfl)) hS (by decide) 20282409603651670423947251286015 (by kernel_rfl) ?_
        clear HL HA
        intro ls a HL HA
        refine doneM HT HL (by kernel_rfl) ?_
        exact HEND _ _ _ HA L
      · skip
        clear HL HA hS
        intro U15 lx b99 hS ls a HL HA
        have L := L.trans lx
        clear lx
        refine stepTake HT HL HA 100 (.build 39 #[(0, .tmp 158)]) 159 (some (96, true)) (.agg #[.slice (some ⟨U14.heap.size, 0, none⟩) 3 3, .slice none 0 0, .int .i64 0]) rfl (by kernel_rfl) (by decide) (fun _ _ _ _ h => h) (Grd.yes 96 155 rfl rfl) (yv_award1 (HA.ev rfl)) hS (by decide) 2218388550399401452619230609407 (by kernel_rfl) ?_
        clear HL HA
        intro ls a HL HA
        refine someM HT HL [98] (by kernel_rfl) (by simp) (AllReadyH.newM HT HL HA 98 (.buildSlice 37 3 #[(0, .const (.int .i64 0)), (1, .const (.int .i64 0)), (2, .const (.int .i64 2))]) 157 (some (96, true)) (.slice (some ⟨U15.heap.size, 0, none⟩) 3 3) rfl (Grd.yes 96 155 rfl rfl) (yv_slice3 0 0 2) (by decide) 2535301200456458802993406410751 (by kernel_rfl) (fun _ hl => L.trans hl) ?_ AllReadyH.nil)
        clear HL HA hS
        intro U16 lx b98 hS ls a HL HA
        have L := L.trans lx
        have b99 := b99.later lx
        clear lx
        refine someM HT HL [101] (by kernel_rfl) (by simp) (AllReadyH.callM HT HL HA 101 11 #[.tmp 156, .const (.int .i64 4), .const (.int .i64 14), .tmp 157, .tmp 159] #[37, 3, 3, 37, 39] #[.slice (some ⟨w.heap.size, 0, none⟩) 3 3, .int .i64 4, .int .i64 14, .slice (some ⟨U15.heap.size, 0, none⟩) 3 3, .agg #[.slice (some ⟨U14.heap.size, 0, none⟩) 3 3, .slice none 0 0, .int .i64 0]] 160 (some (96, true)) rfl (Grd.yes 96 155 rfl rfl) (by simp only [List.map_toArray, List.map_cons, List.map_nil, eval_const, HA.ev (k := 156) rfl, HA.ev (k := 157) rfl, HA.ev (k := 159) rfl]) cf_gives (gives_yes _ 3 3 [9, 5, 3] _ 3 3 [0, 0, 2] 4 14 _ 3 3 [1, 1, 2] none 0 0 [] 0 lit_give5 _ (Sl.of_blk' (t := 3) (k10.later L) rfl) (Sl.of_blk' (t := 3) b98 rfl) (Sl.of_blk' (t := 3) b99 rfl) (Sl.nil _ _ _)) (.bool true) (by decide) 5070602400912917605986812821503 (by kernel_rfl) (fun e w2 h => ⟨h.1, L.trans h.2⟩) ?_ AllReadyH.nil)
        clear HL HA hS
        rintro e U17 ⟨rfl, lx⟩ hS ls a HL HA
        have L := L.trans lx
        clear lx
        clear b98 b99
        refine stepOne HT HL HA 102 (.pick (.tmp 155) (.tmp 160) (.const (.bool false))) 161 none (.bool true) rfl (by kernel_rfl) Grd.none (yv_pick (HA.ev rfl) (HA.ev rfl)) hS (by decide) 10141204801825835211973625643007 (by kernel_rfl) ?_
        clear HL HA
        intro ls a HL HA
        refine stepOne HT HL HA 103 (.assign (.tmp 161)) 0 none (.bool true) rfl (by kernel_rfl) Grd.none (yv_assignS (HA.ev rfl)) hS (by decide) 20282409603651670423947251286015 (by kernel_rfl) ?_
        clear HL HA
        intro ls a HL HA
        refine doneM HT HL (by kernel_rfl) ?_
        exact HEND _ _ _ HA L
    · skip
      clear HL HA hS
      intro Z1 lx b85 hS ls a HL HA
      have L := L.trans lx
      have b86 := b86.later lx
      clear lx
      refine stepTake HT HL HA 87 (.build 39 #[(0, .tmp 144), (1, .tmp 145), (2, .const (.int .i64 1))]) 146 (some (83, true)) (.agg #[.slice (some ⟨Z0.heap.size, 0, none⟩) 2 2, .slice (some ⟨U11.heap.size, 0, none⟩) 2 2, .int .i64 1]) rfl (by kernel_rfl) (by decide) (fun _ _ _ _ h => h) (Grd.yes 83 142 rfl rfl) (yv_award (HA.ev rfl) (HA.ev rfl) (eval_const _ _)) hS (by decide) 290142196707511001929482239 (by kernel_rfl) ?_
      clear HL HA
      intro ls a HL HA
      refine someM HT HL [84] (by kernel_rfl) (by simp) (AllReadyH.newM HT HL HA 84 (.buildSlice 37 2 #[(0, .const (.int .i64 6)), (1, .const (.int .i64 6))]) 143 (some (83, true)) (.slice (some ⟨Z1.heap.size, 0, none⟩) 2 2) rfl (Grd.yes 83 142 rfl rfl) (yv_slice2 6 6) (by decide) 309485009821345068724781055 (by kernel_rfl) (fun _ hl => L.trans hl) ?_ AllReadyH.nil)
      clear HL HA hS
      intro Z2 lx b84 hS ls a HL HA
      have L := L.trans lx
      have b86 := b86.later lx
      have b85 := b85.later lx
      clear lx
      refine someM HT HL [88] (by kernel_rfl) (by simp) (AllReadyH.callM HT HL HA 88 11 #[.tmp 143, .const (.int .i64 3), .const (.int .i64 14), .const (.slice none 0 0), .tmp 146] #[37, 3, 3, 37, 39] #[.slice (some ⟨Z1.heap.size, 0, none⟩) 2 2, .int .i64 3, .int .i64 14, .slice none 0 0, .agg #[.slice (some ⟨Z0.heap.size, 0, none⟩) 2 2, .slice (some ⟨U11.heap.size, 0, none⟩) 2 2, .int .i64 1]] 147 (some (83, true)) rfl (Grd.yes 83 142 rfl rfl) (by simp only [List.map_toArray, List.map_cons, List.map_nil, eval_const, HA.ev (k := 143) rfl, HA.ev (k := 146) rfl]) cf_gives (gives_yes _ 2 2 [6, 6] none 0 0 [] 3 14 _ 2 2 [1, 1] _ 2 2 [0, 1] 1 lit_give3 _ (Sl.of_blk' (t := 3) b84 rfl) (Sl.nil _ _ _) (Sl.of_blk' (t := 3) b85 rfl) (Sl.of_blk' (t := 3) b86 rfl)) (.bool true) (by decide) 618970019642690137449562111 (by kernel_rfl) (fun e w2 h => ⟨h.1, L.trans h.2⟩) ?_ AllReadyH.nil)
      clear HL HA hS
      rintro e U12 ⟨rfl, lx⟩ hS ls a HL HA
      have L := L.trans lx
      clear lx
      clear b84 b85 b86
      refine stepOne HT HL HA 89 (.pick (.tmp 142) (.tmp 147) (.const (.bool false))) 148 none (.bool true) rfl (by kernel_rfl) Grd.none (yv_pick (HA.ev rfl) (HA.ev rfl)) hS (by decide) 1237940039285380274899124223 (by kernel_rfl) ?_
      clear HL HA
      intro ls a HL HA
      refine stepOne HT HL HA 90 (.move (.tmp 148)) 149 none (.bool true) rfl (by kernel_rfl) Grd.none (yv_move (HA.ev rfl)) hS (by decide) 2475880078570760549798248447 (by kernel_rfl) ?_
      clear HL HA
      intro ls a HL HA
      refine stepTake HT HL HA 91 (.move (.tmp 1)) 150 (some (90, true)) (.slice (some ⟨w.heap.size, 0, none⟩) 3 3) rfl (by kernel_rfl) (by decide) (fun _ _ _ _ h => h) (Grd.yes 90 149 rfl rfl) (yv_move (HA.ev rfl)) hS (by decide) 4951760157141521099596496895 (by kernel_rfl) ?_
      clear HL HA
      intro ls a HL HA
      refine someM HT HL [92] (by kernel_rfl) (by simp) (AllReadyH.newM HT HL HA 92 (.buildSlice 37 3 #[(0, .const (.int .i64 1)), (1, .const (.int .i64 1)), (2, .const (.int .i64 0))]) 151 (some (90, true)) (.slice (some ⟨U12.heap.size, 0, none⟩) 3 3) rfl (Grd.yes 90 149 rfl rfl) (yv_slice3 1 1 0) (by decide) 9903520314283042199192993791 (by kernel_rfl) (fun _ hl => L.trans hl) ?_ AllReadyH.nil)
      clear HL HA hS
      intro U13 lx b0 hS ls a HL HA
      have L := L.trans lx
      clear lx
      refine stepOne HT HL HA 93 (.build 39 #[(0, .tmp 151)]) 152 (some (90, true)) (.agg #[.slice (some ⟨U12.heap.size, 0, none⟩) 3 3, .slice none 0 0, .int .i64 0]) rfl (by kernel_rfl) (Grd.yes 90 149 rfl rfl) (yv_award1 (HA.ev rfl)) hS (by decide) 19807040628566084398385987583 (by kernel_rfl) ?_
      clear HL HA
      intro ls a HL HA
      refine someM HT HL [94] (by kernel_rfl) (by simp) (AllReadyH.callM HT HL HA 94 11 #[.tmp 150, .const (.int .i64 2), .const (.int .i64 11), .const (.slice none 0 0), .tmp 152] #[37, 3, 3, 37, 39] #[.slice (some ⟨w.heap.size, 0, none⟩) 3 3, .int .i64 2, .int .i64 11, .slice none 0 0, .agg #[.slice (some ⟨U12.heap.size, 0, none⟩) 3 3, .slice none 0 0, .int .i64 0]] 153 (some (90, true)) rfl (Grd.yes 90 149 rfl rfl) (by simp only [List.map_toArray, List.map_cons, List.map_nil, eval_const, HA.ev (k := 150) rfl, HA.ev (k := 152) rfl]) cf_gives (gives_yes _ 3 3 [9, 5, 3] none 0 0 [] 2 11 _ 3 3 [1, 1, 0] none 0 0 [] 0 lit_give4 _ (Sl.of_blk' (t := 3) (k10.later L) rfl) (Sl.nil _ _ _) (Sl.of_blk' (t := 3) b0 rfl) (Sl.nil _ _ _)) (.bool true) (by decide) 39614081257132168796771975167 (by kernel_rfl) (fun e w2 h => ⟨h.1, L.trans h.2⟩) ?_ AllReadyH.nil)
      clear HL HA hS
      rintro e U14 ⟨rfl, lx⟩ hS ls a HL HA
      have L := L.trans lx
      clear lx
      clear b0
      refine stepOne HT HL HA 95 (.pick (.tmp 149) (.tmp 153) (.const (.bool false))) 154 none (.bool true) rfl (by kernel_rfl) Grd.none (yv_pick (HA.ev rfl) (HA.ev rfl)) hS (by decide) 79228162514264337593543950335 (by kernel_rfl) ?_
      clear HL HA
      intro ls a HL HA
      refine stepOne HT HL HA 96 (.move (.tmp 154)) 155 none (.bool true) rfl (by kernel_rfl) Grd.none (yv_move (HA.ev rfl)) hS (by decide) 158456325028528675187087900671 (by kernel_rfl) ?_
      clear HL HA
      intro ls a HL HA
      refine stepTake HT HL HA 97 (.move (.tmp 1)) 156 (some (96, true)) (.slice (some ⟨w.heap.size, 0, none⟩) 3 3) rfl (by kernel_rfl) (by decide) (fun _ _ _ _ h => h) (Grd.yes 96 155 rfl rfl) (yv_move (HA.ev rfl)) hS (by decide) 316912650057057350374175801343 (by kernel_rfl) ?_
      clear HL HA
      intro ls a HL HA
      refine someM HT HL [98, 99] (by kernel_rfl) (by simp) (AllReadyH.newM HT HL HA 98 (.buildSlice 37 3 #[(0, .const (.int .i64 0)), (1, .const (.int .i64 0)), (2, .const (.int .i64 2))]) 157 (some (96, true)) (.slice (some ⟨U14.heap.size, 0, none⟩) 3 3) rfl (Grd.yes 96 155 rfl rfl) (yv_slice3 0 0 2) (by decide) 633825300114114700748351602687 (by kernel_rfl) (fun _ hl => L.trans hl) ?_ (AllReadyH.newM HT HL HA 99 (.buildSlice 37 3 #[(0, .const (.int .i64 1)), (1, .const (.int .i64 1)), (2, .const (.int .i64 2))]) 158 (some (96, true)) (.slice (some ⟨U14.heap.size, 0, none⟩) 3 3) rfl (Grd.yes 96 155 rfl rfl) (yv_slice3 1 1 2) (by decide) 950737950171172051122527404031 (by kernel_rfl) (fun _ hl => L.trans hl) ?_ AllReadyH.nil))
      · skip
        clear HL HA hS
        intro U15 lx b98 hS ls a HL HA
        have L := L.trans lx
        clear lx
        refine someM HT HL [99] (by kernel_rfl) (by simp) (AllReadyH.newM HT HL HA 99 (.buildSlice 37 3 #[(0, .const (.int .i64 1)), (1, .const (.int .i64 1)), (2, .const (.int .i64 2))]) 158 (some (96, true)) (.slice (some ⟨U15.heap.size, 0, none⟩) 3 3) rfl (Grd.yes 96 155 rfl rfl) (yv_slice3 1 1 2) (by decide) 1267650600228229401496703205375 (by kernel_rfl) (fun _ hl => L.trans hl) ?_ AllReadyH.nil)
        clear HL HA hS
        intro U16 lx b99 hS ls a HL HA
        have L := L.trans lx
        have b98 := b98.later lx
        clear lx
        refine stepOne HT HL HA 100 (.build 39 #[(0, .tmp 158)]) 159 (some (96, true)) (.agg #[.slice (some ⟨U15.heap.size, 0, none⟩) 3 3, .slice none 0 0, .int .i64 0]) rfl (by kernel_rfl) (Grd.yes 96 155 rfl rfl) (yv_award1 (HA.ev rfl)) hS (by decide) 2535301200456458802993406410751 (by kernel_rfl) ?_
        clear HL HA
        intro ls a HL HA
        refine someM HT HL [101] (by kernel_rfl) (by simp) (AllReadyH.callM HT HL HA 101 11 #[.tmp 156, .const (.int .i64 4), .const (.int .i64 14), .tmp 157, .tmp 159] #[37, 3, 3, 37, 39] #[.slice (some ⟨w.heap.size, 0, none⟩) 3 3, .int .i64 4, .int .i64 14, .slice (some ⟨U14.heap.size, 0, none⟩) 3 3, .agg #[.slice (some ⟨U15.heap.size, 0, none⟩) 3 3, .slice none 0 0, .int .i64 0]] 160 (some (96, true)) rfl (Grd.yes 96 155 rfl rfl) (by simp only [List.map_toArray, List.map_cons, List.map_nil, eval_const, HA.ev (k := 156) rfl, HA.ev (k := 157) rfl, HA.ev (k := 159) rfl]) cf_gives (gives_yes _ 3 3 [9, 5, 3] _ 3 3 [0, 0, 2] 4 14 _ 3 3 [1, 1, 2] none 0 0 [] 0 lit_give5 _ (Sl.of_blk' (t := 3) (k10.later L) rfl) (Sl.of_blk' (t := 3) b98 rfl) (Sl.of_blk' (t := 3) b99 rfl) (Sl.nil _ _ _)) (.bool true) (by decide) 5070602400912917605986812821503 (by kernel_rfl) (fun e w2 h => ⟨h.1, L.trans h.2⟩) ?_ AllReadyH.nil)
        clear HL HA hS
        rintro e U17 ⟨rfl, lx⟩ hS ls a HL HA
        have L := L.trans lx
        clear lx
        clear b98 b99
        refine stepOne HT HL HA 102 (.pick (.tmp 155) (.tmp 160) (.const (.bool false))) 161 none (.bool true) rfl (by kernel_rfl) Grd.none (yv_pick (HA.ev rfl) (HA.ev rfl)) hS (by decide) 10141204801825835211973625643007 (by kernel_rfl) ?_
        clear HL HA
        intro ls a HL HA
        refine stepOne HT HL HA 103 (.assign (.tmp 161)) 0 none (.bool true) rfl (by kernel_rfl) Grd.none (yv_assignS (HA.ev rfl)) hS (by decide) 20282409603651670423947251286015 (by kernel_rfl) ?_
        clear HL HA
        intro ls a HL HA
        refine doneM HT HL (by kernel_rfl) ?_
        exact HEND _ _ _ HA L
      · skip
        clear HL HA hS
        intro U15 lx b99 hS ls a HL HA
        have L := L.trans lx
        clear lx
        refine stepTake HT HL HA 100 (.build 39 #[(0, .tmp 158)]) 159 (some (96, true)) (.agg #[.slice (some ⟨U14.heap.size, 0, none⟩) 3 3, .slice none 0 0, .int .i64 0]) rfl (by kernel_rfl) (by decide) (fun _ _ _ _ h => h) (Grd.yes 96 155 rfl rfl) (yv_award1 (HA.ev rfl)) hS (by decide) 2218388550399401452619230609407 (by kernel_rfl) ?_
        clear HL HA
        intro ls a HL HA
        refine someM HT HL [98] (by kernel_rfl) (by simp) (AllReadyH.newM HT HL HA 98 (.buildSlice 37 3 #[(0, .const (.int .i64 0)), (1, .const (.int .i64 0)), (2, .const (.int .i64 2))]) 157 (some (96, true)) (.slice (some ⟨U15.heap.size, 0, none⟩) 3 3) rfl (Grd.yes 96 155 rfl rfl) (yv_slice3 0 0 2) (by decide) 2535301200456458802993406410751 (by kernel_rfl) (fun _ hl => L.trans hl) ?_ AllReadyH.nil)
        clear HL HA hS
        intro U16 lx b98 hS ls a HL HA
        have L := L.trans lx
        have b99 := b99.later lx
        clear lx
        refine someM HT HL [101] (by kernel_rfl) (by simp) (AllReadyH.callM HT HL HA 101 11 #[.tmp 156, .const (.int .i64 4), .const (.int .i64 14), .tmp 157, .tmp 159] #[37, 3, 3, 37, 39] #[.slice (some ⟨w.heap.size, 0, none⟩) 3 3, .int .i64 4, .int .i64 14, .slice (some ⟨U15.heap.size, 0, none⟩) 3 3, .agg #[.slice (some ⟨U14.heap.size, 0, none⟩) 3 3, .slice none 0 0, .int .i64 0]] 160 (some (96, true)) rfl (Grd.yes 96 155 rfl rfl) (by simp only [List.map_toArray, List.map_cons, List.map_nil, eval_const, HA.ev (k := 156) rfl, HA.ev (k := 157) rfl, HA.ev (k := 159) rfl]) cf_gives (gives_yes _ 3 3 [9, 5, 3] _ 3 3 [0, 0, 2] 4 14 _ 3 3 [1, 1, 2] none 0 0 [] 0 lit_give5 _ (Sl.of_blk' (t := 3) (k10.later L) rfl) (Sl.of_blk' (t := 3) b98 rfl) (Sl.of_blk' (t := 3) b99 rfl) (Sl.nil _ _ _)) (.bool true) (by decide) 5070602400912917605986812821503 (by kernel_rfl) (fun e w2 h => ⟨h.1, L.trans h.2⟩) ?_ AllReadyH.nil)
        clear HL HA hS
        rintro e U17 ⟨rfl, lx⟩ hS ls a HL HA
        have L := L.trans lx
        clear lx
        clear b98 b99
        refine stepOne HT HL HA 102 (.pick (.tmp 155) (.tmp 160) (.const (.bool false))) 161 none (.bool true) rfl (by kernel_rfl) Grd.none (yv_pick (HA.ev rfl) (HA.ev rfl)) hS (by decide) 10141204801825835211973625643007 (by kernel_rfl) ?_
        clear HL HA
        intro ls a HL HA
        refine stepOne HT HL HA 103 (.assign (.tmp 161)) 0 none (.bool true) rfl (by kernel_rfl) Grd.none (yv_assignS (HA.ev rfl)) hS (by decide) 20282409603651670423947251286015 (by kernel_rfl) ?_
        clear HL HA
        intro ls a HL HA
        refine doneM HT HL (by kernel_rfl) ?_
        exact HEND _ _ _ HA L
end Go.Proofs.Ytkjnjooggicgiaa
