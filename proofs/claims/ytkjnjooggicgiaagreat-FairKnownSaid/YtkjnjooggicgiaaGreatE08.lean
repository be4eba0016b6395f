/- Several texts in one: Ofs. -/
import Derived.Test.YtkjnjooggicgiaaGreatE03

/- Fractions of whole numbers, as the statements and the reference make them. -/
namespace Go.Proofs.YtkjnjooggicgiaaGreat
open Go.RowKit
set_option linter.unusedSimpArgs false

set_option maxRecDepth 100000 in
set_option maxHeartbeats 2000000 in
/-- The fraction n / d of whole numbers. -/
theorem l9_of (n d : Int) (w : World) (h0 : 0 < d) (h1 : d ≤ 9223372036854775807) (h2 : -9223372036854775808 ≤ n) (h3 : n ≤ 9223372036854775807) :
    Calls Tryz.prog 11 #[.int .i64 n, .int .i64 d] w (fun e w' => e = .returned (.agg (shA n d)) ∧ Lat w w') := by
  have HO : ∀ w, Calls Tryz.prog 26 #[.int .i64 n, .int .i64 d] w (ShR w (shA n d) 0) := fun w => (rOf_ok n d (by omega) h2 (by omega) (by omega) (by omega) w).mono fun _ _ h => (h.fits (fits_small h0 h1 h2 h3)).r
  obtain ⟨u, v, hX⟩ : ∃ u v : W8, shA n d = #[.int .u64 u.a0, .int .u64 u.a1, .int .u64 u.a2, .int .u64 u.a3, .int .u64 u.a4, .int .u64 u.a5, .int .u64 u.a6, .int .u64 u.a7, .int .u64 v.a0, .int .u64 v.a1, .int .u64 v.a2, .int .u64 v.a3, .int .u64 v.a4, .int .u64 v.a5, .int .u64 v.a6, .int .u64 v.a7] := ⟨_, _, rfl⟩
  have hG := shA_good n d
  obtain ⟨X, hX'⟩ : ∃ X, shA n d = X := ⟨_, rfl⟩
  rw [hX'] at HO hX hG ⊢
  have HX := Lib.hid hX
  have X1 := Lib.hid hG.1
  have X2 := Lib.hid hG.2.1
  have i16 : Hid ((Tryz.prog.info? 35).map (·.size) = some X.size) := by show _ = _; rw [X1.out]; exact shareInfo16
  clear hX hX' hG h0 h1 h2 h3
  go_enter Tryz.func11, Tryz.ntmps11
  go_wp2_with fail
  refine name1 (Q := fun W => Calls _ _ _ W _) ?_
  intro W hl hs k1
  refine (HO W).mono ?_
  rintro e w1 ⟨rfl, l1⟩
  have K1 := k1.later l1
  have L := hl.trans l1
  have hlt := K1.lt
  have K0 := Blk.new w1 35 #[.int .u64 W8.zero.a0, .int .u64 W8.zero.a1, .int .u64 W8.zero.a2, .int .u64 W8.zero.a3, .int .u64 W8.zero.a4, .int .u64 W8.zero.a5, .int .u64 W8.zero.a6, .int .u64 W8.zero.a7, .int .u64 W8.zero.a0, .int .u64 W8.zero.a1, .int .u64 W8.zero.a2, .int .u64 W8.zero.a3, .int .u64 W8.zero.a4, .int .u64 W8.zero.a5, .int .u64 W8.zero.a6, .int .u64 W8.zero.a7]
  clear k1 hl l1 HO
  go_wp2_with (first
    | (refine wpList_put rfl 35 (.tmp 5) (.tmp 11) (by rfl) (by rfl) w1.heap.size (by rfl) X (by rfl) K0 (by rw [X1.out]; rfl) i16.out X2.out ?_; intro w5 hput;
         have KX := hput.blk; have L5 := hput.lat w (L.trans (Lat.alloc _ _)) (by have := L.size; omega); have KR := hput.keep (K1.alloc _) (by omega))
    | (refine wpList_get (by rfl) 35 (.tmp 5) (by rfl) w1.heap.size (by rfl) KX _ Tryz.underlying35 rfl i16.out ?_)
    | (refine wpList_put rfl 35 (.tmp 4) (.tmp 13) (by rfl) (by rfl) w.heap.size (by rfl) X (by rfl) KR (by rw [X1.out]; rfl) i16.out X2.out ?_; intro w6 hput6; have KS := hput6.blk; have L6 := hput6.lat w L5 (Nat.le_refl _)))
  obtain ⟨u, v, rfl⟩ := HX.out
  have e0 := KS.cell 0
  have e1 := KS.cell 1
  have e2 := KS.cell 2
  have e3 := KS.cell 3
  have e4 := KS.cell 4
  have e5 := KS.cell 5
  have e6 := KS.cell 6
  have e7 := KS.cell 7
  have e8 := KS.cell 8
  have e9 := KS.cell 9
  have e10 := KS.cell 10
  have e11 := KS.cell 11
  have e12 := KS.cell 12
  have e13 := KS.cell 13
  have e14 := KS.cell 14
  have e15 := KS.cell 15
  clear KX KR hput hput6 K0 K1
  refine bodyPost_ret (v := .agg #[.int .u64 u.a0, .int .u64 u.a1, .int .u64 u.a2, .int .u64 u.a3, .int .u64 u.a4, .int .u64 u.a5, .int .u64 u.a6, .int .u64 u.a7, .int .u64 v.a0, .int .u64 v.a1, .int .u64 v.a2, .int .u64 v.a3, .int .u64 v.a4, .int .u64 v.a5, .int .u64 v.a6, .int .u64 v.a7]) (by simp [results, Tryz.results11, go_sem, e0, e1, e2, e3, e4, e5, e6, e7, e8, e9, e10, e11, e12, e13, e14, e15]) rfl ?_
  exact ⟨rfl, L6⟩

end Go.Proofs.YtkjnjooggicgiaaGreat
