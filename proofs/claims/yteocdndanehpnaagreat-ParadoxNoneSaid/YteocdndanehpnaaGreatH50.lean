/- Several texts in one: PxY, PxE, PxE2. -/
import Derived.Test.YteocdndanehpnaaGreatH47
import Derived.DeepKeys
import Derived.ChangeKeysEq
import Derived.Laws.StructEq
namespace Go.Proofs.YteocdndanehpnaaGreat
open Go.RowKit
set_option linter.unusedSimpArgs false
set_option linter.unusedVariables false
set_option maxRecDepth 100000 in
set_option maxHeartbeats 4000000 in
theorem loses_any (bp op cp bs os cs bq oq cq bt ot ct n i : Nat) (x y : Int) (w : World) (hi : (i : Int) < (n : Int)) (KS : ∀ w', Lat w w' → w'.cell? ⟨bs, os + i, none⟩ = some (.int .i64 x)) (KT : ∀ w', Lat w w' → w'.cell? ⟨bt, ot + i, none⟩ = some (.int .i64 y)) :
  Calls Tryz.prog 35 #[.agg #[.slice (some ⟨bp, op, none⟩) n cp, .slice (some ⟨bs, os, none⟩) n cs, .slice (some ⟨bq, oq, none⟩) n cq, .slice (some ⟨bt, ot, none⟩) n ct], .int .i64 (i : Int)] w (fun e w' => e = .returned (.bool (decide (y < x))) ∧ Lat w w') := by
 go_enter Tryz.func35, Tryz.ntmps35
 go_upto_region 1 with (fail)
 refine name1 (Q := fun W => Code.wp _ _ _ _ W) ?_
 intro W1 L1 hs1 k2
 obtain ⟨g, hg⟩ : ∃ z, w.heap.size = z := ⟨_, rfl⟩
 rw [hg] at k2 ⊢
 have d1 := k2.cell 1
 have d3 := k2.cell 3
 have dS := KS W1 L1
 have dT := KT W1 L1
 clear hg hs1 k2 KS KT
 go_region
 go_wp2
 go_ret
 exact ⟨rfl, L1.trans (Lat.drew _)⟩
set_option maxRecDepth 100000 in
set_option maxHeartbeats 4000000 in
theorem wins_any (bp op cp bs os cs bq oq cq bt ot ct n i : Nat) (x y : Int) (w : World) (hi : (i : Int) < (n : Int)) (KS : ∀ w', Lat w w' → w'.cell? ⟨bs, os + i, none⟩ = some (.int .i64 x)) (KT : ∀ w', Lat w w' → w'.cell? ⟨bt, ot + i, none⟩ = some (.int .i64 y)) :
  Calls Tryz.prog 36 #[.agg #[.slice (some ⟨bp, op, none⟩) n cp, .slice (some ⟨bs, os, none⟩) n cs, .slice (some ⟨bq, oq, none⟩) n cq, .slice (some ⟨bt, ot, none⟩) n ct], .int .i64 (i : Int)] w (fun e w' => e = .returned (.bool (decide (x < y))) ∧ Lat w w') := by
 go_enter Tryz.func36, Tryz.ntmps36
 go_upto_region 1 with (fail)
 refine name1 (Q := fun W => Code.wp _ _ _ _ W) ?_
 intro W1 L1 hs1 k2
 obtain ⟨g, hg⟩ : ∃ z, w.heap.size = z := ⟨_, rfl⟩
 rw [hg] at k2 ⊢
 have d1 := k2.cell 1
 have d3 := k2.cell 3
 have dS := KS W1 L1
 have dT := KT W1 L1
 clear hg hs1 k2 KS KT
 go_region
 go_wp2
 go_ret
 exact ⟨rfl, L1.trans (Lat.drew _)⟩
set_option maxRecDepth 100000 in
set_option maxHeartbeats 4000000 in
theorem faster_any (bp op cp bs os cs bq oq cq bt ot ct n i k : Nat) (p q p' q' : Int) (w : World) (hi : (i : Int) < (n : Int)) (hk : (k : Int) < (n : Int)) (KPi : ∀ w', Lat w w' → w'.cell? ⟨bp, op + i, none⟩ = some (.int .i64 p)) (KPk : ∀ w', Lat w w' → w'.cell? ⟨bp, op + k, none⟩ = some (.int .i64 q)) (KQi : ∀ w', Lat w w' → w'.cell? ⟨bq, oq + i, none⟩ = some (.int .i64 p')) (KQk : ∀ w', Lat w w' → w'.cell? ⟨bq, oq + k, none⟩ = some (.int .i64 q'))
  (hp : 0 ≤ p ∧ p ≤ 1000000000) (hq : 0 ≤ q ∧ q ≤ 1000000000) (hp' : 0 ≤ p' ∧ p' ≤ 1000000000) (hq' : 0 ≤ q' ∧ q' ≤ 1000000000) :
  Calls Tryz.prog 37 #[.agg #[.slice (some ⟨bp, op, none⟩) n cp, .slice (some ⟨bs, os, none⟩) n cs, .slice (some ⟨bq, oq, none⟩) n cq, .slice (some ⟨bt, ot, none⟩) n ct], .int .i64 (i : Int), .int .i64 (k : Int)] w (fun e w' => e = .returned (.bool (decide (0 < p ∧ 0 < q ∧ q' * p < p' * q))) ∧ Lat w w') := by
 have m1 : 0 ≤ p' * q ∧ p' * q ≤ 1000000000000000000 := ⟨Int.mul_nonneg hp'.1 hq.1, by have := Int.mul_le_mul hp'.2 hq.2 hq.1 (by omega); omega⟩
 have m2 : 0 ≤ q' * p ∧ q' * p ≤ 1000000000000000000 := ⟨Int.mul_nonneg hq'.1 hp.1, by have := Int.mul_le_mul hq'.2 hp.2 hp.1 (by omega); omega⟩
 have e1 : wrap64 (p' * q) = p' * q := IntWalk.wrap64_in _ (by omega)
 have e2 : wrap64 (q' * p) = q' * p := IntWalk.wrap64_in _ (by omega)
 have e3 : IntKind.i64.wrap (p' * q) = p' * q := IntWalk.i64_in _ (by omega)
 have e4 : IntKind.i64.wrap (q' * p) = q' * p := IntWalk.i64_in _ (by omega)
 clear m1 m2 hp hq hp' hq'
 by_cases h1 : 0 < p
 ·by_cases h2 : 0 < q
  ·have hE : decide (0 < p ∧ 0 < q ∧ q' * p < p' * q) = decide (q' * p < p' * q) := by simp [h1, h2]
   rw [hE]
   clear hE
   go_enter Tryz.func37, Tryz.ntmps37
   go_upto_region 1 with (fail)
   refine name1 (Q := fun W => Code.wp _ _ _ _ W) ?_
   intro W1 L1 hs1 k2
   obtain ⟨g, hg⟩ : ∃ z, w.heap.size = z := ⟨_, rfl⟩
   rw [hg] at k2 ⊢
   have d0 := k2.cell 0
   have d2 := k2.cell 2
   have dPi := KPi W1 L1
   have dPk := KPk W1 L1
   have dQi := KQi W1 L1
   have dQk := KQk W1 L1
   clear hg hs1 k2 KPi KPk KQi KQk
   go_region
   go_wp2
   go_ret
   exact ⟨rfl, L1.trans (Lat.drew _)⟩
  ·have hE : decide (0 < p ∧ 0 < q ∧ q' * p < p' * q) = false := by simp [h2]
   have h2b : decide (0 < q) = false := by simp [h2]
   rw [hE]
   clear hE e1 e2 e3 e4
   go_enter Tryz.func37, Tryz.ntmps37
   go_upto_region 1 with (fail)
   refine name1 (Q := fun W => Code.wp _ _ _ _ W) ?_
   intro W1 L1 hs1 k2
   obtain ⟨g, hg⟩ : ∃ z, w.heap.size = z := ⟨_, rfl⟩
   rw [hg] at k2 ⊢
   have d0 := k2.cell 0
   have d2 := k2.cell 2
   have dPi := KPi W1 L1
   have dPk := KPk W1 L1
   have dQi := KQi W1 L1
   have dQk := KQk W1 L1
   clear hg hs1 k2 KPi KPk KQi KQk
   go_region
   go_wp2
   go_ret
   exact ⟨rfl, L1.trans (Lat.drew _)⟩
 ·have hE : decide (0 < p ∧ 0 < q ∧ q' * p < p' * q) = false := by simp [h1]
  have h1b : decide (0 < p) = false := by simp [h1]
  rw [hE]
  clear hE e1 e2 e3 e4
  go_enter Tryz.func37, Tryz.ntmps37
  go_upto_region 1 with (fail)
  refine name1 (Q := fun W => Code.wp _ _ _ _ W) ?_
  intro W1 L1 hs1 k2
  obtain ⟨g, hg⟩ : ∃ z, w.heap.size = z := ⟨_, rfl⟩
  rw [hg] at k2 ⊢
  have d0 := k2.cell 0
  have d2 := k2.cell 2
  have dPi := KPi W1 L1
  have dPk := KPk W1 L1
  have dQi := KQi W1 L1
  have dQk := KQk W1 L1
  clear hg hs1 k2 KPi KPk KQi KQk
  go_region
  go_wp2
  go_ret
  exact ⟨rfl, L1.trans (Lat.drew _)⟩
set_option maxRecDepth 100000 in
set_option maxHeartbeats 4000000 in
theorem arr1_any (i : Int) (w : World) : Calls Tryz.prog 40 #[.int .i64 i] w (fun e w' => e = .returned (.int .i64 i) ∧ w = w') := by
 go_enter Tryz.func40, Tryz.ntmps40
 go_wp2
 go_ret
 exact ⟨rfl, rfl⟩
set_option maxRecDepth 100000 in
set_option maxHeartbeats 4000000 in
theorem arr2_any (ga gb bs os cs bt ot ct n m i : Nat) (x y : Int) (w : World) (hi : (i : Int) < (n : Int)) (him : (i : Int) < (m : Int)) (KA : Blk w ga 29 #[.slice (some ⟨bs, os, none⟩) n cs]) (KB : Blk w gb 29 #[.slice (some ⟨bt, ot, none⟩) m ct])
  (KS : ∀ w', Lat w w' → w'.cell? ⟨bs, os + i, none⟩ = some (.int .i64 x)) (KT : ∀ w', Lat w w' → w'.cell? ⟨bt, ot + i, none⟩ = some (.int .i64 y)) :
  Calls Tryz.prog 41 #[.int .i64 (i : Int), .pointer (some ⟨ga, 0, none⟩), .pointer (some ⟨gb, 0, none⟩)] w (fun e w' => e = .returned (.bool (!(x == y))) ∧ Lat w w') := by
 have d0 := KA.cell 0
 have d1 := KB.cell 0
 have dS := KS w (Lat.refl w)
 have dT := KT w (Lat.refl w)
 clear KA KB KS KT
 go_enter Tryz.func41, Tryz.ntmps41
 go_upto_region 1 with (fail)
 go_region
 go_wp2
 go_ret
 exact ⟨rfl, Lat.drew _⟩
set_option maxRecDepth 100000 in
set_option maxHeartbeats 4000000 in
theorem ppl1_any (gn : Nat) (i n q r : Nat) (w : World) (hn : ¬ (n : Int) = 0) (KN : Blk w gn 3 #[.int .i64 (n : Int)]) (hq : (i : Int).tdiv (n : Int) = (q : Int)) (hr : (i : Int).tmod (n : Int) = (r : Int)) (hq1 : q ≤ 100000) (hr1 : r ≤ 100000) :
  Calls Tryz.prog 32 #[.int .i64 (i : Int), .pointer (some ⟨gn, 0, none⟩)] w (fun e w' => e = .returned (.agg #[.int .i64 (q : Int), .int .i64 (r : Int)]) ∧ Lat w w') := by
 have w1 : wrap64 (q : Int) = (q : Int) := IntWalk.wrap64_in _ (by omega)
 have w2 : IntKind.i64.wrap (q : Int) = (q : Int) := IntWalk.i64_in _ (by omega)
 have w3 : wrap64 (r : Int) = (r : Int) := IntWalk.wrap64_in _ (by omega)
 have w4 : IntKind.i64.wrap (r : Int) = (r : Int) := IntWalk.i64_in _ (by omega)
 have hn' : ¬ n = 0 := by omega
 go_enter Tryz.func32, Tryz.ntmps32
 go_upto_region 1 with (fail)
 refine name1 (Q := fun W => Code.wp _ _ _ _ W) ?_
 intro W1 L1 hs1 k2
 have d0 := (KN.later L1).cell 0
 obtain ⟨g, hg⟩ : ∃ z, w.heap.size = z := ⟨_, rfl⟩
 have hwg : w.heap.size ≤ g := by omega
 rw [hg] at k2 ⊢
 have c0 := k2.cell 0
 have c1 := k2.cell 1
 have f0 := k2.frozen 0
 have f1 := k2.frozen 1
 have KX := k2
 clear hg hs1 k2 KN
 go_region
 obtain ⟨W2, hW2⟩ : ∃ z, ((W1.setCell ⟨g, 0, none⟩ (.int .i64 (q : Int))).setCell ⟨g, 1, none⟩ (.int .i64 (r : Int))).drew = z := ⟨_, rfl⟩
 have k3 : Blk W2 g 56 #[.int .i64 (q : Int), .int .i64 (r : Int)] := by
  rw [← hW2]
  have := ((KX.set 0 (.int .i64 (q : Int))).set 1 (.int .i64 (r : Int))).later (Lat.drew _)
  simpa using this
 have L3 : Lat w W2 := by
  rw [← hW2]
  exact (Lat.setCell (Lat.setCell L1 hwg _) hwg _).trans (Lat.drew _)
 rw [hW2]
 clear hW2 c0 c1 f0 f1 KX
 have c0 := k3.cell 0
 have c1 := k3.cell 1
 go_wp2
 refine bodyPost_ret (v := .agg #[.int .i64 (q : Int), .int .i64 (r : Int)]) (by simp [results, Tryz.results32, go_sem, c0, c1]) rfl ?_
 exact ⟨rfl, L3⟩
end Go.Proofs.YteocdndanehpnaaGreat
namespace Go.Proofs.YteocdndanehpnaaGreat
open Go.RowKit
set_option linter.unusedSimpArgs false
theorem pr_int : (Tryz.prog.info? 3).map (fun i => (i.zero, i.size, i.bytes)) = some (some (.int .i64 0), 1, 8) := by kernel_rfl
theorem pr_eq (a b c d : Int) (w : World) : (Op.equalIn 10000 56 (.agg #[.int .i64 a, .int .i64 b]) (.agg #[.int .i64 c, .int .i64 d])).run Tryz.prog w = .ok (a == c && b == d) w := by
 obtain ⟨i0, hi0, hz0, hz1, hz2⟩ := info_parts pr_int
 have hc : Tryz.prog.cellsOf 3 = 1 := by kernel_rfl
 rw [run_equalIn_array w 9999 _ _ Tryz.underlying56 hi0, hc]
 rw [show List.range 2 = [0, 1] from rfl]
 have hp : Tryz.prog.plainKey 3 = true := by kernel_rfl
 have p1 : ∀ x y : Int, (part 3 #[.int .i64 x, .int .i64 y] 0).run Tryz.prog w = .ok (.int .i64 x) w := fun x y => run_part_plain w hp rfl
 have p2 : ∀ x y : Int, (part 3 #[.int .i64 x, .int .i64 y] 1).run Tryz.prog w = .ok (.int .i64 y) w := fun x y => run_part_plain w hp rfl
 have p3 : ∀ x y : Int, (Op.equalIn 9999 3 (.int .i64 x) (.int .i64 y)).run Tryz.prog w = .ok (x == y) w := fun x y => run_equalIn_int (P := Tryz.prog) w 9998 3 .i64 .i64 x y Tryz.underlying3
 rw [Op.eqItems]
 simp only [Nat.zero_mul, Sem.run_bind, p1, p3, Result.andThen_ok]
 cases h : (a == c)
 ·simp [Result.andThen_ok]
 ·simp [Op.eqItems, p2, p3, Result.andThen_ok]
  split <;> simp_all
theorem pr_neq (a b c d : Int) (w : World) : (binOp .neq 56 (.agg #[.int .i64 a, .int .i64 b]) (.agg #[.int .i64 c, .int .i64 d])).run Tryz.prog w = .ok (.bool (!(a == c && b == d))) w := by
 rw [run_neq_struct, pr_eq]
 rfl
theorem pr_guard : Tryz.prog.eqGuardType Tryz.prog.depth 56 = false := by kernel_rfl
end Go.Proofs.YteocdndanehpnaaGreat
namespace Go.Proofs.YteocdndanehpnaaGreat
open Go.RowKit
set_option linter.unusedSimpArgs false
set_option linter.unusedVariables false
theorem prs_inv {xs : List (Int × Int)} {k : Nat} {x : List Value} (h : (prs xs)[k]? = some x) : ∃ a b, xs[k]? = some (a, b) ∧ x = [.int .i64 a, .int .i64 b] := by
 unfold prs at h
 rw [List.getElem?_map] at h
 cases hx : xs[k]? with
 | none => rw [hx] at h; cases h
 | some y => rw [hx] at h; simp only [Option.map_some, Option.some.injEq] at h; exact ⟨y.1, y.2, rfl, h.symm⟩
set_option maxRecDepth 100000 in
set_option maxHeartbeats 2000000 in
theorem equal22_same (A1 : Option Addr) (n c1 : Nat) (xs : List (Int × Int)) (A2 : Option Addr) (c2 : Nat) (w : World) (h1 : RowM w A1 2 n (prs xs)) (h2 : RowM w A2 2 n (prs xs)) (hn : n ≤ 1000000) :
  Calls Tryz.prog 25 #[.slice A1 n c1, .slice A2 n c2] w (fun e w' => e = .returned (.bool true) ∧ Lat w w') := by
 go_enter Tryz.func25, Tryz.ntmps25
 go_wp2
 go_loopw [13] (fun i wr => ∃ k : Nat, k ≤ n ∧ i = .int .i64 k ∧ Lat w wr) (fun i _ => n - (intOf i).toNat)
 case atStart => exact ⟨0, Nat.zero_le _, rfl, Lat.refl _⟩
 case round =>
  rename_i wr
  obtain ⟨k, hk, rfl, hlr⟩ := hrel
  by_cases hlt : k < n
  ·obtain ⟨g, o, x, rfl, hg, hxk, hl, hr⟩ := (h1.later hlr).at hlt
   obtain ⟨g', o', x', rfl, hg', hxk', hl', hr'⟩ := (h2.later hlr).at hlt
   rw [hxk] at hxk'
   cases hxk'
   obtain ⟨a, b, hxa, rfl⟩ := prs_inv hxk
   have c0 : wr.cell? ⟨g, o + k * 2, none⟩ = some (.int .i64 a) := hr 0 _ rfl
   have c1 : wr.cell? ⟨g, o + k * 2 + 1, none⟩ = some (.int .i64 b) := hr 1 _ rfl
   have d0 : wr.cell? ⟨g', o' + k * 2, none⟩ = some (.int .i64 a) := hr' 0 _ rfl
   have d1 : wr.cell? ⟨g', o' + k * 2 + 1, none⟩ = some (.int .i64 b) := hr' 1 _ rfl
   have HN : ∀ w, (Op.equalIn 10000 56 (.agg #[.int .i64 a, .int .i64 b]) (.agg #[.int .i64 a, .int .i64 b])).run Tryz.prog w = .ok true w := fun w => by rw [pr_eq]; simp
   clear hxa hxk hl hr hl' hr'
   go_wp2
   go_region
   all_goals
    go_wp2
    go_roundw
    case rel => exact ⟨k + 1, by omega, by go_num, hlr.trans (Lat.drew _)⟩
    case measure => simp [intOf]; omega
  ·obtain rfl : k = n := by omega
   go_wp2
   go_ret
   exact ⟨rfl, hlr⟩
end Go.Proofs.YteocdndanehpnaaGreat
