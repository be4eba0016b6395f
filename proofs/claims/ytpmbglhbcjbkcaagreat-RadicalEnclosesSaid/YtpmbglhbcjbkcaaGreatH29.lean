/- Several texts in one: RdW. -/
import Derived.Deep.DeepCutAuto
import Derived.Test.YtpmbglhbcjbkcaaGreatH28
import Derived.Test.YtpmbglhbcjbkcaaGreatH25
namespace Go.Proofs.YtpmbglhbcjbkcaaGreat
set_option maxHeartbeats 16000000
set_option maxRecDepth 100000
open Go.RowKit
set_option linter.unusedSimpArgs false
set_option linter.unusedVariables false
def z16 : List Int := List.replicate 16 0
def p16 (x y : Int) : List Int := zcX x y :: ze3 x y :: List.replicate 14 0
theorem zl8 {x y : Int} (h : x = 0 ∨ y = 0) : p16 x y = z16 := by
 have e : x * y = 0 := by rcases h with rfl | rfl <;> simp
 have hl : zcX x y = 0 := by unfold zcX; rw [e]; rfl
 have hh : ze3 x y = 0 := by unfold ze3; rw [e]; rfl
 unfold p16 z16
 rw [hl, hh]
 rfl
theorem zgQ {a : Int} (h0 : 0 ≤ a) (h1 : a < W64) : zeS 0 a 0 = a ∧ zhj 0 a 0 = 0 := by
 unfold zeS zhj W64 at *
 omega
theorem zjk (x y : Int) (hx : 0 ≤ x ∧ x < W64) (hy : 0 ≤ y ∧ y < W64) (g : Nat) (w : World) (hb : Blk w g 216 (nums .u64 z16)) :
  Calls Tryz.prog 162 #[.int .u64 x, .int .u64 y, .int .i64 0, .pointer (some ⟨g, 0, none⟩)] w
   (fun e w' => e = .returned (.tuple #[]) ∧ Blk w' g 216 (nums .u64 (p16 x y)) ∧ LatP (· = g) w w') := by
 obtain ⟨m1, m2, m3, m4⟩ := zci hx hy
 have HM := fun w => zgp x y hx hy w
 obtain ⟨lo, hlo⟩ : ∃ z, zcX x y = z := ⟨_, rfl⟩
 obtain ⟨hi, hhi⟩ : ∃ z, ze3 x y = z := ⟨_, rfl⟩
 have hp : Hid (p16 x y = lo :: hi :: List.replicate 14 0) := by show _ = _; unfold p16; rw [hlo, hhi]
 rw [hlo] at m2
 rw [hhi] at m3 m4
 rw [hlo, hhi] at HM
 obtain ⟨a1, a2⟩ := zgQ m2.1 m2.2
 obtain ⟨b1, b2⟩ := zgQ m3 m4
 have add1 := zbv 0 lo 0 (by omega) m2.1 (by omega) (by omega)
 have add2 := zbv 0 hi 0 (by omega) m3 (by omega) (by omega)
 rw [a1, a2] at add1
 rw [b1, b2] at add2
 have c0 := hb.cell 0
 have c1 := hb.cell 1
 have f0 := hb.frozen 0
 have f1 := hb.frozen 1
 have h0 : (nums .u64 z16)[0]? = some (.int .u64 0) := rfl
 have h1 : (nums .u64 z16)[1]? = some (.int .u64 0) := rfl
 rw [h0] at c0
 rw [h1] at c1
 have HB := Lib.hid hb
 clear hx hy m1 m2 m3 m4 hlo hhi a1 a2 b1 b2 h0 h1 hb
 go_enter Tryz.func162, Tryz.ntmps162
 go_wp2_with fail
 refine wp_scope_straight ?_
 go_wp2_with (go_at_call 124; refine (HM _).mono ?_; rintro e w' ⟨rfl, rfl⟩)
 have K1 := HB.out.put 0 lo
 have K2 := K1.put 1 hi
 have hz : ((z16.set 0 lo).set 1 hi) = p16 x y := by rw [hp.out]; rfl
 rw [hz] at K2
 have LP : LatP (· = g) w ((w.setCell ⟨g, 0, none⟩ (.int .u64 lo)).setCell ⟨g, 1, none⟩ (.int .u64 hi)) := (LatP.setc w g 0 _).trans (LatP.setc _ g 1 _)
 obtain ⟨V, hV⟩ : ∃ V, (w.setCell ⟨g, 0, none⟩ (.int .u64 lo)).setCell ⟨g, 1, none⟩ (.int .u64 hi) = V := ⟨_, rfl⟩
 rw [hV] at K2 LP ⊢
 clear hV K1 c0 c1 f0 f1 HB
 go_step3
 go_wp2
 go_loopw [10] (fun v wr => v = .int .u64 0 ∧ wr = V) (fun _ _ => 0)
 case atStart => exact ⟨rfl, rfl⟩
 case round =>
  obtain ⟨rfl, rfl⟩ := hrel
  go_wp2
  rw [Exit.noGoto_normal]
  go_end0
  exact ⟨rfl, K2, LP⟩
def zbh (x : Int) : W8 := ⟨x, 0, 0, 0, 0, 0, 0, 0⟩
def zcP (x y : Int) : W8 := ⟨x, y, 0, 0, 0, 0, 0, 0⟩
theorem zb9 {P : Program} {ops : Array Oper} {rest : List Oper} {o : Oper} {a : Act} {w : World} {Q : Exit → Act → World → Prop} (hgd : o.guard = none) (V : Value) (hrun : (execOp a.eval o).run P w = .ok (.value V) w)
  (h : wpList P ops Q rest (a.put o.dst V) w) : wpList P ops Q (o :: rest) a w := by
 refine wpList_plain hgd fun K hK => ?_
 unfold Oper.wp
 rw [hrun, Oper.upon_value]
 exact hK _ _ h
theorem zl9 (g : Nat) (w : World) : (Instr.arrayAt 161 (.slice (some ⟨g, 0, none⟩) 8 16)).run Tryz.prog w = .ok (.pointer (some ⟨g, 0, none⟩)) w := by
 unfold Instr.arrayAt
 simp [run_underlying Tryz.underlying161]
theorem sum0 {i j : Nat} (h1 : i = 0) (h2 : j = 0) : (0 : Int) = (i : Int) + (j : Int) := by subst h1 h2; rfl
theorem idxS (x : Int) (k : Nat) (hk : k < 8) : ∀ (o : Oper) (ev : Operand → Value) (w : World) (p q : Operand), o.op = .index 161 p q → ev p = .agg (W8.one (zbh x)) → ev q = .int .i64 k →
  (execOp ev o).run Tryz.prog w = .ok (.value (.int .u64 (if k = 0 then x else 0))) w := by
 intro o ev w p q ho hx hy
 obtain ⟨d, op, ty, ps, af, g⟩ := o
 simp only at ho
 subst ho
 unfold execOp
 simp only [hx, hy]
 rcases k with _ | _ | _ | _ | _ | _ | _ | _ | k
 all_goals first | omega | (simp only [zbh]; go_simp; unfold Instr.index; go_simp)
theorem zkC (x y : Int) (hx : 0 ≤ x ∧ x < W64) (hy : 0 ≤ y ∧ y < W64) (w : World) :
  Calls Tryz.prog 154 #[.agg (W8.one (zbh x)), .agg (W8.one (zbh y))] w (fun e w' => e = .returned (.tuple #[.agg (W8.one (zcP (zcX x y) (ze3 x y))), .int .u64 0]) ∧ Lat w w') := by
 have HG := Lib.hid (fun g w hb => zjk x y hx hy g w hb)
 have HX := Lib.hid (idxS x)
 have HY := Lib.hid (idxS y)
 have HPZ := Lib.hid (@zl8 x y)
 have hp : Hid (p16 x y = zcX x y :: ze3 x y :: List.replicate 14 0) := rfl
 obtain ⟨lo, hlo⟩ : ∃ z, zcX x y = z := ⟨_, rfl⟩
 obtain ⟨hi, hhi⟩ : ∃ z, ze3 x y = z := ⟨_, rfl⟩
 rw [hlo, hhi] at hp ⊢
 obtain ⟨P, hP⟩ : ∃ P, p16 x y = P := ⟨_, rfl⟩
 rw [hP] at HG HPZ hp
 obtain ⟨u, hu⟩ : ∃ u, zbh x = u := ⟨_, rfl⟩
 obtain ⟨v, hv⟩ : ∃ v, zbh y = v := ⟨_, rfl⟩
 rw [hu] at HX ⊢
 rw [hv] at HY ⊢
 obtain ⟨r, hr⟩ : ∃ r, zcP lo hi = r := ⟨_, rfl⟩
 rw [hr]
 have HR := Lib.hid hr
 clear hlo hhi hP hu hv hx hy hr
 go_enter Tryz.func154, Tryz.ntmps154
 go_upto_region 3 with (fail)
 refine zne (Q := fun W => Code.wp _ _ _ _ W) ?_
 intro W hl hs k1 k2 k3 k4
 obtain ⟨g1, hg1⟩ : ∃ z, w.heap.size = z := ⟨_, rfl⟩
 rw [hg1] at k1 k2 k3 k4 hs ⊢
 have HGS := Lib.hid hg1
 clear hg1 hs
 obtain ⟨g2, hg2⟩ : ∃ z, g1 + 1 = z := ⟨_, rfl⟩
 rw [hg2] at k2 k3 k4 ⊢
 obtain ⟨g3, hg3⟩ : ∃ z, g2 + 1 = z := ⟨_, rfl⟩
 rw [hg3] at k3 k4 ⊢
 obtain ⟨g4, hg4⟩ : ∃ z, g3 + 1 = z := ⟨_, rfl⟩
 rw [hg4] at k4 ⊢
 have HNE : Hid (g1 ≠ g4 ∧ g2 ≠ g4 ∧ g3 ≠ g4 ∧ w.heap.size ≤ g4 ∧ w.heap.size ≤ g3) := by have := HGS.out; exact ⟨by omega, by omega, by omega, by omega, by omega⟩
 clear hg2 hg3 hg4
 have K4 : Blk W g4 216 (nums .u64 z16) := k4
 have K3 : Blk W g3 161 (W8.one W8.zero) := k3
 have c0 := k1.cell 0
 have c1 := k1.cell 1
 have c2 := k1.cell 2
 have c3 := k1.cell 3
 have c4 := k1.cell 4
 have c5 := k1.cell 5
 have c6 := k1.cell 6
 have c7 := k1.cell 7
 go_wp2
 clear c0 c1 c2 c3 c4 c5 c6 c7 k4 k3
 go_loopw [17] (fun iv wr => ∃ (i : Nat) (L : List Int), i ≤ 8 ∧ iv = .int .i64 (i : Nat) ∧ Blk wr g1 161 (W8.one u) ∧ Blk wr g2 161 (W8.one v) ∧ Blk wr g3 161 (W8.one W8.zero) ∧ Blk wr g4 216 (nums .u64 L) ∧ Hid (i = 0 → L = z16) ∧ Hid (0 < i → L = P) ∧ Lat w wr) (fun iv _ => 8 - (intOf iv).toNat)
 case atStart => exact ⟨0, z16, by omega, rfl, k1, k2, K3, K4, fun _ => rfl, fun h => absurd h (by omega), hl⟩
 case round =>
  clear k1 k2 K3 K4 hl
  obtain ⟨i, L, hile, rfl, k1, k2, k3, k4, hL0, hL1, hl⟩ := hrel
  by_cases hi8 : i < 8
  ·obtain ⟨wo, rfl⟩ : ∃ wo : World, wo = wr := ⟨_, rfl⟩
   have hXI := HX.out i hi8
   obtain ⟨xi, hxi⟩ : ∃ z, (if i = 0 then x else 0) = z := ⟨_, rfl⟩
   rw [hxi] at hXI
   have HXI := Lib.hid hxi
   have hiI : (i : Int) < 8 := by omega
   have HI8 := Lib.hid hi8
   have wi : wrap64 ((i : Int) + 1) = (i : Int) + 1 := IntWalk.wrap64_in _ (by omega)
   clear hxi hile hi8
   have c0 := k2.cell 0
   have c1 := k2.cell 1
   have c2 := k2.cell 2
   have c3 := k2.cell 3
   have c4 := k2.cell 4
   have c5 := k2.cell 5
   have c6 := k2.cell 6
   have c7 := k2.cell 7
   go_wp2_with (refine zb9 rfl (.int .u64 xi) (hXI _ _ _ _ _ (by rfl) (by rfl) (by rfl)) ?_)
   clear hXI c0 c1 c2 c3 c4 c5 c6 c7
   go_loopw [22] (fun jv wr => ∃ (j : Nat) (L : List Int), j ≤ 8 ∧ jv = .int .i64 (j : Nat) ∧ Blk wr g1 161 (W8.one u) ∧ Blk wr g2 161 (W8.one v) ∧ Blk wr g3 161 (W8.one W8.zero) ∧ Blk wr g4 216 (nums .u64 L) ∧ Hid (i = 0 → j = 0 → L = z16) ∧ Hid (0 < i ∨ 0 < j → L = P) ∧ Lat w wr) (fun iv _ => 8 - (intOf iv).toNat)
   case atStart => exact ⟨0, L, by omega, rfl, k1, k2, k3, k4, fun h _ => hL0.out h, fun h => hL1.out (by omega), hl⟩
   case round =>
    clear k1 k2 k3 k4 hL0 hL1 hl
    obtain ⟨j, L, hj, rfl, k1, k2, k3, k4, hL0, hL1, hl⟩ := hrel
    by_cases hj8 : j < 8
    ·have hYJ := HY.out j hj8
     obtain ⟨yj, hyj⟩ : ∃ z, (if j = 0 then y else 0) = z := ⟨_, rfl⟩
     rw [hyj] at hYJ
     have hjI : (j : Int) < 8 := by omega
     have HJ8 := Lib.hid hj8
     have wj : wrap64 ((j : Int) + 1) = (j : Int) + 1 := IntWalk.wrap64_in _ (by omega)
     have HXI2 := HXI.out
     clear hj hj8
     by_cases hx0 : xi = 0
     ·as_aux_lemma =>
      have hxB : ((xi : Int) != 0) = false := by simp [hx0]
      have hLP : Hid (L = P) := by
       show L = P
       rcases Nat.eq_zero_or_pos i with h1 | h1
       ·rcases Nat.eq_zero_or_pos j with h2 | h2
        ·rw [if_pos h1] at HXI2
         rw [hL0.out h1 h2]
         exact (HPZ.out (.inl (HXI2.trans hx0))).symm
        ·exact hL1.out (.inr h2)
       ·exact hL1.out (.inl h1)
      clear hx0 hyj HXI2 hL0 hL1 HPZ
      go_wp2_with (refine zb9 rfl (.int .u64 yj) (hYJ _ _ _ _ _ (by rfl) (by rfl) (by rfl)) ?_)
      go_roundw
      case rel => exact ⟨j + 1, L, HJ8.out, zac j, k1, k2, k3, k4, fun _ h => absurd h (Nat.succ_ne_zero j), fun _ => hLP.out, hl⟩
      case measure => exact zar HJ8.out
     ·have hxB : ((xi : Int) != 0) = true := by simp [hx0]
      have hi0 : i = 0 := by
       rcases Nat.eq_zero_or_pos i with h1 | h1
       ·exact h1
       ·rw [if_neg (Nat.ne_of_gt h1)] at HXI2; exact absurd HXI2.symm hx0
      by_cases hy0 : yj = 0
      ·as_aux_lemma =>
       have hyB : ((yj : Int) != 0) = false := by simp [hy0]
       have hLP : Hid (L = P) := by
        show L = P
        rcases Nat.eq_zero_or_pos j with h2 | h2
        ·rw [if_pos h2] at hyj
         rw [hL0.out hi0 h2]
         exact (HPZ.out (.inr (hyj.trans hy0))).symm
        ·exact hL1.out (.inr h2)
       clear hx0 hyj HXI2 hL0 hL1 HPZ hy0 hi0
       go_wp2_with (refine zb9 rfl (.int .u64 yj) (hYJ _ _ _ _ _ (by rfl) (by rfl) (by rfl)) ?_)
       go_roundw
       case rel => exact ⟨j + 1, L, HJ8.out, zac j, k1, k2, k3, k4, fun _ h => absurd h (Nat.succ_ne_zero j), fun _ => hLP.out, hl⟩
       case measure => exact zar HJ8.out
      ·as_aux_lemma =>
       have hyB : ((yj : Int) != 0) = true := by simp [hy0]
       have hj0 : j = 0 := by
        rcases Nat.eq_zero_or_pos j with h1 | h1
        ·exact h1
        ·rw [if_neg (Nat.ne_of_gt h1)] at hyj; exact absurd hyj.symm hy0
       have e1 : xi = x := by rw [if_pos hi0] at HXI2; exact HXI2.symm
       have e2 : yj = y := by rw [if_pos hj0] at hyj; exact hyj.symm
       have hLz := hL0.out hi0 hj0
       subst hLz
       have HGG := HG.out g4 wr k4
       rw [sum0 hi0 hj0] at HGG
       rw [← e1, ← e2] at HGG
       clear hx0 hyj HXI2 hL0 hL1 HPZ hy0 hi0 hj0 e1 e2 k4 HG HX HY
       go_wp2_with (first
        | (refine zb9 rfl (.int .u64 yj) (hYJ _ _ _ _ _ (by rfl) (by rfl) (by rfl)) ?_)
        | (go_at_call 162; refine HGG.mono ?_; rintro e w5 ⟨rfl, k4, lp⟩))
       have K1 := k1.keepP lp HNE.out.1
       have K2 := k2.keepP lp HNE.out.2.1
       have K3 := k3.keepP lp HNE.out.2.2.1
       have LL := lp.narrow hl HNE.out.2.2.2.1
       go_roundw
       case rel => exact ⟨j + 1, P, HJ8.out, zac j, K1, K2, K3, k4, fun _ h => absurd h (Nat.succ_ne_zero j), fun _ => rfl, LL⟩
       case measure => exact zar HJ8.out
    ·as_aux_lemma =>
     obtain rfl : j = 8 := by omega
     have hge : ¬ (((8 : Nat) : Int)) < 8 := by omega
     have hLP := Lib.hid (hL1.out (.inr (by omega)))
     clear hL0 hL1 hj hj8
     go_wp2
     go_roundw
     case rel => exact ⟨i + 1, L, HI8.out, zac i, k1, k2, k3, k4, fun h => absurd h (Nat.succ_ne_zero i), fun _ => hLP.out, hl⟩
     case measure => exact zar HI8.out
  ·obtain rfl : i = 8 := by omega
   have hge : ¬ (((8 : Nat) : Int)) < 8 := by omega
   have hLP := hL1.out (by omega)
   rw [hLP, hp.out] at k4
   have K4 : Blk wr g4 216 #[.int .u64 lo, .int .u64 hi, .int .u64 0, .int .u64 0, .int .u64 0, .int .u64 0, .int .u64 0, .int .u64 0, .int .u64 0, .int .u64 0, .int .u64 0, .int .u64 0, .int .u64 0, .int .u64 0, .int .u64 0, .int .u64 0] := k4
   have HC : Hid (∀ k : Nat, k < 8 → wr.cell? ⟨g4, 8 + k, none⟩ = some (.int .u64 0)) := fun k hk => by
    rw [K4.cell (8 + k)]
    rcases k with _ | _ | _ | _ | _ | _ | _ | _ | k
    all_goals first | rfl | omega
   clear hL0 hL1 hile hi8 hLP k4 k1 k2 HG HX HY HPZ hp
   obtain ⟨wo, rfl⟩ : ∃ wo : World, wo = wr := ⟨_, rfl⟩
   go_wp2
   go_loopw [12, 43] (fun v iv wr => ∃ k : Nat, k ≤ 8 ∧ v = .int .u64 0 ∧ iv = .int .i64 (k : Nat) ∧ wr = wo) (fun _ iv _ => 8 - (intOf iv).toNat)
   case atStart => exact ⟨0, by omega, rfl, rfl, rfl⟩
   case round =>
    obtain ⟨k, hk, rfl, rfl, rfl⟩ := hrel
    by_cases hk8 : k < 8
    ·as_aux_lemma =>
     have hc := HC.out k hk8
     have hkI : (k : Int) < 8 := by omega
     have hk0 : (0 : Int) ≤ (k : Int) := by omega
     have HK := Lib.hid hk8
     have wk : wrap64 ((k : Int) + 1) = (k : Int) + 1 := IntWalk.wrap64_in _ (by omega)
     clear hk hk8 HC
     go_wp2
     go_roundw
     case rel => exact ⟨k + 1, HK.out, rfl, zac k, by first | rfl | trivial⟩
     case measure => exact zar HK.out
    ·as_aux_lemma =>
     obtain rfl : k = 8 := by omega
     have hge : ¬ (((8 : Nat) : Int)) < 8 := by omega
     have hrg : wr.rangeAt g4 0 [(zcP lo hi).b0, (zcP lo hi).b1, (zcP lo hi).b2, (zcP lo hi).b3, (zcP lo hi).b4, (zcP lo hi).b5, (zcP lo hi).b6, (zcP lo hi).b7] := fun j v hj => by
      rw [Nat.zero_add, K4.cell j]
      rcases j with _ | _ | _ | _ | _ | _ | _ | _ | j
      all_goals first | exact hj | (simp at hj)
     have HA : ∀ w, (Instr.arrayAt 161 (.slice (some ⟨g4, 0, none⟩) 8 16)).run Tryz.prog w = .ok (.pointer (some ⟨g4, 0, none⟩)) w := fun w => zl9 g4 w
     have hkt := k3.thereAll 8 rfl
     have KS := k3.setCells (W8.one r) rfl
     have LP : LatP (· = g3) wr (wr.setCells g3 0 ((W8.one r) : Array Value).toList) := LatP.setCells _ _ _
     obtain ⟨V, hV⟩ : ∃ V, wr.setCells g3 0 ((W8.one r) : Array Value).toList = V := ⟨_, rfl⟩
     rw [hV] at KS LP
     have HV := Lib.hid hV
     rw [HR.out] at hrg
     clear hk hk8 HC K4 hV
     go_wp2_with (first
      | (refine wpList_load_mid (by rfl) 161 (.tmp 52) (by rfl) g4 0 (by rfl) [r.b0, r.b1, r.b2, r.b3, r.b4, r.b5, r.b6, r.b7] _ hrg Tryz.underlying161 rfl (by kernel_rfl) ?_)
      | (refine wpList_store_mid (by rfl) 161 (.tmp 4) (.tmp 53) (by rfl) g3 0 (W8.one r) (by rfl) (by rfl) hkt (by kernel_rfl) (by simp [Value.oneCell']) ?_; rw [HV.out]))
     have q0 := KS.cell 0
     have q1 := KS.cell 1
     have q2 := KS.cell 2
     have q3 := KS.cell 3
     have q4 := KS.cell 4
     have q5 := KS.cell 5
     have q6 := KS.cell 6
     have q7 := KS.cell 7
     refine bodyPost_ret (v := .tuple #[.agg (W8.one r), .int .u64 0]) (by simp [results, Tryz.results154, go_sem, q0, q1, q2, q3, q4, q5, q6, q7]) rfl ?_
     exact ⟨rfl, LP.narrow hl HNE.out.2.2.2.2⟩
theorem zkD (x : Int) : (zbh x).mag = x := by rw [W8.mag_eq]; simp [zbh]
theorem zma {x y : Int} (hx : 0 ≤ x ∧ x < W64) (hy : 0 ≤ y ∧ y < W64) : (zcP (zcX x y) (ze3 x y)).ok ∧ (zcP (zcX x y) (ze3 x y)).mag = x * y := by
 obtain ⟨m1, m2, m3, m4⟩ := zci hx hy
 constructor
 ·intro z hz
  have h0 : (0 : Int) < W64 := zaf
  simp only [zcP, W8.list, List.mem_cons, List.not_mem_nil, or_false] at hz
  rcases hz with rfl | rfl | rfl | rfl | rfl | rfl | rfl | rfl
  ·exact m2
  ·exact ⟨m3, m4⟩
  all_goals exact ⟨Int.le_refl 0, h0⟩
 ·rw [W8.mag_eq]
  simp only [zcP, Int.mul_zero, Int.add_zero]
  exact m1
theorem zmb (b1 b2 : Bool) (x y : Int) : sgn b1 x * sgn b2 y = sgn (b1 != b2) (x * y) := by
 cases b1 <;> cases b2 <;> simp [sgn, Int.neg_mul, Int.mul_neg]
theorem zkE {w w' : World} {b1 b2 : Bool} {x y : Int} {u : W8} (hu : u.ok) (hm : u.mag = x * y) (hl : Lat w w') : zfH w (sgn b1 x * sgn b2 y) (.returned (.tuple #[.agg #[.bool ((b1 != b2) && !decide (u.mag = 0)), u.b0, u.b1, u.b2, u.b3, u.b4, u.b5, u.b6, u.b7], .bool false])) w' := by
 refine ⟨_, u, false, rfl, hu, fun _ => ?_, (fun h => by cases h), hl⟩
 rw [zmb, ← hm]
 by_cases h0 : u.mag = 0
 ·rw [h0]
  refine ⟨?_, fun h => ?_⟩
  ·cases (b1 != b2) <;> simp [sgn]
  ·simp at h
 ·refine ⟨?_, fun _ => h0⟩
  rw [decide_eq_false h0]
  cases (b1 != b2) <;> rfl
theorem zhC (b1 b2 : Bool) (x y : Int) (hx : 0 ≤ x ∧ x < W64) (hy : 0 ≤ y ∧ y < W64) (w : World) :
  Calls Tryz.prog 139 #[.agg #[.bool b1, (zbh x).b0, (zbh x).b1, (zbh x).b2, (zbh x).b3, (zbh x).b4, (zbh x).b5, (zbh x).b6, (zbh x).b7], .agg #[.bool b2, (zbh y).b0, (zbh y).b1, (zbh y).b2, (zbh y).b3, (zbh y).b4, (zbh y).b5, (zbh y).b6, (zbh y).b7]] w (zfH w (sgn b1 x * sgn b2 y)) := by
 have HT := fun w => zkC x y hx hy w
 obtain ⟨hok, hmag⟩ := zma hx hy
 obtain ⟨r, hr⟩ : ∃ r, zcP (zcX x y) (ze3 x y) = r := ⟨_, rfl⟩
 rw [hr] at HT hok hmag
 have HO := fun w => znn (!(b1 == b2)) r hok w
 have HPP : Hid (∀ w', Lat w w' → zfH w (sgn b1 x * sgn b2 y) (.returned (.tuple #[.agg #[.bool ((!(b1 == b2)) && !decide (r.mag = 0)), r.b0, r.b1, r.b2, r.b3, r.b4, r.b5, r.b6, r.b7], .bool false])) w') := fun w' hl => zkE (b1 := b1) (b2 := b2) hok hmag hl
 unfold zj8 at HO
 obtain ⟨v, hv⟩ : ∃ v, ((!(b1 == b2)) && !decide (r.mag = 0)) = v := ⟨_, rfl⟩
 rw [hv] at HO HPP
 obtain ⟨u1, hu1⟩ : ∃ u, zbh x = u := ⟨_, rfl⟩
 obtain ⟨u2, hu2⟩ : ∃ u, zbh y = u := ⟨_, rfl⟩
 rw [hu1, hu2] at HT ⊢
 obtain ⟨nb, hnb⟩ : ∃ nb, (!(b1 == b2)) = nb := ⟨_, rfl⟩
 rw [hnb] at HO
 obtain ⟨Z, hZ⟩ : ∃ z, sgn b1 x * sgn b2 y = z := ⟨_, rfl⟩
 rw [hZ] at HPP ⊢
 clear hv hu1 hu2 hr hok hmag hx hy hZ
 go_enter Tryz.func139, Tryz.ntmps139
 go_wp2_with fail
 refine za0 (Q := fun W => Calls _ _ _ W _) ?_
 intro W hl hs k1 k2 k4
 refine (HT W).mono ?_
 rintro e w1 ⟨rfl, l1⟩
 have K1 := k1.later l1
 have K2 := k2.later l1
 have K4 := k4.later l1
 have L1 := hl.trans l1
 clear k1 k2 k4 hl l1 HT hs
 have c0 := K1.cell 0
 have d0 := K2.cell 0
 have hlt := K4.lt
 have hlt1 := K1.lt
 have hlt2 := K2.lt
 go_wp2_with fail
 refine zas (Q := fun W => Calls _ _ _ W _) ?_
 intro W2 l2 hs2 k6
 refine (HO W2).mono ?_
 rintro e w3 ⟨rfl, l3⟩
 have K4 := (K4.later l2).later l3
 have L3 := (L1.trans l2).trans l3
 clear k6 l2 l3 hs2 HO K1 K2 c0 d0 hlt hlt1 hlt2
 have d0 := K4.cell 0
 have d1 := K4.cell 1
 have d2 := K4.cell 2
 have d3 := K4.cell 3
 have d4 := K4.cell 4
 have d5 := K4.cell 5
 have d6 := K4.cell 6
 have d7 := K4.cell 7
 have d8 := K4.cell 8
 have f0 := K4.frozen 0
 have f1 := K4.frozen 1
 have f2 := K4.frozen 2
 have f3 := K4.frozen 3
 have f4 := K4.frozen 4
 have f5 := K4.frozen 5
 have f6 := K4.frozen 6
 have f7 := K4.frozen 7
 have f8 := K4.frozen 8
 have hlt := K4.lt
 go_wp2
 refine zka (Q := fun W => bodyPost _ _ _ _ _ W) K4 ?_
 intro W4 J4 l4
 clear d0 d1 d2 d3 d4 d5 d6 d7
 have e0 := J4.cell 0
 have e1 := J4.cell 1
 have e2 := J4.cell 2
 have e3 := J4.cell 3
 have e4 := J4.cell 4
 have e5 := J4.cell 5
 have e6 := J4.cell 6
 have e7 := J4.cell 7
 have e8 := J4.cell 8
 refine bodyPost_ret (v := .tuple #[.agg #[.bool v, r.b0, r.b1, r.b2, r.b3, r.b4, r.b5, r.b6, r.b7], .bool false]) (by simp [results, Tryz.results139, go_sem, e0, e1, e2, e3, e4, e5, e6, e7, e8]) rfl ?_
 exact HPP.out _ (l4.narrow L3 (by omega))
theorem zmY {u : W8} (h : u.ok) (hm : u.mag < W64) : u = zbh u.mag ∧ 0 ≤ u.mag ∧ u.mag < W64 := by
 have hb := W8.mag_bounds h
 refine ⟨?_, hb.1, hm⟩
 refine W8.mag_inj h ?_ (zkD _).symm
 intro z hz
 have h0 : (0 : Int) < W64 := zaf
 simp only [zbh, W8.list, List.mem_cons, List.not_mem_nil, or_false] at hz
 rcases hz with rfl | rfl | rfl | rfl | rfl | rfl | rfl | rfl
 ·exact ⟨hb.1, hm⟩
 all_goals exact ⟨Int.le_refl 0, h0⟩
theorem zgR {b : Bool} {u : W8} {z : Int} (h : u.ok) (hz : z = sgn b u.mag) (h0 : -W64 < z) (h1 : z < W64) : u.mag < W64 := by
 have hb := W8.mag_bounds h
 cases b
 ·simp only [sgn, Bool.false_eq_true, if_false] at hz; omega
 ·simp only [sgn, if_true] at hz; omega
theorem zgS (x y : W8) (hx : x.ok) (hy : y.ok) (x0 : -W64 < x.toInt) (x1 : x.toInt < W64) (y0 : -W64 < y.toInt) (y1 : y.toInt < W64) (w : World) :
  Calls Tryz.prog 108 #[.agg (W8.one x), .agg (W8.one y), .int .u8 42] w (zba w (x.toInt * y.toInt)) :=
 znw 139 42 (· * ·) (fun _ _ => by go_simp) (fun w r h => zl7 42 (.func (.func 139) #[] #[]) h (by rfl)) x y hx hy
  (fun b1 b2 u1 u2 h1 h2 _ z1 z2 w => by
    obtain ⟨e1, a1, a2⟩ := zmY h1 (zgR h1 z1 x0 x1)
    obtain ⟨e2, c1, c2⟩ := zmY h2 (zgR h2 z2 y0 y1)
    have := zhC b1 b2 u1.mag u2.mag ⟨a1, a2⟩ ⟨c1, c2⟩ w
    rwa [← e1, ← e2] at this) w
theorem znx (x y : W8) (z : Int) (HB : BothC 42 x y z) (w : World) : Calls Tryz.prog 67 #[.agg (W8.one x), .agg (W8.one y)] w (zba w z) := by
 go_enter Tryz.func67, Tryz.ntmps67
 go_wp2_with fail
 refine za0 (Q := fun W => Calls _ _ _ W _) ?_
 intro W hl hs k1 k2 k3
 refine (HB W).mono ?_
 rintro e w1 ⟨u, r, rfl, hh, l1⟩
 have HH := Lib.hid hh
 have K := k3.later l1
 have L1 := hl.trans l1
 clear k1 k2 k3 hl l1 hh HB hs
 have d8 := K.lt
 have d0 := K.cell 0
 have d1 := K.cell 1
 have d2 := K.cell 2
 have d3 := K.cell 3
 have d4 := K.cell 4
 have d5 := K.cell 5
 have d6 := K.cell 6
 have d7 := K.cell 7
 have f0 := K.frozen 0
 have f1 := K.frozen 1
 have f2 := K.frozen 2
 have f3 := K.frozen 3
 have f4 := K.frozen 4
 have f5 := K.frozen 5
 have f6 := K.frozen 6
 have f7 := K.frozen 7
 go_wp2
 refine zd1 (Q := fun W => bodyPost _ _ _ _ _ W) K ?_
 intro W2 J l2
 clear d0 d1 d2 d3 d4 d5 d6 d7
 have e0 := J.cell 0
 have e1 := J.cell 1
 have e2 := J.cell 2
 have e3 := J.cell 3
 have e4 := J.cell 4
 have e5 := J.cell 5
 have e6 := J.cell 6
 have e7 := J.cell 7
 refine bodyPost_ret (v := .tuple #[.agg (W8.one u), .int .i64 r]) (by simp [results, Tryz.results67, go_sem, e0, e1, e2, e3, e4, e5, e6, e7]) rfl ?_
 exact ⟨u, r, rfl, HH.out, l2.narrow L1 (by omega)⟩
theorem zmc (a b : Int) (a0 : -9223372036854775808 ≤ a) (a1 : a < 9223372036854775808) (b0 : -9223372036854775808 ≤ b) (b1 : b < 9223372036854775808) (w : World) :
  Calls Tryz.prog 67 #[.agg (W8.one (W8.of a)), .agg (W8.one (W8.of b))] w (fun e w' => e = .returned (.tuple #[.agg (W8.one (W8.of (a * b))), .int .i64 0]) ∧ Lat w w') := by
 have hP : (9223372036854775808 : Int) * 9223372036854775808 < zaV := by decide
 have hP1 : (9223372036854775808 : Int) < zaV := by decide
 have ea := W8.of_toInt (z := a) (by omega) (by omega)
 have eb := W8.of_toInt (z := b) (by omega) (by omega)
 have hm := zek (M := 9223372036854775808) (N := 9223372036854775808) a0 (by omega) b0 (by omega)
 refine (znx (W8.of a) (W8.of b) (a * b) (fun w => ?_) w).mono ?_
 ·have := zgS (W8.of a) (W8.of b) (W8.of_ok a) (W8.of_ok b) (by rw [ea]; unfold W64; omega) (by rw [ea]; unfold W64; omega) (by rw [eb]; unfold W64; omega) (by rw [eb]; unfold W64; omega) w
  rwa [ea, eb] at this
 ·rintro e w' ⟨u, r, rfl, h, l⟩
  rcases h with ⟨_, _, rfl, rfl⟩ | ⟨h1, _, _⟩
  ·exact ⟨rfl, l⟩
  ·omega
end Go.Proofs.YtpmbglhbcjbkcaaGreat
