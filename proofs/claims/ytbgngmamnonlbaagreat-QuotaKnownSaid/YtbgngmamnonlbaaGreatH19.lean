/- Several texts in one: RefR, RefS. -/
import Derived.Test.YtbgngmamnonlbaaGreatH18
namespace Go.Proofs.YtbgngmamnonlbaaGreat
open Go.RowKit
set_option maxRecDepth 100000 in
set_option maxHeartbeats 4000000 in
theorem rOut_fits (b : Bool) (A : Option Addr) (n c : Nat) (z : Int) (w : World) (h : Rg w b A n c z) (hn : n ≤ 1000000) (z0 : -P511 ≤ z) (z1 : z < P511) :
  Calls Tryz.prog 87 #[.agg #[.bool b, .slice A n c]] w (ToldPost w z) := by
 obtain ⟨hc, xs, s1, r1, n1, e1, v1⟩ := h
 have V1 := Lib.hid v1
 have hvn := val_nonneg B32_pos r1
 have hZ : Hid (0 ≤ val B32 xs ∧ (b = false → z % P512 = val B32 xs ∧ val B32 xs < P511) ∧ (b = true → z % P512 = P512 - val B32 xs ∧ 0 < val B32 xs ∧ val B32 xs ≤ P511)) := by
  refine ⟨hvn, fun hb => ?_, fun hb => ?_⟩
  ·subst hb
   have : z = val B32 xs := by simpa [sgn] using v1
   have hp := P512_two
   rw [← this]
   exact ⟨Int.emod_eq_of_lt (by omega) (by omega), z1⟩
  ·have hpos := val_pos B32_pos r1 n1 (e1 hb)
   subst hb
   have : z = - val B32 xs := by simpa [sgn] using v1
   have hp := P512_two
   refine ⟨?_, hpos, by omega⟩
   rw [← Int.add_emod_right]
   rw [Int.emod_eq_of_lt (by omega) (by omega)]
   omega
 clear v1 hvn
 have hmk : ∀ W, (Instr.makeSlice 27 (.int .i64 16) (.int .i64 16)).run Tryz.prog W = .ok (.slice (some ⟨W.heap.size, 0, none⟩) 16 16) (W.alloc (.cells #[.int .i64 0, .int .i64 0, .int .i64 0, .int .i64 0, .int .i64 0, .int .i64 0, .int .i64 0, .int .i64 0, .int .i64 0, .int .i64 0, .int .i64 0, .int .i64 0, .int .i64 0, .int .i64 0, .int .i64 0, .int .i64 0] 3)) := fun W => run_make_nums (P := Tryz.prog) Tryz.underlying27 infoI64 16 16 rfl (by omega) (by omega) W
 have hmk2 : ∀ W, (Instr.makeSlice 27 (.int .i64 17) (.int .i64 17)).run Tryz.prog W = .ok (.slice (some ⟨W.heap.size, 0, none⟩) 17 17) (W.alloc (.cells #[.int .i64 0, .int .i64 0, .int .i64 0, .int .i64 0, .int .i64 0, .int .i64 0, .int .i64 0, .int .i64 0, .int .i64 0, .int .i64 0, .int .i64 0, .int .i64 0, .int .i64 0, .int .i64 0, .int .i64 0, .int .i64 0, .int .i64 0] 3)) := fun W => run_make_nums (P := Tryz.prog) Tryz.underlying27 infoI64 17 17 rfl (by omega) (by omega) W
 go_enter Tryz.func87, Tryz.ntmps87
 go_wp2_with fail
 refine name3 (Q := fun W => Calls _ _ _ W _) ?_
 intro W hl hs k1 k2 k3
 have hlim : Sl W .i64 (some ⟨w.heap.size + 1 + 1, 0, none⟩) 16 limit16 := Sl.of_blk' (t := 3) k3 rfl
 refine (order_any A n c xs _ 16 16 limit16 W (s1.later hl) hlim r1 limit16_inr n1 limit16_nz hn (by omega)).mono ?_
 rintro e W1 ⟨r, rfl, o1, o2, o3, l1⟩
 have K1 := k1.later l1
 have K2 := k2.later l1
 have S1 := s1.later (hl.trans l1)
 have LW := hl.trans l1
 rw [limit16_val] at o1 o2 o3
 clear k1 k2 k3 hmk hlim hl l1
 have d0 := K1.cell 0
 have d1 := K1.cell 1
 cases b with
 | false =>
   obtain ⟨_, hz, _⟩ := hZ.out
   obtain ⟨hz1, hz2⟩ := hz rfl
   have hr := o1 hz2
   have hr1 : decide (0 < r) = false := by simp; omega
   have hr2 : ((r : Int) == 0) = false := by simp; omega
   have hlen := dig_len r1 n1 (by have := P512_two; have := P511_pos; omega)
   rw [s1.1] at hlen
   have HZ := Lib.hid hz1
   clear o1 o2 o3 hz hz1 hz2 hr hmk2
   go_wp2
   refine name1 (Q := fun W => Code.wp _ _ _ _ W) ?_
   intro W3 hl3 hs3 kb
   have kb' : Blk W3 W1.heap.size 40 (nums .u64 (List.replicate 8 0)) := kb
   clear kb
   go_loopw [9] (fun i wr => ∃ (k : Nat) (os : List Int), k ≤ n ∧ i = .int .i64 k ∧ OutInv xs k os ∧ Lat W1 wr ∧ Blk wr W1.heap.size 40 (nums .u64 os)) (fun i _ => n - (intOf i).toNat)
   case atStart => exact ⟨0, _, Nat.zero_le _, rfl, OutInv.start xs, hl3, kb'⟩
   case round =>
    obtain ⟨k, os, hk, rfl, hinv, hlr, hbr⟩ := hrel
    clear hl3 hs3 kb'
    by_cases hlt : k < n
    ·obtain ⟨a, x, rfl, ha, hxk, hcell⟩ := (S1.later hlr).at hlt
     have hrx := r1.at hxk
     have rx0 := hrx.1
     have rx1 : x < 4294967296 := hrx.2
     have hgx : Hid (xs.getD k 0 = x) := by rw [List.getD_eq_getElem?_getD, hxk]; rfl
     clear hxk hrx
     have hk16 : k < 16 := by omega
     obtain ⟨q, hq⟩ : ∃ q, q = k / 2 := ⟨_, rfl⟩
     have hq8 : q < 8 := by omega
     have hq8' : (q : Int) < 8 := by omega
     have hq0 : (0 : Int) ≤ (q : Int) := by omega
     have w1' : (k : Int) / 2 = q := by omega
     have w3' : IntKind.i64.wrap (q : Int) = q := IntWalk.i64_in _ (by omega)
     have w4' : IntKind.u64.wrap x = x := IntWalk.u64_in _ (by omega)
     have HKI := Lib.hid hinv
     rcases Nat.mod_two_eq_zero_or_one k with hp | hp
     ·have hk2 : k = 2 * q := by omega
      have w2' : (k : Int).tmod 2 = 0 := by rw [Int.tmod_eq_emod_of_nonneg (by omega)]; omega
      obtain ⟨ho0, hnext⟩ := OutInv.even (by rw [← hk2]; exact hinv) hq8 (by rw [← hk2]; exact hgx.out) ⟨rx0, rx1⟩
      rw [← hk2, Int.zero_add] at hnext
      have ho := (hbr.cell q).trans (nums_at ho0)
      have hfo := hbr.frozen q
      clear hq hk2 hp ho0 hinv
      have z1' : IntKind.i64.wrap 0 = 0 := by decide
      have z2' : ∀ W, (binOp .shl 38 (.int .u64 x) (.int .i64 0)).run Tryz.prog W = .ok (.int .u64 x) W := fun W => by
       simp only [binOp, Op.shift]
       simp [IntKind.bits, w4']
      go_wp2
      go_still_tail 17, (by kernel_rfl)
      change wpList _ _ _ _ _ wr.drew
      have hb5 : Blk wr.drew W1.heap.size 40 (nums .u64 os) := hbr
      go_wp2
      go_roundw
      case rel => exact ⟨k + 1, _, by omega, by go_num, hnext, (hlr.trans (Lat.drew wr)).setCell (Nat.le_refl _) _, hb5.put q _⟩
      case measure => simp [intOf]; omega
     ·have hk2 : k = 2 * q + 1 := by omega
      have w2' : (k : Int).tmod 2 = 1 := by rw [Int.tmod_eq_emod_of_nonneg (by omega)]; omega
      have hol := hinv.1
      obtain ⟨o, hoo, ho, hfo⟩ := hbr.slot (i := q) (by omega)
      obtain ⟨⟨o0, o1'⟩, hnext⟩ := OutInv.odd (by rw [← hk2]; exact hinv) hq8 (by rw [← hk2]; exact hgx.out) ⟨rx0, rx1⟩ hoo
      rw [show 2 * q + 2 = k + 1 by omega] at hnext
      clear hq hk2 hp hoo hinv hol
      have z1' : IntKind.i64.wrap 32 = 32 := by decide
      have z2' : ∀ W, (binOp .shl 38 (.int .u64 x) (.int .i64 32)).run Tryz.prog W = .ok (.int .u64 (x * 4294967296)) W := fun W => by
       have e : IntKind.u64.wrap (x * 4294967296) = x * 4294967296 := IntWalk.u64_in _ (by omega)
       simp only [binOp, Op.shift]
       simp [IntKind.bits, e]
      have w5' : IntKind.u64.wrap (x * 4294967296) = x * 4294967296 := IntWalk.u64_in _ (by omega)
      have w6' : IntKind.u64.wrap (o + x * 4294967296) = o + x * 4294967296 := IntWalk.u64_in _ (by omega)
      go_wp2
      go_still_tail 17, (by kernel_rfl)
      change wpList _ _ _ _ _ wr.drew
      have hb5 : Blk wr.drew W1.heap.size 40 (nums .u64 os) := hbr
      go_wp2
      go_roundw
      case rel => exact ⟨k + 1, _, by omega, by go_num, hnext, (hlr.trans (Lat.drew wr)).setCell (Nat.le_refl _) _, hb5.put q _⟩
      case measure => simp [intOf]; omega
    ·obtain rfl : k = n := by omega
     obtain ⟨u, hu, hul, hum⟩ := hinv.done (by have := S1.1; omega)
     have hbu : Blk wr W1.heap.size 40 #[.int .u64 u.a0, .int .u64 u.a1, .int .u64 u.a2, .int .u64 u.a3, .int .u64 u.a4, .int .u64 u.a5, .int .u64 u.a6, .int .u64 u.a7] := by rw [← hul] at hbr; exact hbr
     have HM := Lib.hid hum
     have E2 := K2.later hlr
     clear hul hum hinv hbr
     have a0 := hbu.cell 0
     have a1 := hbu.cell 1
     have a2 := hbu.cell 2
     have a3 := hbu.cell 3
     have a4 := hbu.cell 4
     have a5 := hbu.cell 5
     have a6 := hbu.cell 6
     have a7 := hbu.cell 7
     have c0 := E2.cell 0
     have c1 := E2.cell 1
     have c2 := E2.cell 2
     have c3 := E2.cell 3
     have c4 := E2.cell 4
     have c5 := E2.cell 5
     have c6 := E2.cell 6
     have c7 := E2.cell 7
     have f0 := E2.frozen 0
     have f1 := E2.frozen 1
     have f2 := E2.frozen 2
     have f3 := E2.frozen 3
     have f4 := E2.frozen 4
     have f5 := E2.frozen 5
     have f6 := E2.frozen 6
     have f7 := E2.frozen 7
     go_wp2
     refine bodyPost_ret (v := .tuple #[.agg #[.int .u64 u.a0, .int .u64 u.a1, .int .u64 u.a2, .int .u64 u.a3, .int .u64 u.a4, .int .u64 u.a5, .int .u64 u.a6, .int .u64 u.a7], .int .i64 0]) (by simp [results, Tryz.results87, go_sem, c0, c1, c2, c3, c4, c5, c6, c7]) rfl ?_
     refine toldPost_is z0 z1 hu HM.out HZ.out.symm ?_
     iterate 8 (refine Lat.setCell ?_ (by simp; try omega) _)
     exact LW.trans hlr
 | true =>
   obtain ⟨_, _, hz⟩ := hZ.out
   obtain ⟨h1, h2, h3⟩ := hz rfl
   have hr : r < 0 ∨ r = 0 := by
    rcases Int.lt_or_eq_of_le h3 with h | h
    ·exact .inl (o1 h)
    ·exact .inr (o2 h)
   have hr1 : decide (0 < r) = false := by simp; omega
   have hz1 := Lib.hid h1
   have hz2 : Hid (0 < val B32 xs) := h2
   have hz3 : Hid (val B32 xs ≤ P511) := h3
   have hlen := dig_len r1 n1 (by have := P512_two; have := P511_pos; omega)
   rw [s1.1] at hlen
   clear o1 o2 o3 hz h1 h2 h3
   rcases hr with hr | hr
   ·have hr2 : ((r : Int) == 0) = false := by simp; omega
    clear hr
    go_wp2_with fail
    refine name1 (Q := fun W => Calls _ _ _ W _) ?_
    intro W2 hl2 hs2 kw
    have hw17 : Sl W2 .i64 (some ⟨W1.heap.size, 0, none⟩) 17 whole17 := Sl.of_blk' (t := 3) kw rfl
    have K3 := K2.later hl2
    have L3 := LW.trans hl2
    clear hmk2 kw K2 LW d0 d1
    refine (less_any _ 17 17 whole17 A n c xs W2 hw17 (S1.later hl2) whole17_inr r1 (by omega) (by rw [whole17_val]; have := hz3.out; have := P512_two; have := P511_pos; omega) (by omega)).mono ?_
    rintro e W4 ⟨A3, n3, c3, zs, rfl, v1, v2, v3, v4, v5, v6, v7, v8⟩
    have HZ : Hid (z % P512 = val B32 zs) := by show _ = _; rw [hz1.out, v4, whole17_val]
    have hlen3 := dig_len v2 v3 (by rw [v4, whole17_val]; have := hz2.out; omega)
    rw [v1.1] at hlen3
    have K4 := K3.later v7
    have L4 := L3.trans v7
    clear v4 v8 K3 L3 S1 hl2 hs2 hw17
    go_wp2
    refine name1 (Q := fun W => Code.wp _ _ _ _ W) ?_
    intro W3 hl3 hs3 kb
    have kb' : Blk W3 W4.heap.size 40 (nums .u64 (List.replicate 8 0)) := kb
    clear kb
    go_loopw [9] (fun i wr => ∃ (k : Nat) (os : List Int), k ≤ n3 ∧ i = .int .i64 k ∧ OutInv zs k os ∧ Lat W4 wr ∧ Blk wr W4.heap.size 40 (nums .u64 os)) (fun i _ => n3 - (intOf i).toNat)
    case atStart => exact ⟨0, _, Nat.zero_le _, rfl, OutInv.start zs, hl3, kb'⟩
    case round =>
     obtain ⟨k, os, hk, rfl, hinv, hlr, hbr⟩ := hrel
     clear hl3 hs3 kb'
     by_cases hlt : k < n3
     ·obtain ⟨a, x, rfl, ha, hxk, hcell⟩ := (v1.later hlr).at hlt
      have hrx := v2.at hxk
      have rx0 := hrx.1
      have rx1 : x < 4294967296 := hrx.2
      have hgx : Hid (zs.getD k 0 = x) := by rw [List.getD_eq_getElem?_getD, hxk]; rfl
      clear hxk hrx
      have hk16 : k < 16 := by omega
      obtain ⟨q, hq⟩ : ∃ q, q = k / 2 := ⟨_, rfl⟩
      have hq8 : q < 8 := by omega
      have hq8' : (q : Int) < 8 := by omega
      have hq0 : (0 : Int) ≤ (q : Int) := by omega
      have w1' : (k : Int) / 2 = q := by omega
      have w3' : IntKind.i64.wrap (q : Int) = q := IntWalk.i64_in _ (by omega)
      have w4' : IntKind.u64.wrap x = x := IntWalk.u64_in _ (by omega)
      have HKI := Lib.hid hinv
      rcases Nat.mod_two_eq_zero_or_one k with hp | hp
      ·have hk2 : k = 2 * q := by omega
       have w2' : (k : Int).tmod 2 = 0 := by rw [Int.tmod_eq_emod_of_nonneg (by omega)]; omega
       obtain ⟨ho0, hnext⟩ := OutInv.even (by rw [← hk2]; exact hinv) hq8 (by rw [← hk2]; exact hgx.out) ⟨rx0, rx1⟩
       rw [← hk2, Int.zero_add] at hnext
       have ho := (hbr.cell q).trans (nums_at ho0)
       have hfo := hbr.frozen q
       clear hq hk2 hp ho0 hinv
       have z1' : IntKind.i64.wrap 0 = 0 := by decide
       have z2' : ∀ W, (binOp .shl 38 (.int .u64 x) (.int .i64 0)).run Tryz.prog W = .ok (.int .u64 x) W := fun W => by
        simp only [binOp, Op.shift]
        simp [IntKind.bits, w4']
       go_wp2
       go_still_tail 17, (by kernel_rfl)
       change wpList _ _ _ _ _ wr.drew
       have hb5 : Blk wr.drew W4.heap.size 40 (nums .u64 os) := hbr
       go_wp2
       go_roundw
       case rel => exact ⟨k + 1, _, by omega, by go_num, hnext, (hlr.trans (Lat.drew wr)).setCell (Nat.le_refl _) _, hb5.put q _⟩
       case measure => simp [intOf]; omega
      ·have hk2 : k = 2 * q + 1 := by omega
       have w2' : (k : Int).tmod 2 = 1 := by rw [Int.tmod_eq_emod_of_nonneg (by omega)]; omega
       have hol := hinv.1
       obtain ⟨o, hoo, ho, hfo⟩ := hbr.slot (i := q) (by omega)
       obtain ⟨⟨o0, o1'⟩, hnext⟩ := OutInv.odd (by rw [← hk2]; exact hinv) hq8 (by rw [← hk2]; exact hgx.out) ⟨rx0, rx1⟩ hoo
       rw [show 2 * q + 2 = k + 1 by omega] at hnext
       clear hq hk2 hp hoo hinv hol
       have z1' : IntKind.i64.wrap 32 = 32 := by decide
       have z2' : ∀ W, (binOp .shl 38 (.int .u64 x) (.int .i64 32)).run Tryz.prog W = .ok (.int .u64 (x * 4294967296)) W := fun W => by
        have e : IntKind.u64.wrap (x * 4294967296) = x * 4294967296 := IntWalk.u64_in _ (by omega)
        simp only [binOp, Op.shift]
        simp [IntKind.bits, e]
       have w5' : IntKind.u64.wrap (x * 4294967296) = x * 4294967296 := IntWalk.u64_in _ (by omega)
       have w6' : IntKind.u64.wrap (o + x * 4294967296) = o + x * 4294967296 := IntWalk.u64_in _ (by omega)
       go_wp2
       go_still_tail 17, (by kernel_rfl)
       change wpList _ _ _ _ _ wr.drew
       have hb5 : Blk wr.drew W4.heap.size 40 (nums .u64 os) := hbr
       go_wp2
       go_roundw
       case rel => exact ⟨k + 1, _, by omega, by go_num, hnext, (hlr.trans (Lat.drew wr)).setCell (Nat.le_refl _) _, hb5.put q _⟩
       case measure => simp [intOf]; omega
     ·obtain rfl : k = n3 := by omega
      obtain ⟨u, hu, hul, hum⟩ := hinv.done (by have := v1.1; omega)
      have hbu : Blk wr W4.heap.size 40 #[.int .u64 u.a0, .int .u64 u.a1, .int .u64 u.a2, .int .u64 u.a3, .int .u64 u.a4, .int .u64 u.a5, .int .u64 u.a6, .int .u64 u.a7] := by rw [← hul] at hbr; exact hbr
      have HM := Lib.hid hum
      have E2 := K4.later hlr
      clear hul hum hinv hbr
      have a0 := hbu.cell 0
      have a1 := hbu.cell 1
      have a2 := hbu.cell 2
      have a3 := hbu.cell 3
      have a4 := hbu.cell 4
      have a5 := hbu.cell 5
      have a6 := hbu.cell 6
      have a7 := hbu.cell 7
      have c0 := E2.cell 0
      have c1 := E2.cell 1
      have c2 := E2.cell 2
      have c3 := E2.cell 3
      have c4 := E2.cell 4
      have c5 := E2.cell 5
      have c6 := E2.cell 6
      have c7 := E2.cell 7
      have f0 := E2.frozen 0
      have f1 := E2.frozen 1
      have f2 := E2.frozen 2
      have f3 := E2.frozen 3
      have f4 := E2.frozen 4
      have f5 := E2.frozen 5
      have f6 := E2.frozen 6
      have f7 := E2.frozen 7
      go_wp2
      refine bodyPost_ret (v := .tuple #[.agg #[.int .u64 u.a0, .int .u64 u.a1, .int .u64 u.a2, .int .u64 u.a3, .int .u64 u.a4, .int .u64 u.a5, .int .u64 u.a6, .int .u64 u.a7], .int .i64 0]) (by simp [results, Tryz.results87, go_sem, c0, c1, c2, c3, c4, c5, c6, c7]) rfl ?_
      refine toldPost_is z0 z1 hu HM.out HZ.out.symm ?_
      iterate 8 (refine Lat.setCell ?_ (by simp; try omega) _)
      exact L4.trans hlr
   ·subst hr
    go_wp2_with fail
    refine name1 (Q := fun W => Calls _ _ _ W _) ?_
    intro W2 hl2 hs2 kw
    have hw17 : Sl W2 .i64 (some ⟨W1.heap.size, 0, none⟩) 17 whole17 := Sl.of_blk' (t := 3) kw rfl
    have K3 := K2.later hl2
    have L3 := LW.trans hl2
    clear hmk2 kw K2 LW d0 d1
    refine (less_any _ 17 17 whole17 A n c xs W2 hw17 (S1.later hl2) whole17_inr r1 (by omega) (by rw [whole17_val]; have := hz3.out; have := P512_two; have := P511_pos; omega) (by omega)).mono ?_
    rintro e W4 ⟨A3, n3, c3, zs, rfl, v1, v2, v3, v4, v5, v6, v7, v8⟩
    have HZ : Hid (z % P512 = val B32 zs) := by show _ = _; rw [hz1.out, v4, whole17_val]
    have hlen3 := dig_len v2 v3 (by rw [v4, whole17_val]; have := hz2.out; omega)
    rw [v1.1] at hlen3
    have K4 := K3.later v7
    have L4 := L3.trans v7
    clear v4 v8 K3 L3 S1 hl2 hs2 hw17
    go_wp2
    refine name1 (Q := fun W => Code.wp _ _ _ _ W) ?_
    intro W3 hl3 hs3 kb
    have kb' : Blk W3 W4.heap.size 40 (nums .u64 (List.replicate 8 0)) := kb
    clear kb
    go_loopw [9] (fun i wr => ∃ (k : Nat) (os : List Int), k ≤ n3 ∧ i = .int .i64 k ∧ OutInv zs k os ∧ Lat W4 wr ∧ Blk wr W4.heap.size 40 (nums .u64 os)) (fun i _ => n3 - (intOf i).toNat)
    case atStart => exact ⟨0, _, Nat.zero_le _, rfl, OutInv.start zs, hl3, kb'⟩
    case round =>
     obtain ⟨k, os, hk, rfl, hinv, hlr, hbr⟩ := hrel
     clear hl3 hs3 kb'
     by_cases hlt : k < n3
     ·obtain ⟨a, x, rfl, ha, hxk, hcell⟩ := (v1.later hlr).at hlt
      have hrx := v2.at hxk
      have rx0 := hrx.1
      have rx1 : x < 4294967296 := hrx.2
      have hgx : Hid (zs.getD k 0 = x) := by rw [List.getD_eq_getElem?_getD, hxk]; rfl
      clear hxk hrx
      have hk16 : k < 16 := by omega
      obtain ⟨q, hq⟩ : ∃ q, q = k / 2 := ⟨_, rfl⟩
      have hq8 : q < 8 := by omega
      have hq8' : (q : Int) < 8 := by omega
      have hq0 : (0 : Int) ≤ (q : Int) := by omega
      have w1' : (k : Int) / 2 = q := by omega
      have w3' : IntKind.i64.wrap (q : Int) = q := IntWalk.i64_in _ (by omega)
      have w4' : IntKind.u64.wrap x = x := IntWalk.u64_in _ (by omega)
      have HKI := Lib.hid hinv
      rcases Nat.mod_two_eq_zero_or_one k with hp | hp
      ·have hk2 : k = 2 * q := by omega
       have w2' : (k : Int).tmod 2 = 0 := by rw [Int.tmod_eq_emod_of_nonneg (by omega)]; omega
       obtain ⟨ho0, hnext⟩ := OutInv.even (by rw [← hk2]; exact hinv) hq8 (by rw [← hk2]; exact hgx.out) ⟨rx0, rx1⟩
       rw [← hk2, Int.zero_add] at hnext
       have ho := (hbr.cell q).trans (nums_at ho0)
       have hfo := hbr.frozen q
       clear hq hk2 hp ho0 hinv
       have z1' : IntKind.i64.wrap 0 = 0 := by decide
       have z2' : ∀ W, (binOp .shl 38 (.int .u64 x) (.int .i64 0)).run Tryz.prog W = .ok (.int .u64 x) W := fun W => by
        simp only [binOp, Op.shift]
        simp [IntKind.bits, w4']
       go_wp2
       go_still_tail 17, (by kernel_rfl)
       change wpList _ _ _ _ _ wr.drew
       have hb5 : Blk wr.drew W4.heap.size 40 (nums .u64 os) := hbr
       go_wp2
       go_roundw
       case rel => exact ⟨k + 1, _, by omega, by go_num, hnext, (hlr.trans (Lat.drew wr)).setCell (Nat.le_refl _) _, hb5.put q _⟩
       case measure => simp [intOf]; omega
      ·have hk2 : k = 2 * q + 1 := by omega
       have w2' : (k : Int).tmod 2 = 1 := by rw [Int.tmod_eq_emod_of_nonneg (by omega)]; omega
       have hol := hinv.1
       obtain ⟨o, hoo, ho, hfo⟩ := hbr.slot (i := q) (by omega)
       obtain ⟨⟨o0, o1'⟩, hnext⟩ := OutInv.odd (by rw [← hk2]; exact hinv) hq8 (by rw [← hk2]; exact hgx.out) ⟨rx0, rx1⟩ hoo
       rw [show 2 * q + 2 = k + 1 by omega] at hnext
       clear hq hk2 hp hoo hinv hol
       have z1' : IntKind.i64.wrap 32 = 32 := by decide
       have z2' : ∀ W, (binOp .shl 38 (.int .u64 x) (.int .i64 32)).run Tryz.prog W = .ok (.int .u64 (x * 4294967296)) W := fun W => by
        have e : IntKind.u64.wrap (x * 4294967296) = x * 4294967296 := IntWalk.u64_in _ (by omega)
        simp only [binOp, Op.shift]
        simp [IntKind.bits, e]
       have w5' : IntKind.u64.wrap (x * 4294967296) = x * 4294967296 := IntWalk.u64_in _ (by omega)
       have w6' : IntKind.u64.wrap (o + x * 4294967296) = o + x * 4294967296 := IntWalk.u64_in _ (by omega)
       go_wp2
       go_still_tail 17, (by kernel_rfl)
       change wpList _ _ _ _ _ wr.drew
       have hb5 : Blk wr.drew W4.heap.size 40 (nums .u64 os) := hbr
       go_wp2
       go_roundw
       case rel => exact ⟨k + 1, _, by omega, by go_num, hnext, (hlr.trans (Lat.drew wr)).setCell (Nat.le_refl _) _, hb5.put q _⟩
       case measure => simp [intOf]; omega
     ·obtain rfl : k = n3 := by omega
      obtain ⟨u, hu, hul, hum⟩ := hinv.done (by have := v1.1; omega)
      have hbu : Blk wr W4.heap.size 40 #[.int .u64 u.a0, .int .u64 u.a1, .int .u64 u.a2, .int .u64 u.a3, .int .u64 u.a4, .int .u64 u.a5, .int .u64 u.a6, .int .u64 u.a7] := by rw [← hul] at hbr; exact hbr
      have HM := Lib.hid hum
      have E2 := K4.later hlr
      clear hul hum hinv hbr
      have a0 := hbu.cell 0
      have a1 := hbu.cell 1
      have a2 := hbu.cell 2
      have a3 := hbu.cell 3
      have a4 := hbu.cell 4
      have a5 := hbu.cell 5
      have a6 := hbu.cell 6
      have a7 := hbu.cell 7
      have c0 := E2.cell 0
      have c1 := E2.cell 1
      have c2 := E2.cell 2
      have c3 := E2.cell 3
      have c4 := E2.cell 4
      have c5 := E2.cell 5
      have c6 := E2.cell 6
      have c7 := E2.cell 7
      have f0 := E2.frozen 0
      have f1 := E2.frozen 1
      have f2 := E2.frozen 2
      have f3 := E2.frozen 3
      have f4 := E2.frozen 4
      have f5 := E2.frozen 5
      have f6 := E2.frozen 6
      have f7 := E2.frozen 7
      go_wp2
      refine bodyPost_ret (v := .tuple #[.agg #[.int .u64 u.a0, .int .u64 u.a1, .int .u64 u.a2, .int .u64 u.a3, .int .u64 u.a4, .int .u64 u.a5, .int .u64 u.a6, .int .u64 u.a7], .int .i64 0]) (by simp [results, Tryz.results87, go_sem, c0, c1, c2, c3, c4, c5, c6, c7]) rfl ?_
      refine toldPost_is z0 z1 hu HM.out HZ.out.symm ?_
      iterate 8 (refine Lat.setCell ?_ (by simp; try omega) _)
      exact L4.trans hlr
end Go.Proofs.YtbgngmamnonlbaaGreat
namespace Go.Proofs.YtbgngmamnonlbaaGreat
open Go.RowKit
set_option maxRecDepth 100000 in
set_option maxHeartbeats 4000000 in
theorem rOut_big (b : Bool) (A : Option Addr) (n c : Nat) (z : Int) (w : World) (h : Rg w b A n c z) (hn : n ≤ 1000000) (hz : z < -P511 ∨ P511 ≤ z) :
  Calls Tryz.prog 87 #[.agg #[.bool b, .slice A n c]] w (ToldPost w z) := by
 obtain ⟨hc, xs, s1, r1, n1, e1, v1⟩ := h
 have hvn := val_nonneg B32_pos r1
 have hZ : Hid (P511 < val B32 xs ∨ (P511 = val B32 xs ∧ b = false)) := by
  show _ ∨ _
  cases b with
  | false =>
    have : z = val B32 xs := by simpa [sgn] using v1
    have := P511_pos
    rcases Int.lt_or_eq_of_le (show P511 ≤ val B32 xs by omega) with h | h
    ·exact .inl h
    ·exact .inr ⟨h, rfl⟩
  | true =>
    have : z = - val B32 xs := by simpa [sgn] using v1
    have := P511_pos
    exact .inl (by omega)
 have HZ := Lib.hid hz
 clear v1 hvn hz
 have hmk : ∀ W, (Instr.makeSlice 27 (.int .i64 16) (.int .i64 16)).run Tryz.prog W = .ok (.slice (some ⟨W.heap.size, 0, none⟩) 16 16) (W.alloc (.cells #[.int .i64 0, .int .i64 0, .int .i64 0, .int .i64 0, .int .i64 0, .int .i64 0, .int .i64 0, .int .i64 0, .int .i64 0, .int .i64 0, .int .i64 0, .int .i64 0, .int .i64 0, .int .i64 0, .int .i64 0, .int .i64 0] 3)) := fun W => run_make_nums (P := Tryz.prog) Tryz.underlying27 infoI64 16 16 rfl (by omega) (by omega) W
 go_enter Tryz.func87, Tryz.ntmps87
 go_wp2_with fail
 refine name3 (Q := fun W => Calls _ _ _ W _) ?_
 intro W hl hs k1 k2 k3
 have hlim : Sl W .i64 (some ⟨w.heap.size + 1 + 1, 0, none⟩) 16 limit16 := Sl.of_blk' (t := 3) k3 rfl
 refine (order_any A n c xs _ 16 16 limit16 W (s1.later hl) hlim r1 limit16_inr n1 limit16_nz hn (by omega)).mono ?_
 rintro e W1 ⟨r, rfl, o1, o2, o3, l1⟩
 have K1 := k1.later l1
 have K2 := k2.later l1
 have LW := hl.trans l1
 rw [limit16_val] at o1 o2 o3
 clear k1 k2 k3 hmk hlim hl l1
 have d0 := K1.cell 0
 have d1 := K1.cell 1
 have c0 := K2.cell 0
 have c1 := K2.cell 1
 have c2 := K2.cell 2
 have c3 := K2.cell 3
 have c4 := K2.cell 4
 have c5 := K2.cell 5
 have c6 := K2.cell 6
 have c7 := K2.cell 7
 have f0 := K2.frozen 0
 have f1 := K2.frozen 1
 have f2 := K2.frozen 2
 have f3 := K2.frozen 3
 have f4 := K2.frozen 4
 have f5 := K2.frozen 5
 have f6 := K2.frozen 6
 have f7 := K2.frozen 7
 have hr : 0 < r ∨ (r = 0 ∧ b = false) := by
  rcases hZ.out with h | ⟨h, hb⟩
  ·exact .inl (o3 h)
  ·exact .inr ⟨o2 h.symm, hb⟩
 clear o1 o2 o3
 rcases hr with hr | ⟨hr, hb⟩
 ·go_wp2
  refine bodyPost_ret (v := .tuple #[.agg #[.int .u64 W8.zero.a0, .int .u64 W8.zero.a1, .int .u64 W8.zero.a2, .int .u64 W8.zero.a3, .int .u64 W8.zero.a4, .int .u64 W8.zero.a5, .int .u64 W8.zero.a6, .int .u64 W8.zero.a7], .int .i64 6]) (by simp [results, Tryz.results87, go_sem, W8.zero, c0, c1, c2, c3, c4, c5, c6, c7]) rfl ?_
  refine ⟨W8.zero, 6, rfl, .inr ⟨HZ.out, rfl, rfl⟩, ?_⟩
  iterate 8 (refine Lat.setCell ?_ (by simp; try omega) _)
  exact LW
 ·subst hr
  subst hb
  go_wp2
  refine bodyPost_ret (v := .tuple #[.agg #[.int .u64 W8.zero.a0, .int .u64 W8.zero.a1, .int .u64 W8.zero.a2, .int .u64 W8.zero.a3, .int .u64 W8.zero.a4, .int .u64 W8.zero.a5, .int .u64 W8.zero.a6, .int .u64 W8.zero.a7], .int .i64 6]) (by simp [results, Tryz.results87, go_sem, W8.zero, c0, c1, c2, c3, c4, c5, c6, c7]) rfl ?_
  refine ⟨W8.zero, 6, rfl, .inr ⟨HZ.out, rfl, rfl⟩, ?_⟩
  iterate 8 (refine Lat.setCell ?_ (by simp; try omega) _)
  exact LW
theorem rOut_any (b : Bool) (A : Option Addr) (n c : Nat) (z : Int) (w : World) (h : Rg w b A n c z) (hn : n ≤ 1000000) :
  Calls Tryz.prog 87 #[.agg #[.bool b, .slice A n c]] w (ToldPost w z) := by
 by_cases h0 : -P511 ≤ z ∧ z < P511
 ·exact rOut_fits b A n c z w h hn h0.1 h0.2
 ·exact rOut_big b A n c z w h hn (by omega)
end Go.Proofs.YtbgngmamnonlbaaGreat
