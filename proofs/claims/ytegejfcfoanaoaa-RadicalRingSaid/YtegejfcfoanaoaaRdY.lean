
/- The reference's Plus leaves its digits in new memory (printed by gen_rdy.py). -/
import Derived.Test.YtegejfcfoanaoaaR03
namespace Go.Proofs.Ytegejfcfoanaoaa
open Go.RowKit

set_option maxHeartbeats 1000000 in
theorem rPlus_otherF (b1 : Bool) (A1 : Option Addr) (n1 c1 : Nat) (x : Int) (b2 : Bool) (A2 : Option Addr) (n2 c2 : Nat) (y : Int) (w : World) (h1 : Rg w b1 A1 n1 c1 x) (h2 : Rg w b2 A2 n2 c2 y) (hb : b1 ≠ b2) (hn : n1 ≤ 1000000) (hm : n2 ≤ 1000000) :
    Calls Try.prog 57 #[.agg #[.bool b1, .slice A1 n1 c1], .agg #[.bool b2, .slice A2 n2 c2]] w (RefF w (x + y) (max n1 n2 + 1)) := by
  obtain ⟨hc1, xs, s1, r1, z1, _, v1⟩ := h1
  obtain ⟨hc2, ys, s2, r2, z2, _, v2⟩ := h2
  have V1 := Lib.hid v1
  have V2 := Lib.hid v2
  clear v1 v2
  have hbb : (b1 == b2) = false := by simpa using hb
  have HB := Lib.hid hb
  clear hb
  go_enter Try.func57, Try.ntmps57
  go_wp2_with fail
  refine name3 (Q := fun W => Calls _ _ _ W _) ?_
  intro W hl hs k1 k2 k3
  refine (order_any A1 n1 c1 xs A2 n2 c2 ys W (s1.later hl) (s2.later hl) r1 r2 z1 z2 hn hm).mono ?_
  intro e W1 hpost
  by_cases hge : val B32 ys ≤ val B32 xs
  · obtain ⟨r, rfl, r0, hl1⟩ := hpost.ge hge
    clear hpost
    have hlw := hl.trans hl1
    have hlen := len_le_of_val' B32_pos r2 r1 z2 hge
    rw [s1.1, s2.1] at hlen
    have HGE := Lib.hid hge
    have hk1 := k1.later hl1
    have hk2 := k2.later hl1
    have hk3 := k3.later hl1
    have hs1 := hl1.size
    clear k1 k2 k3 hl hge
    go_wp2
    have a1 := hk1.evS (gs := [w.heap.size + 1 + 1]) (by simp; try omega) 0 rfl
    have a2 := hk1.evS (gs := [w.heap.size + 1 + 1]) (by simp; try omega) (0 + 1) rfl
    have a4 := hk2.evS (gs := [w.heap.size + 1 + 1]) (by simp; try omega) (0 + 1) rfl
    have L0 := Lat.drew W1
    have M0 := L0.s [w.heap.size + 1 + 1]
    go_region_held3 (fun w' => LatS W1 [w.heap.size + 1 + 1] w') (first | assumption | ((repeat refine LatS.set ?_ (by simp) _); assumption))
      (first
        | (go_at_call 70; refine (less_any A1 n1 c1 xs A2 n2 c2 ys _ (s1.later (hlw.trans L0)) (s2.later (hlw.trans L0)) r1 r2 hlen HGE.out hn).mono ?_; rintro e w1 ⟨A, n, c, zs, rfl, p1, p2, p2', p3, p4, p5, p6, p7⟩; have L1 := L0.trans p6; have M1 := L1.s [w.heap.size + 1 + 1]; have P3 := Lib.hid p3; clear p3)
        | (go_at_call 58; refine (made_same b1 A n c _ zs p1 p2 p4 (by omega)).mono ?_; rintro e w2 ⟨b, m, c', rfl, q1, q2, q3⟩; have L2 := L1.trans q3; have M2 := L2.s [w.heap.size + 1 + 1]; have hk3' := hk3.later L2; have c0 := hk3'.cell 0; have c1' := hk3'.cell 1; have f0 := hk3'.frozen 0; have f1 := hk3'.frozen 1))
    go_wp2
    refine bodyPost_ret (v := .agg #[.bool b, .slice A m c']) (by simp [results, Try.results57, go_sem, c0, c1']) rfl ?_
    have := RefPost.close hk3' q1 (hlw.trans L2) (by omega) (N := max n1 n2 + 1) (by omega)
    rw [P3.out, rs_sub HB.out, ← V1.out, ← V2.out] at this
    exact RefF.of this (fun a h => Nat.le_trans hlw.size (Nat.le_trans L0.size (p7 a h)))
  · obtain ⟨r, rfl, r0, hl1⟩ := hpost.lt (by omega)
    clear hpost
    have hlw := hl.trans hl1
    have hge' : val B32 xs ≤ val B32 ys := by omega
    have hlen := len_le_of_val' B32_pos r1 r2 z1 hge'
    rw [s1.1, s2.1] at hlen
    have HGE := Lib.hid hge'
    have hk1 := k1.later hl1
    have hk2 := k2.later hl1
    have hk3 := k3.later hl1
    have hs1 := hl1.size
    have r0' : ¬ 0 ≤ r := by omega
    clear k1 k2 k3 hl hge hge'
    go_wp2
    have a1 := hk2.evS (gs := [w.heap.size + 1 + 1]) (by simp; try omega) 0 rfl
    have a2 := hk1.evS (gs := [w.heap.size + 1 + 1]) (by simp; try omega) (0 + 1) rfl
    have a4 := hk2.evS (gs := [w.heap.size + 1 + 1]) (by simp; try omega) (0 + 1) rfl
    have L0 := Lat.drew W1
    have M0 := L0.s [w.heap.size + 1 + 1]
    go_region_held3 (fun w' => LatS W1 [w.heap.size + 1 + 1] w') (first | assumption | ((repeat refine LatS.set ?_ (by simp) _); assumption))
      (first
        | (go_at_call 70; refine (less_any A2 n2 c2 ys A1 n1 c1 xs _ (s2.later (hlw.trans L0)) (s1.later (hlw.trans L0)) r2 r1 hlen HGE.out hm).mono ?_; rintro e w1 ⟨A, n, c, zs, rfl, p1, p2, p2', p3, p4, p5, p6, p7⟩; have L1 := L0.trans p6; have M1 := L1.s [w.heap.size + 1 + 1]; have P3 := Lib.hid p3; clear p3)
        | (go_at_call 58; refine (made_same b2 A n c _ zs p1 p2 p4 (by omega)).mono ?_; rintro e w2 ⟨b, m, c', rfl, q1, q2, q3⟩; have L2 := L1.trans q3; have M2 := L2.s [w.heap.size + 1 + 1]; have hk3' := hk3.later L2; have c0 := hk3'.cell 0; have c1' := hk3'.cell 1; have f0 := hk3'.frozen 0; have f1 := hk3'.frozen 1))
    go_wp2
    refine bodyPost_ret (v := .agg #[.bool b, .slice A m c']) (by simp [results, Try.results57, go_sem, c0, c1']) rfl ?_
    have := RefPost.close hk3' q1 (hlw.trans L2) (by omega) (N := max n1 n2 + 1) (by omega)
    rw [P3.out, rs_sub (fun e => HB.out e.symm), ← V1.out, ← V2.out, Int.add_comm] at this
    exact RefF.of this (fun a h => Nat.le_trans hlw.size (Nat.le_trans L0.size (p7 a h)))

theorem rPlus_new (b1 : Bool) (A1 : Option Addr) (n1 c1 : Nat) (x : Int) (b2 : Bool) (A2 : Option Addr) (n2 c2 : Nat) (y : Int) (w : World) (h1 : Rg w b1 A1 n1 c1 x) (h2 : Rg w b2 A2 n2 c2 y) (hn : n1 ≤ 1000000) (hm : n2 ≤ 1000000) :
    Calls Try.prog 57 #[.agg #[.bool b1, .slice A1 n1 c1], .agg #[.bool b2, .slice A2 n2 c2]] w (RefF w (x + y) (max n1 n2 + 1)) := by
  by_cases hb : b1 = b2
  · subst hb
    exact rPlus_fresh b1 A1 n1 c1 x A2 n2 c2 y w h1 h2 hn hm
  · exact rPlus_otherF b1 A1 n1 c1 x b2 A2 n2 c2 y w h1 h2 hb hn hm
end Go.Proofs.Ytegejfcfoanaoaa
