
/- Chance: a number of k binary digits. -/
import Derived.Test.YtogkkhaepfablaaGreatChN
import Derived.Test.YtogkkhaepfablaaGreatChD
import Derived.Test.YtogkkhaepfablaaGreatRgA
namespace Go.Proofs.YtogkkhaepfablaaGreat
open Go.RowKit
set_option linter.unusedSimpArgs false

/-- What a draw of k digits needs and leaves: the boxes of k and of the source. -/
structure WdsF (W : World) (bk bs b : Nat) (k s : Nat) : Prop where
  kk : Blk W bk 3 #[.int .i64 (k : Nat)]
  ks : Blk W bs 76 #[.pointer (some ⟨b, 0, none⟩)]
  kb : Blk W b 83 #[.int .u64 (s : Nat)]
  n1 : bk ≠ b
  n2 : bs ≠ b
theorem WdsF.step {W W' : World} {bk bs b k s s' : Nat} (h : WdsF W bk bs b k s) (kb : Blk W' b 83 #[.int .u64 (s' : Nat)]) (hl : LatP (· = b) W W') : WdsF W' bk bs b k s' :=
  ⟨h.kk.keepP hl h.n1, h.ks.keepP hl h.n2, kb, h.n1, h.n2⟩
theorem WdsF.later {W W' : World} {bk bs b k s : Nat} (h : WdsF W bk bs b k s) (hl : Lat W W') : WdsF W' bk bs b k s := ⟨h.kk.later hl, h.ks.later hl, h.kb.later hl, h.n1, h.n2⟩
theorem WdsF.far {W : World} {bk bs b k s : Nat} (h : WdsF W bk bs b k s) {g : Nat} (hg : W.heap.size ≤ g ∨ (g ≠ bk ∧ g ≠ bs ∧ g ≠ b)) (o : Nat) (v : Value) : WdsF (W.setCell ⟨g, o, none⟩ v) bk bs b k s := by
  have h1 := h.kk.lt
  have h2 := h.ks.lt
  have h3 := h.kb.lt
  have hl := LatP.setc W g o v
  exact ⟨h.kk.keepP hl (by omega), h.ks.keepP hl (by omega), h.kb.keepP hl (by omega), h.n1, h.n2⟩

theorem LatP.over {M : Nat → Prop} {W w X : World} {g : Nat} (h : LatP M W w) (k : LatP (· = g) w X) (hg : W.heap.size ≤ g) : LatP M W X :=
  ⟨k.os.trans h.os, k.tape.trans h.tape, k.output.trans h.output, Nat.le_trans h.size k.size, fun i hi hm => (k.block i (Nat.lt_of_lt_of_le hi h.size) (by omega)).trans (h.block i hi hm)⟩
theorem cell_off2 {w : World} {g b : Nat} (h : g ≠ b) {o i : Nat} {v : Value} (u : Value) (hc : w.cell? ⟨g, o, none⟩ = some v) : (w.setCell ⟨b, i, none⟩ u).cell? ⟨g, o, none⟩ = some v := by
  have e : (w.setCell ⟨b, i, none⟩ u).cell? ⟨g, o, none⟩ = w.cell? ⟨g, o, none⟩ := World.cell?_of_block (a := ⟨g, o, none⟩) (Below.heap_setCell w ⟨b, i, none⟩ u g h)
  rw [e, hc]
/-- What a draw of k digits leaves. -/
def WdsPost (w : World) (b : Nat) (z : Int) (t : Nat) (e : Ending) (w' : World) : Prop := e = .returned (.agg #[.int .u64 (W8.of z).a0, .int .u64 (W8.of z).a1, .int .u64 (W8.of z).a2, .int .u64 (W8.of z).a3, .int .u64 (W8.of z).a4, .int .u64 (W8.of z).a5, .int .u64 (W8.of z).a6, .int .u64 (W8.of z).a7]) ∧ Blk w' b 83 #[.int .u64 (t : Nat)] ∧ LatP (· = b) w w'

set_option maxRecDepth 100000 in
set_option maxHeartbeats 4000000 in
theorem words_in (bk bs b k s m : Nat) (st xs : Nat → Nat) (os : Nat → List Int) (h0 : st 0 = s) (HN : ∀ j, NextC (st j) (xs j) (st (j + 1))) (hm : ((k : Int) + 63).tdiv 64 = (m : Int)) (hk : k ≤ 511) (hm8 : m ≤ 8)
    (ho0 : os 0 = W8.zero.list) (ho : ∀ j, j < m → os (j + 1) = (os j).set j (xs j : Int)) (hol : ∀ j, j ≤ m → (os j).length = 8) (q r p p1 : Nat) (hq : (k : Int).tdiv 64 = (q : Int)) (hr : (k : Int).tmod 64 = (r : Int)) (hr64 : r ≤ 63) (hp : IntKind.u64.wrap (2 ^ r) = (p : Int)) (hp1 : IntKind.u64.wrap ((p : Int) - 1) = (p1 : Int)) (z : Int)
    (hz0 : r = 0 → W8.ofList (os m) = W8.of z) (hz1 : r ≠ 0 → q < 8 ∧ ∀ x, (os m)[q]? = some x → ∃ y : Int, bits .and .u64 x (p1 : Int) = y ∧ W8.ofList ((os m).set q y) = W8.of z) (w : World) (h : WdsF w bk bs b k s) :
    Calls Tryz.prog 75 #[.pointer (some ⟨bk, 0, none⟩), .pointer (some ⟨bs, 0, none⟩)] w (WdsPost w b z (st m)) := by
  have HO := Lib.hid ho
  have H0 := Lib.hid h0
  have HZ0 := Lib.hid hz0
  have HZ1 := Lib.hid hz1
  have HOL := Lib.hid hol
  have HNN := Lib.hid HN
  have hbl := h.kb.lt
  have hkl := h.kk.lt
  have hsl := h.ks.lt
  have HQ := Lib.hid hq
  have HR := Lib.hid hr
  have HP := Lib.hid hp
  have HP1 := Lib.hid hp1
  clear ho hol HN h0 hz0 hz1 hq hr hp hp1
  go_enter Tryz.func75, Tryz.ntmps75
  go_upto_region 2 with (fail)
  refine name2 (Q := fun W => Code.wp _ _ _ _ W) ?_
  intro W hl hs k2 k3
  have F := h.later hl
  have c0 : W.cell? ⟨bk, 0, none⟩ = some (.int .i64 (k : Int)) := F.kk.cell 0
  have K2 : Blk W w.heap.size 26 (nums .u64 W8.zero.list) := k2
  have K3 : Blk W (w.heap.size + 1) 26 (nums .u64 (os 0)) := by rw [ho0]; exact k3
  clear ho0
  have LP := hl.p (· = b)
  clear k2 k3
  have hw : wrap64 ((k : Int) + 63) = (k : Int) + 63 := IntWalk.wrap64_in _ (by omega)
  go_upto_region 3 with (fail)
  go_loopw [8] (fun i wr => ∃ j : Nat, j ≤ m ∧ i = .int .i64 j ∧ WdsF wr bk bs b k (st j) ∧ Blk wr w.heap.size 26 (nums .u64 W8.zero.list) ∧ Blk wr (w.heap.size + 1) 26 (nums .u64 (os j)) ∧ LatP (· = b) w wr) (fun i _ => m - (intOf i).toNat)
  case atStart => exact ⟨0, by omega, rfl, by rw [H0.out]; exact F, K2, K3, LP⟩
  case round =>
    obtain ⟨j, hj, rfl, Fj, J2, J3, LPj⟩ := hrel
    clear F K2 K3 LP c0 hw
    by_cases hlt : j < m
    · have c0 : wr.cell? ⟨bs, 0, none⟩ = some (.pointer (some ⟨b, 0, none⟩)) := Fj.ks.cell 0
      have hltI : (j : Int) < (m : Int) := by omega
      have b0 : (0 : Int) ≤ (j : Int) := by omega
      have b1 : (j : Int) < 8 := by omega
      go_wp2_with fail
      refine (HNN.out j b wr Fj.kb).mono ?_
      rintro e w1 ⟨rfl, kb1, lp1, hs1⟩
      have F1 := Fj.step kb1 lp1
      have I2 := J2.keepP lp1 (by omega)
      have I3 := J3.keepP lp1 (by omega)
      have LP1 := LPj.trans lp1
      obtain ⟨o, hok, hco, hfo⟩ := I3.slot (i := j) (by rw [HOL.out j hj]; omega)
      have hput := Lib.hid (I3.put j (xs j : Int))
      have hstep := Lib.hid (HO.out j hlt)
      clear Fj J2 J3 LPj c0 kb1 lp1 hok
      go_wp2
      go_roundw
      case rel => exact ⟨j + 1, by omega, by go_num, F1.far (.inr ⟨by omega, by omega, by omega⟩) _ _, I2.far (p := ⟨w.heap.size + 1, j, none⟩) (by simp) _, by rw [hstep.out]; exact hput.out, LP1.over (LatP.setc _ _ _ _) (by omega)⟩
      case measure => simp [intOf]; omega
    · obtain rfl : j = m := by omega
      have c0 : wr.cell? ⟨bk, 0, none⟩ = some (.int .i64 (k : Int)) := Fj.kk.cell 0
      have hol := HOL.out j (Nat.le_refl _)
      have hr := HR.out
      clear HR
      by_cases hr0 : r = 0
      · have hz := Lib.hid (HZ0.out hr0)
        have hrI : ¬ (0 : Int) < (r : Int) := by omega
        obtain ⟨u, hu⟩ : ∃ u : W8, os j = u.list := ⟨W8.ofList (os j), (of_list8 hol).symm⟩
        have hu2 : Hid (u = W8.of z) := by show u = _; rw [← hz.out, hu]; rfl
        rw [hu] at J3
        have D3 : Blk wr (w.heap.size + 1) 26 #[.int .u64 u.a0, .int .u64 u.a1, .int .u64 u.a2, .int .u64 u.a3, .int .u64 u.a4, .int .u64 u.a5, .int .u64 u.a6, .int .u64 u.a7] := J3
        have D2 : Blk wr w.heap.size 26 #[.int .u64 W8.zero.a0, .int .u64 W8.zero.a1, .int .u64 W8.zero.a2, .int .u64 W8.zero.a3, .int .u64 W8.zero.a4, .int .u64 W8.zero.a5, .int .u64 W8.zero.a6, .int .u64 W8.zero.a7] := J2
        have KB := Fj.kb
        have hn := Fj.n1
        clear J2 J3 Fj hol hu hz
        have c10 := D3.cell 0
        have c11 := D3.cell 1
        have c12 := D3.cell 2
        have c13 := D3.cell 3
        have c14 := D3.cell 4
        have c15 := D3.cell 5
        have c16 := D3.cell 6
        have c17 := D3.cell 7
        have d0 := D2.cell 0
        have d1 := D2.cell 1
        have d2 := D2.cell 2
        have d3 := D2.cell 3
        have d4 := D2.cell 4
        have d5 := D2.cell 5
        have d6 := D2.cell 6
        have d7 := D2.cell 7
        have f0 := D2.frozen 0
        have f1 := D2.frozen 1
        have f2 := D2.frozen 2
        have f3 := D2.frozen 3
        have f4 := D2.frozen 4
        have f5 := D2.frozen 5
        have f6 := D2.frozen 6
        have f7 := D2.frozen 7
        have hlt2 := D2.lt
        go_wp2
        refine name_put8 (Q := fun W => bodyPost _ _ _ _ _ W) D2 ?_
        intro W9 E2 l9
        clear d0 d1 d2 d3 d4 d5 d6 d7
        have e0 := E2.cell 0
        have e1 := E2.cell 1
        have e2 := E2.cell 2
        have e3 := E2.cell 3
        have e4 := E2.cell 4
        have e5 := E2.cell 5
        have e6 := E2.cell 6
        have e7 := E2.cell 7
        refine bodyPost_ret (v := .agg #[.int .u64 u.a0, .int .u64 u.a1, .int .u64 u.a2, .int .u64 u.a3, .int .u64 u.a4, .int .u64 u.a5, .int .u64 u.a6, .int .u64 u.a7]) (by simp [results, Tryz.results75, go_sem, e0, e1, e2, e3, e4, e5, e6, e7]) rfl ?_
        refine ⟨by rw [hu2.out], KB.keepP l9 (by omega), LPj.over l9 (Nat.le_refl _)⟩
      · obtain ⟨hq8, hzz⟩ := HZ1.out hr0
        have hrI : (0 : Int) < (r : Int) := by omega
        obtain ⟨x, hxk, hcx, hfx⟩ := J3.slot (i := q) (by omega)
        obtain ⟨y, hy, hset⟩ := hzz x hxk
        have HS := Lib.hid hset
        clear hzz hset hxk
        go_upto_region 8 with (fail)
        have hq := HQ.out
        have hp := HP.out
        have hp1 := HP1.out
        have L0 := Lat.drew wr
        have G3 := J3.later L0
        have G2 := J2.later L0
        have FG := Fj.later L0
        have LPG := LPj.trans (L0.p _)
        have g0 : wr.drew.cell? ⟨bk, 0, none⟩ = some (.int .i64 (k : Int)) := c0
        have gx : wr.drew.cell? ⟨w.heap.size + 1, q, none⟩ = some (.int .u64 x) := hcx
        have gf : wr.drew.frozen? ⟨w.heap.size + 1, q, none⟩ = false := hfx
        have q0 : (0 : Int) ≤ (q : Int) := by omega
        have q8 : (q : Int) < 8 := by omega
        have r0 : (0 : Int) ≤ (r : Int) := by omega
        have r64 : (r : Int) ≤ 64 := by omega
        have hqw : IntKind.i64.wrap (q : Int) = (q : Int) := by rw [IntWalk.i64_left]; exact IntWalk.wrap64_in _ (by omega)
        clear c0 hcx hfx J2 J3 Fj LPj L0
        refine wp_region_held_drew (S := fun w' => w'.cell? ⟨bk, 0, none⟩ = some (.int .i64 (k : Int))) (by kernel_rfl) g0 (fun hHeld => ?_)
        generalize wr.drew = V0 at *
        refine wpAnyH_take (i := 0) (v := .int .i64 (k : Int)) rfl (by kernel_rfl) (by kernel_rfl) (by kernel_rfl) (fun _ _ _ h => h) (Or.inl ⟨by rfl, by intro w' hS; go_simp⟩) hHeld ?_
        simp only [Act.put, List.getElem_toArray, List.getElem_cons_succ, List.getElem_cons_zero, List.setIfInBounds_toArray, List.set_cons_zero, List.set_cons_succ]
        refine wpAnyH_take (i := 1) (v := .int .i64 (q : Int)) rfl (by kernel_rfl) (by kernel_rfl) (by kernel_rfl) (fun _ _ _ h => h) (Or.inl ⟨by rfl, by intro w' hS; go_simp⟩) hHeld ?_
        simp only [Act.put, List.getElem_toArray, List.getElem_cons_succ, List.getElem_cons_zero, List.setIfInBounds_toArray, List.set_cons_zero, List.set_cons_succ]
        refine wpAnyH_take (i := 2) (v := .pointer (some ⟨w.heap.size + 1, q, none⟩)) rfl (by kernel_rfl) (by kernel_rfl) (by kernel_rfl) (fun _ _ _ h => h) (Or.inl ⟨by rfl, by intro w' hS; go_simp⟩) hHeld ?_
        simp only [Act.put, List.getElem_toArray, List.getElem_cons_succ, List.getElem_cons_zero, List.setIfInBounds_toArray, List.set_cons_zero, List.set_cons_succ]
        refine wpAnyH_take (i := 4) (v := .int .i64 (k : Int)) rfl (by kernel_rfl) (by kernel_rfl) (by kernel_rfl) (fun _ _ _ h => h) (Or.inl ⟨by rfl, by intro w' hS; go_simp⟩) hHeld ?_
        simp only [Act.put, List.getElem_toArray, List.getElem_cons_succ, List.getElem_cons_zero, List.setIfInBounds_toArray, List.set_cons_zero, List.set_cons_succ]
        refine wpAnyH_take (i := 5) (v := .int .i64 (r : Int)) rfl (by kernel_rfl) (by kernel_rfl) (by kernel_rfl) (fun _ _ _ h => h) (Or.inl ⟨by rfl, by intro w' hS; go_simp⟩) hHeld ?_
        simp only [Act.put, List.getElem_toArray, List.getElem_cons_succ, List.getElem_cons_zero, List.setIfInBounds_toArray, List.set_cons_zero, List.set_cons_succ]
        refine wpAnyH_take (i := 6) (v := .int .u64 (p : Int)) rfl (by kernel_rfl) (by kernel_rfl) (by kernel_rfl) (fun _ _ _ h => h) (Or.inl ⟨by rfl, by intro w' hS; go_simp⟩) hHeld ?_
        simp only [Act.put, List.getElem_toArray, List.getElem_cons_succ, List.getElem_cons_zero, List.setIfInBounds_toArray, List.set_cons_zero, List.set_cons_succ]
        refine wpAnyH_take (i := 7) (v := .int .u64 (p1 : Int)) rfl (by kernel_rfl) (by kernel_rfl) (by kernel_rfl) (fun _ _ _ h => h) (Or.inl ⟨by rfl, by intro w' hS; go_simp⟩) hHeld ?_
        simp only [Act.put, List.getElem_toArray, List.getElem_cons_succ, List.getElem_cons_zero, List.setIfInBounds_toArray, List.set_cons_zero, List.set_cons_succ]
        refine wpAnyH_ready (rs := [3]) (by kernel_rfl) (by simp) (AllReadyH.cons rfl (fun K hK => ?_) AllReadyH.nil)
        go_simp
        refine hK.out _ _ hHeld (fun hHeld1 => ?_)
        clear hK K
        try simp only [Act.put, List.getElem_toArray, List.getElem_cons_succ, List.getElem_cons_zero, List.setIfInBounds_toArray, List.set_cons_zero, List.set_cons_succ]
        refine wpAnyH_take (i := 8) (v := .int .u64 y) rfl (by kernel_rfl) (by kernel_rfl) (by kernel_rfl) (fun _ _ _ h => h) (Or.inl ⟨by rfl, by intro w' hS; go_simp⟩) hHeld1 ?_
        simp only [Act.put, List.getElem_toArray, List.getElem_cons_succ, List.getElem_cons_zero, List.setIfInBounds_toArray, List.set_cons_zero, List.set_cons_succ]
        refine wpAnyH_take (i := 9) (v := .pointer (some ⟨w.heap.size + 1, q, none⟩)) rfl (by kernel_rfl) (by kernel_rfl) (by kernel_rfl) (fun _ _ _ h => h) (Or.inl ⟨by rfl, by intro w' hS; go_simp⟩) hHeld1 ?_
        simp only [Act.put, List.getElem_toArray, List.getElem_cons_succ, List.getElem_cons_zero, List.setIfInBounds_toArray, List.set_cons_zero, List.set_cons_succ]
        refine wpAnyH_ready (rs := [10]) (by kernel_rfl) (by simp) (AllReadyH.cons rfl (fun K hK => ?_) AllReadyH.nil)
        go_simp
        have HP' := Lib.hid (G3.put q y)
        have G2' := G2.far (p := ⟨w.heap.size + 1, q, none⟩) (by simp) (.int .u64 y)
        have FG' := FG.far (g := w.heap.size + 1) (.inr ⟨by omega, by omega, by omega⟩) q (.int .u64 y)
        have LPG' := LPG.over (LatP.setc V0 (w.heap.size + 1) q (.int .u64 y)) (by omega)
        refine hK.out _ _ (cell_off2 (by omega) _ g0) (fun hHeld2 => ?_)
        clear hK K
        try simp only [Act.put, List.getElem_toArray, List.getElem_cons_succ, List.getElem_cons_zero, List.setIfInBounds_toArray, List.set_cons_zero, List.set_cons_succ]
        refine wpAnyH_done (by kernel_rfl) ?_ _
        have HP := HP'.out
        obtain ⟨V1, hV1⟩ : ∃ V, V0.setCell ⟨w.heap.size + 1, q, none⟩ (.int .u64 y) = V := ⟨_, rfl⟩
        rw [hV1] at HP G2' FG' LPG' ⊢
        clear hV1 gx gf g0 G2 G3 FG LPG HP'
        have hol2 : ((os j).set q y).length = 8 := by rw [List.length_set]; exact hol
        obtain ⟨u, hu⟩ : ∃ u : W8, (os j).set q y = u.list := ⟨W8.ofList ((os j).set q y), (of_list8 hol2).symm⟩
        have hu2 : Hid (u = W8.of z) := by show u = _; rw [← HS.out, hu]; rfl
        rw [hu] at HP
        have D3 : Blk V1 (w.heap.size + 1) 26 #[.int .u64 u.a0, .int .u64 u.a1, .int .u64 u.a2, .int .u64 u.a3, .int .u64 u.a4, .int .u64 u.a5, .int .u64 u.a6, .int .u64 u.a7] := HP
        have D2 : Blk V1 w.heap.size 26 #[.int .u64 W8.zero.a0, .int .u64 W8.zero.a1, .int .u64 W8.zero.a2, .int .u64 W8.zero.a3, .int .u64 W8.zero.a4, .int .u64 W8.zero.a5, .int .u64 W8.zero.a6, .int .u64 W8.zero.a7] := G2'
        have KB := FG'.kb
        have hn := FG'.n1
        clear HP G2' FG' hol hol2 hu HS hq hr hp hp1 hy
        have c10 := D3.cell 0
        have c11 := D3.cell 1
        have c12 := D3.cell 2
        have c13 := D3.cell 3
        have c14 := D3.cell 4
        have c15 := D3.cell 5
        have c16 := D3.cell 6
        have c17 := D3.cell 7
        have d0 := D2.cell 0
        have d1 := D2.cell 1
        have d2 := D2.cell 2
        have d3 := D2.cell 3
        have d4 := D2.cell 4
        have d5 := D2.cell 5
        have d6 := D2.cell 6
        have d7 := D2.cell 7
        have f0 := D2.frozen 0
        have f1 := D2.frozen 1
        have f2 := D2.frozen 2
        have f3 := D2.frozen 3
        have f4 := D2.frozen 4
        have f5 := D2.frozen 5
        have f6 := D2.frozen 6
        have f7 := D2.frozen 7
        have hlt2 := D2.lt
        go_wp2
        refine name_put8 (Q := fun W => bodyPost _ _ _ _ _ W) D2 ?_
        intro W9 E2 l9
        clear d0 d1 d2 d3 d4 d5 d6 d7
        have e0 := E2.cell 0
        have e1 := E2.cell 1
        have e2 := E2.cell 2
        have e3 := E2.cell 3
        have e4 := E2.cell 4
        have e5 := E2.cell 5
        have e6 := E2.cell 6
        have e7 := E2.cell 7
        refine bodyPost_ret (v := .agg #[.int .u64 u.a0, .int .u64 u.a1, .int .u64 u.a2, .int .u64 u.a3, .int .u64 u.a4, .int .u64 u.a5, .int .u64 u.a6, .int .u64 u.a7]) (by simp [results, Tryz.results75, go_sem, e0, e1, e2, e3, e4, e5, e6, e7]) rfl ?_
        refine ⟨by rw [hu2.out], KB.keepP l9 (by omega), LPG'.over l9 (Nat.le_refl _)⟩
end Go.Proofs.YtogkkhaepfablaaGreat

