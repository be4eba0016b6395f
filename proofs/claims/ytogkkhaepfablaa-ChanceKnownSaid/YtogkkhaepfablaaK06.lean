/- Several texts in one: ChO, ChE. -/
import Derived.Test.YtogkkhaepfablaaK05
import Derived.Test.YtogkkhaepfablaaK03
import Derived.Test.YtogkkhaepfablaaK02
import Derived.Shelf.Abstract

/- Chance: a number of k binary digits. -/
namespace Go.Proofs.Ytogkkhaepfablaa
open Go.RowKit
set_option linter.unusedSimpArgs false

/-- What a draw of k digits needs and leaves: the boxes of k and of the source. -/
structure WdsF (W : World) (bk bs b : Nat) (k s : Nat) : Prop where
  kk : Blk W bk 3 #[.int .i64 (k : Nat)]
  ks : Blk W bs 65 #[.pointer (some ⟨b, 0, none⟩)]
  kb : Blk W b 72 #[.int .u64 (s : Nat)]
  n1 : bk ≠ b
  n2 : bs ≠ b
theorem WdsF.step {W W' : World} {bk bs b k s s' : Nat} (h : WdsF W bk bs b k s) (kb : Blk W' b 72 #[.int .u64 (s' : Nat)]) (hl : LatP (· = b) W W') : WdsF W' bk bs b k s' :=
  ⟨h.kk.keepP hl h.n1, h.ks.keepP hl h.n2, kb, h.n1, h.n2⟩
theorem WdsF.later {W W' : World} {bk bs b k s : Nat} (h : WdsF W bk bs b k s) (hl : Lat W W') : WdsF W' bk bs b k s := ⟨h.kk.later hl, h.ks.later hl, h.kb.later hl, h.n1, h.n2⟩
theorem WdsF.far {W : World} {bk bs b k s : Nat} (h : WdsF W bk bs b k s) {g : Nat} (hg : W.heap.size ≤ g ∨ (g ≠ bk ∧ g ≠ bs ∧ g ≠ b)) (o : Nat) (v : Value) : WdsF (W.setCell ⟨g, o, none⟩ v) bk bs b k s := by
  have h1 := h.kk.lt
  have h2 := h.ks.lt
  have h3 := h.kb.lt
  have hl := LatP.setc W g o v
  exact ⟨h.kk.keepP hl (by omega), h.ks.keepP hl (by omega), h.kb.keepP hl (by omega), h.n1, h.n2⟩

theorem LatP.over {M : Nat → Prop} {W w X : World} {g : Nat} (h : LatP M W w) (k : LatP (· = g) w X) (hg : W.heap.size ≤ g) : LatP M W X :=
  ⟨k.os.trans h.os, k.tape.trans h.tape, k.output.trans h.output, Nat.le_trans h.size k.size, fun i hi hm => (k.block i (Nat.lt_of_lt_of_le hi h.size) (by omega)).trans (h.block i hi hm)⟩
theorem cell_off2 {w : World} {g b : Nat} (h : g ≠ b) {o i : Nat} {v : Value} (u : Value) (hc : w.cell? ⟨g, o, none⟩ = some v) : (w.setCell ⟨b, i, none⟩ u).cell? ⟨g, o, none⟩ = some v := by
  have e : (w.setCell ⟨b, i, none⟩ u).cell? ⟨g, o, none⟩ = w.cell? ⟨g, o, none⟩ := World.cell?_of_block (a := ⟨g, o, none⟩) (Below.heap_setCell w ⟨b, i, none⟩ u g h)
  rw [e, hc]
/-- What a draw of k digits leaves. -/
def WdsPost (w : World) (b : Nat) (z : Int) (t : Nat) (e : Ending) (w' : World) : Prop := e = .returned (.agg #[.int .u64 (W8.of z).a0, .int .u64 (W8.of z).a1, .int .u64 (W8.of z).a2, .int .u64 (W8.of z).a3, .int .u64 (W8.of z).a4, .int .u64 (W8.of z).a5, .int .u64 (W8.of z).a6, .int .u64 (W8.of z).a7]) ∧ Blk w' b 72 #[.int .u64 (t : Nat)] ∧ LatP (· = b) w w'

set_option maxRecDepth 100000 in
set_option maxHeartbeats 4000000 in
theorem words_in (bk bs b k s m : Nat) (st xs : Nat → Nat) (os : Nat → List Int) (h0 : st 0 = s) (HN : ∀ j, NextC (st j) (xs j) (st (j + 1))) (hm : ((k : Int) + 63).tdiv 64 = (m : Int)) (hk : k ≤ 511) (hm8 : m ≤ 8)
    (ho0 : os 0 = W8.zero.list) (ho : ∀ j, j < m → os (j + 1) = (os j).set j (xs j : Int)) (hol : ∀ j, j ≤ m → (os j).length = 8) (q r p p1 : Nat) (hq : (k : Int).tdiv 64 = (q : Int)) (hr : (k : Int).tmod 64 = (r : Int)) (hr64 : r ≤ 63) (hp : IntKind.u64.wrap (2 ^ r) = (p : Int)) (hp1 : IntKind.u64.wrap ((p : Int) - 1) = (p1 : Int)) (z : Int)
    (hz0 : r = 0 → W8.ofList (os m) = W8.of z) (hz1 : r ≠ 0 → q < 8 ∧ ∀ x, (os m)[q]? = some x → ∃ y : Int, bits .and .u64 x (p1 : Int) = y ∧ W8.ofList ((os m).set q y) = W8.of z) (w : World) (h : WdsF w bk bs b k s) :
    Calls Try.prog 54 #[.pointer (some ⟨bk, 0, none⟩), .pointer (some ⟨bs, 0, none⟩)] w (WdsPost w b z (st m)) := by
  have HO := Lib.hid ho
  have H0 := Lib.hid h0
  have HZ0 := Lib.hid hz0
  have HZ1 := Lib.hid hz1
  have HOL := Lib.hid hol
  have HNN := Lib.hid HN
  have hbl := h.kb.lt
  have hkl := h.kk.lt
  have hsl := h.ks.lt
  have HQ := Lib.hid hq
  have HR := Lib.hid hr
  have HP := Lib.hid hp
  have HP1 := Lib.hid hp1
  clear ho hol HN h0 hz0 hz1 hq hr hp hp1
  go_enter Try.func54, Try.ntmps54
  go_upto_region 2 with (fail)
  refine name2 (Q := fun W => Code.wp _ _ _ _ W) ?_
  intro W hl hs k2 k3
  have F := h.later hl
  have c0 : W.cell? ⟨bk, 0, none⟩ = some (.int .i64 (k : Int)) := F.kk.cell 0
  have K2 : Blk W w.heap.size 44 (nums .u64 W8.zero.list) := k2
  have K3 : Blk W (w.heap.size + 1) 44 (nums .u64 (os 0)) := by rw [ho0]; exact k3
  clear ho0
  have LP := hl.p (· = b)
  clear k2 k3
  have hw : wrap64 ((k : Int) + 63) = (k : Int) + 63 := IntWalk.wrap64_in _ (by omega)
  go_upto_region 3 with (fail)
  go_loopw [8] (fun i wr => ∃ j : Nat, j ≤ m ∧ i = .int .i64 j ∧ WdsF wr bk bs b k (st j) ∧ Blk wr w.heap.size 44 (nums .u64 W8.zero.list) ∧ Blk wr (w.heap.size + 1) 44 (nums .u64 (os j)) ∧ LatP (· = b) w wr) (fun i _ => m - (intOf i).toNat)
  case atStart => exact ⟨0, by omega, rfl, by rw [H0.out]; exact F, K2, K3, LP⟩
  case round =>
    obtain ⟨j, hj, rfl, Fj, J2, J3, LPj⟩ := hrel
    clear F K2 K3 LP c0 hw
    by_cases hlt : j < m
    · have c0 : wr.cell? ⟨bs, 0, none⟩ = some (.pointer (some ⟨b, 0, none⟩)) := Fj.ks.cell 0
      have hltI : (j : Int) < (m : Int) := by omega
      have b0 : (0 : Int) ≤ (j : Int) := by omega
      have b1 : (j : Int) < 8 := by omega
      go_wp2_with fail
      refine (HNN.out j b wr Fj.kb).mono ?_
      rintro e w1 ⟨rfl, kb1, lp1, hs1⟩
      have F1 := Fj.step kb1 lp1
      have I2 := J2.keepP lp1 (by omega)
      have I3 := J3.keepP lp1 (by omega)
      have LP1 := LPj.trans lp1
      obtain ⟨o, hok, hco, hfo⟩ := I3.slot (i := j) (by rw [HOL.out j hj]; omega)
      have hput := Lib.hid (I3.put j (xs j : Int))
      have hstep := Lib.hid (HO.out j hlt)
      clear Fj J2 J3 LPj c0 kb1 lp1 hok
      go_wp2
      go_roundw
      case rel => exact ⟨j + 1, by omega, by go_num, F1.far (.inr ⟨by omega, by omega, by omega⟩) _ _, I2.far (p := ⟨w.heap.size + 1, j, none⟩) (by simp) _, by rw [hstep.out]; exact hput.out, LP1.over (LatP.setc _ _ _ _) (by omega)⟩
      case measure => simp [intOf]; omega
    · obtain rfl : j = m := by omega
      have c0 : wr.cell? ⟨bk, 0, none⟩ = some (.int .i64 (k : Int)) := Fj.kk.cell 0
      have hol := HOL.out j (Nat.le_refl _)
      have hr := HR.out
      clear HR
      by_cases hr0 : r = 0
      · have hz := Lib.hid (HZ0.out hr0)
        have hrI : ¬ (0 : Int) < (r : Int) := by omega
        obtain ⟨u, hu⟩ : ∃ u : W8, os j = u.list := ⟨W8.ofList (os j), (of_list8 hol).symm⟩
        have hu2 : Hid (u = W8.of z) := by show u = _; rw [← hz.out, hu]; rfl
        rw [hu] at J3
        have D3 : Blk wr (w.heap.size + 1) 44 #[.int .u64 u.a0, .int .u64 u.a1, .int .u64 u.a2, .int .u64 u.a3, .int .u64 u.a4, .int .u64 u.a5, .int .u64 u.a6, .int .u64 u.a7] := J3
        have D2 : Blk wr w.heap.size 44 #[.int .u64 W8.zero.a0, .int .u64 W8.zero.a1, .int .u64 W8.zero.a2, .int .u64 W8.zero.a3, .int .u64 W8.zero.a4, .int .u64 W8.zero.a5, .int .u64 W8.zero.a6, .int .u64 W8.zero.a7] := J2
        have KB := Fj.kb
        have hn := Fj.n1
        clear J2 J3 Fj hol hu hz
        have c10 := D3.cell 0
        have c11 := D3.cell 1
        have c12 := D3.cell 2
        have c13 := D3.cell 3
        have c14 := D3.cell 4
        have c15 := D3.cell 5
        have c16 := D3.cell 6
        have c17 := D3.cell 7
        have d0 := D2.cell 0
        have d1 := D2.cell 1
        have d2 := D2.cell 2
        have d3 := D2.cell 3
        have d4 := D2.cell 4
        have d5 := D2.cell 5
        have d6 := D2.cell 6
        have d7 := D2.cell 7
        have f0 := D2.frozen 0
        have f1 := D2.frozen 1
        have f2 := D2.frozen 2
        have f3 := D2.frozen 3
        have f4 := D2.frozen 4
        have f5 := D2.frozen 5
        have f6 := D2.frozen 6
        have f7 := D2.frozen 7
        have hlt2 := D2.lt
        go_wp2
        refine name_put8 (Q := fun W => bodyPost _ _ _ _ _ W) D2 ?_
        intro W9 E2 l9
        clear d0 d1 d2 d3 d4 d5 d6 d7
        have e0 := E2.cell 0
        have e1 := E2.cell 1
        have e2 := E2.cell 2
        have e3 := E2.cell 3
        have e4 := E2.cell 4
        have e5 := E2.cell 5
        have e6 := E2.cell 6
        have e7 := E2.cell 7
        refine bodyPost_ret (v := .agg #[.int .u64 u.a0, .int .u64 u.a1, .int .u64 u.a2, .int .u64 u.a3, .int .u64 u.a4, .int .u64 u.a5, .int .u64 u.a6, .int .u64 u.a7]) (by simp [results, Try.results54, go_sem, e0, e1, e2, e3, e4, e5, e6, e7]) rfl ?_
        refine ⟨by rw [hu2.out], KB.keepP l9 (by omega), LPj.over l9 (Nat.le_refl _)⟩
      · obtain ⟨hq8, hzz⟩ := HZ1.out hr0
        have hrI : (0 : Int) < (r : Int) := by omega
        obtain ⟨x, hxk, hcx, hfx⟩ := J3.slot (i := q) (by omega)
        obtain ⟨y, hy, hset⟩ := hzz x hxk
        have HS := Lib.hid hset
        clear hzz hset hxk
        go_upto_region 8 with (fail)
        have hq := HQ.out
        have hp := HP.out
        have hp1 := HP1.out
        have L0 := Lat.drew wr
        have G3 := J3.later L0
        have G2 := J2.later L0
        have FG := Fj.later L0
        have LPG := LPj.trans (L0.p _)
        have g0 : wr.drew.cell? ⟨bk, 0, none⟩ = some (.int .i64 (k : Int)) := c0
        have gx : wr.drew.cell? ⟨w.heap.size + 1, q, none⟩ = some (.int .u64 x) := hcx
        have gf : wr.drew.frozen? ⟨w.heap.size + 1, q, none⟩ = false := hfx
        have q0 : (0 : Int) ≤ (q : Int) := by omega
        have q8 : (q : Int) < 8 := by omega
        have r0 : (0 : Int) ≤ (r : Int) := by omega
        have r64 : (r : Int) ≤ 64 := by omega
        have hqw : IntKind.i64.wrap (q : Int) = (q : Int) := by rw [IntWalk.i64_left]; exact IntWalk.wrap64_in _ (by omega)
        clear c0 hcx hfx J2 J3 Fj LPj L0
        refine wp_region_held_drew (S := fun w' => w'.cell? ⟨bk, 0, none⟩ = some (.int .i64 (k : Int))) (by kernel_rfl) g0 (fun hHeld => ?_)
        generalize wr.drew = V0 at *
        refine wpAnyH_take (i := 0) (v := .int .i64 (k : Int)) rfl (by kernel_rfl) (by kernel_rfl) (by kernel_rfl) (fun _ _ _ h => h) (Or.inl ⟨by rfl, by intro w' hS; go_simp⟩) hHeld ?_
        simp only [Act.put, List.getElem_toArray, List.getElem_cons_succ, List.getElem_cons_zero, List.setIfInBounds_toArray, List.set_cons_zero, List.set_cons_succ]
        refine wpAnyH_take (i := 1) (v := .int .i64 (q : Int)) rfl (by kernel_rfl) (by kernel_rfl) (by kernel_rfl) (fun _ _ _ h => h) (Or.inl ⟨by rfl, by intro w' hS; go_simp⟩) hHeld ?_
        simp only [Act.put, List.getElem_toArray, List.getElem_cons_succ, List.getElem_cons_zero, List.setIfInBounds_toArray, List.set_cons_zero, List.set_cons_succ]
        refine wpAnyH_take (i := 2) (v := .pointer (some ⟨w.heap.size + 1, q, none⟩)) rfl (by kernel_rfl) (by kernel_rfl) (by kernel_rfl) (fun _ _ _ h => h) (Or.inl ⟨by rfl, by intro w' hS; go_simp⟩) hHeld ?_
        simp only [Act.put, List.getElem_toArray, List.getElem_cons_succ, List.getElem_cons_zero, List.setIfInBounds_toArray, List.set_cons_zero, List.set_cons_succ]
        refine wpAnyH_take (i := 4) (v := .int .i64 (k : Int)) rfl (by kernel_rfl) (by kernel_rfl) (by kernel_rfl) (fun _ _ _ h => h) (Or.inl ⟨by rfl, by intro w' hS; go_simp⟩) hHeld ?_
        simp only [Act.put, List.getElem_toArray, List.getElem_cons_succ, List.getElem_cons_zero, List.setIfInBounds_toArray, List.set_cons_zero, List.set_cons_succ]
        refine wpAnyH_take (i := 5) (v := .int .i64 (r : Int)) rfl (by kernel_rfl) (by kernel_rfl) (by kernel_rfl) (fun _ _ _ h => h) (Or.inl ⟨by rfl, by intro w' hS; go_simp⟩) hHeld ?_
        simp only [Act.put, List.getElem_toArray, List.getElem_cons_succ, List.getElem_cons_zero, List.setIfInBounds_toArray, List.set_cons_zero, List.set_cons_succ]
        refine wpAnyH_take (i := 6) (v := .int .u64 (p : Int)) rfl (by kernel_rfl) (by kernel_rfl) (by kernel_rfl) (fun _ _ _ h => h) (Or.inl ⟨by rfl, by intro w' hS; go_simp⟩) hHeld ?_
        simp only [Act.put, List.getElem_toArray, List.getElem_cons_succ, List.getElem_cons_zero, List.setIfInBounds_toArray, List.set_cons_zero, List.set_cons_succ]
        refine wpAnyH_take (i := 7) (v := .int .u64 (p1 : Int)) rfl (by kernel_rfl) (by kernel_rfl) (by kernel_rfl) (fun _ _ _ h => h) (Or.inl ⟨by rfl, by intro w' hS; go_simp⟩) hHeld ?_
        simp only [Act.put, List.getElem_toArray, List.getElem_cons_succ, List.getElem_cons_zero, List.setIfInBounds_toArray, List.set_cons_zero, List.set_cons_succ]
        refine wpAnyH_ready (rs := [3]) (by kernel_rfl) (by simp) (AllReadyH.cons rfl (fun K hK => ?_) AllReadyH.nil)
        go_simp
        refine hK.out _ _ hHeld (fun hHeld1 => ?_)
        clear hK K
        try simp only [Act.put, List.getElem_toArray, List.getElem_cons_succ, List.getElem_cons_zero, List.setIfInBounds_toArray, List.set_cons_zero, List.set_cons_succ]
        refine wpAnyH_take (i := 8) (v := .int .u64 y) rfl (by kernel_rfl) (by kernel_rfl) (by kernel_rfl) (fun _ _ _ h => h) (Or.inl ⟨by rfl, by intro w' hS; go_simp⟩) hHeld1 ?_
        simp only [Act.put, List.getElem_toArray, List.getElem_cons_succ, List.getElem_cons_zero, List.setIfInBounds_toArray, List.set_cons_zero, List.set_cons_succ]
        refine wpAnyH_take (i := 9) (v := .pointer (some ⟨w.heap.size + 1, q, none⟩)) rfl (by kernel_rfl) (by kernel_rfl) (by kernel_rfl) (fun _ _ _ h => h) (Or.inl ⟨by rfl, by intro w' hS; go_simp⟩) hHeld1 ?_
        simp only [Act.put, List.getElem_toArray, List.getElem_cons_succ, List.getElem_cons_zero, List.setIfInBounds_toArray, List.set_cons_zero, List.set_cons_succ]
        refine wpAnyH_ready (rs := [10]) (by kernel_rfl) (by simp) (AllReadyH.cons rfl (fun K hK => ?_) AllReadyH.nil)
        go_simp
        have HP' := Lib.hid (G3.put q y)
        have G2' := G2.far (p := ⟨w.heap.size + 1, q, none⟩) (by simp) (.int .u64 y)
        have FG' := FG.far (g := w.heap.size + 1) (.inr ⟨by omega, by omega, by omega⟩) q (.int .u64 y)
        have LPG' := LPG.over (LatP.setc V0 (w.heap.size + 1) q (.int .u64 y)) (by omega)
        refine hK.out _ _ (cell_off2 (by omega) _ g0) (fun hHeld2 => ?_)
        clear hK K
        try simp only [Act.put, List.getElem_toArray, List.getElem_cons_succ, List.getElem_cons_zero, List.setIfInBounds_toArray, List.set_cons_zero, List.set_cons_succ]
        refine wpAnyH_done (by kernel_rfl) ?_ _
        have HP := HP'.out
        obtain ⟨V1, hV1⟩ : ∃ V, V0.setCell ⟨w.heap.size + 1, q, none⟩ (.int .u64 y) = V := ⟨_, rfl⟩
        rw [hV1] at HP G2' FG' LPG' ⊢
        clear hV1 gx gf g0 G2 G3 FG LPG HP'
        have hol2 : ((os j).set q y).length = 8 := by rw [List.length_set]; exact hol
        obtain ⟨u, hu⟩ : ∃ u : W8, (os j).set q y = u.list := ⟨W8.ofList ((os j).set q y), (of_list8 hol2).symm⟩
        have hu2 : Hid (u = W8.of z) := by show u = _; rw [← HS.out, hu]; rfl
        rw [hu] at HP
        have D3 : Blk V1 (w.heap.size + 1) 44 #[.int .u64 u.a0, .int .u64 u.a1, .int .u64 u.a2, .int .u64 u.a3, .int .u64 u.a4, .int .u64 u.a5, .int .u64 u.a6, .int .u64 u.a7] := HP
        have D2 : Blk V1 w.heap.size 44 #[.int .u64 W8.zero.a0, .int .u64 W8.zero.a1, .int .u64 W8.zero.a2, .int .u64 W8.zero.a3, .int .u64 W8.zero.a4, .int .u64 W8.zero.a5, .int .u64 W8.zero.a6, .int .u64 W8.zero.a7] := G2'
        have KB := FG'.kb
        have hn := FG'.n1
        clear HP G2' FG' hol hol2 hu HS hq hr hp hp1 hy
        have c10 := D3.cell 0
        have c11 := D3.cell 1
        have c12 := D3.cell 2
        have c13 := D3.cell 3
        have c14 := D3.cell 4
        have c15 := D3.cell 5
        have c16 := D3.cell 6
        have c17 := D3.cell 7
        have d0 := D2.cell 0
        have d1 := D2.cell 1
        have d2 := D2.cell 2
        have d3 := D2.cell 3
        have d4 := D2.cell 4
        have d5 := D2.cell 5
        have d6 := D2.cell 6
        have d7 := D2.cell 7
        have f0 := D2.frozen 0
        have f1 := D2.frozen 1
        have f2 := D2.frozen 2
        have f3 := D2.frozen 3
        have f4 := D2.frozen 4
        have f5 := D2.frozen 5
        have f6 := D2.frozen 6
        have f7 := D2.frozen 7
        have hlt2 := D2.lt
        go_wp2
        refine name_put8 (Q := fun W => bodyPost _ _ _ _ _ W) D2 ?_
        intro W9 E2 l9
        clear d0 d1 d2 d3 d4 d5 d6 d7
        have e0 := E2.cell 0
        have e1 := E2.cell 1
        have e2 := E2.cell 2
        have e3 := E2.cell 3
        have e4 := E2.cell 4
        have e5 := E2.cell 5
        have e6 := E2.cell 6
        have e7 := E2.cell 7
        refine bodyPost_ret (v := .agg #[.int .u64 u.a0, .int .u64 u.a1, .int .u64 u.a2, .int .u64 u.a3, .int .u64 u.a4, .int .u64 u.a5, .int .u64 u.a6, .int .u64 u.a7]) (by simp [results, Try.results54, go_sem, e0, e1, e2, e3, e4, e5, e6, e7]) rfl ?_
        refine ⟨by rw [hu2.out], KB.keepP l9 (by omega), LPG'.over l9 (Nat.le_refl _)⟩
end Go.Proofs.Ytogkkhaepfablaa

/- Chance: a number below n. -/
namespace Go.Proofs.Ytogkkhaepfablaa
open Go.RowKit Go.Shelf
set_option linter.unusedSimpArgs false

theorem candU_fn (b : Nat) (w : World) : Calls Try.prog 44 #[.func (.func 31) #[.pointer (some ⟨b, 0, none⟩)] #[]] w (fun e w' => e = .returned (.func (.func 74) #[] #[.pointer (some ⟨w.heap.size, 0, none⟩)]) ∧ Lat w w' ∧
    Blk w' w.heap.size 73 #[.func (.func 31) #[.pointer (some ⟨b, 0, none⟩)] #[]]) := by
  go_enter Try.func44, Try.ntmps44
  go_wp2
  refine name1 (Q := fun W => bodyPost _ _ _ _ _ W) ?_
  intro W hl hs k1
  go_ret
  exact ⟨rfl, hl, k1⟩

/-- What holds while the candidates are drawn. -/
structure BelF (w W : World) (b bt D : Nat) (o : Obj) (s n rest : Nat) (r e : Int) : Prop where
  l : W.heap[D + 1]? = some o
  d : W.heap[D]? = some (.deferred (some []))
  kb : Blk W b 72 #[.int .u64 (s : Nat)]
  k3 : Blk W w.heap.size 22 #[.int .u64 (n : Nat)]
  k4 : Blk W (w.heap.size + 1) 22 #[.int .u64 r]
  k5 : Blk W (w.heap.size + 1 + 1) 29 #[.int .i64 e]
  k7 : Blk W (w.heap.size + 1 + 1 + 1) 22 #[.int .u64 (rest : Nat)]
  kt : Blk W bt 73 #[.func (.func 31) #[.pointer (some ⟨b, 0, none⟩)] #[]]
  lp : LatP (· = b) w W
  hb : b < w.heap.size
  ht : w.heap.size + 4 ≤ bt
  hD : bt < D
theorem BelF.step {w W W' : World} {b bt D : Nat} {o : Obj} {s s' n rest : Nat} {r e : Int} (h : BelF w W b bt D o s n rest r e) (kb : Blk W' b 72 #[.int .u64 (s' : Nat)]) (hl : LatP (· = b) W W') : BelF w W' b bt D o s' n rest r e := by
  obtain ⟨h1, h2, _, k3, k4, k5, k7, kt, lp, hb, ht, hD⟩ := h
  exact ⟨hl.at_ h1 (by omega), hl.at_ h2 (by omega), kb, k3.keepP hl (by omega), k4.keepP hl (by omega), k5.keepP hl (by omega), k7.keepP hl (by omega), kt.keepP hl (by omega), lp.trans hl, hb, ht, hD⟩
theorem BelF.put {w W : World} {b bt D : Nat} {o : Obj} {s n rest : Nat} {r e : Int} (h : BelF w W b bt D o s n rest r e) (o' : Obj) : BelF w (W.putObj (D + 1) o') b bt D o' s n rest r e := by
  obtain ⟨h1, h2, kb, k3, k4, k5, k7, kt, lp, hb, ht, hD⟩ := h
  have hl := lat_putObj (o := o') (heap_lt h1)
  exact ⟨putObj_at (heap_lt h1), hl.at_ h2 (by omega), kb.keepP hl (by omega), k3.keepP hl (by omega), k4.keepP hl (by omega), k5.keepP hl (by omega), k7.keepP hl (by omega), kt.keepP hl (by omega),
    ⟨hl.os.trans lp.os, hl.tape.trans lp.tape, hl.output.trans lp.output, Nat.le_trans lp.size hl.size, fun k hk hm => (hl.block k (Nat.lt_of_lt_of_le hk lp.size) (by omega)).trans (lp.block k hk hm)⟩, hb, ht, hD⟩
theorem BelF.set {w W : World} {b bt D : Nat} {o : Obj} {s n rest : Nat} {r e : Int} (h : BelF w W b bt D o s n rest r e) (r' e' : Int) :
    BelF w ((W.setCell ⟨w.heap.size + 1, 0, none⟩ (.int .u64 r')).setCell ⟨w.heap.size + 1 + 1, 0, none⟩ (.int .i64 e')) b bt D o s n rest r' e' := by
  obtain ⟨h1, h2, kb, k3, k4, k5, k7, kt, lp, hb, ht, hD⟩ := h
  refine name_set (Q := fun W => BelF w (W.setCell ⟨w.heap.size + 1 + 1, 0, none⟩ (.int .i64 e')) b bt D o s n rest r' e') k4 ?_
  intro W1 j4 _ _ l1
  have j5 := k5.keepP l1 (by omega)
  refine name_set (Q := fun W => BelF w W b bt D o s n rest r' e') j5 ?_
  intro W2 i5 _ _ l2
  have i4 := j4.keepP l2 (by omega)
  have hl : LatP (fun k => k = w.heap.size + 1 ∨ k = w.heap.size + 1 + 1) W W2 := (l1.wider (fun k h => .inl h)).trans (l2.wider (fun k h => .inr h))
  exact ⟨hl.at_ h1 (by omega), hl.at_ h2 (by omega), kb.keepP hl (by omega), k3.keepP hl (by omega), i4, i5, k7.keepP hl (by omega), kt.keepP hl (by omega),
    ⟨hl.os.trans lp.os, hl.tape.trans lp.tape, hl.output.trans lp.output, Nat.le_trans lp.size hl.size, fun k hk hm => (hl.block k (Nat.lt_of_lt_of_le hk lp.size) (by omega)).trans (lp.block k hk hm)⟩, hb, ht, hD⟩

theorem BelF.out {w W : World} {b bt D : Nat} {o : Obj} {s n rest : Nat} {r e : Int} (h : BelF w W b bt D o s n rest r e) :
    (W.putObj D (.deferred none)).cell? ⟨w.heap.size + 1, 0, none⟩ = some (.int .u64 r) ∧ (W.putObj D (.deferred none)).cell? ⟨w.heap.size + 1 + 1, 0, none⟩ = some (.int .i64 e) ∧
    Blk (W.putObj D (.deferred none)) b 72 #[.int .u64 (s : Nat)] ∧ LatP (· = b) w (W.putObj D (.deferred none)) := by
  obtain ⟨h1, h2, kb, k3, k4, k5, k7, kt, lp, hb, ht, hD⟩ := h
  have hl := lat_putObj (o := .deferred none) (heap_lt h2)
  exact ⟨(k4.keepP hl (by omega)).cell 0, (k5.keepP hl (by omega)).cell 0, kb.keepP hl (by omega),
    ⟨hl.os.trans lp.os, hl.tape.trans lp.tape, hl.output.trans lp.output, Nat.le_trans lp.size hl.size, fun k hk hm => (hl.block k (Nat.lt_of_lt_of_le hk lp.size) (by omega)).trans (lp.block k hk hm)⟩⟩
/-- The numbers of a call. -/
structure BelN (n m rest q lim : Nat) : Prop where
  e0 : ¬ (n : Int) = 0
  e1 : IntKind.u64.wrap (-(n : Int)) = (m : Int)
  e2 : (m : Int).tmod n = (rest : Int)
  e3 : IntKind.u64.wrap (-(rest : Int)) = (q : Int)
  e4 : IntKind.u64.wrap ((q : Int) - 1) = (lim : Int)
/-- What the call leaves: the answer, and the state. -/
def BelPost (b : Nat) (w : World) (r : Int) (e : Int) (t : Nat) (en : Ending) (w' : World) : Prop :=
  en = .returned (.tuple #[.int .u64 r, .int .i64 e]) ∧ Blk w' b 72 #[.int .u64 (t : Nat)] ∧ LatP (· = b) w w'

theorem zip_one (t : Tmp) (x : Value) : (#[t] : Array Tmp).zip #[x] = #[(t, x)] := by
  apply Array.ext'
  rw [Array.toList_zip]
  rfl

set_option maxRecDepth 100000 in
set_option maxHeartbeats 8000000 in
theorem below_in (b s n m rest q lim : Nat) (N : BelN n m rest q lim) (st : Nat → Nat) (xs : Nat → Nat) (h0 : st 0 = s) (HN : ∀ j, NextC (st j) (xs j) (st (j + 1))) (ok : Nat → Bool)
    (hok : ∀ j, ok (xs j) = true → (xs j : Int) ≤ (lim : Int)) (hno : ∀ j, ok (xs j) = false → ¬ (xs j : Int) ≤ (lim : Int) ∧ ¬ (rest : Int) = 0) (w : World) (hb : Blk w b 72 #[.int .u64 (s : Nat)]) :
    Calls Try.prog 29 #[.pointer (some ⟨b, 0, none⟩), .int .u64 (n : Nat)] w (fun e w' =>
      (∃ j, j < 200 ∧ (∀ i, i < j → ok (xs i) = false) ∧ ok (xs j) = true ∧ BelPost b w ((xs j : Int) % (n : Int)) 0 (st (j + 1)) e w') ∨ ((∀ i, i < 200 → ok (xs i) = false) ∧ BelPost b w 0 9 (st 200) e w')) := by
  obtain ⟨e0, e1, e2, e3, e4⟩ := N
  have hlt := hb.lt
  refine calls_of_marks Try.func29 rfl ?_
  simp only [Try.ntmps29, List.size_toArray, List.length_cons, List.length_nil, Nat.reduceAdd, Nat.reduceSub, Array.replicate_succ, Array.replicate_zero, List.push_toArray, List.append_toArray, List.nil_append, List.cons_append]
  go_wp2_with fail
  refine name4 (Q := fun W => Calls _ _ _ W _) ?_
  intro W4 l4 hs4 k3 k4 k5 k7
  refine (candU_fn b W4).mono ?_
  rintro e W5 ⟨rfl, l5, kt⟩
  have hbt : w.heap.size + 4 ≤ W4.heap.size := by omega
  obtain ⟨bt, ebt⟩ : ∃ z, W4.heap.size = z := ⟨_, rfl⟩
  rw [ebt] at kt hbt ⊢
  replace k3 := k3.later l5
  replace k4 := k4.later l5
  replace k5 := k5.later l5
  replace k7 := k7.later l5
  have kb := (hb.later l4).later l5
  have L5 := l4.trans l5
  have hbD := kt.lt
  clear l4 l5 hs4 ebt
  go_wp2_with fail
  rename_i KN hKN
  refine rangeFunc_ret (gf := 74) (lb := #[.pointer (some ⟨bt, 0, none⟩)]) (by rfl) (enters_of Try.func74 (by kernel_rfl) rfl) ?_
  intro fn W1 hW1
  generalize hrec : recOf _ fn _ _ _ _ = rec at hW1 ⊢
  obtain ⟨D, hD⟩ : ∃ z, W5.heap.size = z := ⟨_, rfl⟩
  have hl1 : Lat W5 W1 := by rw [hW1]; exact (Lat.alloc _ _).trans (Lat.alloc _ _)
  have hL1 : W1.heap[W5.heap.size + 1]? = some (.loop (rec .ready none)) := by
    rw [hW1]; have := World.alloc_heap_new (W5.alloc (.deferred (some []))) (.loop (rec .ready none)); rwa [World.size_alloc] at this
  have hK1 : W1.heap[W5.heap.size]? = some (.deferred (some [])) := by
    rw [hW1]; exact (Below.heap_alloc _ _ _ (by simp)).trans (World.alloc_heap_new W5 _)
  clear hW1
  rw [hD] at hL1 hK1 hbD ⊢
  have F1 : BelF w W1 b bt D (.loop (rec .ready none)) s n rest 0 0 := ⟨hL1, hK1, kb.later hl1, k3.later hl1, k4.later hl1, k5.later hl1, k7.later hl1, kt.later hl1, (L5.trans hl1).p _, hlt, hbt, hbD⟩
  clear hL1 hK1 hl1 kb k3 k4 k5 k7 kt L5 hD hb hbt hbD
  have hY : YieldsC (D + 1) 200 (fun j W => (∀ i, i < j → ok (xs i) = false) ∧ BelF w W b bt D (.loop (rec .ready none)) (st j) n rest 0 0)
      (fun j v W => v = .int .u64 (xs j : Nat) ∧ (∀ i, i < j → ok (xs i) = false) ∧ BelF w W b bt D (.loop (rec .ready none)) (st (j + 1)) n rest 0 0)
      (fun W => ∃ j, j < 200 ∧ (∀ i, i < j → ok (xs i) = false) ∧ ok (xs j) = true ∧ BelF w W b bt D (.loop (rec .done (some .ret))) (st (j + 1)) n rest ((xs j : Int) % (n : Int)) 0) := by
    rintro j v W hj ⟨rfl, hnone, F⟩
    have q1 := F.l
    rw [← hrec] at q1
    refine round_ret (R := fun bb W' => (bb = true ∧ ((∀ i, i < j + 1 → ok (xs i) = false) ∧ BelF w W' b bt D (.loop (rec .ready none)) (st (j + 1)) n rest 0 0)) ∨
      (bb = false ∧ ∃ j, j < 200 ∧ (∀ i, i < j → ok (xs i) = false) ∧ ok (xs j) = true ∧ BelF w W' b bt D (.loop (rec .done (some .ret))) (st (j + 1)) n rest ((xs j : Int) % (n : Int)) 0)) q1 rfl ?_
    rw [hrec]
    rw [zip_one]
    refine round_region (fun ⟨_, _, h⟩ => h) rfl ?_
    simp only [List.size_toArray, List.length_cons, List.length_nil, List.foldl_toArray, List.foldl_cons, List.foldl_nil, List.setIfInBounds_toArray, List.set_cons_zero, List.set_cons_succ]
    go_wp2
    refine ⟨F.l, ?_⟩
    have Fb := F.put (.loop (rec .busy none))
    obtain ⟨Wb, hWb⟩ : ∃ Wb, W.putObj (D + 1) (.loop (rec .busy none)) = Wb := ⟨_, rfl⟩
    rw [hWb] at Fb ⊢
    clear hWb F q1
    have d7 : Wb.cell? ⟨w.heap.size + 1 + 1 + 1, 0, none⟩ = some (.int .u64 (rest : Int)) := Fb.k7.cell 0
    have d3 : Wb.cell? ⟨w.heap.size, 0, none⟩ = some (.int .u64 (n : Int)) := Fb.k3.cell 0
    have d4 : Wb.cell? ⟨w.heap.size + 1, 0, none⟩ = some (.int .u64 0) := Fb.k4.cell 0
    have d5 : Wb.cell? ⟨w.heap.size + 1 + 1, 0, none⟩ = some (.int .i64 0) := Fb.k5.cell 0
    have f4 := Fb.k4.frozen 0
    have f5 := Fb.k5.frozen 0
    refine wpIn_block ?_
    refine wpIn_seq ?_
    cases hc : ok (xs j) with
    | true =>
      have hle := hok j hc
      have HP := Lib.hid (show j < 200 ∧ (∀ i, i < j → ok (xs i) = false) ∧ ok (xs j) = true from ⟨hj, hnone, hc⟩)
      have HS := Lib.hid (Fb.set ((xs j : Int) % (n : Int)) 0)
      clear hnone hok hno hc hj Fb
      refine round_region (fun ⟨_, _, h⟩ => h) rfl ?_
      go_wp2
      refine wpIn_cond_true rfl ?_
      refine wpIn_seq ?_
      refine round_region (fun ⟨_, _, h⟩ => h) rfl ?_
      go_wp2
      refine wpIn_ret ?_
      exact ⟨HS.out.l, .inr ⟨rfl, j, HP.out.1, HP.out.2.1, HP.out.2.2, HS.out.put _⟩⟩
    | false =>
      have hle := (hno j hc).1
      have hr0 := (hno j hc).2
      have hN : ∀ i, i < j + 1 → ok (xs i) = false := fun i hi => by
        rcases Nat.lt_or_ge i j with h | h
        · exact hnone i h
        · obtain rfl : i = j := by omega
          exact hc
      have HN1 := Lib.hid hN
      have HE1 := Lib.hid Fb.l
      have HE2 := Lib.hid (Fb.put (.loop (rec .ready none)))
      clear hN
      clear hnone hok hno hc hj Fb
      refine round_region (fun ⟨_, _, h⟩ => h) rfl ?_
      go_wp2
      exact wpIn_cond_false (by show Value.bool (decide (xs j ≤ lim) || (rest : Int) == 0) = Value.bool false; have h1 : decide (xs j ≤ lim) = false := decide_eq_false (by omega); have h2 : ((rest : Int) == 0) = false := (by simp; omega); rw [h1, h2]; rfl) (wpIn_skip ⟨HE1.out, .inl ⟨rfl, HN1.out, HE2.out⟩⟩)
  refine (candU_iter (D + 1) bt b _ _ _ (fun j W h => h.2.kt) (fun j W hj h => ?_) hY W1 ⟨fun i h => absurd h (by omega), by rw [h0]; exact F1⟩).mono ?_
  · refine (HN j b W h.2.kb).mono ?_
    rintro e W' ⟨rfl, kb, lp, _⟩
    exact ⟨_, rfl, rfl, h.1, h.2.step kb lp⟩
  · rintro e W9 ⟨v, rfl, h9⟩
    clear hY F1 hok hno HN h0 e0 e1 e2 e3 e4 hrec
    rcases h9 with ⟨hn, F⟩ | ⟨j, hj, hn, hc, F⟩
    · refine ⟨v, rfl, .inl ⟨F.l, ?_⟩⟩
      have FZ := F.put (.loop (rec .exhausted none))
      obtain ⟨Z, hZ⟩ : ∃ Z, W9.putObj (D + 1) (.loop (rec .exhausted none)) = Z := ⟨_, rfl⟩
      rw [hZ] at FZ ⊢
      clear hZ F
      have d4 : Z.cell? ⟨w.heap.size + 1, 0, none⟩ = some (.int .u64 0) := FZ.k4.cell 0
      have d5 : Z.cell? ⟨w.heap.size + 1 + 1, 0, none⟩ = some (.int .i64 0) := FZ.k5.cell 0
      have f4 := FZ.k4.frozen 0
      have f5 := FZ.k5.frozen 0
      have HF := Lib.hid (FZ.set 0 9)
      have HN := Lib.hid hn
      clear FZ hn
      refine hKN _ _ ?_
      go_wp2
      obtain ⟨o1, o2, o3, o4⟩ := HF.out.out
      refine leave_mark HF.out.d (v := .tuple #[.int .u64 0, .int .i64 9]) (by simp [results, Try.results29, go_sem, o1, o2]) ?_
      exact .inr ⟨HN.out, rfl, o3, o4⟩
    · refine ⟨v, rfl, .inr ⟨F.l, ?_⟩⟩
      have FZ := F.put (.loop (rec .exhausted (some .ret)))
      obtain ⟨o1, o2, o3, o4⟩ := FZ.out
      refine leave_mark FZ.d (v := .tuple #[.int .u64 ((xs j : Int) % (n : Int)), .int .i64 0]) (by simp [results, Try.results29, go_sem, o1, o2]) ?_
      exact .inl ⟨j, hj, hn, hc, rfl, o3, o4⟩

end Go.Proofs.Ytogkkhaepfablaa
