/- Several texts in one: Seats, RunR. -/
import Derived.Test.YteocdndanehpnaaGreatH17
import Derived.RangeFuncGives
import Derived.LoopNIn
import Derived.LoopIn
import Derived.TacticsInMore
import Derived.Shelf.Abstract
namespace Go.Proofs.YteocdndanehpnaaGreat
open Go.RowKit Go.Shelf
set_option linter.unusedSimpArgs false
def TiedIs (G : Nat → Nat) (l : List Nat) (tv : Value) (W : World) : Prop := ∃ A c, tv = .slice A l.length c ∧ Row W A l.length (ptrs G l)
def Small (C : List Nat) (S : List Int) (left : Int) : Prop := ∀ i ∈ C, 0 ≤ atI S i ∧ atI S i + left ≤ 1000 ∧ i < S.length
theorem small_bump {C : List Nat} {S : List Int} {left : Int} {i : Nat} (h : Small C S left) (hl : i < S.length) : Small C (S.set i (atI S i + 1)) (left - 1) := by
 intro j hj
 obtain ⟨h1, h2, h3⟩ := h j hj
 refine ⟨?_, ?_, by simpa using h3⟩
 ·by_cases e : i = j
  ·subst e; rw [atI_set_same hl]; omega
  ·rw [atI_set_ne e]; exact h1
 ·by_cases e : i = j
  ·subst e; rw [atI_set_same hl]; omega
  ·rw [atI_set_ne e]; omega
def SeatsPost (s : Site) (m : Int) (R : Int → Int → List Value → Prop) (P : List Int) (A : Aw) (I : List Int → List Nat → Option Nat → World → Prop) (J : List Int → List Nat → World → Prop) (e : Ending) (W : World) : Prop :=
 (∃ v, e = .returned v) ∧ ∃ tv lv, Mem s m R P A.seats lv tv W ∧ TiedIs s.G A.tied tv W ∧ (A.tied ≠ [] → lv = A.left) ∧ ((∃ g, I A.seats A.order g W) ∨ J A.seats A.order W)
def Yields (s : Site) (R : Int → Int → List Value → Prop) (P : List Int) (L0 : Int) (l : Nat) (theirs : Nat → Prop) (I : List Int → List Nat → Option Nat → World → Prop) (J : List Int → List Nat → World → Prop) : Prop :=
 ∀ (S : List Int) (o : List Nat) (i : Nat) (g : Option Nat) (W : World), i ∈ s.C → i < S.length → I S o g W → Cl R W (s.G i) i (atI P i) (atI S i + 1) → ((o.length : Int) + 1 ≤ L0) →
  YieldAt Fence.wide 2 Tryz.prog l #[pt (s.G i)] W (fun e W' => ∃ b, e = .returned (.bool b) ∧ LatP (fun k => theirs k ∨ some k = g) W W' ∧
   (b = true → ∃ g', I (S.set i (atI S i + 1)) (o ++ [i]) g' W') ∧ (b = false → J (S.set i (atI S i + 1)) (o ++ [i]) W' ∧ L0 ≤ (o.length : Int) + 1))
set_option maxRecDepth 100000 in
set_option maxHeartbeats 4000000 in
theorem seats_iter {s : Site} {m : Int} {R : Int → Int → List Value → Prop} {f : Int → Int → Int → Int → Int} {P : List Int} {A : Aw} (hW : RankWay m R f) (hA : s.Apart) (hC : s.C ≠ []) (hn : s.n ≤ 1000)
  (hP : ∀ i ∈ s.C, 1 ≤ atI P i ∧ atI P i ≤ 1000000000) (L0 : Int) (_hL0 : L0 ≤ 1000) (l : Nat) (theirs : Nat → Prop) (I : List Int → List Nat → Option Nat → World → Prop) (J : List Int → List Nat → World → Prop)
  (hI : ∀ S o g W W', I S o g W → LatP s.mine W W' → I S o g W') (hg : ∀ S o g W, I S o g W → ∀ k, g = some k → ¬ s.mine k ∧ k < W.heap.size ∧ ∃ cs, Blk W k 3 cs) (hth : ∀ k, theirs k → ¬ s.mine k) (hY : Yields s R P L0 l theirs I J)
  (S0 : List Int) (W : World) (htw : ∀ k, theirs k → k < W.heap.size) (hS0 : Small s.C S0 L0) (hM0 : Mem s m R P S0 L0 (.slice none 0 0) W) (hG0 : Goes f P s.C A S0 L0 []) (g0 : Option Nat) (hI0 : I S0 [] g0 W) (h0 : 0 ≤ L0) :
  Calls Tryz.prog 81 #[.func (.yield l) #[] #[], pt s.br, pt s.bt] W (SeatsPost s m R P A I J) := by
 have HI := Lib.hid hI
 have HP := Lib.hid hP
 have HG := Lib.hid hg
 have HTH := Lib.hid hth
 have HTW := Lib.hid htw
 clear hI hP hg hth htw
 go_enter Tryz.func81, Tryz.ntmps81
 go_wp2
 go_loopw [4] (fun _ wr => ∃ S left o g, Mem s m R P S left (.slice none 0 0) wr ∧ I S o g wr ∧ Goes f P s.C A S left o ∧ 0 ≤ left ∧ Hid (left = L0 - o.length) ∧ Small s.C S left ∧ W.heap.size ≤ wr.heap.size) (fun _ wr => leftOf s.rc wr)
 case atStart => exact ⟨S0, L0, [], g0, hM0, hI0, hG0, h0, by show _ = _; simp, hS0, Nat.le_refl _⟩
 case round =>
  obtain ⟨S, left, o, g, hM, hI1, hG, hl0, hlo, hS, hWr⟩ := hrel
  clear hS0 hM0 hG0 hI0
  have c1 := hM.br.cell 0
  have c2 := hM.rc.cell 2
  have c3 := hM.rc.cell 1
  by_cases h0 : 0 < left
  ·go_wp2_with fail
   have HC := best_any (vs f P S) s.G s.C s.A s.n s.c 83 wr hM.row hn (enters_of Tryz.func83 (by kernel_rfl) rfl) (fun i j w' hi hj hl => cmpCl hW (s.G i) (s.G j) i (atI P i) (atI S i) j (atI P j) (atI S j) w' ((hM.cl i hi).later hl) ((hM.cl j hj).later hl))
   have hb0 := List.length_pos_iff.2 (bestL_ne (c := vs f P S) hC)
   have hsub := Lib.hid (bestL_sub (vs f P S) s.C)
   have hbl : (bestL (vs f P S) s.C).length ≤ 1000 := by
    have := hsub.out.length_le
    have h2 := hM.row.1
    rw [ptrs_length] at h2
    omega
   refine HC.mono ?_
   clear HC
   rintro e w1 ⟨A2, c2', rfl, hrow2, hcap2, l1, hfresh⟩
   have hM1 := hM.later l1
   have HLW := Lib.hid (leftOf_of hM.rc)
   have htd := hM.td.lt
   have hI2 := HI.out _ _ _ _ _ hI1 (l1.p _)
   have hW1 := l1.size
   have HQ : Hid (∀ a, A2 = some a → ¬ theirs a.block ∧ ¬ s.mine a.block ∧ a.block < w1.heap.size) := by
    intro a e
    have h1 := (hfresh a e).1
    have h2 : a.block < w1.heap.size := by
     obtain ⟨a', e', h, _⟩ := hrow2.2 hb0
     rw [e] at e'; cases e'; exact h
    refine ⟨fun ht => ?_, fun hm => ?_, h2⟩
    ·have := HTW.out _ ht; omega
    ·rcases hm with hm | hm | hm | hm | ⟨i, hi, hm⟩ | ⟨a', ea, hm⟩
     ·have := hM.br.lt; omega
     ·have := hM.bt.lt; omega
     ·have := hM.rc.lt; omega
     ·omega
     ·have := (hM.cl i hi).lt; omega
     ·have hr := hM.row.2
      by_cases hn0 : 0 < s.n
      ·obtain ⟨a'', e'', h, _⟩ := hr hn0
       rw [ea] at e''; cases e''; omega
      ·have h3 := hM.row.1
       rw [ptrs_length] at h3
       have := List.length_pos_iff.2 hC
       omega
   clear hM hI1 c1 c2 c3
   by_cases ht : left < (bestL (vs f P S) s.C).length
   ·have hAe := hG.tie h0 ht
    have HA' := Lib.hid hAe
    have HR := Lib.hid hrow2
    obtain ⟨b, hb⟩ : ∃ b, bestL (vs f P S) s.C = b := ⟨_, rfl⟩
    rw [hb] at ht HA' HR hb0 hbl hcap2 ⊢
    have HF := Lib.hid hfresh
    clear hAe hrow2 hsub hb hG hW hfresh
    have c1 := hM1.br.cell 0
    have c2 := hM1.rc.cell 2
    have c4 := hM1.bt.cell 0
    have c5 := hM1.td.cell 0
    have f5 := hM1.td.frozen 0
    have hbi : (left : Int) < (b.length : Int) := ht
    go_wp2
    refine name_set (Q := fun W => bodyPost _ _ _ _ _ W) hM1.td ?_
    intro w2 k2 hk2 hs2 hl2
    refine bodyPost_ret (results_none rfl _ _ _) rfl ?_
    refine ⟨⟨_, rfl⟩, .slice A2 b.length c2', left, ?_, ?_, ?_, .inl ⟨g, ?_⟩⟩
    ·rw [HA'.out]; exact hM1.tied_set hA k2 hk2 (by omega)
    ·rw [HA'.out]
     refine ⟨A2, c2', rfl, HR.out.kept (by omega) (fun a e => hk2 _ (by have := (HF.out a e).1; omega))⟩
    ·intro _; rw [HA'.out]
    ·rw [HA'.out]
     exact HI.out _ _ _ _ _ hI2 (hl2.wider (fun k e => .inr (.inr (.inr (.inl e)))))
   ·have HGs := Lib.hid (hG.step hC h0 ht)
    obtain ⟨b, hb⟩ : ∃ b, bestL (vs f P S) s.C = b := ⟨_, rfl⟩
    rw [hb] at ht hb0 hbl hcap2 HGs hrow2 hsub ⊢
    have HQ2 : Hid (∀ a, A2 = some a → ∃ cs, Blk w1 a.block 120 cs) := fun a e => (hfresh a e).2
    clear hb hG hfresh
    have c1 := hM1.br.cell 0
    have c2 := hM1.rc.cell 2
    have hbi : ¬ (left : Int) < (b.length : Int) := ht
    obtain ⟨wo, rfl⟩ : ∃ wo : World, wo = wr := ⟨_, rfl⟩
    go_wp2
    go_loopw [29] (fun i wx => ∃ (j : Nat) (g' : Option Nat), j ≤ b.length ∧ i = .int .i64 j ∧ Mem s m R P (bump S (b.take j)) (left - j) (.slice none 0 0) wx ∧ I (bump S (b.take j)) (o ++ b.take j) g' wx ∧ Small s.C (bump S (b.take j)) (left - j) ∧ Row wx A2 b.length (ptrs s.G b) ∧ Hid (∀ a, A2 = some a → ∃ cs, Blk wx a.block 120 cs) ∧ w1.heap.size ≤ wx.heap.size) (fun i _ => b.length - (intOf i).toNat)
    case atStart => exact ⟨0, g, Nat.zero_le _, rfl, by simpa [bump_nil] using hM1, by simpa [bump_nil] using hI2, by simpa [bump_nil] using hS, hrow2, HQ2.out, Nat.le_refl _⟩
    case round =>
     obtain ⟨j, g', hj, rfl, hMj, hIj, hSj, hrj, hgj, hwj⟩ := hrel
     clear c1 c2 hM1 hI2
     by_cases hlt : j < b.length
     ·obtain ⟨a, u, rfl, ha, hu, hcell⟩ := hrj.at hlt
      obtain ⟨i, hbi', rfl⟩ := ptrs_get hu
      have hiC := hsub.out.subset (List.mem_of_getElem? hbi')
      have hcx : wr.cell? (a.add j) = some (.pointer (some ⟨s.G i, 0, none⟩)) := hcell
      have HB := Lib.hid (bump_take (S := S) hbi')
      have HT : Hid (b.take (j + 1) = b.take j ++ [i]) := by
       show _ = _
       obtain ⟨hl, rfl⟩ := List.getElem?_eq_some_iff.1 hbi'
       rw [List.take_succ_eq_append_getElem hl]
      have HSm := hSj i hiC
      have HPi := HP.out i hiC
      have HLE : Hid (((b.take j).length : Int) = (j : Int)) := by show _ = _; rw [List.length_take]; omega
      obtain ⟨Sj, hSje⟩ : ∃ Sj, bump S (b.take j) = Sj := ⟨_, rfl⟩
      obtain ⟨oj, hoje⟩ : ∃ oj, o ++ b.take j = oj := ⟨_, rfl⟩
      rw [hSje] at hMj hIj hSj HSm HB
      rw [hoje] at hIj
      have HSJ := Lib.hid hSje
      have HOJ := Lib.hid hoje
      have HLJ := Lib.hid (leftOf_of hMj.rc)
      obtain ⟨lj, hlje⟩ : ∃ lj, left - (j : Int) = lj := ⟨_, rfl⟩
      rw [hlje] at hMj hSj HSm
      have hlj1 : 1 ≤ lj := by omega
      have hlj2 : lj ≤ 1000 := by have := hlo.out; omega
      have HLJ2 : Hid (lj = L0 - (oj.length : Int)) := by
       show _ = _
       rw [← HOJ.out, List.length_append]
       have := hlo.out; have := HLE.out
       omega
      have HLJE := Lib.hid hlje
      clear hSje hoje hlje hu hcell hbi' hl0 HLJ
      have c1 := hMj.br.cell 0
      have c2 := hMj.rc.cell 2
      have f2 := hMj.rc.frozen 2
      go_upto_region 8 with (fail)
      refine name_set (Q := fun W => Code.wp _ _ _ _ W) hMj.rc ?_
      intro w2 k2 hk2 hs2 hl2
      have hM2 : Mem s m R P Sj (lj - 1) (.slice none 0 0) w2 := hMj.left_set hA k2 hk2 (by omega)
      obtain ⟨T, hRT, kB⟩ := hM2.cl i hiC
      obtain ⟨p, hp⟩ : ∃ p, atI P i = p := ⟨_, rfl⟩
      obtain ⟨q, hq⟩ : ∃ q, atI Sj i = q := ⟨_, rfl⟩
      rw [hp] at kB HPi
      rw [hq] at kB HSm
      have HPE := Lib.hid hp
      have HQE := Lib.hid hq
      have q0 := HSm.1
      have q1 : q + 1 ≤ 1000 := by have := HSm.2.1; omega
      have hiL := HSm.2.2
      have p0 := HPi.1
      have p1 := HPi.2
      clear c1 c2 f2 hp hq HSm HPi k2
      have c3 := kB.cell 2
      have f3 := kB.frozen 2
      go_upto_region 9 with (fail)
      refine name_set (Q := fun W => Code.wp _ _ _ _ W) kB ?_
      intro w3 k3 hk3 hs3 hl3
      have k3' : Blk w3 (s.G i) 127 (.int .i64 i :: .int .i64 p :: .int .i64 (q + 1) :: T).toArray := by simpa using k3
      have HTL := Lib.hid (hW.len hRT)
      clear c3 f3 k3 kB
      have kbr : Blk w3 s.br 160 #[.pointer (some ⟨s.rc, 0, none⟩)] := (hk3 _ (Ne.symm (hA.g_br i hiC))).trans hM2.br
      have krc : Blk w3 s.rc 119 #[.int .i64 m, .slice s.A s.n s.c, .int .i64 (lj - 1)] := (hk3 _ (Ne.symm (hA.g_rc i hiC))).trans hM2.rc
      have HR := Lib.hid (fun w => hW.ranked p (q + 1) w p0 p1 (by omega) q1)
      have HGB := Lib.hid (hA.g_br i hiC)
      have HGR := Lib.hid (hA.g_rc i hiC)
      refine wp_region_held_drew (S := fun w' => LatP (· = s.G i) w3 w' ∧ ∃ T : List Value, T.length = 17 ∧ Blk w' (s.G i) 127 (.int .i64 i :: .int .i64 p :: .int .i64 (q + 1) :: T).toArray) (by kernel_rfl) ⟨(Lat.drew w3).p _, T, HTL.out, k3'.later (Lat.drew w3)⟩ (fun hHeld => ?_)
      have D1 : ∀ w', (LatP (· = s.G i) w3 w' ∧ ∃ T : List Value, T.length = 17 ∧ Blk w' (s.G i) 127 (.int .i64 i :: .int .i64 p :: .int .i64 (q + 1) :: T).toArray) → w'.cell? ⟨s.br, 0, none⟩ = some (.pointer (some ⟨s.rc, 0, none⟩)) := fun w' h => (kbr.keepP h.1 (Ne.symm HGB.out)).cell 0
      have D2 : ∀ w', (LatP (· = s.G i) w3 w' ∧ ∃ T : List Value, T.length = 17 ∧ Blk w' (s.G i) 127 (.int .i64 i :: .int .i64 p :: .int .i64 (q + 1) :: T).toArray) → w'.cell? ⟨s.rc, 0, none⟩ = some (.int .i64 m) := fun w' h => (krc.keepP h.1 (Ne.symm HGR.out)).cell 0
      have D3 : ∀ w', (LatP (· = s.G i) w3 w' ∧ ∃ T : List Value, T.length = 17 ∧ Blk w' (s.G i) 127 (.int .i64 i :: .int .i64 p :: .int .i64 (q + 1) :: T).toArray) → w'.cell? ⟨s.G i, 1, none⟩ = some (.int .i64 p) := fun w' h => by obtain ⟨_, T, _, k⟩ := h; simpa using k.cell 1
      have D4 : ∀ w', (LatP (· = s.G i) w3 w' ∧ ∃ T : List Value, T.length = 17 ∧ Blk w' (s.G i) 127 (.int .i64 i :: .int .i64 p :: .int .i64 (q + 1) :: T).toArray) → w'.cell? ⟨s.G i, 2, none⟩ = some (.int .i64 (q + 1)) := fun w' h => by obtain ⟨_, T, _, k⟩ := h; simpa using k.cell 2
      refine wpAnyH_take (i := 0) (v := .pointer (some ⟨s.G i, 0, none⟩)) rfl (by kernel_rfl) (by kernel_rfl) (by kernel_rfl) (fun _ _ _ h => h) (Or.inl ⟨by rfl, by intro w' hS; go_simp⟩) hHeld ?_
      simp only [Act.put, List.setIfInBounds_toArray, List.set_cons_zero, List.set_cons_succ]
      refine wpAnyH_take (i := 1) (v := .pointer (some ⟨s.rc, 0, none⟩)) rfl (by kernel_rfl) (by kernel_rfl) (by kernel_rfl) (fun _ _ _ h => h) (Or.inl ⟨by rfl, by intro w' hS; have hc := D1 w' hS; go_simp⟩) hHeld ?_
      simp only [Act.put, List.setIfInBounds_toArray, List.set_cons_zero, List.set_cons_succ]
      refine wpAnyH_take (i := 2) (v := .pointer (some ⟨s.rc, 0, none⟩)) rfl (by kernel_rfl) (by kernel_rfl) (by kernel_rfl) (fun _ _ _ h => h) (Or.inl ⟨by rfl, by intro w' hS; go_simp⟩) hHeld ?_
      simp only [Act.put, List.setIfInBounds_toArray, List.set_cons_zero, List.set_cons_succ]
      refine wpAnyH_take (i := 3) (v := .pointer (some ⟨s.rc, 0, none⟩)) rfl (by kernel_rfl) (by kernel_rfl) (by kernel_rfl) (fun _ _ _ h => h) (Or.inl ⟨by rfl, by intro w' hS; go_simp⟩) hHeld ?_
      simp only [Act.put, List.setIfInBounds_toArray, List.set_cons_zero, List.set_cons_succ]
      refine wpAnyH_take (i := 4) (v := .int .i64 m) rfl (by kernel_rfl) (by kernel_rfl) (by kernel_rfl) (fun _ _ _ h => h) (Or.inl ⟨by rfl, by intro w' hS; have hc := D2 w' hS; go_simp⟩) hHeld ?_
      simp only [Act.put, List.setIfInBounds_toArray, List.set_cons_zero, List.set_cons_succ]
      refine wpAnyH_take (i := 5) (v := .pointer (some ⟨s.G i, 0, none⟩)) rfl (by kernel_rfl) (by kernel_rfl) (by kernel_rfl) (fun _ _ _ h => h) (Or.inl ⟨by rfl, by intro w' hS; go_simp⟩) hHeld ?_
      simp only [Act.put, List.setIfInBounds_toArray, List.set_cons_zero, List.set_cons_succ]
      refine wpAnyH_take (i := 6) (v := .pointer (some ⟨s.G i, 0, none⟩)) rfl (by kernel_rfl) (by kernel_rfl) (by kernel_rfl) (fun _ _ _ h => h) (Or.inl ⟨by rfl, by intro w' hS; go_simp⟩) hHeld ?_
      simp only [Act.put, List.setIfInBounds_toArray, List.set_cons_zero, List.set_cons_succ]
      refine wpAnyH_take (i := 7) (v := .pointer (some ⟨s.G i, 0, none⟩)) rfl (by kernel_rfl) (by kernel_rfl) (by kernel_rfl) (fun _ _ _ h => h) (Or.inl ⟨by rfl, by intro w' hS; go_simp⟩) hHeld ?_
      simp only [Act.put, List.setIfInBounds_toArray, List.set_cons_zero, List.set_cons_succ]
      refine wpAnyH_take (i := 8) (v := .pointer (some ⟨s.G i, 1, none⟩)) rfl (by kernel_rfl) (by kernel_rfl) (by kernel_rfl) (fun _ _ _ h => h) (Or.inl ⟨by rfl, by intro w' hS; go_simp⟩) hHeld ?_
      simp only [Act.put, List.setIfInBounds_toArray, List.set_cons_zero, List.set_cons_succ]
      refine wpAnyH_take (i := 9) (v := .int .i64 p) rfl (by kernel_rfl) (by kernel_rfl) (by kernel_rfl) (fun _ _ _ h => h) (Or.inl ⟨by rfl, by intro w' hS; have hc := D3 w' hS; go_simp⟩) hHeld ?_
      simp only [Act.put, List.setIfInBounds_toArray, List.set_cons_zero, List.set_cons_succ]
      refine wpAnyH_take (i := 10) (v := .pointer (some ⟨s.G i, 0, none⟩)) rfl (by kernel_rfl) (by kernel_rfl) (by kernel_rfl) (fun _ _ _ h => h) (Or.inl ⟨by rfl, by intro w' hS; go_simp⟩) hHeld ?_
      simp only [Act.put, List.setIfInBounds_toArray, List.set_cons_zero, List.set_cons_succ]
      refine wpAnyH_take (i := 11) (v := .pointer (some ⟨s.G i, 0, none⟩)) rfl (by kernel_rfl) (by kernel_rfl) (by kernel_rfl) (fun _ _ _ h => h) (Or.inl ⟨by rfl, by intro w' hS; go_simp⟩) hHeld ?_
      simp only [Act.put, List.setIfInBounds_toArray, List.set_cons_zero, List.set_cons_succ]
      refine wpAnyH_take (i := 12) (v := .pointer (some ⟨s.G i, 2, none⟩)) rfl (by kernel_rfl) (by kernel_rfl) (by kernel_rfl) (fun _ _ _ h => h) (Or.inl ⟨by rfl, by intro w' hS; go_simp⟩) hHeld ?_
      simp only [Act.put, List.setIfInBounds_toArray, List.set_cons_zero, List.set_cons_succ]
      refine wpAnyH_take (i := 13) (v := .int .i64 (q + 1)) rfl (by kernel_rfl) (by kernel_rfl) (by kernel_rfl) (fun _ _ _ h => h) (Or.inl ⟨by rfl, by intro w' hS; have hc := D4 w' hS; go_simp⟩) hHeld ?_
      simp only [Act.put, List.setIfInBounds_toArray, List.set_cons_zero, List.set_cons_succ]
      refine wpAnyH_ready (rs := [14]) (by kernel_rfl) (by simp) (AllReadyH.cons rfl (fun K hK => ?_) AllReadyH.nil)
      go_simp
      refine (HR.out _).mono ?_
      rintro e w4 ⟨T', rfl, hRT', l4⟩
      have hS4 : LatP (· = s.G i) w3 w4 ∧ ∃ T : List Value, T.length = 17 ∧ Blk w4 (s.G i) 127 (.int .i64 i :: .int .i64 p :: .int .i64 (q + 1) :: T).toArray := by
       obtain ⟨h1, T, h2, h3⟩ := hHeld
       exact ⟨h1.trans (l4.p _), T, h2, h3.later l4⟩
      have HRT := Lib.hid hRT'
      clear hRT'
      refine hK.out _ _ hS4 (fun hHeld2 => ?_)
      clear hK K hHeld D1 D2 D3 D4
      refine wpAnyH_take (i := 15) (v := .pointer (some ⟨s.G i, 0, none⟩)) rfl (by kernel_rfl) (by kernel_rfl) (by kernel_rfl) (fun _ _ _ h => h) (Or.inl ⟨by rfl, by intro w' hS; go_simp⟩) hHeld2 ?_
      simp only [Act.put, List.setIfInBounds_toArray, List.set_cons_zero, List.set_cons_succ]
      refine wpAnyH_take (i := 16) (v := .pointer (some ⟨s.G i, 3, none⟩)) rfl (by kernel_rfl) (by kernel_rfl) (by kernel_rfl) (fun _ _ _ h => h) (Or.inl ⟨by rfl, by intro w' hS; go_simp⟩) hHeld2 ?_
      simp only [Act.put, List.setIfInBounds_toArray, List.set_cons_zero, List.set_cons_succ]
      refine wpAnyH_ready (rs := [17]) (by kernel_rfl) (by simp) (AllReadyH.cons rfl (fun K hK => ?_) AllReadyH.nil)
      rw [if_pos (by rfl)]
      obtain ⟨hl4, T4, ht4, k4⟩ := hHeld2
      have hlen' : T'.length = 17 := hW.len HRT.out
      refine wp_store_mid 124 (.tmp 63) (.tmp 61) rfl (s.G i) 3 T'.toArray rfl rfl (there_tail k4 (by rw [ht4, List.size_toArray, hlen'])) (by rw [List.size_toArray, hlen']; exact rankInfo17) (all_oneCell_toArray (hW.one HRT.out)) ?_
      have k5 := put_tail (T' := T') k4 (by rw [ht4, hlen'])
      have hl5 := LatP.setCells (g := s.G i) T' w4 3
      have hS5 : LatP (· = s.G i) w3 (w4.setCells (s.G i) 3 T') ∧ ∃ T : List Value, T.length = 17 ∧ Blk (w4.setCells (s.G i) 3 T') (s.G i) 127 (.int .i64 i :: .int .i64 p :: .int .i64 (q + 1) :: T).toArray := ⟨hl4.trans hl5, T', hlen', k5⟩
      refine hK.out _ _ hS5 (fun hHeld3 => ?_)
      clear hK K
      have hlw5 : LatP (· = s.G i) w3 (w4.setCells (s.G i) 3 T') := hl4.trans hl5
      obtain ⟨w5, hw5⟩ : ∃ w5, w4.setCells (s.G i) 3 T' = w5 := ⟨_, rfl⟩
      rw [hw5] at k5 hlw5 ⊢
      clear hw5 hS5 hHeld3 hl5 hl4 k4 ht4 T4 k3' kbr krc HR
      refine wpAnyH_done (by kernel_rfl) ?_ _
      have hC5 : Cl R w5 (s.G i) i (atI P i) (atI Sj i + 1) := ⟨T', by rw [HPE.out, HQE.out]; exact HRT.out, by rw [HPE.out, HQE.out]; exact k5⟩
      have hl25 : LatP (· = s.G i) w2 w5 := hl3.trans hlw5
      have hM5 : Mem s m R P (Sj.set i (atI Sj i + 1)) (lj - 1) (.slice none 0 0) w5 := hM2.bump hA hiC hiL (fun k hk hne => hl25.block k hk hne) hl25.size hC5
      have hlx5 : LatP (fun k => k = s.rc ∨ k = s.G i) wr w5 := (hl2.wider (fun k e => .inl e)).trans (hl25.wider (fun k e => .inr e))
      have hmx : ∀ k, (k = s.rc ∨ k = s.G i) → s.mine k := fun k h => by
       rcases h with h | h
       ·exact .inr (.inr (.inl h))
       ·exact .inr (.inr (.inr (.inr (.inl ⟨i, hiC, h⟩))))
      have hI5 := HI.out _ _ _ _ _ hIj (hlx5.wider hmx)
      have hr5 : Row w5 (some a) b.length (ptrs s.G b) := hrj.kept hlx5.size (fun a' e => hlx5.block _ (by cases e; exact ha) (fun h => (HQ.out a' e).2.1 (hmx _ h)))
      have hk5 : ∃ cs, Blk w5 a.block 120 cs := by
       obtain ⟨cs, k⟩ := hgj.out a rfl
       exact ⟨cs, k.keepP hlx5 (fun h => (HQ.out a rfl).2.1 (hmx _ h))⟩
      have hg5 : ∀ k, g' = some k → k ≠ a.block := by
       intro k e h
       obtain ⟨cs, q1⟩ := hk5
       obtain ⟨cs', q2⟩ := (HG.out _ _ _ _ hI5 k e).2.2
       subst h
       unfold Blk at q1 q2
       rw [q1] at q2
       cases q2
      have hYi := hY Sj oj i g' w5 hiC hiL hI5 hC5 (by have := HLJ2.out; omega)
      have hszx := hlx5.size
      clear hMj hIj hM2 hrj hl2 hl3 hl25 hlx5 hlw5 hC5 k5 hmx hk2 hk3 hs2 hs3 HRT hRT HTL hlen'
      obtain ⟨fn, tmps, assign, body, hy', hR⟩ := hYi
      have hy : (Instr.yield l #[.pointer (some ⟨s.G i, 0, none⟩)]).run Tryz.prog w5 = .ok (.round l fn tmps assign body) w5 := hy'
      clear hy'
      go_upto_region 10 with (fail)
      refine (wpIn_wide (n := 3)).1 ?_
      gi_wp2
      refine hR.mono ?_
      clear hR hy
      rintro e w6 ⟨bb, rfl, hl6, htr, hfa⟩
      have hM6 := hM5.keep hl6 (fun k hk h => by
       rcases h with h | h
       ·exact HTH.out k h hk
       ·exact (HG.out _ _ _ _ hI5 k h.symm).1 hk)
      have haw : a.block < w5.heap.size := by omega
      have hr6 : Row w6 (some a) b.length (ptrs s.G b) := hr5.kept hl6.size (fun a' e => hl6.block _ (by cases e; exact haw) (fun h => by
       cases e
       rcases h with h | h
       ·exact (HQ.out a rfl).1 h
       ·exact hg5 _ h.symm rfl))
      have hk6 : ∃ cs, Blk w6 a.block 120 cs := by
       obtain ⟨cs, k⟩ := hk5
       exact ⟨cs, k.keepP hl6 (fun h => by
        rcases h with h | h
        ·exact (HQ.out a rfl).1 h
        ·exact hg5 _ h.symm rfl)⟩
      have hs6 := hl6.size
      have HS1 : Hid (bump S (b.take (j + 1)) = Sj.set i (atI Sj i + 1)) := HB
      have HO1 : Hid (o ++ b.take (j + 1) = oj ++ [i]) := by show _ = _; rw [HT.out, ← List.append_assoc, HOJ.out]
      cases bb with
      | true =>
        obtain ⟨g2, hI6⟩ := htr rfl
        have hsm := small_bump hSj hiL
        clear htr hfa hM5 hI5 hr5 hSj
        gi_wp2
        go_wp2
        go_round
        case rel =>
         refine ⟨j + 1, g2, by omega, by go_num, ?_, ?_, ?_, hr6, ?_, by omega⟩
         ·rw [HS1.out, show left - ((j + 1 : Nat) : Int) = lj - 1 by have := HLJE.out; omega]; exact hM6
         ·rw [HS1.out, HO1.out]; exact hI6
         ·rw [HS1.out, show left - ((j + 1 : Nat) : Int) = lj - 1 by have := HLJE.out; omega]; exact hsm
         ·intro a' e
          cases e
          exact hk6
        case measure => simp [intOf]; omega
      | false =>
        obtain ⟨hJ6, hlen6⟩ := hfa rfl
        have hjb : j + 1 = b.length := by have := HLJ2.out; have := HLJE.out; omega
        have hl1 : lj = 1 := by have := HLJ2.out; have := HLJE.out; omega
        have HTB : Hid (b.take (j + 1) = b) := by show _ = _; rw [hjb]; simp
        have hAe := HGs.out.done (by have := HLJE.out; omega)
        have HA1 : Hid (A.seats = Sj.set i (atI Sj i + 1)) := by show _ = _; rw [hAe, ← HS1.out, HTB.out]
        have HA2 : Hid (A.tied = []) := by show _ = _; rw [hAe]
        have HA3 : Hid (A.order = oj ++ [i]) := by show _ = _; rw [hAe, ← HO1.out, HTB.out]
        clear htr hfa hM5 hI5 hr5 hSj hAe hjb hl1
        gi_wp2
        go_wp2
        refine bodyPost_ret (results_none rfl _ _ _) rfl ?_
        refine ⟨⟨_, rfl⟩, .slice none 0 0, lj - 1, ?_, ?_, ?_, .inr ?_⟩
        ·rw [HA1.out]; exact hM6
        ·rw [HA2.out]; exact ⟨none, 0, rfl, Row.nil _ _⟩
        ·intro h; exact absurd HA2.out h
        ·rw [HA1.out, HA3.out]; exact hJ6
     ·obtain rfl : j = b.length := by omega
      have HTB : Hid (b.take b.length = b) := List.take_length
      have HLJ := Lib.hid (leftOf_of hMj.rc)
      go_wp2
      go_roundw
      case rel =>
       rw [HTB.out] at hMj hIj hSj
       exact ⟨bump S b, left - b.length, o ++ b, g', hMj, hIj, HGs.out, by omega, by show _ = _; rw [List.length_append]; have := hlo.out; omega, hSj, by omega⟩
      case measure => rw [HLJ.out, HLW.out]; omega
  ·have hAe := hG.done (by omega)
   have HA' := Lib.hid hAe
   clear hAe hG hW
   have hle : ¬ (0 : Int) < left := h0
   go_wp2
   refine bodyPost_ret (results_none rfl _ _ _) rfl ?_
   refine ⟨⟨_, rfl⟩, .slice none 0 0, left, ?_, ?_, ?_, .inl ⟨g, ?_⟩⟩
   ·rw [HA'.out]; exact hM
   ·rw [HA'.out]; exact ⟨none, 0, rfl, Row.nil _ _⟩
   ·intro h; rw [HA'.out] at h; exact absurd rfl h
   ·rw [HA'.out]; exact hI1
end Go.Proofs.YteocdndanehpnaaGreat
namespace Go.Proofs.YteocdndanehpnaaGreat
open Go.RowKit Go.Shelf
set_option linter.unusedSimpArgs false
def nats (o : List Nat) : List Value := o.map fun (i : Nat) => Value.int .i64 (i : Int)
theorem nats_snoc (o : List Nat) (i : Nat) : nats (o ++ [i]) = nats o ++ [.int .i64 (i : Int)] := by simp [nats]
theorem nats_length (o : List Nat) : (nats o).length = o.length := by simp [nats]
def ints (o : List Nat) : List Int := o.map fun (i : Nat) => (i : Int)
theorem Row.sl {w : World} {A : Option Addr} {n : Nat} {o : List Nat} (h : Row w A n (nats o)) : Sl w .i64 A n (ints o) := by
 refine ⟨by have := h.1; simpa [nats, ints] using this, fun hn => ?_⟩
 obtain ⟨a, e, hb, hc⟩ := h.2 hn
 refine ⟨a, e, hb, fun i x hx => hc i _ ?_⟩
 unfold ints at hx
 unfold nats
 rw [List.getElem?_map] at hx ⊢
 cases ho : o[i]? with
 | none => rw [ho] at hx; cases hx
 | some y => rw [ho] at hx; cases hx; rfl
structure Desk where
 b5 : Nat
 b8 : Nat
 b9 : Nat
 sr : Nat
 cS : Nat
 n : Nat
structure DeskIs (d : Desk) (B : Nat) (seats : Int) (S : List Int) (ov : Value) (o : List Nat) (W : World) : Prop where
 b5 : Blk W d.b5 3 #[.int .i64 seats]
 b8 : Blk W d.b8 47 #[.slice (some ⟨d.sr, 0, none⟩) d.n d.cS, .slice none 0 0, .int .i64 0]
 b9 : Blk W d.b9 29 #[ov]
 row : RowN W d.sr d.n S
 own : OwnV W B 3 ov (nats o)
theorem OwnV.kept' {w w' : World} {B : Nat} {E : TypeId} {v : Value} {xs : List Value} {M : Nat → Prop} (h : OwnV w B E v xs) (hl : LatP M w w') (hM : ∀ g, v.ownBlock = some g → ¬ M g) : OwnV w' B E v xs := by
 refine h.kept (fun g hg => hl.block g ?_ (hM g hg))
 rcases h.2 with ⟨rfl, _⟩ | ⟨g', cap, cur, rfl, _, hh, _⟩
 ·cases hg
 ·cases hg
  rcases Nat.lt_or_ge g' w.heap.size with hlt | hge
  ·exact hlt
  ·rw [Array.getElem?_eq_none hge] at hh; cases hh
theorem OwnV.at {w : World} {B : Nat} {E : TypeId} {v : Value} {xs : List Value} (h : OwnV w B E v xs) : ∀ g, v.ownBlock = some g → B ≤ g ∧ g < w.heap.size ∧ ∃ cs, Blk w g E cs := by
 intro g hg
 rcases h.2 with ⟨rfl, _⟩ | ⟨g', cap, cur, rfl, hb, hh, _⟩
 ·cases hg
 ·cases hg
  have hB : Blk w g' E cur := hh
  exact ⟨hb, hB.lt, cur, hB⟩
theorem DeskIs.keepP {d : Desk} {B : Nat} {seats : Int} {S : List Int} {ov : Value} {o : List Nat} {W w : World} {M : Nat → Prop} (h : DeskIs d B seats S ov o W) (hl : LatP M W w)
  (h5 : ¬ M d.b5) (h8 : ¬ M d.b8) (h9 : ¬ M d.b9) (hr : ¬ M d.sr) (ho : ∀ g, ov.ownBlock = some g → ¬ M g) : DeskIs d B seats S ov o w :=
 ⟨h.b5.keepP hl h5, h.b8.keepP hl h8, h.b9.keepP hl h9, h.row.keepP hl hr, h.own.kept' hl ho⟩
theorem LatP.putObj {w : World} {l : Nat} {o : Obj} (_hl : l < w.heap.size) : LatP (· = l) w (w.putObj l o) := by
 refine ⟨rfl, rfl, rfl, by simp [World.putObj], fun k _ hk => ?_⟩
 simp only [World.putObj]
 rw [Array.getElem?_setIfInBounds_ne (fun h => hk h.symm)]
theorem putObj_self {w : World} {l : Nat} {o : Obj} (hl : l < w.heap.size) : (w.putObj l o).heap[l]? = some o := World.putObj_heap_same hl
theorem Row.loop {W : World} {A : Option Addr} {n l : Nat} {xs : List Value} {r : Loop} {o : Obj} (h : Row W A n xs) (hl : W.heap[l]? = some (.loop r)) : Row (W.putObj l o) A n xs := by
 refine ⟨h.1, fun hn => ?_⟩
 obtain ⟨a, e, hlt, hc⟩ := h.2 hn
 have hne : a.block ≠ l := by
  intro he
  have h0 := hc 0 _ (List.getElem?_eq_getElem (by have := h.1; omega))
  unfold World.cell? at h0
  rw [block_add, he, hl] at h0
  cases h0
 refine ⟨a, e, by simpa [World.putObj] using hlt, fun j x hx => ?_⟩
 rw [← hc j x hx]
 refine World.cell?_of_block ?_
 rw [block_add]
 exact World.putObj_heap_other hne
def BodyDoes (d : Desk) (B : Nat) (seats : Int) (body : Code) (a1 : Value → Act) : Prop :=
 ∀ (l : Nat) (S : List Int) (ov : Value) (o : List Nat) (i g : Nat) (cs : Array Value) (W : World) (Qb : Exit → Act → World → Prop), i < S.length → (o.length : Int) + 1 ≤ 1000 → DeskIs d B seats S ov o W →
  Blk W g 127 cs → cs[0]? = some (.int .i64 (i : Int)) → cs[2]? = some (.int .i64 (atI S i + 1)) → B ≤ W.heap.size → ¬ LetsOut Qb → (∀ c a' W', Qb (.panic c) a' W' → False) →
  (∀ (W' : World) (ov' : Value), DeskIs d B seats (S.set i (atI S i + 1)) ov' (o ++ [i]) W' → LatP (fun k => k = d.sr ∨ k = d.b9 ∨ some k = ov.ownBlock) W W' →
    (((o.length : Int) + 1 = seats → ∀ a', Qb (.exit 2) a' W') ∧ ((o.length : Int) + 1 ≠ seats → ∀ a', Qb .normal a' W'))) →
  body.wpIn (Fence.wide.inRound l) 2 Tryz.prog Qb (a1 (pt g)) W
set_option maxHeartbeats 2000000 in
theorem run_range {s : Site} {m : Int} {R : Int → Int → List Value → Prop} {f : Int → Int → Int → Int → Int} {P : List Int} {A : Aw} {d : Desk} {seats : Int} {ga : Operand} {ps : Array Tmp} {assign body : Code} {Q : Exit → Act → World → Prop} {a : Act} {w : World}
  (hW : RankWay m R f) (hA : s.Apart) (hC : s.C ≠ []) (hn : s.n ≤ 1000) (hP : ∀ i ∈ s.C, 1 ≤ atI P i ∧ atI P i ≤ 1000000000) (L0 : Int) (_hL0 : L0 ≤ seats) (hL1 : L0 ≤ 1000) (h0 : 0 ≤ L0)
  (hmine : ∀ k, s.mine k → k < w.heap.size) (h5 : ¬ s.mine d.b5) (h8 : ¬ s.mine d.b8) (h9 : ¬ s.mine d.b9) (hr : ¬ s.mine d.sr)
  (S0 : List Int) (hS0 : Small s.C S0 L0) (hM0 : Mem s m R P S0 L0 (.slice none 0 0) w) (hG0 : Goes f P s.C A S0 L0 []) (hD0 : DeskIs d w.heap.size seats S0 (.slice none 0 0) [] w)
  (hg : a.eval ga = .func (.func 81) #[] #[pt s.br, pt s.bt]) (hps : ps.size = 1) (a1 : Value → Act)
  (hassign : ∀ (l : Nat) (x : Value) (W : World) (K : Act → World → Prop), K (a1 x) W → assign.wpIn (Fence.wide.inRound l) 2 Tryz.prog (Exit.then K (fun _ _ _ => False)) { tmps := (ps.zip #[x]).foldl (fun tmps (t, a) => tmps.setIfInBounds t a) a.tmps, defers := [] } W)
  (hbody : BodyDoes d w.heap.size seats body a1)
  (hend : ∀ (x : Bool) (D : Nat) (W : World) (tv ov : Value) (lv : Int), w.heap.size ≤ D → W.heap[D]? = some (.deferred (some [])) → Mem s m R P A.seats lv tv W → TiedIs s.G A.tied tv W → (A.tied ≠ [] → lv = A.left) → DeskIs d w.heap.size seats A.seats ov A.order W →
    LatP (fun k => s.mine k ∨ k = d.sr ∨ k = d.b9) w W → Q (if x then .exit 2 else .normal) { a with defers := { target := .collected D, args := #[] } :: a.defers } W) :
  (Code.rangeFunc ga ps assign body).wp Tryz.prog Q a w := by
 refine rangeFunc_any (id := 2) hg (enters_of Tryz.func81 (by kernel_rfl) rfl) ?_
 intro fn W1 hW1
 generalize hrec : recOf a fn ps assign body w.heap.size = rec at hW1 ⊢
 have hl1 : Lat w W1 := by rw [hW1]; exact (Lat.alloc _ _).trans (Lat.alloc _ _)
 have hz1 : W1.heap.size = w.heap.size + 2 := by rw [hW1]; simp
 have hL1' : W1.heap[w.heap.size + 1]? = some (.loop (rec .ready none)) := by
  rw [hW1]; have := World.alloc_heap_new (w.alloc (.deferred (some []))) (.loop (rec .ready none)); rwa [World.size_alloc] at this
 have hK1 : W1.heap[w.heap.size]? = some (.deferred (some [])) := by
  rw [hW1]; exact (Below.heap_alloc _ _ _ (by simp)).trans (World.alloc_heap_new w _)
 clear hW1
 obtain ⟨M0, hM0e⟩ : ∃ M0 : Nat → Prop, M0 = fun k => s.mine k ∨ k = d.sr ∨ k = d.b9 := ⟨_, rfl⟩
 have hd5 := hD0.b5.lt
 have hd8 := hD0.b8.lt
 have hd9 := hD0.b9.lt
 have hdr : d.sr < w.heap.size := by obtain ⟨_, h, _⟩ := hD0.row; exact h.lt
 have hI0 : ∀ (x : LoopState → Option Code → Loop), True := fun _ => trivial
 clear hI0
 obtain ⟨I, hIe⟩ : ∃ I : List Int → List Nat → Option Nat → World → Prop, I = fun S o g W => ∃ ov : Value, g = ov.ownBlock ∧ W.heap[w.heap.size + 1]? = some (.loop (rec .ready none)) ∧ W.heap[w.heap.size]? = some (.deferred (some [])) ∧ DeskIs d w.heap.size seats S ov o W ∧ LatP M0 w W := ⟨_, rfl⟩
 obtain ⟨J, hJe⟩ : ∃ J : List Int → List Nat → World → Prop, J = fun S o W => ∃ ov : Value, W.heap[w.heap.size + 1]? = some (.loop (rec .done (some (.exit 2)))) ∧ W.heap[w.heap.size]? = some (.deferred (some [])) ∧ DeskIs d w.heap.size seats S ov o W ∧ LatP M0 w W := ⟨_, rfl⟩
 have hlt_of : ∀ {W : World} {k : Nat} {o : Obj}, W.heap[k]? = some o → k < W.heap.size := fun h => (Array.getElem?_eq_some_iff.1 h).1
 have hIstab : ∀ S o g W W', I S o g W → LatP s.mine W W' → I S o g W' := by
  intro S o g W W' h hl
  rw [hIe] at h ⊢
  obtain ⟨ov, e, q1, q2, q3, q4⟩ := h
  refine ⟨ov, e, (hl.block _ (hlt_of q1) (fun h => by have := hmine _ h; omega)).trans q1, (hl.block _ (hlt_of q2) (fun h => by have := hmine _ h; omega)).trans q2, q3.keepP hl h5 h8 h9 hr (fun k hk h => by have := hmine _ h; have := (q3.own.at k hk).1; omega), q4.trans (hl.wider (fun k h => by rw [hM0e]; exact .inl h))⟩
 have hIg : ∀ S o g W, I S o g W → ∀ k, g = some k → ¬ s.mine k ∧ k < W.heap.size ∧ ∃ cs, Blk W k 3 cs := by
  intro S o g W h k hk
  rw [hIe] at h
  obtain ⟨ov, e, q1, q2, q3, q4⟩ := h
  rw [e] at hk
  obtain ⟨p1, p2, p3⟩ := q3.own.at k hk
  exact ⟨fun h => by have := hmine _ h; omega, p2, p3⟩
 have hY : Yields s R P L0 (w.heap.size + 1) (fun k => k = d.sr ∨ k = d.b9 ∨ k = w.heap.size + 1) I J := by
  intro S o i g W hiC hiL hI hCl hlen
  rw [hIe] at hI
  obtain ⟨ov, e, q1, q2, q3, q4⟩ := hI
  have hlt1 := hlt_of q1
  have q1' := q1
  rw [← hrec] at q1
  have hGi : s.G i < w.heap.size := hmine _ (.inr (.inr (.inr (.inr (.inl ⟨i, hiC, rfl⟩)))))
  have hown : ∀ k, ov.ownBlock = some k → k ≠ w.heap.size + 1 ∧ w.heap.size ≤ k := by
   intro k hk
   obtain ⟨p1, p2, cs, p3⟩ := q3.own.at k hk
   refine ⟨fun h => ?_, p1⟩
   subst h
   unfold Blk at p3
   rw [q1'] at p3
   cases p3
  refine round_any (id := 2) (R := fun b W' => LatP (fun k => (k = d.sr ∨ k = d.b9 ∨ k = w.heap.size + 1) ∨ some k = g) W W' ∧ (b = true → ∃ g', I (S.set i (atI S i + 1)) (o ++ [i]) g' W') ∧ (b = false → J (S.set i (atI S i + 1)) (o ++ [i]) W' ∧ L0 ≤ (o.length : Int) + 1)) q1 (by simp [hps]) ?_
  refine hassign _ _ _ _ ⟨q1, ?_⟩
  rw [hrec]
  obtain ⟨T, hRT, kB⟩ := hCl
  have hp1 := LatP.putObj (w := W) (o := .loop (rec .busy none)) hlt1
  have hb1 := putObj_self (w := W) (o := .loop (rec .busy none)) hlt1
  obtain ⟨Wb, hWb⟩ : ∃ Wb, W.putObj (w.heap.size + 1) (.loop (rec .busy none)) = Wb := ⟨_, rfl⟩
  rw [hWb] at hp1 hb1 ⊢
  clear hWb
  have hDb : DeskIs d w.heap.size seats S ov o Wb := q3.keepP hp1 (by omega) (by omega) (by omega) (by omega) (fun k hk => (hown k hk).1)
  refine hbody _ S ov o i (s.G i) _ Wb _ hiL (by omega) hDb (kB.keepP hp1 (by omega)) (by simp) (by simp) (by have := hp1.size; omega) (fun ⟨_, _, h⟩ => h) (fun _ _ _ h => h) ?_
  intro W' ov' hD' hl'
  have hbusy : W'.heap[w.heap.size + 1]? = some (.loop (rec .busy none)) := (hl'.block _ (hlt_of hb1) (fun h => by
   rcases h with h | h | h
   ·omega
   ·omega
   ·exact (hown _ h.symm).1 rfl)).trans hb1
  have hWW : LatP (fun k => (k = d.sr ∨ k = d.b9 ∨ k = w.heap.size + 1) ∨ some k = g) W W' := by
   refine (hp1.wider (fun k h => .inl (.inr (.inr h)))).trans (hl'.wider (fun k h => ?_))
   rcases h with h | h | h
   ·exact .inl (.inl h)
   ·exact .inl (.inr (.inl h))
   ·exact .inr (by rw [e]; exact h)
  have hfin : ∀ x : Loop, LatP (fun k => (k = d.sr ∨ k = d.b9 ∨ k = w.heap.size + 1) ∨ some k = g) W (W'.putObj (w.heap.size + 1) (.loop x)) ∧
    (W'.putObj (w.heap.size + 1) (.loop x)).heap[w.heap.size + 1]? = some (.loop x) ∧ (W'.putObj (w.heap.size + 1) (.loop x)).heap[w.heap.size]? = some (.deferred (some [])) ∧
    DeskIs d w.heap.size seats (S.set i (atI S i + 1)) ov' (o ++ [i]) (W'.putObj (w.heap.size + 1) (.loop x)) ∧ LatP M0 w (W'.putObj (w.heap.size + 1) (.loop x)) := by
   intro x
   have hp2 := LatP.putObj (w := W') (o := .loop x) (hlt_of hbusy)
   have hWx := hWW.trans (hp2.wider (fun k h => .inl (.inr (.inr h))))
   have hov' : ∀ k, ov'.ownBlock = some k → k ≠ w.heap.size + 1 := by
    intro k hk h
    obtain ⟨p1, p2, cs, p3⟩ := hD'.own.at k hk
    subst h
    unfold Blk at p3
    rw [hbusy] at p3
    cases p3
   refine ⟨hWx, putObj_self (hlt_of hbusy), (hWx.block _ (hlt_of q2) (fun h => ?_)).trans q2, hD'.keepP hp2 (by omega) (by omega) (by omega) (by omega) (fun k hk => hov' k hk), ?_⟩
   ·rcases h with (h | h | h) | h
    ·omega
    ·omega
    ·omega
    ·rw [e] at h
     obtain ⟨p1, p2, cs, p3⟩ := q3.own.at _ h.symm
     unfold Blk at p3
     rw [q2] at p3
     cases p3
   ·refine ⟨hWx.os.trans q4.os, hWx.tape.trans q4.tape, hWx.output.trans q4.output, Nat.le_trans q4.size hWx.size, fun k hk hm => (hWx.block k (Nat.lt_of_lt_of_le hk q4.size) (fun h => ?_)).trans (q4.block k hk hm)⟩
    rw [hM0e] at hm
    rcases h with (h | h | h) | h
    ·exact hm (.inr (.inl h))
    ·exact hm (.inr (.inr h))
    ·omega
    ·rw [e] at h; have := (hown _ h.symm).2; omega
  refine ⟨fun hs a' => ?_, fun hs a' => ?_⟩
  ·obtain ⟨r1, r2, r3, r4, r5⟩ := hfin (rec .done (some (.exit 2)))
   refine ⟨rfl, hbusy, r1, (fun h => by cases h), fun _ => ⟨?_, by omega⟩⟩
   rw [hJe]
   exact ⟨ov', r2, r3, r4, r5⟩
  ·obtain ⟨r1, r2, r3, r4, r5⟩ := hfin (rec .ready none)
   refine ⟨hbusy, r1, (fun _ => ?_), fun h => by cases h⟩
   rw [hIe]
   exact ⟨_, ov', rfl, r2, r3, r4, r5⟩
 have hI1 : I S0 [] (Value.slice none 0 0).ownBlock W1 := by
  rw [hIe]
  exact ⟨_, rfl, hL1', hK1, hD0.keepP (hl1.p (fun _ => False)) (fun h => h) (fun h => h) (fun h => h) (fun h => h) (fun _ _ h => h), hl1.p _⟩
 refine (seats_iter hW hA hC hn hP L0 hL1 (w.heap.size + 1) (fun k => k = d.sr ∨ k = d.b9 ∨ k = w.heap.size + 1) I J hIstab hIg ?_ hY S0 W1 ?_ hS0 (hM0.later hl1) hG0 _ hI1 h0).mono ?_
 ·intro k h hm
  rcases h with rfl | rfl | rfl
  ·exact hr hm
  ·exact h9 hm
  ·have := hmine _ hm; omega
 ·intro k h
  rcases h with rfl | rfl | rfl <;> omega
 ·rintro e W2 ⟨⟨v, rfl⟩, tv, lv, hM, ⟨At, ct, htv, hrow⟩, hlv, h⟩
  have hmk : ∀ k, s.mine k → ¬ k = w.heap.size + 1 := fun k h => by have := hmine k h; omega
  rcases h with ⟨g, hI⟩ | hJ
  ·rw [hIe] at hI
   obtain ⟨ov, e, q1, q2, q3, q4⟩ := hI
   have hp := LatP.putObj (w := W2) (o := .loop (rec .exhausted none)) (hlt_of q1)
   refine ⟨v, rfl, .inl ⟨q1, ?_⟩⟩
   refine hend false w.heap.size _ tv ov lv (Nat.le_refl _) ((hp.block _ (hlt_of q2) (by omega)).trans q2) (hM.keep hp hmk) ⟨At, ct, htv, hrow.loop q1⟩ hlv (q3.keepP hp (by omega) (by omega) (by omega) (by omega) (fun k hk h => ?_)) ?_
   ·obtain ⟨p1, p2, cs, p3⟩ := q3.own.at k hk
    subst h
    unfold Blk at p3
    rw [q1] at p3
    cases p3
   ·rw [hM0e] at q4
    exact ⟨hp.os.trans q4.os, hp.tape.trans q4.tape, hp.output.trans q4.output, Nat.le_trans q4.size hp.size, fun k hk hm => (hp.block k (Nat.lt_of_lt_of_le hk q4.size) (by omega)).trans (q4.block k hk hm)⟩
  ·rw [hJe] at hJ
   obtain ⟨ov, q1, q2, q3, q4⟩ := hJ
   have hp := LatP.putObj (w := W2) (o := .loop (rec .exhausted (some (.exit 2)))) (hlt_of q1)
   refine ⟨v, rfl, .inr ⟨q1, ?_⟩⟩
   refine hend true w.heap.size _ tv ov lv (Nat.le_refl _) ((hp.block _ (hlt_of q2) (by omega)).trans q2) (hM.keep hp hmk) ⟨At, ct, htv, hrow.loop q1⟩ hlv (q3.keepP hp (by omega) (by omega) (by omega) (by omega) (fun k hk h => ?_)) ?_
   ·obtain ⟨p1, p2, cs, p3⟩ := q3.own.at k hk
    subst h
    unfold Blk at p3
    rw [q1] at p3
    cases p3
   ·rw [hM0e] at q4
    exact ⟨hp.os.trans q4.os, hp.tape.trans q4.tape, hp.output.trans q4.output, Nat.le_trans q4.size hp.size, fun k hk hm => (hp.block k (Nat.lt_of_lt_of_le hk q4.size) (by omega)).trans (q4.block k hk hm)⟩
end Go.Proofs.YteocdndanehpnaaGreat
