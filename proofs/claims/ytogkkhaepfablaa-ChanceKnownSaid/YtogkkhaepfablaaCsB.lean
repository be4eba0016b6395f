
/- Chance: a shuffled list. -/
import Derived.Test.YtogkkhaepfablaaCsA
import Derived.BigRegion
namespace Go.Proofs.Ytogkkhaepfablaa
open Go.RowKit Go.Shelf
set_option linter.unusedSimpArgs false

/-- The numbers of one exchange. -/
structure ShN (i n : Nat) (m : Nat) : Prop where
  h1 : 1 ≤ m
  h2 : m < 9223372036854775808
  hm : m = i + 1
  e1 : wrap64 ((i : Int) + 1) = (m : Int)
  e2 : IntKind.u64.wrap (m : Int) = (m : Int)
  e3 : (decide ((1 : Int) ≤ (i : Int))) = true
  e4 : wrap64 ((i : Int) - 1) = ((i - 1 : Nat) : Int)
theorem shN (i n : Nat) (h : 1 ≤ i) (hn : i < n) (hl : n ≤ 400) : ShN i n (i + 1) :=
  ⟨by omega, by omega, rfl, by rw [IntWalk.wrap64_in _ (by omega)]; omega, by rw [IntKind.wrap_u64]; omega, decide_eq_true (by omega), by rw [IntWalk.wrap64_in _ (by omega)]; omega⟩

/-- What Shuffle hands back for a number of places that is in order. -/
def ShufB (w : World) (n : Nat) (o : Option (List Int × Nat)) (e : Ending) (w' : World) : Prop :=
  (o = none ∧ e = .returned (.tuple #[.slice none 0 0, .agg #[.int .u64 0], .int .i64 9]) ∧ Lat w w') ∨
  (∃ (l : List Int) (t g : Nat), o = some (l, t) ∧ l.length = n ∧ e = .returned (.tuple #[.slice (some ⟨g, 0, none⟩) n n, .agg #[.int .u64 (t : Nat)], .int .i64 0]) ∧ Blk w' g 3 (nums .i64 l) ∧ w.heap.size ≤ g ∧ Lat w w')
set_option maxRecDepth 100000 in
set_option maxHeartbeats 4000000 in
theorem shuffle_in (s n : Nat) (hs : s < 18446744073709551616) (hn : n ≤ 400) (w : World) :
    Calls Try.prog 9 #[.agg #[.int .u64 s], .int .i64 n] w (ShufB w n (shufOpt s n)) := by
  have hn0 : ¬ (n : Int) < 0 := by omega
  have hn4 : ¬ (400 : Int) < (n : Int) := by omega
  go_enter Try.func9, Try.ntmps9
  go_wp2_with fail
  refine name2 (Q := fun W => Calls _ _ _ W _) ?_
  intro W1 l1 hs1 k2 k5
  refine (chFrom_any s W1).mono ?_
  rintro e W2 ⟨g, rfl, kg, hg, l2⟩
  replace k5 := k5.later l2
  have L2 := l1.trans l2
  have hs2 : w.heap.size + 2 ≤ W2.heap.size := by have := l2.size; omega
  have hgl := kg.lt
  have hg : w.heap.size + 1 < g := by omega
  clear k2 l1 l2 hs1
  have hmk := run_make_nums (P := Try.prog) (t := 28) (e := 3) (k := .i64) (by_ := 8) Try.underlying28 (by kernel_rfl) (n : Int) n rfl (by omega) (by omega)
  go_upto_region 6 with (fail)
  refine name1 (Q := fun W => Code.wp _ _ _ _ W) ?_
  intro W3 l3 hs3 k8
  replace k5 := k5.later l3
  replace kg := kg.later l3
  have L3 := L2.trans l3
  have K8 : Blk W3 W2.heap.size 3 (nums .i64 (fillTo n 0)) := by rw [fillTo_zero]; exact k8
  obtain ⟨g8, hg8⟩ : ∃ z, W2.heap.size = z := ⟨_, rfl⟩
  rw [hg8] at K8 hs2 ⊢
  have hgg8 : g < g8 := by rw [← hg8]; exact hgl
  clear l3 hs3 hg8 L2 k8 hmk hgl
  go_loopw [26] (fun i wr => ∃ k : Nat, k ≤ n ∧ i = .int .i64 k ∧ Blk wr g8 3 (nums .i64 (fillTo n k)) ∧ Blk wr g 72 #[.int .u64 (s : Nat)] ∧ Blk wr (w.heap.size + 1) 24 #[.int .u64 0] ∧ Lat w wr) (fun i _ => n - (intOf i).toNat)
  case atStart => exact ⟨0, by omega, rfl, K8, kg, k5, L3⟩
  case round =>
    obtain ⟨k, hk, rfl, j8, jg, j5, hlr⟩ := hrel
    clear K8 kg k5 L3
    by_cases hkn : k < n
    · have hkI : (k : Int) < (n : Int) := by omega
      obtain ⟨x, hx, c8, f8⟩ := j8.slot (i := k) (by rw [fillTo_len]; exact hkn)
      have h8 := j8.lt
      go_wp2
      refine ⟨⟨k + 1, hkn, int_succ k, ?_, jg.far (p := ⟨g8, k, none⟩) (by simp; omega) _, j5.far (p := ⟨g8, k, none⟩) (by simp; omega) _, hlr.setCell (p := ⟨g8, k, none⟩) (by simp; omega) _⟩, meas_up hkn⟩
      have := j8.put k (k : Int)
      rwa [fillTo_set hkn] at this
    · obtain rfl : k = n := by omega
      obtain ⟨z5, hz5⟩ : ∃ z, w.heap.size + 1 = z := ⟨_, rfl⟩
      have hs5 : w.heap.size + 1 < g8 := by omega
      rw [hz5] at j5 hg hs5 ⊢
      have hwz : w.heap.size ≤ z5 := by omega
      clear hs2 hz5
      go_wp2
      go_loopw [10] (fun i W => ∃ (ii : Int) (l : List Int) (t : Nat), i = .int .i64 ii ∧ -1 ≤ ii ∧ ii < k ∧ l.length = k ∧ t < 18446744073709551616 ∧ shufGo ii.toNat l t = shufOpt s k ∧ Blk W g8 3 (nums .i64 l) ∧ Blk W g 72 #[.int .u64 (t : Nat)] ∧ Blk W z5 24 #[.int .u64 0] ∧ Lat w W) (fun i _ => (intOf i).toNat)
      case atStart => exact ⟨(k : Int) - 1, fillTo k k, s, rfl, by omega, by omega, fillTo_len k k, hs, by rw [shufOpt, idL, show ((k : Int) - 1).toNat = k - 1 by omega], j8, jg, j5, hlr⟩
      case round =>
        rename_i wr
        clear j8 jg j5 hlr
        obtain ⟨ii, l, t, rfl, hi0, hi1, hll, ht, hgo, j8, jg, j5, hlr⟩ := hrel
        have HGO := Lib.hid hgo
        clear hgo hs
        by_cases h1 : 1 ≤ ii
        · obtain ⟨i0, rfl⟩ := Int.eq_ofNat_of_zero_le (show 0 ≤ ii by omega)
          have hi : 1 ≤ i0 := by omega
          obtain ⟨m, hN⟩ : ∃ m, ShN i0 k m := ⟨_, shN i0 k hi (by omega) hn⟩
          obtain ⟨m1, m2, hm, e1, e2, e3, e4⟩ := hN
          have HB := fun W h => below_any g t m ht m1 m2 W h
          obtain ⟨o, ho⟩ : ∃ o, chBel t m = o := ⟨_, rfl⟩
          unfold belR belEn belT at HB
          rw [ho] at HB
          obtain ⟨r, hr⟩ : ∃ r, optR m o = r := ⟨_, rfl⟩
          obtain ⟨en, hen⟩ : ∃ en, optE o = en := ⟨_, rfl⟩
          obtain ⟨t', ht'⟩ : ∃ t', optT (chAfter chNext 200 t) o = t' := ⟨_, rfl⟩
          rw [hr, hen, ht'] at HB
          have HO := Lib.hid (show chBel t m = o ∧ optR m o = r ∧ optE o = en ∧ optT (chAfter chNext 200 t) o = t' ∧ m = i0 + 1 ∧ t < 18446744073709551616 from ⟨ho, hr, hen, ht', hm, ht⟩)
          clear ho hr hen ht' hm ht
          have hmi : (m : Int) = (i0 : Int) + 1 := by have := HO.out.2.2.2.2.1; omega
          rw [hmi] at HB
          go_wp2_with fail
          refine (HB wr jg).mono ?_
          rintro e W5 ⟨rfl, jg5, lp5⟩
          have hgz : z5 ≠ g := by omega
          have hg8 : g8 ≠ g := by omega
          have j85 := j8.keepP lp5 hg8
          have j55 := j5.keepP lp5 hgz
          have L5 := lp5.lat hlr (by rintro k rfl; omega)
          clear HB lp5 jg j8 j5 hlr e1 e2 hmi
          go_upto_region 14 with (fail)
          obtain ⟨h1o, h2o, h3o, h4o, h5o, h6o⟩ := HO.out
          cases o with
          | none =>
            have hg0 := HGO.out
            rw [Int.toNat_natCast, shufGo_no (l := l) hi h5o h1o] at hg0
            have HN := Lib.hid hg0
            rw [optR] at h2o
            rw [optE] at h3o
            subst h2o h3o
            clear h1o h4o h5o h6o HO HGO hg0
            have d5 : W5.cell? ⟨z5, 0, none⟩ = some (.int .u64 0) := j55.cell 0
            have f5 := j55.frozen 0
            have lt5 := j55.lt
            go_wp2
            refine name_set (Q := fun W => bodyPost _ _ _ _ _ W) j55 ?_
            intro W6 k6 _ _ lp6
            have g0 : W6.cell? ⟨z5, 0, none⟩ = some (.int .u64 0) := k6.cell 0
            refine bodyPost_ret (v := .tuple #[.slice none 0 0, .agg #[.int .u64 0], .int .i64 9]) (by simp [results, Try.results9, go_sem, g0]) rfl ?_
            rw [← HN.out]
            exact .inl ⟨rfl, rfl, lp6.lat L5 (by rintro k rfl; omega)⟩
          | some q =>
            have hg0 := HGO.out
            rw [Int.toNat_natCast, shufGo_yes (l := l) hi h5o h1o] at hg0
            have ht' := chBel_lt h1o
            rw [optR] at h2o
            rw [optE] at h3o
            rw [optT] at h4o
            have hjl : q.1 % m < m := Nat.mod_lt _ (by omega)
            obtain ⟨j, hj⟩ : ∃ j, q.1 % m = j := ⟨_, rfl⟩
            rw [hj] at h2o hg0 hjl
            rw [h4o] at hg0 ht'
            subst h2o h3o
            have hik : i0 < k := by omega
            have hjk : j < k := by omega
            have HG2 := Lib.hid hg0
            clear h1o h4o h6o HO HGO hj hg0
            have LD := Lat.drew W5
            have j86 := j85.later LD
            have j56 := j55.later LD
            have jg6 := jg5.later LD
            have L6 := L5.trans LD
            clear j85 j55 jg5 L5
            go_upto_region 16 with (fail)
            refine wp_region_held_drew (S := fun _ => True) (by kernel_rfl) trivial (fun hHeld => ?_)
            generalize W5.drew = V0 at j86 j56 jg6 L6 LD hHeld ⊢
            obtain ⟨xi, hxi, ci, fi⟩ := j86.slot (i := i0) (by omega)
            obtain ⟨xj, hxj, cj, fj⟩ := j86.slot (i := j) (by omega)
            have h8 := j86.lt
            have hikI : (i0 : Int) < (k : Int) := by omega
            have hjkI : (j : Int) < (k : Int) := by omega
            refine wpAnyH_take (i := 0) (v := .slice (some ⟨g8, 0, none⟩) k k) rfl (by kernel_rfl) (by kernel_rfl) (by kernel_rfl) (fun _ _ _ h => h) (Or.inl ⟨by rfl, by intro w' hS; go_simp⟩) hHeld ?_
            simp only [Act.put, List.getElem_toArray, List.getElem_cons_succ, List.getElem_cons_zero, List.setIfInBounds_toArray, List.set_cons_zero, List.set_cons_succ]
            refine wpAnyH_take (i := 1) (v := .int .i64 (i0 : Int)) rfl (by kernel_rfl) (by kernel_rfl) (by kernel_rfl) (fun _ _ _ h => h) (Or.inl ⟨by rfl, by intro w' hS; go_simp⟩) hHeld ?_
            simp only [Act.put, List.getElem_toArray, List.getElem_cons_succ, List.getElem_cons_zero, List.setIfInBounds_toArray, List.set_cons_zero, List.set_cons_succ]
            refine wpAnyH_take (i := 2) (v := .slice (some ⟨g8, 0, none⟩) k k) rfl (by kernel_rfl) (by kernel_rfl) (by kernel_rfl) (fun _ _ _ h => h) (Or.inl ⟨by rfl, by intro w' hS; go_simp⟩) hHeld ?_
            simp only [Act.put, List.getElem_toArray, List.getElem_cons_succ, List.getElem_cons_zero, List.setIfInBounds_toArray, List.set_cons_zero, List.set_cons_succ]
            refine wpAnyH_take (i := 3) (v := .int .u64 (j : Int)) rfl (by kernel_rfl) (by kernel_rfl) (by kernel_rfl) (fun _ _ _ h => h) (Or.inl ⟨by rfl, by intro w' hS; go_simp⟩) hHeld ?_
            simp only [Act.put, List.getElem_toArray, List.getElem_cons_succ, List.getElem_cons_zero, List.setIfInBounds_toArray, List.set_cons_zero, List.set_cons_succ]
            refine wpAnyH_take (i := 4) (v := .slice (some ⟨g8, 0, none⟩) k k) rfl (by kernel_rfl) (by kernel_rfl) (by kernel_rfl) (fun _ _ _ h => h) (Or.inl ⟨by rfl, by intro w' hS; go_simp⟩) hHeld ?_
            simp only [Act.put, List.getElem_toArray, List.getElem_cons_succ, List.getElem_cons_zero, List.setIfInBounds_toArray, List.set_cons_zero, List.set_cons_succ]
            refine wpAnyH_take (i := 5) (v := .int .u64 (j : Int)) rfl (by kernel_rfl) (by kernel_rfl) (by kernel_rfl) (fun _ _ _ h => h) (Or.inl ⟨by rfl, by intro w' hS; go_simp⟩) hHeld ?_
            simp only [Act.put, List.getElem_toArray, List.getElem_cons_succ, List.getElem_cons_zero, List.setIfInBounds_toArray, List.set_cons_zero, List.set_cons_succ]
            refine wpAnyH_take (i := 6) (v := .pointer (some ⟨g8, j, none⟩)) rfl (by kernel_rfl) (by kernel_rfl) (by kernel_rfl) (fun _ _ _ h => h) (Or.inl ⟨by rfl, by intro w' hS; go_simp⟩) hHeld ?_
            simp only [Act.put, List.getElem_toArray, List.getElem_cons_succ, List.getElem_cons_zero, List.setIfInBounds_toArray, List.set_cons_zero, List.set_cons_succ]
            refine wpAnyH_take (i := 8) (v := .slice (some ⟨g8, 0, none⟩) k k) rfl (by kernel_rfl) (by kernel_rfl) (by kernel_rfl) (fun _ _ _ h => h) (Or.inl ⟨by rfl, by intro w' hS; go_simp⟩) hHeld ?_
            simp only [Act.put, List.getElem_toArray, List.getElem_cons_succ, List.getElem_cons_zero, List.setIfInBounds_toArray, List.set_cons_zero, List.set_cons_succ]
            refine wpAnyH_take (i := 9) (v := .int .i64 (i0 : Int)) rfl (by kernel_rfl) (by kernel_rfl) (by kernel_rfl) (fun _ _ _ h => h) (Or.inl ⟨by rfl, by intro w' hS; go_simp⟩) hHeld ?_
            simp only [Act.put, List.getElem_toArray, List.getElem_cons_succ, List.getElem_cons_zero, List.setIfInBounds_toArray, List.set_cons_zero, List.set_cons_succ]
            refine wpAnyH_take (i := 10) (v := .pointer (some ⟨g8, i0, none⟩)) rfl (by kernel_rfl) (by kernel_rfl) (by kernel_rfl) (fun _ _ _ h => h) (Or.inl ⟨by rfl, by intro w' hS; go_simp⟩) hHeld ?_
            simp only [Act.put, List.getElem_toArray, List.getElem_cons_succ, List.getElem_cons_zero, List.setIfInBounds_toArray, List.set_cons_zero, List.set_cons_succ]
            refine wpAnyH_ready (rs := [7, 11]) (by kernel_rfl) (by simp) (AllReadyH.cons rfl (fun K hK => ?_) (AllReadyH.cons rfl (fun K hK => ?_) AllReadyH.nil))
            · skip
              go_simp
              refine hK.out _ _ trivial (fun hHeld1 => ?_)
              clear hK K
              try simp only [Act.put, List.getElem_toArray, List.getElem_cons_succ, List.getElem_cons_zero, List.setIfInBounds_toArray, List.set_cons_zero, List.set_cons_succ]
              refine wpAnyH_ready (rs := [11]) (by kernel_rfl) (by simp) (AllReadyH.cons rfl (fun K hK => ?_) AllReadyH.nil)
              go_simp
              refine hK.out _ _ trivial (fun hHeld2 => ?_)
              clear hK K
              try simp only [Act.put, List.getElem_toArray, List.getElem_cons_succ, List.getElem_cons_zero, List.setIfInBounds_toArray, List.set_cons_zero, List.set_cons_succ]
              refine wpAnyH_take (i := 12) (v := .pointer (some ⟨g8, i0, none⟩)) rfl (by kernel_rfl) (by kernel_rfl) (by kernel_rfl) (fun _ _ _ h => h) (Or.inl ⟨by rfl, by intro w' hS; go_simp⟩) hHeld2 ?_
              simp only [Act.put, List.getElem_toArray, List.getElem_cons_succ, List.getElem_cons_zero, List.setIfInBounds_toArray, List.set_cons_zero, List.set_cons_succ]
              refine wpAnyH_ready (rs := [13]) (by kernel_rfl) (by simp) (AllReadyH.cons rfl (fun K hK => ?_) AllReadyH.nil)
              go_simp
              have j87 := j86.put i0 xj
              have j57 := j56.far (p := ⟨g8, i0, none⟩) (by simp; omega) (.int .i64 xj)
              have jg7 := jg6.far (p := ⟨g8, i0, none⟩) (by simp; omega) (.int .i64 xj)
              have L7 := L6.setCell (p := ⟨g8, i0, none⟩) (by simp; omega) (.int .i64 xj)
              obtain ⟨V1, hV1⟩ : ∃ V, V0.setCell ⟨g8, i0, none⟩ (.int .i64 xj) = V := ⟨_, rfl⟩
              rw [hV1] at j87 j57 jg7 L7 ⊢
              clear hV1 ci fi cj fj
              obtain ⟨xk, hxk, cj, fj⟩ := j87.slot (i := j) (by rw [List.length_set]; omega)
              have h9 := j87.lt
              refine hK.out _ _ trivial (fun hHeld3 => ?_)
              clear hK K
              try simp only [Act.put, List.getElem_toArray, List.getElem_cons_succ, List.getElem_cons_zero, List.setIfInBounds_toArray, List.set_cons_zero, List.set_cons_succ]
              refine wpAnyH_take (i := 14) (v := .pointer (some ⟨g8, j, none⟩)) rfl (by kernel_rfl) (by kernel_rfl) (by kernel_rfl) (fun _ _ _ h => h) (Or.inl ⟨by rfl, by intro w' hS; go_simp⟩) hHeld3 ?_
              simp only [Act.put, List.getElem_toArray, List.getElem_cons_succ, List.getElem_cons_zero, List.setIfInBounds_toArray, List.set_cons_zero, List.set_cons_succ]
              refine wpAnyH_ready (rs := [15]) (by kernel_rfl) (by simp) (AllReadyH.cons rfl (fun K hK => ?_) AllReadyH.nil)
              go_simp
              have j88 := j87.put j xi
              have j58 := j57.far (p := ⟨g8, j, none⟩) (by simp; omega) (.int .i64 xi)
              have jg8 := jg7.far (p := ⟨g8, j, none⟩) (by simp; omega) (.int .i64 xi)
              have L8 := L7.setCell (p := ⟨g8, j, none⟩) (by simp; omega) (.int .i64 xi)
              obtain ⟨V2, hV2⟩ : ∃ V, V1.setCell ⟨g8, j, none⟩ (.int .i64 xi) = V := ⟨_, rfl⟩
              rw [hV2] at j88 j58 jg8 L8 ⊢
              clear hV2 cj fj hxk
              refine hK.out _ _ trivial (fun hHeld4 => ?_)
              clear hK K
              try simp only [Act.put, List.getElem_toArray, List.getElem_cons_succ, List.getElem_cons_zero, List.setIfInBounds_toArray, List.set_cons_zero, List.set_cons_succ]
              refine wpAnyH_done (by kernel_rfl) ?_ _
              have hsw : (l.set i0 xj).set j xi = swapL l i0 j := by unfold swapL; rw [hxi, hxj]; rfl
              rw [hsw] at j88
              go_wp2
              exact ⟨⟨(i0 : Int) - 1, swapL l i0 j, t', rfl, by omega, by omega, by rw [swapL_len]; exact hll, ht', by rw [show ((i0 : Int) - 1).toNat = i0 - 1 by omega]; exact HG2.out, j88, jg8, j58, L8⟩, by show ((i0 : Int) - 1).toNat < (i0 : Int).toNat; omega⟩
            · skip
              go_simp
              refine hK.out _ _ trivial (fun hHeld1 => ?_)
              clear hK K
              try simp only [Act.put, List.getElem_toArray, List.getElem_cons_succ, List.getElem_cons_zero, List.setIfInBounds_toArray, List.set_cons_zero, List.set_cons_succ]
              refine wpAnyH_ready (rs := [7]) (by kernel_rfl) (by simp) (AllReadyH.cons rfl (fun K hK => ?_) AllReadyH.nil)
              go_simp
              refine hK.out _ _ trivial (fun hHeld2 => ?_)
              clear hK K
              try simp only [Act.put, List.getElem_toArray, List.getElem_cons_succ, List.getElem_cons_zero, List.setIfInBounds_toArray, List.set_cons_zero, List.set_cons_succ]
              refine wpAnyH_take (i := 12) (v := .pointer (some ⟨g8, i0, none⟩)) rfl (by kernel_rfl) (by kernel_rfl) (by kernel_rfl) (fun _ _ _ h => h) (Or.inl ⟨by rfl, by intro w' hS; go_simp⟩) hHeld2 ?_
              simp only [Act.put, List.getElem_toArray, List.getElem_cons_succ, List.getElem_cons_zero, List.setIfInBounds_toArray, List.set_cons_zero, List.set_cons_succ]
              refine wpAnyH_ready (rs := [13]) (by kernel_rfl) (by simp) (AllReadyH.cons rfl (fun K hK => ?_) AllReadyH.nil)
              go_simp
              have j87 := j86.put i0 xj
              have j57 := j56.far (p := ⟨g8, i0, none⟩) (by simp; omega) (.int .i64 xj)
              have jg7 := jg6.far (p := ⟨g8, i0, none⟩) (by simp; omega) (.int .i64 xj)
              have L7 := L6.setCell (p := ⟨g8, i0, none⟩) (by simp; omega) (.int .i64 xj)
              obtain ⟨V1, hV1⟩ : ∃ V, V0.setCell ⟨g8, i0, none⟩ (.int .i64 xj) = V := ⟨_, rfl⟩
              rw [hV1] at j87 j57 jg7 L7 ⊢
              clear hV1 ci fi cj fj
              obtain ⟨xk, hxk, cj, fj⟩ := j87.slot (i := j) (by rw [List.length_set]; omega)
              have h9 := j87.lt
              refine hK.out _ _ trivial (fun hHeld3 => ?_)
              clear hK K
              try simp only [Act.put, List.getElem_toArray, List.getElem_cons_succ, List.getElem_cons_zero, List.setIfInBounds_toArray, List.set_cons_zero, List.set_cons_succ]
              refine wpAnyH_take (i := 14) (v := .pointer (some ⟨g8, j, none⟩)) rfl (by kernel_rfl) (by kernel_rfl) (by kernel_rfl) (fun _ _ _ h => h) (Or.inl ⟨by rfl, by intro w' hS; go_simp⟩) hHeld3 ?_
              simp only [Act.put, List.getElem_toArray, List.getElem_cons_succ, List.getElem_cons_zero, List.setIfInBounds_toArray, List.set_cons_zero, List.set_cons_succ]
              refine wpAnyH_ready (rs := [15]) (by kernel_rfl) (by simp) (AllReadyH.cons rfl (fun K hK => ?_) AllReadyH.nil)
              go_simp
              have j88 := j87.put j xi
              have j58 := j57.far (p := ⟨g8, j, none⟩) (by simp; omega) (.int .i64 xi)
              have jg8 := jg7.far (p := ⟨g8, j, none⟩) (by simp; omega) (.int .i64 xi)
              have L8 := L7.setCell (p := ⟨g8, j, none⟩) (by simp; omega) (.int .i64 xi)
              obtain ⟨V2, hV2⟩ : ∃ V, V1.setCell ⟨g8, j, none⟩ (.int .i64 xi) = V := ⟨_, rfl⟩
              rw [hV2] at j88 j58 jg8 L8 ⊢
              clear hV2 cj fj hxk
              refine hK.out _ _ trivial (fun hHeld4 => ?_)
              clear hK K
              try simp only [Act.put, List.getElem_toArray, List.getElem_cons_succ, List.getElem_cons_zero, List.setIfInBounds_toArray, List.set_cons_zero, List.set_cons_succ]
              refine wpAnyH_done (by kernel_rfl) ?_ _
              have hsw : (l.set i0 xj).set j xi = swapL l i0 j := by unfold swapL; rw [hxi, hxj]; rfl
              rw [hsw] at j88
              go_wp2
              exact ⟨⟨(i0 : Int) - 1, swapL l i0 j, t', rfl, by omega, by omega, by rw [swapL_len]; exact hll, ht', by rw [show ((i0 : Int) - 1).toNat = i0 - 1 by omega]; exact HG2.out, j88, jg8, j58, L8⟩, by show ((i0 : Int) - 1).toNat < (i0 : Int).toNat; omega⟩
        · have hg0 := HGO.out
          rw [show ii.toNat = 0 by omega, shufGo] at hg0
          have HN := Lib.hid hg0
          clear HGO hg0
          have c0 : wr.cell? ⟨g, 0, none⟩ = some (.int .u64 (t : Int)) := jg.cell 0
          have f3 := j5.frozen 0
          have d3 : wr.cell? ⟨z5, 0, none⟩ = some (.int .u64 0) := j5.cell 0
          have h3 := j5.lt
          have c1 : wr.drew.cell? ⟨g, 0, none⟩ = some (.int .u64 (t : Int)) := c0
          have hng : g ≠ z5 := by omega
          have hgl := jg.lt
          go_wp2_with fail
          go_region_held3 (fun w' => w'.cell? ⟨g, 0, none⟩ = some (.int .u64 (t : Int))) (first | (with_reducible assumption) | exact cell_off hng _ c1) (fail)
          all_goals
            go_wp2
            have e3 : ((wr.setCell ⟨z5, 0, none⟩ (.int .u64 (t : Int))).drew).cell? ⟨z5, 0, none⟩ = some (.int .u64 (t : Int)) := by
              have := (j5.set 0 (.int .u64 (t : Int))).cell 0
              simpa using this
            have j9 : Blk ((wr.setCell ⟨z5, 0, none⟩ (.int .u64 (t : Int))).drew) g8 3 (nums .i64 l) := (j8.far (p := ⟨z5, 0, none⟩) (by simp; omega) _).later (Lat.drew _)
            have LF : Lat w ((wr.setCell ⟨z5, 0, none⟩ (.int .u64 (t : Int))).drew) := (hlr.setCell (p := ⟨z5, 0, none⟩) (by simp; omega) _).trans (Lat.drew _)
            refine bodyPost_ret (v := .tuple #[.slice (some ⟨g8, 0, none⟩) k k, .agg #[.int .u64 (t : Int)], .int .i64 0]) (by simp [results, Try.results9, go_sem, e3]) rfl ?_
            rw [← HN.out]
            exact .inr ⟨l, t, g8, rfl, hll, rfl, j9, by omega, LF⟩

set_option maxRecDepth 100000 in
set_option maxHeartbeats 4000000 in
theorem shuffle_low (s : Nat) (n : Int) (h : n < 0) (w : World) : Calls Try.prog 9 #[.agg #[.int .u64 s], .int .i64 n] w (fun e w' => e = .returned (.tuple #[.slice none 0 0, .agg #[.int .u64 0], .int .i64 2]) ∧ Lat w w') := by
  have h0 : decide (n < 0) = true := decide_eq_true h
  go_enter Try.func9, Try.ntmps9
  go_wp2
  refine name2 (Q := fun W => bodyPost _ _ _ _ _ W) ?_
  intro W l1 hs k1 k2
  have g0 : W.cell? ⟨w.heap.size + 1, 0, none⟩ = some (.int .u64 0) := k2.cell 0
  refine bodyPost_ret (v := .tuple #[.slice none 0 0, .agg #[.int .u64 0], .int .i64 2]) (by simp [results, Try.results9, go_sem, g0]) rfl ?_
  exact ⟨rfl, l1⟩
end Go.Proofs.Ytogkkhaepfablaa
