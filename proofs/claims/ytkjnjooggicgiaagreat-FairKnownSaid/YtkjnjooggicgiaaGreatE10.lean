/- Several texts in one: FrT. -/
import Derived.Test.YtkjnjooggicgiaaGreatF02
import Derived.Test.YtkjnjooggicgiaaGreatF03
import Derived.Test.YtkjnjooggicgiaaGreatE04
import Derived.Test.YtkjnjooggicgiaaGreatJ26
import Derived.Test.YtkjnjooggicgiaaGreatE09
import Derived.Deep.DeepCutAuto

/- Fair: the bias, of fewer than 20 regions. -/
namespace Go.Proofs.YtkjnjooggicgiaaGreat
open Go.RowKit
set_option linter.unusedSimpArgs false

def s1 (l : List (Int × Int)) : Int := (l.map (·.1)).sum
def s2 (l : List (Int × Int)) : Int := (l.map (·.2)).sum
/-- The bias of the k first and last of the regions ys, as an upper and a lower part. -/
def biasNum (ys : List (Int × Int)) (k : Nat) : Int := s2 (ys.take k) * s1 (ys.drop (ys.length - k)) - s1 (ys.take k) * s2 (ys.drop (ys.length - k))
def biasDen (ys : List (Int × Int)) (k : Nat) : Int := s1 (ys.take k) * s2 (ys.drop (ys.length - k))
def bOk (ys : List (Int × Int)) (k : Int) : Bool := decide (1 ≤ k ∧ k ≤ (ys.length / 2 : Nat))
def biasE (P S : List Int) (k : Int) : Int := if hallE P S = 0 then (if bOk (bSort (P.zip S)) k = true then (if biasDen (bSort (P.zip S)) k.toNat = 0 then 7 else 0) else 2) else hallE P S
def biasX (P S : List Int) (k : Int) : Array Value := if hallE P S = 0 ∧ bOk (bSort (P.zip S)) k = true then gapX (biasNum (bSort (P.zip S)) k.toNat) (biasDen (bSort (P.zip S)) k.toNat) else zA
theorem bSort_len (xs : List (Int × Int)) : (bSort xs).length = (bKeep xs).length := sortR_length _ _
theorem Blk.off {w : World} {g k : Nat} {t : TypeId} {cs : Array Value} {vs : List Value} (h : Blk w g t cs) (hk : g ≠ k) (o : Nat) : Blk (w.setCells k o vs) g t cs := (heap_setCells hk vs w o).trans h

theorem lat_over {g : Nat} {w w2 w4 : World} (h : LatP (· = g) w2 w4) (l : Lat w w2) (hg : w.heap.size ≤ g) : Lat w w4 :=
  ⟨h.os.trans (Below.os l), h.tape.trans (Below.tape l), h.output.trans (Below.output l), Nat.le_trans l.size h.size, fun k hk => (h.block k (Nat.lt_of_lt_of_le hk l.size) (Nat.ne_of_lt (Nat.lt_of_lt_of_le hk hg))).trans (Below.block l k hk)⟩
/-- What the second half of Bias needs. -/
structure BiasIn (ys : List (Int × Int)) (k : Nat) : Prop where
  k1 : 1 ≤ k
  k2 : k ≤ ys.length / 2
  few : ys.length < 20
  p : ∀ x ∈ ys, 0 ≤ x.1 ∧ x.1 ≤ 1000000000
  s : ∀ x ∈ ys, 0 ≤ x.2 ∧ x.2 ≤ 1000
theorem s_bound {l : List (Int × Int)} (hp : ∀ x ∈ l, 0 ≤ x.1 ∧ x.1 ≤ 1000000000) (hs : ∀ x ∈ l, 0 ≤ x.2 ∧ x.2 ≤ 1000) (hl : l.length < 20) : (0 ≤ s1 l ∧ s1 l ≤ 20000000000) ∧ 0 ≤ s2 l ∧ s2 l ≤ 20000 := by
  have h1 := sum_bound (xs := l.map (·.1)) (by intro x hx; obtain ⟨y, hy, rfl⟩ := List.mem_map.1 hx; exact hp y hy)
  have h2 : 0 ≤ (l.map (·.2)).sum ∧ (l.map (·.2)).sum ≤ 1000 * (l.map (·.2)).length := by
    clear h1 hp hl
    induction l with
    | nil => simp
    | cons y r ih =>
      have h3 := hs y (by simp)
      have h4 := ih (fun x hx => hs x (by simp [hx]))
      simp only [List.map_cons, List.sum_cons, List.length_cons]
      omega
  rw [List.length_map] at h1 h2
  unfold s1 s2
  omega
theorem own_some {w : World} {B m : Nat} {E : TypeId} {v : Value} {xs : List (List Value)} (h : OwnM w B E m v xs) (hne : xs ≠ []) : ∃ g c, v = .slice (some ⟨g, 0, none⟩) xs.length c ∧ B ≤ g ∧ xs.length ≤ c := by
  rcases h.2.2 with ⟨_, h0⟩ | ⟨g, cap, cur, e, hb, hg, hnc, _⟩
  · exact absurd (List.eq_nil_of_length_eq_zero h0) hne
  · exact ⟨g, cap, e, hb, hnc⟩
theorem prs_one (xs : List (Int × Int)) : ∀ x ∈ prs xs, ∀ v ∈ x, v.oneCell' = true := by
  intro x hx v hv
  obtain ⟨a, b, _, rfl⟩ := prs_mem hx
  simp at hv
  rcases hv with rfl | rfl <;> rfl
theorem bias_nums {k L c : Nat} (h1 : 1 ≤ k) (h2 : k ≤ L / 2) (h3 : L < 20) (hc : L ≤ c) :
    ((k : Int) < 1 ↔ False) ∧ ¬ ((L : Int) / 2 < (k : Int)) ∧ k ≤ L ∧ (L : Int) - (k : Int) = ((L - k : Nat) : Int) ∧ k ≤ c ∧ L - k ≤ c ∧ (k : Int) ≤ (c : Int) ∧ ((L - k : Nat) : Int) ≤ (L : Int) ∧ L - (L - k) = k ∧ wrap64 ((L - k : Nat) : Int) = ((L - k : Nat) : Int) ∧ IntKind.i64.wrap ((L - k : Nat) : Int) = ((L - k : Nat) : Int) ∧ wrap64 ((L : Int) - (k : Int)) = ((L - k : Nat) : Int) ∧ IntKind.i64.wrap ((L : Int) - (k : Int)) = ((L - k : Nat) : Int) := by
  have e : (L : Int) - (k : Int) = ((L - k : Nat) : Int) := by omega
  have w1 : wrap64 ((L - k : Nat) : Int) = ((L - k : Nat) : Int) := IntWalk.wrap64_in _ (by omega)
  have w2 : IntKind.i64.wrap ((L - k : Nat) : Int) = ((L - k : Nat) : Int) := IntWalk.i64_in _ (by omega)
  exact ⟨⟨fun h => by omega, False.elim⟩, by omega, by omega, e, by omega, by omega, by omega, by omega, by omega, w1, w2, by rw [e]; exact w1, by rw [e]; exact w2⟩

set_option maxRecDepth 100000 in
set_option maxHeartbeats 8000000 in
/-- The walk, over contracts. -/
theorem fBias_walk (A1 : Option Addr) (n1 c1 : Nat) (A2 : Option Addr) (n2 c2 : Nat) (k L D nx : Nat) (H sp ss mp ms lp ls q1 q2 er : Int) (X : Array Value) (b : Bool) (xs zs ys : List (List Value)) (w : World)
    (HH : ∀ w1, Lat w w1 → Calls Tryz.prog 13 #[.slice A1 n1 c1, .slice A2 n2 c2] w1 (fun e w' => ∃ g c, e = .returned (.tuple #[.slice (some ⟨g, 0, none⟩) nx c, .agg #[.int .i64 sp, .int .i64 ss], .int .i64 0]) ∧ Lat w1 w' ∧ w1.heap.size ≤ g ∧ nx ≤ c ∧ RowB w' g 49 2 xs))
    (HDel : ∀ w g c, RowB w g 49 2 xs → nx ≤ c → Calls Tryz.prog 17 #[.slice (some ⟨g, 0, none⟩) nx c, .func (.func 18) #[] #[]] w
      (fun e w' => e = .returned (.slice (some ⟨g, 0, none⟩) L c) ∧ RowB w' g 49 2 zs ∧ LatP (· = g) w w'))
    (HSort : ∀ w g c, RowB w g 49 2 zs → Calls Tryz.prog 19 #[.slice (some ⟨g, 0, none⟩) L c, .func (.func 20) #[] #[]] w (fRegSortPost w g ys))
    (HTot1 : ∀ w g c, RowB w g 49 2 ys → Calls Tryz.prog 21 #[.slice (some ⟨g, 0, none⟩) k c] w (fun e w' => e = .returned (.agg #[.int .i64 mp, .int .i64 ms]) ∧ Lat w w'))
    (HTot2 : ∀ w g c, RowB w g 49 2 ys → Calls Tryz.prog 21 #[.slice (some ⟨g, D * 2, none⟩) k c] w (fun e w' => e = .returned (.agg #[.int .i64 lp, .int .i64 ls]) ∧ Lat w w'))
    (HP1 : ∀ (w : World) (g : Nat), Blk w g 3 #[.int .i64 ms, .int .i64 lp] → Calls Tryz.prog 23 #[.slice (some ⟨g, 0, none⟩) 2 2] w (fun e w' => e = .returned (.int .i64 q1) ∧ w = w'))
    (HP2 : ∀ (w : World) (g : Nat), Blk w g 3 #[.int .i64 mp, .int .i64 ls] → Calls Tryz.prog 23 #[.slice (some ⟨g, 0, none⟩) 2 2] w (fun e w' => e = .returned (.int .i64 q2) ∧ w = w'))
    (HGap : ∀ w, Calls Tryz.prog 22 #[.int .i64 q1, .int .i64 q2, .int .i64 1, .int .i64 1] w (ShB w X b))
    (gX : GoodX X) (HZ : Hid (b = false → X = zA ∧ er = 7)) (HY : Hid (b = true → er = 0)) (hLx : L ≤ nx)
    (f1 : (k : Int) < 1 ↔ False) (f2 : (k : Int) ≤ H) (f3 : wrap64 H = H) (f4 : IntKind.i64.wrap H = H) (f5 : Int.tdiv (L : Int) 2 = (L : Int) / 2)
    (f6 : (L : Int) / 2 = H) (HD1 : Hid ((L : Int) - (k : Int) = (D : Int))) (HD2 : Hid (k ≤ L)) (HD3 : Hid (L - D = k)) (HD4 : Hid (D ≤ L)) (HD5 : Hid (wrap64 (D : Int) = (D : Int))) (HD6 : Hid (IntKind.i64.wrap (D : Int) = (D : Int))) :
    Calls Tryz.prog 7 #[.slice A1 n1 c1, .slice A2 n2 c2, .int .i64 k] w (ShR w X er) := by
  go_enter Tryz.func7, Tryz.ntmps7
  go_wp2_with fail
  refine name1 (Q := fun W => Calls _ _ _ W _) ?_
  intro W hl hsz kR
  refine (HH W hl).mono ?_
  rintro e w1 ⟨g, c, rfl, l1, hg, hc, RB⟩
  have KR := kR.later l1
  have L1 := hl.trans l1
  have hgR : w.heap.size < g := Nat.lt_of_lt_of_le kR.lt hg
  clear kR hl l1 hsz HH
  go_wp2_with fail
  refine name1 (Q := fun W => Calls _ _ _ W _) ?_
  intro w2 l2 hs2 k9
  have RB2 := RB.later l2
  have KR2 := KR.later l2
  have L2 := L1.trans l2
  have HD := HDel w2 g c RB2 hc
  refine HD.mono ?_
  rintro e w3 ⟨rfl, RB3, lp3⟩
  clear HD
  go_wp2_with fail
  refine (HSort w3 g c RB3).mono ?_
  rintro e w4 ⟨⟨v, rfl⟩, RB4, lp4⟩
  have RBx := RB4
  have L3 : Lat w w4 := lat_over (lp3.trans lp4) L2 (Nat.le_of_lt hgR)
  have KRy := (KR2.keepP lp3 (Nat.ne_of_lt hgR)).keepP lp4 (Nat.ne_of_lt hgR)
  go_upto_region 8 with (fail)
  go_cut [11, 12] (fun s11 s12 wx => ∃ g1 g2 : Nat, s11 = .pointer (some ⟨g1, 0, none⟩) ∧ s12 = .pointer (some ⟨g2, 0, none⟩) ∧ Blk wx g1 49 #[.int .i64 mp, .int .i64 ms] ∧ Blk wx g2 49 #[.int .i64 lp, .int .i64 ls] ∧ Lat w4 wx)
  case first =>
    have L0 := Lat.drew w4
    have hkc : (k : Int) ≤ (c : Int) := by have := HD2.out; omega
    have hcD : c ≠ D := by
      have h1 := HD1.out
      intro h
      exact f1.1 (by omega)
    refine wp_region_held_drew (S := fun w' => Lat w4 w') (by kernel_rfl) L0 (fun hHeld => ?_)
    generalize w4.drew = V0 at L0 hHeld ⊢
    refine wpAnyH_take (i := 0) (v := .slice (some ⟨g, 0, none⟩) L c) rfl (by kernel_rfl) (by kernel_rfl) (by kernel_rfl) (fun _ _ _ h => h) (Or.inl ⟨by rfl, by intro w' hS; go_simp⟩) hHeld ?_
    simp only [Act.put, List.getElem_toArray, List.getElem_cons_succ, List.getElem_cons_zero, List.setIfInBounds_toArray, List.set_cons_zero, List.set_cons_succ]
    refine wpAnyH_take (i := 1) (v := .int .i64 k) rfl (by kernel_rfl) (by kernel_rfl) (by kernel_rfl) (fun _ _ _ h => h) (Or.inl ⟨by rfl, by intro w' hS; go_simp⟩) hHeld ?_
    simp only [Act.put, List.getElem_toArray, List.getElem_cons_succ, List.getElem_cons_zero, List.setIfInBounds_toArray, List.set_cons_zero, List.set_cons_succ]
    refine wpAnyH_take (i := 2) (v := .slice (some ⟨g, 0, none⟩) k c) rfl (by kernel_rfl) (by kernel_rfl) (by kernel_rfl) (fun _ _ _ h => h) (Or.inl ⟨by rfl, by intro w' hS; go_simp⟩) hHeld ?_
    simp only [Act.put, List.getElem_toArray, List.getElem_cons_succ, List.getElem_cons_zero, List.setIfInBounds_toArray, List.set_cons_zero, List.set_cons_succ]
    refine wpAnyH_take (i := 4) (v := .slice (some ⟨g, 0, none⟩) L c) rfl (by kernel_rfl) (by kernel_rfl) (by kernel_rfl) (fun _ _ _ h => h) (Or.inl ⟨by rfl, by intro w' hS; go_simp⟩) hHeld ?_
    simp only [Act.put, List.getElem_toArray, List.getElem_cons_succ, List.getElem_cons_zero, List.setIfInBounds_toArray, List.set_cons_zero, List.set_cons_succ]
    refine wpAnyH_take (i := 5) (v := .slice (some ⟨g, 0, none⟩) L c) rfl (by kernel_rfl) (by kernel_rfl) (by kernel_rfl) (fun _ _ _ h => h) (Or.inl ⟨by rfl, by intro w' hS; go_simp⟩) hHeld ?_
    simp only [Act.put, List.getElem_toArray, List.getElem_cons_succ, List.getElem_cons_zero, List.setIfInBounds_toArray, List.set_cons_zero, List.set_cons_succ]
    refine wpAnyH_take (i := 6) (v := .int .i64 L) rfl (by kernel_rfl) (by kernel_rfl) (by kernel_rfl) (fun _ _ _ h => h) (Or.inl ⟨by rfl, by intro w' hS; go_simp⟩) hHeld ?_
    simp only [Act.put, List.getElem_toArray, List.getElem_cons_succ, List.getElem_cons_zero, List.setIfInBounds_toArray, List.set_cons_zero, List.set_cons_succ]
    refine wpAnyH_take (i := 7) (v := .int .i64 k) rfl (by kernel_rfl) (by kernel_rfl) (by kernel_rfl) (fun _ _ _ h => h) (Or.inl ⟨by rfl, by intro w' hS; go_simp⟩) hHeld ?_
    simp only [Act.put, List.getElem_toArray, List.getElem_cons_succ, List.getElem_cons_zero, List.setIfInBounds_toArray, List.set_cons_zero, List.set_cons_succ]
    refine wpAnyH_take (i := 8) (v := .int .i64 D) rfl (by kernel_rfl) (by kernel_rfl) (by kernel_rfl) (fun _ _ _ h => h) (Or.inl ⟨by rfl, by intro w' hS; have e1 := HD1.out; have e5 := HD5.out; have e6 := HD6.out; go_simp⟩) hHeld ?_
    simp only [Act.put, List.getElem_toArray, List.getElem_cons_succ, List.getElem_cons_zero, List.setIfInBounds_toArray, List.set_cons_zero, List.set_cons_succ]
    refine wpAnyH_take (i := 9) (v := .slice (some ⟨g, D * 2, none⟩) k (c - D)) rfl (by kernel_rfl) (by kernel_rfl) (by kernel_rfl) (fun _ _ _ h => h) (Or.inl ⟨by rfl, by intro w' hS; have e1 := HD3.out; have e2 := HD4.out; have e3 : (D : Int) ≤ (L : Int) := Int.ofNat_le.2 HD4.out; have e4 : (L : Int) ≤ (c : Int) := Int.ofNat_le.2 (Nat.le_trans hLx hc); go_simp⟩) hHeld ?_
    simp only [Act.put, List.getElem_toArray, List.getElem_cons_succ, List.getElem_cons_zero, List.setIfInBounds_toArray, List.set_cons_zero, List.set_cons_succ]
    refine wpAnyH_ready (rs := [3, 11, 12]) (by kernel_rfl) (by simp) (AllReadyH.cons rfl (fun K hK => ?_) (AllReadyH.cons rfl (fun K hK => ?_) (AllReadyH.cons rfl (fun K hK => ?_) AllReadyH.nil)))
    · skip
      go_simp
      refine (HTot1 _ _ _ (RB4.later L0)).mono ?_
      rintro e V1 ⟨rfl, lg⟩
      have L1 := L0.trans lg
      clear lg
      refine hK.out _ _ L1 (fun hHeld1 => ?_)
      clear hK K
      try simp only [Act.put, List.getElem_toArray, List.getElem_cons_succ, List.getElem_cons_zero, List.setIfInBounds_toArray, List.set_cons_zero, List.set_cons_succ]
      refine wpAnyH_ready (rs := [10, 11, 12]) (by kernel_rfl) (by simp) (AllReadyH.cons rfl (fun K hK => ?_) (AllReadyH.cons rfl (fun K hK => ?_) (AllReadyH.cons rfl (fun K hK => ?_) AllReadyH.nil)))
      · skip
        go_simp
        refine (HTot2 _ _ _ (RB4.later L1)).mono ?_
        rintro e V2 ⟨rfl, lg⟩
        have L2 := L1.trans lg
        clear lg
        refine hK.out _ _ L2 (fun hHeld2 => ?_)
        clear hK K
        try simp only [Act.put, List.getElem_toArray, List.getElem_cons_succ, List.getElem_cons_zero, List.setIfInBounds_toArray, List.set_cons_zero, List.set_cons_succ]
        refine wpAnyH_ready (rs := [11, 12]) (by kernel_rfl) (by simp) (AllReadyH.cons rfl (fun K hK => ?_) (AllReadyH.cons rfl (fun K hK => ?_) AllReadyH.nil))
        · skip
          go_simp
          have b11 := Blk.new V2 49 #[.int .i64 0, .int .i64 0]
          have La := Lat.alloc V2 (.cells #[.int .i64 0, .int .i64 0] 49)
          have s11 := L2.size
          obtain ⟨V3, hV⟩ : ∃ V, V2.alloc (.cells #[.int .i64 0, .int .i64 0] 49) = V := ⟨_, rfl⟩
          rw [hV] at b11 La ⊢
          clear hV
          have L3 := L2.trans La
          refine hK.out _ _ L3 (fun hHeld3 => ?_)
          clear hK K
          try simp only [Act.put, List.getElem_toArray, List.getElem_cons_succ, List.getElem_cons_zero, List.setIfInBounds_toArray, List.set_cons_zero, List.set_cons_succ]
          clear La
          refine wpAnyH_ready (rs := [12]) (by kernel_rfl) (by simp) (AllReadyH.cons rfl (fun K hK => ?_) AllReadyH.nil)
          have nn := b11.lt
          go_simp
          have b12 := Blk.new V3 49 #[.int .i64 0, .int .i64 0]
          have La := Lat.alloc V3 (.cells #[.int .i64 0, .int .i64 0] 49)
          have s12 := L3.size
          obtain ⟨V4, hV⟩ : ∃ V, V3.alloc (.cells #[.int .i64 0, .int .i64 0] 49) = V := ⟨_, rfl⟩
          rw [hV] at b12 La ⊢
          clear hV
          have L4 := L3.trans La
          have b11 := b11.later La
          refine hK.out _ _ L4 (fun hHeld4 => ?_)
          clear hK K
          try simp only [Act.put, List.getElem_toArray, List.getElem_cons_succ, List.getElem_cons_zero, List.setIfInBounds_toArray, List.set_cons_zero, List.set_cons_succ]
          clear La
          refine wpAnyH_ready (rs := [13]) (by kernel_rfl) (by simp) (AllReadyH.cons rfl (fun K hK => ?_) AllReadyH.nil)
          rw [if_pos (by rfl)]
          refine wp_store_mid 49 (.tmp 11) (.tmp 43) rfl V2.heap.size 0 #[.int .i64 mp, .int .i64 ms] rfl rfl (b11.thereAll _ rfl) (by kernel_rfl) (by kernel_rfl) ?_
          have c11 := b11.setCells #[.int .i64 mp, .int .i64 ms] rfl
          have hne : V2.heap.size ≠ V3.heap.size := Nat.ne_of_lt nn
          have c12 := b12.off (vs := [.int .i64 mp, .int .i64 ms]) hne.symm 0
          have L9 : Lat w4 (V4.setCells V2.heap.size 0 [.int .i64 mp, .int .i64 ms]) := Lat.setCells s11 _ _ _ L4
          obtain ⟨V9, hV9⟩ : ∃ V, V4.setCells V2.heap.size 0 [.int .i64 mp, .int .i64 ms] = V := ⟨_, rfl⟩
          simp only [List.toArray] at c11
          rw [hV9] at c11 c12 L9 ⊢
          clear hV9
          refine hK.out _ _ L9 (fun hHeld5 => ?_)
          clear hK K
          try simp only [Act.put, List.getElem_toArray, List.getElem_cons_succ, List.getElem_cons_zero, List.setIfInBounds_toArray, List.set_cons_zero, List.set_cons_succ]
          refine wpAnyH_ready (rs := [14]) (by kernel_rfl) (by simp) (AllReadyH.cons rfl (fun K hK => ?_) AllReadyH.nil)
          rw [if_pos (by rfl)]
          refine wp_store_mid 49 (.tmp 12) (.tmp 50) rfl V3.heap.size 0 #[.int .i64 lp, .int .i64 ls] rfl rfl (c12.thereAll _ rfl) (by kernel_rfl) (by kernel_rfl) ?_
          have d12 := c12.setCells #[.int .i64 lp, .int .i64 ls] rfl
          have d11 := c11.off (vs := [.int .i64 lp, .int .i64 ls]) hne 0
          have L10 : Lat w4 (V9.setCells V3.heap.size 0 [.int .i64 lp, .int .i64 ls]) := Lat.setCells s12 _ _ _ L9
          obtain ⟨V10, hV10⟩ : ∃ V, V9.setCells V3.heap.size 0 [.int .i64 lp, .int .i64 ls] = V := ⟨_, rfl⟩
          rw [hV10] at d11 d12 L10 ⊢
          clear hV10
          refine hK.out _ _ L10 (fun hHeld6 => ?_)
          clear hK K
          try simp only [Act.put, List.getElem_toArray, List.getElem_cons_succ, List.getElem_cons_zero, List.setIfInBounds_toArray, List.set_cons_zero, List.set_cons_succ]
          refine wpAnyH_done (by kernel_rfl) ?_ _
          go_wp2_with fail
          go_meet
          exact ⟨V2.heap.size, V3.heap.size, rfl, rfl, d11, d12, L10⟩
        · skip
          go_simp
          have b12 := Blk.new V2 49 #[.int .i64 0, .int .i64 0]
          have La := Lat.alloc V2 (.cells #[.int .i64 0, .int .i64 0] 49)
          have s12 := L2.size
          obtain ⟨V3, hV⟩ : ∃ V, V2.alloc (.cells #[.int .i64 0, .int .i64 0] 49) = V := ⟨_, rfl⟩
          rw [hV] at b12 La ⊢
          clear hV
          have L3 := L2.trans La
          refine hK.out _ _ L3 (fun hHeld3 => ?_)
          clear hK K
          try simp only [Act.put, List.getElem_toArray, List.getElem_cons_succ, List.getElem_cons_zero, List.setIfInBounds_toArray, List.set_cons_zero, List.set_cons_succ]
          clear La
          refine wpAnyH_ready (rs := [11]) (by kernel_rfl) (by simp) (AllReadyH.cons rfl (fun K hK => ?_) AllReadyH.nil)
          have nn := b12.lt
          go_simp
          have b11 := Blk.new V3 49 #[.int .i64 0, .int .i64 0]
          have La := Lat.alloc V3 (.cells #[.int .i64 0, .int .i64 0] 49)
          have s11 := L3.size
          obtain ⟨V4, hV⟩ : ∃ V, V3.alloc (.cells #[.int .i64 0, .int .i64 0] 49) = V := ⟨_, rfl⟩
          rw [hV] at b11 La ⊢
          clear hV
          have L4 := L3.trans La
          have b12 := b12.later La
          refine hK.out _ _ L4 (fun hHeld4 => ?_)
          clear hK K
          try simp only [Act.put, List.getElem_toArray, List.getElem_cons_succ, List.getElem_cons_zero, List.setIfInBounds_toArray, List.set_cons_zero, List.set_cons_succ]
          clear La
          refine wpAnyH_ready (rs := [13]) (by kernel_rfl) (by simp) (AllReadyH.cons rfl (fun K hK => ?_) AllReadyH.nil)
          rw [if_pos (by rfl)]
          refine wp_store_mid 49 (.tmp 11) (.tmp 43) rfl V3.heap.size 0 #[.int .i64 mp, .int .i64 ms] rfl rfl (b11.thereAll _ rfl) (by kernel_rfl) (by kernel_rfl) ?_
          have c11 := b11.setCells #[.int .i64 mp, .int .i64 ms] rfl
          have hne : V3.heap.size ≠ V2.heap.size := Nat.ne_of_gt nn
          have c12 := b12.off (vs := [.int .i64 mp, .int .i64 ms]) hne.symm 0
          have L9 : Lat w4 (V4.setCells V3.heap.size 0 [.int .i64 mp, .int .i64 ms]) := Lat.setCells s11 _ _ _ L4
          obtain ⟨V9, hV9⟩ : ∃ V, V4.setCells V3.heap.size 0 [.int .i64 mp, .int .i64 ms] = V := ⟨_, rfl⟩
          simp only [List.toArray] at c11
          rw [hV9] at c11 c12 L9 ⊢
          clear hV9
          refine hK.out _ _ L9 (fun hHeld5 => ?_)
          clear hK K
          try simp only [Act.put, List.getElem_toArray, List.getElem_cons_succ, List.getElem_cons_zero, List.setIfInBounds_toArray, List.set_cons_zero, List.set_cons_succ]
          refine wpAnyH_ready (rs := [14]) (by kernel_rfl) (by simp) (AllReadyH.cons rfl (fun K hK => ?_) AllReadyH.nil)
          rw [if_pos (by rfl)]
          refine wp_store_mid 49 (.tmp 12) (.tmp 50) rfl V2.heap.size 0 #[.int .i64 lp, .int .i64 ls] rfl rfl (c12.thereAll _ rfl) (by kernel_rfl) (by kernel_rfl) ?_
          have d12 := c12.setCells #[.int .i64 lp, .int .i64 ls] rfl
          have d11 := c11.off (vs := [.int .i64 lp, .int .i64 ls]) hne 0
          have L10 : Lat w4 (V9.setCells V2.heap.size 0 [.int .i64 lp, .int .i64 ls]) := Lat.setCells s12 _ _ _ L9
          obtain ⟨V10, hV10⟩ : ∃ V, V9.setCells V2.heap.size 0 [.int .i64 lp, .int .i64 ls] = V := ⟨_, rfl⟩
          rw [hV10] at d11 d12 L10 ⊢
          clear hV10
          refine hK.out _ _ L10 (fun hHeld6 => ?_)
          clear hK K
          try simp only [Act.put, List.getElem_toArray, List.getElem_cons_succ, List.getElem_cons_zero, List.setIfInBounds_toArray, List.set_cons_zero, List.set_cons_succ]
          refine wpAnyH_done (by kernel_rfl) ?_ _
          go_wp2_with fail
          go_meet
          exact ⟨V3.heap.size, V2.heap.size, rfl, rfl, d11, d12, L10⟩
      · skip
        go_simp
        have b11 := Blk.new V1 49 #[.int .i64 0, .int .i64 0]
        have La := Lat.alloc V1 (.cells #[.int .i64 0, .int .i64 0] 49)
        have s11 := L1.size
        obtain ⟨V2, hV⟩ : ∃ V, V1.alloc (.cells #[.int .i64 0, .int .i64 0] 49) = V := ⟨_, rfl⟩
        rw [hV] at b11 La ⊢
        clear hV
        have L2 := L1.trans La
        refine hK.out _ _ L2 (fun hHeld2 => ?_)
        clear hK K
        try simp only [Act.put, List.getElem_toArray, List.getElem_cons_succ, List.getElem_cons_zero, List.setIfInBounds_toArray, List.set_cons_zero, List.set_cons_succ]
        clear La
        refine wpAnyH_ready (rs := [10, 12]) (by kernel_rfl) (by simp) (AllReadyH.cons rfl (fun K hK => ?_) (AllReadyH.cons rfl (fun K hK => ?_) AllReadyH.nil))
        · skip
          go_simp
          refine (HTot2 _ _ _ (RB4.later L2)).mono ?_
          rintro e V3 ⟨rfl, lg⟩
          have L3 := L2.trans lg
          have b11 := b11.later lg
          clear lg
          refine hK.out _ _ L3 (fun hHeld3 => ?_)
          clear hK K
          try simp only [Act.put, List.getElem_toArray, List.getElem_cons_succ, List.getElem_cons_zero, List.setIfInBounds_toArray, List.set_cons_zero, List.set_cons_succ]
          refine wpAnyH_ready (rs := [12]) (by kernel_rfl) (by simp) (AllReadyH.cons rfl (fun K hK => ?_) AllReadyH.nil)
          have nn := b11.lt
          go_simp
          have b12 := Blk.new V3 49 #[.int .i64 0, .int .i64 0]
          have La := Lat.alloc V3 (.cells #[.int .i64 0, .int .i64 0] 49)
          have s12 := L3.size
          obtain ⟨V4, hV⟩ : ∃ V, V3.alloc (.cells #[.int .i64 0, .int .i64 0] 49) = V := ⟨_, rfl⟩
          rw [hV] at b12 La ⊢
          clear hV
          have L4 := L3.trans La
          have b11 := b11.later La
          refine hK.out _ _ L4 (fun hHeld4 => ?_)
          clear hK K
          try simp only [Act.put, List.getElem_toArray, List.getElem_cons_succ, List.getElem_cons_zero, List.setIfInBounds_toArray, List.set_cons_zero, List.set_cons_succ]
          clear La
          refine wpAnyH_ready (rs := [13]) (by kernel_rfl) (by simp) (AllReadyH.cons rfl (fun K hK => ?_) AllReadyH.nil)
          rw [if_pos (by rfl)]
          refine wp_store_mid 49 (.tmp 11) (.tmp 43) rfl V1.heap.size 0 #[.int .i64 mp, .int .i64 ms] rfl rfl (b11.thereAll _ rfl) (by kernel_rfl) (by kernel_rfl) ?_
          have c11 := b11.setCells #[.int .i64 mp, .int .i64 ms] rfl
          have hne : V1.heap.size ≠ V3.heap.size := Nat.ne_of_lt nn
          have c12 := b12.off (vs := [.int .i64 mp, .int .i64 ms]) hne.symm 0
          have L9 : Lat w4 (V4.setCells V1.heap.size 0 [.int .i64 mp, .int .i64 ms]) := Lat.setCells s11 _ _ _ L4
          obtain ⟨V9, hV9⟩ : ∃ V, V4.setCells V1.heap.size 0 [.int .i64 mp, .int .i64 ms] = V := ⟨_, rfl⟩
          simp only [List.toArray] at c11
          rw [hV9] at c11 c12 L9 ⊢
          clear hV9
          refine hK.out _ _ L9 (fun hHeld5 => ?_)
          clear hK K
          try simp only [Act.put, List.getElem_toArray, List.getElem_cons_succ, List.getElem_cons_zero, List.setIfInBounds_toArray, List.set_cons_zero, List.set_cons_succ]
          refine wpAnyH_ready (rs := [14]) (by kernel_rfl) (by simp) (AllReadyH.cons rfl (fun K hK => ?_) AllReadyH.nil)
          rw [if_pos (by rfl)]
          refine wp_store_mid 49 (.tmp 12) (.tmp 50) rfl V3.heap.size 0 #[.int .i64 lp, .int .i64 ls] rfl rfl (c12.thereAll _ rfl) (by kernel_rfl) (by kernel_rfl) ?_
          have d12 := c12.setCells #[.int .i64 lp, .int .i64 ls] rfl
          have d11 := c11.off (vs := [.int .i64 lp, .int .i64 ls]) hne 0
          have L10 : Lat w4 (V9.setCells V3.heap.size 0 [.int .i64 lp, .int .i64 ls]) := Lat.setCells s12 _ _ _ L9
          obtain ⟨V10, hV10⟩ : ∃ V, V9.setCells V3.heap.size 0 [.int .i64 lp, .int .i64 ls] = V := ⟨_, rfl⟩
          rw [hV10] at d11 d12 L10 ⊢
          clear hV10
          refine hK.out _ _ L10 (fun hHeld6 => ?_)
          clear hK K
          try simp only [Act.put, List.getElem_toArray, List.getElem_cons_succ, List.getElem_cons_zero, List.setIfInBounds_toArray, List.set_cons_zero, List.set_cons_succ]
          refine wpAnyH_done (by kernel_rfl) ?_ _
          go_wp2_with fail
          go_meet
          exact ⟨V1.heap.size, V3.heap.size, rfl, rfl, d11, d12, L10⟩
        · skip
          have nn := b11.lt
          go_simp
          have b12 := Blk.new V2 49 #[.int .i64 0, .int .i64 0]
          have La := Lat.alloc V2 (.cells #[.int .i64 0, .int .i64 0] 49)
          have s12 := L2.size
          obtain ⟨V3, hV⟩ : ∃ V, V2.alloc (.cells #[.int .i64 0, .int .i64 0] 49) = V := ⟨_, rfl⟩
          rw [hV] at b12 La ⊢
          clear hV
          have L3 := L2.trans La
          have b11 := b11.later La
          refine hK.out _ _ L3 (fun hHeld3 => ?_)
          clear hK K
          try simp only [Act.put, List.getElem_toArray, List.getElem_cons_succ, List.getElem_cons_zero, List.setIfInBounds_toArray, List.set_cons_zero, List.set_cons_succ]
          clear La
          refine wpAnyH_ready (rs := [10]) (by kernel_rfl) (by simp) (AllReadyH.cons rfl (fun K hK => ?_) AllReadyH.nil)
          go_simp
          refine (HTot2 _ _ _ (RB4.later L3)).mono ?_
          rintro e V4 ⟨rfl, lg⟩
          have L4 := L3.trans lg
          have b11 := b11.later lg
          have b12 := b12.later lg
          clear lg
          refine hK.out _ _ L4 (fun hHeld4 => ?_)
          clear hK K
          try simp only [Act.put, List.getElem_toArray, List.getElem_cons_succ, List.getElem_cons_zero, List.setIfInBounds_toArray, List.set_cons_zero, List.set_cons_succ]
          refine wpAnyH_ready (rs := [13]) (by kernel_rfl) (by simp) (AllReadyH.cons rfl (fun K hK => ?_) AllReadyH.nil)
          rw [if_pos (by rfl)]
          refine wp_store_mid 49 (.tmp 11) (.tmp 43) rfl V1.heap.size 0 #[.int .i64 mp, .int .i64 ms] rfl rfl (b11.thereAll _ rfl) (by kernel_rfl) (by kernel_rfl) ?_
          have c11 := b11.setCells #[.int .i64 mp, .int .i64 ms] rfl
          have hne : V1.heap.size ≠ V2.heap.size := Nat.ne_of_lt nn
          have c12 := b12.off (vs := [.int .i64 mp, .int .i64 ms]) hne.symm 0
          have L9 : Lat w4 (V4.setCells V1.heap.size 0 [.int .i64 mp, .int .i64 ms]) := Lat.setCells s11 _ _ _ L4
          obtain ⟨V9, hV9⟩ : ∃ V, V4.setCells V1.heap.size 0 [.int .i64 mp, .int .i64 ms] = V := ⟨_, rfl⟩
          simp only [List.toArray] at c11
          rw [hV9] at c11 c12 L9 ⊢
          clear hV9
          refine hK.out _ _ L9 (fun hHeld5 => ?_)
          clear hK K
          try simp only [Act.put, List.getElem_toArray, List.getElem_cons_succ, List.getElem_cons_zero, List.setIfInBounds_toArray, List.set_cons_zero, List.set_cons_succ]
          refine wpAnyH_ready (rs := [14]) (by kernel_rfl) (by simp) (AllReadyH.cons rfl (fun K hK => ?_) AllReadyH.nil)
          rw [if_pos (by rfl)]
          refine wp_store_mid 49 (.tmp 12) (.tmp 50) rfl V2.heap.size 0 #[.int .i64 lp, .int .i64 ls] rfl rfl (c12.thereAll _ rfl) (by kernel_rfl) (by kernel_rfl) ?_
          have d12 := c12.setCells #[.int .i64 lp, .int .i64 ls] rfl
          have d11 := c11.off (vs := [.int .i64 lp, .int .i64 ls]) hne 0
          have L10 : Lat w4 (V9.setCells V2.heap.size 0 [.int .i64 lp, .int .i64 ls]) := Lat.setCells s12 _ _ _ L9
          obtain ⟨V10, hV10⟩ : ∃ V, V9.setCells V2.heap.size 0 [.int .i64 lp, .int .i64 ls] = V := ⟨_, rfl⟩
          rw [hV10] at d11 d12 L10 ⊢
          clear hV10
          refine hK.out _ _ L10 (fun hHeld6 => ?_)
          clear hK K
          try simp only [Act.put, List.getElem_toArray, List.getElem_cons_succ, List.getElem_cons_zero, List.setIfInBounds_toArray, List.set_cons_zero, List.set_cons_succ]
          refine wpAnyH_done (by kernel_rfl) ?_ _
          go_wp2_with fail
          go_meet
          exact ⟨V1.heap.size, V2.heap.size, rfl, rfl, d11, d12, L10⟩
      · skip
        go_simp
        have b12 := Blk.new V1 49 #[.int .i64 0, .int .i64 0]
        have La := Lat.alloc V1 (.cells #[.int .i64 0, .int .i64 0] 49)
        have s12 := L1.size
        obtain ⟨V2, hV⟩ : ∃ V, V1.alloc (.cells #[.int .i64 0, .int .i64 0] 49) = V := ⟨_, rfl⟩
        rw [hV] at b12 La ⊢
        clear hV
        have L2 := L1.trans La
        refine hK.out _ _ L2 (fun hHeld2 => ?_)
        clear hK K
        try simp only [Act.put, List.getElem_toArray, List.getElem_cons_succ, List.getElem_cons_zero, List.setIfInBounds_toArray, List.set_cons_zero, List.set_cons_succ]
        clear La
        refine wpAnyH_ready (rs := [10, 11]) (by kernel_rfl) (by simp) (AllReadyH.cons rfl (fun K hK => ?_) (AllReadyH.cons rfl (fun K hK => ?_) AllReadyH.nil))
        · skip
          go_simp
          refine (HTot2 _ _ _ (RB4.later L2)).mono ?_
          rintro e V3 ⟨rfl, lg⟩
          have L3 := L2.trans lg
          have b12 := b12.later lg
          clear lg
          refine hK.out _ _ L3 (fun hHeld3 => ?_)
          clear hK K
          try simp only [Act.put, List.getElem_toArray, List.getElem_cons_succ, List.getElem_cons_zero, List.setIfInBounds_toArray, List.set_cons_zero, List.set_cons_succ]
          refine wpAnyH_ready (rs := [11]) (by kernel_rfl) (by simp) (AllReadyH.cons rfl (fun K hK => ?_) AllReadyH.nil)
          have nn := b12.lt
          go_simp
          have b11 := Blk.new V3 49 #[.int .i64 0, .int .i64 0]
          have La := Lat.alloc V3 (.cells #[.int .i64 0, .int .i64 0] 49)
          have s11 := L3.size
          obtain ⟨V4, hV⟩ : ∃ V, V3.alloc (.cells #[.int .i64 0, .int .i64 0] 49) = V := ⟨_, rfl⟩
          rw [hV] at b11 La ⊢
          clear hV
          have L4 := L3.trans La
          have b12 := b12.later La
          refine hK.out _ _ L4 (fun hHeld4 => ?_)
          clear hK K
          try simp only [Act.put, List.getElem_toArray, List.getElem_cons_succ, List.getElem_cons_zero, List.setIfInBounds_toArray, List.set_cons_zero, List.set_cons_succ]
          clear La
          refine wpAnyH_ready (rs := [13]) (by kernel_rfl) (by simp) (AllReadyH.cons rfl (fun K hK => ?_) AllReadyH.nil)
          rw [if_pos (by rfl)]
          refine wp_store_mid 49 (.tmp 11) (.tmp 43) rfl V3.heap.size 0 #[.int .i64 mp, .int .i64 ms] rfl rfl (b11.thereAll _ rfl) (by kernel_rfl) (by kernel_rfl) ?_
          have c11 := b11.setCells #[.int .i64 mp, .int .i64 ms] rfl
          have hne : V3.heap.size ≠ V1.heap.size := Nat.ne_of_gt nn
          have c12 := b12.off (vs := [.int .i64 mp, .int .i64 ms]) hne.symm 0
          have L9 : Lat w4 (V4.setCells V3.heap.size 0 [.int .i64 mp, .int .i64 ms]) := Lat.setCells s11 _ _ _ L4
          obtain ⟨V9, hV9⟩ : ∃ V, V4.setCells V3.heap.size 0 [.int .i64 mp, .int .i64 ms] = V := ⟨_, rfl⟩
          simp only [List.toArray] at c11
          rw [hV9] at c11 c12 L9 ⊢
          clear hV9
          refine hK.out _ _ L9 (fun hHeld5 => ?_)
          clear hK K
          try simp only [Act.put, List.getElem_toArray, List.getElem_cons_succ, List.getElem_cons_zero, List.setIfInBounds_toArray, List.set_cons_zero, List.set_cons_succ]
          refine wpAnyH_ready (rs := [14]) (by kernel_rfl) (by simp) (AllReadyH.cons rfl (fun K hK => ?_) AllReadyH.nil)
          rw [if_pos (by rfl)]
          refine wp_store_mid 49 (.tmp 12) (.tmp 50) rfl V1.heap.size 0 #[.int .i64 lp, .int .i64 ls] rfl rfl (c12.thereAll _ rfl) (by kernel_rfl) (by kernel_rfl) ?_
          have d12 := c12.setCells #[.int .i64 lp, .int .i64 ls] rfl
          have d11 := c11.off (vs := [.int .i64 lp, .int .i64 ls]) hne 0
          have L10 : Lat w4 (V9.setCells V1.heap.size 0 [.int .i64 lp, .int .i64 ls]) := Lat.setCells s12 _ _ _ L9
          obtain ⟨V10, hV10⟩ : ∃ V, V9.setCells V1.heap.size 0 [.int .i64 lp, .int .i64 ls] = V := ⟨_, rfl⟩
          rw [hV10] at d11 d12 L10 ⊢
          clear hV10
          refine hK.out _ _ L10 (fun hHeld6 => ?_)
          clear hK K
          try simp only [Act.put, List.getElem_toArray, List.getElem_cons_succ, List.getElem_cons_zero, List.setIfInBounds_toArray, List.set_cons_zero, List.set_cons_succ]
          refine wpAnyH_done (by kernel_rfl) ?_ _
          go_wp2_with fail
          go_meet
          exact ⟨V3.heap.size, V1.heap.size, rfl, rfl, d11, d12, L10⟩
        · skip
          have nn := b12.lt
          go_simp
          have b11 := Blk.new V2 49 #[.int .i64 0, .int .i64 0]
          have La := Lat.alloc V2 (.cells #[.int .i64 0, .int .i64 0] 49)
          have s11 := L2.size
          obtain ⟨V3, hV⟩ : ∃ V, V2.alloc (.cells #[.int .i64 0, .int .i64 0] 49) = V := ⟨_, rfl⟩
          rw [hV] at b11 La ⊢
          clear hV
          have L3 := L2.trans La
          have b12 := b12.later La
          refine hK.out _ _ L3 (fun hHeld3 => ?_)
          clear hK K
          try simp only [Act.put, List.getElem_toArray, List.getElem_cons_succ, List.getElem_cons_zero, List.setIfInBounds_toArray, List.set_cons_zero, List.set_cons_succ]
          clear La
          refine wpAnyH_ready (rs := [10]) (by kernel_rfl) (by simp) (AllReadyH.cons rfl (fun K hK => ?_) AllReadyH.nil)
          go_simp
          refine (HTot2 _ _ _ (RB4.later L3)).mono ?_
          rintro e V4 ⟨rfl, lg⟩
          have L4 := L3.trans lg
          have b12 := b12.later lg
          have b11 := b11.later lg
          clear lg
          refine hK.out _ _ L4 (fun hHeld4 => ?_)
          clear hK K
          try simp only [Act.put, List.getElem_toArray, List.getElem_cons_succ, List.getElem_cons_zero, List.setIfInBounds_toArray, List.set_cons_zero, List.set_cons_succ]
          refine wpAnyH_ready (rs := [13]) (by kernel_rfl) (by simp) (AllReadyH.cons rfl (fun K hK => ?_) AllReadyH.nil)
          rw [if_pos (by rfl)]
          refine wp_store_mid 49 (.tmp 11) (.tmp 43) rfl V2.heap.size 0 #[.int .i64 mp, .int .i64 ms] rfl rfl (b11.thereAll _ rfl) (by kernel_rfl) (by kernel_rfl) ?_
          have c11 := b11.setCells #[.int .i64 mp, .int .i64 ms] rfl
          have hne : V2.heap.size ≠ V1.heap.size := Nat.ne_of_gt nn
          have c12 := b12.off (vs := [.int .i64 mp, .int .i64 ms]) hne.symm 0
          have L9 : Lat w4 (V4.setCells V2.heap.size 0 [.int .i64 mp, .int .i64 ms]) := Lat.setCells s11 _ _ _ L4
          obtain ⟨V9, hV9⟩ : ∃ V, V4.setCells V2.heap.size 0 [.int .i64 mp, .int .i64 ms] = V := ⟨_, rfl⟩
          simp only [List.toArray] at c11
          rw [hV9] at c11 c12 L9 ⊢
          clear hV9
          refine hK.out _ _ L9 (fun hHeld5 => ?_)
          clear hK K
          try simp only [Act.put, List.getElem_toArray, List.getElem_cons_succ, List.getElem_cons_zero, List.setIfInBounds_toArray, List.set_cons_zero, List.set_cons_succ]
          refine wpAnyH_ready (rs := [14]) (by kernel_rfl) (by simp) (AllReadyH.cons rfl (fun K hK => ?_) AllReadyH.nil)
          rw [if_pos (by rfl)]
          refine wp_store_mid 49 (.tmp 12) (.tmp 50) rfl V1.heap.size 0 #[.int .i64 lp, .int .i64 ls] rfl rfl (c12.thereAll _ rfl) (by kernel_rfl) (by kernel_rfl) ?_
          have d12 := c12.setCells #[.int .i64 lp, .int .i64 ls] rfl
          have d11 := c11.off (vs := [.int .i64 lp, .int .i64 ls]) hne 0
          have L10 : Lat w4 (V9.setCells V1.heap.size 0 [.int .i64 lp, .int .i64 ls]) := Lat.setCells s12 _ _ _ L9
          obtain ⟨V10, hV10⟩ : ∃ V, V9.setCells V1.heap.size 0 [.int .i64 lp, .int .i64 ls] = V := ⟨_, rfl⟩
          rw [hV10] at d11 d12 L10 ⊢
          clear hV10
          refine hK.out _ _ L10 (fun hHeld6 => ?_)
          clear hK K
          try simp only [Act.put, List.getElem_toArray, List.getElem_cons_succ, List.getElem_cons_zero, List.setIfInBounds_toArray, List.set_cons_zero, List.set_cons_succ]
          refine wpAnyH_done (by kernel_rfl) ?_ _
          go_wp2_with fail
          go_meet
          exact ⟨V2.heap.size, V1.heap.size, rfl, rfl, d11, d12, L10⟩
    · skip
      go_simp
      have b11 := Blk.new V0 49 #[.int .i64 0, .int .i64 0]
      have La := Lat.alloc V0 (.cells #[.int .i64 0, .int .i64 0] 49)
      have s11 := L0.size
      obtain ⟨V1, hV⟩ : ∃ V, V0.alloc (.cells #[.int .i64 0, .int .i64 0] 49) = V := ⟨_, rfl⟩
      rw [hV] at b11 La ⊢
      clear hV
      have L1 := L0.trans La
      refine hK.out _ _ L1 (fun hHeld1 => ?_)
      clear hK K
      try simp only [Act.put, List.getElem_toArray, List.getElem_cons_succ, List.getElem_cons_zero, List.setIfInBounds_toArray, List.set_cons_zero, List.set_cons_succ]
      clear La
      refine wpAnyH_ready (rs := [3, 12]) (by kernel_rfl) (by simp) (AllReadyH.cons rfl (fun K hK => ?_) (AllReadyH.cons rfl (fun K hK => ?_) AllReadyH.nil))
      · skip
        go_simp
        refine (HTot1 _ _ _ (RB4.later L1)).mono ?_
        rintro e V2 ⟨rfl, lg⟩
        have L2 := L1.trans lg
        have b11 := b11.later lg
        clear lg
        refine hK.out _ _ L2 (fun hHeld2 => ?_)
        clear hK K
        try simp only [Act.put, List.getElem_toArray, List.getElem_cons_succ, List.getElem_cons_zero, List.setIfInBounds_toArray, List.set_cons_zero, List.set_cons_succ]
        refine wpAnyH_ready (rs := [10, 12]) (by kernel_rfl) (by simp) (AllReadyH.cons rfl (fun K hK => ?_) (AllReadyH.cons rfl (fun K hK => ?_) AllReadyH.nil))
        · skip
          go_simp
          refine (HTot2 _ _ _ (RB4.later L2)).mono ?_
          rintro e V3 ⟨rfl, lg⟩
          have L3 := L2.trans lg
          have b11 := b11.later lg
          clear lg
          refine hK.out _ _ L3 (fun hHeld3 => ?_)
          clear hK K
          try simp only [Act.put, List.getElem_toArray, List.getElem_cons_succ, List.getElem_cons_zero, List.setIfInBounds_toArray, List.set_cons_zero, List.set_cons_succ]
          refine wpAnyH_ready (rs := [12]) (by kernel_rfl) (by simp) (AllReadyH.cons rfl (fun K hK => ?_) AllReadyH.nil)
          have nn := b11.lt
          go_simp
          have b12 := Blk.new V3 49 #[.int .i64 0, .int .i64 0]
          have La := Lat.alloc V3 (.cells #[.int .i64 0, .int .i64 0] 49)
          have s12 := L3.size
          obtain ⟨V4, hV⟩ : ∃ V, V3.alloc (.cells #[.int .i64 0, .int .i64 0] 49) = V := ⟨_, rfl⟩
          rw [hV] at b12 La ⊢
          clear hV
          have L4 := L3.trans La
          have b11 := b11.later La
          refine hK.out _ _ L4 (fun hHeld4 => ?_)
          clear hK K
          try simp only [Act.put, List.getElem_toArray, List.getElem_cons_succ, List.getElem_cons_zero, List.setIfInBounds_toArray, List.set_cons_zero, List.set_cons_succ]
          clear La
          refine wpAnyH_ready (rs := [13]) (by kernel_rfl) (by simp) (AllReadyH.cons rfl (fun K hK => ?_) AllReadyH.nil)
          rw [if_pos (by rfl)]
          refine wp_store_mid 49 (.tmp 11) (.tmp 43) rfl V0.heap.size 0 #[.int .i64 mp, .int .i64 ms] rfl rfl (b11.thereAll _ rfl) (by kernel_rfl) (by kernel_rfl) ?_
          have c11 := b11.setCells #[.int .i64 mp, .int .i64 ms] rfl
          have hne : V0.heap.size ≠ V3.heap.size := Nat.ne_of_lt nn
          have c12 := b12.off (vs := [.int .i64 mp, .int .i64 ms]) hne.symm 0
          have L9 : Lat w4 (V4.setCells V0.heap.size 0 [.int .i64 mp, .int .i64 ms]) := Lat.setCells s11 _ _ _ L4
          obtain ⟨V9, hV9⟩ : ∃ V, V4.setCells V0.heap.size 0 [.int .i64 mp, .int .i64 ms] = V := ⟨_, rfl⟩
          simp only [List.toArray] at c11
          rw [hV9] at c11 c12 L9 ⊢
          clear hV9
          refine hK.out _ _ L9 (fun hHeld5 => ?_)
          clear hK K
          try simp only [Act.put, List.getElem_toArray, List.getElem_cons_succ, List.getElem_cons_zero, List.setIfInBounds_toArray, List.set_cons_zero, List.set_cons_succ]
          refine wpAnyH_ready (rs := [14]) (by kernel_rfl) (by simp) (AllReadyH.cons rfl (fun K hK => ?_) AllReadyH.nil)
          rw [if_pos (by rfl)]
          refine wp_store_mid 49 (.tmp 12) (.tmp 50) rfl V3.heap.size 0 #[.int .i64 lp, .int .i64 ls] rfl rfl (c12.thereAll _ rfl) (by kernel_rfl) (by kernel_rfl) ?_
          have d12 := c12.setCells #[.int .i64 lp, .int .i64 ls] rfl
          have d11 := c11.off (vs := [.int .i64 lp, .int .i64 ls]) hne 0
          have L10 : Lat w4 (V9.setCells V3.heap.size 0 [.int .i64 lp, .int .i64 ls]) := Lat.setCells s12 _ _ _ L9
          obtain ⟨V10, hV10⟩ : ∃ V, V9.setCells V3.heap.size 0 [.int .i64 lp, .int .i64 ls] = V := ⟨_, rfl⟩
          rw [hV10] at d11 d12 L10 ⊢
          clear hV10
          refine hK.out _ _ L10 (fun hHeld6 => ?_)
          clear hK K
          try simp only [Act.put, List.getElem_toArray, List.getElem_cons_succ, List.getElem_cons_zero, List.setIfInBounds_toArray, List.set_cons_zero, List.set_cons_succ]
          refine wpAnyH_done (by kernel_rfl) ?_ _
          go_wp2_with fail
          go_meet
          exact ⟨V0.heap.size, V3.heap.size, rfl, rfl, d11, d12, L10⟩
        · skip
          have nn := b11.lt
          go_simp
          have b12 := Blk.new V2 49 #[.int .i64 0, .int .i64 0]
          have La := Lat.alloc V2 (.cells #[.int .i64 0, .int .i64 0] 49)
          have s12 := L2.size
          obtain ⟨V3, hV⟩ : ∃ V, V2.alloc (.cells #[.int .i64 0, .int .i64 0] 49) = V := ⟨_, rfl⟩
          rw [hV] at b12 La ⊢
          clear hV
          have L3 := L2.trans La
          have b11 := b11.later La
          refine hK.out _ _ L3 (fun hHeld3 => ?_)
          clear hK K
          try simp only [Act.put, List.getElem_toArray, List.getElem_cons_succ, List.getElem_cons_zero, List.setIfInBounds_toArray, List.set_cons_zero, List.set_cons_succ]
          clear La
          refine wpAnyH_ready (rs := [10]) (by kernel_rfl) (by simp) (AllReadyH.cons rfl (fun K hK => ?_) AllReadyH.nil)
          go_simp
          refine (HTot2 _ _ _ (RB4.later L3)).mono ?_
          rintro e V4 ⟨rfl, lg⟩
          have L4 := L3.trans lg
          have b11 := b11.later lg
          have b12 := b12.later lg
          clear lg
          refine hK.out _ _ L4 (fun hHeld4 => ?_)
          clear hK K
          try simp only [Act.put, List.getElem_toArray, List.getElem_cons_succ, List.getElem_cons_zero, List.setIfInBounds_toArray, List.set_cons_zero, List.set_cons_succ]
          refine wpAnyH_ready (rs := [13]) (by kernel_rfl) (by simp) (AllReadyH.cons rfl (fun K hK => ?_) AllReadyH.nil)
          rw [if_pos (by rfl)]
          refine wp_store_mid 49 (.tmp 11) (.tmp 43) rfl V0.heap.size 0 #[.int .i64 mp, .int .i64 ms] rfl rfl (b11.thereAll _ rfl) (by kernel_rfl) (by kernel_rfl) ?_
          have c11 := b11.setCells #[.int .i64 mp, .int .i64 ms] rfl
          have hne : V0.heap.size ≠ V2.heap.size := Nat.ne_of_lt nn
          have c12 := b12.off (vs := [.int .i64 mp, .int .i64 ms]) hne.symm 0
          have L9 : Lat w4 (V4.setCells V0.heap.size 0 [.int .i64 mp, .int .i64 ms]) := Lat.setCells s11 _ _ _ L4
          obtain ⟨V9, hV9⟩ : ∃ V, V4.setCells V0.heap.size 0 [.int .i64 mp, .int .i64 ms] = V := ⟨_, rfl⟩
          simp only [List.toArray] at c11
          rw [hV9] at c11 c12 L9 ⊢
          clear hV9
          refine hK.out _ _ L9 (fun hHeld5 => ?_)
          clear hK K
          try simp only [Act.put, List.getElem_toArray, List.getElem_cons_succ, List.getElem_cons_zero, List.setIfInBounds_toArray, List.set_cons_zero, List.set_cons_succ]
          refine wpAnyH_ready (rs := [14]) (by kernel_rfl) (by simp) (AllReadyH.cons rfl (fun K hK => ?_) AllReadyH.nil)
          rw [if_pos (by rfl)]
          refine wp_store_mid 49 (.tmp 12) (.tmp 50) rfl V2.heap.size 0 #[.int .i64 lp, .int .i64 ls] rfl rfl (c12.thereAll _ rfl) (by kernel_rfl) (by kernel_rfl) ?_
          have d12 := c12.setCells #[.int .i64 lp, .int .i64 ls] rfl
          have d11 := c11.off (vs := [.int .i64 lp, .int .i64 ls]) hne 0
          have L10 : Lat w4 (V9.setCells V2.heap.size 0 [.int .i64 lp, .int .i64 ls]) := Lat.setCells s12 _ _ _ L9
          obtain ⟨V10, hV10⟩ : ∃ V, V9.setCells V2.heap.size 0 [.int .i64 lp, .int .i64 ls] = V := ⟨_, rfl⟩
          rw [hV10] at d11 d12 L10 ⊢
          clear hV10
          refine hK.out _ _ L10 (fun hHeld6 => ?_)
          clear hK K
          try simp only [Act.put, List.getElem_toArray, List.getElem_cons_succ, List.getElem_cons_zero, List.setIfInBounds_toArray, List.set_cons_zero, List.set_cons_succ]
          refine wpAnyH_done (by kernel_rfl) ?_ _
          go_wp2_with fail
          go_meet
          exact ⟨V0.heap.size, V2.heap.size, rfl, rfl, d11, d12, L10⟩
      · skip
        have nn := b11.lt
        go_simp
        have b12 := Blk.new V1 49 #[.int .i64 0, .int .i64 0]
        have La := Lat.alloc V1 (.cells #[.int .i64 0, .int .i64 0] 49)
        have s12 := L1.size
        obtain ⟨V2, hV⟩ : ∃ V, V1.alloc (.cells #[.int .i64 0, .int .i64 0] 49) = V := ⟨_, rfl⟩
        rw [hV] at b12 La ⊢
        clear hV
        have L2 := L1.trans La
        have b11 := b11.later La
        refine hK.out _ _ L2 (fun hHeld2 => ?_)
        clear hK K
        try simp only [Act.put, List.getElem_toArray, List.getElem_cons_succ, List.getElem_cons_zero, List.setIfInBounds_toArray, List.set_cons_zero, List.set_cons_succ]
        clear La
        refine wpAnyH_ready (rs := [3]) (by kernel_rfl) (by simp) (AllReadyH.cons rfl (fun K hK => ?_) AllReadyH.nil)
        go_simp
        refine (HTot1 _ _ _ (RB4.later L2)).mono ?_
        rintro e V3 ⟨rfl, lg⟩
        have L3 := L2.trans lg
        have b11 := b11.later lg
        have b12 := b12.later lg
        clear lg
        refine hK.out _ _ L3 (fun hHeld3 => ?_)
        clear hK K
        try simp only [Act.put, List.getElem_toArray, List.getElem_cons_succ, List.getElem_cons_zero, List.setIfInBounds_toArray, List.set_cons_zero, List.set_cons_succ]
        refine wpAnyH_ready (rs := [10]) (by kernel_rfl) (by simp) (AllReadyH.cons rfl (fun K hK => ?_) AllReadyH.nil)
        go_simp
        refine (HTot2 _ _ _ (RB4.later L3)).mono ?_
        rintro e V4 ⟨rfl, lg⟩
        have L4 := L3.trans lg
        have b11 := b11.later lg
        have b12 := b12.later lg
        clear lg
        refine hK.out _ _ L4 (fun hHeld4 => ?_)
        clear hK K
        try simp only [Act.put, List.getElem_toArray, List.getElem_cons_succ, List.getElem_cons_zero, List.setIfInBounds_toArray, List.set_cons_zero, List.set_cons_succ]
        refine wpAnyH_ready (rs := [13]) (by kernel_rfl) (by simp) (AllReadyH.cons rfl (fun K hK => ?_) AllReadyH.nil)
        rw [if_pos (by rfl)]
        refine wp_store_mid 49 (.tmp 11) (.tmp 43) rfl V0.heap.size 0 #[.int .i64 mp, .int .i64 ms] rfl rfl (b11.thereAll _ rfl) (by kernel_rfl) (by kernel_rfl) ?_
        have c11 := b11.setCells #[.int .i64 mp, .int .i64 ms] rfl
        have hne : V0.heap.size ≠ V1.heap.size := Nat.ne_of_lt nn
        have c12 := b12.off (vs := [.int .i64 mp, .int .i64 ms]) hne.symm 0
        have L9 : Lat w4 (V4.setCells V0.heap.size 0 [.int .i64 mp, .int .i64 ms]) := Lat.setCells s11 _ _ _ L4
        obtain ⟨V9, hV9⟩ : ∃ V, V4.setCells V0.heap.size 0 [.int .i64 mp, .int .i64 ms] = V := ⟨_, rfl⟩
        simp only [List.toArray] at c11
        rw [hV9] at c11 c12 L9 ⊢
        clear hV9
        refine hK.out _ _ L9 (fun hHeld5 => ?_)
        clear hK K
        try simp only [Act.put, List.getElem_toArray, List.getElem_cons_succ, List.getElem_cons_zero, List.setIfInBounds_toArray, List.set_cons_zero, List.set_cons_succ]
        refine wpAnyH_ready (rs := [14]) (by kernel_rfl) (by simp) (AllReadyH.cons rfl (fun K hK => ?_) AllReadyH.nil)
        rw [if_pos (by rfl)]
        refine wp_store_mid 49 (.tmp 12) (.tmp 50) rfl V1.heap.size 0 #[.int .i64 lp, .int .i64 ls] rfl rfl (c12.thereAll _ rfl) (by kernel_rfl) (by kernel_rfl) ?_
        have d12 := c12.setCells #[.int .i64 lp, .int .i64 ls] rfl
        have d11 := c11.off (vs := [.int .i64 lp, .int .i64 ls]) hne 0
        have L10 : Lat w4 (V9.setCells V1.heap.size 0 [.int .i64 lp, .int .i64 ls]) := Lat.setCells s12 _ _ _ L9
        obtain ⟨V10, hV10⟩ : ∃ V, V9.setCells V1.heap.size 0 [.int .i64 lp, .int .i64 ls] = V := ⟨_, rfl⟩
        rw [hV10] at d11 d12 L10 ⊢
        clear hV10
        refine hK.out _ _ L10 (fun hHeld6 => ?_)
        clear hK K
        try simp only [Act.put, List.getElem_toArray, List.getElem_cons_succ, List.getElem_cons_zero, List.setIfInBounds_toArray, List.set_cons_zero, List.set_cons_succ]
        refine wpAnyH_done (by kernel_rfl) ?_ _
        go_wp2_with fail
        go_meet
        exact ⟨V0.heap.size, V1.heap.size, rfl, rfl, d11, d12, L10⟩
    · skip
      go_simp
      have b12 := Blk.new V0 49 #[.int .i64 0, .int .i64 0]
      have La := Lat.alloc V0 (.cells #[.int .i64 0, .int .i64 0] 49)
      have s12 := L0.size
      obtain ⟨V1, hV⟩ : ∃ V, V0.alloc (.cells #[.int .i64 0, .int .i64 0] 49) = V := ⟨_, rfl⟩
      rw [hV] at b12 La ⊢
      clear hV
      have L1 := L0.trans La
      refine hK.out _ _ L1 (fun hHeld1 => ?_)
      clear hK K
      try simp only [Act.put, List.getElem_toArray, List.getElem_cons_succ, List.getElem_cons_zero, List.setIfInBounds_toArray, List.set_cons_zero, List.set_cons_succ]
      clear La
      refine wpAnyH_ready (rs := [3, 11]) (by kernel_rfl) (by simp) (AllReadyH.cons rfl (fun K hK => ?_) (AllReadyH.cons rfl (fun K hK => ?_) AllReadyH.nil))
      · skip
        go_simp
        refine (HTot1 _ _ _ (RB4.later L1)).mono ?_
        rintro e V2 ⟨rfl, lg⟩
        have L2 := L1.trans lg
        have b12 := b12.later lg
        clear lg
        refine hK.out _ _ L2 (fun hHeld2 => ?_)
        clear hK K
        try simp only [Act.put, List.getElem_toArray, List.getElem_cons_succ, List.getElem_cons_zero, List.setIfInBounds_toArray, List.set_cons_zero, List.set_cons_succ]
        refine wpAnyH_ready (rs := [10, 11]) (by kernel_rfl) (by simp) (AllReadyH.cons rfl (fun K hK => ?_) (AllReadyH.cons rfl (fun K hK => ?_) AllReadyH.nil))
        · skip
          go_simp
          refine (HTot2 _ _ _ (RB4.later L2)).mono ?_
          rintro e V3 ⟨rfl, lg⟩
          have L3 := L2.trans lg
          have b12 := b12.later lg
          clear lg
          refine hK.out _ _ L3 (fun hHeld3 => ?_)
          clear hK K
          try simp only [Act.put, List.getElem_toArray, List.getElem_cons_succ, List.getElem_cons_zero, List.setIfInBounds_toArray, List.set_cons_zero, List.set_cons_succ]
          refine wpAnyH_ready (rs := [11]) (by kernel_rfl) (by simp) (AllReadyH.cons rfl (fun K hK => ?_) AllReadyH.nil)
          have nn := b12.lt
          go_simp
          have b11 := Blk.new V3 49 #[.int .i64 0, .int .i64 0]
          have La := Lat.alloc V3 (.cells #[.int .i64 0, .int .i64 0] 49)
          have s11 := L3.size
          obtain ⟨V4, hV⟩ : ∃ V, V3.alloc (.cells #[.int .i64 0, .int .i64 0] 49) = V := ⟨_, rfl⟩
          rw [hV] at b11 La ⊢
          clear hV
          have L4 := L3.trans La
          have b12 := b12.later La
          refine hK.out _ _ L4 (fun hHeld4 => ?_)
          clear hK K
          try simp only [Act.put, List.getElem_toArray, List.getElem_cons_succ, List.getElem_cons_zero, List.setIfInBounds_toArray, List.set_cons_zero, List.set_cons_succ]
          clear La
          refine wpAnyH_ready (rs := [13]) (by kernel_rfl) (by simp) (AllReadyH.cons rfl (fun K hK => ?_) AllReadyH.nil)
          rw [if_pos (by rfl)]
          refine wp_store_mid 49 (.tmp 11) (.tmp 43) rfl V3.heap.size 0 #[.int .i64 mp, .int .i64 ms] rfl rfl (b11.thereAll _ rfl) (by kernel_rfl) (by kernel_rfl) ?_
          have c11 := b11.setCells #[.int .i64 mp, .int .i64 ms] rfl
          have hne : V3.heap.size ≠ V0.heap.size := Nat.ne_of_gt nn
          have c12 := b12.off (vs := [.int .i64 mp, .int .i64 ms]) hne.symm 0
          have L9 : Lat w4 (V4.setCells V3.heap.size 0 [.int .i64 mp, .int .i64 ms]) := Lat.setCells s11 _ _ _ L4
          obtain ⟨V9, hV9⟩ : ∃ V, V4.setCells V3.heap.size 0 [.int .i64 mp, .int .i64 ms] = V := ⟨_, rfl⟩
          simp only [List.toArray] at c11
          rw [hV9] at c11 c12 L9 ⊢
          clear hV9
          refine hK.out _ _ L9 (fun hHeld5 => ?_)
          clear hK K
          try simp only [Act.put, List.getElem_toArray, List.getElem_cons_succ, List.getElem_cons_zero, List.setIfInBounds_toArray, List.set_cons_zero, List.set_cons_succ]
          refine wpAnyH_ready (rs := [14]) (by kernel_rfl) (by simp) (AllReadyH.cons rfl (fun K hK => ?_) AllReadyH.nil)
          rw [if_pos (by rfl)]
          refine wp_store_mid 49 (.tmp 12) (.tmp 50) rfl V0.heap.size 0 #[.int .i64 lp, .int .i64 ls] rfl rfl (c12.thereAll _ rfl) (by kernel_rfl) (by kernel_rfl) ?_
          have d12 := c12.setCells #[.int .i64 lp, .int .i64 ls] rfl
          have d11 := c11.off (vs := [.int .i64 lp, .int .i64 ls]) hne 0
          have L10 : Lat w4 (V9.setCells V0.heap.size 0 [.int .i64 lp, .int .i64 ls]) := Lat.setCells s12 _ _ _ L9
          obtain ⟨V10, hV10⟩ : ∃ V, V9.setCells V0.heap.size 0 [.int .i64 lp, .int .i64 ls] = V := ⟨_, rfl⟩
          rw [hV10] at d11 d12 L10 ⊢
          clear hV10
          refine hK.out _ _ L10 (fun hHeld6 => ?_)
          clear hK K
          try simp only [Act.put, List.getElem_toArray, List.getElem_cons_succ, List.getElem_cons_zero, List.setIfInBounds_toArray, List.set_cons_zero, List.set_cons_succ]
          refine wpAnyH_done (by kernel_rfl) ?_ _
          go_wp2_with fail
          go_meet
          exact ⟨V3.heap.size, V0.heap.size, rfl, rfl, d11, d12, L10⟩
        · skip
          have nn := b12.lt
          go_simp
          have b11 := Blk.new V2 49 #[.int .i64 0, .int .i64 0]
          have La := Lat.alloc V2 (.cells #[.int .i64 0, .int .i64 0] 49)
          have s11 := L2.size
          obtain ⟨V3, hV⟩ : ∃ V, V2.alloc (.cells #[.int .i64 0, .int .i64 0] 49) = V := ⟨_, rfl⟩
          rw [hV] at b11 La ⊢
          clear hV
          have L3 := L2.trans La
          have b12 := b12.later La
          refine hK.out _ _ L3 (fun hHeld3 => ?_)
          clear hK K
          try simp only [Act.put, List.getElem_toArray, List.getElem_cons_succ, List.getElem_cons_zero, List.setIfInBounds_toArray, List.set_cons_zero, List.set_cons_succ]
          clear La
          refine wpAnyH_ready (rs := [10]) (by kernel_rfl) (by simp) (AllReadyH.cons rfl (fun K hK => ?_) AllReadyH.nil)
          go_simp
          refine (HTot2 _ _ _ (RB4.later L3)).mono ?_
          rintro e V4 ⟨rfl, lg⟩
          have L4 := L3.trans lg
          have b12 := b12.later lg
          have b11 := b11.later lg
          clear lg
          refine hK.out _ _ L4 (fun hHeld4 => ?_)
          clear hK K
          try simp only [Act.put, List.getElem_toArray, List.getElem_cons_succ, List.getElem_cons_zero, List.setIfInBounds_toArray, List.set_cons_zero, List.set_cons_succ]
          refine wpAnyH_ready (rs := [13]) (by kernel_rfl) (by simp) (AllReadyH.cons rfl (fun K hK => ?_) AllReadyH.nil)
          rw [if_pos (by rfl)]
          refine wp_store_mid 49 (.tmp 11) (.tmp 43) rfl V2.heap.size 0 #[.int .i64 mp, .int .i64 ms] rfl rfl (b11.thereAll _ rfl) (by kernel_rfl) (by kernel_rfl) ?_
          have c11 := b11.setCells #[.int .i64 mp, .int .i64 ms] rfl
          have hne : V2.heap.size ≠ V0.heap.size := Nat.ne_of_gt nn
          have c12 := b12.off (vs := [.int .i64 mp, .int .i64 ms]) hne.symm 0
          have L9 : Lat w4 (V4.setCells V2.heap.size 0 [.int .i64 mp, .int .i64 ms]) := Lat.setCells s11 _ _ _ L4
          obtain ⟨V9, hV9⟩ : ∃ V, V4.setCells V2.heap.size 0 [.int .i64 mp, .int .i64 ms] = V := ⟨_, rfl⟩
          simp only [List.toArray] at c11
          rw [hV9] at c11 c12 L9 ⊢
          clear hV9
          refine hK.out _ _ L9 (fun hHeld5 => ?_)
          clear hK K
          try simp only [Act.put, List.getElem_toArray, List.getElem_cons_succ, List.getElem_cons_zero, List.setIfInBounds_toArray, List.set_cons_zero, List.set_cons_succ]
          refine wpAnyH_ready (rs := [14]) (by kernel_rfl) (by simp) (AllReadyH.cons rfl (fun K hK => ?_) AllReadyH.nil)
          rw [if_pos (by rfl)]
          refine wp_store_mid 49 (.tmp 12) (.tmp 50) rfl V0.heap.size 0 #[.int .i64 lp, .int .i64 ls] rfl rfl (c12.thereAll _ rfl) (by kernel_rfl) (by kernel_rfl) ?_
          have d12 := c12.setCells #[.int .i64 lp, .int .i64 ls] rfl
          have d11 := c11.off (vs := [.int .i64 lp, .int .i64 ls]) hne 0
          have L10 : Lat w4 (V9.setCells V0.heap.size 0 [.int .i64 lp, .int .i64 ls]) := Lat.setCells s12 _ _ _ L9
          obtain ⟨V10, hV10⟩ : ∃ V, V9.setCells V0.heap.size 0 [.int .i64 lp, .int .i64 ls] = V := ⟨_, rfl⟩
          rw [hV10] at d11 d12 L10 ⊢
          clear hV10
          refine hK.out _ _ L10 (fun hHeld6 => ?_)
          clear hK K
          try simp only [Act.put, List.getElem_toArray, List.getElem_cons_succ, List.getElem_cons_zero, List.setIfInBounds_toArray, List.set_cons_zero, List.set_cons_succ]
          refine wpAnyH_done (by kernel_rfl) ?_ _
          go_wp2_with fail
          go_meet
          exact ⟨V2.heap.size, V0.heap.size, rfl, rfl, d11, d12, L10⟩
      · skip
        have nn := b12.lt
        go_simp
        have b11 := Blk.new V1 49 #[.int .i64 0, .int .i64 0]
        have La := Lat.alloc V1 (.cells #[.int .i64 0, .int .i64 0] 49)
        have s11 := L1.size
        obtain ⟨V2, hV⟩ : ∃ V, V1.alloc (.cells #[.int .i64 0, .int .i64 0] 49) = V := ⟨_, rfl⟩
        rw [hV] at b11 La ⊢
        clear hV
        have L2 := L1.trans La
        have b12 := b12.later La
        refine hK.out _ _ L2 (fun hHeld2 => ?_)
        clear hK K
        try simp only [Act.put, List.getElem_toArray, List.getElem_cons_succ, List.getElem_cons_zero, List.setIfInBounds_toArray, List.set_cons_zero, List.set_cons_succ]
        clear La
        refine wpAnyH_ready (rs := [3]) (by kernel_rfl) (by simp) (AllReadyH.cons rfl (fun K hK => ?_) AllReadyH.nil)
        go_simp
        refine (HTot1 _ _ _ (RB4.later L2)).mono ?_
        rintro e V3 ⟨rfl, lg⟩
        have L3 := L2.trans lg
        have b12 := b12.later lg
        have b11 := b11.later lg
        clear lg
        refine hK.out _ _ L3 (fun hHeld3 => ?_)
        clear hK K
        try simp only [Act.put, List.getElem_toArray, List.getElem_cons_succ, List.getElem_cons_zero, List.setIfInBounds_toArray, List.set_cons_zero, List.set_cons_succ]
        refine wpAnyH_ready (rs := [10]) (by kernel_rfl) (by simp) (AllReadyH.cons rfl (fun K hK => ?_) AllReadyH.nil)
        go_simp
        refine (HTot2 _ _ _ (RB4.later L3)).mono ?_
        rintro e V4 ⟨rfl, lg⟩
        have L4 := L3.trans lg
        have b12 := b12.later lg
        have b11 := b11.later lg
        clear lg
        refine hK.out _ _ L4 (fun hHeld4 => ?_)
        clear hK K
        try simp only [Act.put, List.getElem_toArray, List.getElem_cons_succ, List.getElem_cons_zero, List.setIfInBounds_toArray, List.set_cons_zero, List.set_cons_succ]
        refine wpAnyH_ready (rs := [13]) (by kernel_rfl) (by simp) (AllReadyH.cons rfl (fun K hK => ?_) AllReadyH.nil)
        rw [if_pos (by rfl)]
        refine wp_store_mid 49 (.tmp 11) (.tmp 43) rfl V1.heap.size 0 #[.int .i64 mp, .int .i64 ms] rfl rfl (b11.thereAll _ rfl) (by kernel_rfl) (by kernel_rfl) ?_
        have c11 := b11.setCells #[.int .i64 mp, .int .i64 ms] rfl
        have hne : V1.heap.size ≠ V0.heap.size := Nat.ne_of_gt nn
        have c12 := b12.off (vs := [.int .i64 mp, .int .i64 ms]) hne.symm 0
        have L9 : Lat w4 (V4.setCells V1.heap.size 0 [.int .i64 mp, .int .i64 ms]) := Lat.setCells s11 _ _ _ L4
        obtain ⟨V9, hV9⟩ : ∃ V, V4.setCells V1.heap.size 0 [.int .i64 mp, .int .i64 ms] = V := ⟨_, rfl⟩
        simp only [List.toArray] at c11
        rw [hV9] at c11 c12 L9 ⊢
        clear hV9
        refine hK.out _ _ L9 (fun hHeld5 => ?_)
        clear hK K
        try simp only [Act.put, List.getElem_toArray, List.getElem_cons_succ, List.getElem_cons_zero, List.setIfInBounds_toArray, List.set_cons_zero, List.set_cons_succ]
        refine wpAnyH_ready (rs := [14]) (by kernel_rfl) (by simp) (AllReadyH.cons rfl (fun K hK => ?_) AllReadyH.nil)
        rw [if_pos (by rfl)]
        refine wp_store_mid 49 (.tmp 12) (.tmp 50) rfl V0.heap.size 0 #[.int .i64 lp, .int .i64 ls] rfl rfl (c12.thereAll _ rfl) (by kernel_rfl) (by kernel_rfl) ?_
        have d12 := c12.setCells #[.int .i64 lp, .int .i64 ls] rfl
        have d11 := c11.off (vs := [.int .i64 lp, .int .i64 ls]) hne 0
        have L10 : Lat w4 (V9.setCells V0.heap.size 0 [.int .i64 lp, .int .i64 ls]) := Lat.setCells s12 _ _ _ L9
        obtain ⟨V10, hV10⟩ : ∃ V, V9.setCells V0.heap.size 0 [.int .i64 lp, .int .i64 ls] = V := ⟨_, rfl⟩
        rw [hV10] at d11 d12 L10 ⊢
        clear hV10
        refine hK.out _ _ L10 (fun hHeld6 => ?_)
        clear hK K
        try simp only [Act.put, List.getElem_toArray, List.getElem_cons_succ, List.getElem_cons_zero, List.setIfInBounds_toArray, List.set_cons_zero, List.set_cons_succ]
        refine wpAnyH_done (by kernel_rfl) ?_ _
        go_wp2_with fail
        go_meet
        exact ⟨V1.heap.size, V0.heap.size, rfl, rfl, d11, d12, L10⟩
  case rest =>
    obtain ⟨g1, g2, rfl, rfl, B1, B2, hL⟩ := hcut
    have KRc := KRy.later hL
    have RC := B1.cell 0
    have RC1 := B1.cell 1
    have RC2 := B2.cell 0
    have RC3 := B2.cell 1
    go_upto_region 9 with (fail)
    go_cut [13, 14] (fun s13 s14 wx => ∃ g3 : Nat, s13 = .pointer (some ⟨g3, 0, none⟩) ∧ s14 = .bool b ∧ Blk wx g3 35 X ∧ Lat wc wx)
    case first =>
      have a0 := B1.ever 0 rfl
      have a1 := B1.ever 1 rfl
      have a2 := B2.ever 0 rfl
      have a3 := B2.ever 1 rfl
      have i1 := Lib.hid gX.info
      have z1 := Lib.hid gX.1
      have c1 := Lib.hid gX.2.1
      have L0 := Lat.drew wc
      refine wp_region_held_drew (S := fun w' => Lat wc w') (by kernel_rfl) L0 (fun hHeld => ?_)
      generalize wc.drew = V0 at L0 hHeld ⊢
      refine wpAnyH_take (i := 0) (v := .pointer (some ⟨g1, 1, none⟩)) rfl (by kernel_rfl) (by kernel_rfl) (by kernel_rfl) (fun _ _ _ h => h) (Or.inl ⟨by rfl, by intro w' hS; go_simp⟩) hHeld ?_
      simp only [Act.put, List.getElem_toArray, List.getElem_cons_succ, List.getElem_cons_zero, List.setIfInBounds_toArray, List.set_cons_zero, List.set_cons_succ]
      refine wpAnyH_take (i := 1) (v := .int .i64 ms) rfl (by kernel_rfl) (by kernel_rfl) (by kernel_rfl) (fun _ _ _ h => h) (Or.inl ⟨by rfl, by intro w' hS; have hc := a1 w' hS; go_simp⟩) hHeld ?_
      simp only [Act.put, List.getElem_toArray, List.getElem_cons_succ, List.getElem_cons_zero, List.setIfInBounds_toArray, List.set_cons_zero, List.set_cons_succ]
      refine wpAnyH_take (i := 2) (v := .pointer (some ⟨g2, 0, none⟩)) rfl (by kernel_rfl) (by kernel_rfl) (by kernel_rfl) (fun _ _ _ h => h) (Or.inl ⟨by rfl, by intro w' hS; go_simp⟩) hHeld ?_
      simp only [Act.put, List.getElem_toArray, List.getElem_cons_succ, List.getElem_cons_zero, List.setIfInBounds_toArray, List.set_cons_zero, List.set_cons_succ]
      refine wpAnyH_take (i := 3) (v := .int .i64 lp) rfl (by kernel_rfl) (by kernel_rfl) (by kernel_rfl) (fun _ _ _ h => h) (Or.inl ⟨by rfl, by intro w' hS; have hc := a2 w' hS; go_simp⟩) hHeld ?_
      simp only [Act.put, List.getElem_toArray, List.getElem_cons_succ, List.getElem_cons_zero, List.setIfInBounds_toArray, List.set_cons_zero, List.set_cons_succ]
      refine wpAnyH_take (i := 6) (v := .pointer (some ⟨g1, 0, none⟩)) rfl (by kernel_rfl) (by kernel_rfl) (by kernel_rfl) (fun _ _ _ h => h) (Or.inl ⟨by rfl, by intro w' hS; go_simp⟩) hHeld ?_
      simp only [Act.put, List.getElem_toArray, List.getElem_cons_succ, List.getElem_cons_zero, List.setIfInBounds_toArray, List.set_cons_zero, List.set_cons_succ]
      refine wpAnyH_take (i := 7) (v := .int .i64 mp) rfl (by kernel_rfl) (by kernel_rfl) (by kernel_rfl) (fun _ _ _ h => h) (Or.inl ⟨by rfl, by intro w' hS; have hc := a0 w' hS; go_simp⟩) hHeld ?_
      simp only [Act.put, List.getElem_toArray, List.getElem_cons_succ, List.getElem_cons_zero, List.setIfInBounds_toArray, List.set_cons_zero, List.set_cons_succ]
      refine wpAnyH_take (i := 8) (v := .pointer (some ⟨g2, 1, none⟩)) rfl (by kernel_rfl) (by kernel_rfl) (by kernel_rfl) (fun _ _ _ h => h) (Or.inl ⟨by rfl, by intro w' hS; go_simp⟩) hHeld ?_
      simp only [Act.put, List.getElem_toArray, List.getElem_cons_succ, List.getElem_cons_zero, List.setIfInBounds_toArray, List.set_cons_zero, List.set_cons_succ]
      refine wpAnyH_take (i := 9) (v := .int .i64 ls) rfl (by kernel_rfl) (by kernel_rfl) (by kernel_rfl) (fun _ _ _ h => h) (Or.inl ⟨by rfl, by intro w' hS; have hc := a3 w' hS; go_simp⟩) hHeld ?_
      simp only [Act.put, List.getElem_toArray, List.getElem_cons_succ, List.getElem_cons_zero, List.setIfInBounds_toArray, List.set_cons_zero, List.set_cons_succ]
      refine wpAnyH_ready (rs := [4, 10, 16]) (by kernel_rfl) (by simp) (AllReadyH.cons rfl (fun K hK => ?_) (AllReadyH.cons rfl (fun K hK => ?_) (AllReadyH.cons rfl (fun K hK => ?_) AllReadyH.nil)))
      · skip
        go_simp
        have b4 := Blk.new V0 3 #[.int .i64 ms, .int .i64 lp]
        have La := Lat.alloc V0 (.cells #[.int .i64 ms, .int .i64 lp] 3)
        obtain ⟨V1, hV⟩ : ∃ V, V0.alloc (.cells #[.int .i64 ms, .int .i64 lp] 3) = V := ⟨_, rfl⟩
        rw [hV] at b4 La ⊢
        clear hV
        have L1 := L0.trans La
        refine hK.out _ _ L1 (fun hHeld1 => ?_)
        clear hK K
        try simp only [Act.put, List.getElem_toArray, List.getElem_cons_succ, List.getElem_cons_zero, List.setIfInBounds_toArray, List.set_cons_zero, List.set_cons_succ]
        clear La
        refine wpAnyH_ready (rs := [5, 10, 16]) (by kernel_rfl) (by simp) (AllReadyH.cons rfl (fun K hK => ?_) (AllReadyH.cons rfl (fun K hK => ?_) (AllReadyH.cons rfl (fun K hK => ?_) AllReadyH.nil)))
        · skip
          go_simp
          refine (HP1 _ _ b4).mono ?_
          rintro e V2 ⟨rfl, rfl⟩
          refine hK.out _ _ L1 (fun hHeld2 => ?_)
          clear hK K
          try simp only [Act.put, List.getElem_toArray, List.getElem_cons_succ, List.getElem_cons_zero, List.setIfInBounds_toArray, List.set_cons_zero, List.set_cons_succ]
          refine wpAnyH_ready (rs := [10, 16]) (by kernel_rfl) (by simp) (AllReadyH.cons rfl (fun K hK => ?_) (AllReadyH.cons rfl (fun K hK => ?_) AllReadyH.nil))
          · skip
            go_simp
            have b10 := Blk.new V1 3 #[.int .i64 mp, .int .i64 ls]
            have La := Lat.alloc V1 (.cells #[.int .i64 mp, .int .i64 ls] 3)
            obtain ⟨V2, hV⟩ : ∃ V, V1.alloc (.cells #[.int .i64 mp, .int .i64 ls] 3) = V := ⟨_, rfl⟩
            rw [hV] at b10 La ⊢
            clear hV
            have L2 := L1.trans La
            have b4 := b4.later La
            refine hK.out _ _ L2 (fun hHeld3 => ?_)
            clear hK K
            try simp only [Act.put, List.getElem_toArray, List.getElem_cons_succ, List.getElem_cons_zero, List.setIfInBounds_toArray, List.set_cons_zero, List.set_cons_succ]
            clear La
            refine wpAnyH_ready (rs := [11, 16]) (by kernel_rfl) (by simp) (AllReadyH.cons rfl (fun K hK => ?_) (AllReadyH.cons rfl (fun K hK => ?_) AllReadyH.nil))
            · skip
              go_simp
              refine (HP2 _ _ b10).mono ?_
              rintro e V3 ⟨rfl, rfl⟩
              refine hK.out _ _ L2 (fun hHeld4 => ?_)
              clear hK K
              try simp only [Act.put, List.getElem_toArray, List.getElem_cons_succ, List.getElem_cons_zero, List.setIfInBounds_toArray, List.set_cons_zero, List.set_cons_succ]
              refine wpAnyH_ready (rs := [12, 16]) (by kernel_rfl) (by simp) (AllReadyH.cons rfl (fun K hK => ?_) (AllReadyH.cons rfl (fun K hK => ?_) AllReadyH.nil))
              · skip
                go_simp
                refine (HGap _).mono ?_
                rintro e V3 ⟨rfl, lg⟩
                have L3 := L2.trans lg
                have b4 := b4.later lg
                have b10 := b10.later lg
                clear lg
                refine hK.out _ _ L3 (fun hHeld5 => ?_)
                clear hK K
                try simp only [Act.put, List.getElem_toArray, List.getElem_cons_succ, List.getElem_cons_zero, List.setIfInBounds_toArray, List.set_cons_zero, List.set_cons_succ]
                refine wpAnyH_take (i := 13) (v := .tuple #[.agg X, .bool b]) rfl (by kernel_rfl) (by kernel_rfl) (by kernel_rfl) (fun _ _ _ h => h) (Or.inl ⟨by rfl, by intro w' hS; go_simp⟩) hHeld5 ?_
                simp only [Act.put, List.getElem_toArray, List.getElem_cons_succ, List.getElem_cons_zero, List.setIfInBounds_toArray, List.set_cons_zero, List.set_cons_succ]
                refine wpAnyH_take (i := 14) (v := .agg X) rfl (by kernel_rfl) (by kernel_rfl) (by kernel_rfl) (fun _ _ _ h => h) (Or.inl ⟨by rfl, by intro w' hS; go_simp⟩) hHeld5 ?_
                simp only [Act.put, List.getElem_toArray, List.getElem_cons_succ, List.getElem_cons_zero, List.setIfInBounds_toArray, List.set_cons_zero, List.set_cons_succ]
                refine wpAnyH_take (i := 15) (v := .bool b) rfl (by kernel_rfl) (by kernel_rfl) (by kernel_rfl) (fun _ _ _ h => h) (Or.inl ⟨by rfl, by intro w' hS; go_simp⟩) hHeld5 ?_
                simp only [Act.put, List.getElem_toArray, List.getElem_cons_succ, List.getElem_cons_zero, List.setIfInBounds_toArray, List.set_cons_zero, List.set_cons_succ]
                refine wpAnyH_ready (rs := [16]) (by kernel_rfl) (by simp) (AllReadyH.cons rfl (fun K hK => ?_) AllReadyH.nil)
                go_simp
                have b16 := Blk.new V3 35 #[.int .u64 0, .int .u64 0, .int .u64 0, .int .u64 0, .int .u64 0, .int .u64 0, .int .u64 0, .int .u64 0, .int .u64 0, .int .u64 0, .int .u64 0, .int .u64 0, .int .u64 0, .int .u64 0, .int .u64 0, .int .u64 0]
                have La := Lat.alloc V3 (.cells #[.int .u64 0, .int .u64 0, .int .u64 0, .int .u64 0, .int .u64 0, .int .u64 0, .int .u64 0, .int .u64 0, .int .u64 0, .int .u64 0, .int .u64 0, .int .u64 0, .int .u64 0, .int .u64 0, .int .u64 0, .int .u64 0] 35)
                have s16 := L3.size
                obtain ⟨V4, hV⟩ : ∃ V, V3.alloc (.cells #[.int .u64 0, .int .u64 0, .int .u64 0, .int .u64 0, .int .u64 0, .int .u64 0, .int .u64 0, .int .u64 0, .int .u64 0, .int .u64 0, .int .u64 0, .int .u64 0, .int .u64 0, .int .u64 0, .int .u64 0, .int .u64 0] 35) = V := ⟨_, rfl⟩
                rw [hV] at b16 La ⊢
                clear hV
                have L4 := L3.trans La
                have b4 := b4.later La
                have b10 := b10.later La
                refine hK.out _ _ L4 (fun hHeld6 => ?_)
                clear hK K
                try simp only [Act.put, List.getElem_toArray, List.getElem_cons_succ, List.getElem_cons_zero, List.setIfInBounds_toArray, List.set_cons_zero, List.set_cons_succ]
                clear La
                refine wpAnyH_ready (rs := [17]) (by kernel_rfl) (by simp) (AllReadyH.cons rfl (fun K hK => ?_) AllReadyH.nil)
                rw [if_pos (by rfl)]
                refine wp_store_mid 35 (.tmp 13) (.tmp 65) rfl V3.heap.size 0 X rfl rfl (b16.thereAll _ (by rw [z1.out]; rfl)) i1.out c1.out ?_
                have KS := b16.setCells X (by rw [z1.out]; rfl)
                have L9 : Lat wc (V4.setCells V3.heap.size 0 X.toList) := Lat.setCells s16 _ _ _ L4
                obtain ⟨V9, hV9⟩ : ∃ V, V4.setCells V3.heap.size 0 X.toList = V := ⟨_, rfl⟩
                rw [hV9] at KS L9 ⊢
                clear hV9
                refine hK.out _ _ L9 (fun hHeld7 => ?_)
                clear hK K
                try simp only [Act.put, List.getElem_toArray, List.getElem_cons_succ, List.getElem_cons_zero, List.setIfInBounds_toArray, List.set_cons_zero, List.set_cons_succ]
                refine wpAnyH_ready (rs := [18]) (by kernel_rfl) (by simp) (AllReadyH.cons rfl (fun K hK => ?_) AllReadyH.nil)
                go_simp
                refine hK.out _ _ L9 (fun hHeld8 => ?_)
                clear hK K
                try simp only [Act.put, List.getElem_toArray, List.getElem_cons_succ, List.getElem_cons_zero, List.setIfInBounds_toArray, List.set_cons_zero, List.set_cons_succ]
                refine wpAnyH_done (by kernel_rfl) ?_ _
                go_wp2_with fail
                go_meet
                exact ⟨V3.heap.size, rfl, rfl, by simpa using KS, L9⟩
              · skip
                go_simp
                have b16 := Blk.new V2 35 #[.int .u64 0, .int .u64 0, .int .u64 0, .int .u64 0, .int .u64 0, .int .u64 0, .int .u64 0, .int .u64 0, .int .u64 0, .int .u64 0, .int .u64 0, .int .u64 0, .int .u64 0, .int .u64 0, .int .u64 0, .int .u64 0]
                have La := Lat.alloc V2 (.cells #[.int .u64 0, .int .u64 0, .int .u64 0, .int .u64 0, .int .u64 0, .int .u64 0, .int .u64 0, .int .u64 0, .int .u64 0, .int .u64 0, .int .u64 0, .int .u64 0, .int .u64 0, .int .u64 0, .int .u64 0, .int .u64 0] 35)
                have s16 := L2.size
                obtain ⟨V3, hV⟩ : ∃ V, V2.alloc (.cells #[.int .u64 0, .int .u64 0, .int .u64 0, .int .u64 0, .int .u64 0, .int .u64 0, .int .u64 0, .int .u64 0, .int .u64 0, .int .u64 0, .int .u64 0, .int .u64 0, .int .u64 0, .int .u64 0, .int .u64 0, .int .u64 0] 35) = V := ⟨_, rfl⟩
                rw [hV] at b16 La ⊢
                clear hV
                have L3 := L2.trans La
                have b4 := b4.later La
                have b10 := b10.later La
                refine hK.out _ _ L3 (fun hHeld5 => ?_)
                clear hK K
                try simp only [Act.put, List.getElem_toArray, List.getElem_cons_succ, List.getElem_cons_zero, List.setIfInBounds_toArray, List.set_cons_zero, List.set_cons_succ]
                clear La
                refine wpAnyH_ready (rs := [12]) (by kernel_rfl) (by simp) (AllReadyH.cons rfl (fun K hK => ?_) AllReadyH.nil)
                go_simp
                refine (HGap _).mono ?_
                rintro e V4 ⟨rfl, lg⟩
                have L4 := L3.trans lg
                have b4 := b4.later lg
                have b10 := b10.later lg
                have b16 := b16.later lg
                clear lg
                refine hK.out _ _ L4 (fun hHeld6 => ?_)
                clear hK K
                try simp only [Act.put, List.getElem_toArray, List.getElem_cons_succ, List.getElem_cons_zero, List.setIfInBounds_toArray, List.set_cons_zero, List.set_cons_succ]
                refine wpAnyH_take (i := 13) (v := .tuple #[.agg X, .bool b]) rfl (by kernel_rfl) (by kernel_rfl) (by kernel_rfl) (fun _ _ _ h => h) (Or.inl ⟨by rfl, by intro w' hS; go_simp⟩) hHeld6 ?_
                simp only [Act.put, List.getElem_toArray, List.getElem_cons_succ, List.getElem_cons_zero, List.setIfInBounds_toArray, List.set_cons_zero, List.set_cons_succ]
                refine wpAnyH_take (i := 14) (v := .agg X) rfl (by kernel_rfl) (by kernel_rfl) (by kernel_rfl) (fun _ _ _ h => h) (Or.inl ⟨by rfl, by intro w' hS; go_simp⟩) hHeld6 ?_
                simp only [Act.put, List.getElem_toArray, List.getElem_cons_succ, List.getElem_cons_zero, List.setIfInBounds_toArray, List.set_cons_zero, List.set_cons_succ]
                refine wpAnyH_take (i := 15) (v := .bool b) rfl (by kernel_rfl) (by kernel_rfl) (by kernel_rfl) (fun _ _ _ h => h) (Or.inl ⟨by rfl, by intro w' hS; go_simp⟩) hHeld6 ?_
                simp only [Act.put, List.getElem_toArray, List.getElem_cons_succ, List.getElem_cons_zero, List.setIfInBounds_toArray, List.set_cons_zero, List.set_cons_succ]
                refine wpAnyH_ready (rs := [17]) (by kernel_rfl) (by simp) (AllReadyH.cons rfl (fun K hK => ?_) AllReadyH.nil)
                rw [if_pos (by rfl)]
                refine wp_store_mid 35 (.tmp 13) (.tmp 65) rfl V2.heap.size 0 X rfl rfl (b16.thereAll _ (by rw [z1.out]; rfl)) i1.out c1.out ?_
                have KS := b16.setCells X (by rw [z1.out]; rfl)
                have L9 : Lat wc (V4.setCells V2.heap.size 0 X.toList) := Lat.setCells s16 _ _ _ L4
                obtain ⟨V9, hV9⟩ : ∃ V, V4.setCells V2.heap.size 0 X.toList = V := ⟨_, rfl⟩
                rw [hV9] at KS L9 ⊢
                clear hV9
                refine hK.out _ _ L9 (fun hHeld7 => ?_)
                clear hK K
                try simp only [Act.put, List.getElem_toArray, List.getElem_cons_succ, List.getElem_cons_zero, List.setIfInBounds_toArray, List.set_cons_zero, List.set_cons_succ]
                refine wpAnyH_ready (rs := [18]) (by kernel_rfl) (by simp) (AllReadyH.cons rfl (fun K hK => ?_) AllReadyH.nil)
                go_simp
                refine hK.out _ _ L9 (fun hHeld8 => ?_)
                clear hK K
                try simp only [Act.put, List.getElem_toArray, List.getElem_cons_succ, List.getElem_cons_zero, List.setIfInBounds_toArray, List.set_cons_zero, List.set_cons_succ]
                refine wpAnyH_done (by kernel_rfl) ?_ _
                go_wp2_with fail
                go_meet
                exact ⟨V2.heap.size, rfl, rfl, by simpa using KS, L9⟩
            · skip
              go_simp
              have b16 := Blk.new V2 35 #[.int .u64 0, .int .u64 0, .int .u64 0, .int .u64 0, .int .u64 0, .int .u64 0, .int .u64 0, .int .u64 0, .int .u64 0, .int .u64 0, .int .u64 0, .int .u64 0, .int .u64 0, .int .u64 0, .int .u64 0, .int .u64 0]
              have La := Lat.alloc V2 (.cells #[.int .u64 0, .int .u64 0, .int .u64 0, .int .u64 0, .int .u64 0, .int .u64 0, .int .u64 0, .int .u64 0, .int .u64 0, .int .u64 0, .int .u64 0, .int .u64 0, .int .u64 0, .int .u64 0, .int .u64 0, .int .u64 0] 35)
              have s16 := L2.size
              obtain ⟨V3, hV⟩ : ∃ V, V2.alloc (.cells #[.int .u64 0, .int .u64 0, .int .u64 0, .int .u64 0, .int .u64 0, .int .u64 0, .int .u64 0, .int .u64 0, .int .u64 0, .int .u64 0, .int .u64 0, .int .u64 0, .int .u64 0, .int .u64 0, .int .u64 0, .int .u64 0] 35) = V := ⟨_, rfl⟩
              rw [hV] at b16 La ⊢
              clear hV
              have L3 := L2.trans La
              have b4 := b4.later La
              have b10 := b10.later La
              refine hK.out _ _ L3 (fun hHeld4 => ?_)
              clear hK K
              try simp only [Act.put, List.getElem_toArray, List.getElem_cons_succ, List.getElem_cons_zero, List.setIfInBounds_toArray, List.set_cons_zero, List.set_cons_succ]
              clear La
              refine wpAnyH_ready (rs := [11]) (by kernel_rfl) (by simp) (AllReadyH.cons rfl (fun K hK => ?_) AllReadyH.nil)
              go_simp
              refine (HP2 _ _ b10).mono ?_
              rintro e V4 ⟨rfl, rfl⟩
              refine hK.out _ _ L3 (fun hHeld5 => ?_)
              clear hK K
              try simp only [Act.put, List.getElem_toArray, List.getElem_cons_succ, List.getElem_cons_zero, List.setIfInBounds_toArray, List.set_cons_zero, List.set_cons_succ]
              refine wpAnyH_ready (rs := [12]) (by kernel_rfl) (by simp) (AllReadyH.cons rfl (fun K hK => ?_) AllReadyH.nil)
              go_simp
              refine (HGap _).mono ?_
              rintro e V4 ⟨rfl, lg⟩
              have L4 := L3.trans lg
              have b4 := b4.later lg
              have b10 := b10.later lg
              have b16 := b16.later lg
              clear lg
              refine hK.out _ _ L4 (fun hHeld6 => ?_)
              clear hK K
              try simp only [Act.put, List.getElem_toArray, List.getElem_cons_succ, List.getElem_cons_zero, List.setIfInBounds_toArray, List.set_cons_zero, List.set_cons_succ]
              refine wpAnyH_take (i := 13) (v := .tuple #[.agg X, .bool b]) rfl (by kernel_rfl) (by kernel_rfl) (by kernel_rfl) (fun _ _ _ h => h) (Or.inl ⟨by rfl, by intro w' hS; go_simp⟩) hHeld6 ?_
              simp only [Act.put, List.getElem_toArray, List.getElem_cons_succ, List.getElem_cons_zero, List.setIfInBounds_toArray, List.set_cons_zero, List.set_cons_succ]
              refine wpAnyH_take (i := 14) (v := .agg X) rfl (by kernel_rfl) (by kernel_rfl) (by kernel_rfl) (fun _ _ _ h => h) (Or.inl ⟨by rfl, by intro w' hS; go_simp⟩) hHeld6 ?_
              simp only [Act.put, List.getElem_toArray, List.getElem_cons_succ, List.getElem_cons_zero, List.setIfInBounds_toArray, List.set_cons_zero, List.set_cons_succ]
              refine wpAnyH_take (i := 15) (v := .bool b) rfl (by kernel_rfl) (by kernel_rfl) (by kernel_rfl) (fun _ _ _ h => h) (Or.inl ⟨by rfl, by intro w' hS; go_simp⟩) hHeld6 ?_
              simp only [Act.put, List.getElem_toArray, List.getElem_cons_succ, List.getElem_cons_zero, List.setIfInBounds_toArray, List.set_cons_zero, List.set_cons_succ]
              refine wpAnyH_ready (rs := [17]) (by kernel_rfl) (by simp) (AllReadyH.cons rfl (fun K hK => ?_) AllReadyH.nil)
              rw [if_pos (by rfl)]
              refine wp_store_mid 35 (.tmp 13) (.tmp 65) rfl V2.heap.size 0 X rfl rfl (b16.thereAll _ (by rw [z1.out]; rfl)) i1.out c1.out ?_
              have KS := b16.setCells X (by rw [z1.out]; rfl)
              have L9 : Lat wc (V4.setCells V2.heap.size 0 X.toList) := Lat.setCells s16 _ _ _ L4
              obtain ⟨V9, hV9⟩ : ∃ V, V4.setCells V2.heap.size 0 X.toList = V := ⟨_, rfl⟩
              rw [hV9] at KS L9 ⊢
              clear hV9
              refine hK.out _ _ L9 (fun hHeld7 => ?_)
              clear hK K
              try simp only [Act.put, List.getElem_toArray, List.getElem_cons_succ, List.getElem_cons_zero, List.setIfInBounds_toArray, List.set_cons_zero, List.set_cons_succ]
              refine wpAnyH_ready (rs := [18]) (by kernel_rfl) (by simp) (AllReadyH.cons rfl (fun K hK => ?_) AllReadyH.nil)
              go_simp
              refine hK.out _ _ L9 (fun hHeld8 => ?_)
              clear hK K
              try simp only [Act.put, List.getElem_toArray, List.getElem_cons_succ, List.getElem_cons_zero, List.setIfInBounds_toArray, List.set_cons_zero, List.set_cons_succ]
              refine wpAnyH_done (by kernel_rfl) ?_ _
              go_wp2_with fail
              go_meet
              exact ⟨V2.heap.size, rfl, rfl, by simpa using KS, L9⟩
          · skip
            go_simp
            have b16 := Blk.new V1 35 #[.int .u64 0, .int .u64 0, .int .u64 0, .int .u64 0, .int .u64 0, .int .u64 0, .int .u64 0, .int .u64 0, .int .u64 0, .int .u64 0, .int .u64 0, .int .u64 0, .int .u64 0, .int .u64 0, .int .u64 0, .int .u64 0]
            have La := Lat.alloc V1 (.cells #[.int .u64 0, .int .u64 0, .int .u64 0, .int .u64 0, .int .u64 0, .int .u64 0, .int .u64 0, .int .u64 0, .int .u64 0, .int .u64 0, .int .u64 0, .int .u64 0, .int .u64 0, .int .u64 0, .int .u64 0, .int .u64 0] 35)
            have s16 := L1.size
            obtain ⟨V2, hV⟩ : ∃ V, V1.alloc (.cells #[.int .u64 0, .int .u64 0, .int .u64 0, .int .u64 0, .int .u64 0, .int .u64 0, .int .u64 0, .int .u64 0, .int .u64 0, .int .u64 0, .int .u64 0, .int .u64 0, .int .u64 0, .int .u64 0, .int .u64 0, .int .u64 0] 35) = V := ⟨_, rfl⟩
            rw [hV] at b16 La ⊢
            clear hV
            have L2 := L1.trans La
            have b4 := b4.later La
            refine hK.out _ _ L2 (fun hHeld3 => ?_)
            clear hK K
            try simp only [Act.put, List.getElem_toArray, List.getElem_cons_succ, List.getElem_cons_zero, List.setIfInBounds_toArray, List.set_cons_zero, List.set_cons_succ]
            clear La
            refine wpAnyH_ready (rs := [10]) (by kernel_rfl) (by simp) (AllReadyH.cons rfl (fun K hK => ?_) AllReadyH.nil)
            go_simp
            have b10 := Blk.new V2 3 #[.int .i64 mp, .int .i64 ls]
            have La := Lat.alloc V2 (.cells #[.int .i64 mp, .int .i64 ls] 3)
            obtain ⟨V3, hV⟩ : ∃ V, V2.alloc (.cells #[.int .i64 mp, .int .i64 ls] 3) = V := ⟨_, rfl⟩
            rw [hV] at b10 La ⊢
            clear hV
            have L3 := L2.trans La
            have b4 := b4.later La
            have b16 := b16.later La
            refine hK.out _ _ L3 (fun hHeld4 => ?_)
            clear hK K
            try simp only [Act.put, List.getElem_toArray, List.getElem_cons_succ, List.getElem_cons_zero, List.setIfInBounds_toArray, List.set_cons_zero, List.set_cons_succ]
            clear La
            refine wpAnyH_ready (rs := [11]) (by kernel_rfl) (by simp) (AllReadyH.cons rfl (fun K hK => ?_) AllReadyH.nil)
            go_simp
            refine (HP2 _ _ b10).mono ?_
            rintro e V4 ⟨rfl, rfl⟩
            refine hK.out _ _ L3 (fun hHeld5 => ?_)
            clear hK K
            try simp only [Act.put, List.getElem_toArray, List.getElem_cons_succ, List.getElem_cons_zero, List.setIfInBounds_toArray, List.set_cons_zero, List.set_cons_succ]
            refine wpAnyH_ready (rs := [12]) (by kernel_rfl) (by simp) (AllReadyH.cons rfl (fun K hK => ?_) AllReadyH.nil)
            go_simp
            refine (HGap _).mono ?_
            rintro e V4 ⟨rfl, lg⟩
            have L4 := L3.trans lg
            have b4 := b4.later lg
            have b16 := b16.later lg
            have b10 := b10.later lg
            clear lg
            refine hK.out _ _ L4 (fun hHeld6 => ?_)
            clear hK K
            try simp only [Act.put, List.getElem_toArray, List.getElem_cons_succ, List.getElem_cons_zero, List.setIfInBounds_toArray, List.set_cons_zero, List.set_cons_succ]
            refine wpAnyH_take (i := 13) (v := .tuple #[.agg X, .bool b]) rfl (by kernel_rfl) (by kernel_rfl) (by kernel_rfl) (fun _ _ _ h => h) (Or.inl ⟨by rfl, by intro w' hS; go_simp⟩) hHeld6 ?_
            simp only [Act.put, List.getElem_toArray, List.getElem_cons_succ, List.getElem_cons_zero, List.setIfInBounds_toArray, List.set_cons_zero, List.set_cons_succ]
            refine wpAnyH_take (i := 14) (v := .agg X) rfl (by kernel_rfl) (by kernel_rfl) (by kernel_rfl) (fun _ _ _ h => h) (Or.inl ⟨by rfl, by intro w' hS; go_simp⟩) hHeld6 ?_
            simp only [Act.put, List.getElem_toArray, List.getElem_cons_succ, List.getElem_cons_zero, List.setIfInBounds_toArray, List.set_cons_zero, List.set_cons_succ]
            refine wpAnyH_take (i := 15) (v := .bool b) rfl (by kernel_rfl) (by kernel_rfl) (by kernel_rfl) (fun _ _ _ h => h) (Or.inl ⟨by rfl, by intro w' hS; go_simp⟩) hHeld6 ?_
            simp only [Act.put, List.getElem_toArray, List.getElem_cons_succ, List.getElem_cons_zero, List.setIfInBounds_toArray, List.set_cons_zero, List.set_cons_succ]
            refine wpAnyH_ready (rs := [17]) (by kernel_rfl) (by simp) (AllReadyH.cons rfl (fun K hK => ?_) AllReadyH.nil)
            rw [if_pos (by rfl)]
            refine wp_store_mid 35 (.tmp 13) (.tmp 65) rfl V1.heap.size 0 X rfl rfl (b16.thereAll _ (by rw [z1.out]; rfl)) i1.out c1.out ?_
            have KS := b16.setCells X (by rw [z1.out]; rfl)
            have L9 : Lat wc (V4.setCells V1.heap.size 0 X.toList) := Lat.setCells s16 _ _ _ L4
            obtain ⟨V9, hV9⟩ : ∃ V, V4.setCells V1.heap.size 0 X.toList = V := ⟨_, rfl⟩
            rw [hV9] at KS L9 ⊢
            clear hV9
            refine hK.out _ _ L9 (fun hHeld7 => ?_)
            clear hK K
            try simp only [Act.put, List.getElem_toArray, List.getElem_cons_succ, List.getElem_cons_zero, List.setIfInBounds_toArray, List.set_cons_zero, List.set_cons_succ]
            refine wpAnyH_ready (rs := [18]) (by kernel_rfl) (by simp) (AllReadyH.cons rfl (fun K hK => ?_) AllReadyH.nil)
            go_simp
            refine hK.out _ _ L9 (fun hHeld8 => ?_)
            clear hK K
            try simp only [Act.put, List.getElem_toArray, List.getElem_cons_succ, List.getElem_cons_zero, List.setIfInBounds_toArray, List.set_cons_zero, List.set_cons_succ]
            refine wpAnyH_done (by kernel_rfl) ?_ _
            go_wp2_with fail
            go_meet
            exact ⟨V1.heap.size, rfl, rfl, by simpa using KS, L9⟩
        · skip
          go_simp
          have b10 := Blk.new V1 3 #[.int .i64 mp, .int .i64 ls]
          have La := Lat.alloc V1 (.cells #[.int .i64 mp, .int .i64 ls] 3)
          obtain ⟨V2, hV⟩ : ∃ V, V1.alloc (.cells #[.int .i64 mp, .int .i64 ls] 3) = V := ⟨_, rfl⟩
          rw [hV] at b10 La ⊢
          clear hV
          have L2 := L1.trans La
          have b4 := b4.later La
          refine hK.out _ _ L2 (fun hHeld2 => ?_)
          clear hK K
          try simp only [Act.put, List.getElem_toArray, List.getElem_cons_succ, List.getElem_cons_zero, List.setIfInBounds_toArray, List.set_cons_zero, List.set_cons_succ]
          clear La
          refine wpAnyH_ready (rs := [5, 16]) (by kernel_rfl) (by simp) (AllReadyH.cons rfl (fun K hK => ?_) (AllReadyH.cons rfl (fun K hK => ?_) AllReadyH.nil))
          · skip
            go_simp
            refine (HP1 _ _ b4).mono ?_
            rintro e V3 ⟨rfl, rfl⟩
            refine hK.out _ _ L2 (fun hHeld3 => ?_)
            clear hK K
            try simp only [Act.put, List.getElem_toArray, List.getElem_cons_succ, List.getElem_cons_zero, List.setIfInBounds_toArray, List.set_cons_zero, List.set_cons_succ]
            refine wpAnyH_ready (rs := [11, 16]) (by kernel_rfl) (by simp) (AllReadyH.cons rfl (fun K hK => ?_) (AllReadyH.cons rfl (fun K hK => ?_) AllReadyH.nil))
            · skip
              go_simp
              refine (HP2 _ _ b10).mono ?_
              rintro e V3 ⟨rfl, rfl⟩
              refine hK.out _ _ L2 (fun hHeld4 => ?_)
              clear hK K
              try simp only [Act.put, List.getElem_toArray, List.getElem_cons_succ, List.getElem_cons_zero, List.setIfInBounds_toArray, List.set_cons_zero, List.set_cons_succ]
              refine wpAnyH_ready (rs := [12, 16]) (by kernel_rfl) (by simp) (AllReadyH.cons rfl (fun K hK => ?_) (AllReadyH.cons rfl (fun K hK => ?_) AllReadyH.nil))
              · skip
                go_simp
                refine (HGap _).mono ?_
                rintro e V3 ⟨rfl, lg⟩
                have L3 := L2.trans lg
                have b4 := b4.later lg
                have b10 := b10.later lg
                clear lg
                refine hK.out _ _ L3 (fun hHeld5 => ?_)
                clear hK K
                try simp only [Act.put, List.getElem_toArray, List.getElem_cons_succ, List.getElem_cons_zero, List.setIfInBounds_toArray, List.set_cons_zero, List.set_cons_succ]
                refine wpAnyH_take (i := 13) (v := .tuple #[.agg X, .bool b]) rfl (by kernel_rfl) (by kernel_rfl) (by kernel_rfl) (fun _ _ _ h => h) (Or.inl ⟨by rfl, by intro w' hS; go_simp⟩) hHeld5 ?_
                simp only [Act.put, List.getElem_toArray, List.getElem_cons_succ, List.getElem_cons_zero, List.setIfInBounds_toArray, List.set_cons_zero, List.set_cons_succ]
                refine wpAnyH_take (i := 14) (v := .agg X) rfl (by kernel_rfl) (by kernel_rfl) (by kernel_rfl) (fun _ _ _ h => h) (Or.inl ⟨by rfl, by intro w' hS; go_simp⟩) hHeld5 ?_
                simp only [Act.put, List.getElem_toArray, List.getElem_cons_succ, List.getElem_cons_zero, List.setIfInBounds_toArray, List.set_cons_zero, List.set_cons_succ]
                refine wpAnyH_take (i := 15) (v := .bool b) rfl (by kernel_rfl) (by kernel_rfl) (by kernel_rfl) (fun _ _ _ h => h) (Or.inl ⟨by rfl, by intro w' hS; go_simp⟩) hHeld5 ?_
                simp only [Act.put, List.getElem_toArray, List.getElem_cons_succ, List.getElem_cons_zero, List.setIfInBounds_toArray, List.set_cons_zero, List.set_cons_succ]
                refine wpAnyH_ready (rs := [16]) (by kernel_rfl) (by simp) (AllReadyH.cons rfl (fun K hK => ?_) AllReadyH.nil)
                go_simp
                have b16 := Blk.new V3 35 #[.int .u64 0, .int .u64 0, .int .u64 0, .int .u64 0, .int .u64 0, .int .u64 0, .int .u64 0, .int .u64 0, .int .u64 0, .int .u64 0, .int .u64 0, .int .u64 0, .int .u64 0, .int .u64 0, .int .u64 0, .int .u64 0]
                have La := Lat.alloc V3 (.cells #[.int .u64 0, .int .u64 0, .int .u64 0, .int .u64 0, .int .u64 0, .int .u64 0, .int .u64 0, .int .u64 0, .int .u64 0, .int .u64 0, .int .u64 0, .int .u64 0, .int .u64 0, .int .u64 0, .int .u64 0, .int .u64 0] 35)
                have s16 := L3.size
                obtain ⟨V4, hV⟩ : ∃ V, V3.alloc (.cells #[.int .u64 0, .int .u64 0, .int .u64 0, .int .u64 0, .int .u64 0, .int .u64 0, .int .u64 0, .int .u64 0, .int .u64 0, .int .u64 0, .int .u64 0, .int .u64 0, .int .u64 0, .int .u64 0, .int .u64 0, .int .u64 0] 35) = V := ⟨_, rfl⟩
                rw [hV] at b16 La ⊢
                clear hV
                have L4 := L3.trans La
                have b4 := b4.later La
                have b10 := b10.later La
                refine hK.out _ _ L4 (fun hHeld6 => ?_)
                clear hK K
                try simp only [Act.put, List.getElem_toArray, List.getElem_cons_succ, List.getElem_cons_zero, List.setIfInBounds_toArray, List.set_cons_zero, List.set_cons_succ]
                clear La
                refine wpAnyH_ready (rs := [17]) (by kernel_rfl) (by simp) (AllReadyH.cons rfl (fun K hK => ?_) AllReadyH.nil)
                rw [if_pos (by rfl)]
                refine wp_store_mid 35 (.tmp 13) (.tmp 65) rfl V3.heap.size 0 X rfl rfl (b16.thereAll _ (by rw [z1.out]; rfl)) i1.out c1.out ?_
                have KS := b16.setCells X (by rw [z1.out]; rfl)
                have L9 : Lat wc (V4.setCells V3.heap.size 0 X.toList) := Lat.setCells s16 _ _ _ L4
                obtain ⟨V9, hV9⟩ : ∃ V, V4.setCells V3.heap.size 0 X.toList = V := ⟨_, rfl⟩
                rw [hV9] at KS L9 ⊢
                clear hV9
                refine hK.out _ _ L9 (fun hHeld7 => ?_)
                clear hK K
                try simp only [Act.put, List.getElem_toArray, List.getElem_cons_succ, List.getElem_cons_zero, List.setIfInBounds_toArray, List.set_cons_zero, List.set_cons_succ]
                refine wpAnyH_ready (rs := [18]) (by kernel_rfl) (by simp) (AllReadyH.cons rfl (fun K hK => ?_) AllReadyH.nil)
                go_simp
                refine hK.out _ _ L9 (fun hHeld8 => ?_)
                clear hK K
                try simp only [Act.put, List.getElem_toArray, List.getElem_cons_succ, List.getElem_cons_zero, List.setIfInBounds_toArray, List.set_cons_zero, List.set_cons_succ]
                refine wpAnyH_done (by kernel_rfl) ?_ _
                go_wp2_with fail
                go_meet
                exact ⟨V3.heap.size, rfl, rfl, by simpa using KS, L9⟩
              · skip
                go_simp
                have b16 := Blk.new V2 35 #[.int .u64 0, .int .u64 0, .int .u64 0, .int .u64 0, .int .u64 0, .int .u64 0, .int .u64 0, .int .u64 0, .int .u64 0, .int .u64 0, .int .u64 0, .int .u64 0, .int .u64 0, .int .u64 0, .int .u64 0, .int .u64 0]
                have La := Lat.alloc V2 (.cells #[.int .u64 0, .int .u64 0, .int .u64 0, .int .u64 0, .int .u64 0, .int .u64 0, .int .u64 0, .int .u64 0, .int .u64 0, .int .u64 0, .int .u64 0, .int .u64 0, .int .u64 0, .int .u64 0, .int .u64 0, .int .u64 0] 35)
                have s16 := L2.size
                obtain ⟨V3, hV⟩ : ∃ V, V2.alloc (.cells #[.int .u64 0, .int .u64 0, .int .u64 0, .int .u64 0, .int .u64 0, .int .u64 0, .int .u64 0, .int .u64 0, .int .u64 0, .int .u64 0, .int .u64 0, .int .u64 0, .int .u64 0, .int .u64 0, .int .u64 0, .int .u64 0] 35) = V := ⟨_, rfl⟩
                rw [hV] at b16 La ⊢
                clear hV
                have L3 := L2.trans La
                have b4 := b4.later La
                have b10 := b10.later La
                refine hK.out _ _ L3 (fun hHeld5 => ?_)
                clear hK K
                try simp only [Act.put, List.getElem_toArray, List.getElem_cons_succ, List.getElem_cons_zero, List.setIfInBounds_toArray, List.set_cons_zero, List.set_cons_succ]
                clear La
                refine wpAnyH_ready (rs := [12]) (by kernel_rfl) (by simp) (AllReadyH.cons rfl (fun K hK => ?_) AllReadyH.nil)
                go_simp
                refine (HGap _).mono ?_
                rintro e V4 ⟨rfl, lg⟩
                have L4 := L3.trans lg
                have b4 := b4.later lg
                have b10 := b10.later lg
                have b16 := b16.later lg
                clear lg
                refine hK.out _ _ L4 (fun hHeld6 => ?_)
                clear hK K
                try simp only [Act.put, List.getElem_toArray, List.getElem_cons_succ, List.getElem_cons_zero, List.setIfInBounds_toArray, List.set_cons_zero, List.set_cons_succ]
                refine wpAnyH_take (i := 13) (v := .tuple #[.agg X, .bool b]) rfl (by kernel_rfl) (by kernel_rfl) (by kernel_rfl) (fun _ _ _ h => h) (Or.inl ⟨by rfl, by intro w' hS; go_simp⟩) hHeld6 ?_
                simp only [Act.put, List.getElem_toArray, List.getElem_cons_succ, List.getElem_cons_zero, List.setIfInBounds_toArray, List.set_cons_zero, List.set_cons_succ]
                refine wpAnyH_take (i := 14) (v := .agg X) rfl (by kernel_rfl) (by kernel_rfl) (by kernel_rfl) (fun _ _ _ h => h) (Or.inl ⟨by rfl, by intro w' hS; go_simp⟩) hHeld6 ?_
                simp only [Act.put, List.getElem_toArray, List.getElem_cons_succ, List.getElem_cons_zero, List.setIfInBounds_toArray, List.set_cons_zero, List.set_cons_succ]
                refine wpAnyH_take (i := 15) (v := .bool b) rfl (by kernel_rfl) (by kernel_rfl) (by kernel_rfl) (fun _ _ _ h => h) (Or.inl ⟨by rfl, by intro w' hS; go_simp⟩) hHeld6 ?_
                simp only [Act.put, List.getElem_toArray, List.getElem_cons_succ, List.getElem_cons_zero, List.setIfInBounds_toArray, List.set_cons_zero, List.set_cons_succ]
                refine wpAnyH_ready (rs := [17]) (by kernel_rfl) (by simp) (AllReadyH.cons rfl (fun K hK => ?_) AllReadyH.nil)
                rw [if_pos (by rfl)]
                refine wp_store_mid 35 (.tmp 13) (.tmp 65) rfl V2.heap.size 0 X rfl rfl (b16.thereAll _ (by rw [z1.out]; rfl)) i1.out c1.out ?_
                have KS := b16.setCells X (by rw [z1.out]; rfl)
                have L9 : Lat wc (V4.setCells V2.heap.size 0 X.toList) := Lat.setCells s16 _ _ _ L4
                obtain ⟨V9, hV9⟩ : ∃ V, V4.setCells V2.heap.size 0 X.toList = V := ⟨_, rfl⟩
                rw [hV9] at KS L9 ⊢
                clear hV9
                refine hK.out _ _ L9 (fun hHeld7 => ?_)
                clear hK K
                try simp only [Act.put, List.getElem_toArray, List.getElem_cons_succ, List.getElem_cons_zero, List.setIfInBounds_toArray, List.set_cons_zero, List.set_cons_succ]
                refine wpAnyH_ready (rs := [18]) (by kernel_rfl) (by simp) (AllReadyH.cons rfl (fun K hK => ?_) AllReadyH.nil)
                go_simp
                refine hK.out _ _ L9 (fun hHeld8 => ?_)
                clear hK K
                try simp only [Act.put, List.getElem_toArray, List.getElem_cons_succ, List.getElem_cons_zero, List.setIfInBounds_toArray, List.set_cons_zero, List.set_cons_succ]
                refine wpAnyH_done (by kernel_rfl) ?_ _
                go_wp2_with fail
                go_meet
                exact ⟨V2.heap.size, rfl, rfl, by simpa using KS, L9⟩
            · skip
              go_simp
              have b16 := Blk.new V2 35 #[.int .u64 0, .int .u64 0, .int .u64 0, .int .u64 0, .int .u64 0, .int .u64 0, .int .u64 0, .int .u64 0, .int .u64 0, .int .u64 0, .int .u64 0, .int .u64 0, .int .u64 0, .int .u64 0, .int .u64 0, .int .u64 0]
              have La := Lat.alloc V2 (.cells #[.int .u64 0, .int .u64 0, .int .u64 0, .int .u64 0, .int .u64 0, .int .u64 0, .int .u64 0, .int .u64 0, .int .u64 0, .int .u64 0, .int .u64 0, .int .u64 0, .int .u64 0, .int .u64 0, .int .u64 0, .int .u64 0] 35)
              have s16 := L2.size
              obtain ⟨V3, hV⟩ : ∃ V, V2.alloc (.cells #[.int .u64 0, .int .u64 0, .int .u64 0, .int .u64 0, .int .u64 0, .int .u64 0, .int .u64 0, .int .u64 0, .int .u64 0, .int .u64 0, .int .u64 0, .int .u64 0, .int .u64 0, .int .u64 0, .int .u64 0, .int .u64 0] 35) = V := ⟨_, rfl⟩
              rw [hV] at b16 La ⊢
              clear hV
              have L3 := L2.trans La
              have b4 := b4.later La
              have b10 := b10.later La
              refine hK.out _ _ L3 (fun hHeld4 => ?_)
              clear hK K
              try simp only [Act.put, List.getElem_toArray, List.getElem_cons_succ, List.getElem_cons_zero, List.setIfInBounds_toArray, List.set_cons_zero, List.set_cons_succ]
              clear La
              refine wpAnyH_ready (rs := [11]) (by kernel_rfl) (by simp) (AllReadyH.cons rfl (fun K hK => ?_) AllReadyH.nil)
              go_simp
              refine (HP2 _ _ b10).mono ?_
              rintro e V4 ⟨rfl, rfl⟩
              refine hK.out _ _ L3 (fun hHeld5 => ?_)
              clear hK K
              try simp only [Act.put, List.getElem_toArray, List.getElem_cons_succ, List.getElem_cons_zero, List.setIfInBounds_toArray, List.set_cons_zero, List.set_cons_succ]
              refine wpAnyH_ready (rs := [12]) (by kernel_rfl) (by simp) (AllReadyH.cons rfl (fun K hK => ?_) AllReadyH.nil)
              go_simp
              refine (HGap _).mono ?_
              rintro e V4 ⟨rfl, lg⟩
              have L4 := L3.trans lg
              have b4 := b4.later lg
              have b10 := b10.later lg
              have b16 := b16.later lg
              clear lg
              refine hK.out _ _ L4 (fun hHeld6 => ?_)
              clear hK K
              try simp only [Act.put, List.getElem_toArray, List.getElem_cons_succ, List.getElem_cons_zero, List.setIfInBounds_toArray, List.set_cons_zero, List.set_cons_succ]
              refine wpAnyH_take (i := 13) (v := .tuple #[.agg X, .bool b]) rfl (by kernel_rfl) (by kernel_rfl) (by kernel_rfl) (fun _ _ _ h => h) (Or.inl ⟨by rfl, by intro w' hS; go_simp⟩) hHeld6 ?_
              simp only [Act.put, List.getElem_toArray, List.getElem_cons_succ, List.getElem_cons_zero, List.setIfInBounds_toArray, List.set_cons_zero, List.set_cons_succ]
              refine wpAnyH_take (i := 14) (v := .agg X) rfl (by kernel_rfl) (by kernel_rfl) (by kernel_rfl) (fun _ _ _ h => h) (Or.inl ⟨by rfl, by intro w' hS; go_simp⟩) hHeld6 ?_
              simp only [Act.put, List.getElem_toArray, List.getElem_cons_succ, List.getElem_cons_zero, List.setIfInBounds_toArray, List.set_cons_zero, List.set_cons_succ]
              refine wpAnyH_take (i := 15) (v := .bool b) rfl (by kernel_rfl) (by kernel_rfl) (by kernel_rfl) (fun _ _ _ h => h) (Or.inl ⟨by rfl, by intro w' hS; go_simp⟩) hHeld6 ?_
              simp only [Act.put, List.getElem_toArray, List.getElem_cons_succ, List.getElem_cons_zero, List.setIfInBounds_toArray, List.set_cons_zero, List.set_cons_succ]
              refine wpAnyH_ready (rs := [17]) (by kernel_rfl) (by simp) (AllReadyH.cons rfl (fun K hK => ?_) AllReadyH.nil)
              rw [if_pos (by rfl)]
              refine wp_store_mid 35 (.tmp 13) (.tmp 65) rfl V2.heap.size 0 X rfl rfl (b16.thereAll _ (by rw [z1.out]; rfl)) i1.out c1.out ?_
              have KS := b16.setCells X (by rw [z1.out]; rfl)
              have L9 : Lat wc (V4.setCells V2.heap.size 0 X.toList) := Lat.setCells s16 _ _ _ L4
              obtain ⟨V9, hV9⟩ : ∃ V, V4.setCells V2.heap.size 0 X.toList = V := ⟨_, rfl⟩
              rw [hV9] at KS L9 ⊢
              clear hV9
              refine hK.out _ _ L9 (fun hHeld7 => ?_)
              clear hK K
              try simp only [Act.put, List.getElem_toArray, List.getElem_cons_succ, List.getElem_cons_zero, List.setIfInBounds_toArray, List.set_cons_zero, List.set_cons_succ]
              refine wpAnyH_ready (rs := [18]) (by kernel_rfl) (by simp) (AllReadyH.cons rfl (fun K hK => ?_) AllReadyH.nil)
              go_simp
              refine hK.out _ _ L9 (fun hHeld8 => ?_)
              clear hK K
              try simp only [Act.put, List.getElem_toArray, List.getElem_cons_succ, List.getElem_cons_zero, List.setIfInBounds_toArray, List.set_cons_zero, List.set_cons_succ]
              refine wpAnyH_done (by kernel_rfl) ?_ _
              go_wp2_with fail
              go_meet
              exact ⟨V2.heap.size, rfl, rfl, by simpa using KS, L9⟩
          · skip
            go_simp
            have b16 := Blk.new V2 35 #[.int .u64 0, .int .u64 0, .int .u64 0, .int .u64 0, .int .u64 0, .int .u64 0, .int .u64 0, .int .u64 0, .int .u64 0, .int .u64 0, .int .u64 0, .int .u64 0, .int .u64 0, .int .u64 0, .int .u64 0, .int .u64 0]
            have La := Lat.alloc V2 (.cells #[.int .u64 0, .int .u64 0, .int .u64 0, .int .u64 0, .int .u64 0, .int .u64 0, .int .u64 0, .int .u64 0, .int .u64 0, .int .u64 0, .int .u64 0, .int .u64 0, .int .u64 0, .int .u64 0, .int .u64 0, .int .u64 0] 35)
            have s16 := L2.size
            obtain ⟨V3, hV⟩ : ∃ V, V2.alloc (.cells #[.int .u64 0, .int .u64 0, .int .u64 0, .int .u64 0, .int .u64 0, .int .u64 0, .int .u64 0, .int .u64 0, .int .u64 0, .int .u64 0, .int .u64 0, .int .u64 0, .int .u64 0, .int .u64 0, .int .u64 0, .int .u64 0] 35) = V := ⟨_, rfl⟩
            rw [hV] at b16 La ⊢
            clear hV
            have L3 := L2.trans La
            have b4 := b4.later La
            have b10 := b10.later La
            refine hK.out _ _ L3 (fun hHeld3 => ?_)
            clear hK K
            try simp only [Act.put, List.getElem_toArray, List.getElem_cons_succ, List.getElem_cons_zero, List.setIfInBounds_toArray, List.set_cons_zero, List.set_cons_succ]
            clear La
            refine wpAnyH_ready (rs := [5]) (by kernel_rfl) (by simp) (AllReadyH.cons rfl (fun K hK => ?_) AllReadyH.nil)
            go_simp
            refine (HP1 _ _ b4).mono ?_
            rintro e V4 ⟨rfl, rfl⟩
            refine hK.out _ _ L3 (fun hHeld4 => ?_)
            clear hK K
            try simp only [Act.put, List.getElem_toArray, List.getElem_cons_succ, List.getElem_cons_zero, List.setIfInBounds_toArray, List.set_cons_zero, List.set_cons_succ]
            refine wpAnyH_ready (rs := [11]) (by kernel_rfl) (by simp) (AllReadyH.cons rfl (fun K hK => ?_) AllReadyH.nil)
            go_simp
            refine (HP2 _ _ b10).mono ?_
            rintro e V4 ⟨rfl, rfl⟩
            refine hK.out _ _ L3 (fun hHeld5 => ?_)
            clear hK K
            try simp only [Act.put, List.getElem_toArray, List.getElem_cons_succ, List.getElem_cons_zero, List.setIfInBounds_toArray, List.set_cons_zero, List.set_cons_succ]
            refine wpAnyH_ready (rs := [12]) (by kernel_rfl) (by simp) (AllReadyH.cons rfl (fun K hK => ?_) AllReadyH.nil)
            go_simp
            refine (HGap _).mono ?_
            rintro e V4 ⟨rfl, lg⟩
            have L4 := L3.trans lg
            have b4 := b4.later lg
            have b10 := b10.later lg
            have b16 := b16.later lg
            clear lg
            refine hK.out _ _ L4 (fun hHeld6 => ?_)
            clear hK K
            try simp only [Act.put, List.getElem_toArray, List.getElem_cons_succ, List.getElem_cons_zero, List.setIfInBounds_toArray, List.set_cons_zero, List.set_cons_succ]
            refine wpAnyH_take (i := 13) (v := .tuple #[.agg X, .bool b]) rfl (by kernel_rfl) (by kernel_rfl) (by kernel_rfl) (fun _ _ _ h => h) (Or.inl ⟨by rfl, by intro w' hS; go_simp⟩) hHeld6 ?_
            simp only [Act.put, List.getElem_toArray, List.getElem_cons_succ, List.getElem_cons_zero, List.setIfInBounds_toArray, List.set_cons_zero, List.set_cons_succ]
            refine wpAnyH_take (i := 14) (v := .agg X) rfl (by kernel_rfl) (by kernel_rfl) (by kernel_rfl) (fun _ _ _ h => h) (Or.inl ⟨by rfl, by intro w' hS; go_simp⟩) hHeld6 ?_
            simp only [Act.put, List.getElem_toArray, List.getElem_cons_succ, List.getElem_cons_zero, List.setIfInBounds_toArray, List.set_cons_zero, List.set_cons_succ]
            refine wpAnyH_take (i := 15) (v := .bool b) rfl (by kernel_rfl) (by kernel_rfl) (by kernel_rfl) (fun _ _ _ h => h) (Or.inl ⟨by rfl, by intro w' hS; go_simp⟩) hHeld6 ?_
            simp only [Act.put, List.getElem_toArray, List.getElem_cons_succ, List.getElem_cons_zero, List.setIfInBounds_toArray, List.set_cons_zero, List.set_cons_succ]
            refine wpAnyH_ready (rs := [17]) (by kernel_rfl) (by simp) (AllReadyH.cons rfl (fun K hK => ?_) AllReadyH.nil)
            rw [if_pos (by rfl)]
            refine wp_store_mid 35 (.tmp 13) (.tmp 65) rfl V2.heap.size 0 X rfl rfl (b16.thereAll _ (by rw [z1.out]; rfl)) i1.out c1.out ?_
            have KS := b16.setCells X (by rw [z1.out]; rfl)
            have L9 : Lat wc (V4.setCells V2.heap.size 0 X.toList) := Lat.setCells s16 _ _ _ L4
            obtain ⟨V9, hV9⟩ : ∃ V, V4.setCells V2.heap.size 0 X.toList = V := ⟨_, rfl⟩
            rw [hV9] at KS L9 ⊢
            clear hV9
            refine hK.out _ _ L9 (fun hHeld7 => ?_)
            clear hK K
            try simp only [Act.put, List.getElem_toArray, List.getElem_cons_succ, List.getElem_cons_zero, List.setIfInBounds_toArray, List.set_cons_zero, List.set_cons_succ]
            refine wpAnyH_ready (rs := [18]) (by kernel_rfl) (by simp) (AllReadyH.cons rfl (fun K hK => ?_) AllReadyH.nil)
            go_simp
            refine hK.out _ _ L9 (fun hHeld8 => ?_)
            clear hK K
            try simp only [Act.put, List.getElem_toArray, List.getElem_cons_succ, List.getElem_cons_zero, List.setIfInBounds_toArray, List.set_cons_zero, List.set_cons_succ]
            refine wpAnyH_done (by kernel_rfl) ?_ _
            go_wp2_with fail
            go_meet
            exact ⟨V2.heap.size, rfl, rfl, by simpa using KS, L9⟩
        · skip
          go_simp
          have b16 := Blk.new V1 35 #[.int .u64 0, .int .u64 0, .int .u64 0, .int .u64 0, .int .u64 0, .int .u64 0, .int .u64 0, .int .u64 0, .int .u64 0, .int .u64 0, .int .u64 0, .int .u64 0, .int .u64 0, .int .u64 0, .int .u64 0, .int .u64 0]
          have La := Lat.alloc V1 (.cells #[.int .u64 0, .int .u64 0, .int .u64 0, .int .u64 0, .int .u64 0, .int .u64 0, .int .u64 0, .int .u64 0, .int .u64 0, .int .u64 0, .int .u64 0, .int .u64 0, .int .u64 0, .int .u64 0, .int .u64 0, .int .u64 0] 35)
          have s16 := L1.size
          obtain ⟨V2, hV⟩ : ∃ V, V1.alloc (.cells #[.int .u64 0, .int .u64 0, .int .u64 0, .int .u64 0, .int .u64 0, .int .u64 0, .int .u64 0, .int .u64 0, .int .u64 0, .int .u64 0, .int .u64 0, .int .u64 0, .int .u64 0, .int .u64 0, .int .u64 0, .int .u64 0] 35) = V := ⟨_, rfl⟩
          rw [hV] at b16 La ⊢
          clear hV
          have L2 := L1.trans La
          have b4 := b4.later La
          refine hK.out _ _ L2 (fun hHeld2 => ?_)
          clear hK K
          try simp only [Act.put, List.getElem_toArray, List.getElem_cons_succ, List.getElem_cons_zero, List.setIfInBounds_toArray, List.set_cons_zero, List.set_cons_succ]
          clear La
          refine wpAnyH_ready (rs := [5, 10]) (by kernel_rfl) (by simp) (AllReadyH.cons rfl (fun K hK => ?_) (AllReadyH.cons rfl (fun K hK => ?_) AllReadyH.nil))
          · skip
            go_simp
            refine (HP1 _ _ b4).mono ?_
            rintro e V3 ⟨rfl, rfl⟩
            refine hK.out _ _ L2 (fun hHeld3 => ?_)
            clear hK K
            try simp only [Act.put, List.getElem_toArray, List.getElem_cons_succ, List.getElem_cons_zero, List.setIfInBounds_toArray, List.set_cons_zero, List.set_cons_succ]
            refine wpAnyH_ready (rs := [10]) (by kernel_rfl) (by simp) (AllReadyH.cons rfl (fun K hK => ?_) AllReadyH.nil)
            go_simp
            have b10 := Blk.new V2 3 #[.int .i64 mp, .int .i64 ls]
            have La := Lat.alloc V2 (.cells #[.int .i64 mp, .int .i64 ls] 3)
            obtain ⟨V3, hV⟩ : ∃ V, V2.alloc (.cells #[.int .i64 mp, .int .i64 ls] 3) = V := ⟨_, rfl⟩
            rw [hV] at b10 La ⊢
            clear hV
            have L3 := L2.trans La
            have b4 := b4.later La
            have b16 := b16.later La
            refine hK.out _ _ L3 (fun hHeld4 => ?_)
            clear hK K
            try simp only [Act.put, List.getElem_toArray, List.getElem_cons_succ, List.getElem_cons_zero, List.setIfInBounds_toArray, List.set_cons_zero, List.set_cons_succ]
            clear La
            refine wpAnyH_ready (rs := [11]) (by kernel_rfl) (by simp) (AllReadyH.cons rfl (fun K hK => ?_) AllReadyH.nil)
            go_simp
            refine (HP2 _ _ b10).mono ?_
            rintro e V4 ⟨rfl, rfl⟩
            refine hK.out _ _ L3 (fun hHeld5 => ?_)
            clear hK K
            try simp only [Act.put, List.getElem_toArray, List.getElem_cons_succ, List.getElem_cons_zero, List.setIfInBounds_toArray, List.set_cons_zero, List.set_cons_succ]
            refine wpAnyH_ready (rs := [12]) (by kernel_rfl) (by simp) (AllReadyH.cons rfl (fun K hK => ?_) AllReadyH.nil)
            go_simp
            refine (HGap _).mono ?_
            rintro e V4 ⟨rfl, lg⟩
            have L4 := L3.trans lg
            have b4 := b4.later lg
            have b16 := b16.later lg
            have b10 := b10.later lg
            clear lg
            refine hK.out _ _ L4 (fun hHeld6 => ?_)
            clear hK K
            try simp only [Act.put, List.getElem_toArray, List.getElem_cons_succ, List.getElem_cons_zero, List.setIfInBounds_toArray, List.set_cons_zero, List.set_cons_succ]
            refine wpAnyH_take (i := 13) (v := .tuple #[.agg X, .bool b]) rfl (by kernel_rfl) (by kernel_rfl) (by kernel_rfl) (fun _ _ _ h => h) (Or.inl ⟨by rfl, by intro w' hS; go_simp⟩) hHeld6 ?_
            simp only [Act.put, List.getElem_toArray, List.getElem_cons_succ, List.getElem_cons_zero, List.setIfInBounds_toArray, List.set_cons_zero, List.set_cons_succ]
            refine wpAnyH_take (i := 14) (v := .agg X) rfl (by kernel_rfl) (by kernel_rfl) (by kernel_rfl) (fun _ _ _ h => h) (Or.inl ⟨by rfl, by intro w' hS; go_simp⟩) hHeld6 ?_
            simp only [Act.put, List.getElem_toArray, List.getElem_cons_succ, List.getElem_cons_zero, List.setIfInBounds_toArray, List.set_cons_zero, List.set_cons_succ]
            refine wpAnyH_take (i := 15) (v := .bool b) rfl (by kernel_rfl) (by kernel_rfl) (by kernel_rfl) (fun _ _ _ h => h) (Or.inl ⟨by rfl, by intro w' hS; go_simp⟩) hHeld6 ?_
            simp only [Act.put, List.getElem_toArray, List.getElem_cons_succ, List.getElem_cons_zero, List.setIfInBounds_toArray, List.set_cons_zero, List.set_cons_succ]
            refine wpAnyH_ready (rs := [17]) (by kernel_rfl) (by simp) (AllReadyH.cons rfl (fun K hK => ?_) AllReadyH.nil)
            rw [if_pos (by rfl)]
            refine wp_store_mid 35 (.tmp 13) (.tmp 65) rfl V1.heap.size 0 X rfl rfl (b16.thereAll _ (by rw [z1.out]; rfl)) i1.out c1.out ?_
            have KS := b16.setCells X (by rw [z1.out]; rfl)
            have L9 : Lat wc (V4.setCells V1.heap.size 0 X.toList) := Lat.setCells s16 _ _ _ L4
            obtain ⟨V9, hV9⟩ : ∃ V, V4.setCells V1.heap.size 0 X.toList = V := ⟨_, rfl⟩
            rw [hV9] at KS L9 ⊢
            clear hV9
            refine hK.out _ _ L9 (fun hHeld7 => ?_)
            clear hK K
            try simp only [Act.put, List.getElem_toArray, List.getElem_cons_succ, List.getElem_cons_zero, List.setIfInBounds_toArray, List.set_cons_zero, List.set_cons_succ]
            refine wpAnyH_ready (rs := [18]) (by kernel_rfl) (by simp) (AllReadyH.cons rfl (fun K hK => ?_) AllReadyH.nil)
            go_simp
            refine hK.out _ _ L9 (fun hHeld8 => ?_)
            clear hK K
            try simp only [Act.put, List.getElem_toArray, List.getElem_cons_succ, List.getElem_cons_zero, List.setIfInBounds_toArray, List.set_cons_zero, List.set_cons_succ]
            refine wpAnyH_done (by kernel_rfl) ?_ _
            go_wp2_with fail
            go_meet
            exact ⟨V1.heap.size, rfl, rfl, by simpa using KS, L9⟩
          · skip
            go_simp
            have b10 := Blk.new V2 3 #[.int .i64 mp, .int .i64 ls]
            have La := Lat.alloc V2 (.cells #[.int .i64 mp, .int .i64 ls] 3)
            obtain ⟨V3, hV⟩ : ∃ V, V2.alloc (.cells #[.int .i64 mp, .int .i64 ls] 3) = V := ⟨_, rfl⟩
            rw [hV] at b10 La ⊢
            clear hV
            have L3 := L2.trans La
            have b4 := b4.later La
            have b16 := b16.later La
            refine hK.out _ _ L3 (fun hHeld3 => ?_)
            clear hK K
            try simp only [Act.put, List.getElem_toArray, List.getElem_cons_succ, List.getElem_cons_zero, List.setIfInBounds_toArray, List.set_cons_zero, List.set_cons_succ]
            clear La
            refine wpAnyH_ready (rs := [5]) (by kernel_rfl) (by simp) (AllReadyH.cons rfl (fun K hK => ?_) AllReadyH.nil)
            go_simp
            refine (HP1 _ _ b4).mono ?_
            rintro e V4 ⟨rfl, rfl⟩
            refine hK.out _ _ L3 (fun hHeld4 => ?_)
            clear hK K
            try simp only [Act.put, List.getElem_toArray, List.getElem_cons_succ, List.getElem_cons_zero, List.setIfInBounds_toArray, List.set_cons_zero, List.set_cons_succ]
            refine wpAnyH_ready (rs := [11]) (by kernel_rfl) (by simp) (AllReadyH.cons rfl (fun K hK => ?_) AllReadyH.nil)
            go_simp
            refine (HP2 _ _ b10).mono ?_
            rintro e V4 ⟨rfl, rfl⟩
            refine hK.out _ _ L3 (fun hHeld5 => ?_)
            clear hK K
            try simp only [Act.put, List.getElem_toArray, List.getElem_cons_succ, List.getElem_cons_zero, List.setIfInBounds_toArray, List.set_cons_zero, List.set_cons_succ]
            refine wpAnyH_ready (rs := [12]) (by kernel_rfl) (by simp) (AllReadyH.cons rfl (fun K hK => ?_) AllReadyH.nil)
            go_simp
            refine (HGap _).mono ?_
            rintro e V4 ⟨rfl, lg⟩
            have L4 := L3.trans lg
            have b4 := b4.later lg
            have b16 := b16.later lg
            have b10 := b10.later lg
            clear lg
            refine hK.out _ _ L4 (fun hHeld6 => ?_)
            clear hK K
            try simp only [Act.put, List.getElem_toArray, List.getElem_cons_succ, List.getElem_cons_zero, List.setIfInBounds_toArray, List.set_cons_zero, List.set_cons_succ]
            refine wpAnyH_take (i := 13) (v := .tuple #[.agg X, .bool b]) rfl (by kernel_rfl) (by kernel_rfl) (by kernel_rfl) (fun _ _ _ h => h) (Or.inl ⟨by rfl, by intro w' hS; go_simp⟩) hHeld6 ?_
            simp only [Act.put, List.getElem_toArray, List.getElem_cons_succ, List.getElem_cons_zero, List.setIfInBounds_toArray, List.set_cons_zero, List.set_cons_succ]
            refine wpAnyH_take (i := 14) (v := .agg X) rfl (by kernel_rfl) (by kernel_rfl) (by kernel_rfl) (fun _ _ _ h => h) (Or.inl ⟨by rfl, by intro w' hS; go_simp⟩) hHeld6 ?_
            simp only [Act.put, List.getElem_toArray, List.getElem_cons_succ, List.getElem_cons_zero, List.setIfInBounds_toArray, List.set_cons_zero, List.set_cons_succ]
            refine wpAnyH_take (i := 15) (v := .bool b) rfl (by kernel_rfl) (by kernel_rfl) (by kernel_rfl) (fun _ _ _ h => h) (Or.inl ⟨by rfl, by intro w' hS; go_simp⟩) hHeld6 ?_
            simp only [Act.put, List.getElem_toArray, List.getElem_cons_succ, List.getElem_cons_zero, List.setIfInBounds_toArray, List.set_cons_zero, List.set_cons_succ]
            refine wpAnyH_ready (rs := [17]) (by kernel_rfl) (by simp) (AllReadyH.cons rfl (fun K hK => ?_) AllReadyH.nil)
            rw [if_pos (by rfl)]
            refine wp_store_mid 35 (.tmp 13) (.tmp 65) rfl V1.heap.size 0 X rfl rfl (b16.thereAll _ (by rw [z1.out]; rfl)) i1.out c1.out ?_
            have KS := b16.setCells X (by rw [z1.out]; rfl)
            have L9 : Lat wc (V4.setCells V1.heap.size 0 X.toList) := Lat.setCells s16 _ _ _ L4
            obtain ⟨V9, hV9⟩ : ∃ V, V4.setCells V1.heap.size 0 X.toList = V := ⟨_, rfl⟩
            rw [hV9] at KS L9 ⊢
            clear hV9
            refine hK.out _ _ L9 (fun hHeld7 => ?_)
            clear hK K
            try simp only [Act.put, List.getElem_toArray, List.getElem_cons_succ, List.getElem_cons_zero, List.setIfInBounds_toArray, List.set_cons_zero, List.set_cons_succ]
            refine wpAnyH_ready (rs := [18]) (by kernel_rfl) (by simp) (AllReadyH.cons rfl (fun K hK => ?_) AllReadyH.nil)
            go_simp
            refine hK.out _ _ L9 (fun hHeld8 => ?_)
            clear hK K
            try simp only [Act.put, List.getElem_toArray, List.getElem_cons_succ, List.getElem_cons_zero, List.setIfInBounds_toArray, List.set_cons_zero, List.set_cons_succ]
            refine wpAnyH_done (by kernel_rfl) ?_ _
            go_wp2_with fail
            go_meet
            exact ⟨V1.heap.size, rfl, rfl, by simpa using KS, L9⟩
      · skip
        go_simp
        have b10 := Blk.new V0 3 #[.int .i64 mp, .int .i64 ls]
        have La := Lat.alloc V0 (.cells #[.int .i64 mp, .int .i64 ls] 3)
        obtain ⟨V1, hV⟩ : ∃ V, V0.alloc (.cells #[.int .i64 mp, .int .i64 ls] 3) = V := ⟨_, rfl⟩
        rw [hV] at b10 La ⊢
        clear hV
        have L1 := L0.trans La
        refine hK.out _ _ L1 (fun hHeld1 => ?_)
        clear hK K
        try simp only [Act.put, List.getElem_toArray, List.getElem_cons_succ, List.getElem_cons_zero, List.setIfInBounds_toArray, List.set_cons_zero, List.set_cons_succ]
        clear La
        refine wpAnyH_ready (rs := [4, 16]) (by kernel_rfl) (by simp) (AllReadyH.cons rfl (fun K hK => ?_) (AllReadyH.cons rfl (fun K hK => ?_) AllReadyH.nil))
        · skip
          go_simp
          have b4 := Blk.new V1 3 #[.int .i64 ms, .int .i64 lp]
          have La := Lat.alloc V1 (.cells #[.int .i64 ms, .int .i64 lp] 3)
          obtain ⟨V2, hV⟩ : ∃ V, V1.alloc (.cells #[.int .i64 ms, .int .i64 lp] 3) = V := ⟨_, rfl⟩
          rw [hV] at b4 La ⊢
          clear hV
          have L2 := L1.trans La
          have b10 := b10.later La
          refine hK.out _ _ L2 (fun hHeld2 => ?_)
          clear hK K
          try simp only [Act.put, List.getElem_toArray, List.getElem_cons_succ, List.getElem_cons_zero, List.setIfInBounds_toArray, List.set_cons_zero, List.set_cons_succ]
          clear La
          refine wpAnyH_ready (rs := [5, 16]) (by kernel_rfl) (by simp) (AllReadyH.cons rfl (fun K hK => ?_) (AllReadyH.cons rfl (fun K hK => ?_) AllReadyH.nil))
          · skip
            go_simp
            refine (HP1 _ _ b4).mono ?_
            rintro e V3 ⟨rfl, rfl⟩
            refine hK.out _ _ L2 (fun hHeld3 => ?_)
            clear hK K
            try simp only [Act.put, List.getElem_toArray, List.getElem_cons_succ, List.getElem_cons_zero, List.setIfInBounds_toArray, List.set_cons_zero, List.set_cons_succ]
            refine wpAnyH_ready (rs := [11, 16]) (by kernel_rfl) (by simp) (AllReadyH.cons rfl (fun K hK => ?_) (AllReadyH.cons rfl (fun K hK => ?_) AllReadyH.nil))
            · skip
              go_simp
              refine (HP2 _ _ b10).mono ?_
              rintro e V3 ⟨rfl, rfl⟩
              refine hK.out _ _ L2 (fun hHeld4 => ?_)
              clear hK K
              try simp only [Act.put, List.getElem_toArray, List.getElem_cons_succ, List.getElem_cons_zero, List.setIfInBounds_toArray, List.set_cons_zero, List.set_cons_succ]
              refine wpAnyH_ready (rs := [12, 16]) (by kernel_rfl) (by simp) (AllReadyH.cons rfl (fun K hK => ?_) (AllReadyH.cons rfl (fun K hK => ?_) AllReadyH.nil))
              · skip
                go_simp
                refine (HGap _).mono ?_
                rintro e V3 ⟨rfl, lg⟩
                have L3 := L2.trans lg
                have b10 := b10.later lg
                have b4 := b4.later lg
                clear lg
                refine hK.out _ _ L3 (fun hHeld5 => ?_)
                clear hK K
                try simp only [Act.put, List.getElem_toArray, List.getElem_cons_succ, List.getElem_cons_zero, List.setIfInBounds_toArray, List.set_cons_zero, List.set_cons_succ]
                refine wpAnyH_take (i := 13) (v := .tuple #[.agg X, .bool b]) rfl (by kernel_rfl) (by kernel_rfl) (by kernel_rfl) (fun _ _ _ h => h) (Or.inl ⟨by rfl, by intro w' hS; go_simp⟩) hHeld5 ?_
                simp only [Act.put, List.getElem_toArray, List.getElem_cons_succ, List.getElem_cons_zero, List.setIfInBounds_toArray, List.set_cons_zero, List.set_cons_succ]
                refine wpAnyH_take (i := 14) (v := .agg X) rfl (by kernel_rfl) (by kernel_rfl) (by kernel_rfl) (fun _ _ _ h => h) (Or.inl ⟨by rfl, by intro w' hS; go_simp⟩) hHeld5 ?_
                simp only [Act.put, List.getElem_toArray, List.getElem_cons_succ, List.getElem_cons_zero, List.setIfInBounds_toArray, List.set_cons_zero, List.set_cons_succ]
                refine wpAnyH_take (i := 15) (v := .bool b) rfl (by kernel_rfl) (by kernel_rfl) (by kernel_rfl) (fun _ _ _ h => h) (Or.inl ⟨by rfl, by intro w' hS; go_simp⟩) hHeld5 ?_
                simp only [Act.put, List.getElem_toArray, List.getElem_cons_succ, List.getElem_cons_zero, List.setIfInBounds_toArray, List.set_cons_zero, List.set_cons_succ]
                refine wpAnyH_ready (rs := [16]) (by kernel_rfl) (by simp) (AllReadyH.cons rfl (fun K hK => ?_) AllReadyH.nil)
                go_simp
                have b16 := Blk.new V3 35 #[.int .u64 0, .int .u64 0, .int .u64 0, .int .u64 0, .int .u64 0, .int .u64 0, .int .u64 0, .int .u64 0, .int .u64 0, .int .u64 0, .int .u64 0, .int .u64 0, .int .u64 0, .int .u64 0, .int .u64 0, .int .u64 0]
                have La := Lat.alloc V3 (.cells #[.int .u64 0, .int .u64 0, .int .u64 0, .int .u64 0, .int .u64 0, .int .u64 0, .int .u64 0, .int .u64 0, .int .u64 0, .int .u64 0, .int .u64 0, .int .u64 0, .int .u64 0, .int .u64 0, .int .u64 0, .int .u64 0] 35)
                have s16 := L3.size
                obtain ⟨V4, hV⟩ : ∃ V, V3.alloc (.cells #[.int .u64 0, .int .u64 0, .int .u64 0, .int .u64 0, .int .u64 0, .int .u64 0, .int .u64 0, .int .u64 0, .int .u64 0, .int .u64 0, .int .u64 0, .int .u64 0, .int .u64 0, .int .u64 0, .int .u64 0, .int .u64 0] 35) = V := ⟨_, rfl⟩
                rw [hV] at b16 La ⊢
                clear hV
                have L4 := L3.trans La
                have b10 := b10.later La
                have b4 := b4.later La
                refine hK.out _ _ L4 (fun hHeld6 => ?_)
                clear hK K
                try simp only [Act.put, List.getElem_toArray, List.getElem_cons_succ, List.getElem_cons_zero, List.setIfInBounds_toArray, List.set_cons_zero, List.set_cons_succ]
                clear La
                refine wpAnyH_ready (rs := [17]) (by kernel_rfl) (by simp) (AllReadyH.cons rfl (fun K hK => ?_) AllReadyH.nil)
                rw [if_pos (by rfl)]
                refine wp_store_mid 35 (.tmp 13) (.tmp 65) rfl V3.heap.size 0 X rfl rfl (b16.thereAll _ (by rw [z1.out]; rfl)) i1.out c1.out ?_
                have KS := b16.setCells X (by rw [z1.out]; rfl)
                have L9 : Lat wc (V4.setCells V3.heap.size 0 X.toList) := Lat.setCells s16 _ _ _ L4
                obtain ⟨V9, hV9⟩ : ∃ V, V4.setCells V3.heap.size 0 X.toList = V := ⟨_, rfl⟩
                rw [hV9] at KS L9 ⊢
                clear hV9
                refine hK.out _ _ L9 (fun hHeld7 => ?_)
                clear hK K
                try simp only [Act.put, List.getElem_toArray, List.getElem_cons_succ, List.getElem_cons_zero, List.setIfInBounds_toArray, List.set_cons_zero, List.set_cons_succ]
                refine wpAnyH_ready (rs := [18]) (by kernel_rfl) (by simp) (AllReadyH.cons rfl (fun K hK => ?_) AllReadyH.nil)
                go_simp
                refine hK.out _ _ L9 (fun hHeld8 => ?_)
                clear hK K
                try simp only [Act.put, List.getElem_toArray, List.getElem_cons_succ, List.getElem_cons_zero, List.setIfInBounds_toArray, List.set_cons_zero, List.set_cons_succ]
                refine wpAnyH_done (by kernel_rfl) ?_ _
                go_wp2_with fail
                go_meet
                exact ⟨V3.heap.size, rfl, rfl, by simpa using KS, L9⟩
              · skip
                go_simp
                have b16 := Blk.new V2 35 #[.int .u64 0, .int .u64 0, .int .u64 0, .int .u64 0, .int .u64 0, .int .u64 0, .int .u64 0, .int .u64 0, .int .u64 0, .int .u64 0, .int .u64 0, .int .u64 0, .int .u64 0, .int .u64 0, .int .u64 0, .int .u64 0]
                have La := Lat.alloc V2 (.cells #[.int .u64 0, .int .u64 0, .int .u64 0, .int .u64 0, .int .u64 0, .int .u64 0, .int .u64 0, .int .u64 0, .int .u64 0, .int .u64 0, .int .u64 0, .int .u64 0, .int .u64 0, .int .u64 0, .int .u64 0, .int .u64 0] 35)
                have s16 := L2.size
                obtain ⟨V3, hV⟩ : ∃ V, V2.alloc (.cells #[.int .u64 0, .int .u64 0, .int .u64 0, .int .u64 0, .int .u64 0, .int .u64 0, .int .u64 0, .int .u64 0, .int .u64 0, .int .u64 0, .int .u64 0, .int .u64 0, .int .u64 0, .int .u64 0, .int .u64 0, .int .u64 0] 35) = V := ⟨_, rfl⟩
                rw [hV] at b16 La ⊢
                clear hV
                have L3 := L2.trans La
                have b10 := b10.later La
                have b4 := b4.later La
                refine hK.out _ _ L3 (fun hHeld5 => ?_)
                clear hK K
                try simp only [Act.put, List.getElem_toArray, List.getElem_cons_succ, List.getElem_cons_zero, List.setIfInBounds_toArray, List.set_cons_zero, List.set_cons_succ]
                clear La
                refine wpAnyH_ready (rs := [12]) (by kernel_rfl) (by simp) (AllReadyH.cons rfl (fun K hK => ?_) AllReadyH.nil)
                go_simp
                refine (HGap _).mono ?_
                rintro e V4 ⟨rfl, lg⟩
                have L4 := L3.trans lg
                have b10 := b10.later lg
                have b4 := b4.later lg
                have b16 := b16.later lg
                clear lg
                refine hK.out _ _ L4 (fun hHeld6 => ?_)
                clear hK K
                try simp only [Act.put, List.getElem_toArray, List.getElem_cons_succ, List.getElem_cons_zero, List.setIfInBounds_toArray, List.set_cons_zero, List.set_cons_succ]
                refine wpAnyH_take (i := 13) (v := .tuple #[.agg X, .bool b]) rfl (by kernel_rfl) (by kernel_rfl) (by kernel_rfl) (fun _ _ _ h => h) (Or.inl ⟨by rfl, by intro w' hS; go_simp⟩) hHeld6 ?_
                simp only [Act.put, List.getElem_toArray, List.getElem_cons_succ, List.getElem_cons_zero, List.setIfInBounds_toArray, List.set_cons_zero, List.set_cons_succ]
                refine wpAnyH_take (i := 14) (v := .agg X) rfl (by kernel_rfl) (by kernel_rfl) (by kernel_rfl) (fun _ _ _ h => h) (Or.inl ⟨by rfl, by intro w' hS; go_simp⟩) hHeld6 ?_
                simp only [Act.put, List.getElem_toArray, List.getElem_cons_succ, List.getElem_cons_zero, List.setIfInBounds_toArray, List.set_cons_zero, List.set_cons_succ]
                refine wpAnyH_take (i := 15) (v := .bool b) rfl (by kernel_rfl) (by kernel_rfl) (by kernel_rfl) (fun _ _ _ h => h) (Or.inl ⟨by rfl, by intro w' hS; go_simp⟩) hHeld6 ?_
                simp only [Act.put, List.getElem_toArray, List.getElem_cons_succ, List.getElem_cons_zero, List.setIfInBounds_toArray, List.set_cons_zero, List.set_cons_succ]
                refine wpAnyH_ready (rs := [17]) (by kernel_rfl) (by simp) (AllReadyH.cons rfl (fun K hK => ?_) AllReadyH.nil)
                rw [if_pos (by rfl)]
                refine wp_store_mid 35 (.tmp 13) (.tmp 65) rfl V2.heap.size 0 X rfl rfl (b16.thereAll _ (by rw [z1.out]; rfl)) i1.out c1.out ?_
                have KS := b16.setCells X (by rw [z1.out]; rfl)
                have L9 : Lat wc (V4.setCells V2.heap.size 0 X.toList) := Lat.setCells s16 _ _ _ L4
                obtain ⟨V9, hV9⟩ : ∃ V, V4.setCells V2.heap.size 0 X.toList = V := ⟨_, rfl⟩
                rw [hV9] at KS L9 ⊢
                clear hV9
                refine hK.out _ _ L9 (fun hHeld7 => ?_)
                clear hK K
                try simp only [Act.put, List.getElem_toArray, List.getElem_cons_succ, List.getElem_cons_zero, List.setIfInBounds_toArray, List.set_cons_zero, List.set_cons_succ]
                refine wpAnyH_ready (rs := [18]) (by kernel_rfl) (by simp) (AllReadyH.cons rfl (fun K hK => ?_) AllReadyH.nil)
                go_simp
                refine hK.out _ _ L9 (fun hHeld8 => ?_)
                clear hK K
                try simp only [Act.put, List.getElem_toArray, List.getElem_cons_succ, List.getElem_cons_zero, List.setIfInBounds_toArray, List.set_cons_zero, List.set_cons_succ]
                refine wpAnyH_done (by kernel_rfl) ?_ _
                go_wp2_with fail
                go_meet
                exact ⟨V2.heap.size, rfl, rfl, by simpa using KS, L9⟩
            · skip
              go_simp
              have b16 := Blk.new V2 35 #[.int .u64 0, .int .u64 0, .int .u64 0, .int .u64 0, .int .u64 0, .int .u64 0, .int .u64 0, .int .u64 0, .int .u64 0, .int .u64 0, .int .u64 0, .int .u64 0, .int .u64 0, .int .u64 0, .int .u64 0, .int .u64 0]
              have La := Lat.alloc V2 (.cells #[.int .u64 0, .int .u64 0, .int .u64 0, .int .u64 0, .int .u64 0, .int .u64 0, .int .u64 0, .int .u64 0, .int .u64 0, .int .u64 0, .int .u64 0, .int .u64 0, .int .u64 0, .int .u64 0, .int .u64 0, .int .u64 0] 35)
              have s16 := L2.size
              obtain ⟨V3, hV⟩ : ∃ V, V2.alloc (.cells #[.int .u64 0, .int .u64 0, .int .u64 0, .int .u64 0, .int .u64 0, .int .u64 0, .int .u64 0, .int .u64 0, .int .u64 0, .int .u64 0, .int .u64 0, .int .u64 0, .int .u64 0, .int .u64 0, .int .u64 0, .int .u64 0] 35) = V := ⟨_, rfl⟩
              rw [hV] at b16 La ⊢
              clear hV
              have L3 := L2.trans La
              have b10 := b10.later La
              have b4 := b4.later La
              refine hK.out _ _ L3 (fun hHeld4 => ?_)
              clear hK K
              try simp only [Act.put, List.getElem_toArray, List.getElem_cons_succ, List.getElem_cons_zero, List.setIfInBounds_toArray, List.set_cons_zero, List.set_cons_succ]
              clear La
              refine wpAnyH_ready (rs := [11]) (by kernel_rfl) (by simp) (AllReadyH.cons rfl (fun K hK => ?_) AllReadyH.nil)
              go_simp
              refine (HP2 _ _ b10).mono ?_
              rintro e V4 ⟨rfl, rfl⟩
              refine hK.out _ _ L3 (fun hHeld5 => ?_)
              clear hK K
              try simp only [Act.put, List.getElem_toArray, List.getElem_cons_succ, List.getElem_cons_zero, List.setIfInBounds_toArray, List.set_cons_zero, List.set_cons_succ]
              refine wpAnyH_ready (rs := [12]) (by kernel_rfl) (by simp) (AllReadyH.cons rfl (fun K hK => ?_) AllReadyH.nil)
              go_simp
              refine (HGap _).mono ?_
              rintro e V4 ⟨rfl, lg⟩
              have L4 := L3.trans lg
              have b10 := b10.later lg
              have b4 := b4.later lg
              have b16 := b16.later lg
              clear lg
              refine hK.out _ _ L4 (fun hHeld6 => ?_)
              clear hK K
              try simp only [Act.put, List.getElem_toArray, List.getElem_cons_succ, List.getElem_cons_zero, List.setIfInBounds_toArray, List.set_cons_zero, List.set_cons_succ]
              refine wpAnyH_take (i := 13) (v := .tuple #[.agg X, .bool b]) rfl (by kernel_rfl) (by kernel_rfl) (by kernel_rfl) (fun _ _ _ h => h) (Or.inl ⟨by rfl, by intro w' hS; go_simp⟩) hHeld6 ?_
              simp only [Act.put, List.getElem_toArray, List.getElem_cons_succ, List.getElem_cons_zero, List.setIfInBounds_toArray, List.set_cons_zero, List.set_cons_succ]
              refine wpAnyH_take (i := 14) (v := .agg X) rfl (by kernel_rfl) (by kernel_rfl) (by kernel_rfl) (fun _ _ _ h => h) (Or.inl ⟨by rfl, by intro w' hS; go_simp⟩) hHeld6 ?_
              simp only [Act.put, List.getElem_toArray, List.getElem_cons_succ, List.getElem_cons_zero, List.setIfInBounds_toArray, List.set_cons_zero, List.set_cons_succ]
              refine wpAnyH_take (i := 15) (v := .bool b) rfl (by kernel_rfl) (by kernel_rfl) (by kernel_rfl) (fun _ _ _ h => h) (Or.inl ⟨by rfl, by intro w' hS; go_simp⟩) hHeld6 ?_
              simp only [Act.put, List.getElem_toArray, List.getElem_cons_succ, List.getElem_cons_zero, List.setIfInBounds_toArray, List.set_cons_zero, List.set_cons_succ]
              refine wpAnyH_ready (rs := [17]) (by kernel_rfl) (by simp) (AllReadyH.cons rfl (fun K hK => ?_) AllReadyH.nil)
              rw [if_pos (by rfl)]
              refine wp_store_mid 35 (.tmp 13) (.tmp 65) rfl V2.heap.size 0 X rfl rfl (b16.thereAll _ (by rw [z1.out]; rfl)) i1.out c1.out ?_
              have KS := b16.setCells X (by rw [z1.out]; rfl)
              have L9 : Lat wc (V4.setCells V2.heap.size 0 X.toList) := Lat.setCells s16 _ _ _ L4
              obtain ⟨V9, hV9⟩ : ∃ V, V4.setCells V2.heap.size 0 X.toList = V := ⟨_, rfl⟩
              rw [hV9] at KS L9 ⊢
              clear hV9
              refine hK.out _ _ L9 (fun hHeld7 => ?_)
              clear hK K
              try simp only [Act.put, List.getElem_toArray, List.getElem_cons_succ, List.getElem_cons_zero, List.setIfInBounds_toArray, List.set_cons_zero, List.set_cons_succ]
              refine wpAnyH_ready (rs := [18]) (by kernel_rfl) (by simp) (AllReadyH.cons rfl (fun K hK => ?_) AllReadyH.nil)
              go_simp
              refine hK.out _ _ L9 (fun hHeld8 => ?_)
              clear hK K
              try simp only [Act.put, List.getElem_toArray, List.getElem_cons_succ, List.getElem_cons_zero, List.setIfInBounds_toArray, List.set_cons_zero, List.set_cons_succ]
              refine wpAnyH_done (by kernel_rfl) ?_ _
              go_wp2_with fail
              go_meet
              exact ⟨V2.heap.size, rfl, rfl, by simpa using KS, L9⟩
          · skip
            go_simp
            have b16 := Blk.new V2 35 #[.int .u64 0, .int .u64 0, .int .u64 0, .int .u64 0, .int .u64 0, .int .u64 0, .int .u64 0, .int .u64 0, .int .u64 0, .int .u64 0, .int .u64 0, .int .u64 0, .int .u64 0, .int .u64 0, .int .u64 0, .int .u64 0]
            have La := Lat.alloc V2 (.cells #[.int .u64 0, .int .u64 0, .int .u64 0, .int .u64 0, .int .u64 0, .int .u64 0, .int .u64 0, .int .u64 0, .int .u64 0, .int .u64 0, .int .u64 0, .int .u64 0, .int .u64 0, .int .u64 0, .int .u64 0, .int .u64 0] 35)
            have s16 := L2.size
            obtain ⟨V3, hV⟩ : ∃ V, V2.alloc (.cells #[.int .u64 0, .int .u64 0, .int .u64 0, .int .u64 0, .int .u64 0, .int .u64 0, .int .u64 0, .int .u64 0, .int .u64 0, .int .u64 0, .int .u64 0, .int .u64 0, .int .u64 0, .int .u64 0, .int .u64 0, .int .u64 0] 35) = V := ⟨_, rfl⟩
            rw [hV] at b16 La ⊢
            clear hV
            have L3 := L2.trans La
            have b10 := b10.later La
            have b4 := b4.later La
            refine hK.out _ _ L3 (fun hHeld3 => ?_)
            clear hK K
            try simp only [Act.put, List.getElem_toArray, List.getElem_cons_succ, List.getElem_cons_zero, List.setIfInBounds_toArray, List.set_cons_zero, List.set_cons_succ]
            clear La
            refine wpAnyH_ready (rs := [5]) (by kernel_rfl) (by simp) (AllReadyH.cons rfl (fun K hK => ?_) AllReadyH.nil)
            go_simp
            refine (HP1 _ _ b4).mono ?_
            rintro e V4 ⟨rfl, rfl⟩
            refine hK.out _ _ L3 (fun hHeld4 => ?_)
            clear hK K
            try simp only [Act.put, List.getElem_toArray, List.getElem_cons_succ, List.getElem_cons_zero, List.setIfInBounds_toArray, List.set_cons_zero, List.set_cons_succ]
            refine wpAnyH_ready (rs := [11]) (by kernel_rfl) (by simp) (AllReadyH.cons rfl (fun K hK => ?_) AllReadyH.nil)
            go_simp
            refine (HP2 _ _ b10).mono ?_
            rintro e V4 ⟨rfl, rfl⟩
            refine hK.out _ _ L3 (fun hHeld5 => ?_)
            clear hK K
            try simp only [Act.put, List.getElem_toArray, List.getElem_cons_succ, List.getElem_cons_zero, List.setIfInBounds_toArray, List.set_cons_zero, List.set_cons_succ]
            refine wpAnyH_ready (rs := [12]) (by kernel_rfl) (by simp) (AllReadyH.cons rfl (fun K hK => ?_) AllReadyH.nil)
            go_simp
            refine (HGap _).mono ?_
            rintro e V4 ⟨rfl, lg⟩
            have L4 := L3.trans lg
            have b10 := b10.later lg
            have b4 := b4.later lg
            have b16 := b16.later lg
            clear lg
            refine hK.out _ _ L4 (fun hHeld6 => ?_)
            clear hK K
            try simp only [Act.put, List.getElem_toArray, List.getElem_cons_succ, List.getElem_cons_zero, List.setIfInBounds_toArray, List.set_cons_zero, List.set_cons_succ]
            refine wpAnyH_take (i := 13) (v := .tuple #[.agg X, .bool b]) rfl (by kernel_rfl) (by kernel_rfl) (by kernel_rfl) (fun _ _ _ h => h) (Or.inl ⟨by rfl, by intro w' hS; go_simp⟩) hHeld6 ?_
            simp only [Act.put, List.getElem_toArray, List.getElem_cons_succ, List.getElem_cons_zero, List.setIfInBounds_toArray, List.set_cons_zero, List.set_cons_succ]
            refine wpAnyH_take (i := 14) (v := .agg X) rfl (by kernel_rfl) (by kernel_rfl) (by kernel_rfl) (fun _ _ _ h => h) (Or.inl ⟨by rfl, by intro w' hS; go_simp⟩) hHeld6 ?_
            simp only [Act.put, List.getElem_toArray, List.getElem_cons_succ, List.getElem_cons_zero, List.setIfInBounds_toArray, List.set_cons_zero, List.set_cons_succ]
            refine wpAnyH_take (i := 15) (v := .bool b) rfl (by kernel_rfl) (by kernel_rfl) (by kernel_rfl) (fun _ _ _ h => h) (Or.inl ⟨by rfl, by intro w' hS; go_simp⟩) hHeld6 ?_
            simp only [Act.put, List.getElem_toArray, List.getElem_cons_succ, List.getElem_cons_zero, List.setIfInBounds_toArray, List.set_cons_zero, List.set_cons_succ]
            refine wpAnyH_ready (rs := [17]) (by kernel_rfl) (by simp) (AllReadyH.cons rfl (fun K hK => ?_) AllReadyH.nil)
            rw [if_pos (by rfl)]
            refine wp_store_mid 35 (.tmp 13) (.tmp 65) rfl V2.heap.size 0 X rfl rfl (b16.thereAll _ (by rw [z1.out]; rfl)) i1.out c1.out ?_
            have KS := b16.setCells X (by rw [z1.out]; rfl)
            have L9 : Lat wc (V4.setCells V2.heap.size 0 X.toList) := Lat.setCells s16 _ _ _ L4
            obtain ⟨V9, hV9⟩ : ∃ V, V4.setCells V2.heap.size 0 X.toList = V := ⟨_, rfl⟩
            rw [hV9] at KS L9 ⊢
            clear hV9
            refine hK.out _ _ L9 (fun hHeld7 => ?_)
            clear hK K
            try simp only [Act.put, List.getElem_toArray, List.getElem_cons_succ, List.getElem_cons_zero, List.setIfInBounds_toArray, List.set_cons_zero, List.set_cons_succ]
            refine wpAnyH_ready (rs := [18]) (by kernel_rfl) (by simp) (AllReadyH.cons rfl (fun K hK => ?_) AllReadyH.nil)
            go_simp
            refine hK.out _ _ L9 (fun hHeld8 => ?_)
            clear hK K
            try simp only [Act.put, List.getElem_toArray, List.getElem_cons_succ, List.getElem_cons_zero, List.setIfInBounds_toArray, List.set_cons_zero, List.set_cons_succ]
            refine wpAnyH_done (by kernel_rfl) ?_ _
            go_wp2_with fail
            go_meet
            exact ⟨V2.heap.size, rfl, rfl, by simpa using KS, L9⟩
        · skip
          go_simp
          have b16 := Blk.new V1 35 #[.int .u64 0, .int .u64 0, .int .u64 0, .int .u64 0, .int .u64 0, .int .u64 0, .int .u64 0, .int .u64 0, .int .u64 0, .int .u64 0, .int .u64 0, .int .u64 0, .int .u64 0, .int .u64 0, .int .u64 0, .int .u64 0]
          have La := Lat.alloc V1 (.cells #[.int .u64 0, .int .u64 0, .int .u64 0, .int .u64 0, .int .u64 0, .int .u64 0, .int .u64 0, .int .u64 0, .int .u64 0, .int .u64 0, .int .u64 0, .int .u64 0, .int .u64 0, .int .u64 0, .int .u64 0, .int .u64 0] 35)
          have s16 := L1.size
          obtain ⟨V2, hV⟩ : ∃ V, V1.alloc (.cells #[.int .u64 0, .int .u64 0, .int .u64 0, .int .u64 0, .int .u64 0, .int .u64 0, .int .u64 0, .int .u64 0, .int .u64 0, .int .u64 0, .int .u64 0, .int .u64 0, .int .u64 0, .int .u64 0, .int .u64 0, .int .u64 0] 35) = V := ⟨_, rfl⟩
          rw [hV] at b16 La ⊢
          clear hV
          have L2 := L1.trans La
          have b10 := b10.later La
          refine hK.out _ _ L2 (fun hHeld2 => ?_)
          clear hK K
          try simp only [Act.put, List.getElem_toArray, List.getElem_cons_succ, List.getElem_cons_zero, List.setIfInBounds_toArray, List.set_cons_zero, List.set_cons_succ]
          clear La
          refine wpAnyH_ready (rs := [4]) (by kernel_rfl) (by simp) (AllReadyH.cons rfl (fun K hK => ?_) AllReadyH.nil)
          go_simp
          have b4 := Blk.new V2 3 #[.int .i64 ms, .int .i64 lp]
          have La := Lat.alloc V2 (.cells #[.int .i64 ms, .int .i64 lp] 3)
          obtain ⟨V3, hV⟩ : ∃ V, V2.alloc (.cells #[.int .i64 ms, .int .i64 lp] 3) = V := ⟨_, rfl⟩
          rw [hV] at b4 La ⊢
          clear hV
          have L3 := L2.trans La
          have b10 := b10.later La
          have b16 := b16.later La
          refine hK.out _ _ L3 (fun hHeld3 => ?_)
          clear hK K
          try simp only [Act.put, List.getElem_toArray, List.getElem_cons_succ, List.getElem_cons_zero, List.setIfInBounds_toArray, List.set_cons_zero, List.set_cons_succ]
          clear La
          refine wpAnyH_ready (rs := [5]) (by kernel_rfl) (by simp) (AllReadyH.cons rfl (fun K hK => ?_) AllReadyH.nil)
          go_simp
          refine (HP1 _ _ b4).mono ?_
          rintro e V4 ⟨rfl, rfl⟩
          refine hK.out _ _ L3 (fun hHeld4 => ?_)
          clear hK K
          try simp only [Act.put, List.getElem_toArray, List.getElem_cons_succ, List.getElem_cons_zero, List.setIfInBounds_toArray, List.set_cons_zero, List.set_cons_succ]
          refine wpAnyH_ready (rs := [11]) (by kernel_rfl) (by simp) (AllReadyH.cons rfl (fun K hK => ?_) AllReadyH.nil)
          go_simp
          refine (HP2 _ _ b10).mono ?_
          rintro e V4 ⟨rfl, rfl⟩
          refine hK.out _ _ L3 (fun hHeld5 => ?_)
          clear hK K
          try simp only [Act.put, List.getElem_toArray, List.getElem_cons_succ, List.getElem_cons_zero, List.setIfInBounds_toArray, List.set_cons_zero, List.set_cons_succ]
          refine wpAnyH_ready (rs := [12]) (by kernel_rfl) (by simp) (AllReadyH.cons rfl (fun K hK => ?_) AllReadyH.nil)
          go_simp
          refine (HGap _).mono ?_
          rintro e V4 ⟨rfl, lg⟩
          have L4 := L3.trans lg
          have b10 := b10.later lg
          have b16 := b16.later lg
          have b4 := b4.later lg
          clear lg
          refine hK.out _ _ L4 (fun hHeld6 => ?_)
          clear hK K
          try simp only [Act.put, List.getElem_toArray, List.getElem_cons_succ, List.getElem_cons_zero, List.setIfInBounds_toArray, List.set_cons_zero, List.set_cons_succ]
          refine wpAnyH_take (i := 13) (v := .tuple #[.agg X, .bool b]) rfl (by kernel_rfl) (by kernel_rfl) (by kernel_rfl) (fun _ _ _ h => h) (Or.inl ⟨by rfl, by intro w' hS; go_simp⟩) hHeld6 ?_
          simp only [Act.put, List.getElem_toArray, List.getElem_cons_succ, List.getElem_cons_zero, List.setIfInBounds_toArray, List.set_cons_zero, List.set_cons_succ]
          refine wpAnyH_take (i := 14) (v := .agg X) rfl (by kernel_rfl) (by kernel_rfl) (by kernel_rfl) (fun _ _ _ h => h) (Or.inl ⟨by rfl, by intro w' hS; go_simp⟩) hHeld6 ?_
          simp only [Act.put, List.getElem_toArray, List.getElem_cons_succ, List.getElem_cons_zero, List.setIfInBounds_toArray, List.set_cons_zero, List.set_cons_succ]
          refine wpAnyH_take (i := 15) (v := .bool b) rfl (by kernel_rfl) (by kernel_rfl) (by kernel_rfl) (fun _ _ _ h => h) (Or.inl ⟨by rfl, by intro w' hS; go_simp⟩) hHeld6 ?_
          simp only [Act.put, List.getElem_toArray, List.getElem_cons_succ, List.getElem_cons_zero, List.setIfInBounds_toArray, List.set_cons_zero, List.set_cons_succ]
          refine wpAnyH_ready (rs := [17]) (by kernel_rfl) (by simp) (AllReadyH.cons rfl (fun K hK => ?_) AllReadyH.nil)
          rw [if_pos (by rfl)]
          refine wp_store_mid 35 (.tmp 13) (.tmp 65) rfl V1.heap.size 0 X rfl rfl (b16.thereAll _ (by rw [z1.out]; rfl)) i1.out c1.out ?_
          have KS := b16.setCells X (by rw [z1.out]; rfl)
          have L9 : Lat wc (V4.setCells V1.heap.size 0 X.toList) := Lat.setCells s16 _ _ _ L4
          obtain ⟨V9, hV9⟩ : ∃ V, V4.setCells V1.heap.size 0 X.toList = V := ⟨_, rfl⟩
          rw [hV9] at KS L9 ⊢
          clear hV9
          refine hK.out _ _ L9 (fun hHeld7 => ?_)
          clear hK K
          try simp only [Act.put, List.getElem_toArray, List.getElem_cons_succ, List.getElem_cons_zero, List.setIfInBounds_toArray, List.set_cons_zero, List.set_cons_succ]
          refine wpAnyH_ready (rs := [18]) (by kernel_rfl) (by simp) (AllReadyH.cons rfl (fun K hK => ?_) AllReadyH.nil)
          go_simp
          refine hK.out _ _ L9 (fun hHeld8 => ?_)
          clear hK K
          try simp only [Act.put, List.getElem_toArray, List.getElem_cons_succ, List.getElem_cons_zero, List.setIfInBounds_toArray, List.set_cons_zero, List.set_cons_succ]
          refine wpAnyH_done (by kernel_rfl) ?_ _
          go_wp2_with fail
          go_meet
          exact ⟨V1.heap.size, rfl, rfl, by simpa using KS, L9⟩
      · skip
        go_simp
        have b16 := Blk.new V0 35 #[.int .u64 0, .int .u64 0, .int .u64 0, .int .u64 0, .int .u64 0, .int .u64 0, .int .u64 0, .int .u64 0, .int .u64 0, .int .u64 0, .int .u64 0, .int .u64 0, .int .u64 0, .int .u64 0, .int .u64 0, .int .u64 0]
        have La := Lat.alloc V0 (.cells #[.int .u64 0, .int .u64 0, .int .u64 0, .int .u64 0, .int .u64 0, .int .u64 0, .int .u64 0, .int .u64 0, .int .u64 0, .int .u64 0, .int .u64 0, .int .u64 0, .int .u64 0, .int .u64 0, .int .u64 0, .int .u64 0] 35)
        have s16 := L0.size
        obtain ⟨V1, hV⟩ : ∃ V, V0.alloc (.cells #[.int .u64 0, .int .u64 0, .int .u64 0, .int .u64 0, .int .u64 0, .int .u64 0, .int .u64 0, .int .u64 0, .int .u64 0, .int .u64 0, .int .u64 0, .int .u64 0, .int .u64 0, .int .u64 0, .int .u64 0, .int .u64 0] 35) = V := ⟨_, rfl⟩
        rw [hV] at b16 La ⊢
        clear hV
        have L1 := L0.trans La
        refine hK.out _ _ L1 (fun hHeld1 => ?_)
        clear hK K
        try simp only [Act.put, List.getElem_toArray, List.getElem_cons_succ, List.getElem_cons_zero, List.setIfInBounds_toArray, List.set_cons_zero, List.set_cons_succ]
        clear La
        refine wpAnyH_ready (rs := [4, 10]) (by kernel_rfl) (by simp) (AllReadyH.cons rfl (fun K hK => ?_) (AllReadyH.cons rfl (fun K hK => ?_) AllReadyH.nil))
        · skip
          go_simp
          have b4 := Blk.new V1 3 #[.int .i64 ms, .int .i64 lp]
          have La := Lat.alloc V1 (.cells #[.int .i64 ms, .int .i64 lp] 3)
          obtain ⟨V2, hV⟩ : ∃ V, V1.alloc (.cells #[.int .i64 ms, .int .i64 lp] 3) = V := ⟨_, rfl⟩
          rw [hV] at b4 La ⊢
          clear hV
          have L2 := L1.trans La
          have b16 := b16.later La
          refine hK.out _ _ L2 (fun hHeld2 => ?_)
          clear hK K
          try simp only [Act.put, List.getElem_toArray, List.getElem_cons_succ, List.getElem_cons_zero, List.setIfInBounds_toArray, List.set_cons_zero, List.set_cons_succ]
          clear La
          refine wpAnyH_ready (rs := [5, 10]) (by kernel_rfl) (by simp) (AllReadyH.cons rfl (fun K hK => ?_) (AllReadyH.cons rfl (fun K hK => ?_) AllReadyH.nil))
          · skip
            go_simp
            refine (HP1 _ _ b4).mono ?_
            rintro e V3 ⟨rfl, rfl⟩
            refine hK.out _ _ L2 (fun hHeld3 => ?_)
            clear hK K
            try simp only [Act.put, List.getElem_toArray, List.getElem_cons_succ, List.getElem_cons_zero, List.setIfInBounds_toArray, List.set_cons_zero, List.set_cons_succ]
            refine wpAnyH_ready (rs := [10]) (by kernel_rfl) (by simp) (AllReadyH.cons rfl (fun K hK => ?_) AllReadyH.nil)
            go_simp
            have b10 := Blk.new V2 3 #[.int .i64 mp, .int .i64 ls]
            have La := Lat.alloc V2 (.cells #[.int .i64 mp, .int .i64 ls] 3)
            obtain ⟨V3, hV⟩ : ∃ V, V2.alloc (.cells #[.int .i64 mp, .int .i64 ls] 3) = V := ⟨_, rfl⟩
            rw [hV] at b10 La ⊢
            clear hV
            have L3 := L2.trans La
            have b16 := b16.later La
            have b4 := b4.later La
            refine hK.out _ _ L3 (fun hHeld4 => ?_)
            clear hK K
            try simp only [Act.put, List.getElem_toArray, List.getElem_cons_succ, List.getElem_cons_zero, List.setIfInBounds_toArray, List.set_cons_zero, List.set_cons_succ]
            clear La
            refine wpAnyH_ready (rs := [11]) (by kernel_rfl) (by simp) (AllReadyH.cons rfl (fun K hK => ?_) AllReadyH.nil)
            go_simp
            refine (HP2 _ _ b10).mono ?_
            rintro e V4 ⟨rfl, rfl⟩
            refine hK.out _ _ L3 (fun hHeld5 => ?_)
            clear hK K
            try simp only [Act.put, List.getElem_toArray, List.getElem_cons_succ, List.getElem_cons_zero, List.setIfInBounds_toArray, List.set_cons_zero, List.set_cons_succ]
            refine wpAnyH_ready (rs := [12]) (by kernel_rfl) (by simp) (AllReadyH.cons rfl (fun K hK => ?_) AllReadyH.nil)
            go_simp
            refine (HGap _).mono ?_
            rintro e V4 ⟨rfl, lg⟩
            have L4 := L3.trans lg
            have b16 := b16.later lg
            have b4 := b4.later lg
            have b10 := b10.later lg
            clear lg
            refine hK.out _ _ L4 (fun hHeld6 => ?_)
            clear hK K
            try simp only [Act.put, List.getElem_toArray, List.getElem_cons_succ, List.getElem_cons_zero, List.setIfInBounds_toArray, List.set_cons_zero, List.set_cons_succ]
            refine wpAnyH_take (i := 13) (v := .tuple #[.agg X, .bool b]) rfl (by kernel_rfl) (by kernel_rfl) (by kernel_rfl) (fun _ _ _ h => h) (Or.inl ⟨by rfl, by intro w' hS; go_simp⟩) hHeld6 ?_
            simp only [Act.put, List.getElem_toArray, List.getElem_cons_succ, List.getElem_cons_zero, List.setIfInBounds_toArray, List.set_cons_zero, List.set_cons_succ]
            refine wpAnyH_take (i := 14) (v := .agg X) rfl (by kernel_rfl) (by kernel_rfl) (by kernel_rfl) (fun _ _ _ h => h) (Or.inl ⟨by rfl, by intro w' hS; go_simp⟩) hHeld6 ?_
            simp only [Act.put, List.getElem_toArray, List.getElem_cons_succ, List.getElem_cons_zero, List.setIfInBounds_toArray, List.set_cons_zero, List.set_cons_succ]
            refine wpAnyH_take (i := 15) (v := .bool b) rfl (by kernel_rfl) (by kernel_rfl) (by kernel_rfl) (fun _ _ _ h => h) (Or.inl ⟨by rfl, by intro w' hS; go_simp⟩) hHeld6 ?_
            simp only [Act.put, List.getElem_toArray, List.getElem_cons_succ, List.getElem_cons_zero, List.setIfInBounds_toArray, List.set_cons_zero, List.set_cons_succ]
            refine wpAnyH_ready (rs := [17]) (by kernel_rfl) (by simp) (AllReadyH.cons rfl (fun K hK => ?_) AllReadyH.nil)
            rw [if_pos (by rfl)]
            refine wp_store_mid 35 (.tmp 13) (.tmp 65) rfl V0.heap.size 0 X rfl rfl (b16.thereAll _ (by rw [z1.out]; rfl)) i1.out c1.out ?_
            have KS := b16.setCells X (by rw [z1.out]; rfl)
            have L9 : Lat wc (V4.setCells V0.heap.size 0 X.toList) := Lat.setCells s16 _ _ _ L4
            obtain ⟨V9, hV9⟩ : ∃ V, V4.setCells V0.heap.size 0 X.toList = V := ⟨_, rfl⟩
            rw [hV9] at KS L9 ⊢
            clear hV9
            refine hK.out _ _ L9 (fun hHeld7 => ?_)
            clear hK K
            try simp only [Act.put, List.getElem_toArray, List.getElem_cons_succ, List.getElem_cons_zero, List.setIfInBounds_toArray, List.set_cons_zero, List.set_cons_succ]
            refine wpAnyH_ready (rs := [18]) (by kernel_rfl) (by simp) (AllReadyH.cons rfl (fun K hK => ?_) AllReadyH.nil)
            go_simp
            refine hK.out _ _ L9 (fun hHeld8 => ?_)
            clear hK K
            try simp only [Act.put, List.getElem_toArray, List.getElem_cons_succ, List.getElem_cons_zero, List.setIfInBounds_toArray, List.set_cons_zero, List.set_cons_succ]
            refine wpAnyH_done (by kernel_rfl) ?_ _
            go_wp2_with fail
            go_meet
            exact ⟨V0.heap.size, rfl, rfl, by simpa using KS, L9⟩
          · skip
            go_simp
            have b10 := Blk.new V2 3 #[.int .i64 mp, .int .i64 ls]
            have La := Lat.alloc V2 (.cells #[.int .i64 mp, .int .i64 ls] 3)
            obtain ⟨V3, hV⟩ : ∃ V, V2.alloc (.cells #[.int .i64 mp, .int .i64 ls] 3) = V := ⟨_, rfl⟩
            rw [hV] at b10 La ⊢
            clear hV
            have L3 := L2.trans La
            have b16 := b16.later La
            have b4 := b4.later La
            refine hK.out _ _ L3 (fun hHeld3 => ?_)
            clear hK K
            try simp only [Act.put, List.getElem_toArray, List.getElem_cons_succ, List.getElem_cons_zero, List.setIfInBounds_toArray, List.set_cons_zero, List.set_cons_succ]
            clear La
            refine wpAnyH_ready (rs := [5]) (by kernel_rfl) (by simp) (AllReadyH.cons rfl (fun K hK => ?_) AllReadyH.nil)
            go_simp
            refine (HP1 _ _ b4).mono ?_
            rintro e V4 ⟨rfl, rfl⟩
            refine hK.out _ _ L3 (fun hHeld4 => ?_)
            clear hK K
            try simp only [Act.put, List.getElem_toArray, List.getElem_cons_succ, List.getElem_cons_zero, List.setIfInBounds_toArray, List.set_cons_zero, List.set_cons_succ]
            refine wpAnyH_ready (rs := [11]) (by kernel_rfl) (by simp) (AllReadyH.cons rfl (fun K hK => ?_) AllReadyH.nil)
            go_simp
            refine (HP2 _ _ b10).mono ?_
            rintro e V4 ⟨rfl, rfl⟩
            refine hK.out _ _ L3 (fun hHeld5 => ?_)
            clear hK K
            try simp only [Act.put, List.getElem_toArray, List.getElem_cons_succ, List.getElem_cons_zero, List.setIfInBounds_toArray, List.set_cons_zero, List.set_cons_succ]
            refine wpAnyH_ready (rs := [12]) (by kernel_rfl) (by simp) (AllReadyH.cons rfl (fun K hK => ?_) AllReadyH.nil)
            go_simp
            refine (HGap _).mono ?_
            rintro e V4 ⟨rfl, lg⟩
            have L4 := L3.trans lg
            have b16 := b16.later lg
            have b4 := b4.later lg
            have b10 := b10.later lg
            clear lg
            refine hK.out _ _ L4 (fun hHeld6 => ?_)
            clear hK K
            try simp only [Act.put, List.getElem_toArray, List.getElem_cons_succ, List.getElem_cons_zero, List.setIfInBounds_toArray, List.set_cons_zero, List.set_cons_succ]
            refine wpAnyH_take (i := 13) (v := .tuple #[.agg X, .bool b]) rfl (by kernel_rfl) (by kernel_rfl) (by kernel_rfl) (fun _ _ _ h => h) (Or.inl ⟨by rfl, by intro w' hS; go_simp⟩) hHeld6 ?_
            simp only [Act.put, List.getElem_toArray, List.getElem_cons_succ, List.getElem_cons_zero, List.setIfInBounds_toArray, List.set_cons_zero, List.set_cons_succ]
            refine wpAnyH_take (i := 14) (v := .agg X) rfl (by kernel_rfl) (by kernel_rfl) (by kernel_rfl) (fun _ _ _ h => h) (Or.inl ⟨by rfl, by intro w' hS; go_simp⟩) hHeld6 ?_
            simp only [Act.put, List.getElem_toArray, List.getElem_cons_succ, List.getElem_cons_zero, List.setIfInBounds_toArray, List.set_cons_zero, List.set_cons_succ]
            refine wpAnyH_take (i := 15) (v := .bool b) rfl (by kernel_rfl) (by kernel_rfl) (by kernel_rfl) (fun _ _ _ h => h) (Or.inl ⟨by rfl, by intro w' hS; go_simp⟩) hHeld6 ?_
            simp only [Act.put, List.getElem_toArray, List.getElem_cons_succ, List.getElem_cons_zero, List.setIfInBounds_toArray, List.set_cons_zero, List.set_cons_succ]
            refine wpAnyH_ready (rs := [17]) (by kernel_rfl) (by simp) (AllReadyH.cons rfl (fun K hK => ?_) AllReadyH.nil)
            rw [if_pos (by rfl)]
            refine wp_store_mid 35 (.tmp 13) (.tmp 65) rfl V0.heap.size 0 X rfl rfl (b16.thereAll _ (by rw [z1.out]; rfl)) i1.out c1.out ?_
            have KS := b16.setCells X (by rw [z1.out]; rfl)
            have L9 : Lat wc (V4.setCells V0.heap.size 0 X.toList) := Lat.setCells s16 _ _ _ L4
            obtain ⟨V9, hV9⟩ : ∃ V, V4.setCells V0.heap.size 0 X.toList = V := ⟨_, rfl⟩
            rw [hV9] at KS L9 ⊢
            clear hV9
            refine hK.out _ _ L9 (fun hHeld7 => ?_)
            clear hK K
            try simp only [Act.put, List.getElem_toArray, List.getElem_cons_succ, List.getElem_cons_zero, List.setIfInBounds_toArray, List.set_cons_zero, List.set_cons_succ]
            refine wpAnyH_ready (rs := [18]) (by kernel_rfl) (by simp) (AllReadyH.cons rfl (fun K hK => ?_) AllReadyH.nil)
            go_simp
            refine hK.out _ _ L9 (fun hHeld8 => ?_)
            clear hK K
            try simp only [Act.put, List.getElem_toArray, List.getElem_cons_succ, List.getElem_cons_zero, List.setIfInBounds_toArray, List.set_cons_zero, List.set_cons_succ]
            refine wpAnyH_done (by kernel_rfl) ?_ _
            go_wp2_with fail
            go_meet
            exact ⟨V0.heap.size, rfl, rfl, by simpa using KS, L9⟩
        · skip
          go_simp
          have b10 := Blk.new V1 3 #[.int .i64 mp, .int .i64 ls]
          have La := Lat.alloc V1 (.cells #[.int .i64 mp, .int .i64 ls] 3)
          obtain ⟨V2, hV⟩ : ∃ V, V1.alloc (.cells #[.int .i64 mp, .int .i64 ls] 3) = V := ⟨_, rfl⟩
          rw [hV] at b10 La ⊢
          clear hV
          have L2 := L1.trans La
          have b16 := b16.later La
          refine hK.out _ _ L2 (fun hHeld2 => ?_)
          clear hK K
          try simp only [Act.put, List.getElem_toArray, List.getElem_cons_succ, List.getElem_cons_zero, List.setIfInBounds_toArray, List.set_cons_zero, List.set_cons_succ]
          clear La
          refine wpAnyH_ready (rs := [4]) (by kernel_rfl) (by simp) (AllReadyH.cons rfl (fun K hK => ?_) AllReadyH.nil)
          go_simp
          have b4 := Blk.new V2 3 #[.int .i64 ms, .int .i64 lp]
          have La := Lat.alloc V2 (.cells #[.int .i64 ms, .int .i64 lp] 3)
          obtain ⟨V3, hV⟩ : ∃ V, V2.alloc (.cells #[.int .i64 ms, .int .i64 lp] 3) = V := ⟨_, rfl⟩
          rw [hV] at b4 La ⊢
          clear hV
          have L3 := L2.trans La
          have b16 := b16.later La
          have b10 := b10.later La
          refine hK.out _ _ L3 (fun hHeld3 => ?_)
          clear hK K
          try simp only [Act.put, List.getElem_toArray, List.getElem_cons_succ, List.getElem_cons_zero, List.setIfInBounds_toArray, List.set_cons_zero, List.set_cons_succ]
          clear La
          refine wpAnyH_ready (rs := [5]) (by kernel_rfl) (by simp) (AllReadyH.cons rfl (fun K hK => ?_) AllReadyH.nil)
          go_simp
          refine (HP1 _ _ b4).mono ?_
          rintro e V4 ⟨rfl, rfl⟩
          refine hK.out _ _ L3 (fun hHeld4 => ?_)
          clear hK K
          try simp only [Act.put, List.getElem_toArray, List.getElem_cons_succ, List.getElem_cons_zero, List.setIfInBounds_toArray, List.set_cons_zero, List.set_cons_succ]
          refine wpAnyH_ready (rs := [11]) (by kernel_rfl) (by simp) (AllReadyH.cons rfl (fun K hK => ?_) AllReadyH.nil)
          go_simp
          refine (HP2 _ _ b10).mono ?_
          rintro e V4 ⟨rfl, rfl⟩
          refine hK.out _ _ L3 (fun hHeld5 => ?_)
          clear hK K
          try simp only [Act.put, List.getElem_toArray, List.getElem_cons_succ, List.getElem_cons_zero, List.setIfInBounds_toArray, List.set_cons_zero, List.set_cons_succ]
          refine wpAnyH_ready (rs := [12]) (by kernel_rfl) (by simp) (AllReadyH.cons rfl (fun K hK => ?_) AllReadyH.nil)
          go_simp
          refine (HGap _).mono ?_
          rintro e V4 ⟨rfl, lg⟩
          have L4 := L3.trans lg
          have b16 := b16.later lg
          have b10 := b10.later lg
          have b4 := b4.later lg
          clear lg
          refine hK.out _ _ L4 (fun hHeld6 => ?_)
          clear hK K
          try simp only [Act.put, List.getElem_toArray, List.getElem_cons_succ, List.getElem_cons_zero, List.setIfInBounds_toArray, List.set_cons_zero, List.set_cons_succ]
          refine wpAnyH_take (i := 13) (v := .tuple #[.agg X, .bool b]) rfl (by kernel_rfl) (by kernel_rfl) (by kernel_rfl) (fun _ _ _ h => h) (Or.inl ⟨by rfl, by intro w' hS; go_simp⟩) hHeld6 ?_
          simp only [Act.put, List.getElem_toArray, List.getElem_cons_succ, List.getElem_cons_zero, List.setIfInBounds_toArray, List.set_cons_zero, List.set_cons_succ]
          refine wpAnyH_take (i := 14) (v := .agg X) rfl (by kernel_rfl) (by kernel_rfl) (by kernel_rfl) (fun _ _ _ h => h) (Or.inl ⟨by rfl, by intro w' hS; go_simp⟩) hHeld6 ?_
          simp only [Act.put, List.getElem_toArray, List.getElem_cons_succ, List.getElem_cons_zero, List.setIfInBounds_toArray, List.set_cons_zero, List.set_cons_succ]
          refine wpAnyH_take (i := 15) (v := .bool b) rfl (by kernel_rfl) (by kernel_rfl) (by kernel_rfl) (fun _ _ _ h => h) (Or.inl ⟨by rfl, by intro w' hS; go_simp⟩) hHeld6 ?_
          simp only [Act.put, List.getElem_toArray, List.getElem_cons_succ, List.getElem_cons_zero, List.setIfInBounds_toArray, List.set_cons_zero, List.set_cons_succ]
          refine wpAnyH_ready (rs := [17]) (by kernel_rfl) (by simp) (AllReadyH.cons rfl (fun K hK => ?_) AllReadyH.nil)
          rw [if_pos (by rfl)]
          refine wp_store_mid 35 (.tmp 13) (.tmp 65) rfl V0.heap.size 0 X rfl rfl (b16.thereAll _ (by rw [z1.out]; rfl)) i1.out c1.out ?_
          have KS := b16.setCells X (by rw [z1.out]; rfl)
          have L9 : Lat wc (V4.setCells V0.heap.size 0 X.toList) := Lat.setCells s16 _ _ _ L4
          obtain ⟨V9, hV9⟩ : ∃ V, V4.setCells V0.heap.size 0 X.toList = V := ⟨_, rfl⟩
          rw [hV9] at KS L9 ⊢
          clear hV9
          refine hK.out _ _ L9 (fun hHeld7 => ?_)
          clear hK K
          try simp only [Act.put, List.getElem_toArray, List.getElem_cons_succ, List.getElem_cons_zero, List.setIfInBounds_toArray, List.set_cons_zero, List.set_cons_succ]
          refine wpAnyH_ready (rs := [18]) (by kernel_rfl) (by simp) (AllReadyH.cons rfl (fun K hK => ?_) AllReadyH.nil)
          go_simp
          refine hK.out _ _ L9 (fun hHeld8 => ?_)
          clear hK K
          try simp only [Act.put, List.getElem_toArray, List.getElem_cons_succ, List.getElem_cons_zero, List.setIfInBounds_toArray, List.set_cons_zero, List.set_cons_succ]
          refine wpAnyH_done (by kernel_rfl) ?_ _
          go_wp2_with fail
          go_meet
          exact ⟨V0.heap.size, rfl, rfl, by simpa using KS, L9⟩
    case rest =>
      obtain ⟨g3, rfl, rfl, B3, hL3⟩ := hcut
      have KRd := KRc.later hL3
      have LL := (L3.trans hL).trans hL3
      have i1 := Lib.hid gX.info
      have z1 := Lib.hid gX.1
      have c1 := Lib.hid gX.2.1
      have G1 := Lib.hid gX.cells
      cases b with
      | true =>
        have her := HY.out rfl
        subst her
        go_wp2_with (first
          | (refine wpList_get (by rfl) 35 (.tmp 13) (by rfl) g3 (by rfl) B3 _ Tryz.underlying35 rfl i1.out ?_)
          | (refine wpList_put rfl 35 (.tmp 6) (.tmp 70) (by rfl) (by rfl) w.heap.size (by rfl) X (by rfl) KRd (by rw [z1.out]; rfl) i1.out c1.out ?_; intro w6 hput; have KS := hput.blk; have L6 := hput.lat w LL (Nat.le_refl _)))
        obtain ⟨u, v, rfl⟩ := G1.out
        have e0 := KS.cell 0
        have e1 := KS.cell 1
        have e2 := KS.cell 2
        have e3 := KS.cell 3
        have e4 := KS.cell 4
        have e5 := KS.cell 5
        have e6 := KS.cell 6
        have e7 := KS.cell 7
        have e8 := KS.cell 8
        have e9 := KS.cell 9
        have e10 := KS.cell 10
        have e11 := KS.cell 11
        have e12 := KS.cell 12
        have e13 := KS.cell 13
        have e14 := KS.cell 14
        have e15 := KS.cell 15
        refine bodyPost_ret (v := .tuple #[.agg #[.int .u64 u.a0, .int .u64 u.a1, .int .u64 u.a2, .int .u64 u.a3, .int .u64 u.a4, .int .u64 u.a5, .int .u64 u.a6, .int .u64 u.a7, .int .u64 v.a0, .int .u64 v.a1, .int .u64 v.a2, .int .u64 v.a3, .int .u64 v.a4, .int .u64 v.a5, .int .u64 v.a6, .int .u64 v.a7], .int .i64 0]) (by simp [results, Tryz.results7, go_sem, e0, e1, e2, e3, e4, e5, e6, e7, e8, e9, e10, e11, e12, e13, e14, e15]) rfl ?_
        exact ⟨rfl, L6⟩
      | false =>
        obtain ⟨hX, her⟩ := HZ.out rfl
        subst her
        go_wp2_with (refine wpList_put rfl 35 (.tmp 6) (.tmp 69) (by rfl) (by rfl) w.heap.size (by rfl) zA (by rfl) KRd (by rfl) zA_good.info zA_good.2.1 ?_; intro w6 hput; have KS := hput.blk; have L6 := hput.lat w LL (Nat.le_refl _))
        have KS' : Blk w6 w.heap.size 35 #[.int .u64 W8.zero.a0, .int .u64 W8.zero.a1, .int .u64 W8.zero.a2, .int .u64 W8.zero.a3, .int .u64 W8.zero.a4, .int .u64 W8.zero.a5, .int .u64 W8.zero.a6, .int .u64 W8.zero.a7, .int .u64 W8.zero.a0, .int .u64 W8.zero.a1, .int .u64 W8.zero.a2, .int .u64 W8.zero.a3, .int .u64 W8.zero.a4, .int .u64 W8.zero.a5, .int .u64 W8.zero.a6, .int .u64 W8.zero.a7] := KS
        have e0 := KS'.cell 0
        have e1 := KS'.cell 1
        have e2 := KS'.cell 2
        have e3 := KS'.cell 3
        have e4 := KS'.cell 4
        have e5 := KS'.cell 5
        have e6 := KS'.cell 6
        have e7 := KS'.cell 7
        have e8 := KS'.cell 8
        have e9 := KS'.cell 9
        have e10 := KS'.cell 10
        have e11 := KS'.cell 11
        have e12 := KS'.cell 12
        have e13 := KS'.cell 13
        have e14 := KS'.cell 14
        have e15 := KS'.cell 15
        refine bodyPost_ret (v := .tuple #[.agg #[.int .u64 W8.zero.a0, .int .u64 W8.zero.a1, .int .u64 W8.zero.a2, .int .u64 W8.zero.a3, .int .u64 W8.zero.a4, .int .u64 W8.zero.a5, .int .u64 W8.zero.a6, .int .u64 W8.zero.a7, .int .u64 W8.zero.a0, .int .u64 W8.zero.a1, .int .u64 W8.zero.a2, .int .u64 W8.zero.a3, .int .u64 W8.zero.a4, .int .u64 W8.zero.a5, .int .u64 W8.zero.a6, .int .u64 W8.zero.a7], .int .i64 7]) (by simp [results, Tryz.results7, go_sem, e0, e1, e2, e3, e4, e5, e6, e7, e8, e9, e10, e11, e12, e13, e14, e15]) rfl ?_
        exact ⟨rfl, L6⟩

end Go.Proofs.YtkjnjooggicgiaaGreat
