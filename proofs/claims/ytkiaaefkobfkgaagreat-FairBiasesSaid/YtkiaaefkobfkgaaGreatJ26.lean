/- Several texts in one: RefZ. -/
import Derived.Test.YtkiaaefkobfkgaaGreatJ24
import Derived.Test.YtkiaaefkobfkgaaGreatJ25
import Derived.Test.YtkiaaefkobfkgaaGreatJ28
import Derived.Deep.DeepCutAuto

/- The reference's shares: Div, of valid shares. The shares' cells stand as lists under a name. -/
namespace Go.Proofs.YtkiaaefkobfkgaaGreat
open Go.RowKit
set_option linter.unusedSimpArgs false
attribute [local go_sem ↓] Go.wp_at_zero Go.wp_at_succ

theorem shareInfoS : (Tryz.prog.info? 35).map (·.size) = some 16 := by kernel_rfl
theorem Blk.rangeAll {w : World} {g : Nat} {t : TypeId} {l : List Value} (h : Blk w g t l.toArray) : w.rangeAt g 0 l := fun j v hj => by rw [Nat.zero_add, h.cell j]; simpa using hj
theorem Blk.thereAll {w : World} {g : Nat} {t : TypeId} {cs : Array Value} (h : Blk w g t cs) (n : Nat) (hn : cs.size = n) : w.there g 0 n := fun j hj => by
  rw [Nat.zero_add]
  exact ⟨by rw [h.cell j, Array.getElem?_eq_getElem (by omega)]; rfl, h.frozen j⟩

theorem Blk.keepS {W w : World} {g : Nat} {t : TypeId} {cs : Array Value} {gs : List Nat} (h : Blk W g t cs) (hg : g ∉ gs) (hl : LatS W gs w) : Blk w g t cs := (hl.2 g h.lt hg).trans h

theorem LatS.setCells {w0 : World} {gs : List Nat} {g : Nat} (hg : g ∈ gs) (vs : List Value) : ∀ (w : World) (o : Nat), LatS w0 gs w → LatS w0 gs (w.setCells g o vs) := by
  induction vs with
  | nil => exact fun w o h => h
  | cons x r ih => exact fun w o h => ih _ _ (h.set (p := ⟨g, o, none⟩) hg x)

/-- The share that Out hands back, its cells under a name. -/
def OutC (w : World) (N D : Int) (e : Ending) (w' : World) : Prop :=
  ∃ (C : List Value) (r : Int), e = .returned (.tuple #[.agg C.toArray, .int .i64 r]) ∧ Hid (∃ u v : W8, C = [.int .u64 u.a0, .int .u64 u.a1, .int .u64 u.a2, .int .u64 u.a3, .int .u64 u.a4, .int .u64 u.a5, .int .u64 u.a6, .int .u64 u.a7, .int .u64 v.a0, .int .u64 v.a1, .int .u64 v.a2, .int .u64 v.a3, .int .u64 v.a4, .int .u64 v.a5, .int .u64 v.a6, .int .u64 v.a7] ∧ ShareIs N D u v r) ∧ C.length = 16 ∧ (∀ v ∈ C, v.oneCell' = true) ∧ Lat w w'
theorem SharePost.outC {w w' : World} {N D : Int} {e : Ending} (h : SharePost w N D e w') : OutC w N D e w' := by
  obtain ⟨u, v, r, h1, h2, h3⟩ := h
  exact ⟨[.int .u64 u.a0, .int .u64 u.a1, .int .u64 u.a2, .int .u64 u.a3, .int .u64 u.a4, .int .u64 u.a5, .int .u64 u.a6, .int .u64 u.a7, .int .u64 v.a0, .int .u64 v.a1, .int .u64 v.a2, .int .u64 v.a3, .int .u64 v.a4, .int .u64 v.a5, .int .u64 v.a6, .int .u64 v.a7], r, h1, ⟨u, v, rfl, h2⟩, rfl, by simp [Value.oneCell'], h3⟩

set_option maxRecDepth 100000 in
set_option maxHeartbeats 8000000 in
theorem rDiv_gen (l1 l2 : List Value) (hs1 : l1.length = 16) (hs2 : l2.length = 16) (X1 Y1 X2 Y2 N D : Int) (w : World)
    (HA : ∀ w, Calls Tryz.prog 158 #[.agg l1.toArray] w (fun e w' => e = .returned (.bool true) ∧ Lat w w'))
    (HB : ∀ w, Calls Tryz.prog 158 #[.agg l2.toArray] w (fun e w' => e = .returned (.bool true) ∧ Lat w w'))
    (HX : ∀ w, Calls Tryz.prog 160 #[.agg l1.toArray] w (RratPost w X1 Y1 17))
    (HY : ∀ w, Calls Tryz.prog 160 #[.agg l2.toArray] w (RratPost w X2 Y2 17)) (hz : Hid (X2 ≠ 0))
    (HO : ∀ (b1 : Bool) (A1 : Option Addr) (n1 c1 : Nat) (b2 : Bool) (A2 : Option Addr) (n2 c2 : Nat) (b3 : Bool) (A3 : Option Addr) (n3 c3 : Nat) (b4 : Bool) (A4 : Option Addr) (n4 c4 : Nat) (w : World)
      (_ : Rg w b1 A1 n1 c1 X1) (_ : Rg w b2 A2 n2 c2 Y1) (_ : Rg w b3 A3 n3 c3 X2) (_ : Rg w b4 A4 n4 c4 Y2) (_ : n1 ≤ 17) (_ : n2 ≤ 17) (_ : n3 ≤ 17) (_ : n4 ≤ 17),
      Calls Tryz.prog 271 #[.agg #[.bool b1, .slice A1 n1 c1, .bool b2, .slice A2 n2 c2], .agg #[.bool b3, .slice A3 n3 c3, .bool b4, .slice A4 n4 c4]] w (RratPost w N D 100)) :
    Calls Tryz.prog 250 #[.agg l1.toArray, .agg l2.toArray] w (SharePost w N D) := by
  have hu := Tryz.underlying35
  have H16 := Lib.hid shareInfoS
  go_enter Tryz.func250, Tryz.ntmps250
  go_upto_region 1 with (fail)
  refine name3 (Q := fun W => Code.wp _ _ _ _ W) ?_
  intro W hl hs k1 k2 k3
  have i1 : (Tryz.prog.info? 35).map (·.size) = some l1.toArray.size := by rw [H16.out]; simp [hs1]
  have i2 : (Tryz.prog.info? 35).map (·.size) = some l2.toArray.size := by rw [H16.out]; simp [hs2]
  have I1 := Lib.hid i1
  have I2 := Lib.hid i2
  have HS1 := Lib.hid hs1
  have HS2 := Lib.hid hs2
  clear i1 i2 hu hs1 hs2
  go_wp2_with (refine wpList_get rfl 35 (.tmp 2) (by rfl) w.heap.size (by rfl) k1 _ Tryz.underlying35 rfl I1.out ?_)
  refine (HA W).mono ?_
  rintro e w1 ⟨rfl, l1'⟩
  have B2 := k2.later l1'
  go_wp2_with (refine wpList_getG (by rfl) 35 (.tmp 3) (by rfl) (w.heap.size + 1) (by rfl) B2 _ Tryz.underlying35 rfl I2.out ?_)
  refine (HB w1).mono ?_
  rintro e w2 ⟨rfl, l2'⟩
  have B3 := B2.later l2'
  go_wp2_with (refine wpList_get rfl 35 (.tmp 3) (by rfl) (w.heap.size + 1) (by rfl) B3 _ Tryz.underlying35 rfl I2.out ?_)
  refine (HY w2).mono ?_
  rintro e w3 ⟨b3, A3, n3, c3, b4, A4, n4, c4, rfl, q1, q2, q3, q4, l3⟩
  go_wp2_with fail
  refine name1 (Q := fun W => Calls _ _ _ W _) ?_
  intro w4 l4 hs4 k4
  refine (rZero_no b3 A3 n3 c3 X2 b4 A4 n4 c4 w4 (q1.later l4) hz.out).mono ?_
  rintro e w5 ⟨rfl, l5⟩
  have LL := (((l1'.trans l2').trans l3).trans l4).trans l5
  have E1 := k1.later LL
  have E3 := k3.later LL
  have E4 := k4.later l5
  have Q1 := q1.later (l4.trans l5)
  have Q3 := q3.later (l4.trans l5)
  have LA := hl.trans LL
  have hlt3 : w.heap.size + 1 + 1 < w3.heap.size := (k3.later ((l1'.trans l2').trans l3)).lt
  clear k1 k2 k3 k4 B2 B3 l1' l2' l3 l4 l5 LL hl HA HB q1 q3 HY
  go_wp2
  have HU : ∀ (b1 : Bool) (A1 : Option Addr) (n1 c1 : Nat) (b2 : Bool) (A2 : Option Addr) (n2 c2 : Nat) (w : World), Rg w b1 A1 n1 c1 N → Rg w b2 A2 n2 c2 D → n1 ≤ 100 → n2 ≤ 100 →
      Calls Tryz.prog 130 #[.agg #[.bool b1, .slice A1 n1 c1, .bool b2, .slice A2 n2 c2]] w (SharePost w N D) := fun b1 A1 n1 c1 b2 A2 n2 c2 w h1 h2 h3 h4 =>
    rrOut_any b1 A1 n1 c1 N b2 A2 n2 c2 D w h1 h2 (by omega) (by omega)
  go_cut [5] (fun s5 wx => ∃ (x y : W8) (r : Int), s5 = .int .i64 r ∧ Blk wx (w.heap.size + 1 + 1) 35 #[.int .u64 x.a0, .int .u64 x.a1, .int .u64 x.a2, .int .u64 x.a3, .int .u64 x.a4, .int .u64 x.a5, .int .u64 x.a6, .int .u64 x.a7, .int .u64 y.a0, .int .u64 y.a1, .int .u64 y.a2, .int .u64 y.a3, .int .u64 y.a4, .int .u64 y.a5, .int .u64 y.a6, .int .u64 y.a7] ∧ Hid (ShareIs N D x y r) ∧ Lat w wx)
  case first =>
    as_aux_lemma =>
      have hne1 : w.heap.size ∉ [w.heap.size + 1 + 1] := by simp; omega
      have hne4 : w3.heap.size ∉ [w.heap.size + 1 + 1] := by simp; omega
      have R1 : ∀ w', LatS w5 [w.heap.size + 1 + 1] w' → w'.rangeAt w.heap.size 0 l1 := fun w' hl => (E1.keepS hne1 hl).rangeAll
      have R4 : ∀ w', LatS w5 [w.heap.size + 1 + 1] w' → w'.rangeAt w3.heap.size 0 [.bool b3, .slice A3 n3 c3, .bool b4, .slice A4 n4 c4] := fun w' hl => Blk.rangeAll (l := [.bool b3, .slice A3 n3 c3, .bool b4, .slice A4 n4 c4]) (E4.keepS hne4 hl)
      have J1 : (Tryz.prog.info? 35).map (·.size) = some l1.length := by rw [I1.out]; simp
      have J6 : (Tryz.prog.info? 183).map (·.size) = some 4 := by kernel_rfl
      have L0 := Lat.drew w5
      refine wp_region_held_drew (S := fun w' => LatS w5 [w.heap.size + 1 + 1] w') (by kernel_rfl) (L0.s _) (fun hHeld => ?_)
      refine' wpAnyH_take (i := 0) rfl (by kernel_rfl) (by kernel_rfl) (by kernel_rfl) (fun _ _ _ h => h) (yieldsIf_load_mid (by rfl) 35 (.tmp 2) rfl w.heap.size 0 rfl l1 _ R1 Tryz.underlying35 rfl J1) hHeld ?_
      simp only [Act.put, List.setIfInBounds_toArray, List.set_cons_zero, List.set_cons_succ]
      refine' wpAnyH_take (i := 2) rfl (by kernel_rfl) (by kernel_rfl) (by kernel_rfl) (fun _ _ _ h => h) (yieldsIf_load_mid (by rfl) 183 (.tmp 6) rfl w3.heap.size 0 rfl _ _ R4 Tryz.underlying183 rfl J6) hHeld ?_
      simp only [Act.put, List.setIfInBounds_toArray, List.set_cons_zero, List.set_cons_succ]
      refine wpAnyH_ready (rs := [1]) (by kernel_rfl) (by simp) (AllReadyH.cons rfl (fun K hK => ?_) AllReadyH.nil)
      go_simp
      refine (HX _).mono ?_
      rintro e w6 ⟨b1, A1, n1, c1, b2, A2, n2, c2, rfl, r1, r2, r3, r4, r5⟩
      have L2 := L0.trans r5
      refine hK.out _ _ (L2.s _) (fun hHeld2 => ?_)
      clear hK K hHeld
      refine wpAnyH_ready (rs := [3]) (by kernel_rfl) (by simp) (AllReadyH.cons rfl (fun K hK => ?_) AllReadyH.nil)
      go_simp
      refine (HO b1 A1 n1 c1 b2 A2 n2 c2 b3 A3 n3 c3 b4 A4 n4 c4 _ r1 r3 (Q1.later L2) (Q3.later L2) r2 r4 q2 q4).mono ?_
      rintro e w7 ⟨b, A, n, c, b', A', n', c', rfl, s1, s2, s3, s4, s5⟩
      have L3 := L2.trans s5
      refine hK.out _ _ (L3.s _) (fun hHeld3 => ?_)
      clear hK K hHeld2
      refine wpAnyH_ready (rs := [4]) (by kernel_rfl) (by simp) (AllReadyH.cons rfl (fun K hK => ?_) AllReadyH.nil)
      go_simp
      refine ((HU b A n c b' A' n' c' _ s1 s3 s2 s4).mono fun _ _ h => h.outC).mono ?_
      rintro e w8 ⟨C, r, rfl, t1, t2, t3, t4⟩
      have L4 := L3.trans t4
      refine hK.out _ _ (L4.s _) (fun hHeld4 => ?_)
      clear hK K hHeld3
      refine wpAnyH_take (i := 5) (v := .agg C.toArray) rfl (by kernel_rfl) (by kernel_rfl) (by kernel_rfl) (fun _ _ _ h => h) (Or.inl ⟨by rfl, by intro w' _; go_simp⟩) hHeld4 ?_
      simp only [Act.put, List.setIfInBounds_toArray, List.set_cons_zero, List.set_cons_succ]
      refine wpAnyH_take (i := 6) (v := .int .i64 r) rfl (by kernel_rfl) (by kernel_rfl) (by kernel_rfl) (fun _ _ _ h => h) (Or.inl ⟨by rfl, by intro w' _; go_simp⟩) hHeld4 ?_
      simp only [Act.put, List.setIfInBounds_toArray, List.set_cons_zero, List.set_cons_succ]
      refine wpAnyH_ready (rs := [7]) (by kernel_rfl) (by simp) (AllReadyH.cons rfl (fun K hK => ?_) AllReadyH.nil)
      rw [if_pos (by rfl)]
      have K5 := E3.later L4
      have hlen : C.toArray.size = 16 := by simpa using t2
      refine wp_store_mid 35 (.tmp 4) (.tmp 26) rfl (w.heap.size + 1 + 1) 0 C.toArray rfl rfl (K5.thereAll _ hlen.symm) (by rw [H16.out, hlen]) (all_oneCell_toArray t3) ?_
      refine hK.out _ _ (LatS.setCells (by simp) _ _ _ (L4.s _)) (fun hHeld5 => ?_)
      clear hK K hHeld4
      simp only [Act.put, List.setIfInBounds_toArray, List.set_cons_zero, List.set_cons_succ]
      refine wpAnyH_ready (rs := [8]) (by kernel_rfl) (by simp) (AllReadyH.cons rfl (fun K hK => ?_) AllReadyH.nil)
      go_simp
      refine hK.out _ _ (LatS.setCells (by simp) _ _ _ (L4.s _)) (fun hHeld6 => ?_)
      clear hK K hHeld5
      refine wpAnyH_done (by kernel_rfl) ?_ _
      go_wp2_with fail
      go_meet
      obtain ⟨x, y, rfl, hsh⟩ := t1.out
      exact ⟨x, y, r, rfl, by have := K5.setCells #[.int .u64 x.a0, .int .u64 x.a1, .int .u64 x.a2, .int .u64 x.a3, .int .u64 x.a4, .int .u64 x.a5, .int .u64 x.a6, .int .u64 x.a7, .int .u64 y.a0, .int .u64 y.a1, .int .u64 y.a2, .int .u64 y.a3, .int .u64 y.a4, .int .u64 y.a5, .int .u64 y.a6, .int .u64 y.a7] rfl; simpa using this, hsh, Lat.setCells (by omega) _ _ _ (LA.trans L4)⟩
  case rest =>
    obtain ⟨x, y, r, rfl, KB, HI, LW⟩ := hcut
    have e0 := KB.cell 0
    have e1 := KB.cell 1
    have e2 := KB.cell 2
    have e3 := KB.cell 3
    have e4 := KB.cell 4
    have e5 := KB.cell 5
    have e6 := KB.cell 6
    have e7 := KB.cell 7
    have e8 := KB.cell 8
    have e9 := KB.cell 9
    have e10 := KB.cell 10
    have e11 := KB.cell 11
    have e12 := KB.cell 12
    have e13 := KB.cell 13
    have e14 := KB.cell 14
    have e15 := KB.cell 15
    go_wp2
    refine bodyPost_ret (v := .tuple #[.agg #[.int .u64 x.a0, .int .u64 x.a1, .int .u64 x.a2, .int .u64 x.a3, .int .u64 x.a4, .int .u64 x.a5, .int .u64 x.a6, .int .u64 x.a7, .int .u64 y.a0, .int .u64 y.a1, .int .u64 y.a2, .int .u64 y.a3, .int .u64 y.a4, .int .u64 y.a5, .int .u64 y.a6, .int .u64 y.a7], .int .i64 r]) (by simp [results, Tryz.results250, go_sem, e0, e1, e2, e3, e4, e5, e6, e7, e8, e9, e10, e11, e12, e13, e14, e15]) rfl ?_
    exact ⟨x, y, r, rfl, HI.out, LW⟩

theorem rDiv_ok (u1 v1 u2 v2 : W8) (h1 : u1.ok) (h2 : v1.ok) (h3 : u2.ok) (h4 : v2.ok) (ok1 : ShOk u1.toInt v1.toInt) (ok2 : ShOk u2.toInt v2.toInt) (hz : u2.toInt ≠ 0) (w : World) :
    Calls Tryz.prog 250 #[.agg #[.int .u64 u1.a0, .int .u64 u1.a1, .int .u64 u1.a2, .int .u64 u1.a3, .int .u64 u1.a4, .int .u64 u1.a5, .int .u64 u1.a6, .int .u64 u1.a7, .int .u64 v1.a0, .int .u64 v1.a1, .int .u64 v1.a2, .int .u64 v1.a3, .int .u64 v1.a4, .int .u64 v1.a5, .int .u64 v1.a6, .int .u64 v1.a7], .agg #[.int .u64 u2.a0, .int .u64 u2.a1, .int .u64 u2.a2, .int .u64 u2.a3, .int .u64 u2.a4, .int .u64 u2.a5, .int .u64 u2.a6, .int .u64 u2.a7, .int .u64 v2.a0, .int .u64 v2.a1, .int .u64 v2.a2, .int .u64 v2.a3, .int .u64 v2.a4, .int .u64 v2.a5, .int .u64 v2.a6, .int .u64 v2.a7]] w (SharePost w (lowN (u1.toInt * v2.toInt) (v1.toInt * u2.toInt)) (lowD (u1.toInt * v2.toInt) (v1.toInt * u2.toInt))) := by
  refine rDiv_gen [.int .u64 u1.a0, .int .u64 u1.a1, .int .u64 u1.a2, .int .u64 u1.a3, .int .u64 u1.a4, .int .u64 u1.a5, .int .u64 u1.a6, .int .u64 u1.a7, .int .u64 v1.a0, .int .u64 v1.a1, .int .u64 v1.a2, .int .u64 v1.a3, .int .u64 v1.a4, .int .u64 v1.a5, .int .u64 v1.a6, .int .u64 v1.a7] [.int .u64 u2.a0, .int .u64 u2.a1, .int .u64 u2.a2, .int .u64 u2.a3, .int .u64 u2.a4, .int .u64 u2.a5, .int .u64 u2.a6, .int .u64 u2.a7, .int .u64 v2.a0, .int .u64 v2.a1, .int .u64 v2.a2, .int .u64 v2.a3, .int .u64 v2.a4, .int .u64 v2.a5, .int .u64 v2.a6, .int .u64 v2.a7] rfl rfl u1.toInt v1.toInt u2.toInt v2.toInt _ _ w (fun w => rRight_ok u1 v1 h1 h2 ok1 w) (fun w => rRight_ok u2 v2 h3 h4 ok2 w) (fun w => rShIn_any u1 v1 h1 h2 w) (fun w => rShIn_any u2 v2 h3 h4 w) hz ?_
  intro b1 A1 n1 c1 b2 A2 n2 c2 b3 A3 n3 c3 b4 A4 n4 c4 w q1 q2 q3 q4 e1 e2 e3 e4
  have hd : v1.toInt * u2.toInt ≠ 0 := by
    have := ok1.1
    exact Int.mul_ne_zero (by omega) hz
  refine (rOver_any b1 A1 n1 c1 _ b2 A2 n2 c2 _ b3 A3 n3 c3 _ b4 A4 n4 c4 _ w q1 q2 q3 q4 hd (by omega) (by omega) (by omega) (by omega)).mono ?_
  rintro e w' ⟨b, A, n, c, b', A', n', c', h, s1, s2, s3, s4, s5⟩
  exact ⟨b, A, n, c, b', A', n', c', h, s1, by omega, s3, by omega, s5⟩
end Go.Proofs.YtkiaaefkobfkgaaGreat
