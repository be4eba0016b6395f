/- Chance: the sums of the weights. -/
import Derived.Test.YtogkkhaepfablaaChS
import Derived.Test.YtogkkhaepfablaaMany
namespace Go.Proofs.Ytogkkhaepfablaa
open Go.RowKit Go.Shelf
set_option linter.unusedSimpArgs false

set_option maxRecDepth 100000 in
set_option maxHeartbeats 4000000 in
theorem plus_in (a b r : W8) (rr e0 e1 : Int) (HA : ∀ w, Calls Try.prog 38 #[.agg #[.int .u64 a.a0, .int .u64 a.a1, .int .u64 a.a2, .int .u64 a.a3, .int .u64 a.a4, .int .u64 a.a5, .int .u64 a.a6, .int .u64 a.a7], .agg #[.int .u64 b.a0, .int .u64 b.a1, .int .u64 b.a2, .int .u64 b.a3, .int .u64 b.a4, .int .u64 b.a5, .int .u64 b.a6, .int .u64 b.a7]] w (fun e w' => e = .returned (.tuple #[.agg #[.int .u64 r.a0, .int .u64 r.a1, .int .u64 r.a2, .int .u64 r.a3, .int .u64 r.a4, .int .u64 r.a5, .int .u64 r.a6, .int .u64 r.a7], .int .i64 rr]) ∧ Lat w w')) (h0 : rr = 0 → e1 = e0) (h1 : rr ≠ 0 → e1 = rr)
    (g : Nat) (w : World) (hb : Blk w g 29 #[.int .i64 e0]) :
    Calls Try.prog 37 #[.agg #[.int .u64 a.a0, .int .u64 a.a1, .int .u64 a.a2, .int .u64 a.a3, .int .u64 a.a4, .int .u64 a.a5, .int .u64 a.a6, .int .u64 a.a7], .agg #[.int .u64 b.a0, .int .u64 b.a1, .int .u64 b.a2, .int .u64 b.a3, .int .u64 b.a4, .int .u64 b.a5, .int .u64 b.a6, .int .u64 b.a7], .pointer (some ⟨g, 0, none⟩)] w (fun e w' => e = .returned (.agg #[.int .u64 r.a0, .int .u64 r.a1, .int .u64 r.a2, .int .u64 r.a3, .int .u64 r.a4, .int .u64 r.a5, .int .u64 r.a6, .int .u64 r.a7]) ∧ Blk w' g 29 #[.int .i64 e1] ∧ LatP (· = g) w w') := by
  have hgl := hb.lt
  go_enter Try.func37, Try.ntmps37
  go_wp2_with fail
  refine name3 (Q := fun W => Calls _ _ _ W _) ?_
  intro W hl hs k3 k4 k5
  refine (HA W).mono ?_
  rintro e w1 ⟨rfl, l1⟩
  replace k5 := k5.later l1
  have L1 := hl.trans l1
  have KG := hb.later L1
  have hs1 : w.heap.size + 3 ≤ w1.heap.size := by have := l1.size; omega
  clear k3 k4 hl l1 hs HA
  go_upto_region 2 with (fail)
  refine name1 (Q := fun W => Code.wp _ _ _ _ W) ?_
  intro w2 l2 hs2 k6
  replace k5 := k5.later l2
  replace KG := KG.later l2
  replace L1 := L1.trans l2
  obtain ⟨g6, hg6⟩ : ∃ z, w1.heap.size = z := ⟨_, rfl⟩
  rw [hg6] at k6 hs1 ⊢
  clear l2 hs2 hg6
  by_cases hr : rr = 0
  · have he := h0 hr
    subst hr
    subst he
    clear h0 h1
    have c0 := k6.cell 0
    have c1 := k6.cell 1
    have c2 := k6.cell 2
    have c3 := k6.cell 3
    have c4 := k6.cell 4
    have c5 := k6.cell 5
    have c6 := k6.cell 6
    have c7 := k6.cell 7
    have d0 := k5.cell 0
    have d1 := k5.cell 1
    have d2 := k5.cell 2
    have d3 := k5.cell 3
    have d4 := k5.cell 4
    have d5 := k5.cell 5
    have d6 := k5.cell 6
    have d7 := k5.cell 7
    have f0 := k5.frozen 0
    have f1 := k5.frozen 1
    have f2 := k5.frozen 2
    have f3 := k5.frozen 3
    have f4 := k5.frozen 4
    have f5 := k5.frozen 5
    have f6 := k5.frozen 6
    have f7 := k5.frozen 7
    have hl5 := k5.lt
    go_wp2
    refine name_put8 (Q := fun W => bodyPost _ _ _ _ _ W) k5 ?_
    intro w3 j5 l3
    clear d0 d1 d2 d3 d4 d5 d6 d7
    have e0 := j5.cell 0
    have e1 := j5.cell 1
    have e2 := j5.cell 2
    have e3 := j5.cell 3
    have e4 := j5.cell 4
    have e5 := j5.cell 5
    have e6 := j5.cell 6
    have e7 := j5.cell 7
    refine bodyPost_ret (v := .agg #[.int .u64 r.a0, .int .u64 r.a1, .int .u64 r.a2, .int .u64 r.a3, .int .u64 r.a4, .int .u64 r.a5, .int .u64 r.a6, .int .u64 r.a7]) (by simp [results, Try.results37, go_sem, e0, e1, e2, e3, e4, e5, e6, e7]) rfl ?_
    exact ⟨rfl, KG.keepP l3 (by omega), (L1.p _).overN l3 (fun q h => by omega)⟩
  · have he := h1 hr
    subst he
    have hrb : ((e1 : Int) != 0) = true := by simpa using hr
    clear h0 h1
    have c8 : w2.cell? ⟨g, 0, none⟩ = some (.int .i64 e0) := KG.cell 0
    have f8 := KG.frozen 0
    have hl8 := KG.lt
    go_upto_region 4 with (fail)
    refine name_set (Q := fun W => Code.wp _ _ _ _ W) KG ?_
    intro w3 jg _ _ lg
    replace k5 := k5.keepP lg (by omega)
    replace k6 := k6.keepP lg (by omega)
    have LG : LatP (· = g) w w3 := (L1.p _).trans lg
    have JG : Blk w3 g 29 #[.int .i64 e1] := by simpa using jg
    clear KG c8 f8 hl8 lg jg L1
    have c0 := k6.cell 0
    have c1 := k6.cell 1
    have c2 := k6.cell 2
    have c3 := k6.cell 3
    have c4 := k6.cell 4
    have c5 := k6.cell 5
    have c6 := k6.cell 6
    have c7 := k6.cell 7
    have d0 := k5.cell 0
    have d1 := k5.cell 1
    have d2 := k5.cell 2
    have d3 := k5.cell 3
    have d4 := k5.cell 4
    have d5 := k5.cell 5
    have d6 := k5.cell 6
    have d7 := k5.cell 7
    have f0 := k5.frozen 0
    have f1 := k5.frozen 1
    have f2 := k5.frozen 2
    have f3 := k5.frozen 3
    have f4 := k5.frozen 4
    have f5 := k5.frozen 5
    have f6 := k5.frozen 6
    have f7 := k5.frozen 7
    have hl5 := k5.lt
    go_wp2
    refine name_put8 (Q := fun W => bodyPost _ _ _ _ _ W) k5 ?_
    intro w4 j5 l3
    clear d0 d1 d2 d3 d4 d5 d6 d7
    have e0 := j5.cell 0
    have e1 := j5.cell 1
    have e2 := j5.cell 2
    have e3 := j5.cell 3
    have e4 := j5.cell 4
    have e5 := j5.cell 5
    have e6 := j5.cell 6
    have e7 := j5.cell 7
    refine bodyPost_ret (v := .agg #[.int .u64 r.a0, .int .u64 r.a1, .int .u64 r.a2, .int .u64 r.a3, .int .u64 r.a4, .int .u64 r.a5, .int .u64 r.a6, .int .u64 r.a7]) (by simp [results, Try.results37, go_sem, e0, e1, e2, e3, e4, e5, e6, e7]) rfl ?_
    exact ⟨rfl, JG.keepP l3 (by omega), LG.overN l3 (fun q h => by omega)⟩

theorem wideInfoA : (Try.prog.info? 44).map (fun i => (i.zero, i.size, i.bytes)) = some (some (.agg #[.int .u64 0, .int .u64 0, .int .u64 0, .int .u64 0, .int .u64 0, .int .u64 0, .int .u64 0, .int .u64 0]), 8, 64) := by kernel_rfl
/-- Wide numbers as rows of eight cells. -/
def wRow (x : W8) : List Value := [.int .u64 x.a0, .int .u64 x.a1, .int .u64 x.a2, .int .u64 x.a3, .int .u64 x.a4, .int .u64 x.a5, .int .u64 x.a6, .int .u64 x.a7]
def wRows (xs : List W8) : List (List Value) := xs.map wRow
def upsW (S : Nat → W8) (i : Nat) : List W8 := (List.range i).map fun j => S (j + 1)
theorem upsW_succ (S : Nat → W8) (i : Nat) : wRows (upsW S (i + 1)) = wRows (upsW S i) ++ [wRow (S (i + 1))] := by simp [wRows, upsW, List.range_succ]
theorem upsW_length (S : Nat → W8) (i : Nat) : (wRows (upsW S i)).length = i := by simp [wRows, upsW]

theorem OwnM.at_ {w : World} {B m : Nat} {E : TypeId} {v : Value} {xs : List (List Value)} (h : OwnM w B E m v xs) : ∀ g, v.ownBlock = some g → B ≤ g ∧ g < w.heap.size ∧ ∃ cs, Blk w g E cs := by
  intro g hg
  rcases h.2.2 with ⟨rfl, _⟩ | ⟨g', cap, cur, rfl, hb, hh, _⟩
  · cases hg
  · cases hg
    have hB : Blk w g' E cur := hh
    exact ⟨hb, hB.lt, cur, hB⟩
theorem OwnM.low {w : World} {B B' m : Nat} {E : TypeId} {v : Value} {xs : List (List Value)} (h : OwnM w B E m v xs) (hB : B' ≤ B) : OwnM w B' E m v xs := by
  obtain ⟨h0, h1, h2⟩ := h
  refine ⟨h0, h1, ?_⟩
  rcases h2 with h2 | ⟨g, cap, cur, e, hb, r⟩
  · exact .inl h2
  · exact .inr ⟨g, cap, cur, e, Nat.le_trans hB hb, r⟩
theorem OwnM.keepP {w w' : World} {B m g : Nat} {E : TypeId} {v : Value} {xs : List (List Value)} (h : OwnM w B E m v xs) (hl : LatP (· = g) w w') (hg : g < B) : OwnM w' B E m v xs :=
  h.kept (fun q hq => hl.block q (h.at_ q hq).2.1 (by have := (h.at_ q hq).1; omega))

set_option maxRecDepth 100000 in
set_option maxHeartbeats 8000000 in
theorem sums_in (A : Option Addr) (n c : Nat) (ws : List W8) (S : Nat → W8) (E : Nat → Int) (hS0 : S 0 = W8.zero) (hn : n ≤ 1000000) (g9 : Nat)
    (HP : ∀ i x W, ws[i]? = some x → Blk W g9 29 #[.int .i64 (E i)] → Calls Try.prog 37 #[.agg #[.int .u64 (S i).a0, .int .u64 (S i).a1, .int .u64 (S i).a2, .int .u64 (S i).a3, .int .u64 (S i).a4, .int .u64 (S i).a5, .int .u64 (S i).a6, .int .u64 (S i).a7], .agg #[.int .u64 x.a0, .int .u64 x.a1, .int .u64 x.a2, .int .u64 x.a3, .int .u64 x.a4, .int .u64 x.a5, .int .u64 x.a6, .int .u64 x.a7], .pointer (some ⟨g9, 0, none⟩)] W (fun e w' => e = .returned (.agg #[.int .u64 (S (i + 1)).a0, .int .u64 (S (i + 1)).a1, .int .u64 (S (i + 1)).a2, .int .u64 (S (i + 1)).a3, .int .u64 (S (i + 1)).a4, .int .u64 (S (i + 1)).a5, .int .u64 (S (i + 1)).a6, .int .u64 (S (i + 1)).a7]) ∧ Blk w' g9 29 #[.int .i64 (E (i + 1))] ∧ LatP (· = g9) W w'))
    (w : World) (hr : RowM w A 8 n (wRows ws)) (hA : ∀ a, A = some a → a.block ≠ g9) (hb : Blk w g9 29 #[.int .i64 (E 0)]) :
    Calls Try.prog 36 #[.slice A n c, .func (.func 37) #[] #[.pointer (some ⟨g9, 0, none⟩)]] w (fun e w' => ∃ v, e = .returned v ∧ OwnM w' w.heap.size 44 8 v (wRows (upsW S n)) ∧ Blk w' g9 29 #[.int .i64 (E n)] ∧ LatP (· = g9) w w') := by
  have HPH := Lib.hid HP
  have HS0 := Lib.hid hS0
  have HA := Lib.hid hA
  have HLT : Hid (∀ a, A = some a → 0 < n → a.block < w.heap.size) := fun a h hn => by obtain ⟨g, o, e, hlt, _⟩ := hr.2.2 hn; rw [h] at e; cases e; exact hlt
  have hgl := hb.lt
  clear HP hS0 hA
  go_enter Try.func36, Try.ntmps36
  go_upto_region 3 with (fail)
  refine name1 (Q := fun W => Code.wp _ _ _ _ W) ?_
  intro W hl hs k6
  have K6 : Blk W w.heap.size 44 #[.int .u64 (S 0).a0, .int .u64 (S 0).a1, .int .u64 (S 0).a2, .int .u64 (S 0).a3, .int .u64 (S 0).a4, .int .u64 (S 0).a5, .int .u64 (S 0).a6, .int .u64 (S 0).a7] := by rw [HS0.out]; exact k6
  have R0 := hr.later hl
  have B0 := hb.later hl
  have LP := hl.p (· = g9)
  have hWs := hs
  clear k6 hr hb hl hs
  go_wp2
  go_loopw [5, 11] (fun ov i wr => ∃ j : Nat, j ≤ n ∧ i = .int .i64 j ∧ OwnM wr W.heap.size 44 8 ov (wRows (upsW S j)) ∧ Blk wr w.heap.size 44 #[.int .u64 (S j).a0, .int .u64 (S j).a1, .int .u64 (S j).a2, .int .u64 (S j).a3, .int .u64 (S j).a4, .int .u64 (S j).a5, .int .u64 (S j).a6, .int .u64 (S j).a7] ∧ RowM wr A 8 n (wRows ws) ∧ Blk wr g9 29 #[.int .i64 (E j)] ∧ LatP (· = g9) w wr ∧ W.heap.size ≤ wr.heap.size) (fun _ i _ => n - (intOf i).toNat)
  case atStart => exact ⟨0, by omega, rfl, OwnM.nil _ _ _ _, K6, R0, B0, LP, Nat.le_refl _⟩
  case round =>
    obtain ⟨j, hj, rfl, O, K, R, B, LPj, hsz⟩ := hrel
    clear K6 R0 B0 LP
    by_cases hlt : j < n
    · obtain ⟨g, o, x, rfl, hgl2, hx, hxl, hrg⟩ := R.at hlt
      obtain ⟨x, hxw, rfl⟩ : ∃ y, ws[j]? = some y ∧ x = wRow y := by
        unfold wRows at hx
        rw [List.getElem?_map] at hx
        cases h : ws[j]? with
        | none => rw [h] at hx; cases hx
        | some y => rw [h] at hx; simp only [Option.map_some, Option.some.injEq] at hx; exact ⟨y, rfl, hx.symm⟩
      have HP1 := fun W h => HPH.out j x W hxw h
      have hltI : (j : Int) < (n : Int) := by omega
      have b0 : (0 : Int) ≤ (j : Int) := by omega
      clear hx hxl hxw
      have hrg : wr.rangeAt g (o + j * 8) [.int .u64 x.a0, .int .u64 x.a1, .int .u64 x.a2, .int .u64 x.a3, .int .u64 x.a4, .int .u64 x.a5, .int .u64 x.a6, .int .u64 x.a7] := hrg
      have hgg : g ≠ g9 := HA.out _ rfl
      have hgw : g < w.heap.size := HLT.out _ rfl (by omega)
      have hlk := K.lt
      have d0 := K.cell 0
      have d1 := K.cell 1
      have d2 := K.cell 2
      have d3 := K.cell 3
      have d4 := K.cell 4
      have d5 := K.cell 5
      have d6 := K.cell 6
      have d7 := K.cell 7
      go_wp2_with (refine wpList_load_mid (by rfl) 44 (.tmp 13) (by rfl) g (o + j * 8) (by rfl) [.int .u64 x.a0, .int .u64 x.a1, .int .u64 x.a2, .int .u64 x.a3, .int .u64 x.a4, .int .u64 x.a5, .int .u64 x.a6, .int .u64 x.a7] _ hrg Try.underlying44 rfl (by kernel_rfl) ?_)
      refine name1 (Q := fun W => Calls _ _ _ W _) ?_
      intro V1 l1 hs1 k8
      refine (HP1 V1 (B.later l1)).mono ?_
      rintro e V2 ⟨rfl, B2, l2⟩
      have n6 : w.heap.size ≠ g9 := by omega
      have K2 := (K.later l1).keepP l2 n6
      have O2 := (O.later l1).keepP l2 (by omega)
      have R2 := (R.later l1).kept l2.size (fun a h => by cases h; exact l2.block _ (Nat.lt_of_lt_of_le hgl2 l1.size) hgg)
      have P2 := (LPj.trans (l1.p _)).trans l2
      have hsz2 : W.heap.size ≤ V2.heap.size := Nat.le_trans hsz (Nat.le_trans l1.size l2.size)
      clear d0 d1 d2 d3 d4 d5 d6 d7
      clear K O R LPj B l1 l2 hs1 k8 hlk hrg HP1 hgl2 hsz
      have d0 := K2.cell 0
      have d1 := K2.cell 1
      have d2 := K2.cell 2
      have d3 := K2.cell 3
      have d4 := K2.cell 4
      have d5 := K2.cell 5
      have d6 := K2.cell 6
      have d7 := K2.cell 7
      have f0 := K2.frozen 0
      have f1 := K2.frozen 1
      have f2 := K2.frozen 2
      have f3 := K2.frozen 3
      have f4 := K2.frozen 4
      have f5 := K2.frozen 5
      have f6 := K2.frozen 6
      have f7 := K2.frozen 7
      have hlk := K2.lt
      go_upto_region 7 with (fail)
      refine name_put8 (Q := fun W => Code.wp _ _ _ _ W) K2 ?_
      intro V3 K3 l3
      have O3 := O2.keepP l3 (by omega)
      have R3 := R2.kept l3.size (fun a h => by cases h; exact l3.block g (by omega) (by omega))
      have B3 := B2.keepP l3 (by omega)
      have P3 : LatP (· = g9) w V3 := P2.overN l3 (fun q h => by omega)
      have hsz3 : W.heap.size ≤ V3.heap.size := Nat.le_trans hsz2 l3.size
      clear d0 d1 d2 d3 d4 d5 d6 d7
      clear f0 f1 f2 f3 f4 f5 f6 f7
      clear K2 O2 R2 P2 B2 l3 hsz2 hlk
      have d0 := K3.cell 0
      have d1 := K3.cell 1
      have d2 := K3.cell 2
      have d3 := K3.cell 3
      have d4 := K3.cell 4
      have d5 := K3.cell 5
      have d6 := K3.cell 6
      have d7 := K3.cell 7
      have hlen : (wRows (upsW S j)).length ≤ 100000000 := by rw [upsW_length]; omega
      have la := Lat.alloc V3 (.cells #[.int .u64 (S (j + 1)).a0, .int .u64 (S (j + 1)).a1, .int .u64 (S (j + 1)).a2, .int .u64 (S (j + 1)).a3, .int .u64 (S (j + 1)).a4, .int .u64 (S (j + 1)).a5, .int .u64 (S (j + 1)).a6, .int .u64 (S (j + 1)).a7] 44)
      go_wp2_with (at_builtin; refine wpList_pushM rfl _ _ 50 (by rfl) W.heap.size 44 44 (.agg #[.int .u64 0, .int .u64 0, .int .u64 0, .int .u64 0, .int .u64 0, .int .u64 0, .int .u64 0, .int .u64 0]) 8 64 Try.underlying50 wideInfoA rfl (by decide) (by decide) _ _ [.int .u64 (S (j + 1)).a0, .int .u64 (S (j + 1)).a1, .int .u64 (S (j + 1)).a2, .int .u64 (S (j + 1)).a3, .int .u64 (S (j + 1)).a4, .int .u64 (S (j + 1)).a5, .int .u64 (S (j + 1)).a6, .int .u64 (S (j + 1)).a7] (by simp [Value.oneCell']) _ V3.heap.size (by rfl) (O3.later la) (Blk.new _ _ _) rfl 1 (by rfl) hlen (Nat.le_trans hsz3 la.size) ?_; intro v' w' h1 h2 h3)
      have noOwn : ∀ q, q < W.heap.size → ¬ some q = u5.ownBlock := fun q hq h => by have := (O3.at_ q h.symm).1; omega
      have hla := la.size
      have K4 : Blk w' w.heap.size 44 #[.int .u64 (S (j + 1)).a0, .int .u64 (S (j + 1)).a1, .int .u64 (S (j + 1)).a2, .int .u64 (S (j + 1)).a3, .int .u64 (S (j + 1)).a4, .int .u64 (S (j + 1)).a5, .int .u64 (S (j + 1)).a6, .int .u64 (S (j + 1)).a7] := (h2.block _ (K3.later la).lt (noOwn _ (by omega))).trans (K3.later la)
      have B4 : Blk w' g9 29 #[.int .i64 (E (j + 1))] := (h2.block _ (B3.later la).lt (noOwn _ (by omega))).trans (B3.later la)
      have R4 := (R3.later la).kept h2.size (fun a h => by cases h; exact h2.block g (by omega) (noOwn g (by omega)))
      have S4 : LatP (fun q => some q = u5.ownBlock) (V3.alloc (.cells #[.int .u64 (S (j + 1)).a0, .int .u64 (S (j + 1)).a1, .int .u64 (S (j + 1)).a2, .int .u64 (S (j + 1)).a3, .int .u64 (S (j + 1)).a4, .int .u64 (S (j + 1)).a5, .int .u64 (S (j + 1)).a6, .int .u64 (S (j + 1)).a7] 44)) w' := ⟨h2.os, h2.tape, h2.output, h2.size, fun q hq hn => h2.block q hq hn⟩
      have P4 := (P3.trans (la.p _)).overN S4 (fun q h => by have := (O3.at_ q h.symm).1; omega)
      exact ⟨⟨j + 1, by omega, by go_num, by rw [upsW_succ]; exact h1, K4, R4, B4, P4, Nat.le_trans hsz3 (Nat.le_trans hla h2.size)⟩, by simp [intOf]; omega⟩
    · obtain rfl : j = n := by omega
      go_wp2
      go_ret
      exact ⟨_, rfl, O.low (by omega), B, LPj⟩
end Go.Proofs.Ytogkkhaepfablaa
