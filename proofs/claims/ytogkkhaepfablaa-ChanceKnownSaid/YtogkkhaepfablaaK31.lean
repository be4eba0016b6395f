/- Several texts in one: ChT, ChU, CwA, CwB. -/
import Derived.Test.YtogkkhaepfablaaK30
import Derived.Test.YtogkkhaepfablaaK01
import Derived.Test.YtogkkhaepfablaaK29
import Derived.Test.YtogkkhaepfablaaK34
import Derived.Test.YtogkkhaepfablaaChV
import Derived.Test.YtogkkhaepfablaaJ15

/- Chance: the sums of the weights. -/
namespace Go.Proofs.Ytogkkhaepfablaa
open Go.RowKit Go.Shelf
set_option linter.unusedSimpArgs false

set_option maxRecDepth 100000 in
set_option maxHeartbeats 4000000 in
theorem plus_in (a b r : W8) (rr e0 e1 : Int) (HA : ∀ w, Calls Try.prog 38 #[.agg #[.int .u64 a.a0, .int .u64 a.a1, .int .u64 a.a2, .int .u64 a.a3, .int .u64 a.a4, .int .u64 a.a5, .int .u64 a.a6, .int .u64 a.a7], .agg #[.int .u64 b.a0, .int .u64 b.a1, .int .u64 b.a2, .int .u64 b.a3, .int .u64 b.a4, .int .u64 b.a5, .int .u64 b.a6, .int .u64 b.a7]] w (fun e w' => e = .returned (.tuple #[.agg #[.int .u64 r.a0, .int .u64 r.a1, .int .u64 r.a2, .int .u64 r.a3, .int .u64 r.a4, .int .u64 r.a5, .int .u64 r.a6, .int .u64 r.a7], .int .i64 rr]) ∧ Lat w w')) (h0 : rr = 0 → e1 = e0) (h1 : rr ≠ 0 → e1 = rr)
    (g : Nat) (w : World) (hb : Blk w g 29 #[.int .i64 e0]) :
    Calls Try.prog 37 #[.agg #[.int .u64 a.a0, .int .u64 a.a1, .int .u64 a.a2, .int .u64 a.a3, .int .u64 a.a4, .int .u64 a.a5, .int .u64 a.a6, .int .u64 a.a7], .agg #[.int .u64 b.a0, .int .u64 b.a1, .int .u64 b.a2, .int .u64 b.a3, .int .u64 b.a4, .int .u64 b.a5, .int .u64 b.a6, .int .u64 b.a7], .pointer (some ⟨g, 0, none⟩)] w (fun e w' => e = .returned (.agg #[.int .u64 r.a0, .int .u64 r.a1, .int .u64 r.a2, .int .u64 r.a3, .int .u64 r.a4, .int .u64 r.a5, .int .u64 r.a6, .int .u64 r.a7]) ∧ Blk w' g 29 #[.int .i64 e1] ∧ LatP (· = g) w w') := by
  have hgl := hb.lt
  go_enter Try.func37, Try.ntmps37
  go_wp2_with fail
  refine name3 (Q := fun W => Calls _ _ _ W _) ?_
  intro W hl hs k3 k4 k5
  refine (HA W).mono ?_
  rintro e w1 ⟨rfl, l1⟩
  replace k5 := k5.later l1
  have L1 := hl.trans l1
  have KG := hb.later L1
  have hs1 : w.heap.size + 3 ≤ w1.heap.size := by have := l1.size; omega
  clear k3 k4 hl l1 hs HA
  go_upto_region 2 with (fail)
  refine name1 (Q := fun W => Code.wp _ _ _ _ W) ?_
  intro w2 l2 hs2 k6
  replace k5 := k5.later l2
  replace KG := KG.later l2
  replace L1 := L1.trans l2
  obtain ⟨g6, hg6⟩ : ∃ z, w1.heap.size = z := ⟨_, rfl⟩
  rw [hg6] at k6 hs1 ⊢
  clear l2 hs2 hg6
  by_cases hr : rr = 0
  · have he := h0 hr
    subst hr
    subst he
    clear h0 h1
    have c0 := k6.cell 0
    have c1 := k6.cell 1
    have c2 := k6.cell 2
    have c3 := k6.cell 3
    have c4 := k6.cell 4
    have c5 := k6.cell 5
    have c6 := k6.cell 6
    have c7 := k6.cell 7
    have d0 := k5.cell 0
    have d1 := k5.cell 1
    have d2 := k5.cell 2
    have d3 := k5.cell 3
    have d4 := k5.cell 4
    have d5 := k5.cell 5
    have d6 := k5.cell 6
    have d7 := k5.cell 7
    have f0 := k5.frozen 0
    have f1 := k5.frozen 1
    have f2 := k5.frozen 2
    have f3 := k5.frozen 3
    have f4 := k5.frozen 4
    have f5 := k5.frozen 5
    have f6 := k5.frozen 6
    have f7 := k5.frozen 7
    have hl5 := k5.lt
    go_wp2
    refine name_put8 (Q := fun W => bodyPost _ _ _ _ _ W) k5 ?_
    intro w3 j5 l3
    clear d0 d1 d2 d3 d4 d5 d6 d7
    have e0 := j5.cell 0
    have e1 := j5.cell 1
    have e2 := j5.cell 2
    have e3 := j5.cell 3
    have e4 := j5.cell 4
    have e5 := j5.cell 5
    have e6 := j5.cell 6
    have e7 := j5.cell 7
    refine bodyPost_ret (v := .agg #[.int .u64 r.a0, .int .u64 r.a1, .int .u64 r.a2, .int .u64 r.a3, .int .u64 r.a4, .int .u64 r.a5, .int .u64 r.a6, .int .u64 r.a7]) (by simp [results, Try.results37, go_sem, e0, e1, e2, e3, e4, e5, e6, e7]) rfl ?_
    exact ⟨rfl, KG.keepP l3 (by omega), (L1.p _).overN l3 (fun q h => by omega)⟩
  · have he := h1 hr
    subst he
    have hrb : ((e1 : Int) != 0) = true := by simpa using hr
    clear h0 h1
    have c8 : w2.cell? ⟨g, 0, none⟩ = some (.int .i64 e0) := KG.cell 0
    have f8 := KG.frozen 0
    have hl8 := KG.lt
    go_upto_region 4 with (fail)
    refine name_set (Q := fun W => Code.wp _ _ _ _ W) KG ?_
    intro w3 jg _ _ lg
    replace k5 := k5.keepP lg (by omega)
    replace k6 := k6.keepP lg (by omega)
    have LG : LatP (· = g) w w3 := (L1.p _).trans lg
    have JG : Blk w3 g 29 #[.int .i64 e1] := by simpa using jg
    clear KG c8 f8 hl8 lg jg L1
    have c0 := k6.cell 0
    have c1 := k6.cell 1
    have c2 := k6.cell 2
    have c3 := k6.cell 3
    have c4 := k6.cell 4
    have c5 := k6.cell 5
    have c6 := k6.cell 6
    have c7 := k6.cell 7
    have d0 := k5.cell 0
    have d1 := k5.cell 1
    have d2 := k5.cell 2
    have d3 := k5.cell 3
    have d4 := k5.cell 4
    have d5 := k5.cell 5
    have d6 := k5.cell 6
    have d7 := k5.cell 7
    have f0 := k5.frozen 0
    have f1 := k5.frozen 1
    have f2 := k5.frozen 2
    have f3 := k5.frozen 3
    have f4 := k5.frozen 4
    have f5 := k5.frozen 5
    have f6 := k5.frozen 6
    have f7 := k5.frozen 7
    have hl5 := k5.lt
    go_wp2
    refine name_put8 (Q := fun W => bodyPost _ _ _ _ _ W) k5 ?_
    intro w4 j5 l3
    clear d0 d1 d2 d3 d4 d5 d6 d7
    have e0 := j5.cell 0
    have e1 := j5.cell 1
    have e2 := j5.cell 2
    have e3 := j5.cell 3
    have e4 := j5.cell 4
    have e5 := j5.cell 5
    have e6 := j5.cell 6
    have e7 := j5.cell 7
    refine bodyPost_ret (v := .agg #[.int .u64 r.a0, .int .u64 r.a1, .int .u64 r.a2, .int .u64 r.a3, .int .u64 r.a4, .int .u64 r.a5, .int .u64 r.a6, .int .u64 r.a7]) (by simp [results, Try.results37, go_sem, e0, e1, e2, e3, e4, e5, e6, e7]) rfl ?_
    exact ⟨rfl, JG.keepP l3 (by omega), LG.overN l3 (fun q h => by omega)⟩

theorem wideInfoA : (Try.prog.info? 44).map (fun i => (i.zero, i.size, i.bytes)) = some (some (.agg #[.int .u64 0, .int .u64 0, .int .u64 0, .int .u64 0, .int .u64 0, .int .u64 0, .int .u64 0, .int .u64 0]), 8, 64) := by kernel_rfl
/-- Wide numbers as rows of eight cells. -/
def wRow (x : W8) : List Value := [.int .u64 x.a0, .int .u64 x.a1, .int .u64 x.a2, .int .u64 x.a3, .int .u64 x.a4, .int .u64 x.a5, .int .u64 x.a6, .int .u64 x.a7]
def wRows (xs : List W8) : List (List Value) := xs.map wRow
def upsW (S : Nat → W8) (i : Nat) : List W8 := (List.range i).map fun j => S (j + 1)
theorem upsW_succ (S : Nat → W8) (i : Nat) : wRows (upsW S (i + 1)) = wRows (upsW S i) ++ [wRow (S (i + 1))] := by simp [wRows, upsW, List.range_succ]
theorem upsW_length (S : Nat → W8) (i : Nat) : (wRows (upsW S i)).length = i := by simp [wRows, upsW]

theorem OwnM.at_ {w : World} {B m : Nat} {E : TypeId} {v : Value} {xs : List (List Value)} (h : OwnM w B E m v xs) : ∀ g, v.ownBlock = some g → B ≤ g ∧ g < w.heap.size ∧ ∃ cs, Blk w g E cs := by
  intro g hg
  rcases h.2.2 with ⟨rfl, _⟩ | ⟨g', cap, cur, rfl, hb, hh, _⟩
  · cases hg
  · cases hg
    have hB : Blk w g' E cur := hh
    exact ⟨hb, hB.lt, cur, hB⟩
theorem OwnM.low {w : World} {B B' m : Nat} {E : TypeId} {v : Value} {xs : List (List Value)} (h : OwnM w B E m v xs) (hB : B' ≤ B) : OwnM w B' E m v xs := by
  obtain ⟨h0, h1, h2⟩ := h
  refine ⟨h0, h1, ?_⟩
  rcases h2 with h2 | ⟨g, cap, cur, e, hb, r⟩
  · exact .inl h2
  · exact .inr ⟨g, cap, cur, e, Nat.le_trans hB hb, r⟩
theorem OwnM.keepP {w w' : World} {B m g : Nat} {E : TypeId} {v : Value} {xs : List (List Value)} (h : OwnM w B E m v xs) (hl : LatP (· = g) w w') (hg : g < B) : OwnM w' B E m v xs :=
  h.kept (fun q hq => hl.block q (h.at_ q hq).2.1 (by have := (h.at_ q hq).1; omega))

set_option maxRecDepth 100000 in
set_option maxHeartbeats 8000000 in
theorem sums_in (A : Option Addr) (n c : Nat) (ws : List W8) (S : Nat → W8) (E : Nat → Int) (hS0 : S 0 = W8.zero) (hn : n ≤ 1000000) (g9 : Nat)
    (HP : ∀ i x W, ws[i]? = some x → Blk W g9 29 #[.int .i64 (E i)] → Calls Try.prog 37 #[.agg #[.int .u64 (S i).a0, .int .u64 (S i).a1, .int .u64 (S i).a2, .int .u64 (S i).a3, .int .u64 (S i).a4, .int .u64 (S i).a5, .int .u64 (S i).a6, .int .u64 (S i).a7], .agg #[.int .u64 x.a0, .int .u64 x.a1, .int .u64 x.a2, .int .u64 x.a3, .int .u64 x.a4, .int .u64 x.a5, .int .u64 x.a6, .int .u64 x.a7], .pointer (some ⟨g9, 0, none⟩)] W (fun e w' => e = .returned (.agg #[.int .u64 (S (i + 1)).a0, .int .u64 (S (i + 1)).a1, .int .u64 (S (i + 1)).a2, .int .u64 (S (i + 1)).a3, .int .u64 (S (i + 1)).a4, .int .u64 (S (i + 1)).a5, .int .u64 (S (i + 1)).a6, .int .u64 (S (i + 1)).a7]) ∧ Blk w' g9 29 #[.int .i64 (E (i + 1))] ∧ LatP (· = g9) W w'))
    (w : World) (hr : RowM w A 8 n (wRows ws)) (hA : ∀ a, A = some a → a.block ≠ g9) (hb : Blk w g9 29 #[.int .i64 (E 0)]) :
    Calls Try.prog 36 #[.slice A n c, .func (.func 37) #[] #[.pointer (some ⟨g9, 0, none⟩)]] w (fun e w' => ∃ v, e = .returned v ∧ OwnM w' w.heap.size 44 8 v (wRows (upsW S n)) ∧ Blk w' g9 29 #[.int .i64 (E n)] ∧ LatP (· = g9) w w') := by
  have HPH := Lib.hid HP
  have HS0 := Lib.hid hS0
  have HA := Lib.hid hA
  have HLT : Hid (∀ a, A = some a → 0 < n → a.block < w.heap.size) := fun a h hn => by obtain ⟨g, o, e, hlt, _⟩ := hr.2.2 hn; rw [h] at e; cases e; exact hlt
  have hgl := hb.lt
  clear HP hS0 hA
  go_enter Try.func36, Try.ntmps36
  go_upto_region 3 with (fail)
  refine name1 (Q := fun W => Code.wp _ _ _ _ W) ?_
  intro W hl hs k6
  have K6 : Blk W w.heap.size 44 #[.int .u64 (S 0).a0, .int .u64 (S 0).a1, .int .u64 (S 0).a2, .int .u64 (S 0).a3, .int .u64 (S 0).a4, .int .u64 (S 0).a5, .int .u64 (S 0).a6, .int .u64 (S 0).a7] := by rw [HS0.out]; exact k6
  have R0 := hr.later hl
  have B0 := hb.later hl
  have LP := hl.p (· = g9)
  have hWs := hs
  clear k6 hr hb hl hs
  go_wp2
  go_loopw [5, 11] (fun ov i wr => ∃ j : Nat, j ≤ n ∧ i = .int .i64 j ∧ OwnM wr W.heap.size 44 8 ov (wRows (upsW S j)) ∧ Blk wr w.heap.size 44 #[.int .u64 (S j).a0, .int .u64 (S j).a1, .int .u64 (S j).a2, .int .u64 (S j).a3, .int .u64 (S j).a4, .int .u64 (S j).a5, .int .u64 (S j).a6, .int .u64 (S j).a7] ∧ RowM wr A 8 n (wRows ws) ∧ Blk wr g9 29 #[.int .i64 (E j)] ∧ LatP (· = g9) w wr ∧ W.heap.size ≤ wr.heap.size) (fun _ i _ => n - (intOf i).toNat)
  case atStart => exact ⟨0, by omega, rfl, OwnM.nil _ _ _ _, K6, R0, B0, LP, Nat.le_refl _⟩
  case round =>
    obtain ⟨j, hj, rfl, O, K, R, B, LPj, hsz⟩ := hrel
    clear K6 R0 B0 LP
    by_cases hlt : j < n
    · obtain ⟨g, o, x, rfl, hgl2, hx, hxl, hrg⟩ := R.at hlt
      obtain ⟨x, hxw, rfl⟩ : ∃ y, ws[j]? = some y ∧ x = wRow y := by
        unfold wRows at hx
        rw [List.getElem?_map] at hx
        cases h : ws[j]? with
        | none => rw [h] at hx; cases hx
        | some y => rw [h] at hx; simp only [Option.map_some, Option.some.injEq] at hx; exact ⟨y, rfl, hx.symm⟩
      have HP1 := fun W h => HPH.out j x W hxw h
      have hltI : (j : Int) < (n : Int) := by omega
      have b0 : (0 : Int) ≤ (j : Int) := by omega
      clear hx hxl hxw
      have hrg : wr.rangeAt g (o + j * 8) [.int .u64 x.a0, .int .u64 x.a1, .int .u64 x.a2, .int .u64 x.a3, .int .u64 x.a4, .int .u64 x.a5, .int .u64 x.a6, .int .u64 x.a7] := hrg
      have hgg : g ≠ g9 := HA.out _ rfl
      have hgw : g < w.heap.size := HLT.out _ rfl (by omega)
      have hlk := K.lt
      have d0 := K.cell 0
      have d1 := K.cell 1
      have d2 := K.cell 2
      have d3 := K.cell 3
      have d4 := K.cell 4
      have d5 := K.cell 5
      have d6 := K.cell 6
      have d7 := K.cell 7
      go_wp2_with (refine wpList_load_mid (by rfl) 44 (.tmp 13) (by rfl) g (o + j * 8) (by rfl) [.int .u64 x.a0, .int .u64 x.a1, .int .u64 x.a2, .int .u64 x.a3, .int .u64 x.a4, .int .u64 x.a5, .int .u64 x.a6, .int .u64 x.a7] _ hrg Try.underlying44 rfl (by kernel_rfl) ?_)
      refine name1 (Q := fun W => Calls _ _ _ W _) ?_
      intro V1 l1 hs1 k8
      refine (HP1 V1 (B.later l1)).mono ?_
      rintro e V2 ⟨rfl, B2, l2⟩
      have n6 : w.heap.size ≠ g9 := by omega
      have K2 := (K.later l1).keepP l2 n6
      have O2 := (O.later l1).keepP l2 (by omega)
      have R2 := (R.later l1).kept l2.size (fun a h => by cases h; exact l2.block _ (Nat.lt_of_lt_of_le hgl2 l1.size) hgg)
      have P2 := (LPj.trans (l1.p _)).trans l2
      have hsz2 : W.heap.size ≤ V2.heap.size := Nat.le_trans hsz (Nat.le_trans l1.size l2.size)
      clear d0 d1 d2 d3 d4 d5 d6 d7
      clear K O R LPj B l1 l2 hs1 k8 hlk hrg HP1 hgl2 hsz
      have d0 := K2.cell 0
      have d1 := K2.cell 1
      have d2 := K2.cell 2
      have d3 := K2.cell 3
      have d4 := K2.cell 4
      have d5 := K2.cell 5
      have d6 := K2.cell 6
      have d7 := K2.cell 7
      have f0 := K2.frozen 0
      have f1 := K2.frozen 1
      have f2 := K2.frozen 2
      have f3 := K2.frozen 3
      have f4 := K2.frozen 4
      have f5 := K2.frozen 5
      have f6 := K2.frozen 6
      have f7 := K2.frozen 7
      have hlk := K2.lt
      go_upto_region 7 with (fail)
      refine name_put8 (Q := fun W => Code.wp _ _ _ _ W) K2 ?_
      intro V3 K3 l3
      have O3 := O2.keepP l3 (by omega)
      have R3 := R2.kept l3.size (fun a h => by cases h; exact l3.block g (by omega) (by omega))
      have B3 := B2.keepP l3 (by omega)
      have P3 : LatP (· = g9) w V3 := P2.overN l3 (fun q h => by omega)
      have hsz3 : W.heap.size ≤ V3.heap.size := Nat.le_trans hsz2 l3.size
      clear d0 d1 d2 d3 d4 d5 d6 d7
      clear f0 f1 f2 f3 f4 f5 f6 f7
      clear K2 O2 R2 P2 B2 l3 hsz2 hlk
      have d0 := K3.cell 0
      have d1 := K3.cell 1
      have d2 := K3.cell 2
      have d3 := K3.cell 3
      have d4 := K3.cell 4
      have d5 := K3.cell 5
      have d6 := K3.cell 6
      have d7 := K3.cell 7
      have hlen : (wRows (upsW S j)).length ≤ 100000000 := by rw [upsW_length]; omega
      have la := Lat.alloc V3 (.cells #[.int .u64 (S (j + 1)).a0, .int .u64 (S (j + 1)).a1, .int .u64 (S (j + 1)).a2, .int .u64 (S (j + 1)).a3, .int .u64 (S (j + 1)).a4, .int .u64 (S (j + 1)).a5, .int .u64 (S (j + 1)).a6, .int .u64 (S (j + 1)).a7] 44)
      go_wp2_with (at_builtin; refine wpList_pushM rfl _ _ 50 (by rfl) W.heap.size 44 44 (.agg #[.int .u64 0, .int .u64 0, .int .u64 0, .int .u64 0, .int .u64 0, .int .u64 0, .int .u64 0, .int .u64 0]) 8 64 Try.underlying50 wideInfoA rfl (by decide) (by decide) _ _ [.int .u64 (S (j + 1)).a0, .int .u64 (S (j + 1)).a1, .int .u64 (S (j + 1)).a2, .int .u64 (S (j + 1)).a3, .int .u64 (S (j + 1)).a4, .int .u64 (S (j + 1)).a5, .int .u64 (S (j + 1)).a6, .int .u64 (S (j + 1)).a7] (by simp [Value.oneCell']) _ V3.heap.size (by rfl) (O3.later la) (Blk.new _ _ _) rfl 1 (by rfl) hlen (Nat.le_trans hsz3 la.size) ?_; intro v' w' h1 h2 h3)
      have noOwn : ∀ q, q < W.heap.size → ¬ some q = u5.ownBlock := fun q hq h => by have := (O3.at_ q h.symm).1; omega
      have hla := la.size
      have K4 : Blk w' w.heap.size 44 #[.int .u64 (S (j + 1)).a0, .int .u64 (S (j + 1)).a1, .int .u64 (S (j + 1)).a2, .int .u64 (S (j + 1)).a3, .int .u64 (S (j + 1)).a4, .int .u64 (S (j + 1)).a5, .int .u64 (S (j + 1)).a6, .int .u64 (S (j + 1)).a7] := (h2.block _ (K3.later la).lt (noOwn _ (by omega))).trans (K3.later la)
      have B4 : Blk w' g9 29 #[.int .i64 (E (j + 1))] := (h2.block _ (B3.later la).lt (noOwn _ (by omega))).trans (B3.later la)
      have R4 := (R3.later la).kept h2.size (fun a h => by cases h; exact h2.block g (by omega) (noOwn g (by omega)))
      have S4 : LatP (fun q => some q = u5.ownBlock) (V3.alloc (.cells #[.int .u64 (S (j + 1)).a0, .int .u64 (S (j + 1)).a1, .int .u64 (S (j + 1)).a2, .int .u64 (S (j + 1)).a3, .int .u64 (S (j + 1)).a4, .int .u64 (S (j + 1)).a5, .int .u64 (S (j + 1)).a6, .int .u64 (S (j + 1)).a7] 44)) w' := ⟨h2.os, h2.tape, h2.output, h2.size, fun q hq hn => h2.block q hq hn⟩
      have P4 := (P3.trans (la.p _)).overN S4 (fun q h => by have := (O3.at_ q h.symm).1; omega)
      exact ⟨⟨j + 1, by omega, by go_num, by rw [upsW_succ]; exact h1, K4, R4, B4, P4, Nat.le_trans hsz3 (Nat.le_trans hla h2.size)⟩, by simp [intOf]; omega⟩
    · obtain rfl : j = n := by omega
      go_wp2
      go_ret
      exact ⟨_, rfl, O.low (by omega), B, LPj⟩
end Go.Proofs.Ytogkkhaepfablaa

/- Chance: Pick. -/
namespace Go.Proofs.Ytogkkhaepfablaa
open Go.RowKit Go.Shelf
set_option linter.unusedSimpArgs false
set_option linter.unusedVariables false

theorem row_w {ws : List W8} {j : Nat} {x : List Value} (h : (wRows ws)[j]? = some x) : ∃ y, ws[j]? = some y ∧ x = wRow y := by
  unfold wRows at h
  rw [List.getElem?_map] at h
  cases hx : ws[j]? with
  | none => rw [hx] at h; cases h
  | some y => rw [hx] at h; simp only [Option.map_some, Option.some.injEq] at h; exact ⟨y, rfl, h.symm⟩
theorem ups_get (S : Nat → W8) {n j : Nat} (h : j < n) : (wRows (upsW S n))[j]? = some (wRow (S (j + 1))) := by
  unfold wRows upsW
  rw [List.getElem?_map, List.getElem?_map, List.getElem?_range h]
  rfl
/-- What Pick hands back. -/
def PickEnd (w : World) (k : Int) (t : Nat) (en : Int) (e : Ending) (w' : World) : Prop := e = .returned (.tuple #[.int .i64 k, .agg #[.int .u64 (t : Nat)], .int .i64 en]) ∧ Lat w w'
theorem LatP.back {w W : World} {g : Nat} (h : LatP (· = g) w W) {W0 : World} (h0 : Lat W0 w) (hg : W0.heap.size ≤ g) : Lat W0 W := h.narrow h0 hg


set_option maxRecDepth 100000 in
set_option maxHeartbeats 8000000 in
theorem pick_neg (A : Option Addr) (n c s : Nat) (ws : List W8) (hn : n ≤ 400) (sg : Nat → Int) (HG : ∀ i x, ws[i]? = some x → ∀ w, Calls Try.prog 32 #[.agg #[.int .u64 x.a0, .int .u64 x.a1, .int .u64 x.a2, .int .u64 x.a3, .int .u64 x.a4, .int .u64 x.a5, .int .u64 x.a6, .int .u64 x.a7]] w (fun e w' => e = .returned (.int .i64 (sg i)) ∧ Lat w w')) (p : Nat) (hpn : p < n) (HS0 : Hid (∀ i, i < p → 0 ≤ sg i)) (HNEG : sg p < 0) (w : World) (hr : RowM w A 8 n (wRows ws)) :
    Calls Try.prog 22 #[.agg #[.int .u64 s], .slice A n c] w (PickEnd w 0 0 2) := by
  have HGH := Lib.hid HG
  clear HG
  have hn4 : ¬ (400 : Int) < (n : Int) := by omega
  go_enter Try.func22, Try.ntmps22
  go_upto_region 4 with (fail)
  refine name2 (Q := fun W => Code.wp _ _ _ _ W) ?_
  intro W hl hs k2 k5
  have R0 := hr.later hl
  clear hr
  go_loopw [21] (fun i wr => ∃ j : Nat, j ≤ p ∧ i = .int .i64 j ∧ Lat W wr) (fun i _ => n - (intOf i).toNat)
  case atStart => exact ⟨0, by omega, rfl, Lat.refl _⟩
  case round =>
    obtain ⟨j, hj, rfl, hlr⟩ := hrel
    by_cases hlt : j < n
    · obtain ⟨g, o, x, rfl, hgl2, hx, hxl, hrg⟩ := (R0.later hlr).at hlt
      obtain ⟨x, hxw, rfl⟩ := row_w hx
      have hrg : wr.rangeAt g (o + j * 8) [.int .u64 x.a0, .int .u64 x.a1, .int .u64 x.a2, .int .u64 x.a3, .int .u64 x.a4, .int .u64 x.a5, .int .u64 x.a6, .int .u64 x.a7] := hrg
      have HG1 := HGH.out j x hxw
      have hltI : (j : Int) < (n : Int) := by omega
      have b0 : (0 : Int) ≤ (j : Int) := by omega
      clear hx hxl hxw
      by_cases hp : j = p
      · subst hp
        have hsg := HNEG
        have hsd : decide (sg j < 0) = true := decide_eq_true (by omega)
        go_wp2_with (refine wpList_load_mid (by rfl) 44 (.tmp 23) (by rfl) g (o + j * 8) (by rfl) [.int .u64 x.a0, .int .u64 x.a1, .int .u64 x.a2, .int .u64 x.a3, .int .u64 x.a4, .int .u64 x.a5, .int .u64 x.a6, .int .u64 x.a7] _ hrg Try.underlying44 rfl (by kernel_rfl) ?_)
        refine name1 (Q := fun W => Calls _ _ _ W _) ?_
        intro V1 l1 hs1 k8
        refine (HG1 V1).mono ?_
        rintro e V2 ⟨rfl, l2⟩
        have LL := hlr.trans (l1.trans l2)
        clear l1 l2 hs1 k8 hrg HG1
        have k5 := k5.later LL
        have L2 := hl.trans LL
        have c5 : V2.cell? ⟨w.heap.size + 1, 0, none⟩ = some (.int .u64 0) := k5.cell 0
        have f5 := k5.frozen 0
        have h5 := k5.lt
        go_wp2
        refine name_set (Q := fun W => bodyPost _ _ _ _ _ W) k5 ?_
        intro V3 j5 _ _ l5
        have c6 : V3.cell? ⟨w.heap.size + 1, 0, none⟩ = some (.int .u64 0) := j5.cell 0
        refine bodyPost_ret (v := .tuple #[.int .i64 0, .agg #[.int .u64 0], .int .i64 2]) (by simp [results, Try.results22, go_sem, c6]) rfl ?_
        exact ⟨rfl, l5.narrow L2 (by omega)⟩
      · go_wp2_with (refine wpList_load_mid (by rfl) 44 (.tmp 23) (by rfl) g (o + j * 8) (by rfl) [.int .u64 x.a0, .int .u64 x.a1, .int .u64 x.a2, .int .u64 x.a3, .int .u64 x.a4, .int .u64 x.a5, .int .u64 x.a6, .int .u64 x.a7] _ hrg Try.underlying44 rfl (by kernel_rfl) ?_)
        refine name1 (Q := fun W => Calls _ _ _ W _) ?_
        intro V1 l1 hs1 k8
        refine (HG1 V1).mono ?_
        rintro e V2 ⟨rfl, l2⟩
        have LL := hlr.trans (l1.trans l2)
        clear l1 l2 hs1 k8 hrg HG1
        have hsg := HS0.out j (by omega)
        have hsd : decide (sg j < 0) = false := decide_eq_false (by omega)
        clear HS0
        go_wp2
        go_roundw
        case rel => exact ⟨j + 1, by omega, by go_num, LL⟩
        case measure => simp [intOf]; omega
    · exact absurd hpn (by omega)


set_option maxRecDepth 100000 in
set_option maxHeartbeats 8000000 in
theorem pick_none (A : Option Addr) (n c s : Nat) (ws : List W8) (hn : n ≤ 400) (sg : Nat → Int) (HG : ∀ i x, ws[i]? = some x → ∀ w, Calls Try.prog 32 #[.agg #[.int .u64 x.a0, .int .u64 x.a1, .int .u64 x.a2, .int .u64 x.a3, .int .u64 x.a4, .int .u64 x.a5, .int .u64 x.a6, .int .u64 x.a7]] w (fun e w' => e = .returned (.int .i64 (sg i)) ∧ Lat w w')) (w : World) (hn0 : n = 0) (S : Nat → W8) (HS0 : Hid (∀ i, i < n → 0 ≤ sg i)) (HSUM : ∀ g9 W, Lat w W → g9 < W.heap.size → w.heap.size ≤ g9 → Blk W g9 29 #[.int .i64 0] → Calls Try.prog 36 #[.slice A n c, .func (.func 37) #[] #[.pointer (some ⟨g9, 0, none⟩)]] W
      (fun e w' => ∃ v, e = .returned v ∧ OwnM w' W.heap.size 44 8 v (wRows (upsW S n)) ∧ Blk w' g9 29 #[.int .i64 0] ∧ LatP (· = g9) W w')) (hr : RowM w A 8 n (wRows ws)) :
    Calls Try.prog 22 #[.agg #[.int .u64 s], .slice A n c] w (PickEnd w 0 0 7) := by
  have HN0 := Lib.hid hn0
  clear hn0
  have HGH := Lib.hid HG
  clear HG
  have hn4 : ¬ (400 : Int) < (n : Int) := by omega
  go_enter Try.func22, Try.ntmps22
  go_upto_region 4 with (fail)
  refine name2 (Q := fun W => Code.wp _ _ _ _ W) ?_
  intro W hl hs k2 k5
  have R0 := hr.later hl
  clear hr
  go_loopw [21] (fun i wr => ∃ j : Nat, j ≤ n ∧ i = .int .i64 j ∧ Lat W wr) (fun i _ => n - (intOf i).toNat)
  case atStart => exact ⟨0, by omega, rfl, Lat.refl _⟩
  case round =>
    obtain ⟨j, hj, rfl, hlr⟩ := hrel
    by_cases hlt : j < n
    · obtain ⟨g, o, x, rfl, hgl2, hx, hxl, hrg⟩ := (R0.later hlr).at hlt
      obtain ⟨x, hxw, rfl⟩ := row_w hx
      have hrg : wr.rangeAt g (o + j * 8) [.int .u64 x.a0, .int .u64 x.a1, .int .u64 x.a2, .int .u64 x.a3, .int .u64 x.a4, .int .u64 x.a5, .int .u64 x.a6, .int .u64 x.a7] := hrg
      have HG1 := HGH.out j x hxw
      have hltI : (j : Int) < (n : Int) := by omega
      have b0 : (0 : Int) ≤ (j : Int) := by omega
      clear hx hxl hxw
      go_wp2_with (refine wpList_load_mid (by rfl) 44 (.tmp 23) (by rfl) g (o + j * 8) (by rfl) [.int .u64 x.a0, .int .u64 x.a1, .int .u64 x.a2, .int .u64 x.a3, .int .u64 x.a4, .int .u64 x.a5, .int .u64 x.a6, .int .u64 x.a7] _ hrg Try.underlying44 rfl (by kernel_rfl) ?_)
      refine name1 (Q := fun W => Calls _ _ _ W _) ?_
      intro V1 l1 hs1 k8
      refine (HG1 V1).mono ?_
      rintro e V2 ⟨rfl, l2⟩
      have LL := hlr.trans (l1.trans l2)
      clear l1 l2 hs1 k8 hrg HG1
      have hsg := HS0.out j hlt
      have hsd : decide (sg j < 0) = false := decide_eq_false (by omega)
      clear HS0
      go_wp2
      go_roundw
      case rel => exact ⟨j + 1, by omega, by go_num, LL⟩
      case measure => simp [intOf]; omega
    · obtain rfl : j = n := by omega
      clear hj hlt
      have k2 := k2.later hlr
      have k5 := k5.later hlr
      have L1 := hl.trans hlr
      have hs1 : w.heap.size + 2 ≤ wr.heap.size := by have := hlr.size; omega
      clear hlr hs R0
      go_wp2_with fail
      refine name1 (Q := fun W => Calls _ _ _ W _) ?_
      intro V1 l1 hs2 k9
      refine (HSUM wr.heap.size V1 (L1.trans l1) hs2 (by omega) k9).mono ?_
      rintro e V2 ⟨v, rfl, O, k9, l2⟩
      have k2 := (k2.later l1).keepP l2 (by omega)
      have k5 := (k5.later l1).keepP l2 (by omega)
      have L2 : Lat w V2 := l2.narrow (L1.trans l1) (by omega)
      have hs3 : w.heap.size + 2 ≤ V2.heap.size := by have := l2.size; omega
      obtain ⟨g9, hg9⟩ : ∃ z, wr.heap.size = z := ⟨_, rfl⟩
      rw [hg9] at k9 ⊢
      obtain ⟨A', c', rfl, R, _, hA', _⟩ := O.form
      rw [upsW_length] at R ⊢
      clear l1 l2 L1 hs1 hs2 hg9 HSUM O
      have e9 : V2.cell? ⟨g9, 0, none⟩ = some (.int .i64 0) := k9.cell 0
      have hnb : ((j : Int) == 0) = true := by simp [HN0.out]
      have c5 : V2.cell? ⟨w.heap.size + 1, 0, none⟩ = some (.int .u64 0) := k5.cell 0
      have f5 := k5.frozen 0
      have h5 := k5.lt
      go_wp2
      refine name_set (Q := fun W => bodyPost _ _ _ _ _ W) k5 ?_
      intro V3 j5 _ _ l5
      have c6 : V3.cell? ⟨w.heap.size + 1, 0, none⟩ = some (.int .u64 0) := j5.cell 0
      refine bodyPost_ret (v := .tuple #[.int .i64 0, .agg #[.int .u64 0], .int .i64 7]) (by simp [results, Try.results22, go_sem, c6]) rfl ?_
      exact ⟨rfl, l5.narrow L2 (by omega)⟩


set_option maxRecDepth 100000 in
set_option maxHeartbeats 8000000 in
theorem pick_zero (A : Option Addr) (n c s : Nat) (ws : List W8) (hn : n ≤ 400) (sg : Nat → Int) (HG : ∀ i x, ws[i]? = some x → ∀ w, Calls Try.prog 32 #[.agg #[.int .u64 x.a0, .int .u64 x.a1, .int .u64 x.a2, .int .u64 x.a3, .int .u64 x.a4, .int .u64 x.a5, .int .u64 x.a6, .int .u64 x.a7]] w (fun e w' => e = .returned (.int .i64 (sg i)) ∧ Lat w w')) (w : World) (hn0 : 0 < n) (S : Nat → W8) (HS0 : Hid (∀ i, i < n → 0 ≤ sg i)) (HSUM : ∀ g9 W, Lat w W → g9 < W.heap.size → w.heap.size ≤ g9 → Blk W g9 29 #[.int .i64 0] → Calls Try.prog 36 #[.slice A n c, .func (.func 37) #[] #[.pointer (some ⟨g9, 0, none⟩)]] W
      (fun e w' => ∃ v, e = .returned v ∧ OwnM w' W.heap.size 44 8 v (wRows (upsW S n)) ∧ Blk w' g9 29 #[.int .i64 0] ∧ LatP (· = g9) W w')) (HZ : ∀ w, Calls Try.prog 32 #[.agg #[.int .u64 (S n).a0, .int .u64 (S n).a1, .int .u64 (S n).a2, .int .u64 (S n).a3, .int .u64 (S n).a4, .int .u64 (S n).a5, .int .u64 (S n).a6, .int .u64 (S n).a7]] w (fun e w' => e = .returned (.int .i64 0) ∧ Lat w w')) (hr : RowM w A 8 n (wRows ws)) :
    Calls Try.prog 22 #[.agg #[.int .u64 s], .slice A n c] w (PickEnd w 0 0 7) := by
  have HGH := Lib.hid HG
  clear HG
  have hn4 : ¬ (400 : Int) < (n : Int) := by omega
  go_enter Try.func22, Try.ntmps22
  go_upto_region 4 with (fail)
  refine name2 (Q := fun W => Code.wp _ _ _ _ W) ?_
  intro W hl hs k2 k5
  have R0 := hr.later hl
  clear hr
  go_loopw [21] (fun i wr => ∃ j : Nat, j ≤ n ∧ i = .int .i64 j ∧ Lat W wr) (fun i _ => n - (intOf i).toNat)
  case atStart => exact ⟨0, by omega, rfl, Lat.refl _⟩
  case round =>
    obtain ⟨j, hj, rfl, hlr⟩ := hrel
    by_cases hlt : j < n
    · obtain ⟨g, o, x, rfl, hgl2, hx, hxl, hrg⟩ := (R0.later hlr).at hlt
      obtain ⟨x, hxw, rfl⟩ := row_w hx
      have hrg : wr.rangeAt g (o + j * 8) [.int .u64 x.a0, .int .u64 x.a1, .int .u64 x.a2, .int .u64 x.a3, .int .u64 x.a4, .int .u64 x.a5, .int .u64 x.a6, .int .u64 x.a7] := hrg
      have HG1 := HGH.out j x hxw
      have hltI : (j : Int) < (n : Int) := by omega
      have b0 : (0 : Int) ≤ (j : Int) := by omega
      clear hx hxl hxw
      go_wp2_with (refine wpList_load_mid (by rfl) 44 (.tmp 23) (by rfl) g (o + j * 8) (by rfl) [.int .u64 x.a0, .int .u64 x.a1, .int .u64 x.a2, .int .u64 x.a3, .int .u64 x.a4, .int .u64 x.a5, .int .u64 x.a6, .int .u64 x.a7] _ hrg Try.underlying44 rfl (by kernel_rfl) ?_)
      refine name1 (Q := fun W => Calls _ _ _ W _) ?_
      intro V1 l1 hs1 k8
      refine (HG1 V1).mono ?_
      rintro e V2 ⟨rfl, l2⟩
      have LL := hlr.trans (l1.trans l2)
      clear l1 l2 hs1 k8 hrg HG1
      have hsg := HS0.out j hlt
      have hsd : decide (sg j < 0) = false := decide_eq_false (by omega)
      clear HS0
      go_wp2
      go_roundw
      case rel => exact ⟨j + 1, by omega, by go_num, LL⟩
      case measure => simp [intOf]; omega
    · obtain rfl : j = n := by omega
      clear hj hlt
      have k2 := k2.later hlr
      have k5 := k5.later hlr
      have L1 := hl.trans hlr
      have hs1 : w.heap.size + 2 ≤ wr.heap.size := by have := hlr.size; omega
      clear hlr hs R0
      go_wp2_with fail
      refine name1 (Q := fun W => Calls _ _ _ W _) ?_
      intro V1 l1 hs2 k9
      refine (HSUM wr.heap.size V1 (L1.trans l1) hs2 (by omega) k9).mono ?_
      rintro e V2 ⟨v, rfl, O, k9, l2⟩
      have k2 := (k2.later l1).keepP l2 (by omega)
      have k5 := (k5.later l1).keepP l2 (by omega)
      have L2 : Lat w V2 := l2.narrow (L1.trans l1) (by omega)
      have hs3 : w.heap.size + 2 ≤ V2.heap.size := by have := l2.size; omega
      obtain ⟨g9, hg9⟩ : ∃ z, wr.heap.size = z := ⟨_, rfl⟩
      rw [hg9] at k9 ⊢
      obtain ⟨A', c', rfl, R, _, hA', _⟩ := O.form
      rw [upsW_length] at R ⊢
      clear l1 l2 L1 hs1 hs2 hg9 HSUM O
      have e9 : V2.cell? ⟨g9, 0, none⟩ = some (.int .i64 0) := k9.cell 0
      obtain ⟨m, rfl⟩ : ∃ m, j = m + 1 := ⟨j - 1, by omega⟩
      obtain ⟨g, o, xx, rfl, hgl, hx, _, hrg⟩ := R.at (i := m) (by omega)
      rw [ups_get S (by omega)] at hx
      cases hx
      have hrg : V2.rangeAt g (o + m * 8) [.int .u64 (S (m + 1)).a0, .int .u64 (S (m + 1)).a1, .int .u64 (S (m + 1)).a2, .int .u64 (S (m + 1)).a3, .int .u64 (S (m + 1)).a4, .int .u64 (S (m + 1)).a5, .int .u64 (S (m + 1)).a6, .int .u64 (S (m + 1)).a7] := hrg
      have hnb : (((m + 1 : Nat) : Int) == 0) = false := by simp; omega
      have em : wrap64 (((m + 1 : Nat) : Int) - 1) = (m : Int) := by rw [IntWalk.wrap64_in _ (by omega)]; omega
      have em2 : (((m + 1 : Nat) : Int) - 1) = (m : Int) := by omega
      have hmI : (m : Int) < ((m + 1 : Nat) : Int) := by omega
      have hm0 : (0 : Int) ≤ (m : Int) := by omega
      go_wp2_with (refine Go.BigFrame.wpList_want (by rfl) fun _ hK => wp_load_mid 44 (.tmp 45) (by rfl) g (o + m * 8) (by rfl) [.int .u64 (S (m + 1)).a0, .int .u64 (S (m + 1)).a1, .int .u64 (S (m + 1)).a2, .int .u64 (S (m + 1)).a3, .int .u64 (S (m + 1)).a4, .int .u64 (S (m + 1)).a5, .int .u64 (S (m + 1)).a6, .int .u64 (S (m + 1)).a7] _ hrg Try.underlying44 rfl (by kernel_rfl) (hK _ _ ?_))
      refine (HZ V2).mono ?_
      rintro e V4 ⟨rfl, l4⟩
      have k5 := k5.later l4
      have L4 := L2.trans l4
      clear R hrg k2 k9 e9 L2
      have c5 : V4.cell? ⟨w.heap.size + 1, 0, none⟩ = some (.int .u64 0) := k5.cell 0
      have f5 := k5.frozen 0
      have h5 := k5.lt
      go_wp2
      refine name_set (Q := fun W => bodyPost _ _ _ _ _ W) k5 ?_
      intro V3 j5 _ _ l5
      have c6 : V3.cell? ⟨w.heap.size + 1, 0, none⟩ = some (.int .u64 0) := j5.cell 0
      refine bodyPost_ret (v := .tuple #[.int .i64 0, .agg #[.int .u64 0], .int .i64 7]) (by simp [results, Try.results22, go_sem, c6]) rfl ?_
      exact ⟨rfl, l5.narrow L4 (by omega)⟩

theorem spell78 (T : Array Value) (h : T.size = 78) : ∃ f : Nat → Value, (∀ k, f k = T.getD k undef) ∧ T = #[f 0, f 1, f 2, f 3, f 4, f 5, f 6, f 7, f 8, f 9, f 10, f 11, f 12, f 13, f 14, f 15, f 16, f 17, f 18, f 19, f 20, f 21, f 22, f 23, f 24, f 25, f 26, f 27, f 28, f 29, f 30, f 31, f 32, f 33, f 34, f 35, f 36, f 37, f 38, f 39, f 40, f 41, f 42, f 43, f 44, f 45, f 46, f 47, f 48, f 49, f 50, f 51, f 52, f 53, f 54, f 55, f 56, f 57, f 58, f 59, f 60, f 61, f 62, f 63, f 64, f 65, f 66, f 67, f 68, f 69, f 70, f 71, f 72, f 73, f 74, f 75, f 76, f 77] := ⟨fun k => T.getD k undef, fun _ => rfl, (spell 78 T h).trans (by kernel_rfl)⟩
noncomputable def pk15_rows (g2 gg oo m c2 s t : Nat) (sw xw : W8) (en : Int) : List SRow := [
  ⟨Op.load 24 (Operand.tmp 2), some 52, none, [], fun v _ => v = .agg #[.int .u64 (s : Nat)]⟩,
  ⟨Op.move (Operand.tmp 10), some 53, none, [], fun v _ => v = .slice (some ⟨gg, oo, none⟩) (m + 1) c2⟩,
  ⟨Op.move (Operand.tmp 10), some 54, none, [], fun v _ => v = .slice (some ⟨gg, oo, none⟩) (m + 1) c2⟩,
  ⟨Op.call { callee := Callee.builtin Builtin.len, args := #[Operand.tmp 54], argTypes := #[50] }, some 55, none, [2], fun v _ => v = .int .i64 ((m + 1 : Nat) : Int)⟩,
  ⟨Op.binOp BinOp.sub 3 (Operand.tmp 55) (Operand.const (Value.int IntKind.i64 1)) 3, some 56, none, [3], fun v _ => v = .int .i64 (m : Int)⟩,
  ⟨Op.indexAddr 50 (Operand.tmp 53) (Operand.tmp 56), some 57, none, [1, 4], fun v _ => v = .pointer (some ⟨gg, oo + m * 8, none⟩)⟩,
  ⟨Op.load 44 (Operand.tmp 57), some 58, none, [5], fun v _ => v = .agg #[.int .u64 sw.a0, .int .u64 sw.a1, .int .u64 sw.a2, .int .u64 sw.a3, .int .u64 sw.a4, .int .u64 sw.a5, .int .u64 sw.a6, .int .u64 sw.a7]⟩,
  ⟨Op.call { callee := Callee.value (Operand.func 18), args := #[Operand.tmp 52, Operand.tmp 58], argTypes := #[24, 44] }, some 59, none, [0, 6], fun v _ => v = .tuple #[.agg #[.int .u64 xw.a0, .int .u64 xw.a1, .int .u64 xw.a2, .int .u64 xw.a3, .int .u64 xw.a4, .int .u64 xw.a5, .int .u64 xw.a6, .int .u64 xw.a7], .agg #[.int .u64 (t : Nat)], .int .i64 en]⟩,
  ⟨Op.move (Operand.tmp 59), some 51, none, [7], fun v _ => v = .tuple #[.agg #[.int .u64 xw.a0, .int .u64 xw.a1, .int .u64 xw.a2, .int .u64 xw.a3, .int .u64 xw.a4, .int .u64 xw.a5, .int .u64 xw.a6, .int .u64 xw.a7], .agg #[.int .u64 (t : Nat)], .int .i64 en]⟩,
  ⟨Op.extract (Operand.tmp 51) 0, some 60, none, [8], fun v _ => v = .agg #[.int .u64 xw.a0, .int .u64 xw.a1, .int .u64 xw.a2, .int .u64 xw.a3, .int .u64 xw.a4, .int .u64 xw.a5, .int .u64 xw.a6, .int .u64 xw.a7]⟩,
  ⟨Op.extract (Operand.tmp 51) 1, some 61, none, [8], fun v _ => v = .agg #[.int .u64 (t : Nat)]⟩,
  ⟨Op.extract (Operand.tmp 51) 2, some 62, none, [8], fun v _ => v = .int .i64 en⟩,
  ⟨Op.alloc 44, some 11, none, [], fun _ _ => True⟩,
  ⟨Op.alloc 24, some 12, none, [], fun _ _ => True⟩,
  ⟨Op.store 44 (Operand.tmp 11) (Operand.tmp 60), none, none, [12, 9, 7, 0, 1, 2, 3, 4, 5, 6, 7, 8, 9, 12, 13], fun _ _ => True⟩,
  ⟨Op.store 24 (Operand.tmp 12) (Operand.tmp 61), none, none, [13, 10, 14, 0, 1, 2, 3, 4, 5, 6, 7, 8, 9, 10, 12, 13, 14], fun _ _ => True⟩,
  ⟨Op.assign (Operand.tmp 62), some 13, none, [11, 15, 0, 1, 2, 3, 4, 5, 6, 7, 8, 9, 10, 11, 12, 13, 14, 15], fun v _ => v = .int .i64 en⟩]
noncomputable def pk15_base (g2 gg oo m c2 s t : Nat) (sw xw : W8) (en : Int) (v0 v1 v3 v4 v5 v6 v7 v8 v9 v14 v15 v16 v17 v18 v19 v20 v21 v22 v23 v24 v25 v26 v27 v28 v29 v30 v31 v32 v33 v34 v35 v36 v37 v38 v39 v40 v41 v42 v43 v44 v45 v46 v47 v48 v49 v50 v63 v64 v65 v66 v67 v68 v69 v70 v71 v72 v73 v74 v75 v76 v77 : Value) : List (Nat × Value) := [(2, .pointer (some ⟨g2, 0, none⟩)), (10, .slice (some ⟨gg, oo, none⟩) (m + 1) c2), (0, v0), (1, v1), (3, v3), (4, v4), (5, v5), (6, v6), (7, v7), (8, v8), (9, v9), (14, v14), (15, v15), (16, v16), (17, v17), (18, v18), (19, v19), (20, v20), (21, v21), (22, v22), (23, v23), (24, v24), (25, v25), (26, v26), (27, v27), (28, v28), (29, v29), (30, v30), (31, v31), (32, v32), (33, v33), (34, v34), (35, v35), (36, v36), (37, v37), (38, v38), (39, v39), (40, v40), (41, v41), (42, v42), (43, v43), (44, v44), (45, v45), (46, v46), (47, v47), (48, v48), (49, v49), (50, v50), (63, v63), (64, v64), (65, v65), (66, v66), (67, v67), (68, v68), (69, v69), (70, v70), (71, v71), (72, v72), (73, v73), (74, v74), (75, v75), (76, v76), (77, v77)]
def pk15_mem : List MRow := [⟨12, 11, 44, #[.int .u64 0, .int .u64 0, .int .u64 0, .int .u64 0, .int .u64 0, .int .u64 0, .int .u64 0, .int .u64 0], 14, 60, 9⟩, ⟨13, 12, 24, #[.int .u64 0], 15, 61, 10⟩]
theorem pk15_pure (g2 gg oo m c2 s t : Nat) (sw xw : W8) (en : Int) : AllPure (pk15_rows g2 gg oo m c2 s t sw xw en) := ⟨fun _ _ _ h => h, ⟨fun _ _ _ h => h, ⟨fun _ _ _ h => h, ⟨fun _ _ _ h => h, ⟨fun _ _ _ h => h, ⟨fun _ _ _ h => h, ⟨fun _ _ _ h => h, ⟨fun _ _ _ h => h, ⟨fun _ _ _ h => h, ⟨fun _ _ _ h => h, ⟨fun _ _ _ h => h, ⟨fun _ _ _ h => h, ⟨fun _ _ _ h => h, ⟨fun _ _ _ h => h, ⟨fun _ _ _ h => h, ⟨fun _ _ _ h => h, ⟨fun _ _ _ h => h, trivial⟩⟩⟩⟩⟩⟩⟩⟩⟩⟩⟩⟩⟩⟩⟩⟩⟩
set_option maxRecDepth 100000 in
set_option maxHeartbeats 4000000 in
theorem pk15_allm (g2 gg oo m c2 s t : Nat) (sw xw : W8) (en : Int) : AllMem Try.prog (pk15_rows g2 gg oo m c2 s t sw xw en) pk15_mem := by
  refine ⟨⟨fun ev w o ho => ?_, by rfl, fun r v w hr => ?_, by rfl, fun r hr => ?_, by rfl, fun r v w hr h => ?_, by kernel_rfl⟩, ?_⟩
  · obtain ⟨d, op, ty, p, af, g⟩ := o
    simp only at ho
    subst ho
    unfold execOp
    go_simp
  · obtain rfl := Option.some.inj (show some _ = some r from hr); trivial
  · obtain rfl := Option.some.inj (show some _ = some r from hr); exact ⟨by simp, by simp⟩
  · obtain rfl := Option.some.inj (show some _ = some r from hr); exact ⟨_, h, rfl, by simp [Value.oneCell']⟩
  refine ⟨⟨fun ev w o ho => ?_, by rfl, fun r v w hr => ?_, by rfl, fun r hr => ?_, by rfl, fun r v w hr h => ?_, by kernel_rfl⟩, ?_⟩
  · obtain ⟨d, op, ty, p, af, g⟩ := o
    simp only at ho
    subst ho
    unfold execOp
    go_simp
  · obtain rfl := Option.some.inj (show some _ = some r from hr); trivial
  · obtain rfl := Option.some.inj (show some _ = some r from hr); exact ⟨by simp, by simp⟩
  · obtain rfl := Option.some.inj (show some _ = some r from hr); exact ⟨_, h, rfl, by simp [Value.oneCell']⟩
  trivial
set_option maxRecDepth 100000 in
set_option maxHeartbeats 4000000 in
theorem pk15_steps (V : World) (g2 gg oo m c2 s t : Nat) (sw xw : W8) (en : Int) (v0 v1 v3 v4 v5 v6 v7 v8 v9 v14 v15 v16 v17 v18 v19 v20 v21 v22 v23 v24 v25 v26 v27 v28 v29 v30 v31 v32 v33 v34 v35 v36 v37 v38 v39 v40 v41 v42 v43 v44 v45 v46 v47 v48 v49 v50 v63 v64 v65 v66 v67 v68 v69 v70 v71 v72 v73 v74 v75 v76 v77 : Value) (R2 : ∀ w', Lat V w' → w'.rangeAt g2 0 [.int .u64 (s : Nat)]) (J24 : (Try.prog.info? 24).map (·.size) = some 1) (J26 : (Try.prog.info? 44).map (·.size) = some 8) (RU : ∀ w', Lat V w' → w'.rangeAt gg (oo + m * 8) [.int .u64 sw.a0, .int .u64 sw.a1, .int .u64 sw.a2, .int .u64 sw.a3, .int .u64 sw.a4, .int .u64 sw.a5, .int .u64 sw.a6, .int .u64 sw.a7]) (hm0 : (0 : Int) ≤ (m : Int)) (hmI : (m : Int) < ((m + 1 : Nat) : Int))
    (hem : Hid (IntKind.i64.wrap (m : Int) = (m : Int))) (HWD : ∀ w, Calls Try.prog 18 #[.agg #[.int .u64 (s : Nat)], .agg #[.int .u64 sw.a0, .int .u64 sw.a1, .int .u64 sw.a2, .int .u64 sw.a3, .int .u64 sw.a4, .int .u64 sw.a5, .int .u64 sw.a6, .int .u64 sw.a7]] w (fun e w' => e = .returned (.tuple #[.agg #[.int .u64 xw.a0, .int .u64 xw.a1, .int .u64 xw.a2, .int .u64 xw.a3, .int .u64 xw.a4, .int .u64 xw.a5, .int .u64 xw.a6, .int .u64 xw.a7], .agg #[.int .u64 (t : Nat)], .int .i64 en]) ∧ Lat w w')) :
    StepsAt Try.prog (pk15_rows g2 gg oo m c2 s t sw xw en) (pk15_base g2 gg oo m c2 s t sw xw en v0 v1 v3 v4 v5 v6 v7 v8 v9 v14 v15 v16 v17 v18 v19 v20 v21 v22 v23 v24 v25 v26 v27 v28 v29 v30 v31 v32 v33 v34 v35 v36 v37 v38 v39 v40 v41 v42 v43 v44 v45 v46 v47 v48 v49 v50 v63 v64 v65 v66 v67 v68 v69 v70 v71 v72 v73 v74 v75 v76 v77) V (pk15_mem.flatMap fun M => [M.ia, M.is]) 0 (pk15_rows g2 gg oo m c2 s t sw xw en) := by
  refine StepsAt.next (fun _ _ _ h _ => h) (fun j b h => by cases h) (fun a w hl hb hd o ho => by have e1 := hb 2 _ rfl; exact Runs.val (yv_load (S := Lat V) e1 R2 Try.underlying24 rfl J24 o w ho hl) ⟨Lat.refl _, fun _ => rfl⟩) ?_
  refine StepsAt.next (fun _ _ _ h _ => h) (fun j b h => by cases h) (fun a w hl hb hd o ho => by have e1 := hb 10 _ rfl; exact Runs.val (yv_move (S := fun _ => True) e1 o w ho trivial) ⟨Lat.refl _, fun _ => rfl⟩) ?_
  refine StepsAt.next (fun _ _ _ h _ => h) (fun j b h => by cases h) (fun a w hl hb hd o ho => by have e1 := hb 10 _ rfl; exact Runs.val (yv_move (S := fun _ => True) e1 o w ho trivial) ⟨Lat.refl _, fun _ => rfl⟩) ?_
  refine StepsAt.next (fun _ _ _ h _ => h) (fun j b h => by cases h) (fun a w hl hb hd o ho => by obtain ⟨v1, e1, q1⟩ := hd 2 _ _ (by simp) rfl rfl; subst q1; obtain ⟨d, op, ty, p, af, g⟩ := o; simp only at ho; subst ho; have ec : ∀ v, a.eval (.const v) = v := fun _ => rfl; exact Runs.val (by unfold execOp; generalize a.eval = ev at e1 ec ⊢; simp only [e1, ec]; go_simp) ⟨Lat.refl _, fun _ => rfl⟩) ?_
  refine StepsAt.next (fun _ _ _ h _ => h) (fun j b h => by cases h) (fun a w hl hb hd o ho => by obtain ⟨v1, e1, q1⟩ := hd 3 _ _ (by simp) rfl rfl; subst q1; obtain ⟨d, op, ty, p, af, g⟩ := o; simp only at ho; subst ho; have ec : ∀ v, a.eval (.const v) = v := fun _ => rfl; exact Runs.val (by unfold execOp; generalize a.eval = ev at e1 ec ⊢; simp only [e1, ec]; go_simp; exact hem.out) ⟨Lat.refl _, fun _ => rfl⟩) ?_
  refine StepsAt.next (fun _ _ _ h _ => h) (fun j b h => by cases h) (fun a w hl hb hd o ho => by obtain ⟨v1, e1, q1⟩ := hd 1 _ _ (by simp) rfl rfl; subst q1; obtain ⟨v2, e2, q2⟩ := hd 4 _ _ (by simp) rfl rfl; subst q2; obtain ⟨d, op, ty, p, af, g⟩ := o; simp only at ho; subst ho; have ec : ∀ v, a.eval (.const v) = v := fun _ => rfl; exact Runs.val (by unfold execOp; generalize a.eval = ev at e1 e2 ec ⊢; simp only [e1, e2, ec]; go_simp; intro hx; exact absurd hx (by omega)) ⟨Lat.refl _, fun _ => rfl⟩) ?_
  refine StepsAt.next (fun _ _ _ h _ => h) (fun j b h => by cases h) (fun a w hl hb hd o ho => by obtain ⟨v1, e1, q1⟩ := hd 5 _ _ (by simp) rfl rfl; subst q1; exact Runs.val (yv_loadO (S := Lat V) e1 RU Try.underlying44 rfl J26 o w ho hl) ⟨Lat.refl _, fun _ => rfl⟩) ?_
  refine StepsAt.next (fun _ _ _ h _ => h) (fun j b h => by cases h) (fun a w hl hb hd o ho => by obtain ⟨v1, e1, q1⟩ := hd 0 _ _ (by simp) rfl rfl; subst q1; obtain ⟨v2, e2, q2⟩ := hd 6 _ _ (by simp) rfl rfl; subst q2; exact Runs.call (yv_call (f := 18) (fun _ => by go_simp) o ho (by simp only [List.map_toArray, List.map_cons, List.map_nil, eval_const, e1, e2])) ((HWD w).mono fun e w' h => ⟨_, h.1, h.2, fun _ => rfl⟩)) ?_
  refine StepsAt.next (fun _ _ _ h _ => h) (fun j b h => by cases h) (fun a w hl hb hd o ho => by obtain ⟨v1, e1, q1⟩ := hd 7 _ _ (by simp) rfl rfl; subst q1; exact Runs.val (yv_move (S := fun _ => True) e1 o w ho trivial) ⟨Lat.refl _, fun _ => rfl⟩) ?_
  refine StepsAt.next (fun _ _ _ h _ => h) (fun j b h => by cases h) (fun a w hl hb hd o ho => by obtain ⟨v1, e1, q1⟩ := hd 8 _ _ (by simp) rfl rfl; subst q1; obtain ⟨d, op, ty, p, af, g⟩ := o; simp only at ho; subst ho; have ec : ∀ v, a.eval (.const v) = v := fun _ => rfl; exact Runs.val (by unfold execOp; generalize a.eval = ev at e1 ec ⊢; simp only [e1, ec]; go_simp) ⟨Lat.refl _, fun _ => rfl⟩) ?_
  refine StepsAt.next (fun _ _ _ h _ => h) (fun j b h => by cases h) (fun a w hl hb hd o ho => by obtain ⟨v1, e1, q1⟩ := hd 8 _ _ (by simp) rfl rfl; subst q1; obtain ⟨d, op, ty, p, af, g⟩ := o; simp only at ho; subst ho; have ec : ∀ v, a.eval (.const v) = v := fun _ => rfl; exact Runs.val (by unfold execOp; generalize a.eval = ev at e1 ec ⊢; simp only [e1, ec]; go_simp) ⟨Lat.refl _, fun _ => rfl⟩) ?_
  refine StepsAt.next (fun _ _ _ h _ => h) (fun j b h => by cases h) (fun a w hl hb hd o ho => by obtain ⟨v1, e1, q1⟩ := hd 8 _ _ (by simp) rfl rfl; subst q1; obtain ⟨d, op, ty, p, af, g⟩ := o; simp only at ho; subst ho; have ec : ∀ v, a.eval (.const v) = v := fun _ => rfl; exact Runs.val (by unfold execOp; generalize a.eval = ev at e1 ec ⊢; simp only [e1, ec]; go_simp) ⟨Lat.refl _, fun _ => rfl⟩) ?_
  refine StepsAt.skip (by simp [pk15_mem]) ?_
  refine StepsAt.skip (by simp [pk15_mem]) ?_
  refine StepsAt.skip (by simp [pk15_mem]) ?_
  refine StepsAt.skip (by simp [pk15_mem]) ?_
  refine StepsAt.next (fun _ _ _ h _ => h) (fun j b h => by cases h) (fun a w hl hb hd o ho => by obtain ⟨v1, e1, q1⟩ := hd 11 _ _ (by simp) rfl rfl; subst q1; exact Runs.val (yv_assignS (S := fun _ => True) e1 o w ho trivial) ⟨Lat.refl _, fun _ => rfl⟩) ?_
  exact StepsAt.none

set_option maxRecDepth 100000 in
set_option maxHeartbeats 8000000 in
theorem pick_ok (A : Option Addr) (n c s : Nat) (ws : List W8) (hn : n ≤ 400) (sg : Nat → Int) (HG : ∀ i x, ws[i]? = some x → ∀ w, Calls Try.prog 32 #[.agg #[.int .u64 x.a0, .int .u64 x.a1, .int .u64 x.a2, .int .u64 x.a3, .int .u64 x.a4, .int .u64 x.a5, .int .u64 x.a6, .int .u64 x.a7]] w (fun e w' => e = .returned (.int .i64 (sg i)) ∧ Lat w w')) (w : World) (hn0 : 0 < n) (S : Nat → W8) (HS0 : Hid (∀ i, i < n → 0 ≤ sg i)) (HSUM : ∀ g9 W, Lat w W → g9 < W.heap.size → w.heap.size ≤ g9 → Blk W g9 29 #[.int .i64 0] → Calls Try.prog 36 #[.slice A n c, .func (.func 37) #[] #[.pointer (some ⟨g9, 0, none⟩)]] W
      (fun e w' => ∃ v, e = .returned v ∧ OwnM w' W.heap.size 44 8 v (wRows (upsW S n)) ∧ Blk w' g9 29 #[.int .i64 0] ∧ LatP (· = g9) W w')) (q : Int) (hq : (q == 0) = false) (HZ : ∀ w, Calls Try.prog 32 #[.agg #[.int .u64 (S n).a0, .int .u64 (S n).a1, .int .u64 (S n).a2, .int .u64 (S n).a3, .int .u64 (S n).a4, .int .u64 (S n).a5, .int .u64 (S n).a6, .int .u64 (S n).a7]] w (fun e w' => e = .returned (.int .i64 q) ∧ Lat w w'))
    (xw : W8) (t : Nat) (HWD : ∀ W, Calls Try.prog 18 #[.agg #[.int .u64 s], .agg #[.int .u64 (S n).a0, .int .u64 (S n).a1, .int .u64 (S n).a2, .int .u64 (S n).a3, .int .u64 (S n).a4, .int .u64 (S n).a5, .int .u64 (S n).a6, .int .u64 (S n).a7]] W (WidEnd W xw t 0)) (K : Nat) (hK : K < n) (cc : Nat → Int)
    (HC : ∀ k, k ≤ K → ∀ w, Calls Try.prog 19 #[.agg #[.int .u64 (S (k + 1)).a0, .int .u64 (S (k + 1)).a1, .int .u64 (S (k + 1)).a2, .int .u64 (S (k + 1)).a3, .int .u64 (S (k + 1)).a4, .int .u64 (S (k + 1)).a5, .int .u64 (S (k + 1)).a6, .int .u64 (S (k + 1)).a7], .agg #[.int .u64 xw.a0, .int .u64 xw.a1, .int .u64 xw.a2, .int .u64 xw.a3, .int .u64 xw.a4, .int .u64 xw.a5, .int .u64 xw.a6, .int .u64 xw.a7]] w (fun e w' => e = .returned (.int .i64 (cc k)) ∧ Lat w w')) (hle : ∀ k, k < K → cc k ≤ 0) (hgt : 0 < cc K) (hr : RowM w A 8 n (wRows ws)) :
    Calls Try.prog 22 #[.agg #[.int .u64 s], .slice A n c] w (PickEnd w K t 0) := by
  have HCH := Lib.hid HC
  have HLE := Lib.hid hle
  have HGT := Lib.hid hgt
  clear HC hle hgt
  have HWDH := Lib.hid HWD
  clear HWD
  have HGH := Lib.hid HG
  clear HG
  have hn4 : ¬ (400 : Int) < (n : Int) := by omega
  go_enter Try.func22, Try.ntmps22
  go_upto_region 4 with (fail)
  refine name2 (Q := fun W => Code.wp _ _ _ _ W) ?_
  intro W hl hs k2 k5
  have R0 := hr.later hl
  clear hr
  go_loopw [21] (fun i wr => ∃ j : Nat, j ≤ n ∧ i = .int .i64 j ∧ Lat W wr) (fun i _ => n - (intOf i).toNat)
  case atStart => exact ⟨0, by omega, rfl, Lat.refl _⟩
  case round =>
    obtain ⟨j, hj, rfl, hlr⟩ := hrel
    by_cases hlt : j < n
    · obtain ⟨g, o, x, rfl, hgl2, hx, hxl, hrg⟩ := (R0.later hlr).at hlt
      obtain ⟨x, hxw, rfl⟩ := row_w hx
      have hrg : wr.rangeAt g (o + j * 8) [.int .u64 x.a0, .int .u64 x.a1, .int .u64 x.a2, .int .u64 x.a3, .int .u64 x.a4, .int .u64 x.a5, .int .u64 x.a6, .int .u64 x.a7] := hrg
      have HG1 := HGH.out j x hxw
      have hltI : (j : Int) < (n : Int) := by omega
      have b0 : (0 : Int) ≤ (j : Int) := by omega
      clear hx hxl hxw
      go_wp2_with (refine wpList_load_mid (by rfl) 44 (.tmp 23) (by rfl) g (o + j * 8) (by rfl) [.int .u64 x.a0, .int .u64 x.a1, .int .u64 x.a2, .int .u64 x.a3, .int .u64 x.a4, .int .u64 x.a5, .int .u64 x.a6, .int .u64 x.a7] _ hrg Try.underlying44 rfl (by kernel_rfl) ?_)
      refine name1 (Q := fun W => Calls _ _ _ W _) ?_
      intro V1 l1 hs1 k8
      refine (HG1 V1).mono ?_
      rintro e V2 ⟨rfl, l2⟩
      have LL := hlr.trans (l1.trans l2)
      clear l1 l2 hs1 k8 hrg HG1
      have hsg := HS0.out j hlt
      have hsd : decide (sg j < 0) = false := decide_eq_false (by omega)
      clear HS0
      go_wp2
      go_roundw
      case rel => exact ⟨j + 1, by omega, by go_num, LL⟩
      case measure => simp [intOf]; omega
    · obtain rfl : j = n := by omega
      clear hj hlt
      have k2 := k2.later hlr
      have k5 := k5.later hlr
      have L1 := hl.trans hlr
      have hs1 : w.heap.size + 2 ≤ wr.heap.size := by have := hlr.size; omega
      clear hlr hs R0
      go_wp2_with fail
      refine name1 (Q := fun W => Calls _ _ _ W _) ?_
      intro V1 l1 hs2 k9
      refine (HSUM wr.heap.size V1 (L1.trans l1) hs2 (by omega) k9).mono ?_
      rintro e V2 ⟨v, rfl, O, k9, l2⟩
      have k2 := (k2.later l1).keepP l2 (by omega)
      have k5 := (k5.later l1).keepP l2 (by omega)
      have L2 : Lat w V2 := l2.narrow (L1.trans l1) (by omega)
      have hs3 : w.heap.size + 2 ≤ V2.heap.size := by have := l2.size; omega
      obtain ⟨g9, hg9⟩ : ∃ z, wr.heap.size = z := ⟨_, rfl⟩
      rw [hg9] at k9 ⊢
      obtain ⟨A', c2, rfl, R, _, hA', _⟩ := O.form
      rw [upsW_length] at R ⊢
      clear l1 l2 L1 hs1 hs2 hg9 HSUM O
      have e9 : V2.cell? ⟨g9, 0, none⟩ = some (.int .i64 0) := k9.cell 0
      obtain ⟨m, rfl⟩ : ∃ m, j = m + 1 := ⟨j - 1, by omega⟩
      obtain ⟨g, o, xx, rfl, hgl, hx, _, hrg⟩ := R.at (i := m) (by omega)
      rw [ups_get S (by omega)] at hx
      cases hx
      have hrg : V2.rangeAt g (o + m * 8) [.int .u64 (S (m + 1)).a0, .int .u64 (S (m + 1)).a1, .int .u64 (S (m + 1)).a2, .int .u64 (S (m + 1)).a3, .int .u64 (S (m + 1)).a4, .int .u64 (S (m + 1)).a5, .int .u64 (S (m + 1)).a6, .int .u64 (S (m + 1)).a7] := hrg
      have hnb : (((m + 1 : Nat) : Int) == 0) = false := by simp; omega
      have em : wrap64 (((m + 1 : Nat) : Int) - 1) = (m : Int) := by rw [IntWalk.wrap64_in _ (by omega)]; omega
      have em2 : (((m + 1 : Nat) : Int) - 1) = (m : Int) := by omega
      have hmI : (m : Int) < ((m + 1 : Nat) : Int) := by omega
      have hm0 : (0 : Int) ≤ (m : Int) := by omega
      go_wp2_with (refine Go.BigFrame.wpList_want (by rfl) fun _ hK => wp_load_mid 44 (.tmp 45) (by rfl) g (o + m * 8) (by rfl) [.int .u64 (S (m + 1)).a0, .int .u64 (S (m + 1)).a1, .int .u64 (S (m + 1)).a2, .int .u64 (S (m + 1)).a3, .int .u64 (S (m + 1)).a4, .int .u64 (S (m + 1)).a5, .int .u64 (S (m + 1)).a6, .int .u64 (S (m + 1)).a7] _ hrg Try.underlying44 rfl (by kernel_rfl) (hK _ _ ?_))
      refine (HZ V2).mono ?_
      rintro e V4 ⟨rfl, l4⟩
      have k2 := k2.later l4
      have k5 := k5.later l4
      have R := R.later l4
      have hrg := rangeAt_later hrg hgl l4
      have hgl4 : g < V4.heap.size := Nat.lt_of_lt_of_le hgl l4.size
      have hs4 : w.heap.size + 2 ≤ V4.heap.size := Nat.le_trans hs3 l4.size
      have L4 := L2.trans l4
      clear l4 k9 e9 L2 hs3 hgl HZ
      have HWD2 := HWDH.out
      have R2 : ∀ w', Lat V4 w' → w'.rangeAt w.heap.size 0 [.int .u64 (s : Nat)] := fun w' hl => (k2.later hl).rangeAll
      have RU : ∀ w', Lat V4 w' → w'.rangeAt g (o + m * 8) [.int .u64 (S (m + 1)).a0, .int .u64 (S (m + 1)).a1, .int .u64 (S (m + 1)).a2, .int .u64 (S (m + 1)).a3, .int .u64 (S (m + 1)).a4, .int .u64 (S (m + 1)).a5, .int .u64 (S (m + 1)).a6, .int .u64 (S (m + 1)).a7] := fun w' h => rangeAt_later hrg hgl4 h
      have J24 : (Try.prog.info? 24).map (·.size) = some 1 := by kernel_rfl
      have J26 : (Try.prog.info? 44).map (·.size) = some 8 := by kernel_rfl
      clear HWDH
      go_upto_region 15 with (fail)
      rename_i KN hKN
      refine wp_region_mem (pk15_rows w.heap.size g o m c2 s t (S (m + 1)) xw 0) (pk15_base w.heap.size g o m c2 s t (S (m + 1)) xw 0 _ _ _ _ _ _ _ _ _ _ _ _ _ _ _ _ _ _ _ _ _ _ _ _ _ _ _ _ _ _ _ _ _ _ _ _ _ _ _ _ _ _ _ _ _ _ _ _ _ _ _ _ _ _ _ _ _ _ _ _ _) pk15_mem 78 17 [[], [], [], [2], [3], [1, 4], [5], [0, 6], [7], [8], [8], [8], [], [], [12, 9, 7, 0, 1, 2, 3, 4, 5, 6, 7, 8, 9, 12, 13], [13, 10, 14, 0, 1, 2, 3, 4, 5, 6, 7, 8, 9, 10, 12, 13, 14], [11, 15, 0, 1, 2, 3, 4, 5, 6, 7, 8, 9, 10, 11, 12, 13, 14, 15]] (by kernel_rfl) (by kernel_rfl) (by kernel_rfl) (by kernel_rfl) (by kernel_rfl) (by kernel_rfl) (by kernel_rfl) (by rfl) rfl (base_of (base_cons rfl (base_cons rfl (base_cons rfl (base_cons rfl (base_cons rfl (base_cons rfl (base_cons rfl (base_cons rfl (base_cons rfl (base_cons rfl (base_cons rfl (base_cons rfl (base_cons rfl (base_cons rfl (base_cons rfl (base_cons rfl (base_cons rfl (base_cons rfl (base_cons rfl (base_cons rfl (base_cons rfl (base_cons rfl (base_cons rfl (base_cons rfl (base_cons rfl (base_cons rfl (base_cons rfl (base_cons rfl (base_cons rfl (base_cons rfl (base_cons rfl (base_cons rfl (base_cons rfl (base_cons rfl (base_cons rfl (base_cons rfl (base_cons rfl (base_cons rfl (base_cons rfl (base_cons rfl (base_cons rfl (base_cons rfl (base_cons rfl (base_cons rfl (base_cons rfl (base_cons rfl (base_cons rfl (base_cons rfl (base_cons rfl (base_cons rfl (base_cons rfl (base_cons rfl (base_cons rfl (base_cons rfl (base_cons rfl (base_cons rfl (base_cons rfl (base_cons rfl (base_cons rfl (base_cons rfl (base_cons rfl (base_cons rfl (base_cons rfl (base_nil _))))))))))))))))))))))))))))))))))))))))))))))))))))))))))))))))) (pk15_pure w.heap.size g o m c2 s t (S (m + 1)) xw 0) (pk15_allm w.heap.size g o m c2 s t (S (m + 1)) xw 0) (pk15_steps V4 w.heap.size g o m c2 s t (S (m + 1)) xw 0 _ _ _ _ _ _ _ _ _ _ _ _ _ _ _ _ _ _ _ _ _ _ _ _ _ _ _ _ _ _ _ _ _ _ _ _ _ _ _ _ _ _ _ _ _ _ _ _ _ _ _ _ _ _ _ _ _ _ _ _ _ R2 J24 J26 RU hm0 hmI (Lib.hid (by rw [IntWalk.i64_left]; exact IntWalk.wrap64_in _ (by omega))) HWD2) ?_
      · intro a9 W9 hsz9 hdf9 hL9 hbs hsl hmm
        obtain ⟨g11, c11, s11, n11, b11, p11, far11⟩ := hmm 0 _ rfl
        obtain ⟨g12, c12, s12, n12, b12, p12, far12⟩ := hmm 1 _ rfl
        obtain ⟨v9, h9, q9⟩ := hsl 9 _ _ rfl rfl
        obtain rfl : v9 = .agg #[.int .u64 xw.a0, .int .u64 xw.a1, .int .u64 xw.a2, .int .u64 xw.a3, .int .u64 xw.a4, .int .u64 xw.a5, .int .u64 xw.a6, .int .u64 xw.a7] := q9
        obtain rfl := slot_agg p11 h9
        clear h9
        obtain ⟨v9, h9, q9⟩ := hsl 10 _ _ rfl rfl
        obtain rfl : v9 = .agg #[.int .u64 (t : Nat)] := q9
        obtain rfl := slot_agg p12 h9
        clear h9
        have e11_12 : g11 ≠ g12 := far11 1 _ _ (by decide) rfl s12
        obtain ⟨v9, h9, q9⟩ := hsl 16 _ _ rfl rfl
        obtain rfl : v9 = .int .i64 0 := q9
        have w13 := slot_getD h9
        clear h9
        have w11 := slot_getD s11
        have w12 := slot_getD s12
        refine hKN _ _ ?_
        obtain ⟨T9, df9⟩ := a9
        obtain rfl : df9 = [] := hdf9
        obtain ⟨f, hf, rfl⟩ := spell78 T9 hsz9
        have X9 := fun k v h => (hf k).trans (slot_getD (hbs k v h))
        have x13 : f 13 = .int .i64 0 := (hf 13).trans w13
        have x11 : f 11 = .pointer (some ⟨g11, 0, none⟩) := (hf 11).trans w11
        have x12 : f 12 = .pointer (some ⟨g12, 0, none⟩) := (hf 12).trans w12
        clear hbs hsl hmm hf hsz9 hKN s11 p11 far11 s12 p12 far12 w13 w11 w12
        simp only [X9 2 _ rfl, X9 10 _ rfl, X9 0 _ rfl, X9 1 _ rfl, X9 3 _ rfl, X9 4 _ rfl, X9 5 _ rfl, X9 6 _ rfl, X9 7 _ rfl, X9 8 _ rfl, X9 9 _ rfl, X9 14 _ rfl, X9 15 _ rfl, X9 16 _ rfl, X9 17 _ rfl, X9 18 _ rfl, X9 19 _ rfl, X9 20 _ rfl, X9 21 _ rfl, X9 22 _ rfl, X9 23 _ rfl, X9 24 _ rfl, X9 25 _ rfl, X9 26 _ rfl, X9 27 _ rfl, X9 28 _ rfl, X9 29 _ rfl, X9 30 _ rfl, X9 31 _ rfl, X9 32 _ rfl, X9 33 _ rfl, X9 34 _ rfl, X9 35 _ rfl, X9 36 _ rfl, X9 37 _ rfl, X9 38 _ rfl, X9 39 _ rfl, X9 40 _ rfl, X9 41 _ rfl, X9 42 _ rfl, X9 43 _ rfl, X9 44 _ rfl, X9 45 _ rfl, X9 46 _ rfl, X9 47 _ rfl, X9 48 _ rfl, X9 49 _ rfl, X9 50 _ rfl, X9 63 _ rfl, X9 64 _ rfl, X9 65 _ rfl, X9 66 _ rfl, X9 67 _ rfl, X9 68 _ rfl, X9 69 _ rfl, X9 70 _ rfl, X9 71 _ rfl, X9 72 _ rfl, X9 73 _ rfl, X9 74 _ rfl, X9 75 _ rfl, X9 76 _ rfl, X9 77 _ rfl, x13, x11, x12]
        clear x13 x11 x12 X9
        replace k5 := k5.later hL9
        replace R := R.later hL9
        have L9 := L4.trans hL9
        have h12 : w.heap.size + 2 ≤ g12 := Nat.le_trans hs4 n12
        obtain ⟨V9, rfl⟩ : ∃ z, z = W9 := ⟨_, rfl⟩
        have k11 := b11
        have k12 := b12
        clear hL9 b11 b12 n11 n12 e11_12 R2 RU J24 J26 HWD2 hrg hs4 hgl4
        go_upto_region 19 with (fail)
        go_loopw [14] (fun kk wr => ∃ k : Nat, k ≤ K ∧ kk = .int .i64 k ∧ Lat V9 wr) (fun kk _ => K - (intOf kk).toNat)
        case atStart => exact ⟨0, by omega, rfl, Lat.refl _⟩
        case round =>
          obtain ⟨k, hk, rfl, hlr⟩ := hrel
          have RK : ∀ w', Lat wr w' → w'.rangeAt g (o + k * 8) [.int .u64 (S (k + 1)).a0, .int .u64 (S (k + 1)).a1, .int .u64 (S (k + 1)).a2, .int .u64 (S (k + 1)).a3, .int .u64 (S (k + 1)).a4, .int .u64 (S (k + 1)).a5, .int .u64 (S (k + 1)).a6, .int .u64 (S (k + 1)).a7] := fun w' h => by
            obtain ⟨g', o', x', e', _, hx', _, hr'⟩ := (R.later (hlr.trans h)).at (i := k) (by omega)
            cases e'
            rw [ups_get S (by omega)] at hx'
            cases hx'
            exact hr'
          have RX : ∀ w', Lat wr w' → w'.rangeAt g11 0 [.int .u64 xw.a0, .int .u64 xw.a1, .int .u64 xw.a2, .int .u64 xw.a3, .int .u64 xw.a4, .int .u64 xw.a5, .int .u64 xw.a6, .int .u64 xw.a7] := fun w' h => Blk.rangeAll (l := [.int .u64 xw.a0, .int .u64 xw.a1, .int .u64 xw.a2, .int .u64 xw.a3, .int .u64 xw.a4, .int .u64 xw.a5, .int .u64 xw.a6, .int .u64 xw.a7]) (k11.later (hlr.trans h))
          have HC1 := HCH.out k (by omega)
          have b0 : (0 : Int) ≤ (k : Int) := by omega
          have b1 : (k : Int) < (m : Int) + 1 := by omega
          have b2 : ¬ (m : Int) + 1 ≤ (k : Int) := by omega
          go_upto_region 19 with (fail)
          by_cases hlt : k < K
          · have hc := HLE.out k hlt
            have hcd : decide (cc k ≤ 0) = true := decide_eq_true hc
            have L0 := Lat.drew wr
            refine wp_region_held_drew (S := fun w' => Lat wr w') (by kernel_rfl) L0 (fun hHeld => ?_)
            generalize wr.drew = U0 at L0 hHeld ⊢
            refine wpAnyH_take (i := 0) (v := .slice (some ⟨g, o, none⟩) (m + 1) c2) rfl (by kernel_rfl) (by kernel_rfl) (by kernel_rfl) (fun _ _ _ h => h) (Or.inl ⟨by rfl, by intro w' hS; go_simp⟩) hHeld ?_
            simp only [Act.put, List.getElem_toArray, List.getElem_cons_succ, List.getElem_cons_zero, List.setIfInBounds_toArray, List.set_cons_zero, List.set_cons_succ]
            refine wpAnyH_take (i := 1) (v := .int .i64 (k : Int)) rfl (by kernel_rfl) (by kernel_rfl) (by kernel_rfl) (fun _ _ _ h => h) (Or.inl ⟨by rfl, by intro w' hS; go_simp⟩) hHeld ?_
            simp only [Act.put, List.getElem_toArray, List.getElem_cons_succ, List.getElem_cons_zero, List.setIfInBounds_toArray, List.set_cons_zero, List.set_cons_succ]
            refine wpAnyH_take (i := 2) (v := .pointer (some ⟨g, o + k * 8, none⟩)) rfl (by kernel_rfl) (by kernel_rfl) (by kernel_rfl) (fun _ _ _ h => h) (Or.inl ⟨by rfl, by intro w' hS; go_simp⟩) hHeld ?_
            simp only [Act.put, List.getElem_toArray, List.getElem_cons_succ, List.getElem_cons_zero, List.setIfInBounds_toArray, List.set_cons_zero, List.set_cons_succ]
            refine' wpAnyH_take (i := 3) rfl (by kernel_rfl) (by kernel_rfl) (by kernel_rfl) (fun _ _ _ h => h) (yieldsIf_load_mid (by rfl) 44 (.tmp 69) rfl g (o + k * 8) rfl [.int .u64 (S (k + 1)).a0, .int .u64 (S (k + 1)).a1, .int .u64 (S (k + 1)).a2, .int .u64 (S (k + 1)).a3, .int .u64 (S (k + 1)).a4, .int .u64 (S (k + 1)).a5, .int .u64 (S (k + 1)).a6, .int .u64 (S (k + 1)).a7] _ RK Try.underlying44 rfl wideInfo8) hHeld ?_
            simp only [Act.put, List.getElem_toArray, List.getElem_cons_succ, List.getElem_cons_zero, List.setIfInBounds_toArray, List.set_cons_zero, List.set_cons_succ]
            refine' wpAnyH_take (i := 4) rfl (by kernel_rfl) (by kernel_rfl) (by kernel_rfl) (fun _ _ _ h => h) (yieldsIf_load_mid (by rfl) 44 (.tmp 11) rfl g11 0 rfl [.int .u64 xw.a0, .int .u64 xw.a1, .int .u64 xw.a2, .int .u64 xw.a3, .int .u64 xw.a4, .int .u64 xw.a5, .int .u64 xw.a6, .int .u64 xw.a7] _ RX Try.underlying44 rfl wideInfo8) hHeld ?_
            simp only [Act.put, List.getElem_toArray, List.getElem_cons_succ, List.getElem_cons_zero, List.setIfInBounds_toArray, List.set_cons_zero, List.set_cons_succ]
            refine wpAnyH_ready (rs := [5]) (by kernel_rfl) (by simp) (AllReadyH.cons rfl (fun K hK => ?_) AllReadyH.nil)
            go_simp
            refine (HC1 _).mono ?_
            rintro e U1 ⟨rfl, lg⟩
            have LU := L0.trans lg
            clear lg
            refine hK.out _ _ LU (fun hHeld1 => ?_)
            clear hK K
            try simp only [Act.put, List.getElem_toArray, List.getElem_cons_succ, List.getElem_cons_zero, List.setIfInBounds_toArray, List.set_cons_zero, List.set_cons_succ]
            refine wpAnyH_take (i := 6) (v := .bool true) rfl (by kernel_rfl) (by kernel_rfl) (by kernel_rfl) (fun _ _ _ h => h) (Or.inl ⟨by rfl, by intro w' hS; go_simp⟩) hHeld1 ?_
            simp only [Act.put, List.getElem_toArray, List.getElem_cons_succ, List.getElem_cons_zero, List.setIfInBounds_toArray, List.set_cons_zero, List.set_cons_succ]
            refine wpAnyH_done (by kernel_rfl) ?_ _
            go_wp2
            go_roundw
            case rel => exact ⟨k + 1, by omega, by go_num, hlr.trans LU⟩
            case measure => simp [intOf]; omega
          · obtain rfl : k = K := by omega
            have hcd : decide (cc k ≤ 0) = false := decide_eq_false (by have := HGT.out; omega)
            have L0 := Lat.drew wr
            refine wp_region_held_drew (S := fun w' => Lat wr w') (by kernel_rfl) L0 (fun hHeld => ?_)
            generalize wr.drew = U0 at L0 hHeld ⊢
            refine wpAnyH_take (i := 0) (v := .slice (some ⟨g, o, none⟩) (m + 1) c2) rfl (by kernel_rfl) (by kernel_rfl) (by kernel_rfl) (fun _ _ _ h => h) (Or.inl ⟨by rfl, by intro w' hS; go_simp⟩) hHeld ?_
            simp only [Act.put, List.getElem_toArray, List.getElem_cons_succ, List.getElem_cons_zero, List.setIfInBounds_toArray, List.set_cons_zero, List.set_cons_succ]
            refine wpAnyH_take (i := 1) (v := .int .i64 (k : Int)) rfl (by kernel_rfl) (by kernel_rfl) (by kernel_rfl) (fun _ _ _ h => h) (Or.inl ⟨by rfl, by intro w' hS; go_simp⟩) hHeld ?_
            simp only [Act.put, List.getElem_toArray, List.getElem_cons_succ, List.getElem_cons_zero, List.setIfInBounds_toArray, List.set_cons_zero, List.set_cons_succ]
            refine wpAnyH_take (i := 2) (v := .pointer (some ⟨g, o + k * 8, none⟩)) rfl (by kernel_rfl) (by kernel_rfl) (by kernel_rfl) (fun _ _ _ h => h) (Or.inl ⟨by rfl, by intro w' hS; go_simp⟩) hHeld ?_
            simp only [Act.put, List.getElem_toArray, List.getElem_cons_succ, List.getElem_cons_zero, List.setIfInBounds_toArray, List.set_cons_zero, List.set_cons_succ]
            refine' wpAnyH_take (i := 3) rfl (by kernel_rfl) (by kernel_rfl) (by kernel_rfl) (fun _ _ _ h => h) (yieldsIf_load_mid (by rfl) 44 (.tmp 69) rfl g (o + k * 8) rfl [.int .u64 (S (k + 1)).a0, .int .u64 (S (k + 1)).a1, .int .u64 (S (k + 1)).a2, .int .u64 (S (k + 1)).a3, .int .u64 (S (k + 1)).a4, .int .u64 (S (k + 1)).a5, .int .u64 (S (k + 1)).a6, .int .u64 (S (k + 1)).a7] _ RK Try.underlying44 rfl wideInfo8) hHeld ?_
            simp only [Act.put, List.getElem_toArray, List.getElem_cons_succ, List.getElem_cons_zero, List.setIfInBounds_toArray, List.set_cons_zero, List.set_cons_succ]
            refine' wpAnyH_take (i := 4) rfl (by kernel_rfl) (by kernel_rfl) (by kernel_rfl) (fun _ _ _ h => h) (yieldsIf_load_mid (by rfl) 44 (.tmp 11) rfl g11 0 rfl [.int .u64 xw.a0, .int .u64 xw.a1, .int .u64 xw.a2, .int .u64 xw.a3, .int .u64 xw.a4, .int .u64 xw.a5, .int .u64 xw.a6, .int .u64 xw.a7] _ RX Try.underlying44 rfl wideInfo8) hHeld ?_
            simp only [Act.put, List.getElem_toArray, List.getElem_cons_succ, List.getElem_cons_zero, List.setIfInBounds_toArray, List.set_cons_zero, List.set_cons_succ]
            refine wpAnyH_ready (rs := [5]) (by kernel_rfl) (by simp) (AllReadyH.cons rfl (fun K hK => ?_) AllReadyH.nil)
            go_simp
            refine (HC1 _).mono ?_
            rintro e U1 ⟨rfl, lg⟩
            have LU := L0.trans lg
            clear lg
            refine hK.out _ _ LU (fun hHeld1 => ?_)
            clear hK K
            try simp only [Act.put, List.getElem_toArray, List.getElem_cons_succ, List.getElem_cons_zero, List.setIfInBounds_toArray, List.set_cons_zero, List.set_cons_succ]
            refine wpAnyH_take (i := 6) (v := .bool false) rfl (by kernel_rfl) (by kernel_rfl) (by kernel_rfl) (fun _ _ _ h => h) (Or.inl ⟨by rfl, by intro w' hS; go_simp⟩) hHeld1 ?_
            simp only [Act.put, List.getElem_toArray, List.getElem_cons_succ, List.getElem_cons_zero, List.setIfInBounds_toArray, List.set_cons_zero, List.set_cons_succ]
            refine wpAnyH_done (by kernel_rfl) ?_ _
            go_upto_region 21 with (fail)
            have L3 := Lat.drew U1
            have LT := L9.trans ((hlr.trans LU).trans L3)
            have K5 := ((k5.later (hlr.trans LU))).later L3
            have KT : ∀ w', LatS U1 [w.heap.size + 1] w' → w'.cell? ⟨g12, 0, none⟩ = some (.int .u64 (t : Int)) := fun w' h => ((k12.later (hlr.trans LU)).keepS (by simp; omega) h).cell 0
            refine wp_region_held_drew (S := fun w' => LatS U1 [w.heap.size + 1] w') (by kernel_rfl) (L3.s _) (fun hHeld => ?_)
            generalize U1.drew = U2 at L3 hHeld K5 LT ⊢
            refine wpAnyH_take (i := 0) (v := .int .i64 (k : Int)) rfl (by kernel_rfl) (by kernel_rfl) (by kernel_rfl) (fun _ _ _ h => h) (Or.inl ⟨by rfl, by intro w' hS; go_simp⟩) hHeld ?_
            simp only [Act.put, List.getElem_toArray, List.getElem_cons_succ, List.getElem_cons_zero, List.setIfInBounds_toArray, List.set_cons_zero, List.set_cons_succ]
            refine wpAnyH_take (i := 1) (v := .agg #[.int .u64 (t : Int)]) rfl (by kernel_rfl) (by kernel_rfl) (by kernel_rfl) (fun _ _ _ h => h) (Or.inl ⟨by rfl, by intro w' hS; have hc := KT w' hS; go_simp⟩) hHeld ?_
            simp only [Act.put, List.getElem_toArray, List.getElem_cons_succ, List.getElem_cons_zero, List.setIfInBounds_toArray, List.set_cons_zero, List.set_cons_succ]
            refine wpAnyH_take (i := 2) (v := .int .i64 (k : Int)) rfl (by kernel_rfl) (by kernel_rfl) (by kernel_rfl) (fun _ _ _ h => h) (Or.inl ⟨by rfl, by intro w' hS; go_simp⟩) hHeld ?_
            simp only [Act.put, List.getElem_toArray, List.getElem_cons_succ, List.getElem_cons_zero, List.setIfInBounds_toArray, List.set_cons_zero, List.set_cons_succ]
            refine wpAnyH_ready (rs := [3]) (by kernel_rfl) (by simp) (AllReadyH.cons rfl (fun K hK => ?_) AllReadyH.nil)
            rw [if_pos (by rfl)]
            refine wp_store_mid 24 (.tmp 5) (.tmp 77) rfl (w.heap.size + 1) 0 #[.int .u64 (t : Int)] rfl rfl (K5.thereAll _ rfl) (by kernel_rfl) (by simp [Value.oneCell']) ?_
            have KS := K5.setCells #[.int .u64 (t : Int)] rfl
            have M9 : LatS U1 [w.heap.size + 1] (U2.setCells (w.heap.size + 1) 0 (#[.int .u64 (t : Int)] : Array Value).toList) := LatS.setCells (by simp) _ _ _ (L3.s _)
            have LF : Lat w (U2.setCells (w.heap.size + 1) 0 (#[.int .u64 (t : Int)] : Array Value).toList) := Lat.setCells (by omega) _ _ _ LT
            obtain ⟨U3, hV9⟩ : ∃ V, U2.setCells (w.heap.size + 1) 0 (#[.int .u64 (t : Int)] : Array Value).toList = V := ⟨_, rfl⟩
            rw [hV9] at KS M9 LF ⊢
            clear hV9
            refine hK.out _ _ M9 (fun hHeld1 => ?_)
            clear hK K
            try simp only [Act.put, List.getElem_toArray, List.getElem_cons_succ, List.getElem_cons_zero, List.setIfInBounds_toArray, List.set_cons_zero, List.set_cons_succ]
            refine wpAnyH_ready (rs := [4]) (by kernel_rfl) (by simp) (AllReadyH.cons rfl (fun K hK => ?_) AllReadyH.nil)
            go_simp
            refine hK.out _ _ M9 (fun hHeld2 => ?_)
            clear hK K
            try simp only [Act.put, List.getElem_toArray, List.getElem_cons_succ, List.getElem_cons_zero, List.setIfInBounds_toArray, List.set_cons_zero, List.set_cons_succ]
            refine wpAnyH_done (by kernel_rfl) ?_ _
            go_wp2
            have c6 : U3.cell? ⟨w.heap.size + 1, 0, none⟩ = some (.int .u64 (t : Int)) := KS.cell 0
            refine bodyPost_ret (v := .tuple #[.int .i64 (k : Int), .agg #[.int .u64 (t : Int)], .int .i64 0]) (by simp [results, Try.results22, go_sem, c6]) rfl ?_
            exact ⟨rfl, LF⟩

set_option maxRecDepth 100000 in
set_option maxHeartbeats 8000000 in
theorem pick_err (A : Option Addr) (n c s : Nat) (ws : List W8) (hn : n ≤ 400) (sg : Nat → Int) (HG : ∀ i x, ws[i]? = some x → ∀ w, Calls Try.prog 32 #[.agg #[.int .u64 x.a0, .int .u64 x.a1, .int .u64 x.a2, .int .u64 x.a3, .int .u64 x.a4, .int .u64 x.a5, .int .u64 x.a6, .int .u64 x.a7]] w (fun e w' => e = .returned (.int .i64 (sg i)) ∧ Lat w w')) (w : World) (hn0 : 0 < n) (S : Nat → W8) (HS0 : Hid (∀ i, i < n → 0 ≤ sg i)) (HSUM : ∀ g9 W, Lat w W → g9 < W.heap.size → w.heap.size ≤ g9 → Blk W g9 29 #[.int .i64 0] → Calls Try.prog 36 #[.slice A n c, .func (.func 37) #[] #[.pointer (some ⟨g9, 0, none⟩)]] W
      (fun e w' => ∃ v, e = .returned v ∧ OwnM w' W.heap.size 44 8 v (wRows (upsW S n)) ∧ Blk w' g9 29 #[.int .i64 0] ∧ LatP (· = g9) W w')) (q : Int) (hq : (q == 0) = false) (HZ : ∀ w, Calls Try.prog 32 #[.agg #[.int .u64 (S n).a0, .int .u64 (S n).a1, .int .u64 (S n).a2, .int .u64 (S n).a3, .int .u64 (S n).a4, .int .u64 (S n).a5, .int .u64 (S n).a6, .int .u64 (S n).a7]] w (fun e w' => e = .returned (.int .i64 q) ∧ Lat w w'))
    (xw : W8) (t : Nat) (en : Int) (hen : (en == 0) = false) (HWD : ∀ W, Calls Try.prog 18 #[.agg #[.int .u64 s], .agg #[.int .u64 (S n).a0, .int .u64 (S n).a1, .int .u64 (S n).a2, .int .u64 (S n).a3, .int .u64 (S n).a4, .int .u64 (S n).a5, .int .u64 (S n).a6, .int .u64 (S n).a7]] W (WidEnd W xw t en)) 
    (hr : RowM w A 8 n (wRows ws)) :
    Calls Try.prog 22 #[.agg #[.int .u64 s], .slice A n c] w (PickEnd w 0 0 en) := by
  have HWDH := Lib.hid HWD
  clear HWD
  have HGH := Lib.hid HG
  clear HG
  have hn4 : ¬ (400 : Int) < (n : Int) := by omega
  go_enter Try.func22, Try.ntmps22
  go_upto_region 4 with (fail)
  refine name2 (Q := fun W => Code.wp _ _ _ _ W) ?_
  intro W hl hs k2 k5
  have R0 := hr.later hl
  clear hr
  go_loopw [21] (fun i wr => ∃ j : Nat, j ≤ n ∧ i = .int .i64 j ∧ Lat W wr) (fun i _ => n - (intOf i).toNat)
  case atStart => exact ⟨0, by omega, rfl, Lat.refl _⟩
  case round =>
    obtain ⟨j, hj, rfl, hlr⟩ := hrel
    by_cases hlt : j < n
    · obtain ⟨g, o, x, rfl, hgl2, hx, hxl, hrg⟩ := (R0.later hlr).at hlt
      obtain ⟨x, hxw, rfl⟩ := row_w hx
      have hrg : wr.rangeAt g (o + j * 8) [.int .u64 x.a0, .int .u64 x.a1, .int .u64 x.a2, .int .u64 x.a3, .int .u64 x.a4, .int .u64 x.a5, .int .u64 x.a6, .int .u64 x.a7] := hrg
      have HG1 := HGH.out j x hxw
      have hltI : (j : Int) < (n : Int) := by omega
      have b0 : (0 : Int) ≤ (j : Int) := by omega
      clear hx hxl hxw
      go_wp2_with (refine wpList_load_mid (by rfl) 44 (.tmp 23) (by rfl) g (o + j * 8) (by rfl) [.int .u64 x.a0, .int .u64 x.a1, .int .u64 x.a2, .int .u64 x.a3, .int .u64 x.a4, .int .u64 x.a5, .int .u64 x.a6, .int .u64 x.a7] _ hrg Try.underlying44 rfl (by kernel_rfl) ?_)
      refine name1 (Q := fun W => Calls _ _ _ W _) ?_
      intro V1 l1 hs1 k8
      refine (HG1 V1).mono ?_
      rintro e V2 ⟨rfl, l2⟩
      have LL := hlr.trans (l1.trans l2)
      clear l1 l2 hs1 k8 hrg HG1
      have hsg := HS0.out j hlt
      have hsd : decide (sg j < 0) = false := decide_eq_false (by omega)
      clear HS0
      go_wp2
      go_roundw
      case rel => exact ⟨j + 1, by omega, by go_num, LL⟩
      case measure => simp [intOf]; omega
    · obtain rfl : j = n := by omega
      clear hj hlt
      have k2 := k2.later hlr
      have k5 := k5.later hlr
      have L1 := hl.trans hlr
      have hs1 : w.heap.size + 2 ≤ wr.heap.size := by have := hlr.size; omega
      clear hlr hs R0
      go_wp2_with fail
      refine name1 (Q := fun W => Calls _ _ _ W _) ?_
      intro V1 l1 hs2 k9
      refine (HSUM wr.heap.size V1 (L1.trans l1) hs2 (by omega) k9).mono ?_
      rintro e V2 ⟨v, rfl, O, k9, l2⟩
      have k2 := (k2.later l1).keepP l2 (by omega)
      have k5 := (k5.later l1).keepP l2 (by omega)
      have L2 : Lat w V2 := l2.narrow (L1.trans l1) (by omega)
      have hs3 : w.heap.size + 2 ≤ V2.heap.size := by have := l2.size; omega
      obtain ⟨g9, hg9⟩ : ∃ z, wr.heap.size = z := ⟨_, rfl⟩
      rw [hg9] at k9 ⊢
      obtain ⟨A', c2, rfl, R, _, hA', _⟩ := O.form
      rw [upsW_length] at R ⊢
      clear l1 l2 L1 hs1 hs2 hg9 HSUM O
      have e9 : V2.cell? ⟨g9, 0, none⟩ = some (.int .i64 0) := k9.cell 0
      obtain ⟨m, rfl⟩ : ∃ m, j = m + 1 := ⟨j - 1, by omega⟩
      obtain ⟨g, o, xx, rfl, hgl, hx, _, hrg⟩ := R.at (i := m) (by omega)
      rw [ups_get S (by omega)] at hx
      cases hx
      have hrg : V2.rangeAt g (o + m * 8) [.int .u64 (S (m + 1)).a0, .int .u64 (S (m + 1)).a1, .int .u64 (S (m + 1)).a2, .int .u64 (S (m + 1)).a3, .int .u64 (S (m + 1)).a4, .int .u64 (S (m + 1)).a5, .int .u64 (S (m + 1)).a6, .int .u64 (S (m + 1)).a7] := hrg
      have hnb : (((m + 1 : Nat) : Int) == 0) = false := by simp; omega
      have em : wrap64 (((m + 1 : Nat) : Int) - 1) = (m : Int) := by rw [IntWalk.wrap64_in _ (by omega)]; omega
      have em2 : (((m + 1 : Nat) : Int) - 1) = (m : Int) := by omega
      have hmI : (m : Int) < ((m + 1 : Nat) : Int) := by omega
      have hm0 : (0 : Int) ≤ (m : Int) := by omega
      go_wp2_with (refine Go.BigFrame.wpList_want (by rfl) fun _ hK => wp_load_mid 44 (.tmp 45) (by rfl) g (o + m * 8) (by rfl) [.int .u64 (S (m + 1)).a0, .int .u64 (S (m + 1)).a1, .int .u64 (S (m + 1)).a2, .int .u64 (S (m + 1)).a3, .int .u64 (S (m + 1)).a4, .int .u64 (S (m + 1)).a5, .int .u64 (S (m + 1)).a6, .int .u64 (S (m + 1)).a7] _ hrg Try.underlying44 rfl (by kernel_rfl) (hK _ _ ?_))
      refine (HZ V2).mono ?_
      rintro e V4 ⟨rfl, l4⟩
      have k2 := k2.later l4
      have k5 := k5.later l4
      have R := R.later l4
      have hrg := rangeAt_later hrg hgl l4
      have hgl4 : g < V4.heap.size := Nat.lt_of_lt_of_le hgl l4.size
      have hs4 : w.heap.size + 2 ≤ V4.heap.size := Nat.le_trans hs3 l4.size
      have L4 := L2.trans l4
      clear l4 k9 e9 L2 hs3 hgl HZ
      have HWD2 := HWDH.out
      have R2 : ∀ w', Lat V4 w' → w'.rangeAt w.heap.size 0 [.int .u64 (s : Nat)] := fun w' hl => (k2.later hl).rangeAll
      have RU : ∀ w', Lat V4 w' → w'.rangeAt g (o + m * 8) [.int .u64 (S (m + 1)).a0, .int .u64 (S (m + 1)).a1, .int .u64 (S (m + 1)).a2, .int .u64 (S (m + 1)).a3, .int .u64 (S (m + 1)).a4, .int .u64 (S (m + 1)).a5, .int .u64 (S (m + 1)).a6, .int .u64 (S (m + 1)).a7] := fun w' h => rangeAt_later hrg hgl4 h
      have J24 : (Try.prog.info? 24).map (·.size) = some 1 := by kernel_rfl
      have J26 : (Try.prog.info? 44).map (·.size) = some 8 := by kernel_rfl
      clear HWDH
      go_upto_region 15 with (fail)
      rename_i KN hKN
      refine wp_region_mem (pk15_rows w.heap.size g o m c2 s t (S (m + 1)) xw en) (pk15_base w.heap.size g o m c2 s t (S (m + 1)) xw en _ _ _ _ _ _ _ _ _ _ _ _ _ _ _ _ _ _ _ _ _ _ _ _ _ _ _ _ _ _ _ _ _ _ _ _ _ _ _ _ _ _ _ _ _ _ _ _ _ _ _ _ _ _ _ _ _ _ _ _ _) pk15_mem 78 17 [[], [], [], [2], [3], [1, 4], [5], [0, 6], [7], [8], [8], [8], [], [], [12, 9, 7, 0, 1, 2, 3, 4, 5, 6, 7, 8, 9, 12, 13], [13, 10, 14, 0, 1, 2, 3, 4, 5, 6, 7, 8, 9, 10, 12, 13, 14], [11, 15, 0, 1, 2, 3, 4, 5, 6, 7, 8, 9, 10, 11, 12, 13, 14, 15]] (by kernel_rfl) (by kernel_rfl) (by kernel_rfl) (by kernel_rfl) (by kernel_rfl) (by kernel_rfl) (by kernel_rfl) (by rfl) rfl (base_of (base_cons rfl (base_cons rfl (base_cons rfl (base_cons rfl (base_cons rfl (base_cons rfl (base_cons rfl (base_cons rfl (base_cons rfl (base_cons rfl (base_cons rfl (base_cons rfl (base_cons rfl (base_cons rfl (base_cons rfl (base_cons rfl (base_cons rfl (base_cons rfl (base_cons rfl (base_cons rfl (base_cons rfl (base_cons rfl (base_cons rfl (base_cons rfl (base_cons rfl (base_cons rfl (base_cons rfl (base_cons rfl (base_cons rfl (base_cons rfl (base_cons rfl (base_cons rfl (base_cons rfl (base_cons rfl (base_cons rfl (base_cons rfl (base_cons rfl (base_cons rfl (base_cons rfl (base_cons rfl (base_cons rfl (base_cons rfl (base_cons rfl (base_cons rfl (base_cons rfl (base_cons rfl (base_cons rfl (base_cons rfl (base_cons rfl (base_cons rfl (base_cons rfl (base_cons rfl (base_cons rfl (base_cons rfl (base_cons rfl (base_cons rfl (base_cons rfl (base_cons rfl (base_cons rfl (base_cons rfl (base_cons rfl (base_cons rfl (base_cons rfl (base_nil _))))))))))))))))))))))))))))))))))))))))))))))))))))))))))))))))) (pk15_pure w.heap.size g o m c2 s t (S (m + 1)) xw en) (pk15_allm w.heap.size g o m c2 s t (S (m + 1)) xw en) (pk15_steps V4 w.heap.size g o m c2 s t (S (m + 1)) xw en _ _ _ _ _ _ _ _ _ _ _ _ _ _ _ _ _ _ _ _ _ _ _ _ _ _ _ _ _ _ _ _ _ _ _ _ _ _ _ _ _ _ _ _ _ _ _ _ _ _ _ _ _ _ _ _ _ _ _ _ _ R2 J24 J26 RU hm0 hmI (Lib.hid (by rw [IntWalk.i64_left]; exact IntWalk.wrap64_in _ (by omega))) HWD2) ?_
      · intro a9 W9 hsz9 hdf9 hL9 hbs hsl hmm
        obtain ⟨g11, c11, s11, n11, b11, p11, far11⟩ := hmm 0 _ rfl
        obtain ⟨g12, c12, s12, n12, b12, p12, far12⟩ := hmm 1 _ rfl
        obtain ⟨v9, h9, q9⟩ := hsl 9 _ _ rfl rfl
        obtain rfl : v9 = .agg #[.int .u64 xw.a0, .int .u64 xw.a1, .int .u64 xw.a2, .int .u64 xw.a3, .int .u64 xw.a4, .int .u64 xw.a5, .int .u64 xw.a6, .int .u64 xw.a7] := q9
        obtain rfl := slot_agg p11 h9
        clear h9
        obtain ⟨v9, h9, q9⟩ := hsl 10 _ _ rfl rfl
        obtain rfl : v9 = .agg #[.int .u64 (t : Nat)] := q9
        obtain rfl := slot_agg p12 h9
        clear h9
        have e11_12 : g11 ≠ g12 := far11 1 _ _ (by decide) rfl s12
        obtain ⟨v9, h9, q9⟩ := hsl 16 _ _ rfl rfl
        obtain rfl : v9 = .int .i64 en := q9
        have w13 := slot_getD h9
        clear h9
        have w11 := slot_getD s11
        have w12 := slot_getD s12
        refine hKN _ _ ?_
        obtain ⟨T9, df9⟩ := a9
        obtain rfl : df9 = [] := hdf9
        obtain ⟨f, hf, rfl⟩ := spell78 T9 hsz9
        have X9 := fun k v h => (hf k).trans (slot_getD (hbs k v h))
        have x13 : f 13 = .int .i64 en := (hf 13).trans w13
        have x11 : f 11 = .pointer (some ⟨g11, 0, none⟩) := (hf 11).trans w11
        have x12 : f 12 = .pointer (some ⟨g12, 0, none⟩) := (hf 12).trans w12
        clear hbs hsl hmm hf hsz9 hKN s11 p11 far11 s12 p12 far12 w13 w11 w12
        simp only [X9 2 _ rfl, X9 10 _ rfl, X9 0 _ rfl, X9 1 _ rfl, X9 3 _ rfl, X9 4 _ rfl, X9 5 _ rfl, X9 6 _ rfl, X9 7 _ rfl, X9 8 _ rfl, X9 9 _ rfl, X9 14 _ rfl, X9 15 _ rfl, X9 16 _ rfl, X9 17 _ rfl, X9 18 _ rfl, X9 19 _ rfl, X9 20 _ rfl, X9 21 _ rfl, X9 22 _ rfl, X9 23 _ rfl, X9 24 _ rfl, X9 25 _ rfl, X9 26 _ rfl, X9 27 _ rfl, X9 28 _ rfl, X9 29 _ rfl, X9 30 _ rfl, X9 31 _ rfl, X9 32 _ rfl, X9 33 _ rfl, X9 34 _ rfl, X9 35 _ rfl, X9 36 _ rfl, X9 37 _ rfl, X9 38 _ rfl, X9 39 _ rfl, X9 40 _ rfl, X9 41 _ rfl, X9 42 _ rfl, X9 43 _ rfl, X9 44 _ rfl, X9 45 _ rfl, X9 46 _ rfl, X9 47 _ rfl, X9 48 _ rfl, X9 49 _ rfl, X9 50 _ rfl, X9 63 _ rfl, X9 64 _ rfl, X9 65 _ rfl, X9 66 _ rfl, X9 67 _ rfl, X9 68 _ rfl, X9 69 _ rfl, X9 70 _ rfl, X9 71 _ rfl, X9 72 _ rfl, X9 73 _ rfl, X9 74 _ rfl, X9 75 _ rfl, X9 76 _ rfl, X9 77 _ rfl, x13, x11, x12]
        clear x13 x11 x12 X9
        replace k5 := k5.later hL9
        replace R := R.later hL9
        have L9 := L4.trans hL9
        have h12 : w.heap.size + 2 ≤ g12 := Nat.le_trans hs4 n12
        obtain ⟨V9, rfl⟩ : ∃ z, z = W9 := ⟨_, rfl⟩
        have k11 := b11
        have k12 := b12
        clear hL9 b11 b12 n11 n12 e11_12 R2 RU J24 J26 HWD2 hrg hs4 hgl4
        have e5 : V9.cell? ⟨w.heap.size + 1, 0, none⟩ = some (.int .u64 0) := k5.cell 0
        have f5 := k5.frozen 0
        have h5 := k5.lt
        clear R k11 k12 h12
        go_wp2
        refine name_set (Q := fun W => bodyPost _ _ _ _ _ W) k5 ?_
        intro V3 j5 _ _ l5
        have c6 : V3.cell? ⟨w.heap.size + 1, 0, none⟩ = some (.int .u64 0) := j5.cell 0
        refine bodyPost_ret (v := .tuple #[.int .i64 0, .agg #[.int .u64 0], .int .i64 en]) (by simp [results, Try.results22, go_sem, c6]) rfl ?_
        exact ⟨rfl, l5.narrow L9 (by omega)⟩

end Go.Proofs.Ytogkkhaepfablaa

/- Chance: the law's small functions: draws, fails, q. -/
namespace Go.Proofs.Ytogkkhaepfablaa
open Go.RowKit Go.Shelf
set_option linter.unusedSimpArgs false

theorem draws_any (n : Int) (b : Bool) (w : World) : Calls Try.prog 23 #[.int .i64 n, .bool b] w (fun e w' => ∃ b1 b2 : Nat, e = .returned (.func (.func 39) #[] #[.pointer (some ⟨b1, 0, none⟩), .pointer (some ⟨b2, 0, none⟩)]) ∧
    Blk w' b1 3 #[.int .i64 n] ∧ Blk w' b2 4 #[.bool b] ∧ Lat w w') := by
  go_enter Try.func23, Try.ntmps23
  go_wp2
  refine name2 (Q := fun W => bodyPost _ _ _ _ _ W) ?_
  intro W hl hs k1 k2
  go_ret
  exact ⟨_, _, rfl, k1, k2, hl⟩
theorem fails_any (n : Int) (w : World) : Calls Try.prog 20 #[.int .i64 n] w (fun e w' => ∃ b1 : Nat, e = .returned (.func (.func 35) #[] #[.pointer (some ⟨b1, 0, none⟩)]) ∧ Blk w' b1 29 #[.int .i64 n] ∧ Lat w w') := by
  go_enter Try.func20, Try.ntmps20
  go_wp2
  refine name1 (Q := fun W => bodyPost _ _ _ _ _ W) ?_
  intro W hl hs k1
  go_ret
  exact ⟨_, rfl, k1, hl⟩
theorem cells24 : Try.prog.cellsOf 24 = 1 := by kernel_rfl
theorem key24 {n : Int} (h : 0 ≤ n ∧ n < W64) (d : Nat) : Try.prog.keyLits (d + 2) 24 [.int .u64 n] = some [.int .u64 n] := by
  have h0 := key28 h d
  unfold Program.keyLits
  rw [Try.underlying24]
  simp [cells28, cells24, h0]
theorem chance_in {s t : Int} (hs : 0 ≤ s ∧ s < W64) (ht : 0 ≤ t ∧ t < W64) (w : World) : (Op.equalIn 10000 24 (.agg #[.int .u64 s]) (.agg #[.int .u64 t])).run Try.prog w = .ok (decide (s = t)) w := by
  obtain ⟨r, hr, hi⟩ := run_equalIn_deep (P := Try.prog) 9990 10 24 (by kernel_rfl) w 10 10 (.agg #[.int .u64 s]) (.agg #[.int .u64 t]) _ _ (by kernel_rfl) (by kernel_rfl) (key24 hs 8) (key24 ht 8)
  have e : r = decide (s = t) := by
    rw [Bool.eq_iff_iff, decide_eq_true_eq, hi]
    simp
  rw [hr, e]
theorem chance_eql {s t : Int} (hs : 0 ≤ s ∧ s < W64) (ht : 0 ≤ t ∧ t < W64) (w : World) : (binOp .eql 24 (.agg #[.int .u64 s]) (.agg #[.int .u64 t])).run Try.prog w = .ok (.bool (decide (s = t))) w := by
  rw [run_eql_struct, chance_in hs ht]
  rfl
theorem chance_neq {s t : Int} (hs : 0 ≤ s ∧ s < W64) (ht : 0 ≤ t ∧ t < W64) (w : World) : (binOp .neq 24 (.agg #[.int .u64 s]) (.agg #[.int .u64 t])).run Try.prog w = .ok (.bool (!decide (s = t))) w := by
  rw [run_neq_struct, chance_in hs ht]
  rfl

set_option maxRecDepth 100000 in
set_option maxHeartbeats 4000000 in
theorem fails_yes (n : Int) (b1 : Nat) (w : World) (k : Blk w b1 29 #[.int .i64 n]) :
    Calls Try.prog 35 #[.int .i64 0, .agg #[.int .u64 0], .int .i64 n, .pointer (some ⟨b1, 0, none⟩)] w (fun e w' => e = .returned (.bool true) ∧ Lat w w') := by
  have hE := Lib.hid (fun w => chance_eql (s := 0) (t := 0) (by decide) (by decide) w)
  have kl := k.lt
  have c0 : w.cell? ⟨b1, 0, none⟩ = some (.int .i64 n) := k.cell 0
  go_enter Try.func35, Try.ntmps35
  go_wp2_with (refine wpList_bin rfl .eql 24 24 (.tmp 11) (.tmp 12) (by rfl) #[.int .u64 0] #[.int .u64 0] _ (by rfl) (by rfl) (by kernel_rfl) (hE.out _) ?_)
  refine name1 (Q := fun W => bodyPost _ _ _ _ _ W) ?_
  intro W hl hs k1
  go_ret
  exact ⟨rfl, hl⟩

set_option maxRecDepth 100000 in
set_option maxHeartbeats 4000000 in
theorem draws_yes (n t : Int) (ht : 0 ≤ t ∧ t < W64) (nb : Bool) (hnb : decide (t = 0) = nb) (b1 b2 : Nat) (w : World) (k1 : Blk w b1 3 #[.int .i64 n]) (k2 : Blk w b2 4 #[.bool (!nb)]) :
    Calls Try.prog 39 #[.int .i64 n, .agg #[.int .u64 t], .int .i64 0, .pointer (some ⟨b1, 0, none⟩), .pointer (some ⟨b2, 0, none⟩)] w (fun e w' => e = .returned (.bool true) ∧ Lat w w') := by
  have HI : ∀ w, (Op.equalIn 10000 24 (.agg #[.int .u64 t]) (.agg #[.int .u64 0])).run Try.prog w = .ok nb w := fun w => by rw [← hnb]; exact chance_in ht (by decide) w
  clear hnb ht
  go_enter Try.func39, Try.ntmps39
  go_upto_region 1 with (fail)
  refine name1 (Q := fun W => Code.wp _ _ _ _ W) ?_
  intro W hl hs k6
  have R1 : ∀ w', Lat W w' → w'.cell? ⟨b1, 0, none⟩ = some (.int .i64 n) := fun w' h => ((k1.later hl).later h).cell 0
  have R2 : ∀ w', Lat W w' → w'.cell? ⟨b2, 0, none⟩ = some (.bool (!nb)) := fun w' h => ((k2.later hl).later h).cell 0
  have R6 : ∀ w', Lat W w' → w'.cell? ⟨w.heap.size, 0, none⟩ = some (.int .u64 t) := fun w' h => (k6.later h).cell 0
  have L0 := Lat.drew W
  refine wp_region_held_drew (S := fun w' => Lat W w') (by kernel_rfl) L0 (fun hHeld => ?_)
  generalize W.drew = V0 at L0 hHeld ⊢
  refine wpAnyH_take (i := 0) (v := .int .i64 n) rfl (by kernel_rfl) (by kernel_rfl) (by kernel_rfl) (fun _ _ _ h => h) (Or.inl ⟨by rfl, by intro w' hS; go_simp⟩) hHeld ?_
  simp only [Act.put, List.getElem_toArray, List.getElem_cons_succ, List.getElem_cons_zero, List.setIfInBounds_toArray, List.set_cons_zero, List.set_cons_succ]
  refine wpAnyH_take (i := 1) (v := .int .i64 n) rfl (by kernel_rfl) (by kernel_rfl) (by kernel_rfl) (fun _ _ _ h => h) (Or.inl ⟨by rfl, by intro w' hS; have hc := R1 w' hS; go_simp⟩) hHeld ?_
  simp only [Act.put, List.getElem_toArray, List.getElem_cons_succ, List.getElem_cons_zero, List.setIfInBounds_toArray, List.set_cons_zero, List.set_cons_succ]
  refine wpAnyH_take (i := 2) (v := .bool true) rfl (by kernel_rfl) (by kernel_rfl) (by kernel_rfl) (fun _ _ _ h => h) (Or.inl ⟨by rfl, by intro w' hS; go_simp⟩) hHeld ?_
  simp only [Act.put, List.getElem_toArray, List.getElem_cons_succ, List.getElem_cons_zero, List.setIfInBounds_toArray, List.set_cons_zero, List.set_cons_succ]
  refine wpAnyH_take (i := 3) (v := .bool true) rfl (by kernel_rfl) (by kernel_rfl) (by kernel_rfl) (fun _ _ _ h => h) (Or.inl ⟨by rfl, by intro w' hS; go_simp⟩) hHeld ?_
  simp only [Act.put, List.getElem_toArray, List.getElem_cons_succ, List.getElem_cons_zero, List.setIfInBounds_toArray, List.set_cons_zero, List.set_cons_succ]
  refine wpAnyH_take (i := 4) (v := .agg #[.int .u64 t]) rfl (by kernel_rfl) (by kernel_rfl) (by kernel_rfl) (fun _ _ _ h => h) (Or.inl ⟨by rfl, by intro w' hS; have hc := R6 w' hS; go_simp⟩) hHeld ?_
  simp only [Act.put, List.getElem_toArray, List.getElem_cons_succ, List.getElem_cons_zero, List.setIfInBounds_toArray, List.set_cons_zero, List.set_cons_succ]
  refine wpAnyH_take (i := 5) (v := .agg #[.int .u64 0]) rfl (by kernel_rfl) (by kernel_rfl) (by kernel_rfl) (fun _ _ _ h => h) (Or.inl ⟨by rfl, by intro w' hS; go_simp⟩) hHeld ?_
  simp only [Act.put, List.getElem_toArray, List.getElem_cons_succ, List.getElem_cons_zero, List.setIfInBounds_toArray, List.set_cons_zero, List.set_cons_succ]
  refine wpAnyH_take (i := 6) (v := .bool (!nb)) rfl (by kernel_rfl) (by kernel_rfl) (by kernel_rfl) (fun _ _ _ h => h) (Or.inl ⟨by rfl, by intro w' hS; have hc := HI w'; go_simp⟩) hHeld ?_
  simp only [Act.put, List.getElem_toArray, List.getElem_cons_succ, List.getElem_cons_zero, List.setIfInBounds_toArray, List.set_cons_zero, List.set_cons_succ]
  refine wpAnyH_take (i := 7) (v := .bool (!nb)) rfl (by kernel_rfl) (by kernel_rfl) (by kernel_rfl) (fun _ _ _ h => h) (Or.inl ⟨by rfl, by intro w' hS; have hc := R2 w' hS; go_simp⟩) hHeld ?_
  simp only [Act.put, List.getElem_toArray, List.getElem_cons_succ, List.getElem_cons_zero, List.setIfInBounds_toArray, List.set_cons_zero, List.set_cons_succ]
  refine wpAnyH_take (i := 8) (v := .bool true) rfl (by kernel_rfl) (by kernel_rfl) (by kernel_rfl) (fun _ _ _ h => h) (Or.inl ⟨by rfl, by intro w' hS; cases nb <;> go_simp⟩) hHeld ?_
  simp only [Act.put, List.getElem_toArray, List.getElem_cons_succ, List.getElem_cons_zero, List.setIfInBounds_toArray, List.set_cons_zero, List.set_cons_succ]
  refine wpAnyH_take (i := 9) (v := .bool true) rfl (by kernel_rfl) (by kernel_rfl) (by kernel_rfl) (fun _ _ _ h => h) (Or.inl ⟨by rfl, by intro w' hS; go_simp⟩) hHeld ?_
  simp only [Act.put, List.getElem_toArray, List.getElem_cons_succ, List.getElem_cons_zero, List.setIfInBounds_toArray, List.set_cons_zero, List.set_cons_succ]
  refine wpAnyH_take (i := 10) (v := .bool true) rfl (by kernel_rfl) (by kernel_rfl) (by kernel_rfl) (fun _ _ _ h => h) (Or.inl ⟨by rfl, by intro w' hS; go_simp⟩) hHeld ?_
  simp only [Act.put, List.getElem_toArray, List.getElem_cons_succ, List.getElem_cons_zero, List.setIfInBounds_toArray, List.set_cons_zero, List.set_cons_succ]
  refine wpAnyH_take (i := 11) (v := .int .i64 0) rfl (by kernel_rfl) (by kernel_rfl) (by kernel_rfl) (fun _ _ _ h => h) (Or.inl ⟨by rfl, by intro w' hS; go_simp⟩) hHeld ?_
  simp only [Act.put, List.getElem_toArray, List.getElem_cons_succ, List.getElem_cons_zero, List.setIfInBounds_toArray, List.set_cons_zero, List.set_cons_succ]
  refine wpAnyH_take (i := 12) (v := .bool true) rfl (by kernel_rfl) (by kernel_rfl) (by kernel_rfl) (fun _ _ _ h => h) (Or.inl ⟨by rfl, by intro w' hS; go_simp⟩) hHeld ?_
  simp only [Act.put, List.getElem_toArray, List.getElem_cons_succ, List.getElem_cons_zero, List.setIfInBounds_toArray, List.set_cons_zero, List.set_cons_succ]
  refine wpAnyH_take (i := 13) (v := .bool true) rfl (by kernel_rfl) (by kernel_rfl) (by kernel_rfl) (fun _ _ _ h => h) (Or.inl ⟨by rfl, by intro w' hS; go_simp⟩) hHeld ?_
  simp only [Act.put, List.getElem_toArray, List.getElem_cons_succ, List.getElem_cons_zero, List.setIfInBounds_toArray, List.set_cons_zero, List.set_cons_succ]
  refine wpAnyH_take (i := 14) (v := .bool true) rfl (by kernel_rfl) (by kernel_rfl) (by kernel_rfl) (fun _ _ _ h => h) (Or.inl ⟨by rfl, by intro w' hS; go_simp⟩) hHeld ?_
  simp only [Act.put, List.getElem_toArray, List.getElem_cons_succ, List.getElem_cons_zero, List.setIfInBounds_toArray, List.set_cons_zero, List.set_cons_succ]
  refine wpAnyH_done (by kernel_rfl) ?_ _
  go_wp2
  go_ret
  exact ⟨rfl, hl.trans L0⟩
  
theorem qPost_any (w : World) : Calls Try.prog 24 #[.int .i64 1, .int .i64 2] w (fun e w' => ∃ u v : W8, e = .returned (.agg #[.int .u64 u.a0, .int .u64 u.a1, .int .u64 u.a2, .int .u64 u.a3, .int .u64 u.a4, .int .u64 u.a5, .int .u64 u.a6, .int .u64 u.a7, .int .u64 v.a0, .int .u64 v.a1, .int .u64 v.a2, .int .u64 v.a3, .int .u64 v.a4, .int .u64 v.a5, .int .u64 v.a6, .int .u64 v.a7]) ∧ u.ok ∧ v.ok ∧ u.toInt = 1 ∧ v.toInt = 2 ∧ Lat w w') := by
  have hO := shOf_ok 1 2 (by decide) (by decide) (by decide) (by decide) (by decide)
  go_enter Try.func24, Try.ntmps24
  go_wp2_with fail
  refine name1 (Q := fun W => Calls _ _ _ W _) ?_
  intro W hl hs k4
  refine (hO W).mono ?_
  rintro e w1 ⟨u, v, r, rfl, hq, l1⟩
  have hq1 : u = W8.of 1 ∧ v = W8.of 2 := by
    have e1 : lowN 1 2 = 1 := by decide
    have e2 : lowD 1 2 = 2 := by decide
    rw [e1, e2] at hq
    have hp := P511_pos
    have h2 : (2 : Int) < P511 := by decide
    rcases hq with ⟨_, _, _, _, h, h', _⟩ | ⟨h, _⟩
    · exact ⟨h, h'⟩
    · omega
  have K4 := k4.later l1
  have L1 := hl.trans l1
  have hs1 : w.heap.size < w1.heap.size := by have := l1.size; omega
  have HQ := Lib.hid hq1
  clear hq hO k4 hl l1 hs hq1
  go_upto_region 2 with (fail)
  refine name1 (Q := fun W => Code.wp _ _ _ _ W) ?_
  intro U1 m1 hsu k5
  have K5 := K4.later m1
  have M1 := L1.trans m1
  go_wp2_with (first
    | (refine wpList_get rfl 55 (.tmp 5) (by rfl) w1.heap.size (by rfl) k5 _ Try.underlying55 rfl (by kernel_rfl) ?_)
    | (refine wpList_put rfl 55 (.tmp 4) (.tmp 13) (by rfl) (by rfl) w.heap.size (by rfl) #[.int .u64 u.a0, .int .u64 u.a1, .int .u64 u.a2, .int .u64 u.a3, .int .u64 u.a4, .int .u64 u.a5, .int .u64 u.a6, .int .u64 u.a7, .int .u64 v.a0, .int .u64 v.a1, .int .u64 v.a2, .int .u64 v.a3, .int .u64 v.a4, .int .u64 v.a5, .int .u64 v.a6, .int .u64 v.a7] (by rfl) K5 (by rfl) (by kernel_rfl) (by simp [Value.oneCell']) ?_; intro U2 hp2; have M2 := hp2.lat w M1 (Nat.le_refl _); have K6 := hp2.blk))
  have e0 := K6.cell 0
  have e1 := K6.cell 1
  have e2 := K6.cell 2
  have e3 := K6.cell 3
  have e4 := K6.cell 4
  have e5 := K6.cell 5
  have e6 := K6.cell 6
  have e7 := K6.cell 7
  have e8 := K6.cell 8
  have e9 := K6.cell 9
  have e10 := K6.cell 10
  have e11 := K6.cell 11
  have e12 := K6.cell 12
  have e13 := K6.cell 13
  have e14 := K6.cell 14
  have e15 := K6.cell 15
  refine bodyPost_ret (v := .agg #[.int .u64 u.a0, .int .u64 u.a1, .int .u64 u.a2, .int .u64 u.a3, .int .u64 u.a4, .int .u64 u.a5, .int .u64 u.a6, .int .u64 u.a7, .int .u64 v.a0, .int .u64 v.a1, .int .u64 v.a2, .int .u64 v.a3, .int .u64 v.a4, .int .u64 v.a5, .int .u64 v.a6, .int .u64 v.a7]) (by simp [results, Try.results24, go_sem, e0, e1, e2, e3, e4, e5, e6, e7, e8, e9, e10, e11, e12, e13, e14, e15]) rfl ?_
  obtain ⟨rfl, rfl⟩ := HQ.out
  exact ⟨_, _, rfl, W8.of_ok _, W8.of_ok _, W8.of_toInt (by decide) (by decide), W8.of_toInt (by decide) (by decide), M2⟩
end Go.Proofs.Ytogkkhaepfablaa

/- Chance: what works asks of Pick, Wide, Below and Coin, at its numbers. -/
namespace Go.Proofs.Ytogkkhaepfablaa
open Go.RowKit Go.Shelf
set_option linter.unusedSimpArgs false

/-- The sums of weights, where none is too great. -/
theorem sums_ok (A : Option Addr) (n c : Nat) (ws : List W8) (hok : ∀ x ∈ ws, x.ok) (sI : Nat → Int) (h0 : sI 0 = 0) (hst : ∀ i x, ws[i]? = some x → sI (i + 1) = sI i + x.toInt) (hb : ∀ i, -P511 ≤ sI i ∧ sI i < P511) (hn : n ≤ 1000000) (hA0 : n = 0 → A = none)
    (w : World) (hr : RowM w A 8 n (wRows ws)) : ∀ g9 W, Lat w W → g9 < W.heap.size → w.heap.size ≤ g9 → Blk W g9 29 #[.int .i64 0] → Calls Try.prog 36 #[.slice A n c, .func (.func 37) #[] #[.pointer (some ⟨g9, 0, none⟩)]] W
      (fun e w' => ∃ v, e = .returned v ∧ OwnM w' W.heap.size 44 8 v (wRows (upsW (fun i => W8.of (sI i)) n)) ∧ Blk w' g9 29 #[.int .i64 0] ∧ LatP (· = g9) W w') := by
  intro g9 W hl hg hgw hb9
  refine sums_in A n c ws (fun i => W8.of (sI i)) (fun _ => 0) (by show W8.of (sI 0) = _; rw [h0, W8.zero_eq]) hn g9 (fun i x W' hx hb' => ?_) W (hr.later hl) (fun a ha => ?_) hb9
  · have hxo := hok x (List.mem_of_getElem? hx)
    refine plus_in (W8.of (sI i)) x (W8.of (sI (i + 1))) 0 0 0 (fun w => ?_) (fun _ => rfl) (fun h => absurd rfl h) g9 W' hb'
    refine (wAdd_any (W8.of (sI i)) x (W8.of_ok _) hxo w).mono ?_
    rintro e w' ⟨u, r, rfl, h, hl'⟩
    rw [W8.of_toInt (hb i).1 (hb i).2, ← hst i x hx] at h
    have := hb (i + 1)
    rcases h with ⟨_, _, rfl, rfl⟩ | ⟨h, _, _⟩
    · exact ⟨rfl, hl'⟩
    · omega
  · intro e
    rcases Nat.eq_zero_or_pos n with hn0 | hp
    · rw [hA0 hn0] at ha
      cases ha
    · obtain ⟨g, o, e', hlt, _⟩ := hr.2.2 hp
      rw [ha] at e'
      cases e'
      have : g = g9 := e
      omega
theorem rowM_blk {w : World} {g : Nat} {t : TypeId} {ws : List W8} (h : Blk w g t ((wRows ws).flatten).toArray) : RowM w (some ⟨g, 0, none⟩) 8 ws.length (wRows ws) := by
  have h8 : ∀ x ∈ wRows ws, x.length = 8 := by
    intro x hx
    unfold wRows at hx
    obtain ⟨y, _, rfl⟩ := List.mem_map.1 hx
    rfl
  refine ⟨by simp [wRows], h8, fun _ => ⟨g, 0, rfl, h.lt, fun i x hx j v hv => ?_⟩⟩
  rw [h.cell, List.getElem?_toArray, Nat.zero_add]
  exact flat_get h8 hx hv
theorem sgn_w (z : Int) (h1 : -P511 ≤ z) (h2 : z < P511) (w : World) : Calls Try.prog 32 #[.agg #[.int .u64 (W8.of z).a0, .int .u64 (W8.of z).a1, .int .u64 (W8.of z).a2, .int .u64 (W8.of z).a3, .int .u64 (W8.of z).a4, .int .u64 (W8.of z).a5, .int .u64 (W8.of z).a6, .int .u64 (W8.of z).a7]] w (fun e w' => e = .returned (.int .i64 (sideOf z)) ∧ Lat w w') := by
  have := wSign_any (W8.of z) (W8.of_ok z) w
  rwa [W8.of_toInt h1 h2] at this
theorem cmp_w (x z : Int) (h1 : -P511 ≤ x) (h2 : x < P511) (h3 : -P511 ≤ z) (h4 : z < P511) (w : World) : Calls Try.prog 19 #[.agg #[.int .u64 (W8.of x).a0, .int .u64 (W8.of x).a1, .int .u64 (W8.of x).a2, .int .u64 (W8.of x).a3, .int .u64 (W8.of x).a4, .int .u64 (W8.of x).a5, .int .u64 (W8.of x).a6, .int .u64 (W8.of x).a7], .agg #[.int .u64 (W8.of z).a0, .int .u64 (W8.of z).a1, .int .u64 (W8.of z).a2, .int .u64 (W8.of z).a3, .int .u64 (W8.of z).a4, .int .u64 (W8.of z).a5, .int .u64 (W8.of z).a6, .int .u64 (W8.of z).a7]] w (fun e w' => e = .returned (.int .i64 (sideOf (x - z))) ∧ Lat w w') := by
  have := wCmp_any (W8.of x) (W8.of z) (W8.of_ok x) (W8.of_ok z) w
  rwa [W8.of_toInt h1 h2, W8.of_toInt h3 h4] at this
theorem wide_w (z : Int) (h1 : -P511 ≤ z) (h2 : z < P511) (w : World) : Calls Try.prog 18 #[.agg #[.int .u64 (0 : Nat)], .agg #[.int .u64 (W8.of z).a0, .int .u64 (W8.of z).a1, .int .u64 (W8.of z).a2, .int .u64 (W8.of z).a3, .int .u64 (W8.of z).a4, .int .u64 (W8.of z).a5, .int .u64 (W8.of z).a6, .int .u64 (W8.of z).a7]] w (WidEnd w (W8.of (widV 0 z)) (widS 0 z) (widE 0 z)) := by
  have := cWide_any 0 (by decide) (W8.of z) (W8.of_ok z) w
  rwa [W8.of_toInt h1 h2] at this
theorem lk1 : widV 0 1 = 0 ∧ widS 0 1 = 0 ∧ widE 0 1 = 0 := by decide +kernel
theorem lk16 : widV 0 16 = 15 ∧ widE 0 16 = 0 := by decide +kernel
theorem lk2 : widV 0 2 = 1 ∧ widE 0 2 = 0 := by decide +kernel
theorem lk5 : (0 ≤ widV 0 5 ∧ widV 0 5 < 5) ∧ widE 0 5 = 0 ∧ widS 0 5 ≠ 0 ∧ widS 0 5 < 18446744073709551616 := by decide +kernel
theorem lb10 : belV 0 10 = 5 ∧ belE 0 10 = 0 ∧ belS 0 10 ≠ 0 ∧ belS 0 10 < 18446744073709551616 := by decide +kernel
theorem lb1 : belV 0 1 = 0 ∧ belE 0 1 = 0 ∧ belS 0 1 ≠ 0 ∧ belS 0 1 < 18446744073709551616 := by decide +kernel
theorem lb0 : belV 0 0 = 0 ∧ belE 0 0 = 2 ∧ belS 0 0 = 0 := by decide +kernel
theorem ln3 : chMix (chStep 0) = 16294208416658607535 ∧ chMix (chStep (chStep 0)) = 7960286522194355700 ∧ chMix (chStep (chStep (chStep 0))) = 487617019471545679 := by decide +kernel

theorem pickNil (w : World) : Calls Try.prog 22 #[.agg #[.int .u64 (0 : Nat)], .slice none 0 0] w (PickEnd w 0 0 7) :=
  pick_none none 0 0 0 [] (by decide) (fun _ => 0) (fun i x h => by simp at h) w rfl (fun i => W8.of 0) (Lib.hid fun i h => absurd h (by omega))
    (sums_ok none 0 0 [] (fun x h => by simp at h) (fun _ => 0) rfl (fun i x h => by simp at h) (fun i => ⟨by decide, by decide⟩) (by decide) (fun _ => rfl) w (RowM.nil _ _ _)) (RowM.nil _ _ _)
theorem pickNeg (g : Nat) (w : World) (h : Blk w g 44 #[.int .u64 (W8.of (-1)).a0, .int .u64 (W8.of (-1)).a1, .int .u64 (W8.of (-1)).a2, .int .u64 (W8.of (-1)).a3, .int .u64 (W8.of (-1)).a4, .int .u64 (W8.of (-1)).a5, .int .u64 (W8.of (-1)).a6, .int .u64 (W8.of (-1)).a7]) : Calls Try.prog 22 #[.agg #[.int .u64 (0 : Nat)], .slice (some ⟨g, 0, none⟩) 1 1] w (PickEnd w 0 0 2) :=
  pick_neg (some ⟨g, 0, none⟩) 1 1 0 [W8.of (-1)] (by decide) (fun _ => -1) (fun i x hx w => by
    cases i with
    | zero => cases hx; exact sgn_w (-1) (by decide) (by decide) w
    | succ i => simp at hx) 0 (by decide) (Lib.hid fun i h => absurd h (by omega)) (by decide) w (rowM_blk (ws := [W8.of (-1)]) h)
def wMid : List W8 := [W8.of 0, W8.of 5, W8.of 0]
def sMid : Nat → Int
  | 0 => 0
  | 1 => 0
  | _ => 5
theorem sMid_in (i : Nat) : -P511 ≤ sMid i ∧ sMid i < P511 := by
  match i with
  | 0 => exact ⟨by decide, by decide⟩
  | 1 => exact ⟨by decide, by decide⟩
  | i + 2 => exact ⟨by show -P511 ≤ 5; decide, by show (5 : Int) < P511; decide⟩
theorem wMid_int (i : Nat) (x : W8) (h : wMid[i]? = some x) : x.ok ∧ sMid (i + 1) = sMid i + x.toInt ∧ 0 ≤ x.toInt ∧ x.toInt < P511 := by
  match i, h with
  | 0, h => cases h; exact ⟨W8.of_ok _, by decide, by decide, by decide⟩
  | 1, h => cases h; exact ⟨W8.of_ok _, by decide, by decide, by decide⟩
  | 2, h => cases h; exact ⟨W8.of_ok _, by decide, by decide, by decide⟩
theorem pickMid (g : Nat) (w : World) (h : Blk w g 44 #[.int .u64 W8.zero.a0, .int .u64 W8.zero.a1, .int .u64 W8.zero.a2, .int .u64 W8.zero.a3, .int .u64 W8.zero.a4, .int .u64 W8.zero.a5, .int .u64 W8.zero.a6, .int .u64 W8.zero.a7, .int .u64 (W8.of 5).a0, .int .u64 (W8.of 5).a1, .int .u64 (W8.of 5).a2, .int .u64 (W8.of 5).a3, .int .u64 (W8.of 5).a4, .int .u64 (W8.of 5).a5, .int .u64 (W8.of 5).a6, .int .u64 (W8.of 5).a7, .int .u64 W8.zero.a0, .int .u64 W8.zero.a1, .int .u64 W8.zero.a2, .int .u64 W8.zero.a3, .int .u64 W8.zero.a4, .int .u64 W8.zero.a5, .int .u64 W8.zero.a6, .int .u64 W8.zero.a7]) : Calls Try.prog 22 #[.agg #[.int .u64 (0 : Nat)], .slice (some ⟨g, 0, none⟩) 3 3] w (PickEnd w 1 (widS 0 5) 0) := by
  have hr : RowM w (some ⟨g, 0, none⟩) 8 3 (wRows wMid) := by
    have e : W8.of 0 = W8.zero := W8.zero_eq.symm
    have := rowM_blk (w := w) (g := g) (t := 44) (ws := [W8.zero, W8.of 5, W8.zero]) h
    unfold wMid
    rw [e]
    exact this
  obtain ⟨⟨v0, v5⟩, e5, _⟩ := lk5
  have hp : (5 : Int) < P511 := by decide
  have hp2 : -P511 ≤ 0 := by decide
  have HW := wide_w 5 (by decide) (by decide)
  rw [e5] at HW
  obtain ⟨x, hx⟩ : ∃ x, widV 0 5 = x := ⟨_, rfl⟩
  rw [hx] at v0 v5 HW
  refine pick_ok (some ⟨g, 0, none⟩) 3 3 0 wMid (by decide) (fun i => if h : i < wMid.length then sideOf (wMid[i].toInt) else 0) (fun i y hy w => ?_) w (by decide) (fun i => W8.of (sMid i)) (Lib.hid fun i hi => ?_)
    (sums_ok (some ⟨g, 0, none⟩) 3 3 wMid (fun y hy => ?_) sMid rfl (fun i y hy => (wMid_int i y hy).2.1) sMid_in (by decide) (fun h => absurd h (by decide)) w hr) 1 (by decide) (fun w => sgn_w 5 (by decide) (by decide) w) (W8.of x) (widS 0 5) HW 1 (by decide)
    (fun k => sideOf (sMid (k + 1) - x)) (fun k hk w => cmp_w (sMid (k + 1)) x (sMid_in _).1 (sMid_in _).2 (by omega) (by omega) w) (fun k hk => ?_) ?_ hr
  · obtain ⟨hlt, e⟩ := List.getElem?_eq_some_iff.1 hy
    obtain ⟨h1, _, _, _⟩ := wMid_int i y hy
    have := wSign_any y h1 w
    simp only [dif_pos hlt, e]
    exact this
  · have hlt : i < wMid.length := hi
    simp only [dif_pos hlt]
    have := (wMid_int i wMid[i] (List.getElem?_eq_getElem hlt)).2.2.1
    exact (side_nonneg this).1
  · obtain ⟨i, hi⟩ := List.getElem?_of_mem hy
    exact (wMid_int i y hi).1
  · obtain rfl : k = 0 := by omega
    show sideOf (0 - x) ≤ 0
    rw [sideOf]
    split
    · decide
    · split
      · decide
      · omega
  · show 0 < sideOf (5 - x)
    rw [sideOf, if_neg (by omega), if_neg (by omega)]
    decide
theorem coinHalf (u v : W8) (hu : u.ok) (hv : v.ok) (h1 : u.toInt = 1) (h2 : v.toInt = 2) (w : World) : Calls Try.prog 25 #[.agg #[.int .u64 (0 : Nat)], .agg #[.int .u64 u.a0, .int .u64 u.a1, .int .u64 u.a2, .int .u64 u.a3, .int .u64 u.a4, .int .u64 u.a5, .int .u64 u.a6, .int .u64 u.a7, .int .u64 v.a0, .int .u64 v.a1, .int .u64 v.a2, .int .u64 v.a3, .int .u64 v.a4, .int .u64 v.a5, .int .u64 v.a6, .int .u64 v.a7]] w (CoinEnd w false (widS 0 2) 0) := by
  have eu : u = W8.of 1 := W8.eq_of hu h1
  have ev : v = W8.of 2 := W8.eq_of hv h2
  subst eu
  subst ev
  have HW := wide_w 2 (by decide) (by decide)
  rw [lk2.1, lk2.2] at HW
  exact coin_ok 0 (W8.of 1) (W8.of 2) (fun w => shCheck_ok (W8.of 1) (W8.of 2) (W8.of_ok 1) (W8.of_ok 2) (by rw [h1, h2]; exact ⟨by decide, by decide⟩) w) 1 (by decide) (fun w => sgn_w 1 (by decide) (by decide) w)
    (-1) (by decide) (fun w => cmp_w 1 2 (by decide) (by decide) (by decide) (by decide) w) (W8.of 1) (widS 0 2) HW 0 (fun w => cmp_w 1 1 (by decide) (by decide) (by decide) (by decide) w) w
end Go.Proofs.Ytogkkhaepfablaa
